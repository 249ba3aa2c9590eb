/-
  Small lemmas and contracts that the texts of this claim share. No condition.
-/
import Derived.Test.YtdghoienjegffaaGreatRLegIG
import Derived.Deep.Slices
import Derived.Deep.Matrix
namespace Go.Proofs.YtdghoienjegffaaGreat
open Go.RowKit
set_option linter.all false
theorem il_iff {n : Net} {r : Int} {xs : List Int} (h : sitB n r xs = true) : ilB n r xs = true ↔ legP n r xs := by unfold ilB legB;rw [h, Bool.true_and];exact propB_iff
theorem st_run {n : Net} {r most : Int} {ss ps : List Int} (h : cenB n r ss ps most = true) : sitB n r ss = true ∧ sitB n r (cenS n r ps ss (cenN n r ps ss most.toNat 0)) = true ∧ ((cenN n r ps ss most.toNat 0 : Nat) : Int) ≤ most ∧ (((cenN n r ps ss most.toNat 0 : Nat) : Int) < most → enS n r (cenS n r ps ss (cenN n r ps ss most.toNat 0)) = []) ∧ (enS n r (cenS n r ps ss (cenN n r ps ss most.toNat 0)) = [] → ilB n r (cenS n r ps ss (cenN n r ps ss most.toNat 0)) = true) ∧ (ilB n r ss = true → ilB n r (cenS n r ps ss (cenN n r ps ss most.toNat 0)) = true) := by obtain ⟨⟨ha, hs⟩, -, hm, -⟩ := cenB_all h;have h0 : sitB n r ss = true := propB_t ⟨ha, hs⟩;have h1 := cenN_le (n := n) (r := r) (ps := ps) (ss := ss) most.toNat 0;generalize cenN n r ps ss most.toNat 0 = T at *;have hT := cenS_sts (ps := ps) ha hs T;have h2 : sitB n r (cenS n r ps ss T) = true := propB_t ⟨ha, hT⟩;refine ⟨h0, h2, by omega, fun h3 => h1.2 (by omega), fun h3 => (il_iff h2).2 (calm_legal ha hT h3), fun h3 => (il_iff h2).2 (cenS_legal ha hs ((il_iff h0).1 h3) T)⟩
theorem st_move {n : Net} {r : Int} {l : List Int} (hs : sitB n r l = true) {i : Nat} {v : Int} (hv : (enS n r l)[i]? = some v) : ∃ (z : Nat) (s : Int), v = (z : Int) ∧ z < l.length ∧ mvsB n r l [v] = true ∧ l[z]? = some s ∧ nextS n r l z ≠ s ∧ (moveS n r l [v])[z]? = some (nextS n r l z) ∧ sitB n r (moveS n r l [v]) = true ∧ (ilB n r l = true → ilB n r (moveS n r l [v]) = true) := by
 have hm := List.mem_of_getElem? hv;obtain ⟨ha, hst⟩ := propB_iff.1 hs;obtain ⟨z, hz, rfl⟩ := List.mem_map.1 hm;have hzl : z < l.length := List.mem_range.1 (List.mem_filter.1 hz).1;obtain ⟨s, hsz⟩ : ∃ s, l[z]? = some s := ⟨_, List.getElem?_eq_getElem hzl⟩
 have hne : nextS n r l z ≠ s := by have := (List.mem_filter.1 hz).2;rw [getD_at hsz] at this;simpa using this
 have hst' : Sts (cnts n r) (moveS n r l [(z : Int)]) := moveS_sts ha hst _ fun x hx => by rw [List.mem_singleton.1 hx];exact ⟨by omega, by rw [Int.toNat_natCast]; exact hzl⟩
 have hsit' : sitB n r (moveS n r l [(z : Int)]) = true := propB_t ⟨ha, hst'⟩;refine ⟨z, s, rfl, hzl, ?_, hsz, hne, ?_, hsit', fun hl => (il_iff hsit').2 (move_legal ha hst ((il_iff hs).1 hl) hm)⟩
 ·
  unfold mvsB;rw [hs, Bool.true_and, Bool.and_eq_true];refine ⟨propB_t ⟨fun x hx => by rw [List.mem_singleton.1 hx]; omega, fun k y x hy hx => ?_⟩, ?_⟩
  · have h1 := (List.getElem?_eq_some_iff.1 hx).1;have h2 : [(z : Int)].length = 1 := rfl;omega
  · rw [List.all_eq_true];intro x hx;rw [List.mem_singleton.1 hx];exact hasB_t hm
 · rw [show moveS n r l [(z : Int)] = l.set z (nextS n r l z) by unfold moveS; simp, List.getElem?_set, if_pos rfl, if_pos hzl]
theorem st_leg {n : Net} {r : Int} (h : askB n r = true) : sitB n r (legL n r) = true ∧ ilB n r (legL n r) = true ∧ (enS n r (legL n r) = [] ↔ r ≠ 5) := by have ha := propB_iff.1 h;have h1 : sitB n r (legL n r) = true := propB_t ⟨ha, leg_sts ha⟩;exact ⟨h1, (il_iff h1).2 (leg_ok ha).1, (leg_ok ha).2⟩
theorem ints_cut {w : World} {B m c i : Nat} {ad : Addr} {E : List Int} {x : Int} (h : IntsR w B (.slice (some ad) m c) E) (hx : E[i]? = some x) :
    ∃ v', (∀ W, (Instr.slice 25 (.slice (some ad) m c) (some (.int .i64 (i : Int))) (some (.int .i64 ((i : Int) + 1))) none).run Tryz.prog W = .ok v' W) ∧ IntsR w B v' [x] ∧ ∃ A' m' c', v' = .slice A' m' c' := by
  obtain ⟨A', c', e, h1, h2, h3⟩ := h.open_;obtain ⟨rfl, rfl, rfl⟩ := Value.slice.inj e;have hi := (List.getElem?_eq_some_iff.1 hx).1;obtain ⟨ad', e', hb, hc⟩ := h3 (by omega);obtain rfl := Option.some.inj e';refine ⟨.slice (some (ad.add i)) 1 (c - i), fun W => ?_, ⟨⟨some (ad.add i), c - i, rfl, by show 1 ≤ c - i; omega, by omega, fun _ => ⟨ad.add i, rfl, by rw [block_add]; exact hb, fun j u hu => ?_⟩⟩, fun y hy => ?_⟩, _, _, _, rfl⟩
  · rw [Go.run_slice_lh (w := W) 25 (some ad) E.length c (by kernel_rfl) .i64 .i64 (i : Int) ((i : Int) + 1) (by omega) (by omega) (by omega)]
    rw [show ((sizeOf (Tryz.prog.elem 25)).run Tryz.prog W) = .ok 1 W by kernel_rfl];simp [Result.andThen, sliced];omega
  · have hj : j = 0 := by have := (List.getElem?_eq_some_iff.1 hu).1; simp at this; omega
    subst hj;have hu' : u = .int .i64 x := (Option.some.inj hu).symm;rw [hu', Addr.add_add];exact hc i x hx
  · rw [List.mem_singleton.1 hy]
    exact h.2 x (List.mem_of_getElem? hx)
end Go.Proofs.YtdghoienjegffaaGreat
namespace Go.Proofs.YtdghoienjegffaaGreat
open Go.RowKit
set_option linter.all false
def BigPost (n m : Nat) (w : World) (e : Ending) (w' : World) : Prop := ∃ b, e = .returned (.bool b) ∧ (b = false → n ≤ 1048576 ∧ m ≤ 1048576) ∧ w = w'
theorem laws_big (A B : Option Addr) (n c m d : Nat) (w : World) (hn : n ≤ 9223372036854775807) (hm : m ≤ 9223372036854775807) :
    Calls Tryz.prog 5 #[.slice A n c, .slice B m d] w (BigPost n m w) := by
  by_cases h : 1048576 < n
  · go_enter Tryz.func5, Tryz.ntmps5
    go_wp2_with fail;go_ret;exact ⟨_, rfl, fun h' => absurd h' (by simp), rfl⟩
  · by_cases h2 : (1048576 : Int) - n < m
    · go_enter Tryz.func5, Tryz.ntmps5
      go_wp2_with fail;go_ret;exact ⟨true, ret_bool (by simp), fun h' => (by cases h'), rfl⟩
    · go_enter Tryz.func5, Tryz.ntmps5
      go_wp2_with fail;go_ret;exact ⟨false, ret_bool (by simp; omega), fun _ => (by omega), rfl⟩
def SiRelL (n : Nat) (w : World) (i : Value) (wr : World) : Prop := ∃ k m : Nat, k ≤ n ∧ i = .int .i64 (k : Int) ∧ wr = w.drewN m
theorem laws_sameInts (v v' : Value) (xs : List Int) (w : World) (h : IntsR w w.heap.size v xs) (h' : IntsR w w.heap.size v' xs) :
    Calls Tryz.prog 9 #[v, v'] w fun e w' => e = .returned (.bool true) ∧ ∃ n, w' = w.drewN n := by
  obtain ⟨A, c, rfl, h1, h2, h3⟩ := h.open_;obtain ⟨A', c', rfl, h1', h2', h3'⟩ := h'.open_;unfold maxLen at h2;clear h h';go_enter Tryz.func9, Tryz.ntmps9;go_wp2_with fail;go_loopw [13, 5] (fun i _ wr => SiRelL xs.length w i wr) (fun i _ _ => xs.length - (intOf i).toNat)
  case atStart => exact ⟨0, 0, Nat.zero_le _, rfl, rfl⟩
  case round =>
    obtain ⟨k, m, hk, rfl, rfl⟩ := hrel;by_cases hlt : k < xs.length
    · obtain ⟨x, hx⟩ : ∃ x, xs[k]? = some x := ⟨xs[k], List.getElem?_eq_getElem hlt⟩
      obtain ⟨ad, rfl, hb, hc⟩ := h3 (by omega);obtain ⟨ad', rfl, hb', hc'⟩ := h3' (by omega);have hcell : (w.drewN m).cell? (ad.add k) = some (.int .i64 x) := hc k x hx;have hcell' : (w.drewN m).cell? (ad'.add k) = some (.int .i64 x) := hc' k x hx;have k1 := hc k x hx;have k2 := hc' k x hx;clear h3 h3' hc hc' hx;go_wp2_with fail
      go_quiet (fail)
      go_wp2_with fail;go_roundw
      case rel => exact ⟨k + 1, m + nq, by omega, by go_num, rfl⟩
      case measure => simp [intOf]; omega
    · go_wp2_with fail
      go_ret;exact ⟨rfl, m, rfl⟩
end Go.Proofs.YtdghoienjegffaaGreat
namespace Go.Proofs.YtdghoienjegffaaGreat
open Go.RowKit Go.ChangeShapes Go.WideShapes Go.Deep
set_option linter.all false
section
variable {H : Type} {enc : TypeId × Value → H} {P : Program} {w : World} {base : Nat} {spare : Nat → Bool} {held : Bool}
end
end Go.Proofs.YtdghoienjegffaaGreat
