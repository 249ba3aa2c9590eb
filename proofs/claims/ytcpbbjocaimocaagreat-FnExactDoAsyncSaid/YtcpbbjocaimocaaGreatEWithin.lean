/-
  The program's allWithin: whether all numbers of a list lie within bounds, by slices.ContainsFunc and slices.IndexFunc over a closure; slices.Compare: the order of two lists.
-/
import Derived.Test.YtcpbbjocaimocaaGreatEZ
namespace Go.Proofs.YtcpbbjocaimocaaGreat
open Go.RowKit
set_option linter.all false
theorem closure_within (x lo hi : Int) (a b : Nat) (w : World) (ha : w.cell? ⟨a, 0, none⟩ = some (.int .i64 lo)) (hb : w.cell? ⟨b, 0, none⟩ = some (.int .i64 hi)) :
    Calls Tryz.prog 157 #[.int .i64 x, .pointer (some ⟨a, 0, none⟩), .pointer (some ⟨b, 0, none⟩)] w fun e w' => e = .returned (.bool (!inB x lo hi)) ∧ w = w' := by
  go_enter Tryz.func157, Tryz.ntmps157
  go_wp2_with (go_at_call 80; refine (impl_within _ _ _ _).mono ?_; rintro e w' ⟨rfl, rfl⟩)
  go_ret
  exact ⟨rfl, rfl⟩
def NotIdx (xs : List Int) (lo hi : Int) (w : World) (e : Ending) (w' : World) : Prop := ∃ i : Int, e = .returned (.int .i64 i) ∧ -1 ≤ i ∧ i ≤ xs.length ∧ decide (0 ≤ i) = !allB xs lo hi ∧ w = w'
theorem indexFunc_within (v : Value) (xs : List Int) (lo hi : Int) (a b : Nat) (w : World) (h : IntsR w w.heap.size v xs) (ha : w.cell? ⟨a, 0, none⟩ = some (.int .i64 lo)) (hb : w.cell? ⟨b, 0, none⟩ = some (.int .i64 hi)) :
  Calls Tryz.prog 113 #[v, .func (.func 157) #[] #[.pointer (some ⟨a, 0, none⟩), .pointer (some ⟨b, 0, none⟩)]] w (NotIdx xs lo hi w) := by
 obtain ⟨A, c, rfl, h1, h2, h3⟩ := h.open_
 unfold maxLen at h2
 clear h
 go_enter Tryz.func113, Tryz.ntmps113
 go_wp2_with fail
 go_loopw [8, 5] (fun i _ wr => AllRel (fun x => inB x lo hi) xs w i wr) (fun i _ _ => xs.length - (intOf i).toNat)
 case atStart => exact ⟨rfl, 0, Nat.zero_le _, rfl, fun _ _ h => absurd h (by omega)⟩
 case round =>
  obtain ⟨rfl, k, hk, rfl, hup⟩ := hrel
  have HU := Lib.hid hup; clear hup
  by_cases hlt : k < xs.length
  ·
   obtain ⟨x, hx⟩ : ∃ x, xs[k]? = some x := ⟨xs[k], List.getElem?_eq_getElem hlt⟩
   obtain ⟨ad, rfl, hb', hc⟩ := h3 (by omega)
   have hcell := hc k x hx
   have HX := Lib.hid hx
   clear h3 hc hx
   cases hp : inB x lo hi with
   | true =>
    go_wp2_with (go_at_call 157; refine (closure_within x lo hi a b _ ha hb).mono ?_; rintro e w' ⟨rfl, rfl⟩)
    go_roundw
    case rel => exact ⟨rfl, k + 1, by omega, by go_num, HU.out.next HX.out hp⟩
    case measure => simp [intOf]; omega
   | false =>
    go_wp2_with (go_at_call 157; refine (closure_within x lo hi a b _ ha hb).mono ?_; rintro e w' ⟨rfl, rfl⟩)
    go_ret
    exact ⟨k, rfl, by omega, by omega, by rw [allB_f HX.out hp]; simp, rfl⟩
  ·
   go_wp2
   go_ret
   exact ⟨-1, rfl, by omega, by omega, by rw [allB_t (HU.out.all (by omega))]; simp, rfl⟩
theorem containsFunc_within (v : Value) (xs : List Int) (lo hi : Int) (a b : Nat) (w : World) (h : IntsR w w.heap.size v xs) (ha : w.cell? ⟨a, 0, none⟩ = some (.int .i64 lo)) (hb : w.cell? ⟨b, 0, none⟩ = some (.int .i64 hi)) :
    Calls Tryz.prog 156 #[v, .func (.func 157) #[] #[.pointer (some ⟨a, 0, none⟩), .pointer (some ⟨b, 0, none⟩)]] w fun e w' => e = .returned (.bool (!allB xs lo hi)) ∧ w = w' := by
  have HH := Lib.hid h; clear h
  have HA := Lib.hid ha; clear ha
  have HB := Lib.hid hb; clear hb
  go_enter Tryz.func156, Tryz.ntmps156
  go_wp2_with fail
  refine (indexFunc_within v xs lo hi a b w HH.out HA.out HB.out).mono ?_
  rintro e w' ⟨i, rfl, h1, h2, h3, rfl⟩
  have H3 := Lib.hid h3; clear h3
  go_wp2_with fail
  go_ret
  exact ⟨ret_bool H3.out, rfl⟩
theorem impl_allWithin (v : Value) (xs : List Int) (lo hi : Int) (w : World) (h : IntsR w w.heap.size v xs) :
    Calls Tryz.prog 138 #[v, .int .i64 lo, .int .i64 hi] w fun e w' => e = .returned (.bool (allB xs lo hi)) ∧ Below w.heap.size w w' := by
  have hmf : ∀ (fn : Fn) (first cap : Array Value) (w : World), (Instr.makeFunc fn first cap).run Tryz.prog w = .ok (.func fn first cap) w := fun _ _ _ _ => rfl
  have HH := Lib.hid h; clear h
  go_enter Tryz.func138, Tryz.ntmps138
  go_wp2_with fail
  refine (containsFunc_within v xs lo hi w.heap.size (w.heap.size + 1) _ ((HH.out.below (bl_alloc (bl_alloc (Below.refl _ _) _) _)).more (by simp; omega)) ?_ ?_).mono ?_
  · rw [World.cell?_alloc_past _ _ _ (by simp), World.cell?_alloc_at _ _ _ _ rfl]; rfl
  · rw [World.cell?_alloc_at _ _ _ _ (by simp)]; rfl
  rintro e w' ⟨rfl, rfl⟩
  go_wp2_with fail
  go_ret
  exact ⟨ret_bool (by simp), bl_alloc (bl_alloc (Below.refl _ _) _) _⟩
end Go.Proofs.YtcpbbjocaimocaaGreat
