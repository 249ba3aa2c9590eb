/-
  The program's allWithin: whether all numbers of a list lie within bounds, by slices.ContainsFunc and slices.IndexFunc over a closure; slices.Compare: the order of two lists.
-/
import Derived.Test.YtjhljipehnmbnaaGreatRows
import Derived.Test.YtjhljipehnmbnaaGreatKit
import Derived.Test.YtjhljipehnmbnaaGreatMem
import Derived.Test.YtjhljipehnmbnaaGreatBasic
import Derived.Test.YtjhljipehnmbnaaGreatLists
import Derived.WalkKit
import Derived.WalkSpells
import Derived.WalkLawsBesides
import Derived.Lib.Hide
namespace Go.Proofs.YtjhljipehnmbnaaGreat
open Go.RowKit
set_option linter.unusedVariables false

theorem closure_within (x lo hi : Int) (a b : Nat) (w : World) (ha : w.cell? ⟨a, 0, none⟩ = some (.int .i64 lo)) (hb : w.cell? ⟨b, 0, none⟩ = some (.int .i64 hi)) :
    Calls Tryz.prog 91 #[.int .i64 x, .pointer (some ⟨a, 0, none⟩), .pointer (some ⟨b, 0, none⟩)] w fun e w' => e = .returned (.bool (!inB x lo hi)) ∧ w = w' := by
  go_enter Tryz.func91, Tryz.ntmps91
  go_wp2_with (go_at_call 40; refine (impl_within _ _ _ _).mono ?_; rintro e w' ⟨rfl, rfl⟩)
  go_ret
  exact ⟨rfl, rfl⟩
def NotIdx (xs : List Int) (lo hi : Int) (w : World) (e : Ending) (w' : World) : Prop := ∃ i : Int, e = .returned (.int .i64 i) ∧ -1 ≤ i ∧ i ≤ xs.length ∧ decide (0 ≤ i) = !allB xs lo hi ∧ w = w'
theorem indexFunc_within (v : Value) (xs : List Int) (lo hi : Int) (a b : Nat) (w : World) (h : IntsR w w.heap.size v xs) (ha : w.cell? ⟨a, 0, none⟩ = some (.int .i64 lo)) (hb : w.cell? ⟨b, 0, none⟩ = some (.int .i64 hi)) :
    Calls Tryz.prog 43 #[v, .func (.func 91) #[] #[.pointer (some ⟨a, 0, none⟩), .pointer (some ⟨b, 0, none⟩)]] w (NotIdx xs lo hi w) := by
  obtain ⟨A, c, rfl, h1, h2, h3⟩ := h.open_
  unfold maxLen at h2
  clear h
  go_enter Tryz.func43, Tryz.ntmps43
  go_wp2_with fail
  go_loopw [8, 5] (fun i _ wr => AllRel (fun x => inB x lo hi) xs w i wr) (fun i _ _ => xs.length - (intOf i).toNat)
  case atStart => exact ⟨rfl, 0, Nat.zero_le _, rfl, fun _ _ h => absurd h (by omega)⟩
  case round =>
    obtain ⟨rfl, k, hk, rfl, hup⟩ := hrel
    have HU := Lib.hid hup; clear hup
    by_cases hlt : k < xs.length
    · obtain ⟨x, hx⟩ : ∃ x, xs[k]? = some x := ⟨xs[k], List.getElem?_eq_getElem hlt⟩
      obtain ⟨ad, rfl, hb', hc⟩ := h3 (by omega)
      have hcell := hc k x hx
      have HX := Lib.hid hx
      clear h3 hc hx
      cases hp : inB x lo hi with
      | true =>
        go_wp2_with (go_at_call 91; refine (closure_within x lo hi a b _ ha hb).mono ?_; rintro e w' ⟨rfl, rfl⟩)
        go_roundw
        case rel => exact ⟨rfl, k + 1, by omega, by go_num, HU.out.next HX.out hp⟩
        case measure => simp [intOf]; omega
      | false =>
        go_wp2_with (go_at_call 91; refine (closure_within x lo hi a b _ ha hb).mono ?_; rintro e w' ⟨rfl, rfl⟩)
        go_ret
        exact ⟨k, rfl, by omega, by omega, by rw [allB_f HX.out hp]; simp, rfl⟩
    · go_wp2
      go_ret
      exact ⟨-1, rfl, by omega, by omega, by rw [allB_t (HU.out.all (by omega))]; simp, rfl⟩
theorem containsFunc_within (v : Value) (xs : List Int) (lo hi : Int) (a b : Nat) (w : World) (h : IntsR w w.heap.size v xs) (ha : w.cell? ⟨a, 0, none⟩ = some (.int .i64 lo)) (hb : w.cell? ⟨b, 0, none⟩ = some (.int .i64 hi)) :
    Calls Tryz.prog 90 #[v, .func (.func 91) #[] #[.pointer (some ⟨a, 0, none⟩), .pointer (some ⟨b, 0, none⟩)]] w fun e w' => e = .returned (.bool (!allB xs lo hi)) ∧ w = w' := by
  have HH := Lib.hid h; clear h
  have HA := Lib.hid ha; clear ha
  have HB := Lib.hid hb; clear hb
  go_enter Tryz.func90, Tryz.ntmps90
  go_wp2_with fail
  refine (indexFunc_within v xs lo hi a b w HH.out HA.out HB.out).mono ?_
  rintro e w' ⟨i, rfl, h1, h2, h3, rfl⟩
  have H3 := Lib.hid h3; clear h3
  go_wp2_with fail
  go_ret
  exact ⟨ret_bool H3.out, rfl⟩
theorem impl_allWithin (v : Value) (xs : List Int) (lo hi : Int) (w : World) (h : IntsR w w.heap.size v xs) :
    Calls Tryz.prog 73 #[v, .int .i64 lo, .int .i64 hi] w fun e w' => e = .returned (.bool (allB xs lo hi)) ∧ Below w.heap.size w w' := by
  have hmf : ∀ (fn : Fn) (first cap : Array Value) (w : World), (Instr.makeFunc fn first cap).run Tryz.prog w = .ok (.func fn first cap) w := fun _ _ _ _ => rfl
  have HH := Lib.hid h; clear h
  go_enter Tryz.func73, Tryz.ntmps73
  go_wp2_with fail
  refine (containsFunc_within v xs lo hi w.heap.size (w.heap.size + 1) _ ((HH.out.below (bl_alloc (bl_alloc (Below.refl _ _) _) _)).more (by simp; omega)) ?_ ?_).mono ?_
  · rw [World.cell?_alloc_past _ _ _ (by simp), World.cell?_alloc_at _ _ _ _ rfl]; rfl
  · rw [World.cell?_alloc_at _ _ _ _ (by simp)]; rfl
  rintro e w' ⟨rfl, rfl⟩
  go_wp2_with fail
  go_ret
  exact ⟨ret_bool (by simp), bl_alloc (bl_alloc (Below.refl _ _) _) _⟩
theorem impl_hasLabels (n : Int) (va v : Value) (xs : List Int) (w : World) (h : IntsR w w.heap.size v xs) (h1 : -1000000 ≤ n) (h2 : n ≤ 1000000) :
    Calls Tryz.prog 41 #[.agg #[.int .i64 n, va], v] w fun e w' => e = .returned (.bool (allB xs 0 (n - 1))) ∧ Below w.heap.size w w' := by
  have HH := Lib.hid h; clear h
  go_enter Tryz.func41, Tryz.ntmps41
  go_wp2_with fail
  refine (impl_allWithin v xs 0 (n - 1) _ ((HH.out.below (bl_alloc (Below.refl _ _) _)).more (by simp))).mono ?_
  rintro e w1 ⟨rfl, hb1⟩
  go_wp2_with fail
  go_ret
  exact ⟨rfl, bl_trans (bl_alloc (Below.refl _ _) _) hb1⟩
def cmpI (x y : Int) : Int := if x < y then -1 else if y < x then 1 else 0
theorem cmpI_ne {x y : Int} (h : x ≠ y) : cmpI x y ≠ 0 := by unfold cmpI; split; · omega
                                                             · split <;> omega
theorem cmp_Compare (x y : Int) (w : World) :
    Calls Tryz.prog 74 #[.int .i64 x, .int .i64 y] w fun e w' => e = .returned (.int .i64 (cmpI x y)) ∧ w = w' := by
  by_cases h1 : x < y
  · go_enter Tryz.func74, Tryz.ntmps74
    go_wp2
    go_ret
    exact ⟨ret_int (by unfold cmpI; rw [if_pos (by omega)]), rfl⟩
  · by_cases h2 : y < x
    · go_enter Tryz.func74, Tryz.ntmps74
      go_wp2
      go_ret
      exact ⟨ret_int (by unfold cmpI; rw [if_neg (by omega), if_pos (by omega)]), rfl⟩
    · go_enter Tryz.func74, Tryz.ntmps74
      go_wp2
      go_ret
      exact ⟨ret_int (by unfold cmpI; rw [if_neg (by omega), if_neg (by omega)]), rfl⟩
theorem AlikeTo.short {xs ys : List Int} {k : Nat} (h : AlikeTo xs ys k) (h1 : k < xs.length) (h2 : ys.length ≤ k) : ordL xs ys = 1 := by
  unfold AlikeTo at h
  rw [h, List.drop_of_length_le h2, List.drop_eq_getElem_cons h1]
  rfl
theorem AlikeTo.done {xs ys : List Int} {k : Nat} (h : AlikeTo xs ys k) (h1 : xs.length ≤ k) : ordL xs ys = if k < ys.length then -1 else 0 := by
  unfold AlikeTo at h
  rw [h, List.drop_of_length_le h1]
  by_cases h2 : k < ys.length
  · rw [if_pos h2, List.drop_eq_getElem_cons h2]; rfl
  · rw [if_neg h2, List.drop_of_length_le (by omega)]; rfl
theorem slices_Compare (v v' : Value) (xs ys : List Int) (w : World) (h : IntsR w w.heap.size v xs) (h' : IntsR w w.heap.size v' ys) :
    Calls Tryz.prog 42 #[v, v'] w fun e w' => e = .returned (.int .i64 (ordL xs ys)) ∧ w = w' := by
  obtain ⟨A, c, rfl, h1, h2, h3⟩ := h.open_
  obtain ⟨A', c', rfl, h1', h2', h3'⟩ := h'.open_
  unfold maxLen at h2 h2'
  clear h h'
  go_enter Tryz.func42, Tryz.ntmps42
  go_wp2_with fail
  go_loopw [11, 5, 6, 7, 8] (fun i _ _ _ _ wr => OrdRel xs ys w i wr) (fun i _ _ _ _ _ => xs.length - (intOf i).toNat)
  case atStart => exact ⟨rfl, 0, Nat.zero_le _, rfl, rfl⟩
  case round =>
    obtain ⟨rfl, k, hk, rfl, hup⟩ := hrel
    have HU := Lib.hid hup; clear hup
    by_cases hlt : k < xs.length
    · obtain ⟨x, hx⟩ : ∃ x, xs[k]? = some x := ⟨xs[k], List.getElem?_eq_getElem hlt⟩
      obtain ⟨ad, rfl, hb, hc⟩ := h3 (by omega)
      have hcell := hc k x hx
      have GX := Lib.hid hx
      clear h3 hc hx
      by_cases hlt' : k < ys.length
      · obtain ⟨y, hy⟩ : ∃ y, ys[k]? = some y := ⟨ys[k], List.getElem?_eq_getElem (by omega)⟩
        obtain ⟨ad', rfl, hb', hc'⟩ := h3' (by omega)
        have hcell' := hc' k y hy
        have GY := Lib.hid hy
        clear h3' hc' hy
        by_cases e : x = y
        · subst e
          have hz : cmpI x x = 0 := by unfold cmpI; rw [if_neg (by omega), if_neg (by omega)]
          go_wp2_with (go_at_call 74; refine (cmp_Compare _ _ _).mono ?_; rintro e w' ⟨rfl, rfl⟩; rw [hz])
          go_roundw
          case rel => exact ⟨rfl, k + 1, by omega, by go_num, HU.out.next GX.out GY.out⟩
          case measure => simp [intOf]; omega
        · have hz : (cmpI x y == 0) = false := beq_eq_false_iff_ne.2 (cmpI_ne e)
          have hz' : (cmpI x y != 0) = true := by rw [bne, hz]; rfl
          have H1 := Lib.hid (show ordL xs ys = cmpI x y by
            rw [HU.out.ne GX.out GY.out e]
            unfold cmpI
            by_cases q : x < y
            · rw [if_pos q, if_pos q]
            · rw [if_neg q, if_neg q, if_pos (by omega)])
          go_wp2_with (go_at_call 74; refine (cmp_Compare _ _ _).mono ?_; rintro e w' ⟨rfl, rfl⟩)
          go_ret
          exact ⟨ret_int H1.out.symm, rfl⟩
      · go_wp2_with fail
        go_ret
        exact ⟨ret_int (HU.out.short hlt (by omega)).symm, rfl⟩
    · by_cases hy : xs.length < ys.length
      · have H1 := Lib.hid (show ordL xs ys = -1 by rw [HU.out.done (by omega), if_pos (by omega)])
        go_wp2_with fail
        go_ret
        exact ⟨ret_int H1.out.symm, rfl⟩
      · have H1 := Lib.hid (show ordL xs ys = 0 by rw [HU.out.done (by omega), if_neg (by omega)])
        go_wp2_with fail
        go_ret
        exact ⟨ret_int H1.out.symm, rfl⟩
end Go.Proofs.YtjhljipehnmbnaaGreat
