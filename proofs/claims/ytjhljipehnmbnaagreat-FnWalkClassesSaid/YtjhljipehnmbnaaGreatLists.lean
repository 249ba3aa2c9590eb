/-
  Small functions on lists of numbers: all within bounds (the reference's l1All), the order of lists (the reference's prOrder and l1Sign).
-/
import Derived.Test.YtjhljipehnmbnaaGreatRows
import Derived.Test.YtjhljipehnmbnaaGreatKit
import Derived.Test.YtjhljipehnmbnaaGreatMem
import Derived.Test.YtjhljipehnmbnaaGreatBasic
import Derived.WalkKit
import Derived.WalkSpells
import Derived.WalkLawsBesides
import Derived.Lib.Hide
namespace Go.Proofs.YtjhljipehnmbnaaGreat
open Go.RowKit
set_option linter.unusedVariables false

def allB (xs : List Int) (lo hi : Int) : Bool := xs.all fun x => inB x lo hi
theorem allB_t {xs : List Int} {lo hi : Int} (h : ∀ x ∈ xs, inB x lo hi = true) : allB xs lo hi = true := by unfold allB; exact List.all_eq_true.2 h
theorem allB_f {xs : List Int} {lo hi : Int} {k : Nat} {x : Int} (h : xs[k]? = some x) (hx : inB x lo hi = false) : allB xs lo hi = false := by
  unfold allB
  rw [List.all_eq_false]
  exact ⟨x, List.mem_of_getElem? h, by simp [hx]⟩
theorem allB_iff {xs : List Int} {lo hi : Int} : allB xs lo hi = true ↔ ∀ x ∈ xs, lo ≤ x ∧ x ≤ hi := by
  unfold allB inB
  simp
/-- What a loop over a list knows behind k rounds. -/
def UptoB (p : Int → Bool) (xs : List Int) (k : Nat) : Prop := ∀ j x, j < k → xs[j]? = some x → p x = true
theorem UptoB.next {p : Int → Bool} {xs : List Int} {k : Nat} {x : Int} (h : UptoB p xs k) (hx : xs[k]? = some x) (hp : p x = true) : UptoB p xs (k + 1) := by
  intro j y hj hy
  by_cases e : j = k
  · subst e; rw [hx] at hy; cases hy; exact hp
  · exact h j y (by omega) hy
theorem UptoB.all {p : Int → Bool} {xs : List Int} {k : Nat} (h : UptoB p xs k) (hk : xs.length ≤ k) : ∀ x ∈ xs, p x = true := by
  intro x hx
  obtain ⟨j, hj⟩ := List.mem_iff_getElem?.1 hx
  exact h j x (by have := (List.getElem?_eq_some_iff.1 hj).1; omega) hj

def AllRel (p : Int → Bool) (xs : List Int) (w : World) (i : Value) (wr : World) : Prop := w = wr ∧ ∃ k : Nat, k ≤ xs.length ∧ i = .int .i64 k ∧ UptoB p xs k
theorem spec_l1All (v : Value) (xs : List Int) (lo hi : Int) (w : World) (h : IntsR w w.heap.size v xs) :
    Calls Tryz.prog 79 #[v, .int .i64 lo, .int .i64 hi] w fun e w' => e = .returned (.bool (allB xs lo hi)) ∧ w = w' := by
  obtain ⟨A, c, rfl, h1, h2, h3⟩ := h.open_
  unfold maxLen at h2
  clear h
  go_enter Tryz.func79, Tryz.ntmps79
  go_wp2_with fail
  go_loopw [11, 8] (fun i x wr => AllRel (fun x => inB x lo hi) xs w i wr) (fun i _ _ => xs.length - (intOf i).toNat)
  case atStart => exact ⟨rfl, 0, Nat.zero_le _, rfl, fun _ _ h => absurd h (by omega)⟩
  case round =>
    obtain ⟨rfl, k, hk, rfl, hup⟩ := hrel
    have HU := Lib.hid hup; clear hup
    by_cases hlt : k < xs.length
    · obtain ⟨x, hx⟩ : ∃ x, xs[k]? = some x := ⟨xs[k], List.getElem?_eq_getElem hlt⟩
      obtain ⟨ad, rfl, hb, hc⟩ := h3 (by omega)
      have hcell := hc k x hx
      have HX := Lib.hid hx
      clear h3 hc hx
      cases hp : inB x lo hi with
      | true =>
        go_wp2_with (go_at_call 54; refine (spec_l1In _ _ _ _).mono ?_; rintro e w' ⟨rfl, rfl⟩)
        go_roundw
        case rel => exact ⟨rfl, k + 1, by omega, by go_num, HU.out.next HX.out hp⟩
        case measure => simp [intOf]; omega
      | false =>
        go_wp2_with (go_at_call 54; refine (spec_l1In _ _ _ _).mono ?_; rintro e w' ⟨rfl, rfl⟩)
        go_ret
        exact ⟨ret_bool (allB_f HX.out hp).symm, rfl⟩
    · go_wp2
      go_ret
      exact ⟨ret_bool (allB_t (HU.out.all (by omega))).symm, rfl⟩

/-- The order of two lists: -1, 0 or 1. -/
def ordL : List Int → List Int → Int
  | x :: xs, y :: ys => if x = y then ordL xs ys else if x < y then -1 else 1
  | [], [] => 0
  | [], _ :: _ => -1
  | _ :: _, [] => 1
theorem ordL_bd : ∀ (xs ys : List Int), -1 ≤ ordL xs ys ∧ ordL xs ys ≤ 1
  | [], [] => by simp [ordL]
  | [], _ :: _ => by simp [ordL]
  | _ :: _, [] => by simp [ordL]
  | x :: xs, y :: ys => by
    unfold ordL
    have := ordL_bd xs ys
    split
    · exact this
    · split <;> omega
/-- Equal up to k: the order is that of what is left. -/
def AlikeTo (xs ys : List Int) (k : Nat) : Prop := ordL xs ys = ordL (xs.drop k) (ys.drop k)
theorem AlikeTo.next {xs ys : List Int} {k : Nat} {x : Int} (h : AlikeTo xs ys k) (hx : xs[k]? = some x) (hy : ys[k]? = some x) : AlikeTo xs ys (k + 1) := by
  obtain ⟨h1, e1⟩ := List.getElem?_eq_some_iff.1 hx
  obtain ⟨h2, e2⟩ := List.getElem?_eq_some_iff.1 hy
  unfold AlikeTo at *
  rw [h, List.drop_eq_getElem_cons h1, List.drop_eq_getElem_cons h2, e1, e2, ordL, if_pos rfl]
theorem AlikeTo.ne {xs ys : List Int} {k : Nat} {x y : Int} (h : AlikeTo xs ys k) (hx : xs[k]? = some x) (hy : ys[k]? = some y) (hne : x ≠ y) : ordL xs ys = if x < y then -1 else 1 := by
  obtain ⟨h1, e1⟩ := List.getElem?_eq_some_iff.1 hx
  obtain ⟨h2, e2⟩ := List.getElem?_eq_some_iff.1 hy
  unfold AlikeTo at h
  rw [h, List.drop_eq_getElem_cons h1, List.drop_eq_getElem_cons h2, e1, e2, ordL, if_neg hne]
theorem AlikeTo.end_ {xs ys : List Int} {k : Nat} (h : AlikeTo xs ys k) (h1 : xs.length ≤ k) (h2 : ys.length = xs.length) : ordL xs ys = 0 := by
  unfold AlikeTo at h
  rw [h, List.drop_of_length_le h1, List.drop_of_length_le (by omega)]
  rfl
def sgn (n : Int) : Int := if n < 0 then -1 else if 0 < n then 1 else 0
theorem spec_l1Sign (n : Int) (w : World) :
    Calls Tryz.prog 106 #[.int .i64 n] w fun e w' => e = .returned (.int .i64 (sgn n)) ∧ w = w' := by
  by_cases h1 : 0 < n
  · go_enter Tryz.func106, Tryz.ntmps106
    go_wp2
    go_ret
    exact ⟨ret_int (by unfold sgn; rw [if_neg (by omega), if_pos (by omega)]), rfl⟩
  · by_cases h2 : n < 0
    · go_enter Tryz.func106, Tryz.ntmps106
      go_wp2
      go_ret
      exact ⟨ret_int (by unfold sgn; rw [if_pos (by omega)]), rfl⟩
    · go_enter Tryz.func106, Tryz.ntmps106
      go_wp2
      go_ret
      exact ⟨ret_int (by unfold sgn; rw [if_neg (by omega), if_neg (by omega)]), rfl⟩
def OrdRel (xs ys : List Int) (w : World) (i : Value) (wr : World) : Prop := w = wr ∧ ∃ k : Nat, k ≤ xs.length ∧ i = .int .i64 k ∧ AlikeTo xs ys k
theorem spec_prOrder (v v' : Value) (xs ys : List Int) (w : World) (h : IntsR w w.heap.size v xs) (h' : IntsR w w.heap.size v' ys) (hl : ys.length = xs.length)
    (hx : ∀ x ∈ xs, -1000000000 ≤ x ∧ x ≤ 1000000000) (hy : ∀ y ∈ ys, -1000000000 ≤ y ∧ y ≤ 1000000000) :
    Calls Tryz.prog 80 #[v, v'] w fun e w' => e = .returned (.int .i64 (ordL xs ys)) ∧ w = w' := by
  obtain ⟨A, c, rfl, h1, h2, h3⟩ := h.open_
  obtain ⟨A', c', rfl, h1', h2', h3'⟩ := h'.open_
  unfold maxLen at h2 h2'
  clear h h'
  have HX := Lib.hid hx; clear hx
  have HY := Lib.hid hy; clear hy
  go_enter Tryz.func80, Tryz.ntmps80
  go_wp2_with fail
  go_loopw [9, 5, 6] (fun i _ _ wr => OrdRel xs ys w i wr) (fun i _ _ _ => xs.length - (intOf i).toNat)
  case atStart => exact ⟨rfl, 0, Nat.zero_le _, rfl, rfl⟩
  case round =>
    obtain ⟨rfl, k, hk, rfl, hup⟩ := hrel
    have HU := Lib.hid hup; clear hup
    by_cases hlt : k < xs.length
    · obtain ⟨x, hx⟩ : ∃ x, xs[k]? = some x := ⟨xs[k], List.getElem?_eq_getElem hlt⟩
      obtain ⟨y, hy⟩ : ∃ y, ys[k]? = some y := ⟨ys[k], List.getElem?_eq_getElem (by omega)⟩
      obtain ⟨ad, rfl, hb, hc⟩ := h3 (by omega)
      obtain ⟨ad', rfl, hb', hc'⟩ := h3' (by omega)
      have hcell := hc k x hx
      have hcell' := hc' k y hy
      have bx := HX.out x (List.mem_of_getElem? hx)
      have by_ := HY.out y (List.mem_of_getElem? hy)
      have GX := Lib.hid hx
      have GY := Lib.hid hy
      clear h3 hc hx h3' hc' hy
      by_cases e : x = y
      · subst e
        go_wp2_with fail
        go_roundw
        case rel => exact ⟨rfl, k + 1, by omega, by go_num, HU.out.next GX.out GY.out⟩
        case measure => simp [intOf]; omega
      · have hne : (x == y) = false := by simpa using e
        have hne' : (x != y) = true := by simpa using e
        go_wp2_with (go_at_call 106; refine (spec_l1Sign _ _).mono ?_; rintro e w' ⟨rfl, rfl⟩)
        go_ret
        refine ⟨ret_int ?_, rfl⟩
        rw [HU.out.ne GX.out GY.out e]
        unfold sgn
        by_cases hlt' : x < y
        · rw [if_pos (by omega), if_pos hlt']
        · rw [if_neg (by omega), if_pos (by omega), if_neg hlt']
    · go_wp2_with fail
      go_ret
      exact ⟨ret_int (HU.out.end_ (by omega) hl).symm, rfl⟩
end Go.Proofs.YtjhljipehnmbnaaGreat
