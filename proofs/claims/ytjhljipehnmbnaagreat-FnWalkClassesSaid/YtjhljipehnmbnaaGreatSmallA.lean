/-
  The numbers of a good walk problem's arcs are small. No program in sight, no condition.
  Arcs of a walk problem as a relation, and the sets of followers as bits. Plain facts; no program in sight, no condition.
-/
import Derived.Test.YtjhljipehnmbnaaGreatKit
import Derived.Test.YtjhljipehnmbnaaGreatLists
import Derived.Test.YtjhljipehnmbnaaGreatGood
namespace Go.Proofs.YtjhljipehnmbnaaGreat
section
set_option linter.unusedVariables false

/-- The arcs' numbers are small. -/
def SmallArcs (xss : List (List Int)) : Prop := ∀ xs ∈ xss, xs.length = 2 ∧ ∀ x ∈ xs, 0 ≤ x ∧ x ≤ 11
theorem Good.small {n : Int} {xss : List (List Int)} (h : Good n xss) : SmallArcs xss := by
  intro xs hxs
  obtain ⟨k, hk⟩ := List.mem_iff_getElem?.1 hxs
  obtain ⟨xs', e, h1, h2, _⟩ := h.2 k (List.getElem?_eq_some_iff.1 hk).1
  rw [hk] at e; cases e
  refine ⟨h1, fun x hx => ?_⟩
  have h3 := allB_iff.1 h2 x hx
  have h4 : 1 ≤ n ∧ n ≤ 12 := by have := h.1; unfold inB at this; simpa using this
  omega
theorem SmallArcs.take {xss : List (List Int)} (h : SmallArcs xss) (k : Nat) : SmallArcs (xss.take k) := fun x hx => h x (List.mem_of_mem_take hx)
end
section
set_option linter.unusedVariables false

def hasArc (xss : List (List Int)) (a b : Nat) : Prop := [(a : Int), (b : Int)] ∈ xss
/-- The followers of a, as bits. -/
def mask : List (List Int) → Nat → Nat
  | [], _ => 0
  | xs :: r, a => if xs.getD 0 0 = (a : Int) then (2 ^ (xs.getD 1 0).toNat) ||| mask r a else mask r a
theorem small_pair {xs : List Int} (h : xs.length = 2 ∧ ∀ x ∈ xs, 0 ≤ x ∧ x ≤ 11) : ∃ x y : Nat, xs = [(x : Int), (y : Int)] ∧ x ≤ 11 ∧ y ≤ 11 := by
  obtain ⟨h1, h2⟩ := h
  match xs, h1 with
  | [x, y], _ =>
    have hx := h2 x (by simp)
    have hy := h2 y (by simp)
    exact ⟨x.toNat, y.toNat, by simp; omega, by omega, by omega⟩
theorem mask_lt {xss : List (List Int)} (h : SmallArcs xss) (a : Nat) : mask xss a < 4096 := by
  induction xss with
  | nil => simp [mask]
  | cons xs r ih =>
    have h1 := ih (fun x hx => h x (by simp [hx]))
    obtain ⟨x, y, rfl, hx, hy⟩ := small_pair (h xs (by simp))
    unfold mask
    split
    · have : 2 ^ (([(x : Int), (y : Int)].getD 1 0).toNat) < 2 ^ 12 := Nat.pow_lt_pow_right (by omega) (by simp; omega)
      exact Nat.or_lt_two_pow (n := 12) this h1
    · exact h1
theorem mask_bit {xss : List (List Int)} (h : SmallArcs xss) (a b : Nat) : (mask xss a).testBit b = true ↔ hasArc xss a b := by
  induction xss with
  | nil => simp [mask, hasArc]
  | cons xs r ih =>
    have ih := ih (fun x hx => h x (by simp [hx]))
    obtain ⟨x, y, rfl, hx, hy⟩ := small_pair (h xs (by simp))
    unfold hasArc at *
    unfold mask
    simp only [List.getD_cons_zero, List.getD_cons_succ, Int.toNat_natCast, List.mem_cons, List.cons.injEq, and_true]
    split
    · rename_i e
      rw [Nat.testBit_or, Nat.testBit_two_pow, Bool.or_eq_true, ih]
      have e' : x = a := by omega
      simp only [decide_eq_true_eq]
      constructor
      · rintro (h | h)
        · left; omega
        · right; exact h
      · rintro (h | h)
        · left; omega
        · right; exact h
    · rename_i e
      rw [ih]
      constructor
      · intro h; right; exact h
      · rintro (h | h)
        · omega
        · exact h
theorem mask_snoc (xs : List Int) (a : Nat) : ∀ xss : List (List Int), mask (xss ++ [xs]) a = if xs.getD 0 0 = (a : Int) then mask xss a ||| (2 ^ (xs.getD 1 0).toNat) else mask xss a
  | [] => by
    simp [mask]
  | ys :: r => by
    have ih := mask_snoc xs a r
    simp only [List.cons_append]
    unfold mask
    rw [ih]
    split <;> split <;> simp [Nat.or_assoc]
/-- 'm >> b & 1': the bit. -/
theorem bit_of (m b : Nat) : (m >>> b) &&& 1 = if m.testBit b then 1 else 0 := by
  rw [Nat.testBit]
  have : (m >>> b) &&& 1 = (m >>> b) % 2 := Nat.and_one_is_mod _
  rw [this]
  have h2 : 1 &&& (m >>> b) = (m >>> b) % 2 := by rw [Nat.and_comm]; exact this
  rw [h2]
  have := Nat.mod_two_eq_zero_or_one (m >>> b)
  rcases this with h | h <;> simp [h]
/-- The masks of all labels. -/
def maskL (n : Nat) (xss : List (List Int)) : List Int := (List.range n).map fun a => (mask xss a : Int)
theorem maskL_len (n : Nat) (xss : List (List Int)) : (maskL n xss).length = n := by simp [maskL]
theorem maskL_at {n : Nat} {xss : List (List Int)} {a : Nat} (h : a < n) : (maskL n xss)[a]? = some (mask xss a : Int) := by
  simp [maskL, h]
theorem maskL_nil (n : Nat) : maskL n [] = List.replicate n 0 := by
  rw [List.eq_replicate_iff]
  refine ⟨maskL_len _ _, fun x hx => ?_⟩
  obtain ⟨a, _, rfl⟩ := List.mem_map.1 hx
  rfl
theorem maskL_snoc {n : Nat} {xss : List (List Int)} {x y : Nat} (hx : x < n) : maskL n (xss ++ [[(x : Int), (y : Int)]]) = (maskL n xss).set x ((mask xss x ||| 2 ^ y : Nat) : Int) := by
  apply List.ext_getElem?
  intro i
  rw [List.getElem?_set]
  by_cases hi : i < n
  · rw [maskL_at hi, mask_snoc]
    simp only [List.getD_cons_zero, List.getD_cons_succ, Int.toNat_natCast]
    by_cases e : x = i
    · subst e
      rw [if_pos rfl, if_pos rfl, if_pos (by rw [maskL_len]; exact hx)]
    · rw [if_neg (by omega), if_neg e, maskL_at hi]
  · rw [List.getElem?_eq_none (by rw [maskL_len]; omega)]
    split
    · omega
    · rw [List.getElem?_eq_none (by rw [maskL_len]; omega)]
end
end Go.Proofs.YtjhljipehnmbnaaGreat
