/-
  The certificate of a walk problem as plain values. No program in sight, no condition.
-/
import Derived.Test.YtjhljipehnmbnaaGreatPlainRk
import Derived.Test.YtjhljipehnmbnaaGreatPlainLex
import Derived.Test.YtjhljipehnmbnaaGreatCwI9
namespace Go.Proofs.YtjhljipehnmbnaaGreat
set_option linter.unusedVariables false
open Classical in
/-- The length of the shortest closed walk. -/
noncomputable def shortK (xss : List (List Int)) (a : Nat) : Nat := if h : ∃ k, Short xss a k then h.choose else 0
theorem short_uniq {xss : List (List Int)} {a j k : Nat} (h : Short xss a j) (h' : Short xss a k) : j = k := by
  rcases Nat.lt_trichotomy j k with q | q | q
  · exact absurd h.2.1 (h'.2.2 j h.1 q)
  · exact q
  · exact absurd h'.2.1 (h.2.2 k h'.1 q)
theorem shortK_eq {xss : List (List Int)} {a k : Nat} (h : Short xss a k) : shortK xss a = k := by
  have hx : ∃ k, Short xss a k := ⟨k, h⟩
  unfold shortK
  rw [dif_pos hx]
  exact short_uniq hx.choose_spec h
/-- The label, the walks and the ranks of the certificate. -/
noncomputable def loopL (xss : List (List Int)) : List Nat := lsP fun a => hasArc xss a a
noncomputable def cwLb (n : Nat) (xss : List (List Int)) : Nat :=
  if classN n xss = 3 then (loopL xss).headD 0 else if classN n xss = 2 then (flexL n xss).headD 0 else if classN n xss = 1 then (roots xss n).headD 0 else 0
noncomputable def cwF (n : Nat) (xss : List (List Int)) : List Nat :=
  if classN n xss = 2 then wbL xss (cwLb n xss) (cwLb n xss) (flexN xss (cwLb n xss) 288) else if classN n xss = 1 then wbL xss (cwLb n xss) (cwLb n xss) (shortK xss (cwLb n xss)) else []
noncomputable def cwS (n : Nat) (xss : List (List Int)) : List Nat :=
  if classN n xss = 2 then wbL xss (cwLb n xss) (cwLb n xss) (flexN xss (cwLb n xss) 288 + 1) else []
noncomputable def cwR (n : Nat) (xss : List (List Int)) : List (List Int) := if classN n xss = 0 ∨ classN n xss = 1 then rksL n xss else []
theorem class_cases (n : Nat) (xss : List (List Int)) :
    (classN n xss = 3 ∧ ∃ a, a < n ∧ hasArc xss a a) ∨ (classN n xss = 2 ∧ 0 < (flexL n xss).length) ∨ (classN n xss = 1 ∧ 0 < (roots xss n).length) ∨ classN n xss = 0 := by
  unfold classN
  split
  · rename_i h; exact .inl ⟨rfl, propB_iff.1 h⟩
  · split
    · rename_i h; exact .inr (.inl ⟨rfl, h⟩)
    · split
      · rename_i h; exact .inr (.inr (.inl ⟨rfl, h⟩))
      · exact .inr (.inr (.inr rfl))
theorem loop_head {n : Nat} {xss : List (List Int)} (hg : Good n xss) {a : Nat} (ha : hasArc xss a a) (hm : ∀ b, b < a → ¬ hasArc xss b b) : (loopL xss).headD 0 = a := by
  have hn := good_n hg
  have hmem : a ∈ loopL xss := mem_lsP.2 ⟨by have := (arc_lt hg ha).1; omega, ha⟩
  have hpw : (loopL xss).Pairwise (· < ·) := lsP_pw _
  have hall : ∀ x ∈ loopL xss, hasArc xss x x := fun x hx => (mem_lsP.1 hx).2
  cases hl : loopL xss with
  | nil => rw [hl] at hmem; cases hmem
  | cons x t =>
    rw [hl] at hmem hpw hall
    rcases List.mem_cons.1 hmem with rfl | h
    · rfl
    · have h1 := (List.pairwise_cons.1 hpw).1 a h
      exact absurd (hall x (by simp)) (hm x h1)
theorem headD_at {l : List Nat} (h : 0 < l.length) : l[0]? = some (l.headD 0) := by
  cases l with
  | nil => simp at h
  | cons x t => rfl
theorem flex_lt {n : Nat} {xss : List (List Int)} (hg : Good n xss) {b : Nat} (h : b ∈ flexL n xss) : b < n := by
  obtain ⟨r, _, h2, _⟩ := (mem_lsP.1 h).2
  exact (rc_lt (fun x y => arc_lt hg) h2.1).2
theorem mem_headD {l : List Nat} (h : 0 < l.length) : l.headD 0 ∈ l := List.mem_of_getElem? (headD_at h)
end Go.Proofs.YtjhljipehnmbnaaGreat
