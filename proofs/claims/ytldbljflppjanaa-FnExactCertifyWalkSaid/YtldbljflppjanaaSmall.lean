/-
  The numbers of a good walk problem's arcs are small. No program in sight, no condition.
-/
import Derived.Test.YtldbljflppjanaaKit
import Derived.Test.YtldbljflppjanaaLists
import Derived.Test.YtldbljflppjanaaGood
namespace Go.Proofs.Ytldbljflppjanaa
set_option linter.unusedVariables false

/-- The arcs' numbers are small. -/
def SmallArcs (xss : List (List Int)) : Prop := ∀ xs ∈ xss, xs.length = 2 ∧ ∀ x ∈ xs, 0 ≤ x ∧ x ≤ 11
theorem Good.small {n : Int} {xss : List (List Int)} (h : Good n xss) : SmallArcs xss := by
  intro xs hxs
  obtain ⟨k, hk⟩ := List.mem_iff_getElem?.1 hxs
  obtain ⟨xs', e, h1, h2, _⟩ := h.2 k (List.getElem?_eq_some_iff.1 hk).1
  rw [hk] at e; cases e
  refine ⟨h1, fun x hx => ?_⟩
  have h3 := allB_iff.1 h2 x hx
  have h4 : 1 ≤ n ∧ n ≤ 12 := by have := h.1; unfold inB at this; simpa using this
  omega
theorem SmallArcs.take {xss : List (List Int)} (h : SmallArcs xss) (k : Nat) : SmallArcs (xss.take k) := fun x hx => h x (List.mem_of_mem_take hx)
end Go.Proofs.Ytldbljflppjanaa
