/-
  Small lemmas on the sizes of what is valid, on rows of items, on the orders of a drawn region. No condition.
-/
import Derived.Test.YtlmdebjbjbadlaaDoorRows
import Derived.Test.YtlmdebjbjbadlaaDoorKit
import Derived.Test.YtlmdebjbjbadlaaDoorArcs
import Derived.Test.YtlmdebjbjbadlaaDoorGood
import Derived.Test.YtlmdebjbjbadlaaDoorCert
import Derived.WalkKit
import Derived.Lib.Hide
import Derived.Laws.Rows
namespace Go.Proofs.YtlmdebjbjbadlaaDoor
open Go.RowKit
set_option linter.unusedVariables false
set_option linter.unusedSimpArgs false

def codeA (xs : List Int) : Int := 12 * xs.getD 0 0 + xs.getD 1 0
theorem Good.arcs_le {n : Int} {xss : List (List Int)} (hg : Good n xss) : xss.length ≤ 144 := by
  have hs := hg.small
  have key : ∀ i, i < xss.length → ∀ xs, xss[i]? = some xs → (i : Int) ≤ codeA xs := by
    intro i
    induction i with
    | zero =>
      intro hi xs hx
      obtain ⟨x, y, rfl, _, _⟩ := small_pair (hs xs (List.mem_of_getElem? hx))
      simp [codeA]
      omega
    | succ i ih =>
      intro hi xs hx
      obtain ⟨xs', h1, h2, h3, h4⟩ := hg.2 (i + 1) hi
      rw [hx] at h1
      obtain rfl := Option.some.inj h1
      obtain ⟨ys, hy, ho⟩ := h4 (by omega)
      have hi' := ih (by omega) ys hy
      obtain ⟨x, y, rfl, _, _⟩ := small_pair (hs xs (List.mem_of_getElem? hx))
      obtain ⟨a, b, rfl, _, _⟩ := small_pair (hs ys (List.mem_of_getElem? hy))
      simp only [codeA, List.getD_cons_zero, List.getD_cons_succ] at hi' ⊢
      unfold ordL at ho
      by_cases e : (a : Int) = x
      · rw [if_pos e] at ho
        unfold ordL at ho
        by_cases e2 : (b : Int) = y
        · rw [if_pos e2] at ho; simp [ordL] at ho
        · rw [if_neg e2] at ho
          split at ho <;> omega
      · rw [if_neg e] at ho
        split at ho <;> omega
  by_cases h : xss.length ≤ 144
  · exact h
  · obtain ⟨xs, hx⟩ : ∃ xs, xss[144]? = some xs := ⟨xss[144], List.getElem?_eq_getElem (by omega)⟩
    have := key 144 (by omega) xs hx
    obtain ⟨x, y, rfl, _, _⟩ := small_pair (hs xs (List.mem_of_getElem? hx))
    simp only [codeA, List.getD_cons_zero, List.getD_cons_succ] at this
    omega
theorem lens_le {M : Nat} : ∀ (xss : List (List Int)), (∀ x ∈ xss, x.length ≤ M) → lens xss ≤ xss.length * M
  | [], _ => by simp [lens]
  | x :: r, h => by
    have h1 := h x (by simp)
    have h2 := lens_le r fun y hy => h y (by simp [hy])
    simp only [lens, List.length_cons, Nat.succ_mul]
    omega
theorem Good.sz {n : Int} {xss : List (List Int)} (hg : Good n xss) : szRows xss ≤ 432 := by
  have h1 := hg.arcs_le
  have h2 := lens_le (M := 2) xss fun x hx => by have := (hg.small x hx).1; omega
  unfold szRows
  omega
theorem take_ready2 {P : Program} {md : Region.Mode} {ops : Array Oper} {Q : Exit → Act → World → Prop} {S : World → Prop} {fuel : Nat} {listed : Array Bool} {a : Act} {w : World} (i j : Nat) {o o' : Oper}
    (hi : ops.toList[i]? = some o) (hj : ops.toList[j]? = some o') (hr : Region.ready md ops listed = [i, j])
    (h : ∀ K' : Act → World → Prop, Shut (∀ a w, S w → (S w → wpAnyH P md ops Q S fuel (listed.setIfInBounds i true) a w) → K' a w) → if Region.wanted o (yielded ops a.tmps) = true then Oper.wp P o a w K' Q else K' (a.put o.dst undef) w)
    (h' : ∀ K' : Act → World → Prop, Shut (∀ a w, S w → (S w → wpAnyH P md ops Q S fuel (listed.setIfInBounds j true) a w) → K' a w) → if Region.wanted o' (yielded ops a.tmps) = true then Oper.wp P o' a w K' Q else K' (a.put o'.dst undef) w) :
    wpAnyH P md ops Q S (fuel + 1) listed a w :=
  wpAnyH_ready hr (by simp) (AllReadyH.cons (by rw [← Array.getElem?_toList]; exact hi) h (AllReadyH.cons (by rw [← Array.getElem?_toList]; exact hj) h' AllReadyH.nil))
theorem add_lit (b o k : Nat) : (⟨b, o, none⟩ : Addr).add k = ⟨b, o + k, none⟩ := by unfold Addr.add; split <;> simp_all
end Go.Proofs.YtlmdebjbjbadlaaDoor
