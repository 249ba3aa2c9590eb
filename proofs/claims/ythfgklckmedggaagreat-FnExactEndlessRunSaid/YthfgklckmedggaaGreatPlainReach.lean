/-
  What can be reached from a number by a function that tells what comes next; a search finds just this: the plain law, with no program in sight. No condition.
-/
import Derived.Test.YthfgklckmedggaaGreatPlainPut
import Derived.Test.YthfgklckmedggaaGreatPlainNet
namespace Go.Proofs.YthfgklckmedggaaGreat
open Go
set_option linter.unusedVariables false
set_option linter.unusedSimpArgs false
inductive Reach (nx : Int → List Int) (x : Int) : Int → Prop
  | base : Reach nx x x
  | step {y z : Int} : Reach nx x y → z ∈ nx y → Reach nx x z
/-- What a search knows: S has been seen; O is still open. -/
structure BInv (nx : Int → List Int) (x : Int) (S O : Int → Prop) : Prop where
  self : S x
  reach : ∀ s, S s → Reach nx x s
  closed : ∀ s, S s → O s ∨ ∀ z ∈ nx s, S z
theorem BInv.fin {nx : Int → List Int} {x : Int} {S O : Int → Prop} (h : BInv nx x S O) (hO : ∀ s, ¬ O s) (z : Int) : S z ↔ Reach nx x z := by
  refine ⟨h.reach z, fun hr => ?_⟩
  induction hr with
  | base => exact h.self
  | step _ hz ih =>
    rcases h.closed _ ih with h1 | h1
    · exact absurd h1 (hO _)
    · exact h1 _ hz
theorem BInv.add {nx : Int → List Int} {x k s : Int} {S O : Int → Prop} (h : BInv nx x S O) (hk : S k) (hs : s ∈ nx k) : BInv nx x (fun z => z = s ∨ S z) (fun z => z = s ∨ O z) := by
  refine ⟨.inr h.self, fun z hz => ?_, fun z hz => ?_⟩
  · rcases hz with rfl | hz
    · exact .step (h.reach k hk) hs
    · exact h.reach z hz
  · rcases hz with rfl | hz
    · exact .inl (.inl rfl)
    · rcases h.closed z hz with h1 | h1
      · exact .inl (.inr h1)
      · exact .inr fun y hy => .inr (h1 y hy)
theorem BInv.close {nx : Int → List Int} {x k : Int} {S O O' : Int → Prop} (h : BInv nx x S O) (hO : ∀ z, O z → O' z ∨ z = k) (hk : ∀ z ∈ nx k, S z) : BInv nx x S O' := by
  refine ⟨h.self, h.reach, fun z hz => ?_⟩
  rcases h.closed z hz with h1 | h1
  · rcases hO z h1 with h2 | rfl
    · exact .inl h2
    · exact .inr hk
  · exact .inr h1
theorem BInv.open {nx : Int → List Int} {x : Int} {S O O' : Int → Prop} (h : BInv nx x S O) (hO : ∀ z, O z → O' z) : BInv nx x S O' :=
  ⟨h.self, h.reach, fun z hz => (h.closed z hz).imp (hO z) id⟩
theorem BInv.same {nx : Int → List Int} {x : Int} {S S' O : Int → Prop} (h : BInv nx x S O) (hS : ∀ z, S z ↔ S' z) : BInv nx x S' O :=
  ⟨(hS x).1 h.self, fun s hs => h.reach s ((hS s).2 hs), fun s hs => (h.closed s ((hS s).2 hs)).imp id fun h z hz => (hS z).1 (h z hz)⟩
theorem BInv.start (nx : Int → List Int) (x : Int) : BInv nx x (fun z => z = x) (fun z => z = x) := ⟨rfl, fun s hs => by rw [hs]; exact .base, fun s hs => .inl hs⟩
theorem reach_in {nx : Int → List Int} {x T : Int} (hx : 0 ≤ x ∧ x < T) (hn : ∀ k, 0 ≤ k → k < T → ∀ z ∈ nx k, 0 ≤ z ∧ z < T) {z : Int} (h : Reach nx x z) : 0 ≤ z ∧ z < T := by
  induction h with
  | base => exact hx
  | step _ hz ih => exact hn _ ih.1 ih.2 _ hz
/-- The numbers that can be reached, rising. -/
noncomputable def reachL (nx : Int → List Int) (x : Int) (T : Nat) : List Int := ((List.range T).filter fun k : Nat => propB (Reach nx x (k : Int))).map fun k : Nat => (k : Int)
theorem reachL_rising (nx : Int → List Int) (x : Int) (T : Nat) : Rising (reachL nx x T) := by
  unfold reachL Rising
  refine List.Pairwise.map _ (R := fun a b : Nat => a < b) (fun a b hab => by omega) ?_
  exact List.Pairwise.filter _ List.pairwise_lt_range
theorem reachL_mem {nx : Int → List Int} {x : Int} {T : Nat} {z : Int} : z ∈ reachL nx x T ↔ (0 ≤ z ∧ z < T) ∧ Reach nx x z := by
  unfold reachL
  constructor
  · intro h
    obtain ⟨k, hk, rfl⟩ := List.mem_map.1 h
    obtain ⟨h1, h2⟩ := List.mem_filter.1 hk
    have := List.mem_range.1 h1
    exact ⟨by omega, propB_iff.1 h2⟩
  · rintro ⟨h1, h2⟩
    refine List.mem_map.2 ⟨z.toNat, List.mem_filter.2 ⟨List.mem_range.2 (by omega), propB_t ?_⟩, by omega⟩
    rw [show ((z.toNat : Nat) : Int) = z by omega]
    exact h2
theorem reachL_eq {nx : Int → List Int} {x : Int} {T : Nat} {l : List Int} (hr : Rising l) (hm : ∀ z, z ∈ l ↔ (0 ≤ z ∧ z < T) ∧ Reach nx x z) : l = reachL nx x T :=
  rising_eq _ _ hr (reachL_rising nx x T) fun z => (hm z).trans reachL_mem.symm
theorem rising_len {l : List Int} {T : Nat} (hr : Rising l) (hb : ∀ z ∈ l, 0 ≤ z ∧ z < T) : l.length ≤ T := by
  suffices h : ∀ (l : List Int) (lo : Int), Rising l → (∀ z ∈ l, lo ≤ z ∧ z < T) → (l.length : Int) ≤ max 0 (T - lo) by
    have := h l 0 hr hb
    omega
  intro l
  induction l with
  | nil => intro lo _ _; simp; omega
  | cons y r ih =>
    intro lo hr hb
    obtain ⟨h1, h2⟩ := List.pairwise_cons.1 hr
    have hy := hb y (by simp)
    have := ih (y + 1) h2 fun z hz => ⟨by have := h1 z hz; omega, (hb z (by simp [hz])).2⟩
    simp only [List.length_cons]
    omega
end Go.Proofs.YthfgklckmedggaaGreat
