/-
  The reference's relation of arcs (waMay), walks (waWalk), loops (waLoop), closed walks (waRound) and greatest common divisors (waGcd), for every good walk problem.
-/
import Derived.Test.YtlmdebjbjbadlaaDoorRows
import Derived.Test.YtlmdebjbjbadlaaDoorKit
import Derived.Test.YtlmdebjbjbadlaaDoorMem
import Derived.Test.YtlmdebjbjbadlaaDoorOwn
import Derived.Test.YtlmdebjbjbadlaaDoorArgs
import Derived.Test.YtlmdebjbjbadlaaDoorLists
import Derived.Test.YtlmdebjbjbadlaaDoorGood
import Derived.Test.YtlmdebjbjbadlaaDoorArcs
import Derived.Test.YtlmdebjbjbadlaaDoorAfter
import Derived.Test.YtlmdebjbjbadlaaDoorClosed
import Derived.WalkKit
import Derived.WalkSpells
import Derived.WalkLawsBesides
import Derived.Lib.Hide
import Derived.Deep.QuietTactic
import Derived.BigQuiet
namespace Go.Proofs.YtlmdebjbjbadlaaDoor
open Go.RowKit
set_option linter.unusedVariables false

/-- A matrix of bools: n rows of m each, below block B. -/
def MatB (w : World) (B : Nat) (v : Value) (n m : Nat) (f : Nat → Nat → Bool) : Prop :=
  ∃ ad c, v = .slice (some ad) n c ∧ n ≤ c ∧ ad.block < B ∧ ∀ a, a < n → ∃ ad' c', w.cell? (ad.add a) = some (.slice (some ad') m c') ∧ m ≤ c' ∧ ad'.block < B ∧ ∀ b, b < m → w.cell? (ad'.add b) = some (.bool (f a b))
theorem MatB.below {w w' : World} {B : Nat} {v : Value} {n m : Nat} {f : Nat → Nat → Bool} (h : MatB w B v n m f) (hb : Below B w w') : MatB w' B v n m f := by
  obtain ⟨ad, c, e, h1, h2, h3⟩ := h
  refine ⟨ad, c, e, h1, h2, fun a ha => ?_⟩
  obtain ⟨ad', c', g1, g2, g3, g4⟩ := h3 a ha
  exact ⟨ad', c', (hb.cell (p := ad.add a) (by rw [block_add]; exact h2)).trans g1, g2, g3, fun b hb' => (hb.cell (p := ad'.add b) (by rw [block_add]; exact g3)).trans (g4 b hb')⟩
theorem MatB.more {w : World} {B B' : Nat} {v : Value} {n m : Nat} {f : Nat → Nat → Bool} (h : MatB w B v n m f) (hB : B ≤ B') : MatB w B' v n m f := by
  obtain ⟨ad, c, e, h1, h2, h3⟩ := h
  refine ⟨ad, c, e, h1, by omega, fun a ha => ?_⟩
  obtain ⟨ad', c', g1, g2, g3, g4⟩ := h3 a ha
  exact ⟨ad', c', g1, g2, by omega, g4⟩
theorem boolInfo : (Tryd.prog.info? 4).map (fun i => (i.zero, i.size, i.bytes)) = some (some (.bool false), 1, 1) := by kernel_rfl
/-- The call's own matrix: the outer row, and row a in block gs[a]. -/
def rowV (m : Nat) (g : Nat) : Value := .slice (some ⟨g, 0, none⟩) m m
def bRow (m : Nat) (f : Nat → Bool) : Array Value := ((List.range m).map fun b => Value.bool (f b)).toArray
theorem bRow_at {m b : Nat} {f : Nat → Bool} (h : b < m) : (bRow m f)[b]? = some (.bool (f b)) := by simp [bRow, h]
theorem bRow_false (m : Nat) : bRow m (fun _ => false) = rowOf [] m (.bool false) := by
  apply Array.ext_getElem?
  intro j
  by_cases hj : j < m
  · rw [bRow_at hj]; simp [rowOf, hj]
  · rw [Array.getElem?_eq_none (by simp [bRow]; omega), Array.getElem?_eq_none (by simp [rowOf]; omega)]
noncomputable def mayF (xss : List (List Int)) (a b : Nat) : Bool := propB (hasArc xss a b)
end Go.Proofs.YtlmdebjbjbadlaaDoor
