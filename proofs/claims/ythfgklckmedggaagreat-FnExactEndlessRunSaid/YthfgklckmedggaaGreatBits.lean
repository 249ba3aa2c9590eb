/-
  Rows of truths in memory. No condition.
-/
import Derived.Test.YthfgklckmedggaaGreatReg
import Derived.Test.YthfgklckmedggaaGreatSpecA
namespace Go.Proofs.YthfgklckmedggaaGreat
open Go.RowKit
set_option linter.unusedVariables false
set_option linter.unusedSimpArgs false
theorem boolInf : (Tryz.prog.info? 4).map (fun i => (i.zero, i.size, i.bytes)) = some (some (.bool false), 1, 1) := by kernel_rfl
/-- A row of truths in a block. -/
def BitsAt (w : World) (g : Nat) (d : List Bool) : Prop := w.heap[g]? = some (.cells (d.map Value.bool).toArray 4 (0, 0))
theorem BitsAt.cell {w : World} {g : Nat} {d : List Bool} (h : BitsAt w g d) {i : Nat} {x : Bool} (hx : d[i]? = some x) : w.cell? ⟨g, i, none⟩ = some (.bool x) := by
  rw [cell_of_row _ _ i _ _ (0, 0) h, ← Array.getElem?_toList]
  simp [hx]
theorem BitsAt.frozen {w : World} {g : Nat} {d : List Bool} (h : BitsAt w g d) (i : Nat) : w.frozen? ⟨g, i, none⟩ = false := frozen_of_row _ _ i _ _ h
theorem BitsAt.set {w : World} {g : Nat} {d : List Bool} (h : BitsAt w g d) (i : Nat) (x : Bool) : BitsAt (w.setCell ⟨g, i, none⟩ (.bool x)) g (d.set i x) := by
  unfold BitsAt
  rw [heap_set_same h]
  simp [List.map_set]
theorem BitsAt.keep {w w' : World} {g : Nat} {d : List Bool} (h : BitsAt w g d) (hk : w'.heap[g]? = w.heap[g]?) : BitsAt w' g d := hk.trans h
theorem BitsAt.lt {w : World} {g : Nat} {d : List Bool} (h : BitsAt w g d) : g < w.heap.size := (Array.getElem?_eq_some_iff.1 h).1
/-- A row of truths that is read alone. -/
def BoolsR (w : World) (B : Nat) (v : Value) (d : List Bool) : Prop := SlR w B v (d.map Value.bool)
theorem BoolsR.below {w w' : World} {B : Nat} {v : Value} {d : List Bool} (h : BoolsR w B v d) (hb : Below B w w') : BoolsR w' B v d := SlR.below h hb
theorem BoolsR.more {w : World} {B B' : Nat} {v : Value} {d : List Bool} (h : BoolsR w B v d) (hB : B ≤ B') : BoolsR w B' v d := SlR.more h hB
theorem BoolsR.open_ {w : World} {B : Nat} {v : Value} {d : List Bool} (h : BoolsR w B v d) :
    ∃ A c, v = .slice A d.length c ∧ d.length ≤ c ∧ c ≤ maxLen ∧ (0 < d.length → ∃ ad, A = some ad ∧ ad.block < B ∧ ∀ j x, d[j]? = some x → w.cell? (ad.add j) = some (.bool x)) := by
  obtain ⟨A, c, e, h1, h2, h3⟩ := h
  rw [List.length_map] at e h1 h3
  refine ⟨A, c, e, h1, h2, fun hn => ?_⟩
  obtain ⟨ad, e', hb, hc⟩ := h3 hn
  exact ⟨ad, e', hb, fun j x hx => hc j _ (by rw [List.getElem?_map, hx]; rfl)⟩
theorem BitsAt.reads {w : World} {g : Nat} {d : List Bool} (h : BitsAt w g d) (hl : d.length ≤ 3000) {B : Nat} (hB : g < B) : BoolsR w B (.slice (some ⟨g, 0, none⟩) d.length d.length) d := by
  refine ⟨some ⟨g, 0, none⟩, d.length, by rw [List.length_map], by rw [List.length_map]; exact Nat.le_refl _, by unfold maxLen; omega, fun _ => ⟨_, rfl, hB, fun j u hu => ?_⟩⟩
  rw [List.getElem?_map] at hu
  obtain ⟨x, hx, rfl⟩ := Option.map_eq_some_iff.1 hu
  have := h.cell hx
  by_cases h0 : j = 0
  · subst h0; simpa [Addr.add] using this
  · simpa [Addr.add, h0] using this
theorem own_bools {w : World} {base n : Nat} {v : Value} {d : List Bool} (h : w.ownsRow base 4 1 v n (d.map Value.bool)) : BoolsR w w.heap.size v d := by
  obtain ⟨bs, h1, h2, h3⟩ := OwnRow.of_owns h
  exact h1.reads h1.lt
end Go.Proofs.YthfgklckmedggaaGreat
