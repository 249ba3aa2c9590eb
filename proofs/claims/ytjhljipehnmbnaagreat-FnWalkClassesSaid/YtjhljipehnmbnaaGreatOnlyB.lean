/-
  Steps that turn some blocks alone; relations of labels that are read above a block. No program in sight, no condition.
-/
import Derived.Test.YtjhljipehnmbnaaGreatOwnOf
import Derived.Test.YtjhljipehnmbnaaGreatMay
namespace Go.Proofs.YtjhljipehnmbnaaGreat
open Go.RowKit
set_option linter.unusedVariables false
set_option linter.unusedSimpArgs false
/-- Only blocks of gs turn. -/
structure Only (gs : List Nat) (w w' : World) : Prop where
  size : w.heap.size ≤ w'.heap.size
  block : ∀ b, b ∉ gs → b < w.heap.size → w'.heap[b]? = w.heap[b]?
theorem Only.refl (gs : List Nat) (w : World) : Only gs w w := ⟨Nat.le_refl _, fun _ _ _ => rfl⟩
theorem Only.tr {gs : List Nat} {w w' w2 : World} (h : Only gs w w') (k : Only gs w' w2) : Only gs w w2 := ⟨Nat.le_trans h.size k.size, fun b hb hl => (k.block b hb (Nat.lt_of_lt_of_le hl h.size)).trans (h.block b hb hl)⟩
theorem Only.below {gs : List Nat} {w w' : World} (h : Below w.heap.size w w') : Only gs w w' := ⟨h.size, fun b _ hl => h.block b hl⟩
theorem Only.set {gs : List Nat} {w w' : World} (h : Only gs w w') {g i : Nat} (hg : g ∈ gs) (v : Value) : Only gs w (w'.setCell ⟨g, i, none⟩ v) :=
  h.tr ⟨by rw [size_setCell]; exact Nat.le_refl _, fun b hb _ => Below.heap_setCell _ _ _ _ (fun e => hb (by simp at e; rw [e]; exact hg))⟩
theorem Only.cell {gs : List Nat} {w w' : World} (h : Only gs w w') {a : Addr} {v : Value} (hc : w.cell? a = some v) (hb : a.block ∉ gs) : w'.cell? a = some v :=
  (World.cell?_of_block (h.block _ hb (World.block_lt_of_cell? _ _ hc))).trans hc
theorem Only.drew {gs : List Nat} {w w' : World} (h : Only gs w w') : Only gs w w'.drew := ⟨h.size, h.block⟩
/-- A matrix of bools whose blocks lie at B or above. -/
def MatL (w : World) (B : Nat) (v : Value) (n m : Nat) (f : Nat → Nat → Bool) : Prop :=
  ∃ g c, v = .slice (some ⟨g, 0, none⟩) n c ∧ n ≤ c ∧ B ≤ g ∧ g < w.heap.size ∧ ∀ a, a < n → ∃ g' c', w.cell? ⟨g, a, none⟩ = some (.slice (some ⟨g', 0, none⟩) m c') ∧ m ≤ c' ∧ B ≤ g' ∧ g' < w.heap.size ∧ ∀ b, b < m → w.cell? ⟨g', b, none⟩ = some (.bool (f a b))
theorem OwnMat.readsL {w : World} {base B : Nat} {v : Value} {m : Nat} {gs : List Nat} {f : Nat → Nat → Bool} (h : OwnMat w base v m gs f) (hn : 0 < gs.length) (hB : B ≤ base) : MatL w B v gs.length m f := by
  obtain ⟨g, cap, rfl, h1, h2, h3, h4⟩ := own_some h.row hn
  refine ⟨g, cap, rfl, h1, by omega, h4, fun a ha => ?_⟩
  have hga : gs[a]? = some gs[a] := List.getElem?_eq_getElem ha
  have hc := h.row.cells (g := g) rfl a _ (by rw [List.getElem?_map, hga]; rfl)
  rw [addr0] at hc
  refine ⟨gs[a], m, hc, Nat.le_refl _, by have := h.ge _ (List.getElem_mem ha); omega, h.lt (List.getElem_mem ha), fun b hb => ?_⟩
  rw [cell_of_row w _ b _ _ (0, 0) (h.blk a _ hga), bRow_at hb]
theorem MatL.only {w w' : World} {B : Nat} {v : Value} {n m : Nat} {f : Nat → Nat → Bool} {gs : List Nat} (h : MatL w B v n m f) (ho : Only gs w w') (hg : ∀ g ∈ gs, g < B) : MatL w' B v n m f := by
  obtain ⟨g, c, e, h1, h2, h3, h4⟩ := h
  refine ⟨g, c, e, h1, h2, by have := ho.size; omega, fun a ha => ?_⟩
  obtain ⟨g', c', k1, k2, k3, k4, k5⟩ := h4 a ha
  exact ⟨g', c', ho.cell k1 (fun hm => by have := hg _ hm; simp only at this; omega), k2, k3, by have := ho.size; omega, fun b hb => ho.cell (k5 b hb) (fun hm => by have := hg _ hm; simp only at this; omega)⟩
theorem MatL.toB {w : World} {B : Nat} {v : Value} {n m : Nat} {f : Nat → Nat → Bool} (h : MatL w B v n m f) : MatB w w.heap.size v n m f := by
  obtain ⟨g, c, rfl, h1, h2, h3, h4⟩ := h
  refine ⟨⟨g, 0, none⟩, c, rfl, h1, h3, fun a ha => ?_⟩
  obtain ⟨g', c', k1, k2, k3, k4, k5⟩ := h4 a ha
  exact ⟨⟨g', 0, none⟩, c', by rw [addr0]; exact k1, k2, k4, fun b hb => by rw [addr0]; exact k5 b hb⟩
theorem MatL.low {w : World} {B B' : Nat} {v : Value} {n m : Nat} {f : Nat → Nat → Bool} (h : MatL w B v n m f) (hB : B' ≤ B) : MatL w B' v n m f := by
  obtain ⟨g, c, e, h1, h2, h3, h4⟩ := h
  refine ⟨g, c, e, h1, by omega, h3, fun a ha => ?_⟩
  obtain ⟨g', c', k1, k2, k3, k4, k5⟩ := h4 a ha
  exact ⟨g', c', k1, k2, by omega, k4, k5⟩
end Go.Proofs.YtjhljipehnmbnaaGreat
