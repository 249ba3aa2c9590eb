/-
  A row of one's own whose elements are read through: what the elements read as stays while nothing but the row itself, and one block more, turns. No program in sight, no condition.
-/
import Derived.Test.YtjhljipehnmbnaaGreatCwI3
namespace Go.Proofs.YtjhljipehnmbnaaGreat
open Go.RowKit
set_option linter.unusedVariables false
set_option linter.unusedSimpArgs false
/-- Nothing but two blocks turns. -/
structure G2 (w w' : World) (a b : Option Nat) : Prop where
  os : w'.os = w.os
  tape : w'.tape = w.tape
  output : w'.output = w.output
  size : w.heap.size ≤ w'.heap.size
  block : ∀ k, k < w.heap.size → some k ≠ a → some k ≠ b → w'.heap[k]? = w.heap[k]?
section
variable {w w' w2 : World} {a b a' b' : Option Nat}
theorem G2.refl (w : World) (a b : Option Nat) : G2 w w a b := ⟨rfl, rfl, rfl, Nat.le_refl _, fun _ _ _ _ => rfl⟩
theorem G2.tr (h : G2 w w' a b) (k : G2 w' w2 a b) : G2 w w2 a b :=
  ⟨k.os.trans h.os, k.tape.trans h.tape, k.output.trans h.output, Nat.le_trans h.size k.size, fun j hj h1 h2 => (k.block j (Nat.lt_of_lt_of_le hj h.size) h1 h2).trans (h.block j hj h1 h2)⟩
theorem G2.left (h : w.grownBy w' a) : G2 w w' a b := ⟨h.os, h.tape, h.output, h.size, fun j hj h1 _ => h.block j hj h1⟩
theorem G2.right (h : w.grownBy w' b) : G2 w w' a b := ⟨h.os, h.tape, h.output, h.size, fun j hj _ h1 => h.block j hj h1⟩
theorem G2.below (h : Below w.heap.size w w') : G2 w w' a b := G2.left (gb_below h)
def newBlk (w : World) (a a' : Option Nat) : Prop := a' = a ∨ ∃ g, a' = some g ∧ w.heap.size ≤ g
theorem G2.shift (h : G2 w w' a b) (k : G2 w' w2 a' b') (ha : newBlk w a a') (hb : newBlk w b b') : G2 w w2 a b := by
  refine ⟨k.os.trans h.os, k.tape.trans h.tape, k.output.trans h.output, Nat.le_trans h.size k.size, fun j hj h1 h2 => (k.block j (Nat.lt_of_lt_of_le hj h.size) ?_ ?_).trans (h.block j hj h1 h2)⟩
  · rcases ha with rfl | ⟨g, rfl, hg⟩
    · exact h1
    · intro e; injection e; omega
  · rcases hb with rfl | ⟨g, rfl, hg⟩
    · exact h2
    · intro e; injection e; omega
end
/-- The row v of n elements; element i is read as R i tells, in this world and as long as no block but the row's, and b, turns. -/
def OwnOf (w : World) (base : Nat) (e : TypeId) (v : Value) (b : Option Nat) (n : Nat) (R : Nat → Value → World → Prop) : Prop :=
  ∃ vs, w.ownsRow base e 1 v n vs ∧ ∀ i u, vs[i]? = some u → ∀ w', G2 w w' v.ownBlock b → R i u w'
section
variable {w w' : World} {base n : Nat} {e : TypeId} {v : Value} {b : Option Nat} {R : Nat → Value → World → Prop}
theorem OwnOf.nil (w : World) (base : Nat) (e : TypeId) (b : Option Nat) (R : Nat → Value → World → Prop) : OwnOf w base e (.slice none 0 0) b 0 R :=
  ⟨[], World.ownsRow_nil _ _ _ _, fun i u h => by simp at h⟩
theorem OwnOf.up (h : OwnOf w base e v b n R) (hb : Below w.heap.size w w') : OwnOf w' base e v b n R := by
  obtain ⟨vs, h1, h2⟩ := h
  exact ⟨vs, own_keep4 h1 hb.size fun b _ hl => hb.block b hl, fun i u hu w2 hg => h2 i u hu w2 ((G2.below hb).tr hg)⟩
theorem OwnOf.sl (h : OwnOf w base e v b n R) : ∃ A c, v = .slice A n c := by
  obtain ⟨vs, h1, _⟩ := h
  exact own_sl h1
theorem OwnOf.base_ {B : Nat} (h : OwnOf w base e v b n R) (hB : B ≤ base) : OwnOf w B e v b n R := by
  obtain ⟨vs, h1, h2⟩ := h
  exact ⟨vs, base_own h1 hB, h2⟩
theorem OwnOf.imp {R' : Nat → Value → World → Prop} (h : OwnOf w base e v b n R) (hR : ∀ i u W, i < n → R i u W → R' i u W) : OwnOf w base e v b n R' := by
  obtain ⟨vs, h1, h2⟩ := h
  have hl : vs.length = n := by have := h1.1; omega
  exact ⟨vs, h1, fun i u hu w' hg => hR i u w' (by have := (List.getElem?_eq_some_iff.1 hu).1; omega) (h2 i u hu w' hg)⟩
/-- The other block turns; it stays or is a new one. -/
theorem OwnOf.other {b' : Option Nat} (h : OwnOf w base e v b n R) (hg : w.grownBy w' b) (hne : v.ownBlock = none ∨ v.ownBlock ≠ b) (hb : newBlk w b b') : OwnOf w' base e v b' n R := by
  obtain ⟨vs, h1, h2⟩ := h
  exact ⟨vs, h1.kept hg hne, fun i u hu w2 h3 => h2 i u hu w2 ((G2.right hg).shift h3 (.inl rfl) hb)⟩
/-- An element that is read: its cell, and how it reads now. -/
theorem OwnOf.at_ {i : Nat} (h : OwnOf w base e v b n R) (hi : i < n) :
    ∃ g c u, v = .slice (some ⟨g, 0, none⟩) n c ∧ base ≤ g ∧ g < w.heap.size ∧ n ≤ c ∧ c ≤ maxLen ∧ w.cell? ⟨g, i, none⟩ = some u ∧ R i u w := by
  obtain ⟨vs, h1, h2⟩ := h
  have hl : vs.length = n := by have := h1.1; omega
  obtain ⟨g, c, rfl, q1, q2, q3, q4⟩ := own_some h1 (by omega)
  obtain ⟨u, hu⟩ : ∃ u, vs[i]? = some u := ⟨vs[i], List.getElem?_eq_getElem (by omega)⟩
  have hc := h1.cells (g := g) rfl i u hu
  rw [addr0] at hc
  exact ⟨g, c, u, rfl, q3, q4, q1, q2, hc, h2 i u hu w (G2.refl _ _ _)⟩
/-- One element more, behind an append. -/
theorem OwnOf.push {v' u : Value} {vs : List Value} (hvs : ∀ i x, vs[i]? = some x → ∀ w2, G2 w w2 v.ownBlock b → R i x w2) (hl : vs.length = n)
    (hu : ∀ w2, G2 w w2 v.ownBlock b → R n u w2) (hown : w'.ownsRow base e 1 v' (n + 1) (vs ++ [u])) (hg : w.grownBy w' v.ownBlock)
    (hv : v'.ownBlock = v.ownBlock ∨ ∃ g, v'.ownBlock = some g ∧ w.heap.size ≤ g ∧ g < w'.heap.size) : OwnOf w' base e v' b (n + 1) R := by
  have hst : ∀ w2, G2 w' w2 v'.ownBlock b → G2 w w2 v.ownBlock b := fun w2 h2 => (G2.left hg).shift h2 (by
    rcases hv with hv | ⟨g, hv, h3, h4⟩
    · exact .inl hv
    · exact .inr ⟨g, hv, h3⟩) (.inl rfl)
  refine ⟨_, hown, fun i x hx w2 h2 => ?_⟩
  by_cases hi : i < vs.length
  · rw [List.getElem?_append_left hi] at hx
    exact hvs i x hx w2 (hst w2 h2)
  · rw [List.getElem?_append_right (by omega)] at hx
    have hi2 : i = n := by
      have := (List.getElem?_eq_some_iff.1 hx).1
      simp at this; omega
    subst hi2
    rw [hl, Nat.sub_self] at hx
    simp at hx
    subst hx
    exact hu w2 (hst w2 h2)
end
/-- A row of numbers that lies in neither block is read as before. -/
theorem ints_off {w w' : World} {a b : Option Nat} {v : Value} {xs : List Int} {n base : Nat} (h : w.ownsRow base 3 1 v n (xs.map intV)) (hx : ∀ x ∈ xs, I64 x) (ha : v.ownBlock = none ∨ v.ownBlock ≠ a) (hb : v.ownBlock = none ∨ v.ownBlock ≠ b) (hg : G2 w w' a b) : IntsR w' w'.heap.size v xs := by
  refine own_intsR (base := base) (n := n) ⟨h.1, ?_⟩ hx
  have hlt := h.lt
  rcases h.2 with h2 | ⟨g, cap, cur, rfl, h1, h2, h3⟩
  · exact .inl h2
  · refine .inr ⟨g, cap, cur, rfl, h1, (hg.block g (hlt g rfl).2 ?_ ?_).trans h2, h3⟩
    · rcases ha with ha | ha
      · cases ha
      · exact ha
    · rcases hb with hb | hb
      · cases hb
      · exact hb
end Go.Proofs.YtjhljipehnmbnaaGreat
