/-
  A row of one's own whose elements are of three cells each and are read through. No program in sight, no condition.
-/
import Derived.Test.YtjhljipehnmbnaaGreatOwnOf
namespace Go.Proofs.YtjhljipehnmbnaaGreat
open Go.RowKit
set_option linter.unusedVariables false
set_option linter.unusedSimpArgs false
def flat3 (ts : List (Value × Value × Value)) : List Value := ts.flatMap fun t => [t.1, t.2.1, t.2.2]
theorem flat3_len (ts : List (Value × Value × Value)) : (flat3 ts).length = ts.length * 3 := by
  induction ts with
  | nil => rfl
  | cons t ts ih =>
    have : flat3 (t :: ts) = t.1 :: t.2.1 :: t.2.2 :: flat3 ts := rfl
    rw [this]
    simp only [List.length_cons, ih]
    omega
theorem flat3_snoc (ts : List (Value × Value × Value)) (t : Value × Value × Value) : flat3 (ts ++ [t]) = flat3 ts ++ [t.1, t.2.1, t.2.2] := by simp [flat3]
theorem flat3_at : ∀ {ts : List (Value × Value × Value)} {i : Nat} {t : Value × Value × Value}, ts[i]? = some t → (flat3 ts)[i * 3]? = some t.1 ∧ (flat3 ts)[i * 3 + 1]? = some t.2.1 ∧ (flat3 ts)[i * 3 + 2]? = some t.2.2
  | [], i, t, h => by simp at h
  | x :: ts, 0, t, h => by
    simp at h
    subst h
    exact ⟨rfl, rfl, rfl⟩
  | x :: ts, i + 1, t, h => by
    have ih := flat3_at (ts := ts) (i := i) (t := t) (by simpa using h)
    have e : flat3 (x :: ts) = x.1 :: x.2.1 :: x.2.2 :: flat3 ts := rfl
    rw [e, show (i + 1) * 3 = i * 3 + 1 + 1 + 1 by omega]
    exact ih
/-- The row v of n elements of three cells; element i is read as R i tells, as long as no block but the row's, and b, turns. -/
def Own3 (w : World) (base : Nat) (e : TypeId) (v : Value) (b : Option Nat) (n : Nat) (R : Nat → Value → Value → Value → World → Prop) : Prop :=
  ∃ ts, w.ownsRow base e 3 v n (flat3 ts) ∧ ∀ i t, ts[i]? = some t → ∀ w', G2 w w' v.ownBlock b → R i t.1 t.2.1 t.2.2 w'
section
variable {w w' : World} {base n : Nat} {e : TypeId} {v : Value} {b : Option Nat} {R : Nat → Value → Value → Value → World → Prop}
theorem Own3.nil (w : World) (base : Nat) (e : TypeId) (b : Option Nat) (R : Nat → Value → Value → Value → World → Prop) : Own3 w base e (.slice none 0 0) b 0 R :=
  ⟨[], ⟨rfl, .inl ⟨rfl, rfl⟩⟩, fun i u h => by simp at h⟩
theorem Own3.len {ts : List (Value × Value × Value)} (h : w.ownsRow base e 3 v n (flat3 ts)) : ts.length = n := by
  have := h.1
  rw [flat3_len] at this
  omega
theorem Own3.up (h : Own3 w base e v b n R) (hb : Below w.heap.size w w') : Own3 w' base e v b n R := by
  obtain ⟨vs, h1, h2⟩ := h
  exact ⟨vs, own_keep4 h1 hb.size fun b _ hl => hb.block b hl, fun i u hu w2 hg => h2 i u hu w2 ((G2.below hb).tr hg)⟩
theorem own3_sl {vs : List Value} (h : w.ownsRow base e 3 v n vs) : ∃ A c, v = .slice A n c := by
  rcases h.2 with ⟨rfl, h0⟩ | ⟨g, cap, cur, rfl, -⟩
  · exact ⟨none, 0, by rw [h0]⟩
  · exact ⟨_, _, rfl⟩
theorem Own3.sl (h : Own3 w base e v b n R) : ∃ A c, v = .slice A n c := by
  obtain ⟨vs, h1, _⟩ := h
  exact own3_sl h1
theorem Own3.base_ {B : Nat} (h : Own3 w base e v b n R) (hB : B ≤ base) : Own3 w B e v b n R := by
  obtain ⟨vs, h1, h2⟩ := h
  refine ⟨vs, ⟨h1.1, ?_⟩, h2⟩
  rcases h1.2 with q | ⟨g, cap, cur, e, k1, k2⟩
  · exact .inl q
  · exact .inr ⟨g, cap, cur, e, by omega, k2⟩
theorem Own3.imp {R' : Nat → Value → Value → Value → World → Prop} (h : Own3 w base e v b n R) (hR : ∀ i x y z W, i < n → R i x y z W → R' i x y z W) : Own3 w base e v b n R' := by
  obtain ⟨vs, h1, h2⟩ := h
  have hl := Own3.len h1
  exact ⟨vs, h1, fun i u hu w' hg => hR i _ _ _ w' (by have := (List.getElem?_eq_some_iff.1 hu).1; omega) (h2 i u hu w' hg)⟩
theorem Own3.other {b' : Option Nat} (h : Own3 w base e v b n R) (hg : w.grownBy w' b) (hne : v.ownBlock = none ∨ v.ownBlock ≠ b) (hb : newBlk w b b') : Own3 w' base e v b' n R := by
  obtain ⟨vs, h1, h2⟩ := h
  exact ⟨vs, h1.kept hg hne, fun i u hu w2 h3 => h2 i u hu w2 ((G2.right hg).shift h3 (.inl rfl) hb)⟩
/-- .. where the other block is of no concern any more. -/
theorem Own3.only (h : Own3 w base e v b n R) : Own3 w base e v none n R := by
  obtain ⟨vs, h1, h2⟩ := h
  exact ⟨vs, h1, fun i u hu w2 h3 => h2 i u hu w2 ⟨h3.os, h3.tape, h3.output, h3.size, fun k hk h4 _ => h3.block k hk h4 (by simp)⟩⟩
theorem Own3.at_ {i : Nat} (h : Own3 w base e v b n R) (hi : i < n) :
    ∃ g c x y z, v = .slice (some ⟨g, 0, none⟩) n c ∧ base ≤ g ∧ g < w.heap.size ∧ n ≤ c ∧ c ≤ maxLen ∧ w.cell? ⟨g, i * 3, none⟩ = some x ∧ w.cell? ⟨g, i * 3 + 1, none⟩ = some y ∧ w.cell? ⟨g, i * 3 + 2, none⟩ = some z ∧ R i x y z w := by
  obtain ⟨ts, h1, h2⟩ := h
  have hl := Own3.len h1
  obtain ⟨t, ht⟩ : ∃ t, ts[i]? = some t := ⟨ts[i], List.getElem?_eq_getElem (by omega)⟩
  obtain ⟨f1, f2, f3⟩ := flat3_at ht
  have hlt := h1.lt
  have hR := h2 i t ht w (G2.refl _ _ _)
  rcases h1.2 with ⟨_, h0⟩ | ⟨g, cap, cur, rfl, k1, k2, k3, k4, k5, k6⟩
  · omega
  · have c1 := h1.cells (g := g) rfl _ _ f1
    have c2 := h1.cells (g := g) rfl _ _ f2
    have c3 := h1.cells (g := g) rfl _ _ f3
    rw [addr0] at c1 c2 c3
    exact ⟨g, cap, _, _, _, rfl, k1, (hlt g rfl).2, k3, k4, c1, c2, c3, hR⟩
theorem Own3.push {v' x y z : Value} {ts : List (Value × Value × Value)} (hvs : ∀ i t, ts[i]? = some t → ∀ w2, G2 w w2 v.ownBlock b → R i t.1 t.2.1 t.2.2 w2) (hl : ts.length = n)
    (hu : ∀ w2, G2 w w2 v.ownBlock b → R n x y z w2) (hown : w'.ownsRow base e 3 v' (n + 1) (flat3 ts ++ [x, y, z])) (hg : w.grownBy w' v.ownBlock)
    (hv : v'.ownBlock = v.ownBlock ∨ ∃ g, v'.ownBlock = some g ∧ w.heap.size ≤ g) : Own3 w' base e v' b (n + 1) R := by
  have hst : ∀ w2, G2 w' w2 v'.ownBlock b → G2 w w2 v.ownBlock b := fun w2 h2 => (G2.left hg).shift h2 hv (.inl rfl)
  refine ⟨ts ++ [(x, y, z)], by rw [flat3_snoc]; exact hown, fun i t ht w2 h2 => ?_⟩
  by_cases hi : i < ts.length
  · rw [List.getElem?_append_left hi] at ht
    exact hvs i t ht w2 (hst w2 h2)
  · rw [List.getElem?_append_right (by omega)] at ht
    have hi2 : i = n := by
      have := (List.getElem?_eq_some_iff.1 ht).1
      simp at this; omega
    subst hi2
    rw [hl, Nat.sub_self] at ht
    simp at ht
    subst ht
    exact hu w2 (hst w2 h2)
end
end Go.Proofs.YtjhljipehnmbnaaGreat
