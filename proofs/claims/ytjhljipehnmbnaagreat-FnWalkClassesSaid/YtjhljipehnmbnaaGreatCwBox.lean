/-
  Boxes of five cells: as they are laid and written. No program in sight, no condition.
-/
import Derived.Test.YtjhljipehnmbnaaGreatKit
import Derived.Test.YtjhljipehnmbnaaGreatOwn
import Derived.Test.YtjhljipehnmbnaaGreatMem
import Derived.Test.YtjhljipehnmbnaaGreatReg
namespace Go.Proofs.YtjhljipehnmbnaaGreat
open Go.RowKit
set_option linter.unusedVariables false
set_option linter.unusedSimpArgs false
theorem box5 (w : World) (a b c d e : Value) (t : TypeId) : ∃ w0, w0 = w.alloc (.cells #[a, b, c, d, e] t) ∧ Below w.heap.size w w0 ∧ Hid (w0.heap[w.heap.size]? = some (.cells #[a, b, c, d, e] t (0, 0))) ∧ w.heap.size < w0.heap.size ∧ Hid (w0.heap.size = w.heap.size + 1) :=
  ⟨_, rfl, bl_alloc (Below.refl _ _) _, Lib.hid (heap_alloc_new w _), by simp, Lib.hid (by simp)⟩
theorem cells5 {w : World} {b : Nat} {v0 v1 v2 v3 v4 : Value} {t : TypeId} (H : Hid (w.heap[b]? = some (.cells #[v0, v1, v2, v3, v4] t (0, 0)))) :
    (w.cell? ⟨b, 0, none⟩ = some v0 ∧ w.cell? ⟨b, 1, none⟩ = some v1 ∧ w.cell? ⟨b, 2, none⟩ = some v2) ∧ (w.cell? ⟨b, 3, none⟩ = some v3 ∧ w.cell? ⟨b, 4, none⟩ = some v4) ∧ ∀ i, w.frozen? ⟨b, i, none⟩ = false :=
  ⟨⟨cell_of_row _ _ 0 _ _ (0, 0) H.out, cell_of_row _ _ 1 _ _ (0, 0) H.out, cell_of_row _ _ 2 _ _ (0, 0) H.out⟩, ⟨cell_of_row _ _ 3 _ _ (0, 0) H.out, cell_of_row _ _ 4 _ _ (0, 0) H.out⟩, fun i => frozen_of_row _ _ i _ _ H.out⟩
theorem grownP (w : World) (P i : Nat) (u : Value) : w.grownBy (w.setCell ⟨P, i, none⟩ u) (some P) := ⟨rfl, rfl, rfl, by simp [World.setCell], fun j _ hj => Below.heap_setCell w _ _ _ (fun h => hj (by rw [h]))⟩
theorem grownT {a b c : World} {row : Option Nat} (h : a.grownBy b row) (k : b.grownBy c row) : a.grownBy c row := ⟨k.os.trans h.os, k.tape.trans h.tape, k.output.trans h.output, Nat.le_trans h.size k.size, fun j hj hn => (k.block j (Nat.lt_of_lt_of_le hj h.size) hn).trans (h.block j hj hn)⟩
theorem set1 {W : World} {P : Nat} {cs : Array Value} {t : TypeId} (H : W.heap[P]? = some (.cells cs t (0, 0))) (i : Nat) (a : Value) : ∃ w0, w0 = W.setCell ⟨P, i, none⟩ a ∧ w0.heap[P]? = some (.cells (cs.setIfInBounds i a) t (0, 0)) ∧ W.grownBy w0 (some P) := ⟨_, rfl, heap_set_same H a, grownP _ _ _ _⟩
theorem set5 {W : World} {P : Nat} {o0 o1 o2 o3 o4 : Value} {t : TypeId} (H : Hid (W.heap[P]? = some (.cells #[o0, o1, o2, o3, o4] t (0, 0)))) (a b c d e : Value) : ∃ w0, w0 = (((((W.setCell ⟨P, 0, none⟩ a).setCell ⟨P, 1, none⟩ b).setCell ⟨P, 2, none⟩ c).setCell ⟨P, 3, none⟩ d).setCell ⟨P, 4, none⟩ e) ∧
    Hid (w0.heap[P]? = some (.cells #[a, b, c, d, e] t (0, 0))) ∧ W.grownBy w0 (some P) := by
  obtain ⟨w1, e1, h1, g1⟩ := set1 H.out 0 a
  obtain ⟨w2, e2, h2, g2⟩ := set1 h1 1 b
  obtain ⟨w3, e3, h3, g3⟩ := set1 h2 2 c
  obtain ⟨w4, e4, h4, g4⟩ := set1 h3 3 d
  obtain ⟨w5, e5, h5, g5⟩ := set1 h4 4 e
  exact ⟨w5, by rw [e5, e4, e3, e2, e1], Lib.hid (by simpa using h5), grownT (grownT (grownT (grownT g1 g2) g3) g4) g5⟩
end Go.Proofs.YtjhljipehnmbnaaGreat
