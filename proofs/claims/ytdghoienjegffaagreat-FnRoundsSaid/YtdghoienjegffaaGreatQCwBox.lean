/-
  Boxes of five cells: as they are laid and written. No program in sight, no condition.
-/
import Derived.Test.YtdghoienjegffaaGreatQZ
namespace Go.Proofs.YtdghoienjegffaaGreat
open Go.RowKit
set_option linter.all false
theorem grownP (w : World) (P i : Nat) (u : Value) : w.grownBy (w.setCell ⟨P, i, none⟩ u) (some P) := ⟨rfl, rfl, rfl, by simp [World.setCell], fun j _ hj => Below.heap_setCell w _ _ _ (fun h => hj (by rw [h]))⟩
theorem grownT {a b c : World} {row : Option Nat} (h : a.grownBy b row) (k : b.grownBy c row) : a.grownBy c row := ⟨k.os.trans h.os, k.tape.trans h.tape, k.output.trans h.output, Nat.le_trans h.size k.size, fun j hj hn => (k.block j (Nat.lt_of_lt_of_le hj h.size) hn).trans (h.block j hj hn)⟩
theorem set1 {W : World} {P : Nat} {cs : Array Value} {t : TypeId} (H : W.heap[P]? = some (.cells cs t (0, 0))) (i : Nat) (a : Value) : ∃ w0, w0 = W.setCell ⟨P, i, none⟩ a ∧ w0.heap[P]? = some (.cells (cs.setIfInBounds i a) t (0, 0)) ∧ W.grownBy w0 (some P) := ⟨_, rfl, heap_set_same H a, grownP _ _ _ _⟩
end Go.Proofs.YtdghoienjegffaaGreat
