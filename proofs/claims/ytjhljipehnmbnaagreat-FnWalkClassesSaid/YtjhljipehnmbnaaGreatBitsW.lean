/-
  Rows of truths in memory. No program in sight, no condition.
-/
import Derived.Test.YtjhljipehnmbnaaGreatKit
import Derived.Test.YtjhljipehnmbnaaGreatOwn
import Derived.Test.YtjhljipehnmbnaaGreatMem
import Derived.Test.YtjhljipehnmbnaaGreatArgs
import Derived.Test.YtjhljipehnmbnaaGreatReg
namespace Go.Proofs.YtjhljipehnmbnaaGreat
open Go.RowKit
set_option linter.unusedVariables false
set_option linter.unusedSimpArgs false
theorem boolInf : (Tryz.prog.info? 4).map (fun i => (i.zero, i.size, i.bytes)) = some (some (.bool false), 1, 1) := by kernel_rfl
/-- A row of truths in a block. -/
def BitsAt (w : World) (g : Nat) (d : List Bool) : Prop := w.heap[g]? = some (.cells (d.map Value.bool).toArray 4 (0, 0))
theorem BitsAt.cell {w : World} {g : Nat} {d : List Bool} (h : BitsAt w g d) {i : Nat} {x : Bool} (hx : d[i]? = some x) : w.cell? ⟨g, i, none⟩ = some (.bool x) := by
  rw [cell_of_row _ _ i _ _ (0, 0) h, ← Array.getElem?_toList]
  simp [hx]
theorem BitsAt.frozen {w : World} {g : Nat} {d : List Bool} (h : BitsAt w g d) (i : Nat) : w.frozen? ⟨g, i, none⟩ = false := frozen_of_row _ _ i _ _ h
theorem BitsAt.set {w : World} {g : Nat} {d : List Bool} (h : BitsAt w g d) (i : Nat) (x : Bool) : BitsAt (w.setCell ⟨g, i, none⟩ (.bool x)) g (d.set i x) := by
  unfold BitsAt
  rw [heap_set_same h]
  simp [List.map_set]
theorem BitsAt.keep {w w' : World} {g : Nat} {d : List Bool} (h : BitsAt w g d) (hk : w'.heap[g]? = w.heap[g]?) : BitsAt w' g d := hk.trans h
theorem BitsAt.lt {w : World} {g : Nat} {d : List Bool} (h : BitsAt w g d) : g < w.heap.size := (Array.getElem?_eq_some_iff.1 h).1
end Go.Proofs.YtjhljipehnmbnaaGreat
