/-
  CompactLab and TornCompact of the program and of the reference: the next snapshot, in the other area.
-/
import Derived.Test.YtcfbkickiijjkaaGreatDoorVRecoverTop
namespace Go.Proofs.YtcfbkickiijjkaaGreatDoor
open Go.RowKit
set_option linter.all false
theorem lay3 (w : World) (a b c : Value) (t : TypeId) : ∃ w0, w0 = w.alloc (.cells #[a, b, c] t) ∧ Below w.heap.size w w0 ∧ Hid (w0.heap[w.heap.size]? = some (.cells #[a, b, c] t (0, 0))) ∧ w0.heap.size = w.heap.size + 1 :=
  ⟨_, rfl, bl_alloc (Below.refl _ _) _, Lib.hid (heap_alloc_new w _), by simp⟩
theorem lay5 (w : World) (a b c d e : Value) (t : TypeId) : ∃ w0, w0 = w.alloc (.cells #[a, b, c, d, e] t) ∧ Below w.heap.size w w0 ∧ Hid (w0.heap[w.heap.size]? = some (.cells #[a, b, c, d, e] t (0, 0))) ∧ w0.heap.size = w.heap.size + 1 :=
  ⟨_, rfl, bl_alloc (Below.refl _ _) _, Lib.hid (heap_alloc_new w _), by simp⟩
theorem fGn_bd (a b l : List UInt8) : 0 ≤ fGn a b l ∧ fGn a b l ≤ 100000 := by
  unfold fGn
  split
  · rename_i h
    exact (rv_start h).2
  · omega
abbrev diskV (d : ByteArray × ByteArray × ByteArray) : Value := disk d.1 d.2.1 d.2.2
theorem ret_disk {v v' : Value} {a b : Bool} (h : v = v') (h' : a = b) : Ending.returned (.tuple #[v, .bool a]) = .returned (.tuple #[v', .bool b]) := by rw [h, h']
end Go.Proofs.YtcfbkickiijjkaaGreatDoor
