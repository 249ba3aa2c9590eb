/-
  The laws' own functions that write into a result's memory and read it again: markIntS, heldIntS, markIntSS, heldIntSS, markWalkProblem, heldWalkProblem; for rows that lie in blocks of their own.
-/
import Derived.Test.YtcfbkickiijjkaaGreatDoorVArgsWalk
import Derived.Test.YtcfbkickiijjkaaGreatDoorVArgsCert
namespace Go.Proofs.YtcfbkickiijjkaaGreatDoor
open Go.RowKit
set_option linter.all false
/-! ### Lists of lists -/
structure Kept (bs : List Nat) (w w' : World) : Prop where
  os : w'.os = w.os
  tape : w'.tape = w.tape
  output : w'.output = w.output
  size : w.heap.size ≤ w'.heap.size
  block : ∀ b, b < w.heap.size → b ∉ bs → w'.heap[b]? = w.heap[b]?
theorem Kept.below {bs : List Nat} {w w' : World} (h : Kept bs w w') {B : Nat} (hb : ∀ b ∈ bs, B ≤ b) (hB : B ≤ w.heap.size) : Below B w w' :=
  ⟨h.os, h.tape, h.output, h.size, fun k hk => h.block k (by omega) fun hm => by have := hb k hm; omega⟩
theorem Kept.refl (bs : List Nat) (w : World) : Kept bs w w := ⟨rfl, rfl, rfl, Nat.le_refl _, fun _ _ _ => rfl⟩
theorem Kept.step {bs : List Nat} {w a b : World} (h : Kept bs w a) (hb : Below w.heap.size a b) : Kept bs w b :=
  ⟨hb.os.trans h.os, hb.tape.trans h.tape, hb.output.trans h.output, Nat.le_trans h.size hb.size, fun k hk hn => (hb.block k hk).trans (h.block k hk hn)⟩
theorem Kept.set {bs : List Nat} {w a : World} (h : Kept bs w a) (p : Addr) (hp : p.block ∈ bs) (u : Value) : Kept bs w (a.setCell p u) :=
  ⟨h.os, h.tape, h.output, by rw [size_setCell]; exact h.size, fun k hk hn => (Below.heap_setCell _ _ _ _ (fun e => hn (by rw [e]; exact hp))).trans (h.block k hk hn)⟩
theorem Kept.trans {bs : List Nat} {a b c : World} (h : Kept bs a b) (k : Kept bs b c) : Kept bs a c :=
  ⟨k.os.trans h.os, k.tape.trans h.tape, k.output.trans h.output, Nat.le_trans h.size k.size, fun x hx hn => (k.block x (Nat.lt_of_lt_of_le hx h.size) hn).trans (h.block x hx hn)⟩
theorem Kept.lowb {b : Nat} {w a : World} (h : Kept [b] w a) (hb : b < w.heap.size) : Below b w a :=
  ⟨h.os, h.tape, h.output, h.size, fun k hk => h.block k (Nat.lt_trans hk hb) (by simp; omega)⟩
end Go.Proofs.YtcfbkickiijjkaaGreatDoor
