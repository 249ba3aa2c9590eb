/-
  The laws' own functions over slices of numbers: szIntS, szIntSS (sizes), toIntS, toIntSS (copies), eqIntS, eqIntSS (equality of copies). For lengths that together are at most 1048576 where they copy.
-/
import Derived.Test.YtjhljipehnmbnaaGreatRows
import Derived.Test.YtjhljipehnmbnaaGreatKit
import Derived.Test.YtjhljipehnmbnaaGreatMem
import Derived.WalkKit
import Derived.WalkSpells
import Derived.WalkLawsBesides
import Derived.Lib.Hide
import Derived.Deep.LoopGhost
import Derived.Deep.QuietTactic
import Derived.BigQuiet
namespace Go.Proofs.YtjhljipehnmbnaaGreat
open Go.RowKit
set_option linter.unusedVariables false

theorem szR_le {left : Int} {n : Nat} (hl : 0 ≤ left) : szR left n ≤ left := by unfold szR; split <;> omega
theorem szR_add {left : Int} {m n : Nat} (h : (m : Int) ≤ left) : szR (left - m) n = szR left (m + n) := by unfold szR; split <;> split <;> omega
theorem szR_neg {left : Int} {m n : Nat} (h : szR left m < 0) (hl : 0 ≤ left) : szR left (m + n) = -1 := by
  unfold szR at *
  split at h
  · omega
  · rw [if_neg (by omega)]
/-- How many numbers there are; numbers and lists. -/
def lens : List (List Int) → Nat
  | [] => 0
  | xs :: r => xs.length + lens r
def szRows (xss : List (List Int)) : Nat := xss.length + lens xss
theorem lens_append : ∀ (a b : List (List Int)), lens (a ++ b) = lens a + lens b
  | [], b => by simp [lens]
  | x :: a, b => by simp [lens, lens_append a b]; omega
theorem lens_snoc (xss : List (List Int)) (k : Nat) (xs : List Int) (h : xss[k]? = some xs) : lens (xss.take (k + 1)) = lens (xss.take k) + xs.length := by
  obtain ⟨hk, rfl⟩ := List.getElem?_eq_some_iff.1 h
  rw [List.take_succ_eq_append_getElem hk, lens_append]
  rfl
theorem lens_split (xss : List (List Int)) (k : Nat) : lens xss = lens (xss.take k) + lens (xss.drop k) := by
  rw [← lens_append, List.take_append_drop]
theorem lens_all (xss : List (List Int)) (k : Nat) (h : xss.length ≤ k) : lens (xss.take k) = lens xss := by rw [List.take_of_length_le h]
def SzRel (xss : List (List Int)) (left : Int) (w : World) (l i : Value) (wr : World) : Prop :=
  w = wr ∧ ∃ (k q : Nat), k ≤ xss.length ∧ q = lens (xss.take k) ∧ i = .int .i64 k ∧ l = .int .i64 (left - xss.length - q) ∧ (q : Int) ≤ left - xss.length
/-! ### Copies -/
theorem intInfo : (Tryz.prog.info? 3).map (fun i => (i.zero, i.size, i.bytes)) = some (some (.int .i64 0), 1, 8) := by kernel_rfl
def ToRel (xs : List Int) (w : World) (i : Value) (wr : World) : Prop := ∃ k : Nat, k ≤ xs.length ∧ i = .int .i64 k ∧ wr = w.alloc (.cells (rowOf ((xs.take k).map intV) xs.length (.int .i64 0)) 3)
/-! ### Copies of lists of lists -/
theorem sliceInfo : (Tryz.prog.info? 28).map (fun i => (i.zero, i.size, i.bytes)) = some (some (.slice none 0 0), 1, 24) := by kernel_rfl
/-- What toIntSS keeps: the outer row, and the copies that lie in it. -/
def TosRel (xss : List (List Int)) (w : World) (i : Value) (wr : World) : Prop :=
  ∃ (k : Nat) (vs : List Value) (bs : List Nat), k ≤ xss.length ∧ i = .int .i64 k ∧ vs.length = k ∧ wr.heap[w.heap.size]? = some (.cells (rowOf vs xss.length (.slice none 0 0)) 28 (0, 0)) ∧
    OwnAll wr 3 vs (xss.take k) bs ∧ bs.Nodup ∧ (∀ b ∈ bs, w.heap.size < b ∧ b < wr.heap.size) ∧ Below w.heap.size w wr
/-! ### Equality of what reads alike -/
def EqRel (n : Nat) (w : World) (i : Value) (wr : World) : Prop := ∃ k m : Nat, k ≤ n ∧ i = .int .i64 k ∧ wr = w.drewN m
theorem quiet_more {P : Program} {f : FuncId} {args : Array Value} {w : World} {a n : Nat} {v : Value}
    (h : Calls P f args (w.drewN (a + n)) fun e w' => e = .returned v ∧ ∃ m, w' = (w.drewN (a + n)).drewN m) :
    Calls P f args (w.drewN (a + n)) fun e w'' => e = .returned v ∧ ∃ m, w'' = w.drewN (a + m) :=
  h.mono fun _ _ ⟨he, m, hm⟩ => ⟨he, n + m, by rw [hm, World.drewN_drewN, Nat.add_assoc]⟩
end Go.Proofs.YtjhljipehnmbnaaGreat
