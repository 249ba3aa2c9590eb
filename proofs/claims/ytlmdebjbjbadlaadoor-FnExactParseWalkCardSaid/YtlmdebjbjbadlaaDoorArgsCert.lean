/-
  The laws' own functions over certificates of walk problems: szWalkCertificate, toWalkCertificate, eqWalkCertificate.
-/
import Derived.Test.YtlmdebjbjbadlaaDoorRows
import Derived.Test.YtlmdebjbjbadlaaDoorKit
import Derived.Test.YtlmdebjbjbadlaaDoorMem
import Derived.Test.YtlmdebjbjbadlaaDoorArgs
import Derived.WalkKit
import Derived.WalkSpells
import Derived.WalkLawsBesides
import Derived.Lib.Hide
namespace Go.Proofs.YtlmdebjbjbadlaaDoor
open Go.RowKit
set_option linter.unusedVariables false

/-- A certificate's value, and what it counts. -/
abbrev certV (cl lb : Int) (vf vs vr : Value) : Value := .agg #[.int .i64 cl, .int .i64 lb, vf, vs, vr]
def szCert (f s : List Int) (rs : List (List Int)) : Nat := f.length + s.length + szRows rs
theorem szR_pos {left : Int} {n : Nat} (h : ¬ szR left n < 0) : (n : Int) ≤ left ∧ szR left n = left - n := by
  unfold szR at *
  split at h <;> simp_all
theorem szR_m1 {left : Int} {n : Nat} (h : szR left n < 0) : szR left n = -1 := by
  unfold szR at *
  split at h <;> split <;> omega
theorem heap_new_at {W : World} {o : Obj} {k : Nat} (h : k = W.heap.size) : (W.alloc o).heap[k]? = some o := by subst h; exact heap_alloc_new _ _
theorem heap_old_at {W : World} {o : Obj} {k : Nat} (h : k < W.heap.size) : (W.alloc o).heap[k]? = W.heap[k]? := ((Below.refl W.heap.size W).alloc (Nat.le_refl _) o).block k h
end Go.Proofs.YtlmdebjbjbadlaaDoor
