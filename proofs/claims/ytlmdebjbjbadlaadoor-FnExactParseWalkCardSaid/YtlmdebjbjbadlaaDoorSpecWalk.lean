/-
  The reference's walks (waWalk), loops (waLoop), closed walks (waRound) and greatest common divisors (waGcd), for every good walk problem.
-/
import Derived.Test.YtlmdebjbjbadlaaDoorRows
import Derived.Test.YtlmdebjbjbadlaaDoorKit
import Derived.Test.YtlmdebjbjbadlaaDoorMem
import Derived.Test.YtlmdebjbjbadlaaDoorBasic
import Derived.Test.YtlmdebjbjbadlaaDoorArgs
import Derived.Test.YtlmdebjbjbadlaaDoorLists
import Derived.Test.YtlmdebjbjbadlaaDoorGood
import Derived.Test.YtlmdebjbjbadlaaDoorArcs
import Derived.Test.YtlmdebjbjbadlaaDoorAfter
import Derived.Test.YtlmdebjbjbadlaaDoorClosed
import Derived.Test.YtlmdebjbjbadlaaDoorMay
import Derived.WalkKit
import Derived.WalkSpells
import Derived.WalkLawsBesides
import Derived.Lib.Hide
import Derived.Deep.QuietTactic
import Derived.BigQuiet
namespace Go.Proofs.YtlmdebjbjbadlaaDoor
open Go.RowKit
set_option linter.unusedVariables false

/-- The first arc from a label to itself, in the order of the arcs. -/
def LoopAt (xss : List (List Int)) (i : Int) : Prop :=
  (i = -1 ∧ ∀ a, ¬ hasArc xss a a) ∨ ∃ (k a : Nat), i = a ∧ xss[k]? = some [(a : Int), (a : Int)] ∧ ∀ j (b : Nat), j < k → xss[j]? ≠ some [(b : Int), (b : Int)]
def NoLoop (xss : List (List Int)) (k : Nat) : Prop := ∀ j (b : Nat), j < k → xss[j]? ≠ some [(b : Int), (b : Int)]
def WaLoopRel (xss : List (List Int)) (w : World) (i : Value) (wr : World) : Prop := ∃ k m : Nat, k ≤ xss.length ∧ i = .int .i64 k ∧ NoLoop xss k ∧ wr = w.drewN m
def WaGcdRel (g : Nat) (w : World) (d n : Value) (wr : World) : Prop := ∃ a b m : Nat, a ≤ 1000000000 ∧ b ≤ 1000000000 ∧ d = .int .i64 (a : Int) ∧ n = .int .i64 (b : Int) ∧ Nat.gcd a b = g ∧ wr = w.drewN m
end Go.Proofs.YtlmdebjbjbadlaaDoor
