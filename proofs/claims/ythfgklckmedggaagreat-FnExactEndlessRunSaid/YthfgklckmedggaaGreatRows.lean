/-
  No cell of these rows narrows 'for every input' (looked for: loops, veiled, ifaces, maps, wideKeys, modest, calm, conditions, laid).
  DERIVED. THE GIVEN ROWS OF THIS SEAT. 6 by the template 'for every input the law returns true; each argument reads behind the call as it read before'; 0 by the template 'total and deterministic' (their statements: YthfgklckmedggaaGreatTotals.lean).
  GIVEN WITH THE SEED: the statements are not yours to turn. If you find one false, say at which input.
  Laid BY PROGRAM, IN A SANDBOX (cutbox-rows.mjs): the forced cells as the released guide's own fill.sh prints them over the translation a06c576a0315af1f… (all of the seat's roots in one cut). By AI agents, Wed Nov 11 2026. No macro, syntax, notation, axiom, sorry.
-/
import Derived.Test.YthfgklckmedggaaGreatChecked
import GoSem.Claim
import GoSem.ClaimJoined
import GoSem.ClaimMapViews
import Derived.JoinedTies
import Derived.KernelRfl
namespace Go.Proofs.YthfgklckmedggaaGreat
/- THE CELL 'sum', in the pinned program and in every row, IS THE sha256 OF THE DUMP (.gsa) THAT YthfgklckmedggaaGreatProg.lean LOADS. Nothing in Lean hashes anything: it is a label: what it is worth is what the hold of that sum in a sandbox is worth. -/
noncomputable def Tryz.pinned : Pinned := { name := "ythfgklckmedggaagreat", sum := "a06c576a0315af1f72f68e24439a6a53ddeb7a8408df8fbbb6626065d3c8a27e", checked := Tryz.checked }
namespace Rows
def none {H : Type} : Left H := { results := [], args := [] }

/-- 'laws.FnExactIsClosed': WHATEVER THE INPUT: true; the input reads as it did. -/
def fnExactIsClosedSpec : ChangeSpec := { name := "fnExactIsClosed", fn := fun _ => fun
  | [d1, d2, d3] => { results := [.lit (.bool true)], args := [d1, d2, d3] }
  | _ => none }
def fnExactIsClosedRow : OpenClaim := { program := "ythfgklckmedggaagreat", sum := "a06c576a0315af1f72f68e24439a6a53ddeb7a8408df8fbbb6626065d3c8a27e", func := "loop.example/g01084/laws.FnExactIsClosed", spec := "fnExactIsClosed", unfollowed := true, recurses := true, apart := false }
def FnExactIsClosedSaid : Prop := fnExactIsClosedRow.holds Tryz.pinned (OpenSpec.ofChange fnExactIsClosedSpec)

/-- ITS FALSE NEIGHBOUR: 'it returns false'. Refute it at one input. -/
def fnExactIsClosedWrong : ChangeSpec := { name := "fnExactIsClosed", fn := fun _ => fun
  | [d1, d2, d3] => { results := [.lit (.bool false)], args := [d1, d2, d3] }
  | _ => none }
def FnExactIsClosedWrongFalsely : Prop := fnExactIsClosedRow.holds Tryz.pinned (OpenSpec.ofChange fnExactIsClosedWrong)

/-- 'laws.FnExactIsEndlessRun': WHATEVER THE INPUT: true; the input reads as it did. -/
def fnExactIsEndlessRunSpec : ChangeSpec := { name := "fnExactIsEndlessRun", fn := fun _ => fun
  | [d1, d2, d3, d4] => { results := [.lit (.bool true)], args := [d1, d2, d3, d4] }
  | _ => none }
def fnExactIsEndlessRunRow : OpenClaim := { program := "ythfgklckmedggaagreat", sum := "a06c576a0315af1f72f68e24439a6a53ddeb7a8408df8fbbb6626065d3c8a27e", func := "loop.example/g01084/laws.FnExactIsEndlessRun", spec := "fnExactIsEndlessRun", unfollowed := true, recurses := true, apart := false }
def FnExactIsEndlessRunSaid : Prop := fnExactIsEndlessRunRow.holds Tryz.pinned (OpenSpec.ofChange fnExactIsEndlessRunSpec)

/-- ITS FALSE NEIGHBOUR: 'it returns false'. Refute it at one input. -/
def fnExactIsEndlessRunWrong : ChangeSpec := { name := "fnExactIsEndlessRun", fn := fun _ => fun
  | [d1, d2, d3, d4] => { results := [.lit (.bool false)], args := [d1, d2, d3, d4] }
  | _ => none }
def FnExactIsEndlessRunWrongFalsely : Prop := fnExactIsEndlessRunRow.holds Tryz.pinned (OpenSpec.ofChange fnExactIsEndlessRunWrong)

/-- 'laws.FnExactCheckRanking': WHATEVER THE INPUT: true; the input reads as it did. -/
def fnExactCheckRankingSpec : ChangeSpec := { name := "fnExactCheckRanking", fn := fun _ => fun
  | [d1, d2, d3, d4] => { results := [.lit (.bool true)], args := [d1, d2, d3, d4] }
  | _ => none }
def fnExactCheckRankingRow : OpenClaim := { program := "ythfgklckmedggaagreat", sum := "a06c576a0315af1f72f68e24439a6a53ddeb7a8408df8fbbb6626065d3c8a27e", func := "loop.example/g01084/laws.FnExactCheckRanking", spec := "fnExactCheckRanking", unfollowed := true, recurses := true, apart := false }
def FnExactCheckRankingSaid : Prop := fnExactCheckRankingRow.holds Tryz.pinned (OpenSpec.ofChange fnExactCheckRankingSpec)

/-- ITS FALSE NEIGHBOUR: 'it returns false'. Refute it at one input. -/
def fnExactCheckRankingWrong : ChangeSpec := { name := "fnExactCheckRanking", fn := fun _ => fun
  | [d1, d2, d3, d4] => { results := [.lit (.bool false)], args := [d1, d2, d3, d4] }
  | _ => none }
def FnExactCheckRankingWrongFalsely : Prop := fnExactCheckRankingRow.holds Tryz.pinned (OpenSpec.ofChange fnExactCheckRankingWrong)

/-- 'laws.FnExactLongestRun': WHATEVER THE INPUT: true; the input reads as it did. -/
def fnExactLongestRunSpec : ChangeSpec := { name := "fnExactLongestRun", fn := fun _ => fun
  | [d1, d2, d3] => { results := [.lit (.bool true)], args := [d1, d2, d3] }
  | _ => none }
def fnExactLongestRunRow : OpenClaim := { program := "ythfgklckmedggaagreat", sum := "a06c576a0315af1f72f68e24439a6a53ddeb7a8408df8fbbb6626065d3c8a27e", func := "loop.example/g01084/laws.FnExactLongestRun", spec := "fnExactLongestRun", unfollowed := true, recurses := true, apart := false }
def FnExactLongestRunSaid : Prop := fnExactLongestRunRow.holds Tryz.pinned (OpenSpec.ofChange fnExactLongestRunSpec)

/-- ITS FALSE NEIGHBOUR: 'it returns false'. Refute it at one input. -/
def fnExactLongestRunWrong : ChangeSpec := { name := "fnExactLongestRun", fn := fun _ => fun
  | [d1, d2, d3] => { results := [.lit (.bool false)], args := [d1, d2, d3] }
  | _ => none }
def FnExactLongestRunWrongFalsely : Prop := fnExactLongestRunRow.holds Tryz.pinned (OpenSpec.ofChange fnExactLongestRunWrong)

/-- 'laws.FnExactRankingOf': WHATEVER THE INPUT: true; the input reads as it did. -/
def fnExactRankingOfSpec : ChangeSpec := { name := "fnExactRankingOf", fn := fun _ => fun
  | [d1, d2, d3] => { results := [.lit (.bool true)], args := [d1, d2, d3] }
  | _ => none }
def fnExactRankingOfRow : OpenClaim := { program := "ythfgklckmedggaagreat", sum := "a06c576a0315af1f72f68e24439a6a53ddeb7a8408df8fbbb6626065d3c8a27e", func := "loop.example/g01084/laws.FnExactRankingOf", spec := "fnExactRankingOf", unfollowed := true, recurses := true, apart := false }
def FnExactRankingOfSaid : Prop := fnExactRankingOfRow.holds Tryz.pinned (OpenSpec.ofChange fnExactRankingOfSpec)

/-- ITS FALSE NEIGHBOUR: 'it returns false'. Refute it at one input. -/
def fnExactRankingOfWrong : ChangeSpec := { name := "fnExactRankingOf", fn := fun _ => fun
  | [d1, d2, d3] => { results := [.lit (.bool false)], args := [d1, d2, d3] }
  | _ => none }
def FnExactRankingOfWrongFalsely : Prop := fnExactRankingOfRow.holds Tryz.pinned (OpenSpec.ofChange fnExactRankingOfWrong)

/-- 'laws.FnExactEndlessRun': WHATEVER THE INPUT: true; the input reads as it did. -/
def fnExactEndlessRunSpec : ChangeSpec := { name := "fnExactEndlessRun", fn := fun _ => fun
  | [d1, d2, d3] => { results := [.lit (.bool true)], args := [d1, d2, d3] }
  | _ => none }
def fnExactEndlessRunRow : OpenClaim := { program := "ythfgklckmedggaagreat", sum := "a06c576a0315af1f72f68e24439a6a53ddeb7a8408df8fbbb6626065d3c8a27e", func := "loop.example/g01084/laws.FnExactEndlessRun", spec := "fnExactEndlessRun", unfollowed := true, recurses := true, apart := false }
def FnExactEndlessRunSaid : Prop := fnExactEndlessRunRow.holds Tryz.pinned (OpenSpec.ofChange fnExactEndlessRunSpec)

/-- ITS FALSE NEIGHBOUR: 'it returns false'. Refute it at one input. -/
def fnExactEndlessRunWrong : ChangeSpec := { name := "fnExactEndlessRun", fn := fun _ => fun
  | [d1, d2, d3] => { results := [.lit (.bool false)], args := [d1, d2, d3] }
  | _ => none }
def FnExactEndlessRunWrongFalsely : Prop := fnExactEndlessRunRow.holds Tryz.pinned (OpenSpec.ofChange fnExactEndlessRunWrong)

/- THE SECOND FORM. 'bulk': how many values and letters a reading holds, each counted each time it is reached (what is shared counts as often as it is met; a slice's spare places count too). A statement '..UptoSaid' is the law's where the arguments, and the package variables that the reading takes, are together of bulk at most 1048576: NARROWER than '..Said'. Prove '..Said' where nothing that the law and all that it calls make is longer than what came in: it says more and counts as full. Else prove '..UptoSaid'. A law counts once. -/
mutual
def uptoBulk {H : Type} : DataW H → Nat
  | .lit (.string bytes) => bytes.length + 1
  | .lit _ => 1
  | .nil => 1
  | .ptr d => uptoBulk d + 1
  | .slice elems spare => uptoBulkAll elems + uptoBulkAll spare + 1
  | .agg parts => uptoBulkAll parts + 1
  | .iface _ d => uptoBulk d + 1
  | .map entries => uptoBulkEntries entries + 1
  | .held _ => 1
def uptoBulkAll {H : Type} : List (DataW H) → Nat
  | [] => 0
  | d :: r => uptoBulk d + uptoBulkAll r
def uptoBulkEntries {H : Type} : List (Lit × DataW H) → Nat
  | [] => 0
  | x :: r => uptoBulkEntry x + uptoBulkEntries r
def uptoBulkEntry {H : Type} : Lit × DataW H → Nat
  | (.string bytes, d) => bytes.length + uptoBulk d + 1
  | (_, d) => uptoBulk d + 1
 end
def uptoSmall : (H : Type) → List (DataW H) → Bool := fun _ ds => decide (uptoBulkAll ds ≤ 1048576)
def OpenSpec.upto (s : _root_.Go.ChangeSpec) : _root_.Go.OpenSpec := { _root_.Go.OpenSpec.ofChange s with cond := some uptoSmall }

/-- 'laws.FnExactIsClosed', WHERE WHAT IT READS IS OF BULK AT MOST 1048576: true; the input reads as it did. -/
def fnExactIsClosedUptoRow : OpenClaim := { program := "ythfgklckmedggaagreat", sum := "a06c576a0315af1f72f68e24439a6a53ddeb7a8408df8fbbb6626065d3c8a27e", func := "loop.example/g01084/laws.FnExactIsClosed", spec := "fnExactIsClosed", unfollowed := true, recurses := true, apart := false, narrowed := true }
def FnExactIsClosedUptoSaid : Prop := fnExactIsClosedUptoRow.holds Tryz.pinned (OpenSpec.upto fnExactIsClosedSpec)

/-- 'laws.FnExactIsEndlessRun', WHERE WHAT IT READS IS OF BULK AT MOST 1048576: true; the input reads as it did. -/
def fnExactIsEndlessRunUptoRow : OpenClaim := { program := "ythfgklckmedggaagreat", sum := "a06c576a0315af1f72f68e24439a6a53ddeb7a8408df8fbbb6626065d3c8a27e", func := "loop.example/g01084/laws.FnExactIsEndlessRun", spec := "fnExactIsEndlessRun", unfollowed := true, recurses := true, apart := false, narrowed := true }
def FnExactIsEndlessRunUptoSaid : Prop := fnExactIsEndlessRunUptoRow.holds Tryz.pinned (OpenSpec.upto fnExactIsEndlessRunSpec)

/-- 'laws.FnExactCheckRanking', WHERE WHAT IT READS IS OF BULK AT MOST 1048576: true; the input reads as it did. -/
def fnExactCheckRankingUptoRow : OpenClaim := { program := "ythfgklckmedggaagreat", sum := "a06c576a0315af1f72f68e24439a6a53ddeb7a8408df8fbbb6626065d3c8a27e", func := "loop.example/g01084/laws.FnExactCheckRanking", spec := "fnExactCheckRanking", unfollowed := true, recurses := true, apart := false, narrowed := true }
def FnExactCheckRankingUptoSaid : Prop := fnExactCheckRankingUptoRow.holds Tryz.pinned (OpenSpec.upto fnExactCheckRankingSpec)

/-- 'laws.FnExactLongestRun', WHERE WHAT IT READS IS OF BULK AT MOST 1048576: true; the input reads as it did. -/
def fnExactLongestRunUptoRow : OpenClaim := { program := "ythfgklckmedggaagreat", sum := "a06c576a0315af1f72f68e24439a6a53ddeb7a8408df8fbbb6626065d3c8a27e", func := "loop.example/g01084/laws.FnExactLongestRun", spec := "fnExactLongestRun", unfollowed := true, recurses := true, apart := false, narrowed := true }
def FnExactLongestRunUptoSaid : Prop := fnExactLongestRunUptoRow.holds Tryz.pinned (OpenSpec.upto fnExactLongestRunSpec)

/-- 'laws.FnExactRankingOf', WHERE WHAT IT READS IS OF BULK AT MOST 1048576: true; the input reads as it did. -/
def fnExactRankingOfUptoRow : OpenClaim := { program := "ythfgklckmedggaagreat", sum := "a06c576a0315af1f72f68e24439a6a53ddeb7a8408df8fbbb6626065d3c8a27e", func := "loop.example/g01084/laws.FnExactRankingOf", spec := "fnExactRankingOf", unfollowed := true, recurses := true, apart := false, narrowed := true }
def FnExactRankingOfUptoSaid : Prop := fnExactRankingOfUptoRow.holds Tryz.pinned (OpenSpec.upto fnExactRankingOfSpec)

/-- 'laws.FnExactEndlessRun', WHERE WHAT IT READS IS OF BULK AT MOST 1048576: true; the input reads as it did. -/
def fnExactEndlessRunUptoRow : OpenClaim := { program := "ythfgklckmedggaagreat", sum := "a06c576a0315af1f72f68e24439a6a53ddeb7a8408df8fbbb6626065d3c8a27e", func := "loop.example/g01084/laws.FnExactEndlessRun", spec := "fnExactEndlessRun", unfollowed := true, recurses := true, apart := false, narrowed := true }
def FnExactEndlessRunUptoSaid : Prop := fnExactEndlessRunUptoRow.holds Tryz.pinned (OpenSpec.upto fnExactEndlessRunSpec)

end Rows
end Go.Proofs.YthfgklckmedggaaGreat
