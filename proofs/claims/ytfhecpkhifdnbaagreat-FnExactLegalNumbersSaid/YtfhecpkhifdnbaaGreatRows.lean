/-
  No cell of these rows narrows 'for every input' (looked for: loops, veiled, ifaces, maps, wideKeys, modest, calm, conditions, laid).
  DERIVED. THE GIVEN ROWS OF THIS SEAT. 9 by the template 'for every input the law returns true; each argument reads behind the call as it read before'; 0 by the template 'total and deterministic' (their statements: YtfhecpkhifdnbaaGreatTotals.lean).
  GIVEN WITH THE SEED: the statements are not yours to turn. If you find one false, say at which input.
  Laid BY PROGRAM, IN A SANDBOX (cutbox-rows.mjs): the forced cells as the released guide's own fill.sh prints them over the translation 289733e5c15713eb… (all of the seat's roots in one cut). By AI agents, Wed Nov 11 2026. No macro, syntax, notation, axiom, sorry.
-/
import Derived.Test.YtfhecpkhifdnbaaGreatChecked
import GoSem.Claim
import GoSem.ClaimJoined
import GoSem.ClaimMapViews
import Derived.JoinedTies
import Derived.KernelRfl
namespace Go.Proofs.YtfhecpkhifdnbaaGreat
/- THE CELL 'sum', in the pinned program and in every row, IS THE sha256 OF THE DUMP (.gsa) THAT YtfhecpkhifdnbaaGreatProg.lean LOADS. Nothing in Lean hashes anything: it is a label: what it is worth is what the hold of that sum in a sandbox is worth. -/
noncomputable def Tryz.pinned : Pinned := { name := "ytfhecpkhifdnbaagreat", sum := "289733e5c15713ebbedd807cb72c0807a941a947c404460540189fdeda0ab041", checked := Tryz.checked }
namespace Rows
def none {H : Type} : Left H := { results := [], args := [] }

/-- 'laws.FnExactStateNumber': WHATEVER THE INPUT: true; the input reads as it did. -/
def fnExactStateNumberSpec : ChangeSpec := { name := "fnExactStateNumber", fn := fun _ => fun
  | [d1, d2, d3] => { results := [.lit (.bool true)], args := [d1, d2, d3] }
  | _ => none }
def fnExactStateNumberRow : OpenClaim := { program := "ytfhecpkhifdnbaagreat", sum := "289733e5c15713ebbedd807cb72c0807a941a947c404460540189fdeda0ab041", func := "loop.example/g01084/laws.FnExactStateNumber", spec := "fnExactStateNumber", unfollowed := true, recurses := true, apart := false }
def FnExactStateNumberSaid : Prop := fnExactStateNumberRow.holds Tryz.pinned (OpenSpec.ofChange fnExactStateNumberSpec)

/-- ITS FALSE NEIGHBOUR: 'it returns false'. Refute it at one input. -/
def fnExactStateNumberWrong : ChangeSpec := { name := "fnExactStateNumber", fn := fun _ => fun
  | [d1, d2, d3] => { results := [.lit (.bool false)], args := [d1, d2, d3] }
  | _ => none }
def FnExactStateNumberWrongFalsely : Prop := fnExactStateNumberRow.holds Tryz.pinned (OpenSpec.ofChange fnExactStateNumberWrong)

/-- 'laws.FnExactMayAsync': WHATEVER THE INPUT: true; the input reads as it did. -/
def fnExactMayAsyncSpec : ChangeSpec := { name := "fnExactMayAsync", fn := fun _ => fun
  | [d1, d2, d3, d4] => { results := [.lit (.bool true)], args := [d1, d2, d3, d4] }
  | _ => none }
def fnExactMayAsyncRow : OpenClaim := { program := "ytfhecpkhifdnbaagreat", sum := "289733e5c15713ebbedd807cb72c0807a941a947c404460540189fdeda0ab041", func := "loop.example/g01084/laws.FnExactMayAsync", spec := "fnExactMayAsync", unfollowed := true, recurses := true, apart := false }
def FnExactMayAsyncSaid : Prop := fnExactMayAsyncRow.holds Tryz.pinned (OpenSpec.ofChange fnExactMayAsyncSpec)

/-- ITS FALSE NEIGHBOUR: 'it returns false'. Refute it at one input. -/
def fnExactMayAsyncWrong : ChangeSpec := { name := "fnExactMayAsync", fn := fun _ => fun
  | [d1, d2, d3, d4] => { results := [.lit (.bool false)], args := [d1, d2, d3, d4] }
  | _ => none }
def FnExactMayAsyncWrongFalsely : Prop := fnExactMayAsyncRow.holds Tryz.pinned (OpenSpec.ofChange fnExactMayAsyncWrong)

/-- 'laws.FnExactIsLegalState': WHATEVER THE INPUT: true; the input reads as it did. -/
def fnExactIsLegalStateSpec : ChangeSpec := { name := "fnExactIsLegalState", fn := fun _ => fun
  | [d1, d2, d3] => { results := [.lit (.bool true)], args := [d1, d2, d3] }
  | _ => none }
def fnExactIsLegalStateRow : OpenClaim := { program := "ytfhecpkhifdnbaagreat", sum := "289733e5c15713ebbedd807cb72c0807a941a947c404460540189fdeda0ab041", func := "loop.example/g01084/laws.FnExactIsLegalState", spec := "fnExactIsLegalState", unfollowed := true, recurses := true, apart := false }
def FnExactIsLegalStateSaid : Prop := fnExactIsLegalStateRow.holds Tryz.pinned (OpenSpec.ofChange fnExactIsLegalStateSpec)

/-- ITS FALSE NEIGHBOUR: 'it returns false'. Refute it at one input. -/
def fnExactIsLegalStateWrong : ChangeSpec := { name := "fnExactIsLegalState", fn := fun _ => fun
  | [d1, d2, d3] => { results := [.lit (.bool false)], args := [d1, d2, d3] }
  | _ => none }
def FnExactIsLegalStateWrongFalsely : Prop := fnExactIsLegalStateRow.holds Tryz.pinned (OpenSpec.ofChange fnExactIsLegalStateWrong)

/-- 'laws.FnExactSuccessors': WHATEVER THE INPUT: true; the input reads as it did. -/
def fnExactSuccessorsSpec : ChangeSpec := { name := "fnExactSuccessors", fn := fun _ => fun
  | [d1, d2, d3, d4] => { results := [.lit (.bool true)], args := [d1, d2, d3, d4] }
  | _ => none }
def fnExactSuccessorsRow : OpenClaim := { program := "ytfhecpkhifdnbaagreat", sum := "289733e5c15713ebbedd807cb72c0807a941a947c404460540189fdeda0ab041", func := "loop.example/g01084/laws.FnExactSuccessors", spec := "fnExactSuccessors", unfollowed := true, recurses := true, apart := false }
def FnExactSuccessorsSaid : Prop := fnExactSuccessorsRow.holds Tryz.pinned (OpenSpec.ofChange fnExactSuccessorsSpec)

/-- ITS FALSE NEIGHBOUR: 'it returns false'. Refute it at one input. -/
def fnExactSuccessorsWrong : ChangeSpec := { name := "fnExactSuccessors", fn := fun _ => fun
  | [d1, d2, d3, d4] => { results := [.lit (.bool false)], args := [d1, d2, d3, d4] }
  | _ => none }
def FnExactSuccessorsWrongFalsely : Prop := fnExactSuccessorsRow.holds Tryz.pinned (OpenSpec.ofChange fnExactSuccessorsWrong)

/-- 'laws.FnExactLegalNumbers': WHATEVER THE INPUT: true; the input reads as it did. -/
def fnExactLegalNumbersSpec : ChangeSpec := { name := "fnExactLegalNumbers", fn := fun _ => fun
  | [d1, d2] => { results := [.lit (.bool true)], args := [d1, d2] }
  | _ => none }
def fnExactLegalNumbersRow : OpenClaim := { program := "ytfhecpkhifdnbaagreat", sum := "289733e5c15713ebbedd807cb72c0807a941a947c404460540189fdeda0ab041", func := "loop.example/g01084/laws.FnExactLegalNumbers", spec := "fnExactLegalNumbers", unfollowed := true, recurses := true, apart := false }
def FnExactLegalNumbersSaid : Prop := fnExactLegalNumbersRow.holds Tryz.pinned (OpenSpec.ofChange fnExactLegalNumbersSpec)

/-- ITS FALSE NEIGHBOUR: 'it returns false'. Refute it at one input. -/
def fnExactLegalNumbersWrong : ChangeSpec := { name := "fnExactLegalNumbers", fn := fun _ => fun
  | [d1, d2] => { results := [.lit (.bool false)], args := [d1, d2] }
  | _ => none }
def FnExactLegalNumbersWrongFalsely : Prop := fnExactLegalNumbersRow.holds Tryz.pinned (OpenSpec.ofChange fnExactLegalNumbersWrong)

/-- 'laws.FnExactReachableNumbers': WHATEVER THE INPUT: true; the input reads as it did. -/
def fnExactReachableNumbersSpec : ChangeSpec := { name := "fnExactReachableNumbers", fn := fun _ => fun
  | [d1, d2, d3, d4] => { results := [.lit (.bool true)], args := [d1, d2, d3, d4] }
  | _ => none }
def fnExactReachableNumbersRow : OpenClaim := { program := "ytfhecpkhifdnbaagreat", sum := "289733e5c15713ebbedd807cb72c0807a941a947c404460540189fdeda0ab041", func := "loop.example/g01084/laws.FnExactReachableNumbers", spec := "fnExactReachableNumbers", unfollowed := true, recurses := true, apart := false }
def FnExactReachableNumbersSaid : Prop := fnExactReachableNumbersRow.holds Tryz.pinned (OpenSpec.ofChange fnExactReachableNumbersSpec)

/-- ITS FALSE NEIGHBOUR: 'it returns false'. Refute it at one input. -/
def fnExactReachableNumbersWrong : ChangeSpec := { name := "fnExactReachableNumbers", fn := fun _ => fun
  | [d1, d2, d3, d4] => { results := [.lit (.bool false)], args := [d1, d2, d3, d4] }
  | _ => none }
def FnExactReachableNumbersWrongFalsely : Prop := fnExactReachableNumbersRow.holds Tryz.pinned (OpenSpec.ofChange fnExactReachableNumbersWrong)

/-- 'laws.FnExactIsClosed': WHATEVER THE INPUT: true; the input reads as it did. -/
def fnExactIsClosedSpec : ChangeSpec := { name := "fnExactIsClosed", fn := fun _ => fun
  | [d1, d2, d3] => { results := [.lit (.bool true)], args := [d1, d2, d3] }
  | _ => none }
def fnExactIsClosedRow : OpenClaim := { program := "ytfhecpkhifdnbaagreat", sum := "289733e5c15713ebbedd807cb72c0807a941a947c404460540189fdeda0ab041", func := "loop.example/g01084/laws.FnExactIsClosed", spec := "fnExactIsClosed", unfollowed := true, recurses := true, apart := false }
def FnExactIsClosedSaid : Prop := fnExactIsClosedRow.holds Tryz.pinned (OpenSpec.ofChange fnExactIsClosedSpec)

/-- ITS FALSE NEIGHBOUR: 'it returns false'. Refute it at one input. -/
def fnExactIsClosedWrong : ChangeSpec := { name := "fnExactIsClosed", fn := fun _ => fun
  | [d1, d2, d3] => { results := [.lit (.bool false)], args := [d1, d2, d3] }
  | _ => none }
def FnExactIsClosedWrongFalsely : Prop := fnExactIsClosedRow.holds Tryz.pinned (OpenSpec.ofChange fnExactIsClosedWrong)

/-- 'laws.FnExactIsEndlessRun': WHATEVER THE INPUT: true; the input reads as it did. -/
def fnExactIsEndlessRunSpec : ChangeSpec := { name := "fnExactIsEndlessRun", fn := fun _ => fun
  | [d1, d2, d3, d4] => { results := [.lit (.bool true)], args := [d1, d2, d3, d4] }
  | _ => none }
def fnExactIsEndlessRunRow : OpenClaim := { program := "ytfhecpkhifdnbaagreat", sum := "289733e5c15713ebbedd807cb72c0807a941a947c404460540189fdeda0ab041", func := "loop.example/g01084/laws.FnExactIsEndlessRun", spec := "fnExactIsEndlessRun", unfollowed := true, recurses := true, apart := false }
def FnExactIsEndlessRunSaid : Prop := fnExactIsEndlessRunRow.holds Tryz.pinned (OpenSpec.ofChange fnExactIsEndlessRunSpec)

/-- ITS FALSE NEIGHBOUR: 'it returns false'. Refute it at one input. -/
def fnExactIsEndlessRunWrong : ChangeSpec := { name := "fnExactIsEndlessRun", fn := fun _ => fun
  | [d1, d2, d3, d4] => { results := [.lit (.bool false)], args := [d1, d2, d3, d4] }
  | _ => none }
def FnExactIsEndlessRunWrongFalsely : Prop := fnExactIsEndlessRunRow.holds Tryz.pinned (OpenSpec.ofChange fnExactIsEndlessRunWrong)

/-- 'laws.FnExactCheckRanking': WHATEVER THE INPUT: true; the input reads as it did. -/
def fnExactCheckRankingSpec : ChangeSpec := { name := "fnExactCheckRanking", fn := fun _ => fun
  | [d1, d2, d3, d4] => { results := [.lit (.bool true)], args := [d1, d2, d3, d4] }
  | _ => none }
def fnExactCheckRankingRow : OpenClaim := { program := "ytfhecpkhifdnbaagreat", sum := "289733e5c15713ebbedd807cb72c0807a941a947c404460540189fdeda0ab041", func := "loop.example/g01084/laws.FnExactCheckRanking", spec := "fnExactCheckRanking", unfollowed := true, recurses := true, apart := false }
def FnExactCheckRankingSaid : Prop := fnExactCheckRankingRow.holds Tryz.pinned (OpenSpec.ofChange fnExactCheckRankingSpec)

/-- ITS FALSE NEIGHBOUR: 'it returns false'. Refute it at one input. -/
def fnExactCheckRankingWrong : ChangeSpec := { name := "fnExactCheckRanking", fn := fun _ => fun
  | [d1, d2, d3, d4] => { results := [.lit (.bool false)], args := [d1, d2, d3, d4] }
  | _ => none }
def FnExactCheckRankingWrongFalsely : Prop := fnExactCheckRankingRow.holds Tryz.pinned (OpenSpec.ofChange fnExactCheckRankingWrong)

/- THE SECOND FORM. 'bulk': how many values and letters a reading holds, each counted each time it is reached (what is shared counts as often as it is met; a slice's spare places count too). A statement '..UptoSaid' is the law's where the arguments, and the package variables that the reading takes, are together of bulk at most 1048576: NARROWER than '..Said'. Prove '..Said' where nothing that the law and all that it calls make is longer than what came in: it says more and counts as full. Else prove '..UptoSaid'. A law counts once. -/
mutual
def uptoBulk {H : Type} : DataW H → Nat
  | .lit (.string bytes) => bytes.length + 1
  | .lit _ => 1
  | .nil => 1
  | .ptr d => uptoBulk d + 1
  | .slice elems spare => uptoBulkAll elems + uptoBulkAll spare + 1
  | .agg parts => uptoBulkAll parts + 1
  | .iface _ d => uptoBulk d + 1
  | .map entries => uptoBulkEntries entries + 1
  | .held _ => 1
def uptoBulkAll {H : Type} : List (DataW H) → Nat
  | [] => 0
  | d :: r => uptoBulk d + uptoBulkAll r
def uptoBulkEntries {H : Type} : List (Lit × DataW H) → Nat
  | [] => 0
  | x :: r => uptoBulkEntry x + uptoBulkEntries r
def uptoBulkEntry {H : Type} : Lit × DataW H → Nat
  | (.string bytes, d) => bytes.length + uptoBulk d + 1
  | (_, d) => uptoBulk d + 1
 end
def uptoSmall : (H : Type) → List (DataW H) → Bool := fun _ ds => decide (uptoBulkAll ds ≤ 1048576)
def OpenSpec.upto (s : _root_.Go.ChangeSpec) : _root_.Go.OpenSpec := { _root_.Go.OpenSpec.ofChange s with cond := some uptoSmall }

/-- 'laws.FnExactStateNumber', WHERE WHAT IT READS IS OF BULK AT MOST 1048576: true; the input reads as it did. -/
def fnExactStateNumberUptoRow : OpenClaim := { program := "ytfhecpkhifdnbaagreat", sum := "289733e5c15713ebbedd807cb72c0807a941a947c404460540189fdeda0ab041", func := "loop.example/g01084/laws.FnExactStateNumber", spec := "fnExactStateNumber", unfollowed := true, recurses := true, apart := false, narrowed := true }
def FnExactStateNumberUptoSaid : Prop := fnExactStateNumberUptoRow.holds Tryz.pinned (OpenSpec.upto fnExactStateNumberSpec)

/-- 'laws.FnExactMayAsync', WHERE WHAT IT READS IS OF BULK AT MOST 1048576: true; the input reads as it did. -/
def fnExactMayAsyncUptoRow : OpenClaim := { program := "ytfhecpkhifdnbaagreat", sum := "289733e5c15713ebbedd807cb72c0807a941a947c404460540189fdeda0ab041", func := "loop.example/g01084/laws.FnExactMayAsync", spec := "fnExactMayAsync", unfollowed := true, recurses := true, apart := false, narrowed := true }
def FnExactMayAsyncUptoSaid : Prop := fnExactMayAsyncUptoRow.holds Tryz.pinned (OpenSpec.upto fnExactMayAsyncSpec)

/-- 'laws.FnExactIsLegalState', WHERE WHAT IT READS IS OF BULK AT MOST 1048576: true; the input reads as it did. -/
def fnExactIsLegalStateUptoRow : OpenClaim := { program := "ytfhecpkhifdnbaagreat", sum := "289733e5c15713ebbedd807cb72c0807a941a947c404460540189fdeda0ab041", func := "loop.example/g01084/laws.FnExactIsLegalState", spec := "fnExactIsLegalState", unfollowed := true, recurses := true, apart := false, narrowed := true }
def FnExactIsLegalStateUptoSaid : Prop := fnExactIsLegalStateUptoRow.holds Tryz.pinned (OpenSpec.upto fnExactIsLegalStateSpec)

/-- 'laws.FnExactSuccessors', WHERE WHAT IT READS IS OF BULK AT MOST 1048576: true; the input reads as it did. -/
def fnExactSuccessorsUptoRow : OpenClaim := { program := "ytfhecpkhifdnbaagreat", sum := "289733e5c15713ebbedd807cb72c0807a941a947c404460540189fdeda0ab041", func := "loop.example/g01084/laws.FnExactSuccessors", spec := "fnExactSuccessors", unfollowed := true, recurses := true, apart := false, narrowed := true }
def FnExactSuccessorsUptoSaid : Prop := fnExactSuccessorsUptoRow.holds Tryz.pinned (OpenSpec.upto fnExactSuccessorsSpec)

/-- 'laws.FnExactLegalNumbers', WHERE WHAT IT READS IS OF BULK AT MOST 1048576: true; the input reads as it did. -/
def fnExactLegalNumbersUptoRow : OpenClaim := { program := "ytfhecpkhifdnbaagreat", sum := "289733e5c15713ebbedd807cb72c0807a941a947c404460540189fdeda0ab041", func := "loop.example/g01084/laws.FnExactLegalNumbers", spec := "fnExactLegalNumbers", unfollowed := true, recurses := true, apart := false, narrowed := true }
def FnExactLegalNumbersUptoSaid : Prop := fnExactLegalNumbersUptoRow.holds Tryz.pinned (OpenSpec.upto fnExactLegalNumbersSpec)

/-- 'laws.FnExactReachableNumbers', WHERE WHAT IT READS IS OF BULK AT MOST 1048576: true; the input reads as it did. -/
def fnExactReachableNumbersUptoRow : OpenClaim := { program := "ytfhecpkhifdnbaagreat", sum := "289733e5c15713ebbedd807cb72c0807a941a947c404460540189fdeda0ab041", func := "loop.example/g01084/laws.FnExactReachableNumbers", spec := "fnExactReachableNumbers", unfollowed := true, recurses := true, apart := false, narrowed := true }
def FnExactReachableNumbersUptoSaid : Prop := fnExactReachableNumbersUptoRow.holds Tryz.pinned (OpenSpec.upto fnExactReachableNumbersSpec)

/-- 'laws.FnExactIsClosed', WHERE WHAT IT READS IS OF BULK AT MOST 1048576: true; the input reads as it did. -/
def fnExactIsClosedUptoRow : OpenClaim := { program := "ytfhecpkhifdnbaagreat", sum := "289733e5c15713ebbedd807cb72c0807a941a947c404460540189fdeda0ab041", func := "loop.example/g01084/laws.FnExactIsClosed", spec := "fnExactIsClosed", unfollowed := true, recurses := true, apart := false, narrowed := true }
def FnExactIsClosedUptoSaid : Prop := fnExactIsClosedUptoRow.holds Tryz.pinned (OpenSpec.upto fnExactIsClosedSpec)

/-- 'laws.FnExactIsEndlessRun', WHERE WHAT IT READS IS OF BULK AT MOST 1048576: true; the input reads as it did. -/
def fnExactIsEndlessRunUptoRow : OpenClaim := { program := "ytfhecpkhifdnbaagreat", sum := "289733e5c15713ebbedd807cb72c0807a941a947c404460540189fdeda0ab041", func := "loop.example/g01084/laws.FnExactIsEndlessRun", spec := "fnExactIsEndlessRun", unfollowed := true, recurses := true, apart := false, narrowed := true }
def FnExactIsEndlessRunUptoSaid : Prop := fnExactIsEndlessRunUptoRow.holds Tryz.pinned (OpenSpec.upto fnExactIsEndlessRunSpec)

/-- 'laws.FnExactCheckRanking', WHERE WHAT IT READS IS OF BULK AT MOST 1048576: true; the input reads as it did. -/
def fnExactCheckRankingUptoRow : OpenClaim := { program := "ytfhecpkhifdnbaagreat", sum := "289733e5c15713ebbedd807cb72c0807a941a947c404460540189fdeda0ab041", func := "loop.example/g01084/laws.FnExactCheckRanking", spec := "fnExactCheckRanking", unfollowed := true, recurses := true, apart := false, narrowed := true }
def FnExactCheckRankingUptoSaid : Prop := fnExactCheckRankingUptoRow.holds Tryz.pinned (OpenSpec.upto fnExactCheckRankingSpec)

end Rows
end Go.Proofs.YtfhecpkhifdnbaaGreat
