/-
  No cell of these rows narrows 'for every input' (looked for: loops, veiled, ifaces, maps, wideKeys, modest, calm, conditions, laid).
  DERIVED. THE GIVEN ROWS OF THIS SEAT. 6 by the template 'for every input the law returns true; each argument reads behind the call as it read before'; 0 by the template 'total and deterministic' (their statements: YtcpbbjocaimocaaGreatTotals.lean).
  GIVEN WITH THE SEED: the statements are not yours to turn. If you find one false, say at which input.
  Laid BY PROGRAM, IN A SANDBOX (cutbox-rows.mjs): the forced cells as the released guide's own fill.sh prints them over the translation e77681377435209f… (all of the seat's roots in one cut). By AI agents, Wed Nov 11 2026. No macro, syntax, notation, axiom, sorry.
-/
import Derived.Test.YtcpbbjocaimocaaGreatChecked
import GoSem.Claim
import GoSem.ClaimJoined
import GoSem.ClaimMapViews
import Derived.JoinedTies
import Derived.KernelRfl
namespace Go.Proofs.YtcpbbjocaimocaaGreat
/- THE CELL 'sum', in the pinned program and in every row, IS THE sha256 OF THE DUMP (.gsa) THAT YtcpbbjocaimocaaGreatProg.lean LOADS. Nothing in Lean hashes anything: it is a label: what it is worth is what the hold of that sum in a sandbox is worth. -/
noncomputable def Tryz.pinned : Pinned := { name := "ytcpbbjocaimocaagreat", sum := "e77681377435209f3bb0344c37d30155c95e462418b7ba100b264fc7eafa9653", checked := Tryz.checked }
namespace Rows
def none {H : Type} : Left H := { results := [], args := [] }

/-- 'laws.FnExactMayAsync': WHATEVER THE INPUT: true; the input reads as it did. -/
def fnExactMayAsyncSpec : ChangeSpec := { name := "fnExactMayAsync", fn := fun _ => fun
  | [d1, d2, d3, d4] => { results := [.lit (.bool true)], args := [d1, d2, d3, d4] }
  | _ => none }
def fnExactMayAsyncRow : OpenClaim := { program := "ytcpbbjocaimocaagreat", sum := "e77681377435209f3bb0344c37d30155c95e462418b7ba100b264fc7eafa9653", func := "loop.example/g01084/laws.FnExactMayAsync", spec := "fnExactMayAsync", unfollowed := true, recurses := true, apart := false }
def FnExactMayAsyncSaid : Prop := fnExactMayAsyncRow.holds Tryz.pinned (OpenSpec.ofChange fnExactMayAsyncSpec)

/-- ITS FALSE NEIGHBOUR: 'it returns false'. Refute it at one input. -/
def fnExactMayAsyncWrong : ChangeSpec := { name := "fnExactMayAsync", fn := fun _ => fun
  | [d1, d2, d3, d4] => { results := [.lit (.bool false)], args := [d1, d2, d3, d4] }
  | _ => none }
def FnExactMayAsyncWrongFalsely : Prop := fnExactMayAsyncRow.holds Tryz.pinned (OpenSpec.ofChange fnExactMayAsyncWrong)

/-- 'laws.FnExactStepsReady': WHATEVER THE INPUT: true; the input reads as it did. -/
def fnExactStepsReadySpec : ChangeSpec := { name := "fnExactStepsReady", fn := fun _ => fun
  | [d1, d2, d3] => { results := [.lit (.bool true)], args := [d1, d2, d3] }
  | _ => none }
def fnExactStepsReadyRow : OpenClaim := { program := "ytcpbbjocaimocaagreat", sum := "e77681377435209f3bb0344c37d30155c95e462418b7ba100b264fc7eafa9653", func := "loop.example/g01084/laws.FnExactStepsReady", spec := "fnExactStepsReady", unfollowed := true, recurses := true, apart := false }
def FnExactStepsReadySaid : Prop := fnExactStepsReadyRow.holds Tryz.pinned (OpenSpec.ofChange fnExactStepsReadySpec)

/-- ITS FALSE NEIGHBOUR: 'it returns false'. Refute it at one input. -/
def fnExactStepsReadyWrong : ChangeSpec := { name := "fnExactStepsReady", fn := fun _ => fun
  | [d1, d2, d3] => { results := [.lit (.bool false)], args := [d1, d2, d3] }
  | _ => none }
def FnExactStepsReadyWrongFalsely : Prop := fnExactStepsReadyRow.holds Tryz.pinned (OpenSpec.ofChange fnExactStepsReadyWrong)

/-- 'laws.FnExactDoAsync': WHATEVER THE INPUT: true; the input reads as it did. -/
def fnExactDoAsyncSpec : ChangeSpec := { name := "fnExactDoAsync", fn := fun _ => fun
  | [d1, d2, d3, d4] => { results := [.lit (.bool true)], args := [d1, d2, d3, d4] }
  | _ => none }
def fnExactDoAsyncRow : OpenClaim := { program := "ytcpbbjocaimocaagreat", sum := "e77681377435209f3bb0344c37d30155c95e462418b7ba100b264fc7eafa9653", func := "loop.example/g01084/laws.FnExactDoAsync", spec := "fnExactDoAsync", unfollowed := true, recurses := true, apart := false }
def FnExactDoAsyncSaid : Prop := fnExactDoAsyncRow.holds Tryz.pinned (OpenSpec.ofChange fnExactDoAsyncSpec)

/-- ITS FALSE NEIGHBOUR: 'it returns false'. Refute it at one input. -/
def fnExactDoAsyncWrong : ChangeSpec := { name := "fnExactDoAsync", fn := fun _ => fun
  | [d1, d2, d3, d4] => { results := [.lit (.bool false)], args := [d1, d2, d3, d4] }
  | _ => none }
def FnExactDoAsyncWrongFalsely : Prop := fnExactDoAsyncRow.holds Tryz.pinned (OpenSpec.ofChange fnExactDoAsyncWrong)

/-- 'laws.FnExactCompleteRounds': WHATEVER THE INPUT: true; the input reads as it did. -/
def fnExactCompleteRoundsSpec : ChangeSpec := { name := "fnExactCompleteRounds", fn := fun _ => fun
  | [d1, d2, d3] => { results := [.lit (.bool true)], args := [d1, d2, d3] }
  | _ => none }
def fnExactCompleteRoundsRow : OpenClaim := { program := "ytcpbbjocaimocaagreat", sum := "e77681377435209f3bb0344c37d30155c95e462418b7ba100b264fc7eafa9653", func := "loop.example/g01084/laws.FnExactCompleteRounds", spec := "fnExactCompleteRounds", unfollowed := true, recurses := true, apart := false }
def FnExactCompleteRoundsSaid : Prop := fnExactCompleteRoundsRow.holds Tryz.pinned (OpenSpec.ofChange fnExactCompleteRoundsSpec)

/-- ITS FALSE NEIGHBOUR: 'it returns false'. Refute it at one input. -/
def fnExactCompleteRoundsWrong : ChangeSpec := { name := "fnExactCompleteRounds", fn := fun _ => fun
  | [d1, d2, d3] => { results := [.lit (.bool false)], args := [d1, d2, d3] }
  | _ => none }
def FnExactCompleteRoundsWrongFalsely : Prop := fnExactCompleteRoundsRow.holds Tryz.pinned (OpenSpec.ofChange fnExactCompleteRoundsWrong)

/-- 'laws.FnExactPlayAsync': WHATEVER THE INPUT: true; the input reads as it did. -/
def fnExactPlayAsyncSpec : ChangeSpec := { name := "fnExactPlayAsync", fn := fun _ => fun
  | [d1, d2, d3, d4] => { results := [.lit (.bool true)], args := [d1, d2, d3, d4] }
  | _ => none }
def fnExactPlayAsyncRow : OpenClaim := { program := "ytcpbbjocaimocaagreat", sum := "e77681377435209f3bb0344c37d30155c95e462418b7ba100b264fc7eafa9653", func := "loop.example/g01084/laws.FnExactPlayAsync", spec := "fnExactPlayAsync", unfollowed := true, recurses := true, apart := false }
def FnExactPlayAsyncSaid : Prop := fnExactPlayAsyncRow.holds Tryz.pinned (OpenSpec.ofChange fnExactPlayAsyncSpec)

/-- ITS FALSE NEIGHBOUR: 'it returns false'. Refute it at one input. -/
def fnExactPlayAsyncWrong : ChangeSpec := { name := "fnExactPlayAsync", fn := fun _ => fun
  | [d1, d2, d3, d4] => { results := [.lit (.bool false)], args := [d1, d2, d3, d4] }
  | _ => none }
def FnExactPlayAsyncWrongFalsely : Prop := fnExactPlayAsyncRow.holds Tryz.pinned (OpenSpec.ofChange fnExactPlayAsyncWrong)

/-- 'laws.FnExactCatchUp': WHATEVER THE INPUT: true; the input reads as it did. -/
def fnExactCatchUpSpec : ChangeSpec := { name := "fnExactCatchUp", fn := fun _ => fun
  | [d1, d2, d3] => { results := [.lit (.bool true)], args := [d1, d2, d3] }
  | _ => none }
def fnExactCatchUpRow : OpenClaim := { program := "ytcpbbjocaimocaagreat", sum := "e77681377435209f3bb0344c37d30155c95e462418b7ba100b264fc7eafa9653", func := "loop.example/g01084/laws.FnExactCatchUp", spec := "fnExactCatchUp", unfollowed := true, recurses := true, apart := false }
def FnExactCatchUpSaid : Prop := fnExactCatchUpRow.holds Tryz.pinned (OpenSpec.ofChange fnExactCatchUpSpec)

/-- ITS FALSE NEIGHBOUR: 'it returns false'. Refute it at one input. -/
def fnExactCatchUpWrong : ChangeSpec := { name := "fnExactCatchUp", fn := fun _ => fun
  | [d1, d2, d3] => { results := [.lit (.bool false)], args := [d1, d2, d3] }
  | _ => none }
def FnExactCatchUpWrongFalsely : Prop := fnExactCatchUpRow.holds Tryz.pinned (OpenSpec.ofChange fnExactCatchUpWrong)

/- THE SECOND FORM. 'bulk': how many values and letters a reading holds, each counted each time it is reached (what is shared counts as often as it is met; a slice's spare places count too). A statement '..UptoSaid' is the law's where the arguments, and the package variables that the reading takes, are together of bulk at most 1048576: NARROWER than '..Said'. Prove '..Said' where nothing that the law and all that it calls make is longer than what came in: it says more and counts as full. Else prove '..UptoSaid'. A law counts once. -/
mutual
def uptoBulk {H : Type} : DataW H → Nat
  | .lit (.string bytes) => bytes.length + 1
  | .lit _ => 1
  | .nil => 1
  | .ptr d => uptoBulk d + 1
  | .slice elems spare => uptoBulkAll elems + uptoBulkAll spare + 1
  | .agg parts => uptoBulkAll parts + 1
  | .iface _ d => uptoBulk d + 1
  | .map entries => uptoBulkEntries entries + 1
  | .held _ => 1
def uptoBulkAll {H : Type} : List (DataW H) → Nat
  | [] => 0
  | d :: r => uptoBulk d + uptoBulkAll r
def uptoBulkEntries {H : Type} : List (Lit × DataW H) → Nat
  | [] => 0
  | x :: r => uptoBulkEntry x + uptoBulkEntries r
def uptoBulkEntry {H : Type} : Lit × DataW H → Nat
  | (.string bytes, d) => bytes.length + uptoBulk d + 1
  | (_, d) => uptoBulk d + 1
 end
def uptoSmall : (H : Type) → List (DataW H) → Bool := fun _ ds => decide (uptoBulkAll ds ≤ 1048576)
def OpenSpec.upto (s : _root_.Go.ChangeSpec) : _root_.Go.OpenSpec := { _root_.Go.OpenSpec.ofChange s with cond := some uptoSmall }

/-- 'laws.FnExactMayAsync', WHERE WHAT IT READS IS OF BULK AT MOST 1048576: true; the input reads as it did. -/
def fnExactMayAsyncUptoRow : OpenClaim := { program := "ytcpbbjocaimocaagreat", sum := "e77681377435209f3bb0344c37d30155c95e462418b7ba100b264fc7eafa9653", func := "loop.example/g01084/laws.FnExactMayAsync", spec := "fnExactMayAsync", unfollowed := true, recurses := true, apart := false, narrowed := true }
def FnExactMayAsyncUptoSaid : Prop := fnExactMayAsyncUptoRow.holds Tryz.pinned (OpenSpec.upto fnExactMayAsyncSpec)

/-- 'laws.FnExactStepsReady', WHERE WHAT IT READS IS OF BULK AT MOST 1048576: true; the input reads as it did. -/
def fnExactStepsReadyUptoRow : OpenClaim := { program := "ytcpbbjocaimocaagreat", sum := "e77681377435209f3bb0344c37d30155c95e462418b7ba100b264fc7eafa9653", func := "loop.example/g01084/laws.FnExactStepsReady", spec := "fnExactStepsReady", unfollowed := true, recurses := true, apart := false, narrowed := true }
def FnExactStepsReadyUptoSaid : Prop := fnExactStepsReadyUptoRow.holds Tryz.pinned (OpenSpec.upto fnExactStepsReadySpec)

/-- 'laws.FnExactDoAsync', WHERE WHAT IT READS IS OF BULK AT MOST 1048576: true; the input reads as it did. -/
def fnExactDoAsyncUptoRow : OpenClaim := { program := "ytcpbbjocaimocaagreat", sum := "e77681377435209f3bb0344c37d30155c95e462418b7ba100b264fc7eafa9653", func := "loop.example/g01084/laws.FnExactDoAsync", spec := "fnExactDoAsync", unfollowed := true, recurses := true, apart := false, narrowed := true }
def FnExactDoAsyncUptoSaid : Prop := fnExactDoAsyncUptoRow.holds Tryz.pinned (OpenSpec.upto fnExactDoAsyncSpec)

/-- 'laws.FnExactCompleteRounds', WHERE WHAT IT READS IS OF BULK AT MOST 1048576: true; the input reads as it did. -/
def fnExactCompleteRoundsUptoRow : OpenClaim := { program := "ytcpbbjocaimocaagreat", sum := "e77681377435209f3bb0344c37d30155c95e462418b7ba100b264fc7eafa9653", func := "loop.example/g01084/laws.FnExactCompleteRounds", spec := "fnExactCompleteRounds", unfollowed := true, recurses := true, apart := false, narrowed := true }
def FnExactCompleteRoundsUptoSaid : Prop := fnExactCompleteRoundsUptoRow.holds Tryz.pinned (OpenSpec.upto fnExactCompleteRoundsSpec)

/-- 'laws.FnExactPlayAsync', WHERE WHAT IT READS IS OF BULK AT MOST 1048576: true; the input reads as it did. -/
def fnExactPlayAsyncUptoRow : OpenClaim := { program := "ytcpbbjocaimocaagreat", sum := "e77681377435209f3bb0344c37d30155c95e462418b7ba100b264fc7eafa9653", func := "loop.example/g01084/laws.FnExactPlayAsync", spec := "fnExactPlayAsync", unfollowed := true, recurses := true, apart := false, narrowed := true }
def FnExactPlayAsyncUptoSaid : Prop := fnExactPlayAsyncUptoRow.holds Tryz.pinned (OpenSpec.upto fnExactPlayAsyncSpec)

/-- 'laws.FnExactCatchUp', WHERE WHAT IT READS IS OF BULK AT MOST 1048576: true; the input reads as it did. -/
def fnExactCatchUpUptoRow : OpenClaim := { program := "ytcpbbjocaimocaagreat", sum := "e77681377435209f3bb0344c37d30155c95e462418b7ba100b264fc7eafa9653", func := "loop.example/g01084/laws.FnExactCatchUp", spec := "fnExactCatchUp", unfollowed := true, recurses := true, apart := false, narrowed := true }
def FnExactCatchUpUptoSaid : Prop := fnExactCatchUpUptoRow.holds Tryz.pinned (OpenSpec.upto fnExactCatchUpSpec)

end Rows
end Go.Proofs.YtcpbbjocaimocaaGreat
