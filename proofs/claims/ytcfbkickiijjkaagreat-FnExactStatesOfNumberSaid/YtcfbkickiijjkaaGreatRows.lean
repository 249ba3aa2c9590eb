/-
  No cell of these rows narrows 'for every input' (looked for: loops, veiled, ifaces, maps, wideKeys, modest, calm, conditions, laid).
  DERIVED. THE GIVEN ROWS OF THIS SEAT. 3 by the template 'for every input the law returns true; each argument reads behind the call as it read before'; 0 by the template 'total and deterministic' (their statements: YtcfbkickiijjkaaGreatTotals.lean).
  GIVEN WITH THE SEED: the statements are not yours to turn. If you find one false, say at which input.
  Laid BY PROGRAM, IN A SANDBOX (cutbox-rows.mjs): the forced cells as the released guide's own fill.sh prints them over the translation 893fd4c0d132715b… (all of the seat's roots in one cut). By AI agents, Wed Nov 11 2026. No macro, syntax, notation, axiom, sorry.
-/
import Derived.Test.YtcfbkickiijjkaaGreatChecked
import GoSem.Claim
import GoSem.ClaimJoined
import GoSem.ClaimMapViews
import Derived.JoinedTies
import Derived.KernelRfl
namespace Go.Proofs.YtcfbkickiijjkaaGreat
/- THE CELL 'sum', in the pinned program and in every row, IS THE sha256 OF THE DUMP (.gsa) THAT YtcfbkickiijjkaaGreatProg.lean LOADS. Nothing in Lean hashes anything: it is a label: what it is worth is what the hold of that sum in a sandbox is worth. -/
noncomputable def Tryz.pinned : Pinned := { name := "ytcfbkickiijjkaagreat", sum := "893fd4c0d132715b7e1ba3667558cb3bdf2f458c3b972329c3728e7a8008abf2", checked := Tryz.checked }
namespace Rows
def none {H : Type} : Left H := { results := [], args := [] }

/-- 'laws.FnExactCountStates': WHATEVER THE INPUT: true; the input reads as it did. -/
def fnExactCountStatesSpec : ChangeSpec := { name := "fnExactCountStates", fn := fun _ => fun
  | [d1, d2] => { results := [.lit (.bool true)], args := [d1, d2] }
  | _ => none }
def fnExactCountStatesRow : OpenClaim := { program := "ytcfbkickiijjkaagreat", sum := "893fd4c0d132715b7e1ba3667558cb3bdf2f458c3b972329c3728e7a8008abf2", func := "loop.example/g01084/laws.FnExactCountStates", spec := "fnExactCountStates", unfollowed := true, recurses := true, apart := false }
def FnExactCountStatesSaid : Prop := fnExactCountStatesRow.holds Tryz.pinned (OpenSpec.ofChange fnExactCountStatesSpec)

/-- ITS FALSE NEIGHBOUR: 'it returns false'. Refute it at one input. -/
def fnExactCountStatesWrong : ChangeSpec := { name := "fnExactCountStates", fn := fun _ => fun
  | [d1, d2] => { results := [.lit (.bool false)], args := [d1, d2] }
  | _ => none }
def FnExactCountStatesWrongFalsely : Prop := fnExactCountStatesRow.holds Tryz.pinned (OpenSpec.ofChange fnExactCountStatesWrong)

/-- 'laws.FnExactStateNumber': WHATEVER THE INPUT: true; the input reads as it did. -/
def fnExactStateNumberSpec : ChangeSpec := { name := "fnExactStateNumber", fn := fun _ => fun
  | [d1, d2, d3] => { results := [.lit (.bool true)], args := [d1, d2, d3] }
  | _ => none }
def fnExactStateNumberRow : OpenClaim := { program := "ytcfbkickiijjkaagreat", sum := "893fd4c0d132715b7e1ba3667558cb3bdf2f458c3b972329c3728e7a8008abf2", func := "loop.example/g01084/laws.FnExactStateNumber", spec := "fnExactStateNumber", unfollowed := true, recurses := true, apart := false }
def FnExactStateNumberSaid : Prop := fnExactStateNumberRow.holds Tryz.pinned (OpenSpec.ofChange fnExactStateNumberSpec)

/-- ITS FALSE NEIGHBOUR: 'it returns false'. Refute it at one input. -/
def fnExactStateNumberWrong : ChangeSpec := { name := "fnExactStateNumber", fn := fun _ => fun
  | [d1, d2, d3] => { results := [.lit (.bool false)], args := [d1, d2, d3] }
  | _ => none }
def FnExactStateNumberWrongFalsely : Prop := fnExactStateNumberRow.holds Tryz.pinned (OpenSpec.ofChange fnExactStateNumberWrong)

/-- 'laws.FnExactStatesOfNumber': WHATEVER THE INPUT: true; the input reads as it did. -/
def fnExactStatesOfNumberSpec : ChangeSpec := { name := "fnExactStatesOfNumber", fn := fun _ => fun
  | [d1, d2, d3] => { results := [.lit (.bool true)], args := [d1, d2, d3] }
  | _ => none }
def fnExactStatesOfNumberRow : OpenClaim := { program := "ytcfbkickiijjkaagreat", sum := "893fd4c0d132715b7e1ba3667558cb3bdf2f458c3b972329c3728e7a8008abf2", func := "loop.example/g01084/laws.FnExactStatesOfNumber", spec := "fnExactStatesOfNumber", unfollowed := true, recurses := true, apart := false }
def FnExactStatesOfNumberSaid : Prop := fnExactStatesOfNumberRow.holds Tryz.pinned (OpenSpec.ofChange fnExactStatesOfNumberSpec)

/-- ITS FALSE NEIGHBOUR: 'it returns false'. Refute it at one input. -/
def fnExactStatesOfNumberWrong : ChangeSpec := { name := "fnExactStatesOfNumber", fn := fun _ => fun
  | [d1, d2, d3] => { results := [.lit (.bool false)], args := [d1, d2, d3] }
  | _ => none }
def FnExactStatesOfNumberWrongFalsely : Prop := fnExactStatesOfNumberRow.holds Tryz.pinned (OpenSpec.ofChange fnExactStatesOfNumberWrong)

/- THE SECOND FORM. 'bulk': how many values and letters a reading holds, each counted each time it is reached (what is shared counts as often as it is met; a slice's spare places count too). A statement '..UptoSaid' is the law's where the arguments, and the package variables that the reading takes, are together of bulk at most 1048576: NARROWER than '..Said'. Prove '..Said' where nothing that the law and all that it calls make is longer than what came in: it says more and counts as full. Else prove '..UptoSaid'. A law counts once. -/
mutual
def uptoBulk {H : Type} : DataW H → Nat
  | .lit (.string bytes) => bytes.length + 1
  | .lit _ => 1
  | .nil => 1
  | .ptr d => uptoBulk d + 1
  | .slice elems spare => uptoBulkAll elems + uptoBulkAll spare + 1
  | .agg parts => uptoBulkAll parts + 1
  | .iface _ d => uptoBulk d + 1
  | .map entries => uptoBulkEntries entries + 1
  | .held _ => 1
def uptoBulkAll {H : Type} : List (DataW H) → Nat
  | [] => 0
  | d :: r => uptoBulk d + uptoBulkAll r
def uptoBulkEntries {H : Type} : List (Lit × DataW H) → Nat
  | [] => 0
  | x :: r => uptoBulkEntry x + uptoBulkEntries r
def uptoBulkEntry {H : Type} : Lit × DataW H → Nat
  | (.string bytes, d) => bytes.length + uptoBulk d + 1
  | (_, d) => uptoBulk d + 1
 end
def uptoSmall : (H : Type) → List (DataW H) → Bool := fun _ ds => decide (uptoBulkAll ds ≤ 1048576)
def OpenSpec.upto (s : _root_.Go.ChangeSpec) : _root_.Go.OpenSpec := { _root_.Go.OpenSpec.ofChange s with cond := some uptoSmall }

/-- 'laws.FnExactCountStates', WHERE WHAT IT READS IS OF BULK AT MOST 1048576: true; the input reads as it did. -/
def fnExactCountStatesUptoRow : OpenClaim := { program := "ytcfbkickiijjkaagreat", sum := "893fd4c0d132715b7e1ba3667558cb3bdf2f458c3b972329c3728e7a8008abf2", func := "loop.example/g01084/laws.FnExactCountStates", spec := "fnExactCountStates", unfollowed := true, recurses := true, apart := false, narrowed := true }
def FnExactCountStatesUptoSaid : Prop := fnExactCountStatesUptoRow.holds Tryz.pinned (OpenSpec.upto fnExactCountStatesSpec)

/-- 'laws.FnExactStateNumber', WHERE WHAT IT READS IS OF BULK AT MOST 1048576: true; the input reads as it did. -/
def fnExactStateNumberUptoRow : OpenClaim := { program := "ytcfbkickiijjkaagreat", sum := "893fd4c0d132715b7e1ba3667558cb3bdf2f458c3b972329c3728e7a8008abf2", func := "loop.example/g01084/laws.FnExactStateNumber", spec := "fnExactStateNumber", unfollowed := true, recurses := true, apart := false, narrowed := true }
def FnExactStateNumberUptoSaid : Prop := fnExactStateNumberUptoRow.holds Tryz.pinned (OpenSpec.upto fnExactStateNumberSpec)

/-- 'laws.FnExactStatesOfNumber', WHERE WHAT IT READS IS OF BULK AT MOST 1048576: true; the input reads as it did. -/
def fnExactStatesOfNumberUptoRow : OpenClaim := { program := "ytcfbkickiijjkaagreat", sum := "893fd4c0d132715b7e1ba3667558cb3bdf2f458c3b972329c3728e7a8008abf2", func := "loop.example/g01084/laws.FnExactStatesOfNumber", spec := "fnExactStatesOfNumber", unfollowed := true, recurses := true, apart := false, narrowed := true }
def FnExactStatesOfNumberUptoSaid : Prop := fnExactStatesOfNumberUptoRow.holds Tryz.pinned (OpenSpec.upto fnExactStatesOfNumberSpec)

end Rows
end Go.Proofs.YtcfbkickiijjkaaGreat
