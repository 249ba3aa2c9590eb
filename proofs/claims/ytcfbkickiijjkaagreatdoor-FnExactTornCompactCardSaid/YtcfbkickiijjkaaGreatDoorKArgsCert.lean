/-
  The laws' own functions over certificates of walk problems: szWalkCertificate, toWalkCertificate, eqWalkCertificate.
-/
import Derived.Test.YtcfbkickiijjkaaGreatDoorRows
import Derived.Test.YtcfbkickiijjkaaGreatDoorKZ
import Derived.WalkKit
import Derived.WalkSpells
import Derived.WalkLawsBesides
import Derived.Lib.Hide
namespace Go.Proofs.YtcfbkickiijjkaaGreatDoor
open Go.RowKit
set_option linter.unusedVariables false
abbrev certV (cl lb : Int) (vf vs vr : Value) : Value := .agg #[.int .i64 cl, .int .i64 lb, vf, vs, vr]
def szCert (f s : List Int) (rs : List (List Int)) : Nat := f.length + s.length + szRows rs
end Go.Proofs.YtcfbkickiijjkaaGreatDoor
