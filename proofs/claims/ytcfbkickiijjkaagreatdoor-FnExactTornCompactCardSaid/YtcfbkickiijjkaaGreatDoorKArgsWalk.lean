/-
  The laws' own functions over walk problems: szWalkProblem, toWalkProblem, eqWalkProblem.
-/
import Derived.Test.YtcfbkickiijjkaaGreatDoorRows
import Derived.Test.YtcfbkickiijjkaaGreatDoorKZ
import Derived.WalkKit
import Derived.WalkSpells
import Derived.WalkLawsBesides
import Derived.Lib.Hide
namespace Go.Proofs.YtcfbkickiijjkaaGreatDoor
open Go.RowKit
set_option linter.unusedVariables false
end Go.Proofs.YtcfbkickiijjkaaGreatDoor
