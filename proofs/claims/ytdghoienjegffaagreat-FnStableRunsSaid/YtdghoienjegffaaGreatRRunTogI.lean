/-
  Runs in rounds: the program's RunTogether. Condition: sizes.
-/
import Derived.Test.YtdghoienjegffaaGreatRNextI
namespace Go.Proofs.YtdghoienjegffaaGreat
open Go.RowKit
set_option linter.all false
end Go.Proofs.YtdghoienjegffaaGreat
