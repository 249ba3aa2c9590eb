/-
  Ranks that grow along all arcs: waAbove, for every good walk problem and ranks of the right shape.
-/
import Derived.Test.YtlmdebjbjbadlaaDoorRows
import Derived.Test.YtlmdebjbjbadlaaDoorKit
import Derived.Test.YtlmdebjbjbadlaaDoorMem
import Derived.Test.YtlmdebjbjbadlaaDoorArgs
import Derived.Test.YtlmdebjbjbadlaaDoorLists
import Derived.Test.YtlmdebjbjbadlaaDoorWithin
import Derived.Test.YtlmdebjbjbadlaaDoorGood
import Derived.Test.YtlmdebjbjbadlaaDoorArcs
import Derived.Test.YtlmdebjbjbadlaaDoorRanks
import Derived.WalkKit
import Derived.WalkSpells
import Derived.WalkLawsBesides
import Derived.Lib.Hide
import Derived.Deep.QuietTactic
import Derived.BigQuiet
namespace Go.Proofs.YtlmdebjbjbadlaaDoor
open Go.RowKit
set_option linter.unusedVariables false

end Go.Proofs.YtlmdebjbjbadlaaDoor
