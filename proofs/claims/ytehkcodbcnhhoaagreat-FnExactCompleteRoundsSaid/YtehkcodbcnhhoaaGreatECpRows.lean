/-
  Copies of lists, the program's side: slices.Clone of letters, copyLists. No condition.
-/
import Derived.Test.YtehkcodbcnhhoaaGreatEAsyOwn6
namespace Go.Proofs.YtehkcodbcnhhoaaGreat
open Go.RowKit
set_option linter.all false
end Go.Proofs.YtehkcodbcnhhoaaGreat
