/-
  Asynchronous states, the program's side: slotsOk, asyncOk, IsAsyncState.
-/
import Derived.Test.YtehkcodbcnhhoaaGreatERunsOn
namespace Go.Proofs.YtehkcodbcnhhoaaGreat
open Go.RowKit
set_option linter.all false
end Go.Proofs.YtehkcodbcnhhoaaGreat
