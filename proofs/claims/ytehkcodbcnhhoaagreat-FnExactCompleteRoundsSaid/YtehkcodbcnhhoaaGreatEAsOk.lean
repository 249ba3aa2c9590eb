/-
  Asynchronous states, the program's side: asyncOk, IsAsyncState.
-/
import Derived.Test.YtehkcodbcnhhoaaGreatESOk
namespace Go.Proofs.YtehkcodbcnhhoaaGreat
open Go.RowKit
set_option linter.all false
end Go.Proofs.YtehkcodbcnhhoaaGreat
