/-
  Which acts are possible, the reference's side: MayAsync; an act copied by the laws' own function.
-/
import Derived.Test.YtehkcodbcnhhoaaGreatESyDo
namespace Go.Proofs.YtehkcodbcnhhoaaGreat
open Go.RowKit
set_option linter.all false
end Go.Proofs.YtehkcodbcnhhoaaGreat
