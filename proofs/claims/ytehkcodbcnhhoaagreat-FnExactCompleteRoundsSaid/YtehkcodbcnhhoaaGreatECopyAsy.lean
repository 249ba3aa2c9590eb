/-
  The program's copyAsync: a copy of a state in memory of its own.
-/
import Derived.Test.YtehkcodbcnhhoaaGreatECpRows
namespace Go.Proofs.YtehkcodbcnhhoaaGreat
open Go.RowKit
set_option linter.all false
end Go.Proofs.YtehkcodbcnhhoaaGreat
