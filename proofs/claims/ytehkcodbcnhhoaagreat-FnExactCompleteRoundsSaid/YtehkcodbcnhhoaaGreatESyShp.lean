/-
  Asynchronous states, the reference's side: syShape.
  Asynchronous states, the reference's side: syGood.
-/
import Derived.Test.YtehkcodbcnhhoaaGreatEMaOn
namespace Go.Proofs.YtehkcodbcnhhoaaGreat
section
open Go.RowKit
set_option linter.all false
end
section
open Go.RowKit
set_option linter.all false
end
end Go.Proofs.YtehkcodbcnhhoaaGreat
