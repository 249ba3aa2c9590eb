/-
  Lists of lists of a call's own, made at their full length and filled one by one (Pack); owned states put together of parts. No program in sight, no condition.
-/
import Derived.Test.YtehkcodbcnhhoaaGreatEAsyOwn5
namespace Go.Proofs.YtehkcodbcnhhoaaGreat
open Go.RowKit
set_option linter.all false
section
variable {w w1 : World} {N n j : Nat} {ty : TypeId} {R0 : Nat → RowD} {val : Key → Value}
end
end Go.Proofs.YtehkcodbcnhhoaaGreat
