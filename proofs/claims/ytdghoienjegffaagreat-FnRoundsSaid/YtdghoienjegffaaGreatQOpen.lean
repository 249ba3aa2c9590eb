/-
  From the reading of an argument (a slice of numbers, a slice of such slices) to what the walks ask of memory. No program in sight, no condition.
-/
import Derived.Test.YtdghoienjegffaaGreatQZ
import Derived.Deep.Slices
import Derived.Deep.Matrix
namespace Go.Proofs.YtdghoienjegffaaGreat
open Go.RowKit Go.ChangeShapes Go.WideShapes Go.Deep
set_option linter.all false
section
variable {H : Type} {enc : TypeId × Value → H} {P : Program} {w : World} {base : Nat} {spare : Nat → Bool} {held : Bool}
end
end Go.Proofs.YtdghoienjegffaaGreat
