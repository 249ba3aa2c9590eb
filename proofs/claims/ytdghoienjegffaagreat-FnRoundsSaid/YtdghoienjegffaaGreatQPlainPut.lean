/-
  A rising list put together one by one is the sorted list without what comes twice: the plain law, with no program in sight. No condition.
-/
import Derived.Test.YtdghoienjegffaaGreatQZ
import Derived.Lib.SlicesCompact
namespace Go.Proofs.YtdghoienjegffaaGreat
open Go
set_option linter.all false
def putS : List Int → Int → List Int
  | [], x => [x]
  | y :: r, x => if y < x then y :: putS r x else if y = x then y :: r else x :: y :: r
theorem putS_mem : ∀ (l : List Int) (x z : Int), z ∈ putS l x ↔ z = x ∨ z ∈ l
  | [], x, z => by simp [putS]
  | y :: r, x, z => by
    unfold putS
    split
    · rw [List.mem_cons, putS_mem r x z, List.mem_cons]
      constructor <;> (intro h; rcases h with h | h | h <;> simp [h])
    · split
      · rename_i h; subst h; simp
      · simp
end Go.Proofs.YtdghoienjegffaaGreat
