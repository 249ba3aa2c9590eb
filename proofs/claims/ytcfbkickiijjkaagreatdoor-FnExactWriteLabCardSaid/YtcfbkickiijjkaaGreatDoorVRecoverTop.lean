/-
  RecoverLab of the program and of the reference.
-/
import Derived.Test.YtcfbkickiijjkaaGreatDoorVRecoverImpl
namespace Go.Proofs.YtcfbkickiijjkaaGreatDoor
open Go.RowKit
set_option linter.all false
theorem recGo_store (g : Int) : ∀ (f : Nat) (rest : List UInt8) (xs : List Item) (n b : Nat), storeP xs → storeP (recGo g f rest xs n b).1
  | 0, _, _, _, _, h => h
  | f + 1, rest, xs, n, b, h => by
    unfold recGo
    split
    · rename_i hok
      unfold okR at hok
      rw [Bool.and_eq_true, Bool.and_eq_true] at hok
      exact recGo_store g f _ _ _ _ (ap_store h (propB_iff.1 hok.2.2))
    · exact h
theorem fX_store (a b l : List UInt8) : storeP (fX a b l) := by
  unfold fX
  split
  · rename_i h
    obtain ⟨⟨f, h1, h2, h3, h4, h5⟩, -⟩ := rv_start h
    unfold rvR
    exact recGo_store _ _ _ _ _ _ h5
  · exact ⟨fun i h => absurd h (Nat.not_lt_zero _), by simp⟩
end Go.Proofs.YtcfbkickiijjkaaGreatDoor
