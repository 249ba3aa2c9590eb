/-
  The laws' own functions over walk problems: szWalkProblem, toWalkProblem, eqWalkProblem.
-/
import Derived.Test.YtcfbkickiijjkaaGreatDoorRows
import Derived.Test.YtcfbkickiijjkaaGreatDoorQZ
import Derived.WalkKit
import Derived.WalkSpells
import Derived.WalkLawsBesides
import Derived.Lib.Hide
namespace Go.Proofs.YtcfbkickiijjkaaGreatDoor
open Go.RowKit
set_option linter.unusedVariables false
abbrev walkV (n : Int) (v : Value) : Value := .agg #[.int .i64 n, v]
theorem eq_Walk (n : Int) (v v' : Value) (xss : List (List Int)) (w : World) (h : RowsR w w.heap.size v xss) (h' : RowsR w w.heap.size v' xss) :
    Calls Tryz.prog 49 #[walkV n v, walkV n v'] w fun e w' => e = .returned (.bool true) ∧ Below w.heap.size w w' := by
  have HH := Lib.hid h; clear h
  have HH' := Lib.hid h'; clear h'
  go_enter Tryz.func49, Tryz.ntmps49
  go_wp2_with fail
  refine (eq_IntSS v v' xss _ ((HH.out.below (bl_alloc (bl_alloc (Below.refl _ _) _) _)).more (by simp; omega)) ((HH'.out.below (bl_alloc (bl_alloc (Below.refl _ _) _) _)).more (by simp; omega))).mono ?_
  rintro e w1 ⟨rfl, m, rfl⟩
  go_wp2_with fail
  go_ret
  exact ⟨rfl, bl_drewN (bl_alloc (bl_alloc (Below.refl _ _) _) _) _⟩
end Go.Proofs.YtcfbkickiijjkaaGreatDoor
