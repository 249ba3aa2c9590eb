/-
  The laws' own functions over walk problems: szWalkProblem, toWalkProblem, eqWalkProblem.
-/
import Derived.Test.YtldbljflppjanaaRows
import Derived.Test.YtldbljflppjanaaKit
import Derived.Test.YtldbljflppjanaaMem
import Derived.Test.YtldbljflppjanaaArgs
import Derived.WalkKit
import Derived.WalkSpells
import Derived.WalkLawsBesides
import Derived.Lib.Hide
namespace Go.Proofs.Ytldbljflppjanaa
open Go.RowKit
set_option linter.unusedVariables false

/-- A walk problem's value. -/
abbrev walkV (n : Int) (v : Value) : Value := .agg #[.int .i64 n, v]
theorem sz_Walk (n : Int) (v : Value) (xss : List (List Int)) (left : Int) (w : World) (h : RowsR w w.heap.size v xss) (hl : 0 ≤ left) (hl' : left ≤ 1048576) :
    Calls Try.prog 4 #[walkV n v, .int .i64 left] w fun e w' => e = .returned (.int .i64 (szR left (szRows xss))) ∧ Below w.heap.size w w' := by
  have hz := szR_le (left := left) (n := szRows xss) hl
  have HH := Lib.hid h; clear h
  go_enter Try.func4, Try.ntmps4
  go_wp2_with fail
  refine (sz_IntSS v xss left _ ((HH.out.below (bl_alloc (Below.refl _ _) _)).more (by simp)) hl hl').mono ?_
  rintro e w1 ⟨rfl, rfl⟩
  by_cases hn : szR left (szRows xss) < 0
  · have h1 : szR left (szRows xss) = -1 := by unfold szR at *; split <;> simp_all; omega
    have H1 := Lib.hid h1; clear h1
    go_wp2
    go_ret
    exact ⟨ret_int H1.out.symm, bl_alloc (Below.refl _ _) _⟩
  · go_wp2
    go_ret
    exact ⟨rfl, bl_alloc (Below.refl _ _) _⟩
theorem to_Walk (n : Int) (v : Value) (xss : List (List Int)) (w : World) (h : RowsR w w.heap.size v xss) (hn : szRows xss ≤ 1048576) :
    Calls Try.prog 6 #[walkV n v] w fun e w' => ∃ v' bs, e = .returned (walkV n v') ∧ OwnRows w' 26 3 v' xss bs ∧ bs.Nodup ∧ (∀ b ∈ bs, w.heap.size ≤ b ∧ b < w'.heap.size) ∧ Below w.heap.size w w' := by
  have HH := Lib.hid h; clear h
  go_enter Try.func6, Try.ntmps6
  go_wp2_with fail
  refine (to_IntSS v xss _ ((HH.out.below (bl_alloc (bl_alloc (bl_alloc (Below.refl _ _) _) _) _)).more (by simp; omega)) hn).mono ?_
  rintro e w1 ⟨v', bs, rfl, ho, hnd, hbs, hb1⟩
  have hz1 := hb1.size
  simp at hz1 hbs
  obtain ⟨hc1, hf1⟩ := bx (w.heap.size + 1) hb1 (by simp)
  obtain ⟨hc2, hf2⟩ := bx (w.heap.size + 1 + 1) hb1 (by simp)
  obtain ⟨A', m', c', rfl⟩ := ho.isSlice
  go_wp2_with fail
  refine bodyPost_ret (v := walkV n (.slice A' m' c')) (by simp [results, Try.results6, go_sem, hc1]) rfl ⟨_, bs, rfl, ?_, hnd, ?_, ?_⟩
  · refine ho.keep fun b hb => ?_
    have := hbs b hb
    rw [Below.heap_setCell _ _ _ _ (by simp; omega), Below.heap_setCell _ _ _ _ (by simp; omega), Below.heap_setCell _ _ _ _ (by simp; omega)]
  · intro b hb
    have := hbs b hb
    simp
    omega
  · exact (((bl_trans (bl_alloc (bl_alloc (bl_alloc (Below.refl _ _) _) _) _) hb1).setCell (by simp; omega) _).setCell (by simp) _).setCell (by simp) _
theorem eq_Walk (n : Int) (v v' : Value) (xss : List (List Int)) (w : World) (h : RowsR w w.heap.size v xss) (h' : RowsR w w.heap.size v' xss) :
    Calls Try.prog 9 #[walkV n v, walkV n v'] w fun e w' => e = .returned (.bool true) ∧ Below w.heap.size w w' := by
  have HH := Lib.hid h; clear h
  have HH' := Lib.hid h'; clear h'
  go_enter Try.func9, Try.ntmps9
  go_wp2_with fail
  refine (eq_IntSS v v' xss _ ((HH.out.below (bl_alloc (bl_alloc (Below.refl _ _) _) _)).more (by simp; omega)) ((HH'.out.below (bl_alloc (bl_alloc (Below.refl _ _) _) _)).more (by simp; omega))).mono ?_
  rintro e w1 ⟨rfl, m, rfl⟩
  go_wp2_with fail
  go_ret
  exact ⟨rfl, bl_drewN (bl_alloc (bl_alloc (Below.refl _ _) _) _) _⟩
end Go.Proofs.Ytldbljflppjanaa
