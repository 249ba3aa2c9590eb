/-
  Machines, the reference's side: maRow, maGood.
-/
import Derived.Test.YtehkcodbcnhhoaaGreatEZ
namespace Go.Proofs.YtehkcodbcnhhoaaGreat
open Go.RowKit
set_option linter.all false
noncomputable def mrB (l : List Int) (many most : Int) : Bool := propB (rowP l many most)
theorem mrB_t {l : List Int} {many most : Int} (h1 : (l.length : Int) = many) (h2 : allB l 0 (most - 1) = true) : mrB l many most = true := propB_t ⟨h1, allB_iff.1 h2⟩
theorem mrB_len {l : List Int} {many most : Int} (h1 : (l.length : Int) ≠ many) : mrB l many most = false := propB_f fun h => h1 h.1
theorem mrB_all {l : List Int} {many most : Int} (h2 : allB l 0 (most - 1) = false) : mrB l many most = false := propB_f fun h => by rw [allB_iff.2 h.2] at h2; cases h2
theorem spec_maRow (v : Value) (xs : List Int) (many most : Int) (w : World) (h : IntsR w w.heap.size v xs) (hm : 0 ≤ most ∧ most ≤ 1000) :
    Calls Tryz.prog 72 #[v, .int .i64 many, .int .i64 most] w fun e w' => e = .returned (.bool (mrB xs many most)) ∧ w = w' := by
  have H := Lib.hid h
  obtain ⟨A, c, rfl, hc1, hc2, -⟩ := h.open_
  unfold maxLen at hc2
  clear h
  by_cases h1 : (xs.length : Int) = many
  · cases h2 : allB xs 0 (most - 1) with
    | true =>
      have HF := Lib.hid (mrB_t h1 h2).symm
      subst h1
      go_enter Tryz.func72, Tryz.ntmps72
      go_wp2_with fail
      refine (spec_l1All _ xs 0 (most - 1) w H.out).mono ?_
      rintro e w' ⟨rfl, rfl⟩
      rw [h2]
      go_wp2_with fail
      go_ret
      exact ⟨ret_bool HF.out, rfl⟩
    | false =>
      have HF := Lib.hid (mrB_all (many := many) h2).symm
      subst h1
      go_enter Tryz.func72, Tryz.ntmps72
      go_wp2_with fail
      refine (spec_l1All _ xs 0 (most - 1) w H.out).mono ?_
      rintro e w' ⟨rfl, rfl⟩
      rw [h2]
      go_wp2_with fail
      go_ret
      exact ⟨ret_bool HF.out, rfl⟩
  · have HF := Lib.hid (mrB_len (most := most) h1).symm
    have hb : (((xs.length : Nat) : Int) == many) = false := by rw [beq_eq_false_iff_ne]; exact h1
    go_enter Tryz.func72, Tryz.ntmps72
    go_wp2_with fail
    go_ret
    exact ⟨ret_bool HF.out, rfl⟩
theorem box7 (w : World) (a b c d e f g : Value) (t : TypeId) : ∃ w0, w0 = w.alloc (.cells #[a, b, c, d, e, f, g] t) ∧ Below w.heap.size w w0 ∧ Hid (w0.heap[w.heap.size]? = some (.cells #[a, b, c, d, e, f, g] t (0, 0))) ∧ w.heap.size < w0.heap.size ∧ Hid (w0.heap.size = w.heap.size + 1) :=
  ⟨_, rfl, bl_alloc (Below.refl _ _) _, Lib.hid (heap_alloc_new w _), by simp, Lib.hid (by simp)⟩
theorem cells7 {w : World} {b : Nat} {v0 v1 v2 v3 v4 v5 v6 : Value} {t : TypeId} (H : Hid (w.heap[b]? = some (.cells #[v0, v1, v2, v3, v4, v5, v6] t (0, 0)))) :
    (w.cell? ⟨b, 0, none⟩ = some v0 ∧ w.cell? ⟨b, 1, none⟩ = some v1 ∧ w.cell? ⟨b, 2, none⟩ = some v2) ∧ (w.cell? ⟨b, 3, none⟩ = some v3 ∧ w.cell? ⟨b, 4, none⟩ = some v4 ∧ w.cell? ⟨b, 5, none⟩ = some v5 ∧ w.cell? ⟨b, 6, none⟩ = some v6) ∧ ∀ i, w.frozen? ⟨b, i, none⟩ = false :=
  ⟨⟨cell_of_row _ _ 0 _ _ (0, 0) H.out, cell_of_row _ _ 1 _ _ (0, 0) H.out, cell_of_row _ _ 2 _ _ (0, 0) H.out⟩, ⟨cell_of_row _ _ 3 _ _ (0, 0) H.out, cell_of_row _ _ 4 _ _ (0, 0) H.out, cell_of_row _ _ 5 _ _ (0, 0) H.out, cell_of_row _ _ 6 _ _ (0, 0) H.out⟩, fun i => frozen_of_row _ _ i _ _ H.out⟩
end Go.Proofs.YtehkcodbcnhhoaaGreat
