/-
  Networks, the program's side: whether a network hangs together; stubs and loops; a token ring; which rules run on it.
-/
import Derived.Test.YtfhecpkhifdnbaaGreatNetFar
namespace Go.Proofs.YtfhecpkhifdnbaaGreat
open Go.RowKit
set_option linter.unusedVariables false
set_option linter.unusedSimpArgs false
theorem impl_Contains (v : Value) (xs : List Int) (x : Int) (w : World) (h : IntsR w w.heap.size v xs) :
    Calls Tryz.prog 117 #[v, .int .i64 x] w fun e w' => e = .returned (.bool (xs.contains x)) ∧ w = w' := by
  obtain ⟨A, c, rfl, h1, h2, h3⟩ := h.open_
  unfold maxLen at h2
  by_cases h0 : xs.length = 0
  · obtain rfl : xs = [] := List.eq_nil_of_length_eq_zero h0
    refine (Tryz.slices_Contains_int_empty A c x w).mono ?_
    rintro e w' ⟨rfl, rfl⟩
    exact ⟨rfl, rfl⟩
  · obtain ⟨ad, rfl, hb, hc⟩ := h3 (by omega)
    obtain ⟨b, off, rfl, hcc⟩ := ints_cells (by omega) hc
    refine (Tryz.slices_Contains_int b off xs.length c xs x w (Nat.le_refl _) (by omega) hcc).mono ?_
    rintro e w' ⟨rfl, rfl⟩
    rw [List.take_length]
    exact ⟨rfl, rfl⟩
theorem conn_eq (n : Net) : (!decide ((-1 : Int) ∈ far n.es 0)) = connB n := by
  by_cases h : (-1 : Int) ∈ far n.es 0
  · rw [show connB n = false from propB_f fun hc => hc h, decide_eq_true h]
    rfl
  · rw [show connB n = true from propB_t h, decide_eq_false h]
    rfl
theorem impl_isConnected (ve vi vn : Value) (n : Net) (w : World) (h : NetR w w.heap.size ve vi vn n) (hp : netP n) :
    Calls Tryz.prog 241 #[.agg #[ve, vi, vn]] w fun e w' => e = .returned (.bool (connB n)) ∧ Below w.heap.size w w' := by
  have HP := Lib.hid hp; clear hp
  obtain ⟨⟨A0, m0, c0, rfl⟩, ⟨A1, m1, c1, rfl⟩, A2, m2, c2, rfl⟩ := h.slices
  obtain ⟨w0, hw0, hB, HD, hz0, HS0⟩ := box3 w (.slice A0 m0 c0) (.slice A1 m1 c1) (.slice A2 m2 c2) 31
  have HN0 := Lib.hid h; have HN := Lib.hid (h.up hB); clear h
  have HW0 := Lib.hid hw0; clear hw0
  obtain ⟨q0, q1, q2, qf⟩ := cells3 HD
  go_enter Tryz.func241, Tryz.ntmps241
  go_wp2_with fail
  rw [← HW0.out]
  refine (impl_distancesFrom _ _ _ n 0 w0 HN.out HP.out (by have := HP.out.1.1; omega)).mono ?_
  rintro e w1 ⟨u, rfl, ⟨A', m', c', rfl⟩, hu, hb1⟩
  have hzhb1 := hb1.size
  clear q0 q1 q2 qf
  replace HD := bk HD hb1
  replace HN := Lib.hid (HN.out.up hb1)
  replace hB := bl_trans hB hb1
  obtain ⟨q0, q1, q2, qf⟩ := cells3 HD
  have HU := Lib.hid hu; clear hu
  go_wp2_with fail
  refine (impl_Contains _ (far n.es 0) (-1) w1 HU.out).mono ?_
  rintro e w2 ⟨rfl, rfl⟩
  have HC := Lib.hid (conn_eq n)
  go_wp2_with fail
  go_ret
  exact ⟨ret_bool HC.out, hB⟩
end Go.Proofs.YtfhecpkhifdnbaaGreat
