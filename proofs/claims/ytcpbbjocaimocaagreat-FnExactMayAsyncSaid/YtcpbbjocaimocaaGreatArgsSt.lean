/-
  The laws' own functions over machines and asynchronous states: sizes, equality.
-/
import Derived.Test.YtcpbbjocaimocaaGreatArgsMach
import Derived.Test.YtcpbbjocaimocaaGreatMaS
namespace Go.Proofs.YtcpbbjocaimocaaGreat
open Go.RowKit
set_option linter.unusedVariables false
set_option linter.unusedSimpArgs false
theorem boxS5 (w : World) (a b c d e : Value) (t : TypeId) : ∃ w0, w0 = w.alloc (.cells #[a, b, c, d, e] t) ∧ Below w.heap.size w w0 ∧ Hid (w0.heap[w.heap.size]? = some (.cells #[a, b, c, d, e] t (0, 0))) ∧ w.heap.size < w0.heap.size ∧ Hid (w0.heap.size = w.heap.size + 1) :=
  ⟨_, rfl, bl_alloc (Below.refl _ _) _, Lib.hid (heap_alloc_new w _), by simp, Lib.hid (by simp)⟩
theorem cellsS5 {w : World} {b : Nat} {v0 v1 v2 v3 v4 : Value} {t : TypeId} (H : Hid (w.heap[b]? = some (.cells #[v0, v1, v2, v3, v4] t (0, 0)))) :
    w.cell? ⟨b, 0, none⟩ = some v0 ∧ w.cell? ⟨b, 1, none⟩ = some v1 ∧ w.cell? ⟨b, 2, none⟩ = some v2 ∧ w.cell? ⟨b, 3, none⟩ = some v3 ∧ w.cell? ⟨b, 4, none⟩ = some v4 ∧ ∀ i, w.frozen? ⟨b, i, none⟩ = false :=
  ⟨cell_of_row _ _ 0 _ _ (0, 0) H.out, cell_of_row _ _ 1 _ _ (0, 0) H.out, cell_of_row _ _ 2 _ _ (0, 0) H.out, cell_of_row _ _ 3 _ _ (0, 0) H.out, cell_of_row _ _ 4 _ _ (0, 0) H.out, fun i => frozen_of_row _ _ i _ _ H.out⟩
theorem sz_Mach (vs ve vc vo : Value) (m : Mach) (left : Int) (w : World) (h : MachR w w.heap.size vs ve vc vo m) (hl : 0 ≤ left) (hl' : left ≤ 1048576) :
    Calls Tryz.prog 9 #[.agg #[.int .i64 m.deg, .int .i64 m.st, .int .i64 m.msg, vs, ve, vc, vo], .int .i64 left] w fun e w' => e = .returned (.int .i64 (szR left (szMach m))) ∧ Below w.heap.size w w' := by
  obtain ⟨A0, m0, c0, e0⟩ := h.slices.1
  skip
  obtain ⟨A1, m1, c1, e1⟩ := h.slices.2.1
  skip
  obtain ⟨A2, m2, c2, e2⟩ := h.slices.2.2.1
  skip
  obtain ⟨A3, c3, e3, -, hm3, -⟩ := h.o.open_
  replace hm3 : m.out.length ≤ maxLen := by have := h.o.1.len_le; rwa [List.length_map] at this
  subst e0
  subst e1
  subst e2
  subst e3
  obtain ⟨w0, hw0, hB, HD, hz0, HS0⟩ := box7 w (.int .i64 m.deg) (.int .i64 m.st) (.int .i64 m.msg) (.slice A0 m0 c0) (.slice A1 m1 c1) (.slice A2 m2 c2) (.slice A3 m.out.length c3) 26
  have HW0 := Lib.hid hw0; clear hw0
  have H := Lib.hid (h.up hB); clear h
  obtain ⟨⟨g0, g1, g2⟩, ⟨q0, q1, q2, q3⟩, qf⟩ := cells7 HD
  have J0 := Lib.hid (fun (l : Int) (h1 : 0 ≤ l) (h2 : l ≤ 1048576) => sz_IntSS _ m.start l w0 H.out.s h1 h2)
  have J1 := Lib.hid (fun (l : Int) (h1 : 0 ≤ l) (h2 : l ≤ 1048576) => sz_IntSS _ m.send l w0 H.out.e h1 h2)
  have J2 := Lib.hid (fun (l : Int) (h1 : 0 ≤ l) (h2 : l ≤ 1048576) => sz_ClauseS _ m.cls l w0 H.out.c h1 h2)
  have J3 := Lib.hid (fun (W : World) (l : Int) (h1 : 0 ≤ l) (h2 : l ≤ 1048576) => sz_IntS A3 m.out.length c3 l W hm3 h1 h2)
  have HN : szMach m = szRows m.start + szRows m.send + szCls m.cls + m.out.length := rfl
  generalize szMach m = N at *
  generalize szRows m.start = a at *
  generalize szRows m.send = b at *
  generalize szCls m.cls = c at *
  generalize m.out.length = d at *
  clear H hm3
  have F0 : ¬ ((a : Int) ≤ left) → szR left N = -1 := fun h => by unfold szR; rw [if_neg (by omega)]
  have F1 : ¬ ((b : Int) ≤ left - a) → szR left N = -1 := fun h => by unfold szR; rw [if_neg (by omega)]
  have F2 : ¬ ((c : Int) ≤ left - a - b) → szR left N = -1 := fun h => by unfold szR; rw [if_neg (by omega)]
  have F3 : ¬ ((d : Int) ≤ left - a - b - c) → szR left N = -1 := fun h => by unfold szR; rw [if_neg (by omega)]
  have FZ : (d : Int) ≤ left - a - b - c → szR left N = left - a - b - c - d := fun h => by unfold szR; rw [if_pos (by omega)]; omega
  generalize szR left N = R at *
  clear HN
  go_enter Tryz.func9, Tryz.ntmps9
  go_wp2_with fail
  rw [← HW0.out]
  refine (J0.out (left) (by omega) (by omega)).mono ?_
  rintro e w' ⟨rfl, rfl⟩
  by_cases h0 : (a : Int) ≤ left
  · have e0 : szR (left) a = left - a := by unfold szR; rw [if_pos h0]
    rw [e0]
    go_wp2_with fail
    refine (J1.out (left - a) (by omega) (by omega)).mono ?_
    rintro e w' ⟨rfl, rfl⟩
    by_cases h1 : (b : Int) ≤ left - a
    · have e1 : szR (left - a) b = left - a - b := by unfold szR; rw [if_pos h1]
      rw [e1]
      go_wp2_with fail
      refine (J2.out (left - a - b) (by omega) (by omega)).mono ?_
      rintro e w7 ⟨rfl, hb2⟩
      replace HD := bk HD hb2
      replace hB := bl_trans hB hb2
      clear g0 g1 g2 q0 q1 q2 q3 qf
      obtain ⟨⟨g0, g1, g2⟩, ⟨q0, q1, q2, q3⟩, qf⟩ := cells7 HD
      by_cases h2 : (c : Int) ≤ left - a - b
      · have e2 : szR (left - a - b) c = left - a - b - c := by unfold szR; rw [if_pos h2]
        rw [e2]
        go_wp2_with fail
        refine (J3.out w7 (left - a - b - c) (by omega) (by omega)).mono ?_
        rintro e w' ⟨rfl, rfl⟩
        by_cases h3 : (d : Int) ≤ left - a - b - c
        · have e3 : szR (left - a - b - c) d = left - a - b - c - d := by unfold szR; rw [if_pos h3]
          rw [e3]
          go_wp2_with fail
          go_ret
          exact ⟨ret_int (FZ h3).symm, hB⟩
        · have e3 : szR (left - a - b - c) d = -1 := by unfold szR; rw [if_neg h3]
          rw [e3]
          go_wp2_with fail
          go_ret
          exact ⟨ret_int (F3 h3).symm, hB⟩
      · have e2 : szR (left - a - b) c = -1 := by unfold szR; rw [if_neg h2]
        rw [e2]
        go_wp2_with fail
        go_ret
        exact ⟨ret_int (F2 h2).symm, hB⟩
    · have e1 : szR (left - a) b = -1 := by unfold szR; rw [if_neg h1]
      rw [e1]
      go_wp2_with fail
      go_ret
      exact ⟨ret_int (F1 h1).symm, hB⟩
  · have e0 : szR (left) a = -1 := by unfold szR; rw [if_neg h0]
    rw [e0]
    go_wp2_with fail
    go_ret
    exact ⟨ret_int (F0 h0).symm, hB⟩
theorem sz_Asy (vr vb vn vs vf : Value) (x : Asy) (left : Int) (w : World) (h : AsyR w w.heap.size vr vb vn vs vf x) (hl : 0 ≤ left) (hl' : left ≤ 1048576) :
    Calls Tryz.prog 11 #[.agg #[vr, vb, vn, vs, vf], .int .i64 left] w fun e w' => e = .returned (.int .i64 (szR left (szAsy x))) ∧ Below w.heap.size w w' := by
  obtain ⟨A0, c0, e0, -, hm0, -⟩ := h.r.open_
  replace hm0 : x.rounds.length ≤ maxLen := by have := h.r.1.len_le; rwa [List.length_map] at this
  obtain ⟨A1, c1, e1, -, hm1, -⟩ := h.b.open_
  replace hm1 : x.before.length ≤ maxLen := by have := h.b.1.len_le; rwa [List.length_map] at this
  obtain ⟨A2, c2, e2, -, hm2, -⟩ := h.n.open_
  replace hm2 : x.now.length ≤ maxLen := by have := h.n.1.len_le; rwa [List.length_map] at this
  obtain ⟨A3, m3, c3, e3⟩ := h.slices.2.2.2.1
  skip
  obtain ⟨A4, m4, c4, e4⟩ := h.slices.2.2.2.2
  skip
  subst e0
  subst e1
  subst e2
  subst e3
  subst e4
  obtain ⟨w0, hw0, hB, HD, hz0, HS0⟩ := boxS5 w (.slice A0 x.rounds.length c0) (.slice A1 x.before.length c1) (.slice A2 x.now.length c2) (.slice A3 m3 c3) (.slice A4 m4 c4) 32
  have HW0 := Lib.hid hw0; clear hw0
  have H := Lib.hid (h.up hB); clear h
  obtain ⟨q0, q1, q2, q3, q4, qf⟩ := cellsS5 HD
  have J0 := Lib.hid (fun (W : World) (l : Int) (h1 : 0 ≤ l) (h2 : l ≤ 1048576) => sz_IntS A0 x.rounds.length c0 l W hm0 h1 h2)
  have J1 := Lib.hid (fun (W : World) (l : Int) (h1 : 0 ≤ l) (h2 : l ≤ 1048576) => sz_IntS A1 x.before.length c1 l W hm1 h1 h2)
  have J2 := Lib.hid (fun (W : World) (l : Int) (h1 : 0 ≤ l) (h2 : l ≤ 1048576) => sz_IntS A2 x.now.length c2 l W hm2 h1 h2)
  have J3 := Lib.hid (fun (l : Int) (h1 : 0 ≤ l) (h2 : l ≤ 1048576) => sz_IntSS _ x.slots l w0 H.out.s h1 h2)
  have J4 := Lib.hid (fun (l : Int) (h1 : 0 ≤ l) (h2 : l ≤ 1048576) => sz_LetSSS _ x.flight l w0 H.out.f h1 h2)
  have HN : szAsy x = x.rounds.length + x.before.length + x.now.length + szRows x.slots + szEnds3 x.flight := rfl
  generalize szAsy x = N at *
  generalize x.rounds.length = a at *
  generalize x.before.length = b at *
  generalize x.now.length = c at *
  generalize szRows x.slots = d at *
  generalize szEnds3 x.flight = e5 at *
  clear H hm0 hm1 hm2
  have F0 : ¬ ((a : Int) ≤ left) → szR left N = -1 := fun h => by unfold szR; rw [if_neg (by omega)]
  have F1 : ¬ ((b : Int) ≤ left - a) → szR left N = -1 := fun h => by unfold szR; rw [if_neg (by omega)]
  have F2 : ¬ ((c : Int) ≤ left - a - b) → szR left N = -1 := fun h => by unfold szR; rw [if_neg (by omega)]
  have F3 : ¬ ((d : Int) ≤ left - a - b - c) → szR left N = -1 := fun h => by unfold szR; rw [if_neg (by omega)]
  have F4 : ¬ ((e5 : Int) ≤ left - a - b - c - d) → szR left N = -1 := fun h => by unfold szR; rw [if_neg (by omega)]
  have FZ : (e5 : Int) ≤ left - a - b - c - d → szR left N = left - a - b - c - d - e5 := fun h => by unfold szR; rw [if_pos (by omega)]; omega
  generalize szR left N = R at *
  clear HN
  go_enter Tryz.func11, Tryz.ntmps11
  go_wp2_with fail
  rw [← HW0.out]
  refine (J0.out w0 (left) (by omega) (by omega)).mono ?_
  rintro e w' ⟨rfl, rfl⟩
  by_cases h0 : (a : Int) ≤ left
  · have e0 : szR (left) a = left - a := by unfold szR; rw [if_pos h0]
    rw [e0]
    go_wp2_with fail
    refine (J1.out w0 (left - a) (by omega) (by omega)).mono ?_
    rintro e w' ⟨rfl, rfl⟩
    by_cases h1 : (b : Int) ≤ left - a
    · have e1 : szR (left - a) b = left - a - b := by unfold szR; rw [if_pos h1]
      rw [e1]
      go_wp2_with fail
      refine (J2.out w0 (left - a - b) (by omega) (by omega)).mono ?_
      rintro e w' ⟨rfl, rfl⟩
      by_cases h2 : (c : Int) ≤ left - a - b
      · have e2 : szR (left - a - b) c = left - a - b - c := by unfold szR; rw [if_pos h2]
        rw [e2]
        go_wp2_with fail
        refine (J3.out (left - a - b - c) (by omega) (by omega)).mono ?_
        rintro e w' ⟨rfl, rfl⟩
        by_cases h3 : (d : Int) ≤ left - a - b - c
        · have e3 : szR (left - a - b - c) d = left - a - b - c - d := by unfold szR; rw [if_pos h3]
          rw [e3]
          go_wp2_with fail
          refine (J4.out (left - a - b - c - d) (by omega) (by omega)).mono ?_
          rintro e w' ⟨rfl, rfl⟩
          by_cases h4 : (e5 : Int) ≤ left - a - b - c - d
          · have e4 : szR (left - a - b - c - d) e5 = left - a - b - c - d - e5 := by unfold szR; rw [if_pos h4]
            rw [e4]
            go_wp2_with fail
            go_ret
            exact ⟨ret_int (FZ h4).symm, hB⟩
          · have e4 : szR (left - a - b - c - d) e5 = -1 := by unfold szR; rw [if_neg h4]
            rw [e4]
            go_wp2_with fail
            go_ret
            exact ⟨ret_int (F4 h4).symm, hB⟩
        · have e3 : szR (left - a - b - c) d = -1 := by unfold szR; rw [if_neg h3]
          rw [e3]
          go_wp2_with fail
          go_ret
          exact ⟨ret_int (F3 h3).symm, hB⟩
      · have e2 : szR (left - a - b) c = -1 := by unfold szR; rw [if_neg h2]
        rw [e2]
        go_wp2_with fail
        go_ret
        exact ⟨ret_int (F2 h2).symm, hB⟩
    · have e1 : szR (left - a) b = -1 := by unfold szR; rw [if_neg h1]
      rw [e1]
      go_wp2_with fail
      go_ret
      exact ⟨ret_int (F1 h1).symm, hB⟩
  · have e0 : szR (left) a = -1 := by unfold szR; rw [if_neg h0]
    rw [e0]
    go_wp2_with fail
    go_ret
    exact ⟨ret_int (F0 h0).symm, hB⟩
theorem eq_Mach (vs ve vc vo vs' ve' vc' vo' : Value) (m : Mach) (w : World) (h : MachR w w.heap.size vs ve vc vo m) (h' : MachR w w.heap.size vs' ve' vc' vo' m) :
    Calls Tryz.prog 18 #[.agg #[.int .i64 m.deg, .int .i64 m.st, .int .i64 m.msg, vs, ve, vc, vo], .agg #[.int .i64 m.deg, .int .i64 m.st, .int .i64 m.msg, vs', ve', vc', vo']] w fun e w' => e = .returned (.bool true) ∧ Below w.heap.size w w' := by
  obtain ⟨⟨A0, mA0, cA0, rfl⟩, ⟨A1, mA1, cA1, rfl⟩, ⟨A2, mA2, cA2, rfl⟩, A3, mA3, cA3, rfl⟩ := h.slices
  obtain ⟨⟨B0, mB0, cB0, rfl⟩, ⟨B1, mB1, cB1, rfl⟩, ⟨B2, mB2, cB2, rfl⟩, B3, mB3, cB3, rfl⟩ := h'.slices
  obtain ⟨w0, hw0, hb0, HD0, hz0, HS0⟩ := box7 w (.int .i64 m.deg) (.int .i64 m.st) (.int .i64 m.msg) (.slice A0 mA0 cA0) (.slice A1 mA1 cA1) (.slice A2 mA2 cA2) (.slice A3 mA3 cA3) 42
  obtain ⟨w1, hw1, hb1, HD1, hz1, HS1⟩ := box7 w0 (.int .i64 m.deg) (.int .i64 m.st) (.int .i64 m.msg) (.slice B0 mB0 cB0) (.slice B1 mB1 cB1) (.slice B2 mB2 cB2) (.slice B3 mB3 cB3) 42
  replace HD0 := bk HD0 hb1
  rw [HS0.out] at HD1 hz1
  have hB := bl_trans hb0 hb1
  have HW0 := Lib.hid hw0; clear hw0
  have HW1 := Lib.hid hw1; clear hw1
  have H := Lib.hid (h.up hB); clear h
  have H' := Lib.hid (h'.up hB); clear h'
  have hz2 : w.heap.size < w1.heap.size := by omega
  clear hb0 hb1
  obtain ⟨⟨g0, g1, g2⟩, ⟨q0, q1, q2, q3⟩, qf⟩ := cells7 HD0
  obtain ⟨⟨r0, r1, r2⟩, ⟨p0, p1, p2, p3⟩, pf⟩ := cells7 HD1
  go_enter Tryz.func18, Tryz.ntmps18
  go_wp2_with fail
  rw [← HW0.out, ← HW1.out]
  refine (eq_IntSS _ _ m.start w1 (H.out.s) (H'.out.s)).mono ?_
  rintro e w2 ⟨rfl, a0, hw2⟩
  have hb2 : Below w1.heap.size w1 w2 := by rw [hw2]; exact bl_drewN (Below.refl _ _) _
  clear hw2
  clear g0 g1 g2 q0 q1 q2 q3 qf r0 r1 r2 p0 p1 p2 p3 pf
  replace HD0 := bk HD0 hb2
  replace HD1 := bk HD1 hb2
  replace hB := bl_trans hB hb2
  replace H := Lib.hid (H.out.up hb2)
  replace H' := Lib.hid (H'.out.up hb2)
  have hs2 := hb2.size
  obtain ⟨⟨g0, g1, g2⟩, ⟨q0, q1, q2, q3⟩, qf⟩ := cells7 HD0
  obtain ⟨⟨r0, r1, r2⟩, ⟨p0, p1, p2, p3⟩, pf⟩ := cells7 HD1
  go_wp2_with fail
  refine (eq_IntSS _ _ m.send w2 (H.out.e) (H'.out.e)).mono ?_
  rintro e w3 ⟨rfl, a1, hw3⟩
  have hb3 : Below w2.heap.size w2 w3 := by rw [hw3]; exact bl_drewN (Below.refl _ _) _
  clear hw3
  clear g0 g1 g2 q0 q1 q2 q3 qf r0 r1 r2 p0 p1 p2 p3 pf
  replace HD0 := bk HD0 hb3
  replace HD1 := bk HD1 hb3
  replace hB := bl_trans hB hb3
  replace H := Lib.hid (H.out.up hb3)
  replace H' := Lib.hid (H'.out.up hb3)
  have hs3 := hb3.size
  obtain ⟨⟨g0, g1, g2⟩, ⟨q0, q1, q2, q3⟩, qf⟩ := cells7 HD0
  obtain ⟨⟨r0, r1, r2⟩, ⟨p0, p1, p2, p3⟩, pf⟩ := cells7 HD1
  go_wp2_with fail
  refine (eq_ClauseS _ _ m.cls w3 (H.out.c) (H'.out.c)).mono ?_
  rintro e w4 ⟨rfl, hb4⟩
  clear g0 g1 g2 q0 q1 q2 q3 qf r0 r1 r2 p0 p1 p2 p3 pf
  replace HD0 := bk HD0 hb4
  replace HD1 := bk HD1 hb4
  replace hB := bl_trans hB hb4
  replace H := Lib.hid (H.out.up hb4)
  replace H' := Lib.hid (H'.out.up hb4)
  have hs4 := hb4.size
  obtain ⟨⟨g0, g1, g2⟩, ⟨q0, q1, q2, q3⟩, qf⟩ := cells7 HD0
  obtain ⟨⟨r0, r1, r2⟩, ⟨p0, p1, p2, p3⟩, pf⟩ := cells7 HD1
  go_wp2_with fail
  refine (eq_IntS _ _ m.out w4 (H.out.o) (H'.out.o)).mono ?_
  rintro e w5 ⟨rfl, a3, hw5⟩
  have hb5 : Below w4.heap.size w4 w5 := by rw [hw5]; exact bl_drewN (Below.refl _ _) _
  clear hw5
  clear g0 g1 g2 q0 q1 q2 q3 qf r0 r1 r2 p0 p1 p2 p3 pf
  replace HD0 := bk HD0 hb5
  replace HD1 := bk HD1 hb5
  replace hB := bl_trans hB hb5
  replace H := Lib.hid (H.out.up hb5)
  replace H' := Lib.hid (H'.out.up hb5)
  have hs5 := hb5.size
  obtain ⟨⟨g0, g1, g2⟩, ⟨q0, q1, q2, q3⟩, qf⟩ := cells7 HD0
  obtain ⟨⟨r0, r1, r2⟩, ⟨p0, p1, p2, p3⟩, pf⟩ := cells7 HD1
  go_wp2_with fail
  go_ret
  exact ⟨rfl, hB⟩
theorem eq_Asy (vr vb vn vs vf vr' vb' vn' vs' vf' : Value) (x : Asy) (w : World) (h : AsyR w w.heap.size vr vb vn vs vf x) (h' : AsyR w w.heap.size vr' vb' vn' vs' vf' x) :
    Calls Tryz.prog 20 #[.agg #[vr, vb, vn, vs, vf], .agg #[vr', vb', vn', vs', vf']] w fun e w' => e = .returned (.bool true) ∧ Below w.heap.size w w' := by
  obtain ⟨⟨A0, mA0, cA0, rfl⟩, ⟨A1, mA1, cA1, rfl⟩, ⟨A2, mA2, cA2, rfl⟩, ⟨A3, mA3, cA3, rfl⟩, A4, mA4, cA4, rfl⟩ := h.slices
  obtain ⟨⟨B0, mB0, cB0, rfl⟩, ⟨B1, mB1, cB1, rfl⟩, ⟨B2, mB2, cB2, rfl⟩, ⟨B3, mB3, cB3, rfl⟩, B4, mB4, cB4, rfl⟩ := h'.slices
  obtain ⟨w0, hw0, hb0, HD0, hz0, HS0⟩ := boxS5 w (.slice A0 mA0 cA0) (.slice A1 mA1 cA1) (.slice A2 mA2 cA2) (.slice A3 mA3 cA3) (.slice A4 mA4 cA4) 50
  obtain ⟨w1, hw1, hb1, HD1, hz1, HS1⟩ := boxS5 w0 (.slice B0 mB0 cB0) (.slice B1 mB1 cB1) (.slice B2 mB2 cB2) (.slice B3 mB3 cB3) (.slice B4 mB4 cB4) 50
  replace HD0 := bk HD0 hb1
  rw [HS0.out] at HD1 hz1
  have hB := bl_trans hb0 hb1
  have HW0 := Lib.hid hw0; clear hw0
  have HW1 := Lib.hid hw1; clear hw1
  have H := Lib.hid (h.up hB); clear h
  have H' := Lib.hid (h'.up hB); clear h'
  have hz2 : w.heap.size < w1.heap.size := by omega
  clear hb0 hb1
  obtain ⟨q0, q1, q2, q3, q4, qf⟩ := cellsS5 HD0
  obtain ⟨p0, p1, p2, p3, p4, pf⟩ := cellsS5 HD1
  go_enter Tryz.func20, Tryz.ntmps20
  go_wp2_with fail
  rw [← HW0.out, ← HW1.out]
  refine (eq_IntS _ _ x.rounds w1 (H.out.r) (H'.out.r)).mono ?_
  rintro e w2 ⟨rfl, a0, hw2⟩
  have hb2 : Below w1.heap.size w1 w2 := by rw [hw2]; exact bl_drewN (Below.refl _ _) _
  clear hw2
  clear q0 q1 q2 q3 q4 qf p0 p1 p2 p3 p4 pf
  replace HD0 := bk HD0 hb2
  replace HD1 := bk HD1 hb2
  replace hB := bl_trans hB hb2
  replace H := Lib.hid (H.out.up hb2)
  replace H' := Lib.hid (H'.out.up hb2)
  have hs2 := hb2.size
  obtain ⟨q0, q1, q2, q3, q4, qf⟩ := cellsS5 HD0
  obtain ⟨p0, p1, p2, p3, p4, pf⟩ := cellsS5 HD1
  go_wp2_with fail
  refine (eq_IntS _ _ x.before w2 (H.out.b) (H'.out.b)).mono ?_
  rintro e w3 ⟨rfl, a1, hw3⟩
  have hb3 : Below w2.heap.size w2 w3 := by rw [hw3]; exact bl_drewN (Below.refl _ _) _
  clear hw3
  clear q0 q1 q2 q3 q4 qf p0 p1 p2 p3 p4 pf
  replace HD0 := bk HD0 hb3
  replace HD1 := bk HD1 hb3
  replace hB := bl_trans hB hb3
  replace H := Lib.hid (H.out.up hb3)
  replace H' := Lib.hid (H'.out.up hb3)
  have hs3 := hb3.size
  obtain ⟨q0, q1, q2, q3, q4, qf⟩ := cellsS5 HD0
  obtain ⟨p0, p1, p2, p3, p4, pf⟩ := cellsS5 HD1
  go_wp2_with fail
  refine (eq_IntS _ _ x.now w3 (H.out.n) (H'.out.n)).mono ?_
  rintro e w4 ⟨rfl, a2, hw4⟩
  have hb4 : Below w3.heap.size w3 w4 := by rw [hw4]; exact bl_drewN (Below.refl _ _) _
  clear hw4
  clear q0 q1 q2 q3 q4 qf p0 p1 p2 p3 p4 pf
  replace HD0 := bk HD0 hb4
  replace HD1 := bk HD1 hb4
  replace hB := bl_trans hB hb4
  replace H := Lib.hid (H.out.up hb4)
  replace H' := Lib.hid (H'.out.up hb4)
  have hs4 := hb4.size
  obtain ⟨q0, q1, q2, q3, q4, qf⟩ := cellsS5 HD0
  obtain ⟨p0, p1, p2, p3, p4, pf⟩ := cellsS5 HD1
  go_wp2_with fail
  refine (eq_IntSS _ _ x.slots w4 (H.out.s) (H'.out.s)).mono ?_
  rintro e w5 ⟨rfl, a3, hw5⟩
  have hb5 : Below w4.heap.size w4 w5 := by rw [hw5]; exact bl_drewN (Below.refl _ _) _
  clear hw5
  clear q0 q1 q2 q3 q4 qf p0 p1 p2 p3 p4 pf
  replace HD0 := bk HD0 hb5
  replace HD1 := bk HD1 hb5
  replace hB := bl_trans hB hb5
  replace H := Lib.hid (H.out.up hb5)
  replace H' := Lib.hid (H'.out.up hb5)
  have hs5 := hb5.size
  obtain ⟨q0, q1, q2, q3, q4, qf⟩ := cellsS5 HD0
  obtain ⟨p0, p1, p2, p3, p4, pf⟩ := cellsS5 HD1
  go_wp2_with fail
  refine (eq_LetSSS _ _ x.flight w5 (H.out.f) (H'.out.f)).mono ?_
  rintro e w6 ⟨rfl, hb6⟩
  clear q0 q1 q2 q3 q4 qf p0 p1 p2 p3 p4 pf
  replace HD0 := bk HD0 hb6
  replace HD1 := bk HD1 hb6
  replace hB := bl_trans hB hb6
  replace H := Lib.hid (H.out.up hb6)
  replace H' := Lib.hid (H'.out.up hb6)
  have hs6 := hb6.size
  obtain ⟨q0, q1, q2, q3, q4, qf⟩ := cellsS5 HD0
  obtain ⟨p0, p1, p2, p3, p4, pf⟩ := cellsS5 HD1
  go_wp2_with fail
  go_ret
  exact ⟨rfl, hB⟩
end Go.Proofs.YtcpbbjocaimocaaGreat
