/-
  The laws' own functions over machines and asynchronous states: copies.
-/
import Derived.Test.YtcpbbjocaimocaaGreatArgsSt
namespace Go.Proofs.YtcpbbjocaimocaaGreat
open Go.RowKit
set_option linter.unusedVariables false
set_option linter.unusedSimpArgs false
set_option maxHeartbeats 1000000 in
theorem to_Asy (vr vb vn vs vf : Value) (x : Asy) (w : World) (h : AsyR w w.heap.size vr vb vn vs vf x) (hz : szAsy x ≤ 1048576) :
    Calls Tryz.prog 15 #[.agg #[vr, vb, vn, vs, vf]] w fun e w' => ∃ vr' vb' vn' vs' vf', e = .returned (.agg #[vr', vb', vn', vs', vf']) ∧ AsyR w' w'.heap.size vr' vb' vn' vs' vf' x ∧ Below w.heap.size w w' := by
  obtain ⟨⟨A0, m0, c0, rfl⟩, ⟨A1, m1, c1, rfl⟩, ⟨A2, m2, c2, rfl⟩, ⟨A3, m3, c3, rfl⟩, A4, m4, c4, rfl⟩ := h.slices
  have HZ := Lib.hid (show x.rounds.length ≤ 1048576 ∧ x.before.length ≤ 1048576 ∧ x.now.length ≤ 1048576 ∧ szRows x.slots ≤ 1048576 ∧ szEnds3 x.flight ≤ 1048576 by unfold szAsy at hz; omega)
  clear hz
  obtain ⟨w0, hw0, hb0, HD0, hz0, HS0⟩ := boxS5 w (.slice A0 m0 c0) (.slice A1 m1 c1) (.slice A2 m2 c2) (.slice A3 m3 c3) (.slice A4 m4 c4) 32
  obtain ⟨w1, hw1, hb1, HD1, hz1, HS1⟩ := boxS5 w0 (.slice none 0 0) (.slice none 0 0) (.slice none 0 0) (.slice none 0 0) (.slice none 0 0) 50
  obtain ⟨w2, hw2, hb2, HD2, hz2, HS2⟩ := boxS5 w1 (.slice none 0 0) (.slice none 0 0) (.slice none 0 0) (.slice none 0 0) (.slice none 0 0) 50
  have hs1 : w0.heap.size = w.heap.size + 1 := HS0.out
  have hs2 : w1.heap.size = w.heap.size + 1 + 1 := by rw [HS1.out, hs1]
  rw [hs1] at HD1 hz1
  rw [hs2] at HD2 hz2
  replace HD0 := bk (bk HD0 hb1) hb2
  replace HD1 := bk HD1 hb2
  have hB := bl_trans (bl_trans hb0 hb1) hb2
  have HS3 := Lib.hid (show w2.heap.size = w.heap.size + 1 + 1 + 1 by rw [HS2.out, hs2])
  clear hs1 hs2 hb0 hb1 hb2
  have HN := Lib.hid h; clear h
  obtain ⟨q0, q1, q2, q3, q4, qf⟩ := cellsS5 HD0
  have s1 := q0
  rw [hw2, hw1, hw0] at s1
  have HW0 := Lib.hid hw0; clear hw0
  have HW1 := Lib.hid hw1; clear hw1
  have HW2 := Lib.hid hw2; clear hw2
  obtain ⟨lo, hlo⟩ : ∃ z, z = w2.heap.size := ⟨_, rfl⟩
  have hlo2 : lo ≤ w2.heap.size := by omega
  have hlo3 : w.heap.size + 1 + 1 < lo := by have := HS3.out; omega
  clear hlo
  go_enter Tryz.func15, Tryz.ntmps15
  go_wp2_with fail
  rw [← HW0.out, ← HW1.out, ← HW2.out]
  clear s1
  refine (to_IntS _ x.rounds w2 (HN.out.up hB).r HZ.out.1).mono ?_
  rintro e w3 ⟨rfl, hx0⟩
  have hc0 : Below w2.heap.size w2 w3 := by rw [hx0]; exact bl_alloc (Below.refl _ _) _
  obtain ⟨g0, hg0⟩ : ∃ z, z = w2.heap.size := ⟨_, rfl⟩
  rw [← hg0]
  have K0 := Lib.hid (show w3.heap[g0]? = some (.cells (x.rounds.map intV).toArray 3 (0, 0)) by rw [hx0, hg0]; exact heap_alloc_new w2 _)
  have hl0 : lo ≤ g0 := by omega
  have hm0 : g0 < w3.heap.size := by rw [hx0, hg0]; simp
  clear hx0 hg0
  have hzc0 := hc0.size
  clear q0 q1 q2 q3 q4 qf
  replace HD0 := bk HD0 hc0
  replace HD1 := bk HD1 hc0
  replace HD2 := bk HD2 hc0
  have hB0 := bl_trans hB hc0
  clear hB hc0
  obtain ⟨q0, q1, q2, q3, q4, qf⟩ := cellsS5 HD0
  obtain ⟨p0, p1, p2, p3, p4, pf⟩ := cellsS5 HD2
  obtain ⟨x0, hX0⟩ : ∃ z, z = w3.setCell ⟨w.heap.size + 1 + 1, 0, none⟩ (.slice (some ⟨g0, 0, none⟩) x.rounds.length x.rounds.length) := ⟨_, rfl⟩
  have HX0 := Lib.hid hX0
  obtain ⟨hB, hO0, HY0, hZ0, hT0⟩ := setB hB0 (by omega) HD2.out hX0
  clear hX0 hB0
  go_wp2_with fail
  rw [← HX0.out]
  replace K0 := Lib.hid ((hO0 g0 (by omega)).trans K0.out)
  replace HD0 := Lib.hid ((hO0 _ (by omega)).trans HD0.out)
  replace HD1 := Lib.hid ((hO0 _ (by omega)).trans HD1.out)
  clear HD2
  have HD2 := Lib.hid (show x0.heap[w.heap.size + 1 + 1]? = some (.cells #[.slice (some ⟨g0, 0, none⟩) x.rounds.length x.rounds.length, .slice none 0 0, .slice none 0 0, .slice none 0 0, .slice none 0 0] 50 (0, 0)) from HY0.out)
  clear HY0 hO0
  clear q0 q1 q2 q3 q4 qf p0 p1 p2 p3 p4 pf
  obtain ⟨q0, q1, q2, q3, q4, qf⟩ := cellsS5 HD0
  obtain ⟨p0, p1, p2, p3, p4, pf⟩ := cellsS5 HD2
  refine (to_IntS _ x.before x0 (HN.out.up hB).b HZ.out.2.1).mono ?_
  rintro e w4 ⟨rfl, hx1⟩
  have hc1 : Below x0.heap.size x0 w4 := by rw [hx1]; exact bl_alloc (Below.refl _ _) _
  obtain ⟨g1, hg1⟩ : ∃ z, z = x0.heap.size := ⟨_, rfl⟩
  rw [← hg1]
  have K1 := Lib.hid (show w4.heap[g1]? = some (.cells (x.before.map intV).toArray 3 (0, 0)) by rw [hx1, hg1]; exact heap_alloc_new x0 _)
  have hl1 : lo ≤ g1 := by omega
  have hm1 : g1 < w4.heap.size := by rw [hx1, hg1]; simp
  clear hx1 hg1
  have hzc1 := hc1.size
  replace K0 := Lib.hid ((hc1.block g0 (by omega)).trans K0.out)
  clear q0 q1 q2 q3 q4 qf p0 p1 p2 p3 p4 pf
  replace HD0 := bk HD0 hc1
  replace HD1 := bk HD1 hc1
  replace HD2 := bk HD2 hc1
  have hB1 := bl_trans hB hc1
  clear hB hc1
  obtain ⟨q0, q1, q2, q3, q4, qf⟩ := cellsS5 HD0
  obtain ⟨p0, p1, p2, p3, p4, pf⟩ := cellsS5 HD2
  obtain ⟨x1, hX1⟩ : ∃ z, z = w4.setCell ⟨w.heap.size + 1 + 1, 1, none⟩ (.slice (some ⟨g1, 0, none⟩) x.before.length x.before.length) := ⟨_, rfl⟩
  have HX1 := Lib.hid hX1
  obtain ⟨hB, hO1, HY1, hZ1, hT1⟩ := setB hB1 (by omega) HD2.out hX1
  clear hX1 hB1
  go_wp2_with fail
  rw [← HX1.out]
  replace K0 := Lib.hid ((hO1 g0 (by omega)).trans K0.out)
  replace K1 := Lib.hid ((hO1 g1 (by omega)).trans K1.out)
  replace HD0 := Lib.hid ((hO1 _ (by omega)).trans HD0.out)
  replace HD1 := Lib.hid ((hO1 _ (by omega)).trans HD1.out)
  clear HD2
  have HD2 := Lib.hid (show x1.heap[w.heap.size + 1 + 1]? = some (.cells #[.slice (some ⟨g0, 0, none⟩) x.rounds.length x.rounds.length, .slice (some ⟨g1, 0, none⟩) x.before.length x.before.length, .slice none 0 0, .slice none 0 0, .slice none 0 0] 50 (0, 0)) from HY1.out)
  clear HY1 hO1
  clear q0 q1 q2 q3 q4 qf p0 p1 p2 p3 p4 pf
  obtain ⟨q0, q1, q2, q3, q4, qf⟩ := cellsS5 HD0
  obtain ⟨p0, p1, p2, p3, p4, pf⟩ := cellsS5 HD2
  refine (to_IntS _ x.now x1 (HN.out.up hB).n HZ.out.2.2.1).mono ?_
  rintro e w5 ⟨rfl, hx2⟩
  have hc2 : Below x1.heap.size x1 w5 := by rw [hx2]; exact bl_alloc (Below.refl _ _) _
  obtain ⟨g2, hg2⟩ : ∃ z, z = x1.heap.size := ⟨_, rfl⟩
  rw [← hg2]
  have K2 := Lib.hid (show w5.heap[g2]? = some (.cells (x.now.map intV).toArray 3 (0, 0)) by rw [hx2, hg2]; exact heap_alloc_new x1 _)
  have hl2 : lo ≤ g2 := by omega
  have hm2 : g2 < w5.heap.size := by rw [hx2, hg2]; simp
  clear hx2 hg2
  have hzc2 := hc2.size
  replace K0 := Lib.hid ((hc2.block g0 (by omega)).trans K0.out)
  replace K1 := Lib.hid ((hc2.block g1 (by omega)).trans K1.out)
  clear q0 q1 q2 q3 q4 qf p0 p1 p2 p3 p4 pf
  replace HD0 := bk HD0 hc2
  replace HD1 := bk HD1 hc2
  replace HD2 := bk HD2 hc2
  have hB2 := bl_trans hB hc2
  clear hB hc2
  obtain ⟨q0, q1, q2, q3, q4, qf⟩ := cellsS5 HD0
  obtain ⟨p0, p1, p2, p3, p4, pf⟩ := cellsS5 HD2
  obtain ⟨x2, hX2⟩ : ∃ z, z = w5.setCell ⟨w.heap.size + 1 + 1, 2, none⟩ (.slice (some ⟨g2, 0, none⟩) x.now.length x.now.length) := ⟨_, rfl⟩
  have HX2 := Lib.hid hX2
  obtain ⟨hB, hO2, HY2, hZ2, hT2⟩ := setB hB2 (by omega) HD2.out hX2
  clear hX2 hB2
  go_wp2_with fail
  rw [← HX2.out]
  replace K0 := Lib.hid ((hO2 g0 (by omega)).trans K0.out)
  replace K1 := Lib.hid ((hO2 g1 (by omega)).trans K1.out)
  replace K2 := Lib.hid ((hO2 g2 (by omega)).trans K2.out)
  replace HD0 := Lib.hid ((hO2 _ (by omega)).trans HD0.out)
  replace HD1 := Lib.hid ((hO2 _ (by omega)).trans HD1.out)
  clear HD2
  have HD2 := Lib.hid (show x2.heap[w.heap.size + 1 + 1]? = some (.cells #[.slice (some ⟨g0, 0, none⟩) x.rounds.length x.rounds.length, .slice (some ⟨g1, 0, none⟩) x.before.length x.before.length, .slice (some ⟨g2, 0, none⟩) x.now.length x.now.length, .slice none 0 0, .slice none 0 0] 50 (0, 0)) from HY2.out)
  clear HY2 hO2
  clear q0 q1 q2 q3 q4 qf p0 p1 p2 p3 p4 pf
  obtain ⟨q0, q1, q2, q3, q4, qf⟩ := cellsS5 HD0
  obtain ⟨p0, p1, p2, p3, p4, pf⟩ := cellsS5 HD2
  refine (to_IntSS _ x.slots x2 (HN.out.up hB).s HZ.out.2.2.2.1).mono ?_
  rintro e w6 ⟨v3, bs3, rfl, ho3, -, hbs3, hc3⟩
  obtain ⟨B3, n3, d3, rfl⟩ := ho3.isSlice
  have K3 := Lib.hid ho3; clear ho3
  have KB3 := Lib.hid (show ∀ b ∈ bs3, lo ≤ b ∧ b < w6.heap.size from fun b hb => by have := hbs3 b hb; omega); clear hbs3
  have hzc3 := hc3.size
  replace K0 := Lib.hid ((hc3.block g0 (by omega)).trans K0.out)
  replace K1 := Lib.hid ((hc3.block g1 (by omega)).trans K1.out)
  replace K2 := Lib.hid ((hc3.block g2 (by omega)).trans K2.out)
  clear q0 q1 q2 q3 q4 qf p0 p1 p2 p3 p4 pf
  replace HD0 := bk HD0 hc3
  replace HD1 := bk HD1 hc3
  replace HD2 := bk HD2 hc3
  have hB3 := bl_trans hB hc3
  clear hB hc3
  obtain ⟨q0, q1, q2, q3, q4, qf⟩ := cellsS5 HD0
  obtain ⟨p0, p1, p2, p3, p4, pf⟩ := cellsS5 HD2
  obtain ⟨x3, hX3⟩ : ∃ z, z = w6.setCell ⟨w.heap.size + 1 + 1, 3, none⟩ (.slice B3 n3 d3) := ⟨_, rfl⟩
  have HX3 := Lib.hid hX3
  obtain ⟨hB, hO3, HY3, hZ3, hT3⟩ := setB hB3 (by omega) HD2.out hX3
  clear hX3 hB3
  go_wp2_with fail
  rw [← HX3.out]
  replace K0 := Lib.hid ((hO3 g0 (by omega)).trans K0.out)
  replace K1 := Lib.hid ((hO3 g1 (by omega)).trans K1.out)
  replace K2 := Lib.hid ((hO3 g2 (by omega)).trans K2.out)
  obtain ⟨K3, KB3⟩ : Hid (OwnRows x3 24 3 (.slice B3 n3 d3) x.slots bs3) ∧ Hid (∀ b ∈ bs3, lo ≤ b ∧ b < x3.heap.size) := ⟨Lib.hid (K3.out.keep fun b hb => hO3 b (by have := KB3.out b hb; omega)), Lib.hid fun b hb => by have := KB3.out b hb; omega⟩
  replace HD0 := Lib.hid ((hO3 _ (by omega)).trans HD0.out)
  replace HD1 := Lib.hid ((hO3 _ (by omega)).trans HD1.out)
  clear HD2
  have HD2 := Lib.hid (show x3.heap[w.heap.size + 1 + 1]? = some (.cells #[.slice (some ⟨g0, 0, none⟩) x.rounds.length x.rounds.length, .slice (some ⟨g1, 0, none⟩) x.before.length x.before.length, .slice (some ⟨g2, 0, none⟩) x.now.length x.now.length, .slice B3 n3 d3, .slice none 0 0] 50 (0, 0)) from HY3.out)
  clear HY3 hO3
  clear q0 q1 q2 q3 q4 qf p0 p1 p2 p3 p4 pf
  obtain ⟨q0, q1, q2, q3, q4, qf⟩ := cellsS5 HD0
  obtain ⟨p0, p1, p2, p3, p4, pf⟩ := cellsS5 HD2
  refine (to_LetSSS _ x.flight x3 (HN.out.up hB).f HZ.out.2.2.2.2).mono ?_
  rintro e w7 ⟨v4, rfl, ho4, hc4⟩
  obtain ⟨B4, n4, d4, rfl⟩ := ho4.isSlice
  have K4 := Lib.hid (ho4.keep (w' := w7) (S' := fun b => lo ≤ b ∧ b < w7.heap.size) (fun b hb => ⟨by have := hb.1; omega, hb.2⟩) fun _ _ => rfl); clear ho4
  have hzc4 := hc4.size
  replace K0 := Lib.hid ((hc4.block g0 (by omega)).trans K0.out)
  replace K1 := Lib.hid ((hc4.block g1 (by omega)).trans K1.out)
  replace K2 := Lib.hid ((hc4.block g2 (by omega)).trans K2.out)
  obtain ⟨K3, KB3⟩ : Hid (OwnRows w7 24 3 (.slice B3 n3 d3) x.slots bs3) ∧ Hid (∀ b ∈ bs3, lo ≤ b ∧ b < w7.heap.size) := ⟨Lib.hid (K3.out.keep fun b hb => hc4.block b (by have := KB3.out b hb; omega)), Lib.hid fun b hb => by have := KB3.out b hb; omega⟩
  clear q0 q1 q2 q3 q4 qf p0 p1 p2 p3 p4 pf
  replace HD0 := bk HD0 hc4
  replace HD1 := bk HD1 hc4
  replace HD2 := bk HD2 hc4
  have hB4 := bl_trans hB hc4
  clear hB hc4
  obtain ⟨q0, q1, q2, q3, q4, qf⟩ := cellsS5 HD0
  obtain ⟨p0, p1, p2, p3, p4, pf⟩ := cellsS5 HD2
  obtain ⟨x4, hX4⟩ : ∃ z, z = w7.setCell ⟨w.heap.size + 1 + 1, 4, none⟩ (.slice B4 n4 d4) := ⟨_, rfl⟩
  have HX4 := Lib.hid hX4
  obtain ⟨hB, hO4, HY4, hZ4, hT4⟩ := setB hB4 (by omega) HD2.out hX4
  clear hX4 hB4
  obtain ⟨r0, r1, r2, r3, r4, rf⟩ := cellsS5 HD1
  go_wp2_with fail
  rw [← HX4.out]
  replace K0 := Lib.hid ((hO4 g0 (by omega)).trans K0.out)
  replace K1 := Lib.hid ((hO4 g1 (by omega)).trans K1.out)
  replace K2 := Lib.hid ((hO4 g2 (by omega)).trans K2.out)
  obtain ⟨K3, KB3⟩ : Hid (OwnRows x4 24 3 (.slice B3 n3 d3) x.slots bs3) ∧ Hid (∀ b ∈ bs3, lo ≤ b ∧ b < x4.heap.size) := ⟨Lib.hid (K3.out.keep fun b hb => hO4 b (by have := KB3.out b hb; omega)), Lib.hid fun b hb => by have := KB3.out b hb; omega⟩
  replace K4 := Lib.hid (K4.out.keep (w' := x4) (S' := fun b => lo ≤ b ∧ b < x4.heap.size) (fun b hb => ⟨hb.1, by have := hb.2; omega⟩) fun b hb => hO4 b (by have := hb.1; omega))
  replace HD0 := Lib.hid ((hO4 _ (by omega)).trans HD0.out)
  replace HD1 := Lib.hid ((hO4 _ (by omega)).trans HD1.out)
  clear HD2
  have HD2 := Lib.hid (show x4.heap[w.heap.size + 1 + 1]? = some (.cells #[.slice (some ⟨g0, 0, none⟩) x.rounds.length x.rounds.length, .slice (some ⟨g1, 0, none⟩) x.before.length x.before.length, .slice (some ⟨g2, 0, none⟩) x.now.length x.now.length, .slice B3 n3 d3, .slice B4 n4 d4] 50 (0, 0)) from HY4.out)
  clear HY4 hO4
  obtain ⟨y0, hy0⟩ : ∃ z, z = x4.setCell ⟨w.heap.size + 1, 0, none⟩ (.slice (some ⟨g0, 0, none⟩) x.rounds.length x.rounds.length) := ⟨_, rfl⟩
  rw [← hy0]
  obtain ⟨hBy0, hOy0, HYy0, hZy0, hTy0⟩ := setB hB (by omega) HD1.out hy0
  clear hy0
  replace K0 := Lib.hid ((hOy0 g0 (by omega)).trans K0.out)
  replace K1 := Lib.hid ((hOy0 g1 (by omega)).trans K1.out)
  replace K2 := Lib.hid ((hOy0 g2 (by omega)).trans K2.out)
  obtain ⟨K3, KB3⟩ : Hid (OwnRows y0 24 3 (.slice B3 n3 d3) x.slots bs3) ∧ Hid (∀ b ∈ bs3, lo ≤ b ∧ b < y0.heap.size) := ⟨Lib.hid (K3.out.keep fun b hb => hOy0 b (by have := KB3.out b hb; omega)), Lib.hid fun b hb => by have := KB3.out b hb; omega⟩
  replace K4 := Lib.hid (K4.out.keep (w' := y0) (S' := fun b => lo ≤ b ∧ b < y0.heap.size) (fun b hb => ⟨hb.1, by have := hb.2; omega⟩) fun b hb => hOy0 b (by have := hb.1; omega))
  clear hOy0
  obtain ⟨y1, hy1⟩ : ∃ z, z = y0.setCell ⟨w.heap.size + 1, 1, none⟩ (.slice (some ⟨g1, 0, none⟩) x.before.length x.before.length) := ⟨_, rfl⟩
  rw [← hy1]
  obtain ⟨hBy1, hOy1, HYy1, hZy1, hTy1⟩ := setB hBy0 (by omega) HYy0.out hy1
  clear hy1
  replace K0 := Lib.hid ((hOy1 g0 (by omega)).trans K0.out)
  replace K1 := Lib.hid ((hOy1 g1 (by omega)).trans K1.out)
  replace K2 := Lib.hid ((hOy1 g2 (by omega)).trans K2.out)
  obtain ⟨K3, KB3⟩ : Hid (OwnRows y1 24 3 (.slice B3 n3 d3) x.slots bs3) ∧ Hid (∀ b ∈ bs3, lo ≤ b ∧ b < y1.heap.size) := ⟨Lib.hid (K3.out.keep fun b hb => hOy1 b (by have := KB3.out b hb; omega)), Lib.hid fun b hb => by have := KB3.out b hb; omega⟩
  replace K4 := Lib.hid (K4.out.keep (w' := y1) (S' := fun b => lo ≤ b ∧ b < y1.heap.size) (fun b hb => ⟨hb.1, by have := hb.2; omega⟩) fun b hb => hOy1 b (by have := hb.1; omega))
  clear hOy1
  obtain ⟨y2, hy2⟩ : ∃ z, z = y1.setCell ⟨w.heap.size + 1, 2, none⟩ (.slice (some ⟨g2, 0, none⟩) x.now.length x.now.length) := ⟨_, rfl⟩
  rw [← hy2]
  obtain ⟨hBy2, hOy2, HYy2, hZy2, hTy2⟩ := setB hBy1 (by omega) HYy1.out hy2
  clear hy2
  replace K0 := Lib.hid ((hOy2 g0 (by omega)).trans K0.out)
  replace K1 := Lib.hid ((hOy2 g1 (by omega)).trans K1.out)
  replace K2 := Lib.hid ((hOy2 g2 (by omega)).trans K2.out)
  obtain ⟨K3, KB3⟩ : Hid (OwnRows y2 24 3 (.slice B3 n3 d3) x.slots bs3) ∧ Hid (∀ b ∈ bs3, lo ≤ b ∧ b < y2.heap.size) := ⟨Lib.hid (K3.out.keep fun b hb => hOy2 b (by have := KB3.out b hb; omega)), Lib.hid fun b hb => by have := KB3.out b hb; omega⟩
  replace K4 := Lib.hid (K4.out.keep (w' := y2) (S' := fun b => lo ≤ b ∧ b < y2.heap.size) (fun b hb => ⟨hb.1, by have := hb.2; omega⟩) fun b hb => hOy2 b (by have := hb.1; omega))
  clear hOy2
  obtain ⟨y3, hy3⟩ : ∃ z, z = y2.setCell ⟨w.heap.size + 1, 3, none⟩ (.slice B3 n3 d3) := ⟨_, rfl⟩
  rw [← hy3]
  obtain ⟨hBy3, hOy3, HYy3, hZy3, hTy3⟩ := setB hBy2 (by omega) HYy2.out hy3
  clear hy3
  replace K0 := Lib.hid ((hOy3 g0 (by omega)).trans K0.out)
  replace K1 := Lib.hid ((hOy3 g1 (by omega)).trans K1.out)
  replace K2 := Lib.hid ((hOy3 g2 (by omega)).trans K2.out)
  obtain ⟨K3, KB3⟩ : Hid (OwnRows y3 24 3 (.slice B3 n3 d3) x.slots bs3) ∧ Hid (∀ b ∈ bs3, lo ≤ b ∧ b < y3.heap.size) := ⟨Lib.hid (K3.out.keep fun b hb => hOy3 b (by have := KB3.out b hb; omega)), Lib.hid fun b hb => by have := KB3.out b hb; omega⟩
  replace K4 := Lib.hid (K4.out.keep (w' := y3) (S' := fun b => lo ≤ b ∧ b < y3.heap.size) (fun b hb => ⟨hb.1, by have := hb.2; omega⟩) fun b hb => hOy3 b (by have := hb.1; omega))
  clear hOy3
  obtain ⟨y4, hy4⟩ : ∃ z, z = y3.setCell ⟨w.heap.size + 1, 4, none⟩ (.slice B4 n4 d4) := ⟨_, rfl⟩
  rw [← hy4]
  obtain ⟨hBy4, hOy4, HYy4, hZy4, hTy4⟩ := setB hBy3 (by omega) HYy3.out hy4
  clear hy4
  replace K0 := Lib.hid ((hOy4 g0 (by omega)).trans K0.out)
  replace K1 := Lib.hid ((hOy4 g1 (by omega)).trans K1.out)
  replace K2 := Lib.hid ((hOy4 g2 (by omega)).trans K2.out)
  obtain ⟨K3, KB3⟩ : Hid (OwnRows y4 24 3 (.slice B3 n3 d3) x.slots bs3) ∧ Hid (∀ b ∈ bs3, lo ≤ b ∧ b < y4.heap.size) := ⟨Lib.hid (K3.out.keep fun b hb => hOy4 b (by have := KB3.out b hb; omega)), Lib.hid fun b hb => by have := KB3.out b hb; omega⟩
  replace K4 := Lib.hid (K4.out.keep (w' := y4) (S' := fun b => lo ≤ b ∧ b < y4.heap.size) (fun b hb => ⟨hb.1, by have := hb.2; omega⟩) fun b hb => hOy4 b (by have := hb.1; omega))
  clear hOy4
  have HF := Lib.hid (show y4.heap[w.heap.size + 1]? = some (.cells #[.slice (some ⟨g0, 0, none⟩) x.rounds.length x.rounds.length, .slice (some ⟨g1, 0, none⟩) x.before.length x.before.length, .slice (some ⟨g2, 0, none⟩) x.now.length x.now.length, .slice B3 n3 d3, .slice B4 n4 d4] 50 (0, 0)) from HYy4.out)
  clear q0 q1 q2 q3 q4 qf p0 p1 p2 p3 p4 pf r0 r1 r2 r3 r4 rf
  obtain ⟨s0, s1, s2, s3, s4, sf⟩ := cellsS5 HF
  refine bodyPost_ret (v := .agg #[.slice (some ⟨g0, 0, none⟩) x.rounds.length x.rounds.length, .slice (some ⟨g1, 0, none⟩) x.before.length x.before.length, .slice (some ⟨g2, 0, none⟩) x.now.length x.now.length, .slice B3 n3 d3, .slice B4 n4 d4]) (by simp [results, Tryz.results15, go_sem, s0, s1, s2, s3, s4]) rfl ?_
  exact ⟨_, _, _, _, _, rfl, ⟨ints_row K0.out (by have := HZ.out.1; unfold maxLen; omega) HN.out.r.2 (Array.getElem?_eq_some_iff.1 K0.out).1, ints_row K1.out (by have := HZ.out.2.1; unfold maxLen; omega) HN.out.b.2 (Array.getElem?_eq_some_iff.1 K1.out).1, ints_row K2.out (by have := HZ.out.2.2.1; unfold maxLen; omega) HN.out.n.2 (Array.getElem?_eq_some_iff.1 K2.out).1, K3.out.reads fun b hb => (KB3.out b hb).2, K4.out.keep (fun b hb => hb.2) fun _ _ => rfl⟩, hBy4⟩
set_option maxHeartbeats 1000000 in
theorem to_Mach (vs ve vc vo : Value) (m : Mach) (w : World) (h : MachR w w.heap.size vs ve vc vo m) (hz : szMach m ≤ 1048576) :
    Calls Tryz.prog 13 #[.agg #[.int .i64 m.deg, .int .i64 m.st, .int .i64 m.msg, vs, ve, vc, vo]] w fun e w' => ∃ vs' ve' vc' vo', e = .returned (.agg #[.int .i64 m.deg, .int .i64 m.st, .int .i64 m.msg, vs', ve', vc', vo']) ∧ MachR w' w'.heap.size vs' ve' vc' vo' m ∧ Below w.heap.size w w' := by
  obtain ⟨⟨A0, m0, c0, rfl⟩, ⟨A1, m1, c1, rfl⟩, ⟨A2, m2, c2, rfl⟩, A3, m3, c3, rfl⟩ := h.slices
  have HZ := Lib.hid (show szRows m.start ≤ 1048576 ∧ szRows m.send ≤ 1048576 ∧ szCls m.cls ≤ 1048576 ∧ m.out.length ≤ 1048576 by unfold szMach at hz; omega)
  clear hz
  obtain ⟨w0, hw0, hb0, HD0, hz0, HS0⟩ := box7 w (.int .i64 m.deg) (.int .i64 m.st) (.int .i64 m.msg) (.slice A0 m0 c0) (.slice A1 m1 c1) (.slice A2 m2 c2) (.slice A3 m3 c3) 26
  obtain ⟨w1, hw1, hb1, HD1, hz1, HS1⟩ := box7 w0 (.int .i64 0) (.int .i64 0) (.int .i64 0) (.slice none 0 0) (.slice none 0 0) (.slice none 0 0) (.slice none 0 0) 42
  obtain ⟨w2, hw2, hb2, HD2, hz2, HS2⟩ := box7 w1 (.int .i64 m.deg) (.int .i64 m.st) (.int .i64 m.msg) (.slice none 0 0) (.slice none 0 0) (.slice none 0 0) (.slice none 0 0) 42
  have hs1 : w0.heap.size = w.heap.size + 1 := HS0.out
  have hs2 : w1.heap.size = w.heap.size + 1 + 1 := by rw [HS1.out, hs1]
  rw [hs1] at HD1 hz1
  rw [hs2] at HD2 hz2
  replace HD0 := bk (bk HD0 hb1) hb2
  replace HD1 := bk HD1 hb2
  have hB := bl_trans (bl_trans hb0 hb1) hb2
  have HS3 := Lib.hid (show w2.heap.size = w.heap.size + 1 + 1 + 1 by rw [HS2.out, hs2])
  clear hs1 hs2 hb0 hb1 hb2
  have HN := Lib.hid h; clear h
  obtain ⟨⟨q0, q1, q2⟩, ⟨q3, q4, q5, q6⟩, qf⟩ := cells7 HD0
  have s1 := q3
  rw [hw2, hw1, hw0] at s1
  have u0 := q0
  rw [hw2, hw1, hw0] at u0
  have u1 := q1
  rw [hw2, hw1, hw0] at u1
  have u2 := q2
  rw [hw2, hw1, hw0] at u2
  have HW0 := Lib.hid hw0; clear hw0
  have HW1 := Lib.hid hw1; clear hw1
  have HW2 := Lib.hid hw2; clear hw2
  obtain ⟨lo, hlo⟩ : ∃ z, z = w2.heap.size := ⟨_, rfl⟩
  have hlo2 : lo ≤ w2.heap.size := by omega
  have hlo3 : w.heap.size + 1 + 1 < lo := by have := HS3.out; omega
  clear hlo
  go_enter Tryz.func13, Tryz.ntmps13
  go_wp2_with fail
  rw [← HW0.out, ← HW1.out, ← HW2.out]
  clear s1 u0 u1 u2
  refine (to_IntSS _ m.start w2 (HN.out.up hB).s HZ.out.1).mono ?_
  rintro e w3 ⟨v0, bs0, rfl, ho0, -, hbs0, hc0⟩
  obtain ⟨B0, n0, d0, rfl⟩ := ho0.isSlice
  have K0 := Lib.hid ho0; clear ho0
  have KB0 := Lib.hid (show ∀ b ∈ bs0, lo ≤ b ∧ b < w3.heap.size from fun b hb => by have := hbs0 b hb; omega); clear hbs0
  have hzc0 := hc0.size
  clear q0 q1 q2 q3 q4 q5 q6 qf
  replace HD0 := bk HD0 hc0
  replace HD1 := bk HD1 hc0
  replace HD2 := bk HD2 hc0
  have hB0 := bl_trans hB hc0
  clear hB hc0
  obtain ⟨⟨q0, q1, q2⟩, ⟨q3, q4, q5, q6⟩, qf⟩ := cells7 HD0
  obtain ⟨⟨p0, p1, p2⟩, ⟨p3, p4, p5, p6⟩, pf⟩ := cells7 HD2
  obtain ⟨x0, hX0⟩ : ∃ z, z = w3.setCell ⟨w.heap.size + 1 + 1, 3, none⟩ (.slice B0 n0 d0) := ⟨_, rfl⟩
  have HX0 := Lib.hid hX0
  obtain ⟨hB, hO0, HY0, hZ0, hT0⟩ := setB hB0 (by omega) HD2.out hX0
  clear hX0 hB0
  go_wp2_with fail
  rw [← HX0.out]
  obtain ⟨K0, KB0⟩ : Hid (OwnRows x0 24 3 (.slice B0 n0 d0) m.start bs0) ∧ Hid (∀ b ∈ bs0, lo ≤ b ∧ b < x0.heap.size) := ⟨Lib.hid (K0.out.keep fun b hb => hO0 b (by have := KB0.out b hb; omega)), Lib.hid fun b hb => by have := KB0.out b hb; omega⟩
  replace HD0 := Lib.hid ((hO0 _ (by omega)).trans HD0.out)
  replace HD1 := Lib.hid ((hO0 _ (by omega)).trans HD1.out)
  clear HD2
  have HD2 := Lib.hid (show x0.heap[w.heap.size + 1 + 1]? = some (.cells #[.int .i64 m.deg, .int .i64 m.st, .int .i64 m.msg, .slice B0 n0 d0, .slice none 0 0, .slice none 0 0, .slice none 0 0] 42 (0, 0)) from HY0.out)
  clear HY0 hO0
  clear q0 q1 q2 q3 q4 q5 q6 qf p0 p1 p2 p3 p4 p5 p6 pf
  obtain ⟨⟨q0, q1, q2⟩, ⟨q3, q4, q5, q6⟩, qf⟩ := cells7 HD0
  obtain ⟨⟨p0, p1, p2⟩, ⟨p3, p4, p5, p6⟩, pf⟩ := cells7 HD2
  refine (to_IntSS _ m.send x0 (HN.out.up hB).e HZ.out.2.1).mono ?_
  rintro e w4 ⟨v1, bs1, rfl, ho1, -, hbs1, hc1⟩
  obtain ⟨B1, n1, d1, rfl⟩ := ho1.isSlice
  have K1 := Lib.hid ho1; clear ho1
  have KB1 := Lib.hid (show ∀ b ∈ bs1, lo ≤ b ∧ b < w4.heap.size from fun b hb => by have := hbs1 b hb; omega); clear hbs1
  have hzc1 := hc1.size
  obtain ⟨K0, KB0⟩ : Hid (OwnRows w4 24 3 (.slice B0 n0 d0) m.start bs0) ∧ Hid (∀ b ∈ bs0, lo ≤ b ∧ b < w4.heap.size) := ⟨Lib.hid (K0.out.keep fun b hb => hc1.block b (by have := KB0.out b hb; omega)), Lib.hid fun b hb => by have := KB0.out b hb; omega⟩
  clear q0 q1 q2 q3 q4 q5 q6 qf p0 p1 p2 p3 p4 p5 p6 pf
  replace HD0 := bk HD0 hc1
  replace HD1 := bk HD1 hc1
  replace HD2 := bk HD2 hc1
  have hB1 := bl_trans hB hc1
  clear hB hc1
  obtain ⟨⟨q0, q1, q2⟩, ⟨q3, q4, q5, q6⟩, qf⟩ := cells7 HD0
  obtain ⟨⟨p0, p1, p2⟩, ⟨p3, p4, p5, p6⟩, pf⟩ := cells7 HD2
  obtain ⟨x1, hX1⟩ : ∃ z, z = w4.setCell ⟨w.heap.size + 1 + 1, 4, none⟩ (.slice B1 n1 d1) := ⟨_, rfl⟩
  have HX1 := Lib.hid hX1
  obtain ⟨hB, hO1, HY1, hZ1, hT1⟩ := setB hB1 (by omega) HD2.out hX1
  clear hX1 hB1
  go_wp2_with fail
  rw [← HX1.out]
  obtain ⟨K0, KB0⟩ : Hid (OwnRows x1 24 3 (.slice B0 n0 d0) m.start bs0) ∧ Hid (∀ b ∈ bs0, lo ≤ b ∧ b < x1.heap.size) := ⟨Lib.hid (K0.out.keep fun b hb => hO1 b (by have := KB0.out b hb; omega)), Lib.hid fun b hb => by have := KB0.out b hb; omega⟩
  obtain ⟨K1, KB1⟩ : Hid (OwnRows x1 24 3 (.slice B1 n1 d1) m.send bs1) ∧ Hid (∀ b ∈ bs1, lo ≤ b ∧ b < x1.heap.size) := ⟨Lib.hid (K1.out.keep fun b hb => hO1 b (by have := KB1.out b hb; omega)), Lib.hid fun b hb => by have := KB1.out b hb; omega⟩
  replace HD0 := Lib.hid ((hO1 _ (by omega)).trans HD0.out)
  replace HD1 := Lib.hid ((hO1 _ (by omega)).trans HD1.out)
  clear HD2
  have HD2 := Lib.hid (show x1.heap[w.heap.size + 1 + 1]? = some (.cells #[.int .i64 m.deg, .int .i64 m.st, .int .i64 m.msg, .slice B0 n0 d0, .slice B1 n1 d1, .slice none 0 0, .slice none 0 0] 42 (0, 0)) from HY1.out)
  clear HY1 hO1
  clear q0 q1 q2 q3 q4 q5 q6 qf p0 p1 p2 p3 p4 p5 p6 pf
  obtain ⟨⟨q0, q1, q2⟩, ⟨q3, q4, q5, q6⟩, qf⟩ := cells7 HD0
  obtain ⟨⟨p0, p1, p2⟩, ⟨p3, p4, p5, p6⟩, pf⟩ := cells7 HD2
  refine (to_ClauseS0 _ m.cls x1 (HN.out.up hB).c HZ.out.2.2.1).mono ?_
  rintro e w5 ⟨rfl, ho2, hc2⟩
  obtain ⟨g2, hg2⟩ : ∃ z, z = x1.heap.size := ⟨_, rfl⟩
  rw [← hg2] at ho2 ⊢
  have K2 := Lib.hid ho2; clear ho2
  have hl2 : lo ≤ g2 := by omega
  clear hg2
  have hzc2 := hc2.size
  obtain ⟨K0, KB0⟩ : Hid (OwnRows w5 24 3 (.slice B0 n0 d0) m.start bs0) ∧ Hid (∀ b ∈ bs0, lo ≤ b ∧ b < w5.heap.size) := ⟨Lib.hid (K0.out.keep fun b hb => hc2.block b (by have := KB0.out b hb; omega)), Lib.hid fun b hb => by have := KB0.out b hb; omega⟩
  obtain ⟨K1, KB1⟩ : Hid (OwnRows w5 24 3 (.slice B1 n1 d1) m.send bs1) ∧ Hid (∀ b ∈ bs1, lo ≤ b ∧ b < w5.heap.size) := ⟨Lib.hid (K1.out.keep fun b hb => hc2.block b (by have := KB1.out b hb; omega)), Lib.hid fun b hb => by have := KB1.out b hb; omega⟩
  clear q0 q1 q2 q3 q4 q5 q6 qf p0 p1 p2 p3 p4 p5 p6 pf
  replace HD0 := bk HD0 hc2
  replace HD1 := bk HD1 hc2
  replace HD2 := bk HD2 hc2
  have hB2 := bl_trans hB hc2
  clear hB hc2
  obtain ⟨⟨q0, q1, q2⟩, ⟨q3, q4, q5, q6⟩, qf⟩ := cells7 HD0
  obtain ⟨⟨p0, p1, p2⟩, ⟨p3, p4, p5, p6⟩, pf⟩ := cells7 HD2
  obtain ⟨x2, hX2⟩ : ∃ z, z = w5.setCell ⟨w.heap.size + 1 + 1, 5, none⟩ (.slice (some ⟨g2, 0, none⟩) m.cls.length m.cls.length) := ⟨_, rfl⟩
  have HX2 := Lib.hid hX2
  obtain ⟨hB, hO2, HY2, hZ2, hT2⟩ := setB hB2 (by omega) HD2.out hX2
  clear hX2 hB2
  go_wp2_with fail
  rw [← HX2.out]
  obtain ⟨K0, KB0⟩ : Hid (OwnRows x2 24 3 (.slice B0 n0 d0) m.start bs0) ∧ Hid (∀ b ∈ bs0, lo ≤ b ∧ b < x2.heap.size) := ⟨Lib.hid (K0.out.keep fun b hb => hO2 b (by have := KB0.out b hb; omega)), Lib.hid fun b hb => by have := KB0.out b hb; omega⟩
  obtain ⟨K1, KB1⟩ : Hid (OwnRows x2 24 3 (.slice B1 n1 d1) m.send bs1) ∧ Hid (∀ b ∈ bs1, lo ≤ b ∧ b < x2.heap.size) := ⟨Lib.hid (K1.out.keep fun b hb => hO2 b (by have := KB1.out b hb; omega)), Lib.hid fun b hb => by have := KB1.out b hb; omega⟩
  replace K2 := Lib.hid (K2.out.keep (w' := x2) (by omega) fun b h1 h2 => hO2 b (by omega))
  replace HD0 := Lib.hid ((hO2 _ (by omega)).trans HD0.out)
  replace HD1 := Lib.hid ((hO2 _ (by omega)).trans HD1.out)
  clear HD2
  have HD2 := Lib.hid (show x2.heap[w.heap.size + 1 + 1]? = some (.cells #[.int .i64 m.deg, .int .i64 m.st, .int .i64 m.msg, .slice B0 n0 d0, .slice B1 n1 d1, .slice (some ⟨g2, 0, none⟩) m.cls.length m.cls.length, .slice none 0 0] 42 (0, 0)) from HY2.out)
  clear HY2 hO2
  clear q0 q1 q2 q3 q4 q5 q6 qf p0 p1 p2 p3 p4 p5 p6 pf
  obtain ⟨⟨q0, q1, q2⟩, ⟨q3, q4, q5, q6⟩, qf⟩ := cells7 HD0
  obtain ⟨⟨p0, p1, p2⟩, ⟨p3, p4, p5, p6⟩, pf⟩ := cells7 HD2
  refine (to_IntS _ m.out x2 (HN.out.up hB).o HZ.out.2.2.2).mono ?_
  rintro e w6 ⟨rfl, hx3⟩
  have hc3 : Below x2.heap.size x2 w6 := by rw [hx3]; exact bl_alloc (Below.refl _ _) _
  obtain ⟨g3, hg3⟩ : ∃ z, z = x2.heap.size := ⟨_, rfl⟩
  rw [← hg3]
  have K3 := Lib.hid (show w6.heap[g3]? = some (.cells (m.out.map intV).toArray 3 (0, 0)) by rw [hx3, hg3]; exact heap_alloc_new x2 _)
  have hl3 : lo ≤ g3 := by omega
  have hm3 : g3 < w6.heap.size := by rw [hx3, hg3]; simp
  clear hx3 hg3
  have hzc3 := hc3.size
  obtain ⟨K0, KB0⟩ : Hid (OwnRows w6 24 3 (.slice B0 n0 d0) m.start bs0) ∧ Hid (∀ b ∈ bs0, lo ≤ b ∧ b < w6.heap.size) := ⟨Lib.hid (K0.out.keep fun b hb => hc3.block b (by have := KB0.out b hb; omega)), Lib.hid fun b hb => by have := KB0.out b hb; omega⟩
  obtain ⟨K1, KB1⟩ : Hid (OwnRows w6 24 3 (.slice B1 n1 d1) m.send bs1) ∧ Hid (∀ b ∈ bs1, lo ≤ b ∧ b < w6.heap.size) := ⟨Lib.hid (K1.out.keep fun b hb => hc3.block b (by have := KB1.out b hb; omega)), Lib.hid fun b hb => by have := KB1.out b hb; omega⟩
  replace K2 := Lib.hid (K2.out.keep (w' := w6) (by omega) fun b h1 h2 => hc3.block b (by omega))
  clear q0 q1 q2 q3 q4 q5 q6 qf p0 p1 p2 p3 p4 p5 p6 pf
  replace HD0 := bk HD0 hc3
  replace HD1 := bk HD1 hc3
  replace HD2 := bk HD2 hc3
  have hB3 := bl_trans hB hc3
  clear hB hc3
  obtain ⟨⟨q0, q1, q2⟩, ⟨q3, q4, q5, q6⟩, qf⟩ := cells7 HD0
  obtain ⟨⟨p0, p1, p2⟩, ⟨p3, p4, p5, p6⟩, pf⟩ := cells7 HD2
  obtain ⟨x3, hX3⟩ : ∃ z, z = w6.setCell ⟨w.heap.size + 1 + 1, 6, none⟩ (.slice (some ⟨g3, 0, none⟩) m.out.length m.out.length) := ⟨_, rfl⟩
  have HX3 := Lib.hid hX3
  obtain ⟨hB, hO3, HY3, hZ3, hT3⟩ := setB hB3 (by omega) HD2.out hX3
  clear hX3 hB3
  obtain ⟨⟨r0, r1, r2⟩, ⟨r3, r4, r5, r6⟩, rf⟩ := cells7 HD1
  go_wp2_with fail
  rw [← HX3.out]
  obtain ⟨K0, KB0⟩ : Hid (OwnRows x3 24 3 (.slice B0 n0 d0) m.start bs0) ∧ Hid (∀ b ∈ bs0, lo ≤ b ∧ b < x3.heap.size) := ⟨Lib.hid (K0.out.keep fun b hb => hO3 b (by have := KB0.out b hb; omega)), Lib.hid fun b hb => by have := KB0.out b hb; omega⟩
  obtain ⟨K1, KB1⟩ : Hid (OwnRows x3 24 3 (.slice B1 n1 d1) m.send bs1) ∧ Hid (∀ b ∈ bs1, lo ≤ b ∧ b < x3.heap.size) := ⟨Lib.hid (K1.out.keep fun b hb => hO3 b (by have := KB1.out b hb; omega)), Lib.hid fun b hb => by have := KB1.out b hb; omega⟩
  replace K2 := Lib.hid (K2.out.keep (w' := x3) (by omega) fun b h1 h2 => hO3 b (by omega))
  replace K3 := Lib.hid ((hO3 g3 (by omega)).trans K3.out)
  replace HD0 := Lib.hid ((hO3 _ (by omega)).trans HD0.out)
  replace HD1 := Lib.hid ((hO3 _ (by omega)).trans HD1.out)
  clear HD2
  have HD2 := Lib.hid (show x3.heap[w.heap.size + 1 + 1]? = some (.cells #[.int .i64 m.deg, .int .i64 m.st, .int .i64 m.msg, .slice B0 n0 d0, .slice B1 n1 d1, .slice (some ⟨g2, 0, none⟩) m.cls.length m.cls.length, .slice (some ⟨g3, 0, none⟩) m.out.length m.out.length] 42 (0, 0)) from HY3.out)
  clear HY3 hO3
  obtain ⟨y0, hy0⟩ : ∃ z, z = x3.setCell ⟨w.heap.size + 1, 0, none⟩ (.int .i64 m.deg) := ⟨_, rfl⟩
  rw [← hy0]
  obtain ⟨hBy0, hOy0, HYy0, hZy0, hTy0⟩ := setB hB (by omega) HD1.out hy0
  clear hy0
  obtain ⟨K0, KB0⟩ : Hid (OwnRows y0 24 3 (.slice B0 n0 d0) m.start bs0) ∧ Hid (∀ b ∈ bs0, lo ≤ b ∧ b < y0.heap.size) := ⟨Lib.hid (K0.out.keep fun b hb => hOy0 b (by have := KB0.out b hb; omega)), Lib.hid fun b hb => by have := KB0.out b hb; omega⟩
  obtain ⟨K1, KB1⟩ : Hid (OwnRows y0 24 3 (.slice B1 n1 d1) m.send bs1) ∧ Hid (∀ b ∈ bs1, lo ≤ b ∧ b < y0.heap.size) := ⟨Lib.hid (K1.out.keep fun b hb => hOy0 b (by have := KB1.out b hb; omega)), Lib.hid fun b hb => by have := KB1.out b hb; omega⟩
  replace K2 := Lib.hid (K2.out.keep (w' := y0) (by omega) fun b h1 h2 => hOy0 b (by omega))
  replace K3 := Lib.hid ((hOy0 g3 (by omega)).trans K3.out)
  clear hOy0
  obtain ⟨y1, hy1⟩ : ∃ z, z = y0.setCell ⟨w.heap.size + 1, 1, none⟩ (.int .i64 m.st) := ⟨_, rfl⟩
  rw [← hy1]
  obtain ⟨hBy1, hOy1, HYy1, hZy1, hTy1⟩ := setB hBy0 (by omega) HYy0.out hy1
  clear hy1
  obtain ⟨K0, KB0⟩ : Hid (OwnRows y1 24 3 (.slice B0 n0 d0) m.start bs0) ∧ Hid (∀ b ∈ bs0, lo ≤ b ∧ b < y1.heap.size) := ⟨Lib.hid (K0.out.keep fun b hb => hOy1 b (by have := KB0.out b hb; omega)), Lib.hid fun b hb => by have := KB0.out b hb; omega⟩
  obtain ⟨K1, KB1⟩ : Hid (OwnRows y1 24 3 (.slice B1 n1 d1) m.send bs1) ∧ Hid (∀ b ∈ bs1, lo ≤ b ∧ b < y1.heap.size) := ⟨Lib.hid (K1.out.keep fun b hb => hOy1 b (by have := KB1.out b hb; omega)), Lib.hid fun b hb => by have := KB1.out b hb; omega⟩
  replace K2 := Lib.hid (K2.out.keep (w' := y1) (by omega) fun b h1 h2 => hOy1 b (by omega))
  replace K3 := Lib.hid ((hOy1 g3 (by omega)).trans K3.out)
  clear hOy1
  obtain ⟨y2, hy2⟩ : ∃ z, z = y1.setCell ⟨w.heap.size + 1, 2, none⟩ (.int .i64 m.msg) := ⟨_, rfl⟩
  rw [← hy2]
  obtain ⟨hBy2, hOy2, HYy2, hZy2, hTy2⟩ := setB hBy1 (by omega) HYy1.out hy2
  clear hy2
  obtain ⟨K0, KB0⟩ : Hid (OwnRows y2 24 3 (.slice B0 n0 d0) m.start bs0) ∧ Hid (∀ b ∈ bs0, lo ≤ b ∧ b < y2.heap.size) := ⟨Lib.hid (K0.out.keep fun b hb => hOy2 b (by have := KB0.out b hb; omega)), Lib.hid fun b hb => by have := KB0.out b hb; omega⟩
  obtain ⟨K1, KB1⟩ : Hid (OwnRows y2 24 3 (.slice B1 n1 d1) m.send bs1) ∧ Hid (∀ b ∈ bs1, lo ≤ b ∧ b < y2.heap.size) := ⟨Lib.hid (K1.out.keep fun b hb => hOy2 b (by have := KB1.out b hb; omega)), Lib.hid fun b hb => by have := KB1.out b hb; omega⟩
  replace K2 := Lib.hid (K2.out.keep (w' := y2) (by omega) fun b h1 h2 => hOy2 b (by omega))
  replace K3 := Lib.hid ((hOy2 g3 (by omega)).trans K3.out)
  clear hOy2
  obtain ⟨y3, hy3⟩ : ∃ z, z = y2.setCell ⟨w.heap.size + 1, 3, none⟩ (.slice B0 n0 d0) := ⟨_, rfl⟩
  rw [← hy3]
  obtain ⟨hBy3, hOy3, HYy3, hZy3, hTy3⟩ := setB hBy2 (by omega) HYy2.out hy3
  clear hy3
  obtain ⟨K0, KB0⟩ : Hid (OwnRows y3 24 3 (.slice B0 n0 d0) m.start bs0) ∧ Hid (∀ b ∈ bs0, lo ≤ b ∧ b < y3.heap.size) := ⟨Lib.hid (K0.out.keep fun b hb => hOy3 b (by have := KB0.out b hb; omega)), Lib.hid fun b hb => by have := KB0.out b hb; omega⟩
  obtain ⟨K1, KB1⟩ : Hid (OwnRows y3 24 3 (.slice B1 n1 d1) m.send bs1) ∧ Hid (∀ b ∈ bs1, lo ≤ b ∧ b < y3.heap.size) := ⟨Lib.hid (K1.out.keep fun b hb => hOy3 b (by have := KB1.out b hb; omega)), Lib.hid fun b hb => by have := KB1.out b hb; omega⟩
  replace K2 := Lib.hid (K2.out.keep (w' := y3) (by omega) fun b h1 h2 => hOy3 b (by omega))
  replace K3 := Lib.hid ((hOy3 g3 (by omega)).trans K3.out)
  clear hOy3
  obtain ⟨y4, hy4⟩ : ∃ z, z = y3.setCell ⟨w.heap.size + 1, 4, none⟩ (.slice B1 n1 d1) := ⟨_, rfl⟩
  rw [← hy4]
  obtain ⟨hBy4, hOy4, HYy4, hZy4, hTy4⟩ := setB hBy3 (by omega) HYy3.out hy4
  clear hy4
  obtain ⟨K0, KB0⟩ : Hid (OwnRows y4 24 3 (.slice B0 n0 d0) m.start bs0) ∧ Hid (∀ b ∈ bs0, lo ≤ b ∧ b < y4.heap.size) := ⟨Lib.hid (K0.out.keep fun b hb => hOy4 b (by have := KB0.out b hb; omega)), Lib.hid fun b hb => by have := KB0.out b hb; omega⟩
  obtain ⟨K1, KB1⟩ : Hid (OwnRows y4 24 3 (.slice B1 n1 d1) m.send bs1) ∧ Hid (∀ b ∈ bs1, lo ≤ b ∧ b < y4.heap.size) := ⟨Lib.hid (K1.out.keep fun b hb => hOy4 b (by have := KB1.out b hb; omega)), Lib.hid fun b hb => by have := KB1.out b hb; omega⟩
  replace K2 := Lib.hid (K2.out.keep (w' := y4) (by omega) fun b h1 h2 => hOy4 b (by omega))
  replace K3 := Lib.hid ((hOy4 g3 (by omega)).trans K3.out)
  clear hOy4
  obtain ⟨y5, hy5⟩ : ∃ z, z = y4.setCell ⟨w.heap.size + 1, 5, none⟩ (.slice (some ⟨g2, 0, none⟩) m.cls.length m.cls.length) := ⟨_, rfl⟩
  rw [← hy5]
  obtain ⟨hBy5, hOy5, HYy5, hZy5, hTy5⟩ := setB hBy4 (by omega) HYy4.out hy5
  clear hy5
  obtain ⟨K0, KB0⟩ : Hid (OwnRows y5 24 3 (.slice B0 n0 d0) m.start bs0) ∧ Hid (∀ b ∈ bs0, lo ≤ b ∧ b < y5.heap.size) := ⟨Lib.hid (K0.out.keep fun b hb => hOy5 b (by have := KB0.out b hb; omega)), Lib.hid fun b hb => by have := KB0.out b hb; omega⟩
  obtain ⟨K1, KB1⟩ : Hid (OwnRows y5 24 3 (.slice B1 n1 d1) m.send bs1) ∧ Hid (∀ b ∈ bs1, lo ≤ b ∧ b < y5.heap.size) := ⟨Lib.hid (K1.out.keep fun b hb => hOy5 b (by have := KB1.out b hb; omega)), Lib.hid fun b hb => by have := KB1.out b hb; omega⟩
  replace K2 := Lib.hid (K2.out.keep (w' := y5) (by omega) fun b h1 h2 => hOy5 b (by omega))
  replace K3 := Lib.hid ((hOy5 g3 (by omega)).trans K3.out)
  clear hOy5
  obtain ⟨y6, hy6⟩ : ∃ z, z = y5.setCell ⟨w.heap.size + 1, 6, none⟩ (.slice (some ⟨g3, 0, none⟩) m.out.length m.out.length) := ⟨_, rfl⟩
  rw [← hy6]
  obtain ⟨hBy6, hOy6, HYy6, hZy6, hTy6⟩ := setB hBy5 (by omega) HYy5.out hy6
  clear hy6
  obtain ⟨K0, KB0⟩ : Hid (OwnRows y6 24 3 (.slice B0 n0 d0) m.start bs0) ∧ Hid (∀ b ∈ bs0, lo ≤ b ∧ b < y6.heap.size) := ⟨Lib.hid (K0.out.keep fun b hb => hOy6 b (by have := KB0.out b hb; omega)), Lib.hid fun b hb => by have := KB0.out b hb; omega⟩
  obtain ⟨K1, KB1⟩ : Hid (OwnRows y6 24 3 (.slice B1 n1 d1) m.send bs1) ∧ Hid (∀ b ∈ bs1, lo ≤ b ∧ b < y6.heap.size) := ⟨Lib.hid (K1.out.keep fun b hb => hOy6 b (by have := KB1.out b hb; omega)), Lib.hid fun b hb => by have := KB1.out b hb; omega⟩
  replace K2 := Lib.hid (K2.out.keep (w' := y6) (by omega) fun b h1 h2 => hOy6 b (by omega))
  replace K3 := Lib.hid ((hOy6 g3 (by omega)).trans K3.out)
  clear hOy6
  have HF := Lib.hid (show y6.heap[w.heap.size + 1]? = some (.cells #[.int .i64 m.deg, .int .i64 m.st, .int .i64 m.msg, .slice B0 n0 d0, .slice B1 n1 d1, .slice (some ⟨g2, 0, none⟩) m.cls.length m.cls.length, .slice (some ⟨g3, 0, none⟩) m.out.length m.out.length] 42 (0, 0)) from HYy6.out)
  clear q0 q1 q2 q3 q4 q5 q6 qf p0 p1 p2 p3 p4 p5 p6 pf r0 r1 r2 r3 r4 r5 r6 rf
  obtain ⟨⟨s0, s1, s2⟩, ⟨s3, s4, s5, s6⟩, sf⟩ := cells7 HF
  refine bodyPost_ret (v := .agg #[.int .i64 m.deg, .int .i64 m.st, .int .i64 m.msg, .slice B0 n0 d0, .slice B1 n1 d1, .slice (some ⟨g2, 0, none⟩) m.cls.length m.cls.length, .slice (some ⟨g3, 0, none⟩) m.out.length m.out.length]) (by simp [results, Tryz.results13, go_sem, s0, s1, s2, s3, s4, s5, s6]) rfl ?_
  exact ⟨_, _, _, _, rfl, ⟨K0.out.reads fun b hb => (KB0.out b hb).2, K1.out.reads fun b hb => (KB1.out b hb).2, K2.out.reads (cls_64 HN.out.c) HZ.out.2.2.1, ints_row K3.out (by have := HZ.out.2.2.2; unfold maxLen; omega) HN.out.o.2 (Array.getElem?_eq_some_iff.1 K3.out).1, HN.out.i⟩, hBy6⟩
end Go.Proofs.YtcpbbjocaimocaaGreat
