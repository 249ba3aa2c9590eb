/-
  Which acts are possible, the reference's side: MayAsync; an act copied by the laws' own function.
-/
import Derived.Test.YtcpbbjocaimocaaGreatSyDo
namespace Go.Proofs.YtcpbbjocaimocaaGreat
open Go.RowKit
set_option linter.unusedVariables false
set_option linter.unusedSimpArgs false
theorem Did.slices {b : Bool} {w : World} {base : Nat} {xr xb xn xs xf ur ub un us uf : Value} {y : Asy} (h : Did b w base xr xb xn xs xf ur ub un us uf y) (h1 : ∃ A m c, xr = .slice A m c) (h2 : ∃ A m c, xb = .slice A m c) (h3 : ∃ A m c, xn = .slice A m c) (h4 : ∃ A m c, xs = .slice A m c) (h5 : ∃ A m c, xf = .slice A m c) :
    (∃ A m c, ur = .slice A m c) ∧ (∃ A m c, ub = .slice A m c) ∧ (∃ A m c, un = .slice A m c) ∧ (∃ A m c, us = .slice A m c) ∧ ∃ A m c, uf = .slice A m c := by
  cases b with
  | false =>
    obtain ⟨e1, e2, e3, e4, e5⟩ := h.2 rfl
    exact ⟨by rw [e1]; exact h1, by rw [e2]; exact h2, by rw [e3]; exact h3, by rw [e4]; exact h4, by rw [e5]; exact h5⟩
  | true =>
    obtain ⟨val, e1, e2, e3, e4, e5, hk⟩ := h.1 rfl
    obtain ⟨A1, c1, f1⟩ := own_sl1 (hk.own .r trivial)
    obtain ⟨A2, c2, f2⟩ := own_sl1 (hk.own .b trivial)
    obtain ⟨A3, c3, f3⟩ := own_sl1 (hk.own .n trivial)
    obtain ⟨A4, c4, f4⟩ := own_sl1 (hk.own .s trivial)
    obtain ⟨A5, c5, f5⟩ := own_sl1 (hk.own .f trivial)
    exact ⟨⟨_, _, _, e1.trans f1⟩, ⟨_, _, _, e2.trans f2⟩, ⟨_, _, _, e3.trans f3⟩, ⟨_, _, _, e4.trans f4⟩, ⟨_, _, _, e5.trans f5⟩⟩
set_option maxRecDepth 100000 in
set_option maxHeartbeats 2000000 in
theorem spec_MayAsync (vs ve vc vo : Value) (m : Mach) (ne ni nn : Value) (n : Net) (xr xb xn xs xf : Value) (x : Asy) (ak an ap aa : Int) (w : World) (hm : MachR w w.heap.size vs ve vc vo m) (hn : NetR w w.heap.size ne ni nn n) (hx : AsyR w w.heap.size xr xb xn xs xf x)
    (hz : n.es.length ≤ 2000000) :
    Calls Tryz.prog 12 #[machV vs ve vc vo m, .agg #[ne, ni, nn], .agg #[xr, xb, xn, xs, xf], .agg #[.int .i64 ak, .int .i64 an, .int .i64 ap, .int .i64 aa]] w fun e w' => e = .returned (.tuple #[.bool (mxB m n x ⟨ak, an, ap, aa⟩), .bool (goodB m n x)]) ∧ Below w.heap.size w w' := by
  unfold machV
  obtain ⟨⟨A0, m0, c0, rfl⟩, ⟨A1, m1, c1, rfl⟩, ⟨A2, m2, c2, rfl⟩, A3, m3, c3, rfl⟩ := hm.slices
  obtain ⟨⟨A4, m4, c4, rfl⟩, ⟨A5, m5, c5, rfl⟩, A6, m6, c6, rfl⟩ := hn.slices
  obtain ⟨⟨A10, m10, c10, rfl⟩, ⟨A11, m11, c11, rfl⟩, ⟨A12, m12, c12, rfl⟩, ⟨A8, m8, c8, rfl⟩, A9, m9, c9, rfl⟩ := hx.slices
  obtain ⟨w0, hw0, hb0, HM, hz0, HS0⟩ := box7 w (.int .i64 m.deg) (.int .i64 m.st) (.int .i64 m.msg) (.slice A0 m0 c0) (.slice A1 m1 c1) (.slice A2 m2 c2) (.slice A3 m3 c3) 42
  obtain ⟨w1, hw1, hb1, HD, hz1, HS1⟩ := box3 w0 (.slice A4 m4 c4) (.slice A5 m5 c5) (.slice A6 m6 c6) 46
  replace HM := bk HM hb1
  obtain ⟨w2, hw2, hb2, HY, hz2, HS2⟩ := box5 w1 (.slice A10 m10 c10) (.slice A11 m11 c11) (.slice A12 m12 c12) (.slice A8 m8 c8) (.slice A9 m9 c9) 50
  replace HM := bk HM hb2
  replace HD := bk HD hb2
  obtain ⟨w3, hw3, hb3, HA, hz3, HS3⟩ := box4a w2 (.int .i64 ak) (.int .i64 an) (.int .i64 ap) (.int .i64 aa) 52
  replace HM := bk HM hb3
  replace HD := bk HD hb3
  replace HY := bk HY hb3
  have hB : Below w.heap.size w w3 := bl_trans (bl_trans (bl_trans (hb0) hb1) hb2) hb3
  have HW := Lib.hid (show w3 = (((w.alloc (.cells #[.int .i64 m.deg, .int .i64 m.st, .int .i64 m.msg, .slice A0 m0 c0, .slice A1 m1 c1, .slice A2 m2 c2, .slice A3 m3 c3] 42)).alloc (.cells #[.slice A4 m4 c4, .slice A5 m5 c5, .slice A6 m6 c6] 46)).alloc (.cells #[.slice A10 m10 c10, .slice A11 m11 c11, .slice A12 m12 c12, .slice A8 m8 c8, .slice A9 m9 c9] 50)).alloc (.cells #[.int .i64 ak, .int .i64 an, .int .i64 ap, .int .i64 aa] 52) by rw [hw3, hw2, hw1, hw0])
  obtain ⟨P1, hP1⟩ : ∃ z, z = w0.heap.size := ⟨_, rfl⟩
  have HP1 := Lib.hid (show w.heap.size + 1 = P1 by rw [hP1, HS0.out])
  have hPl1 : w.heap.size < P1 := by rw [← HP1.out]; omega
  rw [← hP1] at HD hz1
  obtain ⟨P2, hP2⟩ : ∃ z, z = w1.heap.size := ⟨_, rfl⟩
  have HP2 := Lib.hid (show w.heap.size + 1 + 1 = P2 by rw [hP2, HS1.out, HS0.out])
  have hPl2 : w.heap.size < P2 := by rw [← HP2.out]; omega
  rw [← hP2] at HY hz2
  obtain ⟨P3, hP3⟩ : ∃ z, z = w2.heap.size := ⟨_, rfl⟩
  have HP3 := Lib.hid (show w.heap.size + 1 + 1 + 1 = P3 by rw [hP3, HS2.out, HS1.out, HS0.out])
  have hPl3 : w.heap.size < P3 := by rw [← HP3.out]; omega
  rw [← hP3] at HA hz3
  obtain ⟨⟨g0, g1, g2⟩, ⟨g3, g4, g5, g6⟩, gf⟩ := cells7 HM
  obtain ⟨q0, q1, q2, qf⟩ := cells3 HD
  obtain ⟨⟨y0, y1, y2⟩, ⟨y3, y4⟩, yf⟩ := cells5 HY
  obtain ⟨⟨u0, u1⟩, ⟨u2, u3⟩, uf⟩ := cells4a HA
  have eg0 := g0
  have eg1 := g1
  have eg2 := g2
  have eg3 := g3
  have eg4 := g4
  have eg5 := g5
  have eg6 := g6
  have eq0 := q0
  have eq1 := q1
  have eq2 := q2
  have ey0 := y0
  have ey1 := y1
  have ey2 := y2
  have ey3 := y3
  have ey4 := y4
  have eu0 := u0
  have eu1 := u1
  have eu2 := u2
  have eu3 := u3
  rw [HW.out] at eg0 eg1 eg2 eg3 eg4 eg5 eg6 eq0 eq1 eq2 ey0 ey1 ey2 ey3 ey4 eu0 eu1 eu2 eu3
  rw [← HP1.out] at eq0 eq1 eq2
  rw [← HP2.out] at ey0 ey1 ey2 ey3 ey4
  rw [← HP3.out] at eu0 eu1 eu2 eu3
  have hzb0 : w.heap.size < w3.heap.size := by omega
  have hzb1 : P1 < w3.heap.size := by omega
  have hzb2 : P2 < w3.heap.size := by omega
  have hzb3 : P3 < w3.heap.size := by omega
  have HR := Lib.hid (hm.up hB)
  have HN := Lib.hid (hn.up hB)
  have HX := Lib.hid (hx.up hB)
  clear hw3 hw2 hw1 hw0 hP1 hP2 hP3
  have HG := Lib.hid (spec_syGood _ _ _ _ m _ _ _ n _ _ _ _ _ x w3 HR.out HN.out HX.out hz)
  cases j1 : goodB m n x with
  | false =>
    have HF := Lib.hid (show false = mxB m n x ⟨ak, an, ap, aa⟩ by unfold mxB; rw [j1]; rfl)
    go_enter Tryz.func12, Tryz.ntmps12
    go_wp2_with fail
    rw [HP3.out, HP2.out, HP1.out, ← HW.out]
    clear eg0 eg1 eg2 eg3 eg4 eg5 eg6 eq0 eq1 eq2 ey0 ey1 ey2 ey3 ey4 eu0 eu1 eu2 eu3
    refine HG.out.mono ?_
    rintro e w5 ⟨rfl, hb5⟩
    rw [j1]
    have hzhb5 := hb5.size
    clear g0 g1 g2 g3 g4 g5 g6 gf q0 q1 q2 qf y0 y1 y2 y3 y4 yf u0 u1 u2 u3 uf
    replace HM := bk HM hb5
    replace HD := bk HD hb5
    replace HY := bk HY hb5
    replace HA := bk HA hb5
    replace hB := bl_trans hB hb5
    obtain ⟨⟨g0, g1, g2⟩, ⟨g3, g4, g5, g6⟩, gf⟩ := cells7 HM
    obtain ⟨q0, q1, q2, qf⟩ := cells3 HD
    obtain ⟨⟨y0, y1, y2⟩, ⟨y3, y4⟩, yf⟩ := cells5 HY
    obtain ⟨⟨u0, u1⟩, ⟨u2, u3⟩, uf⟩ := cells4a HA
    replace HR := Lib.hid (HR.out.up hb5)
    replace HN := Lib.hid (HN.out.up hb5)
    replace HX := Lib.hid (HX.out.up hb5)
    go_wp2_with fail
    go_ret2
    exact ⟨ret2bb HF.out rfl, hB⟩
  | true =>
    have HP := Lib.hid (propB_iff.1 j1)
    have HF := Lib.hid (show mayB n x ⟨ak, an, ap, aa⟩ = mxB m n x ⟨ak, an, ap, aa⟩ by unfold mxB; rw [j1]; rfl)
    go_enter Tryz.func12, Tryz.ntmps12
    go_wp2_with fail
    rw [HP3.out, HP2.out, HP1.out, ← HW.out]
    clear eg0 eg1 eg2 eg3 eg4 eg5 eg6 eq0 eq1 eq2 ey0 ey1 ey2 ey3 ey4 eu0 eu1 eu2 eu3
    refine HG.out.mono ?_
    rintro e w5 ⟨rfl, hb5⟩
    rw [j1]
    have hzhb5 := hb5.size
    clear g0 g1 g2 g3 g4 g5 g6 gf q0 q1 q2 qf y0 y1 y2 y3 y4 yf u0 u1 u2 u3 uf
    replace HM := bk HM hb5
    replace HD := bk HD hb5
    replace HY := bk HY hb5
    replace HA := bk HA hb5
    replace hB := bl_trans hB hb5
    obtain ⟨⟨g0, g1, g2⟩, ⟨g3, g4, g5, g6⟩, gf⟩ := cells7 HM
    obtain ⟨q0, q1, q2, qf⟩ := cells3 HD
    obtain ⟨⟨y0, y1, y2⟩, ⟨y3, y4⟩, yf⟩ := cells5 HY
    obtain ⟨⟨u0, u1⟩, ⟨u2, u3⟩, uf⟩ := cells4a HA
    replace HR := Lib.hid (HR.out.up hb5)
    replace HN := Lib.hid (HN.out.up hb5)
    replace HX := Lib.hid (HX.out.up hb5)
    go_wp2_with fail
    refine (spec_syDo _ _ _ _ m _ _ _ n _ _ _ _ _ x ak an ap aa w5 HR.out HN.out HX.out HP.out).mono ?_
    rintro e w6 ⟨ur, ub, un, us, uf, rfl, hb6, hdid⟩
    obtain ⟨⟨B0, l0, d0, rfl⟩, ⟨B1, l1, d1, rfl⟩, ⟨B2, l2, d2, rfl⟩, ⟨B3, l3, d3, rfl⟩, B4, l4, d4, rfl⟩ := hdid.slices ⟨_, _, _, rfl⟩ ⟨_, _, _, rfl⟩ ⟨_, _, _, rfl⟩ ⟨_, _, _, rfl⟩ ⟨_, _, _, rfl⟩
    clear hdid
    go_wp2_with fail
    go_ret2
    exact ⟨ret2bb HF.out rfl, bl_alloc (bl_trans hB hb6) _⟩
theorem to_Act (ak an ap aa : Int) (w : World) :
    Calls Tryz.prog 16 #[.agg #[.int .i64 ak, .int .i64 an, .int .i64 ap, .int .i64 aa]] w fun e w' => e = .returned (.agg #[.int .i64 ak, .int .i64 an, .int .i64 ap, .int .i64 aa]) ∧ Below w.heap.size w w' := by
  go_enter Tryz.func16, Tryz.ntmps16
  go_wp2
  refine bodyPost_ret (v := .agg #[.int .i64 ak, .int .i64 an, .int .i64 ap, .int .i64 aa]) (by simp [results, Tryz.results16, go_sem]) rfl ⟨rfl, ?_⟩
  repeat (first | exact Below.refl _ _ | refine Below.drew ?_ | refine bl_alloc ?_ _ | refine Below.setCell ?_ (by simp <;> omega) _)
end Go.Proofs.YtcpbbjocaimocaaGreat
