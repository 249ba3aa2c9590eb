/-
  Which acts are possible, the program's side: mayAsync of a valid state, MayAsync.
-/
import Derived.Test.YtcpbbjocaimocaaGreatMayI2
namespace Go.Proofs.YtcpbbjocaimocaaGreat
open Go.RowKit
set_option linter.unusedVariables false
set_option linter.unusedSimpArgs false
theorem ret2bb {a b a' b' : Bool} (h1 : a = a') (h2 : b = b') : Ending.returned (.tuple #[.bool a, .bool b]) = .returned (.tuple #[.bool a', .bool b']) := by rw [h1, h2]
theorem impl_mayAsync (m : Mach) (ne ni nn : Value) (n : Net) (xr xb xn xs xf : Value) (x : Asy) (ak an ap aa : Int) (w : World) (hn : NetR w w.heap.size ne ni nn n) (hx : AsyR w w.heap.size xr xb xn xs xf x) (hz : n.es.length ≤ 2000000) (hq : netP n) (ha : asyP m n x) :
    Calls Tryz.prog 58 #[.agg #[ne, ni, nn], .agg #[xr, xb, xn, xs, xf], .agg #[.int .i64 ak, .int .i64 an, .int .i64 ap, .int .i64 aa]] w fun e w' => e = .returned (.bool (mayB n x ⟨ak, an, ap, aa⟩)) ∧ Below w.heap.size w w' := by
  cases h1 : inB an 0 ((n.es.length : Int) - 1) with
  | false => exact impl_may_no1 ne ni nn n xr xb xn xs xf x ak an ap aa w hn hx hz h1
  | true =>
    obtain ⟨k, rfl, hk⟩ := inB_nat h1
    obtain ⟨l, s, f, r, hat⟩ := at_of ha hk
    by_cases h5 : ak = 5
    · subst h5
      exact impl_may5 ne ni nn n xr xb xn xs xf x k l s f r ap aa w hn hx hz hat
    · cases hp : portB n k ap with
      | false => exact impl_may_no2 ne ni nn n xr xb xn xs xf x k l s f r ak ap aa w hn hx hz hat h5 hp
      | true =>
        rw [port_at hat.hl] at hp
        obtain ⟨p, rfl, hpp⟩ := inB_nat hp
        obtain ⟨ls, hls⟩ : ∃ y, f[p]? = some y := ⟨_, List.getElem?_eq_getElem (by rw [hat.fl]; exact hpp)⟩
        by_cases h1 : ak = 1
        · subst h1
          obtain ⟨e, he⟩ : ∃ y, l[p]? = some y := ⟨_, List.getElem?_eq_getElem hpp⟩
          obtain ⟨k2, p2, l2, s2, f2, r2, ls2, e1, e2, hat2, hp2, -⟩ := at_end ha hq hat he
          have ee : e = ((k2 : Int), (p2 : Int)) := by rw [← e1, ← e2]
          rw [ee] at he
          exact impl_may1 ne ni nn n xr xb xn xs xf x k l s f r p ls aa w hn hx hz hat hls k2 p2 l2 s2 f2 r2 ls2 he hat2 hp2
        · exact impl_mayK ne ni nn n xr xb xn xs xf x k l s f r p ls ak aa w hn hx hz hat hls h5 h1
noncomputable def mxB (m : Mach) (n : Net) (x : Asy) (a : Acts) : Bool := goodB m n x && mayB n x a
set_option maxRecDepth 100000 in
set_option maxHeartbeats 2000000 in
theorem impl_MayAsync (vs ve vc vo : Value) (m : Mach) (ne ni nn : Value) (n : Net) (xr xb xn xs xf : Value) (x : Asy) (ak an ap aa : Int) (w : World) (hm : MachR w w.heap.size vs ve vc vo m) (hn : NetR w w.heap.size ne ni nn n) (hx : AsyR w w.heap.size xr xb xn xs xf x)
    (hz : n.es.length ≤ 2000000) (hzi : n.ids.length ≤ 2000000) :
    Calls Tryz.prog 17 #[machV vs ve vc vo m, .agg #[ne, ni, nn], .agg #[xr, xb, xn, xs, xf], .agg #[.int .i64 ak, .int .i64 an, .int .i64 ap, .int .i64 aa]] w fun e w' => e = .returned (.tuple #[.bool (mxB m n x ⟨ak, an, ap, aa⟩), .bool (goodB m n x)]) ∧ Below w.heap.size w w' := by
  unfold machV
  obtain ⟨⟨A0, m0, c0, rfl⟩, ⟨A1, m1, c1, rfl⟩, ⟨A2, m2, c2, rfl⟩, A3, m3, c3, rfl⟩ := hm.slices
  obtain ⟨⟨A4, m4, c4, rfl⟩, ⟨A5, m5, c5, rfl⟩, A6, m6, c6, rfl⟩ := hn.slices
  obtain ⟨⟨A10, m10, c10, rfl⟩, ⟨A11, m11, c11, rfl⟩, ⟨A12, m12, c12, rfl⟩, ⟨A8, m8, c8, rfl⟩, A9, m9, c9, rfl⟩ := hx.slices
  obtain ⟨w0, hw0, hb0, HM, hz0, HS0⟩ := box7 w (.int .i64 m.deg) (.int .i64 m.st) (.int .i64 m.msg) (.slice A0 m0 c0) (.slice A1 m1 c1) (.slice A2 m2 c2) (.slice A3 m3 c3) 42
  obtain ⟨w1, hw1, hb1, HD, hz1, HS1⟩ := box3 w0 (.slice A4 m4 c4) (.slice A5 m5 c5) (.slice A6 m6 c6) 46
  replace HM := bk HM hb1
  obtain ⟨w2, hw2, hb2, HY, hz2, HS2⟩ := box5 w1 (.slice A10 m10 c10) (.slice A11 m11 c11) (.slice A12 m12 c12) (.slice A8 m8 c8) (.slice A9 m9 c9) 50
  replace HM := bk HM hb2
  replace HD := bk HD hb2
  obtain ⟨w3, hw3, hb3, HA, hz3, HS3⟩ := box4a w2 (.int .i64 ak) (.int .i64 an) (.int .i64 ap) (.int .i64 aa) 52
  replace HM := bk HM hb3
  replace HD := bk HD hb3
  replace HY := bk HY hb3
  have hB : Below w.heap.size w w3 := bl_trans (bl_trans (bl_trans (hb0) hb1) hb2) hb3
  have HW := Lib.hid (show w3 = (((w.alloc (.cells #[.int .i64 m.deg, .int .i64 m.st, .int .i64 m.msg, .slice A0 m0 c0, .slice A1 m1 c1, .slice A2 m2 c2, .slice A3 m3 c3] 42)).alloc (.cells #[.slice A4 m4 c4, .slice A5 m5 c5, .slice A6 m6 c6] 46)).alloc (.cells #[.slice A10 m10 c10, .slice A11 m11 c11, .slice A12 m12 c12, .slice A8 m8 c8, .slice A9 m9 c9] 50)).alloc (.cells #[.int .i64 ak, .int .i64 an, .int .i64 ap, .int .i64 aa] 52) by rw [hw3, hw2, hw1, hw0])
  obtain ⟨P1, hP1⟩ : ∃ z, z = w0.heap.size := ⟨_, rfl⟩
  have HP1 := Lib.hid (show w.heap.size + 1 = P1 by rw [hP1, HS0.out])
  have hPl1 : w.heap.size < P1 := by rw [← HP1.out]; omega
  rw [← hP1] at HD hz1
  obtain ⟨P2, hP2⟩ : ∃ z, z = w1.heap.size := ⟨_, rfl⟩
  have HP2 := Lib.hid (show w.heap.size + 1 + 1 = P2 by rw [hP2, HS1.out, HS0.out])
  have hPl2 : w.heap.size < P2 := by rw [← HP2.out]; omega
  rw [← hP2] at HY hz2
  obtain ⟨P3, hP3⟩ : ∃ z, z = w2.heap.size := ⟨_, rfl⟩
  have HP3 := Lib.hid (show w.heap.size + 1 + 1 + 1 = P3 by rw [hP3, HS2.out, HS1.out, HS0.out])
  have hPl3 : w.heap.size < P3 := by rw [← HP3.out]; omega
  rw [← hP3] at HA hz3
  obtain ⟨⟨g0, g1, g2⟩, ⟨g3, g4, g5, g6⟩, gf⟩ := cells7 HM
  obtain ⟨q0, q1, q2, qf⟩ := cells3 HD
  obtain ⟨⟨y0, y1, y2⟩, ⟨y3, y4⟩, yf⟩ := cells5 HY
  obtain ⟨⟨u0, u1⟩, ⟨u2, u3⟩, uf⟩ := cells4a HA
  have eg0 := g0
  have eg1 := g1
  have eg2 := g2
  have eg3 := g3
  have eg4 := g4
  have eg5 := g5
  have eg6 := g6
  have eq0 := q0
  have eq1 := q1
  have eq2 := q2
  have ey0 := y0
  have ey1 := y1
  have ey2 := y2
  have ey3 := y3
  have ey4 := y4
  have eu0 := u0
  have eu1 := u1
  have eu2 := u2
  have eu3 := u3
  rw [HW.out] at eg0 eg1 eg2 eg3 eg4 eg5 eg6 eq0 eq1 eq2 ey0 ey1 ey2 ey3 ey4 eu0 eu1 eu2 eu3
  rw [← HP1.out] at eq0 eq1 eq2
  rw [← HP2.out] at ey0 ey1 ey2 ey3 ey4
  rw [← HP3.out] at eu0 eu1 eu2 eu3
  have hzb0 : w.heap.size < w3.heap.size := by omega
  have hzb1 : P1 < w3.heap.size := by omega
  have hzb2 : P2 < w3.heap.size := by omega
  have hzb3 : P3 < w3.heap.size := by omega
  have HR := Lib.hid (hm.up hB)
  have HN := Lib.hid (hn.up hB)
  have HX := Lib.hid (hx.up hB)
  clear hw3 hw2 hw1 hw0 hP1 hP2 hP3
  have HG := Lib.hid (impl_IsAsyncState _ _ _ _ m _ _ _ n _ _ _ _ _ x w3 HR.out HN.out HX.out hz hzi)
  cases j1 : goodB m n x with
  | false =>
    have HF := Lib.hid (show false = mxB m n x ⟨ak, an, ap, aa⟩ by unfold mxB; rw [j1]; rfl)
    go_enter Tryz.func17, Tryz.ntmps17
    go_wp2_with fail
    rw [HP3.out, HP2.out, HP1.out, ← HW.out]
    clear eg0 eg1 eg2 eg3 eg4 eg5 eg6 eq0 eq1 eq2 ey0 ey1 ey2 ey3 ey4 eu0 eu1 eu2 eu3
    refine HG.out.mono ?_
    rintro e w5 ⟨rfl, hb5⟩
    rw [j1]
    have hzhb5 := hb5.size
    clear g0 g1 g2 g3 g4 g5 g6 gf q0 q1 q2 qf y0 y1 y2 y3 y4 yf u0 u1 u2 u3 uf
    replace HM := bk HM hb5
    replace HD := bk HD hb5
    replace HY := bk HY hb5
    replace HA := bk HA hb5
    replace hB := bl_trans hB hb5
    obtain ⟨⟨g0, g1, g2⟩, ⟨g3, g4, g5, g6⟩, gf⟩ := cells7 HM
    obtain ⟨q0, q1, q2, qf⟩ := cells3 HD
    obtain ⟨⟨y0, y1, y2⟩, ⟨y3, y4⟩, yf⟩ := cells5 HY
    obtain ⟨⟨u0, u1⟩, ⟨u2, u3⟩, uf⟩ := cells4a HA
    replace HR := Lib.hid (HR.out.up hb5)
    replace HN := Lib.hid (HN.out.up hb5)
    replace HX := Lib.hid (HX.out.up hb5)
    go_wp2_with fail
    go_ret2
    exact ⟨ret2bb HF.out rfl, hB⟩
  | true =>
    have hp := propB_iff.1 j1
    have HQ := Lib.hid hp.1.2.1
    have HAP := Lib.hid hp.2
    have HF := Lib.hid (show mayB n x ⟨ak, an, ap, aa⟩ = mxB m n x ⟨ak, an, ap, aa⟩ by unfold mxB; rw [j1]; rfl)
    clear hp
    go_enter Tryz.func17, Tryz.ntmps17
    go_wp2_with fail
    rw [HP3.out, HP2.out, HP1.out, ← HW.out]
    clear eg0 eg1 eg2 eg3 eg4 eg5 eg6 eq0 eq1 eq2 ey0 ey1 ey2 ey3 ey4 eu0 eu1 eu2 eu3
    refine HG.out.mono ?_
    rintro e w5 ⟨rfl, hb5⟩
    rw [j1]
    have hzhb5 := hb5.size
    clear g0 g1 g2 g3 g4 g5 g6 gf q0 q1 q2 qf y0 y1 y2 y3 y4 yf u0 u1 u2 u3 uf
    replace HM := bk HM hb5
    replace HD := bk HD hb5
    replace HY := bk HY hb5
    replace HA := bk HA hb5
    replace hB := bl_trans hB hb5
    obtain ⟨⟨g0, g1, g2⟩, ⟨g3, g4, g5, g6⟩, gf⟩ := cells7 HM
    obtain ⟨q0, q1, q2, qf⟩ := cells3 HD
    obtain ⟨⟨y0, y1, y2⟩, ⟨y3, y4⟩, yf⟩ := cells5 HY
    obtain ⟨⟨u0, u1⟩, ⟨u2, u3⟩, uf⟩ := cells4a HA
    replace HR := Lib.hid (HR.out.up hb5)
    replace HN := Lib.hid (HN.out.up hb5)
    replace HX := Lib.hid (HX.out.up hb5)
    go_wp2_with fail
    refine (impl_mayAsync m _ _ _ n _ _ _ _ _ x ak an ap aa w5 HN.out HX.out hz HQ.out HAP.out).mono ?_
    rintro e w6 ⟨rfl, hb6⟩
    go_wp2_with fail
    go_ret2
    exact ⟨ret2bb HF.out rfl, bl_trans hB hb6⟩
end Go.Proofs.YtcpbbjocaimocaaGreat
