/-
  Asynchronous states, the reference's side: syGood.
-/
import Derived.Test.YtcpbbjocaimocaaGreatSyS1
namespace Go.Proofs.YtcpbbjocaimocaaGreat
open Go.RowKit
set_option linter.unusedVariables false
set_option linter.unusedSimpArgs false
theorem gd_f1 {m : Mach} {n : Net} {x : Asy} (h : fitB m n = false) : goodB m n x = false := propB_f fun hp => by
  rw [show fitB m n = true from propB_t hp.1] at h
  cases h
theorem gd_f2 {m : Mach} {n : Net} {x : Asy} (h : x.rounds.length ≠ n.es.length) : goodB m n x = false := propB_f fun hp => h (by have := hp.2.1.1; omega)
theorem gd_f3 {m : Mach} {n : Net} {x : Asy} (h : allB x.rounds 0 40 = false) : goodB m n x = false := propB_f fun hp => by
  rw [allB_iff.2 fun y hy => by have := hp.2.1.2 y hy; omega] at h
  cases h
theorem gd_f4 {m : Mach} {n : Net} {x : Asy} (h : mrB x.before n.es.length m.st = false) : goodB m n x = false := propB_f fun hp => by
  rw [show mrB x.before n.es.length m.st = true from propB_t hp.2.2.1] at h
  cases h
theorem gd_f5 {m : Mach} {n : Net} {x : Asy} (h : mrB x.now n.es.length m.st = false) : goodB m n x = false := propB_f fun hp => by
  rw [show mrB x.now n.es.length m.st = true from propB_t hp.2.2.2.1] at h
  cases h
theorem gd_eq {m : Mach} {n : Net} {x : Asy} (h1 : fitB m n = true) (h2 : x.rounds.length = n.es.length) (h3 : allB x.rounds 0 40 = true) (h4 : mrB x.before n.es.length m.st = true) (h5 : mrB x.now n.es.length m.st = true) : goodB m n x = shB m n x :=
  propB_congr ⟨fun hp => ⟨hp.2.2.2.2.1, hp.2.2.2.2.2.1, fun v l s f _ => hp.2.2.2.2.2.2 v l s f⟩, fun hp => ⟨propB_iff.1 h1, ⟨by omega, fun y hy => by have := allB_iff.1 h3 y hy; omega⟩, propB_iff.1 h4, propB_iff.1 h5, hp.1, hp.2.1, fun v l s f hl => hp.2.2 v l s f (List.getElem?_eq_some_iff.1 hl).1 hl⟩⟩
set_option maxRecDepth 100000 in
set_option maxHeartbeats 2000000 in
theorem spec_syGood (vs ve vc vo : Value) (m : Mach) (ne ni nn : Value) (n : Net) (xr xb xn xs xf : Value) (x : Asy) (w : World) (hm : MachR w w.heap.size vs ve vc vo m) (hn : NetR w w.heap.size ne ni nn n) (hx : AsyR w w.heap.size xr xb xn xs xf x)
    (hz : n.es.length ≤ 2000000) :
    Calls Tryz.prog 50 #[machV vs ve vc vo m, .agg #[ne, ni, nn], .agg #[xr, xb, xn, xs, xf]] w fun e w' => e = .returned (.bool (goodB m n x)) ∧ Below w.heap.size w w' := by
  unfold machV
  obtain ⟨⟨A0, m0, c0, rfl⟩, ⟨A1, m1, c1, rfl⟩, ⟨A2, m2, c2, rfl⟩, A3, m3, c3, rfl⟩ := hm.slices
  have hne := hn.e
  obtain ⟨A4, c4, rfl, hc4, hM4, hr4⟩ := hne
  obtain ⟨⟨-, -, -, -⟩, ⟨A5, m5, c5, rfl⟩, A6, m6, c6, rfl⟩ := hn.slices
  have hxr := hx.r.open_
  obtain ⟨A10, c10, rfl, hc10, hM10, -⟩ := hxr
  obtain ⟨-, ⟨A11, m11, c11, rfl⟩, ⟨A12, m12, c12, rfl⟩, ⟨A8, m8, c8, rfl⟩, A9, m9, c9, rfl⟩ := hx.slices
  unfold maxLen at hM4 hM10
  clear hr4
  obtain ⟨w0, hw0, hb0, HM, hz0, HS0⟩ := box7 w (.int .i64 m.deg) (.int .i64 m.st) (.int .i64 m.msg) (.slice A0 m0 c0) (.slice A1 m1 c1) (.slice A2 m2 c2) (.slice A3 m3 c3) 42
  obtain ⟨w1, hw1, hb1, HD, hz1, HS1⟩ := box3 w0 (.slice A4 n.es.length c4) (.slice A5 m5 c5) (.slice A6 m6 c6) 46
  replace HM := bk HM hb1
  obtain ⟨w2, hw2, hb2, HY, hz2, HS2⟩ := box5 w1 (.slice A10 x.rounds.length c10) (.slice A11 m11 c11) (.slice A12 m12 c12) (.slice A8 m8 c8) (.slice A9 m9 c9) 50
  replace HM := bk HM hb2
  replace HD := bk HD hb2
  have hB : Below w.heap.size w w2 := bl_trans (bl_trans (hb0) hb1) hb2
  have HW := Lib.hid (show w2 = ((w.alloc (.cells #[.int .i64 m.deg, .int .i64 m.st, .int .i64 m.msg, .slice A0 m0 c0, .slice A1 m1 c1, .slice A2 m2 c2, .slice A3 m3 c3] 42)).alloc (.cells #[.slice A4 n.es.length c4, .slice A5 m5 c5, .slice A6 m6 c6] 46)).alloc (.cells #[.slice A10 x.rounds.length c10, .slice A11 m11 c11, .slice A12 m12 c12, .slice A8 m8 c8, .slice A9 m9 c9] 50) by rw [hw2, hw1, hw0])
  obtain ⟨P1, hP1⟩ : ∃ z, z = w0.heap.size := ⟨_, rfl⟩
  have HP1 := Lib.hid (show w.heap.size + 1 = P1 by rw [hP1, HS0.out])
  have hPl1 : w.heap.size < P1 := by rw [← HP1.out]; omega
  rw [← hP1] at HD hz1
  obtain ⟨P2, hP2⟩ : ∃ z, z = w1.heap.size := ⟨_, rfl⟩
  have HP2 := Lib.hid (show w.heap.size + 1 + 1 = P2 by rw [hP2, HS1.out, HS0.out])
  have hPl2 : w.heap.size < P2 := by rw [← HP2.out]; omega
  rw [← hP2] at HY hz2
  obtain ⟨⟨g0, g1, g2⟩, ⟨g3, g4, g5, g6⟩, gf⟩ := cells7 HM
  obtain ⟨q0, q1, q2, qf⟩ := cells3 HD
  obtain ⟨⟨y0, y1, y2⟩, ⟨y3, y4⟩, yf⟩ := cells5 HY
  have eg0 := g0
  have eg1 := g1
  have eg2 := g2
  have eg3 := g3
  have eg4 := g4
  have eg5 := g5
  have eg6 := g6
  have eq0 := q0
  have eq1 := q1
  have eq2 := q2
  have ey0 := y0
  have ey1 := y1
  have ey2 := y2
  have ey3 := y3
  have ey4 := y4
  rw [HW.out] at eg0 eg1 eg2 eg3 eg4 eg5 eg6 eq0 eq1 eq2 ey0 ey1 ey2 ey3 ey4
  rw [← HP1.out] at eq0 eq1 eq2
  rw [← HP2.out] at ey0 ey1 ey2 ey3 ey4
  have hzb0 : w.heap.size < w2.heap.size := by omega
  have hzb1 : P1 < w2.heap.size := by omega
  have hzb2 : P2 < w2.heap.size := by omega
  have HR := Lib.hid (hm.up hB)
  have HN := Lib.hid (hn.up hB)
  have HX := Lib.hid (hx.up hB)
  clear hw2 hw1 hw0 hP1 hP2
  have HG := Lib.hid (spec_maAsked _ _ _ _ m _ _ _ n w2 HR.out HN.out hz)
  cases j1 : fitB m n with
  | false =>
    have HF := Lib.hid (gd_f1 (x := x) j1).symm
    go_enter Tryz.func50, Tryz.ntmps50
    go_wp2_with fail
    rw [HP2.out, HP1.out, ← HW.out]
    clear eg0 eg1 eg2 eg3 eg4 eg5 eg6 eq0 eq1 eq2 ey0 ey1 ey2 ey3 ey4
    refine HG.out.mono ?_
    rintro e w5 ⟨rfl, hb5⟩
    rw [j1]
    have hzhb5 := hb5.size
    clear g0 g1 g2 g3 g4 g5 g6 gf q0 q1 q2 qf y0 y1 y2 y3 y4 yf
    replace HM := bk HM hb5
    replace HD := bk HD hb5
    replace HY := bk HY hb5
    replace hB := bl_trans hB hb5
    obtain ⟨⟨g0, g1, g2⟩, ⟨g3, g4, g5, g6⟩, gf⟩ := cells7 HM
    obtain ⟨q0, q1, q2, qf⟩ := cells3 HD
    obtain ⟨⟨y0, y1, y2⟩, ⟨y3, y4⟩, yf⟩ := cells5 HY
    replace HR := Lib.hid (HR.out.up hb5)
    replace HN := Lib.hid (HN.out.up hb5)
    replace HX := Lib.hid (HX.out.up hb5)
    go_wp2_with fail
    go_ret
    exact ⟨ret_bool HF.out, hB⟩
  | true =>
    have hst : 0 ≤ m.st ∧ m.st ≤ 1000 := by have := (propB_iff.1 j1).1.1.2.1; omega
    have hms : 1 ≤ m.msg ∧ m.msg ≤ 6 := (propB_iff.1 j1).1.1.2.2
    have HJ1 := Lib.hid j1
    by_cases t1 : x.rounds.length = n.es.length
    · have r1 : (((x.rounds.length : Nat) : Int) != ((n.es.length : Nat) : Int)) = false := by rw [t1]; simp
      have HT1 := Lib.hid t1
      clear t1
      cases j3 : allB x.rounds 0 40 with
      | false =>
        have HF := Lib.hid (gd_f3 (m := m) (n := n) j3).symm
        go_enter Tryz.func50, Tryz.ntmps50
        go_wp2_with fail
        rw [HP2.out, HP1.out, ← HW.out]
        clear eg0 eg1 eg2 eg3 eg4 eg5 eg6 eq0 eq1 eq2 ey0 ey1 ey2 ey3 ey4
        refine HG.out.mono ?_
        rintro e w5 ⟨rfl, hb5⟩
        rw [j1]
        have hzhb5 := hb5.size
        clear g0 g1 g2 g3 g4 g5 g6 gf q0 q1 q2 qf y0 y1 y2 y3 y4 yf
        replace HM := bk HM hb5
        replace HD := bk HD hb5
        replace HY := bk HY hb5
        replace hB := bl_trans hB hb5
        obtain ⟨⟨g0, g1, g2⟩, ⟨g3, g4, g5, g6⟩, gf⟩ := cells7 HM
        obtain ⟨q0, q1, q2, qf⟩ := cells3 HD
        obtain ⟨⟨y0, y1, y2⟩, ⟨y3, y4⟩, yf⟩ := cells5 HY
        replace HR := Lib.hid (HR.out.up hb5)
        replace HN := Lib.hid (HN.out.up hb5)
        replace HX := Lib.hid (HX.out.up hb5)
        go_wp2_with fail
        refine (spec_l1All _ x.rounds _ _ w5 HX.out.r).mono ?_
        rintro e w' ⟨rfl, rfl⟩
        rw [j3]
        go_wp2_with fail
        go_ret
        exact ⟨ret_bool HF.out, hB⟩
      | true =>
        have HJ3 := Lib.hid j3
        cases j4 : mrB x.before n.es.length m.st with
        | false =>
          have HF := Lib.hid (gd_f4 j4).symm
          go_enter Tryz.func50, Tryz.ntmps50
          go_wp2_with fail
          rw [HP2.out, HP1.out, ← HW.out]
          clear eg0 eg1 eg2 eg3 eg4 eg5 eg6 eq0 eq1 eq2 ey0 ey1 ey2 ey3 ey4
          refine HG.out.mono ?_
          rintro e w5 ⟨rfl, hb5⟩
          rw [j1]
          have hzhb5 := hb5.size
          clear g0 g1 g2 g3 g4 g5 g6 gf q0 q1 q2 qf y0 y1 y2 y3 y4 yf
          replace HM := bk HM hb5
          replace HD := bk HD hb5
          replace HY := bk HY hb5
          replace hB := bl_trans hB hb5
          obtain ⟨⟨g0, g1, g2⟩, ⟨g3, g4, g5, g6⟩, gf⟩ := cells7 HM
          obtain ⟨q0, q1, q2, qf⟩ := cells3 HD
          obtain ⟨⟨y0, y1, y2⟩, ⟨y3, y4⟩, yf⟩ := cells5 HY
          replace HR := Lib.hid (HR.out.up hb5)
          replace HN := Lib.hid (HN.out.up hb5)
          replace HX := Lib.hid (HX.out.up hb5)
          go_wp2_with fail
          refine (spec_l1All _ x.rounds _ _ w5 HX.out.r).mono ?_
          rintro e w' ⟨rfl, rfl⟩
          rw [j3]
          go_wp2_with fail
          refine (spec_maRow _ x.before _ m.st w5 HX.out.b hst).mono ?_
          rintro e w' ⟨rfl, rfl⟩
          rw [j4]
          go_wp2_with fail
          go_ret
          exact ⟨ret_bool HF.out, hB⟩
        | true =>
          have HJ4 := Lib.hid j4
          cases j5 : mrB x.now n.es.length m.st with
          | false =>
            have HF := Lib.hid (gd_f5 j5).symm
            go_enter Tryz.func50, Tryz.ntmps50
            go_wp2_with fail
            rw [HP2.out, HP1.out, ← HW.out]
            clear eg0 eg1 eg2 eg3 eg4 eg5 eg6 eq0 eq1 eq2 ey0 ey1 ey2 ey3 ey4
            refine HG.out.mono ?_
            rintro e w5 ⟨rfl, hb5⟩
            rw [j1]
            have hzhb5 := hb5.size
            clear g0 g1 g2 g3 g4 g5 g6 gf q0 q1 q2 qf y0 y1 y2 y3 y4 yf
            replace HM := bk HM hb5
            replace HD := bk HD hb5
            replace HY := bk HY hb5
            replace hB := bl_trans hB hb5
            obtain ⟨⟨g0, g1, g2⟩, ⟨g3, g4, g5, g6⟩, gf⟩ := cells7 HM
            obtain ⟨q0, q1, q2, qf⟩ := cells3 HD
            obtain ⟨⟨y0, y1, y2⟩, ⟨y3, y4⟩, yf⟩ := cells5 HY
            replace HR := Lib.hid (HR.out.up hb5)
            replace HN := Lib.hid (HN.out.up hb5)
            replace HX := Lib.hid (HX.out.up hb5)
            go_wp2_with fail
            refine (spec_l1All _ x.rounds _ _ w5 HX.out.r).mono ?_
            rintro e w' ⟨rfl, rfl⟩
            rw [j3]
            go_wp2_with fail
            refine (spec_maRow _ x.before _ m.st w5 HX.out.b hst).mono ?_
            rintro e w' ⟨rfl, rfl⟩
            rw [j4]
            go_wp2_with fail
            refine (spec_maRow _ x.now _ m.st w5 HX.out.n hst).mono ?_
            rintro e w' ⟨rfl, rfl⟩
            rw [j5]
            go_wp2_with fail
            go_ret
            exact ⟨ret_bool HF.out, hB⟩
          | true =>
            have HF := Lib.hid (gd_eq HJ1.out HT1.out HJ3.out HJ4.out j5).symm
            go_enter Tryz.func50, Tryz.ntmps50
            go_wp2_with fail
            rw [HP2.out, HP1.out, ← HW.out]
            clear eg0 eg1 eg2 eg3 eg4 eg5 eg6 eq0 eq1 eq2 ey0 ey1 ey2 ey3 ey4
            refine HG.out.mono ?_
            rintro e w5 ⟨rfl, hb5⟩
            rw [j1]
            have hzhb5 := hb5.size
            clear g0 g1 g2 g3 g4 g5 g6 gf q0 q1 q2 qf y0 y1 y2 y3 y4 yf
            replace HM := bk HM hb5
            replace HD := bk HD hb5
            replace HY := bk HY hb5
            replace hB := bl_trans hB hb5
            obtain ⟨⟨g0, g1, g2⟩, ⟨g3, g4, g5, g6⟩, gf⟩ := cells7 HM
            obtain ⟨q0, q1, q2, qf⟩ := cells3 HD
            obtain ⟨⟨y0, y1, y2⟩, ⟨y3, y4⟩, yf⟩ := cells5 HY
            replace HR := Lib.hid (HR.out.up hb5)
            replace HN := Lib.hid (HN.out.up hb5)
            replace HX := Lib.hid (HX.out.up hb5)
            go_wp2_with fail
            refine (spec_l1All _ x.rounds _ _ w5 HX.out.r).mono ?_
            rintro e w' ⟨rfl, rfl⟩
            rw [j3]
            go_wp2_with fail
            refine (spec_maRow _ x.before _ m.st w5 HX.out.b hst).mono ?_
            rintro e w' ⟨rfl, rfl⟩
            rw [j4]
            go_wp2_with fail
            refine (spec_maRow _ x.now _ m.st w5 HX.out.n hst).mono ?_
            rintro e w' ⟨rfl, rfl⟩
            rw [j5]
            go_wp2_with fail
            refine (spec_syShape _ _ _ _ m _ _ _ n _ _ _ _ _ x w5 HR.out HN.out HX.out hms).mono ?_
            rintro e w6 ⟨rfl, hb6⟩
            go_wp2_with fail
            go_ret
            exact ⟨ret_bool HF.out, bl_trans hB hb6⟩
    · have r1 : (((x.rounds.length : Nat) : Int) != ((n.es.length : Nat) : Int)) = true := by rw [bne_iff_ne]; omega
      have HF := Lib.hid (gd_f2 (m := m) t1).symm
      go_enter Tryz.func50, Tryz.ntmps50
      go_wp2_with fail
      rw [HP2.out, HP1.out, ← HW.out]
      clear eg0 eg1 eg2 eg3 eg4 eg5 eg6 eq0 eq1 eq2 ey0 ey1 ey2 ey3 ey4
      refine HG.out.mono ?_
      rintro e w5 ⟨rfl, hb5⟩
      rw [j1]
      have hzhb5 := hb5.size
      clear g0 g1 g2 g3 g4 g5 g6 gf q0 q1 q2 qf y0 y1 y2 y3 y4 yf
      replace HM := bk HM hb5
      replace HD := bk HD hb5
      replace HY := bk HY hb5
      replace hB := bl_trans hB hb5
      obtain ⟨⟨g0, g1, g2⟩, ⟨g3, g4, g5, g6⟩, gf⟩ := cells7 HM
      obtain ⟨q0, q1, q2, qf⟩ := cells3 HD
      obtain ⟨⟨y0, y1, y2⟩, ⟨y3, y4⟩, yf⟩ := cells5 HY
      replace HR := Lib.hid (HR.out.up hb5)
      replace HN := Lib.hid (HN.out.up hb5)
      replace HX := Lib.hid (HX.out.up hb5)
      go_wp2_with fail
      go_ret
      exact ⟨ret_bool HF.out, hB⟩
end Go.Proofs.YtcpbbjocaimocaaGreat
