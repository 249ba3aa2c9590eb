/-
  Proved: the law FnExactStepsReady returns true for every machine, network and state, and leaves the arguments as they were. No condition. (The frame at the end is after the kit's proof-skeleton.mjs.)
-/
import Derived.Test.YtcpbbjocaimocaaGreatQSrA
import Derived.Test.YtcpbbjocaimocaaGreatQOpenA
import Derived.Test.YtcpbbjocaimocaaGreatQOpenNet
import Derived.ShutString
import Derived.Lib.SmallJoins
namespace Go.Proofs.YtcpbbjocaimocaaGreat.fnExactStepsReady
open Go.ChangeShapes Go.WideShapes Go.ChangeAt Go.RowKit Go.Joins
set_option linter.all false
theorem sr_len (m : Mach) (n : Net) (x : Asy) (h : szNet n ≤ 1048576) : (srL m n x).length ≤ 2000000 := by
  have h1 := srTo_len n x n.es.length
  have h2 : n.es.length ≤ 1048576 := by unfold szNet szEnds at h; omega
  unfold srL
  split
  · omega
  · simp
set_option maxRecDepth 100000 in
set_option maxHeartbeats 4000000 in
theorem law_walk (vs ve vc vo : Value) (m : Mach) (ne ni nn : Value) (n : Net) (xr xb xn xs xf : Value) (x : Asy) (w : World) (hm : MachR w w.heap.size vs ve vc vo m) (hn : NetR w w.heap.size ne ni nn n) (hx : AsyR w w.heap.size xr xb xn xs xf x) :
    Calls Tryz.prog 4 #[.agg #[.int .i64 m.deg, .int .i64 m.st, .int .i64 m.msg, vs, ve, vc, vo], .agg #[ne, ni, nn], .agg #[xr, xb, xn, xs, xf]] w fun e w' => e = .returned (.bool true) ∧ Below w.heap.size w w' := by
  obtain ⟨⟨A0, m0, c0, rfl⟩, ⟨A1, m1, c1, rfl⟩, ⟨A2, m2, c2, rfl⟩, A3, m3, c3, rfl⟩ := hm.slices
  obtain ⟨⟨A4, m4, c4, rfl⟩, ⟨A5, m5, c5, rfl⟩, A6, m6, c6, rfl⟩ := hn.slices
  obtain ⟨⟨A10, m10, c10, rfl⟩, ⟨A11, m11, c11, rfl⟩, ⟨A12, m12, c12, rfl⟩, ⟨A8, m8, c8, rfl⟩, A9, m9, c9, rfl⟩ := hx.slices
  obtain ⟨w0, hw0, hb0, HM, hz0, HS0⟩ := box7 w (.int .i64 m.deg) (.int .i64 m.st) (.int .i64 m.msg) (.slice A0 m0 c0) (.slice A1 m1 c1) (.slice A2 m2 c2) (.slice A3 m3 c3) 26
  obtain ⟨w1, hw1, hb1, HD, hz1, HS1⟩ := box3 w0 (.slice A4 m4 c4) (.slice A5 m5 c5) (.slice A6 m6 c6) 29
  replace HM := bk HM hb1
  obtain ⟨w2, hw2, hb2, HY, hz2, HS2⟩ := box5 w1 (.slice A10 m10 c10) (.slice A11 m11 c11) (.slice A12 m12 c12) (.slice A8 m8 c8) (.slice A9 m9 c9) 32
  replace HM := bk HM hb2
  replace HD := bk HD hb2
  have hB : Below w.heap.size w w2 := bl_trans (bl_trans (hb0) hb1) hb2
  have HW := Lib.hid (show w2 = ((w.alloc (.cells #[.int .i64 m.deg, .int .i64 m.st, .int .i64 m.msg, .slice A0 m0 c0, .slice A1 m1 c1, .slice A2 m2 c2, .slice A3 m3 c3] 26)).alloc (.cells #[.slice A4 m4 c4, .slice A5 m5 c5, .slice A6 m6 c6] 29)).alloc (.cells #[.slice A10 m10 c10, .slice A11 m11 c11, .slice A12 m12 c12, .slice A8 m8 c8, .slice A9 m9 c9] 32) by rw [hw2, hw1, hw0])
  obtain ⟨P1, hP1⟩ : ∃ z, z = w0.heap.size := ⟨_, rfl⟩
  have HP1 := Lib.hid (show w.heap.size + 1 = P1 by rw [hP1, HS0.out])
  have hPl1 : w.heap.size < P1 := by rw [← HP1.out]; omega
  rw [← hP1] at HD hz1
  obtain ⟨P2, hP2⟩ : ∃ z, z = w1.heap.size := ⟨_, rfl⟩
  have HP2 := Lib.hid (show w.heap.size + 1 + 1 = P2 by rw [hP2, HS1.out, HS0.out])
  have hPl2 : w.heap.size < P2 := by rw [← HP2.out]; omega
  rw [← hP2] at HY hz2
  obtain ⟨⟨g0, g1, g2⟩, ⟨g3, g4, g5, g6⟩, gf⟩ := cells7 HM
  obtain ⟨q0, q1, q2, qf⟩ := cells3 HD
  obtain ⟨⟨y0, y1, y2⟩, ⟨y3, y4⟩, yf⟩ := cells5 HY
  have eg0 := g0
  have eg1 := g1
  have eg2 := g2
  have eg3 := g3
  have eg4 := g4
  have eg5 := g5
  have eg6 := g6
  have eq0 := q0
  have eq1 := q1
  have eq2 := q2
  have ey0 := y0
  have ey1 := y1
  have ey2 := y2
  have ey3 := y3
  have ey4 := y4
  rw [HW.out] at eg0 eg1 eg2 eg3 eg4 eg5 eg6 eq0 eq1 eq2 ey0 ey1 ey2 ey3 ey4
  rw [← HP1.out] at eq0 eq1 eq2
  rw [← HP2.out] at ey0 ey1 ey2 ey3 ey4
  have hzb0 : w.heap.size < w2.heap.size := by omega
  have hzb1 : P1 < w2.heap.size := by omega
  have hzb2 : P2 < w2.heap.size := by omega
  have HR := Lib.hid (hm.up hB)
  have HN := Lib.hid (hn.up hB)
  have HX := Lib.hid (hx.up hB)
  clear hw2 hw1 hw0 hP1 hP2
  have HR0 := Lib.hid hm
  have HN0 := Lib.hid hn
  have HX0 := Lib.hid hx
  clear hm hn hx
  go_enter Tryz.func4, Tryz.ntmps4
  go_wp2_with fail
  rw [HP2.out, HP1.out, ← HW.out]
  clear eg0 eg1 eg2 eg3 eg4 eg5 eg6 eq0 eq1 eq2 ey0 ey1 ey2 ey3 ey4
  refine (sz_Mach _ _ _ _ m 1048576 w2 HR.out (by omega) (by omega)).mono ?_
  rintro e w5 ⟨rfl, hb5⟩
  have hzhb5 := hb5.size
  clear g0 g1 g2 g3 g4 g5 g6 q0 q1 q2 y0 y1 y2 y3 y4 gf qf yf
  replace HM := bk HM hb5
  replace HD := bk HD hb5
  replace HY := bk HY hb5
  replace hB := bl_trans hB hb5
  obtain ⟨⟨g0, g1, g2⟩, ⟨g3, g4, g5, g6⟩, gf⟩ := cells7 HM
  obtain ⟨q0, q1, q2, qf⟩ := cells3 HD
  obtain ⟨⟨y0, y1, y2⟩, ⟨y3, y4⟩, yf⟩ := cells5 HY
  replace HR := Lib.hid (HR.out.up hb5)
  replace HN := Lib.hid (HN.out.up hb5)
  replace HX := Lib.hid (HX.out.up hb5)
  by_cases hs1 : (szMach m : Int) ≤ 1048576
  · have hl1 : 0 ≤ szR 1048576 (szMach m) ∧ szR 1048576 (szMach m) ≤ 1048576 := by unfold szR; rw [if_pos hs1]; omega
    obtain ⟨left1, hleft1⟩ : ∃ z, z = szR 1048576 (szMach m) := ⟨_, rfl⟩
    rw [← hleft1] at hl1 ⊢
    clear hleft1
    go_wp2_with fail
    refine (sz_Net _ _ _ n left1 w5 HN.out (by omega) (by omega)).mono ?_
    rintro e w6 ⟨rfl, hb6⟩
    have hzhb6 := hb6.size
    clear g0 g1 g2 g3 g4 g5 g6 q0 q1 q2 y0 y1 y2 y3 y4 gf qf yf
    replace HM := bk HM hb6
    replace HD := bk HD hb6
    replace HY := bk HY hb6
    replace hB := bl_trans hB hb6
    obtain ⟨⟨g0, g1, g2⟩, ⟨g3, g4, g5, g6⟩, gf⟩ := cells7 HM
    obtain ⟨q0, q1, q2, qf⟩ := cells3 HD
    obtain ⟨⟨y0, y1, y2⟩, ⟨y3, y4⟩, yf⟩ := cells5 HY
    replace HR := Lib.hid (HR.out.up hb6)
    replace HN := Lib.hid (HN.out.up hb6)
    replace HX := Lib.hid (HX.out.up hb6)
    by_cases hs2 : (szNet n : Int) ≤ left1
    · have hl2 : 0 ≤ szR left1 (szNet n) ∧ szR left1 (szNet n) ≤ 1048576 := by unfold szR; rw [if_pos hs2]; omega
      obtain ⟨left2, hleft2⟩ : ∃ z, z = szR left1 (szNet n) := ⟨_, rfl⟩
      rw [← hleft2] at hl2 ⊢
      clear hleft2
      go_wp2_with fail
      refine (sz_Asy _ _ _ _ _ x left2 w6 HX.out (by omega) (by omega)).mono ?_
      rintro e w7 ⟨rfl, hb7⟩
      have hzhb7 := hb7.size
      clear g0 g1 g2 g3 g4 g5 g6 q0 q1 q2 y0 y1 y2 y3 y4 gf qf yf
      replace HM := bk HM hb7
      replace HD := bk HD hb7
      replace HY := bk HY hb7
      replace hB := bl_trans hB hb7
      obtain ⟨⟨g0, g1, g2⟩, ⟨g3, g4, g5, g6⟩, gf⟩ := cells7 HM
      obtain ⟨q0, q1, q2, qf⟩ := cells3 HD
      obtain ⟨⟨y0, y1, y2⟩, ⟨y3, y4⟩, yf⟩ := cells5 HY
      replace HR := Lib.hid (HR.out.up hb7)
      replace HN := Lib.hid (HN.out.up hb7)
      replace HX := Lib.hid (HX.out.up hb7)
      by_cases hs3 : (szAsy x : Int) ≤ left2
      · have hl3 : 0 ≤ szR left2 (szAsy x) ∧ szR left2 (szAsy x) ≤ 1048576 := by unfold szR; rw [if_pos hs3]; omega
        obtain ⟨left3, hleft3⟩ : ∃ z, z = szR left2 (szAsy x) := ⟨_, rfl⟩
        rw [← hleft3] at hl3 ⊢
        clear hleft3
        go_wp2_with fail
        replace hs1 : szMach m ≤ 1048576 := by omega
        replace hs2 : szNet n ≤ 1048576 := by omega
        replace hs3 : szAsy x ≤ 1048576 := by omega
        have hes : n.es.length ≤ 2000000 ∧ n.ids.length ≤ 2000000 := by unfold szNet szEnds at hs2; omega
        obtain ⟨hes1, hes2⟩ := hes
        refine wp_region_held_drew (S := fun w' => w'.cell? ⟨w.heap.size, 0, none⟩ = some (.int .i64 m.deg) ∧ w'.cell? ⟨w.heap.size, 1, none⟩ = some (.int .i64 m.st) ∧ w'.cell? ⟨w.heap.size, 2, none⟩ = some (.int .i64 m.msg) ∧ w'.cell? ⟨w.heap.size, 3, none⟩ = some (.slice A0 m0 c0) ∧ w'.cell? ⟨w.heap.size, 4, none⟩ = some (.slice A1 m1 c1) ∧ w'.cell? ⟨w.heap.size, 5, none⟩ = some (.slice A2 m2 c2) ∧ w'.cell? ⟨w.heap.size, 6, none⟩ = some (.slice A3 m3 c3) ∧ w'.cell? ⟨P1, 0, none⟩ = some (.slice A4 m4 c4) ∧ w'.cell? ⟨P1, 1, none⟩ = some (.slice A5 m5 c5) ∧ w'.cell? ⟨P1, 2, none⟩ = some (.slice A6 m6 c6) ∧ w'.cell? ⟨P2, 0, none⟩ = some (.slice A10 m10 c10) ∧ w'.cell? ⟨P2, 1, none⟩ = some (.slice A11 m11 c11) ∧ w'.cell? ⟨P2, 2, none⟩ = some (.slice A12 m12 c12) ∧ w'.cell? ⟨P2, 3, none⟩ = some (.slice A8 m8 c8) ∧ w'.cell? ⟨P2, 4, none⟩ = some (.slice A9 m9 c9)) (by kernel_rfl) ?_ (fun hHeld => ?_)
        · go_keep
        refine tk 0 36 rfl rfl ?_
        try simp only [Act.put, pu]
        refine tk 2 38 rfl rfl ?_
        try simp only [Act.put, pu]
        refine tk 4 40 rfl rfl ?_
        try simp only [Act.put, pu]
        refine tr 1 rfl (by kernel_rfl) (fun K hK => ?_)
        go_simp
        go_at_call 13
        refine (to_Mach _ _ _ _ m w7.drew (HR.out.up (Below.refl _ _).drew) hs1).mono ?_
        rintro e w8 ⟨z0, z1, z2, z3, rfl, hq, hb8'⟩
        have hb8 : Below w7.heap.size w7 w8 := (Below.refl _ _).drew.trans hb8'
        clear hb8'
        obtain ⟨⟨BA0, Bm0, Bc0, rfl⟩, ⟨BA1, Bm1, Bc1, rfl⟩, ⟨BA2, Bm2, Bc2, rfl⟩, BA3, Bm3, Bc3, rfl⟩ := hq.slices
        have KM := Lib.hid hq
        clear hq
        have hzhb8 := hb8.size
        clear g0 g1 g2 g3 g4 g5 g6 q0 q1 q2 y0 y1 y2 y3 y4 gf qf yf
        replace HM := bk HM hb8
        replace HD := bk HD hb8
        replace HY := bk HY hb8
        replace hB := bl_trans hB hb8
        obtain ⟨⟨g0, g1, g2⟩, ⟨g3, g4, g5, g6⟩, gf⟩ := cells7 HM
        obtain ⟨q0, q1, q2, qf⟩ := cells3 HD
        obtain ⟨⟨y0, y1, y2⟩, ⟨y3, y4⟩, yf⟩ := cells5 HY
        replace HR := Lib.hid (HR.out.up hb8)
        replace HN := Lib.hid (HN.out.up hb8)
        replace HX := Lib.hid (HX.out.up hb8)
        refine hK.out _ _ ?_ (fun hHeld => ?_)
        · go_keep
        clear hK K
        try simp only [Act.put, pu]
        refine tr 3 rfl (by kernel_rfl) (fun K hK => ?_)
        go_simp
        go_at_call 14
        refine (to_Net _ _ _ n w8 HN.out hs2).mono ?_
        rintro e w9 ⟨z0, z1, z2, rfl, hq, hb9⟩
        obtain ⟨⟨BA4, Bm4, Bc4, rfl⟩, ⟨BA5, Bm5, Bc5, rfl⟩, BA6, Bm6, Bc6, rfl⟩ := hq.slices
        have KN := Lib.hid hq
        clear hq
        have hzhb9 := hb9.size
        clear g0 g1 g2 g3 g4 g5 g6 q0 q1 q2 y0 y1 y2 y3 y4 gf qf yf
        replace HM := bk HM hb9
        replace HD := bk HD hb9
        replace HY := bk HY hb9
        replace hB := bl_trans hB hb9
        obtain ⟨⟨g0, g1, g2⟩, ⟨g3, g4, g5, g6⟩, gf⟩ := cells7 HM
        obtain ⟨q0, q1, q2, qf⟩ := cells3 HD
        obtain ⟨⟨y0, y1, y2⟩, ⟨y3, y4⟩, yf⟩ := cells5 HY
        replace HR := Lib.hid (HR.out.up hb9)
        replace HN := Lib.hid (HN.out.up hb9)
        replace HX := Lib.hid (HX.out.up hb9)
        replace KM := Lib.hid (KM.out.up hb9)
        refine hK.out _ _ ?_ (fun hHeld => ?_)
        · go_keep
        clear hK K
        try simp only [Act.put, pu]
        refine tr 5 rfl (by kernel_rfl) (fun K hK => ?_)
        go_simp
        go_at_call 15
        refine (to_Asy _ _ _ _ _ x w9 HX.out hs3).mono ?_
        rintro e w10 ⟨z0, z1, z2, z3, z4, rfl, hq, hb10⟩
        obtain ⟨⟨BA10, Bm10, Bc10, rfl⟩, ⟨BA11, Bm11, Bc11, rfl⟩, ⟨BA12, Bm12, Bc12, rfl⟩, ⟨BA8, Bm8, Bc8, rfl⟩, BA9, Bm9, Bc9, rfl⟩ := hq.slices
        have KX := Lib.hid hq
        clear hq
        have hzhb10 := hb10.size
        clear g0 g1 g2 g3 g4 g5 g6 q0 q1 q2 y0 y1 y2 y3 y4 gf qf yf
        replace HM := bk HM hb10
        replace HD := bk HD hb10
        replace HY := bk HY hb10
        replace hB := bl_trans hB hb10
        obtain ⟨⟨g0, g1, g2⟩, ⟨g3, g4, g5, g6⟩, gf⟩ := cells7 HM
        obtain ⟨q0, q1, q2, qf⟩ := cells3 HD
        obtain ⟨⟨y0, y1, y2⟩, ⟨y3, y4⟩, yf⟩ := cells5 HY
        replace HR := Lib.hid (HR.out.up hb10)
        replace HN := Lib.hid (HN.out.up hb10)
        replace HX := Lib.hid (HX.out.up hb10)
        replace KM := Lib.hid (KM.out.up hb10)
        replace KN := Lib.hid (KN.out.up hb10)
        refine hK.out _ _ ?_ (fun hHeld => ?_)
        · go_keep
        clear hK K
        try simp only [Act.put, pu]
        refine tr 6 rfl (by kernel_rfl) (fun K hK => ?_)
        go_simp
        go_at_call 21
        have hC := spec_StepsReady _ _ _ _ m _ _ _ n _ _ _ _ _ x w10 KM.out KN.out KX.out hes1
        (try unfold machV at hC)
        refine hC.mono ?_
        clear hC
        rintro e w11 ⟨s, rfl, ⟨As, ms, cs, rfl⟩, hss, hb11⟩
        clear KM KN KX
        have hzhb11 := hb11.size
        clear g0 g1 g2 g3 g4 g5 g6 q0 q1 q2 y0 y1 y2 y3 y4 gf qf yf
        replace HM := bk HM hb11
        replace HD := bk HD hb11
        replace HY := bk HY hb11
        replace hB := bl_trans hB hb11
        obtain ⟨⟨g0, g1, g2⟩, ⟨g3, g4, g5, g6⟩, gf⟩ := cells7 HM
        obtain ⟨q0, q1, q2, qf⟩ := cells3 HD
        obtain ⟨⟨y0, y1, y2⟩, ⟨y3, y4⟩, yf⟩ := cells5 HY
        replace HR := Lib.hid (HR.out.up hb11)
        replace HN := Lib.hid (HN.out.up hb11)
        replace HX := Lib.hid (HX.out.up hb11)
        refine hK.out _ _ ?_ (fun hHeld => ?_)
        · go_keep
        clear hK K
        try simp only [Act.put, pu]
        refine tk 7 35 rfl rfl ?_
        try simp only [Act.put, pu]
        refine tk 8 43 rfl rfl ?_
        try simp only [Act.put, pu]
        refine tk 9 44 rfl rfl ?_
        try simp only [Act.put, pu]
        refine tk 10 8 rfl rfl ?_
        try simp only [Act.put, pu]
        refine tk 11 9 rfl rfl ?_
        try simp only [Act.put, pu]
        refine wpAnyH_done (by kernel_rfl) ?_ _
        have HS0 := Lib.hid hss
        have HS := Lib.hid hss
        clear hss
        have hB3 := Below.refl w11.heap.size w11
        obtain ⟨xs, hxs⟩ : ∃ z, z = srL m n x := ⟨_, rfl⟩
        obtain ⟨V, hV⟩ : ∃ z, z = goodB m n x := ⟨_, rfl⟩
        have hxl : xs.length ≤ 2000000 := by rw [hxs]; exact sr_len m n x hs2
        rw [← hxs] at HS HS0
        rw [← hV]
        have HXS := Lib.hid hxs.symm; clear hxs
        have HV := Lib.hid hV.symm; clear hV
        go_wp2_with fail
        refine (to_MachW _ _ _ _ m w11 HR.out hs1).mono ?_
        rintro e w12 ⟨z0, z1, z2, z3, rfl, hq, hb12, ho⟩
        have hzy12 := hb12.size
        have HMM := Lib.hid (ho.p (g := w11.heap.size) (by omega) hs1); clear ho
        obtain ⟨gm, hgm⟩ : ∃ z, z = w11.heap.size := ⟨_, rfl⟩
        rw [← hgm] at HMM
        obtain ⟨him, hhim⟩ : ∃ z, z = w12.heap.size := ⟨_, rfl⟩
        rw [← hhim] at HMM
        have hhlm : him ≤ w12.heap.size := by omega
        have hhgm : gm ≤ w12.heap.size ∧ gm ≤ him := by omega
        obtain ⟨⟨CA0, Cm0, Cc0, rfl⟩, ⟨CA1, Cm1, Cc1, rfl⟩, ⟨CA2, Cm2, Cc2, rfl⟩, CA3, Cm3, Cc3, rfl⟩ := hq.slices
        have JM := Lib.hid hq
        clear hq
        have hzhb12 := hb12.size
        clear g0 g1 g2 g3 g4 g5 g6 q0 q1 q2 y0 y1 y2 y3 y4 gf qf yf
        replace HM := bk HM hb12
        replace HD := bk HD hb12
        replace HY := bk HY hb12
        replace hB3 := bl_trans hB3 hb12
        replace hB := bl_trans hB hb12
        obtain ⟨⟨g0, g1, g2⟩, ⟨g3, g4, g5, g6⟩, gf⟩ := cells7 HM
        obtain ⟨q0, q1, q2, qf⟩ := cells3 HD
        obtain ⟨⟨y0, y1, y2⟩, ⟨y3, y4⟩, yf⟩ := cells5 HY
        replace HR := Lib.hid (HR.out.up hb12)
        replace HN := Lib.hid (HN.out.up hb12)
        replace HX := Lib.hid (HX.out.up hb12)
        replace HS := Lib.hid ((HS.out.below hb12).more hb12.size)
        obtain ⟨w13, hw13, hb13, IM, hzz13, HSS13⟩ := box7 w12 (.int .i64 m.deg) (.int .i64 m.st) (.int .i64 m.msg) (.slice CA0 Cm0 Cc0) (.slice CA1 Cm1 Cc1) (.slice CA2 Cm2 Cc2) (.slice CA3 Cm3 Cc3) 42
        obtain ⟨P5, hP5⟩ : ∃ z, z = w12.heap.size := ⟨_, rfl⟩
        have HP5 := Lib.hid hP5
        rw [← hP5] at IM hzz13
        have hP5l : w12.heap.size ≤ P5 ∧ P5 ≤ w12.heap.size := by rw [hP5]; exact ⟨Nat.le_refl _, Nat.le_refl _⟩
        have hzhb13 := hb13.size
        clear g0 g1 g2 g3 g4 g5 g6 q0 q1 q2 y0 y1 y2 y3 y4 gf qf yf
        replace HM := bk HM hb13
        replace HD := bk HD hb13
        replace HY := bk HY hb13
        replace hB3 := bl_trans hB3 hb13
        replace hB := bl_trans hB hb13
        obtain ⟨⟨g0, g1, g2⟩, ⟨g3, g4, g5, g6⟩, gf⟩ := cells7 HM
        obtain ⟨q0, q1, q2, qf⟩ := cells3 HD
        obtain ⟨⟨y0, y1, y2⟩, ⟨y3, y4⟩, yf⟩ := cells5 HY
        replace HR := Lib.hid (HR.out.up hb13)
        replace HN := Lib.hid (HN.out.up hb13)
        replace HX := Lib.hid (HX.out.up hb13)
        replace JM := Lib.hid (JM.out.up hb13)
        replace HS := Lib.hid ((HS.out.below hb13).more hb13.size)
        replace HMM := Lib.hid (HMM.out.off fun b _ h2 => hb13.block b (by omega))
        have eg0 := g0
        have eg1 := g1
        have eg2 := g2
        have eg3 := g3
        have eg4 := g4
        have eg5 := g5
        have eg6 := g6
        have eq0 := q0
        have eq1 := q1
        have eq2 := q2
        have ey0 := y0
        have ey1 := y1
        have ey2 := y2
        have ey3 := y3
        have ey4 := y4
        rw [hw13] at eg0 eg1 eg2 eg3 eg4 eg5 eg6 eq0 eq1 eq2 ey0 ey1 ey2 ey3 ey4
        have HWw13 := Lib.hid hw13
        clear hw13 hP5
        go_wp2_with fail
        rw [← HWw13.out, ← HP5.out]
        clear eg0 eg1 eg2 eg3 eg4 eg5 eg6 eq0 eq1 eq2 ey0 ey1 ey2 ey3 ey4
        obtain ⟨⟨a0, a1, a2⟩, ⟨a3, a4, a5, a6⟩, af⟩ := cells7 IM
        refine (to_NetW _ _ _ n w13 HN.out hs2).mono ?_
        rintro e w14 ⟨z0, z1, z2, rfl, hq, hb14, gn, hgn0, hgn1, ho⟩
        have hzy14 := hb14.size
        have HMN := Lib.hid ho; clear ho
        obtain ⟨hin, hhin⟩ : ∃ z, z = w14.heap.size := ⟨_, rfl⟩
        rw [← hhin] at HMN
        have hhln : hin ≤ w14.heap.size := by omega
        have hhgn : gn ≤ w14.heap.size ∧ gn ≤ hin := by omega
        obtain ⟨⟨CA4, Cm4, Cc4, rfl⟩, ⟨CA5, Cm5, Cc5, rfl⟩, CA6, Cm6, Cc6, rfl⟩ := hq.slices
        have JN := Lib.hid hq
        clear hq
        have hzhb14 := hb14.size
        clear g0 g1 g2 g3 g4 g5 g6 q0 q1 q2 y0 y1 y2 y3 y4 a0 a1 a2 a3 a4 a5 a6 gf qf yf af
        replace HM := bk HM hb14
        replace HD := bk HD hb14
        replace HY := bk HY hb14
        replace IM := bk IM hb14
        replace hB3 := bl_trans hB3 hb14
        replace hB := bl_trans hB hb14
        obtain ⟨⟨g0, g1, g2⟩, ⟨g3, g4, g5, g6⟩, gf⟩ := cells7 HM
        obtain ⟨q0, q1, q2, qf⟩ := cells3 HD
        obtain ⟨⟨y0, y1, y2⟩, ⟨y3, y4⟩, yf⟩ := cells5 HY
        obtain ⟨⟨a0, a1, a2⟩, ⟨a3, a4, a5, a6⟩, af⟩ := cells7 IM
        replace HR := Lib.hid (HR.out.up hb14)
        replace HN := Lib.hid (HN.out.up hb14)
        replace HX := Lib.hid (HX.out.up hb14)
        replace JM := Lib.hid (JM.out.up hb14)
        replace HS := Lib.hid ((HS.out.below hb14).more hb14.size)
        replace HMM := Lib.hid (HMM.out.off fun b _ h2 => hb14.block b (by omega))
        obtain ⟨w15, hw15, hb15, IN, hzz15, HSS15⟩ := box3 w14 (.slice CA4 Cm4 Cc4) (.slice CA5 Cm5 Cc5) (.slice CA6 Cm6 Cc6) 46
        obtain ⟨P6, hP6⟩ : ∃ z, z = w14.heap.size := ⟨_, rfl⟩
        have HP6 := Lib.hid hP6
        rw [← hP6] at IN hzz15
        have hP6l : w14.heap.size ≤ P6 ∧ P6 ≤ w14.heap.size := by rw [hP6]; exact ⟨Nat.le_refl _, Nat.le_refl _⟩
        have hzhb15 := hb15.size
        clear g0 g1 g2 g3 g4 g5 g6 q0 q1 q2 y0 y1 y2 y3 y4 a0 a1 a2 a3 a4 a5 a6 gf qf yf af
        replace HM := bk HM hb15
        replace HD := bk HD hb15
        replace HY := bk HY hb15
        replace IM := bk IM hb15
        replace hB3 := bl_trans hB3 hb15
        replace hB := bl_trans hB hb15
        obtain ⟨⟨g0, g1, g2⟩, ⟨g3, g4, g5, g6⟩, gf⟩ := cells7 HM
        obtain ⟨q0, q1, q2, qf⟩ := cells3 HD
        obtain ⟨⟨y0, y1, y2⟩, ⟨y3, y4⟩, yf⟩ := cells5 HY
        obtain ⟨⟨a0, a1, a2⟩, ⟨a3, a4, a5, a6⟩, af⟩ := cells7 IM
        replace HR := Lib.hid (HR.out.up hb15)
        replace HN := Lib.hid (HN.out.up hb15)
        replace HX := Lib.hid (HX.out.up hb15)
        replace JM := Lib.hid (JM.out.up hb15)
        replace JN := Lib.hid (JN.out.up hb15)
        replace HS := Lib.hid ((HS.out.below hb15).more hb15.size)
        replace HMM := Lib.hid (HMM.out.off fun b _ h2 => hb15.block b (by omega))
        replace HMN := Lib.hid (HMN.out.off (by omega) fun b _ h2 => hb15.block b h2)
        have eg0 := g0
        have eg1 := g1
        have eg2 := g2
        have eg3 := g3
        have eg4 := g4
        have eg5 := g5
        have eg6 := g6
        have eq0 := q0
        have eq1 := q1
        have eq2 := q2
        have ey0 := y0
        have ey1 := y1
        have ey2 := y2
        have ey3 := y3
        have ey4 := y4
        have ea0 := a0
        have ea1 := a1
        have ea2 := a2
        have ea3 := a3
        have ea4 := a4
        have ea5 := a5
        have ea6 := a6
        rw [hw15] at eg0 eg1 eg2 eg3 eg4 eg5 eg6 eq0 eq1 eq2 ey0 ey1 ey2 ey3 ey4 ea0 ea1 ea2 ea3 ea4 ea5 ea6
        have HWw15 := Lib.hid hw15
        clear hw15 hP6
        go_wp2_with fail
        rw [← HWw15.out, ← HP6.out]
        clear eg0 eg1 eg2 eg3 eg4 eg5 eg6 eq0 eq1 eq2 ey0 ey1 ey2 ey3 ey4 ea0 ea1 ea2 ea3 ea4 ea5 ea6
        obtain ⟨b0, b1, b2, bf⟩ := cells3 IN
        refine (to_AsyW _ _ _ _ _ x w15 HX.out hs3).mono ?_
        rintro e w16 ⟨z0, z1, z2, z3, z4, rfl, hq, hb16, ho⟩
        have hzy16 := hb16.size
        have HMX := Lib.hid (ho.p (g := w15.heap.size) (by omega) hs3); clear ho
        obtain ⟨gx, hgx⟩ : ∃ z, z = w15.heap.size := ⟨_, rfl⟩
        rw [← hgx] at HMX
        obtain ⟨hix, hhix⟩ : ∃ z, z = w16.heap.size := ⟨_, rfl⟩
        rw [← hhix] at HMX
        have hhlx : hix ≤ w16.heap.size := by omega
        have hhgx : gx ≤ w16.heap.size ∧ gx ≤ hix := by omega
        obtain ⟨⟨CA10, Cm10, Cc10, rfl⟩, ⟨CA11, Cm11, Cc11, rfl⟩, ⟨CA12, Cm12, Cc12, rfl⟩, ⟨CA8, Cm8, Cc8, rfl⟩, CA9, Cm9, Cc9, rfl⟩ := hq.slices
        have JX := Lib.hid hq
        clear hq
        have hzhb16 := hb16.size
        clear g0 g1 g2 g3 g4 g5 g6 q0 q1 q2 y0 y1 y2 y3 y4 a0 a1 a2 a3 a4 a5 a6 b0 b1 b2 gf qf yf af bf
        replace HM := bk HM hb16
        replace HD := bk HD hb16
        replace HY := bk HY hb16
        replace IM := bk IM hb16
        replace IN := bk IN hb16
        replace hB3 := bl_trans hB3 hb16
        replace hB := bl_trans hB hb16
        obtain ⟨⟨g0, g1, g2⟩, ⟨g3, g4, g5, g6⟩, gf⟩ := cells7 HM
        obtain ⟨q0, q1, q2, qf⟩ := cells3 HD
        obtain ⟨⟨y0, y1, y2⟩, ⟨y3, y4⟩, yf⟩ := cells5 HY
        obtain ⟨⟨a0, a1, a2⟩, ⟨a3, a4, a5, a6⟩, af⟩ := cells7 IM
        obtain ⟨b0, b1, b2, bf⟩ := cells3 IN
        replace HR := Lib.hid (HR.out.up hb16)
        replace HN := Lib.hid (HN.out.up hb16)
        replace HX := Lib.hid (HX.out.up hb16)
        replace JM := Lib.hid (JM.out.up hb16)
        replace JN := Lib.hid (JN.out.up hb16)
        replace HS := Lib.hid ((HS.out.below hb16).more hb16.size)
        replace HMM := Lib.hid (HMM.out.off fun b _ h2 => hb16.block b (by omega))
        replace HMN := Lib.hid (HMN.out.off (by omega) fun b _ h2 => hb16.block b h2)
        obtain ⟨w17, hw17, hb17, IX, hzz17, HSS17⟩ := box5 w16 (.slice CA10 Cm10 Cc10) (.slice CA11 Cm11 Cc11) (.slice CA12 Cm12 Cc12) (.slice CA8 Cm8 Cc8) (.slice CA9 Cm9 Cc9) 50
        obtain ⟨P7, hP7⟩ : ∃ z, z = w16.heap.size := ⟨_, rfl⟩
        have HP7 := Lib.hid hP7
        rw [← hP7] at IX hzz17
        have hP7l : w16.heap.size ≤ P7 ∧ P7 ≤ w16.heap.size := by rw [hP7]; exact ⟨Nat.le_refl _, Nat.le_refl _⟩
        have hzhb17 := hb17.size
        clear g0 g1 g2 g3 g4 g5 g6 q0 q1 q2 y0 y1 y2 y3 y4 a0 a1 a2 a3 a4 a5 a6 b0 b1 b2 gf qf yf af bf
        replace HM := bk HM hb17
        replace HD := bk HD hb17
        replace HY := bk HY hb17
        replace IM := bk IM hb17
        replace IN := bk IN hb17
        replace hB3 := bl_trans hB3 hb17
        replace hB := bl_trans hB hb17
        obtain ⟨⟨g0, g1, g2⟩, ⟨g3, g4, g5, g6⟩, gf⟩ := cells7 HM
        obtain ⟨q0, q1, q2, qf⟩ := cells3 HD
        obtain ⟨⟨y0, y1, y2⟩, ⟨y3, y4⟩, yf⟩ := cells5 HY
        obtain ⟨⟨a0, a1, a2⟩, ⟨a3, a4, a5, a6⟩, af⟩ := cells7 IM
        obtain ⟨b0, b1, b2, bf⟩ := cells3 IN
        replace HR := Lib.hid (HR.out.up hb17)
        replace HN := Lib.hid (HN.out.up hb17)
        replace HX := Lib.hid (HX.out.up hb17)
        replace JM := Lib.hid (JM.out.up hb17)
        replace JN := Lib.hid (JN.out.up hb17)
        replace JX := Lib.hid (JX.out.up hb17)
        replace HS := Lib.hid ((HS.out.below hb17).more hb17.size)
        replace HMM := Lib.hid (HMM.out.off fun b _ h2 => hb17.block b (by omega))
        replace HMN := Lib.hid (HMN.out.off (by omega) fun b _ h2 => hb17.block b h2)
        replace HMX := Lib.hid (HMX.out.off fun b _ h2 => hb17.block b (by omega))
        have eg0 := g0
        have eg1 := g1
        have eg2 := g2
        have eg3 := g3
        have eg4 := g4
        have eg5 := g5
        have eg6 := g6
        have eq0 := q0
        have eq1 := q1
        have eq2 := q2
        have ey0 := y0
        have ey1 := y1
        have ey2 := y2
        have ey3 := y3
        have ey4 := y4
        have ea0 := a0
        have ea1 := a1
        have ea2 := a2
        have ea3 := a3
        have ea4 := a4
        have ea5 := a5
        have ea6 := a6
        have eb0 := b0
        have eb1 := b1
        have eb2 := b2
        rw [hw17] at eg0 eg1 eg2 eg3 eg4 eg5 eg6 eq0 eq1 eq2 ey0 ey1 ey2 ey3 ey4 ea0 ea1 ea2 ea3 ea4 ea5 ea6 eb0 eb1 eb2
        have HWw17 := Lib.hid hw17
        clear hw17 hP7
        go_wp2_with fail
        rw [← HWw17.out, ← HP7.out]
        clear eg0 eg1 eg2 eg3 eg4 eg5 eg6 eq0 eq1 eq2 ey0 ey1 ey2 ey3 ey4 ea0 ea1 ea2 ea3 ea4 ea5 ea6 eb0 eb1 eb2
        obtain ⟨⟨d0, d1, d2⟩, ⟨d3, d4⟩, df⟩ := cells5 IX
        have hC := impl_StepsReady _ _ _ _ m _ _ _ n _ _ _ _ _ x w17 JM.out JN.out JX.out hes1 hes2
        (try unfold machV at hC)
        rw [HV.out, HXS.out] at hC
        refine hC.mono ?_
        clear hC
        rintro e w18 ⟨u, rfl, ⟨Au, mu, cu, rfl⟩, ho, hb18⟩
        have hzhb18 := hb18.size
        clear g0 g1 g2 g3 g4 g5 g6 q0 q1 q2 y0 y1 y2 y3 y4 a0 a1 a2 a3 a4 a5 a6 b0 b1 b2 d0 d1 d2 d3 d4 gf qf yf af bf df
        replace HM := bk HM hb18
        replace HD := bk HD hb18
        replace HY := bk HY hb18
        replace IM := bk IM hb18
        replace IN := bk IN hb18
        replace IX := bk IX hb18
        replace hB3 := bl_trans hB3 hb18
        replace hB := bl_trans hB hb18
        obtain ⟨⟨g0, g1, g2⟩, ⟨g3, g4, g5, g6⟩, gf⟩ := cells7 HM
        obtain ⟨q0, q1, q2, qf⟩ := cells3 HD
        obtain ⟨⟨y0, y1, y2⟩, ⟨y3, y4⟩, yf⟩ := cells5 HY
        obtain ⟨⟨a0, a1, a2⟩, ⟨a3, a4, a5, a6⟩, af⟩ := cells7 IM
        obtain ⟨b0, b1, b2, bf⟩ := cells3 IN
        obtain ⟨⟨d0, d1, d2⟩, ⟨d3, d4⟩, df⟩ := cells5 IX
        replace HR := Lib.hid (HR.out.up hb18)
        replace HN := Lib.hid (HN.out.up hb18)
        replace HX := Lib.hid (HX.out.up hb18)
        replace JM := Lib.hid (JM.out.up hb18)
        replace JN := Lib.hid (JN.out.up hb18)
        replace JX := Lib.hid (JX.out.up hb18)
        replace HS := Lib.hid ((HS.out.below hb18).more hb18.size)
        replace HMM := Lib.hid (HMM.out.off fun b _ h2 => hb18.block b (by omega))
        replace HMN := Lib.hid (HMN.out.off (by omega) fun b _ h2 => hb18.block b h2)
        replace HMX := Lib.hid (HMX.out.off fun b _ h2 => hb18.block b (by omega))
        have HO := Lib.hid ho; clear ho
        have HU := Lib.hid (own_intsR HO.out HS0.out.2)
        go_wp2_with fail
        obtain ⟨gu, hgu⟩ : ∃ z, z = w17.heap.size := ⟨_, rfl⟩
        rw [← hgu] at HO
        have hgul : gu ≤ w18.heap.size ∧ hix ≤ gu := by omega
        clear hgu
        refine (eq_IntS _ _ xs w18 HU.out HS.out).mono ?_
        rintro e w19 ⟨rfl, aaw19, hww19⟩
        have hb19 : Below w18.heap.size w18 w19 := by rw [hww19]; exact bl_drewN (Below.refl _ _) _
        clear hww19
        have hzhb19 := hb19.size
        clear g0 g1 g2 g3 g4 g5 g6 q0 q1 q2 y0 y1 y2 y3 y4 a0 a1 a2 a3 a4 a5 a6 b0 b1 b2 d0 d1 d2 d3 d4 gf qf yf af bf df
        replace HM := bk HM hb19
        replace HD := bk HD hb19
        replace HY := bk HY hb19
        replace IM := bk IM hb19
        replace IN := bk IN hb19
        replace IX := bk IX hb19
        replace hB3 := bl_trans hB3 hb19
        replace hB := bl_trans hB hb19
        obtain ⟨⟨g0, g1, g2⟩, ⟨g3, g4, g5, g6⟩, gf⟩ := cells7 HM
        obtain ⟨q0, q1, q2, qf⟩ := cells3 HD
        obtain ⟨⟨y0, y1, y2⟩, ⟨y3, y4⟩, yf⟩ := cells5 HY
        obtain ⟨⟨a0, a1, a2⟩, ⟨a3, a4, a5, a6⟩, af⟩ := cells7 IM
        obtain ⟨b0, b1, b2, bf⟩ := cells3 IN
        obtain ⟨⟨d0, d1, d2⟩, ⟨d3, d4⟩, df⟩ := cells5 IX
        replace HR := Lib.hid (HR.out.up hb19)
        replace HN := Lib.hid (HN.out.up hb19)
        replace HX := Lib.hid (HX.out.up hb19)
        replace JM := Lib.hid (JM.out.up hb19)
        replace JN := Lib.hid (JN.out.up hb19)
        replace JX := Lib.hid (JX.out.up hb19)
        replace HS := Lib.hid ((HS.out.below hb19).more hb19.size)
        replace HMM := Lib.hid (HMM.out.off fun b _ h2 => hb19.block b (by omega))
        replace HMN := Lib.hid (HMN.out.off (by omega) fun b _ h2 => hb19.block b h2)
        replace HMX := Lib.hid (HMX.out.off fun b _ h2 => hb19.block b (by omega))
        replace HO := Lib.hid (kept_below HO.out hb19)
        replace HU := Lib.hid ((HU.out.below hb19).more hb19.size)
        go_wp2_with fail
        refine wp_region_held_drew (S := fun w' => w'.cell? ⟨w.heap.size, 0, none⟩ = some (.int .i64 m.deg) ∧ w'.cell? ⟨w.heap.size, 1, none⟩ = some (.int .i64 m.st) ∧ w'.cell? ⟨w.heap.size, 2, none⟩ = some (.int .i64 m.msg) ∧ w'.cell? ⟨w.heap.size, 3, none⟩ = some (.slice A0 m0 c0) ∧ w'.cell? ⟨w.heap.size, 4, none⟩ = some (.slice A1 m1 c1) ∧ w'.cell? ⟨w.heap.size, 5, none⟩ = some (.slice A2 m2 c2) ∧ w'.cell? ⟨w.heap.size, 6, none⟩ = some (.slice A3 m3 c3) ∧ w'.cell? ⟨P5, 0, none⟩ = some (.int .i64 m.deg) ∧ w'.cell? ⟨P5, 1, none⟩ = some (.int .i64 m.st) ∧ w'.cell? ⟨P5, 2, none⟩ = some (.int .i64 m.msg) ∧ w'.cell? ⟨P5, 3, none⟩ = some (.slice CA0 Cm0 Cc0) ∧ w'.cell? ⟨P5, 4, none⟩ = some (.slice CA1 Cm1 Cc1) ∧ w'.cell? ⟨P5, 5, none⟩ = some (.slice CA2 Cm2 Cc2) ∧ w'.cell? ⟨P5, 6, none⟩ = some (.slice CA3 Cm3 Cc3)) (by kernel_rfl) ?_ (fun hHeld => ?_)
        · go_keep
        refine tk 0 67 rfl rfl ?_
        try simp only [Act.put, pu]
        refine tk 1 68 rfl rfl ?_
        try simp only [Act.put, pu]
        refine tr 2 rfl (by kernel_rfl) (fun K hK => ?_)
        go_simp
        go_at_call 13
        refine (to_Mach _ _ _ _ m w19.drew (HR.out.up (Below.refl _ _).drew) hs1).mono ?_
        rintro e w20 ⟨z0, z1, z2, z3, rfl, hq, hb20'⟩
        have hb20 : Below w19.heap.size w19 w20 := (Below.refl _ _).drew.trans hb20'
        clear hb20'
        obtain ⟨⟨EA0, Em0, Ec0, rfl⟩, ⟨EA1, Em1, Ec1, rfl⟩, ⟨EA2, Em2, Ec2, rfl⟩, EA3, Em3, Ec3, rfl⟩ := hq.slices
        have JJ := Lib.hid hq
        clear hq
        have hzhb20 := hb20.size
        clear g0 g1 g2 g3 g4 g5 g6 q0 q1 q2 y0 y1 y2 y3 y4 a0 a1 a2 a3 a4 a5 a6 b0 b1 b2 d0 d1 d2 d3 d4 gf qf yf af bf df
        replace HM := bk HM hb20
        replace HD := bk HD hb20
        replace HY := bk HY hb20
        replace IM := bk IM hb20
        replace IN := bk IN hb20
        replace IX := bk IX hb20
        replace hB3 := bl_trans hB3 hb20
        replace hB := bl_trans hB hb20
        obtain ⟨⟨g0, g1, g2⟩, ⟨g3, g4, g5, g6⟩, gf⟩ := cells7 HM
        obtain ⟨q0, q1, q2, qf⟩ := cells3 HD
        obtain ⟨⟨y0, y1, y2⟩, ⟨y3, y4⟩, yf⟩ := cells5 HY
        obtain ⟨⟨a0, a1, a2⟩, ⟨a3, a4, a5, a6⟩, af⟩ := cells7 IM
        obtain ⟨b0, b1, b2, bf⟩ := cells3 IN
        obtain ⟨⟨d0, d1, d2⟩, ⟨d3, d4⟩, df⟩ := cells5 IX
        replace HR := Lib.hid (HR.out.up hb20)
        replace HN := Lib.hid (HN.out.up hb20)
        replace HX := Lib.hid (HX.out.up hb20)
        replace JM := Lib.hid (JM.out.up hb20)
        replace JN := Lib.hid (JN.out.up hb20)
        replace JX := Lib.hid (JX.out.up hb20)
        replace HS := Lib.hid ((HS.out.below hb20).more hb20.size)
        replace HMM := Lib.hid (HMM.out.off fun b _ h2 => hb20.block b (by omega))
        replace HMN := Lib.hid (HMN.out.off (by omega) fun b _ h2 => hb20.block b h2)
        replace HMX := Lib.hid (HMX.out.off fun b _ h2 => hb20.block b (by omega))
        replace HO := Lib.hid (kept_below HO.out hb20)
        replace HU := Lib.hid ((HU.out.below hb20).more hb20.size)
        refine hK.out _ _ ?_ (fun hHeld => ?_)
        · go_keep
        clear hK K
        try simp only [Act.put, pu]
        refine tr 3 rfl (by kernel_rfl) (fun K hK => ?_)
        go_simp
        go_at_call 18
        refine (eq_Mach _ _ _ _ _ _ _ _ m w20 JM.out JJ.out).mono ?_
        rintro e w21 ⟨rfl, hb21⟩
        clear JJ
        have hzhb21 := hb21.size
        clear g0 g1 g2 g3 g4 g5 g6 q0 q1 q2 y0 y1 y2 y3 y4 a0 a1 a2 a3 a4 a5 a6 b0 b1 b2 d0 d1 d2 d3 d4 gf qf yf af bf df
        replace HM := bk HM hb21
        replace HD := bk HD hb21
        replace HY := bk HY hb21
        replace IM := bk IM hb21
        replace IN := bk IN hb21
        replace IX := bk IX hb21
        replace hB3 := bl_trans hB3 hb21
        replace hB := bl_trans hB hb21
        obtain ⟨⟨g0, g1, g2⟩, ⟨g3, g4, g5, g6⟩, gf⟩ := cells7 HM
        obtain ⟨q0, q1, q2, qf⟩ := cells3 HD
        obtain ⟨⟨y0, y1, y2⟩, ⟨y3, y4⟩, yf⟩ := cells5 HY
        obtain ⟨⟨a0, a1, a2⟩, ⟨a3, a4, a5, a6⟩, af⟩ := cells7 IM
        obtain ⟨b0, b1, b2, bf⟩ := cells3 IN
        obtain ⟨⟨d0, d1, d2⟩, ⟨d3, d4⟩, df⟩ := cells5 IX
        replace HR := Lib.hid (HR.out.up hb21)
        replace HN := Lib.hid (HN.out.up hb21)
        replace HX := Lib.hid (HX.out.up hb21)
        replace JM := Lib.hid (JM.out.up hb21)
        replace JN := Lib.hid (JN.out.up hb21)
        replace JX := Lib.hid (JX.out.up hb21)
        replace HS := Lib.hid ((HS.out.below hb21).more hb21.size)
        replace HMM := Lib.hid (HMM.out.off fun b _ h2 => hb21.block b (by omega))
        replace HMN := Lib.hid (HMN.out.off (by omega) fun b _ h2 => hb21.block b h2)
        replace HMX := Lib.hid (HMX.out.off fun b _ h2 => hb21.block b (by omega))
        replace HO := Lib.hid (kept_below HO.out hb21)
        replace HU := Lib.hid ((HU.out.below hb21).more hb21.size)
        refine hK.out _ _ ?_ (fun hHeld => ?_)
        · go_keep
        clear hK K
        try simp only [Act.put, pu]
        refine tk 4 71 rfl rfl ?_
        try simp only [Act.put, pu]
        refine wpAnyH_done (by kernel_rfl) ?_ _
        go_wp2_with fail
        refine wp_region_held_drew (S := fun w' => w'.cell? ⟨P1, 0, none⟩ = some (.slice A4 m4 c4) ∧ w'.cell? ⟨P1, 1, none⟩ = some (.slice A5 m5 c5) ∧ w'.cell? ⟨P1, 2, none⟩ = some (.slice A6 m6 c6) ∧ w'.cell? ⟨P6, 0, none⟩ = some (.slice CA4 Cm4 Cc4) ∧ w'.cell? ⟨P6, 1, none⟩ = some (.slice CA5 Cm5 Cc5) ∧ w'.cell? ⟨P6, 2, none⟩ = some (.slice CA6 Cm6 Cc6)) (by kernel_rfl) ?_ (fun hHeld => ?_)
        · go_keep
        refine tk 0 72 rfl rfl ?_
        try simp only [Act.put, pu]
        refine tk 1 73 rfl rfl ?_
        try simp only [Act.put, pu]
        refine tr 2 rfl (by kernel_rfl) (fun K hK => ?_)
        go_simp
        go_at_call 14
        refine (to_Net _ _ _ n w21.drew (HN.out.up (Below.refl _ _).drew) hs2).mono ?_
        rintro e w22 ⟨z0, z1, z2, rfl, hq, hb22'⟩
        have hb22 : Below w21.heap.size w21 w22 := (Below.refl _ _).drew.trans hb22'
        clear hb22'
        obtain ⟨⟨EA4, Em4, Ec4, rfl⟩, ⟨EA5, Em5, Ec5, rfl⟩, EA6, Em6, Ec6, rfl⟩ := hq.slices
        have JJ := Lib.hid hq
        clear hq
        have hzhb22 := hb22.size
        clear g0 g1 g2 g3 g4 g5 g6 q0 q1 q2 y0 y1 y2 y3 y4 a0 a1 a2 a3 a4 a5 a6 b0 b1 b2 d0 d1 d2 d3 d4 gf qf yf af bf df
        replace HM := bk HM hb22
        replace HD := bk HD hb22
        replace HY := bk HY hb22
        replace IM := bk IM hb22
        replace IN := bk IN hb22
        replace IX := bk IX hb22
        replace hB3 := bl_trans hB3 hb22
        replace hB := bl_trans hB hb22
        obtain ⟨⟨g0, g1, g2⟩, ⟨g3, g4, g5, g6⟩, gf⟩ := cells7 HM
        obtain ⟨q0, q1, q2, qf⟩ := cells3 HD
        obtain ⟨⟨y0, y1, y2⟩, ⟨y3, y4⟩, yf⟩ := cells5 HY
        obtain ⟨⟨a0, a1, a2⟩, ⟨a3, a4, a5, a6⟩, af⟩ := cells7 IM
        obtain ⟨b0, b1, b2, bf⟩ := cells3 IN
        obtain ⟨⟨d0, d1, d2⟩, ⟨d3, d4⟩, df⟩ := cells5 IX
        replace HR := Lib.hid (HR.out.up hb22)
        replace HN := Lib.hid (HN.out.up hb22)
        replace HX := Lib.hid (HX.out.up hb22)
        replace JM := Lib.hid (JM.out.up hb22)
        replace JN := Lib.hid (JN.out.up hb22)
        replace JX := Lib.hid (JX.out.up hb22)
        replace HS := Lib.hid ((HS.out.below hb22).more hb22.size)
        replace HMM := Lib.hid (HMM.out.off fun b _ h2 => hb22.block b (by omega))
        replace HMN := Lib.hid (HMN.out.off (by omega) fun b _ h2 => hb22.block b h2)
        replace HMX := Lib.hid (HMX.out.off fun b _ h2 => hb22.block b (by omega))
        replace HO := Lib.hid (kept_below HO.out hb22)
        replace HU := Lib.hid ((HU.out.below hb22).more hb22.size)
        refine hK.out _ _ ?_ (fun hHeld => ?_)
        · go_keep
        clear hK K
        try simp only [Act.put, pu]
        refine tr 3 rfl (by kernel_rfl) (fun K hK => ?_)
        go_simp
        go_at_call 19
        refine (eq_Net _ _ _ _ _ _ n w22 JN.out JJ.out).mono ?_
        rintro e w23 ⟨rfl, hb23⟩
        clear JJ
        have hzhb23 := hb23.size
        clear g0 g1 g2 g3 g4 g5 g6 q0 q1 q2 y0 y1 y2 y3 y4 a0 a1 a2 a3 a4 a5 a6 b0 b1 b2 d0 d1 d2 d3 d4 gf qf yf af bf df
        replace HM := bk HM hb23
        replace HD := bk HD hb23
        replace HY := bk HY hb23
        replace IM := bk IM hb23
        replace IN := bk IN hb23
        replace IX := bk IX hb23
        replace hB3 := bl_trans hB3 hb23
        replace hB := bl_trans hB hb23
        obtain ⟨⟨g0, g1, g2⟩, ⟨g3, g4, g5, g6⟩, gf⟩ := cells7 HM
        obtain ⟨q0, q1, q2, qf⟩ := cells3 HD
        obtain ⟨⟨y0, y1, y2⟩, ⟨y3, y4⟩, yf⟩ := cells5 HY
        obtain ⟨⟨a0, a1, a2⟩, ⟨a3, a4, a5, a6⟩, af⟩ := cells7 IM
        obtain ⟨b0, b1, b2, bf⟩ := cells3 IN
        obtain ⟨⟨d0, d1, d2⟩, ⟨d3, d4⟩, df⟩ := cells5 IX
        replace HR := Lib.hid (HR.out.up hb23)
        replace HN := Lib.hid (HN.out.up hb23)
        replace HX := Lib.hid (HX.out.up hb23)
        replace JM := Lib.hid (JM.out.up hb23)
        replace JN := Lib.hid (JN.out.up hb23)
        replace JX := Lib.hid (JX.out.up hb23)
        replace HS := Lib.hid ((HS.out.below hb23).more hb23.size)
        replace HMM := Lib.hid (HMM.out.off fun b _ h2 => hb23.block b (by omega))
        replace HMN := Lib.hid (HMN.out.off (by omega) fun b _ h2 => hb23.block b h2)
        replace HMX := Lib.hid (HMX.out.off fun b _ h2 => hb23.block b (by omega))
        replace HO := Lib.hid (kept_below HO.out hb23)
        replace HU := Lib.hid ((HU.out.below hb23).more hb23.size)
        refine hK.out _ _ ?_ (fun hHeld => ?_)
        · go_keep
        clear hK K
        try simp only [Act.put, pu]
        refine tk 4 76 rfl rfl ?_
        try simp only [Act.put, pu]
        refine wpAnyH_done (by kernel_rfl) ?_ _
        go_wp2_with fail
        refine wp_region_held_drew (S := fun w' => w'.cell? ⟨P2, 0, none⟩ = some (.slice A10 m10 c10) ∧ w'.cell? ⟨P2, 1, none⟩ = some (.slice A11 m11 c11) ∧ w'.cell? ⟨P2, 2, none⟩ = some (.slice A12 m12 c12) ∧ w'.cell? ⟨P2, 3, none⟩ = some (.slice A8 m8 c8) ∧ w'.cell? ⟨P2, 4, none⟩ = some (.slice A9 m9 c9) ∧ w'.cell? ⟨P7, 0, none⟩ = some (.slice CA10 Cm10 Cc10) ∧ w'.cell? ⟨P7, 1, none⟩ = some (.slice CA11 Cm11 Cc11) ∧ w'.cell? ⟨P7, 2, none⟩ = some (.slice CA12 Cm12 Cc12) ∧ w'.cell? ⟨P7, 3, none⟩ = some (.slice CA8 Cm8 Cc8) ∧ w'.cell? ⟨P7, 4, none⟩ = some (.slice CA9 Cm9 Cc9)) (by kernel_rfl) ?_ (fun hHeld => ?_)
        · go_keep
        refine tk 0 77 rfl rfl ?_
        try simp only [Act.put, pu]
        refine tk 1 78 rfl rfl ?_
        try simp only [Act.put, pu]
        refine tr 2 rfl (by kernel_rfl) (fun K hK => ?_)
        go_simp
        go_at_call 15
        refine (to_Asy _ _ _ _ _ x w23.drew (HX.out.up (Below.refl _ _).drew) hs3).mono ?_
        rintro e w24 ⟨z0, z1, z2, z3, z4, rfl, hq, hb24'⟩
        have hb24 : Below w23.heap.size w23 w24 := (Below.refl _ _).drew.trans hb24'
        clear hb24'
        obtain ⟨⟨EA10, Em10, Ec10, rfl⟩, ⟨EA11, Em11, Ec11, rfl⟩, ⟨EA12, Em12, Ec12, rfl⟩, ⟨EA8, Em8, Ec8, rfl⟩, EA9, Em9, Ec9, rfl⟩ := hq.slices
        have JJ := Lib.hid hq
        clear hq
        have hzhb24 := hb24.size
        clear g0 g1 g2 g3 g4 g5 g6 q0 q1 q2 y0 y1 y2 y3 y4 a0 a1 a2 a3 a4 a5 a6 b0 b1 b2 d0 d1 d2 d3 d4 gf qf yf af bf df
        replace HM := bk HM hb24
        replace HD := bk HD hb24
        replace HY := bk HY hb24
        replace IM := bk IM hb24
        replace IN := bk IN hb24
        replace IX := bk IX hb24
        replace hB3 := bl_trans hB3 hb24
        replace hB := bl_trans hB hb24
        obtain ⟨⟨g0, g1, g2⟩, ⟨g3, g4, g5, g6⟩, gf⟩ := cells7 HM
        obtain ⟨q0, q1, q2, qf⟩ := cells3 HD
        obtain ⟨⟨y0, y1, y2⟩, ⟨y3, y4⟩, yf⟩ := cells5 HY
        obtain ⟨⟨a0, a1, a2⟩, ⟨a3, a4, a5, a6⟩, af⟩ := cells7 IM
        obtain ⟨b0, b1, b2, bf⟩ := cells3 IN
        obtain ⟨⟨d0, d1, d2⟩, ⟨d3, d4⟩, df⟩ := cells5 IX
        replace HR := Lib.hid (HR.out.up hb24)
        replace HN := Lib.hid (HN.out.up hb24)
        replace HX := Lib.hid (HX.out.up hb24)
        replace JM := Lib.hid (JM.out.up hb24)
        replace JN := Lib.hid (JN.out.up hb24)
        replace JX := Lib.hid (JX.out.up hb24)
        replace HS := Lib.hid ((HS.out.below hb24).more hb24.size)
        replace HMM := Lib.hid (HMM.out.off fun b _ h2 => hb24.block b (by omega))
        replace HMN := Lib.hid (HMN.out.off (by omega) fun b _ h2 => hb24.block b h2)
        replace HMX := Lib.hid (HMX.out.off fun b _ h2 => hb24.block b (by omega))
        replace HO := Lib.hid (kept_below HO.out hb24)
        replace HU := Lib.hid ((HU.out.below hb24).more hb24.size)
        refine hK.out _ _ ?_ (fun hHeld => ?_)
        · go_keep
        clear hK K
        try simp only [Act.put, pu]
        refine tr 3 rfl (by kernel_rfl) (fun K hK => ?_)
        go_simp
        go_at_call 20
        refine (eq_Asy _ _ _ _ _ _ _ _ _ _ x w24 JX.out JJ.out).mono ?_
        rintro e w25 ⟨rfl, hb25⟩
        clear JJ
        have hzhb25 := hb25.size
        clear g0 g1 g2 g3 g4 g5 g6 q0 q1 q2 y0 y1 y2 y3 y4 a0 a1 a2 a3 a4 a5 a6 b0 b1 b2 d0 d1 d2 d3 d4 gf qf yf af bf df
        replace HM := bk HM hb25
        replace HD := bk HD hb25
        replace HY := bk HY hb25
        replace IM := bk IM hb25
        replace IN := bk IN hb25
        replace IX := bk IX hb25
        replace hB3 := bl_trans hB3 hb25
        replace hB := bl_trans hB hb25
        obtain ⟨⟨g0, g1, g2⟩, ⟨g3, g4, g5, g6⟩, gf⟩ := cells7 HM
        obtain ⟨q0, q1, q2, qf⟩ := cells3 HD
        obtain ⟨⟨y0, y1, y2⟩, ⟨y3, y4⟩, yf⟩ := cells5 HY
        obtain ⟨⟨a0, a1, a2⟩, ⟨a3, a4, a5, a6⟩, af⟩ := cells7 IM
        obtain ⟨b0, b1, b2, bf⟩ := cells3 IN
        obtain ⟨⟨d0, d1, d2⟩, ⟨d3, d4⟩, df⟩ := cells5 IX
        replace HR := Lib.hid (HR.out.up hb25)
        replace HN := Lib.hid (HN.out.up hb25)
        replace HX := Lib.hid (HX.out.up hb25)
        replace JM := Lib.hid (JM.out.up hb25)
        replace JN := Lib.hid (JN.out.up hb25)
        replace JX := Lib.hid (JX.out.up hb25)
        replace HS := Lib.hid ((HS.out.below hb25).more hb25.size)
        replace HMM := Lib.hid (HMM.out.off fun b _ h2 => hb25.block b (by omega))
        replace HMN := Lib.hid (HMN.out.off (by omega) fun b _ h2 => hb25.block b h2)
        replace HMX := Lib.hid (HMX.out.off fun b _ h2 => hb25.block b (by omega))
        replace HO := Lib.hid (kept_below HO.out hb25)
        replace HU := Lib.hid ((HU.out.below hb25).more hb25.size)
        refine hK.out _ _ ?_ (fun hHeld => ?_)
        · go_keep
        clear hK K
        try simp only [Act.put, pu]
        refine tk 4 81 rfl rfl ?_
        try simp only [Act.put, pu]
        refine wpAnyH_done (by kernel_rfl) ?_ _
        go_wp2_with fail
        clear JM JN JX
        refine (mark_Mach _ _ _ _ _ _ _ _ _ _ _ gm him 1 w25 HMM.out (by omega) (machP_sum hs1) (by omega) (by omega) (by omega)).mono ?_
        rintro e w26 ⟨⟨k1, rfl, hk1, hk1'⟩, hmk1⟩
        clear HMM
        clear a0 a1 a2 a3 a4 a5 a6 af IM
        have hzhmk1 := hmk1.below.size
        clear g0 g1 g2 g3 g4 g5 g6 q0 q1 q2 y0 y1 y2 y3 y4 b0 b1 b2 d0 d1 d2 d3 d4 gf qf yf bf df
        replace HM := Lib.hid ((hmk1.off _ (by omega) (by omega)).trans HM.out)
        replace HD := Lib.hid ((hmk1.off _ (by omega) (by omega)).trans HD.out)
        replace HY := Lib.hid ((hmk1.off _ (by omega) (by omega)).trans HY.out)
        replace IN := Lib.hid ((hmk1.off _ (by omega) (by omega)).trans IN.out)
        replace IX := Lib.hid ((hmk1.off _ (by omega) (by omega)).trans IX.out)
        replace hB := hB.trans (hmk1.below.mono (by omega))
        replace hB3 := hB3.trans (hmk1.below.mono (by omega))
        obtain ⟨⟨g0, g1, g2⟩, ⟨g3, g4, g5, g6⟩, gf⟩ := cells7 HM
        obtain ⟨q0, q1, q2, qf⟩ := cells3 HD
        obtain ⟨⟨y0, y1, y2⟩, ⟨y3, y4⟩, yf⟩ := cells5 HY
        obtain ⟨b0, b1, b2, bf⟩ := cells3 IN
        obtain ⟨⟨d0, d1, d2⟩, ⟨d3, d4⟩, df⟩ := cells5 IX
        replace HR := Lib.hid (HR0.out.up hB)
        replace HN := Lib.hid (HN0.out.up hB)
        replace HX := Lib.hid (HX0.out.up hB)
        replace HS := Lib.hid ((HS0.out.below hB3).more hB3.size)
        replace HMN := Lib.hid (HMN.out.off (by omega) fun b h1 h2 => hmk1.off b h2 (by omega))
        replace HMX := Lib.hid (HMX.out.off fun b h1 h2 => hmk1.off b (by omega) (by omega))
        replace HO := Lib.hid (own_keep4 HO.out hmk1.below.size fun b h1 h2 => hmk1.off b h2 (by omega))
        replace HU := Lib.hid (own_intsR HO.out HS0.out.2)
        go_wp2_with fail
        refine (mark_Net _ _ _ n gn hin k1 w26 HMN.out (by omega) hs2 (by omega) (by omega) (by omega)).mono ?_
        rintro e w27 ⟨⟨k2, rfl, hk2⟩, hmk2⟩
        clear HMN
        clear b0 b1 b2 bf IN
        have hzhmk2 := hmk2.below.size
        clear g0 g1 g2 g3 g4 g5 g6 q0 q1 q2 y0 y1 y2 y3 y4 d0 d1 d2 d3 d4 gf qf yf df
        replace HM := Lib.hid ((hmk2.off _ (by omega) (by omega)).trans HM.out)
        replace HD := Lib.hid ((hmk2.off _ (by omega) (by omega)).trans HD.out)
        replace HY := Lib.hid ((hmk2.off _ (by omega) (by omega)).trans HY.out)
        replace IX := Lib.hid ((hmk2.off _ (by omega) (by omega)).trans IX.out)
        replace hB := hB.trans (hmk2.below.mono (by omega))
        replace hB3 := hB3.trans (hmk2.below.mono (by omega))
        obtain ⟨⟨g0, g1, g2⟩, ⟨g3, g4, g5, g6⟩, gf⟩ := cells7 HM
        obtain ⟨q0, q1, q2, qf⟩ := cells3 HD
        obtain ⟨⟨y0, y1, y2⟩, ⟨y3, y4⟩, yf⟩ := cells5 HY
        obtain ⟨⟨d0, d1, d2⟩, ⟨d3, d4⟩, df⟩ := cells5 IX
        replace HR := Lib.hid (HR0.out.up hB)
        replace HN := Lib.hid (HN0.out.up hB)
        replace HX := Lib.hid (HX0.out.up hB)
        replace HS := Lib.hid ((HS0.out.below hB3).more hB3.size)
        replace HMX := Lib.hid (HMX.out.off fun b h1 h2 => hmk2.off b (by omega) (by omega))
        replace HO := Lib.hid (own_keep4 HO.out hmk2.below.size fun b h1 h2 => hmk2.off b h2 (by omega))
        replace HU := Lib.hid (own_intsR HO.out HS0.out.2)
        go_wp2_with fail
        refine (mark_Asy _ _ _ _ _ _ _ _ _ _ gx hix k2 w27 HMX.out (by omega) (asyP_sum hs3) (by omega) (by omega) (by omega)).mono ?_
        rintro e w28 ⟨⟨k3, rfl, hk3, hk3'⟩, hmk3⟩
        clear HMX
        clear d0 d1 d2 d3 d4 df IX
        have hzhmk3 := hmk3.below.size
        clear g0 g1 g2 g3 g4 g5 g6 q0 q1 q2 y0 y1 y2 y3 y4 gf qf yf
        replace HM := Lib.hid ((hmk3.off _ (by omega) (by omega)).trans HM.out)
        replace HD := Lib.hid ((hmk3.off _ (by omega) (by omega)).trans HD.out)
        replace HY := Lib.hid ((hmk3.off _ (by omega) (by omega)).trans HY.out)
        replace hB := hB.trans (hmk3.below.mono (by omega))
        replace hB3 := hB3.trans (hmk3.below.mono (by omega))
        obtain ⟨⟨g0, g1, g2⟩, ⟨g3, g4, g5, g6⟩, gf⟩ := cells7 HM
        obtain ⟨q0, q1, q2, qf⟩ := cells3 HD
        obtain ⟨⟨y0, y1, y2⟩, ⟨y3, y4⟩, yf⟩ := cells5 HY
        replace HR := Lib.hid (HR0.out.up hB)
        replace HN := Lib.hid (HN0.out.up hB)
        replace HX := Lib.hid (HX0.out.up hB)
        replace HS := Lib.hid ((HS0.out.below hB3).more hB3.size)
        replace HO := Lib.hid (own_keep4 HO.out hmk3.below.size fun b h1 h2 => hmk3.off b h2 (by omega))
        replace HU := Lib.hid (own_intsR HO.out HS0.out.2)
        go_wp2_with fail
        refine (eq_IntS _ _ xs w28 HU.out HS.out).mono ?_
        rintro e w29 ⟨rfl, aaw29, hww29⟩
        have hb29 : Below w28.heap.size w28 w29 := by rw [hww29]; exact bl_drewN (Below.refl _ _) _
        clear hww29
        have hzhb29 := hb29.size
        clear g0 g1 g2 g3 g4 g5 g6 q0 q1 q2 y0 y1 y2 y3 y4 gf qf yf
        replace HM := bk HM hb29
        replace HD := bk HD hb29
        replace HY := bk HY hb29
        replace hB3 := bl_trans hB3 hb29
        replace hB := bl_trans hB hb29
        obtain ⟨⟨g0, g1, g2⟩, ⟨g3, g4, g5, g6⟩, gf⟩ := cells7 HM
        obtain ⟨q0, q1, q2, qf⟩ := cells3 HD
        obtain ⟨⟨y0, y1, y2⟩, ⟨y3, y4⟩, yf⟩ := cells5 HY
        replace HR := Lib.hid (HR.out.up hb29)
        replace HN := Lib.hid (HN.out.up hb29)
        replace HX := Lib.hid (HX.out.up hb29)
        replace HS := Lib.hid ((HS.out.below hb29).more hb29.size)
        replace HO := Lib.hid (kept_below HO.out hb29)
        replace HU := Lib.hid ((HU.out.below hb29).more hb29.size)
        go_wp2_with fail
        obtain ⟨bs, hr1, hr3, hr2⟩ := OwnRow.of_owns HO.out
        have HOI := Lib.hid (show OwnInts w29 3 (.slice Au mu cu) xs bs from ⟨hr1, HU.out.2⟩)
        have hlt := hr1.lt
        have HBL := Lib.hid (And.intro hr3 hlt); clear hr1 hr2 hr3 hlt HU HO
        refine (mark_IntS _ xs bs 1 w29 HOI.out (by omega) (by omega)).mono ?_
        rintro e w30 ⟨rfl, ho30, hsb⟩
        have hmk4 : Marked (gu - 1) w30.heap.size w29 w30 := ⟨hsb.below fun b hb => by have := HBL.out.1 b hb; omega, fun b hb hn => hsb.block b fun hm => hn ⟨by have := HBL.out.1 b hm; omega, by rw [hsb.size]; exact hb⟩⟩
        have HI12 := Lib.hid (ho30.reads (B := w30.heap.size) fun b hb => by have := HBL.out.2 b hb; have := hsb.size; omega)
        clear hsb ho30
        have hzhmk4 := hmk4.below.size
        clear g0 g1 g2 g3 g4 g5 g6 q0 q1 q2 y0 y1 y2 y3 y4 gf qf yf
        replace HM := Lib.hid ((hmk4.off _ (by omega) (by omega)).trans HM.out)
        replace HD := Lib.hid ((hmk4.off _ (by omega) (by omega)).trans HD.out)
        replace HY := Lib.hid ((hmk4.off _ (by omega) (by omega)).trans HY.out)
        replace hB := hB.trans (hmk4.below.mono (by omega))
        replace hB3 := hB3.trans (hmk4.below.mono (by omega))
        obtain ⟨⟨g0, g1, g2⟩, ⟨g3, g4, g5, g6⟩, gf⟩ := cells7 HM
        obtain ⟨q0, q1, q2, qf⟩ := cells3 HD
        obtain ⟨⟨y0, y1, y2⟩, ⟨y3, y4⟩, yf⟩ := cells5 HY
        replace HR := Lib.hid (HR0.out.up hB)
        replace HN := Lib.hid (HN0.out.up hB)
        replace HX := Lib.hid (HX0.out.up hB)
        replace HS := Lib.hid ((HS0.out.below hB3).more hB3.size)
        go_wp2_with fail
        refine (held_IntS _ xs.length 1 w30 HI12.out (by omega) (by omega)).mono ?_
        rintro e w31 ⟨rfl, rfl⟩
        go_wp2_with fail
        refine wp_region_held_drew (S := fun w' => w'.cell? ⟨w.heap.size, 0, none⟩ = some (.int .i64 m.deg) ∧ w'.cell? ⟨w.heap.size, 1, none⟩ = some (.int .i64 m.st) ∧ w'.cell? ⟨w.heap.size, 2, none⟩ = some (.int .i64 m.msg) ∧ w'.cell? ⟨w.heap.size, 3, none⟩ = some (.slice A0 m0 c0) ∧ w'.cell? ⟨w.heap.size, 4, none⟩ = some (.slice A1 m1 c1) ∧ w'.cell? ⟨w.heap.size, 5, none⟩ = some (.slice A2 m2 c2) ∧ w'.cell? ⟨w.heap.size, 6, none⟩ = some (.slice A3 m3 c3) ∧ w'.cell? ⟨P1, 0, none⟩ = some (.slice A4 m4 c4) ∧ w'.cell? ⟨P1, 1, none⟩ = some (.slice A5 m5 c5) ∧ w'.cell? ⟨P1, 2, none⟩ = some (.slice A6 m6 c6) ∧ w'.cell? ⟨P2, 0, none⟩ = some (.slice A10 m10 c10) ∧ w'.cell? ⟨P2, 1, none⟩ = some (.slice A11 m11 c11) ∧ w'.cell? ⟨P2, 2, none⟩ = some (.slice A12 m12 c12) ∧ w'.cell? ⟨P2, 3, none⟩ = some (.slice A8 m8 c8) ∧ w'.cell? ⟨P2, 4, none⟩ = some (.slice A9 m9 c9)) (by kernel_rfl) ?_ (fun hHeld => ?_)
        · go_keep
        refine tk 0 116 rfl rfl ?_
        try simp only [Act.put, pu]
        refine tk 2 118 rfl rfl ?_
        try simp only [Act.put, pu]
        refine tk 4 120 rfl rfl ?_
        try simp only [Act.put, pu]
        refine tr 1 rfl (by kernel_rfl) (fun K hK => ?_)
        go_simp
        go_at_call 13
        refine (to_Mach _ _ _ _ m w30.drew (HR.out.up (Below.refl _ _).drew) hs1).mono ?_
        rintro e w32 ⟨z0, z1, z2, z3, rfl, hq, hb32'⟩
        have hb32 : Below w30.heap.size w30 w32 := (Below.refl _ _).drew.trans hb32'
        clear hb32'
        obtain ⟨⟨FA0, Fm0, Fc0, rfl⟩, ⟨FA1, Fm1, Fc1, rfl⟩, ⟨FA2, Fm2, Fc2, rfl⟩, FA3, Fm3, Fc3, rfl⟩ := hq.slices
        have KM := Lib.hid hq
        clear hq
        have hzhb32 := hb32.size
        clear g0 g1 g2 g3 g4 g5 g6 q0 q1 q2 y0 y1 y2 y3 y4 gf qf yf
        replace HM := bk HM hb32
        replace HD := bk HD hb32
        replace HY := bk HY hb32
        replace hB3 := bl_trans hB3 hb32
        replace hB := bl_trans hB hb32
        obtain ⟨⟨g0, g1, g2⟩, ⟨g3, g4, g5, g6⟩, gf⟩ := cells7 HM
        obtain ⟨q0, q1, q2, qf⟩ := cells3 HD
        obtain ⟨⟨y0, y1, y2⟩, ⟨y3, y4⟩, yf⟩ := cells5 HY
        replace HR := Lib.hid (HR.out.up hb32)
        replace HN := Lib.hid (HN.out.up hb32)
        replace HX := Lib.hid (HX.out.up hb32)
        replace HS := Lib.hid ((HS.out.below hb32).more hb32.size)
        replace HI12 := Lib.hid ((HI12.out.below hb32).more hb32.size)
        refine hK.out _ _ ?_ (fun hHeld => ?_)
        · go_keep
        clear hK K
        try simp only [Act.put, pu]
        refine tr 3 rfl (by kernel_rfl) (fun K hK => ?_)
        go_simp
        go_at_call 14
        refine (to_Net _ _ _ n w32 HN.out hs2).mono ?_
        rintro e w33 ⟨z0, z1, z2, rfl, hq, hb33⟩
        obtain ⟨⟨FA4, Fm4, Fc4, rfl⟩, ⟨FA5, Fm5, Fc5, rfl⟩, FA6, Fm6, Fc6, rfl⟩ := hq.slices
        have KN := Lib.hid hq
        clear hq
        have hzhb33 := hb33.size
        clear g0 g1 g2 g3 g4 g5 g6 q0 q1 q2 y0 y1 y2 y3 y4 gf qf yf
        replace HM := bk HM hb33
        replace HD := bk HD hb33
        replace HY := bk HY hb33
        replace hB3 := bl_trans hB3 hb33
        replace hB := bl_trans hB hb33
        obtain ⟨⟨g0, g1, g2⟩, ⟨g3, g4, g5, g6⟩, gf⟩ := cells7 HM
        obtain ⟨q0, q1, q2, qf⟩ := cells3 HD
        obtain ⟨⟨y0, y1, y2⟩, ⟨y3, y4⟩, yf⟩ := cells5 HY
        replace HR := Lib.hid (HR.out.up hb33)
        replace HN := Lib.hid (HN.out.up hb33)
        replace HX := Lib.hid (HX.out.up hb33)
        replace KM := Lib.hid (KM.out.up hb33)
        replace HS := Lib.hid ((HS.out.below hb33).more hb33.size)
        replace HI12 := Lib.hid ((HI12.out.below hb33).more hb33.size)
        refine hK.out _ _ ?_ (fun hHeld => ?_)
        · go_keep
        clear hK K
        try simp only [Act.put, pu]
        refine tr 5 rfl (by kernel_rfl) (fun K hK => ?_)
        go_simp
        go_at_call 15
        refine (to_Asy _ _ _ _ _ x w33 HX.out hs3).mono ?_
        rintro e w34 ⟨z0, z1, z2, z3, z4, rfl, hq, hb34⟩
        obtain ⟨⟨FA10, Fm10, Fc10, rfl⟩, ⟨FA11, Fm11, Fc11, rfl⟩, ⟨FA12, Fm12, Fc12, rfl⟩, ⟨FA8, Fm8, Fc8, rfl⟩, FA9, Fm9, Fc9, rfl⟩ := hq.slices
        have KX := Lib.hid hq
        clear hq
        have hzhb34 := hb34.size
        clear g0 g1 g2 g3 g4 g5 g6 q0 q1 q2 y0 y1 y2 y3 y4 gf qf yf
        replace HM := bk HM hb34
        replace HD := bk HD hb34
        replace HY := bk HY hb34
        replace hB3 := bl_trans hB3 hb34
        replace hB := bl_trans hB hb34
        obtain ⟨⟨g0, g1, g2⟩, ⟨g3, g4, g5, g6⟩, gf⟩ := cells7 HM
        obtain ⟨q0, q1, q2, qf⟩ := cells3 HD
        obtain ⟨⟨y0, y1, y2⟩, ⟨y3, y4⟩, yf⟩ := cells5 HY
        replace HR := Lib.hid (HR.out.up hb34)
        replace HN := Lib.hid (HN.out.up hb34)
        replace HX := Lib.hid (HX.out.up hb34)
        replace KM := Lib.hid (KM.out.up hb34)
        replace KN := Lib.hid (KN.out.up hb34)
        replace HS := Lib.hid ((HS.out.below hb34).more hb34.size)
        replace HI12 := Lib.hid ((HI12.out.below hb34).more hb34.size)
        refine hK.out _ _ ?_ (fun hHeld => ?_)
        · go_keep
        clear hK K
        try simp only [Act.put, pu]
        refine tr 6 rfl (by kernel_rfl) (fun K hK => ?_)
        go_simp
        go_at_call 22
        have hC := impl_StepsReady _ _ _ _ m _ _ _ n _ _ _ _ _ x w34 KM.out KN.out KX.out hes1 hes2
        (try unfold machV at hC)
        rw [HV.out, HXS.out] at hC
        refine hC.mono ?_
        clear hC
        rintro e w35 ⟨u2, rfl, ⟨Av, mv, cv, rfl⟩, ho2, hb35⟩
        clear KM KN KX
        have hzhb35 := hb35.size
        clear g0 g1 g2 g3 g4 g5 g6 q0 q1 q2 y0 y1 y2 y3 y4 gf qf yf
        replace HM := bk HM hb35
        replace HD := bk HD hb35
        replace HY := bk HY hb35
        replace hB3 := bl_trans hB3 hb35
        replace hB := bl_trans hB hb35
        obtain ⟨⟨g0, g1, g2⟩, ⟨g3, g4, g5, g6⟩, gf⟩ := cells7 HM
        obtain ⟨q0, q1, q2, qf⟩ := cells3 HD
        obtain ⟨⟨y0, y1, y2⟩, ⟨y3, y4⟩, yf⟩ := cells5 HY
        replace HR := Lib.hid (HR.out.up hb35)
        replace HN := Lib.hid (HN.out.up hb35)
        replace HX := Lib.hid (HX.out.up hb35)
        replace HS := Lib.hid ((HS.out.below hb35).more hb35.size)
        replace HI12 := Lib.hid ((HI12.out.below hb35).more hb35.size)
        refine hK.out _ _ ?_ (fun hHeld => ?_)
        · go_keep
        clear hK K
        try simp only [Act.put, pu]
        refine tk 7 115 rfl rfl ?_
        try simp only [Act.put, pu]
        refine tk 8 123 rfl rfl ?_
        try simp only [Act.put, pu]
        refine tk 9 124 rfl rfl ?_
        try simp only [Act.put, pu]
        refine tk 10 18 rfl rfl ?_
        try simp only [Act.put, pu]
        refine tk 11 19 rfl rfl ?_
        try simp only [Act.put, pu]
        refine wpAnyH_done (by kernel_rfl) ?_ _
        have HU := Lib.hid (own_intsR ho2 HS0.out.2); clear ho2
        go_wp2_with fail
        refine (eq_IntS _ _ xs w35 HU.out HS.out).mono ?_
        rintro e w36 ⟨rfl, aaw36, hww36⟩
        have hb36 : Below w35.heap.size w35 w36 := by rw [hww36]; exact bl_drewN (Below.refl _ _) _
        clear hww36
        have hzhb36 := hb36.size
        clear g0 g1 g2 g3 g4 g5 g6 q0 q1 q2 y0 y1 y2 y3 y4 gf qf yf
        replace HM := bk HM hb36
        replace HD := bk HD hb36
        replace HY := bk HY hb36
        replace hB3 := bl_trans hB3 hb36
        replace hB := bl_trans hB hb36
        obtain ⟨⟨g0, g1, g2⟩, ⟨g3, g4, g5, g6⟩, gf⟩ := cells7 HM
        obtain ⟨q0, q1, q2, qf⟩ := cells3 HD
        obtain ⟨⟨y0, y1, y2⟩, ⟨y3, y4⟩, yf⟩ := cells5 HY
        replace HR := Lib.hid (HR.out.up hb36)
        replace HN := Lib.hid (HN.out.up hb36)
        replace HX := Lib.hid (HX.out.up hb36)
        replace HS := Lib.hid ((HS.out.below hb36).more hb36.size)
        replace HI12 := Lib.hid ((HI12.out.below hb36).more hb36.size)
        go_wp2_with fail
        refine (held_IntS _ xs.length 1 w36 HI12.out (by omega) (by omega)).mono ?_
        rintro e w37 ⟨rfl, rfl⟩
        go_wp2_with fail
        go_ret
        exact ⟨rfl, by first | exact hB | exact hB.drew⟩
      · have hz : szR left2 (szAsy x) < 0 := by unfold szR; rw [if_neg hs3]; omega
        generalize szR left2 (szAsy x) = left at *
        go_wp2_with fail
        go_ret
        exact ⟨rfl, hB⟩
    · have hz : szR left1 (szNet n) < 0 := by unfold szR; rw [if_neg hs2]; omega
      generalize szR left1 (szNet n) = left at *
      go_wp2_with fail
      go_ret
      exact ⟨rfl, hB⟩
  · have hz : szR 1048576 (szMach m) < 0 := by unfold szR; rw [if_neg hs1]; omega
    generalize szR 1048576 (szMach m) = left at *
    go_wp2_with fail
    go_ret
    exact ⟨rfl, hB⟩
theorem laidOut : laidOutB Tryz.prog = true := by kernel_rfl
theorem own : ownKnob Tryz.prog.godebug = none := by kernel_rfl
set_option maxRecDepth 100000 in
theorem lifted (os : Os) (started : os.Started) (H : Type) (enc : TypeId × Value → H) :
    ReturnsInHanded {} Tryz.checked os 4 .any (Rows.fnExactStepsReadySpec.pre6 enc Tryz.prog Tryz.f4 Rows.fnExactStepsReadyRow.domain false) (Rows.fnExactStepsReadySpec.post enc Tryz.prog Tryz.f4 false true false false) := by
  refine returnsInHanded_of_change (C := Tryz.checked) own started (by kernel_rfl) Tryz.func4
    (ChangeSpec.witness6 (enc := enc) (C := Tryz.checked) false ⟨#[], #[.agg #[.int .i64 0, .int .i64 0, .int .i64 0, .slice none 0 0, .slice none 0 0, .slice none 0 0, .slice none 0 0], .agg #[.slice none 0 0, .slice none 0 0, .slice none 0 0], .agg #[.slice none 0 0, .slice none 0 0, .slice none 0 0, .slice none 0 0, .slice none 0 0]], []⟩ 8 (by kernel_rfl) (by kernel_rfl) (by kernel_rfl) (by kernel_rfl)) ?_
  intro W base args ds gs before hval0 hW hcnd _
  have hval : ∀ (j : Nat) t v, Tryz.f4.params[j]? = some t → args[j]? = some v → Value.okWide Tryz.prog W .any base t v := hval0
  have hW' := hW
  obtain ⟨p, q, hA0, hV, rfl, hfz, hnd⟩ := hW
  have hA : DataW.TrodAll enc Tryz.prog W 0 (fun _ => true) true Tryz.f4.params.toList args.toList ds p := hA0
  rw [Tryz.params4] at hA hval
  obtain ⟨v0, vs0, d0, ds0, p0, q0, hargs, rfl, rfl, h0, r0⟩ := trodAll_cons hA
  obtain ⟨v1, vs1, d1, ds1, p1, q1, rfl, rfl, rfl, h1, r1⟩ := trodAll_cons r0
  obtain ⟨v2, vs2, d2, ds2, p2, q2, rfl, rfl, rfl, h2, r2⟩ := trodAll_cons r1
  obtain ⟨rfl, rfl, rfl⟩ := trodAll_nil r2
  obtain rfl : args = #[v0, v1, v2] := by cases args; simp_all
  obtain ⟨rfl, rfl⟩ := trodVars_none hV
  obtain ⟨cs0, rfl, -⟩ := okWide_struct Tryz.underlying26 (hval 0 26 v0 rfl rfl)
  obtain ⟨fu0, hf0⟩ := h0
  obtain ⟨m, xs0, xs1, xs2, xs3, e0, hm⟩ := mach_of_trod hf0
  obtain rfl : cs0 = #[.int .i64 m.deg, .int .i64 m.st, .int .i64 m.msg, xs0, xs1, xs2, xs3] := by
    have e0' : cs0.toList = [.int .i64 m.deg, .int .i64 m.st, .int .i64 m.msg, xs0, xs1, xs2, xs3] := by simpa [Value.cells] using e0
    cases cs0; simp_all
  obtain ⟨c0, c1, c2, y0, y1, y2, n, rfl, rfl, -, hy0, hy1, hy2⟩ := open_agg3 Tryz.underlying29 (by kernel_rfl) (by kernel_rfl) (hval 1 29 v1 rfl rfl) h1
  obtain ⟨u0, ess, e0, he⟩ := endss_of_trod hy0
  obtain ⟨u1, ids, e1, hi⟩ := ints_of_trod Tryz.underlying24 Tryz.underlying3 (by kernel_rfl) hy1
  obtain ⟨u2, ins, e2, hn⟩ := ints_of_trod Tryz.underlying24 Tryz.underlying3 (by kernel_rfl) hy2
  simp only [List.cons.injEq, and_true] at e0 e1 e2
  subst e0 e1 e2
  obtain ⟨cs2, rfl, -⟩ := okWide_struct Tryz.underlying32 (hval 2 32 v2 rfl rfl)
  obtain ⟨fu2, hf2⟩ := h2
  obtain ⟨x, xr, xb, xn, xs, xf, e2, hx⟩ := asy_of_trod hf2
  obtain rfl : cs2 = #[xr, xb, xn, xs, xf] := by
    have e2' : cs2.toList = [xr, xb, xn, xs, xf] := by simpa [Value.cells] using e2
    cases cs2; simp_all
  refine (law_walk _ _ _ _ m _ _ _ ⟨ess, ids, ins⟩ _ _ _ _ _ x W hm ⟨he, hi, hn⟩ hx).mono fun e W' ⟨he, hg⟩ => ?_
  subst he
  exact ⟨_, rfl, post_law laidOut (by kernel_rfl) rfl (by kernel_rfl) Tryz.underlying4 rfl hW' hg⟩
theorem over : Rows.fnExactStepsReadyRow.holds Tryz.pinned (OpenSpec.ofChange Rows.fnExactStepsReadySpec) :=
  OpenClaim.holds_of_wide 4 Tryz.f4 rfl rfl rfl rfl rfl rfl rfl ⟨rfl, rfl, rfl, rfl, rfl⟩ rfl rfl rfl rfl rfl (by kernel_rfl) Tryz.func4 (by kernel_rfl)
    (of_decide_eq_true (by kernel_rfl)) (by unfold Func.isWrapper; first | (rw [if_pos (by decide +kernel)]; kernel_rfl) | (rw [if_neg (by decide +kernel)]; exact ⟨rfl, rfl⟩))
    (fun os started H enc _ => lifted os started H enc)
theorem proved : Rows.FnExactStepsReadySaid :=
  over
#print axioms proved
end Go.Proofs.YtcpbbjocaimocaaGreat.fnExactStepsReady
