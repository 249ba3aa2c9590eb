/-
  Proved: the law FnExactMayAsync returns true for every machine, network, state and act, and leaves the arguments as they were. No condition. (The frame at the end is after the kit's proof-skeleton.mjs.)
-/
import Derived.Test.YtcpbbjocaimocaaGreatRows
import Derived.Test.YtcpbbjocaimocaaGreatMaySpec
import Derived.Test.YtcpbbjocaimocaaGreatOpenA
import Derived.Test.YtcpbbjocaimocaaGreatOpenNet
import Derived.ProofKit
import Derived.OpenShut
import Derived.ShutString
import Derived.Lib.SmallJoins
namespace Go.Proofs.YtcpbbjocaimocaaGreat.fnExactMayAsync
open Go.ChangeShapes Go.WideShapes Go.ChangeAt Go.RowKit Go.Joins
set_option linter.unusedVariables false
set_option linter.unusedSimpArgs false
set_option maxRecDepth 100000 in
set_option maxHeartbeats 4000000 in
theorem law_walk (vs ve vc vo : Value) (m : Mach) (ne ni nn : Value) (n : Net) (xr xb xn xs xf : Value) (x : Asy) (ak an ap aa : Int) (w : World) (hm : MachR w w.heap.size vs ve vc vo m) (hn : NetR w w.heap.size ne ni nn n) (hx : AsyR w w.heap.size xr xb xn xs xf x) :
    Calls Tryz.prog 3 #[.agg #[.int .i64 m.deg, .int .i64 m.st, .int .i64 m.msg, vs, ve, vc, vo], .agg #[ne, ni, nn], .agg #[xr, xb, xn, xs, xf], .agg #[.int .i64 ak, .int .i64 an, .int .i64 ap, .int .i64 aa]] w fun e w' => e = .returned (.bool true) ∧ Below w.heap.size w w' := by
  obtain ⟨⟨A0, m0, c0, rfl⟩, ⟨A1, m1, c1, rfl⟩, ⟨A2, m2, c2, rfl⟩, A3, m3, c3, rfl⟩ := hm.slices
  obtain ⟨⟨A4, m4, c4, rfl⟩, ⟨A5, m5, c5, rfl⟩, A6, m6, c6, rfl⟩ := hn.slices
  obtain ⟨⟨A10, m10, c10, rfl⟩, ⟨A11, m11, c11, rfl⟩, ⟨A12, m12, c12, rfl⟩, ⟨A8, m8, c8, rfl⟩, A9, m9, c9, rfl⟩ := hx.slices
  obtain ⟨w0, hw0, hb0, HM, hz0, HS0⟩ := box7 w (.int .i64 m.deg) (.int .i64 m.st) (.int .i64 m.msg) (.slice A0 m0 c0) (.slice A1 m1 c1) (.slice A2 m2 c2) (.slice A3 m3 c3) 26
  obtain ⟨w1, hw1, hb1, HD, hz1, HS1⟩ := box3 w0 (.slice A4 m4 c4) (.slice A5 m5 c5) (.slice A6 m6 c6) 29
  replace HM := bk HM hb1
  obtain ⟨w2, hw2, hb2, HY, hz2, HS2⟩ := box5 w1 (.slice A10 m10 c10) (.slice A11 m11 c11) (.slice A12 m12 c12) (.slice A8 m8 c8) (.slice A9 m9 c9) 32
  replace HM := bk HM hb2
  replace HD := bk HD hb2
  obtain ⟨w3, hw3, hb3, HA, hz3, HS3⟩ := box4a w2 (.int .i64 ak) (.int .i64 an) (.int .i64 ap) (.int .i64 aa) 34
  replace HM := bk HM hb3
  replace HD := bk HD hb3
  replace HY := bk HY hb3
  have hB : Below w.heap.size w w3 := bl_trans (bl_trans (bl_trans (hb0) hb1) hb2) hb3
  have HW := Lib.hid (show w3 = (((w.alloc (.cells #[.int .i64 m.deg, .int .i64 m.st, .int .i64 m.msg, .slice A0 m0 c0, .slice A1 m1 c1, .slice A2 m2 c2, .slice A3 m3 c3] 26)).alloc (.cells #[.slice A4 m4 c4, .slice A5 m5 c5, .slice A6 m6 c6] 29)).alloc (.cells #[.slice A10 m10 c10, .slice A11 m11 c11, .slice A12 m12 c12, .slice A8 m8 c8, .slice A9 m9 c9] 32)).alloc (.cells #[.int .i64 ak, .int .i64 an, .int .i64 ap, .int .i64 aa] 34) by rw [hw3, hw2, hw1, hw0])
  obtain ⟨P1, hP1⟩ : ∃ z, z = w0.heap.size := ⟨_, rfl⟩
  have HP1 := Lib.hid (show w.heap.size + 1 = P1 by rw [hP1, HS0.out])
  have hPl1 : w.heap.size < P1 := by rw [← HP1.out]; omega
  rw [← hP1] at HD hz1
  obtain ⟨P2, hP2⟩ : ∃ z, z = w1.heap.size := ⟨_, rfl⟩
  have HP2 := Lib.hid (show w.heap.size + 1 + 1 = P2 by rw [hP2, HS1.out, HS0.out])
  have hPl2 : w.heap.size < P2 := by rw [← HP2.out]; omega
  rw [← hP2] at HY hz2
  obtain ⟨P3, hP3⟩ : ∃ z, z = w2.heap.size := ⟨_, rfl⟩
  have HP3 := Lib.hid (show w.heap.size + 1 + 1 + 1 = P3 by rw [hP3, HS2.out, HS1.out, HS0.out])
  have hPl3 : w.heap.size < P3 := by rw [← HP3.out]; omega
  rw [← hP3] at HA hz3
  obtain ⟨⟨g0, g1, g2⟩, ⟨g3, g4, g5, g6⟩, gf⟩ := cells7 HM
  obtain ⟨q0, q1, q2, qf⟩ := cells3 HD
  obtain ⟨⟨y0, y1, y2⟩, ⟨y3, y4⟩, yf⟩ := cells5 HY
  obtain ⟨⟨u0, u1⟩, ⟨u2, u3⟩, uf⟩ := cells4a HA
  have eg0 := g0
  have eg1 := g1
  have eg2 := g2
  have eg3 := g3
  have eg4 := g4
  have eg5 := g5
  have eg6 := g6
  have eq0 := q0
  have eq1 := q1
  have eq2 := q2
  have ey0 := y0
  have ey1 := y1
  have ey2 := y2
  have ey3 := y3
  have ey4 := y4
  have eu0 := u0
  have eu1 := u1
  have eu2 := u2
  have eu3 := u3
  rw [HW.out] at eg0 eg1 eg2 eg3 eg4 eg5 eg6 eq0 eq1 eq2 ey0 ey1 ey2 ey3 ey4 eu0 eu1 eu2 eu3
  rw [← HP1.out] at eq0 eq1 eq2
  rw [← HP2.out] at ey0 ey1 ey2 ey3 ey4
  rw [← HP3.out] at eu0 eu1 eu2 eu3
  have hzb0 : w.heap.size < w3.heap.size := by omega
  have hzb1 : P1 < w3.heap.size := by omega
  have hzb2 : P2 < w3.heap.size := by omega
  have hzb3 : P3 < w3.heap.size := by omega
  have HR := Lib.hid (hm.up hB)
  have HN := Lib.hid (hn.up hB)
  have HX := Lib.hid (hx.up hB)
  clear hw3 hw2 hw1 hw0 hP1 hP2 hP3
  go_enter Tryz.func3, Tryz.ntmps3
  go_wp2_with fail
  rw [HP3.out, HP2.out, HP1.out, ← HW.out]
  clear eg0 eg1 eg2 eg3 eg4 eg5 eg6 eq0 eq1 eq2 ey0 ey1 ey2 ey3 ey4 eu0 eu1 eu2 eu3
  refine (sz_Mach _ _ _ _ m 1048576 w3 HR.out (by omega) (by omega)).mono ?_
  rintro e w5 ⟨rfl, hb5⟩
  have hzhb5 := hb5.size
  clear g0 g1 g2 g3 g4 g5 g6 q0 q1 q2 y0 y1 y2 y3 y4 u0 u1 u2 u3 gf qf yf uf
  replace HM := bk HM hb5
  replace HD := bk HD hb5
  replace HY := bk HY hb5
  replace HA := bk HA hb5
  replace hB := bl_trans hB hb5
  obtain ⟨⟨g0, g1, g2⟩, ⟨g3, g4, g5, g6⟩, gf⟩ := cells7 HM
  obtain ⟨q0, q1, q2, qf⟩ := cells3 HD
  obtain ⟨⟨y0, y1, y2⟩, ⟨y3, y4⟩, yf⟩ := cells5 HY
  obtain ⟨⟨u0, u1⟩, ⟨u2, u3⟩, uf⟩ := cells4a HA
  replace HR := Lib.hid (HR.out.up hb5)
  replace HN := Lib.hid (HN.out.up hb5)
  replace HX := Lib.hid (HX.out.up hb5)
  by_cases hs1 : (szMach m : Int) ≤ 1048576
  · have hl1 : 0 ≤ szR 1048576 (szMach m) ∧ szR 1048576 (szMach m) ≤ 1048576 := by unfold szR; rw [if_pos hs1]; omega
    obtain ⟨left1, hleft1⟩ : ∃ z, z = szR 1048576 (szMach m) := ⟨_, rfl⟩
    rw [← hleft1] at hl1 ⊢
    clear hleft1
    go_wp2_with fail
    refine (sz_Net _ _ _ n left1 w5 HN.out (by omega) (by omega)).mono ?_
    rintro e w6 ⟨rfl, hb6⟩
    have hzhb6 := hb6.size
    clear g0 g1 g2 g3 g4 g5 g6 q0 q1 q2 y0 y1 y2 y3 y4 u0 u1 u2 u3 gf qf yf uf
    replace HM := bk HM hb6
    replace HD := bk HD hb6
    replace HY := bk HY hb6
    replace HA := bk HA hb6
    replace hB := bl_trans hB hb6
    obtain ⟨⟨g0, g1, g2⟩, ⟨g3, g4, g5, g6⟩, gf⟩ := cells7 HM
    obtain ⟨q0, q1, q2, qf⟩ := cells3 HD
    obtain ⟨⟨y0, y1, y2⟩, ⟨y3, y4⟩, yf⟩ := cells5 HY
    obtain ⟨⟨u0, u1⟩, ⟨u2, u3⟩, uf⟩ := cells4a HA
    replace HR := Lib.hid (HR.out.up hb6)
    replace HN := Lib.hid (HN.out.up hb6)
    replace HX := Lib.hid (HX.out.up hb6)
    by_cases hs2 : (szNet n : Int) ≤ left1
    · have hl2 : 0 ≤ szR left1 (szNet n) ∧ szR left1 (szNet n) ≤ 1048576 := by unfold szR; rw [if_pos hs2]; omega
      obtain ⟨left2, hleft2⟩ : ∃ z, z = szR left1 (szNet n) := ⟨_, rfl⟩
      rw [← hleft2] at hl2 ⊢
      clear hleft2
      go_wp2_with fail
      refine (sz_Asy _ _ _ _ _ x left2 w6 HX.out (by omega) (by omega)).mono ?_
      rintro e w7 ⟨rfl, hb7⟩
      have hzhb7 := hb7.size
      clear g0 g1 g2 g3 g4 g5 g6 q0 q1 q2 y0 y1 y2 y3 y4 u0 u1 u2 u3 gf qf yf uf
      replace HM := bk HM hb7
      replace HD := bk HD hb7
      replace HY := bk HY hb7
      replace HA := bk HA hb7
      replace hB := bl_trans hB hb7
      obtain ⟨⟨g0, g1, g2⟩, ⟨g3, g4, g5, g6⟩, gf⟩ := cells7 HM
      obtain ⟨q0, q1, q2, qf⟩ := cells3 HD
      obtain ⟨⟨y0, y1, y2⟩, ⟨y3, y4⟩, yf⟩ := cells5 HY
      obtain ⟨⟨u0, u1⟩, ⟨u2, u3⟩, uf⟩ := cells4a HA
      replace HR := Lib.hid (HR.out.up hb7)
      replace HN := Lib.hid (HN.out.up hb7)
      replace HX := Lib.hid (HX.out.up hb7)
      by_cases hs3 : (szAsy x : Int) ≤ left2
      · have hl3 : 0 ≤ szR left2 (szAsy x) ∧ szR left2 (szAsy x) ≤ 1048576 := by unfold szR; rw [if_pos hs3]; omega
        obtain ⟨left3, hleft3⟩ : ∃ z, z = szR left2 (szAsy x) := ⟨_, rfl⟩
        rw [← hleft3] at hl3 ⊢
        clear hleft3
        go_wp2_with fail
        replace hs1 : szMach m ≤ 1048576 := by omega
        replace hs2 : szNet n ≤ 1048576 := by omega
        replace hs3 : szAsy x ≤ 1048576 := by omega
        have hes : n.es.length ≤ 2000000 ∧ n.ids.length ≤ 2000000 := by unfold szNet szEnds at hs2; omega
        obtain ⟨hes1, hes2⟩ := hes
        refine wp_region_held_drew (S := fun w' => w'.cell? ⟨w.heap.size, 0, none⟩ = some (.int .i64 m.deg) ∧ w'.cell? ⟨w.heap.size, 1, none⟩ = some (.int .i64 m.st) ∧ w'.cell? ⟨w.heap.size, 2, none⟩ = some (.int .i64 m.msg) ∧ w'.cell? ⟨w.heap.size, 3, none⟩ = some (.slice A0 m0 c0) ∧ w'.cell? ⟨w.heap.size, 4, none⟩ = some (.slice A1 m1 c1) ∧ w'.cell? ⟨w.heap.size, 5, none⟩ = some (.slice A2 m2 c2) ∧ w'.cell? ⟨w.heap.size, 6, none⟩ = some (.slice A3 m3 c3) ∧ w'.cell? ⟨P1, 0, none⟩ = some (.slice A4 m4 c4) ∧ w'.cell? ⟨P1, 1, none⟩ = some (.slice A5 m5 c5) ∧ w'.cell? ⟨P1, 2, none⟩ = some (.slice A6 m6 c6) ∧ w'.cell? ⟨P2, 0, none⟩ = some (.slice A10 m10 c10) ∧ w'.cell? ⟨P2, 1, none⟩ = some (.slice A11 m11 c11) ∧ w'.cell? ⟨P2, 2, none⟩ = some (.slice A12 m12 c12) ∧ w'.cell? ⟨P2, 3, none⟩ = some (.slice A8 m8 c8) ∧ w'.cell? ⟨P2, 4, none⟩ = some (.slice A9 m9 c9) ∧ w'.cell? ⟨P3, 0, none⟩ = some (.int .i64 ak) ∧ w'.cell? ⟨P3, 1, none⟩ = some (.int .i64 an) ∧ w'.cell? ⟨P3, 2, none⟩ = some (.int .i64 ap) ∧ w'.cell? ⟨P3, 3, none⟩ = some (.int .i64 aa)) (by kernel_rfl) ?_ (fun hHeld => ?_)
        · go_keep
        refine tk 0 33 rfl rfl ?_
        try simp only [Act.put, pu]
        refine tk 2 35 rfl rfl ?_
        try simp only [Act.put, pu]
        refine tk 4 37 rfl rfl ?_
        try simp only [Act.put, pu]
        refine tk 6 39 rfl rfl ?_
        try simp only [Act.put, pu]
        refine tr 1 rfl (by kernel_rfl) (fun K hK => ?_)
        go_simp
        go_at_call 13
        refine (to_Mach _ _ _ _ m w7.drew (HR.out.up (Below.refl _ _).drew) hs1).mono ?_
        rintro e w8 ⟨z0, z1, z2, z3, rfl, hq, hb8'⟩
        have hb8 : Below w7.heap.size w7 w8 := (Below.refl _ _).drew.trans hb8'
        clear hb8'
        obtain ⟨⟨BA0, Bm0, Bc0, rfl⟩, ⟨BA1, Bm1, Bc1, rfl⟩, ⟨BA2, Bm2, Bc2, rfl⟩, BA3, Bm3, Bc3, rfl⟩ := hq.slices
        have KM := Lib.hid hq
        clear hq
        have hzhb8 := hb8.size
        clear g0 g1 g2 g3 g4 g5 g6 q0 q1 q2 y0 y1 y2 y3 y4 u0 u1 u2 u3 gf qf yf uf
        replace HM := bk HM hb8
        replace HD := bk HD hb8
        replace HY := bk HY hb8
        replace HA := bk HA hb8
        replace hB := bl_trans hB hb8
        obtain ⟨⟨g0, g1, g2⟩, ⟨g3, g4, g5, g6⟩, gf⟩ := cells7 HM
        obtain ⟨q0, q1, q2, qf⟩ := cells3 HD
        obtain ⟨⟨y0, y1, y2⟩, ⟨y3, y4⟩, yf⟩ := cells5 HY
        obtain ⟨⟨u0, u1⟩, ⟨u2, u3⟩, uf⟩ := cells4a HA
        replace HR := Lib.hid (HR.out.up hb8)
        replace HN := Lib.hid (HN.out.up hb8)
        replace HX := Lib.hid (HX.out.up hb8)
        refine hK.out _ _ ?_ (fun hHeld => ?_)
        · go_keep
        clear hK K
        try simp only [Act.put, pu]
        refine tr 3 rfl (by kernel_rfl) (fun K hK => ?_)
        go_simp
        go_at_call 14
        refine (to_Net _ _ _ n w8 HN.out hs2).mono ?_
        rintro e w9 ⟨z0, z1, z2, rfl, hq, hb9⟩
        obtain ⟨⟨BA4, Bm4, Bc4, rfl⟩, ⟨BA5, Bm5, Bc5, rfl⟩, BA6, Bm6, Bc6, rfl⟩ := hq.slices
        have KN := Lib.hid hq
        clear hq
        have hzhb9 := hb9.size
        clear g0 g1 g2 g3 g4 g5 g6 q0 q1 q2 y0 y1 y2 y3 y4 u0 u1 u2 u3 gf qf yf uf
        replace HM := bk HM hb9
        replace HD := bk HD hb9
        replace HY := bk HY hb9
        replace HA := bk HA hb9
        replace hB := bl_trans hB hb9
        obtain ⟨⟨g0, g1, g2⟩, ⟨g3, g4, g5, g6⟩, gf⟩ := cells7 HM
        obtain ⟨q0, q1, q2, qf⟩ := cells3 HD
        obtain ⟨⟨y0, y1, y2⟩, ⟨y3, y4⟩, yf⟩ := cells5 HY
        obtain ⟨⟨u0, u1⟩, ⟨u2, u3⟩, uf⟩ := cells4a HA
        replace HR := Lib.hid (HR.out.up hb9)
        replace HN := Lib.hid (HN.out.up hb9)
        replace HX := Lib.hid (HX.out.up hb9)
        replace KM := Lib.hid (KM.out.up hb9)
        refine hK.out _ _ ?_ (fun hHeld => ?_)
        · go_keep
        clear hK K
        try simp only [Act.put, pu]
        refine tr 5 rfl (by kernel_rfl) (fun K hK => ?_)
        go_simp
        go_at_call 15
        refine (to_Asy _ _ _ _ _ x w9 HX.out hs3).mono ?_
        rintro e w10 ⟨z0, z1, z2, z3, z4, rfl, hq, hb10⟩
        obtain ⟨⟨BA10, Bm10, Bc10, rfl⟩, ⟨BA11, Bm11, Bc11, rfl⟩, ⟨BA12, Bm12, Bc12, rfl⟩, ⟨BA8, Bm8, Bc8, rfl⟩, BA9, Bm9, Bc9, rfl⟩ := hq.slices
        have KX := Lib.hid hq
        clear hq
        have hzhb10 := hb10.size
        clear g0 g1 g2 g3 g4 g5 g6 q0 q1 q2 y0 y1 y2 y3 y4 u0 u1 u2 u3 gf qf yf uf
        replace HM := bk HM hb10
        replace HD := bk HD hb10
        replace HY := bk HY hb10
        replace HA := bk HA hb10
        replace hB := bl_trans hB hb10
        obtain ⟨⟨g0, g1, g2⟩, ⟨g3, g4, g5, g6⟩, gf⟩ := cells7 HM
        obtain ⟨q0, q1, q2, qf⟩ := cells3 HD
        obtain ⟨⟨y0, y1, y2⟩, ⟨y3, y4⟩, yf⟩ := cells5 HY
        obtain ⟨⟨u0, u1⟩, ⟨u2, u3⟩, uf⟩ := cells4a HA
        replace HR := Lib.hid (HR.out.up hb10)
        replace HN := Lib.hid (HN.out.up hb10)
        replace HX := Lib.hid (HX.out.up hb10)
        replace KM := Lib.hid (KM.out.up hb10)
        replace KN := Lib.hid (KN.out.up hb10)
        refine hK.out _ _ ?_ (fun hHeld => ?_)
        · go_keep
        clear hK K
        try simp only [Act.put, pu]
        refine tr 7 rfl (by kernel_rfl) (fun K hK => ?_)
        go_simp
        go_at_call 16
        refine (to_Act ak an ap aa w10).mono ?_
        rintro e w11 ⟨rfl, hb11⟩
        have hzhb11 := hb11.size
        clear g0 g1 g2 g3 g4 g5 g6 q0 q1 q2 y0 y1 y2 y3 y4 u0 u1 u2 u3 gf qf yf uf
        replace HM := bk HM hb11
        replace HD := bk HD hb11
        replace HY := bk HY hb11
        replace HA := bk HA hb11
        replace hB := bl_trans hB hb11
        obtain ⟨⟨g0, g1, g2⟩, ⟨g3, g4, g5, g6⟩, gf⟩ := cells7 HM
        obtain ⟨q0, q1, q2, qf⟩ := cells3 HD
        obtain ⟨⟨y0, y1, y2⟩, ⟨y3, y4⟩, yf⟩ := cells5 HY
        obtain ⟨⟨u0, u1⟩, ⟨u2, u3⟩, uf⟩ := cells4a HA
        replace HR := Lib.hid (HR.out.up hb11)
        replace HN := Lib.hid (HN.out.up hb11)
        replace HX := Lib.hid (HX.out.up hb11)
        replace KM := Lib.hid (KM.out.up hb11)
        replace KN := Lib.hid (KN.out.up hb11)
        replace KX := Lib.hid (KX.out.up hb11)
        refine hK.out _ _ ?_ (fun hHeld => ?_)
        · go_keep
        clear hK K
        try simp only [Act.put, pu]
        refine tr 8 rfl (by kernel_rfl) (fun K hK => ?_)
        go_simp
        go_at_call 12
        have hC := spec_MayAsync _ _ _ _ m _ _ _ n _ _ _ _ _ x ak an ap aa w11 KM.out KN.out KX.out hes1
        (try unfold machV at hC)
        refine hC.mono ?_
        clear hC
        rintro e w12 ⟨rfl, hb12⟩
        clear KM KN KX
        have hzhb12 := hb12.size
        clear g0 g1 g2 g3 g4 g5 g6 q0 q1 q2 y0 y1 y2 y3 y4 u0 u1 u2 u3 gf qf yf uf
        replace HM := bk HM hb12
        replace HD := bk HD hb12
        replace HY := bk HY hb12
        replace HA := bk HA hb12
        replace hB := bl_trans hB hb12
        obtain ⟨⟨g0, g1, g2⟩, ⟨g3, g4, g5, g6⟩, gf⟩ := cells7 HM
        obtain ⟨q0, q1, q2, qf⟩ := cells3 HD
        obtain ⟨⟨y0, y1, y2⟩, ⟨y3, y4⟩, yf⟩ := cells5 HY
        obtain ⟨⟨u0, u1⟩, ⟨u2, u3⟩, uf⟩ := cells4a HA
        replace HR := Lib.hid (HR.out.up hb12)
        replace HN := Lib.hid (HN.out.up hb12)
        replace HX := Lib.hid (HX.out.up hb12)
        refine hK.out _ _ ?_ (fun hHeld => ?_)
        · go_keep
        clear hK K
        try simp only [Act.put, pu]
        refine tk 9 32 rfl rfl ?_
        try simp only [Act.put, pu]
        refine tk 10 42 rfl rfl ?_
        try simp only [Act.put, pu]
        refine tk 11 43 rfl rfl ?_
        try simp only [Act.put, pu]
        refine tk 12 10 rfl rfl ?_
        try simp only [Act.put, pu]
        refine tk 13 11 rfl rfl ?_
        try simp only [Act.put, pu]
        refine wpAnyH_done (by kernel_rfl) ?_ _
        go_wp2_with fail
        refine (to_Mach _ _ _ _ m w12 HR.out hs1).mono ?_
        rintro e w13 ⟨z0, z1, z2, z3, rfl, hq, hb13⟩
        obtain ⟨⟨CA0, Cm0, Cc0, rfl⟩, ⟨CA1, Cm1, Cc1, rfl⟩, ⟨CA2, Cm2, Cc2, rfl⟩, CA3, Cm3, Cc3, rfl⟩ := hq.slices
        have JM := Lib.hid hq
        clear hq
        have hzhb13 := hb13.size
        clear g0 g1 g2 g3 g4 g5 g6 q0 q1 q2 y0 y1 y2 y3 y4 u0 u1 u2 u3 gf qf yf uf
        replace HM := bk HM hb13
        replace HD := bk HD hb13
        replace HY := bk HY hb13
        replace HA := bk HA hb13
        replace hB := bl_trans hB hb13
        obtain ⟨⟨g0, g1, g2⟩, ⟨g3, g4, g5, g6⟩, gf⟩ := cells7 HM
        obtain ⟨q0, q1, q2, qf⟩ := cells3 HD
        obtain ⟨⟨y0, y1, y2⟩, ⟨y3, y4⟩, yf⟩ := cells5 HY
        obtain ⟨⟨u0, u1⟩, ⟨u2, u3⟩, uf⟩ := cells4a HA
        replace HR := Lib.hid (HR.out.up hb13)
        replace HN := Lib.hid (HN.out.up hb13)
        replace HX := Lib.hid (HX.out.up hb13)
        obtain ⟨w14, hw14, hb14, IM, hzz14, HSS14⟩ := box7 w13 (.int .i64 m.deg) (.int .i64 m.st) (.int .i64 m.msg) (.slice CA0 Cm0 Cc0) (.slice CA1 Cm1 Cc1) (.slice CA2 Cm2 Cc2) (.slice CA3 Cm3 Cc3) 42
        obtain ⟨P5, hP5⟩ : ∃ z, z = w13.heap.size := ⟨_, rfl⟩
        have HP5 := Lib.hid hP5
        rw [← hP5] at IM hzz14
        have hP5l : w13.heap.size ≤ P5 := by rw [hP5]; exact Nat.le_refl _
        have hzhb14 := hb14.size
        clear g0 g1 g2 g3 g4 g5 g6 q0 q1 q2 y0 y1 y2 y3 y4 u0 u1 u2 u3 gf qf yf uf
        replace HM := bk HM hb14
        replace HD := bk HD hb14
        replace HY := bk HY hb14
        replace HA := bk HA hb14
        replace hB := bl_trans hB hb14
        obtain ⟨⟨g0, g1, g2⟩, ⟨g3, g4, g5, g6⟩, gf⟩ := cells7 HM
        obtain ⟨q0, q1, q2, qf⟩ := cells3 HD
        obtain ⟨⟨y0, y1, y2⟩, ⟨y3, y4⟩, yf⟩ := cells5 HY
        obtain ⟨⟨u0, u1⟩, ⟨u2, u3⟩, uf⟩ := cells4a HA
        replace HR := Lib.hid (HR.out.up hb14)
        replace HN := Lib.hid (HN.out.up hb14)
        replace HX := Lib.hid (HX.out.up hb14)
        replace JM := Lib.hid (JM.out.up hb14)
        have eg0 := g0
        have eg1 := g1
        have eg2 := g2
        have eg3 := g3
        have eg4 := g4
        have eg5 := g5
        have eg6 := g6
        have eq0 := q0
        have eq1 := q1
        have eq2 := q2
        have ey0 := y0
        have ey1 := y1
        have ey2 := y2
        have ey3 := y3
        have ey4 := y4
        have eu0 := u0
        have eu1 := u1
        have eu2 := u2
        have eu3 := u3
        rw [hw14] at eg0 eg1 eg2 eg3 eg4 eg5 eg6 eq0 eq1 eq2 ey0 ey1 ey2 ey3 ey4 eu0 eu1 eu2 eu3
        have HWw14 := Lib.hid hw14
        clear hw14 hP5
        go_wp2_with fail
        rw [← HWw14.out, ← HP5.out]
        clear eg0 eg1 eg2 eg3 eg4 eg5 eg6 eq0 eq1 eq2 ey0 ey1 ey2 ey3 ey4 eu0 eu1 eu2 eu3
        obtain ⟨⟨a0, a1, a2⟩, ⟨a3, a4, a5, a6⟩, af⟩ := cells7 IM
        refine (to_Net _ _ _ n w14 HN.out hs2).mono ?_
        rintro e w15 ⟨z0, z1, z2, rfl, hq, hb15⟩
        obtain ⟨⟨CA4, Cm4, Cc4, rfl⟩, ⟨CA5, Cm5, Cc5, rfl⟩, CA6, Cm6, Cc6, rfl⟩ := hq.slices
        have JN := Lib.hid hq
        clear hq
        have hzhb15 := hb15.size
        clear g0 g1 g2 g3 g4 g5 g6 q0 q1 q2 y0 y1 y2 y3 y4 u0 u1 u2 u3 a0 a1 a2 a3 a4 a5 a6 gf qf yf uf af
        replace HM := bk HM hb15
        replace HD := bk HD hb15
        replace HY := bk HY hb15
        replace HA := bk HA hb15
        replace IM := bk IM hb15
        replace hB := bl_trans hB hb15
        obtain ⟨⟨g0, g1, g2⟩, ⟨g3, g4, g5, g6⟩, gf⟩ := cells7 HM
        obtain ⟨q0, q1, q2, qf⟩ := cells3 HD
        obtain ⟨⟨y0, y1, y2⟩, ⟨y3, y4⟩, yf⟩ := cells5 HY
        obtain ⟨⟨u0, u1⟩, ⟨u2, u3⟩, uf⟩ := cells4a HA
        obtain ⟨⟨a0, a1, a2⟩, ⟨a3, a4, a5, a6⟩, af⟩ := cells7 IM
        replace HR := Lib.hid (HR.out.up hb15)
        replace HN := Lib.hid (HN.out.up hb15)
        replace HX := Lib.hid (HX.out.up hb15)
        replace JM := Lib.hid (JM.out.up hb15)
        obtain ⟨w16, hw16, hb16, IN, hzz16, HSS16⟩ := box3 w15 (.slice CA4 Cm4 Cc4) (.slice CA5 Cm5 Cc5) (.slice CA6 Cm6 Cc6) 46
        obtain ⟨P6, hP6⟩ : ∃ z, z = w15.heap.size := ⟨_, rfl⟩
        have HP6 := Lib.hid hP6
        rw [← hP6] at IN hzz16
        have hP6l : w15.heap.size ≤ P6 := by rw [hP6]; exact Nat.le_refl _
        have hzhb16 := hb16.size
        clear g0 g1 g2 g3 g4 g5 g6 q0 q1 q2 y0 y1 y2 y3 y4 u0 u1 u2 u3 a0 a1 a2 a3 a4 a5 a6 gf qf yf uf af
        replace HM := bk HM hb16
        replace HD := bk HD hb16
        replace HY := bk HY hb16
        replace HA := bk HA hb16
        replace IM := bk IM hb16
        replace hB := bl_trans hB hb16
        obtain ⟨⟨g0, g1, g2⟩, ⟨g3, g4, g5, g6⟩, gf⟩ := cells7 HM
        obtain ⟨q0, q1, q2, qf⟩ := cells3 HD
        obtain ⟨⟨y0, y1, y2⟩, ⟨y3, y4⟩, yf⟩ := cells5 HY
        obtain ⟨⟨u0, u1⟩, ⟨u2, u3⟩, uf⟩ := cells4a HA
        obtain ⟨⟨a0, a1, a2⟩, ⟨a3, a4, a5, a6⟩, af⟩ := cells7 IM
        replace HR := Lib.hid (HR.out.up hb16)
        replace HN := Lib.hid (HN.out.up hb16)
        replace HX := Lib.hid (HX.out.up hb16)
        replace JM := Lib.hid (JM.out.up hb16)
        replace JN := Lib.hid (JN.out.up hb16)
        have eg0 := g0
        have eg1 := g1
        have eg2 := g2
        have eg3 := g3
        have eg4 := g4
        have eg5 := g5
        have eg6 := g6
        have eq0 := q0
        have eq1 := q1
        have eq2 := q2
        have ey0 := y0
        have ey1 := y1
        have ey2 := y2
        have ey3 := y3
        have ey4 := y4
        have eu0 := u0
        have eu1 := u1
        have eu2 := u2
        have eu3 := u3
        have ea0 := a0
        have ea1 := a1
        have ea2 := a2
        have ea3 := a3
        have ea4 := a4
        have ea5 := a5
        have ea6 := a6
        rw [hw16] at eg0 eg1 eg2 eg3 eg4 eg5 eg6 eq0 eq1 eq2 ey0 ey1 ey2 ey3 ey4 eu0 eu1 eu2 eu3 ea0 ea1 ea2 ea3 ea4 ea5 ea6
        have HWw16 := Lib.hid hw16
        clear hw16 hP6
        go_wp2_with fail
        rw [← HWw16.out, ← HP6.out]
        clear eg0 eg1 eg2 eg3 eg4 eg5 eg6 eq0 eq1 eq2 ey0 ey1 ey2 ey3 ey4 eu0 eu1 eu2 eu3 ea0 ea1 ea2 ea3 ea4 ea5 ea6
        obtain ⟨b0, b1, b2, bf⟩ := cells3 IN
        refine (to_Asy _ _ _ _ _ x w16 HX.out hs3).mono ?_
        rintro e w17 ⟨z0, z1, z2, z3, z4, rfl, hq, hb17⟩
        obtain ⟨⟨CA10, Cm10, Cc10, rfl⟩, ⟨CA11, Cm11, Cc11, rfl⟩, ⟨CA12, Cm12, Cc12, rfl⟩, ⟨CA8, Cm8, Cc8, rfl⟩, CA9, Cm9, Cc9, rfl⟩ := hq.slices
        have JX := Lib.hid hq
        clear hq
        have hzhb17 := hb17.size
        clear g0 g1 g2 g3 g4 g5 g6 q0 q1 q2 y0 y1 y2 y3 y4 u0 u1 u2 u3 a0 a1 a2 a3 a4 a5 a6 b0 b1 b2 gf qf yf uf af bf
        replace HM := bk HM hb17
        replace HD := bk HD hb17
        replace HY := bk HY hb17
        replace HA := bk HA hb17
        replace IM := bk IM hb17
        replace IN := bk IN hb17
        replace hB := bl_trans hB hb17
        obtain ⟨⟨g0, g1, g2⟩, ⟨g3, g4, g5, g6⟩, gf⟩ := cells7 HM
        obtain ⟨q0, q1, q2, qf⟩ := cells3 HD
        obtain ⟨⟨y0, y1, y2⟩, ⟨y3, y4⟩, yf⟩ := cells5 HY
        obtain ⟨⟨u0, u1⟩, ⟨u2, u3⟩, uf⟩ := cells4a HA
        obtain ⟨⟨a0, a1, a2⟩, ⟨a3, a4, a5, a6⟩, af⟩ := cells7 IM
        obtain ⟨b0, b1, b2, bf⟩ := cells3 IN
        replace HR := Lib.hid (HR.out.up hb17)
        replace HN := Lib.hid (HN.out.up hb17)
        replace HX := Lib.hid (HX.out.up hb17)
        replace JM := Lib.hid (JM.out.up hb17)
        replace JN := Lib.hid (JN.out.up hb17)
        obtain ⟨w18, hw18, hb18, IX, hzz18, HSS18⟩ := box5 w17 (.slice CA10 Cm10 Cc10) (.slice CA11 Cm11 Cc11) (.slice CA12 Cm12 Cc12) (.slice CA8 Cm8 Cc8) (.slice CA9 Cm9 Cc9) 50
        obtain ⟨P7, hP7⟩ : ∃ z, z = w17.heap.size := ⟨_, rfl⟩
        have HP7 := Lib.hid hP7
        rw [← hP7] at IX hzz18
        have hP7l : w17.heap.size ≤ P7 := by rw [hP7]; exact Nat.le_refl _
        have hzhb18 := hb18.size
        clear g0 g1 g2 g3 g4 g5 g6 q0 q1 q2 y0 y1 y2 y3 y4 u0 u1 u2 u3 a0 a1 a2 a3 a4 a5 a6 b0 b1 b2 gf qf yf uf af bf
        replace HM := bk HM hb18
        replace HD := bk HD hb18
        replace HY := bk HY hb18
        replace HA := bk HA hb18
        replace IM := bk IM hb18
        replace IN := bk IN hb18
        replace hB := bl_trans hB hb18
        obtain ⟨⟨g0, g1, g2⟩, ⟨g3, g4, g5, g6⟩, gf⟩ := cells7 HM
        obtain ⟨q0, q1, q2, qf⟩ := cells3 HD
        obtain ⟨⟨y0, y1, y2⟩, ⟨y3, y4⟩, yf⟩ := cells5 HY
        obtain ⟨⟨u0, u1⟩, ⟨u2, u3⟩, uf⟩ := cells4a HA
        obtain ⟨⟨a0, a1, a2⟩, ⟨a3, a4, a5, a6⟩, af⟩ := cells7 IM
        obtain ⟨b0, b1, b2, bf⟩ := cells3 IN
        replace HR := Lib.hid (HR.out.up hb18)
        replace HN := Lib.hid (HN.out.up hb18)
        replace HX := Lib.hid (HX.out.up hb18)
        replace JM := Lib.hid (JM.out.up hb18)
        replace JN := Lib.hid (JN.out.up hb18)
        replace JX := Lib.hid (JX.out.up hb18)
        have eg0 := g0
        have eg1 := g1
        have eg2 := g2
        have eg3 := g3
        have eg4 := g4
        have eg5 := g5
        have eg6 := g6
        have eq0 := q0
        have eq1 := q1
        have eq2 := q2
        have ey0 := y0
        have ey1 := y1
        have ey2 := y2
        have ey3 := y3
        have ey4 := y4
        have eu0 := u0
        have eu1 := u1
        have eu2 := u2
        have eu3 := u3
        have ea0 := a0
        have ea1 := a1
        have ea2 := a2
        have ea3 := a3
        have ea4 := a4
        have ea5 := a5
        have ea6 := a6
        have eb0 := b0
        have eb1 := b1
        have eb2 := b2
        rw [hw18] at eg0 eg1 eg2 eg3 eg4 eg5 eg6 eq0 eq1 eq2 ey0 ey1 ey2 ey3 ey4 eu0 eu1 eu2 eu3 ea0 ea1 ea2 ea3 ea4 ea5 ea6 eb0 eb1 eb2
        have HWw18 := Lib.hid hw18
        clear hw18 hP7
        go_wp2_with fail
        rw [← HWw18.out, ← HP7.out]
        clear eg0 eg1 eg2 eg3 eg4 eg5 eg6 eq0 eq1 eq2 ey0 ey1 ey2 ey3 ey4 eu0 eu1 eu2 eu3 ea0 ea1 ea2 ea3 ea4 ea5 ea6 eb0 eb1 eb2
        obtain ⟨⟨d0, d1, d2⟩, ⟨d3, d4⟩, df⟩ := cells5 IX
        refine wp_region_held_drew (S := fun w' => w'.cell? ⟨P3, 0, none⟩ = some (.int .i64 ak) ∧ w'.cell? ⟨P3, 1, none⟩ = some (.int .i64 an) ∧ w'.cell? ⟨P3, 2, none⟩ = some (.int .i64 ap) ∧ w'.cell? ⟨P3, 3, none⟩ = some (.int .i64 aa) ∧ w'.cell? ⟨P5, 0, none⟩ = some (.int .i64 m.deg) ∧ w'.cell? ⟨P5, 1, none⟩ = some (.int .i64 m.st) ∧ w'.cell? ⟨P5, 2, none⟩ = some (.int .i64 m.msg) ∧ w'.cell? ⟨P5, 3, none⟩ = some (.slice CA0 Cm0 Cc0) ∧ w'.cell? ⟨P5, 4, none⟩ = some (.slice CA1 Cm1 Cc1) ∧ w'.cell? ⟨P5, 5, none⟩ = some (.slice CA2 Cm2 Cc2) ∧ w'.cell? ⟨P5, 6, none⟩ = some (.slice CA3 Cm3 Cc3) ∧ w'.cell? ⟨P6, 0, none⟩ = some (.slice CA4 Cm4 Cc4) ∧ w'.cell? ⟨P6, 1, none⟩ = some (.slice CA5 Cm5 Cc5) ∧ w'.cell? ⟨P6, 2, none⟩ = some (.slice CA6 Cm6 Cc6) ∧ w'.cell? ⟨P7, 0, none⟩ = some (.slice CA10 Cm10 Cc10) ∧ w'.cell? ⟨P7, 1, none⟩ = some (.slice CA11 Cm11 Cc11) ∧ w'.cell? ⟨P7, 2, none⟩ = some (.slice CA12 Cm12 Cc12) ∧ w'.cell? ⟨P7, 3, none⟩ = some (.slice CA8 Cm8 Cc8) ∧ w'.cell? ⟨P7, 4, none⟩ = some (.slice CA9 Cm9 Cc9)) (by kernel_rfl) ?_ (fun hHeld => ?_)
        · go_keep
        refine tk 0 51 rfl rfl ?_
        try simp only [Act.put, pu]
        refine tk 1 52 rfl rfl ?_
        try simp only [Act.put, pu]
        refine tk 2 53 rfl rfl ?_
        try simp only [Act.put, pu]
        refine tk 3 54 rfl rfl ?_
        try simp only [Act.put, pu]
        refine tr 4 rfl (by kernel_rfl) (fun K hK => ?_)
        go_simp
        go_at_call 16
        refine (to_Act ak an ap aa w18.drew).mono ?_
        rintro e w19 ⟨rfl, hb19'⟩
        have hb19 : Below w18.heap.size w18 w19 := (Below.refl _ _).drew.trans hb19'
        clear hb19'
        have hzhb19 := hb19.size
        clear g0 g1 g2 g3 g4 g5 g6 q0 q1 q2 y0 y1 y2 y3 y4 u0 u1 u2 u3 a0 a1 a2 a3 a4 a5 a6 b0 b1 b2 d0 d1 d2 d3 d4 gf qf yf uf af bf df
        replace HM := bk HM hb19
        replace HD := bk HD hb19
        replace HY := bk HY hb19
        replace HA := bk HA hb19
        replace IM := bk IM hb19
        replace IN := bk IN hb19
        replace IX := bk IX hb19
        replace hB := bl_trans hB hb19
        obtain ⟨⟨g0, g1, g2⟩, ⟨g3, g4, g5, g6⟩, gf⟩ := cells7 HM
        obtain ⟨q0, q1, q2, qf⟩ := cells3 HD
        obtain ⟨⟨y0, y1, y2⟩, ⟨y3, y4⟩, yf⟩ := cells5 HY
        obtain ⟨⟨u0, u1⟩, ⟨u2, u3⟩, uf⟩ := cells4a HA
        obtain ⟨⟨a0, a1, a2⟩, ⟨a3, a4, a5, a6⟩, af⟩ := cells7 IM
        obtain ⟨b0, b1, b2, bf⟩ := cells3 IN
        obtain ⟨⟨d0, d1, d2⟩, ⟨d3, d4⟩, df⟩ := cells5 IX
        replace HR := Lib.hid (HR.out.up hb19)
        replace HN := Lib.hid (HN.out.up hb19)
        replace HX := Lib.hid (HX.out.up hb19)
        replace JM := Lib.hid (JM.out.up hb19)
        replace JN := Lib.hid (JN.out.up hb19)
        replace JX := Lib.hid (JX.out.up hb19)
        refine hK.out _ _ ?_ (fun hHeld => ?_)
        · go_keep
        clear hK K
        try simp only [Act.put, pu]
        refine tr 5 rfl (by kernel_rfl) (fun K hK => ?_)
        go_simp
        go_at_call 17
        have hC := impl_MayAsync _ _ _ _ m _ _ _ n _ _ _ _ _ x ak an ap aa w19 JM.out JN.out JX.out hes1 hes2
        (try unfold machV at hC)
        refine hC.mono ?_
        clear hC
        rintro e w20 ⟨rfl, hb20⟩
        have hzhb20 := hb20.size
        clear g0 g1 g2 g3 g4 g5 g6 q0 q1 q2 y0 y1 y2 y3 y4 u0 u1 u2 u3 a0 a1 a2 a3 a4 a5 a6 b0 b1 b2 d0 d1 d2 d3 d4 gf qf yf uf af bf df
        replace HM := bk HM hb20
        replace HD := bk HD hb20
        replace HY := bk HY hb20
        replace HA := bk HA hb20
        replace IM := bk IM hb20
        replace IN := bk IN hb20
        replace IX := bk IX hb20
        replace hB := bl_trans hB hb20
        obtain ⟨⟨g0, g1, g2⟩, ⟨g3, g4, g5, g6⟩, gf⟩ := cells7 HM
        obtain ⟨q0, q1, q2, qf⟩ := cells3 HD
        obtain ⟨⟨y0, y1, y2⟩, ⟨y3, y4⟩, yf⟩ := cells5 HY
        obtain ⟨⟨u0, u1⟩, ⟨u2, u3⟩, uf⟩ := cells4a HA
        obtain ⟨⟨a0, a1, a2⟩, ⟨a3, a4, a5, a6⟩, af⟩ := cells7 IM
        obtain ⟨b0, b1, b2, bf⟩ := cells3 IN
        obtain ⟨⟨d0, d1, d2⟩, ⟨d3, d4⟩, df⟩ := cells5 IX
        replace HR := Lib.hid (HR.out.up hb20)
        replace HN := Lib.hid (HN.out.up hb20)
        replace HX := Lib.hid (HX.out.up hb20)
        replace JM := Lib.hid (JM.out.up hb20)
        replace JN := Lib.hid (JN.out.up hb20)
        replace JX := Lib.hid (JX.out.up hb20)
        refine hK.out _ _ ?_ (fun hHeld => ?_)
        · go_keep
        clear hK K
        try simp only [Act.put, pu]
        refine tk 6 50 rfl rfl ?_
        try simp only [Act.put, pu]
        refine tk 7 57 rfl rfl ?_
        try simp only [Act.put, pu]
        refine tk 8 58 rfl rfl ?_
        try simp only [Act.put, pu]
        refine tk 9 15 rfl rfl ?_
        try simp only [Act.put, pu]
        refine tk 10 16 rfl rfl ?_
        try simp only [Act.put, pu]
        refine wpAnyH_done (by kernel_rfl) ?_ _
        generalize mxB m n x ⟨ak, an, ap, aa⟩ = V0 at *
        generalize goodB m n x = V1 at *
        go_wp2_with fail
        refine wp_region_held_drew (S := fun w' => w'.cell? ⟨w.heap.size, 0, none⟩ = some (.int .i64 m.deg) ∧ w'.cell? ⟨w.heap.size, 1, none⟩ = some (.int .i64 m.st) ∧ w'.cell? ⟨w.heap.size, 2, none⟩ = some (.int .i64 m.msg) ∧ w'.cell? ⟨w.heap.size, 3, none⟩ = some (.slice A0 m0 c0) ∧ w'.cell? ⟨w.heap.size, 4, none⟩ = some (.slice A1 m1 c1) ∧ w'.cell? ⟨w.heap.size, 5, none⟩ = some (.slice A2 m2 c2) ∧ w'.cell? ⟨w.heap.size, 6, none⟩ = some (.slice A3 m3 c3) ∧ w'.cell? ⟨P5, 0, none⟩ = some (.int .i64 m.deg) ∧ w'.cell? ⟨P5, 1, none⟩ = some (.int .i64 m.st) ∧ w'.cell? ⟨P5, 2, none⟩ = some (.int .i64 m.msg) ∧ w'.cell? ⟨P5, 3, none⟩ = some (.slice CA0 Cm0 Cc0) ∧ w'.cell? ⟨P5, 4, none⟩ = some (.slice CA1 Cm1 Cc1) ∧ w'.cell? ⟨P5, 5, none⟩ = some (.slice CA2 Cm2 Cc2) ∧ w'.cell? ⟨P5, 6, none⟩ = some (.slice CA3 Cm3 Cc3)) (by kernel_rfl) ?_ (fun hHeld => ?_)
        · go_keep
        refine tk 0 67 rfl rfl ?_
        try simp only [Act.put, pu]
        refine tk 1 68 rfl rfl ?_
        try simp only [Act.put, pu]
        refine tr 2 rfl (by kernel_rfl) (fun K hK => ?_)
        go_simp
        go_at_call 13
        refine (to_Mach _ _ _ _ m w20.drew (HR.out.up (Below.refl _ _).drew) hs1).mono ?_
        rintro e w21 ⟨z0, z1, z2, z3, rfl, hq, hb21'⟩
        have hb21 : Below w20.heap.size w20 w21 := (Below.refl _ _).drew.trans hb21'
        clear hb21'
        obtain ⟨⟨EA0, Em0, Ec0, rfl⟩, ⟨EA1, Em1, Ec1, rfl⟩, ⟨EA2, Em2, Ec2, rfl⟩, EA3, Em3, Ec3, rfl⟩ := hq.slices
        have JJ := Lib.hid hq
        clear hq
        have hzhb21 := hb21.size
        clear g0 g1 g2 g3 g4 g5 g6 q0 q1 q2 y0 y1 y2 y3 y4 u0 u1 u2 u3 a0 a1 a2 a3 a4 a5 a6 b0 b1 b2 d0 d1 d2 d3 d4 gf qf yf uf af bf df
        replace HM := bk HM hb21
        replace HD := bk HD hb21
        replace HY := bk HY hb21
        replace HA := bk HA hb21
        replace IM := bk IM hb21
        replace IN := bk IN hb21
        replace IX := bk IX hb21
        replace hB := bl_trans hB hb21
        obtain ⟨⟨g0, g1, g2⟩, ⟨g3, g4, g5, g6⟩, gf⟩ := cells7 HM
        obtain ⟨q0, q1, q2, qf⟩ := cells3 HD
        obtain ⟨⟨y0, y1, y2⟩, ⟨y3, y4⟩, yf⟩ := cells5 HY
        obtain ⟨⟨u0, u1⟩, ⟨u2, u3⟩, uf⟩ := cells4a HA
        obtain ⟨⟨a0, a1, a2⟩, ⟨a3, a4, a5, a6⟩, af⟩ := cells7 IM
        obtain ⟨b0, b1, b2, bf⟩ := cells3 IN
        obtain ⟨⟨d0, d1, d2⟩, ⟨d3, d4⟩, df⟩ := cells5 IX
        replace HR := Lib.hid (HR.out.up hb21)
        replace HN := Lib.hid (HN.out.up hb21)
        replace HX := Lib.hid (HX.out.up hb21)
        replace JM := Lib.hid (JM.out.up hb21)
        replace JN := Lib.hid (JN.out.up hb21)
        replace JX := Lib.hid (JX.out.up hb21)
        refine hK.out _ _ ?_ (fun hHeld => ?_)
        · go_keep
        clear hK K
        try simp only [Act.put, pu]
        refine tr 3 rfl (by kernel_rfl) (fun K hK => ?_)
        go_simp
        go_at_call 18
        refine (eq_Mach _ _ _ _ _ _ _ _ m w21 JM.out JJ.out).mono ?_
        rintro e w22 ⟨rfl, hb22⟩
        clear JJ
        have hzhb22 := hb22.size
        clear g0 g1 g2 g3 g4 g5 g6 q0 q1 q2 y0 y1 y2 y3 y4 u0 u1 u2 u3 a0 a1 a2 a3 a4 a5 a6 b0 b1 b2 d0 d1 d2 d3 d4 gf qf yf uf af bf df
        replace HM := bk HM hb22
        replace HD := bk HD hb22
        replace HY := bk HY hb22
        replace HA := bk HA hb22
        replace IM := bk IM hb22
        replace IN := bk IN hb22
        replace IX := bk IX hb22
        replace hB := bl_trans hB hb22
        obtain ⟨⟨g0, g1, g2⟩, ⟨g3, g4, g5, g6⟩, gf⟩ := cells7 HM
        obtain ⟨q0, q1, q2, qf⟩ := cells3 HD
        obtain ⟨⟨y0, y1, y2⟩, ⟨y3, y4⟩, yf⟩ := cells5 HY
        obtain ⟨⟨u0, u1⟩, ⟨u2, u3⟩, uf⟩ := cells4a HA
        obtain ⟨⟨a0, a1, a2⟩, ⟨a3, a4, a5, a6⟩, af⟩ := cells7 IM
        obtain ⟨b0, b1, b2, bf⟩ := cells3 IN
        obtain ⟨⟨d0, d1, d2⟩, ⟨d3, d4⟩, df⟩ := cells5 IX
        replace HR := Lib.hid (HR.out.up hb22)
        replace HN := Lib.hid (HN.out.up hb22)
        replace HX := Lib.hid (HX.out.up hb22)
        replace JM := Lib.hid (JM.out.up hb22)
        replace JN := Lib.hid (JN.out.up hb22)
        replace JX := Lib.hid (JX.out.up hb22)
        refine hK.out _ _ ?_ (fun hHeld => ?_)
        · go_keep
        clear hK K
        try simp only [Act.put, pu]
        refine tk 4 71 rfl rfl ?_
        try simp only [Act.put, pu]
        refine wpAnyH_done (by kernel_rfl) ?_ _
        go_wp2_with fail
        refine wp_region_held_drew (S := fun w' => w'.cell? ⟨P1, 0, none⟩ = some (.slice A4 m4 c4) ∧ w'.cell? ⟨P1, 1, none⟩ = some (.slice A5 m5 c5) ∧ w'.cell? ⟨P1, 2, none⟩ = some (.slice A6 m6 c6) ∧ w'.cell? ⟨P6, 0, none⟩ = some (.slice CA4 Cm4 Cc4) ∧ w'.cell? ⟨P6, 1, none⟩ = some (.slice CA5 Cm5 Cc5) ∧ w'.cell? ⟨P6, 2, none⟩ = some (.slice CA6 Cm6 Cc6)) (by kernel_rfl) ?_ (fun hHeld => ?_)
        · go_keep
        refine tk 0 72 rfl rfl ?_
        try simp only [Act.put, pu]
        refine tk 1 73 rfl rfl ?_
        try simp only [Act.put, pu]
        refine tr 2 rfl (by kernel_rfl) (fun K hK => ?_)
        go_simp
        go_at_call 14
        refine (to_Net _ _ _ n w22.drew (HN.out.up (Below.refl _ _).drew) hs2).mono ?_
        rintro e w23 ⟨z0, z1, z2, rfl, hq, hb23'⟩
        have hb23 : Below w22.heap.size w22 w23 := (Below.refl _ _).drew.trans hb23'
        clear hb23'
        obtain ⟨⟨EA4, Em4, Ec4, rfl⟩, ⟨EA5, Em5, Ec5, rfl⟩, EA6, Em6, Ec6, rfl⟩ := hq.slices
        have JJ := Lib.hid hq
        clear hq
        have hzhb23 := hb23.size
        clear g0 g1 g2 g3 g4 g5 g6 q0 q1 q2 y0 y1 y2 y3 y4 u0 u1 u2 u3 a0 a1 a2 a3 a4 a5 a6 b0 b1 b2 d0 d1 d2 d3 d4 gf qf yf uf af bf df
        replace HM := bk HM hb23
        replace HD := bk HD hb23
        replace HY := bk HY hb23
        replace HA := bk HA hb23
        replace IM := bk IM hb23
        replace IN := bk IN hb23
        replace IX := bk IX hb23
        replace hB := bl_trans hB hb23
        obtain ⟨⟨g0, g1, g2⟩, ⟨g3, g4, g5, g6⟩, gf⟩ := cells7 HM
        obtain ⟨q0, q1, q2, qf⟩ := cells3 HD
        obtain ⟨⟨y0, y1, y2⟩, ⟨y3, y4⟩, yf⟩ := cells5 HY
        obtain ⟨⟨u0, u1⟩, ⟨u2, u3⟩, uf⟩ := cells4a HA
        obtain ⟨⟨a0, a1, a2⟩, ⟨a3, a4, a5, a6⟩, af⟩ := cells7 IM
        obtain ⟨b0, b1, b2, bf⟩ := cells3 IN
        obtain ⟨⟨d0, d1, d2⟩, ⟨d3, d4⟩, df⟩ := cells5 IX
        replace HR := Lib.hid (HR.out.up hb23)
        replace HN := Lib.hid (HN.out.up hb23)
        replace HX := Lib.hid (HX.out.up hb23)
        replace JM := Lib.hid (JM.out.up hb23)
        replace JN := Lib.hid (JN.out.up hb23)
        replace JX := Lib.hid (JX.out.up hb23)
        refine hK.out _ _ ?_ (fun hHeld => ?_)
        · go_keep
        clear hK K
        try simp only [Act.put, pu]
        refine tr 3 rfl (by kernel_rfl) (fun K hK => ?_)
        go_simp
        go_at_call 19
        refine (eq_Net _ _ _ _ _ _ n w23 JN.out JJ.out).mono ?_
        rintro e w24 ⟨rfl, hb24⟩
        clear JJ
        have hzhb24 := hb24.size
        clear g0 g1 g2 g3 g4 g5 g6 q0 q1 q2 y0 y1 y2 y3 y4 u0 u1 u2 u3 a0 a1 a2 a3 a4 a5 a6 b0 b1 b2 d0 d1 d2 d3 d4 gf qf yf uf af bf df
        replace HM := bk HM hb24
        replace HD := bk HD hb24
        replace HY := bk HY hb24
        replace HA := bk HA hb24
        replace IM := bk IM hb24
        replace IN := bk IN hb24
        replace IX := bk IX hb24
        replace hB := bl_trans hB hb24
        obtain ⟨⟨g0, g1, g2⟩, ⟨g3, g4, g5, g6⟩, gf⟩ := cells7 HM
        obtain ⟨q0, q1, q2, qf⟩ := cells3 HD
        obtain ⟨⟨y0, y1, y2⟩, ⟨y3, y4⟩, yf⟩ := cells5 HY
        obtain ⟨⟨u0, u1⟩, ⟨u2, u3⟩, uf⟩ := cells4a HA
        obtain ⟨⟨a0, a1, a2⟩, ⟨a3, a4, a5, a6⟩, af⟩ := cells7 IM
        obtain ⟨b0, b1, b2, bf⟩ := cells3 IN
        obtain ⟨⟨d0, d1, d2⟩, ⟨d3, d4⟩, df⟩ := cells5 IX
        replace HR := Lib.hid (HR.out.up hb24)
        replace HN := Lib.hid (HN.out.up hb24)
        replace HX := Lib.hid (HX.out.up hb24)
        replace JM := Lib.hid (JM.out.up hb24)
        replace JN := Lib.hid (JN.out.up hb24)
        replace JX := Lib.hid (JX.out.up hb24)
        refine hK.out _ _ ?_ (fun hHeld => ?_)
        · go_keep
        clear hK K
        try simp only [Act.put, pu]
        refine tk 4 76 rfl rfl ?_
        try simp only [Act.put, pu]
        refine wpAnyH_done (by kernel_rfl) ?_ _
        go_wp2_with fail
        refine wp_region_held_drew (S := fun w' => w'.cell? ⟨P2, 0, none⟩ = some (.slice A10 m10 c10) ∧ w'.cell? ⟨P2, 1, none⟩ = some (.slice A11 m11 c11) ∧ w'.cell? ⟨P2, 2, none⟩ = some (.slice A12 m12 c12) ∧ w'.cell? ⟨P2, 3, none⟩ = some (.slice A8 m8 c8) ∧ w'.cell? ⟨P2, 4, none⟩ = some (.slice A9 m9 c9) ∧ w'.cell? ⟨P7, 0, none⟩ = some (.slice CA10 Cm10 Cc10) ∧ w'.cell? ⟨P7, 1, none⟩ = some (.slice CA11 Cm11 Cc11) ∧ w'.cell? ⟨P7, 2, none⟩ = some (.slice CA12 Cm12 Cc12) ∧ w'.cell? ⟨P7, 3, none⟩ = some (.slice CA8 Cm8 Cc8) ∧ w'.cell? ⟨P7, 4, none⟩ = some (.slice CA9 Cm9 Cc9)) (by kernel_rfl) ?_ (fun hHeld => ?_)
        · go_keep
        refine tk 0 77 rfl rfl ?_
        try simp only [Act.put, pu]
        refine tk 1 78 rfl rfl ?_
        try simp only [Act.put, pu]
        refine tr 2 rfl (by kernel_rfl) (fun K hK => ?_)
        go_simp
        go_at_call 15
        refine (to_Asy _ _ _ _ _ x w24.drew (HX.out.up (Below.refl _ _).drew) hs3).mono ?_
        rintro e w25 ⟨z0, z1, z2, z3, z4, rfl, hq, hb25'⟩
        have hb25 : Below w24.heap.size w24 w25 := (Below.refl _ _).drew.trans hb25'
        clear hb25'
        obtain ⟨⟨EA10, Em10, Ec10, rfl⟩, ⟨EA11, Em11, Ec11, rfl⟩, ⟨EA12, Em12, Ec12, rfl⟩, ⟨EA8, Em8, Ec8, rfl⟩, EA9, Em9, Ec9, rfl⟩ := hq.slices
        have JJ := Lib.hid hq
        clear hq
        have hzhb25 := hb25.size
        clear g0 g1 g2 g3 g4 g5 g6 q0 q1 q2 y0 y1 y2 y3 y4 u0 u1 u2 u3 a0 a1 a2 a3 a4 a5 a6 b0 b1 b2 d0 d1 d2 d3 d4 gf qf yf uf af bf df
        replace HM := bk HM hb25
        replace HD := bk HD hb25
        replace HY := bk HY hb25
        replace HA := bk HA hb25
        replace IM := bk IM hb25
        replace IN := bk IN hb25
        replace IX := bk IX hb25
        replace hB := bl_trans hB hb25
        obtain ⟨⟨g0, g1, g2⟩, ⟨g3, g4, g5, g6⟩, gf⟩ := cells7 HM
        obtain ⟨q0, q1, q2, qf⟩ := cells3 HD
        obtain ⟨⟨y0, y1, y2⟩, ⟨y3, y4⟩, yf⟩ := cells5 HY
        obtain ⟨⟨u0, u1⟩, ⟨u2, u3⟩, uf⟩ := cells4a HA
        obtain ⟨⟨a0, a1, a2⟩, ⟨a3, a4, a5, a6⟩, af⟩ := cells7 IM
        obtain ⟨b0, b1, b2, bf⟩ := cells3 IN
        obtain ⟨⟨d0, d1, d2⟩, ⟨d3, d4⟩, df⟩ := cells5 IX
        replace HR := Lib.hid (HR.out.up hb25)
        replace HN := Lib.hid (HN.out.up hb25)
        replace HX := Lib.hid (HX.out.up hb25)
        replace JM := Lib.hid (JM.out.up hb25)
        replace JN := Lib.hid (JN.out.up hb25)
        replace JX := Lib.hid (JX.out.up hb25)
        refine hK.out _ _ ?_ (fun hHeld => ?_)
        · go_keep
        clear hK K
        try simp only [Act.put, pu]
        refine tr 3 rfl (by kernel_rfl) (fun K hK => ?_)
        go_simp
        go_at_call 20
        refine (eq_Asy _ _ _ _ _ _ _ _ _ _ x w25 JX.out JJ.out).mono ?_
        rintro e w26 ⟨rfl, hb26⟩
        clear JJ
        have hzhb26 := hb26.size
        clear g0 g1 g2 g3 g4 g5 g6 q0 q1 q2 y0 y1 y2 y3 y4 u0 u1 u2 u3 a0 a1 a2 a3 a4 a5 a6 b0 b1 b2 d0 d1 d2 d3 d4 gf qf yf uf af bf df
        replace HM := bk HM hb26
        replace HD := bk HD hb26
        replace HY := bk HY hb26
        replace HA := bk HA hb26
        replace IM := bk IM hb26
        replace IN := bk IN hb26
        replace IX := bk IX hb26
        replace hB := bl_trans hB hb26
        obtain ⟨⟨g0, g1, g2⟩, ⟨g3, g4, g5, g6⟩, gf⟩ := cells7 HM
        obtain ⟨q0, q1, q2, qf⟩ := cells3 HD
        obtain ⟨⟨y0, y1, y2⟩, ⟨y3, y4⟩, yf⟩ := cells5 HY
        obtain ⟨⟨u0, u1⟩, ⟨u2, u3⟩, uf⟩ := cells4a HA
        obtain ⟨⟨a0, a1, a2⟩, ⟨a3, a4, a5, a6⟩, af⟩ := cells7 IM
        obtain ⟨b0, b1, b2, bf⟩ := cells3 IN
        obtain ⟨⟨d0, d1, d2⟩, ⟨d3, d4⟩, df⟩ := cells5 IX
        replace HR := Lib.hid (HR.out.up hb26)
        replace HN := Lib.hid (HN.out.up hb26)
        replace HX := Lib.hid (HX.out.up hb26)
        replace JM := Lib.hid (JM.out.up hb26)
        replace JN := Lib.hid (JN.out.up hb26)
        replace JX := Lib.hid (JX.out.up hb26)
        refine hK.out _ _ ?_ (fun hHeld => ?_)
        · go_keep
        clear hK K
        try simp only [Act.put, pu]
        refine tk 4 81 rfl rfl ?_
        try simp only [Act.put, pu]
        refine wpAnyH_done (by kernel_rfl) ?_ _
        go_wp2_with fail
        go_ret
        exact ⟨rfl, by first | exact hB | exact hB.drew⟩
      · have hz : szR left2 (szAsy x) < 0 := by unfold szR; rw [if_neg hs3]; omega
        generalize szR left2 (szAsy x) = left at *
        go_wp2_with fail
        go_ret
        exact ⟨rfl, hB⟩
    · have hz : szR left1 (szNet n) < 0 := by unfold szR; rw [if_neg hs2]; omega
      generalize szR left1 (szNet n) = left at *
      go_wp2_with fail
      go_ret
      exact ⟨rfl, hB⟩
  · have hz : szR 1048576 (szMach m) < 0 := by unfold szR; rw [if_neg hs1]; omega
    generalize szR 1048576 (szMach m) = left at *
    go_wp2_with fail
    go_ret
    exact ⟨rfl, hB⟩
theorem laidOut : laidOutB Tryz.prog = true := by kernel_rfl
theorem own : ownKnob Tryz.prog.godebug = none := by kernel_rfl
set_option maxRecDepth 100000 in
theorem lifted (os : Os) (started : os.Started) (H : Type) (enc : TypeId × Value → H) :
    ReturnsInHanded {} Tryz.checked os 3 .any (Rows.fnExactMayAsyncSpec.pre6 enc Tryz.prog Tryz.f3 Rows.fnExactMayAsyncRow.domain false) (Rows.fnExactMayAsyncSpec.post enc Tryz.prog Tryz.f3 false true false false) := by
  refine returnsInHanded_of_change (C := Tryz.checked) own started (by kernel_rfl) Tryz.func3
    (ChangeSpec.witness6 (enc := enc) (C := Tryz.checked) false ⟨#[], #[.agg #[.int .i64 0, .int .i64 0, .int .i64 0, .slice none 0 0, .slice none 0 0, .slice none 0 0, .slice none 0 0], .agg #[.slice none 0 0, .slice none 0 0, .slice none 0 0], .agg #[.slice none 0 0, .slice none 0 0, .slice none 0 0, .slice none 0 0, .slice none 0 0], .agg #[.int .i64 0, .int .i64 0, .int .i64 0, .int .i64 0]], []⟩ 8 (by kernel_rfl) (by kernel_rfl) (by kernel_rfl) (by kernel_rfl)) ?_
  intro W base args ds gs before hval0 hW hcnd _
  have hval : ∀ (j : Nat) t v, Tryz.f3.params[j]? = some t → args[j]? = some v → Value.okWide Tryz.prog W .any base t v := hval0
  have hW' := hW
  obtain ⟨p, q, hA0, hV, rfl, hfz, hnd⟩ := hW
  have hA : DataW.TrodAll enc Tryz.prog W 0 (fun _ => true) true Tryz.f3.params.toList args.toList ds p := hA0
  rw [Tryz.params3] at hA hval
  obtain ⟨v0, vs0, d0, ds0, p0, q0, hargs, rfl, rfl, h0, r0⟩ := trodAll_cons hA
  obtain ⟨v1, vs1, d1, ds1, p1, q1, rfl, rfl, rfl, h1, r1⟩ := trodAll_cons r0
  obtain ⟨v2, vs2, d2, ds2, p2, q2, rfl, rfl, rfl, h2, r2⟩ := trodAll_cons r1
  obtain ⟨v3, vs3, d3, ds3, p3, q3, rfl, rfl, rfl, h3, r3⟩ := trodAll_cons r2
  obtain ⟨rfl, rfl, rfl⟩ := trodAll_nil r3
  obtain rfl : args = #[v0, v1, v2, v3] := by cases args; simp_all
  obtain ⟨rfl, rfl⟩ := trodVars_none hV
  obtain ⟨cs0, rfl, -⟩ := okWide_struct Tryz.underlying26 (hval 0 26 v0 rfl rfl)
  obtain ⟨fu0, hf0⟩ := h0
  obtain ⟨m, xs0, xs1, xs2, xs3, e0, hm⟩ := mach_of_trod hf0
  obtain rfl : cs0 = #[.int .i64 m.deg, .int .i64 m.st, .int .i64 m.msg, xs0, xs1, xs2, xs3] := by
    have e0' : cs0.toList = [.int .i64 m.deg, .int .i64 m.st, .int .i64 m.msg, xs0, xs1, xs2, xs3] := by simpa [Value.cells] using e0
    cases cs0; simp_all
  obtain ⟨c0, c1, c2, y0, y1, y2, n, rfl, rfl, -, hy0, hy1, hy2⟩ := open_agg3 Tryz.underlying29 (by kernel_rfl) (by kernel_rfl) (hval 1 29 v1 rfl rfl) h1
  obtain ⟨u0, ess, e0, he⟩ := endss_of_trod hy0
  obtain ⟨u1, ids, e1, hi⟩ := ints_of_trod Tryz.underlying24 Tryz.underlying3 (by kernel_rfl) hy1
  obtain ⟨u2, ins, e2, hn⟩ := ints_of_trod Tryz.underlying24 Tryz.underlying3 (by kernel_rfl) hy2
  simp only [List.cons.injEq, and_true] at e0 e1 e2
  subst e0 e1 e2
  obtain ⟨cs2, rfl, -⟩ := okWide_struct Tryz.underlying32 (hval 2 32 v2 rfl rfl)
  obtain ⟨fu2, hf2⟩ := h2
  obtain ⟨x, xr, xb, xn, xs, xf, e2, hx⟩ := asy_of_trod hf2
  obtain rfl : cs2 = #[xr, xb, xn, xs, xf] := by
    have e2' : cs2.toList = [xr, xb, xn, xs, xf] := by simpa [Value.cells] using e2
    cases cs2; simp_all
  obtain ⟨b0, b1, b2, b3, z0, z1, z2, z3, nz, rfl, rfl, -, hz0, hz1, hz2, hz3⟩ := open_agg4 Tryz.underlying34 (by kernel_rfl) (by kernel_rfl) (hval 3 34 v3 rfl rfl) h3
  obtain ⟨ak, a0, -, -⟩ := DataW.trod_int Tryz.underlying3 hz0
  obtain ⟨an, a1, -, -⟩ := DataW.trod_int Tryz.underlying3 hz1
  obtain ⟨ap, a2, -, -⟩ := DataW.trod_int Tryz.underlying3 hz2
  obtain ⟨aa, a3, -, -⟩ := DataW.trod_int Tryz.underlying3 hz3
  simp only [List.cons.injEq, and_true] at a0 a1 a2 a3
  subst a0 a1 a2 a3
  refine (law_walk _ _ _ _ m _ _ _ ⟨ess, ids, ins⟩ _ _ _ _ _ x ak an ap aa W hm ⟨he, hi, hn⟩ hx).mono fun e W' ⟨he, hg⟩ => ?_
  subst he
  exact ⟨_, rfl, post_law laidOut (by kernel_rfl) rfl (by kernel_rfl) Tryz.underlying4 rfl hW' hg⟩

theorem over : Rows.fnExactMayAsyncRow.holds Tryz.pinned (OpenSpec.ofChange Rows.fnExactMayAsyncSpec) :=
  OpenClaim.holds_of_wide 3 Tryz.f3 rfl rfl rfl rfl rfl rfl rfl ⟨rfl, rfl, rfl, rfl, rfl⟩ rfl rfl rfl rfl rfl (by kernel_rfl) Tryz.func3 (by kernel_rfl)
    (of_decide_eq_true (by kernel_rfl)) (by unfold Func.isWrapper; first | (rw [if_pos (by decide +kernel)]; kernel_rfl) | (rw [if_neg (by decide +kernel)]; exact ⟨rfl, rfl⟩))
    (fun os started H enc _ => lifted os started H enc)

/-- The statement. -/
theorem proved : Rows.FnExactMayAsyncSaid :=
  over
#print axioms proved
end Go.Proofs.YtcpbbjocaimocaaGreat.fnExactMayAsync
