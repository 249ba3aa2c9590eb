/-
  An act on an asynchronous state: doAsync as a whole; DoAsync of the reference and of the program.
-/
import Derived.Test.YtcpbbjocaimocaaGreatEDoSen
import Derived.Test.YtcpbbjocaimocaaGreatEDoLet
import Derived.Test.YtcpbbjocaimocaaGreatECopyAsy
import Derived.Test.YtcpbbjocaimocaaGreatEMaySpec
namespace Go.Proofs.YtcpbbjocaimocaaGreat
open Go.RowKit
set_option linter.all false
theorem impl_doAsync (vs ve vc vo : Value) (m : Mach) (ne ni nn : Value) (n : Net) (val : Key → Value) (x : Asy) (base P : Nat) (ak an ap aa : Int) (w : World) (hm : MachR w base vs ve vc vo m) (hn : NetR w base ne ni nn n) (hK : AsyB w base val x P) (hbase : base ≤ w.heap.size) (hg : goodP m n x) (hmay : mayB n x ⟨ak, an, ap, aa⟩ = true) :
  Calls Tryz.prog 71 #[machV vs ve vc vo m, .agg #[ne, ni, nn], .pointer (some ⟨P, 0, none⟩), .agg #[.int .i64 ak, .int .i64 an, .int .i64 ap, .int .i64 aa]] w (DoPost w base val x (doA m n x ⟨ak, an, ap, aa⟩) P) := by
 have hq := hg.1.2.1
 cases h1 : inB an 0 ((n.es.length : Int) - 1) with
 | false => rw [may_no1 h1] at hmay; cases hmay
 | true =>
  obtain ⟨k, rfl, hk⟩ := inB_nat h1
  obtain ⟨l, s, f, r, hat⟩ := at_of hg.2 hk
  have hl6 := (hq.2.2.2.2 k l hat.hl).1
  by_cases h5 : ak = 5
  ·
   subst h5
   rw [may_step hat] at hmay
   rw [Bool.and_eq_true, Bool.and_eq_true, Bool.and_eq_true, decide_eq_true_iff, decide_eq_true_iff, decide_eq_true_iff] at hmay
   obtain ⟨rfl, rfl, hr, -⟩ := hmay
   rw [doA_step]
   exact impl_doStep vs ve vc vo m ne ni nn n val x base k l s f r P w hm hn hK hbase hg.1.1 hg.2 hat (by omega) hr
  ·
   by_cases hp : 0 ≤ ap ∧ ap < l.length
   ·
    obtain ⟨p, rfl⟩ : ∃ p : Nat, ap = p := ⟨ap.toNat, by omega⟩
    have hpl : p < l.length := by omega
    obtain ⟨ls, hls⟩ : ∃ y, f[p]? = some y := ⟨_, List.getElem?_eq_getElem (by rw [hat.fl]; exact hpl)⟩
    by_cases h1' : ak = 1
    ·
     subst h1'
     obtain ⟨e, he⟩ : ∃ y, l[p]? = some y := ⟨_, List.getElem?_eq_getElem hpl⟩
     obtain ⟨k2, p2, l2, s2, f2, r2, ls2, e1, e2, hat2, hp2, -⟩ := at_end hg.2 hq hat he
     have ee : e = ((k2 : Int), (p2 : Int)) := by rw [← e1, ← e2]
     subst ee
     rw [may_send hat hls he hat2 hp2 rfl rfl] at hmay
     rw [doA_send m aa hat.hl he]
     exact impl_doSend vs ve vc vo m ne ni nn n val x base k l s f r p ls k2 p2 l2 s2 f2 r2 ls2 aa P w hm hn hK hbase hg hat hls he hat2 hp2 hmay
    ·
     have hak : ak = 2 ∨ ak = 3 ∨ ak = 4 := by
      by_cases h2 : ak = 2
      ·
       exact .inl h2
      ·
       by_cases h3 : ak = 3
       ·
        exact .inr (.inl h3)
       ·
        by_cases h4 : ak = 4
        ·
         exact .inr (.inr h4)
        ·
         rw [may_else hat h5 h1' h2 h3 h4] at hmay; cases hmay
     have haa : 0 ≤ aa ∧ aa < ls.length := by
      rcases hak with rfl | rfl | rfl
      ·
       rw [may_let hat hls (.inl rfl), decide_eq_true_iff] at hmay; exact hmay
      ·
       rw [may_let hat hls (.inr rfl), decide_eq_true_iff] at hmay; exact hmay
      ·
       rw [may_copy hat hls, Bool.and_eq_true, decide_eq_true_iff] at hmay; exact hmay.1
     obtain ⟨a, rfl⟩ : ∃ a : Nat, aa = a := ⟨aa.toNat, by omega⟩
     rw [doA_let m n x k p (a : Int) h5 h1', Int.toNat_natCast]
     exact impl_doLetter vs ve vc vo m ne ni nn n val x base k l s f r p ls ak a P w hm hn hK hbase hat hls (by omega) hak
   ·
    rw [may_no2 hat h5 hp] at hmay; cases hmay
def ResA (b : Bool) (w : World) (base : Nat) (ur ub un us uf : Value) (y : Asy) : Prop :=
  (b = true → ∃ val, ur = val .r ∧ ub = val .b ∧ un = val .n ∧ us = val .s ∧ uf = val .f ∧ AsyK w base val y) ∧ (b = false → ur = nilV ∧ ub = nilV ∧ un = nilV ∧ us = nilV ∧ uf = nilV)
theorem ResA.no {b : Bool} {w : World} {base : Nat} {y : Asy} (h : b = false) : ResA b w base (.slice none 0 0) (.slice none 0 0) (.slice none 0 0) (.slice none 0 0) (.slice none 0 0) y := ⟨fun h' => (by rw [h] at h'; cases h'), fun _ => ⟨rfl, rfl, rfl, rfl, rfl⟩⟩
set_option maxRecDepth 100000 in
set_option maxHeartbeats 2000000 in
theorem spec_DoAsync (vs ve vc vo : Value) (m : Mach) (ne ni nn : Value) (n : Net) (xr xb xn xs xf : Value) (x : Asy) (ak an ap aa : Int) (w : World) (hm : MachR w w.heap.size vs ve vc vo m) (hn : NetR w w.heap.size ne ni nn n) (hx : AsyR w w.heap.size xr xb xn xs xf x)
  (hz : n.es.length ≤ 2000000) :
  Calls Tryz.prog 29 #[machV vs ve vc vo m, .agg #[ne, ni, nn], .agg #[xr, xb, xn, xs, xf], .agg #[.int .i64 ak, .int .i64 an, .int .i64 ap, .int .i64 aa]] w fun e w' => ∃ ur ub un us uf, e = .returned (.tuple #[.agg #[ur, ub, un, us, uf], .bool (mxB m n x ⟨ak, an, ap, aa⟩)]) ∧ Below w.heap.size w w' ∧ ResA (mxB m n x ⟨ak, an, ap, aa⟩) w' w.heap.size ur ub un us uf (doA m n x ⟨ak, an, ap, aa⟩) := by
 unfold machV
 have HM0 := Lib.hid hm
 obtain ⟨⟨A0, m0, c0, rfl⟩, ⟨A1, m1, c1, rfl⟩, ⟨A2, m2, c2, rfl⟩, A3, m3, c3, rfl⟩ := hm.slices
 obtain ⟨⟨A4, m4, c4, rfl⟩, ⟨A5, m5, c5, rfl⟩, A6, m6, c6, rfl⟩ := hn.slices
 obtain ⟨⟨A10, m10, c10, rfl⟩, ⟨A11, m11, c11, rfl⟩, ⟨A12, m12, c12, rfl⟩, ⟨A8, m8, c8, rfl⟩, A9, m9, c9, rfl⟩ := hx.slices
 obtain ⟨w0, hw0, hb0, HM, hz0, HS0⟩ := box7 w (.int .i64 m.deg) (.int .i64 m.st) (.int .i64 m.msg) (.slice A0 m0 c0) (.slice A1 m1 c1) (.slice A2 m2 c2) (.slice A3 m3 c3) 42
 obtain ⟨w1, hw1, hb1, HD, hz1, HS1⟩ := box3 w0 (.slice A4 m4 c4) (.slice A5 m5 c5) (.slice A6 m6 c6) 46
 replace HM := bk HM hb1
 obtain ⟨w2, hw2, hb2, HY, hz2, HS2⟩ := box5 w1 (.slice A10 m10 c10) (.slice A11 m11 c11) (.slice A12 m12 c12) (.slice A8 m8 c8) (.slice A9 m9 c9) 50
 replace HM := bk HM hb2
 replace HD := bk HD hb2
 obtain ⟨w3, hw3, hb3, HA, hz3, HS3⟩ := box4a w2 (.int .i64 ak) (.int .i64 an) (.int .i64 ap) (.int .i64 aa) 52
 replace HM := bk HM hb3
 replace HD := bk HD hb3
 replace HY := bk HY hb3
 have hB : Below w.heap.size w w3 := bl_trans (bl_trans (bl_trans (hb0) hb1) hb2) hb3
 have HW := Lib.hid (show w3 = (((w.alloc (.cells #[.int .i64 m.deg, .int .i64 m.st, .int .i64 m.msg, .slice A0 m0 c0, .slice A1 m1 c1, .slice A2 m2 c2, .slice A3 m3 c3] 42)).alloc (.cells #[.slice A4 m4 c4, .slice A5 m5 c5, .slice A6 m6 c6] 46)).alloc (.cells #[.slice A10 m10 c10, .slice A11 m11 c11, .slice A12 m12 c12, .slice A8 m8 c8, .slice A9 m9 c9] 50)).alloc (.cells #[.int .i64 ak, .int .i64 an, .int .i64 ap, .int .i64 aa] 52) by rw [hw3, hw2, hw1, hw0])
 obtain ⟨P1, hP1⟩ : ∃ z, z = w0.heap.size := ⟨_, rfl⟩
 have HP1 := Lib.hid (show w.heap.size + 1 = P1 by rw [hP1, HS0.out])
 have hPl1 : w.heap.size < P1 := by rw [← HP1.out]; omega
 rw [← hP1] at HD hz1
 obtain ⟨P2, hP2⟩ : ∃ z, z = w1.heap.size := ⟨_, rfl⟩
 have HP2 := Lib.hid (show w.heap.size + 1 + 1 = P2 by rw [hP2, HS1.out, HS0.out])
 have hPl2 : w.heap.size < P2 := by rw [← HP2.out]; omega
 rw [← hP2] at HY hz2
 obtain ⟨P3, hP3⟩ : ∃ z, z = w2.heap.size := ⟨_, rfl⟩
 have HP3 := Lib.hid (show w.heap.size + 1 + 1 + 1 = P3 by rw [hP3, HS2.out, HS1.out, HS0.out])
 have hPl3 : w.heap.size < P3 := by rw [← HP3.out]; omega
 rw [← hP3] at HA hz3
 obtain ⟨⟨g0, g1, g2⟩, ⟨g3, g4, g5, g6⟩, gf⟩ := cells7 HM
 obtain ⟨q0, q1, q2, qf⟩ := cells3 HD
 obtain ⟨⟨y0, y1, y2⟩, ⟨y3, y4⟩, yf⟩ := cells5 HY
 obtain ⟨⟨u0, u1⟩, ⟨u2, u3⟩, uf⟩ := cells4a HA
 have eg0 := g0
 have eg1 := g1
 have eg2 := g2
 have eg3 := g3
 have eg4 := g4
 have eg5 := g5
 have eg6 := g6
 have eq0 := q0
 have eq1 := q1
 have eq2 := q2
 have ey0 := y0
 have ey1 := y1
 have ey2 := y2
 have ey3 := y3
 have ey4 := y4
 have eu0 := u0
 have eu1 := u1
 have eu2 := u2
 have eu3 := u3
 rw [HW.out] at eg0 eg1 eg2 eg3 eg4 eg5 eg6 eq0 eq1 eq2 ey0 ey1 ey2 ey3 ey4 eu0 eu1 eu2 eu3
 rw [← HP1.out] at eq0 eq1 eq2
 rw [← HP2.out] at ey0 ey1 ey2 ey3 ey4
 rw [← HP3.out] at eu0 eu1 eu2 eu3
 have hzb0 : w.heap.size < w3.heap.size := by omega
 have hzb1 : P1 < w3.heap.size := by omega
 have hzb2 : P2 < w3.heap.size := by omega
 have hzb3 : P3 < w3.heap.size := by omega
 have HR := Lib.hid (hm.up hB)
 have HN := Lib.hid (hn.up hB)
 have HX := Lib.hid (hx.up hB)
 clear hw3 hw2 hw1 hw0 hP1 hP2 hP3
 obtain ⟨w4, hw4, hb4, HQ, hz4, HS4⟩ := box5 w3 (.slice none 0 0) (.slice none 0 0) (.slice none 0 0) (.slice none 0 0) (.slice none 0 0) 50
 obtain ⟨P4, hP4⟩ : ∃ z, z = w3.heap.size := ⟨_, rfl⟩
 have HP4 := Lib.hid (show w.heap.size + 1 + 1 + 1 + 1 = P4 by rw [hP4, HS3.out, HS2.out, HS1.out, HS0.out])
 rw [← hP4] at HQ hz4
 have hPl4 : w.heap.size < P4 := by rw [← HP4.out]; omega
 have HWF := Lib.hid (show w4 = _ by rw [hw4, HW.out])
 have fg0 := Lib.cell?_alloc_some (.cells #[.slice none 0 0, .slice none 0 0, .slice none 0 0, .slice none 0 0, .slice none 0 0] 50) eg0
 have fg1 := Lib.cell?_alloc_some (.cells #[.slice none 0 0, .slice none 0 0, .slice none 0 0, .slice none 0 0, .slice none 0 0] 50) eg1
 have fg2 := Lib.cell?_alloc_some (.cells #[.slice none 0 0, .slice none 0 0, .slice none 0 0, .slice none 0 0, .slice none 0 0] 50) eg2
 have fg3 := Lib.cell?_alloc_some (.cells #[.slice none 0 0, .slice none 0 0, .slice none 0 0, .slice none 0 0, .slice none 0 0] 50) eg3
 have fg4 := Lib.cell?_alloc_some (.cells #[.slice none 0 0, .slice none 0 0, .slice none 0 0, .slice none 0 0, .slice none 0 0] 50) eg4
 have fg5 := Lib.cell?_alloc_some (.cells #[.slice none 0 0, .slice none 0 0, .slice none 0 0, .slice none 0 0, .slice none 0 0] 50) eg5
 have fg6 := Lib.cell?_alloc_some (.cells #[.slice none 0 0, .slice none 0 0, .slice none 0 0, .slice none 0 0, .slice none 0 0] 50) eg6
 have fq0 := Lib.cell?_alloc_some (.cells #[.slice none 0 0, .slice none 0 0, .slice none 0 0, .slice none 0 0, .slice none 0 0] 50) eq0
 have fq1 := Lib.cell?_alloc_some (.cells #[.slice none 0 0, .slice none 0 0, .slice none 0 0, .slice none 0 0, .slice none 0 0] 50) eq1
 have fq2 := Lib.cell?_alloc_some (.cells #[.slice none 0 0, .slice none 0 0, .slice none 0 0, .slice none 0 0, .slice none 0 0] 50) eq2
 have fy0 := Lib.cell?_alloc_some (.cells #[.slice none 0 0, .slice none 0 0, .slice none 0 0, .slice none 0 0, .slice none 0 0] 50) ey0
 have fy1 := Lib.cell?_alloc_some (.cells #[.slice none 0 0, .slice none 0 0, .slice none 0 0, .slice none 0 0, .slice none 0 0] 50) ey1
 have fy2 := Lib.cell?_alloc_some (.cells #[.slice none 0 0, .slice none 0 0, .slice none 0 0, .slice none 0 0, .slice none 0 0] 50) ey2
 have fy3 := Lib.cell?_alloc_some (.cells #[.slice none 0 0, .slice none 0 0, .slice none 0 0, .slice none 0 0, .slice none 0 0] 50) ey3
 have fy4 := Lib.cell?_alloc_some (.cells #[.slice none 0 0, .slice none 0 0, .slice none 0 0, .slice none 0 0, .slice none 0 0] 50) ey4
 have fu0 := Lib.cell?_alloc_some (.cells #[.slice none 0 0, .slice none 0 0, .slice none 0 0, .slice none 0 0, .slice none 0 0] 50) eu0
 have fu1 := Lib.cell?_alloc_some (.cells #[.slice none 0 0, .slice none 0 0, .slice none 0 0, .slice none 0 0, .slice none 0 0] 50) eu1
 have fu2 := Lib.cell?_alloc_some (.cells #[.slice none 0 0, .slice none 0 0, .slice none 0 0, .slice none 0 0, .slice none 0 0] 50) eu2
 have fu3 := Lib.cell?_alloc_some (.cells #[.slice none 0 0, .slice none 0 0, .slice none 0 0, .slice none 0 0, .slice none 0 0] 50) eu3
 clear eg0 eg1 eg2 eg3 eg4 eg5 eg6 eq0 eq1 eq2 ey0 ey1 ey2 ey3 ey4 eu0 eu1 eu2 eu3
 have hzhb4 := hb4.size
 clear g0 g1 g2 g3 g4 g5 g6 gf q0 q1 q2 qf y0 y1 y2 y3 y4 yf u0 u1 u2 u3 uf
 replace HM := bk HM hb4
 replace HD := bk HD hb4
 replace HY := bk HY hb4
 replace HA := bk HA hb4
 replace hB := bl_trans hB hb4
 obtain ⟨⟨g0, g1, g2⟩, ⟨g3, g4, g5, g6⟩, gf⟩ := cells7 HM
 obtain ⟨q0, q1, q2, qf⟩ := cells3 HD
 obtain ⟨⟨y0, y1, y2⟩, ⟨y3, y4⟩, yf⟩ := cells5 HY
 obtain ⟨⟨u0, u1⟩, ⟨u2, u3⟩, uf⟩ := cells4a HA
 replace HR := Lib.hid (HR.out.up hb4)
 replace HN := Lib.hid (HN.out.up hb4)
 replace HX := Lib.hid (HX.out.up hb4)
 clear hw4 hP4
 have HG := Lib.hid (spec_syGood _ _ _ _ m _ _ _ n _ _ _ _ _ x w4 HR.out HN.out HX.out hz)
 cases j1 : goodB m n x with
 | false =>
  have HF := Lib.hid (show mxB m n x ⟨ak, an, ap, aa⟩ = false by unfold mxB; rw [j1]; rfl)
  go_enter Tryz.func29, Tryz.ntmps29
  go_wp2_with fail
  rw [HP4.out, HP3.out, HP2.out, HP1.out, ← HWF.out]
  clear fg0 fg1 fg2 fg3 fg4 fg5 fg6 fq0 fq1 fq2 fy0 fy1 fy2 fy3 fy4 fu0 fu1 fu2 fu3
  refine HG.out.mono ?_
  rintro e w5 ⟨rfl, hb5⟩
  rw [j1]
  have hzhb5 := hb5.size
  clear g0 g1 g2 g3 g4 g5 g6 gf q0 q1 q2 qf y0 y1 y2 y3 y4 yf u0 u1 u2 u3 uf
  replace HM := bk HM hb5
  replace HD := bk HD hb5
  replace HY := bk HY hb5
  replace HA := bk HA hb5
  replace hB := bl_trans hB hb5
  obtain ⟨⟨g0, g1, g2⟩, ⟨g3, g4, g5, g6⟩, gf⟩ := cells7 HM
  obtain ⟨q0, q1, q2, qf⟩ := cells3 HD
  obtain ⟨⟨y0, y1, y2⟩, ⟨y3, y4⟩, yf⟩ := cells5 HY
  obtain ⟨⟨u0, u1⟩, ⟨u2, u3⟩, uf⟩ := cells4a HA
  replace HQ := bk HQ hb5
  replace HR := Lib.hid (HR.out.up hb5)
  replace HN := Lib.hid (HN.out.up hb5)
  replace HX := Lib.hid (HX.out.up hb5)
  obtain ⟨we, hwe, HE, hge⟩ := set5 HQ (.slice none 0 0) (.slice none 0 0) (.slice none 0 0) (.slice none 0 0) (.slice none 0 0)
  have HWE := Lib.hid hwe
  clear hwe
  obtain ⟨⟨t0, t1, t2⟩, ⟨t3, t4⟩, tf⟩ := cells5 HQ
  go_wp2_with fail
  rw [← HWE.out]
  obtain ⟨⟨s0, s1, s2⟩, ⟨s3, s4⟩, -⟩ := cells5 HE
  have hzB := hB.size
  have hBE : Below w.heap.size w we := Below.grown hB hge (by omega) (fun k hk => by have e := Option.some.inj (show some P4 = some k from hk); omega)
  exact bodyPost_ret (v := .tuple #[.agg #[.slice none 0 0, .slice none 0 0, .slice none 0 0, .slice none 0 0, .slice none 0 0], .bool false]) (by simp [results, Tryz.results29, go_sem, s0, s1, s2, s3, s4]) rfl ⟨_, _, _, _, _, by rw [HF.out], hBE, ResA.no HF.out⟩
 | true =>
  have HP := Lib.hid (propB_iff.1 j1)
  have HF0 := Lib.hid (show mxB m n x ⟨ak, an, ap, aa⟩ = mayB n x ⟨ak, an, ap, aa⟩ by unfold mxB; rw [j1]; rfl)
  go_enter Tryz.func29, Tryz.ntmps29
  go_wp2_with fail
  rw [HP4.out, HP3.out, HP2.out, HP1.out, ← HWF.out]
  clear fg0 fg1 fg2 fg3 fg4 fg5 fg6 fq0 fq1 fq2 fy0 fy1 fy2 fy3 fy4 fu0 fu1 fu2 fu3
  refine HG.out.mono ?_
  rintro e w5 ⟨rfl, hb5⟩
  rw [j1]
  have hzhb5 := hb5.size
  clear g0 g1 g2 g3 g4 g5 g6 gf q0 q1 q2 qf y0 y1 y2 y3 y4 yf u0 u1 u2 u3 uf
  replace HM := bk HM hb5
  replace HD := bk HD hb5
  replace HY := bk HY hb5
  replace HA := bk HA hb5
  replace hB := bl_trans hB hb5
  obtain ⟨⟨g0, g1, g2⟩, ⟨g3, g4, g5, g6⟩, gf⟩ := cells7 HM
  obtain ⟨q0, q1, q2, qf⟩ := cells3 HD
  obtain ⟨⟨y0, y1, y2⟩, ⟨y3, y4⟩, yf⟩ := cells5 HY
  obtain ⟨⟨u0, u1⟩, ⟨u2, u3⟩, uf⟩ := cells4a HA
  replace HQ := bk HQ hb5
  replace HR := Lib.hid (HR.out.up hb5)
  replace HN := Lib.hid (HN.out.up hb5)
  replace HX := Lib.hid (HX.out.up hb5)
  go_wp2_with fail
  refine (spec_syDo _ _ _ _ m _ _ _ n _ _ _ _ _ x ak an ap aa w5 HR.out HN.out HX.out HP.out).mono ?_
  rintro e w6 ⟨v0, v1, v2, v3, v4, rfl, hb6, hdid⟩
  have HDI := Lib.hid hdid
  obtain ⟨⟨D0, N0, K0, ev0⟩, ⟨D1, N1, K1, ev1⟩, ⟨D2, N2, K2, ev2⟩, ⟨D3, N3, K3, ev3⟩, D4, N4, K4, ev4⟩ := hdid.slices ⟨_, _, _, rfl⟩ ⟨_, _, _, rfl⟩ ⟨_, _, _, rfl⟩ ⟨_, _, _, rfl⟩ ⟨_, _, _, rfl⟩
  have HV0 := Lib.hid ev0
  have HV1 := Lib.hid ev1
  have HV2 := Lib.hid ev2
  have HV3 := Lib.hid ev3
  have HV4 := Lib.hid ev4
  have hs56 : w.heap.size ≤ w5.heap.size := hB.size
  rw [ev0, ev1, ev2, ev3, ev4]
  clear hdid ev0 ev1 ev2 ev3 ev4
  have hzhb6 := hb6.size
  clear g0 g1 g2 g3 g4 g5 g6 gf q0 q1 q2 qf y0 y1 y2 y3 y4 yf u0 u1 u2 u3 uf
  replace HM := bk HM hb6
  replace HD := bk HD hb6
  replace HY := bk HY hb6
  replace HA := bk HA hb6
  replace hB := bl_trans hB hb6
  obtain ⟨⟨g0, g1, g2⟩, ⟨g3, g4, g5, g6⟩, gf⟩ := cells7 HM
  obtain ⟨q0, q1, q2, qf⟩ := cells3 HD
  obtain ⟨⟨y0, y1, y2⟩, ⟨y3, y4⟩, yf⟩ := cells5 HY
  obtain ⟨⟨u0, u1⟩, ⟨u2, u3⟩, uf⟩ := cells4a HA
  replace HQ := bk HQ hb6
  obtain ⟨w7, hw7, hb7, HB7, hzB8, HSB8⟩ := box5 w6 (.slice D0 N0 K0) (.slice D1 N1 K1) (.slice D2 N2 K2) (.slice D3 N3 K3) (.slice D4 N4 K4) 50
  obtain ⟨P7, hP7⟩ : ∃ z, z = w6.heap.size := ⟨_, rfl⟩
  have HPB := Lib.hid hP7
  have HWB := Lib.hid hw7
  rw [← hP7] at HB7 hzB8
  clear hP7 hw7
  have hzhb7 := hb7.size
  clear g0 g1 g2 g3 g4 g5 g6 gf q0 q1 q2 qf y0 y1 y2 y3 y4 yf u0 u1 u2 u3 uf
  replace HM := bk HM hb7
  replace HD := bk HD hb7
  replace HY := bk HY hb7
  replace HA := bk HA hb7
  replace hB := bl_trans hB hb7
  obtain ⟨⟨g0, g1, g2⟩, ⟨g3, g4, g5, g6⟩, gf⟩ := cells7 HM
  obtain ⟨q0, q1, q2, qf⟩ := cells3 HD
  obtain ⟨⟨y0, y1, y2⟩, ⟨y3, y4⟩, yf⟩ := cells5 HY
  obtain ⟨⟨u0, u1⟩, ⟨u2, u3⟩, uf⟩ := cells4a HA
  replace HQ := bk HQ hb7
  obtain ⟨⟨o0, o1, o2⟩, ⟨o3, o4⟩, of⟩ := cells5 HB7
  obtain ⟨⟨t0, t1, t2⟩, ⟨t3, t4⟩, tf⟩ := cells5 HQ
  have eg0 := g0
  have eg1 := g1
  have eg2 := g2
  have eg3 := g3
  have eg4 := g4
  have eg5 := g5
  have eg6 := g6
  have eq0 := q0
  have eq1 := q1
  have eq2 := q2
  have ey0 := y0
  have ey1 := y1
  have ey2 := y2
  have ey3 := y3
  have ey4 := y4
  have eu0 := u0
  have eu1 := u1
  have eu2 := u2
  have eu3 := u3
  have et0 := t0
  have et1 := t1
  have et2 := t2
  have et3 := t3
  have et4 := t4
  have etf := tf
  have eo0 := o0
  have eo1 := o1
  have eo2 := o2
  have eo3 := o3
  have eo4 := o4
  rw [HWB.out] at eg0 eg1 eg2 eg3 eg4 eg5 eg6 eq0 eq1 eq2 ey0 ey1 ey2 ey3 ey4 eu0 eu1 eu2 eu3 et0 et1 et2 et3 et4 etf eo0 eo1 eo2 eo3 eo4
  rw [HPB.out] at eo0 eo1 eo2 eo3 eo4
  cases j2 : mayB n x ⟨ak, an, ap, aa⟩ with
  | false =>
   have HF := Lib.hid (show mxB m n x ⟨ak, an, ap, aa⟩ = false by rw [HF0.out, j2])
   obtain ⟨we, hwe, HE, hge⟩ := set5 HQ (.slice none 0 0) (.slice none 0 0) (.slice none 0 0) (.slice none 0 0) (.slice none 0 0)
   have HWE := Lib.hid hwe
   clear hwe
   go_wp2_with fail
   rw [← HWB.out]
   rw [← HWE.out]
   obtain ⟨⟨s0, s1, s2⟩, ⟨s3, s4⟩, -⟩ := cells5 HE
   have hzB := hB.size
   have hBE : Below w.heap.size w we := Below.grown hB hge (by omega) (fun k hk => by have e := Option.some.inj (show some P4 = some k from hk); omega)
   exact bodyPost_ret (v := .tuple #[.agg #[.slice none 0 0, .slice none 0 0, .slice none 0 0, .slice none 0 0, .slice none 0 0], .bool false]) (by simp [results, Tryz.results29, go_sem, s0, s1, s2, s3, s4]) rfl ⟨_, _, _, _, _, by rw [HF.out], hBE, ResA.no HF.out⟩
  | true =>
   have HF := Lib.hid (show mxB m n x ⟨ak, an, ap, aa⟩ = true by rw [HF0.out, j2])
   obtain ⟨we, hwe, HE, hge⟩ := set5 HQ (.slice D0 N0 K0) (.slice D1 N1 K1) (.slice D2 N2 K2) (.slice D3 N3 K3) (.slice D4 N4 K4)
   have HWE := Lib.hid hwe
   clear hwe
   go_wp2_with fail
   rw [← HWB.out]
   rw [← HWE.out]
   obtain ⟨⟨s0, s1, s2⟩, ⟨s3, s4⟩, -⟩ := cells5 HE
   have hzB := hB.size
   have hBE : Below w.heap.size w we := Below.grown hB hge (by omega) (fun k hk => by have e := Option.some.inj (show some P4 = some k from hk); omega)
   obtain ⟨val, q0', q1', q2', q3', q4', hk⟩ := HDI.out.1 j2
   have hk7 := AsyK.up hk hb7
   have HKF := Lib.hid (OwnK.mono (OwnK.apart hk7 hge (fun j hj e => by have := ((hk7.own j hj).lt P4 e).1; omega)) hs56)
   exact bodyPost_ret (v := .tuple #[.agg #[.slice D0 N0 K0, .slice D1 N1 K1, .slice D2 N2 K2, .slice D3 N3 K3, .slice D4 N4 K4], .bool true]) (by simp [results, Tryz.results29, go_sem, s0, s1, s2, s3, s4]) rfl ⟨_, _, _, _, _, by rw [HF.out], hBE, fun _ => ⟨val, by rw [← HV0.out, q0'], by rw [← HV1.out, q1'], by rw [← HV2.out, q2'], by rw [← HV3.out, q3'], by rw [← HV4.out, q4'], HKF.out⟩, fun h => by rw [HF.out] at h; cases h⟩
set_option maxRecDepth 100000 in
set_option maxHeartbeats 2000000 in
theorem impl_DoAsync (vs ve vc vo : Value) (m : Mach) (ne ni nn : Value) (n : Net) (xr xb xn xs xf : Value) (x : Asy) (ak an ap aa : Int) (w : World) (hm : MachR w w.heap.size vs ve vc vo m) (hn : NetR w w.heap.size ne ni nn n) (hx : AsyR w w.heap.size xr xb xn xs xf x)
  (hz : n.es.length ≤ 2000000) (hzi : n.ids.length ≤ 2000000) :
  Calls Tryz.prog 30 #[machV vs ve vc vo m, .agg #[ne, ni, nn], .agg #[xr, xb, xn, xs, xf], .agg #[.int .i64 ak, .int .i64 an, .int .i64 ap, .int .i64 aa]] w fun e w' => ∃ ur ub un us uf, e = .returned (.tuple #[.agg #[ur, ub, un, us, uf], .bool (mxB m n x ⟨ak, an, ap, aa⟩)]) ∧ Below w.heap.size w w' ∧ ResA (mxB m n x ⟨ak, an, ap, aa⟩) w' w.heap.size ur ub un us uf (doA m n x ⟨ak, an, ap, aa⟩) := by
 unfold machV
 obtain ⟨⟨A0, m0, c0, rfl⟩, ⟨A1, m1, c1, rfl⟩, ⟨A2, m2, c2, rfl⟩, A3, m3, c3, rfl⟩ := hm.slices
 obtain ⟨⟨A4, m4, c4, rfl⟩, ⟨A5, m5, c5, rfl⟩, A6, m6, c6, rfl⟩ := hn.slices
 obtain ⟨⟨A10, m10, c10, rfl⟩, ⟨A11, m11, c11, rfl⟩, ⟨A12, m12, c12, rfl⟩, ⟨A8, m8, c8, rfl⟩, A9, m9, c9, rfl⟩ := hx.slices
 obtain ⟨w0, hw0, hb0, HM, hz0, HS0⟩ := box7 w (.int .i64 m.deg) (.int .i64 m.st) (.int .i64 m.msg) (.slice A0 m0 c0) (.slice A1 m1 c1) (.slice A2 m2 c2) (.slice A3 m3 c3) 42
 obtain ⟨w1, hw1, hb1, HD, hz1, HS1⟩ := box3 w0 (.slice A4 m4 c4) (.slice A5 m5 c5) (.slice A6 m6 c6) 46
 replace HM := bk HM hb1
 obtain ⟨w2, hw2, hb2, HY, hz2, HS2⟩ := box5 w1 (.slice A10 m10 c10) (.slice A11 m11 c11) (.slice A12 m12 c12) (.slice A8 m8 c8) (.slice A9 m9 c9) 50
 replace HM := bk HM hb2
 replace HD := bk HD hb2
 obtain ⟨w3, hw3, hb3, HA, hz3, HS3⟩ := box4a w2 (.int .i64 ak) (.int .i64 an) (.int .i64 ap) (.int .i64 aa) 52
 replace HM := bk HM hb3
 replace HD := bk HD hb3
 replace HY := bk HY hb3
 have hB : Below w.heap.size w w3 := bl_trans (bl_trans (bl_trans (hb0) hb1) hb2) hb3
 have HW := Lib.hid (show w3 = (((w.alloc (.cells #[.int .i64 m.deg, .int .i64 m.st, .int .i64 m.msg, .slice A0 m0 c0, .slice A1 m1 c1, .slice A2 m2 c2, .slice A3 m3 c3] 42)).alloc (.cells #[.slice A4 m4 c4, .slice A5 m5 c5, .slice A6 m6 c6] 46)).alloc (.cells #[.slice A10 m10 c10, .slice A11 m11 c11, .slice A12 m12 c12, .slice A8 m8 c8, .slice A9 m9 c9] 50)).alloc (.cells #[.int .i64 ak, .int .i64 an, .int .i64 ap, .int .i64 aa] 52) by rw [hw3, hw2, hw1, hw0])
 obtain ⟨P1, hP1⟩ : ∃ z, z = w0.heap.size := ⟨_, rfl⟩
 have HP1 := Lib.hid (show w.heap.size + 1 = P1 by rw [hP1, HS0.out])
 have hPl1 : w.heap.size < P1 := by rw [← HP1.out]; omega
 rw [← hP1] at HD hz1
 obtain ⟨P2, hP2⟩ : ∃ z, z = w1.heap.size := ⟨_, rfl⟩
 have HP2 := Lib.hid (show w.heap.size + 1 + 1 = P2 by rw [hP2, HS1.out, HS0.out])
 have hPl2 : w.heap.size < P2 := by rw [← HP2.out]; omega
 rw [← hP2] at HY hz2
 obtain ⟨P3, hP3⟩ : ∃ z, z = w2.heap.size := ⟨_, rfl⟩
 have HP3 := Lib.hid (show w.heap.size + 1 + 1 + 1 = P3 by rw [hP3, HS2.out, HS1.out, HS0.out])
 have hPl3 : w.heap.size < P3 := by rw [← HP3.out]; omega
 rw [← hP3] at HA hz3
 obtain ⟨⟨g0, g1, g2⟩, ⟨g3, g4, g5, g6⟩, gf⟩ := cells7 HM
 obtain ⟨q0, q1, q2, qf⟩ := cells3 HD
 obtain ⟨⟨y0, y1, y2⟩, ⟨y3, y4⟩, yf⟩ := cells5 HY
 obtain ⟨⟨u0, u1⟩, ⟨u2, u3⟩, uf⟩ := cells4a HA
 have eg0 := g0
 have eg1 := g1
 have eg2 := g2
 have eg3 := g3
 have eg4 := g4
 have eg5 := g5
 have eg6 := g6
 have eq0 := q0
 have eq1 := q1
 have eq2 := q2
 have ey0 := y0
 have ey1 := y1
 have ey2 := y2
 have ey3 := y3
 have ey4 := y4
 have eu0 := u0
 have eu1 := u1
 have eu2 := u2
 have eu3 := u3
 rw [HW.out] at eg0 eg1 eg2 eg3 eg4 eg5 eg6 eq0 eq1 eq2 ey0 ey1 ey2 ey3 ey4 eu0 eu1 eu2 eu3
 rw [← HP1.out] at eq0 eq1 eq2
 rw [← HP2.out] at ey0 ey1 ey2 ey3 ey4
 rw [← HP3.out] at eu0 eu1 eu2 eu3
 have hzb0 : w.heap.size < w3.heap.size := by omega
 have hzb1 : P1 < w3.heap.size := by omega
 have hzb2 : P2 < w3.heap.size := by omega
 have hzb3 : P3 < w3.heap.size := by omega
 have HR := Lib.hid (hm.up hB)
 have HN := Lib.hid (hn.up hB)
 have HX := Lib.hid (hx.up hB)
 clear hw3 hw2 hw1 hw0 hP1 hP2 hP3
 obtain ⟨w4, hw4, hb4, HQ, hz4, HS4⟩ := box5 w3 (.slice none 0 0) (.slice none 0 0) (.slice none 0 0) (.slice none 0 0) (.slice none 0 0) 50
 obtain ⟨P4, hP4⟩ : ∃ z, z = w3.heap.size := ⟨_, rfl⟩
 have HP4 := Lib.hid (show w.heap.size + 1 + 1 + 1 + 1 = P4 by rw [hP4, HS3.out, HS2.out, HS1.out, HS0.out])
 rw [← hP4] at HQ hz4
 have hPl4 : w.heap.size < P4 := by rw [← HP4.out]; omega
 have HWF := Lib.hid (show w4 = _ by rw [hw4, HW.out])
 have fg0 := Lib.cell?_alloc_some (.cells #[.slice none 0 0, .slice none 0 0, .slice none 0 0, .slice none 0 0, .slice none 0 0] 50) eg0
 have fg1 := Lib.cell?_alloc_some (.cells #[.slice none 0 0, .slice none 0 0, .slice none 0 0, .slice none 0 0, .slice none 0 0] 50) eg1
 have fg2 := Lib.cell?_alloc_some (.cells #[.slice none 0 0, .slice none 0 0, .slice none 0 0, .slice none 0 0, .slice none 0 0] 50) eg2
 have fg3 := Lib.cell?_alloc_some (.cells #[.slice none 0 0, .slice none 0 0, .slice none 0 0, .slice none 0 0, .slice none 0 0] 50) eg3
 have fg4 := Lib.cell?_alloc_some (.cells #[.slice none 0 0, .slice none 0 0, .slice none 0 0, .slice none 0 0, .slice none 0 0] 50) eg4
 have fg5 := Lib.cell?_alloc_some (.cells #[.slice none 0 0, .slice none 0 0, .slice none 0 0, .slice none 0 0, .slice none 0 0] 50) eg5
 have fg6 := Lib.cell?_alloc_some (.cells #[.slice none 0 0, .slice none 0 0, .slice none 0 0, .slice none 0 0, .slice none 0 0] 50) eg6
 have fq0 := Lib.cell?_alloc_some (.cells #[.slice none 0 0, .slice none 0 0, .slice none 0 0, .slice none 0 0, .slice none 0 0] 50) eq0
 have fq1 := Lib.cell?_alloc_some (.cells #[.slice none 0 0, .slice none 0 0, .slice none 0 0, .slice none 0 0, .slice none 0 0] 50) eq1
 have fq2 := Lib.cell?_alloc_some (.cells #[.slice none 0 0, .slice none 0 0, .slice none 0 0, .slice none 0 0, .slice none 0 0] 50) eq2
 have fy0 := Lib.cell?_alloc_some (.cells #[.slice none 0 0, .slice none 0 0, .slice none 0 0, .slice none 0 0, .slice none 0 0] 50) ey0
 have fy1 := Lib.cell?_alloc_some (.cells #[.slice none 0 0, .slice none 0 0, .slice none 0 0, .slice none 0 0, .slice none 0 0] 50) ey1
 have fy2 := Lib.cell?_alloc_some (.cells #[.slice none 0 0, .slice none 0 0, .slice none 0 0, .slice none 0 0, .slice none 0 0] 50) ey2
 have fy3 := Lib.cell?_alloc_some (.cells #[.slice none 0 0, .slice none 0 0, .slice none 0 0, .slice none 0 0, .slice none 0 0] 50) ey3
 have fy4 := Lib.cell?_alloc_some (.cells #[.slice none 0 0, .slice none 0 0, .slice none 0 0, .slice none 0 0, .slice none 0 0] 50) ey4
 have fu0 := Lib.cell?_alloc_some (.cells #[.slice none 0 0, .slice none 0 0, .slice none 0 0, .slice none 0 0, .slice none 0 0] 50) eu0
 have fu1 := Lib.cell?_alloc_some (.cells #[.slice none 0 0, .slice none 0 0, .slice none 0 0, .slice none 0 0, .slice none 0 0] 50) eu1
 have fu2 := Lib.cell?_alloc_some (.cells #[.slice none 0 0, .slice none 0 0, .slice none 0 0, .slice none 0 0, .slice none 0 0] 50) eu2
 have fu3 := Lib.cell?_alloc_some (.cells #[.slice none 0 0, .slice none 0 0, .slice none 0 0, .slice none 0 0, .slice none 0 0] 50) eu3
 clear eg0 eg1 eg2 eg3 eg4 eg5 eg6 eq0 eq1 eq2 ey0 ey1 ey2 ey3 ey4 eu0 eu1 eu2 eu3
 have hzhb4 := hb4.size
 clear g0 g1 g2 g3 g4 g5 g6 gf q0 q1 q2 qf y0 y1 y2 y3 y4 yf u0 u1 u2 u3 uf
 replace HM := bk HM hb4
 replace HD := bk HD hb4
 replace HY := bk HY hb4
 replace HA := bk HA hb4
 replace hB := bl_trans hB hb4
 obtain ⟨⟨g0, g1, g2⟩, ⟨g3, g4, g5, g6⟩, gf⟩ := cells7 HM
 obtain ⟨q0, q1, q2, qf⟩ := cells3 HD
 obtain ⟨⟨y0, y1, y2⟩, ⟨y3, y4⟩, yf⟩ := cells5 HY
 obtain ⟨⟨u0, u1⟩, ⟨u2, u3⟩, uf⟩ := cells4a HA
 replace HR := Lib.hid (HR.out.up hb4)
 replace HN := Lib.hid (HN.out.up hb4)
 replace HX := Lib.hid (HX.out.up hb4)
 clear hw4 hP4
 have HG := Lib.hid (impl_IsAsyncState _ _ _ _ m _ _ _ n _ _ _ _ _ x w4 HR.out HN.out HX.out hz hzi)
 cases j1 : goodB m n x with
 | false =>
  have HF := Lib.hid (show mxB m n x ⟨ak, an, ap, aa⟩ = false by unfold mxB; rw [j1]; rfl)
  go_enter Tryz.func30, Tryz.ntmps30
  go_wp2_with fail
  rw [HP4.out, HP3.out, HP2.out, HP1.out, ← HWF.out]
  clear fg0 fg1 fg2 fg3 fg4 fg5 fg6 fq0 fq1 fq2 fy0 fy1 fy2 fy3 fy4 fu0 fu1 fu2 fu3
  refine HG.out.mono ?_
  rintro e w5 ⟨rfl, hb5⟩
  rw [j1]
  have hzhb5 := hb5.size
  clear g0 g1 g2 g3 g4 g5 g6 gf q0 q1 q2 qf y0 y1 y2 y3 y4 yf u0 u1 u2 u3 uf
  replace HM := bk HM hb5
  replace HD := bk HD hb5
  replace HY := bk HY hb5
  replace HA := bk HA hb5
  replace hB := bl_trans hB hb5
  obtain ⟨⟨g0, g1, g2⟩, ⟨g3, g4, g5, g6⟩, gf⟩ := cells7 HM
  obtain ⟨q0, q1, q2, qf⟩ := cells3 HD
  obtain ⟨⟨y0, y1, y2⟩, ⟨y3, y4⟩, yf⟩ := cells5 HY
  obtain ⟨⟨u0, u1⟩, ⟨u2, u3⟩, uf⟩ := cells4a HA
  replace HQ := bk HQ hb5
  replace HR := Lib.hid (HR.out.up hb5)
  replace HN := Lib.hid (HN.out.up hb5)
  replace HX := Lib.hid (HX.out.up hb5)
  obtain ⟨we, hwe, HE, hge⟩ := set5 HQ (.slice none 0 0) (.slice none 0 0) (.slice none 0 0) (.slice none 0 0) (.slice none 0 0)
  have HWE := Lib.hid hwe
  clear hwe
  obtain ⟨⟨t0, t1, t2⟩, ⟨t3, t4⟩, tf⟩ := cells5 HQ
  go_wp2_with fail
  rw [← HWE.out]
  obtain ⟨⟨s0, s1, s2⟩, ⟨s3, s4⟩, -⟩ := cells5 HE
  have hzB := hB.size
  have hBE : Below w.heap.size w we := Below.grown hB hge (by omega) (fun k hk => by have e := Option.some.inj (show some P4 = some k from hk); omega)
  exact bodyPost_ret (v := .tuple #[.agg #[.slice none 0 0, .slice none 0 0, .slice none 0 0, .slice none 0 0, .slice none 0 0], .bool false]) (by simp [results, Tryz.results30, go_sem, s0, s1, s2, s3, s4]) rfl ⟨_, _, _, _, _, by rw [HF.out], hBE, ResA.no HF.out⟩
 | true =>
  have hgp := propB_iff.1 j1
  have HP := Lib.hid hgp
  have HSM := Lib.hid (small_of hgp.1.2.1 hgp.2)
  have HF0 := Lib.hid (show mxB m n x ⟨ak, an, ap, aa⟩ = mayB n x ⟨ak, an, ap, aa⟩ by unfold mxB; rw [j1]; rfl)
  clear hgp
  go_enter Tryz.func30, Tryz.ntmps30
  go_wp2_with fail
  rw [HP4.out, HP3.out, HP2.out, HP1.out, ← HWF.out]
  clear fg0 fg1 fg2 fg3 fg4 fg5 fg6 fq0 fq1 fq2 fy0 fy1 fy2 fy3 fy4 fu0 fu1 fu2 fu3
  refine HG.out.mono ?_
  rintro e w5 ⟨rfl, hb5⟩
  rw [j1]
  have hzhb5 := hb5.size
  clear g0 g1 g2 g3 g4 g5 g6 gf q0 q1 q2 qf y0 y1 y2 y3 y4 yf u0 u1 u2 u3 uf
  replace HM := bk HM hb5
  replace HD := bk HD hb5
  replace HY := bk HY hb5
  replace HA := bk HA hb5
  replace hB := bl_trans hB hb5
  obtain ⟨⟨g0, g1, g2⟩, ⟨g3, g4, g5, g6⟩, gf⟩ := cells7 HM
  obtain ⟨q0, q1, q2, qf⟩ := cells3 HD
  obtain ⟨⟨y0, y1, y2⟩, ⟨y3, y4⟩, yf⟩ := cells5 HY
  obtain ⟨⟨u0, u1⟩, ⟨u2, u3⟩, uf⟩ := cells4a HA
  replace HQ := bk HQ hb5
  replace HR := Lib.hid (HR.out.up hb5)
  replace HN := Lib.hid (HN.out.up hb5)
  replace HX := Lib.hid (HX.out.up hb5)
  go_wp2_with fail
  refine (impl_mayAsync m _ _ _ n _ _ _ _ _ x ak an ap aa w5 HN.out HX.out hz HP.out.1.2.1 HP.out.2).mono ?_
  rintro e w6 ⟨rfl, hb6⟩
  have hzhb6 := hb6.size
  clear g0 g1 g2 g3 g4 g5 g6 gf q0 q1 q2 qf y0 y1 y2 y3 y4 yf u0 u1 u2 u3 uf
  replace HM := bk HM hb6
  replace HD := bk HD hb6
  replace HY := bk HY hb6
  replace HA := bk HA hb6
  replace hB := bl_trans hB hb6
  obtain ⟨⟨g0, g1, g2⟩, ⟨g3, g4, g5, g6⟩, gf⟩ := cells7 HM
  obtain ⟨q0, q1, q2, qf⟩ := cells3 HD
  obtain ⟨⟨y0, y1, y2⟩, ⟨y3, y4⟩, yf⟩ := cells5 HY
  obtain ⟨⟨u0, u1⟩, ⟨u2, u3⟩, uf⟩ := cells4a HA
  replace HQ := bk HQ hb6
  replace HR := Lib.hid (HR.out.up hb6)
  replace HN := Lib.hid (HN.out.up hb6)
  replace HX := Lib.hid (HX.out.up hb6)
  cases j2 : mayB n x ⟨ak, an, ap, aa⟩ with
  | false =>
   have HF := Lib.hid (show mxB m n x ⟨ak, an, ap, aa⟩ = false by rw [HF0.out, j2])
   obtain ⟨we, hwe, HE, hge⟩ := set5 HQ (.slice none 0 0) (.slice none 0 0) (.slice none 0 0) (.slice none 0 0) (.slice none 0 0)
   have HWE := Lib.hid hwe
   clear hwe
   obtain ⟨⟨t0, t1, t2⟩, ⟨t3, t4⟩, tf⟩ := cells5 HQ
   go_wp2_with fail
   rw [← HWE.out]
   obtain ⟨⟨s0, s1, s2⟩, ⟨s3, s4⟩, -⟩ := cells5 HE
   have hzB := hB.size
   have hBE : Below w.heap.size w we := Below.grown hB hge (by omega) (fun k hk => by have e := Option.some.inj (show some P4 = some k from hk); omega)
   exact bodyPost_ret (v := .tuple #[.agg #[.slice none 0 0, .slice none 0 0, .slice none 0 0, .slice none 0 0, .slice none 0 0], .bool false]) (by simp [results, Tryz.results30, go_sem, s0, s1, s2, s3, s4]) rfl ⟨_, _, _, _, _, by rw [HF.out], hBE, ResA.no HF.out⟩
  | true =>
   have HF := Lib.hid (show mxB m n x ⟨ak, an, ap, aa⟩ = true by rw [HF0.out, j2])
   go_wp2_with fail
   refine (impl_copyAsync _ _ _ _ _ x w6 HX.out HSM.out).mono ?_
   rintro e w7 ⟨val, rfl, hk7, hb7⟩
   obtain ⟨D0, K0, ev0⟩ := own_sl1 (hk7.own .r trivial)
   have HV0 := Lib.hid ev0
   generalize (rowK x val .r).len = N0 at HV0
   clear ev0
   obtain ⟨D1, K1, ev1⟩ := own_sl1 (hk7.own .b trivial)
   have HV1 := Lib.hid ev1
   generalize (rowK x val .b).len = N1 at HV1
   clear ev1
   obtain ⟨D2, K2, ev2⟩ := own_sl1 (hk7.own .n trivial)
   have HV2 := Lib.hid ev2
   generalize (rowK x val .n).len = N2 at HV2
   clear ev2
   obtain ⟨D3, K3, ev3⟩ := own_sl1 (hk7.own .s trivial)
   have HV3 := Lib.hid ev3
   generalize (rowK x val .s).len = N3 at HV3
   clear ev3
   obtain ⟨D4, K4, ev4⟩ := own_sl1 (hk7.own .f trivial)
   have HV4 := Lib.hid ev4
   generalize (rowK x val .f).len = N4 at HV4
   clear ev4
   have HVK := Lib.hid (show Value.agg #[val .r, val .b, val .n, val .s, val .f] = .agg #[.slice D0 N0 K0, .slice D1 N1 K1, .slice D2 N2 K2, .slice D3 N3 K3, .slice D4 N4 K4] by rw [HV0.out, HV1.out, HV2.out, HV3.out, HV4.out])
   rw [HVK.out]
   have hkn7 : ∀ j, keyOf x j → ∀ g, (val j).ownBlock = some g → w6.heap.size ≤ g ∧ g < w7.heap.size := fun j hj g hg => (hk7.own j hj).lt g hg
   have HKN := Lib.hid hkn7
   have HK7 := Lib.hid hk7
   have hB6 : Below w.heap.size w w6 := hB
   have hs6 : w.heap.size ≤ w6.heap.size := hB.size
   have hP46 : P4 < w6.heap.size := by omega
   clear hkn7 hk7
   have hzhb7 := hb7.size
   clear g0 g1 g2 g3 g4 g5 g6 gf q0 q1 q2 qf y0 y1 y2 y3 y4 yf u0 u1 u2 u3 uf
   replace HM := bk HM hb7
   replace HD := bk HD hb7
   replace HY := bk HY hb7
   replace HA := bk HA hb7
   replace hB := bl_trans hB hb7
   obtain ⟨⟨g0, g1, g2⟩, ⟨g3, g4, g5, g6⟩, gf⟩ := cells7 HM
   obtain ⟨q0, q1, q2, qf⟩ := cells3 HD
   obtain ⟨⟨y0, y1, y2⟩, ⟨y3, y4⟩, yf⟩ := cells5 HY
   obtain ⟨⟨u0, u1⟩, ⟨u2, u3⟩, uf⟩ := cells4a HA
   replace HQ := bk HQ hb7
   obtain ⟨w8, hw8, hb8, HB8, hzB8, HSB8⟩ := box5 w7 (.slice D0 N0 K0) (.slice D1 N1 K1) (.slice D2 N2 K2) (.slice D3 N3 K3) (.slice D4 N4 K4) 50
   obtain ⟨P8, hP8⟩ : ∃ z, z = w7.heap.size := ⟨_, rfl⟩
   have HPB := Lib.hid hP8
   have HWB := Lib.hid hw8
   rw [← hP8] at HB8 hzB8
   clear hP8 hw8
   have hP87 : w7.heap.size = P8 := HPB.out.symm
   have hzhb8 := hb8.size
   clear g0 g1 g2 g3 g4 g5 g6 gf q0 q1 q2 qf y0 y1 y2 y3 y4 yf u0 u1 u2 u3 uf
   replace HM := bk HM hb8
   replace HD := bk HD hb8
   replace HY := bk HY hb8
   replace HA := bk HA hb8
   replace hB := bl_trans hB hb8
   obtain ⟨⟨g0, g1, g2⟩, ⟨g3, g4, g5, g6⟩, gf⟩ := cells7 HM
   obtain ⟨q0, q1, q2, qf⟩ := cells3 HD
   obtain ⟨⟨y0, y1, y2⟩, ⟨y3, y4⟩, yf⟩ := cells5 HY
   obtain ⟨⟨u0, u1⟩, ⟨u2, u3⟩, uf⟩ := cells4a HA
   replace HQ := bk HQ hb8
   obtain ⟨⟨o0, o1, o2⟩, ⟨o3, o4⟩, of⟩ := cells5 HB8
   obtain ⟨⟨t0, t1, t2⟩, ⟨t3, t4⟩, tf⟩ := cells5 HQ
   have eg0 := g0
   have eg1 := g1
   have eg2 := g2
   have eg3 := g3
   have eg4 := g4
   have eg5 := g5
   have eg6 := g6
   have eq0 := q0
   have eq1 := q1
   have eq2 := q2
   have ey0 := y0
   have ey1 := y1
   have ey2 := y2
   have ey3 := y3
   have ey4 := y4
   have eu0 := u0
   have eu1 := u1
   have eu2 := u2
   have eu3 := u3
   have et0 := t0
   have et1 := t1
   have et2 := t2
   have et3 := t3
   have et4 := t4
   have etf := tf
   have eo0 := o0
   have eo1 := o1
   have eo2 := o2
   have eo3 := o3
   have eo4 := o4
   rw [HWB.out] at eg0 eg1 eg2 eg3 eg4 eg5 eg6 eq0 eq1 eq2 ey0 ey1 ey2 ey3 ey4 eu0 eu1 eu2 eu3 et0 et1 et2 et3 et4 etf eo0 eo1 eo2 eo3 eo4
   rw [HPB.out] at eo0 eo1 eo2 eo3 eo4
   have h68 : w6.heap.size ≤ w8.heap.size := by omega
   have HAB := Lib.hid (show AsyB w8 w6.heap.size val x P8 from ⟨AsyK.up HK7.out hb8, fun j hj e => by have := HKN.out j hj P8 e; omega, by rw [HB8.out, HV0.out, HV1.out, HV2.out, HV3.out, HV4.out]⟩)
   have HR8 := Lib.hid (HR.out.to (hb7.trans (hb8.mono hb7.size)) (Nat.le_refl _))
   have HN8 := Lib.hid (HN.out.below (hb7.trans (hb8.mono hb7.size)))
   go_wp2_with fail
   rw [← HWB.out]
   clear eg0 eg1 eg2 eg3 eg4 eg5 eg6 eq0 eq1 eq2 ey0 ey1 ey2 ey3 ey4 eu0 eu1 eu2 eu3 et0 et1 et2 et3 et4 etf eo0 eo1 eo2 eo3 eo4
   refine (impl_doAsync _ _ _ _ m _ _ _ n val x w6.heap.size P8 ak an ap aa w8 HR8.out HN8.out HAB.out h68 HP.out j2).mono ?_
   rintro e w9 ⟨rfl, hb9, hf9, val', hsh, hab9⟩
   obtain ⟨q0', q1', q2', q3', q4'⟩ := hsh
   have hbx := hab9.box
   rw [q0', q1', q2', q3', q4', HV0.out, HV1.out, HV2.out, HV3.out, HV4.out] at hbx
   replace HB8 := Lib.hid hbx
   replace HQ := bk HQ hb9
   have hB9 : Below w.heap.size w w9 := bl_trans hB6 (hb7.trans ((hb8.mono hb7.size).trans hb9))
   have HK9 := Lib.hid hab9.k
   clear hbx hab9
   clear o0 o1 o2 o3 o4 of
   obtain ⟨⟨o0, o1, o2⟩, ⟨o3, o4⟩, of⟩ := cells5 HB8
   obtain ⟨we, hwe, HE, hge⟩ := set5 HQ (.slice D0 N0 K0) (.slice D1 N1 K1) (.slice D2 N2 K2) (.slice D3 N3 K3) (.slice D4 N4 K4)
   have HWE := Lib.hid hwe
   clear hwe
   clear t0 t1 t2 t3 t4 tf
   obtain ⟨⟨t0, t1, t2⟩, ⟨t3, t4⟩, tf⟩ := cells5 HQ
   go_wp2_with fail
   rw [← HWE.out]
   obtain ⟨⟨s0, s1, s2⟩, ⟨s3, s4⟩, -⟩ := cells5 HE
   have hz9 := hB9.size
   have hBE : Below w.heap.size w we := Below.grown hB9 hge (by omega) (fun k hk => by have e := Option.some.inj (show some P4 = some k from hk); omega)
   have HKF := Lib.hid (OwnK.mono (OwnK.apart HK9.out hge (fun j hj e => by have := ((HK9.out.own j hj).lt P4 e).1; omega)) hs6)
   exact bodyPost_ret (v := .tuple #[.agg #[.slice D0 N0 K0, .slice D1 N1 K1, .slice D2 N2 K2, .slice D3 N3 K3, .slice D4 N4 K4], .bool true]) (by simp [results, Tryz.results30, go_sem, s0, s1, s2, s3, s4]) rfl ⟨_, _, _, _, _, by rw [HF.out], hBE, fun _ => ⟨val', by rw [q0', HV0.out], by rw [q1', HV1.out], by rw [q2', HV2.out], by rw [q3', HV3.out], by rw [q4', HV4.out], HKF.out⟩, fun h => by rw [HF.out] at h; cases h⟩
end Go.Proofs.YtcpbbjocaimocaaGreat
