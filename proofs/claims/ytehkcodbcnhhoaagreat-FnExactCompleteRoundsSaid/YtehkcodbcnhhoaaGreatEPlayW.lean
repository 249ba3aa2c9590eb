/-
  An act played: the program's play; a list of acts: the reference's syPlay. No condition but that the state is one of the machine on the network.
-/
import Derived.Test.YtehkcodbcnhhoaaGreatEPlayA
import Derived.Test.YtehkcodbcnhhoaaGreatEActsW
import Derived.Test.YtehkcodbcnhhoaaGreatEStart
namespace Go.Proofs.YtehkcodbcnhhoaaGreat
open Go.RowKit
set_option linter.all false
def PlayPost (m : Mach) (n : Net) (x : Asy) (a : Acts) (base P : Nat) (val : Key → Value) (w : World) (e : Ending) (w' : World) : Prop :=
  e = .returned (.bool (mayB n x a)) ∧ Below base w w' ∧ Frame val x w w' ∧ ∃ val', AsyB w' base val' (playX m n x a) P
set_option maxRecDepth 100000 in
set_option maxHeartbeats 4000000 in
theorem impl_play (vs ve vc vo : Value) (m : Mach) (ne ni nn : Value) (n : Net) (val : Key → Value) (x : Asy) (base P : Nat) (ak an ap aa : Int) (w : World) (hm0 : MachR w base vs ve vc vo m) (hn0 : NetR w base ne ni nn n) (hK : AsyB w base val x P) (hbase : base ≤ w.heap.size) (hg : goodP m n x) :
  Calls Tryz.prog 34 #[machV vs ve vc vo m, .agg #[ne, ni, nn], .pointer (some ⟨P, 0, none⟩), .agg #[.int .i64 ak, .int .i64 an, .int .i64 ap, .int .i64 aa]] w (PlayPost m n x ⟨ak, an, ap, aa⟩ base P val w) := by
 unfold machV
 have hm := hm0.to (Below.refl _ _) hbase
 have hn := hn0.more hbase
 have h40 := hg.1.2.1.1.2
 have hX := AsyK.reads hK.k (I64A.good hg)
 have HG := Lib.hid hg
 have HK := Lib.hid hK
 have hP := hK.lt
 obtain ⟨A10, c10, er⟩ := own_sl1 (hK.k.own .r trivial)
 obtain ⟨A11, c11, eb⟩ := own_sl1 (hK.k.own .b trivial)
 obtain ⟨A12, c12, en⟩ := own_sl1 (hK.k.own .n trivial)
 obtain ⟨A8, c8, es⟩ := own_sl1 (hK.k.own .s trivial)
 obtain ⟨A9, c9, ef⟩ := own_sl1 (hK.k.own .f trivial)
 have hbx := hK.box
 rw [er, eb, en, es, ef] at hbx hX
 generalize (rowK x val .r).len = m10 at hbx hX
 generalize (rowK x val .b).len = m11 at hbx hX
 generalize (rowK x val .n).len = m12 at hbx hX
 generalize (rowK x val .s).len = m8 at hbx hX
 generalize (rowK x val .f).len = m9 at hbx hX
 have HY := Lib.hid hbx
 have HX := Lib.hid hX
 obtain ⟨bm, hbm⟩ : ∃ b, b = mayB n x ⟨ak, an, ap, aa⟩ := ⟨_, rfl⟩
 have HBM := Lib.hid hbm
 obtain ⟨⟨A0, m0, c0, rfl⟩, ⟨A1, m1, c1, rfl⟩, ⟨A2, m2, c2, rfl⟩, A3, m3, c3, rfl⟩ := hm.slices
 obtain ⟨⟨A4, m4, c4, rfl⟩, ⟨A5, m5, c5, rfl⟩, A6, m6, c6, rfl⟩ := hn.slices
 have HM0 := Lib.hid hm0
 have HN0 := Lib.hid hn0
 clear hg hK er eb en es ef hbx hX hbm hm0 hn0
 obtain ⟨w0, hw0, hb0, HM, hz0, HS0⟩ := box7 w (.int .i64 m.deg) (.int .i64 m.st) (.int .i64 m.msg) (.slice A0 m0 c0) (.slice A1 m1 c1) (.slice A2 m2 c2) (.slice A3 m3 c3) 39
 obtain ⟨w1, hw1, hb1, HD, hz1, HS1⟩ := box3 w0 (.slice A4 m4 c4) (.slice A5 m5 c5) (.slice A6 m6 c6) 43
 replace HM := bk HM hb1
 obtain ⟨w2, hw2, hb2, HA, hz2, HS2⟩ := box4a w1 (.int .i64 ak) (.int .i64 an) (.int .i64 ap) (.int .i64 aa) 69
 replace HM := bk HM hb2
 replace HD := bk HD hb2
 have hB : Below w.heap.size w w2 := bl_trans (bl_trans (hb0) hb1) hb2
 have HW := Lib.hid (show w2 = ((w.alloc (.cells #[.int .i64 m.deg, .int .i64 m.st, .int .i64 m.msg, .slice A0 m0 c0, .slice A1 m1 c1, .slice A2 m2 c2, .slice A3 m3 c3] 39)).alloc (.cells #[.slice A4 m4 c4, .slice A5 m5 c5, .slice A6 m6 c6] 43)).alloc (.cells #[.int .i64 ak, .int .i64 an, .int .i64 ap, .int .i64 aa] 69) by rw [hw2, hw1, hw0])
 obtain ⟨P1, hP1⟩ : ∃ z, z = w0.heap.size := ⟨_, rfl⟩
 have HP1 := Lib.hid (show w.heap.size + 1 = P1 by rw [hP1, HS0.out])
 have hPl1 : w.heap.size < P1 := by rw [← HP1.out]; omega
 rw [← hP1] at HD hz1
 obtain ⟨P2, hP2⟩ : ∃ z, z = w1.heap.size := ⟨_, rfl⟩
 have HP2 := Lib.hid (show w.heap.size + 1 + 1 = P2 by rw [hP2, HS1.out, HS0.out])
 have hPl2 : w.heap.size < P2 := by rw [← HP2.out]; omega
 rw [← hP2] at HA hz2
 obtain ⟨⟨g0, g1, g2⟩, ⟨g3, g4, g5, g6⟩, gf⟩ := cells7 HM
 obtain ⟨q0, q1, q2, qf⟩ := cells3 HD
 obtain ⟨⟨u0, u1⟩, ⟨u2, u3⟩, uf⟩ := cells4a HA
 have eg0 := g0
 have eg1 := g1
 have eg2 := g2
 have eg3 := g3
 have eg4 := g4
 have eg5 := g5
 have eg6 := g6
 have eq0 := q0
 have eq1 := q1
 have eq2 := q2
 have eu0 := u0
 have eu1 := u1
 have eu2 := u2
 have eu3 := u3
 rw [HW.out] at eg0 eg1 eg2 eg3 eg4 eg5 eg6 eq0 eq1 eq2 eu0 eu1 eu2 eu3
 rw [← HP1.out] at eq0 eq1 eq2
 rw [← HP2.out] at eu0 eu1 eu2 eu3
 have hzb0 : w.heap.size < w2.heap.size := by omega
 have hzb1 : P1 < w2.heap.size := by omega
 have hzb2 : P2 < w2.heap.size := by omega
 have HR := Lib.hid (hm.up hB)
 have HN := Lib.hid (hn.up hB)
 clear hw2 hw1 hw0 hP1 hP2
 replace HY := bk (bk (bk HY hb0) hb1) hb2
 replace HX := Lib.hid (HX.out.up hB)
 obtain ⟨⟨y0, y1, y2⟩, ⟨y3, y4⟩, yf⟩ := cells5 HY
 have HK2 := Lib.hid (HK.out.up hB)
 have hP2 := HK2.out.lt
 go_enter Tryz.func34, Tryz.ntmps34
 go_wp2_with fail
 rw [HP2.out, HP1.out, ← HW.out]
 clear eg0 eg1 eg2 eg3 eg4 eg5 eg6 eq0 eq1 eq2 eu0 eu1 eu2 eu3
 refine wp_region_held_drew (S := fun w' => w'.cell? ⟨P1, 0, none⟩ = some (.slice A4 m4 c4) ∧ w'.cell? ⟨P1, 1, none⟩ = some (.slice A5 m5 c5) ∧ w'.cell? ⟨P1, 2, none⟩ = some (.slice A6 m6 c6) ∧ w'.cell? ⟨P, 0, none⟩ = some (.slice A10 m10 c10) ∧ w'.cell? ⟨P, 1, none⟩ = some (.slice A11 m11 c11) ∧ w'.cell? ⟨P, 2, none⟩ = some (.slice A12 m12 c12) ∧ w'.cell? ⟨P, 3, none⟩ = some (.slice A8 m8 c8) ∧ w'.cell? ⟨P, 4, none⟩ = some (.slice A9 m9 c9) ∧ w'.cell? ⟨P2, 0, none⟩ = some (.int .i64 ak) ∧ w'.cell? ⟨P2, 1, none⟩ = some (.int .i64 an) ∧ w'.cell? ⟨P2, 2, none⟩ = some (.int .i64 ap) ∧ w'.cell? ⟨P2, 3, none⟩ = some (.int .i64 aa)) (by kernel_rfl) ?_ (fun hHeld => ?_)
 ·
  go_keep
 refine stk 0 9 ?_
 refine stk 1 10 ?_
 refine stk 2 11 ?_
 refine stk 3 12 ?_
 refine stk 4 13 ?_
 refine tr 5 rfl (by kernel_rfl) (fun K hK => ?_)
 go_simp
 go_at_call 63
 refine (impl_mayAsync m _ _ _ n _ _ _ _ _ x ak an ap aa w2.drew (HN.out.up (Below.refl _ _).drew) (HX.out.up (Below.refl _ _).drew) (by omega) HG.out.1.2.1 HG.out.2).mono ?_
 rintro e w3 ⟨rfl, hb3'⟩
 have hb3 : Below w2.heap.size w2 w3 := (Below.refl _ _).drew.trans hb3'
 rw [← HBM.out]
 clear hb3' y0 y1 y2 y3 y4 yf
 have hzhb3 := hb3.size
 clear g0 g1 g2 g3 g4 g5 g6 gf q0 q1 q2 qf u0 u1 u2 u3 uf
 replace HM := bk HM hb3
 replace HD := bk HD hb3
 replace HA := bk HA hb3
 replace hB := bl_trans hB hb3
 obtain ⟨⟨g0, g1, g2⟩, ⟨g3, g4, g5, g6⟩, gf⟩ := cells7 HM
 obtain ⟨q0, q1, q2, qf⟩ := cells3 HD
 obtain ⟨⟨u0, u1⟩, ⟨u2, u3⟩, uf⟩ := cells4a HA
 replace HY := bk HY hb3
 obtain ⟨⟨y0, y1, y2⟩, ⟨y3, y4⟩, yf⟩ := cells5 HY
 have HK3 := Lib.hid (HK2.out.up hb3)
 refine hK.out _ _ ?_ (fun hHeld => ?_)
 ·
  go_keep
 clear hK K
 try simp only [Act.put, pu]
 refine stk 6 15 ?_
 refine wpAnyH_done (by kernel_rfl) ?_ _
 clear y0 y1 y2 y3 y4 yf
 cases bm with
 | false =>
  have e2 : playX m n x ⟨ak, an, ap, aa⟩ = x := by unfold playX; rw [← HBM.out]; rfl
  have HF := Lib.hid (show PlayPost m n x ⟨ak, an, ap, aa⟩ base P val w (.returned (.bool false)) w3 from ⟨by rw [← HBM.out], hB.mono hbase, Frame.of hB, val, by rw [e2]; exact HK3.out⟩)
  clear e2
  go_wp2_with fail
  go_ret
  exact HF.out
 | true =>
  have e2 : playX m n x ⟨ak, an, ap, aa⟩ = doA m n x ⟨ak, an, ap, aa⟩ := by unfold playX; rw [← HBM.out]; rfl
  have HE := Lib.hid e2
  clear e2
  go_wp2_with fail
  have hC := impl_doAsync _ _ _ _ m _ _ _ n val x base P ak an ap aa w3 (HM0.out.to (hB.mono hbase) (Nat.le_refl _)) (HN0.out.below (hB.mono hbase)) HK3.out (by have := hB.size; omega) HG.out HBM.out.symm
  unfold machV at hC
  refine hC.mono ?_
  clear hC
  rintro e w5 ⟨rfl, hb5, hf5, val', -, hk5⟩
  have hz3 := hB.size
  have HF := Lib.hid (show PlayPost m n x ⟨ak, an, ap, aa⟩ base P val w (.returned (.bool true)) w5 from ⟨by rw [← HBM.out], (hB.mono hbase).trans hb5, ⟨Nat.le_trans hz3 hf5.1, fun b hb hn => (hf5.2 b (Nat.lt_of_lt_of_le hb hz3) hn).trans (hB.block b hb)⟩, val', by rw [HE.out]; exact hk5⟩)
  clear hb5 hf5 hk5 g0 g1 g2 g3 g4 g5 g6 gf q0 q1 q2 qf u0 u1 u2 u3 uf
  go_wp2_with fail
  go_ret
  exact HF.out
def PyRel (m : Mach) (n : Net) (x : Asy) (base : Nat) (ys : List Acts) (P : Nat) (w : World) (u i : Value) (wr : World) : Prop :=
  ∃ (j : Nat) (val : Key → Value) (bs : List Value), j ≤ ys.length ∧ i = .int .i64 j ∧ wr.ownsRow w.heap.size 4 1 u j bs ∧ AsyB wr base val (runX m n x (ys.take j)) P ∧ w.grownBy wr (some P)
set_option maxRecDepth 100000 in
set_option maxHeartbeats 4000000 in
theorem spec_syPlay (vs ve vc vo : Value) (m : Mach) (ne ni nn : Value) (n : Net) (val : Key → Value) (x : Asy) (v : Value) (ys : List Acts) (base b0 : Nat) (w : World) (hm : MachR w w.heap.size vs ve vc vo m) (hn : NetR w w.heap.size ne ni nn n) (hK : AsyK w base val x) (hbase : base ≤ w.heap.size) (hv : ActsR w b0 v ys) (hl : ys.length ≤ 1000) (hg : goodP m n x) :
  Calls Tryz.prog 24 #[machV vs ve vc vo m, .agg #[ne, ni, nn], .agg #[val .r, val .b, val .n, val .s, val .f], v] w fun e w' => ∃ val' u, e = .returned (.tuple #[.agg #[val' .r, val' .b, val' .n, val' .s, val' .f], u]) ∧ AsyK w' base val' (runX m n x ys) ∧ Below w.heap.size w w' := by
 unfold machV
 have HG := Lib.hid hg
 have HK0 := Lib.hid hK
 have HV := Lib.hid hv
 have HMM := Lib.hid hm
 have HNN := Lib.hid hn
 have hx := AsyK.reads hK (I64A.good hg)
 obtain ⟨A10, c10, er⟩ := own_sl1 (hK.own .r trivial)
 obtain ⟨A11, c11, eb⟩ := own_sl1 (hK.own .b trivial)
 obtain ⟨A12, c12, en⟩ := own_sl1 (hK.own .n trivial)
 obtain ⟨A8, c8, es⟩ := own_sl1 (hK.own .s trivial)
 obtain ⟨A9, c9, ef⟩ := own_sl1 (hK.own .f trivial)
 rw [er, eb, en, es, ef] at hx
 have HE := Lib.hid (And.intro er (And.intro eb (And.intro en (And.intro es ef))))
 rw [er, eb, en, es, ef]
 clear er eb en es ef
 generalize (rowK x val .r).len = m10 at HE hx ⊢
 generalize (rowK x val .b).len = m11 at HE hx ⊢
 generalize (rowK x val .n).len = m12 at HE hx ⊢
 generalize (rowK x val .s).len = m8 at HE hx ⊢
 generalize (rowK x val .f).len = m9 at HE hx ⊢
 obtain ⟨Av, cv, rfl⟩ := hv.slice
 obtain ⟨⟨A0, m0, c0, rfl⟩, ⟨A1, m1, c1, rfl⟩, ⟨A2, m2, c2, rfl⟩, A3, m3, c3, rfl⟩ := hm.slices
 obtain ⟨⟨A4, m4, c4, rfl⟩, ⟨A5, m5, c5, rfl⟩, A6, m6, c6, rfl⟩ := hn.slices
 clear hg hv
 obtain ⟨w0, hw0, hb0, HM, hz0, HS0⟩ := box7 w (.int .i64 m.deg) (.int .i64 m.st) (.int .i64 m.msg) (.slice A0 m0 c0) (.slice A1 m1 c1) (.slice A2 m2 c2) (.slice A3 m3 c3) 39
 obtain ⟨w1, hw1, hb1, HD, hz1, HS1⟩ := box3 w0 (.slice A4 m4 c4) (.slice A5 m5 c5) (.slice A6 m6 c6) 43
 replace HM := bk HM hb1
 obtain ⟨w2, hw2, hb2, HY, hz2, HS2⟩ := box5 w1 (.slice A10 m10 c10) (.slice A11 m11 c11) (.slice A12 m12 c12) (.slice A8 m8 c8) (.slice A9 m9 c9) 34
 replace HM := bk HM hb2
 replace HD := bk HD hb2
 have hB : Below w.heap.size w w2 := bl_trans (bl_trans (hb0) hb1) hb2
 have HW := Lib.hid (show w2 = ((w.alloc (.cells #[.int .i64 m.deg, .int .i64 m.st, .int .i64 m.msg, .slice A0 m0 c0, .slice A1 m1 c1, .slice A2 m2 c2, .slice A3 m3 c3] 39)).alloc (.cells #[.slice A4 m4 c4, .slice A5 m5 c5, .slice A6 m6 c6] 43)).alloc (.cells #[.slice A10 m10 c10, .slice A11 m11 c11, .slice A12 m12 c12, .slice A8 m8 c8, .slice A9 m9 c9] 34) by rw [hw2, hw1, hw0])
 obtain ⟨P1, hP1⟩ : ∃ z, z = w0.heap.size := ⟨_, rfl⟩
 have HP1 := Lib.hid (show w.heap.size + 1 = P1 by rw [hP1, HS0.out])
 have hPl1 : w.heap.size < P1 := by rw [← HP1.out]; omega
 rw [← hP1] at HD hz1
 obtain ⟨P2, hP2⟩ : ∃ z, z = w1.heap.size := ⟨_, rfl⟩
 have HP2 := Lib.hid (show w.heap.size + 1 + 1 = P2 by rw [hP2, HS1.out, HS0.out])
 have hPl2 : w.heap.size < P2 := by rw [← HP2.out]; omega
 rw [← hP2] at HY hz2
 obtain ⟨⟨g0, g1, g2⟩, ⟨g3, g4, g5, g6⟩, gf⟩ := cells7 HM
 obtain ⟨q0, q1, q2, qf⟩ := cells3 HD
 obtain ⟨⟨y0, y1, y2⟩, ⟨y3, y4⟩, yf⟩ := cells5 HY
 have eg0 := g0
 have eg1 := g1
 have eg2 := g2
 have eg3 := g3
 have eg4 := g4
 have eg5 := g5
 have eg6 := g6
 have eq0 := q0
 have eq1 := q1
 have eq2 := q2
 have ey0 := y0
 have ey1 := y1
 have ey2 := y2
 have ey3 := y3
 have ey4 := y4
 rw [HW.out] at eg0 eg1 eg2 eg3 eg4 eg5 eg6 eq0 eq1 eq2 ey0 ey1 ey2 ey3 ey4
 rw [← HP1.out] at eq0 eq1 eq2
 rw [← HP2.out] at ey0 ey1 ey2 ey3 ey4
 have hzb0 : w.heap.size < w2.heap.size := by omega
 have hzb1 : P1 < w2.heap.size := by omega
 have hzb2 : P2 < w2.heap.size := by omega
 have HR := Lib.hid (hm.up hB)
 have HN := Lib.hid (hn.up hB)
 have HX := Lib.hid (hx.up hB)
 clear hw2 hw1 hw0 hP1 hP2
 clear hK HR HN HX
 obtain ⟨w3, hw3, hb3, HQ, hz3, HS3⟩ := box5 w2 nilV nilV nilV nilV nilV 34
 unfold nilV at hw3 HQ
 obtain ⟨P3, hP3⟩ : ∃ z, z = w2.heap.size := ⟨_, rfl⟩
 have HP3 := Lib.hid (show P2 + 1 = P3 by rw [hP3, HS2.out, HS1.out, HS0.out, ← HP2.out])
 rw [← hP3] at HQ hz3
 have HW3 := Lib.hid hw3
 have hP23 : P2 < P3 := by rw [← HP3.out]; omega
 have hP12 : P1 < P2 := by rw [← HP2.out, ← HP1.out]; omega
 clear hw3 hP3
 go_enter Tryz.func24, Tryz.ntmps24
 go_wp2_with fail
 rw [HP2.out, HP1.out, ← HW.out]
 clear eg0 eg1 eg2 eg3 eg4 eg5 eg6 eq0 eq1 eq2 ey0 ey1 ey2 ey3 ey4
 rw [HP3.out, ← HW3.out]
 have hzhb3 := hb3.size
 clear g0 g1 g2 g3 g4 g5 g6 gf q0 q1 q2 qf y0 y1 y2 y3 y4 yf
 replace HM := bk HM hb3
 replace HD := bk HD hb3
 replace HY := bk HY hb3
 replace hB := bl_trans hB hb3
 obtain ⟨⟨g0, g1, g2⟩, ⟨g3, g4, g5, g6⟩, gf⟩ := cells7 HM
 obtain ⟨q0, q1, q2, qf⟩ := cells3 HD
 obtain ⟨⟨y0, y1, y2⟩, ⟨y3, y4⟩, yf⟩ := cells5 HY
 have HB := Lib.hid hB
 have hPw := hPl2
 have HB2 := Lib.hid (show AsyB w3 base val x P2 from ⟨AsyK.up HK0.out hB, fun j hj e => by have := ((HK0.out.own j hj).lt P2 e).2; omega, by rw [HE.out.1, HE.out.2.1, HE.out.2.2.1, HE.out.2.2.2.1, HE.out.2.2.2.2]; exact HY.out⟩)
 go_loopw [10, 17] (fun u i wr => PyRel m n x base ys P2 w3 u i wr) (fun _ i _ => ys.length - (intOf i).toNat)
 case atStart => exact ⟨0, val, [], Nat.zero_le _, rfl, World.ownsRow_nil _ _ _ _, HB2.out, ⟨rfl, rfl, rfl, Nat.le_refl _, fun _ _ _ => rfl⟩⟩
 case round =>
  obtain ⟨j, vk, bs, hj, rfl, ho, hk, hgr⟩ := hrel
  have hsz := hgr.size
  obtain ⟨Au, cu, rfl⟩ := own_sl1 ho
  have hBr : Below w.heap.size w wr := Below.grown HB.out hgr (by omega) (fun k hk => by have e := Option.some.inj (show some P2 = some k from hk); omega)
  have HMr := Lib.hid ((hgr.block w.heap.size (by omega) (fun e => by have := Option.some.inj e; omega)).trans HM.out)
  have HDr := Lib.hid ((hgr.block P1 (by omega) (fun e => by have := Option.some.inj e; omega)).trans HD.out)
  have HQr := Lib.hid ((hgr.block P3 (by omega) (fun e => by have := Option.some.inj e; omega)).trans HQ.out)
  have hgk := good_run HG.out (ys.take j)
  have HGK := Lib.hid hgk
  have HO := Lib.hid ho
  have HK := Lib.hid hk
  have hPr := hk.lt
  have hxk := AsyK.reads hk.k (I64A.good hgk)
  obtain ⟨B10, d10, er⟩ := own_sl1 (hk.k.own .r trivial)
  obtain ⟨B11, d11, eb⟩ := own_sl1 (hk.k.own .b trivial)
  obtain ⟨B12, d12, en⟩ := own_sl1 (hk.k.own .n trivial)
  obtain ⟨B8, d8, es⟩ := own_sl1 (hk.k.own .s trivial)
  obtain ⟨B9, d9, ef⟩ := own_sl1 (hk.k.own .f trivial)
  have hbx := hk.box
  have HEK := Lib.hid (And.intro er (And.intro eb (And.intro en (And.intro es ef))))
  rw [er, eb, en, es, ef] at hbx hxk
  clear er eb en es ef
  generalize (rowK (runX m n x (ys.take j)) vk .r).len = n10 at HEK hbx hxk
  generalize (rowK (runX m n x (ys.take j)) vk .b).len = n11 at HEK hbx hxk
  generalize (rowK (runX m n x (ys.take j)) vk .n).len = n12 at HEK hbx hxk
  generalize (rowK (runX m n x (ys.take j)) vk .s).len = n8 at HEK hbx hxk
  generalize (rowK (runX m n x (ys.take j)) vk .f).len = n9 at HEK hbx hxk
  have HYr := Lib.hid hbx
  have HXK := Lib.hid hxk
  clear hk hgk hbx hxk ho g0 g1 g2 g3 g4 g5 g6 gf q0 q1 q2 qf y0 y1 y2 y3 y4 yf hB
  obtain ⟨⟨g0, g1, g2⟩, ⟨g3, g4, g5, g6⟩, gf⟩ := cells7 HMr
  obtain ⟨q0, q1, q2, qf⟩ := cells3 HDr
  obtain ⟨⟨y0, y1, y2⟩, ⟨y3, y4⟩, yf⟩ := cells5 HYr
  by_cases hlt : j < ys.length
  ·
   obtain ⟨⟨ak, an, ap, aa⟩, hya⟩ : ∃ y, ys[j]? = some y := ⟨_, List.getElem?_eq_getElem hlt⟩
   obtain ⟨gv, cv', ev, hgv, -, -, r0, r1, r2, r3⟩ := ActsR.read HV.out hya
   obtain ⟨rfl, rfl⟩ : Av = some ⟨gv, 0, none⟩ ∧ cv = cv' := by
    have := Value.slice.inj ev
    exact ⟨this.1, this.2.2⟩
   replace r0 := (hBr.cell (p := ⟨gv, j * 4, none⟩) (by exact hgv)).trans r0
   replace r1 := (hBr.cell (p := ⟨gv, j * 4 + 1, none⟩) (by exact hgv)).trans r1
   replace r2 := (hBr.cell (p := ⟨gv, j * 4 + 2, none⟩) (by exact hgv)).trans r2
   replace r3 := (hBr.cell (p := ⟨gv, j * 4 + 3, none⟩) (by exact hgv)).trans r3
   have hjl : (j : Int) < (ys.length : Int) := by omega
   have HYA := Lib.hid hya
   clear hya ev
   obtain ⟨wa, hwa, hba, HA, hza, HSA⟩ := box4a wr (.int .i64 ak) (.int .i64 an) (.int .i64 ap) (.int .i64 aa) 69
   have HMa := bk HMr hba
   have HDa := bk HDr hba
   have HYa := bk HYr hba
   have HQa := bk HQr hba
   have hBa := bl_trans hBr hba
   have hzaa := hba.size
   obtain ⟨⟨g0', g1', g2'⟩, ⟨g3', g4', g5', g6'⟩, gf'⟩ := cells7 HMa
   obtain ⟨q0', q1', q2', qf'⟩ := cells3 HDa
   obtain ⟨⟨y0', y1', y2'⟩, ⟨y3', y4'⟩, yf'⟩ := cells5 HYa
   rw [hwa] at g0' g1' g2' g3' g4' g5' g6' q0' q1' q2' y0' y1' y2' y3' y4'
   have HWA := Lib.hid hwa
   clear hwa gf' qf' yf' g0 g1 g2 g3 g4 g5 g6 gf q0 q1 q2 qf y0 y1 y2 y3 y4 yf
   go_wp2_with fail
   rw [← HWA.out]
   have hC := spec_syDo _ _ _ _ m _ _ _ n _ _ _ _ _ (runX m n x (ys.take j)) ak an ap aa wa (HMM.out.up hBa) (HNN.out.up hBa) (HXK.out.up hba) HGK.out
   unfold machV at hC
   refine hC.mono ?_
   clear hC g0' g1' g2' g3' g4' g5' g6' q0' q1' q2' y0' y1' y2' y3' y4' r0 r1 r2 r3
   rintro e wb ⟨ur, ub, un, us, uf, rfl, hbb, hdid⟩
   have hd2 : Did (mayB n (runX m n x (ys.take j)) ⟨ak, an, ap, aa⟩) wb wa.heap.size (vk .r) (vk .b) (vk .n) (vk .s) (vk .f) ur ub un us uf (doA m n (runX m n x (ys.take j)) ⟨ak, an, ap, aa⟩) := by
    rw [HEK.out.1, HEK.out.2.1, HEK.out.2.2.1, HEK.out.2.2.2.1, HEK.out.2.2.2.2]
    exact hdid
   obtain ⟨val', e0, e1, e2, e3, e4, hk'⟩ := hd2.play (AsyK.up HK.out.k hba) hbb (by omega)
   rw [← runX_snoc, ← take_snoc HYA.out] at hk'
   obtain ⟨C10, f10, er⟩ := own_sl1 (hk'.own .r trivial)
   obtain ⟨C11, f11, eb⟩ := own_sl1 (hk'.own .b trivial)
   obtain ⟨C12, f12, en⟩ := own_sl1 (hk'.own .n trivial)
   obtain ⟨C8, f8, es⟩ := own_sl1 (hk'.own .s trivial)
   obtain ⟨C9, f9, ef⟩ := own_sl1 (hk'.own .f trivial)
   rw [er] at e0
   rw [eb] at e1
   rw [en] at e2
   rw [es] at e3
   rw [ef] at e4
   have HEN := Lib.hid (And.intro er (And.intro eb (And.intro en (And.intro es ef))))
   have HKP := Lib.hid hk'
   clear hdid hd2 er eb en es ef hk'
   generalize (rowK (runX m n x (ys.take (j + 1))) val' .r).len = l10 at HEN e0
   generalize (rowK (runX m n x (ys.take (j + 1))) val' .b).len = l11 at HEN e1
   generalize (rowK (runX m n x (ys.take (j + 1))) val' .n).len = l12 at HEN e2
   generalize (rowK (runX m n x (ys.take (j + 1))) val' .s).len = l8 at HEN e3
   generalize (rowK (runX m n x (ys.take (j + 1))) val' .f).len = l9 at HEN e4
   subst e0 e1 e2 e3 e4
   obtain ⟨wc, hwc, hbc, HC, hzc, HSC⟩ := box5 wb (.slice C10 l10 f10) (.slice C11 l11 f11) (.slice C12 l12 f12) (.slice C8 l8 f8) (.slice C9 l9 f9) 34
   have hzb := hbb.size
   have HYc := bk (bk HYa hbb) hbc
   have hzc2 := hbc.size
   have hbac := bl_trans (bl_trans hba hbb) hbc
   obtain ⟨⟨y0, y1, y2⟩, ⟨y3, y4⟩, yf⟩ := cells5 HYc
   rw [hwc] at y0 y1 y2 y3 y4 yf
   obtain ⟨we, hwe, HE5, hge⟩ := set5 HYc (.slice C10 l10 f10) (.slice C11 l11 f11) (.slice C12 l12 f12) (.slice C8 l8 f8) (.slice C9 l9 f9)
   have HWC := Lib.hid hwc
   have HWE := Lib.hid hwe
   have hze := hge.size
   have hse : wb.heap.size + 1 = we.heap.size := by rw [hwe]; simp only [size_setCell]; exact HSC.out.symm
   have HSE := Lib.hid hse
   clear hse
   obtain ⟨bv, hbv⟩ : ∃ b, b = mayB n (runX m n x (ys.take j)) ⟨ak, an, ap, aa⟩ := ⟨_, rfl⟩
   rw [← hbv]
   have hoe : we.ownsRow w3.heap.size 4 1 (.slice Au j cu) j bs := World.ownsRow.kept (own_up HO.out hbac) hge (by
    cases e : (Value.slice Au j cu).ownBlock with
    | none => exact .inl rfl
    | some g =>
     refine .inr fun e' => ?_
     have h1 := (World.ownsRow.lt HO.out g e).1
     have h2 := Option.some.inj e'
     omega)
   have HOE := Lib.hid hoe
   clear hwc hwe hbv hoe
   go_wp2_with (at_builtin; (try rw [← HWC.out]); (try rw [← HWE.out]); (try rw [HSE.out]); refine wpList_append1 we rfl (.tmp 30) (.tmp 32) 59 rfl w3.heap.size 4 _ 1 Tryz.underlying59 boolInf2 rfl _ _ _ rfl _ rfl rfl HOE.out (by unfold maxLen; omega) (by omega) (by omega) ?_; intro v8 w8 hown8 hbl8 hgr8 hlt8 hob8)
   have hKe : AsyB we base val' (runX m n x (ys.take (j + 1))) P2 := by
    have h1 := AsyK.up HKP.out hbc
    refine ⟨AsyK.past h1 HYc.out hge, fun i hi => AsyK.noTy h1 hi HYc.out no_tyK_state, ?_⟩
    rw [HEN.out.1, HEN.out.2.1, HEN.out.2.2.1, HEN.out.2.2.2.1, HEN.out.2.2.2.2]
    exact HE5.out
   have hK8 : AsyB w8 base val' (runX m n x (ys.take (j + 1))) P2 := hKe.aside hgr8 fun g hg => by
    obtain ⟨cur, fz, h1⟩ := own_ty HOE.out g hg
    exact ⟨cur, _, fz, h1, no_tyK_bool, by decide⟩
   have hG8 : w3.grownBy w8 (some P2) := ⟨hgr8.os.trans (hge.os.trans (hbac.os.trans hgr.os)), hgr8.tape.trans (hge.tape.trans (hbac.tape.trans hgr.tape)), hgr8.output.trans (hge.output.trans (hbac.output.trans hgr.output)), by omega, fun b hb hne => by
    have h1 := hgr8.block b (by omega) (fun e => by have := (World.ownsRow.lt HOE.out b e.symm).1; omega)
    have h2 := hge.block b (by omega) hne
    have h3 := hbac.block b (by omega)
    exact h1.trans (h2.trans (h3.trans (hgr.block b hb hne)))⟩
   have HK8 := Lib.hid hK8
   have HG8 := Lib.hid hG8
   have HO8 := Lib.hid hown8
   clear hK8 hG8 hKe hown8 hbl8 hgr8 hlt8 hob8 y0 y1 y2 y3 y4 yf
   go_wp2_with fail
   go_roundw
   case rel => exact ⟨j + 1, val', _, by omega, by go_num, HO8.out, HK8.out, HG8.out⟩
   case measure => simp [intOf]; omega
  ·
   obtain rfl : j = ys.length := by omega
   have HTK := Lib.hid (show ys.take ys.length = ys from List.take_of_length_le (Nat.le_refl _))
   obtain ⟨we, hwe, HE5, hge⟩ := set5 HQr (.slice B10 n10 d10) (.slice B11 n11 d11) (.slice B12 n12 d12) (.slice B8 n8 d8) (.slice B9 n9 d9)
   obtain ⟨⟨p0, p1, p2⟩, ⟨p3, p4⟩, pf⟩ := cells5 HQr
   have HWE := Lib.hid hwe
   clear hwe
   go_wp2_with fail
   rw [← HWE.out]
   obtain ⟨⟨s0, s1, s2⟩, ⟨s3, s4⟩, -⟩ := cells5 HE5
   have hBE : Below w.heap.size w we := Below.grown hBr hge (by omega) (fun k hk => by have e := Option.some.inj (show some P3 = some k from hk); omega)
   have hKE : AsyK we base vk (runX m n x ys) := by
    have h1 := AsyK.past HK.out.k HQr.out hge
    rw [HTK.out] at h1
    exact h1
   exact bodyPost_ret (v := .tuple #[.agg #[.slice B10 n10 d10, .slice B11 n11 d11, .slice B12 n12 d12, .slice B8 n8 d8, .slice B9 n9 d9], .slice Au ys.length cu]) (by simp [results, Tryz.results24, go_sem, s0, s1, s2, s3, s4]) rfl ⟨vk, _, by rw [HEK.out.1, HEK.out.2.1, HEK.out.2.2.1, HEK.out.2.2.2.1, HEK.out.2.2.2.2], hKE, hBE⟩
end Go.Proofs.YtehkcodbcnhhoaaGreat
