/-
  The walk of the law FnExactDoAsync.
-/
import Derived.Test.YtcpbbjocaimocaaGreatEDoRes
import Derived.Test.YtcpbbjocaimocaaGreatEOpenA
import Derived.Test.YtcpbbjocaimocaaGreatEOpenNet
import Derived.ShutString
import Derived.Lib.SmallJoins
namespace Go.Proofs.YtcpbbjocaimocaaGreat.fnExactDoAsync
open Go.ChangeShapes Go.WideShapes Go.ChangeAt Go.RowKit Go.Joins
set_option linter.all false
theorem reads_at {w : World} {base P : Nat} {val : Key → Value} {y : Asy} {v0 v1 v2 v3 v4 : Value} (h : AsyB w base val y P) (hi : I64A y) (he : v0 = val .r ∧ v1 = val .b ∧ v2 = val .n ∧ v3 = val .s ∧ v4 = val .f) : AsyR w w.heap.size v0 v1 v2 v3 v4 y := by
  obtain ⟨e0, e1, e2, e3, e4⟩ := he
  rw [e0, e1, e2, e3, e4]
  exact AsyK.reads h.k hi
theorem heads5 {w : World} {base : Nat} {val : Key → Value} {y : Asy} {v0 v1 v2 v3 v4 : Value} (hk : AsyK w base val y) (e0 : v0 = val .r) (e1 : v1 = val .b) (e2 : v2 = val .n) (e3 : v3 = val .s) (e4 : v4 = val .f) :
    ∃ A0 m0 c0 A1 m1 c1 A2 m2 c2 A3 m3 c3 A4 m4 c4, v0 = .slice A0 m0 c0 ∧ v1 = .slice A1 m1 c1 ∧ v2 = .slice A2 m2 c2 ∧ v3 = .slice A3 m3 c3 ∧ v4 = .slice A4 m4 c4 := by
  obtain ⟨A0, c0, h0⟩ := own_sl1 (hk.own .r trivial)
  obtain ⟨A1, c1, h1⟩ := own_sl1 (hk.own .b trivial)
  obtain ⟨A2, c2, h2⟩ := own_sl1 (hk.own .n trivial)
  obtain ⟨A3, c3, h3⟩ := own_sl1 (hk.own .s trivial)
  obtain ⟨A4, c4, h4⟩ := own_sl1 (hk.own .f trivial)
  exact ⟨_, _, _, _, _, _, _, _, _, _, _, _, _, _, _, e0.trans h0, e1.trans h1, e2.trans h2, e3.trans h3, e4.trans h4⟩
theorem grown_at {a b c : World} {P base : Nat} (h : Below base a b) (hg : b.grownBy c (some P)) (hP : base ≤ P ∧ base ≤ b.heap.size) : Below base a c := Below.grown h hg hP.2 (fun k hk => by have e := Option.some.inj hk; omega)
theorem BoxR.leaf {val : Key → Value} {W we : World} {base wc PX hi : Nat} {v0 v1 v2 v3 v4 : Value} {y : Asy} (he : v0 = val .r ∧ v1 = val .b ∧ v2 = val .n ∧ v3 = val .s ∧ v4 = val .f) (hk : AsyK W wc val y) (hge : W.grownBy we (some PX))
    (hrg : ∀ j, keyOf y j → ∀ q, (val j).ownBlock = some q → wc ≤ q ∧ q < hi) (hP : PX < wc ∨ hi ≤ PX) (hb : base ≤ wc) (HE : Hid (we.heap[PX]? = some (.cells #[v0, v1, v2, v3, v4] 50 (0, 0)))) : BoxR we base PX v0 v1 v2 v3 v4 y := by
  have hne : ∀ j, keyOf y j → (val j).ownBlock ≠ some PX := fun j hj h => by have := hrg j hj PX h; omega
  exact BoxR.of he.1 he.2.1 he.2.2.1 he.2.2.2.1 he.2.2.2.2 (OwnK.apart hk hge hne) hb hne HE.out
theorem box_at (W : World) (a b c d e : Value) (t : TypeId) : ∃ P w0, W.heap.size = P ∧ w0 = W.alloc (.cells #[a, b, c, d, e] t) ∧ Below W.heap.size W w0 ∧ Hid (w0.heap[P]? = some (.cells #[a, b, c, d, e] t (0, 0))) ∧ P < w0.heap.size := by
  obtain ⟨w0, h1, h2, h3, h4, -⟩ := box5 W a b c d e t
  exact ⟨_, w0, rfl, h1, h2, h3, h4⟩
set_option maxRecDepth 100000 in
set_option maxHeartbeats 8000000 in
theorem law_walk (vs ve vc vo : Value) (m : Mach) (ne ni nn : Value) (n : Net) (xr xb xn xs xf : Value) (x : Asy) (ak an ap aa : Int) (w : World) (hm : MachR w w.heap.size vs ve vc vo m) (hn : NetR w w.heap.size ne ni nn n) (hx : AsyR w w.heap.size xr xb xn xs xf x) :
  Calls Tryz.prog 5 #[.agg #[.int .i64 m.deg, .int .i64 m.st, .int .i64 m.msg, vs, ve, vc, vo], .agg #[ne, ni, nn], .agg #[xr, xb, xn, xs, xf], .agg #[.int .i64 ak, .int .i64 an, .int .i64 ap, .int .i64 aa]] w fun e w' => e = .returned (.bool true) ∧ Below w.heap.size w w' := by
 obtain ⟨⟨A0, m0, c0, rfl⟩, ⟨A1, m1, c1, rfl⟩, ⟨A2, m2, c2, rfl⟩, A3, m3, c3, rfl⟩ := hm.slices
 obtain ⟨⟨A4, m4, c4, rfl⟩, ⟨A5, m5, c5, rfl⟩, A6, m6, c6, rfl⟩ := hn.slices
 obtain ⟨⟨A10, m10, c10, rfl⟩, ⟨A11, m11, c11, rfl⟩, ⟨A12, m12, c12, rfl⟩, ⟨A8, m8, c8, rfl⟩, A9, m9, c9, rfl⟩ := hx.slices
 obtain ⟨w0, hw0, hb0, HM, hz0, HS0⟩ := box7 w (.int .i64 m.deg) (.int .i64 m.st) (.int .i64 m.msg) (.slice A0 m0 c0) (.slice A1 m1 c1) (.slice A2 m2 c2) (.slice A3 m3 c3) 26
 obtain ⟨w1, hw1, hb1, HD, hz1, HS1⟩ := box3 w0 (.slice A4 m4 c4) (.slice A5 m5 c5) (.slice A6 m6 c6) 29
 replace HM := bk HM hb1
 obtain ⟨w2, hw2, hb2, HY, hz2, HS2⟩ := box5 w1 (.slice A10 m10 c10) (.slice A11 m11 c11) (.slice A12 m12 c12) (.slice A8 m8 c8) (.slice A9 m9 c9) 32
 replace HM := bk HM hb2
 replace HD := bk HD hb2
 obtain ⟨w3, hw3, hb3, HA, hz3, HS3⟩ := box4a w2 (.int .i64 ak) (.int .i64 an) (.int .i64 ap) (.int .i64 aa) 34
 replace HM := bk HM hb3
 replace HD := bk HD hb3
 replace HY := bk HY hb3
 have hB : Below w.heap.size w w3 := bl_trans (bl_trans (bl_trans (hb0) hb1) hb2) hb3
 have HW := Lib.hid (show w3 = (((w.alloc (.cells #[.int .i64 m.deg, .int .i64 m.st, .int .i64 m.msg, .slice A0 m0 c0, .slice A1 m1 c1, .slice A2 m2 c2, .slice A3 m3 c3] 26)).alloc (.cells #[.slice A4 m4 c4, .slice A5 m5 c5, .slice A6 m6 c6] 29)).alloc (.cells #[.slice A10 m10 c10, .slice A11 m11 c11, .slice A12 m12 c12, .slice A8 m8 c8, .slice A9 m9 c9] 32)).alloc (.cells #[.int .i64 ak, .int .i64 an, .int .i64 ap, .int .i64 aa] 34) by rw [hw3, hw2, hw1, hw0])
 obtain ⟨P1, hP1⟩ : ∃ z, z = w0.heap.size := ⟨_, rfl⟩
 have HP1 := Lib.hid (show w.heap.size + 1 = P1 by rw [hP1, HS0.out])
 have hPl1 : w.heap.size < P1 := by rw [← HP1.out]; omega
 rw [← hP1] at HD hz1
 obtain ⟨P2, hP2⟩ : ∃ z, z = w1.heap.size := ⟨_, rfl⟩
 have HP2 := Lib.hid (show w.heap.size + 1 + 1 = P2 by rw [hP2, HS1.out, HS0.out])
 have hPl2 : w.heap.size < P2 := by rw [← HP2.out]; omega
 rw [← hP2] at HY hz2
 obtain ⟨P3, hP3⟩ : ∃ z, z = w2.heap.size := ⟨_, rfl⟩
 have HP3 := Lib.hid (show w.heap.size + 1 + 1 + 1 = P3 by rw [hP3, HS2.out, HS1.out, HS0.out])
 have hPl3 : w.heap.size < P3 := by rw [← HP3.out]; omega
 rw [← hP3] at HA hz3
 obtain ⟨⟨g0, g1, g2⟩, ⟨g3, g4, g5, g6⟩, gf⟩ := cells7 HM
 obtain ⟨q0, q1, q2, qf⟩ := cells3 HD
 obtain ⟨⟨y0, y1, y2⟩, ⟨y3, y4⟩, yf⟩ := cells5 HY
 obtain ⟨⟨u0, u1⟩, ⟨u2, u3⟩, uf⟩ := cells4a HA
 have eg0 := g0
 have eg1 := g1
 have eg2 := g2
 have eg3 := g3
 have eg4 := g4
 have eg5 := g5
 have eg6 := g6
 have eq0 := q0
 have eq1 := q1
 have eq2 := q2
 have ey0 := y0
 have ey1 := y1
 have ey2 := y2
 have ey3 := y3
 have ey4 := y4
 have eu0 := u0
 have eu1 := u1
 have eu2 := u2
 have eu3 := u3
 rw [HW.out] at eg0 eg1 eg2 eg3 eg4 eg5 eg6 eq0 eq1 eq2 ey0 ey1 ey2 ey3 ey4 eu0 eu1 eu2 eu3
 rw [← HP1.out] at eq0 eq1 eq2
 rw [← HP2.out] at ey0 ey1 ey2 ey3 ey4
 rw [← HP3.out] at eu0 eu1 eu2 eu3
 have hzb0 : w.heap.size < w3.heap.size := by omega
 have hzb1 : P1 < w3.heap.size := by omega
 have hzb2 : P2 < w3.heap.size := by omega
 have hzb3 : P3 < w3.heap.size := by omega
 have HR := Lib.hid (hm.up hB)
 have HN := Lib.hid (hn.up hB)
 have HX := Lib.hid (hx.up hB)
 clear hw3 hw2 hw1 hw0 hP1 hP2 hP3
 obtain ⟨V, hV⟩ : ∃ z, z = mxB m n x ⟨ak, an, ap, aa⟩ := ⟨_, rfl⟩
 obtain ⟨yy, hyy⟩ : ∃ z, z = resV V (doA m n x ⟨ak, an, ap, aa⟩) := ⟨_, rfl⟩
 have HIS := Lib.hid (show I64A yy ∧ SmallA yy by rw [hyy, hV]; exact resV_i64)
 have HV := Lib.hid hV.symm
 have HYY := Lib.hid hyy.symm
 clear hV hyy
 obtain ⟨T, hT⟩ : ∃ z, z = total (szA yy) (ordA yy) := ⟨_, rfl⟩
 have hT2 : T ≤ 20000 := by rw [hT]; exact total_small HIS.out.2
 have HTT := Lib.hid hT.symm
 clear hT
 have HR0 := Lib.hid hm
 have HN0 := Lib.hid hn
 have HX0 := Lib.hid hx
 clear hm hn hx
 go_enter Tryz.func5, Tryz.ntmps5
 go_wp2_with fail
 rw [HP3.out, HP2.out, HP1.out, ← HW.out]
 clear eg0 eg1 eg2 eg3 eg4 eg5 eg6 eq0 eq1 eq2 ey0 ey1 ey2 ey3 ey4 eu0 eu1 eu2 eu3
 refine (sz_Mach _ _ _ _ m 1048576 w3 HR.out (by omega) (by omega)).mono ?_
 rintro e w5 ⟨rfl, hb5⟩
 have hzhb5 := hb5.size
 clear g0 g1 g2 g3 g4 g5 g6 q0 q1 q2 y0 y1 y2 y3 y4 u0 u1 u2 u3 gf qf yf uf
 replace HM := bk HM hb5
 replace HD := bk HD hb5
 replace HY := bk HY hb5
 replace HA := bk HA hb5
 replace hB := bl_trans hB hb5
 obtain ⟨⟨g0, g1, g2⟩, ⟨g3, g4, g5, g6⟩, gf⟩ := cells7 HM
 obtain ⟨q0, q1, q2, qf⟩ := cells3 HD
 obtain ⟨⟨y0, y1, y2⟩, ⟨y3, y4⟩, yf⟩ := cells5 HY
 obtain ⟨⟨u0, u1⟩, ⟨u2, u3⟩, uf⟩ := cells4a HA
 replace HR := Lib.hid (HR.out.up hb5)
 replace HN := Lib.hid (HN.out.up hb5)
 replace HX := Lib.hid (HX.out.up hb5)
 by_cases hs1 : (szMach m : Int) ≤ 1048576
 ·
  have hl1 : 0 ≤ szR 1048576 (szMach m) ∧ szR 1048576 (szMach m) ≤ 1048576 := by unfold szR; rw [if_pos hs1]; omega
  obtain ⟨left1, hleft1⟩ : ∃ z, z = szR 1048576 (szMach m) := ⟨_, rfl⟩
  rw [← hleft1] at hl1 ⊢
  clear hleft1
  go_wp2_with fail
  refine (sz_Net _ _ _ n left1 w5 HN.out (by omega) (by omega)).mono ?_
  rintro e w6 ⟨rfl, hb6⟩
  have hzhb6 := hb6.size
  clear g0 g1 g2 g3 g4 g5 g6 q0 q1 q2 y0 y1 y2 y3 y4 u0 u1 u2 u3 gf qf yf uf
  replace HM := bk HM hb6
  replace HD := bk HD hb6
  replace HY := bk HY hb6
  replace HA := bk HA hb6
  replace hB := bl_trans hB hb6
  obtain ⟨⟨g0, g1, g2⟩, ⟨g3, g4, g5, g6⟩, gf⟩ := cells7 HM
  obtain ⟨q0, q1, q2, qf⟩ := cells3 HD
  obtain ⟨⟨y0, y1, y2⟩, ⟨y3, y4⟩, yf⟩ := cells5 HY
  obtain ⟨⟨u0, u1⟩, ⟨u2, u3⟩, uf⟩ := cells4a HA
  replace HR := Lib.hid (HR.out.up hb6)
  replace HN := Lib.hid (HN.out.up hb6)
  replace HX := Lib.hid (HX.out.up hb6)
  by_cases hs2 : (szNet n : Int) ≤ left1
  ·
   have hl2 : 0 ≤ szR left1 (szNet n) ∧ szR left1 (szNet n) ≤ 1048576 := by unfold szR; rw [if_pos hs2]; omega
   obtain ⟨left2, hleft2⟩ : ∃ z, z = szR left1 (szNet n) := ⟨_, rfl⟩
   rw [← hleft2] at hl2 ⊢
   clear hleft2
   go_wp2_with fail
   refine (sz_Asy _ _ _ _ _ x left2 w6 HX.out (by omega) (by omega)).mono ?_
   rintro e w7 ⟨rfl, hb7⟩
   have hzhb7 := hb7.size
   clear g0 g1 g2 g3 g4 g5 g6 q0 q1 q2 y0 y1 y2 y3 y4 u0 u1 u2 u3 gf qf yf uf
   replace HM := bk HM hb7
   replace HD := bk HD hb7
   replace HY := bk HY hb7
   replace HA := bk HA hb7
   replace hB := bl_trans hB hb7
   obtain ⟨⟨g0, g1, g2⟩, ⟨g3, g4, g5, g6⟩, gf⟩ := cells7 HM
   obtain ⟨q0, q1, q2, qf⟩ := cells3 HD
   obtain ⟨⟨y0, y1, y2⟩, ⟨y3, y4⟩, yf⟩ := cells5 HY
   obtain ⟨⟨u0, u1⟩, ⟨u2, u3⟩, uf⟩ := cells4a HA
   replace HR := Lib.hid (HR.out.up hb7)
   replace HN := Lib.hid (HN.out.up hb7)
   replace HX := Lib.hid (HX.out.up hb7)
   by_cases hs3 : (szAsy x : Int) ≤ left2
   ·
    have hl3 : 0 ≤ szR left2 (szAsy x) ∧ szR left2 (szAsy x) ≤ 1048576 := by unfold szR; rw [if_pos hs3]; omega
    obtain ⟨left3, hleft3⟩ : ∃ z, z = szR left2 (szAsy x) := ⟨_, rfl⟩
    rw [← hleft3] at hl3 ⊢
    clear hleft3
    go_wp2_with fail
    replace hs1 : szMach m ≤ 1048576 := by omega
    replace hs2 : szNet n ≤ 1048576 := by omega
    replace hs3 : szAsy x ≤ 1048576 := by omega
    have hes : n.es.length ≤ 2000000 ∧ n.ids.length ≤ 2000000 := by unfold szNet szEnds at hs2; omega
    obtain ⟨hes1, hes2⟩ := hes
    clear g0 g1 g2 g3 g4 g5 g6 q0 q1 q2 y0 y1 y2 y3 y4 u0 u1 u2 u3 gf qf yf uf
    rename_i K hrest
    have FIN0 : ∀ (W : World) (PX : Nat) (b39 b41 b43 : Value) (SA10 : Option Addr) (Sm10 Sc10 : Nat) (SA11 : Option Addr) (Sm11 Sc11 : Nat) (SA12 : Option Addr) (Sm12 Sc12 : Nat) (SA8 : Option Addr) (Sm8 Sc8 : Nat) (SA9 : Option Addr) (Sm9 Sc9 : Nat), Below w7.heap.size w7 W → w7.heap.size ≤ PX → BoxR W w7.heap.size PX (.slice SA10 Sm10 Sc10) (.slice SA11 Sm11 Sc11) (.slice SA12 Sm12 Sc12) (.slice SA8 Sm8 Sc8) (.slice SA9 Sm9 Sc9) yy →
      K ⟨#[.agg #[.int .i64 m.deg, .int .i64 m.st, .int .i64 m.msg, .slice A0 m0 c0, .slice A1 m1 c1, .slice A2 m2 c2, .slice A3 m3 c3], .agg #[.slice A4 m4 c4, .slice A5 m5 c5, .slice A6 m6 c6], .agg #[.slice A10 m10 c10, .slice A11 m11 c11, .slice A12 m12 c12, .slice A8 m8 c8, .slice A9 m9 c9], .agg #[.int .i64 ak, .int .i64 an, .int .i64 ap, .int .i64 aa], .pointer (some ⟨w.heap.size, 0, none⟩), .pointer (some ⟨P1, 0, none⟩), .pointer (some ⟨P2, 0, none⟩), .pointer (some ⟨P3, 0, none⟩), .bool false, .int .i64 left3, .pointer (some ⟨PX, 0, none⟩), .bool V, undef, undef, undef, undef, undef, undef, undef, undef, undef, undef, .agg #[.int .i64 m.deg, .int .i64 m.st, .int .i64 m.msg, .slice A0 m0 c0, .slice A1 m1 c1, .slice A2 m2 c2, .slice A3 m3 c3], .int .i64 1048576, .int .i64 left1, .int .i64 left1, .bool (decide (left1 < 0)), .agg #[.slice A4 m4 c4, .slice A5 m5 c5, .slice A6 m6 c6], .int .i64 left1, .int .i64 left2, .int .i64 left2, .bool (decide (left2 < 0)), .agg #[.slice A10 m10 c10, .slice A11 m11 c11, .slice A12 m12 c12, .slice A8 m8 c8, .slice A9 m9 c9], .int .i64 left2, .int .i64 left3, .int .i64 left3, .bool (decide (left3 < 0)), .tuple #[.agg #[.slice SA10 Sm10 Sc10, .slice SA11 Sm11 Sc11, .slice SA12 Sm12 Sc12, .slice SA8 Sm8 Sc8, .slice SA9 Sm9 Sc9], .bool V], .agg #[.int .i64 m.deg, .int .i64 m.st, .int .i64 m.msg, .slice A0 m0 c0, .slice A1 m1 c1, .slice A2 m2 c2, .slice A3 m3 c3], b39, .agg #[.slice A4 m4 c4, .slice A5 m5 c5, .slice A6 m6 c6], b41, .agg #[.slice A10 m10 c10, .slice A11 m11 c11, .slice A12 m12 c12, .slice A8 m8 c8, .slice A9 m9 c9], b43, .agg #[.int .i64 ak, .int .i64 an, .int .i64 ap, .int .i64 aa], .agg #[.int .i64 ak, .int .i64 an, .int .i64 ap, .int .i64 aa], .tuple #[.agg #[.slice SA10 Sm10 Sc10, .slice SA11 Sm11 Sc11, .slice SA12 Sm12 Sc12, .slice SA8 Sm8 Sc8, .slice SA9 Sm9 Sc9], .bool V], .agg #[.slice SA10 Sm10 Sc10, .slice SA11 Sm11 Sc11, .slice SA12 Sm12 Sc12, .slice SA8 Sm8 Sc8, .slice SA9 Sm9 Sc9], .bool V, undef, undef, undef, undef, undef, undef, undef, undef, undef, undef, undef, undef, undef, undef, undef, undef, undef, undef, undef, undef, undef, undef, undef, undef, undef, undef, undef, undef, undef, undef, undef, undef, undef, undef, undef, undef, undef, undef, undef, undef, undef, undef, undef, undef, undef, undef, undef, undef, undef, undef, undef, undef, undef, undef, undef, undef, undef, undef, undef, undef, undef, undef, undef, undef, undef, undef, undef, undef, undef, undef, undef, undef, undef, undef, undef, undef, undef, undef, undef, undef, undef, undef, undef, undef, undef, undef, undef, undef, undef, undef, undef, undef, undef, undef, undef, undef, undef, undef, undef, undef, undef], []⟩ W := by
     intro w12 PW b39 b41 b43 SA10 Sm10 Sc10 SA11 Sm11 Sc11 SA12 Sm12 Sc12 SA8 Sm8 Sc8 SA9 Sm9 Sc9 hbw12 hPPW hbr
     refine hrest _ _ ?_
     clear hrest
     obtain ⟨valS, e0, e1, e2, e3, e4, hab⟩ := hbr
     have hPPWl := hab.lt
     have HES := Lib.hid (And.intro e0 (And.intro e1 (And.intro e2 (And.intro e3 e4))))
     have hbx := hab.box
     rw [← e0, ← e1, ← e2, ← e3, ← e4] at hbx
     have HGS := Lib.hid hab
     have HBS := Lib.hid hbx
     clear e0 e1 e2 e3 e4 hab hbx
     have hzhbw12 := hbw12.size
     replace HM := bk HM hbw12
     replace HD := bk HD hbw12
     replace HY := bk HY hbw12
     replace HA := bk HA hbw12
     replace hB := bl_trans hB hbw12
     replace HR := Lib.hid (HR.out.up hbw12)
     replace HN := Lib.hid (HN.out.up hbw12)
     replace HX := Lib.hid (HX.out.up hbw12)
     have HS0 := Lib.hid (show AsyR w12 w12.heap.size (.slice SA10 Sm10 Sc10) (.slice SA11 Sm11 Sc11) (.slice SA12 Sm12 Sc12) (.slice SA8 Sm8 Sc8) (.slice SA9 Sm9 Sc9) yy by have h := AsyK.reads HGS.out.k HIS.out.1; obtain ⟨e0, e1, e2, e3, e4⟩ := HES.out; rw [← e0, ← e1, ← e2, ← e3, ← e4] at h; exact h)
     have HS := HS0
     clear HGS HES
     have hB3 := Below.refl w12.heap.size w12
     obtain ⟨⟨g0, g1, g2⟩, ⟨g3, g4, g5, g6⟩, gf⟩ := cells7 HM
     go_wp2_with fail
     clear g0 g1 g2 g3 g4 g5 g6 gf
     refine (to_MachW _ _ _ _ m w12 HR.out hs1).mono ?_
     rintro e w13 ⟨z0, z1, z2, z3, rfl, hq, hb13, ho⟩
     have hzy13 := hb13.size
     have HMM := Lib.hid (ho.p (g := w12.heap.size) (by omega) hs1); clear ho
     obtain ⟨gm, hgm⟩ : ∃ z, z = w12.heap.size := ⟨_, rfl⟩
     rw [← hgm] at HMM
     obtain ⟨him, hhim⟩ : ∃ z, z = w13.heap.size := ⟨_, rfl⟩
     rw [← hhim] at HMM
     have hhlm : him ≤ w13.heap.size := by omega
     have hhgm : gm ≤ w13.heap.size ∧ gm ≤ him := by omega
     obtain ⟨⟨CA0, Cm0, Cc0, rfl⟩, ⟨CA1, Cm1, Cc1, rfl⟩, ⟨CA2, Cm2, Cc2, rfl⟩, CA3, Cm3, Cc3, rfl⟩ := hq.slices
     have JM := Lib.hid hq
     clear hq
     have hzhb13 := hb13.size
     replace HM := bk HM hb13
     replace HD := bk HD hb13
     replace HY := bk HY hb13
     replace HA := bk HA hb13
     replace HBS := bk HBS hb13
     replace hB3 := bl_trans hB3 hb13
     replace hB := bl_trans hB hb13
     replace HR := Lib.hid (HR.out.up hb13)
     replace HN := Lib.hid (HN.out.up hb13)
     replace HX := Lib.hid (HX.out.up hb13)
     replace HS := Lib.hid (HS.out.up hb13)
     obtain ⟨w14, hw14, hb14, IM, hzz14, HSS14⟩ := box7 w13 (.int .i64 m.deg) (.int .i64 m.st) (.int .i64 m.msg) (.slice CA0 Cm0 Cc0) (.slice CA1 Cm1 Cc1) (.slice CA2 Cm2 Cc2) (.slice CA3 Cm3 Cc3) 42
     obtain ⟨P5, hP5⟩ : ∃ z, z = w13.heap.size := ⟨_, rfl⟩
     have HP5 := Lib.hid hP5
     rw [← hP5] at IM hzz14
     have hP5l : w13.heap.size ≤ P5 ∧ P5 ≤ w13.heap.size := by rw [hP5]; exact ⟨Nat.le_refl _, Nat.le_refl _⟩
     have hzhb14 := hb14.size
     replace HM := bk HM hb14
     replace HD := bk HD hb14
     replace HY := bk HY hb14
     replace HA := bk HA hb14
     replace HBS := bk HBS hb14
     replace hB3 := bl_trans hB3 hb14
     replace hB := bl_trans hB hb14
     replace HR := Lib.hid (HR.out.up hb14)
     replace HN := Lib.hid (HN.out.up hb14)
     replace HX := Lib.hid (HX.out.up hb14)
     replace JM := Lib.hid (JM.out.up hb14)
     replace HS := Lib.hid (HS.out.up hb14)
     replace HMM := Lib.hid (HMM.out.off fun b _ h2 => hb14.block b (by omega))
     obtain ⟨q0, q1, q2, qf⟩ := cells3 HD
     have eq0 := q0
     have eq1 := q1
     have eq2 := q2
     rw [hw14] at eq0 eq1 eq2
     have HWw14 := Lib.hid hw14
     clear hw14 hP5
     go_wp2_with fail
     rw [← HWw14.out, ← HP5.out]
     clear eq0 eq1 eq2
     clear q0 q1 q2 qf
     refine (to_NetW _ _ _ n w14 HN.out hs2).mono ?_
     rintro e w15 ⟨z0, z1, z2, rfl, hq, hb15, gn, hgn0, hgn1, ho⟩
     have hzy15 := hb15.size
     have HMN := Lib.hid ho; clear ho
     obtain ⟨hin, hhin⟩ : ∃ z, z = w15.heap.size := ⟨_, rfl⟩
     rw [← hhin] at HMN
     have hhln : hin ≤ w15.heap.size := by omega
     have hhgn : gn ≤ w15.heap.size ∧ gn ≤ hin := by omega
     obtain ⟨⟨CA4, Cm4, Cc4, rfl⟩, ⟨CA5, Cm5, Cc5, rfl⟩, CA6, Cm6, Cc6, rfl⟩ := hq.slices
     have JN := Lib.hid hq
     clear hq
     have hzhb15 := hb15.size
     replace HM := bk HM hb15
     replace HD := bk HD hb15
     replace HY := bk HY hb15
     replace HA := bk HA hb15
     replace HBS := bk HBS hb15
     replace IM := bk IM hb15
     replace hB3 := bl_trans hB3 hb15
     replace hB := bl_trans hB hb15
     replace HR := Lib.hid (HR.out.up hb15)
     replace HN := Lib.hid (HN.out.up hb15)
     replace HX := Lib.hid (HX.out.up hb15)
     replace JM := Lib.hid (JM.out.up hb15)
     replace HS := Lib.hid (HS.out.up hb15)
     replace HMM := Lib.hid (HMM.out.off fun b _ h2 => hb15.block b (by omega))
     obtain ⟨w16, hw16, hb16, IN, hzz16, HSS16⟩ := box3 w15 (.slice CA4 Cm4 Cc4) (.slice CA5 Cm5 Cc5) (.slice CA6 Cm6 Cc6) 46
     obtain ⟨P6, hP6⟩ : ∃ z, z = w15.heap.size := ⟨_, rfl⟩
     have HP6 := Lib.hid hP6
     rw [← hP6] at IN hzz16
     have hP6l : w15.heap.size ≤ P6 ∧ P6 ≤ w15.heap.size := by rw [hP6]; exact ⟨Nat.le_refl _, Nat.le_refl _⟩
     have hzhb16 := hb16.size
     replace HM := bk HM hb16
     replace HD := bk HD hb16
     replace HY := bk HY hb16
     replace HA := bk HA hb16
     replace HBS := bk HBS hb16
     replace IM := bk IM hb16
     replace hB3 := bl_trans hB3 hb16
     replace hB := bl_trans hB hb16
     replace HR := Lib.hid (HR.out.up hb16)
     replace HN := Lib.hid (HN.out.up hb16)
     replace HX := Lib.hid (HX.out.up hb16)
     replace JM := Lib.hid (JM.out.up hb16)
     replace JN := Lib.hid (JN.out.up hb16)
     replace HS := Lib.hid (HS.out.up hb16)
     replace HMM := Lib.hid (HMM.out.off fun b _ h2 => hb16.block b (by omega))
     replace HMN := Lib.hid (HMN.out.off (by omega) fun b _ h2 => hb16.block b h2)
     obtain ⟨⟨y0, y1, y2⟩, ⟨y3, y4⟩, yf⟩ := cells5 HY
     have ey0 := y0
     have ey1 := y1
     have ey2 := y2
     have ey3 := y3
     have ey4 := y4
     rw [hw16] at ey0 ey1 ey2 ey3 ey4
     have HWw16 := Lib.hid hw16
     clear hw16 hP6
     go_wp2_with fail
     rw [← HWw16.out, ← HP6.out]
     clear ey0 ey1 ey2 ey3 ey4
     clear y0 y1 y2 y3 y4 yf
     refine (to_AsyW _ _ _ _ _ x w16 HX.out hs3).mono ?_
     rintro e w17 ⟨z0, z1, z2, z3, z4, rfl, hq, hb17, ho⟩
     have hzy17 := hb17.size
     have HMX := Lib.hid (ho.p (g := w16.heap.size) (by omega) hs3); clear ho
     obtain ⟨gx, hgx⟩ : ∃ z, z = w16.heap.size := ⟨_, rfl⟩
     rw [← hgx] at HMX
     obtain ⟨hix, hhix⟩ : ∃ z, z = w17.heap.size := ⟨_, rfl⟩
     rw [← hhix] at HMX
     have hhlx : hix ≤ w17.heap.size := by omega
     have hhgx : gx ≤ w17.heap.size ∧ gx ≤ hix := by omega
     obtain ⟨⟨CA10, Cm10, Cc10, rfl⟩, ⟨CA11, Cm11, Cc11, rfl⟩, ⟨CA12, Cm12, Cc12, rfl⟩, ⟨CA8, Cm8, Cc8, rfl⟩, CA9, Cm9, Cc9, rfl⟩ := hq.slices
     have JX := Lib.hid hq
     clear hq
     have hzhb17 := hb17.size
     replace HM := bk HM hb17
     replace HD := bk HD hb17
     replace HY := bk HY hb17
     replace HA := bk HA hb17
     replace HBS := bk HBS hb17
     replace IM := bk IM hb17
     replace IN := bk IN hb17
     replace hB3 := bl_trans hB3 hb17
     replace hB := bl_trans hB hb17
     replace HR := Lib.hid (HR.out.up hb17)
     replace HN := Lib.hid (HN.out.up hb17)
     replace HX := Lib.hid (HX.out.up hb17)
     replace JM := Lib.hid (JM.out.up hb17)
     replace JN := Lib.hid (JN.out.up hb17)
     replace HS := Lib.hid (HS.out.up hb17)
     replace HMM := Lib.hid (HMM.out.off fun b _ h2 => hb17.block b (by omega))
     replace HMN := Lib.hid (HMN.out.off (by omega) fun b _ h2 => hb17.block b h2)
     obtain ⟨w18, hw18, hb18, IX, hzz18, HSS18⟩ := box5 w17 (.slice CA10 Cm10 Cc10) (.slice CA11 Cm11 Cc11) (.slice CA12 Cm12 Cc12) (.slice CA8 Cm8 Cc8) (.slice CA9 Cm9 Cc9) 50
     obtain ⟨P7, hP7⟩ : ∃ z, z = w17.heap.size := ⟨_, rfl⟩
     have HP7 := Lib.hid hP7
     rw [← hP7] at IX hzz18
     have hP7l : w17.heap.size ≤ P7 ∧ P7 ≤ w17.heap.size := by rw [hP7]; exact ⟨Nat.le_refl _, Nat.le_refl _⟩
     have hzhb18 := hb18.size
     replace HM := bk HM hb18
     replace HD := bk HD hb18
     replace HY := bk HY hb18
     replace HA := bk HA hb18
     replace HBS := bk HBS hb18
     replace IM := bk IM hb18
     replace IN := bk IN hb18
     replace hB3 := bl_trans hB3 hb18
     replace hB := bl_trans hB hb18
     replace HR := Lib.hid (HR.out.up hb18)
     replace HN := Lib.hid (HN.out.up hb18)
     replace HX := Lib.hid (HX.out.up hb18)
     replace JM := Lib.hid (JM.out.up hb18)
     replace JN := Lib.hid (JN.out.up hb18)
     replace JX := Lib.hid (JX.out.up hb18)
     replace HS := Lib.hid (HS.out.up hb18)
     replace HMM := Lib.hid (HMM.out.off fun b _ h2 => hb18.block b (by omega))
     replace HMN := Lib.hid (HMN.out.off (by omega) fun b _ h2 => hb18.block b h2)
     replace HMX := Lib.hid (HMX.out.off fun b _ h2 => hb18.block b (by omega))
     have HWw18 := Lib.hid hw18
     clear hw18 hP7
     go_wp2_with fail
     rw [← HWw18.out, ← HP7.out]
     rename_i K hrest
     have FIN0 : ∀ (W : World) (PX : Nat) (GA10 : Option Addr) (Gm10 Gc10 : Nat) (GA11 : Option Addr) (Gm11 Gc11 : Nat) (GA12 : Option Addr) (Gm12 Gc12 : Nat) (GA8 : Option Addr) (Gm8 Gc8 : Nat) (GA9 : Option Addr) (Gm9 Gc9 : Nat), Below w18.heap.size w18 W → w18.heap.size ≤ PX → BoxR W w18.heap.size PX (.slice GA10 Gm10 Gc10) (.slice GA11 Gm11 Gc11) (.slice GA12 Gm12 Gc12) (.slice GA8 Gm8 Gc8) (.slice GA9 Gm9 Gc9) yy →
       K ⟨#[.agg #[.int .i64 m.deg, .int .i64 m.st, .int .i64 m.msg, .slice A0 m0 c0, .slice A1 m1 c1, .slice A2 m2 c2, .slice A3 m3 c3], .agg #[.slice A4 m4 c4, .slice A5 m5 c5, .slice A6 m6 c6], .agg #[.slice A10 m10 c10, .slice A11 m11 c11, .slice A12 m12 c12, .slice A8 m8 c8, .slice A9 m9 c9], .agg #[.int .i64 ak, .int .i64 an, .int .i64 ap, .int .i64 aa], .pointer (some ⟨w.heap.size, 0, none⟩), .pointer (some ⟨P1, 0, none⟩), .pointer (some ⟨P2, 0, none⟩), .pointer (some ⟨P3, 0, none⟩), .bool false, .int .i64 left3, .pointer (some ⟨PW, 0, none⟩), .bool V, .pointer (some ⟨P5, 0, none⟩), .pointer (some ⟨P6, 0, none⟩), .pointer (some ⟨P7, 0, none⟩), .pointer (some ⟨PX, 0, none⟩), .bool V, undef, undef, undef, undef, undef, .agg #[.int .i64 m.deg, .int .i64 m.st, .int .i64 m.msg, .slice A0 m0 c0, .slice A1 m1 c1, .slice A2 m2 c2, .slice A3 m3 c3], .int .i64 1048576, .int .i64 left1, .int .i64 left1, .bool (decide (left1 < 0)), .agg #[.slice A4 m4 c4, .slice A5 m5 c5, .slice A6 m6 c6], .int .i64 left1, .int .i64 left2, .int .i64 left2, .bool (decide (left2 < 0)), .agg #[.slice A10 m10 c10, .slice A11 m11 c11, .slice A12 m12 c12, .slice A8 m8 c8, .slice A9 m9 c9], .int .i64 left2, .int .i64 left3, .int .i64 left3, .bool (decide (left3 < 0)), .tuple #[.agg #[.slice SA10 Sm10 Sc10, .slice SA11 Sm11 Sc11, .slice SA12 Sm12 Sc12, .slice SA8 Sm8 Sc8, .slice SA9 Sm9 Sc9], .bool V], .agg #[.int .i64 m.deg, .int .i64 m.st, .int .i64 m.msg, .slice A0 m0 c0, .slice A1 m1 c1, .slice A2 m2 c2, .slice A3 m3 c3], b39, .agg #[.slice A4 m4 c4, .slice A5 m5 c5, .slice A6 m6 c6], b41, .agg #[.slice A10 m10 c10, .slice A11 m11 c11, .slice A12 m12 c12, .slice A8 m8 c8, .slice A9 m9 c9], b43, .agg #[.int .i64 ak, .int .i64 an, .int .i64 ap, .int .i64 aa], .agg #[.int .i64 ak, .int .i64 an, .int .i64 ap, .int .i64 aa], .tuple #[.agg #[.slice SA10 Sm10 Sc10, .slice SA11 Sm11 Sc11, .slice SA12 Sm12 Sc12, .slice SA8 Sm8 Sc8, .slice SA9 Sm9 Sc9], .bool V], .agg #[.slice SA10 Sm10 Sc10, .slice SA11 Sm11 Sc11, .slice SA12 Sm12 Sc12, .slice SA8 Sm8 Sc8, .slice SA9 Sm9 Sc9], .bool V, .agg #[.int .i64 m.deg, .int .i64 m.st, .int .i64 m.msg, .slice A0 m0 c0, .slice A1 m1 c1, .slice A2 m2 c2, .slice A3 m3 c3], .agg #[.int .i64 m.deg, .int .i64 m.st, .int .i64 m.msg, .slice CA0 Cm0 Cc0, .slice CA1 Cm1 Cc1, .slice CA2 Cm2 Cc2, .slice CA3 Cm3 Cc3], .agg #[.slice A4 m4 c4, .slice A5 m5 c5, .slice A6 m6 c6], .agg #[.slice CA4 Cm4 Cc4, .slice CA5 Cm5 Cc5, .slice CA6 Cm6 Cc6], .agg #[.slice A10 m10 c10, .slice A11 m11 c11, .slice A12 m12 c12, .slice A8 m8 c8, .slice A9 m9 c9], .agg #[.slice CA10 Cm10 Cc10, .slice CA11 Cm11 Cc11, .slice CA12 Cm12 Cc12, .slice CA8 Cm8 Cc8, .slice CA9 Cm9 Cc9], .tuple #[.agg #[.slice GA10 Gm10 Gc10, .slice GA11 Gm11 Gc11, .slice GA12 Gm12 Gc12, .slice GA8 Gm8 Gc8, .slice GA9 Gm9 Gc9], .bool V], .agg #[.int .i64 m.deg, .int .i64 m.st, .int .i64 m.msg, .slice CA0 Cm0 Cc0, .slice CA1 Cm1 Cc1, .slice CA2 Cm2 Cc2, .slice CA3 Cm3 Cc3], .agg #[.slice CA4 Cm4 Cc4, .slice CA5 Cm5 Cc5, .slice CA6 Cm6 Cc6], .agg #[.slice CA10 Cm10 Cc10, .slice CA11 Cm11 Cc11, .slice CA12 Cm12 Cc12, .slice CA8 Cm8 Cc8, .slice CA9 Cm9 Cc9], .agg #[.int .i64 ak, .int .i64 an, .int .i64 ap, .int .i64 aa], .agg #[.int .i64 ak, .int .i64 an, .int .i64 ap, .int .i64 aa], .tuple #[.agg #[.slice GA10 Gm10 Gc10, .slice GA11 Gm11 Gc11, .slice GA12 Gm12 Gc12, .slice GA8 Gm8 Gc8, .slice GA9 Gm9 Gc9], .bool V], .agg #[.slice GA10 Gm10 Gc10, .slice GA11 Gm11 Gc11, .slice GA12 Gm12 Gc12, .slice GA8 Gm8 Gc8, .slice GA9 Gm9 Gc9], .bool V, undef, undef, undef, undef, undef, undef, undef, undef, undef, undef, undef, undef, undef, undef, undef, undef, undef, undef, undef, undef, undef, undef, undef, undef, undef, undef, undef, undef, undef, undef, undef, undef, undef, undef, undef, undef, undef, undef, undef, undef, undef, undef, undef, undef, undef, undef, undef, undef, undef, undef, undef, undef, undef, undef, undef, undef, undef, undef, undef, undef, undef, undef, undef, undef, undef, undef, undef, undef, undef, undef, undef, undef, undef, undef, undef, undef, undef, undef, undef, undef, undef, undef, undef, undef, undef, undef], []⟩ W := by
      intro w20 PG  GA10 Gm10 Gc10 GA11 Gm11 Gc11 GA12 Gm12 Gc12 GA8 Gm8 Gc8 GA9 Gm9 Gc9 hbw20 hPPG hbr
      refine hrest _ _ ?_
      clear hrest
      obtain ⟨valG, e0, e1, e2, e3, e4, hab⟩ := hbr
      have hPPGl := hab.lt
      have HEG := Lib.hid (And.intro e0 (And.intro e1 (And.intro e2 (And.intro e3 e4))))
      have hbx := hab.box
      rw [← e0, ← e1, ← e2, ← e3, ← e4] at hbx
      have HGG := Lib.hid hab
      have HBG := Lib.hid hbx
      clear e0 e1 e2 e3 e4 hab hbx
      have hzhbw20 := hbw20.size
      replace HM := bk HM hbw20
      replace HD := bk HD hbw20
      replace HY := bk HY hbw20
      replace HA := bk HA hbw20
      replace HBS := bk HBS hbw20
      replace IM := bk IM hbw20
      replace IN := bk IN hbw20
      replace IX := bk IX hbw20
      replace hB3 := bl_trans hB3 hbw20
      replace hB := bl_trans hB hbw20
      replace HR := Lib.hid (HR.out.up hbw20)
      replace HN := Lib.hid (HN.out.up hbw20)
      replace HX := Lib.hid (HX.out.up hbw20)
      replace JM := Lib.hid (JM.out.up hbw20)
      replace JN := Lib.hid (JN.out.up hbw20)
      replace JX := Lib.hid (JX.out.up hbw20)
      replace HS := Lib.hid (HS.out.up hbw20)
      replace HMM := Lib.hid (HMM.out.off fun b _ h2 => hbw20.block b (by omega))
      replace HMN := Lib.hid (HMN.out.off (by omega) fun b _ h2 => hbw20.block b h2)
      replace HMX := Lib.hid (HMX.out.off fun b _ h2 => hbw20.block b (by omega))
      obtain ⟨gu, hgu⟩ : ∃ z, z = w18.heap.size := ⟨_, rfl⟩
      rw [← hgu] at HGG hPPG
      have hgul : gu ≤ w20.heap.size ∧ hix ≤ gu ∧ him ≤ gu ∧ hin ≤ gu := by omega
      have hguP : w.heap.size < gu ∧ P1 < gu ∧ P2 < gu ∧ P3 < gu ∧ PW < gu ∧ P5 < gu ∧ P6 < gu ∧ P7 < gu := by omega
      clear hgu
      have HAG := Lib.hid (show Value.agg #[valG .r, valG .b, valG .n, valG .s, valG .f] = .agg #[.slice GA10 Gm10 Gc10, .slice GA11 Gm11 Gc11, .slice GA12 Gm12 Gc12, .slice GA8 Gm8 Gc8, .slice GA9 Gm9 Gc9] by obtain ⟨e0, e1, e2, e3, e4⟩ := HEG.out; rw [← e0, ← e1, ← e2, ← e3, ← e4])
      have HU := Lib.hid (reads_at HGG.out HIS.out.1 HEG.out)
      obtain ⟨⟨s0, s1, s2⟩, ⟨s3, s4⟩, sf⟩ := cells5 HBS
      obtain ⟨⟨l0, l1, l2⟩, ⟨l3, l4⟩, lf⟩ := cells5 HBG
      go_wp2_with fail
      clear s0 s1 s2 s3 s4 l0 l1 l2 l3 l4 sf lf
      refine (eq_Asy _ _ _ _ _ _ _ _ _ _ yy w20 HU.out HS.out).mono ?_
      rintro e w21 ⟨rfl, hb21⟩
      have hzhb21 := hb21.size
      replace HM := bk HM hb21
      replace HD := bk HD hb21
      replace HY := bk HY hb21
      replace HA := bk HA hb21
      replace HBS := bk HBS hb21
      replace IM := bk IM hb21
      replace IN := bk IN hb21
      replace IX := bk IX hb21
      replace HBG := bk HBG hb21
      replace hB3 := bl_trans hB3 hb21
      replace hB := bl_trans hB hb21
      replace HR := Lib.hid (HR.out.up hb21)
      replace HN := Lib.hid (HN.out.up hb21)
      replace HX := Lib.hid (HX.out.up hb21)
      replace JM := Lib.hid (JM.out.up hb21)
      replace JN := Lib.hid (JN.out.up hb21)
      replace JX := Lib.hid (JX.out.up hb21)
      replace HS := Lib.hid (HS.out.up hb21)
      replace HMM := Lib.hid (HMM.out.off fun b _ h2 => hb21.block b (by omega))
      replace HMN := Lib.hid (HMN.out.off (by omega) fun b _ h2 => hb21.block b h2)
      replace HMX := Lib.hid (HMX.out.off fun b _ h2 => hb21.block b (by omega))
      replace HGG := Lib.hid (HGG.out.up hb21)
      replace HU := Lib.hid (HU.out.up hb21)
      go_wp2_with fail
      obtain ⟨⟨g0, g1, g2⟩, ⟨g3, g4, g5, g6⟩, gf⟩ := cells7 HM
      obtain ⟨⟨a0, a1, a2⟩, ⟨a3, a4, a5, a6⟩, af⟩ := cells7 IM
      refine wp_region_held_drew (S := fun w' => w'.cell? ⟨w.heap.size, 0, none⟩ = some (.int .i64 m.deg) ∧ w'.cell? ⟨w.heap.size, 1, none⟩ = some (.int .i64 m.st) ∧ w'.cell? ⟨w.heap.size, 2, none⟩ = some (.int .i64 m.msg) ∧ w'.cell? ⟨w.heap.size, 3, none⟩ = some (.slice A0 m0 c0) ∧ w'.cell? ⟨w.heap.size, 4, none⟩ = some (.slice A1 m1 c1) ∧ w'.cell? ⟨w.heap.size, 5, none⟩ = some (.slice A2 m2 c2) ∧ w'.cell? ⟨w.heap.size, 6, none⟩ = some (.slice A3 m3 c3) ∧ w'.cell? ⟨P5, 0, none⟩ = some (.int .i64 m.deg) ∧ w'.cell? ⟨P5, 1, none⟩ = some (.int .i64 m.st) ∧ w'.cell? ⟨P5, 2, none⟩ = some (.int .i64 m.msg) ∧ w'.cell? ⟨P5, 3, none⟩ = some (.slice CA0 Cm0 Cc0) ∧ w'.cell? ⟨P5, 4, none⟩ = some (.slice CA1 Cm1 Cc1) ∧ w'.cell? ⟨P5, 5, none⟩ = some (.slice CA2 Cm2 Cc2) ∧ w'.cell? ⟨P5, 6, none⟩ = some (.slice CA3 Cm3 Cc3)) (by kernel_rfl) ?_ (fun hHeld => ?_)
      ·
       go_keep
      refine stk 0 73 ?_
      refine stk 1 74 ?_
      refine tr 2 rfl (by kernel_rfl) (fun K hK => ?_)
      go_simp
      go_at_call 13
      refine (to_Mach _ _ _ _ m w21.drew (HR.out.up (Below.refl _ _).drew) hs1).mono ?_
      rintro e w22 ⟨z0, z1, z2, z3, rfl, hq, hb22'⟩
      have hb22 : Below w21.heap.size w21 w22 := (Below.refl _ _).drew.trans hb22'
      clear hb22'
      obtain ⟨⟨EA0, Em0, Ec0, rfl⟩, ⟨EA1, Em1, Ec1, rfl⟩, ⟨EA2, Em2, Ec2, rfl⟩, EA3, Em3, Ec3, rfl⟩ := hq.slices
      have JJ := Lib.hid hq
      clear hq
      have hzhb22 := hb22.size
      clear g0 g1 g2 g3 g4 g5 g6 a0 a1 a2 a3 a4 a5 a6 gf af
      replace HM := bk HM hb22
      replace HD := bk HD hb22
      replace HY := bk HY hb22
      replace HA := bk HA hb22
      replace HBS := bk HBS hb22
      replace IM := bk IM hb22
      replace IN := bk IN hb22
      replace IX := bk IX hb22
      replace HBG := bk HBG hb22
      replace hB3 := bl_trans hB3 hb22
      replace hB := bl_trans hB hb22
      obtain ⟨⟨g0, g1, g2⟩, ⟨g3, g4, g5, g6⟩, gf⟩ := cells7 HM
      obtain ⟨⟨a0, a1, a2⟩, ⟨a3, a4, a5, a6⟩, af⟩ := cells7 IM
      replace HR := Lib.hid (HR.out.up hb22)
      replace HN := Lib.hid (HN.out.up hb22)
      replace HX := Lib.hid (HX.out.up hb22)
      replace JM := Lib.hid (JM.out.up hb22)
      replace JN := Lib.hid (JN.out.up hb22)
      replace JX := Lib.hid (JX.out.up hb22)
      replace HS := Lib.hid (HS.out.up hb22)
      replace HMM := Lib.hid (HMM.out.off fun b _ h2 => hb22.block b (by omega))
      replace HMN := Lib.hid (HMN.out.off (by omega) fun b _ h2 => hb22.block b h2)
      replace HMX := Lib.hid (HMX.out.off fun b _ h2 => hb22.block b (by omega))
      replace HGG := Lib.hid (HGG.out.up hb22)
      replace HU := Lib.hid (HU.out.up hb22)
      refine hK.out _ _ ?_ (fun hHeld => ?_)
      ·
       go_keep
      clear hK K
      try simp only [Act.put, pu]
      refine tr 3 rfl (by kernel_rfl) (fun K hK => ?_)
      go_simp
      go_at_call 18
      refine (eq_Mach _ _ _ _ _ _ _ _ m w22 JM.out JJ.out).mono ?_
      rintro e w23 ⟨rfl, hb23⟩
      clear JJ
      have hzhb23 := hb23.size
      clear g0 g1 g2 g3 g4 g5 g6 a0 a1 a2 a3 a4 a5 a6 gf af
      replace HM := bk HM hb23
      replace HD := bk HD hb23
      replace HY := bk HY hb23
      replace HA := bk HA hb23
      replace HBS := bk HBS hb23
      replace IM := bk IM hb23
      replace IN := bk IN hb23
      replace IX := bk IX hb23
      replace HBG := bk HBG hb23
      replace hB3 := bl_trans hB3 hb23
      replace hB := bl_trans hB hb23
      obtain ⟨⟨g0, g1, g2⟩, ⟨g3, g4, g5, g6⟩, gf⟩ := cells7 HM
      obtain ⟨⟨a0, a1, a2⟩, ⟨a3, a4, a5, a6⟩, af⟩ := cells7 IM
      replace HR := Lib.hid (HR.out.up hb23)
      replace HN := Lib.hid (HN.out.up hb23)
      replace HX := Lib.hid (HX.out.up hb23)
      replace JM := Lib.hid (JM.out.up hb23)
      replace JN := Lib.hid (JN.out.up hb23)
      replace JX := Lib.hid (JX.out.up hb23)
      replace HS := Lib.hid (HS.out.up hb23)
      replace HMM := Lib.hid (HMM.out.off fun b _ h2 => hb23.block b (by omega))
      replace HMN := Lib.hid (HMN.out.off (by omega) fun b _ h2 => hb23.block b h2)
      replace HMX := Lib.hid (HMX.out.off fun b _ h2 => hb23.block b (by omega))
      replace HGG := Lib.hid (HGG.out.up hb23)
      replace HU := Lib.hid (HU.out.up hb23)
      refine hK.out _ _ ?_ (fun hHeld => ?_)
      ·
       go_keep
      clear hK K
      try simp only [Act.put, pu]
      refine stk 4 77 ?_
      refine wpAnyH_done (by kernel_rfl) ?_ _
      clear g0 g1 g2 g3 g4 g5 g6 a0 a1 a2 a3 a4 a5 a6 gf af
      go_wp2_with fail
      obtain ⟨q0, q1, q2, qf⟩ := cells3 HD
      obtain ⟨b0, b1, b2, bf⟩ := cells3 IN
      refine wp_region_held_drew (S := fun w' => w'.cell? ⟨P1, 0, none⟩ = some (.slice A4 m4 c4) ∧ w'.cell? ⟨P1, 1, none⟩ = some (.slice A5 m5 c5) ∧ w'.cell? ⟨P1, 2, none⟩ = some (.slice A6 m6 c6) ∧ w'.cell? ⟨P6, 0, none⟩ = some (.slice CA4 Cm4 Cc4) ∧ w'.cell? ⟨P6, 1, none⟩ = some (.slice CA5 Cm5 Cc5) ∧ w'.cell? ⟨P6, 2, none⟩ = some (.slice CA6 Cm6 Cc6)) (by kernel_rfl) ?_ (fun hHeld => ?_)
      ·
       go_keep
      refine stk 0 78 ?_
      refine stk 1 79 ?_
      refine tr 2 rfl (by kernel_rfl) (fun K hK => ?_)
      go_simp
      go_at_call 14
      refine (to_Net _ _ _ n w23.drew (HN.out.up (Below.refl _ _).drew) hs2).mono ?_
      rintro e w24 ⟨z0, z1, z2, rfl, hq, hb24'⟩
      have hb24 : Below w23.heap.size w23 w24 := (Below.refl _ _).drew.trans hb24'
      clear hb24'
      obtain ⟨⟨EA4, Em4, Ec4, rfl⟩, ⟨EA5, Em5, Ec5, rfl⟩, EA6, Em6, Ec6, rfl⟩ := hq.slices
      have JJ := Lib.hid hq
      clear hq
      have hzhb24 := hb24.size
      clear q0 q1 q2 b0 b1 b2 qf bf
      replace HM := bk HM hb24
      replace HD := bk HD hb24
      replace HY := bk HY hb24
      replace HA := bk HA hb24
      replace HBS := bk HBS hb24
      replace IM := bk IM hb24
      replace IN := bk IN hb24
      replace IX := bk IX hb24
      replace HBG := bk HBG hb24
      replace hB3 := bl_trans hB3 hb24
      replace hB := bl_trans hB hb24
      obtain ⟨q0, q1, q2, qf⟩ := cells3 HD
      obtain ⟨b0, b1, b2, bf⟩ := cells3 IN
      replace HR := Lib.hid (HR.out.up hb24)
      replace HN := Lib.hid (HN.out.up hb24)
      replace HX := Lib.hid (HX.out.up hb24)
      replace JM := Lib.hid (JM.out.up hb24)
      replace JN := Lib.hid (JN.out.up hb24)
      replace JX := Lib.hid (JX.out.up hb24)
      replace HS := Lib.hid (HS.out.up hb24)
      replace HMM := Lib.hid (HMM.out.off fun b _ h2 => hb24.block b (by omega))
      replace HMN := Lib.hid (HMN.out.off (by omega) fun b _ h2 => hb24.block b h2)
      replace HMX := Lib.hid (HMX.out.off fun b _ h2 => hb24.block b (by omega))
      replace HGG := Lib.hid (HGG.out.up hb24)
      replace HU := Lib.hid (HU.out.up hb24)
      refine hK.out _ _ ?_ (fun hHeld => ?_)
      ·
       go_keep
      clear hK K
      try simp only [Act.put, pu]
      refine tr 3 rfl (by kernel_rfl) (fun K hK => ?_)
      go_simp
      go_at_call 19
      refine (eq_Net _ _ _ _ _ _ n w24 JN.out JJ.out).mono ?_
      rintro e w25 ⟨rfl, hb25⟩
      clear JJ
      have hzhb25 := hb25.size
      clear q0 q1 q2 b0 b1 b2 qf bf
      replace HM := bk HM hb25
      replace HD := bk HD hb25
      replace HY := bk HY hb25
      replace HA := bk HA hb25
      replace HBS := bk HBS hb25
      replace IM := bk IM hb25
      replace IN := bk IN hb25
      replace IX := bk IX hb25
      replace HBG := bk HBG hb25
      replace hB3 := bl_trans hB3 hb25
      replace hB := bl_trans hB hb25
      obtain ⟨q0, q1, q2, qf⟩ := cells3 HD
      obtain ⟨b0, b1, b2, bf⟩ := cells3 IN
      replace HR := Lib.hid (HR.out.up hb25)
      replace HN := Lib.hid (HN.out.up hb25)
      replace HX := Lib.hid (HX.out.up hb25)
      replace JM := Lib.hid (JM.out.up hb25)
      replace JN := Lib.hid (JN.out.up hb25)
      replace JX := Lib.hid (JX.out.up hb25)
      replace HS := Lib.hid (HS.out.up hb25)
      replace HMM := Lib.hid (HMM.out.off fun b _ h2 => hb25.block b (by omega))
      replace HMN := Lib.hid (HMN.out.off (by omega) fun b _ h2 => hb25.block b h2)
      replace HMX := Lib.hid (HMX.out.off fun b _ h2 => hb25.block b (by omega))
      replace HGG := Lib.hid (HGG.out.up hb25)
      replace HU := Lib.hid (HU.out.up hb25)
      refine hK.out _ _ ?_ (fun hHeld => ?_)
      ·
       go_keep
      clear hK K
      try simp only [Act.put, pu]
      refine stk 4 82 ?_
      refine wpAnyH_done (by kernel_rfl) ?_ _
      clear q0 q1 q2 b0 b1 b2 qf bf
      go_wp2_with fail
      obtain ⟨⟨y0, y1, y2⟩, ⟨y3, y4⟩, yf⟩ := cells5 HY
      obtain ⟨⟨d0, d1, d2⟩, ⟨d3, d4⟩, df⟩ := cells5 IX
      refine wp_region_held_drew (S := fun w' => w'.cell? ⟨P2, 0, none⟩ = some (.slice A10 m10 c10) ∧ w'.cell? ⟨P2, 1, none⟩ = some (.slice A11 m11 c11) ∧ w'.cell? ⟨P2, 2, none⟩ = some (.slice A12 m12 c12) ∧ w'.cell? ⟨P2, 3, none⟩ = some (.slice A8 m8 c8) ∧ w'.cell? ⟨P2, 4, none⟩ = some (.slice A9 m9 c9) ∧ w'.cell? ⟨P7, 0, none⟩ = some (.slice CA10 Cm10 Cc10) ∧ w'.cell? ⟨P7, 1, none⟩ = some (.slice CA11 Cm11 Cc11) ∧ w'.cell? ⟨P7, 2, none⟩ = some (.slice CA12 Cm12 Cc12) ∧ w'.cell? ⟨P7, 3, none⟩ = some (.slice CA8 Cm8 Cc8) ∧ w'.cell? ⟨P7, 4, none⟩ = some (.slice CA9 Cm9 Cc9)) (by kernel_rfl) ?_ (fun hHeld => ?_)
      ·
       go_keep
      refine stk 0 83 ?_
      refine stk 1 84 ?_
      refine tr 2 rfl (by kernel_rfl) (fun K hK => ?_)
      go_simp
      go_at_call 15
      refine (to_Asy _ _ _ _ _ x w25.drew (HX.out.up (Below.refl _ _).drew) hs3).mono ?_
      rintro e w26 ⟨z0, z1, z2, z3, z4, rfl, hq, hb26'⟩
      have hb26 : Below w25.heap.size w25 w26 := (Below.refl _ _).drew.trans hb26'
      clear hb26'
      obtain ⟨⟨EA10, Em10, Ec10, rfl⟩, ⟨EA11, Em11, Ec11, rfl⟩, ⟨EA12, Em12, Ec12, rfl⟩, ⟨EA8, Em8, Ec8, rfl⟩, EA9, Em9, Ec9, rfl⟩ := hq.slices
      have JJ := Lib.hid hq
      clear hq
      have hzhb26 := hb26.size
      clear y0 y1 y2 y3 y4 d0 d1 d2 d3 d4 yf df
      replace HM := bk HM hb26
      replace HD := bk HD hb26
      replace HY := bk HY hb26
      replace HA := bk HA hb26
      replace HBS := bk HBS hb26
      replace IM := bk IM hb26
      replace IN := bk IN hb26
      replace IX := bk IX hb26
      replace HBG := bk HBG hb26
      replace hB3 := bl_trans hB3 hb26
      replace hB := bl_trans hB hb26
      obtain ⟨⟨y0, y1, y2⟩, ⟨y3, y4⟩, yf⟩ := cells5 HY
      obtain ⟨⟨d0, d1, d2⟩, ⟨d3, d4⟩, df⟩ := cells5 IX
      replace HR := Lib.hid (HR.out.up hb26)
      replace HN := Lib.hid (HN.out.up hb26)
      replace HX := Lib.hid (HX.out.up hb26)
      replace JM := Lib.hid (JM.out.up hb26)
      replace JN := Lib.hid (JN.out.up hb26)
      replace JX := Lib.hid (JX.out.up hb26)
      replace HS := Lib.hid (HS.out.up hb26)
      replace HMM := Lib.hid (HMM.out.off fun b _ h2 => hb26.block b (by omega))
      replace HMN := Lib.hid (HMN.out.off (by omega) fun b _ h2 => hb26.block b h2)
      replace HMX := Lib.hid (HMX.out.off fun b _ h2 => hb26.block b (by omega))
      replace HGG := Lib.hid (HGG.out.up hb26)
      replace HU := Lib.hid (HU.out.up hb26)
      refine hK.out _ _ ?_ (fun hHeld => ?_)
      ·
       go_keep
      clear hK K
      try simp only [Act.put, pu]
      refine tr 3 rfl (by kernel_rfl) (fun K hK => ?_)
      go_simp
      go_at_call 20
      refine (eq_Asy _ _ _ _ _ _ _ _ _ _ x w26 JX.out JJ.out).mono ?_
      rintro e w27 ⟨rfl, hb27⟩
      clear JJ
      have hzhb27 := hb27.size
      clear y0 y1 y2 y3 y4 d0 d1 d2 d3 d4 yf df
      replace HM := bk HM hb27
      replace HD := bk HD hb27
      replace HY := bk HY hb27
      replace HA := bk HA hb27
      replace HBS := bk HBS hb27
      replace IM := bk IM hb27
      replace IN := bk IN hb27
      replace IX := bk IX hb27
      replace HBG := bk HBG hb27
      replace hB3 := bl_trans hB3 hb27
      replace hB := bl_trans hB hb27
      obtain ⟨⟨y0, y1, y2⟩, ⟨y3, y4⟩, yf⟩ := cells5 HY
      obtain ⟨⟨d0, d1, d2⟩, ⟨d3, d4⟩, df⟩ := cells5 IX
      replace HR := Lib.hid (HR.out.up hb27)
      replace HN := Lib.hid (HN.out.up hb27)
      replace HX := Lib.hid (HX.out.up hb27)
      replace JM := Lib.hid (JM.out.up hb27)
      replace JN := Lib.hid (JN.out.up hb27)
      replace JX := Lib.hid (JX.out.up hb27)
      replace HS := Lib.hid (HS.out.up hb27)
      replace HMM := Lib.hid (HMM.out.off fun b _ h2 => hb27.block b (by omega))
      replace HMN := Lib.hid (HMN.out.off (by omega) fun b _ h2 => hb27.block b h2)
      replace HMX := Lib.hid (HMX.out.off fun b _ h2 => hb27.block b (by omega))
      replace HGG := Lib.hid (HGG.out.up hb27)
      replace HU := Lib.hid (HU.out.up hb27)
      refine hK.out _ _ ?_ (fun hHeld => ?_)
      ·
       go_keep
      clear hK K
      try simp only [Act.put, pu]
      refine stk 4 87 ?_
      refine wpAnyH_done (by kernel_rfl) ?_ _
      clear y0 y1 y2 y3 y4 d0 d1 d2 d3 d4 yf df
      obtain ⟨⟨a0, a1, a2⟩, ⟨a3, a4, a5, a6⟩, af⟩ := cells7 IM
      go_wp2_with fail
      clear a0 a1 a2 a3 a4 a5 a6 af
      clear JM JN JX
      refine (mark_Mach _ _ _ _ _ _ _ _ _ _ _ gm him 1 w27 HMM.out (by omega) (machP_sum hs1) (by omega) (by omega) (by omega)).mono ?_
      rintro e w28 ⟨⟨k1, rfl, hk1, hk1'⟩, hmk1⟩
      clear HMM
      clear IM
      have hzhmk1 := hmk1.below.size
      replace HM := Lib.hid ((hmk1.off _ (by omega) (by omega)).trans HM.out)
      replace HD := Lib.hid ((hmk1.off _ (by omega) (by omega)).trans HD.out)
      replace HY := Lib.hid ((hmk1.off _ (by omega) (by omega)).trans HY.out)
      replace HA := Lib.hid ((hmk1.off _ (by omega) (by omega)).trans HA.out)
      replace HBS := Lib.hid ((hmk1.off _ (by omega) (by omega)).trans HBS.out)
      replace IN := Lib.hid ((hmk1.off _ (by omega) (by omega)).trans IN.out)
      replace IX := Lib.hid ((hmk1.off _ (by omega) (by omega)).trans IX.out)
      replace HBG := Lib.hid ((hmk1.off _ (by omega) (by omega)).trans HBG.out)
      replace hB := hB.trans (hmk1.below.mono (by omega))
      replace hB3 := hB3.trans (hmk1.below.mono (by omega))
      replace HR := Lib.hid (HR0.out.up hB)
      replace HN := Lib.hid (HN0.out.up hB)
      replace HX := Lib.hid (HX0.out.up hB)
      replace HS := Lib.hid (HS0.out.up hB3)
      replace HMN := Lib.hid (HMN.out.off (by omega) fun b h1 h2 => hmk1.off b h2 (by omega))
      replace HMX := Lib.hid (HMX.out.off fun b h1 h2 => hmk1.off b (by omega) (by omega))
      replace HGG := Lib.hid (HGG.out.off hPPG hmk1.below.size fun b h1 h2 => hmk1.off b h2 (by omega))
      replace HU := Lib.hid (reads_at HGG.out HIS.out.1 HEG.out)
      obtain ⟨b0, b1, b2, bf⟩ := cells3 IN
      go_wp2_with fail
      clear b0 b1 b2 bf
      refine (mark_Net _ _ _ n gn hin k1 w28 HMN.out (by omega) hs2 (by omega) (by omega) (by omega)).mono ?_
      rintro e w29 ⟨⟨k2, rfl, hk2⟩, hmk2⟩
      clear HMN
      clear IN
      have hzhmk2 := hmk2.below.size
      replace HM := Lib.hid ((hmk2.off _ (by omega) (by omega)).trans HM.out)
      replace HD := Lib.hid ((hmk2.off _ (by omega) (by omega)).trans HD.out)
      replace HY := Lib.hid ((hmk2.off _ (by omega) (by omega)).trans HY.out)
      replace HA := Lib.hid ((hmk2.off _ (by omega) (by omega)).trans HA.out)
      replace HBS := Lib.hid ((hmk2.off _ (by omega) (by omega)).trans HBS.out)
      replace IX := Lib.hid ((hmk2.off _ (by omega) (by omega)).trans IX.out)
      replace HBG := Lib.hid ((hmk2.off _ (by omega) (by omega)).trans HBG.out)
      replace hB := hB.trans (hmk2.below.mono (by omega))
      replace hB3 := hB3.trans (hmk2.below.mono (by omega))
      replace HR := Lib.hid (HR0.out.up hB)
      replace HN := Lib.hid (HN0.out.up hB)
      replace HX := Lib.hid (HX0.out.up hB)
      replace HS := Lib.hid (HS0.out.up hB3)
      replace HMX := Lib.hid (HMX.out.off fun b h1 h2 => hmk2.off b (by omega) (by omega))
      replace HGG := Lib.hid (HGG.out.off hPPG hmk2.below.size fun b h1 h2 => hmk2.off b h2 (by omega))
      replace HU := Lib.hid (reads_at HGG.out HIS.out.1 HEG.out)
      obtain ⟨⟨d0, d1, d2⟩, ⟨d3, d4⟩, df⟩ := cells5 IX
      go_wp2_with fail
      clear d0 d1 d2 d3 d4 df
      refine (mark_Asy _ _ _ _ _ _ _ _ _ _ gx hix k2 w29 HMX.out (by omega) (asyP_sum hs3) (by omega) (by omega) (by omega)).mono ?_
      rintro e w30 ⟨⟨k3, rfl, hk3, hk3'⟩, hmk3⟩
      clear HMX
      clear IX
      have hzhmk3 := hmk3.below.size
      replace HM := Lib.hid ((hmk3.off _ (by omega) (by omega)).trans HM.out)
      replace HD := Lib.hid ((hmk3.off _ (by omega) (by omega)).trans HD.out)
      replace HY := Lib.hid ((hmk3.off _ (by omega) (by omega)).trans HY.out)
      replace HA := Lib.hid ((hmk3.off _ (by omega) (by omega)).trans HA.out)
      replace HBS := Lib.hid ((hmk3.off _ (by omega) (by omega)).trans HBS.out)
      replace HBG := Lib.hid ((hmk3.off _ (by omega) (by omega)).trans HBG.out)
      replace hB := hB.trans (hmk3.below.mono (by omega))
      replace hB3 := hB3.trans (hmk3.below.mono (by omega))
      replace HR := Lib.hid (HR0.out.up hB)
      replace HN := Lib.hid (HN0.out.up hB)
      replace HX := Lib.hid (HX0.out.up hB)
      replace HS := Lib.hid (HS0.out.up hB3)
      replace HGG := Lib.hid (HGG.out.off hPPG hmk3.below.size fun b h1 h2 => hmk3.off b h2 (by omega))
      replace HU := Lib.hid (reads_at HGG.out HIS.out.1 HEG.out)
      obtain ⟨⟨s0, s1, s2⟩, ⟨s3, s4⟩, sf⟩ := cells5 HBS
      obtain ⟨⟨l0, l1, l2⟩, ⟨l3, l4⟩, lf⟩ := cells5 HBG
      go_wp2_with fail
      clear s0 s1 s2 s3 s4 l0 l1 l2 l3 l4 sf lf
      refine (eq_Asy _ _ _ _ _ _ _ _ _ _ yy w30 HU.out HS.out).mono ?_
      rintro e w31 ⟨rfl, hb31⟩
      have hzhb31 := hb31.size
      replace HM := bk HM hb31
      replace HD := bk HD hb31
      replace HY := bk HY hb31
      replace HA := bk HA hb31
      replace HBS := bk HBS hb31
      replace HBG := bk HBG hb31
      replace hB3 := bl_trans hB3 hb31
      replace hB := bl_trans hB hb31
      replace HR := Lib.hid (HR.out.up hb31)
      replace HN := Lib.hid (HN.out.up hb31)
      replace HX := Lib.hid (HX.out.up hb31)
      replace HS := Lib.hid (HS.out.up hb31)
      replace HGG := Lib.hid (HGG.out.up hb31)
      replace HU := Lib.hid (HU.out.up hb31)
      obtain ⟨⟨l0, l1, l2⟩, ⟨l3, l4⟩, lf⟩ := cells5 HBG
      go_wp2_with fail
      clear l0 l1 l2 l3 l4 lf
      have hC := mark_AsyK (base := gu) (val := valG) (x := yy) 1 w31 HGG.out.k (by omega) (by omega) (by rw [HTT.out]; omega)
      rw [HAG.out, HTT.out] at hC
      refine hC.mono ?_
      clear hC
      rintro e w32 ⟨rfl, hk32, hfr⟩
      have hbm : Below gu w31 w32 := hfr.below HGG.out.k (by omega)
      have hzm := hbm.size
      have HNO : ∀ b : Nat, (b < gu ∨ b = PG) → ∀ i, keyOf yy i → (valG i).ownBlock ≠ some b := fun b hb i hi e => by
       rcases hb with h | h
       ·
        have := ((HGG.out.k.own i hi).lt b e).1; omega
       ·
        rw [h] at e; exact HGG.out.ne i hi e
      replace HM := Lib.hid ((hfr.block w.heap.size (by omega) (HNO _ (by first | exact .inl (by omega) | exact .inr rfl))).trans HM.out)
      replace HD := Lib.hid ((hfr.block P1 (by omega) (HNO _ (by first | exact .inl (by omega) | exact .inr rfl))).trans HD.out)
      replace HY := Lib.hid ((hfr.block P2 (by omega) (HNO _ (by first | exact .inl (by omega) | exact .inr rfl))).trans HY.out)
      replace HA := Lib.hid ((hfr.block P3 (by omega) (HNO _ (by first | exact .inl (by omega) | exact .inr rfl))).trans HA.out)
      replace HBS := Lib.hid ((hfr.block PW (by omega) (HNO _ (by first | exact .inl (by omega) | exact .inr rfl))).trans HBS.out)
      replace HBG := Lib.hid ((hfr.block PG (by omega) (HNO _ (by first | exact .inl (by omega) | exact .inr rfl))).trans HBG.out)
      replace hB := hB.trans (hbm.mono (by omega))
      replace hB3 := hB3.trans (hbm.mono (by omega))
      replace HR := Lib.hid (HR0.out.up hB)
      replace HN := Lib.hid (HN0.out.up hB)
      replace HX := Lib.hid (HX0.out.up hB)
      replace HS := Lib.hid (HS0.out.up hB3)
      obtain ⟨RM, hRM⟩ : ∃ z, z = markAll (szA yy) (ordA yy) 1 (rowK yy valG) := ⟨_, rfl⟩
      have HL := Lib.hid (show Like RM (rowK yy valG) by rw [hRM]; exact markAll_like (szA yy) (ordA yy) 1 (rowK yy valG) (Like.refl _) (noTop_ord yy))
      have HH := Lib.hid (show HeldAll (szA yy) (ordA yy) 1 RM by rw [hRM]; exact HeldAll.mark (szA yy) (ordA yy) 1 (rowK yy valG) (ordA_nodup yy))
      rw [← hRM] at hk32
      have HK := Lib.hid hk32
      clear hk32 hRM HGG HU HNO hfr
      have hT0 : (0 : Int) ≤ 1 + (T : Int) := by omega
      obtain ⟨⟨l0, l1, l2⟩, ⟨l3, l4⟩, lf⟩ := cells5 HBG
      go_wp2_with fail
      clear l0 l1 l2 l3 l4 lf
      have hC := held_AsyK (base := gu) (val := valG) (x := yy) RM 1 w32 HK.out HL.out HH.out (by omega) (by rw [HTT.out]; omega)
      rw [HAG.out, HTT.out] at hC
      refine hC.mono ?_
      clear hC
      rintro e w33 ⟨rfl, hb33⟩
      have hzhb33 := hb33.size
      replace HM := bk HM hb33
      replace HD := bk HD hb33
      replace HY := bk HY hb33
      replace HA := bk HA hb33
      replace HBS := bk HBS hb33
      replace HBG := bk HBG hb33
      replace hB3 := bl_trans hB3 hb33
      replace hB := bl_trans hB hb33
      replace HR := Lib.hid (HR.out.up hb33)
      replace HN := Lib.hid (HN.out.up hb33)
      replace HX := Lib.hid (HX.out.up hb33)
      replace HS := Lib.hid (HS.out.up hb33)
      replace HK := Lib.hid (HK.out.keep (grown_below hb33))
      go_wp2_with fail
      rename_i K hrest
      have FIN0 : ∀ (W : World) (PX : Nat) (b123 b125 b127 : Value) (TA10 : Option Addr) (Tm10 Tc10 : Nat) (TA11 : Option Addr) (Tm11 Tc11 : Nat) (TA12 : Option Addr) (Tm12 Tc12 : Nat) (TA8 : Option Addr) (Tm8 Tc8 : Nat) (TA9 : Option Addr) (Tm9 Tc9 : Nat), Below w33.heap.size w33 W → w33.heap.size ≤ PX → BoxR W w33.heap.size PX (.slice TA10 Tm10 Tc10) (.slice TA11 Tm11 Tc11) (.slice TA12 Tm12 Tc12) (.slice TA8 Tm8 Tc8) (.slice TA9 Tm9 Tc9) yy →
        K ⟨#[.agg #[.int .i64 m.deg, .int .i64 m.st, .int .i64 m.msg, .slice A0 m0 c0, .slice A1 m1 c1, .slice A2 m2 c2, .slice A3 m3 c3], .agg #[.slice A4 m4 c4, .slice A5 m5 c5, .slice A6 m6 c6], .agg #[.slice A10 m10 c10, .slice A11 m11 c11, .slice A12 m12 c12, .slice A8 m8 c8, .slice A9 m9 c9], .agg #[.int .i64 ak, .int .i64 an, .int .i64 ap, .int .i64 aa], .pointer (some ⟨w.heap.size, 0, none⟩), .pointer (some ⟨P1, 0, none⟩), .pointer (some ⟨P2, 0, none⟩), .pointer (some ⟨P3, 0, none⟩), .bool false, .int .i64 left3, .pointer (some ⟨PW, 0, none⟩), .bool V, .pointer (some ⟨P5, 0, none⟩), .pointer (some ⟨P6, 0, none⟩), .pointer (some ⟨P7, 0, none⟩), .pointer (some ⟨PG, 0, none⟩), .bool V, .int .i64 k3, .int .i64 (1 + ↑T), .int .i64 (1 + ↑T), .pointer (some ⟨PX, 0, none⟩), .bool V, .agg #[.int .i64 m.deg, .int .i64 m.st, .int .i64 m.msg, .slice A0 m0 c0, .slice A1 m1 c1, .slice A2 m2 c2, .slice A3 m3 c3], .int .i64 1048576, .int .i64 left1, .int .i64 left1, .bool (decide (left1 < 0)), .agg #[.slice A4 m4 c4, .slice A5 m5 c5, .slice A6 m6 c6], .int .i64 left1, .int .i64 left2, .int .i64 left2, .bool (decide (left2 < 0)), .agg #[.slice A10 m10 c10, .slice A11 m11 c11, .slice A12 m12 c12, .slice A8 m8 c8, .slice A9 m9 c9], .int .i64 left2, .int .i64 left3, .int .i64 left3, .bool (decide (left3 < 0)), .tuple #[.agg #[.slice SA10 Sm10 Sc10, .slice SA11 Sm11 Sc11, .slice SA12 Sm12 Sc12, .slice SA8 Sm8 Sc8, .slice SA9 Sm9 Sc9], .bool V], .agg #[.int .i64 m.deg, .int .i64 m.st, .int .i64 m.msg, .slice A0 m0 c0, .slice A1 m1 c1, .slice A2 m2 c2, .slice A3 m3 c3], b39, .agg #[.slice A4 m4 c4, .slice A5 m5 c5, .slice A6 m6 c6], b41, .agg #[.slice A10 m10 c10, .slice A11 m11 c11, .slice A12 m12 c12, .slice A8 m8 c8, .slice A9 m9 c9], b43, .agg #[.int .i64 ak, .int .i64 an, .int .i64 ap, .int .i64 aa], .agg #[.int .i64 ak, .int .i64 an, .int .i64 ap, .int .i64 aa], .tuple #[.agg #[.slice SA10 Sm10 Sc10, .slice SA11 Sm11 Sc11, .slice SA12 Sm12 Sc12, .slice SA8 Sm8 Sc8, .slice SA9 Sm9 Sc9], .bool V], .agg #[.slice SA10 Sm10 Sc10, .slice SA11 Sm11 Sc11, .slice SA12 Sm12 Sc12, .slice SA8 Sm8 Sc8, .slice SA9 Sm9 Sc9], .bool V, .agg #[.int .i64 m.deg, .int .i64 m.st, .int .i64 m.msg, .slice A0 m0 c0, .slice A1 m1 c1, .slice A2 m2 c2, .slice A3 m3 c3], .agg #[.int .i64 m.deg, .int .i64 m.st, .int .i64 m.msg, .slice CA0 Cm0 Cc0, .slice CA1 Cm1 Cc1, .slice CA2 Cm2 Cc2, .slice CA3 Cm3 Cc3], .agg #[.slice A4 m4 c4, .slice A5 m5 c5, .slice A6 m6 c6], .agg #[.slice CA4 Cm4 Cc4, .slice CA5 Cm5 Cc5, .slice CA6 Cm6 Cc6], .agg #[.slice A10 m10 c10, .slice A11 m11 c11, .slice A12 m12 c12, .slice A8 m8 c8, .slice A9 m9 c9], .agg #[.slice CA10 Cm10 Cc10, .slice CA11 Cm11 Cc11, .slice CA12 Cm12 Cc12, .slice CA8 Cm8 Cc8, .slice CA9 Cm9 Cc9], .tuple #[.agg #[.slice GA10 Gm10 Gc10, .slice GA11 Gm11 Gc11, .slice GA12 Gm12 Gc12, .slice GA8 Gm8 Gc8, .slice GA9 Gm9 Gc9], .bool V], .agg #[.int .i64 m.deg, .int .i64 m.st, .int .i64 m.msg, .slice CA0 Cm0 Cc0, .slice CA1 Cm1 Cc1, .slice CA2 Cm2 Cc2, .slice CA3 Cm3 Cc3], .agg #[.slice CA4 Cm4 Cc4, .slice CA5 Cm5 Cc5, .slice CA6 Cm6 Cc6], .agg #[.slice CA10 Cm10 Cc10, .slice CA11 Cm11 Cc11, .slice CA12 Cm12 Cc12, .slice CA8 Cm8 Cc8, .slice CA9 Cm9 Cc9], .agg #[.int .i64 ak, .int .i64 an, .int .i64 ap, .int .i64 aa], .agg #[.int .i64 ak, .int .i64 an, .int .i64 ap, .int .i64 aa], .tuple #[.agg #[.slice GA10 Gm10 Gc10, .slice GA11 Gm11 Gc11, .slice GA12 Gm12 Gc12, .slice GA8 Gm8 Gc8, .slice GA9 Gm9 Gc9], .bool V], .agg #[.slice GA10 Gm10 Gc10, .slice GA11 Gm11 Gc11, .slice GA12 Gm12 Gc12, .slice GA8 Gm8 Gc8, .slice GA9 Gm9 Gc9], .bool V, .agg #[.slice GA10 Gm10 Gc10, .slice GA11 Gm11 Gc11, .slice GA12 Gm12 Gc12, .slice GA8 Gm8 Gc8, .slice GA9 Gm9 Gc9], .agg #[.slice SA10 Sm10 Sc10, .slice SA11 Sm11 Sc11, .slice SA12 Sm12 Sc12, .slice SA8 Sm8 Sc8, .slice SA9 Sm9 Sc9], .bool true, .bool false, .bool false, .bool V, .bool V, .bool false, .bool false, .agg #[.int .i64 m.deg, .int .i64 m.st, .int .i64 m.msg, .slice CA0 Cm0 Cc0, .slice CA1 Cm1 Cc1, .slice CA2 Cm2 Cc2, .slice CA3 Cm3 Cc3], .agg #[.int .i64 m.deg, .int .i64 m.st, .int .i64 m.msg, .slice A0 m0 c0, .slice A1 m1 c1, .slice A2 m2 c2, .slice A3 m3 c3], .agg #[.int .i64 m.deg, .int .i64 m.st, .int .i64 m.msg, .slice EA0 Em0 Ec0, .slice EA1 Em1 Ec1, .slice EA2 Em2 Ec2, .slice EA3 Em3 Ec3], .bool true, .bool false, .agg #[.slice CA4 Cm4 Cc4, .slice CA5 Cm5 Cc5, .slice CA6 Cm6 Cc6], .agg #[.slice A4 m4 c4, .slice A5 m5 c5, .slice A6 m6 c6], .agg #[.slice EA4 Em4 Ec4, .slice EA5 Em5 Ec5, .slice EA6 Em6 Ec6], .bool true, .bool false, .agg #[.slice CA10 Cm10 Cc10, .slice CA11 Cm11 Cc11, .slice CA12 Cm12 Cc12, .slice CA8 Cm8 Cc8, .slice CA9 Cm9 Cc9], .agg #[.slice A10 m10 c10, .slice A11 m11 c11, .slice A12 m12 c12, .slice A8 m8 c8, .slice A9 m9 c9], .agg #[.slice EA10 Em10 Ec10, .slice EA11 Em11 Ec11, .slice EA12 Em12 Ec12, .slice EA8 Em8 Ec8, .slice EA9 Em9 Ec9], .bool true, .bool false, .agg #[.int .i64 m.deg, .int .i64 m.st, .int .i64 m.msg, .slice CA0 Cm0 Cc0, .slice CA1 Cm1 Cc1, .slice CA2 Cm2 Cc2, .slice CA3 Cm3 Cc3], .int .i64 1, .int .i64 k1, .agg #[.slice CA4 Cm4 Cc4, .slice CA5 Cm5 Cc5, .slice CA6 Cm6 Cc6], .int .i64 k1, .int .i64 k2, .agg #[.slice CA10 Cm10 Cc10, .slice CA11 Cm11 Cc11, .slice CA12 Cm12 Cc12, .slice CA8 Cm8 Cc8, .slice CA9 Cm9 Cc9], .int .i64 k2, .int .i64 k3, .int .i64 k3, .bool (decide (k3 < 0)), .bool (decide (k3 < 0)), .agg #[.slice GA10 Gm10 Gc10, .slice GA11 Gm11 Gc11, .slice GA12 Gm12 Gc12, .slice GA8 Gm8 Gc8, .slice GA9 Gm9 Gc9], .agg #[.slice SA10 Sm10 Sc10, .slice SA11 Sm11 Sc11, .slice SA12 Sm12 Sc12, .slice SA8 Sm8 Sc8, .slice SA9 Sm9 Sc9], .bool true, .bool false, .bool (decide (k3 < 0)), .bool (decide (k3 < 0)), .bool V, .bool V, .bool false, .bool (decide (k3 < 0)), .agg #[.slice GA10 Gm10 Gc10, .slice GA11 Gm11 Gc11, .slice GA12 Gm12 Gc12, .slice GA8 Gm8 Gc8, .slice GA9 Gm9 Gc9], .int .i64 1, .int .i64 (1 + ↑T), .agg #[.slice GA10 Gm10 Gc10, .slice GA11 Gm11 Gc11, .slice GA12 Gm12 Gc12, .slice GA8 Gm8 Gc8, .slice GA9 Gm9 Gc9], .int .i64 1, .int .i64 (1 + ↑T), .int .i64 (1 + ↑T), .bool (decide (1 + ↑T < 0)), .int .i64 (1 + ↑T), .int .i64 (1 + ↑T), .bool false, .tuple #[.agg #[.slice TA10 Tm10 Tc10, .slice TA11 Tm11 Tc11, .slice TA12 Tm12 Tc12, .slice TA8 Tm8 Tc8, .slice TA9 Tm9 Tc9], .bool V], .agg #[.int .i64 m.deg, .int .i64 m.st, .int .i64 m.msg, .slice A0 m0 c0, .slice A1 m1 c1, .slice A2 m2 c2, .slice A3 m3 c3], b123, .agg #[.slice A4 m4 c4, .slice A5 m5 c5, .slice A6 m6 c6], b125, .agg #[.slice A10 m10 c10, .slice A11 m11 c11, .slice A12 m12 c12, .slice A8 m8 c8, .slice A9 m9 c9], b127, .agg #[.int .i64 ak, .int .i64 an, .int .i64 ap, .int .i64 aa], .agg #[.int .i64 ak, .int .i64 an, .int .i64 ap, .int .i64 aa], .tuple #[.agg #[.slice TA10 Tm10 Tc10, .slice TA11 Tm11 Tc11, .slice TA12 Tm12 Tc12, .slice TA8 Tm8 Tc8, .slice TA9 Tm9 Tc9], .bool V], .agg #[.slice TA10 Tm10 Tc10, .slice TA11 Tm11 Tc11, .slice TA12 Tm12 Tc12, .slice TA8 Tm8 Tc8, .slice TA9 Tm9 Tc9], .bool V, undef, undef, undef, undef, undef, undef, undef, undef, undef, undef, undef, undef, undef, undef, undef, undef, undef], []⟩ W := by
       intro w40 PH b123 b125 b127 TA10 Tm10 Tc10 TA11 Tm11 Tc11 TA12 Tm12 Tc12 TA8 Tm8 Tc8 TA9 Tm9 Tc9 hbw40 hPPH hbr
       refine hrest _ _ ?_
       clear hrest
       obtain ⟨valT, e0, e1, e2, e3, e4, hab⟩ := hbr
       have hPPHl := hab.lt
       have HET := Lib.hid (And.intro e0 (And.intro e1 (And.intro e2 (And.intro e3 e4))))
       have hbx := hab.box
       rw [← e0, ← e1, ← e2, ← e3, ← e4] at hbx
       have HGT := Lib.hid hab
       have HBT := Lib.hid hbx
       clear e0 e1 e2 e3 e4 hab hbx
       have hzhbw40 := hbw40.size
       replace HM := bk HM hbw40
       replace HD := bk HD hbw40
       replace HY := bk HY hbw40
       replace HA := bk HA hbw40
       replace HBS := bk HBS hbw40
       replace HBG := bk HBG hbw40
       replace hB3 := bl_trans hB3 hbw40
       replace hB := bl_trans hB hbw40
       replace HR := Lib.hid (HR.out.up hbw40)
       replace HN := Lib.hid (HN.out.up hbw40)
       replace HX := Lib.hid (HX.out.up hbw40)
       replace HS := Lib.hid (HS.out.up hbw40)
       replace HK := Lib.hid (HK.out.keep (grown_below hbw40))
       have HU := Lib.hid (reads_at HGT.out HIS.out.1 HET.out)
       clear HGT HET
       obtain ⟨⟨s0, s1, s2⟩, ⟨s3, s4⟩, sf⟩ := cells5 HBS
       obtain ⟨⟨t0, t1, t2⟩, ⟨t3, t4⟩, tf⟩ := cells5 HBT
       go_wp2_with fail
       clear s0 s1 s2 s3 s4 t0 t1 t2 t3 t4 sf tf
       refine (eq_Asy _ _ _ _ _ _ _ _ _ _ yy w40 HU.out HS.out).mono ?_
       rintro e w41 ⟨rfl, hb41⟩
       have hzhb41 := hb41.size
       replace HM := bk HM hb41
       replace HD := bk HD hb41
       replace HY := bk HY hb41
       replace HA := bk HA hb41
       replace HBS := bk HBS hb41
       replace HBG := bk HBG hb41
       replace HBT := bk HBT hb41
       replace hB3 := bl_trans hB3 hb41
       replace hB := bl_trans hB hb41
       replace HR := Lib.hid (HR.out.up hb41)
       replace HN := Lib.hid (HN.out.up hb41)
       replace HX := Lib.hid (HX.out.up hb41)
       replace HS := Lib.hid (HS.out.up hb41)
       replace HK := Lib.hid (HK.out.keep (grown_below hb41))
       replace HU := Lib.hid (HU.out.up hb41)
       obtain ⟨⟨l0, l1, l2⟩, ⟨l3, l4⟩, lf⟩ := cells5 HBG
       go_wp2_with fail
       clear l0 l1 l2 l3 l4 lf
       have hC := held_AsyK (base := gu) (val := valG) (x := yy) RM 1 w41 HK.out HL.out HH.out (by omega) (by rw [HTT.out]; omega)
       rw [HAG.out, HTT.out] at hC
       refine hC.mono ?_
       clear hC
       rintro e w42 ⟨rfl, hb42⟩
       have hzhb42 := hb42.size
       replace HM := bk HM hb42
       replace HD := bk HD hb42
       replace HY := bk HY hb42
       replace HA := bk HA hb42
       replace HBS := bk HBS hb42
       replace HBG := bk HBG hb42
       replace HBT := bk HBT hb42
       replace hB3 := bl_trans hB3 hb42
       replace hB := bl_trans hB hb42
       replace HR := Lib.hid (HR.out.up hb42)
       replace HN := Lib.hid (HN.out.up hb42)
       replace HX := Lib.hid (HX.out.up hb42)
       replace HS := Lib.hid (HS.out.up hb42)
       replace HK := Lib.hid (HK.out.keep (grown_below hb42))
       replace HU := Lib.hid (HU.out.up hb42)
       go_wp2_with fail
       go_ret
       exact ⟨rfl, by first | exact hB | exact hB.drew⟩
      have FIN := Lib.hid FIN0
      clear FIN0 hrest
      have hbW := Below.refl w33.heap.size w33
      clear HBS HBG
      clear HS HK
      refine wp_region_held_drew (S := fun w' => w'.heap[w.heap.size]? = some (.cells #[.int .i64 m.deg, .int .i64 m.st, .int .i64 m.msg, .slice A0 m0 c0, .slice A1 m1 c1, .slice A2 m2 c2, .slice A3 m3 c3] 26 (0, 0)) ∧ w'.heap[P1]? = some (.cells #[.slice A4 m4 c4, .slice A5 m5 c5, .slice A6 m6 c6] 29 (0, 0)) ∧ w'.heap[P2]? = some (.cells #[.slice A10 m10 c10, .slice A11 m11 c11, .slice A12 m12 c12, .slice A8 m8 c8, .slice A9 m9 c9] 32 (0, 0)) ∧ w'.heap[P3]? = some (.cells #[.int .i64 ak, .int .i64 an, .int .i64 ap, .int .i64 aa] 34 (0, 0))) (by kernel_rfl) ?_ (fun hHeld => ?_)
      ·
       exact ⟨HM.out, HD.out, HY.out, HA.out⟩
      obtain ⟨wr, hwr⟩ : ∃ z, z = w33.drew := ⟨_, rfl⟩
      rw [← hwr] at hHeld ⊢
      have hbr : Below w33.heap.size w33 wr := by rw [hwr]; exact (Below.refl _ _).drew
      clear hwr
      have hzhbr := hbr.size
      replace HM := bk HM hbr
      replace HD := bk HD hbr
      replace HY := bk HY hbr
      replace HA := bk HA hbr
      replace hbW := bl_trans hbW hbr
      replace hB := bl_trans hB hbr
      replace HR := Lib.hid (HR.out.up hbr)
      replace HN := Lib.hid (HN.out.up hbr)
      replace HX := Lib.hid (HX.out.up hbr)
      refine tk 0 122 rfl rfl ?_ (hy := fun w hSw => by obtain ⟨⟨g0, g1, g2⟩, ⟨g3, g4, g5, g6⟩, gf⟩ := cells7 (Lib.hid hSw.1); go_simp <;> with_reducible rfl)
      try simp only [Act.put, pu]
      refine tk 2 124 rfl rfl ?_ (hy := fun w hSw => by obtain ⟨q0, q1, q2, qf⟩ := cells3 (Lib.hid hSw.2.1); go_simp <;> with_reducible rfl)
      try simp only [Act.put, pu]
      refine tk 4 126 rfl rfl ?_ (hy := fun w hSw => by obtain ⟨⟨y0, y1, y2⟩, ⟨y3, y4⟩, yf⟩ := cells5 (Lib.hid hSw.2.2.1); go_simp <;> with_reducible rfl)
      try simp only [Act.put, pu]
      refine tk 6 128 rfl rfl ?_ (hy := fun w hSw => by obtain ⟨⟨u0, u1⟩, ⟨u2, u3⟩, uf⟩ := cells4a (Lib.hid hSw.2.2.2); go_simp <;> with_reducible rfl)
      try simp only [Act.put, pu]
      refine wpAnyH_ready (rs := [1, 12]) (by kernel_rfl) (by simp) ?_
      refine AllReadyH.cons rfl (fun K hK => ?_) (AllReadyH.cons rfl (fun K hK => ?_) AllReadyH.nil)
      ·
       go_simp
       go_at_call 13
       refine (to_Mach _ _ _ _ m wr HR.out hs1).mono ?_
       rintro e wx1 ⟨z0, z1, z2, z3, rfl, hq, hbx1⟩
       obtain ⟨⟨FA0, Fm0, Fc0, rfl⟩, ⟨FA1, Fm1, Fc1, rfl⟩, ⟨FA2, Fm2, Fc2, rfl⟩, FA3, Fm3, Fc3, rfl⟩ := hq.slices
       have KM := Lib.hid hq
       clear hq
       have hzhbx1 := hbx1.size
       replace HM := bk HM hbx1
       replace HD := bk HD hbx1
       replace HY := bk HY hbx1
       replace HA := bk HA hbx1
       replace hbW := bl_trans hbW hbx1
       replace hB := bl_trans hB hbx1
       replace HR := Lib.hid (HR.out.up hbx1)
       replace HN := Lib.hid (HN.out.up hbx1)
       replace HX := Lib.hid (HX.out.up hbx1)
       refine hK.out _ _ ?_ (fun hHeld => ?_)
       ·
        exact ⟨HM.out, HD.out, HY.out, HA.out⟩
       clear hK K
       try simp only [Act.put, pu]
       refine wpAnyH_ready (rs := [3, 12]) (by kernel_rfl) (by simp) ?_
       refine AllReadyH.cons rfl (fun K hK => ?_) (AllReadyH.cons rfl (fun K hK => ?_) AllReadyH.nil)
       ·
        go_simp
        go_at_call 14
        refine (to_Net _ _ _ n wx1 HN.out hs2).mono ?_
        rintro e wx2 ⟨z0, z1, z2, rfl, hq, hbx2⟩
        obtain ⟨⟨FA4, Fm4, Fc4, rfl⟩, ⟨FA5, Fm5, Fc5, rfl⟩, FA6, Fm6, Fc6, rfl⟩ := hq.slices
        have KN := Lib.hid hq
        clear hq
        have hzhbx2 := hbx2.size
        replace HM := bk HM hbx2
        replace HD := bk HD hbx2
        replace HY := bk HY hbx2
        replace HA := bk HA hbx2
        replace hbW := bl_trans hbW hbx2
        replace hB := bl_trans hB hbx2
        replace HR := Lib.hid (HR.out.up hbx2)
        replace HN := Lib.hid (HN.out.up hbx2)
        replace HX := Lib.hid (HX.out.up hbx2)
        replace KM := Lib.hid (KM.out.up hbx2)
        refine hK.out _ _ ?_ (fun hHeld => ?_)
        ·
         exact ⟨HM.out, HD.out, HY.out, HA.out⟩
        clear hK K
        try simp only [Act.put, pu]
        refine wpAnyH_ready (rs := [5, 12]) (by kernel_rfl) (by simp) ?_
        refine AllReadyH.cons rfl (fun K hK => ?_) (AllReadyH.cons rfl (fun K hK => ?_) AllReadyH.nil)
        ·
         go_simp
         go_at_call 15
         refine (to_Asy _ _ _ _ _ x wx2 HX.out hs3).mono ?_
         rintro e wx3 ⟨z0, z1, z2, z3, z4, rfl, hq, hbx3⟩
         obtain ⟨⟨FA10, Fm10, Fc10, rfl⟩, ⟨FA11, Fm11, Fc11, rfl⟩, ⟨FA12, Fm12, Fc12, rfl⟩, ⟨FA8, Fm8, Fc8, rfl⟩, FA9, Fm9, Fc9, rfl⟩ := hq.slices
         have KX := Lib.hid hq
         clear hq
         have hzhbx3 := hbx3.size
         replace HM := bk HM hbx3
         replace HD := bk HD hbx3
         replace HY := bk HY hbx3
         replace HA := bk HA hbx3
         replace hbW := bl_trans hbW hbx3
         replace hB := bl_trans hB hbx3
         replace HR := Lib.hid (HR.out.up hbx3)
         replace HN := Lib.hid (HN.out.up hbx3)
         replace HX := Lib.hid (HX.out.up hbx3)
         replace KM := Lib.hid (KM.out.up hbx3)
         replace KN := Lib.hid (KN.out.up hbx3)
         refine hK.out _ _ ?_ (fun hHeld => ?_)
         ·
          exact ⟨HM.out, HD.out, HY.out, HA.out⟩
         clear hK K
         try simp only [Act.put, pu]
         refine wpAnyH_ready (rs := [7, 12]) (by kernel_rfl) (by simp) ?_
         refine AllReadyH.cons rfl (fun K hK => ?_) (AllReadyH.cons rfl (fun K hK => ?_) AllReadyH.nil)
         ·
          go_simp
          go_at_call 16
          refine (to_Act ak an ap aa wx3).mono ?_
          rintro e wx4 ⟨rfl, hbx4⟩
          have hzhbx4 := hbx4.size
          replace HM := bk HM hbx4
          replace HD := bk HD hbx4
          replace HY := bk HY hbx4
          replace HA := bk HA hbx4
          replace hbW := bl_trans hbW hbx4
          replace hB := bl_trans hB hbx4
          replace HR := Lib.hid (HR.out.up hbx4)
          replace HN := Lib.hid (HN.out.up hbx4)
          replace HX := Lib.hid (HX.out.up hbx4)
          replace KM := Lib.hid (KM.out.up hbx4)
          replace KN := Lib.hid (KN.out.up hbx4)
          replace KX := Lib.hid (KX.out.up hbx4)
          refine hK.out _ _ ?_ (fun hHeld => ?_)
          ·
           exact ⟨HM.out, HD.out, HY.out, HA.out⟩
          clear hK K
          try simp only [Act.put, pu]
          refine wpAnyH_ready (rs := [8, 12]) (by kernel_rfl) (by simp) ?_
          refine AllReadyH.cons rfl (fun K hK => ?_) (AllReadyH.cons rfl (fun K hK => ?_) AllReadyH.nil)
          ·
           go_simp
           go_at_call 30
           obtain ⟨wc, hwc⟩ : ∃ z, z = wx4.heap.size := ⟨_, rfl⟩
           have hC := impl_DoAsync _ _ _ _ m _ _ _ n _ _ _ _ _ x ak an ap aa wx4 KM.out KN.out KX.out hes1 hes2
           rw [HV.out] at hC
           (try unfold machV at hC)
           refine hC.mono ?_
           clear hC
           rintro e wx5 ⟨v0, v1, v2, v3, v4, rfl, hbx5, hres⟩
           obtain ⟨val, e0, e1, e2, e3, e4, hk⟩ := hres.asy
           rw [HYY.out] at hk
           clear hres
           obtain ⟨TA10, Tm10, Tc10, TA11, Tm11, Tc11, TA12, Tm12, Tc12, TA8, Tm8, Tc8, TA9, Tm9, Tc9, rfl, rfl, rfl, rfl, rfl⟩ := heads5 hk e0 e1 e2 e3 e4
           have HEV := Lib.hid (And.intro e0 (And.intro e1 (And.intro e2 (And.intro e3 e4))))
           clear e0 e1 e2 e3 e4
           have hrg : ∀ j, keyOf yy j → ∀ q, (val j).ownBlock = some q → wc ≤ q ∧ q < wx5.heap.size := fun j hj q hq => by rw [hwc]; exact (hk.own j hj).lt q hq
           have HKR := Lib.hid (show AsyK wx5 wc val yy by rw [hwc]; exact hk)
           clear hk
           have hzhbx5 := hbx5.size
           replace HM := bk HM hbx5
           replace HD := bk HD hbx5
           replace HY := bk HY hbx5
           replace HA := bk HA hbx5
           replace hbW := bl_trans hbW hbx5
           replace hB := bl_trans hB hbx5
           replace HR := Lib.hid (HR.out.up hbx5)
           replace HN := Lib.hid (HN.out.up hbx5)
           replace HX := Lib.hid (HX.out.up hbx5)
           replace KM := Lib.hid (KM.out.up hbx5)
           replace KN := Lib.hid (KN.out.up hbx5)
           replace KX := Lib.hid (KX.out.up hbx5)
           refine hK.out _ _ ?_ (fun hHeld => ?_)
           ·
            exact ⟨HM.out, HD.out, HY.out, HA.out⟩
           clear hK K
           try simp only [Act.put, pu]
           refine stk 9 121 ?_
           refine stk 10 131 ?_
           refine stk 11 132 ?_
           refine wpAnyH_ready (rs := [12]) (by kernel_rfl) (by simp) ?_
           refine AllReadyH.cons rfl (fun K hK => ?_) AllReadyH.nil
           go_simp
           obtain ⟨PX, wA, hPX, hwA, hbA, HT, hPc⟩ := box_at wx5 nilV nilV nilV nilV nilV 50
           unfold nilV at hwA HT
           rw [hPX, ← hwA]
           clear hwA
           have hzhbA := hbA.size
           replace HM := bk HM hbA
           replace HD := bk HD hbA
           replace HY := bk HY hbA
           replace HA := bk HA hbA
           replace hbW := bl_trans hbW hbA
           replace hB := bl_trans hB hbA
           replace HR := Lib.hid (HR.out.up hbA)
           replace HN := Lib.hid (HN.out.up hbA)
           replace HX := Lib.hid (HX.out.up hbA)
           replace KM := Lib.hid (KM.out.up hbA)
           replace KN := Lib.hid (KN.out.up hbA)
           replace KX := Lib.hid (KX.out.up hbA)
           replace HKR := Lib.hid (AsyK.up HKR.out hbA)
           refine hK.out _ _ ?_ (fun hHeld => ?_)
           ·
            exact ⟨HM.out, HD.out, HY.out, HA.out⟩
           clear hK K
           try simp only [Act.put, pu]
           refine wpAnyH_ready (rs := [13]) (by kernel_rfl) (by simp) ?_
           refine AllReadyH.cons rfl (fun K hK => ?_) AllReadyH.nil
           obtain ⟨⟨t0, t1, t2⟩, ⟨t3, t4⟩, tf⟩ := cells5 HT
           go_simp
           obtain ⟨we, hwe, HE, hge⟩ := set5 HT (.slice TA10 Tm10 Tc10) (.slice TA11 Tm11 Tc11) (.slice TA12 Tm12 Tc12) (.slice TA8 Tm8 Tc8) (.slice TA9 Tm9 Tc9)
           rw [← hwe]
           clear hwe t0 t1 t2 t3 t4 tf
           replace HM := Lib.hid ((hge.block w.heap.size (by omega) (fun h => by have e := Option.some.inj h; omega)).trans HM.out)
           replace HD := Lib.hid ((hge.block P1 (by omega) (fun h => by have e := Option.some.inj h; omega)).trans HD.out)
           replace HY := Lib.hid ((hge.block P2 (by omega) (fun h => by have e := Option.some.inj h; omega)).trans HY.out)
           replace HA := Lib.hid ((hge.block P3 (by omega) (fun h => by have e := Option.some.inj h; omega)).trans HA.out)
           refine hK.out _ _ ?_ (fun hHeld => ?_)
           ·
            exact ⟨HM.out, HD.out, HY.out, HA.out⟩
           clear hK K
           try simp only [Act.put, pu]
           refine stk 14 21 ?_
           refine wpAnyH_done (by kernel_rfl) ?_ _
           exact FIN.out we PX _ _ _ _ _ _ _ _ _ _ _ _ _ _ _ _ _ _ (grown_at hbW hge (by omega)) (by omega) (BoxR.leaf HEV.out HKR.out hge hrg (by omega) (by omega) HE)
          ·
           go_simp
           obtain ⟨PX, wA, hPX, hwA, hbA, HT, hPc⟩ := box_at wx4 nilV nilV nilV nilV nilV 50
           unfold nilV at hwA HT
           rw [hPX, ← hwA]
           clear hwA
           have hzhbA := hbA.size
           replace HM := bk HM hbA
           replace HD := bk HD hbA
           replace HY := bk HY hbA
           replace HA := bk HA hbA
           replace hbW := bl_trans hbW hbA
           replace hB := bl_trans hB hbA
           replace HR := Lib.hid (HR.out.up hbA)
           replace HN := Lib.hid (HN.out.up hbA)
           replace HX := Lib.hid (HX.out.up hbA)
           replace KM := Lib.hid (KM.out.up hbA)
           replace KN := Lib.hid (KN.out.up hbA)
           replace KX := Lib.hid (KX.out.up hbA)
           refine hK.out _ _ ?_ (fun hHeld => ?_)
           ·
            exact ⟨HM.out, HD.out, HY.out, HA.out⟩
           clear hK K
           try simp only [Act.put, pu]
           refine wpAnyH_ready (rs := [8]) (by kernel_rfl) (by simp) ?_
           refine AllReadyH.cons rfl (fun K hK => ?_) AllReadyH.nil
           go_simp
           go_at_call 30
           obtain ⟨wc, hwc⟩ : ∃ z, z = wA.heap.size := ⟨_, rfl⟩
           have hC := impl_DoAsync _ _ _ _ m _ _ _ n _ _ _ _ _ x ak an ap aa wA KM.out KN.out KX.out hes1 hes2
           rw [HV.out] at hC
           (try unfold machV at hC)
           refine hC.mono ?_
           clear hC
           rintro e wx5 ⟨v0, v1, v2, v3, v4, rfl, hbx5, hres⟩
           obtain ⟨val, e0, e1, e2, e3, e4, hk⟩ := hres.asy
           rw [HYY.out] at hk
           clear hres
           obtain ⟨TA10, Tm10, Tc10, TA11, Tm11, Tc11, TA12, Tm12, Tc12, TA8, Tm8, Tc8, TA9, Tm9, Tc9, rfl, rfl, rfl, rfl, rfl⟩ := heads5 hk e0 e1 e2 e3 e4
           have HEV := Lib.hid (And.intro e0 (And.intro e1 (And.intro e2 (And.intro e3 e4))))
           clear e0 e1 e2 e3 e4
           have hrg : ∀ j, keyOf yy j → ∀ q, (val j).ownBlock = some q → wc ≤ q ∧ q < wx5.heap.size := fun j hj q hq => by rw [hwc]; exact (hk.own j hj).lt q hq
           have HKR := Lib.hid (show AsyK wx5 wc val yy by rw [hwc]; exact hk)
           clear hk
           have hzhbx5 := hbx5.size
           replace HM := bk HM hbx5
           replace HD := bk HD hbx5
           replace HY := bk HY hbx5
           replace HA := bk HA hbx5
           replace HT := bk HT hbx5
           replace hbW := bl_trans hbW hbx5
           replace hB := bl_trans hB hbx5
           replace HR := Lib.hid (HR.out.up hbx5)
           replace HN := Lib.hid (HN.out.up hbx5)
           replace HX := Lib.hid (HX.out.up hbx5)
           replace KM := Lib.hid (KM.out.up hbx5)
           replace KN := Lib.hid (KN.out.up hbx5)
           replace KX := Lib.hid (KX.out.up hbx5)
           refine hK.out _ _ ?_ (fun hHeld => ?_)
           ·
            exact ⟨HM.out, HD.out, HY.out, HA.out⟩
           clear hK K
           try simp only [Act.put, pu]
           refine stk 9 121 ?_
           refine stk 10 131 ?_
           refine stk 11 132 ?_
           refine wpAnyH_ready (rs := [13]) (by kernel_rfl) (by simp) ?_
           refine AllReadyH.cons rfl (fun K hK => ?_) AllReadyH.nil
           obtain ⟨⟨t0, t1, t2⟩, ⟨t3, t4⟩, tf⟩ := cells5 HT
           go_simp
           obtain ⟨we, hwe, HE, hge⟩ := set5 HT (.slice TA10 Tm10 Tc10) (.slice TA11 Tm11 Tc11) (.slice TA12 Tm12 Tc12) (.slice TA8 Tm8 Tc8) (.slice TA9 Tm9 Tc9)
           rw [← hwe]
           clear hwe t0 t1 t2 t3 t4 tf
           replace HM := Lib.hid ((hge.block w.heap.size (by omega) (fun h => by have e := Option.some.inj h; omega)).trans HM.out)
           replace HD := Lib.hid ((hge.block P1 (by omega) (fun h => by have e := Option.some.inj h; omega)).trans HD.out)
           replace HY := Lib.hid ((hge.block P2 (by omega) (fun h => by have e := Option.some.inj h; omega)).trans HY.out)
           replace HA := Lib.hid ((hge.block P3 (by omega) (fun h => by have e := Option.some.inj h; omega)).trans HA.out)
           refine hK.out _ _ ?_ (fun hHeld => ?_)
           ·
            exact ⟨HM.out, HD.out, HY.out, HA.out⟩
           clear hK K
           try simp only [Act.put, pu]
           refine stk 14 21 ?_
           refine wpAnyH_done (by kernel_rfl) ?_ _
           exact FIN.out we PX _ _ _ _ _ _ _ _ _ _ _ _ _ _ _ _ _ _ (grown_at hbW hge (by omega)) (by omega) (BoxR.leaf HEV.out HKR.out hge hrg (by omega) (by omega) HE)
         ·
          go_simp
          obtain ⟨PX, wA, hPX, hwA, hbA, HT, hPc⟩ := box_at wx3 nilV nilV nilV nilV nilV 50
          unfold nilV at hwA HT
          rw [hPX, ← hwA]
          clear hwA
          have hzhbA := hbA.size
          replace HM := bk HM hbA
          replace HD := bk HD hbA
          replace HY := bk HY hbA
          replace HA := bk HA hbA
          replace hbW := bl_trans hbW hbA
          replace hB := bl_trans hB hbA
          replace HR := Lib.hid (HR.out.up hbA)
          replace HN := Lib.hid (HN.out.up hbA)
          replace HX := Lib.hid (HX.out.up hbA)
          replace KM := Lib.hid (KM.out.up hbA)
          replace KN := Lib.hid (KN.out.up hbA)
          replace KX := Lib.hid (KX.out.up hbA)
          refine hK.out _ _ ?_ (fun hHeld => ?_)
          ·
           exact ⟨HM.out, HD.out, HY.out, HA.out⟩
          clear hK K
          try simp only [Act.put, pu]
          refine wpAnyH_ready (rs := [7]) (by kernel_rfl) (by simp) ?_
          refine AllReadyH.cons rfl (fun K hK => ?_) AllReadyH.nil
          go_simp
          go_at_call 16
          refine (to_Act ak an ap aa wA).mono ?_
          rintro e wx4 ⟨rfl, hbx4⟩
          have hzhbx4 := hbx4.size
          replace HM := bk HM hbx4
          replace HD := bk HD hbx4
          replace HY := bk HY hbx4
          replace HA := bk HA hbx4
          replace HT := bk HT hbx4
          replace hbW := bl_trans hbW hbx4
          replace hB := bl_trans hB hbx4
          replace HR := Lib.hid (HR.out.up hbx4)
          replace HN := Lib.hid (HN.out.up hbx4)
          replace HX := Lib.hid (HX.out.up hbx4)
          replace KM := Lib.hid (KM.out.up hbx4)
          replace KN := Lib.hid (KN.out.up hbx4)
          replace KX := Lib.hid (KX.out.up hbx4)
          refine hK.out _ _ ?_ (fun hHeld => ?_)
          ·
           exact ⟨HM.out, HD.out, HY.out, HA.out⟩
          clear hK K
          try simp only [Act.put, pu]
          refine wpAnyH_ready (rs := [8]) (by kernel_rfl) (by simp) ?_
          refine AllReadyH.cons rfl (fun K hK => ?_) AllReadyH.nil
          go_simp
          go_at_call 30
          obtain ⟨wc, hwc⟩ : ∃ z, z = wx4.heap.size := ⟨_, rfl⟩
          have hC := impl_DoAsync _ _ _ _ m _ _ _ n _ _ _ _ _ x ak an ap aa wx4 KM.out KN.out KX.out hes1 hes2
          rw [HV.out] at hC
          (try unfold machV at hC)
          refine hC.mono ?_
          clear hC
          rintro e wx5 ⟨v0, v1, v2, v3, v4, rfl, hbx5, hres⟩
          obtain ⟨val, e0, e1, e2, e3, e4, hk⟩ := hres.asy
          rw [HYY.out] at hk
          clear hres
          obtain ⟨TA10, Tm10, Tc10, TA11, Tm11, Tc11, TA12, Tm12, Tc12, TA8, Tm8, Tc8, TA9, Tm9, Tc9, rfl, rfl, rfl, rfl, rfl⟩ := heads5 hk e0 e1 e2 e3 e4
          have HEV := Lib.hid (And.intro e0 (And.intro e1 (And.intro e2 (And.intro e3 e4))))
          clear e0 e1 e2 e3 e4
          have hrg : ∀ j, keyOf yy j → ∀ q, (val j).ownBlock = some q → wc ≤ q ∧ q < wx5.heap.size := fun j hj q hq => by rw [hwc]; exact (hk.own j hj).lt q hq
          have HKR := Lib.hid (show AsyK wx5 wc val yy by rw [hwc]; exact hk)
          clear hk
          have hzhbx5 := hbx5.size
          replace HM := bk HM hbx5
          replace HD := bk HD hbx5
          replace HY := bk HY hbx5
          replace HA := bk HA hbx5
          replace HT := bk HT hbx5
          replace hbW := bl_trans hbW hbx5
          replace hB := bl_trans hB hbx5
          replace HR := Lib.hid (HR.out.up hbx5)
          replace HN := Lib.hid (HN.out.up hbx5)
          replace HX := Lib.hid (HX.out.up hbx5)
          replace KM := Lib.hid (KM.out.up hbx5)
          replace KN := Lib.hid (KN.out.up hbx5)
          replace KX := Lib.hid (KX.out.up hbx5)
          refine hK.out _ _ ?_ (fun hHeld => ?_)
          ·
           exact ⟨HM.out, HD.out, HY.out, HA.out⟩
          clear hK K
          try simp only [Act.put, pu]
          refine stk 9 121 ?_
          refine stk 10 131 ?_
          refine stk 11 132 ?_
          refine wpAnyH_ready (rs := [13]) (by kernel_rfl) (by simp) ?_
          refine AllReadyH.cons rfl (fun K hK => ?_) AllReadyH.nil
          obtain ⟨⟨t0, t1, t2⟩, ⟨t3, t4⟩, tf⟩ := cells5 HT
          go_simp
          obtain ⟨we, hwe, HE, hge⟩ := set5 HT (.slice TA10 Tm10 Tc10) (.slice TA11 Tm11 Tc11) (.slice TA12 Tm12 Tc12) (.slice TA8 Tm8 Tc8) (.slice TA9 Tm9 Tc9)
          rw [← hwe]
          clear hwe t0 t1 t2 t3 t4 tf
          replace HM := Lib.hid ((hge.block w.heap.size (by omega) (fun h => by have e := Option.some.inj h; omega)).trans HM.out)
          replace HD := Lib.hid ((hge.block P1 (by omega) (fun h => by have e := Option.some.inj h; omega)).trans HD.out)
          replace HY := Lib.hid ((hge.block P2 (by omega) (fun h => by have e := Option.some.inj h; omega)).trans HY.out)
          replace HA := Lib.hid ((hge.block P3 (by omega) (fun h => by have e := Option.some.inj h; omega)).trans HA.out)
          refine hK.out _ _ ?_ (fun hHeld => ?_)
          ·
           exact ⟨HM.out, HD.out, HY.out, HA.out⟩
          clear hK K
          try simp only [Act.put, pu]
          refine stk 14 21 ?_
          refine wpAnyH_done (by kernel_rfl) ?_ _
          exact FIN.out we PX _ _ _ _ _ _ _ _ _ _ _ _ _ _ _ _ _ _ (grown_at hbW hge (by omega)) (by omega) (BoxR.leaf HEV.out HKR.out hge hrg (by omega) (by omega) HE)
        ·
         go_simp
         obtain ⟨PX, wA, hPX, hwA, hbA, HT, hPc⟩ := box_at wx2 nilV nilV nilV nilV nilV 50
         unfold nilV at hwA HT
         rw [hPX, ← hwA]
         clear hwA
         have hzhbA := hbA.size
         replace HM := bk HM hbA
         replace HD := bk HD hbA
         replace HY := bk HY hbA
         replace HA := bk HA hbA
         replace hbW := bl_trans hbW hbA
         replace hB := bl_trans hB hbA
         replace HR := Lib.hid (HR.out.up hbA)
         replace HN := Lib.hid (HN.out.up hbA)
         replace HX := Lib.hid (HX.out.up hbA)
         replace KM := Lib.hid (KM.out.up hbA)
         replace KN := Lib.hid (KN.out.up hbA)
         refine hK.out _ _ ?_ (fun hHeld => ?_)
         ·
          exact ⟨HM.out, HD.out, HY.out, HA.out⟩
         clear hK K
         try simp only [Act.put, pu]
         refine wpAnyH_ready (rs := [5]) (by kernel_rfl) (by simp) ?_
         refine AllReadyH.cons rfl (fun K hK => ?_) AllReadyH.nil
         go_simp
         go_at_call 15
         refine (to_Asy _ _ _ _ _ x wA HX.out hs3).mono ?_
         rintro e wx3 ⟨z0, z1, z2, z3, z4, rfl, hq, hbx3⟩
         obtain ⟨⟨FA10, Fm10, Fc10, rfl⟩, ⟨FA11, Fm11, Fc11, rfl⟩, ⟨FA12, Fm12, Fc12, rfl⟩, ⟨FA8, Fm8, Fc8, rfl⟩, FA9, Fm9, Fc9, rfl⟩ := hq.slices
         have KX := Lib.hid hq
         clear hq
         have hzhbx3 := hbx3.size
         replace HM := bk HM hbx3
         replace HD := bk HD hbx3
         replace HY := bk HY hbx3
         replace HA := bk HA hbx3
         replace HT := bk HT hbx3
         replace hbW := bl_trans hbW hbx3
         replace hB := bl_trans hB hbx3
         replace HR := Lib.hid (HR.out.up hbx3)
         replace HN := Lib.hid (HN.out.up hbx3)
         replace HX := Lib.hid (HX.out.up hbx3)
         replace KM := Lib.hid (KM.out.up hbx3)
         replace KN := Lib.hid (KN.out.up hbx3)
         refine hK.out _ _ ?_ (fun hHeld => ?_)
         ·
          exact ⟨HM.out, HD.out, HY.out, HA.out⟩
         clear hK K
         try simp only [Act.put, pu]
         refine wpAnyH_ready (rs := [7]) (by kernel_rfl) (by simp) ?_
         refine AllReadyH.cons rfl (fun K hK => ?_) AllReadyH.nil
         go_simp
         go_at_call 16
         refine (to_Act ak an ap aa wx3).mono ?_
         rintro e wx4 ⟨rfl, hbx4⟩
         have hzhbx4 := hbx4.size
         replace HM := bk HM hbx4
         replace HD := bk HD hbx4
         replace HY := bk HY hbx4
         replace HA := bk HA hbx4
         replace HT := bk HT hbx4
         replace hbW := bl_trans hbW hbx4
         replace hB := bl_trans hB hbx4
         replace HR := Lib.hid (HR.out.up hbx4)
         replace HN := Lib.hid (HN.out.up hbx4)
         replace HX := Lib.hid (HX.out.up hbx4)
         replace KM := Lib.hid (KM.out.up hbx4)
         replace KN := Lib.hid (KN.out.up hbx4)
         replace KX := Lib.hid (KX.out.up hbx4)
         refine hK.out _ _ ?_ (fun hHeld => ?_)
         ·
          exact ⟨HM.out, HD.out, HY.out, HA.out⟩
         clear hK K
         try simp only [Act.put, pu]
         refine wpAnyH_ready (rs := [8]) (by kernel_rfl) (by simp) ?_
         refine AllReadyH.cons rfl (fun K hK => ?_) AllReadyH.nil
         go_simp
         go_at_call 30
         obtain ⟨wc, hwc⟩ : ∃ z, z = wx4.heap.size := ⟨_, rfl⟩
         have hC := impl_DoAsync _ _ _ _ m _ _ _ n _ _ _ _ _ x ak an ap aa wx4 KM.out KN.out KX.out hes1 hes2
         rw [HV.out] at hC
         (try unfold machV at hC)
         refine hC.mono ?_
         clear hC
         rintro e wx5 ⟨v0, v1, v2, v3, v4, rfl, hbx5, hres⟩
         obtain ⟨val, e0, e1, e2, e3, e4, hk⟩ := hres.asy
         rw [HYY.out] at hk
         clear hres
         obtain ⟨TA10, Tm10, Tc10, TA11, Tm11, Tc11, TA12, Tm12, Tc12, TA8, Tm8, Tc8, TA9, Tm9, Tc9, rfl, rfl, rfl, rfl, rfl⟩ := heads5 hk e0 e1 e2 e3 e4
         have HEV := Lib.hid (And.intro e0 (And.intro e1 (And.intro e2 (And.intro e3 e4))))
         clear e0 e1 e2 e3 e4
         have hrg : ∀ j, keyOf yy j → ∀ q, (val j).ownBlock = some q → wc ≤ q ∧ q < wx5.heap.size := fun j hj q hq => by rw [hwc]; exact (hk.own j hj).lt q hq
         have HKR := Lib.hid (show AsyK wx5 wc val yy by rw [hwc]; exact hk)
         clear hk
         have hzhbx5 := hbx5.size
         replace HM := bk HM hbx5
         replace HD := bk HD hbx5
         replace HY := bk HY hbx5
         replace HA := bk HA hbx5
         replace HT := bk HT hbx5
         replace hbW := bl_trans hbW hbx5
         replace hB := bl_trans hB hbx5
         replace HR := Lib.hid (HR.out.up hbx5)
         replace HN := Lib.hid (HN.out.up hbx5)
         replace HX := Lib.hid (HX.out.up hbx5)
         replace KM := Lib.hid (KM.out.up hbx5)
         replace KN := Lib.hid (KN.out.up hbx5)
         replace KX := Lib.hid (KX.out.up hbx5)
         refine hK.out _ _ ?_ (fun hHeld => ?_)
         ·
          exact ⟨HM.out, HD.out, HY.out, HA.out⟩
         clear hK K
         try simp only [Act.put, pu]
         refine stk 9 121 ?_
         refine stk 10 131 ?_
         refine stk 11 132 ?_
         refine wpAnyH_ready (rs := [13]) (by kernel_rfl) (by simp) ?_
         refine AllReadyH.cons rfl (fun K hK => ?_) AllReadyH.nil
         obtain ⟨⟨t0, t1, t2⟩, ⟨t3, t4⟩, tf⟩ := cells5 HT
         go_simp
         obtain ⟨we, hwe, HE, hge⟩ := set5 HT (.slice TA10 Tm10 Tc10) (.slice TA11 Tm11 Tc11) (.slice TA12 Tm12 Tc12) (.slice TA8 Tm8 Tc8) (.slice TA9 Tm9 Tc9)
         rw [← hwe]
         clear hwe t0 t1 t2 t3 t4 tf
         replace HM := Lib.hid ((hge.block w.heap.size (by omega) (fun h => by have e := Option.some.inj h; omega)).trans HM.out)
         replace HD := Lib.hid ((hge.block P1 (by omega) (fun h => by have e := Option.some.inj h; omega)).trans HD.out)
         replace HY := Lib.hid ((hge.block P2 (by omega) (fun h => by have e := Option.some.inj h; omega)).trans HY.out)
         replace HA := Lib.hid ((hge.block P3 (by omega) (fun h => by have e := Option.some.inj h; omega)).trans HA.out)
         refine hK.out _ _ ?_ (fun hHeld => ?_)
         ·
          exact ⟨HM.out, HD.out, HY.out, HA.out⟩
         clear hK K
         try simp only [Act.put, pu]
         refine stk 14 21 ?_
         refine wpAnyH_done (by kernel_rfl) ?_ _
         exact FIN.out we PX _ _ _ _ _ _ _ _ _ _ _ _ _ _ _ _ _ _ (grown_at hbW hge (by omega)) (by omega) (BoxR.leaf HEV.out HKR.out hge hrg (by omega) (by omega) HE)
       ·
        go_simp
        obtain ⟨PX, wA, hPX, hwA, hbA, HT, hPc⟩ := box_at wx1 nilV nilV nilV nilV nilV 50
        unfold nilV at hwA HT
        rw [hPX, ← hwA]
        clear hwA
        have hzhbA := hbA.size
        replace HM := bk HM hbA
        replace HD := bk HD hbA
        replace HY := bk HY hbA
        replace HA := bk HA hbA
        replace hbW := bl_trans hbW hbA
        replace hB := bl_trans hB hbA
        replace HR := Lib.hid (HR.out.up hbA)
        replace HN := Lib.hid (HN.out.up hbA)
        replace HX := Lib.hid (HX.out.up hbA)
        replace KM := Lib.hid (KM.out.up hbA)
        refine hK.out _ _ ?_ (fun hHeld => ?_)
        ·
         exact ⟨HM.out, HD.out, HY.out, HA.out⟩
        clear hK K
        try simp only [Act.put, pu]
        refine wpAnyH_ready (rs := [3]) (by kernel_rfl) (by simp) ?_
        refine AllReadyH.cons rfl (fun K hK => ?_) AllReadyH.nil
        go_simp
        go_at_call 14
        refine (to_Net _ _ _ n wA HN.out hs2).mono ?_
        rintro e wx2 ⟨z0, z1, z2, rfl, hq, hbx2⟩
        obtain ⟨⟨FA4, Fm4, Fc4, rfl⟩, ⟨FA5, Fm5, Fc5, rfl⟩, FA6, Fm6, Fc6, rfl⟩ := hq.slices
        have KN := Lib.hid hq
        clear hq
        have hzhbx2 := hbx2.size
        replace HM := bk HM hbx2
        replace HD := bk HD hbx2
        replace HY := bk HY hbx2
        replace HA := bk HA hbx2
        replace HT := bk HT hbx2
        replace hbW := bl_trans hbW hbx2
        replace hB := bl_trans hB hbx2
        replace HR := Lib.hid (HR.out.up hbx2)
        replace HN := Lib.hid (HN.out.up hbx2)
        replace HX := Lib.hid (HX.out.up hbx2)
        replace KM := Lib.hid (KM.out.up hbx2)
        refine hK.out _ _ ?_ (fun hHeld => ?_)
        ·
         exact ⟨HM.out, HD.out, HY.out, HA.out⟩
        clear hK K
        try simp only [Act.put, pu]
        refine wpAnyH_ready (rs := [5]) (by kernel_rfl) (by simp) ?_
        refine AllReadyH.cons rfl (fun K hK => ?_) AllReadyH.nil
        go_simp
        go_at_call 15
        refine (to_Asy _ _ _ _ _ x wx2 HX.out hs3).mono ?_
        rintro e wx3 ⟨z0, z1, z2, z3, z4, rfl, hq, hbx3⟩
        obtain ⟨⟨FA10, Fm10, Fc10, rfl⟩, ⟨FA11, Fm11, Fc11, rfl⟩, ⟨FA12, Fm12, Fc12, rfl⟩, ⟨FA8, Fm8, Fc8, rfl⟩, FA9, Fm9, Fc9, rfl⟩ := hq.slices
        have KX := Lib.hid hq
        clear hq
        have hzhbx3 := hbx3.size
        replace HM := bk HM hbx3
        replace HD := bk HD hbx3
        replace HY := bk HY hbx3
        replace HA := bk HA hbx3
        replace HT := bk HT hbx3
        replace hbW := bl_trans hbW hbx3
        replace hB := bl_trans hB hbx3
        replace HR := Lib.hid (HR.out.up hbx3)
        replace HN := Lib.hid (HN.out.up hbx3)
        replace HX := Lib.hid (HX.out.up hbx3)
        replace KM := Lib.hid (KM.out.up hbx3)
        replace KN := Lib.hid (KN.out.up hbx3)
        refine hK.out _ _ ?_ (fun hHeld => ?_)
        ·
         exact ⟨HM.out, HD.out, HY.out, HA.out⟩
        clear hK K
        try simp only [Act.put, pu]
        refine wpAnyH_ready (rs := [7]) (by kernel_rfl) (by simp) ?_
        refine AllReadyH.cons rfl (fun K hK => ?_) AllReadyH.nil
        go_simp
        go_at_call 16
        refine (to_Act ak an ap aa wx3).mono ?_
        rintro e wx4 ⟨rfl, hbx4⟩
        have hzhbx4 := hbx4.size
        replace HM := bk HM hbx4
        replace HD := bk HD hbx4
        replace HY := bk HY hbx4
        replace HA := bk HA hbx4
        replace HT := bk HT hbx4
        replace hbW := bl_trans hbW hbx4
        replace hB := bl_trans hB hbx4
        replace HR := Lib.hid (HR.out.up hbx4)
        replace HN := Lib.hid (HN.out.up hbx4)
        replace HX := Lib.hid (HX.out.up hbx4)
        replace KM := Lib.hid (KM.out.up hbx4)
        replace KN := Lib.hid (KN.out.up hbx4)
        replace KX := Lib.hid (KX.out.up hbx4)
        refine hK.out _ _ ?_ (fun hHeld => ?_)
        ·
         exact ⟨HM.out, HD.out, HY.out, HA.out⟩
        clear hK K
        try simp only [Act.put, pu]
        refine wpAnyH_ready (rs := [8]) (by kernel_rfl) (by simp) ?_
        refine AllReadyH.cons rfl (fun K hK => ?_) AllReadyH.nil
        go_simp
        go_at_call 30
        obtain ⟨wc, hwc⟩ : ∃ z, z = wx4.heap.size := ⟨_, rfl⟩
        have hC := impl_DoAsync _ _ _ _ m _ _ _ n _ _ _ _ _ x ak an ap aa wx4 KM.out KN.out KX.out hes1 hes2
        rw [HV.out] at hC
        (try unfold machV at hC)
        refine hC.mono ?_
        clear hC
        rintro e wx5 ⟨v0, v1, v2, v3, v4, rfl, hbx5, hres⟩
        obtain ⟨val, e0, e1, e2, e3, e4, hk⟩ := hres.asy
        rw [HYY.out] at hk
        clear hres
        obtain ⟨TA10, Tm10, Tc10, TA11, Tm11, Tc11, TA12, Tm12, Tc12, TA8, Tm8, Tc8, TA9, Tm9, Tc9, rfl, rfl, rfl, rfl, rfl⟩ := heads5 hk e0 e1 e2 e3 e4
        have HEV := Lib.hid (And.intro e0 (And.intro e1 (And.intro e2 (And.intro e3 e4))))
        clear e0 e1 e2 e3 e4
        have hrg : ∀ j, keyOf yy j → ∀ q, (val j).ownBlock = some q → wc ≤ q ∧ q < wx5.heap.size := fun j hj q hq => by rw [hwc]; exact (hk.own j hj).lt q hq
        have HKR := Lib.hid (show AsyK wx5 wc val yy by rw [hwc]; exact hk)
        clear hk
        have hzhbx5 := hbx5.size
        replace HM := bk HM hbx5
        replace HD := bk HD hbx5
        replace HY := bk HY hbx5
        replace HA := bk HA hbx5
        replace HT := bk HT hbx5
        replace hbW := bl_trans hbW hbx5
        replace hB := bl_trans hB hbx5
        replace HR := Lib.hid (HR.out.up hbx5)
        replace HN := Lib.hid (HN.out.up hbx5)
        replace HX := Lib.hid (HX.out.up hbx5)
        replace KM := Lib.hid (KM.out.up hbx5)
        replace KN := Lib.hid (KN.out.up hbx5)
        replace KX := Lib.hid (KX.out.up hbx5)
        refine hK.out _ _ ?_ (fun hHeld => ?_)
        ·
         exact ⟨HM.out, HD.out, HY.out, HA.out⟩
        clear hK K
        try simp only [Act.put, pu]
        refine stk 9 121 ?_
        refine stk 10 131 ?_
        refine stk 11 132 ?_
        refine wpAnyH_ready (rs := [13]) (by kernel_rfl) (by simp) ?_
        refine AllReadyH.cons rfl (fun K hK => ?_) AllReadyH.nil
        obtain ⟨⟨t0, t1, t2⟩, ⟨t3, t4⟩, tf⟩ := cells5 HT
        go_simp
        obtain ⟨we, hwe, HE, hge⟩ := set5 HT (.slice TA10 Tm10 Tc10) (.slice TA11 Tm11 Tc11) (.slice TA12 Tm12 Tc12) (.slice TA8 Tm8 Tc8) (.slice TA9 Tm9 Tc9)
        rw [← hwe]
        clear hwe t0 t1 t2 t3 t4 tf
        replace HM := Lib.hid ((hge.block w.heap.size (by omega) (fun h => by have e := Option.some.inj h; omega)).trans HM.out)
        replace HD := Lib.hid ((hge.block P1 (by omega) (fun h => by have e := Option.some.inj h; omega)).trans HD.out)
        replace HY := Lib.hid ((hge.block P2 (by omega) (fun h => by have e := Option.some.inj h; omega)).trans HY.out)
        replace HA := Lib.hid ((hge.block P3 (by omega) (fun h => by have e := Option.some.inj h; omega)).trans HA.out)
        refine hK.out _ _ ?_ (fun hHeld => ?_)
        ·
         exact ⟨HM.out, HD.out, HY.out, HA.out⟩
        clear hK K
        try simp only [Act.put, pu]
        refine stk 14 21 ?_
        refine wpAnyH_done (by kernel_rfl) ?_ _
        exact FIN.out we PX _ _ _ _ _ _ _ _ _ _ _ _ _ _ _ _ _ _ (grown_at hbW hge (by omega)) (by omega) (BoxR.leaf HEV.out HKR.out hge hrg (by omega) (by omega) HE)
      ·
       go_simp
       obtain ⟨PX, wA, hPX, hwA, hbA, HT, hPc⟩ := box_at wr nilV nilV nilV nilV nilV 50
       unfold nilV at hwA HT
       rw [hPX, ← hwA]
       clear hwA
       have hzhbA := hbA.size
       replace HM := bk HM hbA
       replace HD := bk HD hbA
       replace HY := bk HY hbA
       replace HA := bk HA hbA
       replace hbW := bl_trans hbW hbA
       replace hB := bl_trans hB hbA
       replace HR := Lib.hid (HR.out.up hbA)
       replace HN := Lib.hid (HN.out.up hbA)
       replace HX := Lib.hid (HX.out.up hbA)
       refine hK.out _ _ ?_ (fun hHeld => ?_)
       ·
        exact ⟨HM.out, HD.out, HY.out, HA.out⟩
       clear hK K
       try simp only [Act.put, pu]
       refine wpAnyH_ready (rs := [1]) (by kernel_rfl) (by simp) ?_
       refine AllReadyH.cons rfl (fun K hK => ?_) AllReadyH.nil
       go_simp
       go_at_call 13
       refine (to_Mach _ _ _ _ m wA HR.out hs1).mono ?_
       rintro e wx1 ⟨z0, z1, z2, z3, rfl, hq, hbx1⟩
       obtain ⟨⟨FA0, Fm0, Fc0, rfl⟩, ⟨FA1, Fm1, Fc1, rfl⟩, ⟨FA2, Fm2, Fc2, rfl⟩, FA3, Fm3, Fc3, rfl⟩ := hq.slices
       have KM := Lib.hid hq
       clear hq
       have hzhbx1 := hbx1.size
       replace HM := bk HM hbx1
       replace HD := bk HD hbx1
       replace HY := bk HY hbx1
       replace HA := bk HA hbx1
       replace HT := bk HT hbx1
       replace hbW := bl_trans hbW hbx1
       replace hB := bl_trans hB hbx1
       replace HR := Lib.hid (HR.out.up hbx1)
       replace HN := Lib.hid (HN.out.up hbx1)
       replace HX := Lib.hid (HX.out.up hbx1)
       refine hK.out _ _ ?_ (fun hHeld => ?_)
       ·
        exact ⟨HM.out, HD.out, HY.out, HA.out⟩
       clear hK K
       try simp only [Act.put, pu]
       refine wpAnyH_ready (rs := [3]) (by kernel_rfl) (by simp) ?_
       refine AllReadyH.cons rfl (fun K hK => ?_) AllReadyH.nil
       go_simp
       go_at_call 14
       refine (to_Net _ _ _ n wx1 HN.out hs2).mono ?_
       rintro e wx2 ⟨z0, z1, z2, rfl, hq, hbx2⟩
       obtain ⟨⟨FA4, Fm4, Fc4, rfl⟩, ⟨FA5, Fm5, Fc5, rfl⟩, FA6, Fm6, Fc6, rfl⟩ := hq.slices
       have KN := Lib.hid hq
       clear hq
       have hzhbx2 := hbx2.size
       replace HM := bk HM hbx2
       replace HD := bk HD hbx2
       replace HY := bk HY hbx2
       replace HA := bk HA hbx2
       replace HT := bk HT hbx2
       replace hbW := bl_trans hbW hbx2
       replace hB := bl_trans hB hbx2
       replace HR := Lib.hid (HR.out.up hbx2)
       replace HN := Lib.hid (HN.out.up hbx2)
       replace HX := Lib.hid (HX.out.up hbx2)
       replace KM := Lib.hid (KM.out.up hbx2)
       refine hK.out _ _ ?_ (fun hHeld => ?_)
       ·
        exact ⟨HM.out, HD.out, HY.out, HA.out⟩
       clear hK K
       try simp only [Act.put, pu]
       refine wpAnyH_ready (rs := [5]) (by kernel_rfl) (by simp) ?_
       refine AllReadyH.cons rfl (fun K hK => ?_) AllReadyH.nil
       go_simp
       go_at_call 15
       refine (to_Asy _ _ _ _ _ x wx2 HX.out hs3).mono ?_
       rintro e wx3 ⟨z0, z1, z2, z3, z4, rfl, hq, hbx3⟩
       obtain ⟨⟨FA10, Fm10, Fc10, rfl⟩, ⟨FA11, Fm11, Fc11, rfl⟩, ⟨FA12, Fm12, Fc12, rfl⟩, ⟨FA8, Fm8, Fc8, rfl⟩, FA9, Fm9, Fc9, rfl⟩ := hq.slices
       have KX := Lib.hid hq
       clear hq
       have hzhbx3 := hbx3.size
       replace HM := bk HM hbx3
       replace HD := bk HD hbx3
       replace HY := bk HY hbx3
       replace HA := bk HA hbx3
       replace HT := bk HT hbx3
       replace hbW := bl_trans hbW hbx3
       replace hB := bl_trans hB hbx3
       replace HR := Lib.hid (HR.out.up hbx3)
       replace HN := Lib.hid (HN.out.up hbx3)
       replace HX := Lib.hid (HX.out.up hbx3)
       replace KM := Lib.hid (KM.out.up hbx3)
       replace KN := Lib.hid (KN.out.up hbx3)
       refine hK.out _ _ ?_ (fun hHeld => ?_)
       ·
        exact ⟨HM.out, HD.out, HY.out, HA.out⟩
       clear hK K
       try simp only [Act.put, pu]
       refine wpAnyH_ready (rs := [7]) (by kernel_rfl) (by simp) ?_
       refine AllReadyH.cons rfl (fun K hK => ?_) AllReadyH.nil
       go_simp
       go_at_call 16
       refine (to_Act ak an ap aa wx3).mono ?_
       rintro e wx4 ⟨rfl, hbx4⟩
       have hzhbx4 := hbx4.size
       replace HM := bk HM hbx4
       replace HD := bk HD hbx4
       replace HY := bk HY hbx4
       replace HA := bk HA hbx4
       replace HT := bk HT hbx4
       replace hbW := bl_trans hbW hbx4
       replace hB := bl_trans hB hbx4
       replace HR := Lib.hid (HR.out.up hbx4)
       replace HN := Lib.hid (HN.out.up hbx4)
       replace HX := Lib.hid (HX.out.up hbx4)
       replace KM := Lib.hid (KM.out.up hbx4)
       replace KN := Lib.hid (KN.out.up hbx4)
       replace KX := Lib.hid (KX.out.up hbx4)
       refine hK.out _ _ ?_ (fun hHeld => ?_)
       ·
        exact ⟨HM.out, HD.out, HY.out, HA.out⟩
       clear hK K
       try simp only [Act.put, pu]
       refine wpAnyH_ready (rs := [8]) (by kernel_rfl) (by simp) ?_
       refine AllReadyH.cons rfl (fun K hK => ?_) AllReadyH.nil
       go_simp
       go_at_call 30
       obtain ⟨wc, hwc⟩ : ∃ z, z = wx4.heap.size := ⟨_, rfl⟩
       have hC := impl_DoAsync _ _ _ _ m _ _ _ n _ _ _ _ _ x ak an ap aa wx4 KM.out KN.out KX.out hes1 hes2
       rw [HV.out] at hC
       (try unfold machV at hC)
       refine hC.mono ?_
       clear hC
       rintro e wx5 ⟨v0, v1, v2, v3, v4, rfl, hbx5, hres⟩
       obtain ⟨val, e0, e1, e2, e3, e4, hk⟩ := hres.asy
       rw [HYY.out] at hk
       clear hres
       obtain ⟨TA10, Tm10, Tc10, TA11, Tm11, Tc11, TA12, Tm12, Tc12, TA8, Tm8, Tc8, TA9, Tm9, Tc9, rfl, rfl, rfl, rfl, rfl⟩ := heads5 hk e0 e1 e2 e3 e4
       have HEV := Lib.hid (And.intro e0 (And.intro e1 (And.intro e2 (And.intro e3 e4))))
       clear e0 e1 e2 e3 e4
       have hrg : ∀ j, keyOf yy j → ∀ q, (val j).ownBlock = some q → wc ≤ q ∧ q < wx5.heap.size := fun j hj q hq => by rw [hwc]; exact (hk.own j hj).lt q hq
       have HKR := Lib.hid (show AsyK wx5 wc val yy by rw [hwc]; exact hk)
       clear hk
       have hzhbx5 := hbx5.size
       replace HM := bk HM hbx5
       replace HD := bk HD hbx5
       replace HY := bk HY hbx5
       replace HA := bk HA hbx5
       replace HT := bk HT hbx5
       replace hbW := bl_trans hbW hbx5
       replace hB := bl_trans hB hbx5
       replace HR := Lib.hid (HR.out.up hbx5)
       replace HN := Lib.hid (HN.out.up hbx5)
       replace HX := Lib.hid (HX.out.up hbx5)
       replace KM := Lib.hid (KM.out.up hbx5)
       replace KN := Lib.hid (KN.out.up hbx5)
       replace KX := Lib.hid (KX.out.up hbx5)
       refine hK.out _ _ ?_ (fun hHeld => ?_)
       ·
        exact ⟨HM.out, HD.out, HY.out, HA.out⟩
       clear hK K
       try simp only [Act.put, pu]
       refine stk 9 121 ?_
       refine stk 10 131 ?_
       refine stk 11 132 ?_
       refine wpAnyH_ready (rs := [13]) (by kernel_rfl) (by simp) ?_
       refine AllReadyH.cons rfl (fun K hK => ?_) AllReadyH.nil
       obtain ⟨⟨t0, t1, t2⟩, ⟨t3, t4⟩, tf⟩ := cells5 HT
       go_simp
       obtain ⟨we, hwe, HE, hge⟩ := set5 HT (.slice TA10 Tm10 Tc10) (.slice TA11 Tm11 Tc11) (.slice TA12 Tm12 Tc12) (.slice TA8 Tm8 Tc8) (.slice TA9 Tm9 Tc9)
       rw [← hwe]
       clear hwe t0 t1 t2 t3 t4 tf
       replace HM := Lib.hid ((hge.block w.heap.size (by omega) (fun h => by have e := Option.some.inj h; omega)).trans HM.out)
       replace HD := Lib.hid ((hge.block P1 (by omega) (fun h => by have e := Option.some.inj h; omega)).trans HD.out)
       replace HY := Lib.hid ((hge.block P2 (by omega) (fun h => by have e := Option.some.inj h; omega)).trans HY.out)
       replace HA := Lib.hid ((hge.block P3 (by omega) (fun h => by have e := Option.some.inj h; omega)).trans HA.out)
       refine hK.out _ _ ?_ (fun hHeld => ?_)
       ·
        exact ⟨HM.out, HD.out, HY.out, HA.out⟩
       clear hK K
       try simp only [Act.put, pu]
       refine stk 14 21 ?_
       refine wpAnyH_done (by kernel_rfl) ?_ _
       exact FIN.out we PX _ _ _ _ _ _ _ _ _ _ _ _ _ _ _ _ _ _ (grown_at hbW hge (by omega)) (by omega) (BoxR.leaf HEV.out HKR.out hge hrg (by omega) (by omega) HE)
     have FIN := Lib.hid FIN0
     clear FIN0 hrest
     have hbW := Below.refl w18.heap.size w18
     clear HM HD HY HBS
     clear HS HMM HMN HMX
     clear HR HN HX
     refine wp_region_held_drew (S := fun w' => w'.heap[P5]? = some (.cells #[.int .i64 m.deg, .int .i64 m.st, .int .i64 m.msg, .slice CA0 Cm0 Cc0, .slice CA1 Cm1 Cc1, .slice CA2 Cm2 Cc2, .slice CA3 Cm3 Cc3] 42 (0, 0)) ∧ w'.heap[P6]? = some (.cells #[.slice CA4 Cm4 Cc4, .slice CA5 Cm5 Cc5, .slice CA6 Cm6 Cc6] 46 (0, 0)) ∧ w'.heap[P7]? = some (.cells #[.slice CA10 Cm10 Cc10, .slice CA11 Cm11 Cc11, .slice CA12 Cm12 Cc12, .slice CA8 Cm8 Cc8, .slice CA9 Cm9 Cc9] 50 (0, 0)) ∧ w'.heap[P3]? = some (.cells #[.int .i64 ak, .int .i64 an, .int .i64 ap, .int .i64 aa] 34 (0, 0))) (by kernel_rfl) ?_ (fun hHeld => ?_)
     ·
      exact ⟨IM.out, IN.out, IX.out, HA.out⟩
     obtain ⟨wr, hwr⟩ : ∃ z, z = w18.drew := ⟨_, rfl⟩
     rw [← hwr] at hHeld ⊢
     have hbr : Below w18.heap.size w18 wr := by rw [hwr]; exact (Below.refl _ _).drew
     clear hwr
     have hzhbr := hbr.size
     replace HA := bk HA hbr
     replace IM := bk IM hbr
     replace IN := bk IN hbr
     replace IX := bk IX hbr
     replace hbW := bl_trans hbW hbr
     replace hB := bl_trans hB hbr
     replace JM := Lib.hid (JM.out.up hbr)
     replace JN := Lib.hid (JN.out.up hbr)
     replace JX := Lib.hid (JX.out.up hbr)
     refine tk 0 56 rfl rfl ?_ (hy := fun w hSw => by obtain ⟨⟨a0, a1, a2⟩, ⟨a3, a4, a5, a6⟩, af⟩ := cells7 (Lib.hid hSw.1); go_simp <;> with_reducible rfl)
     try simp only [Act.put, pu]
     refine tk 1 57 rfl rfl ?_ (hy := fun w hSw => by obtain ⟨b0, b1, b2, bf⟩ := cells3 (Lib.hid hSw.2.1); go_simp <;> with_reducible rfl)
     try simp only [Act.put, pu]
     refine tk 2 58 rfl rfl ?_ (hy := fun w hSw => by obtain ⟨⟨d0, d1, d2⟩, ⟨d3, d4⟩, df⟩ := cells5 (Lib.hid hSw.2.2.1); go_simp <;> with_reducible rfl)
     try simp only [Act.put, pu]
     refine tk 3 59 rfl rfl ?_ (hy := fun w hSw => by obtain ⟨⟨u0, u1⟩, ⟨u2, u3⟩, uf⟩ := cells4a (Lib.hid hSw.2.2.2); go_simp <;> with_reducible rfl)
     try simp only [Act.put, pu]
     refine wpAnyH_ready (rs := [4, 9]) (by kernel_rfl) (by simp) ?_
     refine AllReadyH.cons rfl (fun K hK => ?_) (AllReadyH.cons rfl (fun K hK => ?_) AllReadyH.nil)
     ·
      go_simp
      go_at_call 16
      refine (to_Act ak an ap aa wr).mono ?_
      rintro e wx4 ⟨rfl, hbx4⟩
      have hzhbx4 := hbx4.size
      replace HA := bk HA hbx4
      replace IM := bk IM hbx4
      replace IN := bk IN hbx4
      replace IX := bk IX hbx4
      replace hbW := bl_trans hbW hbx4
      replace hB := bl_trans hB hbx4
      replace JM := Lib.hid (JM.out.up hbx4)
      replace JN := Lib.hid (JN.out.up hbx4)
      replace JX := Lib.hid (JX.out.up hbx4)
      refine hK.out _ _ ?_ (fun hHeld => ?_)
      ·
       exact ⟨IM.out, IN.out, IX.out, HA.out⟩
      clear hK K
      try simp only [Act.put, pu]
      refine wpAnyH_ready (rs := [5, 9]) (by kernel_rfl) (by simp) ?_
      refine AllReadyH.cons rfl (fun K hK => ?_) (AllReadyH.cons rfl (fun K hK => ?_) AllReadyH.nil)
      ·
       go_simp
       go_at_call 30
       obtain ⟨wc, hwc⟩ : ∃ z, z = wx4.heap.size := ⟨_, rfl⟩
       have hC := impl_DoAsync _ _ _ _ m _ _ _ n _ _ _ _ _ x ak an ap aa wx4 JM.out JN.out JX.out hes1 hes2
       rw [HV.out] at hC
       (try unfold machV at hC)
       refine hC.mono ?_
       clear hC
       rintro e wx5 ⟨v0, v1, v2, v3, v4, rfl, hbx5, hres⟩
       obtain ⟨val, e0, e1, e2, e3, e4, hk⟩ := hres.asy
       rw [HYY.out] at hk
       clear hres
       obtain ⟨GA10, Gm10, Gc10, GA11, Gm11, Gc11, GA12, Gm12, Gc12, GA8, Gm8, Gc8, GA9, Gm9, Gc9, rfl, rfl, rfl, rfl, rfl⟩ := heads5 hk e0 e1 e2 e3 e4
       have HEV := Lib.hid (And.intro e0 (And.intro e1 (And.intro e2 (And.intro e3 e4))))
       clear e0 e1 e2 e3 e4
       have hrg : ∀ j, keyOf yy j → ∀ q, (val j).ownBlock = some q → wc ≤ q ∧ q < wx5.heap.size := fun j hj q hq => by rw [hwc]; exact (hk.own j hj).lt q hq
       have HKR := Lib.hid (show AsyK wx5 wc val yy by rw [hwc]; exact hk)
       clear hk
       have hzhbx5 := hbx5.size
       replace HA := bk HA hbx5
       replace IM := bk IM hbx5
       replace IN := bk IN hbx5
       replace IX := bk IX hbx5
       replace hbW := bl_trans hbW hbx5
       replace hB := bl_trans hB hbx5
       replace JM := Lib.hid (JM.out.up hbx5)
       replace JN := Lib.hid (JN.out.up hbx5)
       replace JX := Lib.hid (JX.out.up hbx5)
       refine hK.out _ _ ?_ (fun hHeld => ?_)
       ·
        exact ⟨IM.out, IN.out, IX.out, HA.out⟩
       clear hK K
       try simp only [Act.put, pu]
       refine stk 6 55 ?_
       refine stk 7 62 ?_
       refine stk 8 63 ?_
       refine wpAnyH_ready (rs := [9]) (by kernel_rfl) (by simp) ?_
       refine AllReadyH.cons rfl (fun K hK => ?_) AllReadyH.nil
       go_simp
       obtain ⟨PX, wA, hPX, hwA, hbA, HT, hPc⟩ := box_at wx5 nilV nilV nilV nilV nilV 50
       unfold nilV at hwA HT
       rw [hPX, ← hwA]
       clear hwA
       have hzhbA := hbA.size
       replace HA := bk HA hbA
       replace IM := bk IM hbA
       replace IN := bk IN hbA
       replace IX := bk IX hbA
       replace hbW := bl_trans hbW hbA
       replace hB := bl_trans hB hbA
       replace JM := Lib.hid (JM.out.up hbA)
       replace JN := Lib.hid (JN.out.up hbA)
       replace JX := Lib.hid (JX.out.up hbA)
       replace HKR := Lib.hid (AsyK.up HKR.out hbA)
       refine hK.out _ _ ?_ (fun hHeld => ?_)
       ·
        exact ⟨IM.out, IN.out, IX.out, HA.out⟩
       clear hK K
       try simp only [Act.put, pu]
       refine wpAnyH_ready (rs := [10]) (by kernel_rfl) (by simp) ?_
       refine AllReadyH.cons rfl (fun K hK => ?_) AllReadyH.nil
       obtain ⟨⟨t0, t1, t2⟩, ⟨t3, t4⟩, tf⟩ := cells5 HT
       go_simp
       obtain ⟨we, hwe, HE, hge⟩ := set5 HT (.slice GA10 Gm10 Gc10) (.slice GA11 Gm11 Gc11) (.slice GA12 Gm12 Gc12) (.slice GA8 Gm8 Gc8) (.slice GA9 Gm9 Gc9)
       rw [← hwe]
       clear hwe t0 t1 t2 t3 t4 tf
       replace HA := Lib.hid ((hge.block P3 (by omega) (fun h => by have e := Option.some.inj h; omega)).trans HA.out)
       replace IM := Lib.hid ((hge.block P5 (by omega) (fun h => by have e := Option.some.inj h; omega)).trans IM.out)
       replace IN := Lib.hid ((hge.block P6 (by omega) (fun h => by have e := Option.some.inj h; omega)).trans IN.out)
       replace IX := Lib.hid ((hge.block P7 (by omega) (fun h => by have e := Option.some.inj h; omega)).trans IX.out)
       refine hK.out _ _ ?_ (fun hHeld => ?_)
       ·
        exact ⟨IM.out, IN.out, IX.out, HA.out⟩
       clear hK K
       try simp only [Act.put, pu]
       refine stk 11 16 ?_
       refine wpAnyH_done (by kernel_rfl) ?_ _
       exact FIN.out we PX _ _ _ _ _ _ _ _ _ _ _ _ _ _ _ (grown_at hbW hge (by omega)) (by omega) (BoxR.leaf HEV.out HKR.out hge hrg (by omega) (by omega) HE)
      ·
       go_simp
       obtain ⟨PX, wA, hPX, hwA, hbA, HT, hPc⟩ := box_at wx4 nilV nilV nilV nilV nilV 50
       unfold nilV at hwA HT
       rw [hPX, ← hwA]
       clear hwA
       have hzhbA := hbA.size
       replace HA := bk HA hbA
       replace IM := bk IM hbA
       replace IN := bk IN hbA
       replace IX := bk IX hbA
       replace hbW := bl_trans hbW hbA
       replace hB := bl_trans hB hbA
       replace JM := Lib.hid (JM.out.up hbA)
       replace JN := Lib.hid (JN.out.up hbA)
       replace JX := Lib.hid (JX.out.up hbA)
       refine hK.out _ _ ?_ (fun hHeld => ?_)
       ·
        exact ⟨IM.out, IN.out, IX.out, HA.out⟩
       clear hK K
       try simp only [Act.put, pu]
       refine wpAnyH_ready (rs := [5]) (by kernel_rfl) (by simp) ?_
       refine AllReadyH.cons rfl (fun K hK => ?_) AllReadyH.nil
       go_simp
       go_at_call 30
       obtain ⟨wc, hwc⟩ : ∃ z, z = wA.heap.size := ⟨_, rfl⟩
       have hC := impl_DoAsync _ _ _ _ m _ _ _ n _ _ _ _ _ x ak an ap aa wA JM.out JN.out JX.out hes1 hes2
       rw [HV.out] at hC
       (try unfold machV at hC)
       refine hC.mono ?_
       clear hC
       rintro e wx5 ⟨v0, v1, v2, v3, v4, rfl, hbx5, hres⟩
       obtain ⟨val, e0, e1, e2, e3, e4, hk⟩ := hres.asy
       rw [HYY.out] at hk
       clear hres
       obtain ⟨GA10, Gm10, Gc10, GA11, Gm11, Gc11, GA12, Gm12, Gc12, GA8, Gm8, Gc8, GA9, Gm9, Gc9, rfl, rfl, rfl, rfl, rfl⟩ := heads5 hk e0 e1 e2 e3 e4
       have HEV := Lib.hid (And.intro e0 (And.intro e1 (And.intro e2 (And.intro e3 e4))))
       clear e0 e1 e2 e3 e4
       have hrg : ∀ j, keyOf yy j → ∀ q, (val j).ownBlock = some q → wc ≤ q ∧ q < wx5.heap.size := fun j hj q hq => by rw [hwc]; exact (hk.own j hj).lt q hq
       have HKR := Lib.hid (show AsyK wx5 wc val yy by rw [hwc]; exact hk)
       clear hk
       have hzhbx5 := hbx5.size
       replace HA := bk HA hbx5
       replace IM := bk IM hbx5
       replace IN := bk IN hbx5
       replace IX := bk IX hbx5
       replace HT := bk HT hbx5
       replace hbW := bl_trans hbW hbx5
       replace hB := bl_trans hB hbx5
       replace JM := Lib.hid (JM.out.up hbx5)
       replace JN := Lib.hid (JN.out.up hbx5)
       replace JX := Lib.hid (JX.out.up hbx5)
       refine hK.out _ _ ?_ (fun hHeld => ?_)
       ·
        exact ⟨IM.out, IN.out, IX.out, HA.out⟩
       clear hK K
       try simp only [Act.put, pu]
       refine stk 6 55 ?_
       refine stk 7 62 ?_
       refine stk 8 63 ?_
       refine wpAnyH_ready (rs := [10]) (by kernel_rfl) (by simp) ?_
       refine AllReadyH.cons rfl (fun K hK => ?_) AllReadyH.nil
       obtain ⟨⟨t0, t1, t2⟩, ⟨t3, t4⟩, tf⟩ := cells5 HT
       go_simp
       obtain ⟨we, hwe, HE, hge⟩ := set5 HT (.slice GA10 Gm10 Gc10) (.slice GA11 Gm11 Gc11) (.slice GA12 Gm12 Gc12) (.slice GA8 Gm8 Gc8) (.slice GA9 Gm9 Gc9)
       rw [← hwe]
       clear hwe t0 t1 t2 t3 t4 tf
       replace HA := Lib.hid ((hge.block P3 (by omega) (fun h => by have e := Option.some.inj h; omega)).trans HA.out)
       replace IM := Lib.hid ((hge.block P5 (by omega) (fun h => by have e := Option.some.inj h; omega)).trans IM.out)
       replace IN := Lib.hid ((hge.block P6 (by omega) (fun h => by have e := Option.some.inj h; omega)).trans IN.out)
       replace IX := Lib.hid ((hge.block P7 (by omega) (fun h => by have e := Option.some.inj h; omega)).trans IX.out)
       refine hK.out _ _ ?_ (fun hHeld => ?_)
       ·
        exact ⟨IM.out, IN.out, IX.out, HA.out⟩
       clear hK K
       try simp only [Act.put, pu]
       refine stk 11 16 ?_
       refine wpAnyH_done (by kernel_rfl) ?_ _
       exact FIN.out we PX _ _ _ _ _ _ _ _ _ _ _ _ _ _ _ (grown_at hbW hge (by omega)) (by omega) (BoxR.leaf HEV.out HKR.out hge hrg (by omega) (by omega) HE)
     ·
      go_simp
      obtain ⟨PX, wA, hPX, hwA, hbA, HT, hPc⟩ := box_at wr nilV nilV nilV nilV nilV 50
      unfold nilV at hwA HT
      rw [hPX, ← hwA]
      clear hwA
      have hzhbA := hbA.size
      replace HA := bk HA hbA
      replace IM := bk IM hbA
      replace IN := bk IN hbA
      replace IX := bk IX hbA
      replace hbW := bl_trans hbW hbA
      replace hB := bl_trans hB hbA
      replace JM := Lib.hid (JM.out.up hbA)
      replace JN := Lib.hid (JN.out.up hbA)
      replace JX := Lib.hid (JX.out.up hbA)
      refine hK.out _ _ ?_ (fun hHeld => ?_)
      ·
       exact ⟨IM.out, IN.out, IX.out, HA.out⟩
      clear hK K
      try simp only [Act.put, pu]
      refine wpAnyH_ready (rs := [4]) (by kernel_rfl) (by simp) ?_
      refine AllReadyH.cons rfl (fun K hK => ?_) AllReadyH.nil
      go_simp
      go_at_call 16
      refine (to_Act ak an ap aa wA).mono ?_
      rintro e wx4 ⟨rfl, hbx4⟩
      have hzhbx4 := hbx4.size
      replace HA := bk HA hbx4
      replace IM := bk IM hbx4
      replace IN := bk IN hbx4
      replace IX := bk IX hbx4
      replace HT := bk HT hbx4
      replace hbW := bl_trans hbW hbx4
      replace hB := bl_trans hB hbx4
      replace JM := Lib.hid (JM.out.up hbx4)
      replace JN := Lib.hid (JN.out.up hbx4)
      replace JX := Lib.hid (JX.out.up hbx4)
      refine hK.out _ _ ?_ (fun hHeld => ?_)
      ·
       exact ⟨IM.out, IN.out, IX.out, HA.out⟩
      clear hK K
      try simp only [Act.put, pu]
      refine wpAnyH_ready (rs := [5]) (by kernel_rfl) (by simp) ?_
      refine AllReadyH.cons rfl (fun K hK => ?_) AllReadyH.nil
      go_simp
      go_at_call 30
      obtain ⟨wc, hwc⟩ : ∃ z, z = wx4.heap.size := ⟨_, rfl⟩
      have hC := impl_DoAsync _ _ _ _ m _ _ _ n _ _ _ _ _ x ak an ap aa wx4 JM.out JN.out JX.out hes1 hes2
      rw [HV.out] at hC
      (try unfold machV at hC)
      refine hC.mono ?_
      clear hC
      rintro e wx5 ⟨v0, v1, v2, v3, v4, rfl, hbx5, hres⟩
      obtain ⟨val, e0, e1, e2, e3, e4, hk⟩ := hres.asy
      rw [HYY.out] at hk
      clear hres
      obtain ⟨GA10, Gm10, Gc10, GA11, Gm11, Gc11, GA12, Gm12, Gc12, GA8, Gm8, Gc8, GA9, Gm9, Gc9, rfl, rfl, rfl, rfl, rfl⟩ := heads5 hk e0 e1 e2 e3 e4
      have HEV := Lib.hid (And.intro e0 (And.intro e1 (And.intro e2 (And.intro e3 e4))))
      clear e0 e1 e2 e3 e4
      have hrg : ∀ j, keyOf yy j → ∀ q, (val j).ownBlock = some q → wc ≤ q ∧ q < wx5.heap.size := fun j hj q hq => by rw [hwc]; exact (hk.own j hj).lt q hq
      have HKR := Lib.hid (show AsyK wx5 wc val yy by rw [hwc]; exact hk)
      clear hk
      have hzhbx5 := hbx5.size
      replace HA := bk HA hbx5
      replace IM := bk IM hbx5
      replace IN := bk IN hbx5
      replace IX := bk IX hbx5
      replace HT := bk HT hbx5
      replace hbW := bl_trans hbW hbx5
      replace hB := bl_trans hB hbx5
      replace JM := Lib.hid (JM.out.up hbx5)
      replace JN := Lib.hid (JN.out.up hbx5)
      replace JX := Lib.hid (JX.out.up hbx5)
      refine hK.out _ _ ?_ (fun hHeld => ?_)
      ·
       exact ⟨IM.out, IN.out, IX.out, HA.out⟩
      clear hK K
      try simp only [Act.put, pu]
      refine stk 6 55 ?_
      refine stk 7 62 ?_
      refine stk 8 63 ?_
      refine wpAnyH_ready (rs := [10]) (by kernel_rfl) (by simp) ?_
      refine AllReadyH.cons rfl (fun K hK => ?_) AllReadyH.nil
      obtain ⟨⟨t0, t1, t2⟩, ⟨t3, t4⟩, tf⟩ := cells5 HT
      go_simp
      obtain ⟨we, hwe, HE, hge⟩ := set5 HT (.slice GA10 Gm10 Gc10) (.slice GA11 Gm11 Gc11) (.slice GA12 Gm12 Gc12) (.slice GA8 Gm8 Gc8) (.slice GA9 Gm9 Gc9)
      rw [← hwe]
      clear hwe t0 t1 t2 t3 t4 tf
      replace HA := Lib.hid ((hge.block P3 (by omega) (fun h => by have e := Option.some.inj h; omega)).trans HA.out)
      replace IM := Lib.hid ((hge.block P5 (by omega) (fun h => by have e := Option.some.inj h; omega)).trans IM.out)
      replace IN := Lib.hid ((hge.block P6 (by omega) (fun h => by have e := Option.some.inj h; omega)).trans IN.out)
      replace IX := Lib.hid ((hge.block P7 (by omega) (fun h => by have e := Option.some.inj h; omega)).trans IX.out)
      refine hK.out _ _ ?_ (fun hHeld => ?_)
      ·
       exact ⟨IM.out, IN.out, IX.out, HA.out⟩
      clear hK K
      try simp only [Act.put, pu]
      refine stk 11 16 ?_
      refine wpAnyH_done (by kernel_rfl) ?_ _
      exact FIN.out we PX _ _ _ _ _ _ _ _ _ _ _ _ _ _ _ (grown_at hbW hge (by omega)) (by omega) (BoxR.leaf HEV.out HKR.out hge hrg (by omega) (by omega) HE)
    have FIN := Lib.hid FIN0
    clear FIN0 hrest
    have hbW := Below.refl w7.heap.size w7
    refine wp_region_held_drew (S := fun w' => w'.heap[w.heap.size]? = some (.cells #[.int .i64 m.deg, .int .i64 m.st, .int .i64 m.msg, .slice A0 m0 c0, .slice A1 m1 c1, .slice A2 m2 c2, .slice A3 m3 c3] 26 (0, 0)) ∧ w'.heap[P1]? = some (.cells #[.slice A4 m4 c4, .slice A5 m5 c5, .slice A6 m6 c6] 29 (0, 0)) ∧ w'.heap[P2]? = some (.cells #[.slice A10 m10 c10, .slice A11 m11 c11, .slice A12 m12 c12, .slice A8 m8 c8, .slice A9 m9 c9] 32 (0, 0)) ∧ w'.heap[P3]? = some (.cells #[.int .i64 ak, .int .i64 an, .int .i64 ap, .int .i64 aa] 34 (0, 0))) (by kernel_rfl) ?_ (fun hHeld => ?_)
    ·
     exact ⟨HM.out, HD.out, HY.out, HA.out⟩
    obtain ⟨wr, hwr⟩ : ∃ z, z = w7.drew := ⟨_, rfl⟩
    rw [← hwr] at hHeld ⊢
    have hbr : Below w7.heap.size w7 wr := by rw [hwr]; exact (Below.refl _ _).drew
    clear hwr
    have hzhbr := hbr.size
    replace HM := bk HM hbr
    replace HD := bk HD hbr
    replace HY := bk HY hbr
    replace HA := bk HA hbr
    replace hbW := bl_trans hbW hbr
    replace hB := bl_trans hB hbr
    replace HR := Lib.hid (HR.out.up hbr)
    replace HN := Lib.hid (HN.out.up hbr)
    replace HX := Lib.hid (HX.out.up hbr)
    refine tk 0 38 rfl rfl ?_ (hy := fun w hSw => by obtain ⟨⟨g0, g1, g2⟩, ⟨g3, g4, g5, g6⟩, gf⟩ := cells7 (Lib.hid hSw.1); go_simp <;> with_reducible rfl)
    try simp only [Act.put, pu]
    refine tk 2 40 rfl rfl ?_ (hy := fun w hSw => by obtain ⟨q0, q1, q2, qf⟩ := cells3 (Lib.hid hSw.2.1); go_simp <;> with_reducible rfl)
    try simp only [Act.put, pu]
    refine tk 4 42 rfl rfl ?_ (hy := fun w hSw => by obtain ⟨⟨y0, y1, y2⟩, ⟨y3, y4⟩, yf⟩ := cells5 (Lib.hid hSw.2.2.1); go_simp <;> with_reducible rfl)
    try simp only [Act.put, pu]
    refine tk 6 44 rfl rfl ?_ (hy := fun w hSw => by obtain ⟨⟨u0, u1⟩, ⟨u2, u3⟩, uf⟩ := cells4a (Lib.hid hSw.2.2.2); go_simp <;> with_reducible rfl)
    try simp only [Act.put, pu]
    refine wpAnyH_ready (rs := [1, 12]) (by kernel_rfl) (by simp) ?_
    refine AllReadyH.cons rfl (fun K hK => ?_) (AllReadyH.cons rfl (fun K hK => ?_) AllReadyH.nil)
    ·
     go_simp
     go_at_call 13
     refine (to_Mach _ _ _ _ m wr HR.out hs1).mono ?_
     rintro e wx1 ⟨z0, z1, z2, z3, rfl, hq, hbx1⟩
     obtain ⟨⟨BA0, Bm0, Bc0, rfl⟩, ⟨BA1, Bm1, Bc1, rfl⟩, ⟨BA2, Bm2, Bc2, rfl⟩, BA3, Bm3, Bc3, rfl⟩ := hq.slices
     have KM := Lib.hid hq
     clear hq
     have hzhbx1 := hbx1.size
     replace HM := bk HM hbx1
     replace HD := bk HD hbx1
     replace HY := bk HY hbx1
     replace HA := bk HA hbx1
     replace hbW := bl_trans hbW hbx1
     replace hB := bl_trans hB hbx1
     replace HR := Lib.hid (HR.out.up hbx1)
     replace HN := Lib.hid (HN.out.up hbx1)
     replace HX := Lib.hid (HX.out.up hbx1)
     refine hK.out _ _ ?_ (fun hHeld => ?_)
     ·
      exact ⟨HM.out, HD.out, HY.out, HA.out⟩
     clear hK K
     try simp only [Act.put, pu]
     refine wpAnyH_ready (rs := [3, 12]) (by kernel_rfl) (by simp) ?_
     refine AllReadyH.cons rfl (fun K hK => ?_) (AllReadyH.cons rfl (fun K hK => ?_) AllReadyH.nil)
     ·
      go_simp
      go_at_call 14
      refine (to_Net _ _ _ n wx1 HN.out hs2).mono ?_
      rintro e wx2 ⟨z0, z1, z2, rfl, hq, hbx2⟩
      obtain ⟨⟨BA4, Bm4, Bc4, rfl⟩, ⟨BA5, Bm5, Bc5, rfl⟩, BA6, Bm6, Bc6, rfl⟩ := hq.slices
      have KN := Lib.hid hq
      clear hq
      have hzhbx2 := hbx2.size
      replace HM := bk HM hbx2
      replace HD := bk HD hbx2
      replace HY := bk HY hbx2
      replace HA := bk HA hbx2
      replace hbW := bl_trans hbW hbx2
      replace hB := bl_trans hB hbx2
      replace HR := Lib.hid (HR.out.up hbx2)
      replace HN := Lib.hid (HN.out.up hbx2)
      replace HX := Lib.hid (HX.out.up hbx2)
      replace KM := Lib.hid (KM.out.up hbx2)
      refine hK.out _ _ ?_ (fun hHeld => ?_)
      ·
       exact ⟨HM.out, HD.out, HY.out, HA.out⟩
      clear hK K
      try simp only [Act.put, pu]
      refine wpAnyH_ready (rs := [5, 12]) (by kernel_rfl) (by simp) ?_
      refine AllReadyH.cons rfl (fun K hK => ?_) (AllReadyH.cons rfl (fun K hK => ?_) AllReadyH.nil)
      ·
       go_simp
       go_at_call 15
       refine (to_Asy _ _ _ _ _ x wx2 HX.out hs3).mono ?_
       rintro e wx3 ⟨z0, z1, z2, z3, z4, rfl, hq, hbx3⟩
       obtain ⟨⟨BA10, Bm10, Bc10, rfl⟩, ⟨BA11, Bm11, Bc11, rfl⟩, ⟨BA12, Bm12, Bc12, rfl⟩, ⟨BA8, Bm8, Bc8, rfl⟩, BA9, Bm9, Bc9, rfl⟩ := hq.slices
       have KX := Lib.hid hq
       clear hq
       have hzhbx3 := hbx3.size
       replace HM := bk HM hbx3
       replace HD := bk HD hbx3
       replace HY := bk HY hbx3
       replace HA := bk HA hbx3
       replace hbW := bl_trans hbW hbx3
       replace hB := bl_trans hB hbx3
       replace HR := Lib.hid (HR.out.up hbx3)
       replace HN := Lib.hid (HN.out.up hbx3)
       replace HX := Lib.hid (HX.out.up hbx3)
       replace KM := Lib.hid (KM.out.up hbx3)
       replace KN := Lib.hid (KN.out.up hbx3)
       refine hK.out _ _ ?_ (fun hHeld => ?_)
       ·
        exact ⟨HM.out, HD.out, HY.out, HA.out⟩
       clear hK K
       try simp only [Act.put, pu]
       refine wpAnyH_ready (rs := [7, 12]) (by kernel_rfl) (by simp) ?_
       refine AllReadyH.cons rfl (fun K hK => ?_) (AllReadyH.cons rfl (fun K hK => ?_) AllReadyH.nil)
       ·
        go_simp
        go_at_call 16
        refine (to_Act ak an ap aa wx3).mono ?_
        rintro e wx4 ⟨rfl, hbx4⟩
        have hzhbx4 := hbx4.size
        replace HM := bk HM hbx4
        replace HD := bk HD hbx4
        replace HY := bk HY hbx4
        replace HA := bk HA hbx4
        replace hbW := bl_trans hbW hbx4
        replace hB := bl_trans hB hbx4
        replace HR := Lib.hid (HR.out.up hbx4)
        replace HN := Lib.hid (HN.out.up hbx4)
        replace HX := Lib.hid (HX.out.up hbx4)
        replace KM := Lib.hid (KM.out.up hbx4)
        replace KN := Lib.hid (KN.out.up hbx4)
        replace KX := Lib.hid (KX.out.up hbx4)
        refine hK.out _ _ ?_ (fun hHeld => ?_)
        ·
         exact ⟨HM.out, HD.out, HY.out, HA.out⟩
        clear hK K
        try simp only [Act.put, pu]
        refine wpAnyH_ready (rs := [8, 12]) (by kernel_rfl) (by simp) ?_
        refine AllReadyH.cons rfl (fun K hK => ?_) (AllReadyH.cons rfl (fun K hK => ?_) AllReadyH.nil)
        ·
         go_simp
         go_at_call 29
         obtain ⟨wc, hwc⟩ : ∃ z, z = wx4.heap.size := ⟨_, rfl⟩
         have hC := spec_DoAsync _ _ _ _ m _ _ _ n _ _ _ _ _ x ak an ap aa wx4 KM.out KN.out KX.out hes1
         rw [HV.out] at hC
         (try unfold machV at hC)
         refine hC.mono ?_
         clear hC
         rintro e wx5 ⟨v0, v1, v2, v3, v4, rfl, hbx5, hres⟩
         obtain ⟨val, e0, e1, e2, e3, e4, hk⟩ := hres.asy
         rw [HYY.out] at hk
         clear hres
         obtain ⟨SA10, Sm10, Sc10, SA11, Sm11, Sc11, SA12, Sm12, Sc12, SA8, Sm8, Sc8, SA9, Sm9, Sc9, rfl, rfl, rfl, rfl, rfl⟩ := heads5 hk e0 e1 e2 e3 e4
         have HEV := Lib.hid (And.intro e0 (And.intro e1 (And.intro e2 (And.intro e3 e4))))
         clear e0 e1 e2 e3 e4
         have hrg : ∀ j, keyOf yy j → ∀ q, (val j).ownBlock = some q → wc ≤ q ∧ q < wx5.heap.size := fun j hj q hq => by rw [hwc]; exact (hk.own j hj).lt q hq
         have HKR := Lib.hid (show AsyK wx5 wc val yy by rw [hwc]; exact hk)
         clear hk
         have hzhbx5 := hbx5.size
         replace HM := bk HM hbx5
         replace HD := bk HD hbx5
         replace HY := bk HY hbx5
         replace HA := bk HA hbx5
         replace hbW := bl_trans hbW hbx5
         replace hB := bl_trans hB hbx5
         replace HR := Lib.hid (HR.out.up hbx5)
         replace HN := Lib.hid (HN.out.up hbx5)
         replace HX := Lib.hid (HX.out.up hbx5)
         replace KM := Lib.hid (KM.out.up hbx5)
         replace KN := Lib.hid (KN.out.up hbx5)
         replace KX := Lib.hid (KX.out.up hbx5)
         refine hK.out _ _ ?_ (fun hHeld => ?_)
         ·
          exact ⟨HM.out, HD.out, HY.out, HA.out⟩
         clear hK K
         try simp only [Act.put, pu]
         refine stk 9 37 ?_
         refine stk 10 47 ?_
         refine stk 11 48 ?_
         refine wpAnyH_ready (rs := [12]) (by kernel_rfl) (by simp) ?_
         refine AllReadyH.cons rfl (fun K hK => ?_) AllReadyH.nil
         go_simp
         obtain ⟨PX, wA, hPX, hwA, hbA, HT, hPc⟩ := box_at wx5 nilV nilV nilV nilV nilV 50
         unfold nilV at hwA HT
         rw [hPX, ← hwA]
         clear hwA
         have hzhbA := hbA.size
         replace HM := bk HM hbA
         replace HD := bk HD hbA
         replace HY := bk HY hbA
         replace HA := bk HA hbA
         replace hbW := bl_trans hbW hbA
         replace hB := bl_trans hB hbA
         replace HR := Lib.hid (HR.out.up hbA)
         replace HN := Lib.hid (HN.out.up hbA)
         replace HX := Lib.hid (HX.out.up hbA)
         replace KM := Lib.hid (KM.out.up hbA)
         replace KN := Lib.hid (KN.out.up hbA)
         replace KX := Lib.hid (KX.out.up hbA)
         replace HKR := Lib.hid (AsyK.up HKR.out hbA)
         refine hK.out _ _ ?_ (fun hHeld => ?_)
         ·
          exact ⟨HM.out, HD.out, HY.out, HA.out⟩
         clear hK K
         try simp only [Act.put, pu]
         refine wpAnyH_ready (rs := [13]) (by kernel_rfl) (by simp) ?_
         refine AllReadyH.cons rfl (fun K hK => ?_) AllReadyH.nil
         obtain ⟨⟨t0, t1, t2⟩, ⟨t3, t4⟩, tf⟩ := cells5 HT
         go_simp
         obtain ⟨we, hwe, HE, hge⟩ := set5 HT (.slice SA10 Sm10 Sc10) (.slice SA11 Sm11 Sc11) (.slice SA12 Sm12 Sc12) (.slice SA8 Sm8 Sc8) (.slice SA9 Sm9 Sc9)
         rw [← hwe]
         clear hwe t0 t1 t2 t3 t4 tf
         replace HM := Lib.hid ((hge.block w.heap.size (by omega) (fun h => by have e := Option.some.inj h; omega)).trans HM.out)
         replace HD := Lib.hid ((hge.block P1 (by omega) (fun h => by have e := Option.some.inj h; omega)).trans HD.out)
         replace HY := Lib.hid ((hge.block P2 (by omega) (fun h => by have e := Option.some.inj h; omega)).trans HY.out)
         replace HA := Lib.hid ((hge.block P3 (by omega) (fun h => by have e := Option.some.inj h; omega)).trans HA.out)
         refine hK.out _ _ ?_ (fun hHeld => ?_)
         ·
          exact ⟨HM.out, HD.out, HY.out, HA.out⟩
         clear hK K
         try simp only [Act.put, pu]
         refine stk 14 11 ?_
         refine wpAnyH_done (by kernel_rfl) ?_ _
         exact FIN.out we PX _ _ _ _ _ _ _ _ _ _ _ _ _ _ _ _ _ _ (grown_at hbW hge (by omega)) (by omega) (BoxR.leaf HEV.out HKR.out hge hrg (by omega) (by omega) HE)
        ·
         go_simp
         obtain ⟨PX, wA, hPX, hwA, hbA, HT, hPc⟩ := box_at wx4 nilV nilV nilV nilV nilV 50
         unfold nilV at hwA HT
         rw [hPX, ← hwA]
         clear hwA
         have hzhbA := hbA.size
         replace HM := bk HM hbA
         replace HD := bk HD hbA
         replace HY := bk HY hbA
         replace HA := bk HA hbA
         replace hbW := bl_trans hbW hbA
         replace hB := bl_trans hB hbA
         replace HR := Lib.hid (HR.out.up hbA)
         replace HN := Lib.hid (HN.out.up hbA)
         replace HX := Lib.hid (HX.out.up hbA)
         replace KM := Lib.hid (KM.out.up hbA)
         replace KN := Lib.hid (KN.out.up hbA)
         replace KX := Lib.hid (KX.out.up hbA)
         refine hK.out _ _ ?_ (fun hHeld => ?_)
         ·
          exact ⟨HM.out, HD.out, HY.out, HA.out⟩
         clear hK K
         try simp only [Act.put, pu]
         refine wpAnyH_ready (rs := [8]) (by kernel_rfl) (by simp) ?_
         refine AllReadyH.cons rfl (fun K hK => ?_) AllReadyH.nil
         go_simp
         go_at_call 29
         obtain ⟨wc, hwc⟩ : ∃ z, z = wA.heap.size := ⟨_, rfl⟩
         have hC := spec_DoAsync _ _ _ _ m _ _ _ n _ _ _ _ _ x ak an ap aa wA KM.out KN.out KX.out hes1
         rw [HV.out] at hC
         (try unfold machV at hC)
         refine hC.mono ?_
         clear hC
         rintro e wx5 ⟨v0, v1, v2, v3, v4, rfl, hbx5, hres⟩
         obtain ⟨val, e0, e1, e2, e3, e4, hk⟩ := hres.asy
         rw [HYY.out] at hk
         clear hres
         obtain ⟨SA10, Sm10, Sc10, SA11, Sm11, Sc11, SA12, Sm12, Sc12, SA8, Sm8, Sc8, SA9, Sm9, Sc9, rfl, rfl, rfl, rfl, rfl⟩ := heads5 hk e0 e1 e2 e3 e4
         have HEV := Lib.hid (And.intro e0 (And.intro e1 (And.intro e2 (And.intro e3 e4))))
         clear e0 e1 e2 e3 e4
         have hrg : ∀ j, keyOf yy j → ∀ q, (val j).ownBlock = some q → wc ≤ q ∧ q < wx5.heap.size := fun j hj q hq => by rw [hwc]; exact (hk.own j hj).lt q hq
         have HKR := Lib.hid (show AsyK wx5 wc val yy by rw [hwc]; exact hk)
         clear hk
         have hzhbx5 := hbx5.size
         replace HM := bk HM hbx5
         replace HD := bk HD hbx5
         replace HY := bk HY hbx5
         replace HA := bk HA hbx5
         replace HT := bk HT hbx5
         replace hbW := bl_trans hbW hbx5
         replace hB := bl_trans hB hbx5
         replace HR := Lib.hid (HR.out.up hbx5)
         replace HN := Lib.hid (HN.out.up hbx5)
         replace HX := Lib.hid (HX.out.up hbx5)
         replace KM := Lib.hid (KM.out.up hbx5)
         replace KN := Lib.hid (KN.out.up hbx5)
         replace KX := Lib.hid (KX.out.up hbx5)
         refine hK.out _ _ ?_ (fun hHeld => ?_)
         ·
          exact ⟨HM.out, HD.out, HY.out, HA.out⟩
         clear hK K
         try simp only [Act.put, pu]
         refine stk 9 37 ?_
         refine stk 10 47 ?_
         refine stk 11 48 ?_
         refine wpAnyH_ready (rs := [13]) (by kernel_rfl) (by simp) ?_
         refine AllReadyH.cons rfl (fun K hK => ?_) AllReadyH.nil
         obtain ⟨⟨t0, t1, t2⟩, ⟨t3, t4⟩, tf⟩ := cells5 HT
         go_simp
         obtain ⟨we, hwe, HE, hge⟩ := set5 HT (.slice SA10 Sm10 Sc10) (.slice SA11 Sm11 Sc11) (.slice SA12 Sm12 Sc12) (.slice SA8 Sm8 Sc8) (.slice SA9 Sm9 Sc9)
         rw [← hwe]
         clear hwe t0 t1 t2 t3 t4 tf
         replace HM := Lib.hid ((hge.block w.heap.size (by omega) (fun h => by have e := Option.some.inj h; omega)).trans HM.out)
         replace HD := Lib.hid ((hge.block P1 (by omega) (fun h => by have e := Option.some.inj h; omega)).trans HD.out)
         replace HY := Lib.hid ((hge.block P2 (by omega) (fun h => by have e := Option.some.inj h; omega)).trans HY.out)
         replace HA := Lib.hid ((hge.block P3 (by omega) (fun h => by have e := Option.some.inj h; omega)).trans HA.out)
         refine hK.out _ _ ?_ (fun hHeld => ?_)
         ·
          exact ⟨HM.out, HD.out, HY.out, HA.out⟩
         clear hK K
         try simp only [Act.put, pu]
         refine stk 14 11 ?_
         refine wpAnyH_done (by kernel_rfl) ?_ _
         exact FIN.out we PX _ _ _ _ _ _ _ _ _ _ _ _ _ _ _ _ _ _ (grown_at hbW hge (by omega)) (by omega) (BoxR.leaf HEV.out HKR.out hge hrg (by omega) (by omega) HE)
       ·
        go_simp
        obtain ⟨PX, wA, hPX, hwA, hbA, HT, hPc⟩ := box_at wx3 nilV nilV nilV nilV nilV 50
        unfold nilV at hwA HT
        rw [hPX, ← hwA]
        clear hwA
        have hzhbA := hbA.size
        replace HM := bk HM hbA
        replace HD := bk HD hbA
        replace HY := bk HY hbA
        replace HA := bk HA hbA
        replace hbW := bl_trans hbW hbA
        replace hB := bl_trans hB hbA
        replace HR := Lib.hid (HR.out.up hbA)
        replace HN := Lib.hid (HN.out.up hbA)
        replace HX := Lib.hid (HX.out.up hbA)
        replace KM := Lib.hid (KM.out.up hbA)
        replace KN := Lib.hid (KN.out.up hbA)
        replace KX := Lib.hid (KX.out.up hbA)
        refine hK.out _ _ ?_ (fun hHeld => ?_)
        ·
         exact ⟨HM.out, HD.out, HY.out, HA.out⟩
        clear hK K
        try simp only [Act.put, pu]
        refine wpAnyH_ready (rs := [7]) (by kernel_rfl) (by simp) ?_
        refine AllReadyH.cons rfl (fun K hK => ?_) AllReadyH.nil
        go_simp
        go_at_call 16
        refine (to_Act ak an ap aa wA).mono ?_
        rintro e wx4 ⟨rfl, hbx4⟩
        have hzhbx4 := hbx4.size
        replace HM := bk HM hbx4
        replace HD := bk HD hbx4
        replace HY := bk HY hbx4
        replace HA := bk HA hbx4
        replace HT := bk HT hbx4
        replace hbW := bl_trans hbW hbx4
        replace hB := bl_trans hB hbx4
        replace HR := Lib.hid (HR.out.up hbx4)
        replace HN := Lib.hid (HN.out.up hbx4)
        replace HX := Lib.hid (HX.out.up hbx4)
        replace KM := Lib.hid (KM.out.up hbx4)
        replace KN := Lib.hid (KN.out.up hbx4)
        replace KX := Lib.hid (KX.out.up hbx4)
        refine hK.out _ _ ?_ (fun hHeld => ?_)
        ·
         exact ⟨HM.out, HD.out, HY.out, HA.out⟩
        clear hK K
        try simp only [Act.put, pu]
        refine wpAnyH_ready (rs := [8]) (by kernel_rfl) (by simp) ?_
        refine AllReadyH.cons rfl (fun K hK => ?_) AllReadyH.nil
        go_simp
        go_at_call 29
        obtain ⟨wc, hwc⟩ : ∃ z, z = wx4.heap.size := ⟨_, rfl⟩
        have hC := spec_DoAsync _ _ _ _ m _ _ _ n _ _ _ _ _ x ak an ap aa wx4 KM.out KN.out KX.out hes1
        rw [HV.out] at hC
        (try unfold machV at hC)
        refine hC.mono ?_
        clear hC
        rintro e wx5 ⟨v0, v1, v2, v3, v4, rfl, hbx5, hres⟩
        obtain ⟨val, e0, e1, e2, e3, e4, hk⟩ := hres.asy
        rw [HYY.out] at hk
        clear hres
        obtain ⟨SA10, Sm10, Sc10, SA11, Sm11, Sc11, SA12, Sm12, Sc12, SA8, Sm8, Sc8, SA9, Sm9, Sc9, rfl, rfl, rfl, rfl, rfl⟩ := heads5 hk e0 e1 e2 e3 e4
        have HEV := Lib.hid (And.intro e0 (And.intro e1 (And.intro e2 (And.intro e3 e4))))
        clear e0 e1 e2 e3 e4
        have hrg : ∀ j, keyOf yy j → ∀ q, (val j).ownBlock = some q → wc ≤ q ∧ q < wx5.heap.size := fun j hj q hq => by rw [hwc]; exact (hk.own j hj).lt q hq
        have HKR := Lib.hid (show AsyK wx5 wc val yy by rw [hwc]; exact hk)
        clear hk
        have hzhbx5 := hbx5.size
        replace HM := bk HM hbx5
        replace HD := bk HD hbx5
        replace HY := bk HY hbx5
        replace HA := bk HA hbx5
        replace HT := bk HT hbx5
        replace hbW := bl_trans hbW hbx5
        replace hB := bl_trans hB hbx5
        replace HR := Lib.hid (HR.out.up hbx5)
        replace HN := Lib.hid (HN.out.up hbx5)
        replace HX := Lib.hid (HX.out.up hbx5)
        replace KM := Lib.hid (KM.out.up hbx5)
        replace KN := Lib.hid (KN.out.up hbx5)
        replace KX := Lib.hid (KX.out.up hbx5)
        refine hK.out _ _ ?_ (fun hHeld => ?_)
        ·
         exact ⟨HM.out, HD.out, HY.out, HA.out⟩
        clear hK K
        try simp only [Act.put, pu]
        refine stk 9 37 ?_
        refine stk 10 47 ?_
        refine stk 11 48 ?_
        refine wpAnyH_ready (rs := [13]) (by kernel_rfl) (by simp) ?_
        refine AllReadyH.cons rfl (fun K hK => ?_) AllReadyH.nil
        obtain ⟨⟨t0, t1, t2⟩, ⟨t3, t4⟩, tf⟩ := cells5 HT
        go_simp
        obtain ⟨we, hwe, HE, hge⟩ := set5 HT (.slice SA10 Sm10 Sc10) (.slice SA11 Sm11 Sc11) (.slice SA12 Sm12 Sc12) (.slice SA8 Sm8 Sc8) (.slice SA9 Sm9 Sc9)
        rw [← hwe]
        clear hwe t0 t1 t2 t3 t4 tf
        replace HM := Lib.hid ((hge.block w.heap.size (by omega) (fun h => by have e := Option.some.inj h; omega)).trans HM.out)
        replace HD := Lib.hid ((hge.block P1 (by omega) (fun h => by have e := Option.some.inj h; omega)).trans HD.out)
        replace HY := Lib.hid ((hge.block P2 (by omega) (fun h => by have e := Option.some.inj h; omega)).trans HY.out)
        replace HA := Lib.hid ((hge.block P3 (by omega) (fun h => by have e := Option.some.inj h; omega)).trans HA.out)
        refine hK.out _ _ ?_ (fun hHeld => ?_)
        ·
         exact ⟨HM.out, HD.out, HY.out, HA.out⟩
        clear hK K
        try simp only [Act.put, pu]
        refine stk 14 11 ?_
        refine wpAnyH_done (by kernel_rfl) ?_ _
        exact FIN.out we PX _ _ _ _ _ _ _ _ _ _ _ _ _ _ _ _ _ _ (grown_at hbW hge (by omega)) (by omega) (BoxR.leaf HEV.out HKR.out hge hrg (by omega) (by omega) HE)
      ·
       go_simp
       obtain ⟨PX, wA, hPX, hwA, hbA, HT, hPc⟩ := box_at wx2 nilV nilV nilV nilV nilV 50
       unfold nilV at hwA HT
       rw [hPX, ← hwA]
       clear hwA
       have hzhbA := hbA.size
       replace HM := bk HM hbA
       replace HD := bk HD hbA
       replace HY := bk HY hbA
       replace HA := bk HA hbA
       replace hbW := bl_trans hbW hbA
       replace hB := bl_trans hB hbA
       replace HR := Lib.hid (HR.out.up hbA)
       replace HN := Lib.hid (HN.out.up hbA)
       replace HX := Lib.hid (HX.out.up hbA)
       replace KM := Lib.hid (KM.out.up hbA)
       replace KN := Lib.hid (KN.out.up hbA)
       refine hK.out _ _ ?_ (fun hHeld => ?_)
       ·
        exact ⟨HM.out, HD.out, HY.out, HA.out⟩
       clear hK K
       try simp only [Act.put, pu]
       refine wpAnyH_ready (rs := [5]) (by kernel_rfl) (by simp) ?_
       refine AllReadyH.cons rfl (fun K hK => ?_) AllReadyH.nil
       go_simp
       go_at_call 15
       refine (to_Asy _ _ _ _ _ x wA HX.out hs3).mono ?_
       rintro e wx3 ⟨z0, z1, z2, z3, z4, rfl, hq, hbx3⟩
       obtain ⟨⟨BA10, Bm10, Bc10, rfl⟩, ⟨BA11, Bm11, Bc11, rfl⟩, ⟨BA12, Bm12, Bc12, rfl⟩, ⟨BA8, Bm8, Bc8, rfl⟩, BA9, Bm9, Bc9, rfl⟩ := hq.slices
       have KX := Lib.hid hq
       clear hq
       have hzhbx3 := hbx3.size
       replace HM := bk HM hbx3
       replace HD := bk HD hbx3
       replace HY := bk HY hbx3
       replace HA := bk HA hbx3
       replace HT := bk HT hbx3
       replace hbW := bl_trans hbW hbx3
       replace hB := bl_trans hB hbx3
       replace HR := Lib.hid (HR.out.up hbx3)
       replace HN := Lib.hid (HN.out.up hbx3)
       replace HX := Lib.hid (HX.out.up hbx3)
       replace KM := Lib.hid (KM.out.up hbx3)
       replace KN := Lib.hid (KN.out.up hbx3)
       refine hK.out _ _ ?_ (fun hHeld => ?_)
       ·
        exact ⟨HM.out, HD.out, HY.out, HA.out⟩
       clear hK K
       try simp only [Act.put, pu]
       refine wpAnyH_ready (rs := [7]) (by kernel_rfl) (by simp) ?_
       refine AllReadyH.cons rfl (fun K hK => ?_) AllReadyH.nil
       go_simp
       go_at_call 16
       refine (to_Act ak an ap aa wx3).mono ?_
       rintro e wx4 ⟨rfl, hbx4⟩
       have hzhbx4 := hbx4.size
       replace HM := bk HM hbx4
       replace HD := bk HD hbx4
       replace HY := bk HY hbx4
       replace HA := bk HA hbx4
       replace HT := bk HT hbx4
       replace hbW := bl_trans hbW hbx4
       replace hB := bl_trans hB hbx4
       replace HR := Lib.hid (HR.out.up hbx4)
       replace HN := Lib.hid (HN.out.up hbx4)
       replace HX := Lib.hid (HX.out.up hbx4)
       replace KM := Lib.hid (KM.out.up hbx4)
       replace KN := Lib.hid (KN.out.up hbx4)
       replace KX := Lib.hid (KX.out.up hbx4)
       refine hK.out _ _ ?_ (fun hHeld => ?_)
       ·
        exact ⟨HM.out, HD.out, HY.out, HA.out⟩
       clear hK K
       try simp only [Act.put, pu]
       refine wpAnyH_ready (rs := [8]) (by kernel_rfl) (by simp) ?_
       refine AllReadyH.cons rfl (fun K hK => ?_) AllReadyH.nil
       go_simp
       go_at_call 29
       obtain ⟨wc, hwc⟩ : ∃ z, z = wx4.heap.size := ⟨_, rfl⟩
       have hC := spec_DoAsync _ _ _ _ m _ _ _ n _ _ _ _ _ x ak an ap aa wx4 KM.out KN.out KX.out hes1
       rw [HV.out] at hC
       (try unfold machV at hC)
       refine hC.mono ?_
       clear hC
       rintro e wx5 ⟨v0, v1, v2, v3, v4, rfl, hbx5, hres⟩
       obtain ⟨val, e0, e1, e2, e3, e4, hk⟩ := hres.asy
       rw [HYY.out] at hk
       clear hres
       obtain ⟨SA10, Sm10, Sc10, SA11, Sm11, Sc11, SA12, Sm12, Sc12, SA8, Sm8, Sc8, SA9, Sm9, Sc9, rfl, rfl, rfl, rfl, rfl⟩ := heads5 hk e0 e1 e2 e3 e4
       have HEV := Lib.hid (And.intro e0 (And.intro e1 (And.intro e2 (And.intro e3 e4))))
       clear e0 e1 e2 e3 e4
       have hrg : ∀ j, keyOf yy j → ∀ q, (val j).ownBlock = some q → wc ≤ q ∧ q < wx5.heap.size := fun j hj q hq => by rw [hwc]; exact (hk.own j hj).lt q hq
       have HKR := Lib.hid (show AsyK wx5 wc val yy by rw [hwc]; exact hk)
       clear hk
       have hzhbx5 := hbx5.size
       replace HM := bk HM hbx5
       replace HD := bk HD hbx5
       replace HY := bk HY hbx5
       replace HA := bk HA hbx5
       replace HT := bk HT hbx5
       replace hbW := bl_trans hbW hbx5
       replace hB := bl_trans hB hbx5
       replace HR := Lib.hid (HR.out.up hbx5)
       replace HN := Lib.hid (HN.out.up hbx5)
       replace HX := Lib.hid (HX.out.up hbx5)
       replace KM := Lib.hid (KM.out.up hbx5)
       replace KN := Lib.hid (KN.out.up hbx5)
       replace KX := Lib.hid (KX.out.up hbx5)
       refine hK.out _ _ ?_ (fun hHeld => ?_)
       ·
        exact ⟨HM.out, HD.out, HY.out, HA.out⟩
       clear hK K
       try simp only [Act.put, pu]
       refine stk 9 37 ?_
       refine stk 10 47 ?_
       refine stk 11 48 ?_
       refine wpAnyH_ready (rs := [13]) (by kernel_rfl) (by simp) ?_
       refine AllReadyH.cons rfl (fun K hK => ?_) AllReadyH.nil
       obtain ⟨⟨t0, t1, t2⟩, ⟨t3, t4⟩, tf⟩ := cells5 HT
       go_simp
       obtain ⟨we, hwe, HE, hge⟩ := set5 HT (.slice SA10 Sm10 Sc10) (.slice SA11 Sm11 Sc11) (.slice SA12 Sm12 Sc12) (.slice SA8 Sm8 Sc8) (.slice SA9 Sm9 Sc9)
       rw [← hwe]
       clear hwe t0 t1 t2 t3 t4 tf
       replace HM := Lib.hid ((hge.block w.heap.size (by omega) (fun h => by have e := Option.some.inj h; omega)).trans HM.out)
       replace HD := Lib.hid ((hge.block P1 (by omega) (fun h => by have e := Option.some.inj h; omega)).trans HD.out)
       replace HY := Lib.hid ((hge.block P2 (by omega) (fun h => by have e := Option.some.inj h; omega)).trans HY.out)
       replace HA := Lib.hid ((hge.block P3 (by omega) (fun h => by have e := Option.some.inj h; omega)).trans HA.out)
       refine hK.out _ _ ?_ (fun hHeld => ?_)
       ·
        exact ⟨HM.out, HD.out, HY.out, HA.out⟩
       clear hK K
       try simp only [Act.put, pu]
       refine stk 14 11 ?_
       refine wpAnyH_done (by kernel_rfl) ?_ _
       exact FIN.out we PX _ _ _ _ _ _ _ _ _ _ _ _ _ _ _ _ _ _ (grown_at hbW hge (by omega)) (by omega) (BoxR.leaf HEV.out HKR.out hge hrg (by omega) (by omega) HE)
     ·
      go_simp
      obtain ⟨PX, wA, hPX, hwA, hbA, HT, hPc⟩ := box_at wx1 nilV nilV nilV nilV nilV 50
      unfold nilV at hwA HT
      rw [hPX, ← hwA]
      clear hwA
      have hzhbA := hbA.size
      replace HM := bk HM hbA
      replace HD := bk HD hbA
      replace HY := bk HY hbA
      replace HA := bk HA hbA
      replace hbW := bl_trans hbW hbA
      replace hB := bl_trans hB hbA
      replace HR := Lib.hid (HR.out.up hbA)
      replace HN := Lib.hid (HN.out.up hbA)
      replace HX := Lib.hid (HX.out.up hbA)
      replace KM := Lib.hid (KM.out.up hbA)
      refine hK.out _ _ ?_ (fun hHeld => ?_)
      ·
       exact ⟨HM.out, HD.out, HY.out, HA.out⟩
      clear hK K
      try simp only [Act.put, pu]
      refine wpAnyH_ready (rs := [3]) (by kernel_rfl) (by simp) ?_
      refine AllReadyH.cons rfl (fun K hK => ?_) AllReadyH.nil
      go_simp
      go_at_call 14
      refine (to_Net _ _ _ n wA HN.out hs2).mono ?_
      rintro e wx2 ⟨z0, z1, z2, rfl, hq, hbx2⟩
      obtain ⟨⟨BA4, Bm4, Bc4, rfl⟩, ⟨BA5, Bm5, Bc5, rfl⟩, BA6, Bm6, Bc6, rfl⟩ := hq.slices
      have KN := Lib.hid hq
      clear hq
      have hzhbx2 := hbx2.size
      replace HM := bk HM hbx2
      replace HD := bk HD hbx2
      replace HY := bk HY hbx2
      replace HA := bk HA hbx2
      replace HT := bk HT hbx2
      replace hbW := bl_trans hbW hbx2
      replace hB := bl_trans hB hbx2
      replace HR := Lib.hid (HR.out.up hbx2)
      replace HN := Lib.hid (HN.out.up hbx2)
      replace HX := Lib.hid (HX.out.up hbx2)
      replace KM := Lib.hid (KM.out.up hbx2)
      refine hK.out _ _ ?_ (fun hHeld => ?_)
      ·
       exact ⟨HM.out, HD.out, HY.out, HA.out⟩
      clear hK K
      try simp only [Act.put, pu]
      refine wpAnyH_ready (rs := [5]) (by kernel_rfl) (by simp) ?_
      refine AllReadyH.cons rfl (fun K hK => ?_) AllReadyH.nil
      go_simp
      go_at_call 15
      refine (to_Asy _ _ _ _ _ x wx2 HX.out hs3).mono ?_
      rintro e wx3 ⟨z0, z1, z2, z3, z4, rfl, hq, hbx3⟩
      obtain ⟨⟨BA10, Bm10, Bc10, rfl⟩, ⟨BA11, Bm11, Bc11, rfl⟩, ⟨BA12, Bm12, Bc12, rfl⟩, ⟨BA8, Bm8, Bc8, rfl⟩, BA9, Bm9, Bc9, rfl⟩ := hq.slices
      have KX := Lib.hid hq
      clear hq
      have hzhbx3 := hbx3.size
      replace HM := bk HM hbx3
      replace HD := bk HD hbx3
      replace HY := bk HY hbx3
      replace HA := bk HA hbx3
      replace HT := bk HT hbx3
      replace hbW := bl_trans hbW hbx3
      replace hB := bl_trans hB hbx3
      replace HR := Lib.hid (HR.out.up hbx3)
      replace HN := Lib.hid (HN.out.up hbx3)
      replace HX := Lib.hid (HX.out.up hbx3)
      replace KM := Lib.hid (KM.out.up hbx3)
      replace KN := Lib.hid (KN.out.up hbx3)
      refine hK.out _ _ ?_ (fun hHeld => ?_)
      ·
       exact ⟨HM.out, HD.out, HY.out, HA.out⟩
      clear hK K
      try simp only [Act.put, pu]
      refine wpAnyH_ready (rs := [7]) (by kernel_rfl) (by simp) ?_
      refine AllReadyH.cons rfl (fun K hK => ?_) AllReadyH.nil
      go_simp
      go_at_call 16
      refine (to_Act ak an ap aa wx3).mono ?_
      rintro e wx4 ⟨rfl, hbx4⟩
      have hzhbx4 := hbx4.size
      replace HM := bk HM hbx4
      replace HD := bk HD hbx4
      replace HY := bk HY hbx4
      replace HA := bk HA hbx4
      replace HT := bk HT hbx4
      replace hbW := bl_trans hbW hbx4
      replace hB := bl_trans hB hbx4
      replace HR := Lib.hid (HR.out.up hbx4)
      replace HN := Lib.hid (HN.out.up hbx4)
      replace HX := Lib.hid (HX.out.up hbx4)
      replace KM := Lib.hid (KM.out.up hbx4)
      replace KN := Lib.hid (KN.out.up hbx4)
      replace KX := Lib.hid (KX.out.up hbx4)
      refine hK.out _ _ ?_ (fun hHeld => ?_)
      ·
       exact ⟨HM.out, HD.out, HY.out, HA.out⟩
      clear hK K
      try simp only [Act.put, pu]
      refine wpAnyH_ready (rs := [8]) (by kernel_rfl) (by simp) ?_
      refine AllReadyH.cons rfl (fun K hK => ?_) AllReadyH.nil
      go_simp
      go_at_call 29
      obtain ⟨wc, hwc⟩ : ∃ z, z = wx4.heap.size := ⟨_, rfl⟩
      have hC := spec_DoAsync _ _ _ _ m _ _ _ n _ _ _ _ _ x ak an ap aa wx4 KM.out KN.out KX.out hes1
      rw [HV.out] at hC
      (try unfold machV at hC)
      refine hC.mono ?_
      clear hC
      rintro e wx5 ⟨v0, v1, v2, v3, v4, rfl, hbx5, hres⟩
      obtain ⟨val, e0, e1, e2, e3, e4, hk⟩ := hres.asy
      rw [HYY.out] at hk
      clear hres
      obtain ⟨SA10, Sm10, Sc10, SA11, Sm11, Sc11, SA12, Sm12, Sc12, SA8, Sm8, Sc8, SA9, Sm9, Sc9, rfl, rfl, rfl, rfl, rfl⟩ := heads5 hk e0 e1 e2 e3 e4
      have HEV := Lib.hid (And.intro e0 (And.intro e1 (And.intro e2 (And.intro e3 e4))))
      clear e0 e1 e2 e3 e4
      have hrg : ∀ j, keyOf yy j → ∀ q, (val j).ownBlock = some q → wc ≤ q ∧ q < wx5.heap.size := fun j hj q hq => by rw [hwc]; exact (hk.own j hj).lt q hq
      have HKR := Lib.hid (show AsyK wx5 wc val yy by rw [hwc]; exact hk)
      clear hk
      have hzhbx5 := hbx5.size
      replace HM := bk HM hbx5
      replace HD := bk HD hbx5
      replace HY := bk HY hbx5
      replace HA := bk HA hbx5
      replace HT := bk HT hbx5
      replace hbW := bl_trans hbW hbx5
      replace hB := bl_trans hB hbx5
      replace HR := Lib.hid (HR.out.up hbx5)
      replace HN := Lib.hid (HN.out.up hbx5)
      replace HX := Lib.hid (HX.out.up hbx5)
      replace KM := Lib.hid (KM.out.up hbx5)
      replace KN := Lib.hid (KN.out.up hbx5)
      replace KX := Lib.hid (KX.out.up hbx5)
      refine hK.out _ _ ?_ (fun hHeld => ?_)
      ·
       exact ⟨HM.out, HD.out, HY.out, HA.out⟩
      clear hK K
      try simp only [Act.put, pu]
      refine stk 9 37 ?_
      refine stk 10 47 ?_
      refine stk 11 48 ?_
      refine wpAnyH_ready (rs := [13]) (by kernel_rfl) (by simp) ?_
      refine AllReadyH.cons rfl (fun K hK => ?_) AllReadyH.nil
      obtain ⟨⟨t0, t1, t2⟩, ⟨t3, t4⟩, tf⟩ := cells5 HT
      go_simp
      obtain ⟨we, hwe, HE, hge⟩ := set5 HT (.slice SA10 Sm10 Sc10) (.slice SA11 Sm11 Sc11) (.slice SA12 Sm12 Sc12) (.slice SA8 Sm8 Sc8) (.slice SA9 Sm9 Sc9)
      rw [← hwe]
      clear hwe t0 t1 t2 t3 t4 tf
      replace HM := Lib.hid ((hge.block w.heap.size (by omega) (fun h => by have e := Option.some.inj h; omega)).trans HM.out)
      replace HD := Lib.hid ((hge.block P1 (by omega) (fun h => by have e := Option.some.inj h; omega)).trans HD.out)
      replace HY := Lib.hid ((hge.block P2 (by omega) (fun h => by have e := Option.some.inj h; omega)).trans HY.out)
      replace HA := Lib.hid ((hge.block P3 (by omega) (fun h => by have e := Option.some.inj h; omega)).trans HA.out)
      refine hK.out _ _ ?_ (fun hHeld => ?_)
      ·
       exact ⟨HM.out, HD.out, HY.out, HA.out⟩
      clear hK K
      try simp only [Act.put, pu]
      refine stk 14 11 ?_
      refine wpAnyH_done (by kernel_rfl) ?_ _
      exact FIN.out we PX _ _ _ _ _ _ _ _ _ _ _ _ _ _ _ _ _ _ (grown_at hbW hge (by omega)) (by omega) (BoxR.leaf HEV.out HKR.out hge hrg (by omega) (by omega) HE)
    ·
     go_simp
     obtain ⟨PX, wA, hPX, hwA, hbA, HT, hPc⟩ := box_at wr nilV nilV nilV nilV nilV 50
     unfold nilV at hwA HT
     rw [hPX, ← hwA]
     clear hwA
     have hzhbA := hbA.size
     replace HM := bk HM hbA
     replace HD := bk HD hbA
     replace HY := bk HY hbA
     replace HA := bk HA hbA
     replace hbW := bl_trans hbW hbA
     replace hB := bl_trans hB hbA
     replace HR := Lib.hid (HR.out.up hbA)
     replace HN := Lib.hid (HN.out.up hbA)
     replace HX := Lib.hid (HX.out.up hbA)
     refine hK.out _ _ ?_ (fun hHeld => ?_)
     ·
      exact ⟨HM.out, HD.out, HY.out, HA.out⟩
     clear hK K
     try simp only [Act.put, pu]
     refine wpAnyH_ready (rs := [1]) (by kernel_rfl) (by simp) ?_
     refine AllReadyH.cons rfl (fun K hK => ?_) AllReadyH.nil
     go_simp
     go_at_call 13
     refine (to_Mach _ _ _ _ m wA HR.out hs1).mono ?_
     rintro e wx1 ⟨z0, z1, z2, z3, rfl, hq, hbx1⟩
     obtain ⟨⟨BA0, Bm0, Bc0, rfl⟩, ⟨BA1, Bm1, Bc1, rfl⟩, ⟨BA2, Bm2, Bc2, rfl⟩, BA3, Bm3, Bc3, rfl⟩ := hq.slices
     have KM := Lib.hid hq
     clear hq
     have hzhbx1 := hbx1.size
     replace HM := bk HM hbx1
     replace HD := bk HD hbx1
     replace HY := bk HY hbx1
     replace HA := bk HA hbx1
     replace HT := bk HT hbx1
     replace hbW := bl_trans hbW hbx1
     replace hB := bl_trans hB hbx1
     replace HR := Lib.hid (HR.out.up hbx1)
     replace HN := Lib.hid (HN.out.up hbx1)
     replace HX := Lib.hid (HX.out.up hbx1)
     refine hK.out _ _ ?_ (fun hHeld => ?_)
     ·
      exact ⟨HM.out, HD.out, HY.out, HA.out⟩
     clear hK K
     try simp only [Act.put, pu]
     refine wpAnyH_ready (rs := [3]) (by kernel_rfl) (by simp) ?_
     refine AllReadyH.cons rfl (fun K hK => ?_) AllReadyH.nil
     go_simp
     go_at_call 14
     refine (to_Net _ _ _ n wx1 HN.out hs2).mono ?_
     rintro e wx2 ⟨z0, z1, z2, rfl, hq, hbx2⟩
     obtain ⟨⟨BA4, Bm4, Bc4, rfl⟩, ⟨BA5, Bm5, Bc5, rfl⟩, BA6, Bm6, Bc6, rfl⟩ := hq.slices
     have KN := Lib.hid hq
     clear hq
     have hzhbx2 := hbx2.size
     replace HM := bk HM hbx2
     replace HD := bk HD hbx2
     replace HY := bk HY hbx2
     replace HA := bk HA hbx2
     replace HT := bk HT hbx2
     replace hbW := bl_trans hbW hbx2
     replace hB := bl_trans hB hbx2
     replace HR := Lib.hid (HR.out.up hbx2)
     replace HN := Lib.hid (HN.out.up hbx2)
     replace HX := Lib.hid (HX.out.up hbx2)
     replace KM := Lib.hid (KM.out.up hbx2)
     refine hK.out _ _ ?_ (fun hHeld => ?_)
     ·
      exact ⟨HM.out, HD.out, HY.out, HA.out⟩
     clear hK K
     try simp only [Act.put, pu]
     refine wpAnyH_ready (rs := [5]) (by kernel_rfl) (by simp) ?_
     refine AllReadyH.cons rfl (fun K hK => ?_) AllReadyH.nil
     go_simp
     go_at_call 15
     refine (to_Asy _ _ _ _ _ x wx2 HX.out hs3).mono ?_
     rintro e wx3 ⟨z0, z1, z2, z3, z4, rfl, hq, hbx3⟩
     obtain ⟨⟨BA10, Bm10, Bc10, rfl⟩, ⟨BA11, Bm11, Bc11, rfl⟩, ⟨BA12, Bm12, Bc12, rfl⟩, ⟨BA8, Bm8, Bc8, rfl⟩, BA9, Bm9, Bc9, rfl⟩ := hq.slices
     have KX := Lib.hid hq
     clear hq
     have hzhbx3 := hbx3.size
     replace HM := bk HM hbx3
     replace HD := bk HD hbx3
     replace HY := bk HY hbx3
     replace HA := bk HA hbx3
     replace HT := bk HT hbx3
     replace hbW := bl_trans hbW hbx3
     replace hB := bl_trans hB hbx3
     replace HR := Lib.hid (HR.out.up hbx3)
     replace HN := Lib.hid (HN.out.up hbx3)
     replace HX := Lib.hid (HX.out.up hbx3)
     replace KM := Lib.hid (KM.out.up hbx3)
     replace KN := Lib.hid (KN.out.up hbx3)
     refine hK.out _ _ ?_ (fun hHeld => ?_)
     ·
      exact ⟨HM.out, HD.out, HY.out, HA.out⟩
     clear hK K
     try simp only [Act.put, pu]
     refine wpAnyH_ready (rs := [7]) (by kernel_rfl) (by simp) ?_
     refine AllReadyH.cons rfl (fun K hK => ?_) AllReadyH.nil
     go_simp
     go_at_call 16
     refine (to_Act ak an ap aa wx3).mono ?_
     rintro e wx4 ⟨rfl, hbx4⟩
     have hzhbx4 := hbx4.size
     replace HM := bk HM hbx4
     replace HD := bk HD hbx4
     replace HY := bk HY hbx4
     replace HA := bk HA hbx4
     replace HT := bk HT hbx4
     replace hbW := bl_trans hbW hbx4
     replace hB := bl_trans hB hbx4
     replace HR := Lib.hid (HR.out.up hbx4)
     replace HN := Lib.hid (HN.out.up hbx4)
     replace HX := Lib.hid (HX.out.up hbx4)
     replace KM := Lib.hid (KM.out.up hbx4)
     replace KN := Lib.hid (KN.out.up hbx4)
     replace KX := Lib.hid (KX.out.up hbx4)
     refine hK.out _ _ ?_ (fun hHeld => ?_)
     ·
      exact ⟨HM.out, HD.out, HY.out, HA.out⟩
     clear hK K
     try simp only [Act.put, pu]
     refine wpAnyH_ready (rs := [8]) (by kernel_rfl) (by simp) ?_
     refine AllReadyH.cons rfl (fun K hK => ?_) AllReadyH.nil
     go_simp
     go_at_call 29
     obtain ⟨wc, hwc⟩ : ∃ z, z = wx4.heap.size := ⟨_, rfl⟩
     have hC := spec_DoAsync _ _ _ _ m _ _ _ n _ _ _ _ _ x ak an ap aa wx4 KM.out KN.out KX.out hes1
     rw [HV.out] at hC
     (try unfold machV at hC)
     refine hC.mono ?_
     clear hC
     rintro e wx5 ⟨v0, v1, v2, v3, v4, rfl, hbx5, hres⟩
     obtain ⟨val, e0, e1, e2, e3, e4, hk⟩ := hres.asy
     rw [HYY.out] at hk
     clear hres
     obtain ⟨SA10, Sm10, Sc10, SA11, Sm11, Sc11, SA12, Sm12, Sc12, SA8, Sm8, Sc8, SA9, Sm9, Sc9, rfl, rfl, rfl, rfl, rfl⟩ := heads5 hk e0 e1 e2 e3 e4
     have HEV := Lib.hid (And.intro e0 (And.intro e1 (And.intro e2 (And.intro e3 e4))))
     clear e0 e1 e2 e3 e4
     have hrg : ∀ j, keyOf yy j → ∀ q, (val j).ownBlock = some q → wc ≤ q ∧ q < wx5.heap.size := fun j hj q hq => by rw [hwc]; exact (hk.own j hj).lt q hq
     have HKR := Lib.hid (show AsyK wx5 wc val yy by rw [hwc]; exact hk)
     clear hk
     have hzhbx5 := hbx5.size
     replace HM := bk HM hbx5
     replace HD := bk HD hbx5
     replace HY := bk HY hbx5
     replace HA := bk HA hbx5
     replace HT := bk HT hbx5
     replace hbW := bl_trans hbW hbx5
     replace hB := bl_trans hB hbx5
     replace HR := Lib.hid (HR.out.up hbx5)
     replace HN := Lib.hid (HN.out.up hbx5)
     replace HX := Lib.hid (HX.out.up hbx5)
     replace KM := Lib.hid (KM.out.up hbx5)
     replace KN := Lib.hid (KN.out.up hbx5)
     replace KX := Lib.hid (KX.out.up hbx5)
     refine hK.out _ _ ?_ (fun hHeld => ?_)
     ·
      exact ⟨HM.out, HD.out, HY.out, HA.out⟩
     clear hK K
     try simp only [Act.put, pu]
     refine stk 9 37 ?_
     refine stk 10 47 ?_
     refine stk 11 48 ?_
     refine wpAnyH_ready (rs := [13]) (by kernel_rfl) (by simp) ?_
     refine AllReadyH.cons rfl (fun K hK => ?_) AllReadyH.nil
     obtain ⟨⟨t0, t1, t2⟩, ⟨t3, t4⟩, tf⟩ := cells5 HT
     go_simp
     obtain ⟨we, hwe, HE, hge⟩ := set5 HT (.slice SA10 Sm10 Sc10) (.slice SA11 Sm11 Sc11) (.slice SA12 Sm12 Sc12) (.slice SA8 Sm8 Sc8) (.slice SA9 Sm9 Sc9)
     rw [← hwe]
     clear hwe t0 t1 t2 t3 t4 tf
     replace HM := Lib.hid ((hge.block w.heap.size (by omega) (fun h => by have e := Option.some.inj h; omega)).trans HM.out)
     replace HD := Lib.hid ((hge.block P1 (by omega) (fun h => by have e := Option.some.inj h; omega)).trans HD.out)
     replace HY := Lib.hid ((hge.block P2 (by omega) (fun h => by have e := Option.some.inj h; omega)).trans HY.out)
     replace HA := Lib.hid ((hge.block P3 (by omega) (fun h => by have e := Option.some.inj h; omega)).trans HA.out)
     refine hK.out _ _ ?_ (fun hHeld => ?_)
     ·
      exact ⟨HM.out, HD.out, HY.out, HA.out⟩
     clear hK K
     try simp only [Act.put, pu]
     refine stk 14 11 ?_
     refine wpAnyH_done (by kernel_rfl) ?_ _
     exact FIN.out we PX _ _ _ _ _ _ _ _ _ _ _ _ _ _ _ _ _ _ (grown_at hbW hge (by omega)) (by omega) (BoxR.leaf HEV.out HKR.out hge hrg (by omega) (by omega) HE)
   ·
    have hz : szR left2 (szAsy x) < 0 := by unfold szR; rw [if_neg hs3]; omega
    generalize szR left2 (szAsy x) = left at *
    go_wp2_with fail
    go_ret
    exact ⟨rfl, hB⟩
  ·
   have hz : szR left1 (szNet n) < 0 := by unfold szR; rw [if_neg hs2]; omega
   generalize szR left1 (szNet n) = left at *
   go_wp2_with fail
   go_ret
   exact ⟨rfl, hB⟩
 ·
  have hz : szR 1048576 (szMach m) < 0 := by unfold szR; rw [if_neg hs1]; omega
  generalize szR 1048576 (szMach m) = left at *
  go_wp2_with fail
  go_ret
  exact ⟨rfl, hB⟩
end Go.Proofs.YtcpbbjocaimocaaGreat.fnExactDoAsync
