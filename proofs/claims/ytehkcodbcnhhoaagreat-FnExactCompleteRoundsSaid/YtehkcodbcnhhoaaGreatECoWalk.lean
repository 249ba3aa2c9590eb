/-
  The walk of the law FnExactCompleteRounds.
-/
import Derived.Test.YtehkcodbcnhhoaaGreatERounds
import Derived.Test.YtehkcodbcnhhoaaGreatEOpenA
import Derived.Test.YtehkcodbcnhhoaaGreatEOpenNet
import Derived.ShutString
import Derived.Lib.SmallJoins
namespace Go.Proofs.YtehkcodbcnhhoaaGreat.fnExactCompleteRounds
open Go.ChangeShapes Go.WideShapes Go.ChangeAt Go.RowKit Go.Joins
set_option linter.all false
theorem reads_at {w : World} {base P : Nat} {val : Key → Value} {y : Asy} {v0 v1 v2 v3 v4 : Value} (h : AsyB w base val y P) (hi : I64A y) (he : v0 = val .r ∧ v1 = val .b ∧ v2 = val .n ∧ v3 = val .s ∧ v4 = val .f) : AsyR w w.heap.size v0 v1 v2 v3 v4 y := by
  obtain ⟨e0, e1, e2, e3, e4⟩ := he
  rw [e0, e1, e2, e3, e4]
  exact AsyK.reads h.k hi
theorem heads5 {w : World} {base : Nat} {val : Key → Value} {y : Asy} {v0 v1 v2 v3 v4 : Value} (hk : AsyK w base val y) (e0 : v0 = val .r) (e1 : v1 = val .b) (e2 : v2 = val .n) (e3 : v3 = val .s) (e4 : v4 = val .f) :
    ∃ A0 m0 c0 A1 m1 c1 A2 m2 c2 A3 m3 c3 A4 m4 c4, v0 = .slice A0 m0 c0 ∧ v1 = .slice A1 m1 c1 ∧ v2 = .slice A2 m2 c2 ∧ v3 = .slice A3 m3 c3 ∧ v4 = .slice A4 m4 c4 := by
  obtain ⟨A0, c0, h0⟩ := own_sl1 (hk.own .r trivial)
  obtain ⟨A1, c1, h1⟩ := own_sl1 (hk.own .b trivial)
  obtain ⟨A2, c2, h2⟩ := own_sl1 (hk.own .n trivial)
  obtain ⟨A3, c3, h3⟩ := own_sl1 (hk.own .s trivial)
  obtain ⟨A4, c4, h4⟩ := own_sl1 (hk.own .f trivial)
  exact ⟨_, _, _, _, _, _, _, _, _, _, _, _, _, _, _, e0.trans h0, e1.trans h1, e2.trans h2, e3.trans h3, e4.trans h4⟩
theorem grown_at {a b c : World} {P base : Nat} (h : Below base a b) (hg : b.grownBy c (some P)) (hP : base ≤ P ∧ base ≤ b.heap.size) : Below base a c := Below.grown h hg hP.2 (fun k hk => by have e := Option.some.inj hk; omega)
theorem BoxR.leaf {val : Key → Value} {W we : World} {base wc PX hi : Nat} {v0 v1 v2 v3 v4 : Value} {y : Asy} (he : v0 = val .r ∧ v1 = val .b ∧ v2 = val .n ∧ v3 = val .s ∧ v4 = val .f) (hk : AsyK W wc val y) (hge : W.grownBy we (some PX))
    (hrg : ∀ j, keyOf y j → ∀ q, (val j).ownBlock = some q → wc ≤ q ∧ q < hi) (hP : PX < wc ∨ hi ≤ PX) (hb : base ≤ wc) (HE : Hid (we.heap[PX]? = some (.cells #[v0, v1, v2, v3, v4] 34 (0, 0)))) : BoxR we base PX v0 v1 v2 v3 v4 y := by
  have hne : ∀ j, keyOf y j → (val j).ownBlock ≠ some PX := fun j hj h => by have := hrg j hj PX h; omega
  exact BoxR.of he.1 he.2.1 he.2.2.1 he.2.2.2.1 he.2.2.2.2 (OwnK.apart hk hge hne) hb hne HE.out
theorem rd_i64 {m : Mach} {n : Net} {r : Int} : I64A (rdX m n r) ∧ SmallA (rdX m n r) := by
  unfold rdX
  cases h : rdB m n r with
  | false => exact ⟨⟨fun _ hx => absurd hx List.not_mem_nil, fun _ hx => absurd hx List.not_mem_nil, fun _ hx => absurd hx List.not_mem_nil, fun _ hx => absurd hx List.not_mem_nil, fun _ hx => absurd hx List.not_mem_nil⟩, ⟨by simp [emA], by simp [emA], by simp [emA], by simp [emA], by simp [emA], fun _ hx => absurd hx List.not_mem_nil, fun _ hx => absurd hx List.not_mem_nil, fun _ hx => absurd hx List.not_mem_nil⟩⟩
  | true =>
    unfold rdB at h
    rw [Bool.and_eq_true] at h
    have hg := good_rounds (propB_iff.1 h.1) r.toNat
    exact ⟨I64A.good hg, small_of hg.1.2.1 hg.2⟩
theorem box_at (W : World) (a b c d e : Value) (t : TypeId) : ∃ P w0, W.heap.size = P ∧ w0 = W.alloc (.cells #[a, b, c, d, e] t) ∧ Below W.heap.size W w0 ∧ Hid (w0.heap[P]? = some (.cells #[a, b, c, d, e] t (0, 0))) ∧ P < w0.heap.size := by
  obtain ⟨w0, h1, h2, h3, h4, -⟩ := box5 W a b c d e t
  exact ⟨_, w0, rfl, h1, h2, h3, h4⟩
set_option maxRecDepth 100000 in
set_option maxHeartbeats 8000000 in
theorem law_walk (vs ve vc vo : Value) (m : Mach) (ne ni nn : Value) (n : Net) (r : Int) (w : World) (hm : MachR w w.heap.size vs ve vc vo m) (hn : NetR w w.heap.size ne ni nn n) :
  Calls Tryz.prog 3 #[.agg #[.int .i64 m.deg, .int .i64 m.st, .int .i64 m.msg, vs, ve, vc, vo], .agg #[ne, ni, nn], .int .i64 r] w fun e w' => e = .returned (.bool true) ∧ Below w.heap.size w w' := by
 obtain ⟨⟨A0, m0, c0, rfl⟩, ⟨A1, m1, c1, rfl⟩, ⟨A2, m2, c2, rfl⟩, A3, m3, c3, rfl⟩ := hm.slices
 obtain ⟨⟨A4, m4, c4, rfl⟩, ⟨A5, m5, c5, rfl⟩, A6, m6, c6, rfl⟩ := hn.slices
 obtain ⟨w0, hw0, hb0, HM, hz0, HS0⟩ := box7 w (.int .i64 m.deg) (.int .i64 m.st) (.int .i64 m.msg) (.slice A0 m0 c0) (.slice A1 m1 c1) (.slice A2 m2 c2) (.slice A3 m3 c3) 26
 obtain ⟨w1, hw1, hb1, HD, hz1, HS1⟩ := box3 w0 (.slice A4 m4 c4) (.slice A5 m5 c5) (.slice A6 m6 c6) 29
 replace HM := bk HM hb1
 have hB : Below w.heap.size w w1 := bl_trans (hb0) hb1
 have HW := Lib.hid (show w1 = (w.alloc (.cells #[.int .i64 m.deg, .int .i64 m.st, .int .i64 m.msg, .slice A0 m0 c0, .slice A1 m1 c1, .slice A2 m2 c2, .slice A3 m3 c3] 26)).alloc (.cells #[.slice A4 m4 c4, .slice A5 m5 c5, .slice A6 m6 c6] 29) by rw [hw1, hw0])
 obtain ⟨P1, hP1⟩ : ∃ z, z = w0.heap.size := ⟨_, rfl⟩
 have HP1 := Lib.hid (show w.heap.size + 1 = P1 by rw [hP1, HS0.out])
 have hPl1 : w.heap.size < P1 := by rw [← HP1.out]; omega
 rw [← hP1] at HD hz1
 obtain ⟨⟨g0, g1, g2⟩, ⟨g3, g4, g5, g6⟩, gf⟩ := cells7 HM
 obtain ⟨q0, q1, q2, qf⟩ := cells3 HD
 have eg0 := g0
 have eg1 := g1
 have eg2 := g2
 have eg3 := g3
 have eg4 := g4
 have eg5 := g5
 have eg6 := g6
 have eq0 := q0
 have eq1 := q1
 have eq2 := q2
 rw [HW.out] at eg0 eg1 eg2 eg3 eg4 eg5 eg6 eq0 eq1 eq2
 rw [← HP1.out] at eq0 eq1 eq2
 have hzb0 : w.heap.size < w1.heap.size := by omega
 have hzb1 : P1 < w1.heap.size := by omega
 have HR := Lib.hid (hm.up hB)
 have HN := Lib.hid (hn.up hB)
 clear hw1 hw0 hP1
 obtain ⟨V, hV⟩ : ∃ z, z = rdB m n r := ⟨_, rfl⟩
 obtain ⟨yy, hyy⟩ : ∃ z, z = rdX m n r := ⟨_, rfl⟩
 have HIS := Lib.hid (show I64A yy ∧ SmallA yy by rw [hyy]; exact rd_i64)
 have HV := Lib.hid hV.symm
 have HYY := Lib.hid hyy.symm
 clear hV hyy
 obtain ⟨T, hT⟩ : ∃ z, z = total (szA yy) (ordA yy) := ⟨_, rfl⟩
 have hT2 : T ≤ 20000 := by rw [hT]; exact total_small HIS.out.2
 have HTT := Lib.hid hT.symm
 clear hT
 have HR0 := Lib.hid hm
 have HN0 := Lib.hid hn
 clear hm hn
 go_enter Tryz.func3, Tryz.ntmps3
 go_wp2_with fail
 rw [HP1.out, ← HW.out]
 clear eg0 eg1 eg2 eg3 eg4 eg5 eg6 eq0 eq1 eq2
 refine (sz_Mach _ _ _ _ m 1048576 w1 HR.out (by omega) (by omega)).mono ?_
 rintro e w5 ⟨rfl, hb5⟩
 have hzhb5 := hb5.size
 clear g0 g1 g2 g3 g4 g5 g6 q0 q1 q2 gf qf
 replace HM := bk HM hb5
 replace HD := bk HD hb5
 replace hB := bl_trans hB hb5
 obtain ⟨⟨g0, g1, g2⟩, ⟨g3, g4, g5, g6⟩, gf⟩ := cells7 HM
 obtain ⟨q0, q1, q2, qf⟩ := cells3 HD
 replace HR := Lib.hid (HR.out.up hb5)
 replace HN := Lib.hid (HN.out.up hb5)
 by_cases hs1 : (szMach m : Int) ≤ 1048576
 ·
  have hl1 : 0 ≤ szR 1048576 (szMach m) ∧ szR 1048576 (szMach m) ≤ 1048576 := by unfold szR; rw [if_pos hs1]; omega
  obtain ⟨left1, hleft1⟩ : ∃ z, z = szR 1048576 (szMach m) := ⟨_, rfl⟩
  rw [← hleft1] at hl1 ⊢
  clear hleft1
  go_wp2_with fail
  refine (sz_Net _ _ _ n left1 w5 HN.out (by omega) (by omega)).mono ?_
  rintro e w6 ⟨rfl, hb6⟩
  have hzhb6 := hb6.size
  clear g0 g1 g2 g3 g4 g5 g6 q0 q1 q2 gf qf
  replace HM := bk HM hb6
  replace HD := bk HD hb6
  replace hB := bl_trans hB hb6
  obtain ⟨⟨g0, g1, g2⟩, ⟨g3, g4, g5, g6⟩, gf⟩ := cells7 HM
  obtain ⟨q0, q1, q2, qf⟩ := cells3 HD
  replace HR := Lib.hid (HR.out.up hb6)
  replace HN := Lib.hid (HN.out.up hb6)
  by_cases hs2 : (szNet n : Int) ≤ left1
  ·
   have hl2 : 0 ≤ szR left1 (szNet n) ∧ szR left1 (szNet n) ≤ 1048576 := by unfold szR; rw [if_pos hs2]; omega
   obtain ⟨left2, hleft2⟩ : ∃ z, z = szR left1 (szNet n) := ⟨_, rfl⟩
   rw [← hleft2] at hl2 ⊢
   clear hleft2
   go_wp2_with fail
   replace hs1 : szMach m ≤ 1048576 := by omega
   replace hs2 : szNet n ≤ 1048576 := by omega
   have hes : n.es.length ≤ 2000000 ∧ n.ids.length ≤ 2000000 := by unfold szNet szEnds at hs2; omega
   obtain ⟨hes1, hes2⟩ := hes
   clear g0 g1 g2 g3 g4 g5 g6 q0 q1 q2 gf qf
   rename_i K hrest
   have FIN0 : ∀ (W : World) (PX : Nat) (b31 b33 : Value) (SA10 : Option Addr) (Sm10 Sc10 : Nat) (SA11 : Option Addr) (Sm11 Sc11 : Nat) (SA12 : Option Addr) (Sm12 Sc12 : Nat) (SA8 : Option Addr) (Sm8 Sc8 : Nat) (SA9 : Option Addr) (Sm9 Sc9 : Nat), Below w6.heap.size w6 W → w6.heap.size ≤ PX → BoxR W w6.heap.size PX (.slice SA10 Sm10 Sc10) (.slice SA11 Sm11 Sc11) (.slice SA12 Sm12 Sc12) (.slice SA8 Sm8 Sc8) (.slice SA9 Sm9 Sc9) yy →
     K ⟨#[.agg #[.int .i64 m.deg, .int .i64 m.st, .int .i64 m.msg, .slice A0 m0 c0, .slice A1 m1 c1, .slice A2 m2 c2, .slice A3 m3 c3], .agg #[.slice A4 m4 c4, .slice A5 m5 c5, .slice A6 m6 c6], .int .i64 r, .pointer (some ⟨w.heap.size, 0, none⟩), .pointer (some ⟨P1, 0, none⟩), undef, .bool false, .int .i64 left2, .pointer (some ⟨PX, 0, none⟩), .bool V, undef, undef, undef, undef, undef, undef, undef, undef, undef, .agg #[.int .i64 m.deg, .int .i64 m.st, .int .i64 m.msg, .slice A0 m0 c0, .slice A1 m1 c1, .slice A2 m2 c2, .slice A3 m3 c3], .int .i64 1048576, .int .i64 left1, .int .i64 left1, .bool (decide (left1 < 0)), .agg #[.slice A4 m4 c4, .slice A5 m5 c5, .slice A6 m6 c6], .int .i64 left1, .int .i64 left2, .int .i64 left2, .bool (decide (left2 < 0)), .tuple #[.agg #[.slice SA10 Sm10 Sc10, .slice SA11 Sm11 Sc11, .slice SA12 Sm12 Sc12, .slice SA8 Sm8 Sc8, .slice SA9 Sm9 Sc9], .bool V], .agg #[.int .i64 m.deg, .int .i64 m.st, .int .i64 m.msg, .slice A0 m0 c0, .slice A1 m1 c1, .slice A2 m2 c2, .slice A3 m3 c3], b31, .agg #[.slice A4 m4 c4, .slice A5 m5 c5, .slice A6 m6 c6], b33, .int .i64 r, .tuple #[.agg #[.slice SA10 Sm10 Sc10, .slice SA11 Sm11 Sc11, .slice SA12 Sm12 Sc12, .slice SA8 Sm8 Sc8, .slice SA9 Sm9 Sc9], .bool V], .agg #[.slice SA10 Sm10 Sc10, .slice SA11 Sm11 Sc11, .slice SA12 Sm12 Sc12, .slice SA8 Sm8 Sc8, .slice SA9 Sm9 Sc9], .bool V, undef, undef, undef, undef, undef, undef, undef, undef, undef, undef, undef, undef, undef, undef, undef, undef, undef, undef, undef, undef, undef, undef, undef, undef, undef, undef, undef, undef, undef, undef, undef, undef, undef, undef, undef, undef, undef, undef, undef, undef, undef, undef, undef, undef, undef, undef, undef, undef, undef, undef, undef, undef, undef, undef, undef, undef, undef, undef, undef, undef, undef, undef, undef, undef, undef, undef, undef, undef, undef, undef, undef, undef, undef, undef, undef, undef, undef, undef, undef, undef, undef, undef, undef, undef, undef, undef], []⟩ W := by
    intro w12 PW b31 b33 SA10 Sm10 Sc10 SA11 Sm11 Sc11 SA12 Sm12 Sc12 SA8 Sm8 Sc8 SA9 Sm9 Sc9 hbw12 hPPW hbr
    refine hrest _ _ ?_
    clear hrest
    obtain ⟨valS, e0, e1, e2, e3, e4, hab⟩ := hbr
    have hPPWl := hab.lt
    have HES := Lib.hid (And.intro e0 (And.intro e1 (And.intro e2 (And.intro e3 e4))))
    have hbx := hab.box
    rw [← e0, ← e1, ← e2, ← e3, ← e4] at hbx
    have HGS := Lib.hid hab
    have HBS := Lib.hid hbx
    clear e0 e1 e2 e3 e4 hab hbx
    have hzhbw12 := hbw12.size
    replace HM := bk HM hbw12
    replace HD := bk HD hbw12
    replace hB := bl_trans hB hbw12
    replace HR := Lib.hid (HR.out.up hbw12)
    replace HN := Lib.hid (HN.out.up hbw12)
    have HS0 := Lib.hid (show AsyR w12 w12.heap.size (.slice SA10 Sm10 Sc10) (.slice SA11 Sm11 Sc11) (.slice SA12 Sm12 Sc12) (.slice SA8 Sm8 Sc8) (.slice SA9 Sm9 Sc9) yy by have h := AsyK.reads HGS.out.k HIS.out.1; obtain ⟨e0, e1, e2, e3, e4⟩ := HES.out; rw [← e0, ← e1, ← e2, ← e3, ← e4] at h; exact h)
    have HS := HS0
    clear HGS HES
    have hB3 := Below.refl w12.heap.size w12
    obtain ⟨⟨g0, g1, g2⟩, ⟨g3, g4, g5, g6⟩, gf⟩ := cells7 HM
    go_wp2_with fail
    clear g0 g1 g2 g3 g4 g5 g6 gf
    refine (to_MachW _ _ _ _ m w12 HR.out hs1).mono ?_
    rintro e w13 ⟨z0, z1, z2, z3, rfl, hq, hb13, ho⟩
    have hzy13 := hb13.size
    have HMM := Lib.hid (ho.p (g := w12.heap.size) (by omega) hs1); clear ho
    obtain ⟨gm, hgm⟩ : ∃ z, z = w12.heap.size := ⟨_, rfl⟩
    rw [← hgm] at HMM
    obtain ⟨him, hhim⟩ : ∃ z, z = w13.heap.size := ⟨_, rfl⟩
    rw [← hhim] at HMM
    have hhlm : him ≤ w13.heap.size := by omega
    have hhgm : gm ≤ w13.heap.size ∧ gm ≤ him := by omega
    obtain ⟨⟨CA0, Cm0, Cc0, rfl⟩, ⟨CA1, Cm1, Cc1, rfl⟩, ⟨CA2, Cm2, Cc2, rfl⟩, CA3, Cm3, Cc3, rfl⟩ := hq.slices
    have JM := Lib.hid hq
    clear hq
    have hzhb13 := hb13.size
    replace HM := bk HM hb13
    replace HD := bk HD hb13
    replace HBS := bk HBS hb13
    replace hB3 := bl_trans hB3 hb13
    replace hB := bl_trans hB hb13
    replace HR := Lib.hid (HR.out.up hb13)
    replace HN := Lib.hid (HN.out.up hb13)
    replace HS := Lib.hid (HS.out.up hb13)
    obtain ⟨w14, hw14, hb14, IM, hzz14, HSS14⟩ := box7 w13 (.int .i64 m.deg) (.int .i64 m.st) (.int .i64 m.msg) (.slice CA0 Cm0 Cc0) (.slice CA1 Cm1 Cc1) (.slice CA2 Cm2 Cc2) (.slice CA3 Cm3 Cc3) 39
    obtain ⟨P5, hP5⟩ : ∃ z, z = w13.heap.size := ⟨_, rfl⟩
    have HP5 := Lib.hid hP5
    rw [← hP5] at IM hzz14
    have hP5l : w13.heap.size ≤ P5 ∧ P5 ≤ w13.heap.size := by rw [hP5]; exact ⟨Nat.le_refl _, Nat.le_refl _⟩
    have hzhb14 := hb14.size
    replace HM := bk HM hb14
    replace HD := bk HD hb14
    replace HBS := bk HBS hb14
    replace hB3 := bl_trans hB3 hb14
    replace hB := bl_trans hB hb14
    replace HR := Lib.hid (HR.out.up hb14)
    replace HN := Lib.hid (HN.out.up hb14)
    replace JM := Lib.hid (JM.out.up hb14)
    replace HS := Lib.hid (HS.out.up hb14)
    replace HMM := Lib.hid (HMM.out.off fun b _ h2 => hb14.block b (by omega))
    obtain ⟨q0, q1, q2, qf⟩ := cells3 HD
    have eq0 := q0
    have eq1 := q1
    have eq2 := q2
    rw [hw14] at eq0 eq1 eq2
    have HWw14 := Lib.hid hw14
    clear hw14 hP5
    go_wp2_with fail
    rw [← HWw14.out, ← HP5.out]
    clear eq0 eq1 eq2
    clear q0 q1 q2 qf
    refine (to_NetW _ _ _ n w14 HN.out hs2).mono ?_
    rintro e w15 ⟨z0, z1, z2, rfl, hq, hb15, gn, hgn0, hgn1, ho⟩
    have hzy15 := hb15.size
    have HMN := Lib.hid ho; clear ho
    obtain ⟨hin, hhin⟩ : ∃ z, z = w15.heap.size := ⟨_, rfl⟩
    rw [← hhin] at HMN
    have hhln : hin ≤ w15.heap.size := by omega
    have hhgn : gn ≤ w15.heap.size ∧ gn ≤ hin := by omega
    obtain ⟨⟨CA4, Cm4, Cc4, rfl⟩, ⟨CA5, Cm5, Cc5, rfl⟩, CA6, Cm6, Cc6, rfl⟩ := hq.slices
    have JN := Lib.hid hq
    clear hq
    have hzhb15 := hb15.size
    replace HM := bk HM hb15
    replace HD := bk HD hb15
    replace HBS := bk HBS hb15
    replace IM := bk IM hb15
    replace hB3 := bl_trans hB3 hb15
    replace hB := bl_trans hB hb15
    replace HR := Lib.hid (HR.out.up hb15)
    replace HN := Lib.hid (HN.out.up hb15)
    replace JM := Lib.hid (JM.out.up hb15)
    replace HS := Lib.hid (HS.out.up hb15)
    replace HMM := Lib.hid (HMM.out.off fun b _ h2 => hb15.block b (by omega))
    obtain ⟨w16, hw16, hb16, IN, hzz16, HSS16⟩ := box3 w15 (.slice CA4 Cm4 Cc4) (.slice CA5 Cm5 Cc5) (.slice CA6 Cm6 Cc6) 43
    obtain ⟨P6, hP6⟩ : ∃ z, z = w15.heap.size := ⟨_, rfl⟩
    have HP6 := Lib.hid hP6
    rw [← hP6] at IN hzz16
    have hP6l : w15.heap.size ≤ P6 ∧ P6 ≤ w15.heap.size := by rw [hP6]; exact ⟨Nat.le_refl _, Nat.le_refl _⟩
    have hzhb16 := hb16.size
    replace HM := bk HM hb16
    replace HD := bk HD hb16
    replace HBS := bk HBS hb16
    replace IM := bk IM hb16
    replace hB3 := bl_trans hB3 hb16
    replace hB := bl_trans hB hb16
    replace HR := Lib.hid (HR.out.up hb16)
    replace HN := Lib.hid (HN.out.up hb16)
    replace JM := Lib.hid (JM.out.up hb16)
    replace JN := Lib.hid (JN.out.up hb16)
    replace HS := Lib.hid (HS.out.up hb16)
    replace HMM := Lib.hid (HMM.out.off fun b _ h2 => hb16.block b (by omega))
    replace HMN := Lib.hid (HMN.out.off (by omega) fun b _ h2 => hb16.block b h2)
    obtain ⟨⟨a0, a1, a2⟩, ⟨a3, a4, a5, a6⟩, af⟩ := cells7 IM
    have ea0 := a0
    have ea1 := a1
    have ea2 := a2
    have ea3 := a3
    have ea4 := a4
    have ea5 := a5
    have ea6 := a6
    rw [hw16] at ea0 ea1 ea2 ea3 ea4 ea5 ea6
    have HWw16 := Lib.hid hw16
    clear hw16 hP6
    go_wp2_with fail
    rw [← HWw16.out, ← HP6.out]
    clear ea0 ea1 ea2 ea3 ea4 ea5 ea6
    clear a0 a1 a2 a3 a4 a5 a6 af
    have hC := impl_CompleteRounds _ _ _ _ m _ _ _ n r w16 JM.out JN.out hes1 hes2
    rw [HV.out, HYY.out] at hC
    (try unfold machV at hC)
    refine hC.mono ?_
    clear hC
    rintro e w17 ⟨val, rfl, hk, hb17⟩
    obtain ⟨v10, e10⟩ : ∃ z, z = val .r := ⟨_, rfl⟩
    obtain ⟨v11, e11⟩ : ∃ z, z = val .b := ⟨_, rfl⟩
    obtain ⟨v12, e12⟩ : ∃ z, z = val .n := ⟨_, rfl⟩
    obtain ⟨v8, e8⟩ : ∃ z, z = val .s := ⟨_, rfl⟩
    obtain ⟨v9, e9⟩ : ∃ z, z = val .f := ⟨_, rfl⟩
    rw [← e10, ← e11, ← e12, ← e8, ← e9]
    obtain ⟨GA10, Gm10, Gc10, GA11, Gm11, Gc11, GA12, Gm12, Gc12, GA8, Gm8, Gc8, GA9, Gm9, Gc9, rfl, rfl, rfl, rfl, rfl⟩ := heads5 hk e10 e11 e12 e8 e9
    have HEV := Lib.hid (And.intro e10 (And.intro e11 (And.intro e12 (And.intro e8 e9))))
    clear e10 e11 e12 e8 e9
    have hrg : ∀ j, keyOf yy j → ∀ q, (val j).ownBlock = some q → w16.heap.size ≤ q ∧ q < w17.heap.size := fun j hj q hq => (hk.own j hj).lt q hq
    have HKR := Lib.hid hk
    clear hk
    have hzhb17 := hb17.size
    replace HM := bk HM hb17
    replace HD := bk HD hb17
    replace HBS := bk HBS hb17
    replace IM := bk IM hb17
    replace IN := bk IN hb17
    replace hB3 := bl_trans hB3 hb17
    replace hB := bl_trans hB hb17
    replace HR := Lib.hid (HR.out.up hb17)
    replace HN := Lib.hid (HN.out.up hb17)
    replace JM := Lib.hid (JM.out.up hb17)
    replace JN := Lib.hid (JN.out.up hb17)
    replace HS := Lib.hid (HS.out.up hb17)
    replace HMM := Lib.hid (HMM.out.off fun b _ h2 => hb17.block b (by omega))
    replace HMN := Lib.hid (HMN.out.off (by omega) fun b _ h2 => hb17.block b h2)
    obtain ⟨w18, hw18, hb18, HBG, hzz18, HSS18⟩ := box5 w17 (.slice GA10 Gm10 Gc10) (.slice GA11 Gm11 Gc11) (.slice GA12 Gm12 Gc12) (.slice GA8 Gm8 Gc8) (.slice GA9 Gm9 Gc9) 34
    obtain ⟨PG, hPG⟩ : ∃ z, z = w17.heap.size := ⟨_, rfl⟩
    have HPG := Lib.hid hPG
    rw [← hPG] at HBG hzz18 hrg
    have hPGl : w17.heap.size ≤ PG ∧ PG ≤ w17.heap.size := by rw [hPG]; exact ⟨Nat.le_refl _, Nat.le_refl _⟩
    have HGG := Lib.hid (show AsyB w18 w16.heap.size val yy PG from ⟨AsyK.up HKR.out hb18, fun j hj e => by have := (hrg j hj PG e).2; omega, by have := HBG.out; obtain ⟨e0, e1, e2, e3, e4⟩ := HEV.out; rw [← e0, ← e1, ← e2, ← e3, ← e4]; exact this⟩)
    have HEG := HEV
    have hPPG : w16.heap.size ≤ PG := by have := hb17.size; omega
    clear HKR hrg HEV hPG
    have hzhb18 := hb18.size
    replace HM := bk HM hb18
    replace HD := bk HD hb18
    replace HBS := bk HBS hb18
    replace IM := bk IM hb18
    replace IN := bk IN hb18
    replace hB3 := bl_trans hB3 hb18
    replace hB := bl_trans hB hb18
    replace HR := Lib.hid (HR.out.up hb18)
    replace HN := Lib.hid (HN.out.up hb18)
    replace JM := Lib.hid (JM.out.up hb18)
    replace JN := Lib.hid (JN.out.up hb18)
    replace HS := Lib.hid (HS.out.up hb18)
    replace HMM := Lib.hid (HMM.out.off fun b _ h2 => hb18.block b (by omega))
    replace HMN := Lib.hid (HMN.out.off (by omega) fun b _ h2 => hb18.block b h2)
    obtain ⟨⟨s0, s1, s2⟩, ⟨s3, s4⟩, sf⟩ := cells5 HBS
    obtain ⟨⟨l0, l1, l2⟩, ⟨l3, l4⟩, lf⟩ := cells5 HBG
    have el0 := l0
    have el1 := l1
    have el2 := l2
    have el3 := l3
    have el4 := l4
    have es0 := s0
    have es1 := s1
    have es2 := s2
    have es3 := s3
    have es4 := s4
    rw [hw18] at el0 el1 el2 el3 el4 es0 es1 es2 es3 es4
    rw [HPG.out] at el0 el1 el2 el3 el4
    have HW18 := Lib.hid hw18
    clear hw18
    go_wp2_with fail
    rw [← HW18.out, ← HPG.out]
    clear el0 el1 el2 el3 el4 es0 es1 es2 es3 es4
    clear s0 s1 s2 s3 s4 l0 l1 l2 l3 l4 sf lf
    obtain ⟨gu, hgu⟩ : ∃ z, z = w16.heap.size := ⟨_, rfl⟩
    rw [← hgu] at HGG hPPG
    have hgul : gu ≤ w18.heap.size ∧ him ≤ gu ∧ hin ≤ gu := by omega
    have hguP : w.heap.size < gu ∧ P1 < gu ∧ PW < gu ∧ P5 < gu ∧ P6 < gu := by omega
    clear hgu
    have HAG := Lib.hid (show Value.agg #[val .r, val .b, val .n, val .s, val .f] = .agg #[.slice GA10 Gm10 Gc10, .slice GA11 Gm11 Gc11, .slice GA12 Gm12 Gc12, .slice GA8 Gm8 Gc8, .slice GA9 Gm9 Gc9] by obtain ⟨e0, e1, e2, e3, e4⟩ := HEG.out; rw [← e0, ← e1, ← e2, ← e3, ← e4])
    have HU := Lib.hid (reads_at HGG.out HIS.out.1 HEG.out)
    refine (eq_Asy _ _ _ _ _ _ _ _ _ _ yy w18 HU.out HS.out).mono ?_
    rintro e w21 ⟨rfl, hb21⟩
    have hzhb21 := hb21.size
    replace HM := bk HM hb21
    replace HD := bk HD hb21
    replace HBS := bk HBS hb21
    replace IM := bk IM hb21
    replace IN := bk IN hb21
    replace HBG := bk HBG hb21
    replace hB3 := bl_trans hB3 hb21
    replace hB := bl_trans hB hb21
    replace HR := Lib.hid (HR.out.up hb21)
    replace HN := Lib.hid (HN.out.up hb21)
    replace JM := Lib.hid (JM.out.up hb21)
    replace JN := Lib.hid (JN.out.up hb21)
    replace HS := Lib.hid (HS.out.up hb21)
    replace HMM := Lib.hid (HMM.out.off fun b _ h2 => hb21.block b (by omega))
    replace HMN := Lib.hid (HMN.out.off (by omega) fun b _ h2 => hb21.block b h2)
    replace HGG := Lib.hid (HGG.out.up hb21)
    replace HU := Lib.hid (HU.out.up hb21)
    go_wp2_with fail
    obtain ⟨⟨g0, g1, g2⟩, ⟨g3, g4, g5, g6⟩, gf⟩ := cells7 HM
    obtain ⟨⟨a0, a1, a2⟩, ⟨a3, a4, a5, a6⟩, af⟩ := cells7 IM
    refine wp_region_held_drew (S := fun w' => w'.cell? ⟨w.heap.size, 0, none⟩ = some (.int .i64 m.deg) ∧ w'.cell? ⟨w.heap.size, 1, none⟩ = some (.int .i64 m.st) ∧ w'.cell? ⟨w.heap.size, 2, none⟩ = some (.int .i64 m.msg) ∧ w'.cell? ⟨w.heap.size, 3, none⟩ = some (.slice A0 m0 c0) ∧ w'.cell? ⟨w.heap.size, 4, none⟩ = some (.slice A1 m1 c1) ∧ w'.cell? ⟨w.heap.size, 5, none⟩ = some (.slice A2 m2 c2) ∧ w'.cell? ⟨w.heap.size, 6, none⟩ = some (.slice A3 m3 c3) ∧ w'.cell? ⟨P5, 0, none⟩ = some (.int .i64 m.deg) ∧ w'.cell? ⟨P5, 1, none⟩ = some (.int .i64 m.st) ∧ w'.cell? ⟨P5, 2, none⟩ = some (.int .i64 m.msg) ∧ w'.cell? ⟨P5, 3, none⟩ = some (.slice CA0 Cm0 Cc0) ∧ w'.cell? ⟨P5, 4, none⟩ = some (.slice CA1 Cm1 Cc1) ∧ w'.cell? ⟨P5, 5, none⟩ = some (.slice CA2 Cm2 Cc2) ∧ w'.cell? ⟨P5, 6, none⟩ = some (.slice CA3 Cm3 Cc3)) (by kernel_rfl) ?_ (fun hHeld => ?_)
    ·
     go_keep
    refine stk 0 58 ?_
    refine stk 1 59 ?_
    refine tr 2 rfl (by kernel_rfl) (fun K hK => ?_)
    go_simp
    go_at_call 7
    refine (to_Mach _ _ _ _ m w21.drew (HR.out.up (Below.refl _ _).drew) hs1).mono ?_
    rintro e w22 ⟨z0, z1, z2, z3, rfl, hq, hb22'⟩
    have hb22 : Below w21.heap.size w21 w22 := (Below.refl _ _).drew.trans hb22'
    clear hb22'
    obtain ⟨⟨EA0, Em0, Ec0, rfl⟩, ⟨EA1, Em1, Ec1, rfl⟩, ⟨EA2, Em2, Ec2, rfl⟩, EA3, Em3, Ec3, rfl⟩ := hq.slices
    have JJ := Lib.hid hq
    clear hq
    have hzhb22 := hb22.size
    clear g0 g1 g2 g3 g4 g5 g6 a0 a1 a2 a3 a4 a5 a6 gf af
    replace HM := bk HM hb22
    replace HD := bk HD hb22
    replace HBS := bk HBS hb22
    replace IM := bk IM hb22
    replace IN := bk IN hb22
    replace HBG := bk HBG hb22
    replace hB3 := bl_trans hB3 hb22
    replace hB := bl_trans hB hb22
    obtain ⟨⟨g0, g1, g2⟩, ⟨g3, g4, g5, g6⟩, gf⟩ := cells7 HM
    obtain ⟨⟨a0, a1, a2⟩, ⟨a3, a4, a5, a6⟩, af⟩ := cells7 IM
    replace HR := Lib.hid (HR.out.up hb22)
    replace HN := Lib.hid (HN.out.up hb22)
    replace JM := Lib.hid (JM.out.up hb22)
    replace JN := Lib.hid (JN.out.up hb22)
    replace HS := Lib.hid (HS.out.up hb22)
    replace HMM := Lib.hid (HMM.out.off fun b _ h2 => hb22.block b (by omega))
    replace HMN := Lib.hid (HMN.out.off (by omega) fun b _ h2 => hb22.block b h2)
    replace HGG := Lib.hid (HGG.out.up hb22)
    replace HU := Lib.hid (HU.out.up hb22)
    refine hK.out _ _ ?_ (fun hHeld => ?_)
    ·
     go_keep
    clear hK K
    try simp only [Act.put, pu]
    refine tr 3 rfl (by kernel_rfl) (fun K hK => ?_)
    go_simp
    go_at_call 11
    refine (eq_Mach _ _ _ _ _ _ _ _ m w22 JM.out JJ.out).mono ?_
    rintro e w23 ⟨rfl, hb23⟩
    clear JJ
    have hzhb23 := hb23.size
    clear g0 g1 g2 g3 g4 g5 g6 a0 a1 a2 a3 a4 a5 a6 gf af
    replace HM := bk HM hb23
    replace HD := bk HD hb23
    replace HBS := bk HBS hb23
    replace IM := bk IM hb23
    replace IN := bk IN hb23
    replace HBG := bk HBG hb23
    replace hB3 := bl_trans hB3 hb23
    replace hB := bl_trans hB hb23
    obtain ⟨⟨g0, g1, g2⟩, ⟨g3, g4, g5, g6⟩, gf⟩ := cells7 HM
    obtain ⟨⟨a0, a1, a2⟩, ⟨a3, a4, a5, a6⟩, af⟩ := cells7 IM
    replace HR := Lib.hid (HR.out.up hb23)
    replace HN := Lib.hid (HN.out.up hb23)
    replace JM := Lib.hid (JM.out.up hb23)
    replace JN := Lib.hid (JN.out.up hb23)
    replace HS := Lib.hid (HS.out.up hb23)
    replace HMM := Lib.hid (HMM.out.off fun b _ h2 => hb23.block b (by omega))
    replace HMN := Lib.hid (HMN.out.off (by omega) fun b _ h2 => hb23.block b h2)
    replace HGG := Lib.hid (HGG.out.up hb23)
    replace HU := Lib.hid (HU.out.up hb23)
    refine hK.out _ _ ?_ (fun hHeld => ?_)
    ·
     go_keep
    clear hK K
    try simp only [Act.put, pu]
    refine stk 4 62 ?_
    refine wpAnyH_done (by kernel_rfl) ?_ _
    clear g0 g1 g2 g3 g4 g5 g6 a0 a1 a2 a3 a4 a5 a6 gf af
    go_wp2_with fail
    obtain ⟨q0, q1, q2, qf⟩ := cells3 HD
    obtain ⟨b0, b1, b2, bf⟩ := cells3 IN
    refine wp_region_held_drew (S := fun w' => w'.cell? ⟨P1, 0, none⟩ = some (.slice A4 m4 c4) ∧ w'.cell? ⟨P1, 1, none⟩ = some (.slice A5 m5 c5) ∧ w'.cell? ⟨P1, 2, none⟩ = some (.slice A6 m6 c6) ∧ w'.cell? ⟨P6, 0, none⟩ = some (.slice CA4 Cm4 Cc4) ∧ w'.cell? ⟨P6, 1, none⟩ = some (.slice CA5 Cm5 Cc5) ∧ w'.cell? ⟨P6, 2, none⟩ = some (.slice CA6 Cm6 Cc6)) (by kernel_rfl) ?_ (fun hHeld => ?_)
    ·
     go_keep
    refine stk 0 63 ?_
    refine stk 1 64 ?_
    refine tr 2 rfl (by kernel_rfl) (fun K hK => ?_)
    go_simp
    go_at_call 8
    refine (to_Net _ _ _ n w23.drew (HN.out.up (Below.refl _ _).drew) hs2).mono ?_
    rintro e w24 ⟨z0, z1, z2, rfl, hq, hb24'⟩
    have hb24 : Below w23.heap.size w23 w24 := (Below.refl _ _).drew.trans hb24'
    clear hb24'
    obtain ⟨⟨EA4, Em4, Ec4, rfl⟩, ⟨EA5, Em5, Ec5, rfl⟩, EA6, Em6, Ec6, rfl⟩ := hq.slices
    have JJ := Lib.hid hq
    clear hq
    have hzhb24 := hb24.size
    clear q0 q1 q2 b0 b1 b2 qf bf
    replace HM := bk HM hb24
    replace HD := bk HD hb24
    replace HBS := bk HBS hb24
    replace IM := bk IM hb24
    replace IN := bk IN hb24
    replace HBG := bk HBG hb24
    replace hB3 := bl_trans hB3 hb24
    replace hB := bl_trans hB hb24
    obtain ⟨q0, q1, q2, qf⟩ := cells3 HD
    obtain ⟨b0, b1, b2, bf⟩ := cells3 IN
    replace HR := Lib.hid (HR.out.up hb24)
    replace HN := Lib.hid (HN.out.up hb24)
    replace JM := Lib.hid (JM.out.up hb24)
    replace JN := Lib.hid (JN.out.up hb24)
    replace HS := Lib.hid (HS.out.up hb24)
    replace HMM := Lib.hid (HMM.out.off fun b _ h2 => hb24.block b (by omega))
    replace HMN := Lib.hid (HMN.out.off (by omega) fun b _ h2 => hb24.block b h2)
    replace HGG := Lib.hid (HGG.out.up hb24)
    replace HU := Lib.hid (HU.out.up hb24)
    refine hK.out _ _ ?_ (fun hHeld => ?_)
    ·
     go_keep
    clear hK K
    try simp only [Act.put, pu]
    refine tr 3 rfl (by kernel_rfl) (fun K hK => ?_)
    go_simp
    go_at_call 12
    refine (eq_Net _ _ _ _ _ _ n w24 JN.out JJ.out).mono ?_
    rintro e w25 ⟨rfl, hb25⟩
    clear JJ
    have hzhb25 := hb25.size
    clear q0 q1 q2 b0 b1 b2 qf bf
    replace HM := bk HM hb25
    replace HD := bk HD hb25
    replace HBS := bk HBS hb25
    replace IM := bk IM hb25
    replace IN := bk IN hb25
    replace HBG := bk HBG hb25
    replace hB3 := bl_trans hB3 hb25
    replace hB := bl_trans hB hb25
    obtain ⟨q0, q1, q2, qf⟩ := cells3 HD
    obtain ⟨b0, b1, b2, bf⟩ := cells3 IN
    replace HR := Lib.hid (HR.out.up hb25)
    replace HN := Lib.hid (HN.out.up hb25)
    replace JM := Lib.hid (JM.out.up hb25)
    replace JN := Lib.hid (JN.out.up hb25)
    replace HS := Lib.hid (HS.out.up hb25)
    replace HMM := Lib.hid (HMM.out.off fun b _ h2 => hb25.block b (by omega))
    replace HMN := Lib.hid (HMN.out.off (by omega) fun b _ h2 => hb25.block b h2)
    replace HGG := Lib.hid (HGG.out.up hb25)
    replace HU := Lib.hid (HU.out.up hb25)
    refine hK.out _ _ ?_ (fun hHeld => ?_)
    ·
     go_keep
    clear hK K
    try simp only [Act.put, pu]
    refine stk 4 67 ?_
    refine wpAnyH_done (by kernel_rfl) ?_ _
    clear q0 q1 q2 b0 b1 b2 qf bf
    obtain ⟨⟨a0, a1, a2⟩, ⟨a3, a4, a5, a6⟩, af⟩ := cells7 IM
    go_wp2_with fail
    clear a0 a1 a2 a3 a4 a5 a6 af
    clear JM JN
    refine (mark_Mach _ _ _ _ _ _ _ _ _ _ _ gm him 1 w25 HMM.out (by omega) (machP_sum hs1) (by omega) (by omega) (by omega)).mono ?_
    rintro e w28 ⟨⟨k1, rfl, hk1, hk1'⟩, hmk1⟩
    clear HMM
    clear IM
    have hzhmk1 := hmk1.below.size
    replace HM := Lib.hid ((hmk1.off _ (by omega) (by omega)).trans HM.out)
    replace HD := Lib.hid ((hmk1.off _ (by omega) (by omega)).trans HD.out)
    replace HBS := Lib.hid ((hmk1.off _ (by omega) (by omega)).trans HBS.out)
    replace IN := Lib.hid ((hmk1.off _ (by omega) (by omega)).trans IN.out)
    replace HBG := Lib.hid ((hmk1.off _ (by omega) (by omega)).trans HBG.out)
    replace hB := hB.trans (hmk1.below.mono (by omega))
    replace hB3 := hB3.trans (hmk1.below.mono (by omega))
    replace HR := Lib.hid (HR0.out.up hB)
    replace HN := Lib.hid (HN0.out.up hB)
    replace HS := Lib.hid (HS0.out.up hB3)
    replace HMN := Lib.hid (HMN.out.off (by omega) fun b h1 h2 => hmk1.off b h2 (by omega))
    replace HGG := Lib.hid (HGG.out.off hPPG hmk1.below.size fun b h1 h2 => hmk1.off b h2 (by omega))
    replace HU := Lib.hid (reads_at HGG.out HIS.out.1 HEG.out)
    obtain ⟨b0, b1, b2, bf⟩ := cells3 IN
    go_wp2_with fail
    clear b0 b1 b2 bf
    refine (mark_Net _ _ _ n gn hin k1 w28 HMN.out (by omega) hs2 (by omega) (by omega) (by omega)).mono ?_
    rintro e w29 ⟨⟨k2, rfl, hk2⟩, hmk2⟩
    clear HMN
    clear IN
    have hzhmk2 := hmk2.below.size
    replace HM := Lib.hid ((hmk2.off _ (by omega) (by omega)).trans HM.out)
    replace HD := Lib.hid ((hmk2.off _ (by omega) (by omega)).trans HD.out)
    replace HBS := Lib.hid ((hmk2.off _ (by omega) (by omega)).trans HBS.out)
    replace HBG := Lib.hid ((hmk2.off _ (by omega) (by omega)).trans HBG.out)
    replace hB := hB.trans (hmk2.below.mono (by omega))
    replace hB3 := hB3.trans (hmk2.below.mono (by omega))
    replace HR := Lib.hid (HR0.out.up hB)
    replace HN := Lib.hid (HN0.out.up hB)
    replace HS := Lib.hid (HS0.out.up hB3)
    replace HGG := Lib.hid (HGG.out.off hPPG hmk2.below.size fun b h1 h2 => hmk2.off b h2 (by omega))
    replace HU := Lib.hid (reads_at HGG.out HIS.out.1 HEG.out)
    obtain ⟨⟨s0, s1, s2⟩, ⟨s3, s4⟩, sf⟩ := cells5 HBS
    obtain ⟨⟨l0, l1, l2⟩, ⟨l3, l4⟩, lf⟩ := cells5 HBG
    go_wp2_with fail
    clear s0 s1 s2 s3 s4 l0 l1 l2 l3 l4 sf lf
    refine (eq_Asy _ _ _ _ _ _ _ _ _ _ yy w29 HU.out HS.out).mono ?_
    rintro e w31 ⟨rfl, hb31⟩
    have hzhb31 := hb31.size
    replace HM := bk HM hb31
    replace HD := bk HD hb31
    replace HBS := bk HBS hb31
    replace HBG := bk HBG hb31
    replace hB3 := bl_trans hB3 hb31
    replace hB := bl_trans hB hb31
    replace HR := Lib.hid (HR.out.up hb31)
    replace HN := Lib.hid (HN.out.up hb31)
    replace HS := Lib.hid (HS.out.up hb31)
    replace HGG := Lib.hid (HGG.out.up hb31)
    replace HU := Lib.hid (HU.out.up hb31)
    obtain ⟨⟨l0, l1, l2⟩, ⟨l3, l4⟩, lf⟩ := cells5 HBG
    go_wp2_with fail
    clear l0 l1 l2 l3 l4 lf
    have hC := mark_AsyK (base := gu) (val := val) (x := yy) 1 w31 HGG.out.k (by omega) (by omega) (by rw [HTT.out]; omega)
    rw [HAG.out, HTT.out] at hC
    refine hC.mono ?_
    clear hC
    rintro e w32 ⟨rfl, hk32, hfr⟩
    have hbm : Below gu w31 w32 := hfr.below HGG.out.k (by omega)
    have hzm := hbm.size
    have HNO : ∀ b : Nat, (b < gu ∨ b = PG) → ∀ i, keyOf yy i → (val i).ownBlock ≠ some b := fun b hb i hi e => by
     rcases hb with h | h
     ·
      have := ((HGG.out.k.own i hi).lt b e).1; omega
     ·
      rw [h] at e; exact HGG.out.ne i hi e
    replace HM := Lib.hid ((hfr.block w.heap.size (by omega) (HNO _ (by first | exact .inl (by omega) | exact .inr rfl))).trans HM.out)
    replace HD := Lib.hid ((hfr.block P1 (by omega) (HNO _ (by first | exact .inl (by omega) | exact .inr rfl))).trans HD.out)
    replace HBS := Lib.hid ((hfr.block PW (by omega) (HNO _ (by first | exact .inl (by omega) | exact .inr rfl))).trans HBS.out)
    replace HBG := Lib.hid ((hfr.block PG (by omega) (HNO _ (by first | exact .inl (by omega) | exact .inr rfl))).trans HBG.out)
    replace hB := hB.trans (hbm.mono (by omega))
    replace hB3 := hB3.trans (hbm.mono (by omega))
    replace HR := Lib.hid (HR0.out.up hB)
    replace HN := Lib.hid (HN0.out.up hB)
    replace HS := Lib.hid (HS0.out.up hB3)
    obtain ⟨RM, hRM⟩ : ∃ z, z = markAll (szA yy) (ordA yy) 1 (rowK yy val) := ⟨_, rfl⟩
    have HL := Lib.hid (show Like RM (rowK yy val) by rw [hRM]; exact markAll_like (szA yy) (ordA yy) 1 (rowK yy val) (Like.refl _) (noTop_ord yy))
    have HH := Lib.hid (show HeldAll (szA yy) (ordA yy) 1 RM by rw [hRM]; exact HeldAll.mark (szA yy) (ordA yy) 1 (rowK yy val) (ordA_nodup yy))
    rw [← hRM] at hk32
    have HK := Lib.hid hk32
    clear hk32 hRM HGG HU HNO hfr
    have hT0 : (0 : Int) ≤ 1 + (T : Int) := by omega
    obtain ⟨⟨l0, l1, l2⟩, ⟨l3, l4⟩, lf⟩ := cells5 HBG
    go_wp2_with fail
    clear l0 l1 l2 l3 l4 lf
    have hC := held_AsyK (base := gu) (val := val) (x := yy) RM 1 w32 HK.out HL.out HH.out (by omega) (by rw [HTT.out]; omega)
    rw [HAG.out, HTT.out] at hC
    refine hC.mono ?_
    clear hC
    rintro e w33 ⟨rfl, hb33⟩
    have hzhb33 := hb33.size
    replace HM := bk HM hb33
    replace HD := bk HD hb33
    replace HBS := bk HBS hb33
    replace HBG := bk HBG hb33
    replace hB3 := bl_trans hB3 hb33
    replace hB := bl_trans hB hb33
    replace HR := Lib.hid (HR.out.up hb33)
    replace HN := Lib.hid (HN.out.up hb33)
    replace HS := Lib.hid (HS.out.up hb33)
    replace HK := Lib.hid (HK.out.keep (grown_below hb33))
    go_wp2_with fail
    rename_i K hrest
    have FIN0 : ∀ (W : World) (PX : Nat) (b100 b102 : Value) (TA10 : Option Addr) (Tm10 Tc10 : Nat) (TA11 : Option Addr) (Tm11 Tc11 : Nat) (TA12 : Option Addr) (Tm12 Tc12 : Nat) (TA8 : Option Addr) (Tm8 Tc8 : Nat) (TA9 : Option Addr) (Tm9 Tc9 : Nat), Below w33.heap.size w33 W → w33.heap.size ≤ PX → BoxR W w33.heap.size PX (.slice TA10 Tm10 Tc10) (.slice TA11 Tm11 Tc11) (.slice TA12 Tm12 Tc12) (.slice TA8 Tm8 Tc8) (.slice TA9 Tm9 Tc9) yy →
      K ⟨#[.agg #[.int .i64 m.deg, .int .i64 m.st, .int .i64 m.msg, .slice A0 m0 c0, .slice A1 m1 c1, .slice A2 m2 c2, .slice A3 m3 c3], .agg #[.slice A4 m4 c4, .slice A5 m5 c5, .slice A6 m6 c6], .int .i64 r, .pointer (some ⟨w.heap.size, 0, none⟩), .pointer (some ⟨P1, 0, none⟩), undef, .bool false, .int .i64 left2, .pointer (some ⟨PW, 0, none⟩), .bool V, .pointer (some ⟨P5, 0, none⟩), .pointer (some ⟨P6, 0, none⟩), .pointer (some ⟨PG, 0, none⟩), .bool V, .int .i64 k2, .int .i64 (1 + ↑T), .int .i64 (1 + ↑T), .pointer (some ⟨PX, 0, none⟩), .bool V, .agg #[.int .i64 m.deg, .int .i64 m.st, .int .i64 m.msg, .slice A0 m0 c0, .slice A1 m1 c1, .slice A2 m2 c2, .slice A3 m3 c3], .int .i64 1048576, .int .i64 left1, .int .i64 left1, .bool (decide (left1 < 0)), .agg #[.slice A4 m4 c4, .slice A5 m5 c5, .slice A6 m6 c6], .int .i64 left1, .int .i64 left2, .int .i64 left2, .bool (decide (left2 < 0)), .tuple #[.agg #[.slice SA10 Sm10 Sc10, .slice SA11 Sm11 Sc11, .slice SA12 Sm12 Sc12, .slice SA8 Sm8 Sc8, .slice SA9 Sm9 Sc9], .bool V], .agg #[.int .i64 m.deg, .int .i64 m.st, .int .i64 m.msg, .slice A0 m0 c0, .slice A1 m1 c1, .slice A2 m2 c2, .slice A3 m3 c3], b31, .agg #[.slice A4 m4 c4, .slice A5 m5 c5, .slice A6 m6 c6], b33, .int .i64 r, .tuple #[.agg #[.slice SA10 Sm10 Sc10, .slice SA11 Sm11 Sc11, .slice SA12 Sm12 Sc12, .slice SA8 Sm8 Sc8, .slice SA9 Sm9 Sc9], .bool V], .agg #[.slice SA10 Sm10 Sc10, .slice SA11 Sm11 Sc11, .slice SA12 Sm12 Sc12, .slice SA8 Sm8 Sc8, .slice SA9 Sm9 Sc9], .bool V, .agg #[.int .i64 m.deg, .int .i64 m.st, .int .i64 m.msg, .slice A0 m0 c0, .slice A1 m1 c1, .slice A2 m2 c2, .slice A3 m3 c3], .agg #[.int .i64 m.deg, .int .i64 m.st, .int .i64 m.msg, .slice CA0 Cm0 Cc0, .slice CA1 Cm1 Cc1, .slice CA2 Cm2 Cc2, .slice CA3 Cm3 Cc3], .agg #[.slice A4 m4 c4, .slice A5 m5 c5, .slice A6 m6 c6], .agg #[.slice CA4 Cm4 Cc4, .slice CA5 Cm5 Cc5, .slice CA6 Cm6 Cc6], .tuple #[.agg #[.slice GA10 Gm10 Gc10, .slice GA11 Gm11 Gc11, .slice GA12 Gm12 Gc12, .slice GA8 Gm8 Gc8, .slice GA9 Gm9 Gc9], .bool V], .agg #[.int .i64 m.deg, .int .i64 m.st, .int .i64 m.msg, .slice CA0 Cm0 Cc0, .slice CA1 Cm1 Cc1, .slice CA2 Cm2 Cc2, .slice CA3 Cm3 Cc3], .agg #[.slice CA4 Cm4 Cc4, .slice CA5 Cm5 Cc5, .slice CA6 Cm6 Cc6], .int .i64 r, .tuple #[.agg #[.slice GA10 Gm10 Gc10, .slice GA11 Gm11 Gc11, .slice GA12 Gm12 Gc12, .slice GA8 Gm8 Gc8, .slice GA9 Gm9 Gc9], .bool V], .agg #[.slice GA10 Gm10 Gc10, .slice GA11 Gm11 Gc11, .slice GA12 Gm12 Gc12, .slice GA8 Gm8 Gc8, .slice GA9 Gm9 Gc9], .bool V, .agg #[.slice GA10 Gm10 Gc10, .slice GA11 Gm11 Gc11, .slice GA12 Gm12 Gc12, .slice GA8 Gm8 Gc8, .slice GA9 Gm9 Gc9], .agg #[.slice SA10 Sm10 Sc10, .slice SA11 Sm11 Sc11, .slice SA12 Sm12 Sc12, .slice SA8 Sm8 Sc8, .slice SA9 Sm9 Sc9], .bool true, .bool false, .bool false, .bool V, .bool V, .bool false, .bool false, .agg #[.int .i64 m.deg, .int .i64 m.st, .int .i64 m.msg, .slice CA0 Cm0 Cc0, .slice CA1 Cm1 Cc1, .slice CA2 Cm2 Cc2, .slice CA3 Cm3 Cc3], .agg #[.int .i64 m.deg, .int .i64 m.st, .int .i64 m.msg, .slice A0 m0 c0, .slice A1 m1 c1, .slice A2 m2 c2, .slice A3 m3 c3], .agg #[.int .i64 m.deg, .int .i64 m.st, .int .i64 m.msg, .slice EA0 Em0 Ec0, .slice EA1 Em1 Ec1, .slice EA2 Em2 Ec2, .slice EA3 Em3 Ec3], .bool true, .bool false, .agg #[.slice CA4 Cm4 Cc4, .slice CA5 Cm5 Cc5, .slice CA6 Cm6 Cc6], .agg #[.slice A4 m4 c4, .slice A5 m5 c5, .slice A6 m6 c6], .agg #[.slice EA4 Em4 Ec4, .slice EA5 Em5 Ec5, .slice EA6 Em6 Ec6], .bool true, .bool false, .agg #[.int .i64 m.deg, .int .i64 m.st, .int .i64 m.msg, .slice CA0 Cm0 Cc0, .slice CA1 Cm1 Cc1, .slice CA2 Cm2 Cc2, .slice CA3 Cm3 Cc3], .int .i64 1, .int .i64 k1, .agg #[.slice CA4 Cm4 Cc4, .slice CA5 Cm5 Cc5, .slice CA6 Cm6 Cc6], .int .i64 k1, .int .i64 k2, .int .i64 k2, .bool (decide (k2 < 0)), .bool (decide (k2 < 0)), .agg #[.slice GA10 Gm10 Gc10, .slice GA11 Gm11 Gc11, .slice GA12 Gm12 Gc12, .slice GA8 Gm8 Gc8, .slice GA9 Gm9 Gc9], .agg #[.slice SA10 Sm10 Sc10, .slice SA11 Sm11 Sc11, .slice SA12 Sm12 Sc12, .slice SA8 Sm8 Sc8, .slice SA9 Sm9 Sc9], .bool true, .bool false, .bool (decide (k2 < 0)), .bool (decide (k2 < 0)), .bool V, .bool V, .bool false, .bool (decide (k2 < 0)), .agg #[.slice GA10 Gm10 Gc10, .slice GA11 Gm11 Gc11, .slice GA12 Gm12 Gc12, .slice GA8 Gm8 Gc8, .slice GA9 Gm9 Gc9], .int .i64 1, .int .i64 (1 + ↑T), .agg #[.slice GA10 Gm10 Gc10, .slice GA11 Gm11 Gc11, .slice GA12 Gm12 Gc12, .slice GA8 Gm8 Gc8, .slice GA9 Gm9 Gc9], .int .i64 1, .int .i64 (1 + ↑T), .int .i64 (1 + ↑T), .bool (decide (1 + ↑T < 0)), .int .i64 (1 + ↑T), .int .i64 (1 + ↑T), .bool false, .tuple #[.agg #[.slice TA10 Tm10 Tc10, .slice TA11 Tm11 Tc11, .slice TA12 Tm12 Tc12, .slice TA8 Tm8 Tc8, .slice TA9 Tm9 Tc9], .bool V], .agg #[.int .i64 m.deg, .int .i64 m.st, .int .i64 m.msg, .slice A0 m0 c0, .slice A1 m1 c1, .slice A2 m2 c2, .slice A3 m3 c3], b100, .agg #[.slice A4 m4 c4, .slice A5 m5 c5, .slice A6 m6 c6], b102, .int .i64 r, .tuple #[.agg #[.slice TA10 Tm10 Tc10, .slice TA11 Tm11 Tc11, .slice TA12 Tm12 Tc12, .slice TA8 Tm8 Tc8, .slice TA9 Tm9 Tc9], .bool V], .agg #[.slice TA10 Tm10 Tc10, .slice TA11 Tm11 Tc11, .slice TA12 Tm12 Tc12, .slice TA8 Tm8 Tc8, .slice TA9 Tm9 Tc9], .bool V, undef, undef, undef, undef, undef, undef, undef, undef, undef, undef, undef, undef, undef, undef, undef, undef, undef], []⟩ W := by
     intro w40 PH b100 b102 TA10 Tm10 Tc10 TA11 Tm11 Tc11 TA12 Tm12 Tc12 TA8 Tm8 Tc8 TA9 Tm9 Tc9 hbw40 hPPH hbr
     refine hrest _ _ ?_
     clear hrest
     obtain ⟨valT, e0, e1, e2, e3, e4, hab⟩ := hbr
     have hPPHl := hab.lt
     have HET := Lib.hid (And.intro e0 (And.intro e1 (And.intro e2 (And.intro e3 e4))))
     have hbx := hab.box
     rw [← e0, ← e1, ← e2, ← e3, ← e4] at hbx
     have HGT := Lib.hid hab
     have HBT := Lib.hid hbx
     clear e0 e1 e2 e3 e4 hab hbx
     have hzhbw40 := hbw40.size
     replace HM := bk HM hbw40
     replace HD := bk HD hbw40
     replace HBS := bk HBS hbw40
     replace HBG := bk HBG hbw40
     replace hB3 := bl_trans hB3 hbw40
     replace hB := bl_trans hB hbw40
     replace HR := Lib.hid (HR.out.up hbw40)
     replace HN := Lib.hid (HN.out.up hbw40)
     replace HS := Lib.hid (HS.out.up hbw40)
     replace HK := Lib.hid (HK.out.keep (grown_below hbw40))
     have HU := Lib.hid (reads_at HGT.out HIS.out.1 HET.out)
     clear HGT HET
     obtain ⟨⟨s0, s1, s2⟩, ⟨s3, s4⟩, sf⟩ := cells5 HBS
     obtain ⟨⟨t0, t1, t2⟩, ⟨t3, t4⟩, tf⟩ := cells5 HBT
     go_wp2_with fail
     clear s0 s1 s2 s3 s4 t0 t1 t2 t3 t4 sf tf
     refine (eq_Asy _ _ _ _ _ _ _ _ _ _ yy w40 HU.out HS.out).mono ?_
     rintro e w41 ⟨rfl, hb41⟩
     have hzhb41 := hb41.size
     replace HM := bk HM hb41
     replace HD := bk HD hb41
     replace HBS := bk HBS hb41
     replace HBG := bk HBG hb41
     replace HBT := bk HBT hb41
     replace hB3 := bl_trans hB3 hb41
     replace hB := bl_trans hB hb41
     replace HR := Lib.hid (HR.out.up hb41)
     replace HN := Lib.hid (HN.out.up hb41)
     replace HS := Lib.hid (HS.out.up hb41)
     replace HK := Lib.hid (HK.out.keep (grown_below hb41))
     replace HU := Lib.hid (HU.out.up hb41)
     obtain ⟨⟨l0, l1, l2⟩, ⟨l3, l4⟩, lf⟩ := cells5 HBG
     go_wp2_with fail
     clear l0 l1 l2 l3 l4 lf
     have hC := held_AsyK (base := gu) (val := val) (x := yy) RM 1 w41 HK.out HL.out HH.out (by omega) (by rw [HTT.out]; omega)
     rw [HAG.out, HTT.out] at hC
     refine hC.mono ?_
     clear hC
     rintro e w42 ⟨rfl, hb42⟩
     have hzhb42 := hb42.size
     replace HM := bk HM hb42
     replace HD := bk HD hb42
     replace HBS := bk HBS hb42
     replace HBG := bk HBG hb42
     replace HBT := bk HBT hb42
     replace hB3 := bl_trans hB3 hb42
     replace hB := bl_trans hB hb42
     replace HR := Lib.hid (HR.out.up hb42)
     replace HN := Lib.hid (HN.out.up hb42)
     replace HS := Lib.hid (HS.out.up hb42)
     replace HK := Lib.hid (HK.out.keep (grown_below hb42))
     replace HU := Lib.hid (HU.out.up hb42)
     go_wp2_with fail
     go_ret
     exact ⟨rfl, by first | exact hB | exact hB.drew⟩
    have FIN := Lib.hid FIN0
    clear FIN0 hrest
    have hbW := Below.refl w33.heap.size w33
    clear HBS HBG
    clear HS HK
    refine wp_region_held_drew (S := fun w' => w'.heap[w.heap.size]? = some (.cells #[.int .i64 m.deg, .int .i64 m.st, .int .i64 m.msg, .slice A0 m0 c0, .slice A1 m1 c1, .slice A2 m2 c2, .slice A3 m3 c3] 26 (0, 0)) ∧ w'.heap[P1]? = some (.cells #[.slice A4 m4 c4, .slice A5 m5 c5, .slice A6 m6 c6] 29 (0, 0))) (by kernel_rfl) ?_ (fun hHeld => ?_)
    ·
     exact ⟨HM.out, HD.out⟩
    obtain ⟨wr, hwr⟩ : ∃ z, z = w33.drew := ⟨_, rfl⟩
    rw [← hwr] at hHeld ⊢
    have hbr : Below w33.heap.size w33 wr := by rw [hwr]; exact (Below.refl _ _).drew
    clear hwr
    have hzhbr := hbr.size
    replace HM := bk HM hbr
    replace HD := bk HD hbr
    replace hbW := bl_trans hbW hbr
    replace hB := bl_trans hB hbr
    replace HR := Lib.hid (HR.out.up hbr)
    replace HN := Lib.hid (HN.out.up hbr)
    refine tk 0 99 rfl rfl ?_ (hy := fun w hSw => by obtain ⟨⟨g0, g1, g2⟩, ⟨g3, g4, g5, g6⟩, gf⟩ := cells7 (Lib.hid hSw.1); go_simp <;> with_reducible rfl)
    try simp only [Act.put, pu]
    refine tk 2 101 rfl rfl ?_ (hy := fun w hSw => by obtain ⟨q0, q1, q2, qf⟩ := cells3 (Lib.hid hSw.2); go_simp <;> with_reducible rfl)
    try simp only [Act.put, pu]
    refine stk 4 103 ?_
    refine wpAnyH_ready (rs := [1, 9]) (by kernel_rfl) (by simp) ?_
    refine AllReadyH.cons rfl (fun K hK => ?_) (AllReadyH.cons rfl (fun K hK => ?_) AllReadyH.nil)
    ·
     go_simp
     go_at_call 7
     refine (to_Mach _ _ _ _ m wr HR.out hs1).mono ?_
     rintro e wx1 ⟨z0, z1, z2, z3, rfl, hq, hbx1⟩
     obtain ⟨⟨FA0, Fm0, Fc0, rfl⟩, ⟨FA1, Fm1, Fc1, rfl⟩, ⟨FA2, Fm2, Fc2, rfl⟩, FA3, Fm3, Fc3, rfl⟩ := hq.slices
     have KM := Lib.hid hq
     clear hq
     have hzhbx1 := hbx1.size
     replace HM := bk HM hbx1
     replace HD := bk HD hbx1
     replace hbW := bl_trans hbW hbx1
     replace hB := bl_trans hB hbx1
     replace HR := Lib.hid (HR.out.up hbx1)
     replace HN := Lib.hid (HN.out.up hbx1)
     refine hK.out _ _ ?_ (fun hHeld => ?_)
     ·
      exact ⟨HM.out, HD.out⟩
     clear hK K
     try simp only [Act.put, pu]
     refine wpAnyH_ready (rs := [3, 9]) (by kernel_rfl) (by simp) ?_
     refine AllReadyH.cons rfl (fun K hK => ?_) (AllReadyH.cons rfl (fun K hK => ?_) AllReadyH.nil)
     ·
      go_simp
      go_at_call 8
      refine (to_Net _ _ _ n wx1 HN.out hs2).mono ?_
      rintro e wx2 ⟨z0, z1, z2, rfl, hq, hbx2⟩
      obtain ⟨⟨FA4, Fm4, Fc4, rfl⟩, ⟨FA5, Fm5, Fc5, rfl⟩, FA6, Fm6, Fc6, rfl⟩ := hq.slices
      have KN := Lib.hid hq
      clear hq
      have hzhbx2 := hbx2.size
      replace HM := bk HM hbx2
      replace HD := bk HD hbx2
      replace hbW := bl_trans hbW hbx2
      replace hB := bl_trans hB hbx2
      replace HR := Lib.hid (HR.out.up hbx2)
      replace HN := Lib.hid (HN.out.up hbx2)
      replace KM := Lib.hid (KM.out.up hbx2)
      refine hK.out _ _ ?_ (fun hHeld => ?_)
      ·
       exact ⟨HM.out, HD.out⟩
      clear hK K
      try simp only [Act.put, pu]
      refine wpAnyH_ready (rs := [5, 9]) (by kernel_rfl) (by simp) ?_
      refine AllReadyH.cons rfl (fun K hK => ?_) (AllReadyH.cons rfl (fun K hK => ?_) AllReadyH.nil)
      ·
       go_simp
       go_at_call 9
       obtain ⟨wc, hwc⟩ : ∃ z, z = wx2.heap.size := ⟨_, rfl⟩
       have hC := impl_CompleteRounds _ _ _ _ m _ _ _ n r wx2 KM.out KN.out hes1 hes2
       rw [HV.out, HYY.out] at hC
       (try unfold machV at hC)
       refine hC.mono ?_
       clear hC
       rintro e wx5 ⟨val, rfl, hk, hbx5⟩
       obtain ⟨v10, e10⟩ : ∃ z, z = val .r := ⟨_, rfl⟩
       obtain ⟨v11, e11⟩ : ∃ z, z = val .b := ⟨_, rfl⟩
       obtain ⟨v12, e12⟩ : ∃ z, z = val .n := ⟨_, rfl⟩
       obtain ⟨v8, e8⟩ : ∃ z, z = val .s := ⟨_, rfl⟩
       obtain ⟨v9, e9⟩ : ∃ z, z = val .f := ⟨_, rfl⟩
       rw [← e10, ← e11, ← e12, ← e8, ← e9]
       obtain ⟨TA10, Tm10, Tc10, TA11, Tm11, Tc11, TA12, Tm12, Tc12, TA8, Tm8, Tc8, TA9, Tm9, Tc9, rfl, rfl, rfl, rfl, rfl⟩ := heads5 hk e10 e11 e12 e8 e9
       have HEV := Lib.hid (And.intro e10 (And.intro e11 (And.intro e12 (And.intro e8 e9))))
       clear e10 e11 e12 e8 e9
       have hrg : ∀ j, keyOf yy j → ∀ q, (val j).ownBlock = some q → wc ≤ q ∧ q < wx5.heap.size := fun j hj q hq => by rw [hwc]; exact (hk.own j hj).lt q hq
       have HKR := Lib.hid (show AsyK wx5 wc val yy by rw [hwc]; exact hk)
       clear hk
       have hzhbx5 := hbx5.size
       replace HM := bk HM hbx5
       replace HD := bk HD hbx5
       replace hbW := bl_trans hbW hbx5
       replace hB := bl_trans hB hbx5
       replace HR := Lib.hid (HR.out.up hbx5)
       replace HN := Lib.hid (HN.out.up hbx5)
       replace KM := Lib.hid (KM.out.up hbx5)
       replace KN := Lib.hid (KN.out.up hbx5)
       refine hK.out _ _ ?_ (fun hHeld => ?_)
       ·
        exact ⟨HM.out, HD.out⟩
       clear hK K
       try simp only [Act.put, pu]
       refine stk 6 98 ?_
       refine stk 7 105 ?_
       refine stk 8 106 ?_
       refine wpAnyH_ready (rs := [9]) (by kernel_rfl) (by simp) ?_
       refine AllReadyH.cons rfl (fun K hK => ?_) AllReadyH.nil
       go_simp
       obtain ⟨PX, wA, hPX, hwA, hbA, HT, hPc⟩ := box_at wx5 nilV nilV nilV nilV nilV 34
       unfold nilV at hwA HT
       rw [hPX, ← hwA]
       clear hwA
       have hzhbA := hbA.size
       replace HM := bk HM hbA
       replace HD := bk HD hbA
       replace hbW := bl_trans hbW hbA
       replace hB := bl_trans hB hbA
       replace HR := Lib.hid (HR.out.up hbA)
       replace HN := Lib.hid (HN.out.up hbA)
       replace KM := Lib.hid (KM.out.up hbA)
       replace KN := Lib.hid (KN.out.up hbA)
       replace HKR := Lib.hid (AsyK.up HKR.out hbA)
       refine hK.out _ _ ?_ (fun hHeld => ?_)
       ·
        exact ⟨HM.out, HD.out⟩
       clear hK K
       try simp only [Act.put, pu]
       refine wpAnyH_ready (rs := [10]) (by kernel_rfl) (by simp) ?_
       refine AllReadyH.cons rfl (fun K hK => ?_) AllReadyH.nil
       obtain ⟨⟨t0, t1, t2⟩, ⟨t3, t4⟩, tf⟩ := cells5 HT
       go_simp
       obtain ⟨we, hwe, HE, hge⟩ := set5 HT (.slice TA10 Tm10 Tc10) (.slice TA11 Tm11 Tc11) (.slice TA12 Tm12 Tc12) (.slice TA8 Tm8 Tc8) (.slice TA9 Tm9 Tc9)
       rw [← hwe]
       clear hwe t0 t1 t2 t3 t4 tf
       replace HM := Lib.hid ((hge.block w.heap.size (by omega) (fun h => by have e := Option.some.inj h; omega)).trans HM.out)
       replace HD := Lib.hid ((hge.block P1 (by omega) (fun h => by have e := Option.some.inj h; omega)).trans HD.out)
       refine hK.out _ _ ?_ (fun hHeld => ?_)
       ·
        exact ⟨HM.out, HD.out⟩
       clear hK K
       try simp only [Act.put, pu]
       refine stk 11 18 ?_
       refine wpAnyH_done (by kernel_rfl) ?_ _
       exact FIN.out we PX _ _ _ _ _ _ _ _ _ _ _ _ _ _ _ _ _ (grown_at hbW hge (by omega)) (by omega) (BoxR.leaf HEV.out HKR.out hge hrg (by omega) (by omega) HE)
      ·
       go_simp
       obtain ⟨PX, wA, hPX, hwA, hbA, HT, hPc⟩ := box_at wx2 nilV nilV nilV nilV nilV 34
       unfold nilV at hwA HT
       rw [hPX, ← hwA]
       clear hwA
       have hzhbA := hbA.size
       replace HM := bk HM hbA
       replace HD := bk HD hbA
       replace hbW := bl_trans hbW hbA
       replace hB := bl_trans hB hbA
       replace HR := Lib.hid (HR.out.up hbA)
       replace HN := Lib.hid (HN.out.up hbA)
       replace KM := Lib.hid (KM.out.up hbA)
       replace KN := Lib.hid (KN.out.up hbA)
       refine hK.out _ _ ?_ (fun hHeld => ?_)
       ·
        exact ⟨HM.out, HD.out⟩
       clear hK K
       try simp only [Act.put, pu]
       refine wpAnyH_ready (rs := [5]) (by kernel_rfl) (by simp) ?_
       refine AllReadyH.cons rfl (fun K hK => ?_) AllReadyH.nil
       go_simp
       go_at_call 9
       obtain ⟨wc, hwc⟩ : ∃ z, z = wA.heap.size := ⟨_, rfl⟩
       have hC := impl_CompleteRounds _ _ _ _ m _ _ _ n r wA KM.out KN.out hes1 hes2
       rw [HV.out, HYY.out] at hC
       (try unfold machV at hC)
       refine hC.mono ?_
       clear hC
       rintro e wx5 ⟨val, rfl, hk, hbx5⟩
       obtain ⟨v10, e10⟩ : ∃ z, z = val .r := ⟨_, rfl⟩
       obtain ⟨v11, e11⟩ : ∃ z, z = val .b := ⟨_, rfl⟩
       obtain ⟨v12, e12⟩ : ∃ z, z = val .n := ⟨_, rfl⟩
       obtain ⟨v8, e8⟩ : ∃ z, z = val .s := ⟨_, rfl⟩
       obtain ⟨v9, e9⟩ : ∃ z, z = val .f := ⟨_, rfl⟩
       rw [← e10, ← e11, ← e12, ← e8, ← e9]
       obtain ⟨TA10, Tm10, Tc10, TA11, Tm11, Tc11, TA12, Tm12, Tc12, TA8, Tm8, Tc8, TA9, Tm9, Tc9, rfl, rfl, rfl, rfl, rfl⟩ := heads5 hk e10 e11 e12 e8 e9
       have HEV := Lib.hid (And.intro e10 (And.intro e11 (And.intro e12 (And.intro e8 e9))))
       clear e10 e11 e12 e8 e9
       have hrg : ∀ j, keyOf yy j → ∀ q, (val j).ownBlock = some q → wc ≤ q ∧ q < wx5.heap.size := fun j hj q hq => by rw [hwc]; exact (hk.own j hj).lt q hq
       have HKR := Lib.hid (show AsyK wx5 wc val yy by rw [hwc]; exact hk)
       clear hk
       have hzhbx5 := hbx5.size
       replace HM := bk HM hbx5
       replace HD := bk HD hbx5
       replace HT := bk HT hbx5
       replace hbW := bl_trans hbW hbx5
       replace hB := bl_trans hB hbx5
       replace HR := Lib.hid (HR.out.up hbx5)
       replace HN := Lib.hid (HN.out.up hbx5)
       replace KM := Lib.hid (KM.out.up hbx5)
       replace KN := Lib.hid (KN.out.up hbx5)
       refine hK.out _ _ ?_ (fun hHeld => ?_)
       ·
        exact ⟨HM.out, HD.out⟩
       clear hK K
       try simp only [Act.put, pu]
       refine stk 6 98 ?_
       refine stk 7 105 ?_
       refine stk 8 106 ?_
       refine wpAnyH_ready (rs := [10]) (by kernel_rfl) (by simp) ?_
       refine AllReadyH.cons rfl (fun K hK => ?_) AllReadyH.nil
       obtain ⟨⟨t0, t1, t2⟩, ⟨t3, t4⟩, tf⟩ := cells5 HT
       go_simp
       obtain ⟨we, hwe, HE, hge⟩ := set5 HT (.slice TA10 Tm10 Tc10) (.slice TA11 Tm11 Tc11) (.slice TA12 Tm12 Tc12) (.slice TA8 Tm8 Tc8) (.slice TA9 Tm9 Tc9)
       rw [← hwe]
       clear hwe t0 t1 t2 t3 t4 tf
       replace HM := Lib.hid ((hge.block w.heap.size (by omega) (fun h => by have e := Option.some.inj h; omega)).trans HM.out)
       replace HD := Lib.hid ((hge.block P1 (by omega) (fun h => by have e := Option.some.inj h; omega)).trans HD.out)
       refine hK.out _ _ ?_ (fun hHeld => ?_)
       ·
        exact ⟨HM.out, HD.out⟩
       clear hK K
       try simp only [Act.put, pu]
       refine stk 11 18 ?_
       refine wpAnyH_done (by kernel_rfl) ?_ _
       exact FIN.out we PX _ _ _ _ _ _ _ _ _ _ _ _ _ _ _ _ _ (grown_at hbW hge (by omega)) (by omega) (BoxR.leaf HEV.out HKR.out hge hrg (by omega) (by omega) HE)
     ·
      go_simp
      obtain ⟨PX, wA, hPX, hwA, hbA, HT, hPc⟩ := box_at wx1 nilV nilV nilV nilV nilV 34
      unfold nilV at hwA HT
      rw [hPX, ← hwA]
      clear hwA
      have hzhbA := hbA.size
      replace HM := bk HM hbA
      replace HD := bk HD hbA
      replace hbW := bl_trans hbW hbA
      replace hB := bl_trans hB hbA
      replace HR := Lib.hid (HR.out.up hbA)
      replace HN := Lib.hid (HN.out.up hbA)
      replace KM := Lib.hid (KM.out.up hbA)
      refine hK.out _ _ ?_ (fun hHeld => ?_)
      ·
       exact ⟨HM.out, HD.out⟩
      clear hK K
      try simp only [Act.put, pu]
      refine wpAnyH_ready (rs := [3]) (by kernel_rfl) (by simp) ?_
      refine AllReadyH.cons rfl (fun K hK => ?_) AllReadyH.nil
      go_simp
      go_at_call 8
      refine (to_Net _ _ _ n wA HN.out hs2).mono ?_
      rintro e wx2 ⟨z0, z1, z2, rfl, hq, hbx2⟩
      obtain ⟨⟨FA4, Fm4, Fc4, rfl⟩, ⟨FA5, Fm5, Fc5, rfl⟩, FA6, Fm6, Fc6, rfl⟩ := hq.slices
      have KN := Lib.hid hq
      clear hq
      have hzhbx2 := hbx2.size
      replace HM := bk HM hbx2
      replace HD := bk HD hbx2
      replace HT := bk HT hbx2
      replace hbW := bl_trans hbW hbx2
      replace hB := bl_trans hB hbx2
      replace HR := Lib.hid (HR.out.up hbx2)
      replace HN := Lib.hid (HN.out.up hbx2)
      replace KM := Lib.hid (KM.out.up hbx2)
      refine hK.out _ _ ?_ (fun hHeld => ?_)
      ·
       exact ⟨HM.out, HD.out⟩
      clear hK K
      try simp only [Act.put, pu]
      refine wpAnyH_ready (rs := [5]) (by kernel_rfl) (by simp) ?_
      refine AllReadyH.cons rfl (fun K hK => ?_) AllReadyH.nil
      go_simp
      go_at_call 9
      obtain ⟨wc, hwc⟩ : ∃ z, z = wx2.heap.size := ⟨_, rfl⟩
      have hC := impl_CompleteRounds _ _ _ _ m _ _ _ n r wx2 KM.out KN.out hes1 hes2
      rw [HV.out, HYY.out] at hC
      (try unfold machV at hC)
      refine hC.mono ?_
      clear hC
      rintro e wx5 ⟨val, rfl, hk, hbx5⟩
      obtain ⟨v10, e10⟩ : ∃ z, z = val .r := ⟨_, rfl⟩
      obtain ⟨v11, e11⟩ : ∃ z, z = val .b := ⟨_, rfl⟩
      obtain ⟨v12, e12⟩ : ∃ z, z = val .n := ⟨_, rfl⟩
      obtain ⟨v8, e8⟩ : ∃ z, z = val .s := ⟨_, rfl⟩
      obtain ⟨v9, e9⟩ : ∃ z, z = val .f := ⟨_, rfl⟩
      rw [← e10, ← e11, ← e12, ← e8, ← e9]
      obtain ⟨TA10, Tm10, Tc10, TA11, Tm11, Tc11, TA12, Tm12, Tc12, TA8, Tm8, Tc8, TA9, Tm9, Tc9, rfl, rfl, rfl, rfl, rfl⟩ := heads5 hk e10 e11 e12 e8 e9
      have HEV := Lib.hid (And.intro e10 (And.intro e11 (And.intro e12 (And.intro e8 e9))))
      clear e10 e11 e12 e8 e9
      have hrg : ∀ j, keyOf yy j → ∀ q, (val j).ownBlock = some q → wc ≤ q ∧ q < wx5.heap.size := fun j hj q hq => by rw [hwc]; exact (hk.own j hj).lt q hq
      have HKR := Lib.hid (show AsyK wx5 wc val yy by rw [hwc]; exact hk)
      clear hk
      have hzhbx5 := hbx5.size
      replace HM := bk HM hbx5
      replace HD := bk HD hbx5
      replace HT := bk HT hbx5
      replace hbW := bl_trans hbW hbx5
      replace hB := bl_trans hB hbx5
      replace HR := Lib.hid (HR.out.up hbx5)
      replace HN := Lib.hid (HN.out.up hbx5)
      replace KM := Lib.hid (KM.out.up hbx5)
      replace KN := Lib.hid (KN.out.up hbx5)
      refine hK.out _ _ ?_ (fun hHeld => ?_)
      ·
       exact ⟨HM.out, HD.out⟩
      clear hK K
      try simp only [Act.put, pu]
      refine stk 6 98 ?_
      refine stk 7 105 ?_
      refine stk 8 106 ?_
      refine wpAnyH_ready (rs := [10]) (by kernel_rfl) (by simp) ?_
      refine AllReadyH.cons rfl (fun K hK => ?_) AllReadyH.nil
      obtain ⟨⟨t0, t1, t2⟩, ⟨t3, t4⟩, tf⟩ := cells5 HT
      go_simp
      obtain ⟨we, hwe, HE, hge⟩ := set5 HT (.slice TA10 Tm10 Tc10) (.slice TA11 Tm11 Tc11) (.slice TA12 Tm12 Tc12) (.slice TA8 Tm8 Tc8) (.slice TA9 Tm9 Tc9)
      rw [← hwe]
      clear hwe t0 t1 t2 t3 t4 tf
      replace HM := Lib.hid ((hge.block w.heap.size (by omega) (fun h => by have e := Option.some.inj h; omega)).trans HM.out)
      replace HD := Lib.hid ((hge.block P1 (by omega) (fun h => by have e := Option.some.inj h; omega)).trans HD.out)
      refine hK.out _ _ ?_ (fun hHeld => ?_)
      ·
       exact ⟨HM.out, HD.out⟩
      clear hK K
      try simp only [Act.put, pu]
      refine stk 11 18 ?_
      refine wpAnyH_done (by kernel_rfl) ?_ _
      exact FIN.out we PX _ _ _ _ _ _ _ _ _ _ _ _ _ _ _ _ _ (grown_at hbW hge (by omega)) (by omega) (BoxR.leaf HEV.out HKR.out hge hrg (by omega) (by omega) HE)
    ·
     go_simp
     obtain ⟨PX, wA, hPX, hwA, hbA, HT, hPc⟩ := box_at wr nilV nilV nilV nilV nilV 34
     unfold nilV at hwA HT
     rw [hPX, ← hwA]
     clear hwA
     have hzhbA := hbA.size
     replace HM := bk HM hbA
     replace HD := bk HD hbA
     replace hbW := bl_trans hbW hbA
     replace hB := bl_trans hB hbA
     replace HR := Lib.hid (HR.out.up hbA)
     replace HN := Lib.hid (HN.out.up hbA)
     refine hK.out _ _ ?_ (fun hHeld => ?_)
     ·
      exact ⟨HM.out, HD.out⟩
     clear hK K
     try simp only [Act.put, pu]
     refine wpAnyH_ready (rs := [1]) (by kernel_rfl) (by simp) ?_
     refine AllReadyH.cons rfl (fun K hK => ?_) AllReadyH.nil
     go_simp
     go_at_call 7
     refine (to_Mach _ _ _ _ m wA HR.out hs1).mono ?_
     rintro e wx1 ⟨z0, z1, z2, z3, rfl, hq, hbx1⟩
     obtain ⟨⟨FA0, Fm0, Fc0, rfl⟩, ⟨FA1, Fm1, Fc1, rfl⟩, ⟨FA2, Fm2, Fc2, rfl⟩, FA3, Fm3, Fc3, rfl⟩ := hq.slices
     have KM := Lib.hid hq
     clear hq
     have hzhbx1 := hbx1.size
     replace HM := bk HM hbx1
     replace HD := bk HD hbx1
     replace HT := bk HT hbx1
     replace hbW := bl_trans hbW hbx1
     replace hB := bl_trans hB hbx1
     replace HR := Lib.hid (HR.out.up hbx1)
     replace HN := Lib.hid (HN.out.up hbx1)
     refine hK.out _ _ ?_ (fun hHeld => ?_)
     ·
      exact ⟨HM.out, HD.out⟩
     clear hK K
     try simp only [Act.put, pu]
     refine wpAnyH_ready (rs := [3]) (by kernel_rfl) (by simp) ?_
     refine AllReadyH.cons rfl (fun K hK => ?_) AllReadyH.nil
     go_simp
     go_at_call 8
     refine (to_Net _ _ _ n wx1 HN.out hs2).mono ?_
     rintro e wx2 ⟨z0, z1, z2, rfl, hq, hbx2⟩
     obtain ⟨⟨FA4, Fm4, Fc4, rfl⟩, ⟨FA5, Fm5, Fc5, rfl⟩, FA6, Fm6, Fc6, rfl⟩ := hq.slices
     have KN := Lib.hid hq
     clear hq
     have hzhbx2 := hbx2.size
     replace HM := bk HM hbx2
     replace HD := bk HD hbx2
     replace HT := bk HT hbx2
     replace hbW := bl_trans hbW hbx2
     replace hB := bl_trans hB hbx2
     replace HR := Lib.hid (HR.out.up hbx2)
     replace HN := Lib.hid (HN.out.up hbx2)
     replace KM := Lib.hid (KM.out.up hbx2)
     refine hK.out _ _ ?_ (fun hHeld => ?_)
     ·
      exact ⟨HM.out, HD.out⟩
     clear hK K
     try simp only [Act.put, pu]
     refine wpAnyH_ready (rs := [5]) (by kernel_rfl) (by simp) ?_
     refine AllReadyH.cons rfl (fun K hK => ?_) AllReadyH.nil
     go_simp
     go_at_call 9
     obtain ⟨wc, hwc⟩ : ∃ z, z = wx2.heap.size := ⟨_, rfl⟩
     have hC := impl_CompleteRounds _ _ _ _ m _ _ _ n r wx2 KM.out KN.out hes1 hes2
     rw [HV.out, HYY.out] at hC
     (try unfold machV at hC)
     refine hC.mono ?_
     clear hC
     rintro e wx5 ⟨val, rfl, hk, hbx5⟩
     obtain ⟨v10, e10⟩ : ∃ z, z = val .r := ⟨_, rfl⟩
     obtain ⟨v11, e11⟩ : ∃ z, z = val .b := ⟨_, rfl⟩
     obtain ⟨v12, e12⟩ : ∃ z, z = val .n := ⟨_, rfl⟩
     obtain ⟨v8, e8⟩ : ∃ z, z = val .s := ⟨_, rfl⟩
     obtain ⟨v9, e9⟩ : ∃ z, z = val .f := ⟨_, rfl⟩
     rw [← e10, ← e11, ← e12, ← e8, ← e9]
     obtain ⟨TA10, Tm10, Tc10, TA11, Tm11, Tc11, TA12, Tm12, Tc12, TA8, Tm8, Tc8, TA9, Tm9, Tc9, rfl, rfl, rfl, rfl, rfl⟩ := heads5 hk e10 e11 e12 e8 e9
     have HEV := Lib.hid (And.intro e10 (And.intro e11 (And.intro e12 (And.intro e8 e9))))
     clear e10 e11 e12 e8 e9
     have hrg : ∀ j, keyOf yy j → ∀ q, (val j).ownBlock = some q → wc ≤ q ∧ q < wx5.heap.size := fun j hj q hq => by rw [hwc]; exact (hk.own j hj).lt q hq
     have HKR := Lib.hid (show AsyK wx5 wc val yy by rw [hwc]; exact hk)
     clear hk
     have hzhbx5 := hbx5.size
     replace HM := bk HM hbx5
     replace HD := bk HD hbx5
     replace HT := bk HT hbx5
     replace hbW := bl_trans hbW hbx5
     replace hB := bl_trans hB hbx5
     replace HR := Lib.hid (HR.out.up hbx5)
     replace HN := Lib.hid (HN.out.up hbx5)
     replace KM := Lib.hid (KM.out.up hbx5)
     replace KN := Lib.hid (KN.out.up hbx5)
     refine hK.out _ _ ?_ (fun hHeld => ?_)
     ·
      exact ⟨HM.out, HD.out⟩
     clear hK K
     try simp only [Act.put, pu]
     refine stk 6 98 ?_
     refine stk 7 105 ?_
     refine stk 8 106 ?_
     refine wpAnyH_ready (rs := [10]) (by kernel_rfl) (by simp) ?_
     refine AllReadyH.cons rfl (fun K hK => ?_) AllReadyH.nil
     obtain ⟨⟨t0, t1, t2⟩, ⟨t3, t4⟩, tf⟩ := cells5 HT
     go_simp
     obtain ⟨we, hwe, HE, hge⟩ := set5 HT (.slice TA10 Tm10 Tc10) (.slice TA11 Tm11 Tc11) (.slice TA12 Tm12 Tc12) (.slice TA8 Tm8 Tc8) (.slice TA9 Tm9 Tc9)
     rw [← hwe]
     clear hwe t0 t1 t2 t3 t4 tf
     replace HM := Lib.hid ((hge.block w.heap.size (by omega) (fun h => by have e := Option.some.inj h; omega)).trans HM.out)
     replace HD := Lib.hid ((hge.block P1 (by omega) (fun h => by have e := Option.some.inj h; omega)).trans HD.out)
     refine hK.out _ _ ?_ (fun hHeld => ?_)
     ·
      exact ⟨HM.out, HD.out⟩
     clear hK K
     try simp only [Act.put, pu]
     refine stk 11 18 ?_
     refine wpAnyH_done (by kernel_rfl) ?_ _
     exact FIN.out we PX _ _ _ _ _ _ _ _ _ _ _ _ _ _ _ _ _ (grown_at hbW hge (by omega)) (by omega) (BoxR.leaf HEV.out HKR.out hge hrg (by omega) (by omega) HE)
   have FIN := Lib.hid FIN0
   clear FIN0 hrest
   have hbW := Below.refl w6.heap.size w6
   refine wp_region_held_drew (S := fun w' => w'.heap[w.heap.size]? = some (.cells #[.int .i64 m.deg, .int .i64 m.st, .int .i64 m.msg, .slice A0 m0 c0, .slice A1 m1 c1, .slice A2 m2 c2, .slice A3 m3 c3] 26 (0, 0)) ∧ w'.heap[P1]? = some (.cells #[.slice A4 m4 c4, .slice A5 m5 c5, .slice A6 m6 c6] 29 (0, 0))) (by kernel_rfl) ?_ (fun hHeld => ?_)
   ·
    exact ⟨HM.out, HD.out⟩
   obtain ⟨wr, hwr⟩ : ∃ z, z = w6.drew := ⟨_, rfl⟩
   rw [← hwr] at hHeld ⊢
   have hbr : Below w6.heap.size w6 wr := by rw [hwr]; exact (Below.refl _ _).drew
   clear hwr
   have hzhbr := hbr.size
   replace HM := bk HM hbr
   replace HD := bk HD hbr
   replace hbW := bl_trans hbW hbr
   replace hB := bl_trans hB hbr
   replace HR := Lib.hid (HR.out.up hbr)
   replace HN := Lib.hid (HN.out.up hbr)
   refine tk 0 30 rfl rfl ?_ (hy := fun w hSw => by obtain ⟨⟨g0, g1, g2⟩, ⟨g3, g4, g5, g6⟩, gf⟩ := cells7 (Lib.hid hSw.1); go_simp <;> with_reducible rfl)
   try simp only [Act.put, pu]
   refine tk 2 32 rfl rfl ?_ (hy := fun w hSw => by obtain ⟨q0, q1, q2, qf⟩ := cells3 (Lib.hid hSw.2); go_simp <;> with_reducible rfl)
   try simp only [Act.put, pu]
   refine stk 4 34 ?_
   refine wpAnyH_ready (rs := [1, 9]) (by kernel_rfl) (by simp) ?_
   refine AllReadyH.cons rfl (fun K hK => ?_) (AllReadyH.cons rfl (fun K hK => ?_) AllReadyH.nil)
   ·
    go_simp
    go_at_call 7
    refine (to_Mach _ _ _ _ m wr HR.out hs1).mono ?_
    rintro e wx1 ⟨z0, z1, z2, z3, rfl, hq, hbx1⟩
    obtain ⟨⟨BA0, Bm0, Bc0, rfl⟩, ⟨BA1, Bm1, Bc1, rfl⟩, ⟨BA2, Bm2, Bc2, rfl⟩, BA3, Bm3, Bc3, rfl⟩ := hq.slices
    have KM := Lib.hid hq
    clear hq
    have hzhbx1 := hbx1.size
    replace HM := bk HM hbx1
    replace HD := bk HD hbx1
    replace hbW := bl_trans hbW hbx1
    replace hB := bl_trans hB hbx1
    replace HR := Lib.hid (HR.out.up hbx1)
    replace HN := Lib.hid (HN.out.up hbx1)
    refine hK.out _ _ ?_ (fun hHeld => ?_)
    ·
     exact ⟨HM.out, HD.out⟩
    clear hK K
    try simp only [Act.put, pu]
    refine wpAnyH_ready (rs := [3, 9]) (by kernel_rfl) (by simp) ?_
    refine AllReadyH.cons rfl (fun K hK => ?_) (AllReadyH.cons rfl (fun K hK => ?_) AllReadyH.nil)
    ·
     go_simp
     go_at_call 8
     refine (to_Net _ _ _ n wx1 HN.out hs2).mono ?_
     rintro e wx2 ⟨z0, z1, z2, rfl, hq, hbx2⟩
     obtain ⟨⟨BA4, Bm4, Bc4, rfl⟩, ⟨BA5, Bm5, Bc5, rfl⟩, BA6, Bm6, Bc6, rfl⟩ := hq.slices
     have KN := Lib.hid hq
     clear hq
     have hzhbx2 := hbx2.size
     replace HM := bk HM hbx2
     replace HD := bk HD hbx2
     replace hbW := bl_trans hbW hbx2
     replace hB := bl_trans hB hbx2
     replace HR := Lib.hid (HR.out.up hbx2)
     replace HN := Lib.hid (HN.out.up hbx2)
     replace KM := Lib.hid (KM.out.up hbx2)
     refine hK.out _ _ ?_ (fun hHeld => ?_)
     ·
      exact ⟨HM.out, HD.out⟩
     clear hK K
     try simp only [Act.put, pu]
     refine wpAnyH_ready (rs := [5, 9]) (by kernel_rfl) (by simp) ?_
     refine AllReadyH.cons rfl (fun K hK => ?_) (AllReadyH.cons rfl (fun K hK => ?_) AllReadyH.nil)
     ·
      go_simp
      go_at_call 6
      obtain ⟨wc, hwc⟩ : ∃ z, z = wx2.heap.size := ⟨_, rfl⟩
      have hC := spec_CompleteRounds _ _ _ _ m _ _ _ n r wx2 KM.out KN.out hes1
      rw [HV.out, HYY.out] at hC
      (try unfold machV at hC)
      refine hC.mono ?_
      clear hC
      rintro e wx5 ⟨val, rfl, hk, hbx5⟩
      obtain ⟨v10, e10⟩ : ∃ z, z = val .r := ⟨_, rfl⟩
      obtain ⟨v11, e11⟩ : ∃ z, z = val .b := ⟨_, rfl⟩
      obtain ⟨v12, e12⟩ : ∃ z, z = val .n := ⟨_, rfl⟩
      obtain ⟨v8, e8⟩ : ∃ z, z = val .s := ⟨_, rfl⟩
      obtain ⟨v9, e9⟩ : ∃ z, z = val .f := ⟨_, rfl⟩
      rw [← e10, ← e11, ← e12, ← e8, ← e9]
      obtain ⟨SA10, Sm10, Sc10, SA11, Sm11, Sc11, SA12, Sm12, Sc12, SA8, Sm8, Sc8, SA9, Sm9, Sc9, rfl, rfl, rfl, rfl, rfl⟩ := heads5 hk e10 e11 e12 e8 e9
      have HEV := Lib.hid (And.intro e10 (And.intro e11 (And.intro e12 (And.intro e8 e9))))
      clear e10 e11 e12 e8 e9
      have hrg : ∀ j, keyOf yy j → ∀ q, (val j).ownBlock = some q → wc ≤ q ∧ q < wx5.heap.size := fun j hj q hq => by rw [hwc]; exact (hk.own j hj).lt q hq
      have HKR := Lib.hid (show AsyK wx5 wc val yy by rw [hwc]; exact hk)
      clear hk
      have hzhbx5 := hbx5.size
      replace HM := bk HM hbx5
      replace HD := bk HD hbx5
      replace hbW := bl_trans hbW hbx5
      replace hB := bl_trans hB hbx5
      replace HR := Lib.hid (HR.out.up hbx5)
      replace HN := Lib.hid (HN.out.up hbx5)
      replace KM := Lib.hid (KM.out.up hbx5)
      replace KN := Lib.hid (KN.out.up hbx5)
      refine hK.out _ _ ?_ (fun hHeld => ?_)
      ·
       exact ⟨HM.out, HD.out⟩
      clear hK K
      try simp only [Act.put, pu]
      refine stk 6 29 ?_
      refine stk 7 36 ?_
      refine stk 8 37 ?_
      refine wpAnyH_ready (rs := [9]) (by kernel_rfl) (by simp) ?_
      refine AllReadyH.cons rfl (fun K hK => ?_) AllReadyH.nil
      go_simp
      obtain ⟨PX, wA, hPX, hwA, hbA, HT, hPc⟩ := box_at wx5 nilV nilV nilV nilV nilV 34
      unfold nilV at hwA HT
      rw [hPX, ← hwA]
      clear hwA
      have hzhbA := hbA.size
      replace HM := bk HM hbA
      replace HD := bk HD hbA
      replace hbW := bl_trans hbW hbA
      replace hB := bl_trans hB hbA
      replace HR := Lib.hid (HR.out.up hbA)
      replace HN := Lib.hid (HN.out.up hbA)
      replace KM := Lib.hid (KM.out.up hbA)
      replace KN := Lib.hid (KN.out.up hbA)
      replace HKR := Lib.hid (AsyK.up HKR.out hbA)
      refine hK.out _ _ ?_ (fun hHeld => ?_)
      ·
       exact ⟨HM.out, HD.out⟩
      clear hK K
      try simp only [Act.put, pu]
      refine wpAnyH_ready (rs := [10]) (by kernel_rfl) (by simp) ?_
      refine AllReadyH.cons rfl (fun K hK => ?_) AllReadyH.nil
      obtain ⟨⟨t0, t1, t2⟩, ⟨t3, t4⟩, tf⟩ := cells5 HT
      go_simp
      obtain ⟨we, hwe, HE, hge⟩ := set5 HT (.slice SA10 Sm10 Sc10) (.slice SA11 Sm11 Sc11) (.slice SA12 Sm12 Sc12) (.slice SA8 Sm8 Sc8) (.slice SA9 Sm9 Sc9)
      rw [← hwe]
      clear hwe t0 t1 t2 t3 t4 tf
      replace HM := Lib.hid ((hge.block w.heap.size (by omega) (fun h => by have e := Option.some.inj h; omega)).trans HM.out)
      replace HD := Lib.hid ((hge.block P1 (by omega) (fun h => by have e := Option.some.inj h; omega)).trans HD.out)
      refine hK.out _ _ ?_ (fun hHeld => ?_)
      ·
       exact ⟨HM.out, HD.out⟩
      clear hK K
      try simp only [Act.put, pu]
      refine stk 11 9 ?_
      refine wpAnyH_done (by kernel_rfl) ?_ _
      exact FIN.out we PX _ _ _ _ _ _ _ _ _ _ _ _ _ _ _ _ _ (grown_at hbW hge (by omega)) (by omega) (BoxR.leaf HEV.out HKR.out hge hrg (by omega) (by omega) HE)
     ·
      go_simp
      obtain ⟨PX, wA, hPX, hwA, hbA, HT, hPc⟩ := box_at wx2 nilV nilV nilV nilV nilV 34
      unfold nilV at hwA HT
      rw [hPX, ← hwA]
      clear hwA
      have hzhbA := hbA.size
      replace HM := bk HM hbA
      replace HD := bk HD hbA
      replace hbW := bl_trans hbW hbA
      replace hB := bl_trans hB hbA
      replace HR := Lib.hid (HR.out.up hbA)
      replace HN := Lib.hid (HN.out.up hbA)
      replace KM := Lib.hid (KM.out.up hbA)
      replace KN := Lib.hid (KN.out.up hbA)
      refine hK.out _ _ ?_ (fun hHeld => ?_)
      ·
       exact ⟨HM.out, HD.out⟩
      clear hK K
      try simp only [Act.put, pu]
      refine wpAnyH_ready (rs := [5]) (by kernel_rfl) (by simp) ?_
      refine AllReadyH.cons rfl (fun K hK => ?_) AllReadyH.nil
      go_simp
      go_at_call 6
      obtain ⟨wc, hwc⟩ : ∃ z, z = wA.heap.size := ⟨_, rfl⟩
      have hC := spec_CompleteRounds _ _ _ _ m _ _ _ n r wA KM.out KN.out hes1
      rw [HV.out, HYY.out] at hC
      (try unfold machV at hC)
      refine hC.mono ?_
      clear hC
      rintro e wx5 ⟨val, rfl, hk, hbx5⟩
      obtain ⟨v10, e10⟩ : ∃ z, z = val .r := ⟨_, rfl⟩
      obtain ⟨v11, e11⟩ : ∃ z, z = val .b := ⟨_, rfl⟩
      obtain ⟨v12, e12⟩ : ∃ z, z = val .n := ⟨_, rfl⟩
      obtain ⟨v8, e8⟩ : ∃ z, z = val .s := ⟨_, rfl⟩
      obtain ⟨v9, e9⟩ : ∃ z, z = val .f := ⟨_, rfl⟩
      rw [← e10, ← e11, ← e12, ← e8, ← e9]
      obtain ⟨SA10, Sm10, Sc10, SA11, Sm11, Sc11, SA12, Sm12, Sc12, SA8, Sm8, Sc8, SA9, Sm9, Sc9, rfl, rfl, rfl, rfl, rfl⟩ := heads5 hk e10 e11 e12 e8 e9
      have HEV := Lib.hid (And.intro e10 (And.intro e11 (And.intro e12 (And.intro e8 e9))))
      clear e10 e11 e12 e8 e9
      have hrg : ∀ j, keyOf yy j → ∀ q, (val j).ownBlock = some q → wc ≤ q ∧ q < wx5.heap.size := fun j hj q hq => by rw [hwc]; exact (hk.own j hj).lt q hq
      have HKR := Lib.hid (show AsyK wx5 wc val yy by rw [hwc]; exact hk)
      clear hk
      have hzhbx5 := hbx5.size
      replace HM := bk HM hbx5
      replace HD := bk HD hbx5
      replace HT := bk HT hbx5
      replace hbW := bl_trans hbW hbx5
      replace hB := bl_trans hB hbx5
      replace HR := Lib.hid (HR.out.up hbx5)
      replace HN := Lib.hid (HN.out.up hbx5)
      replace KM := Lib.hid (KM.out.up hbx5)
      replace KN := Lib.hid (KN.out.up hbx5)
      refine hK.out _ _ ?_ (fun hHeld => ?_)
      ·
       exact ⟨HM.out, HD.out⟩
      clear hK K
      try simp only [Act.put, pu]
      refine stk 6 29 ?_
      refine stk 7 36 ?_
      refine stk 8 37 ?_
      refine wpAnyH_ready (rs := [10]) (by kernel_rfl) (by simp) ?_
      refine AllReadyH.cons rfl (fun K hK => ?_) AllReadyH.nil
      obtain ⟨⟨t0, t1, t2⟩, ⟨t3, t4⟩, tf⟩ := cells5 HT
      go_simp
      obtain ⟨we, hwe, HE, hge⟩ := set5 HT (.slice SA10 Sm10 Sc10) (.slice SA11 Sm11 Sc11) (.slice SA12 Sm12 Sc12) (.slice SA8 Sm8 Sc8) (.slice SA9 Sm9 Sc9)
      rw [← hwe]
      clear hwe t0 t1 t2 t3 t4 tf
      replace HM := Lib.hid ((hge.block w.heap.size (by omega) (fun h => by have e := Option.some.inj h; omega)).trans HM.out)
      replace HD := Lib.hid ((hge.block P1 (by omega) (fun h => by have e := Option.some.inj h; omega)).trans HD.out)
      refine hK.out _ _ ?_ (fun hHeld => ?_)
      ·
       exact ⟨HM.out, HD.out⟩
      clear hK K
      try simp only [Act.put, pu]
      refine stk 11 9 ?_
      refine wpAnyH_done (by kernel_rfl) ?_ _
      exact FIN.out we PX _ _ _ _ _ _ _ _ _ _ _ _ _ _ _ _ _ (grown_at hbW hge (by omega)) (by omega) (BoxR.leaf HEV.out HKR.out hge hrg (by omega) (by omega) HE)
    ·
     go_simp
     obtain ⟨PX, wA, hPX, hwA, hbA, HT, hPc⟩ := box_at wx1 nilV nilV nilV nilV nilV 34
     unfold nilV at hwA HT
     rw [hPX, ← hwA]
     clear hwA
     have hzhbA := hbA.size
     replace HM := bk HM hbA
     replace HD := bk HD hbA
     replace hbW := bl_trans hbW hbA
     replace hB := bl_trans hB hbA
     replace HR := Lib.hid (HR.out.up hbA)
     replace HN := Lib.hid (HN.out.up hbA)
     replace KM := Lib.hid (KM.out.up hbA)
     refine hK.out _ _ ?_ (fun hHeld => ?_)
     ·
      exact ⟨HM.out, HD.out⟩
     clear hK K
     try simp only [Act.put, pu]
     refine wpAnyH_ready (rs := [3]) (by kernel_rfl) (by simp) ?_
     refine AllReadyH.cons rfl (fun K hK => ?_) AllReadyH.nil
     go_simp
     go_at_call 8
     refine (to_Net _ _ _ n wA HN.out hs2).mono ?_
     rintro e wx2 ⟨z0, z1, z2, rfl, hq, hbx2⟩
     obtain ⟨⟨BA4, Bm4, Bc4, rfl⟩, ⟨BA5, Bm5, Bc5, rfl⟩, BA6, Bm6, Bc6, rfl⟩ := hq.slices
     have KN := Lib.hid hq
     clear hq
     have hzhbx2 := hbx2.size
     replace HM := bk HM hbx2
     replace HD := bk HD hbx2
     replace HT := bk HT hbx2
     replace hbW := bl_trans hbW hbx2
     replace hB := bl_trans hB hbx2
     replace HR := Lib.hid (HR.out.up hbx2)
     replace HN := Lib.hid (HN.out.up hbx2)
     replace KM := Lib.hid (KM.out.up hbx2)
     refine hK.out _ _ ?_ (fun hHeld => ?_)
     ·
      exact ⟨HM.out, HD.out⟩
     clear hK K
     try simp only [Act.put, pu]
     refine wpAnyH_ready (rs := [5]) (by kernel_rfl) (by simp) ?_
     refine AllReadyH.cons rfl (fun K hK => ?_) AllReadyH.nil
     go_simp
     go_at_call 6
     obtain ⟨wc, hwc⟩ : ∃ z, z = wx2.heap.size := ⟨_, rfl⟩
     have hC := spec_CompleteRounds _ _ _ _ m _ _ _ n r wx2 KM.out KN.out hes1
     rw [HV.out, HYY.out] at hC
     (try unfold machV at hC)
     refine hC.mono ?_
     clear hC
     rintro e wx5 ⟨val, rfl, hk, hbx5⟩
     obtain ⟨v10, e10⟩ : ∃ z, z = val .r := ⟨_, rfl⟩
     obtain ⟨v11, e11⟩ : ∃ z, z = val .b := ⟨_, rfl⟩
     obtain ⟨v12, e12⟩ : ∃ z, z = val .n := ⟨_, rfl⟩
     obtain ⟨v8, e8⟩ : ∃ z, z = val .s := ⟨_, rfl⟩
     obtain ⟨v9, e9⟩ : ∃ z, z = val .f := ⟨_, rfl⟩
     rw [← e10, ← e11, ← e12, ← e8, ← e9]
     obtain ⟨SA10, Sm10, Sc10, SA11, Sm11, Sc11, SA12, Sm12, Sc12, SA8, Sm8, Sc8, SA9, Sm9, Sc9, rfl, rfl, rfl, rfl, rfl⟩ := heads5 hk e10 e11 e12 e8 e9
     have HEV := Lib.hid (And.intro e10 (And.intro e11 (And.intro e12 (And.intro e8 e9))))
     clear e10 e11 e12 e8 e9
     have hrg : ∀ j, keyOf yy j → ∀ q, (val j).ownBlock = some q → wc ≤ q ∧ q < wx5.heap.size := fun j hj q hq => by rw [hwc]; exact (hk.own j hj).lt q hq
     have HKR := Lib.hid (show AsyK wx5 wc val yy by rw [hwc]; exact hk)
     clear hk
     have hzhbx5 := hbx5.size
     replace HM := bk HM hbx5
     replace HD := bk HD hbx5
     replace HT := bk HT hbx5
     replace hbW := bl_trans hbW hbx5
     replace hB := bl_trans hB hbx5
     replace HR := Lib.hid (HR.out.up hbx5)
     replace HN := Lib.hid (HN.out.up hbx5)
     replace KM := Lib.hid (KM.out.up hbx5)
     replace KN := Lib.hid (KN.out.up hbx5)
     refine hK.out _ _ ?_ (fun hHeld => ?_)
     ·
      exact ⟨HM.out, HD.out⟩
     clear hK K
     try simp only [Act.put, pu]
     refine stk 6 29 ?_
     refine stk 7 36 ?_
     refine stk 8 37 ?_
     refine wpAnyH_ready (rs := [10]) (by kernel_rfl) (by simp) ?_
     refine AllReadyH.cons rfl (fun K hK => ?_) AllReadyH.nil
     obtain ⟨⟨t0, t1, t2⟩, ⟨t3, t4⟩, tf⟩ := cells5 HT
     go_simp
     obtain ⟨we, hwe, HE, hge⟩ := set5 HT (.slice SA10 Sm10 Sc10) (.slice SA11 Sm11 Sc11) (.slice SA12 Sm12 Sc12) (.slice SA8 Sm8 Sc8) (.slice SA9 Sm9 Sc9)
     rw [← hwe]
     clear hwe t0 t1 t2 t3 t4 tf
     replace HM := Lib.hid ((hge.block w.heap.size (by omega) (fun h => by have e := Option.some.inj h; omega)).trans HM.out)
     replace HD := Lib.hid ((hge.block P1 (by omega) (fun h => by have e := Option.some.inj h; omega)).trans HD.out)
     refine hK.out _ _ ?_ (fun hHeld => ?_)
     ·
      exact ⟨HM.out, HD.out⟩
     clear hK K
     try simp only [Act.put, pu]
     refine stk 11 9 ?_
     refine wpAnyH_done (by kernel_rfl) ?_ _
     exact FIN.out we PX _ _ _ _ _ _ _ _ _ _ _ _ _ _ _ _ _ (grown_at hbW hge (by omega)) (by omega) (BoxR.leaf HEV.out HKR.out hge hrg (by omega) (by omega) HE)
   ·
    go_simp
    obtain ⟨PX, wA, hPX, hwA, hbA, HT, hPc⟩ := box_at wr nilV nilV nilV nilV nilV 34
    unfold nilV at hwA HT
    rw [hPX, ← hwA]
    clear hwA
    have hzhbA := hbA.size
    replace HM := bk HM hbA
    replace HD := bk HD hbA
    replace hbW := bl_trans hbW hbA
    replace hB := bl_trans hB hbA
    replace HR := Lib.hid (HR.out.up hbA)
    replace HN := Lib.hid (HN.out.up hbA)
    refine hK.out _ _ ?_ (fun hHeld => ?_)
    ·
     exact ⟨HM.out, HD.out⟩
    clear hK K
    try simp only [Act.put, pu]
    refine wpAnyH_ready (rs := [1]) (by kernel_rfl) (by simp) ?_
    refine AllReadyH.cons rfl (fun K hK => ?_) AllReadyH.nil
    go_simp
    go_at_call 7
    refine (to_Mach _ _ _ _ m wA HR.out hs1).mono ?_
    rintro e wx1 ⟨z0, z1, z2, z3, rfl, hq, hbx1⟩
    obtain ⟨⟨BA0, Bm0, Bc0, rfl⟩, ⟨BA1, Bm1, Bc1, rfl⟩, ⟨BA2, Bm2, Bc2, rfl⟩, BA3, Bm3, Bc3, rfl⟩ := hq.slices
    have KM := Lib.hid hq
    clear hq
    have hzhbx1 := hbx1.size
    replace HM := bk HM hbx1
    replace HD := bk HD hbx1
    replace HT := bk HT hbx1
    replace hbW := bl_trans hbW hbx1
    replace hB := bl_trans hB hbx1
    replace HR := Lib.hid (HR.out.up hbx1)
    replace HN := Lib.hid (HN.out.up hbx1)
    refine hK.out _ _ ?_ (fun hHeld => ?_)
    ·
     exact ⟨HM.out, HD.out⟩
    clear hK K
    try simp only [Act.put, pu]
    refine wpAnyH_ready (rs := [3]) (by kernel_rfl) (by simp) ?_
    refine AllReadyH.cons rfl (fun K hK => ?_) AllReadyH.nil
    go_simp
    go_at_call 8
    refine (to_Net _ _ _ n wx1 HN.out hs2).mono ?_
    rintro e wx2 ⟨z0, z1, z2, rfl, hq, hbx2⟩
    obtain ⟨⟨BA4, Bm4, Bc4, rfl⟩, ⟨BA5, Bm5, Bc5, rfl⟩, BA6, Bm6, Bc6, rfl⟩ := hq.slices
    have KN := Lib.hid hq
    clear hq
    have hzhbx2 := hbx2.size
    replace HM := bk HM hbx2
    replace HD := bk HD hbx2
    replace HT := bk HT hbx2
    replace hbW := bl_trans hbW hbx2
    replace hB := bl_trans hB hbx2
    replace HR := Lib.hid (HR.out.up hbx2)
    replace HN := Lib.hid (HN.out.up hbx2)
    replace KM := Lib.hid (KM.out.up hbx2)
    refine hK.out _ _ ?_ (fun hHeld => ?_)
    ·
     exact ⟨HM.out, HD.out⟩
    clear hK K
    try simp only [Act.put, pu]
    refine wpAnyH_ready (rs := [5]) (by kernel_rfl) (by simp) ?_
    refine AllReadyH.cons rfl (fun K hK => ?_) AllReadyH.nil
    go_simp
    go_at_call 6
    obtain ⟨wc, hwc⟩ : ∃ z, z = wx2.heap.size := ⟨_, rfl⟩
    have hC := spec_CompleteRounds _ _ _ _ m _ _ _ n r wx2 KM.out KN.out hes1
    rw [HV.out, HYY.out] at hC
    (try unfold machV at hC)
    refine hC.mono ?_
    clear hC
    rintro e wx5 ⟨val, rfl, hk, hbx5⟩
    obtain ⟨v10, e10⟩ : ∃ z, z = val .r := ⟨_, rfl⟩
    obtain ⟨v11, e11⟩ : ∃ z, z = val .b := ⟨_, rfl⟩
    obtain ⟨v12, e12⟩ : ∃ z, z = val .n := ⟨_, rfl⟩
    obtain ⟨v8, e8⟩ : ∃ z, z = val .s := ⟨_, rfl⟩
    obtain ⟨v9, e9⟩ : ∃ z, z = val .f := ⟨_, rfl⟩
    rw [← e10, ← e11, ← e12, ← e8, ← e9]
    obtain ⟨SA10, Sm10, Sc10, SA11, Sm11, Sc11, SA12, Sm12, Sc12, SA8, Sm8, Sc8, SA9, Sm9, Sc9, rfl, rfl, rfl, rfl, rfl⟩ := heads5 hk e10 e11 e12 e8 e9
    have HEV := Lib.hid (And.intro e10 (And.intro e11 (And.intro e12 (And.intro e8 e9))))
    clear e10 e11 e12 e8 e9
    have hrg : ∀ j, keyOf yy j → ∀ q, (val j).ownBlock = some q → wc ≤ q ∧ q < wx5.heap.size := fun j hj q hq => by rw [hwc]; exact (hk.own j hj).lt q hq
    have HKR := Lib.hid (show AsyK wx5 wc val yy by rw [hwc]; exact hk)
    clear hk
    have hzhbx5 := hbx5.size
    replace HM := bk HM hbx5
    replace HD := bk HD hbx5
    replace HT := bk HT hbx5
    replace hbW := bl_trans hbW hbx5
    replace hB := bl_trans hB hbx5
    replace HR := Lib.hid (HR.out.up hbx5)
    replace HN := Lib.hid (HN.out.up hbx5)
    replace KM := Lib.hid (KM.out.up hbx5)
    replace KN := Lib.hid (KN.out.up hbx5)
    refine hK.out _ _ ?_ (fun hHeld => ?_)
    ·
     exact ⟨HM.out, HD.out⟩
    clear hK K
    try simp only [Act.put, pu]
    refine stk 6 29 ?_
    refine stk 7 36 ?_
    refine stk 8 37 ?_
    refine wpAnyH_ready (rs := [10]) (by kernel_rfl) (by simp) ?_
    refine AllReadyH.cons rfl (fun K hK => ?_) AllReadyH.nil
    obtain ⟨⟨t0, t1, t2⟩, ⟨t3, t4⟩, tf⟩ := cells5 HT
    go_simp
    obtain ⟨we, hwe, HE, hge⟩ := set5 HT (.slice SA10 Sm10 Sc10) (.slice SA11 Sm11 Sc11) (.slice SA12 Sm12 Sc12) (.slice SA8 Sm8 Sc8) (.slice SA9 Sm9 Sc9)
    rw [← hwe]
    clear hwe t0 t1 t2 t3 t4 tf
    replace HM := Lib.hid ((hge.block w.heap.size (by omega) (fun h => by have e := Option.some.inj h; omega)).trans HM.out)
    replace HD := Lib.hid ((hge.block P1 (by omega) (fun h => by have e := Option.some.inj h; omega)).trans HD.out)
    refine hK.out _ _ ?_ (fun hHeld => ?_)
    ·
     exact ⟨HM.out, HD.out⟩
    clear hK K
    try simp only [Act.put, pu]
    refine stk 11 9 ?_
    refine wpAnyH_done (by kernel_rfl) ?_ _
    exact FIN.out we PX _ _ _ _ _ _ _ _ _ _ _ _ _ _ _ _ _ (grown_at hbW hge (by omega)) (by omega) (BoxR.leaf HEV.out HKR.out hge hrg (by omega) (by omega) HE)
  ·
   have hz : szR left1 (szNet n) < 0 := by unfold szR; rw [if_neg hs2]; omega
   generalize szR left1 (szNet n) = left at *
   go_wp2_with fail
   go_ret
   exact ⟨rfl, hB⟩
 ·
  have hz : szR 1048576 (szMach m) < 0 := by unfold szR; rw [if_neg hs1]; omega
  generalize szR 1048576 (szMach m) = left at *
  go_wp2_with fail
  go_ret
  exact ⟨rfl, hB⟩
end Go.Proofs.YtehkcodbcnhhoaaGreat.fnExactCompleteRounds
