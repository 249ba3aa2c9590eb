/-
  The reference's syCatch: an act made, a node's slots filled. No condition but that the state is one of the machine on the network.
-/
import Derived.Test.YtjklbjmdgiddcaaGreatGCatchI
import Derived.Test.YtjklbjmdgiddcaaGreatGHeldBG
namespace Go.Proofs.YtjklbjmdgiddcaaGreat
open Go.RowKit
set_option linter.all false
theorem no_tyK_cat : ¬ TyK 100 := by unfold TyK; decide
theorem AsyK.pastT {w w' : World} {base P : Nat} {val : Key → Value} {x : Asy} (h : AsyK w base val x) {cur : Array Value} {t : TypeId} {fz : Nat × Nat} (hP : w.heap[P]? = some (.cells cur t fz)) (ht : ¬ TyK t) (hg : w.grownBy w' (some P)) : AsyK w' base val x :=
  OwnK.apart h hg fun j hj => h.noTy hj hP ht
theorem Below.grow {w w' : World} (h : Below w.heap.size w w') (row : Option Nat) : w.grownBy w' row := ⟨h.os, h.tape, h.output, h.size, fun k hk _ => h.block k hk⟩
theorem cells16 {w : World} {b : Nat} {v0 v1 v2 v3 v4 v5 v6 v7 v8 v9 v10 v11 v12 v13 v14 v15 : Value} {t : TypeId} (H : Hid (w.heap[b]? = some (.cells #[v0, v1, v2, v3, v4, v5, v6, v7, v8, v9, v10, v11, v12, v13, v14, v15] t (0, 0)))) :
    (w.cell? ⟨b, 0, none⟩ = some v0 ∧ w.cell? ⟨b, 1, none⟩ = some v1 ∧ w.cell? ⟨b, 2, none⟩ = some v2 ∧ w.cell? ⟨b, 3, none⟩ = some v3 ∧ w.cell? ⟨b, 4, none⟩ = some v4 ∧ w.cell? ⟨b, 5, none⟩ = some v5 ∧ w.cell? ⟨b, 6, none⟩ = some v6) ∧
    (w.cell? ⟨b, 7, none⟩ = some v7 ∧ w.cell? ⟨b, 8, none⟩ = some v8 ∧ w.cell? ⟨b, 9, none⟩ = some v9) ∧
    (w.cell? ⟨b, 10, none⟩ = some v10 ∧ w.cell? ⟨b, 11, none⟩ = some v11 ∧ w.cell? ⟨b, 12, none⟩ = some v12 ∧ w.cell? ⟨b, 13, none⟩ = some v13 ∧ w.cell? ⟨b, 14, none⟩ = some v14) ∧
    w.cell? ⟨b, 15, none⟩ = some v15 ∧ ∀ i, w.frozen? ⟨b, i, none⟩ = false := by
  have h := fun i => cell_of_row w b i _ t (0, 0) H.out
  exact ⟨⟨h 0, h 1, h 2, h 3, h 4, h 5, h 6⟩, ⟨h 7, h 8, h 9⟩, ⟨h 10, h 11, h 12, h 13, h 14⟩, h 15, fun i => by unfold World.frozen?; rw [H.out]; simp⟩
theorem set5y {W : World} {P : Nat} {v0 v1 v2 v3 v4 v5 v6 v7 v8 v9 v10 v11 v12 v13 v14 v15 : Value} {t : TypeId} (H : Hid (W.heap[P]? = some (.cells #[v0, v1, v2, v3, v4, v5, v6, v7, v8, v9, v10, v11, v12, v13, v14, v15] t (0, 0)))) (a b c d e : Value) :
    ∃ w0, w0 = (((((W.setCell ⟨P, 10, none⟩ a).setCell ⟨P, 11, none⟩ b).setCell ⟨P, 12, none⟩ c).setCell ⟨P, 13, none⟩ d).setCell ⟨P, 14, none⟩ e) ∧
      Hid (w0.heap[P]? = some (.cells #[v0, v1, v2, v3, v4, v5, v6, v7, v8, v9, a, b, c, d, e, v15] t (0, 0))) ∧ W.grownBy w0 (some P) := by
  obtain ⟨w1, e1, h1, g1⟩ := set1 H.out 10 a;obtain ⟨w2, e2, h2, g2⟩ := set1 h1 11 b;obtain ⟨w3, e3, h3, g3⟩ := set1 h2 12 c;obtain ⟨w4, e4, h4, g4⟩ := set1 h3 13 d;obtain ⟨w5, e5, h5, g5⟩ := set1 h4 14 e;exact ⟨w5, by rw [e5, e4, e3, e2, e1], aA (by simpa using h5), grownT (grownT (grownT (grownT g1 g2) g3) g4) g5⟩
def csBox (m : Mach) (vs ve vc vo ne ni nn : Value) (val : Key → Value) (c : Nat) : Array Value :=
  #[.int .i64 m.deg, .int .i64 m.st, .int .i64 m.msg, vs, ve, vc, vo, ne, ni, nn, val .r, val .b, val .n, val .s, val .f, .int .i64 c]
structure CsB (m : Mach) (vs ve vc vo ne ni nn : Value) (w : World) (base : Nat) (val : Key → Value) (s : Asy × Nat) (Y : Nat) : Prop where
  k : AsyK w base val s.1
  box : w.heap[Y]? = some (.cells (csBox m vs ve vc vo ne ni nn val s.2) 100 (0, 0))
set_option maxRecDepth 100000 in
set_option maxHeartbeats 4000000 in
theorem spec_do (vs ve vc vo : Value) (m : Mach) (ne ni nn : Value) (n : Net) (val : Key → Value) (s : Asy × Nat) (base Y : Nat) (ak an ap aa : Int) (w : World) (hm0 : MachR w base vs ve vc vo m) (hn0 : NetR w base ne ni nn n) (hC : CsB m vs ve vc vo ne ni nn w base val s Y) (hbase : base ≤ w.heap.size) (hg : goodP m n s.1) (hc : s.2 ≤ 100000) :
  Calls Tryz.prog 60 #[.pointer (some ⟨Y, 0, none⟩), .agg #[.int .i64 ak, .int .i64 an, .int .i64 ap, .int .i64 aa]] w (fun e w' => e = .returned (.bool (mayB n s.1 ⟨ak, an, ap, aa⟩)) ∧ (∃ val', CsB m vs ve vc vo ne ni nn w' base val' (ctA m n s ⟨ak, an, ap, aa⟩) Y) ∧ w.grownBy w' (some Y)) := by
 have HC := aA hC;have HG := aA hg;have HM := aA (hm0.to (Below.refl _ _) hbase);have HN := aA (hn0.more hbase);have hbx := hC.box;unfold csBox at hbx;obtain ⟨⟨A0, m0, c0, rfl⟩, ⟨A1, m1, c1, rfl⟩, ⟨A2, m2, c2, rfl⟩, A3, m3, c3, rfl⟩ := hm0.slices;obtain ⟨⟨A4, m4, c4, rfl⟩, ⟨A5, m5, c5, rfl⟩, A6, m6, c6, rfl⟩ := hn0.slices;have hxr := AsyK.reads hC.k (I64A.good hg);obtain ⟨C10, f10, e_r⟩ := own_sl1 (hC.k.own .r trivial);obtain ⟨C11, f11, e_b⟩ := own_sl1 (hC.k.own .b trivial);obtain ⟨C12, f12, e_n⟩ := own_sl1 (hC.k.own .n trivial);obtain ⟨C8, f8, e_s⟩ := own_sl1 (hC.k.own .s trivial);obtain ⟨C9, f9, e_f⟩ := own_sl1 (hC.k.own .f trivial);have HEC := aA (And.intro e_r (And.intro e_b (And.intro e_n (And.intro e_s e_f))));rw [e_r, e_b, e_n, e_s, e_f] at hbx hxr;clear e_r e_b e_n e_s e_f;generalize (rowK s.1 val .r).len = l10 at HEC hbx hxr;generalize (rowK s.1 val .b).len = l11 at HEC hbx hxr;generalize (rowK s.1 val .n).len = l12 at HEC hbx hxr;generalize (rowK s.1 val .s).len = l8 at HEC hbx hxr;generalize (rowK s.1 val .f).len = l9 at HEC hbx hxr;have HY := aA hbx;have HXR := aA hxr;have hYw : Y < w.heap.size := heap_lt hbx;obtain ⟨bv, hbv⟩ : ∃ b, b = mayB n s.1 ⟨ak, an, ap, aa⟩ := ⟨_, rfl⟩
 have HBV := aA hbv;clear hbx hxr hC hg hm0 hn0 hbv;obtain ⟨w1, hw1, hb1, HA, hz1, HS1⟩ := box4a w (.int .i64 ak) (.int .i64 an) (.int .i64 ap) (.int .i64 aa) 84;have HY1 := bk HY hb1;have HW1 := aA hw1;have hzb1 := hb1.size;clear hw1;go_enter Tryz.func60, Tryz.ntmps60;go_wp2_with fail;rw [← HW1.out];rename_i K hrest;have FIN0 : ∀ (W : World) (PX : Nat) (b1 b2 b3 b4 b7 b8 b9 b10 b11 b12 b13 b14 b15 b16 b17 b18 b19 b20 b21 b22 b23 b24 b25 b26 b27 b28 b29 b30 b31 b32 b33 b34 b35 b36 : Value) (val' : Key → Value), Below w1.heap.size w1 W → AsyB W base val' (playX m n s.1 ⟨ak, an, ap, aa⟩) PX →
   K ⟨#[.pointer (some ⟨Y, 0, none⟩), b1, b2, b3, b4, .pointer (some ⟨PX, 0, none⟩), .bool bv, b7, b8, b9, b10, b11, b12, b13, b14, b15, b16, b17, b18, b19, b20, b21, b22, b23, b24, b25, b26, b27, b28, b29, b30, b31, b32, b33, b34, b35, b36], []⟩ W := by
  intro W PX b1 b2 b3 b4 b7 b8 b9 b10 b11 b12 b13 b14 b15 b16 b17 b18 b19 b20 b21 b22 b23 b24 b25 b26 b27 b28 b29 b30 b31 b32 b33 b34 b35 b36 val' hBW hk;refine hrest _ _ ?_;have HK0 := aA hk;clear hrest;have HYr := bk HY1 hBW;have hzW := hBW.size;obtain ⟨B10, d10, e_r⟩ := own_sl1 (hk.k.own .r trivial);obtain ⟨B11, d11, e_b⟩ := own_sl1 (hk.k.own .b trivial);obtain ⟨B12, d12, e_n⟩ := own_sl1 (hk.k.own .n trivial);obtain ⟨B8, d8, e_s⟩ := own_sl1 (hk.k.own .s trivial);obtain ⟨B9, d9, e_f⟩ := own_sl1 (hk.k.own .f trivial);have hbx := hk.box;have HEK := aA (And.intro e_r (And.intro e_b (And.intro e_n (And.intro e_s e_f))));rw [e_r, e_b, e_n, e_s, e_f] at hbx;clear e_r e_b e_n e_s e_f hk;generalize (rowK (playX m n s.1 ⟨ak, an, ap, aa⟩) val' .r).len = n10 at HEK hbx;generalize (rowK (playX m n s.1 ⟨ak, an, ap, aa⟩) val' .b).len = n11 at HEK hbx;generalize (rowK (playX m n s.1 ⟨ak, an, ap, aa⟩) val' .n).len = n12 at HEK hbx;generalize (rowK (playX m n s.1 ⟨ak, an, ap, aa⟩) val' .s).len = n8 at HEK hbx;generalize (rowK (playX m n s.1 ⟨ak, an, ap, aa⟩) val' .f).len = n9 at HEK hbx;have HXr := aA hbx;clear hbx;obtain ⟨⟨o0, o1, o2⟩, ⟨o3, o4⟩, of⟩ := cells5 HXr;obtain ⟨⟨g0, g1, g2, g3, g4, g5, g6⟩, ⟨q0, q1, q2⟩, ⟨y0, y1, y2, y3, y4⟩, c15, gf⟩ := cells16 HYr;obtain ⟨we, hwe, HE, hge⟩ := set5y HYr (.slice B10 n10 d10) (.slice B11 n11 d11) (.slice B12 n12 d12) (.slice B8 n8 d8) (.slice B9 n9 d9);have HWE := aA hwe;clear hwe;have hgW : w.grownBy we (some Y) := grownT (Below.grow (hb1.trans (hBW.mono hzb1)) _) hge;have hkE : AsyK we base val' (playX m n s.1 ⟨ak, an, ap, aa⟩) := AsyK.pastT HK0.out.k HYr.out no_tyK_cat hge;have HKE := aA hkE;have HGW := aA hgW;clear hkE hgW;cases hb : bv with
  | true =>
   rw [hb] at HBV;clear hb;have hw1' : IntKind.i64.wrap ((s.2 : Int) + 1) = (s.2 : Int) + 1 := aL _ (by omega);obtain ⟨wf, hwf, hHF, hgf⟩ := set1 HE.out 15 (.int .i64 ((s.2 : Int) + 1));have HWF := aA hwf
   have HF := aA (show (∃ val', CsB m (.slice A0 m0 c0) (.slice A1 m1 c1) (.slice A2 m2 c2) (.slice A3 m3 c3) (.slice A4 m4 c4) (.slice A5 m5 c5) (.slice A6 m6 c6) wf base val' (ctA m n s ⟨ak, an, ap, aa⟩) Y) ∧ w.grownBy wf (some Y) from by
    have e1 : ctA m n s ⟨ak, an, ap, aa⟩ = (playX m n s.1 ⟨ak, an, ap, aa⟩, s.2 + 1) := by unfold ctA; rw [if_pos (by rw [← HBV.out])]
    rw [e1];refine ⟨⟨val', AsyK.pastT HKE.out HE.out no_tyK_cat hgf, ?_⟩, grownT HGW.out hgf⟩;unfold csBox;rw [HEK.out.1, HEK.out.2.1, HEK.out.2.2.1, HEK.out.2.2.2.1, HEK.out.2.2.2.2]
    simpa using hHF)
   clear hwf hHF hgf;go_wp2_with fail;rw [← HWE.out];clear g0 g1 g2 g3 g4 g5 g6 q0 q1 q2 y0 y1 y2 y3 y4 c15 gf;obtain ⟨⟨g0, g1, g2, g3, g4, g5, g6⟩, ⟨q0, q1, q2⟩, ⟨y0, y1, y2, y3, y4⟩, c15, gf⟩ := cells16 HE;go_wp2_with fail;rw [← HWF.out];go_ret;exact ⟨by rw [← HBV.out]; rfl, HF.out⟩
  | false =>
   rw [hb] at HBV;clear hb
   have HF := aA (show (∃ val', CsB m (.slice A0 m0 c0) (.slice A1 m1 c1) (.slice A2 m2 c2) (.slice A3 m3 c3) (.slice A4 m4 c4) (.slice A5 m5 c5) (.slice A6 m6 c6) we base val' (ctA m n s ⟨ak, an, ap, aa⟩) Y) ∧ w.grownBy we (some Y) from by
    have e1 : ctA m n s ⟨ak, an, ap, aa⟩ = (playX m n s.1 ⟨ak, an, ap, aa⟩, s.2) := by unfold ctA; rw [if_neg (by rw [← HBV.out]; simp)]; rfl
    rw [e1];refine ⟨⟨val', HKE.out, ?_⟩, HGW.out⟩;unfold csBox;rw [HEK.out.1, HEK.out.2.1, HEK.out.2.2.1, HEK.out.2.2.2.1, HEK.out.2.2.2.2]
    exact HE.out)
   go_wp2_with fail;rw [← HWE.out];go_ret;exact ⟨by rw [← HBV.out]; rfl, HF.out⟩
 have FIN := aA FIN0;clear FIN0 hrest;refine aH (S := fun w' => Below w1.heap.size w1 w') (by kernel_rfl) ?_ (fun hHeld => ?_)
 · exact (Below.refl _ _).drew
 obtain ⟨wd, hwd⟩ : ∃ z, z = w1.drew := ⟨_, rfl⟩
 rw [← hwd] at hHeld ⊢;have hB1 : Below w1.heap.size w1 wd := hHeld;have hzd := hB1.size;clear hHeld hwd;refine stk 0 8 ?_;refine stk 1 9 ?_;refine stk 2 10 ?_;refine tk 3 11 rfl rfl ?_ (hy := fun w hSw => by obtain ⟨⟨g0, g1, g2, g3, g4, g5, g6⟩, ⟨q0, q1, q2⟩, ⟨y0, y1, y2, y3, y4⟩, c15, gf⟩ := cells16 (bk HY1 hSw); go_simp <;> with_reducible rfl)
 try simp only [Act.put, pu]
 refine stk 4 12 ?_;refine stk 5 13 ?_;refine stk 6 14 ?_;refine tk 7 15 rfl rfl ?_ (hy := fun w hSw => by obtain ⟨⟨g0, g1, g2, g3, g4, g5, g6⟩, ⟨q0, q1, q2⟩, ⟨y0, y1, y2, y3, y4⟩, c15, gf⟩ := cells16 (bk HY1 hSw); go_simp <;> with_reducible rfl)
 try simp only [Act.put, pu]
 refine stk 8 16 ?_;refine stk 9 17 ?_;refine stk 10 18 ?_;refine tk 11 19 rfl rfl ?_ (hy := fun w hSw => by obtain ⟨⟨g0, g1, g2, g3, g4, g5, g6⟩, ⟨q0, q1, q2⟩, ⟨y0, y1, y2, y3, y4⟩, c15, gf⟩ := cells16 (bk HY1 hSw); go_simp <;> with_reducible rfl)
 try simp only [Act.put, pu]
 refine tk 12 20 rfl rfl ?_ (hy := fun w hSw => by obtain ⟨⟨u0, u1⟩, ⟨u2, u3⟩, uf⟩ := cells4a (bk HA hSw); go_simp <;> with_reducible rfl)
 try simp only [Act.put, pu]
 refine aJ (rs := [13, 17]) (by kernel_rfl) (by simp) ?_;refine aI rfl (fun K hK => ?_) (aI rfl (fun K hK => ?_) AllReadyH.nil)
 ·
  go_simp;go_at_call 75;have hCC := spec_syDo _ _ _ _ m _ _ _ n _ _ _ _ _ s.1 ak an ap aa wd (HM.out.up (hb1.trans (hB1.mono hzb1))) (HN.out.up (hb1.trans (hB1.mono hzb1))) (HXR.out.up (hb1.trans (hB1.mono hzb1))) HG.out;unfold machV at hCC;refine hCC.mono ?_;clear hCC;rintro e w_13 ⟨ur, ub, un, us, uf, rfl, hb13, hdid⟩;rw [← HBV.out];have hd2 : Did (mayB n s.1 ⟨ak, an, ap, aa⟩) w_13 wd.heap.size (val .r) (val .b) (val .n) (val .s) (val .f) ur ub un us uf (doA m n s.1 ⟨ak, an, ap, aa⟩) := by rw [HEC.out.1, HEC.out.2.1, HEC.out.2.2.1, HEC.out.2.2.2.1, HEC.out.2.2.2.2];exact hdid
  obtain ⟨val', e0, e1, e2, e3, e4, hk13⟩ := hd2.play (AsyK.up HC.out.k (hb1.trans (hB1.mono hzb1))) hb13 (by omega);clear hdid hd2;obtain ⟨B10, d10, e_r⟩ := own_sl1 (hk13.own .r trivial);obtain ⟨B11, d11, e_b⟩ := own_sl1 (hk13.own .b trivial);obtain ⟨B12, d12, e_n⟩ := own_sl1 (hk13.own .n trivial);obtain ⟨B8, d8, e_s⟩ := own_sl1 (hk13.own .s trivial);obtain ⟨B9, d9, e_f⟩ := own_sl1 (hk13.own .f trivial);rw [e_r] at e0;rw [e_b] at e1;rw [e_n] at e2;rw [e_s] at e3;rw [e_f] at e4;have HEV := aA (And.intro e_r (And.intro e_b (And.intro e_n (And.intro e_s e_f))));clear e_r e_b e_n e_s e_f;generalize (rowK (playX m n s.1 ⟨ak, an, ap, aa⟩) val' .r).len = n10 at HEV e0;generalize (rowK (playX m n s.1 ⟨ak, an, ap, aa⟩) val' .b).len = n11 at HEV e1;generalize (rowK (playX m n s.1 ⟨ak, an, ap, aa⟩) val' .n).len = n12 at HEV e2;generalize (rowK (playX m n s.1 ⟨ak, an, ap, aa⟩) val' .s).len = n8 at HEV e3;generalize (rowK (playX m n s.1 ⟨ak, an, ap, aa⟩) val' .f).len = n9 at HEV e4;subst e0 e1 e2 e3 e4;have hz13 := hb13.size;replace hB1 := bl_trans hB1 hb13;refine hK.out _ _ hB1 (fun hHeld => ?_);clear hHeld hK K hb13
  try simp only [Act.put, pu]
  refine stk 14 7 ?_;refine stk 15 22 ?_;refine stk 16 23 ?_;refine aJ (rs := [17]) (by kernel_rfl) (by simp) ?_;refine aI rfl (fun K hK => ?_) AllReadyH.nil;go_simp;obtain ⟨PX, w_17, hPX, hw, hb17, HT, hPc⟩ := box_atP w_13 nilV nilV nilV nilV nilV 40;unfold nilV at hw HT;rw [hPX, ← hw];clear hw;replace hk13 := AsyK.up hk13 hb17;have hz17 := hb17.size;replace hB1 := bl_trans hB1 hb17;refine hK.out _ _ hB1 (fun hHeld => ?_);clear hHeld hK K hb17
  try simp only [Act.put, pu]
  refine aJ (rs := [18]) (by kernel_rfl) (by simp) ?_;refine aI rfl (fun K hK => ?_) AllReadyH.nil;obtain ⟨⟨t0, t1, t2⟩, ⟨t3, t4⟩, tf⟩ := cells5 HT;go_simp;obtain ⟨we, hwe, HE, hge⟩ := set5 HT (.slice B10 n10 d10) (.slice B11 n11 d11) (.slice B12 n12 d12) (.slice B8 n8 d8) (.slice B9 n9 d9);rw [← hwe];clear hwe t0 t1 t2 t3 t4 tf;refine hK.out _ _ (Below.grown hB1 hge (by omega) (fun k hk => by have e := aE (show some PX = some k from hk); omega)) (fun hHeld => ?_);clear hK K
  try simp only [Act.put, pu]
  refine stk 19 6 ?_;refine aK (by kernel_rfl) ?_ _;exact FIN.out we PX _ _ _ _ _ _ _ _ _ _ _ _ _ _ _ _ _ _ _ _ _ _ _ _ _ _ _ _ _ _ _ _ _ _ val' hHeld ⟨AsyK.past hk13 HT.out hge, fun j hj => AsyK.noTy hk13 hj HT.out no_tyK_state, by rw [HEV.out.1, HEV.out.2.1, HEV.out.2.2.1, HEV.out.2.2.2.1, HEV.out.2.2.2.2]; exact HE.out⟩
 ·
  go_simp;obtain ⟨PX, w_17, hPX, hw, hb17, HT, hPc⟩ := box_atP wd nilV nilV nilV nilV nilV 40;unfold nilV at hw HT;rw [hPX, ← hw];clear hw;have hz17 := hb17.size;replace hB1 := bl_trans hB1 hb17;refine hK.out _ _ hB1 (fun hHeld => ?_);clear hHeld hK K hb17
  try simp only [Act.put, pu]
  refine aJ (rs := [13]) (by kernel_rfl) (by simp) ?_;refine aI rfl (fun K hK => ?_) AllReadyH.nil;go_simp;go_at_call 75;have hCC := spec_syDo _ _ _ _ m _ _ _ n _ _ _ _ _ s.1 ak an ap aa w_17 (HM.out.up (hb1.trans (hB1.mono hzb1))) (HN.out.up (hb1.trans (hB1.mono hzb1))) (HXR.out.up (hb1.trans (hB1.mono hzb1))) HG.out;unfold machV at hCC;refine hCC.mono ?_;clear hCC;rintro e w_13 ⟨ur, ub, un, us, uf, rfl, hb13, hdid⟩;rw [← HBV.out];have hd2 : Did (mayB n s.1 ⟨ak, an, ap, aa⟩) w_13 w_17.heap.size (val .r) (val .b) (val .n) (val .s) (val .f) ur ub un us uf (doA m n s.1 ⟨ak, an, ap, aa⟩) := by rw [HEC.out.1, HEC.out.2.1, HEC.out.2.2.1, HEC.out.2.2.2.1, HEC.out.2.2.2.2];exact hdid
  obtain ⟨val', e0, e1, e2, e3, e4, hk13⟩ := hd2.play (AsyK.up HC.out.k (hb1.trans (hB1.mono hzb1))) hb13 (by omega);clear hdid hd2;obtain ⟨B10, d10, e_r⟩ := own_sl1 (hk13.own .r trivial);obtain ⟨B11, d11, e_b⟩ := own_sl1 (hk13.own .b trivial);obtain ⟨B12, d12, e_n⟩ := own_sl1 (hk13.own .n trivial);obtain ⟨B8, d8, e_s⟩ := own_sl1 (hk13.own .s trivial);obtain ⟨B9, d9, e_f⟩ := own_sl1 (hk13.own .f trivial);rw [e_r] at e0;rw [e_b] at e1;rw [e_n] at e2;rw [e_s] at e3;rw [e_f] at e4;have HEV := aA (And.intro e_r (And.intro e_b (And.intro e_n (And.intro e_s e_f))));clear e_r e_b e_n e_s e_f;generalize (rowK (playX m n s.1 ⟨ak, an, ap, aa⟩) val' .r).len = n10 at HEV e0;generalize (rowK (playX m n s.1 ⟨ak, an, ap, aa⟩) val' .b).len = n11 at HEV e1;generalize (rowK (playX m n s.1 ⟨ak, an, ap, aa⟩) val' .n).len = n12 at HEV e2;generalize (rowK (playX m n s.1 ⟨ak, an, ap, aa⟩) val' .s).len = n8 at HEV e3;generalize (rowK (playX m n s.1 ⟨ak, an, ap, aa⟩) val' .f).len = n9 at HEV e4;subst e0 e1 e2 e3 e4;replace HT := bk HT hb13;have hz13 := hb13.size;replace hB1 := bl_trans hB1 hb13;refine hK.out _ _ hB1 (fun hHeld => ?_);clear hHeld hK K hb13
  try simp only [Act.put, pu]
  refine stk 14 7 ?_;refine stk 15 22 ?_;refine stk 16 23 ?_;refine aJ (rs := [18]) (by kernel_rfl) (by simp) ?_;refine aI rfl (fun K hK => ?_) AllReadyH.nil;obtain ⟨⟨t0, t1, t2⟩, ⟨t3, t4⟩, tf⟩ := cells5 HT;go_simp;obtain ⟨we, hwe, HE, hge⟩ := set5 HT (.slice B10 n10 d10) (.slice B11 n11 d11) (.slice B12 n12 d12) (.slice B8 n8 d8) (.slice B9 n9 d9);rw [← hwe];clear hwe t0 t1 t2 t3 t4 tf;refine hK.out _ _ (Below.grown hB1 hge (by omega) (fun k hk => by have e := aE (show some PX = some k from hk); omega)) (fun hHeld => ?_);clear hK K
  try simp only [Act.put, pu]
  refine stk 19 6 ?_;refine aK (by kernel_rfl) ?_ _;exact FIN.out we PX _ _ _ _ _ _ _ _ _ _ _ _ _ _ _ _ _ _ _ _ _ _ _ _ _ _ _ _ _ _ _ _ _ _ val' hHeld ⟨AsyK.past hk13 HT.out hge, fun j hj => AsyK.noTy hk13 hj HT.out no_tyK_state, by rw [HEV.out.1, HEV.out.2.1, HEV.out.2.2.1, HEV.out.2.2.2.1, HEV.out.2.2.2.2]; exact HE.out⟩
def FlRel (N : Nat) (F : Nat → Asy × Nat) (m : Mach) (vs ve vc vo ne ni nn : Value) (base Y : Nat) (w : World) (i : Value) (wr : World) : Prop :=
  ∃ j : Nat, j ≤ N ∧ i = .int .i64 j ∧ (∃ val, CsB m vs ve vc vo ne ni nn wr base val (F j) Y) ∧ w.grownBy wr (some Y)
theorem grown_base {w wr : World} {base Y : Nat} (h : w.grownBy wr (some Y)) (hb : base ≤ w.heap.size) (hY : base ≤ Y) : Below base w wr :=
  Below.grown (Below.refl _ _) h hb (fun k hk => by have e := aE hk; omega)
set_option maxRecDepth 100000 in
set_option maxHeartbeats 4000000 in
theorem spec_fill (vs ve vc vo : Value) (m : Mach) (ne ni nn : Value) (n : Net) (val : Key → Value) (s : Asy × Nat) (base Y : Nat) (w : World) (hm0 : MachR w base vs ve vc vo m) (hn0 : NetR w base ne ni nn n) (hC : CsB m vs ve vc vo ne ni nn w base val s Y) (hbase : base ≤ w.heap.size) (hbY : base ≤ Y) (hg : goodP m n s.1)
  (v : Nat) (l : Ends) (hl : n.es[v]? = some l) (hc : s.2 + 2 * muA n s.1 ≤ 27000) :
  Calls Tryz.prog 63 #[.pointer (some ⟨Y, 0, none⟩), .int .i64 v] w (fun e w' => e = .returned (.tuple #[]) ∧ (∃ val', CsB m vs ve vc vo ne ni nn w' base val' (fillP m n v l.length s) Y) ∧ w.grownBy w' (some Y)) := by
 have HC := aA hC;have HG := aA hg;have HM0 := aA hm0;have HN0 := aA hn0;have HL := aA hl;have hl6 := deg_6 hg hl;have hvn := (aB.1 hl).1;have h40 := hg.1.2.1.1.2;obtain ⟨⟨A0, m0, c0, rfl⟩, ⟨A1, m1, c1, rfl⟩, ⟨A2, m2, c2, rfl⟩, A3, m3, c3, rfl⟩ := hm0.slices;have hne := hn0.e;obtain ⟨-, ⟨A5, m5, c5, rfl⟩, A6, m6, c6, rfl⟩ := hn0.slices;obtain ⟨A4, c4, rfl, hc4, hM4, hr4⟩ := hne;unfold maxLen at hM4;obtain ⟨ad4, hA4, ha4, hrow4⟩ := hr4 (by omega);obtain ⟨u4, hu4, hz4⟩ := hrow4 v l hl;obtain ⟨B4, d4, rfl, hd4, hD4, -, hz5⟩ := hz4;have HZ5 := aA hz5;have hxr := AsyK.reads hC.k (I64A.good hg);have hbx := hC.box;unfold csBox at hbx;obtain ⟨vr, evr⟩ : ∃ z, z = val .r := ⟨_, rfl⟩
 obtain ⟨vb, evb⟩ : ∃ z, z = val .b := ⟨_, rfl⟩
 obtain ⟨vn, evn⟩ : ∃ z, z = val .n := ⟨_, rfl⟩
 obtain ⟨vz, evz⟩ : ∃ z, z = val .s := ⟨_, rfl⟩
 obtain ⟨vf, evf⟩ : ∃ z, z = val .f := ⟨_, rfl⟩
 rw [← evr, ← evb, ← evn, ← evz, ← evf] at hxr hbx;obtain ⟨⟨D0, N0, K0, rfl⟩, ⟨D1, N1, K1, rfl⟩, ⟨D2, N2, K2, rfl⟩, ⟨D3, N3, K3, rfl⟩, ⟨D4, N4, K4, rfl⟩⟩ := hxr.slices;have HY := aA hbx;have hYw : Y < w.heap.size := heap_lt hbx;subst hA4;clear hxr hbx evr evb evn evz evf hC hg hm0 hn0 hl hr4 hrow4 hz5;obtain ⟨⟨g0, g1, g2, g3, g4, g5, g6⟩, ⟨q0, q1, q2⟩, ⟨y0, y1, y2, y3, y4⟩, c15, gf⟩ := cells16 HY;go_enter Tryz.func63, Tryz.ntmps63;go_wp2_with fail;clear g0 g1 g2 g3 g4 g5 g6 q0 q1 q2 y0 y1 y2 y3 y4 c15 gf;go_loopw [16] (fun i wr => FlRel l.length (fun j => fillP m n v j s) m (.slice A0 m0 c0) (.slice A1 m1 c1) (.slice A2 m2 c2) (.slice A3 m3 c3) (.slice (some ad4) n.es.length c4) (.slice A5 m5 c5) (.slice A6 m6 c6) base Y w i wr) (fun i _ => l.length - (intOf i).toNat)
 case atStart => exact ⟨0, Nat.zero_le _, rfl, ⟨val, HC.out⟩, ⟨rfl, rfl, rfl, Nat.le_refl _, fun _ _ _ => rfl⟩⟩
 case round =>
  obtain ⟨i, hi, rfl, ⟨vi, hk⟩, hgr⟩ := hrel;have hgu := good_fillP HG.out v i;have hadv := (adv_fillP HG.out HL.out i hi).le;obtain ⟨u, hu⟩ : ∃ u, u = fillP m n v i s := ⟨_, rfl⟩
  have hkj : CsB m (.slice A0 m0 c0) (.slice A1 m1 c1) (.slice A2 m2 c2) (.slice A3 m3 c3) (.slice (some ad4) n.es.length c4) (.slice A5 m5 c5) (.slice A6 m6 c6) wr base vi u Y := by rw [hu]; exact hk
  rw [← hu] at hgu hadv;have hbu : u.2 + 2 * muA n u.1 ≤ 27000 := by omega
  have HU := aA hu;have HGU := aA hgu;have HKU := aA hkj;have HGR := aA hgr;have hszj := hgr.size;have HBr := aA (grown_base hgr hbase hbY);clear hk hu hadv;by_cases hli : i < l.length
  ·
   have k1 : ((i : Int) < (l.length : Int)) = True := eq_true (by omega);obtain ⟨l2, sl, f, r, hat⟩ := at_of hgu.2 hvn;obtain rfl := aE (hat.hl.symm.trans HL.out);obtain ⟨en, he⟩ : ∃ e, l2[i]? = some e := ⟨_, aC hli⟩
   obtain ⟨k2, p2, l3, s3, f3, r2, ls2, e1, e2, hat2, hp2, hx⟩ := at_end hgu.2 HG.out.1.2.1 hat he;obtain rfl : en = ((k2 : Int), (p2 : Int)) := by rw [← e1, ← e2]
   obtain ⟨b5, o5, rfl, hb5, hc5⟩ := HZ5.out (by omega);obtain ⟨hc50, hc51⟩ := hc5 i _ he;have c50 := (HBr.out.cell (p := ⟨b5, o5 + i * 2, none⟩) hb5).trans hc50;have c51 := (HBr.out.cell (p := ⟨b5, o5 + i * 2 + 1, none⟩) hb5).trans hc51;have er : u.1.rounds.getD v 0 = r := by rw [aG, hat.hr]; rfl
   have er2 : u.1.rounds.getD k2 0 = r2 := by rw [aG, hat2.hr]; rfl
   have ee : endAt n v i = ((k2 : Int), (p2 : Int)) := by unfold endAt;simp only [aG, HL.out, Option.getD_some, he]
   obtain ⟨si, hsi⟩ : ∃ y, sl[i]? = some y := ⟨_, aC (by rw [hat.sl]; exact hli)⟩
   have hsg : (slotsAt u.1 v).getD i 0 = si := by rw [slotsAt_eq hat.hs, aG, hsi]; rfl
   have HFA := aA (show fillA m n v i u = (if si = -1 ∧ 0 ≤ r2 - r ∧ r2 - r ≤ 1 then if mayB n u.1 ⟨1, k2, p2, r2 - r⟩ = true then ctA m n (ctA m n u ⟨1, k2, p2, r2 - r⟩) ⟨2, v, i, ((lettersAt (ctA m n u ⟨1, k2, p2, r2 - r⟩).1 v i).length : Int) - 1⟩ else u else u) from by
    have eb : backA n u.1 v i = r2 - r := by unfold backA;rw [ee];show u.1.rounds.getD ((k2 : Int).toNat) 0 - _ = _;rw [Int.toNat_natCast, er, er2]
    unfold fillA
    rw [ee, eb, hsg])
   have hr0 := hat.r0;have hr20 := hat2.r0;have hk2n := hat2.lt;have hrl : k2 < u.1.rounds.length ∧ v < u.1.rounds.length := ⟨(aB.1 hat2.hr).1, (aB.1 hat.hr).1⟩
   have hsv : v < u.1.slots.length := (aB.1 hat.hs).1;have hil : i < sl.length := by rw [hat.sl]; exact hli
   have hxr := AsyK.reads hkj.k (I64A.good hgu);have hbx := hkj.box;unfold csBox at hbx;obtain ⟨vr, evr⟩ : ∃ z, z = vi .r := ⟨_, rfl⟩
   obtain ⟨vb, evb⟩ : ∃ z, z = vi .b := ⟨_, rfl⟩
   obtain ⟨vn, evn⟩ : ∃ z, z = vi .n := ⟨_, rfl⟩
   obtain ⟨vz, evz⟩ : ∃ z, z = vi .s := ⟨_, rfl⟩
   obtain ⟨vf, evf⟩ : ∃ z, z = vi .f := ⟨_, rfl⟩
   rw [← evr, ← evb, ← evn, ← evz, ← evf] at hxr hbx;obtain ⟨-, ⟨D1, N1, K1, rfl⟩, ⟨D2, N2, K2, rfl⟩, -, ⟨D4, N4, K4, rfl⟩⟩ := hxr.slices;obtain ⟨Ar, cr, rfl, hr1, hr2, hrc⟩ := hxr.r.open_;obtain ⟨adr, rfl, har, hcr⟩ := hrc (by omega);obtain ⟨Az, cz, rfl, hz1, hz2, hzc⟩ := hxr.s.open_;obtain ⟨adz, rfl, haz, hcz⟩ := hzc (by omega);obtain ⟨uz, huz, hrz⟩ := hcz v sl hat.hs;obtain ⟨Au, cu, rfl, hu1, hu2, huc⟩ := hrz.open_;obtain ⟨adu, rfl, hau, hcu⟩ := huc (by omega);have hsc := hcu i si hsi;have hrv := hcr v r hat.hr;have hrk := hcr k2 r2 hat2.hr;have HYj := aA hbx;unfold maxLen at hz2 hu2 hr2;have hsub : IntKind.i64.wrap (r2 - r) = r2 - r := aL _ (by omega);clear hgu hat hat2 he hx hp2 hc5 hc50 hc51 er er2 ee hsi hsg hkj hxr hbx evr evb evn evz evf hrc hcr hzc hcz hrz huc hcu e1 e2;obtain ⟨w2, hw2, hb2, HE, hz2', HS2⟩ := box2 wr (.int .i64 k2) (.int .i64 p2) 138;have HW2 := aA hw2;have hzb2 := hb2.size;have HYj2 := bk HYj hb2;have huz2 := (hb2.cell (p := adz.add v) (by rw [block_add]; exact haz)).trans huz;have hsc2 := (hb2.cell (p := adu.add i) (by rw [block_add]; exact hau)).trans hsc;have hrv2 := (hb2.cell (p := adr.add v) (by rw [block_add]; exact har)).trans hrv;have hrk2 := (hb2.cell (p := adr.add k2) (by rw [block_add]; exact har)).trans hrk;have HKU2 := aA (show CsB m (.slice A0 m0 c0) (.slice A1 m1 c1) (.slice A2 m2 c2) (.slice A3 m3 c3) (.slice (some ad4) n.es.length c4) (.slice A5 m5 c5) (.slice A6 m6 c6) w2 base vi u Y from ⟨AsyK.up HKU.out.k hb2, (hb2.block Y (heap_lt HKU.out.box)).trans HKU.out.box⟩);have HGR2 := aA (grownT HGR.out (Below.grow hb2 _));clear hw2 huz hsc hrv hrk hgr;go_wp2_with fail;rw [← HW2.out];clear c50 c51;obtain ⟨⟨g0, g1, g2, g3, g4, g5, g6⟩, ⟨q0, q1, q2⟩, ⟨y0, y1, y2, y3, y4⟩, c15, gf⟩ := cells16 HYj2;obtain ⟨v0, v1, vf'⟩ := cells2 HE;refine aH (S := fun w' => w'.cell? ⟨Y, 10, none⟩ = some (.slice (some adr) u.1.rounds.length cr) ∧ w'.cell? ⟨wr.heap.size, 0, none⟩ = some (.int .i64 k2) ∧ w'.cell? (adr.add v) = some (.int .i64 r) ∧ w'.cell? (adr.add k2) = some (.int .i64 r2)) (by kernel_rfl) ?_ (fun hHeld => ?_)
   · go_keep
   refine stk 0 21 ?_;refine stk 1 22 ?_;refine stk 2 23 ?_;refine stk 3 24 ?_;refine stk 4 25 ?_;refine stk 5 26 ?_;refine stk 6 27 ?_;refine stk 7 28 ?_;refine stk 8 29 ?_;refine stk 9 30 ?_;refine stk 10 31 ?_;refine stk 11 32 ?_;refine stk 12 33 ?_;refine stk 13 34 ?_;refine stk 14 35 ?_;refine stk 15 36 ?_;refine stk 16 37 ?_;refine stk 17 38 ?_;refine stk 18 6 ?_;refine aK (by kernel_rfl) ?_ _;obtain ⟨w3, hw3⟩ : ∃ z, z = w2.drew := ⟨_, rfl⟩
   have hb3 : Below w2.heap.size w2 w3 := by rw [hw3]; exact (Below.refl _ _).drew
   try rw [← hw3]
   have hzb3 := hb3.size;have HYj3 := bk HYj2 hb3;have HE3 := bk HE hb3;have huz3 := (hb3.cell (p := adz.add v) (by rw [block_add]; omega)).trans huz2;have hsc3 := (hb3.cell (p := adu.add i) (by rw [block_add]; omega)).trans hsc2;have HKU3 := aA (show CsB m (.slice A0 m0 c0) (.slice A1 m1 c1) (.slice A2 m2 c2) (.slice A3 m3 c3) (.slice (some ad4) n.es.length c4) (.slice A5 m5 c5) (.slice A6 m6 c6) w3 base vi u Y from ⟨AsyK.up HKU2.out.k hb3, (hb3.block Y (heap_lt HKU2.out.box)).trans HKU2.out.box⟩);have hgr3 := grownT HGR2.out (Below.grow hb3 _);have HGR3 := aA hgr3;have HB3 := aA (grown_base hgr3 hbase hbY);clear hw3 g0 g1 g2 g3 g4 g5 g6 q0 q1 q2 y0 y1 y2 y3 y4 c15 gf v0 v1 vf' huz2 hsc2 hrv2 hrk2 hgr3;obtain ⟨⟨g0, g1, g2, g3, g4, g5, g6⟩, ⟨q0, q1, q2⟩, ⟨y0, y1, y2, y3, y4⟩, c15, gf⟩ := cells16 HYj3;obtain ⟨v0, v1, vf'⟩ := cells2 HE3
   have HNO := aA (show ¬ (si = -1 ∧ 0 ≤ r2 - r ∧ r2 - r ≤ 1) → fillP m n v (i + 1) s = u from fun hno => by
    have e1 : fillP m n v (i + 1) s = fillA m n v i u := by rw [HU.out]; rfl
    rw [e1, HFA.out, if_neg hno])
   by_cases hsm : si = -1
   ·
    subst hsm;go_wp2_with fail;refine (spec_l1In _ _ _ _).mono ?_;rintro e w' ⟨rfl, rfl⟩;cases hin : inB (r2 - r) 0 1 with
    | false =>
     have HF := aA (HNO.out (fun h => by rw [inB_t h.2] at hin; cases hin));clear hin;go_wp2_with fail;go_roundw
     case rel => exact ⟨i + 1, by omega, by go_num, ⟨vi, by show CsB _ _ _ _ _ _ _ _ _ _ _ (fillP m n v (i + 1) s) _; rw [HF.out]; exact HKU3.out⟩, HGR3.out⟩
     case measure => simp [intOf]; omega
    | true =>
     have HYES := aA (inBt hin);clear hin;go_wp2_with fail;refine (spec_do _ _ _ _ m _ _ _ n vi u base Y 1 k2 p2 (r2 - r) w3 (HM0.out.to HB3.out (Nat.le_refl _)) (HN0.out.below HB3.out) HKU3.out (by have := HB3.out.size; omega) HGU.out (by omega)).mono ?_;clear g0 g1 g2 g3 g4 g5 g6 q0 q1 q2 y0 y1 y2 y3 y4 c15 gf v0 v1 vf' huz3 hsc3;rintro e w4 ⟨rfl, ⟨v4, hk4⟩, hgr4⟩;have hgr4' := grownT HGR3.out hgr4;have HGR4 := aA hgr4';have HB4 := aA (grown_base hgr4' hbase hbY);clear hgr4 hgr4';cases hmm : mayB n u.1 ⟨1, k2, p2, r2 - r⟩ with
     | false =>
      have HF := aA (show fillP m n v (i + 1) s = ctA m n u ⟨1, k2, p2, r2 - r⟩ from by
       have e1 : fillP m n v (i + 1) s = fillA m n v i u := by rw [HU.out]; rfl
       rw [e1, HFA.out, if_pos (by first | exact ⟨rfl, HYES.out⟩ | exact ⟨trivial, HYES.out⟩ | exact HYES.out), if_neg (by rw [hmm]; simp), ct_no hmm])
      have HK4 := aA hk4;clear hmm hk4;go_wp2_with fail;go_roundw
      case rel => exact ⟨i + 1, by omega, by go_num, ⟨v4, by show CsB _ _ _ _ _ _ _ _ _ _ _ (fillP m n v (i + 1) s) _; rw [HF.out]; exact HK4.out⟩, HGR4.out⟩
      case measure => simp [intOf]; omega
     | true =>
      obtain ⟨y, hy⟩ : ∃ y, y = ctA m n u ⟨1, k2, p2, r2 - r⟩ := ⟨_, rfl⟩
      rw [← hy] at hk4;have hgy : goodP m n y.1 := by rw [hy]; exact good_ct HGU.out _
      have hy2 : y.2 ≤ 27001 := by rw [hy, ct_yes hmm]; show u.2 + 1 ≤ _; omega
      obtain ⟨l5, sl5, f5, r5, hat5⟩ := at_of hgy.2 hvn;obtain rfl := aE (hat5.hl.symm.trans HL.out);obtain ⟨ls5, hls5⟩ : ∃ z, f5[i]? = some z := ⟨_, aC (by rw [hat5.fl]; exact hli)⟩
      have hl12 := hat5.ls ls5 (aN hls5)
      have HF := aA (show fillP m n v (i + 1) s = ctA m n y ⟨2, v, i, (ls5.length : Int) - 1⟩ from by
       have e1 : fillP m n v (i + 1) s = fillA m n v i u := by rw [HU.out]; rfl
       rw [e1, HFA.out, if_pos (by first | exact ⟨rfl, HYES.out⟩ | exact ⟨trivial, HYES.out⟩ | exact HYES.out), if_pos hmm, ← hy, lettersAt_eq hat5.hf hls5])
      have hw0 : IntKind.i64.wrap ((ls5.length : Int) - 1) = (ls5.length : Int) - 1 := aL _ (by omega);have HGY := aA hgy;have HK4 := aA hk4;have hvf : v < y.1.flight.length := (aB.1 hat5.hf).1;have hif : i < f5.length := by rw [hat5.fl]; exact hli
      have hxr := AsyK.reads hk4.k (I64A.good hgy);have hbx := hk4.box;unfold csBox at hbx;obtain ⟨vr, evr⟩ : ∃ z, z = v4 .r := ⟨_, rfl⟩
      obtain ⟨vb, evb⟩ : ∃ z, z = v4 .b := ⟨_, rfl⟩
      obtain ⟨vn, evn⟩ : ∃ z, z = v4 .n := ⟨_, rfl⟩
      obtain ⟨vz, evz⟩ : ∃ z, z = v4 .s := ⟨_, rfl⟩
      obtain ⟨vf, evf⟩ : ∃ z, z = v4 .f := ⟨_, rfl⟩
      rw [← evr, ← evb, ← evn, ← evz, ← evf] at hxr hbx;obtain ⟨⟨E0, O0, L0, rfl⟩, ⟨E1, O1, L1, rfl⟩, ⟨E2, O2, L2, rfl⟩, ⟨E3, O3, L3, rfl⟩, -⟩ := hxr.slices;obtain ⟨Af, cf, rfl, hfm1, hfm2, hfc⟩ := hxr.f;obtain ⟨adf, rfl, haf, hcf⟩ := hfc (by omega);obtain ⟨uf, huf, hzf⟩ := hcf v f5 hat5.hf;obtain ⟨Ag, cg, rfl, hgm1, hgm2, hgc⟩ := hzf;obtain ⟨adg, rfl, hag, hcg⟩ := hgc (by omega);obtain ⟨ul, hul, hzl⟩ := hcg i ls5 hls5;obtain ⟨Al, cl, rfl, hlm1, hlm2, -, -⟩ := hzl;have HY4 := aA hbx;unfold maxLen at hfm2 hgm2 hlm2;clear hk4 hmm hy hgy hat5 hls5 hxr hbx evr evb evn evz evf hfc hcf hgc hcg;obtain ⟨⟨g0, g1, g2, g3, g4, g5, g6⟩, ⟨q0, q1, q2⟩, ⟨y0, y1, y2, y3, y4⟩, c15, gf⟩ := cells16 HY4;go_wp2_with fail;refine (spec_do _ _ _ _ m _ _ _ n v4 y base Y 2 v i ((ls5.length : Int) - 1) w4 (HM0.out.to HB4.out (Nat.le_refl _)) (HN0.out.below HB4.out) HK4.out (by have := HB4.out.size; omega) HGY.out (by omega)).mono ?_;clear g0 g1 g2 g3 g4 g5 g6 q0 q1 q2 y0 y1 y2 y3 y4 c15 gf huf hul;rintro e w5 ⟨rfl, ⟨v5, hk5⟩, hgr5⟩;rw [← HF.out] at hk5;have HK5 := aA hk5;have HGR5 := aA (grownT HGR4.out hgr5);clear hk5 hgr5;go_wp2_with fail;go_roundw
      case rel => exact ⟨i + 1, by omega, by go_num, ⟨v5, HK5.out⟩, HGR5.out⟩
      case measure => simp [intOf]; omega
   ·
    have HF := aA (HNO.out (fun h => hsm h.1));have hsm' : (si != -1) = true := bne_iff_ne.2 hsm;go_wp2_with fail;go_roundw
    case rel => exact ⟨i + 1, by omega, by go_num, ⟨vi, by show CsB _ _ _ _ _ _ _ _ _ _ _ (fillP m n v (i + 1) s) _; rw [HF.out]; exact HKU3.out⟩, HGR3.out⟩
    case measure => simp [intOf]; omega
  ·
   obtain rfl : i = l.length := by omega
   have k1 : ((l.length : Int) < (l.length : Int)) = False := eq_false (by omega);clear hgu hkj hgr;go_wp2_with fail;exact bodyPost_end (v := .tuple #[]) (by simp [results, Tryz.results63, go_sem]) rfl ⟨rfl, ⟨vi, by rw [← HU.out]; exact HKU.out⟩, HGR.out⟩
end Go.Proofs.YtjklbjmdgiddcaaGreat
