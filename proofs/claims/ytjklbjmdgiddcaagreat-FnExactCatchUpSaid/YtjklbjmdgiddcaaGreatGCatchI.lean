/-
  CatchUp of the program: letters dropped, slots filled, rounds made up for. No condition but that the state is one of the machine on the network.
-/
import Derived.Test.YtjklbjmdgiddcaaGreatGMaySpecG
import Derived.Test.YtjklbjmdgiddcaaGreatGPlainCatch
namespace Go.Proofs.YtjklbjmdgiddcaaGreat
open Go.RowKit
set_option linter.all false
def Qt (w w' : World) : Prop := w.heap.size ≤ w'.heap.size ∧ ∀ (b : Nat) (cur : Array Value) (t : TypeId) (fz : Nat × Nat), w.heap[b]? = some (.cells cur t fz) → ¬ TyK t → w'.heap[b]? = w.heap[b]?
theorem Qt.refl (w : World) : Qt w w := ⟨Nat.le_refl _, fun _ _ _ _ _ _ => rfl⟩
theorem Qt.trans {a b c : World} (h : Qt a b) (k : Qt b c) : Qt a c := ⟨Nat.le_trans h.1 k.1, fun q cur t fz hq ht => by
  have h1 := h.2 q cur t fz hq ht
  exact (k.2 q cur t fz (h1.trans hq) ht).trans h1⟩
theorem Qt.below {a b : World} (h : Below a.heap.size a b) : Qt a b := ⟨h.size, fun q cur t fz hq ht => h.block q (heap_lt hq)⟩
theorem Frame.qt {w w' : World} {base : Nat} {val : Key → Value} {x : Asy} (h : Frame val x w w') (hK : AsyK w base val x) : Qt w w' := ⟨h.1, fun q cur t fz hq ht => h.2 q (heap_lt hq) fun j hj => hK.noTy hj hq ht⟩
theorem Qt.box {a b : World} {q : Nat} {cur : Array Value} {t : TypeId} (h : Qt a b) (ht : ¬ TyK t) (H : Hid (a.heap[q]? = some (.cells cur t (0, 0)))) : Hid (b.heap[q]? = some (.cells cur t (0, 0))) := aA ((h.2 q cur t _ H.out ht).trans H.out)
theorem no_tyK_mach : ¬ TyK 46 := by unfold TyK; decide
theorem no_tyK_net : ¬ TyK 50 := by unfold TyK; decide
def CtB (base P : Nat) (w0 : World) (s : Asy × Nat) (c : Value) (wr : World) : Prop := c = .int .i64 s.2 ∧ (∃ val, AsyB wr base val s.1 P) ∧ Below base w0 wr ∧ Qt w0 wr
def DaRel (N : Nat) (F : Nat → Asy × Nat) (base P : Nat) (w0 : World) (a i : Value) (wr : World) : Prop := ∃ v : Nat, v ≤ N ∧ i = .int .i64 v ∧ CtB base P w0 (F v) a wr
def DnRel (N : Nat) (F : Nat → Asy × Nat) (base P : Nat) (w0 : World) (a : Value) (wr : World) : Prop := ∃ q : Nat, q ≤ N ∧ CtB base P w0 (F q) a wr
set_option maxRecDepth 100000 in
set_option maxHeartbeats 4000000 in
theorem impl_dropAll (vs ve vc vo : Value) (m : Mach) (ne ni nn : Value) (n : Net) (val : Key → Value) (x : Asy) (base P : Nat) (w : World) (hm0 : MachR w base vs ve vc vo m) (hn0 : NetR w base ne ni nn n) (hK : AsyB w base val x P) (hbase : base ≤ w.heap.size) (hg : goodP m n x) :
  Calls Tryz.prog 65 #[machV vs ve vc vo m, .agg #[ne, ni, nn], .pointer (some ⟨P, 0, none⟩)] w (fun e w' => e = .returned (.int .i64 ((dropV m n x n.es.length (x, 0)).2 : Nat)) ∧ (∃ val', AsyB w' base val' (dropV m n x n.es.length (x, 0)).1 P) ∧ Below base w w') := by
 unfold machV;have hm := hm0.to (Below.refl _ _) hbase;have hn := hn0.more hbase;have HG := aA hg;have HK := aA hK;have HM0 := aA hm0;have HN0 := aA hn0;have h40 := hg.1.2.1.1.2;obtain ⟨⟨A0, m0, c0, rfl⟩, ⟨A1, m1, c1, rfl⟩, ⟨A2, m2, c2, rfl⟩, A3, m3, c3, rfl⟩ := hm.slices;have hne := hn0.e;obtain ⟨A4, c4, rfl, hc4, hM4, hr4⟩ := hne;obtain ⟨-, ⟨A5, m5, c5, rfl⟩, A6, m6, c6, rfl⟩ := hn.slices;unfold maxLen at hM4;have HR4 := aA hr4;clear hr4 hg hK hm0 hn0;obtain ⟨w0, hw0, hb0, HM, hz0, HS0⟩ := box7 w (.int .i64 m.deg) (.int .i64 m.st) (.int .i64 m.msg) (.slice A0 m0 c0) (.slice A1 m1 c1) (.slice A2 m2 c2) (.slice A3 m3 c3) 46;obtain ⟨w1, hw1, hb1, HD, hz1, HS1⟩ := box3 w0 (.slice A4 n.es.length c4) (.slice A5 m5 c5) (.slice A6 m6 c6) 50;replace HM := bk HM hb1;have hB : Below w.heap.size w w1 := bl_trans (hb0) hb1;have HW := aA (show w1 = (w.alloc (.cells #[.int .i64 m.deg, .int .i64 m.st, .int .i64 m.msg, .slice A0 m0 c0, .slice A1 m1 c1, .slice A2 m2 c2, .slice A3 m3 c3] 46)).alloc (.cells #[.slice A4 n.es.length c4, .slice A5 m5 c5, .slice A6 m6 c6] 50) by rw [hw1, hw0]);obtain ⟨P1, hP1⟩ : ∃ z, z = w0.heap.size := ⟨_, rfl⟩
 have HP1 := aA (show w.heap.size + 1 = P1 by rw [hP1, HS0.out]);have hPl1 : w.heap.size < P1 := by rw [← HP1.out]; omega
 rw [← hP1] at HD hz1;obtain ⟨⟨g0, g1, g2⟩, ⟨g3, g4, g5, g6⟩, gf⟩ := cells7 HM;obtain ⟨q0, q1, q2, qf⟩ := cells3 HD;have eg0 := g0;have eg1 := g1;have eg2 := g2;have eg3 := g3;have eg4 := g4;have eg5 := g5;have eg6 := g6;have eq0 := q0;have eq1 := q1;have eq2 := q2;rw [HW.out] at eg0 eg1 eg2 eg3 eg4 eg5 eg6 eq0 eq1 eq2;rw [← HP1.out] at eq0 eq1 eq2;have hzb0 : w.heap.size < w1.heap.size := by omega
 have hzb1 : P1 < w1.heap.size := by omega
 have HR := aA (hm.up hB);have HN := aA (hn.up hB);clear hw1 hw0 hP1;have HK1 := aA (HK.out.up hB);have HB := aA hB;have HB1 := aA (hB.mono hbase);have hzB := hB.size;go_enter Tryz.func65, Tryz.ntmps65;go_wp2_with fail;rw [HP1.out, ← HW.out];clear eg0 eg1 eg2 eg3 eg4 eg5 eg6 eq0 eq1 eq2;go_loopw [7, 14] (fun a i wr => DaRel n.es.length (fun v => dropV m n x v (x, 0)) base P w1 a i wr) (fun _ i _ => n.es.length - (intOf i).toNat)
 case atStart => exact ⟨0, Nat.zero_le _, rfl, rfl, ⟨val, HK1.out⟩, Below.refl _ _, Qt.refl _⟩
 case round =>
  obtain ⟨v, hv, rfl, hc, ⟨vk, hk⟩, hbl, hqt⟩ := hrel;have hDV := Dr.dropV HG.out (Dr.start HG.out 0) v hv;have hcv := dropV_le HG.out (x, 0) v;obtain ⟨s, hs⟩ : ∃ s, s = dropV m n x v (x, 0) := ⟨_, rfl⟩
  have hkv : AsyB wr base vk s.1 P := by rw [hs]; exact hk
  obtain rfl := hc.trans (show (Value.int .i64 (((dropV m n x v (x, 0)).2 : Nat) : Int)) = .int .i64 ((s.2 : Nat) : Int) by rw [hs]);rw [← hs] at hcv hDV;have HDV := aA hDV;have HKV := aA hkv;have HS := aA hs;have HBL := aA hbl;have hBr := HB1.out.trans hbl;have hzr := hqt.1;have HDr := hqt.box no_tyK_net HD;have HMr := hqt.box no_tyK_mach HM;have HQT := aA hqt;replace hcv : s.2 ≤ 72 * v := by have : s.2 ≤ 0 + 72 * v := hcv; omega
  clear hk hs hDV hkv hc g0 g1 g2 g3 g4 g5 g6 gf q0 q1 q2 qf;obtain ⟨⟨g0, g1, g2⟩, ⟨g3, g4, g5, g6⟩, gf⟩ := cells7 HMr;obtain ⟨q0, q1, q2, qf⟩ := cells3 HDr;by_cases hltk : v < n.es.length
  ·
   obtain ⟨l, hl⟩ : ∃ y, n.es[v]? = some y := ⟨_, aC hltk⟩
   have hl6 := deg_6 HG.out hl;have hpl := ports_len HG.out hl;obtain ⟨ad4, rfl, ha4, hrow4⟩ := HR4.out (by omega);obtain ⟨u4, hu4, hz4⟩ := hrow4 v l hl;obtain ⟨B4, d4, rfl, hd4, hD4, -, -⟩ := hz4;have c4k := (hBr.cell (p := ad4.add v) (by rw [block_add]; exact ha4)).trans hu4;have HL := aA hl;have HPL := aA hpl;have k1 : ((v : Int) < (n.es.length : Int)) = True := eq_true (by omega);clear hl hu4 hrow4 hpl;go_wp2_with fail;go_loopw [7, 21] (fun a i wr => DaRel l.length (fun j => dropP m n x v j s) base P w1 a i wr) (fun _ i _ => l.length - (intOf i).toNat)
   case atStart => exact ⟨0, Nat.zero_le _, rfl, rfl, ⟨vk, HKV.out⟩, HBL.out, HQT.out⟩
   case round =>
    obtain ⟨j, hj, rfl, hc, ⟨vj, hk⟩, hbl, hqt⟩ := hrel;have hDP := Dr.dropP HDV.out HL.out j hj;have hcp := dropP_le HG.out v s j;obtain ⟨t, ht⟩ : ∃ t, t = dropP m n x v j s := ⟨_, rfl⟩
    have hkv : AsyB wr base vj t.1 P := by rw [ht]; exact hk
    obtain rfl := hc.trans (show (Value.int .i64 (((dropP m n x v j s).2 : Nat) : Int)) = .int .i64 ((t.2 : Nat) : Int) by rw [ht]);rw [← ht] at hcp hDP;have HDP := aA hDP;have HKP := aA hkv;have HT := aA ht;have HBP := aA hbl;have hBr := HB1.out.trans hbl;have hzr := hqt.1;have HDr := hqt.box no_tyK_net HD;have HMr := hqt.box no_tyK_mach HM;have HQT := aA hqt;clear hk ht hDP hkv hc g0 g1 g2 g3 g4 g5 g6 gf q0 q1 q2 qf;obtain ⟨⟨g0, g1, g2⟩, ⟨g3, g4, g5, g6⟩, gf⟩ := cells7 HMr;obtain ⟨q0, q1, q2, qf⟩ := cells3 HDr;by_cases hltp : j < l.length
    ·
     have k2 : ((j : Int) < (l.length : Int)) = True := eq_true (by omega);obtain ⟨M, hM⟩ : ∃ z, z = (lettersAt x v j).length := ⟨_, rfl⟩
     have hM12 : M ≤ 12 := by rw [hM]; exact letters_12 HG.out v j
     have HMM := aA hM;clear hM;go_wp2_with fail;go_loopw [7] (fun a wr => DnRel M (fun q => dropN m n v j q t) base P w1 a wr) (fun a _ => t.2 + M - (intOf a).toNat)
     case atStart => exact ⟨0, Nat.zero_le _, rfl, ⟨vj, HKP.out⟩, HBP.out, HQT.out⟩
     case round =>
      obtain ⟨q, hq, hc, ⟨vq, hk⟩, hbl, hqt⟩ := hrel;have hDN := Dr.dropN HDP.out HL.out hltp q (by rw [← HMM.out]; exact hq);have hcn := dropN_eq HDP.out HL.out hltp q (by rw [← HMM.out]; exact hq);have hmay := hDN.may HL.out hltp;rw [← HMM.out] at hmay;obtain ⟨y, hy⟩ : ∃ y, y = dropN m n v j q t := ⟨_, rfl⟩
      have hky : AsyB wr base vq y.1 P := by rw [hy]; exact hk
      obtain rfl := hc.trans (show (Value.int .i64 (((dropN m n v j q t).2 : Nat) : Int)) = .int .i64 ((y.2 : Nat) : Int) by rw [hy]);rw [← hy] at hcn hDN hmay;have HDN := aA hDN;have HMAY := aA hmay;have HY := aA hy;have HBN := aA hbl;have hBr := HB1.out.trans hbl;have HDr := hqt.box no_tyK_net HD;have HMr := hqt.box no_tyK_mach HM;have HQT := aA hqt;have hzr := hqt.1;have hcn1 : y.2 ≤ t.2 + q ∧ t.2 + q ≤ y.2 := by omega
      clear hk hy hDN hmay hc hcn g0 g1 g2 g3 g4 g5 g6 gf q0 q1 q2 qf;obtain ⟨⟨g0, g1, g2⟩, ⟨g3, g4, g5, g6⟩, gf⟩ := cells7 HMr;obtain ⟨q0, q1, q2, qf⟩ := cells3 HDr;go_wp2_with fail;have HKY := aA hky;have hC := impl_play _ _ _ _ m _ _ _ n vq y.1 base P 3 v j 0 wr (HM0.out.to (HB1.out.trans hbl) (Nat.le_refl _)) (HN0.out.below (HB1.out.trans hbl)) hky (by omega) HDN.out.good;unfold machV at hC;refine hC.mono ?_;clear hC hky g0 g1 g2 g3 g4 g5 g6 gf q0 q1 q2 qf;rintro e wb ⟨rfl, hbb, hfb, val', hkb⟩;rw [HMAY.out];have HKB := aA hkb;have HBB := aA (And.intro (hbl.trans hbb) (HQT.out.trans (hfb.qt HKY.out.k)));clear hkb hbb hfb;by_cases hqM : q < M
      ·
       have k3 : decide (q < M) = true := decide_eq_true hqM;rw [k3];have hcw : IntKind.i64.wrap ((y.2 : Int) + 1) = (y.2 : Int) + 1 := aL _ (by omega)
       have HF := aA (show CtB base P w1 (dropN m n v j (q + 1) t) (.int .i64 ((y.2 : Int) + 1)) wb from by
        have e1 : dropN m n v j (q + 1) t = ctA m n y ⟨3, v, j, 0⟩ := by rw [HY.out]; rfl
        have e2 : ctA m n y ⟨3, v, j, 0⟩ = (playX m n y.1 ⟨3, v, j, 0⟩, y.2 + 1) := by unfold ctA; rw [if_pos (by rw [HMAY.out]; exact k3)]
        rw [e1, e2]
        exact ⟨rfl, ⟨val', HKB.out⟩, HBB.out.1, HBB.out.2⟩)
       go_wp2_with fail;go_roundw
       case rel => exact ⟨q + 1, by omega, HF.out⟩
       case measure => simp [intOf]; omega
      ·
       obtain rfl : q = M := by omega
       have k3 : decide (q < q) = false := decide_eq_false (by omega);rw [k3]
       have HF := aA (show CtB base P w1 (dropP m n x v (j + 1) s) (.int .i64 y.2) wb from by
        have e1 : dropP m n x v (j + 1) s = y := by rw [HY.out, HT.out, HMM.out];rfl
        have e2 : playX m n y.1 ⟨3, v, j, 0⟩ = y.1 := by unfold playX; rw [if_neg (by rw [HMAY.out, k3]; simp)]
        rw [e1]
        exact ⟨rfl, ⟨val', by rw [← e2]; exact HKB.out⟩, HBB.out.1, HBB.out.2⟩)
       go_wp2_with fail;go_roundw
       case rel => exact ⟨j + 1, by omega, by go_num, HF.out⟩
       case measure => simp [intOf]; omega
    ·
     obtain rfl : j = l.length := by omega
     have HF := aA (show CtB base P w1 (dropV m n x (v + 1) (x, 0)) (.int .i64 t.2) wr from by
      have e1 : dropV m n x (v + 1) (x, 0) = t := by rw [HT.out, HS.out, ← HPL.out];rfl
      rw [e1]
      exact ⟨rfl, ⟨vj, HKP.out⟩, HBP.out, HQT.out⟩)
     have k2 : ((l.length : Int) < (l.length : Int)) = False := eq_false (by omega);go_wp2_with fail;go_roundw
     case rel => exact ⟨v + 1, by omega, by go_num, HF.out⟩
     case measure => simp [intOf]; omega
  ·
   obtain rfl : v = n.es.length := by omega
   have k1 : ((n.es.length : Int) < (n.es.length : Int)) = False := eq_false (by omega);go_wp2_with fail;go_ret;exact ⟨by rw [← HS.out]; rfl, ⟨vk, by rw [← HS.out]; exact HKV.out⟩, HB1.out.trans HBL.out⟩
set_option maxRecDepth 100000 in
set_option maxHeartbeats 4000000 in
theorem impl_fillSlot (vs ve vc vo : Value) (m : Mach) (ne ni nn : Value) (n : Net) (val : Key → Value) (x : Asy) (base P : Nat) (w : World) (hm0 : MachR w base vs ve vc vo m) (hn0 : NetR w base ne ni nn n) (hK : AsyB w base val x P) (hbase : base ≤ w.heap.size) (hg : goodP m n x)
  (v i : Nat) (l : Ends) (hl : n.es[v]? = some l) (hi : i < l.length) (hs : (slotsAt x v).getD i 0 = -1) :
  Calls Tryz.prog 66 #[machV vs ve vc vo m, .agg #[ne, ni, nn], .pointer (some ⟨P, 0, none⟩), .int .i64 v, .int .i64 i] w (fun e w' => e = .returned (.int .i64 ((fillA m n v i (x, 0)).2 : Nat)) ∧ (∃ val', AsyB w' base val' (fillA m n v i (x, 0)).1 P) ∧ Below base w w' ∧ Qt w w') := by
 unfold machV;have hm := hm0.to (Below.refl _ _) hbase;have hn := hn0.more hbase;have HG := aA hg;have HK := aA hK;have HM0 := aA hm0;have HN0 := aA hn0;have HL := aA hl;have HS := aA hs;have h40 := hg.1.2.1.1.2;have hl6 := deg_6 hg hl;have hvn := (aB.1 hl).1;obtain ⟨l', sl, f, r, hat⟩ := at_of hg.2 hvn;obtain rfl := aE (hat.hl.symm.trans hl);obtain ⟨en, he⟩ : ∃ e, l'[i]? = some e := ⟨_, aC hi⟩
 obtain ⟨k2, p2, l2, s2, f2, r2, ls2, e1, e2, hat2, hp2, hx⟩ := at_end hg.2 hg.1.2.1 hat he;obtain rfl : en = ((k2 : Int), (p2 : Int)) := by rw [← e1, ← e2]
 have er : x.rounds.getD v 0 = r := by rw [aG, hat.hr]; rfl
 have er2 : x.rounds.getD k2 0 = r2 := by rw [aG, hat2.hr]; rfl
 have ee : endAt n v i = ((k2 : Int), (p2 : Int)) := by unfold endAt;simp only [aG, hl, Option.getD_some, he]
 have HFA := aA (show fillA m n v i (x, 0) = (if 0 ≤ r2 - r ∧ r2 - r ≤ 1 then if mayB n x ⟨1, k2, p2, r2 - r⟩ = true then ctA m n (ctA m n (x, 0) ⟨1, k2, p2, r2 - r⟩) ⟨2, v, i, ((lettersAt (ctA m n (x, 0) ⟨1, k2, p2, r2 - r⟩).1 v i).length : Int) - 1⟩ else (x, 0) else (x, 0)) from by
  have eb : backA n x v i = r2 - r := by unfold backA;rw [ee];show x.rounds.getD ((k2 : Int).toNat) 0 - _ = _;rw [Int.toNat_natCast, er, er2]
  unfold fillA;rw [ee, eb]
  simp only [hs, true_and])
 have hr0 := hat.r0;have hr20 := hat2.r0;have hk2n := hat2.lt;have hxr := AsyK.reads hK.k (I64A.good hg);have hbx := hK.box;obtain ⟨vr, evr⟩ : ∃ z, z = val .r := ⟨_, rfl⟩
 obtain ⟨vb, evb⟩ : ∃ z, z = val .b := ⟨_, rfl⟩
 obtain ⟨vn, evn⟩ : ∃ z, z = val .n := ⟨_, rfl⟩
 obtain ⟨vz, evz⟩ : ∃ z, z = val .s := ⟨_, rfl⟩
 obtain ⟨vf, evf⟩ : ∃ z, z = val .f := ⟨_, rfl⟩
 rw [← evr, ← evb, ← evn, ← evz, ← evf] at hxr hbx;obtain ⟨Ar, cr, rfl, hr1, hr2, hrc⟩ := hxr.r.open_;obtain ⟨Ab, mb, cb, rfl⟩ := hxr.b.isSlice;obtain ⟨An, mn, cn, rfl⟩ := hxr.n.isSlice;obtain ⟨Az, mz, cz, rfl⟩ := hxr.s.isSlice1;obtain ⟨Af, mf, cf, rfl⟩ := hxr.f.isSlice;have hrl : k2 < x.rounds.length ∧ v < x.rounds.length := ⟨(aB.1 hat2.hr).1, (aB.1 hat.hr).1⟩
 obtain ⟨adr, rfl, har, hcr⟩ := hrc (by omega);have R1 := aA (hcr v r hat.hr);have R2 := aA (hcr k2 r2 hat2.hr);have HBX := aA hbx;have HX := aA (And.intro hx he);obtain ⟨⟨A0, m0, c0, rfl⟩, ⟨A1, m1, c1, rfl⟩, ⟨A2, m2, c2, rfl⟩, A3, m3, c3, rfl⟩ := hm.slices;have hne := hn0.e;obtain ⟨A4, c4, rfl, hc4, hM4, hr4⟩ := hne;obtain ⟨-, ⟨A5, m5, c5, rfl⟩, A6, m6, c6, rfl⟩ := hn.slices;unfold maxLen at hM4;obtain ⟨ad4, hA4, ha4, hrow4⟩ := hr4 (by omega);have HA4 := aA hA4;obtain ⟨u4, hu4, hz4⟩ := hrow4 v l' hl;obtain ⟨B4, d4, rfl, hd4, hD4, -, hz5⟩ := hz4;obtain ⟨b5, o5, rfl, hb5, hc5⟩ := hz5 (by omega);obtain ⟨hc50, hc51⟩ := hc5 i _ he;have RE := aA (And.intro hu4 (And.intro hc50 hc51));clear hA4 hg hK hm0 hn0 hl hs hat hat2 he hx er er2 ee hxr hbx hrc hcr hr4 hrow4 hu4 hc5 hc50 hc51 hz5 hp2 e1 e2 evr evb evn evz evf;obtain ⟨w0, hw0, hb0, HM, hz0, HS0⟩ := box7 w (.int .i64 m.deg) (.int .i64 m.st) (.int .i64 m.msg) (.slice A0 m0 c0) (.slice A1 m1 c1) (.slice A2 m2 c2) (.slice A3 m3 c3) 46;obtain ⟨w1, hw1, hb1, HD, hz1, HS1⟩ := box3 w0 (.slice A4 n.es.length c4) (.slice A5 m5 c5) (.slice A6 m6 c6) 50;replace HM := bk HM hb1;have hB : Below w.heap.size w w1 := bl_trans (hb0) hb1;have HW := aA (show w1 = (w.alloc (.cells #[.int .i64 m.deg, .int .i64 m.st, .int .i64 m.msg, .slice A0 m0 c0, .slice A1 m1 c1, .slice A2 m2 c2, .slice A3 m3 c3] 46)).alloc (.cells #[.slice A4 n.es.length c4, .slice A5 m5 c5, .slice A6 m6 c6] 50) by rw [hw1, hw0]);obtain ⟨P1, hP1⟩ : ∃ z, z = w0.heap.size := ⟨_, rfl⟩
 have HP1 := aA (show w.heap.size + 1 = P1 by rw [hP1, HS0.out]);have hPl1 : w.heap.size < P1 := by rw [← HP1.out]; omega
 rw [← hP1] at HD hz1;obtain ⟨⟨g0, g1, g2⟩, ⟨g3, g4, g5, g6⟩, gf⟩ := cells7 HM;obtain ⟨q0, q1, q2, qf⟩ := cells3 HD;have eg0 := g0;have eg1 := g1;have eg2 := g2;have eg3 := g3;have eg4 := g4;have eg5 := g5;have eg6 := g6;have eq0 := q0;have eq1 := q1;have eq2 := q2;rw [HW.out] at eg0 eg1 eg2 eg3 eg4 eg5 eg6 eq0 eq1 eq2;rw [← HP1.out] at eq0 eq1 eq2;have hzb0 : w.heap.size < w1.heap.size := by omega
 have hzb1 : P1 < w1.heap.size := by omega
 have HR := aA (hm.up hB);have HN := aA (hn.up hB);clear hw1 hw0 hP1;have HB := aA hB;have HB1 := aA (hB.mono hbase);have HQ1 := aA (Qt.below hB);have HK1 := aA (HK.out.up hB);have hzB := hB.size;obtain rfl := HA4.out;obtain ⟨w2, hw2, hb2, HE, hz2, HS2⟩ := box2 w1 (.int .i64 k2) (.int .i64 p2) 138;obtain ⟨P2, hP2⟩ : ∃ z, z = w1.heap.size := ⟨_, rfl⟩
 have HP2 := aA (show P1 + 1 = P2 by rw [hP2, HS1.out, HS0.out, ← HP1.out]);rw [← hP2] at HE hz2;have HW2 := aA hw2;have c4k := (HB1.out.cell (p := ad4.add v) (by rw [block_add]; exact ha4)).trans RE.out.1;have c50 := (HB1.out.cell (p := ⟨b5, o5 + i * 2, none⟩) hb5).trans RE.out.2.1;have c51 := (HB1.out.cell (p := ⟨b5, o5 + i * 2 + 1, none⟩) hb5).trans RE.out.2.2;rw [HW.out] at c4k c50 c51;clear hw2 hP2;go_enter Tryz.func66, Tryz.ntmps66;go_wp2_with fail;rw [HP1.out, ← HW.out];clear eg0 eg1 eg2 eg3 eg4 eg5 eg6 eq0 eq1 eq2;rw [HP2.out, ← HW2.out];clear c4k c50 c51;have hPw : P < w.heap.size := HK.out.lt;have hzb2 := hb2.size;have HM2 := bk HM hb2;have HD2 := bk HD hb2;have hB2 := bl_trans hB hb2;have HY2 := bk HBX hB2;have HK2 := aA (HK1.out.up hb2);have HB2 := aA (HB1.out.trans (hb2.mono (by omega)));have HQ2 := aA (HQ1.out.trans (Qt.below hb2));have s1 := (hB2.cell (p := adr.add v) (by rw [block_add]; exact har)).trans R1.out;have s2' := (hB2.cell (p := adr.add k2) (by rw [block_add]; exact har)).trans R2.out;clear g0 g1 g2 g3 g4 g5 g6 gf q0 q1 q2 qf hB R1 R2;obtain ⟨⟨y0, y1, y2⟩, ⟨y3, y4⟩, yf⟩ := cells5 HY2;obtain ⟨v0, v1, vf'⟩ := cells2 HE;have hsub : IntKind.i64.wrap (r2 - r) = r2 - r := aL _ (by omega);refine aH (S := fun w' => w'.cell? ⟨P, 0, none⟩ = some (.slice (some adr) x.rounds.length cr) ∧ w'.cell? ⟨P2, 0, none⟩ = some (.int .i64 k2) ∧ w'.cell? (adr.add v) = some (.int .i64 r) ∧ w'.cell? (adr.add k2) = some (.int .i64 r2)) (by kernel_rfl) ?_ (fun hHeld => ?_)
 · go_keep
 refine stk 0 21 ?_;refine stk 1 22 ?_;refine stk 2 23 ?_;refine stk 3 24 ?_;refine stk 4 25 ?_;refine stk 5 26 ?_;refine stk 6 27 ?_;refine stk 7 28 ?_;refine stk 8 29 ?_;refine stk 9 30 ?_;refine stk 10 31 ?_;refine stk 11 32 ?_;refine stk 12 33 ?_;refine stk 13 34 ?_;refine stk 14 35 ?_;refine stk 15 36 ?_;refine stk 16 12 ?_;refine aK (by kernel_rfl) ?_ _;obtain ⟨w3, hw3⟩ : ∃ z, z = w2.drew := ⟨_, rfl⟩
 have hb3 : Below w2.heap.size w2 w3 := by rw [hw3]; exact (Below.refl _ _).drew
 try rw [← hw3]
 clear hw3 y0 y1 y2 y3 y4 yf v0 v1 vf' s1 s2';have HM3 := bk HM2 hb3;have HD3 := bk HD2 hb3;have HE3 := bk HE hb3;have HK3 := aA (HK2.out.up hb3);have hz3 := hb3.size;have HB3 := aA (HB2.out.trans (hb3.mono (by omega)));have HQ3 := aA (HQ2.out.trans (Qt.below hb3));obtain ⟨⟨g0, g1, g2⟩, ⟨g3, g4, g5, g6⟩, gf⟩ := cells7 HM3;obtain ⟨q0, q1, q2, qf⟩ := cells3 HD3;obtain ⟨v0, v1, vf'⟩ := cells2 HE3;go_wp2_with fail;refine (impl_within _ _ _ _).mono ?_;rintro e w' ⟨rfl, rfl⟩;cases hin : inB (r2 - r) 0 1 with
 | false =>
  have hno : ¬ (0 ≤ r2 - r ∧ r2 - r ≤ 1) := fun h => by rw [inB_t h] at hin;cases hin
  have HR := aA (show fillA m n v i (x, 0) = (x, 0) by rw [HFA.out, if_neg hno]);clear hin hno;go_wp2_with fail;go_ret;exact ⟨by rw [HR.out]; rfl, ⟨val, by rw [HR.out]; exact HK3.out⟩, HB3.out, HQ3.out⟩
 | true =>
  have hyes : 0 ≤ r2 - r ∧ r2 - r ≤ 1 := inBt hin;have HYES := aA hyes;clear hin hyes;go_wp2_with fail;have hC := impl_play _ _ _ _ m _ _ _ n val x base P 1 k2 p2 (r2 - r) w3 (HM0.out.to HB3.out (Nat.le_refl _)) (HN0.out.below HB3.out) HK3.out (by have := HB3.out.size; omega) HG.out;unfold machV at hC;refine hC.mono ?_;clear hC g0 g1 g2 g3 g4 g5 g6 gf q0 q1 q2 qf v0 v1 vf';rintro e w4 ⟨rfl, hb4, hf4, val', hk4⟩;have hqt4 := hf4.qt HK3.out.k;have HQ4 := aA (HQ3.out.trans hqt4);have HB4 := aA (HB3.out.trans hb4);have HM4 := hqt4.box no_tyK_mach HM3;have HD4 := hqt4.box no_tyK_net HD3;have hz4 := hqt4.1;cases hmm : mayB n x ⟨1, k2, p2, r2 - r⟩ with
  | false =>
   have HR := aA (show fillA m n v i (x, 0) = (x, 0) by rw [HFA.out, if_pos HYES.out, if_neg (by rw [hmm]; simp)])
   have HP := aA (show AsyB w4 base val' x P from by
    have e2 : playX m n x ⟨1, k2, p2, r2 - r⟩ = x := by unfold playX; rw [if_neg (by rw [hmm]; simp)]
    rw [e2] at hk4
    exact hk4)
   clear hk4 hf4 hb4 hmm;go_wp2_with fail;go_ret;exact ⟨by rw [HR.out]; rfl, ⟨val', by rw [HR.out]; exact HP.out⟩, HB4.out, HQ4.out⟩
  | true =>
   obtain ⟨y, hy⟩ : ∃ y, y = playX m n x ⟨1, k2, p2, r2 - r⟩ := ⟨_, rfl⟩
   rw [← hy] at hk4;have hgy : goodP m n y := by rw [hy]; exact good_play HG.out _
   obtain ⟨l5, sl5, f5, r5, hat5⟩ := at_of hgy.2 hvn;obtain rfl := aE (hat5.hl.symm.trans HL.out);obtain ⟨ls5, hls5⟩ : ∃ z, f5[i]? = some z := ⟨_, aC (by rw [hat5.fl]; exact hi)⟩
   have hl12 := hat5.ls ls5 (aN hls5);obtain ⟨bv, hbv⟩ : ∃ b, b = mayB n y ⟨2, v, i, (ls5.length : Int) - 1⟩ := ⟨_, rfl⟩
   obtain ⟨ob, hob⟩ : ∃ z : Nat, z = if bv = true then 1 else 0 := ⟨_, rfl⟩
   have hobI : (ob : Int) = if bv = true then 1 else 0 := by rw [hob]; split <;> rfl
   have hob1 : ob ≤ 1 := by rw [hob]; split <;> omega
   have HR := aA (show fillA m n v i (x, 0) = (playX m n y ⟨2, v, i, (ls5.length : Int) - 1⟩, 1 + ob) by
    rw [HFA.out, if_pos HYES.out, if_pos hmm];have e1 : ctA m n (x, 0) ⟨1, k2, p2, r2 - r⟩ = (y, 1) := by unfold ctA; rw [if_pos hmm, hy]
    rw [e1];show ctA m n (y, 1) ⟨2, v, i, ((lettersAt y v i).length : Int) - 1⟩ = _;rw [lettersAt_eq hat5.hf hls5, hob, hbv]
    rfl)
   have HOB := aA hobI;clear hobI hob;have hw1 : IntKind.i64.wrap (1 + (ob : Int)) = 1 + (ob : Int) := aL _ (by omega);have hw0 : IntKind.i64.wrap ((ls5.length : Int) - 1) = (ls5.length : Int) - 1 := aL _ (by omega);have HBV := aA hbv;have HGY := aA hgy;have HK4 := aA hk4;have hxr4 := AsyK.reads hk4.k (I64A.good hgy);have hbx4 := hk4.box;obtain ⟨vr, evr⟩ : ∃ z, z = val' .r := ⟨_, rfl⟩
   obtain ⟨vb, evb⟩ : ∃ z, z = val' .b := ⟨_, rfl⟩
   obtain ⟨vn, evn⟩ : ∃ z, z = val' .n := ⟨_, rfl⟩
   obtain ⟨vz, evz⟩ : ∃ z, z = val' .s := ⟨_, rfl⟩
   obtain ⟨vf, evf⟩ : ∃ z, z = val' .f := ⟨_, rfl⟩
   rw [← evr, ← evb, ← evn, ← evz, ← evf] at hxr4 hbx4;have hvf : v < y.flight.length := (aB.1 hat5.hf).1;have hif : i < f5.length := by rw [hat5.fl]; exact hi
   obtain ⟨⟨C0, N0, K0, rfl⟩, ⟨C1, N1, K1, rfl⟩, ⟨C2, N2, K2, rfl⟩, ⟨C3, N3, K3, rfl⟩, -⟩ := hxr4.slices;obtain ⟨Af, cf, rfl, hfm1, hfm2, hfc⟩ := hxr4.f;obtain ⟨adf, rfl, haf, hcf⟩ := hfc (by omega);obtain ⟨uf, huf, hzf⟩ := hcf v f5 hat5.hf;obtain ⟨Ag, cg, rfl, hgm1, hgm2, hgc⟩ := hzf;obtain ⟨adg, rfl, hag, hcg⟩ := hgc (by omega);obtain ⟨ul, hul, hzl⟩ := hcg i ls5 hls5;obtain ⟨Al, cl, rfl, hlm1, hlm2, -, -⟩ := hzl;have HY4 := aA hbx4;unfold maxLen at hfm2 hgm2 hlm2;clear hk4 hf4 hb4 hmm hy hgy hat5 hls5 hbv hxr4 hbx4 evr evb evn evz evf hfc hcf hgc hcg;obtain ⟨⟨g0, g1, g2⟩, ⟨g3, g4, g5, g6⟩, gf⟩ := cells7 HM4;obtain ⟨q0, q1, q2, qf⟩ := cells3 HD4;obtain ⟨⟨y0, y1, y2⟩, ⟨y3, y4⟩, yf⟩ := cells5 HY4;go_wp2_with fail;refine aH (S := fun w' => w'.cell? ⟨w.heap.size, 0, none⟩ = some (.int .i64 m.deg) ∧ w'.cell? ⟨w.heap.size, 1, none⟩ = some (.int .i64 m.st) ∧ w'.cell? ⟨w.heap.size, 2, none⟩ = some (.int .i64 m.msg) ∧ w'.cell? ⟨w.heap.size, 3, none⟩ = some (.slice A0 m0 c0) ∧ w'.cell? ⟨w.heap.size, 4, none⟩ = some (.slice A1 m1 c1) ∧ w'.cell? ⟨w.heap.size, 5, none⟩ = some (.slice A2 m2 c2) ∧ w'.cell? ⟨w.heap.size, 6, none⟩ = some (.slice A3 m3 c3) ∧ w'.cell? ⟨P1, 0, none⟩ = some (.slice (some ad4) n.es.length c4) ∧ w'.cell? ⟨P1, 1, none⟩ = some (.slice A5 m5 c5) ∧ w'.cell? ⟨P1, 2, none⟩ = some (.slice A6 m6 c6)) (by kernel_rfl) ?_ (fun hHeld => ?_)
   · go_keep
   refine stk 0 53 ?_;refine stk 1 54 ?_;refine stk 2 55 ?_;refine stk 3 56 ?_;refine stk 4 57 ?_;refine stk 5 58 ?_;refine stk 6 59 ?_;refine stk 7 60 ?_;refine stk 9 62 ?_;refine stk 12 65 ?_;refine aJ (rs := [8]) (by kernel_rfl) (by simp) ?_;refine aI rfl (fun K hK => ?_) AllReadyH.nil;go_simp;refine hK.out _ _ ?_ (fun hHeld => ?_)
   · go_keep
   clear hK K
   try simp only [Act.put, pu]
   refine stk 10 63 ?_;refine aJ (rs := [11]) (by kernel_rfl) (by simp) ?_;refine aI rfl (fun K hK => ?_) AllReadyH.nil;go_simp;refine hK.out _ _ ?_ (fun hHeld => ?_)
   · go_keep
   clear hK K
   try simp only [Act.put, pu]
   refine stk 13 66 ?_;refine aJ (rs := [14]) (by kernel_rfl) (by simp) ?_;refine aI rfl (fun K hK => ?_) AllReadyH.nil;go_simp;refine hK.out _ _ ?_ (fun hHeld => ?_)
   · go_keep
   clear hK K
   try simp only [Act.put, pu]
   refine stk 15 68 ?_;refine stk 16 69 ?_;refine stk 17 70 ?_;refine aJ (rs := [18]) (by kernel_rfl) (by simp) ?_;refine aI rfl (fun K hK => ?_) AllReadyH.nil;go_simp;go_at_call 45;have hC := impl_play _ _ _ _ m _ _ _ n val' y base P 2 v i ((ls5.length : Int) - 1) w4.drew (HM0.out.to HB4.out.drew (Nat.le_refl _)) (HN0.out.below HB4.out.drew) (HK4.out.up (Below.refl _ _).drew) (by have := HB4.out.size; show base ≤ w4.heap.size; omega) HGY.out;unfold machV at hC;refine hC.mono ?_;clear hC;rintro e w5 ⟨rfl, hb5, hf5, val5, hk5⟩;rw [← HBV.out];have hqt5 : Qt w4 w5 := Qt.trans (Qt.below (Below.refl _ _).drew) (hf5.qt (HK4.out.up (Below.refl _ _).drew).k);have HQ5 := aA (HQ4.out.trans hqt5);have HB5 := aA (show Below base w w5 from HB4.out.trans ((Below.refl _ _).drew.trans hb5));have HM5 := hqt5.box no_tyK_mach HM4;have HD5 := hqt5.box no_tyK_net HD4;have HK5 := aA hk5;clear hb5 hf5 hk5 hqt5 g0 g1 g2 g3 g4 g5 g6 gf q0 q1 q2 qf;obtain ⟨⟨g0, g1, g2⟩, ⟨g3, g4, g5, g6⟩, gf⟩ := cells7 HM5;obtain ⟨q0, q1, q2, qf⟩ := cells3 HD5;refine hK.out _ _ ?_ (fun hHeld => ?_)
   · go_keep
   clear hK K
   try simp only [Act.put, pu]
   refine aJ (rs := [19]) (by kernel_rfl) (by simp) ?_;refine aI rfl (fun K hK => ?_) AllReadyH.nil;go_simp;go_at_call 67;refine (impl_oneIf _ _).mono ?_;rintro e w6 ⟨rfl, rfl⟩;rw [← HOB.out];refine hK.out _ _ ?_ (fun hHeld => ?_)
   · go_keep
   clear hK K
   try simp only [Act.put, pu]
   refine stk 20 73 ?_;refine stk 21 10 ?_;refine aK (by kernel_rfl) ?_ _;go_wp2_with fail;go_ret;exact ⟨by rw [HR.out]; congr 2, ⟨val5, by rw [HR.out]; exact HK5.out⟩, HB5.out, HQ5.out⟩
end Go.Proofs.YtjklbjmdgiddcaaGreat
