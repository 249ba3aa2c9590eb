/-
  CatchUp of the reference. No condition.
-/
import Derived.Test.YtjklbjmdgiddcaaGreatGCatchS
import Derived.Test.YtjklbjmdgiddcaaGreatGCatchJ
namespace Go.Proofs.YtjklbjmdgiddcaaGreat
open Go.RowKit
set_option linter.all false
theorem fillP_id {m : Mach} {n : Net} {v : Nat} {s : Asy × Nat} (h : (-1 : Int) ∉ slotsAt s.1 v) : ∀ j, fillP m n v j s = s
  | 0 => rfl
  | j + 1 => by
    show fillA m n v j (fillP m n v j s) = s;rw [fillP_id h j];unfold fillA;rw [if_neg];intro hc;have h1 := hc.1;rw [aG] at h1;cases e : (slotsAt s.1 v)[j]? with
    | none => rw [e] at h1; exact absurd h1 (by decide)
    | some y => rw [e] at h1; exact h (by have := aN e; rwa [show y = -1 from h1] at this)
theorem mostT {l : List Int} {k : Nat} {a : Int} (h : l[k]? = some a) : most (l.take (k + 1)) = if most (l.take k) > a then most (l.take k) else a := by rw [take_snoc h];unfold most;rw [List.foldl_append];rfl
theorem box16 (w : World) (v0 v1 v2 v3 v4 v5 v6 v7 v8 v9 v10 v11 v12 v13 v14 v15 : Value) (t : TypeId) : ∃ P w0, w.heap.size = P ∧ w0 = w.alloc (.cells #[v0, v1, v2, v3, v4, v5, v6, v7, v8, v9, v10, v11, v12, v13, v14, v15] t) ∧ Below w.heap.size w w0 ∧ Hid (w0.heap[P]? = some (.cells #[v0, v1, v2, v3, v4, v5, v6, v7, v8, v9, v10, v11, v12, v13, v14, v15] t (0, 0))) ∧ P < w0.heap.size :=
  ⟨_, _, rfl, rfl, bl_alloc (Below.refl _ _) _, aA (heap_alloc_new w _), by simp⟩
def MoRel (l : List Int) (w : World) (a i : Value) (wr : World) : Prop := w = wr ∧ ∃ k : Nat, k ≤ l.length ∧ i = .int .i64 k ∧ a = .int .i64 (most (l.take k))
noncomputable def agB (m : Mach) (n : Net) (mo : Int) (s : Asy × Nat) : Nat → Bool
  | 0 => true
  | j + 1 => decide ((passK m n mo j s).2 < (passK m n mo (j + 1) s).2)
def AgRel (mo : Int) (s : Asy × Nat) (n : Net) (m : Mach) (vs ve vc vo ne ni nn : Value) (base Y : Nat) (w : World) (b : Value) (wr : World) : Prop :=
  ∃ (j : Nat) (ag : Bool), b = .bool ag ∧ ag = agB m n mo s j ∧ (∃ val, CsB m vs ve vc vo ne ni nn wr base val (passK m n mo j s) Y) ∧ w.grownBy wr (some Y)
def PgRel (mo : Int) (t : Asy × Nat) (n : Net) (m : Mach) (vs ve vc vo ne ni nn : Value) (base Y : Nat) (w : World) (b i : Value) (wr : World) : Prop :=
  ∃ (v : Nat) (ag : Bool), v ≤ n.es.length ∧ i = .int .i64 v ∧ b = .bool ag ∧ ag = decide (t.2 < (passA m n mo v t).2) ∧ (∃ val, CsB m vs ve vc vo ne ni nn wr base val (passA m n mo v t) Y) ∧ w.grownBy wr (some Y)
def manyAt (Y : Nat) (wr : World) : Nat := match wr.cell? ⟨Y, 15, none⟩ with
  | some (.int _ c) => c.toNat
  | _ => 0
def trueN (b : Value) : Nat := match b with
  | .bool true => 1
  | _ => 0
theorem CsB.many {m : Mach} {vs ve vc vo ne ni nn : Value} {w : World} {base Y : Nat} {val : Key → Value} {s : Asy × Nat} (h : CsB m vs ve vc vo ne ni nn w base val s Y) : manyAt Y w = s.2 := by have hb := h.box;unfold csBox at hb;have := (cells16 (aA hb)).2.2.2.1;unfold manyAt;rw [this];exact Int.toNat_natCast _
theorem CsB.up {m : Mach} {vs ve vc vo ne ni nn : Value} {w w' : World} {base Y : Nat} {val : Key → Value} {s : Asy × Nat} (h : CsB m vs ve vc vo ne ni nn w base val s Y) (hb : Below w.heap.size w w') : CsB m vs ve vc vo ne ni nn w' base val s Y :=
  ⟨AsyK.up h.k hb, (hb.block Y (heap_lt h.box)).trans h.box⟩
set_option maxRecDepth 100000 in
set_option maxHeartbeats 4000000 in
theorem spec_CatchUp (vs ve vc vo : Value) (m : Mach) (ne ni nn : Value) (n : Net) (xr xb xn xs xf : Value) (x : Asy) (w : World) (hm : MachR w w.heap.size vs ve vc vo m) (hn : NetR w w.heap.size ne ni nn n) (hx : AsyR w w.heap.size xr xb xn xs xf x) (hz : n.es.length ≤ 2000000) :
  Calls Tryz.prog 27 #[machV vs ve vc vo m, .agg #[ne, ni, nn], .agg #[xr, xb, xn, xs, xf]] w (CuPost m n x w) := by
 unfold machV;have HMM := aA hm;have HNN := aA hn;have HXX := aA hx;obtain ⟨⟨A0, m0, c0, rfl⟩, ⟨A1, m1, c1, rfl⟩, ⟨A2, m2, c2, rfl⟩, A3, m3, c3, rfl⟩ := hm.slices;have hne := hn.e;obtain ⟨A4, c4, rfl, hc4, hM4, hr4⟩ := hne;obtain ⟨-, ⟨A5, m5, c5, rfl⟩, A6, m6, c6, rfl⟩ := hn.slices;unfold maxLen at hM4;obtain ⟨-, ⟨A11, m11, c11, rfl⟩, ⟨A12, m12, c12, rfl⟩, ⟨A8, m8, c8, rfl⟩, -⟩ := hx.slices;have hxr := hx.r.open_;have hxf := hx.f;obtain ⟨A10, c10, rfl, hr1, hr2, hrc⟩ := hxr;obtain ⟨A9, c9, rfl, hf1, hf2, hfc⟩ := hxf;unfold maxLen at hr2 hf2;have HRC := aA hrc;have HFC := aA hfc;clear hr4 hrc hfc;obtain ⟨w0, hw0, hb0, HM, hz0, HS0⟩ := box7 w (.int .i64 m.deg) (.int .i64 m.st) (.int .i64 m.msg) (.slice A0 m0 c0) (.slice A1 m1 c1) (.slice A2 m2 c2) (.slice A3 m3 c3) 46;obtain ⟨w1, hw1, hb1, HD, hz1, HS1⟩ := box3 w0 (.slice A4 n.es.length c4) (.slice A5 m5 c5) (.slice A6 m6 c6) 50;replace HM := bk HM hb1;obtain ⟨w2, hw2, hb2, HY, hz2, HS2⟩ := box5 w1 (.slice A10 x.rounds.length c10) (.slice A11 m11 c11) (.slice A12 m12 c12) (.slice A8 m8 c8) (.slice A9 x.flight.length c9) 40;replace HM := bk HM hb2;replace HD := bk HD hb2;have hB : Below w.heap.size w w2 := bl_trans (bl_trans (hb0) hb1) hb2;have HW := aA (show w2 = ((w.alloc (.cells #[.int .i64 m.deg, .int .i64 m.st, .int .i64 m.msg, .slice A0 m0 c0, .slice A1 m1 c1, .slice A2 m2 c2, .slice A3 m3 c3] 46)).alloc (.cells #[.slice A4 n.es.length c4, .slice A5 m5 c5, .slice A6 m6 c6] 50)).alloc (.cells #[.slice A10 x.rounds.length c10, .slice A11 m11 c11, .slice A12 m12 c12, .slice A8 m8 c8, .slice A9 x.flight.length c9] 40) by rw [hw2, hw1, hw0]);obtain ⟨P1, hP1⟩ : ∃ z, z = w0.heap.size := ⟨_, rfl⟩
 have HP1 := aA (show w.heap.size + 1 = P1 by rw [hP1, HS0.out]);have hPl1 : w.heap.size < P1 := by rw [← HP1.out]; omega
 rw [← hP1] at HD hz1;obtain ⟨P2, hP2⟩ : ∃ z, z = w1.heap.size := ⟨_, rfl⟩
 have HP2 := aA (show w.heap.size + 1 + 1 = P2 by rw [hP2, HS1.out, HS0.out]);have hPl2 : w.heap.size < P2 := by rw [← HP2.out]; omega
 rw [← hP2] at HY hz2;obtain ⟨⟨g0, g1, g2⟩, ⟨g3, g4, g5, g6⟩, gf⟩ := cells7 HM;obtain ⟨q0, q1, q2, qf⟩ := cells3 HD;obtain ⟨⟨y0, y1, y2⟩, ⟨y3, y4⟩, yf⟩ := cells5 HY;have eg0 := g0;have eg1 := g1;have eg2 := g2;have eg3 := g3;have eg4 := g4;have eg5 := g5;have eg6 := g6;have eq0 := q0;have eq1 := q1;have eq2 := q2;have ey0 := y0;have ey1 := y1;have ey2 := y2;have ey3 := y3;have ey4 := y4;rw [HW.out] at eg0 eg1 eg2 eg3 eg4 eg5 eg6 eq0 eq1 eq2 ey0 ey1 ey2 ey3 ey4;rw [← HP1.out] at eq0 eq1 eq2;rw [← HP2.out] at ey0 ey1 ey2 ey3 ey4;have hzb0 : w.heap.size < w2.heap.size := by omega
 have hzb1 : P1 < w2.heap.size := by omega
 have hzb2 : P2 < w2.heap.size := by omega
 have HR := aA (hm.up hB);have HN := aA (hn.up hB);have HX := aA (hx.up hB);clear hw2 hw1 hw0 hP1 hP2;obtain ⟨w3, hw3, hb3, HQ, hz3, HS3⟩ := box5 w2 nilV nilV nilV nilV nilV 40;unfold nilV at hw3 HQ;obtain ⟨P3, hP3⟩ : ∃ z, z = w2.heap.size := ⟨_, rfl⟩
 have HP3 := aA (show P2 + 1 = P3 by rw [hP3, HS2.out, HS1.out, HS0.out, ← HP2.out]);rw [← hP3] at HQ hz3;have HW3 := aA hw3;have hP23 : P2 < P3 := by rw [← HP3.out]; omega
 have hP12 : P1 < P2 := by rw [← HP2.out, ← HP1.out]; omega
 clear eg0 eg1 eg2 eg3 eg4 eg5 eg6 eq0 eq1 eq2 ey0 ey1 ey2 ey3 ey4 g0 g1 g2 g3 g4 g5 g6 gf q0 q1 q2 qf y0 y1 y2 y3 y4 yf HR HN HX;replace HM := bk HM hb3;replace HD := bk HD hb3;replace HY := bk HY hb3;replace hB := bl_trans hB hb3;obtain ⟨⟨g0, g1, g2⟩, ⟨g3, g4, g5, g6⟩, gf⟩ := cells7 HM;obtain ⟨q0, q1, q2, qf⟩ := cells3 HD;obtain ⟨⟨y0, y1, y2⟩, ⟨y3, y4⟩, yf⟩ := cells5 HY;rw [hw3] at g0 g1 g2 g3 g4 g5 g6 q0 q1 q2 y0 y1 y2 y3 y4;rw [HW.out] at g0 g1 g2 g3 g4 g5 g6 q0 q1 q2 y0 y1 y2 y3 y4;rw [← HP1.out] at q0 q1 q2;rw [← HP2.out] at y0 y1 y2 y3 y4;clear hw3 hP3;go_enter Tryz.func27, Tryz.ntmps27;go_wp2_with fail;rw [HP2.out, HP1.out, ← HW.out, HP3.out, ← HW3.out];clear g0 g1 g2 g3 g4 g5 g6 gf q0 q1 q2 qf y0 y1 y2 y3 y4 yf;have hC := spec_syGood _ _ _ _ m _ _ _ n _ _ _ _ _ x w3 (HMM.out.up hB) (HNN.out.up hB) (HXX.out.up hB) hz;unfold machV at hC;refine hC.mono ?_;clear hC;rintro e w4 ⟨rfl, hb4⟩;replace HM := bk HM hb4;replace HD := bk HD hb4;replace HY := bk HY hb4;replace HQ := bk HQ hb4;replace hB := bl_trans hB hb4;have hz4 := hb4.size;have hzB := hB.size;obtain ⟨⟨p0, p1, p2⟩, ⟨p3, p4⟩, pf⟩ := cells5 HQ;cases h1 : goodB m n x with
 | false =>
  have HB0 := aA h1;obtain ⟨we, hwe, HE, hge⟩ := set5 HQ (.slice none 0 0) (.slice none 0 0) (.slice none 0 0) (.slice none 0 0) (.slice none 0 0);have HWE := aA hwe;clear hwe h1;go_wp2_with fail;rw [← HWE.out];obtain ⟨⟨s0, s1, s2⟩, ⟨s3, s4⟩, -⟩ := cells5 HE;have hBE : Below w.heap.size w we := Below.grown hB hge (by omega) (fun k hk => by have e := aE (show some P3 = some k from hk); omega);exact bodyPost_ret (v := .tuple #[.agg #[.slice none 0 0, .slice none 0 0, .slice none 0 0, .slice none 0 0, .slice none 0 0], .int .i64 0, .bool false]) (by simp [results, Tryz.results27, go_sem, s0, s1, s2, s3, s4]) rfl ⟨fun _ => nilV, by rw [HB0.out, cuN_no HB0.out]; rfl, by rw [cuX_no HB0.out]; exact nilAsyK _ _, hBE⟩
 | true =>
  have hgp := propB_iff.1 h1;have HG := aA hgp;have HSM := aA (small_of hgp.1.2.1 hgp.2);have H1 := aA h1;have h40 := hgp.1.2.1.1;have hfl := hgp.2.2.2.2.2.1;have hrl : x.rounds.length = n.es.length := by have := hgp.2.1.1; omega
  have HFL := aA hfl;have hfl40 : x.flight.length ≤ 40 ∧ x.rounds.length ≤ 40 := by omega
  clear hgp h1 hfl hrl;go_wp2_with fail;clear p0 p1 p2 p3 p4 pf;refine aH (S := fun w' => Below w4.heap.size w4 w') (by kernel_rfl) ?_ (fun hHeld => ?_)
  · exact (Below.refl _ _).drew
  obtain ⟨wd, hwd⟩ : ∃ z, z = w4.drew := ⟨_, rfl⟩
  rw [← hwd] at hHeld ⊢;have hB1 : Below w4.heap.size w4 wd := hHeld;have hzd := hB1.size;clear hHeld hwd;refine tk 0 26 rfl rfl ?_ (hy := fun w hSw => by obtain ⟨⟨g0, g1, g2⟩, ⟨g3, g4, g5, g6⟩, gf⟩ := cells7 (bk HM hSw); go_simp <;> with_reducible rfl)
  try simp only [Act.put, pu]
  refine tk 1 27 rfl rfl ?_ (hy := fun w hSw => by obtain ⟨q0, q1, q2, qf⟩ := cells3 (bk HD hSw); go_simp <;> with_reducible rfl)
  try simp only [Act.put, pu]
  refine tk 2 28 rfl rfl ?_ (hy := fun w hSw => by obtain ⟨⟨y0, y1, y2⟩, ⟨y3, y4⟩, yf⟩ := cells5 (bk HY hSw); go_simp <;> with_reducible rfl)
  try simp only [Act.put, pu]
  refine aJ (rs := [3]) (by kernel_rfl) (by simp) ?_;refine aI rfl (fun K hK => ?_) AllReadyH.nil;go_simp;go_at_call 36;refine (spec_syOwn _ _ _ _ _ x wd (HXX.out.up (hB.trans (hB1.mono hzB))) HSM.out).mono ?_;rintro e w5 ⟨v0, rfl, hk5, hb5⟩;replace hk5 := OwnK.mono hk5 (show w4.heap.size ≤ _ by omega);have hz5 := hb5.size;replace hB1 := bl_trans hB1 hb5;obtain ⟨C10, f10, e_r⟩ := own_sl1 (hk5.own .r trivial);obtain ⟨C11, f11, e_b⟩ := own_sl1 (hk5.own .b trivial);obtain ⟨C12, f12, e_n⟩ := own_sl1 (hk5.own .n trivial);obtain ⟨C8, f8, e_s⟩ := own_sl1 (hk5.own .s trivial);obtain ⟨C9, f9, e_f⟩ := own_sl1 (hk5.own .f trivial);have HEN := aA (And.intro e_r (And.intro e_b (And.intro e_n (And.intro e_s e_f))));rw [e_r, e_b, e_n, e_s, e_f];clear e_r e_b e_n e_s e_f;generalize (rowK x v0 .r).len = l10 at HEN ⊢;generalize (rowK x v0 .b).len = l11 at HEN ⊢;generalize (rowK x v0 .n).len = l12 at HEN ⊢;generalize (rowK x v0 .s).len = l8 at HEN ⊢;generalize (rowK x v0 .f).len = l9 at HEN ⊢;refine hK.out _ _ hB1 (fun hHeld => ?_);clear hHeld hK K
  try simp only [Act.put, pu]
  refine stk 4 30 ?_;refine aJ (rs := [5]) (by kernel_rfl) (by simp) ?_;refine aI rfl (fun K hK => ?_) AllReadyH.nil;go_simp;obtain ⟨Y, w6, hPY, hw6, hb6, HY6, hYw⟩ := box16 w5 (.int .i64 m.deg) (.int .i64 m.st) (.int .i64 m.msg) (.slice A0 m0 c0) (.slice A1 m1 c1) (.slice A2 m2 c2) (.slice A3 m3 c3) (.slice A4 n.es.length c4) (.slice A5 m5 c5) (.slice A6 m6 c6) (.slice C10 l10 f10) (.slice C11 l11 f11) (.slice C12 l12 f12) (.slice C8 l8 f8) (.slice C9 l9 f9) (.int .i64 0) 100;rw [hPY, ← hw6];clear hw6;have hb46 := bl_trans hB1 hb6;have hYb : w4.heap.size ≤ Y := by omega
  refine hK.out _ _ hb46 (fun hHeld => ?_);clear hHeld hK K
  try simp only [Act.put, pu]
  refine stk 6 9 ?_;refine aK (by kernel_rfl) ?_ _;have HK6 := aA (show CsB m (.slice A0 m0 c0) (.slice A1 m1 c1) (.slice A2 m2 c2) (.slice A3 m3 c3) (.slice A4 n.es.length c4) (.slice A5 m5 c5) (.slice A6 m6 c6) w6 w4.heap.size v0 (x, 0) Y from ⟨AsyK.up hk5 hb6, by unfold csBox; rw [HEN.out.1, HEN.out.2.1, HEN.out.2.2.1, HEN.out.2.2.2.1, HEN.out.2.2.2.2]; exact HY6.out⟩);have HB6 := aA hb46;have hz6 := hb46.size;have HMb := aA (HMM.out.up hB);have HNb := aA (HNN.out.up hB);clear hk5 hb5 hb6 hB1 hPY;have HYx := bk HY hb46;obtain ⟨⟨y0, y1, y2⟩, ⟨y3, y4⟩, yf⟩ := cells5 HYx;have hB6 := hB.trans (hb46.mono hzB);go_wp2_with fail;clear y0 y1 y2 y3 y4 yf;go_loopw [35] (fun i wr => FlRel x.flight.length (fun v => dropV m n x v (x, 0)) m (.slice A0 m0 c0) (.slice A1 m1 c1) (.slice A2 m2 c2) (.slice A3 m3 c3) (.slice A4 n.es.length c4) (.slice A5 m5 c5) (.slice A6 m6 c6) w4.heap.size Y w6 i wr) (fun i _ => x.flight.length - (intOf i).toNat)
  case atStart => exact ⟨0, Nat.zero_le _, rfl, ⟨v0, HK6.out⟩, ⟨rfl, rfl, rfl, Nat.le_refl _, fun _ _ _ => rfl⟩⟩
  case round =>
   obtain ⟨v, hv, rfl, ⟨vk, hk⟩, hgr⟩ := hrel;have hgs := good_dropV (s := (x, 0)) HG.out x v;have hcv := dropV_le HG.out (x, 0) v;obtain ⟨s, hs⟩ : ∃ s, s = dropV m n x v (x, 0) := ⟨_, rfl⟩
   have hkv : CsB m (.slice A0 m0 c0) (.slice A1 m1 c1) (.slice A2 m2 c2) (.slice A3 m3 c3) (.slice A4 n.es.length c4) (.slice A5 m5 c5) (.slice A6 m6 c6) wr w4.heap.size vk s Y := by rw [hs]; exact hk
   rw [← hs] at hgs hcv;replace hcv : s.2 ≤ 72 * v := by have : s.2 ≤ 0 + 72 * v := hcv; omega
   have HS := aA hs;have HKV := aA hkv;have HGR := aA hgr;have HGS := aA hgs;clear hk hs hkv hgs;have hBr := HB6.out.trans (grown_base hgr hz6 hYb);clear hgr;by_cases hltv : v < x.flight.length
   ·
    have k1 : ((v : Int) < (x.flight.length : Int)) = True := eq_true (by omega);obtain ⟨f, hf⟩ : ∃ y, x.flight[v]? = some y := ⟨_, aC hltv⟩
    have hpa : portsAt x v = f := portsAt_eq hf;have hf6 : f.length ≤ 6 := by rw [← hpa]; exact ports_6 HG.out v
    obtain ⟨adf, rfl, haf, hcf⟩ := HFC.out (by omega);obtain ⟨uf, huf, hzf⟩ := hcf v f hf;obtain ⟨Ag, cg, rfl, hg1, hg2, hgc⟩ := hzf;have HGC := aA hgc;have HPA := aA hpa;unfold maxLen at hg2;have cfk := ((hB.trans (hBr.mono hzB)).cell (p := adf.add v) (by rw [block_add]; exact haf)).trans huf;clear hf huf hgc hpa hcf;go_wp2_with fail;clear cfk;go_loopw [42] (fun i wr => FlRel f.length (fun j => dropP m n x v j s) m (.slice A0 m0 c0) (.slice A1 m1 c1) (.slice A2 m2 c2) (.slice A3 m3 c3) (.slice A4 n.es.length c4) (.slice A5 m5 c5) (.slice A6 m6 c6) w4.heap.size Y w6 i wr) (fun i _ => f.length - (intOf i).toNat)
    case atStart => exact ⟨0, Nat.zero_le _, rfl, ⟨vk, HKV.out⟩, HGR.out⟩
    case round =>
     obtain ⟨j, hj, rfl, ⟨vj, hk⟩, hgr⟩ := hrel;have hgt := good_dropP HGS.out x v j;have hcp := dropP_le HG.out v s j;obtain ⟨t, ht⟩ : ∃ t, t = dropP m n x v j s := ⟨_, rfl⟩
     have hkv : CsB m (.slice A0 m0 c0) (.slice A1 m1 c1) (.slice A2 m2 c2) (.slice A3 m3 c3) (.slice A4 n.es.length c4) (.slice A5 m5 c5) (.slice A6 m6 c6) wr w4.heap.size vj t Y := by rw [ht]; exact hk
     rw [← ht] at hgt hcp;have HT := aA ht;have HKP := aA hkv;have HGP := aA hgr;have HGT := aA hgt;clear hk ht hkv hgt;have hBj := HB6.out.trans (grown_base hgr hz6 hYb);clear hgr;by_cases hltj : j < f.length
     ·
      have k2 : ((j : Int) < (f.length : Int)) = True := eq_true (by omega);obtain ⟨ls, hls⟩ : ∃ y, f[j]? = some y := ⟨_, aC hltj⟩
      have hla : lettersAt x v j = ls := by unfold lettersAt; rw [HPA.out, aG, hls]; rfl
      have hl12 : ls.length ≤ 12 := by rw [← hla]; exact letters_12 HG.out v j
      obtain ⟨adg, rfl, hag, hcg⟩ := HGC.out (by omega);obtain ⟨ul, hul, hzl⟩ := hcg j ls hls;obtain ⟨Al, cl, rfl, hlm1, hlm2, -, -⟩ := hzl;unfold maxLen at hlm2;have cgk := ((hB.trans (hBj.mono hzB)).cell (p := adg.add j) (by rw [block_add]; exact hag)).trans hul;have HLA := aA hla;clear hls hul hla hcg;go_wp2_with fail;clear cgk;go_loopw [49] (fun i wr => FlRel ls.length (fun q => dropN m n v j q t) m (.slice A0 m0 c0) (.slice A1 m1 c1) (.slice A2 m2 c2) (.slice A3 m3 c3) (.slice A4 n.es.length c4) (.slice A5 m5 c5) (.slice A6 m6 c6) w4.heap.size Y w6 i wr) (fun i _ => ls.length - (intOf i).toNat)
      case atStart => exact ⟨0, Nat.zero_le _, rfl, ⟨vj, HKP.out⟩, HGP.out⟩
      case round =>
       obtain ⟨q, hq, rfl, ⟨vq, hk⟩, hgr⟩ := hrel;have hgy := good_dropN HGT.out v j q;have hcn := dropN_le (m := m) (n := n) v j t q;obtain ⟨y, hy⟩ : ∃ y, y = dropN m n v j q t := ⟨_, rfl⟩
       have hkv : CsB m (.slice A0 m0 c0) (.slice A1 m1 c1) (.slice A2 m2 c2) (.slice A3 m3 c3) (.slice A4 n.es.length c4) (.slice A5 m5 c5) (.slice A6 m6 c6) wr w4.heap.size vq y Y := by rw [hy]; exact hk
       rw [← hy] at hgy hcn;have HYq := aA hy;have HKQ := aA hkv;have HGQ := aA hgr;have hBq := HB6.out.trans (grown_base hgr hz6 hYb);have hzq := hgr.size;clear hk hy hgr;by_cases hltq : q < ls.length
       ·
        have k3 : ((q : Int) < (ls.length : Int)) = True := eq_true (by omega);go_wp2_with fail;refine (spec_do _ _ _ _ m _ _ _ n vq y w4.heap.size Y 3 v j 0 wr (HMb.out.to hBq (Nat.le_refl _)) (HNb.out.below hBq) hkv (by omega) hgy (by omega)).mono ?_;rintro e w9 ⟨rfl, ⟨v9, hk9⟩, hgr9⟩
        have HF := aA (show (∃ val, CsB m (.slice A0 m0 c0) (.slice A1 m1 c1) (.slice A2 m2 c2) (.slice A3 m3 c3) (.slice A4 n.es.length c4) (.slice A5 m5 c5) (.slice A6 m6 c6) w9 w4.heap.size val (dropN m n v j (q + 1) t) Y) ∧ w6.grownBy w9 (some Y) from ⟨⟨v9, by
         have e1 : dropN m n v j (q + 1) t = ctA m n y ⟨3, v, j, 0⟩ := by rw [HYq.out]; rfl
         rw [e1]
         exact hk9⟩, grownT HGQ.out hgr9⟩)
        clear hk9 hgr9 hkv hgy;go_wp2_with fail;go_roundw
        case rel => exact ⟨q + 1, by omega, by go_num, HF.out⟩
        case measure => simp [intOf]; omega
       ·
        obtain rfl : q = ls.length := by omega
        have k3 : ((ls.length : Int) < (ls.length : Int)) = False := eq_false (by omega);have HF := aA (show dropP m n x v (j + 1) s = y from by rw [HYq.out, HT.out, ← HLA.out]; rfl);clear hkv hgy;go_wp2_with fail;go_roundw
        case rel => exact ⟨j + 1, by omega, by go_num, ⟨vq, by show CsB _ _ _ _ _ _ _ _ _ _ _ (dropP m n x v (j + 1) s) _; rw [HF.out]; exact HKQ.out⟩, HGQ.out⟩
        case measure => simp [intOf]; omega
     ·
      obtain rfl : j = f.length := by omega
      have k2 : ((f.length : Int) < (f.length : Int)) = False := eq_false (by omega);have HF := aA (show dropV m n x (v + 1) (x, 0) = t from by rw [HT.out, HS.out, ← HPA.out]; rfl);go_wp2_with fail;go_roundw
      case rel => exact ⟨v + 1, by omega, by go_num, ⟨vj, by show CsB _ _ _ _ _ _ _ _ _ _ _ (dropV m n x (v + 1) (x, 0)) _; rw [HF.out]; exact HKP.out⟩, HGP.out⟩
      case measure => simp [intOf]; omega
   ·
    obtain rfl : v = x.flight.length := by omega
    have k1 : ((x.flight.length : Int) < (x.flight.length : Int)) = False := eq_false (by omega);have hs0 : s = cu0 m n x := by rw [HS.out, HFL.out]; rfl
    have HS0' := aA hs0;have hle0 : s.2 + 2 * muA n s.1 ≤ 27000 := by rw [hs0]; exact cu0_le HG.out
    have HYx := bk HY hBr;obtain ⟨⟨y0, y1, y2⟩, ⟨y3, y4⟩, yf⟩ := cells5 HYx;clear hs0;go_wp2_with fail;clear y0 y1 y2 y3 y4 yf;go_loopw [14, 62] (fun a i wr' => MoRel x.rounds wr a i wr') (fun _ i _ => x.rounds.length - (intOf i).toNat)
    case atStart => exact ⟨rfl, 0, Nat.zero_le _, rfl, rfl⟩
    case round =>
     obtain ⟨rfl, k, hk, rfl, rfl⟩ := hrel;by_cases hltk : k < x.rounds.length
     ·
      have k2 : ((k : Int) < (x.rounds.length : Int)) = True := eq_true (by omega);obtain ⟨a, ha⟩ : ∃ a, x.rounds[k]? = some a := ⟨_, aC hltk⟩
      obtain ⟨adr, rfl, har, hcr⟩ := HRC.out (by omega);have crk := ((hB.trans (hBr.mono hzB)).cell (p := adr.add k) (by rw [block_add]; exact har)).trans (hcr k a ha);have HMS := aA (mostT ha);clear ha hcr;go_wp2_with fail;refine (spec_l1Most _ _ _).mono ?_;rintro e w' ⟨rfl, rfl⟩;rw [← HMS.out];go_wp2_with fail;go_roundw
      case rel => exact ⟨rfl, k + 1, by omega, by go_num, rfl⟩
      case measure => simp [intOf]; omega
     ·
      obtain rfl : k = x.rounds.length := by omega
      have k2 : ((x.rounds.length : Int) < (x.rounds.length : Int)) = False := eq_false (by omega);obtain ⟨mo, hmo⟩ : ∃ z, z = most x.rounds := ⟨_, rfl⟩
      have hmo2 : most (x.rounds.take x.rounds.length) = mo := by rw [List.take_of_length_le (Nat.le_refl _), hmo]
      rw [hmo2];have HMO := aA hmo;clear hmo hmo2;go_wp2_with fail;go_loopw [17] (fun b wr' => AgRel mo s n m (.slice A0 m0 c0) (.slice A1 m1 c1) (.slice A2 m2 c2) (.slice A3 m3 c3) (.slice A4 n.es.length c4) (.slice A5 m5 c5) (.slice A6 m6 c6) w4.heap.size Y w6 b wr') (fun b wr' => 2 * (30000 - manyAt Y wr') + trueN b)
      case atStart => exact ⟨0, true, rfl, rfl, ⟨vk, HKV.out⟩, HGR.out⟩
      case round =>
       obtain ⟨j, ag, rfl, hag, ⟨vj, hk⟩, hgr⟩ := hrel;have hgt := good_passK HGS.out mo j;have hadv := (adv_passK HGS.out mo j).le;obtain ⟨t, ht⟩ : ∃ t, t = passK m n mo j s := ⟨_, rfl⟩
       have hkv : CsB m (.slice A0 m0 c0) (.slice A1 m1 c1) (.slice A2 m2 c2) (.slice A3 m3 c3) (.slice A4 n.es.length c4) (.slice A5 m5 c5) (.slice A6 m6 c6) wr w4.heap.size vj t Y := by rw [ht]; exact hk
       rw [← ht] at hgt hadv;have hbt : t.2 + 2 * muA n t.1 ≤ 27000 := by omega
       have HTJ := aA ht;have HKJ := aA hkv;have HGJ := aA hgr;have HGT := aA hgt;have HMT := aA (show manyAt Y wr = t.2 from HKJ.out.many);have hBj := HB6.out.trans (grown_base hgr hz6 hYb);have HBJ := aA hBj;have hszj := hBj.size;have HDj := bk HD hBj;have HQj := bk HQ hBj;clear hk ht hgt hgr;cases ag with
       | true =>
        clear hkv hBj hadv hag;obtain ⟨q0, q1, q2, qf⟩ := cells3 HDj;go_wp2_with fail;go_loopw [17, 74] (fun b i wr => PgRel mo t n m (.slice A0 m0 c0) (.slice A1 m1 c1) (.slice A2 m2 c2) (.slice A3 m3 c3) (.slice A4 n.es.length c4) (.slice A5 m5 c5) (.slice A6 m6 c6) w4.heap.size Y w6 b i wr) (fun _ i _ => n.es.length - (intOf i).toNat)
        case atStart => exact ⟨0, false, Nat.zero_le _, rfl, rfl, (decide_eq_false (Nat.lt_irrefl _)).symm, ⟨vj, HKJ.out⟩, HGJ.out⟩
        case round =>
         clear q0 q1 q2 qf;obtain ⟨v, ag, hv, rfl, rfl, hag, ⟨vv, hk⟩, hgr⟩ := hrel;have hgp := good_passA HGT.out mo v;have hadv := (adv_pass HGT.out mo v hv).le;obtain ⟨p, hp⟩ : ∃ p, p = passA m n mo v t := ⟨_, rfl⟩
         have hkv : CsB m (.slice A0 m0 c0) (.slice A1 m1 c1) (.slice A2 m2 c2) (.slice A3 m3 c3) (.slice A4 n.es.length c4) (.slice A5 m5 c5) (.slice A6 m6 c6) wr w4.heap.size vv p Y := by rw [hp]; exact hk
         rw [← hp] at hgp hadv hag;have hbp : p.2 + 2 * muA n p.1 ≤ 27000 := by omega
         have htp : t.2 ≤ p.2 := hadv.1;have HP := aA hp;have HAG := aA hag;have HKV2 := aA hkv;have HGV := aA hgr;have HGP := aA hgp;have hBv := HB6.out.trans (grown_base hgr hz6 hYb);have HBV0 := aA hBv;have hszv := hBv.size;have HDv := bk HD hBv;clear hk hp hag hgr hadv;by_cases hlv : v < n.es.length
         ·
          have k1 : ((v : Int) < (n.es.length : Int)) = True := eq_true (by omega);obtain ⟨l, sl, f, r, hat⟩ := at_of hgp.2 hlv;have HL := aA hat.hl;have hl6 := deg_6 HG.out hat.hl;have er : p.1.rounds.getD v 0 = r := by rw [aG, hat.hr]; rfl
          have HRV := aA er;have hrv : v < p.1.rounds.length := (aB.1 hat.hr).1;have hsv : v < p.1.slots.length := (aB.1 hat.hs).1;have HSA := aA (slotsAt_eq hat.hs);have hxr := AsyK.reads hkv.k (I64A.good hgp);have hbx := hkv.box;unfold csBox at hbx;obtain ⟨vr, evr⟩ : ∃ z, z = vv .r := ⟨_, rfl⟩
          obtain ⟨vb, evb⟩ : ∃ z, z = vv .b := ⟨_, rfl⟩
          obtain ⟨vn, evn⟩ : ∃ z, z = vv .n := ⟨_, rfl⟩
          obtain ⟨vz, evz⟩ : ∃ z, z = vv .s := ⟨_, rfl⟩
          obtain ⟨vf, evf⟩ : ∃ z, z = vv .f := ⟨_, rfl⟩
          rw [← evr, ← evb, ← evn, ← evz, ← evf] at hxr hbx;obtain ⟨-, ⟨D1, N1, K1, rfl⟩, ⟨D2, N2, K2, rfl⟩, -, ⟨D4, N4, K4, rfl⟩⟩ := hxr.slices;obtain ⟨Ar, cr, rfl, hr1', hr2', hrc⟩ := hxr.r.open_;obtain ⟨adr, rfl, har, hcr⟩ := hrc (by omega);obtain ⟨Az, cz, rfl, hz1', hz2', hzc⟩ := hxr.s.open_;obtain ⟨adz, rfl, haz, hcz⟩ := hzc (by omega);obtain ⟨uz, huz, hrz⟩ := hcz v sl hat.hs;have hrr := hcr v r hat.hr;have HRZ := aA hrz;obtain ⟨Auz, muz, cuz, rfl⟩ := hrz.isSlice;have HYv := aA hbx;unfold maxLen at hr2' hz2';clear hat er hkv hgp hxr hbx evr evb evn evz evf hrc hcr hzc hcz hrz;obtain ⟨⟨g0, g1, g2, g3, g4, g5, g6⟩, ⟨q0, q1, q2⟩, ⟨y0, y1, y2, y3, y4⟩, c15, gf⟩ := cells16 HYv;by_cases hmr : mo ≤ r
          ·
           have k3 : (mo ≤ r) = True := eq_true hmr;have k3' : (r ≥ mo) = True := eq_true hmr
           have HZ := aA (show passA m n mo (v + 1) t = p from by
            have e2 : passA m n mo (v + 1) t = nodeA m n mo v p := by rw [HP.out]; rfl
            rw [e2];unfold nodeA
            rw [HRV.out, if_pos hmr])
           have HA2 := aA (show ag = decide (t.2 < (passA m n mo (v + 1) t).2) from by rw [HZ.out]; exact HAG.out);clear hBv;go_wp2_with fail;go_roundw
           case rel => exact ⟨v + 1, ag, by omega, by go_num, rfl, HA2.out, ⟨vv, by rw [HZ.out]; exact HKV2.out⟩, HGV.out⟩
           case measure => simp [intOf]; omega
          ·
           have HMR := aA (show r < mo by omega);have k3 : (mo ≤ r) = False := eq_false hmr;have k3' : (r ≥ mo) = False := eq_false hmr;clear hBv hmr;obtain ⟨p2, hp2⟩ : ∃ z, z = fillP m n v l.length p := ⟨_, rfl⟩
           have hg2 : goodP m n p2.1 := by rw [hp2]; exact good_fillP HGP.out v _
           have hadv2 := (adv_fillP HGP.out HL.out l.length (Nat.le_refl _)).le;rw [← hp2] at hadv2;have hb2 : p2.2 + 2 * muA n p2.1 ≤ 27000 ∧ p.2 ≤ p2.2 := by omega
           have HP2' := aA hp2;have HG2 := aA hg2;clear hadv2 hg2 hp2;go_wp2_with fail;refine (spec_l1Has _ sl (-1) _ HRZ.out).mono ?_;rintro e w' ⟨rfl, rfl⟩;cases hhas : hasB sl (-1) with
           | true =>
            clear hhas;go_wp2_with fail;refine (spec_fill _ _ _ _ m _ _ _ n vv p w4.heap.size Y wr (HMb.out.to HBV0.out (Nat.le_refl _)) (HNb.out.below HBV0.out) HKV2.out hszv hYb HGP.out v l HL.out hbp).mono ?_;clear g0 g1 g2 g3 g4 g5 g6 q0 q1 q2 y0 y1 y2 y3 y4 c15 gf hrr huz;rintro e w8 ⟨rfl, ⟨vx, hkx⟩, hgr8⟩;rw [← HP2'.out] at hkx;have HKX := aA hkx;have hgx := grownT HGV.out hgr8;have HGX := aA hgx;have HBX := aA (HB6.out.trans (grown_base hgx hz6 hYb));clear hkx hgr8 hgx;obtain ⟨bv, hbv⟩ : ∃ b, b = mayB n p2.1 ⟨5, v, 0, 0⟩ := ⟨_, rfl⟩
            have HBV := aA hbv;clear hbv;go_wp2_with fail;refine (spec_do _ _ _ _ m _ _ _ n vx p2 w4.heap.size Y 5 v 0 0 w8 (HMb.out.to HBX.out (Nat.le_refl _)) (HNb.out.below HBX.out) HKX.out (by have := HBX.out.size; omega) HG2.out (by omega)).mono ?_;rintro e w9 ⟨rfl, ⟨v9, hk9⟩, hgr9⟩;obtain ⟨zz, hzz⟩ : ∃ z, z = ctA m n p2 ⟨5, v, 0, 0⟩ := ⟨_, rfl⟩
            rw [← hzz] at hk9;have hzle : p.2 ≤ zz.2 ∧ zz.2 ≤ 27001 := by
             have h1 : p2.2 ≤ zz.2 ∧ zz.2 ≤ p2.2 + 1 := by rw [hzz]; unfold ctA; show p2.2 ≤ p2.2 + _ ∧ p2.2 + _ ≤ _; split <;> omega
             omega
            have HZ := aA (show passA m n mo (v + 1) t = zz from by
             have e1 : passA m n mo (v + 1) t = nodeA m n mo v p := by rw [HP.out]; rfl
             rw [e1];unfold nodeA;have e2 : n.es.getD v [] = l := by rw [aG, HL.out]; rfl
             rw [HRV.out, if_neg (by have := HMR.out; omega), e2, ← HP2'.out, hzz])
            have HK9 := aA hk9;have HG9 := aA (grownT HGX.out hgr9);have hbx9 := hk9.box;unfold csBox at hbx9;have HY9 := aA hbx9;clear hk9 hgr9 hbx9 hzz;obtain ⟨⟨g0, g1, g2, g3, g4, g5, g6⟩, ⟨q0, q1, q2⟩, ⟨y0, y1, y2, y3, y4⟩, c15, gf⟩ := cells16 HY9;rw [← HBV.out];cases ag with
            | true =>
             have hag2 : t.2 < zz.2 := by have := of_decide_eq_true HAG.out.symm; omega
             have HA2 := aA (show true = decide (t.2 < (passA m n mo (v + 1) t).2) from by rw [HZ.out]; exact (decide_eq_true hag2).symm);clear hag2;go_wp2_with fail;go_roundw
             case rel => exact ⟨v + 1, true, by omega, by go_num, rfl, HA2.out, ⟨v9, by rw [HZ.out]; exact HK9.out⟩, HG9.out⟩
             case measure => simp [intOf]; omega
            | false =>
             have hag1 : ¬ t.2 < p.2 := of_decide_eq_false HAG.out.symm;by_cases hgt : p.2 < zz.2
             ·
              have k9 : ((zz.2 : Int) > (p.2 : Int)) = True := eq_true (by omega);have k9' : ((p.2 : Int) < (zz.2 : Int)) = True := eq_true (by omega);have HA2 := aA (show true = decide (t.2 < (passA m n mo (v + 1) t).2) from by rw [HZ.out]; exact (decide_eq_true (by omega)).symm);go_wp2_with fail;go_roundw
              case rel => exact ⟨v + 1, true, by omega, by go_num, rfl, HA2.out, ⟨v9, by rw [HZ.out]; exact HK9.out⟩, HG9.out⟩
              case measure => simp [intOf]; omega
             ·
              have k9 : ((zz.2 : Int) > (p.2 : Int)) = False := eq_false (by omega);have k9' : ((p.2 : Int) < (zz.2 : Int)) = False := eq_false (by omega);have HA2 := aA (show false = decide (t.2 < (passA m n mo (v + 1) t).2) from by rw [HZ.out]; exact (decide_eq_false (by omega)).symm);go_wp2_with fail;go_roundw
              case rel => exact ⟨v + 1, false, by omega, by go_num, rfl, HA2.out, ⟨v9, by rw [HZ.out]; exact HK9.out⟩, HG9.out⟩
              case measure => simp [intOf]; omega
           | false =>
            have HP3' := aA (show p2 = p from by
             rw [HP2'.out];refine fillP_id ?_ _;rw [HSA.out];intro hm;rw [hasB_t hm] at hhas
             cases hhas)
            have HKX := aA (show CsB m (.slice A0 m0 c0) (.slice A1 m1 c1) (.slice A2 m2 c2) (.slice A3 m3 c3) (.slice A4 n.es.length c4) (.slice A5 m5 c5) (.slice A6 m6 c6) wr w4.heap.size vv p2 Y by rw [HP3'.out]; exact HKV2.out);have HGX := HGV;have HBX := HBV0;obtain ⟨vx, hvx⟩ : ∃ z, z = vv := ⟨_, rfl⟩
            rw [← hvx] at HKX;clear hhas hvx;clear g0 g1 g2 g3 g4 g5 g6 q0 q1 q2 y0 y1 y2 y3 y4 c15 gf hrr huz;obtain ⟨bv, hbv⟩ : ∃ b, b = mayB n p2.1 ⟨5, v, 0, 0⟩ := ⟨_, rfl⟩
            have HBV := aA hbv;clear hbv;go_wp2_with fail;refine (spec_do _ _ _ _ m _ _ _ n vx p2 w4.heap.size Y 5 v 0 0 wr (HMb.out.to HBX.out (Nat.le_refl _)) (HNb.out.below HBX.out) HKX.out (by have := HBX.out.size; omega) HG2.out (by omega)).mono ?_;rintro e w9 ⟨rfl, ⟨v9, hk9⟩, hgr9⟩;obtain ⟨zz, hzz⟩ : ∃ z, z = ctA m n p2 ⟨5, v, 0, 0⟩ := ⟨_, rfl⟩
            rw [← hzz] at hk9;have hzle : p.2 ≤ zz.2 ∧ zz.2 ≤ 27001 := by
             have h1 : p2.2 ≤ zz.2 ∧ zz.2 ≤ p2.2 + 1 := by rw [hzz]; unfold ctA; show p2.2 ≤ p2.2 + _ ∧ p2.2 + _ ≤ _; split <;> omega
             omega
            have HZ := aA (show passA m n mo (v + 1) t = zz from by
             have e1 : passA m n mo (v + 1) t = nodeA m n mo v p := by rw [HP.out]; rfl
             rw [e1];unfold nodeA;have e2 : n.es.getD v [] = l := by rw [aG, HL.out]; rfl
             rw [HRV.out, if_neg (by have := HMR.out; omega), e2, ← HP2'.out, hzz])
            have HK9 := aA hk9;have HG9 := aA (grownT HGX.out hgr9);have hbx9 := hk9.box;unfold csBox at hbx9;have HY9 := aA hbx9;clear hk9 hgr9 hbx9 hzz;obtain ⟨⟨g0, g1, g2, g3, g4, g5, g6⟩, ⟨q0, q1, q2⟩, ⟨y0, y1, y2, y3, y4⟩, c15, gf⟩ := cells16 HY9;rw [← HBV.out];cases ag with
            | true =>
             have hag2 : t.2 < zz.2 := by have := of_decide_eq_true HAG.out.symm; omega
             have HA2 := aA (show true = decide (t.2 < (passA m n mo (v + 1) t).2) from by rw [HZ.out]; exact (decide_eq_true hag2).symm);clear hag2;go_wp2_with fail;go_roundw
             case rel => exact ⟨v + 1, true, by omega, by go_num, rfl, HA2.out, ⟨v9, by rw [HZ.out]; exact HK9.out⟩, HG9.out⟩
             case measure => simp [intOf]; omega
            | false =>
             have hag1 : ¬ t.2 < p.2 := of_decide_eq_false HAG.out.symm;by_cases hgt : p.2 < zz.2
             ·
              have k9 : ((zz.2 : Int) > (p.2 : Int)) = True := eq_true (by omega);have k9' : ((p.2 : Int) < (zz.2 : Int)) = True := eq_true (by omega);have HA2 := aA (show true = decide (t.2 < (passA m n mo (v + 1) t).2) from by rw [HZ.out]; exact (decide_eq_true (by omega)).symm);go_wp2_with fail;go_roundw
              case rel => exact ⟨v + 1, true, by omega, by go_num, rfl, HA2.out, ⟨v9, by rw [HZ.out]; exact HK9.out⟩, HG9.out⟩
              case measure => simp [intOf]; omega
             ·
              have k9 : ((zz.2 : Int) > (p.2 : Int)) = False := eq_false (by omega);have k9' : ((p.2 : Int) < (zz.2 : Int)) = False := eq_false (by omega);have HA2 := aA (show false = decide (t.2 < (passA m n mo (v + 1) t).2) from by rw [HZ.out]; exact (decide_eq_false (by omega)).symm);go_wp2_with fail;go_roundw
              case rel => exact ⟨v + 1, false, by omega, by go_num, rfl, HA2.out, ⟨v9, by rw [HZ.out]; exact HK9.out⟩, HG9.out⟩
              case measure => simp [intOf]; omega
         ·
          obtain rfl : v = n.es.length := by omega
          have k1 : ((n.es.length : Int) < (n.es.length : Int)) = False := eq_false (by omega)
          have HA2 := aA (show ag = agB m n mo s (j + 1) from by
           rw [HAG.out];have e1 : passK m n mo (j + 1) s = p := by rw [HP.out, HTJ.out]; rfl
           show _ = decide ((passK m n mo j s).2 < (passK m n mo (j + 1) s).2)
           rw [e1, ← HTJ.out])
          have HK2 := aA (show CsB m (.slice A0 m0 c0) (.slice A1 m1 c1) (.slice A2 m2 c2) (.slice A3 m3 c3) (.slice A4 n.es.length c4) (.slice A5 m5 c5) (.slice A6 m6 c6) wr w4.heap.size vv (passK m n mo (j + 1) s) Y from by
           have e1 : passK m n mo (j + 1) s = p := by rw [HP.out, HTJ.out]; rfl
           rw [e1]
           exact HKV2.out)
          have HM1 := aA (show manyAt Y wr = p.2 from HKV2.out.many);clear hkv hgp hBv;go_wp2_with fail;go_roundw
          case rel => exact ⟨j + 1, ag, rfl, HA2.out, ⟨vv, HK2.out⟩, HGV.out⟩
          case measure =>
           rw [HM1.out, HMT.out];cases ag with
           | true =>
            have := of_decide_eq_true HAG.out.symm;show 2 * (30000 - p.2) + 1 < 2 * (30000 - t.2) + 1;omega
           | false =>
            have := of_decide_eq_false HAG.out.symm;show 2 * (30000 - p.2) + 0 < 2 * (30000 - t.2) + 1;omega
       | false =>
        have HFIN := aA (show cuF m n x = t from by
         cases j with
         | zero => cases hag
         | succ j =>
          have h1 := of_decide_eq_false hag.symm;have h2 := (adv_pass (good_passK HGS.out mo j) mo n.es.length (Nat.le_refl _))
          have h3 : passK m n mo (j + 1) s = passK m n mo j s := h2.eq (Nat.le_antisymm (Nat.le_of_not_lt h1) h2.le.1);unfold cuF
          rw [← HMO.out, ← HS0'.out, ← passK_end HGS.out h3, HTJ.out, h3])
        clear hag hadv;go_wp2_with fail;obtain ⟨B10, d10, e_r⟩ := own_sl1 (HKJ.out.k.own .r trivial);obtain ⟨B11, d11, e_b⟩ := own_sl1 (HKJ.out.k.own .b trivial);obtain ⟨B12, d12, e_n⟩ := own_sl1 (HKJ.out.k.own .n trivial);obtain ⟨B8, d8, e_s⟩ := own_sl1 (HKJ.out.k.own .s trivial);obtain ⟨B9, d9, e_f⟩ := own_sl1 (HKJ.out.k.own .f trivial);have hbx := HKJ.out.box;unfold csBox at hbx;have HEK := aA (And.intro e_r (And.intro e_b (And.intro e_n (And.intro e_s e_f))));rw [e_r, e_b, e_n, e_s, e_f] at hbx;clear e_r e_b e_n e_s e_f;generalize (rowK t.1 vj .r).len = n10 at HEK hbx;generalize (rowK t.1 vj .b).len = n11 at HEK hbx;generalize (rowK t.1 vj .n).len = n12 at HEK hbx;generalize (rowK t.1 vj .s).len = n8 at HEK hbx;generalize (rowK t.1 vj .f).len = n9 at HEK hbx;have hYwr : Y < wr.heap.size := heap_lt hbx;have HYt := aA hbx;clear hbx;refine aH (S := fun w' => w'.heap[Y]? = some (.cells #[.int .i64 m.deg, .int .i64 m.st, .int .i64 m.msg, .slice A0 m0 c0, .slice A1 m1 c1, .slice A2 m2 c2, .slice A3 m3 c3, .slice A4 n.es.length c4, .slice A5 m5 c5, .slice A6 m6 c6, .slice B10 n10 d10, .slice B11 n11 d11, .slice B12 n12 d12, .slice B8 n8 d8, .slice B9 n9 d9, .int .i64 t.2] 100 (0, 0))) (by kernel_rfl) ?_ (fun hHeld => ?_)
        · exact HYt.out
        obtain ⟨wd, hwd⟩ : ∃ z, z = wr.drew := ⟨_, rfl⟩
        rw [← hwd] at hHeld ⊢;have hbd : Below wr.heap.size wr wd := by rw [hwd]; exact (Below.refl _ _).drew
        have HQd := bk HQj hbd;have HYd := bk HYt hbd;have HKd := aA (HKJ.out.up hbd);have hBd := HBJ.out.trans (hbd.mono hszj);have hzd2 := hbd.size;clear hwd hHeld;refine stk 0 117 ?_;refine stk 1 118 ?_;refine stk 2 119 ?_;refine tk 3 120 rfl rfl ?_ (hy := fun w hSw => by obtain ⟨-, -, ⟨y0, y1, y2, y3, y4⟩, -⟩ := cells16 (aA hSw); go_simp <;> with_reducible rfl)
        try simp only [Act.put, pu]
        refine stk 4 121 ?_;refine stk 5 122 ?_;refine stk 6 123 ?_;refine tk 7 124 rfl rfl ?_ (hy := fun w hSw => by obtain ⟨-, -, -, c15, -⟩ := cells16 (aA hSw); go_simp <;> with_reducible rfl)
        try simp only [Act.put, pu]
        refine aJ (rs := [8]) (by kernel_rfl) (by simp) ?_;refine aI rfl (fun K hK => ?_) AllReadyH.nil;obtain ⟨⟨p0, p1, p2⟩, ⟨p3, p4⟩, pf⟩ := cells5 HQd;go_simp;obtain ⟨we, hwe, HE, hge⟩ := set5 HQd (.slice B10 n10 d10) (.slice B11 n11 d11) (.slice B12 n12 d12) (.slice B8 n8 d8) (.slice B9 n9 d9);rw [← hwe];clear hwe p0 p1 p2 p3 p4 pf;refine hK.out _ _ ((hge.block Y (heap_lt HYd.out) (fun h => by have e := aE h; omega)).trans HYd.out) (fun hHeld => ?_);clear hK K
        try simp only [Act.put, pu]
        refine stk 9 7 ?_;refine stk 10 8 ?_;refine aK (by kernel_rfl) ?_ _;obtain ⟨⟨s0, s1, s2⟩, ⟨s3, s4⟩, -⟩ := cells5 HE;have hBE : Below w.heap.size w we := Below.grown (hB.trans (hBd.mono hzB)) hge (by omega) (fun k hk => by have e := aE (show some P3 = some k from hk); omega);have hKE : AsyK we w.heap.size vj (cuX m n x) := by rw [cuX_yes H1.out, HFIN.out];exact OwnK.mono (AsyK.past HKd.out.k HQd.out hge) (by omega)
        go_wp2_with fail;exact bodyPost_ret (v := .tuple #[.agg #[.slice B10 n10 d10, .slice B11 n11 d11, .slice B12 n12 d12, .slice B8 n8 d8, .slice B9 n9 d9], .int .i64 t.2, .bool true]) (by simp [results, Tryz.results27, go_sem, s0, s1, s2, s3, s4]) rfl ⟨vj, by rw [HEK.out.1, HEK.out.2.1, HEK.out.2.2.1, HEK.out.2.2.2.1, HEK.out.2.2.2.2, H1.out, cuN_yes H1.out, HFIN.out], hKE, hBE⟩
end Go.Proofs.YtjklbjmdgiddcaaGreat
