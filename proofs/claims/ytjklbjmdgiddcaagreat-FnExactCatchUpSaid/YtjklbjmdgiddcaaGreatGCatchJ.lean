/-
  CatchUp of the program. No condition.
-/
import Derived.Test.YtjklbjmdgiddcaaGreatGCatchI
import Derived.Test.YtjklbjmdgiddcaaGreatGHeldBG
namespace Go.Proofs.YtjklbjmdgiddcaaGreat
open Go.RowKit
set_option linter.all false
noncomputable def cu0 (m : Mach) (n : Net) (x : Asy) : Asy × Nat := dropV m n x n.es.length (x, 0)
noncomputable def cuF (m : Mach) (n : Net) (x : Asy) : Asy × Nat := passK m n (most x.rounds) (muA n (cu0 m n x).1) (cu0 m n x)
noncomputable def cuX (m : Mach) (n : Net) (x : Asy) : Asy := if goodB m n x = true then (cuF m n x).1 else emA
noncomputable def cuN (m : Mach) (n : Net) (x : Asy) : Nat := if goodB m n x = true then (cuF m n x).2 else 0
section
variable {m : Mach} {n : Net} {x : Asy}
theorem cuX_no (h : goodB m n x = false) : cuX m n x = emA := by unfold cuX; rw [h]; rfl
theorem cuX_yes (h : goodB m n x = true) : cuX m n x = (cuF m n x).1 := by unfold cuX; rw [if_pos h]
theorem cuN_no (h : goodB m n x = false) : cuN m n x = 0 := by unfold cuN; rw [h]; rfl
theorem cuN_yes (h : goodB m n x = true) : cuN m n x = (cuF m n x).2 := by unfold cuN; rw [if_pos h]
theorem good_cu0 (h : goodP m n x) : goodP m n (cu0 m n x).1 := good_dropV (s := (x, 0)) h x _
theorem cu0_le (h : goodP m n x) : (cu0 m n x).2 + 2 * muA n (cu0 m n x).1 ≤ 27000 := by have h1 : (cu0 m n x).2 ≤ 0 + 72 * n.es.length := dropV_le h (x, 0) n.es.length;have h2 := mu_le (good_cu0 h);have h3 := h.1.2.1.1.2;omega
end
def CtC (base P : Nat) (w0 : World) (s : Asy × Nat) (c : Value) (wr : World) : Prop := c = .int .i64 s.2 ∧ (∃ val, AsyB wr base val s.1 P) ∧ Below base w0 wr
def DaC (N : Nat) (F : Nat → Asy × Nat) (base P : Nat) (w0 : World) (a i : Value) (wr : World) : Prop := ∃ v : Nat, v ≤ N ∧ i = .int .i64 v ∧ CtC base P w0 (F v) a wr
noncomputable def befI (m : Mach) (n : Net) (mo : Int) (s : Asy × Nat) : Nat → Int
  | 0 => -1
  | j + 1 => ((passK m n mo j s).2 : Int)
def CuRel (m : Mach) (n : Net) (mo : Int) (s : Asy × Nat) (base P : Nat) (w0 : World) (a b : Value) (wr : World) : Prop := ∃ j : Nat, b = .int .i64 (befI m n mo s j) ∧ CtC base P w0 (passK m n mo j s) a wr
def CuPost (m : Mach) (n : Net) (x : Asy) (w : World) (e : Ending) (w' : World) : Prop :=
  ∃ val, e = .returned (.tuple #[.agg #[val .r, val .b, val .n, val .s, val .f], .int .i64 (cuN m n x : Nat), .bool (goodB m n x)]) ∧ AsyK w' w.heap.size val (cuX m n x) ∧ Below w.heap.size w w'
set_option maxRecDepth 100000 in
set_option maxHeartbeats 4000000 in
theorem impl_CatchUp (vs ve vc vo : Value) (m : Mach) (ne ni nn : Value) (n : Net) (xr xb xn xs xf : Value) (x : Asy) (w : World) (hm : MachR w w.heap.size vs ve vc vo m) (hn : NetR w w.heap.size ne ni nn n) (hx : AsyR w w.heap.size xr xb xn xs xf x) (hz : n.es.length ≤ 2000000) (hzi : n.ids.length ≤ 2000000) :
  Calls Tryz.prog 28 #[machV vs ve vc vo m, .agg #[ne, ni, nn], .agg #[xr, xb, xn, xs, xf]] w (CuPost m n x w) := by
 unfold machV;have HMM := aA hm;have HNN := aA hn;have HXX := aA hx;obtain ⟨⟨A0, m0, c0, rfl⟩, ⟨A1, m1, c1, rfl⟩, ⟨A2, m2, c2, rfl⟩, A3, m3, c3, rfl⟩ := hm.slices;have hne := hn.e;obtain ⟨A4, c4, rfl, hc4, hM4, hr4⟩ := hne;obtain ⟨-, ⟨A5, m5, c5, rfl⟩, A6, m6, c6, rfl⟩ := hn.slices;unfold maxLen at hM4;have HR4 := aA hr4;clear hr4;obtain ⟨⟨A10, m10, c10, rfl⟩, ⟨A11, m11, c11, rfl⟩, ⟨A12, m12, c12, rfl⟩, ⟨A8, m8, c8, rfl⟩, A9, m9, c9, rfl⟩ := hx.slices;obtain ⟨w0, hw0, hb0, HM, hz0, HS0⟩ := box7 w (.int .i64 m.deg) (.int .i64 m.st) (.int .i64 m.msg) (.slice A0 m0 c0) (.slice A1 m1 c1) (.slice A2 m2 c2) (.slice A3 m3 c3) 46;obtain ⟨w1, hw1, hb1, HD, hz1, HS1⟩ := box3 w0 (.slice A4 n.es.length c4) (.slice A5 m5 c5) (.slice A6 m6 c6) 50;replace HM := bk HM hb1;obtain ⟨w2, hw2, hb2, HY, hz2, HS2⟩ := box5 w1 (.slice A10 m10 c10) (.slice A11 m11 c11) (.slice A12 m12 c12) (.slice A8 m8 c8) (.slice A9 m9 c9) 40;replace HM := bk HM hb2;replace HD := bk HD hb2;have hB : Below w.heap.size w w2 := bl_trans (bl_trans (hb0) hb1) hb2;have HW := aA (show w2 = ((w.alloc (.cells #[.int .i64 m.deg, .int .i64 m.st, .int .i64 m.msg, .slice A0 m0 c0, .slice A1 m1 c1, .slice A2 m2 c2, .slice A3 m3 c3] 46)).alloc (.cells #[.slice A4 n.es.length c4, .slice A5 m5 c5, .slice A6 m6 c6] 50)).alloc (.cells #[.slice A10 m10 c10, .slice A11 m11 c11, .slice A12 m12 c12, .slice A8 m8 c8, .slice A9 m9 c9] 40) by rw [hw2, hw1, hw0]);obtain ⟨P1, hP1⟩ : ∃ z, z = w0.heap.size := ⟨_, rfl⟩
 have HP1 := aA (show w.heap.size + 1 = P1 by rw [hP1, HS0.out]);have hPl1 : w.heap.size < P1 := by rw [← HP1.out]; omega
 rw [← hP1] at HD hz1;obtain ⟨P2, hP2⟩ : ∃ z, z = w1.heap.size := ⟨_, rfl⟩
 have HP2 := aA (show w.heap.size + 1 + 1 = P2 by rw [hP2, HS1.out, HS0.out]);have hPl2 : w.heap.size < P2 := by rw [← HP2.out]; omega
 rw [← hP2] at HY hz2;obtain ⟨⟨g0, g1, g2⟩, ⟨g3, g4, g5, g6⟩, gf⟩ := cells7 HM;obtain ⟨q0, q1, q2, qf⟩ := cells3 HD;obtain ⟨⟨y0, y1, y2⟩, ⟨y3, y4⟩, yf⟩ := cells5 HY;have eg0 := g0;have eg1 := g1;have eg2 := g2;have eg3 := g3;have eg4 := g4;have eg5 := g5;have eg6 := g6;have eq0 := q0;have eq1 := q1;have eq2 := q2;have ey0 := y0;have ey1 := y1;have ey2 := y2;have ey3 := y3;have ey4 := y4;rw [HW.out] at eg0 eg1 eg2 eg3 eg4 eg5 eg6 eq0 eq1 eq2 ey0 ey1 ey2 ey3 ey4;rw [← HP1.out] at eq0 eq1 eq2;rw [← HP2.out] at ey0 ey1 ey2 ey3 ey4;have hzb0 : w.heap.size < w2.heap.size := by omega
 have hzb1 : P1 < w2.heap.size := by omega
 have hzb2 : P2 < w2.heap.size := by omega
 have HR := aA (hm.up hB);have HN := aA (hn.up hB);have HX := aA (hx.up hB);clear hw2 hw1 hw0 hP1 hP2;obtain ⟨w3, hw3, hb3, HQ, hz3, HS3⟩ := box5 w2 nilV nilV nilV nilV nilV 40;unfold nilV at hw3 HQ;obtain ⟨P3, hP3⟩ : ∃ z, z = w2.heap.size := ⟨_, rfl⟩
 have HP3 := aA (show P2 + 1 = P3 by rw [hP3, HS2.out, HS1.out, HS0.out, ← HP2.out]);rw [← hP3] at HQ hz3;have HW3 := aA hw3;have hP23 : P2 < P3 := by rw [← HP3.out]; omega
 have hP12 : P1 < P2 := by rw [← HP2.out, ← HP1.out]; omega
 clear eg0 eg1 eg2 eg3 eg4 eg5 eg6 eq0 eq1 eq2 ey0 ey1 ey2 ey3 ey4 g0 g1 g2 g3 g4 g5 g6 gf q0 q1 q2 qf y0 y1 y2 y3 y4 yf HR HN HX;replace HM := bk HM hb3;replace HD := bk HD hb3;replace HY := bk HY hb3;replace hB := bl_trans hB hb3;obtain ⟨⟨g0, g1, g2⟩, ⟨g3, g4, g5, g6⟩, gf⟩ := cells7 HM;obtain ⟨q0, q1, q2, qf⟩ := cells3 HD;obtain ⟨⟨y0, y1, y2⟩, ⟨y3, y4⟩, yf⟩ := cells5 HY;rw [hw3] at g0 g1 g2 g3 g4 g5 g6 q0 q1 q2 y0 y1 y2 y3 y4;rw [HW.out] at g0 g1 g2 g3 g4 g5 g6 q0 q1 q2 y0 y1 y2 y3 y4;rw [← HP1.out] at q0 q1 q2;rw [← HP2.out] at y0 y1 y2 y3 y4;clear hw3 hP3;go_enter Tryz.func28, Tryz.ntmps28;go_wp2_with fail;rw [HP2.out, HP1.out, ← HW.out, HP3.out, ← HW3.out];clear g0 g1 g2 g3 g4 g5 g6 gf q0 q1 q2 qf y0 y1 y2 y3 y4 yf;have hC := impl_IsAsyncState _ _ _ _ m _ _ _ n _ _ _ _ _ x w3 (HMM.out.up hB) (HNN.out.up hB) (HXX.out.up hB) hz hzi;unfold machV at hC;refine hC.mono ?_;clear hC;rintro e w4 ⟨rfl, hb4⟩;replace HM := bk HM hb4;replace HD := bk HD hb4;replace HY := bk HY hb4;replace HQ := bk HQ hb4;replace hB := bl_trans hB hb4;have hz4 := hb4.size;have hzB := hB.size;obtain ⟨⟨p0, p1, p2⟩, ⟨p3, p4⟩, pf⟩ := cells5 HQ;cases h1 : goodB m n x with
 | false =>
  have HB0 := aA h1;obtain ⟨we, hwe, HE, hge⟩ := set5 HQ (.slice none 0 0) (.slice none 0 0) (.slice none 0 0) (.slice none 0 0) (.slice none 0 0);have HWE := aA hwe;clear hwe h1;go_wp2_with fail;rw [← HWE.out];obtain ⟨⟨s0, s1, s2⟩, ⟨s3, s4⟩, -⟩ := cells5 HE;have hBE : Below w.heap.size w we := Below.grown hB hge (by omega) (fun k hk => by have e := aE (show some P3 = some k from hk); omega);exact bodyPost_ret (v := .tuple #[.agg #[.slice none 0 0, .slice none 0 0, .slice none 0 0, .slice none 0 0, .slice none 0 0], .int .i64 0, .bool false]) (by simp [results, Tryz.results28, go_sem, s0, s1, s2, s3, s4]) rfl ⟨fun _ => nilV, by rw [HB0.out, cuN_no HB0.out]; rfl, by rw [cuX_no HB0.out]; exact nilAsyK _ _, hBE⟩
 | true =>
  have hgp := propB_iff.1 h1;have HG := aA hgp;have HSM := aA (small_of hgp.1.2.1 hgp.2);have H1 := aA h1;have h40 := hgp.1.2.1.1;clear hgp h1;obtain ⟨⟨g0, g1, g2⟩, ⟨g3, g4, g5, g6⟩, gf⟩ := cells7 HM;obtain ⟨q0, q1, q2, qf⟩ := cells3 HD;obtain ⟨⟨y0, y1, y2⟩, ⟨y3, y4⟩, yf⟩ := cells5 HY;go_wp2_with fail;refine (impl_copyAsync _ _ _ _ _ x w4 (HXX.out.up hB) HSM.out).mono ?_;rintro e w5 ⟨v0, rfl, hk5, hb5⟩;obtain ⟨C10, f10, e_r⟩ := own_sl1 (hk5.own .r trivial);obtain ⟨C11, f11, e_b⟩ := own_sl1 (hk5.own .b trivial);obtain ⟨C12, f12, e_n⟩ := own_sl1 (hk5.own .n trivial);obtain ⟨C8, f8, e_s⟩ := own_sl1 (hk5.own .s trivial);obtain ⟨C9, f9, e_f⟩ := own_sl1 (hk5.own .f trivial);have HEN := aA (And.intro e_r (And.intro e_b (And.intro e_n (And.intro e_s e_f))));rw [e_r, e_b, e_n, e_s, e_f];clear e_r e_b e_n e_s e_f g0 g1 g2 g3 g4 g5 g6 gf q0 q1 q2 qf y0 y1 y2 y3 y4 yf p0 p1 p2 p3 p4 pf;generalize (rowK x v0 .r).len = l10 at HEN ⊢;generalize (rowK x v0 .b).len = l11 at HEN ⊢;generalize (rowK x v0 .n).len = l12 at HEN ⊢;generalize (rowK x v0 .s).len = l8 at HEN ⊢;generalize (rowK x v0 .f).len = l9 at HEN ⊢;have hz5 := hb5.size;obtain ⟨w6, hw6, hb6, HX6, hz6, HS6⟩ := box5 w5 (.slice C10 l10 f10) (.slice C11 l11 f11) (.slice C12 l12 f12) (.slice C8 l8 f8) (.slice C9 l9 f9) 40;obtain ⟨P8, hP8⟩ : ∃ z, z = w5.heap.size := ⟨_, rfl⟩
  have HP8 := aA hP8;rw [← hP8] at HX6 hz6;have HW6 := aA hw6;have HK6 := aA (show AsyB w6 w4.heap.size v0 x P8 from ⟨AsyK.up hk5 hb6, fun j hj e => by have := ((hk5.own j hj).lt P8 e).2; omega, by rw [HEN.out.1, HEN.out.2.1, HEN.out.2.2.1, HEN.out.2.2.2.1, HEN.out.2.2.2.2]; exact HX6.out⟩);have hb46 := bl_trans hb5 hb6;have hwP8 : w4.heap.size ≤ P8 := by rw [HP8.out]; exact hz5
  have HY6 := bk HY hb46;obtain ⟨⟨y0, y1, y2⟩, ⟨y3, y4⟩, yf⟩ := cells5 HY6;rw [hw6] at y0;clear hw6 hP8 hk5 y1 y2 y3 y4 yf;go_wp2_with fail;rw [← HP8.out, ← HW6.out];clear y0;have hB6 := hB.trans (hb46.mono hzB);have hrpos : 0 < x.rounds.length := by have := HG.out.2.1.1; omega
  refine (impl_Max _ x.rounds w6 (HXX.out.up hB6).r hrpos (fun y hy => (HG.out.2.1.2 y hy).1)).mono ?_;rintro e w6' ⟨rfl, rfl⟩;obtain ⟨mo, hmo⟩ : ∃ z, z = most x.rounds := ⟨_, rfl⟩
  rw [← hmo];have HMO := aA hmo;clear hmo;have HM6 := bk HM hb46;have HD6 := bk HD hb46;obtain ⟨⟨g0, g1, g2⟩, ⟨g3, g4, g5, g6⟩, gf⟩ := cells7 HM6;obtain ⟨q0, q1, q2, qf⟩ := cells3 HD6;go_wp2_with fail;have hC := impl_dropAll _ _ _ _ m _ _ _ n v0 x w4.heap.size P8 w6 ((HMM.out.up hB).to hb46 (Nat.le_refl _)) ((HNN.out.up hB).below hb46) HK6.out hb46.size HG.out;unfold machV at hC;refine hC.mono ?_;clear hC g0 g1 g2 g3 g4 g5 g6 gf q0 q1 q2 qf;rintro e w7 ⟨rfl, ⟨v7, hk7⟩, hb67⟩;obtain ⟨s0, hs0⟩ : ∃ s, s = cu0 m n x := ⟨_, rfl⟩
  have hg0 : goodP m n s0.1 := by rw [hs0]; exact good_cu0 HG.out
  have hle0 : s0.2 + 2 * muA n s0.1 ≤ 27000 := by rw [hs0]; exact cu0_le HG.out
  have hk7' : AsyB w7 w4.heap.size v7 s0.1 P8 := by rw [hs0]; exact hk7
  have e7 : (dropV m n x n.es.length (x, 0)).2 = s0.2 := by rw [hs0]; rfl
  rw [e7];have HG0 := aA hg0;have HK7 := aA hk7';have HS0' := aA hs0;have HB7 := aA (hb46.trans hb67);clear hs0 hg0 hk7 hk7' e7 hb67;go_wp2_with fail;go_loopw [11, 12] (fun a b wr => CuRel m n mo s0 w4.heap.size P8 w4 a b wr) (fun _ b _ => (30000 - intOf b).toNat)
  case atStart => exact ⟨0, rfl, rfl, ⟨v7, HK7.out⟩, HB7.out⟩
  case round =>
   obtain ⟨j, hb, hc, ⟨vj, hk⟩, hbj⟩ := hrel;have hgt := good_passK HG0.out mo j;have hadv := (adv_passK HG0.out mo j).le;obtain ⟨t, ht⟩ : ∃ t, t = passK m n mo j s0 := ⟨_, rfl⟩
   have hkj : AsyB wr w4.heap.size vj t.1 P8 := by rw [ht]; exact hk
   obtain rfl := hc.trans (show (Value.int .i64 (((passK m n mo j s0).2 : Nat) : Int)) = .int .i64 ((t.2 : Nat) : Int) by rw [ht]);rw [← ht] at hgt hadv;have hbt : t.2 + 2 * muA n t.1 ≤ 27000 := by omega
   obtain ⟨bi, hbi⟩ : ∃ z, z = befI m n mo s0 j := ⟨_, rfl⟩
   rw [← hbi] at hb;subst hb;have HT := aA ht;have HBI := aA hbi;have HGT := aA hgt;have HKJ := aA hkj;have HBJ := aA hbj;have hBr := hB.trans (hbj.mono hzB);have hszj := hbj.size;have HMj := bk HM hbj;have HDj := bk HD hbj;have HQj := bk HQ hbj;clear hk hc hgt ht hbi;by_cases hne : bi = (t.2 : Int)
   ·
    have HFIN := aA (show cuF m n x = t from by
     have hb := HBI.out;rw [hne] at hb;cases j with
     | zero => exact absurd hb (by show ¬ ((t.2 : Int) = -1); omega)
     | succ j =>
      have h1 : passK m n mo (j + 1) s0 = passK m n mo j s0 := by
       refine (adv_pass (good_passK HG0.out mo j) mo n.es.length (Nat.le_refl _)).eq ?_;have h2 : (t.2 : Int) = ((passK m n mo j s0).2 : Int) := hb;have h3 : t.2 = (passK m n mo (j + 1) s0).2 := by rw [HT.out]
       show (passK m n mo (j + 1) s0).2 = _;omega
      unfold cuF
      rw [← HMO.out, ← HS0'.out, ← passK_end HG0.out h1, HT.out, h1])
    have hne' : (bi = (t.2 : Int)) = True := eq_true hne;subst hne;obtain ⟨B10, d10, e_r⟩ := own_sl1 (hkj.k.own .r trivial);obtain ⟨B11, d11, e_b⟩ := own_sl1 (hkj.k.own .b trivial);obtain ⟨B12, d12, e_n⟩ := own_sl1 (hkj.k.own .n trivial);obtain ⟨B8, d8, e_s⟩ := own_sl1 (hkj.k.own .s trivial);obtain ⟨B9, d9, e_f⟩ := own_sl1 (hkj.k.own .f trivial);have hbx := hkj.box;have HEK := aA (And.intro e_r (And.intro e_b (And.intro e_n (And.intro e_s e_f))));rw [e_r, e_b, e_n, e_s, e_f] at hbx;clear e_r e_b e_n e_s e_f;generalize (rowK t.1 vj .r).len = l10 at HEK hbx;generalize (rowK t.1 vj .b).len = l11 at HEK hbx;generalize (rowK t.1 vj .n).len = l12 at HEK hbx;generalize (rowK t.1 vj .s).len = l8 at HEK hbx;generalize (rowK t.1 vj .f).len = l9 at HEK hbx;have HYr := aA hbx;clear hbx;obtain ⟨⟨o0, o1, o2⟩, ⟨o3, o4⟩, of⟩ := cells5 HYr;obtain ⟨we, hwe, HE, hge⟩ := set5 HQj (.slice B10 l10 d10) (.slice B11 l11 d11) (.slice B12 l12 d12) (.slice B8 l8 d8) (.slice B9 l9 d9);obtain ⟨⟨p0, p1, p2⟩, ⟨p3, p4⟩, pf⟩ := cells5 HQj;have HWE := aA hwe;clear hwe;go_wp2_with fail;rw [← HWE.out];obtain ⟨⟨s0, s1, s2⟩, ⟨s3, s4⟩, -⟩ := cells5 HE;have hBE : Below w.heap.size w we := Below.grown hBr hge (by omega) (fun k hk => by have e := aE (show some P3 = some k from hk); omega);have hKE : AsyK we w.heap.size vj (cuX m n x) := by rw [cuX_yes H1.out, HFIN.out];exact OwnK.mono (AsyK.past hkj.k HQj.out hge) (by omega)
    exact bodyPost_ret (v := .tuple #[.agg #[.slice B10 l10 d10, .slice B11 l11 d11, .slice B12 l12 d12, .slice B8 l8 d8, .slice B9 l9 d9], .int .i64 t.2, .bool true]) (by simp [results, Tryz.results28, go_sem, s0, s1, s2, s3, s4]) rfl ⟨vj, by rw [HEK.out.1, HEK.out.2.1, HEK.out.2.2.1, HEK.out.2.2.2.1, HEK.out.2.2.2.2, H1.out, cuN_yes H1.out, HFIN.out], hKE, hBE⟩
   ·
    have hne' : (bi = (t.2 : Int)) = False := eq_false hne;have hnb : (bi != (t.2 : Int)) = true := bne_iff_ne.2 hne;have hlt : bi < (t.2 : Int) := by
     have h1 : bi ≤ (t.2 : Int) := by
      rw [HBI.out];cases j with
      | zero => show (-1 : Int) ≤ _; omega
      | succ j =>
       have h2 := (adv_pass (good_passK HG0.out mo j) mo n.es.length (Nat.le_refl _)).le.1;have h3 : t.2 = (passA m n mo n.es.length (passK m n mo j s0)).2 := by rw [HT.out]; rfl
       show ((passK m n mo j s0).2 : Int) ≤ _;omega
     omega
    have hb1 : -1 ≤ bi := by
     rw [HBI.out];cases j with
     | zero => exact Int.le_refl _
     | succ j => show (-1 : Int) ≤ ((passK m n mo j s0).2 : Int); omega
    obtain ⟨⟨g0, g1, g2⟩, ⟨g3, g4, g5, g6⟩, gf⟩ := cells7 HMj;obtain ⟨q0, q1, q2, qf⟩ := cells3 HDj;go_wp2_with fail;go_loopw [11, 37] (fun a i wr => DaC n.es.length (fun v => passA m n mo v t) w4.heap.size P8 w4 a i wr) (fun _ i _ => n.es.length - (intOf i).toNat)
    case atStart => exact ⟨0, Nat.zero_le _, rfl, rfl, ⟨vj, HKJ.out⟩, HBJ.out⟩
    case round =>
     clear g0 g1 g2 g3 g4 g5 g6 gf q0 q1 q2 qf HMj HDj hkj hbj hne' hBr;obtain ⟨v, hv, rfl, hc, ⟨vv, hk⟩, hbj⟩ := hrel;have hgt := good_passA HGT.out mo v;have hadv := (adv_pass HGT.out mo v hv).le;obtain ⟨p, hp⟩ : ∃ s, s = passA m n mo v t := ⟨_, rfl⟩
     have hkj : AsyB wr w4.heap.size vv p.1 P8 := by rw [hp]; exact hk
     obtain rfl := hc.trans (show (Value.int .i64 (((passA m n mo v t).2 : Nat) : Int)) = .int .i64 ((p.2 : Nat) : Int) by rw [hp]);rw [← hp] at hgt hadv;have hbp : p.2 + 2 * muA n p.1 ≤ 27000 := by omega
     have HP := aA hp;have HGP := aA hgt;have HKP := aA hkj;have HBP := aA hbj;have hBr := hB.trans (hbj.mono hzB);have hszj := hbj.size;have HMj := bk HM hbj;have HDj := bk HD hbj;clear hk hc hp hadv;by_cases hlv : v < n.es.length
     ·
      obtain ⟨l, hl⟩ : ∃ y, n.es[v]? = some y := ⟨_, aC hlv⟩
      have hl6 := deg_6 HG.out hl;obtain ⟨ad4, rfl, ha4, hrow4⟩ := HR4.out (by omega);obtain ⟨u4, hu4, hz4'⟩ := hrow4 v l hl;obtain ⟨B4, d4, rfl, hd4, hD4, -, -⟩ := hz4';have c4k := (hBr.cell (p := ad4.add v) (by rw [block_add]; exact ha4)).trans hu4;have HL := aA hl;have k1 : ((v : Int) < (n.es.length : Int)) = True := eq_true (by omega);obtain ⟨l1, sl, f, r, hat⟩ := at_of hgt.2 hlv;have er : p.1.rounds.getD v 0 = r := by rw [aG, hat.hr]; rfl
      have HRV := aA er;have hrv : v < p.1.rounds.length := (aB.1 hat.hr).1;have hxr := AsyK.reads hkj.k (I64A.good hgt);have hbx := hkj.box;obtain ⟨vr, evr⟩ : ∃ z, z = vv .r := ⟨_, rfl⟩
      obtain ⟨vb, evb⟩ : ∃ z, z = vv .b := ⟨_, rfl⟩
      obtain ⟨vn, evn⟩ : ∃ z, z = vv .n := ⟨_, rfl⟩
      obtain ⟨vz, evz⟩ : ∃ z, z = vv .s := ⟨_, rfl⟩
      obtain ⟨vf, evf⟩ : ∃ z, z = vv .f := ⟨_, rfl⟩
      rw [← evr, ← evb, ← evn, ← evz, ← evf] at hxr hbx;obtain ⟨-, ⟨D1, N1, K1, rfl⟩, ⟨D2, N2, K2, rfl⟩, ⟨D3, N3, K3, rfl⟩, ⟨D4, N4, K4, rfl⟩⟩ := hxr.slices;obtain ⟨Ar, cr, rfl, hr1, hr2, hrc⟩ := hxr.r.open_;obtain ⟨adr, rfl, har, hcr⟩ := hrc (by omega);have hrr := hcr v r hat.hr;have HYj := aA hbx;unfold maxLen at hr2;clear hl hu4 hrow4 hgt hat er hkj hxr hbx evr evb evn evz evf hrc hcr;obtain ⟨⟨g0, g1, g2⟩, ⟨g3, g4, g5, g6⟩, gf⟩ := cells7 HMj;obtain ⟨q0, q1, q2, qf⟩ := cells3 HDj;obtain ⟨⟨y0, y1, y2⟩, ⟨y3, y4⟩, yf⟩ := cells5 HYj;by_cases hmr : mo ≤ r
      ·
       have k3 : (mo ≤ r) = True := eq_true hmr;have k3' : (r ≥ mo) = True := eq_true hmr
       have HF := aA (show CtC w4.heap.size P8 w4 (passA m n mo (v + 1) t) (.int .i64 p.2) wr from by
        have e1 : passA m n mo (v + 1) t = p := by
         have e2 : passA m n mo (v + 1) t = nodeA m n mo v p := by rw [HP.out]; rfl
         rw [e2];unfold nodeA;rw [HRV.out, if_pos hmr]
        rw [e1]
        exact ⟨rfl, ⟨vv, HKP.out⟩, HBP.out⟩)
       go_wp2_with fail;go_roundw
       case rel => exact ⟨v + 1, by omega, by go_num, HF.out⟩
       case measure => simp [intOf]; omega
      ·
       have HMR := aA hmr;have k3 : (mo ≤ r) = False := eq_false hmr;have k3' : (r ≥ mo) = False := eq_false hmr;go_wp2_with fail;go_loopw [11, 51] (fun a i wr => DaC l.length (fun i => fillP m n v i p) w4.heap.size P8 w4 a i wr) (fun _ i _ => l.length - (intOf i).toNat)
       case atStart => exact ⟨0, Nat.zero_le _, rfl, rfl, ⟨vv, HKP.out⟩, HBP.out⟩
       case round =>
        clear g0 g1 g2 g3 g4 g5 g6 gf q0 q1 q2 qf y0 y1 y2 y3 y4 yf hrr c4k HYj k3 k3';obtain ⟨i, hi, rfl, hc, ⟨vi, hk⟩, hbj⟩ := hrel;have hgt := good_fillP HGP.out v i;have hadv := (adv_fillP HGP.out HL.out i hi).le;obtain ⟨u, hu⟩ : ∃ s, s = fillP m n v i p := ⟨_, rfl⟩
        have hkj : AsyB wr w4.heap.size vi u.1 P8 := by rw [hu]; exact hk
        obtain rfl := hc.trans (show (Value.int .i64 (((fillP m n v i p).2 : Nat) : Int)) = .int .i64 ((u.2 : Nat) : Int) by rw [hu]);rw [← hu] at hgt hadv;have hbu : u.2 + 2 * muA n u.1 ≤ 27000 := by omega
        have HU := aA hu;have HGU := aA hgt;have HKU := aA hkj;have HBU := aA hbj;have hBr := hB.trans (hbj.mono hzB);have hszj := hbj.size;have HMj := bk HM hbj;have HDj := bk HD hbj;clear hk hc hu hadv;by_cases hli : i < l.length
        ·
         have k4 : ((i : Int) < (l.length : Int)) = True := eq_true (by omega);obtain ⟨l2, sl, f2, r2, hat2⟩ := at_of hgt.2 hlv;obtain rfl := aE (hat2.hl.symm.trans HL.out);obtain ⟨si, hsi⟩ : ∃ y, sl[i]? = some y := ⟨_, aC (by rw [hat2.sl]; exact hli)⟩
         have hsg : (slotsAt u.1 v).getD i 0 = si := by rw [slotsAt_eq hat2.hs, aG, hsi]; rfl
         have hsv : v < u.1.slots.length := (aB.1 hat2.hs).1;have hil : i < sl.length := by rw [hat2.sl]; exact hli
         have hxr := AsyK.reads hkj.k (I64A.good hgt);have hbx := hkj.box;obtain ⟨vr, evr⟩ : ∃ z, z = vi .r := ⟨_, rfl⟩
         obtain ⟨vb, evb⟩ : ∃ z, z = vi .b := ⟨_, rfl⟩
         obtain ⟨vn, evn⟩ : ∃ z, z = vi .n := ⟨_, rfl⟩
         obtain ⟨vz, evz⟩ : ∃ z, z = vi .s := ⟨_, rfl⟩
         obtain ⟨vf, evf⟩ : ∃ z, z = vi .f := ⟨_, rfl⟩
         rw [← evr, ← evb, ← evn, ← evz, ← evf] at hxr hbx;obtain ⟨⟨D0, N0, K0, rfl⟩, ⟨D1, N1, K1, rfl⟩, ⟨D2, N2, K2, rfl⟩, -, ⟨D4, N4, K4, rfl⟩⟩ := hxr.slices;obtain ⟨Az, cz, rfl, hz1, hz2, hzc⟩ := hxr.s.open_;obtain ⟨adz, rfl, haz, hcz⟩ := hzc (by omega);obtain ⟨uz, huz, hrz⟩ := hcz v sl hat2.hs;obtain ⟨Au, cu, rfl, hu1, hu2, huc⟩ := hrz.open_;obtain ⟨adu, rfl, hau, hcu⟩ := huc (by omega);have hsc := hcu i si hsi;have HYj := aA hbx;have HSG := aA hsg;unfold maxLen at hz2 hu2;clear hgt hat2 hsi hsg hkj hxr hbx evr evb evn evz evf hzc hcz hrz huc hcu;obtain ⟨⟨g0, g1, g2⟩, ⟨g3, g4, g5, g6⟩, gf⟩ := cells7 HMj;obtain ⟨q0, q1, q2, qf⟩ := cells3 HDj;obtain ⟨⟨y0, y1, y2⟩, ⟨y3, y4⟩, yf⟩ := cells5 HYj;by_cases hsm : si = -1
         ·
          subst hsm;go_wp2_with fail;have hC := impl_fillSlot _ _ _ _ m _ _ _ n vi u.1 w4.heap.size P8 wr ((HMM.out.up hB).to HBU.out (Nat.le_refl _)) ((HNN.out.up hB).below HBU.out) HKU.out hszj HGU.out v i _ HL.out hli HSG.out;unfold machV at hC;refine hC.mono ?_;clear hC g0 g1 g2 g3 g4 g5 g6 gf q0 q1 q2 qf y0 y1 y2 y3 y4 yf hsc huz;rintro e w9 ⟨rfl, ⟨v9, hk9⟩, hb9, -⟩;have hsh := fillA_shift (m := m) (n := n) v i u.2 u.1;have hle := (adv_fill HGU.out HL.out hli).le.2;obtain ⟨d, hd⟩ : ∃ d, d = (fillA m n v i (u.1, 0)).2 := ⟨_, rfl⟩
          obtain ⟨z, hz⟩ : ∃ z, z = (fillA m n v i (u.1, 0)).1 := ⟨_, rfl⟩
          rw [← hd, ← hz] at hsh;rw [← hz] at hk9;rw [← hd];have hse : fillA m n v i u = (z, u.2 + d) := hsh;rw [hse] at hle;replace hle : u.2 + d ≤ 27000 := by have : u.2 + d + 2 * muA n z ≤ u.2 + 2 * muA n u.1 := hle; omega
          have hwd : IntKind.i64.wrap ((u.2 : Int) + (d : Int)) = (u.2 : Int) + (d : Int) := aL _ (by omega)
          have HF := aA (show CtC w4.heap.size P8 w4 (fillP m n v (i + 1) p) (.int .i64 ((u.2 : Int) + (d : Int))) w9 from by
           have e1 : fillP m n v (i + 1) p = (z, u.2 + d) := by rw [← hse, HU.out]; rfl
           rw [e1]
           exact ⟨by congr 1, ⟨v9, hk9⟩, HBU.out.trans hb9⟩)
          clear hsh hd hz hse hk9 hb9;go_wp2_with fail;go_roundw
          case rel => exact ⟨i + 1, by omega, by go_num, HF.out⟩
          case measure => simp [intOf]; omega
         ·
          have k5 : (si = -1) = False := eq_false hsm
          have HF := aA (show CtC w4.heap.size P8 w4 (fillP m n v (i + 1) p) (.int .i64 u.2) wr from by
           have e1 : fillP m n v (i + 1) p = u := by
            have e2 : fillP m n v (i + 1) p = fillA m n v i u := by rw [HU.out]; rfl
            rw [e2];unfold fillA;rw [if_neg (fun h => hsm (by rw [← HSG.out]; exact h.1))]
           rw [e1]
           exact ⟨rfl, ⟨vi, HKU.out⟩, HBU.out⟩)
          go_wp2_with fail;go_roundw
          case rel => exact ⟨i + 1, by omega, by go_num, HF.out⟩
          case measure => simp [intOf]; omega
        ·
         obtain rfl : i = l.length := by omega
         have k4 : ((l.length : Int) < (l.length : Int)) = False := eq_false (by omega);obtain ⟨⟨g0, g1, g2⟩, ⟨g3, g4, g5, g6⟩, gf⟩ := cells7 HMj;obtain ⟨q0, q1, q2, qf⟩ := cells3 HDj;obtain ⟨bv, hbv⟩ : ∃ b, b = mayB n u.1 ⟨5, v, 0, 0⟩ := ⟨_, rfl⟩
         obtain ⟨ob, hob⟩ : ∃ z : Nat, z = if bv = true then 1 else 0 := ⟨_, rfl⟩
         have hobI : (ob : Int) = if bv = true then 1 else 0 := by rw [hob]; split <;> rfl
         have hob1 : ob ≤ 1 := by rw [hob]; split <;> omega
         have HBV := aA hbv;have HOB := aA hobI
         have HN1 := aA (show passA m n mo (v + 1) t = (playX m n u.1 ⟨5, v, 0, 0⟩, u.2 + ob) from by
          have e1 : passA m n mo (v + 1) t = nodeA m n mo v p := by rw [HP.out]; rfl
          rw [e1];unfold nodeA;have e2 : n.es.getD v [] = l := by rw [aG, HL.out]; rfl
          rw [HRV.out, if_neg (by have := HMR.out; omega), e2, ← HU.out];unfold ctA
          rw [hob, hbv])
         have hwd : IntKind.i64.wrap ((u.2 : Int) + (ob : Int)) = (u.2 : Int) + (ob : Int) := aL _ (by omega);clear hgt hkj hbv hob hobI;go_wp2_with fail;have hC := impl_play _ _ _ _ m _ _ _ n vi u.1 w4.heap.size P8 5 v 0 0 wr ((HMM.out.up hB).to HBU.out (Nat.le_refl _)) ((HNN.out.up hB).below HBU.out) HKU.out hszj HGU.out;unfold machV at hC;refine hC.mono ?_;clear hC g0 g1 g2 g3 g4 g5 g6 gf q0 q1 q2 qf;rintro e w9 ⟨rfl, hb9, -, v9, hk9⟩;rw [← HBV.out]
         have HF := aA (show CtC w4.heap.size P8 w4 (passA m n mo (v + 1) t) (.int .i64 ((u.2 : Int) + (ob : Int))) w9 from by
          rw [HN1.out]
          exact ⟨by congr 1, ⟨v9, hk9⟩, HBU.out.trans hb9⟩)
         clear hb9 hk9;go_wp2_with fail;refine (impl_oneIf _ _).mono ?_;rintro e w9' ⟨rfl, rfl⟩;rw [← HOB.out];go_wp2_with fail;go_roundw
         case rel => exact ⟨v + 1, by omega, by go_num, HF.out⟩
         case measure => simp [intOf]; omega
     ·
      obtain rfl : v = n.es.length := by omega
      have k1 : ((n.es.length : Int) < (n.es.length : Int)) = False := eq_false (by omega)
      have HF := aA (show CtC w4.heap.size P8 w4 (passK m n mo (j + 1) s0) (.int .i64 p.2) wr from by
       have e1 : passK m n mo (j + 1) s0 = p := by rw [HP.out, HT.out]; rfl
       rw [e1]
       exact ⟨rfl, ⟨vv, HKP.out⟩, HBP.out⟩)
      have HB2 := aA (show ((t.2 : Nat) : Int) = befI m n mo s0 (j + 1) from by rw [HT.out]; rfl);clear hkj hgt;go_wp2_with fail;go_roundw
      case rel => exact ⟨j + 1, by rw [← HB2.out], HF.out⟩
      case measure => simp [intOf]; omega
end Go.Proofs.YtjklbjmdgiddcaaGreat
