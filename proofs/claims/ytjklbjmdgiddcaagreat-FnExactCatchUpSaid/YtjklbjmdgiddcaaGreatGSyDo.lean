/-
  An act on an asynchronous state, the reference's side: syDo.
-/
import Derived.Test.YtjklbjmdgiddcaaGreatGSyLet
namespace Go.Proofs.YtjklbjmdgiddcaaGreat
open Go.RowKit
set_option linter.all false
noncomputable def doA (m : Mach) (n : Net) (x : Asy) (a : Acts) : Asy :=
  if a.kind = 5 then stepA m x a.node.toNat
  else if a.kind = 1 then sentA m x a.node.toNat a.port.toNat ((n.es.getD a.node.toNat []).getD a.port.toNat (0, 0)).1.toNat ((n.es.getD a.node.toNat []).getD a.port.toNat (0, 0)).2.toNat a.at_
  else letterA x a.kind a.node.toNat a.port.toNat a.at_.toNat
theorem doA_step (m : Mach) (n : Net) (x : Asy) (k : Nat) (ap aa : Int) : doA m n x ⟨5, (k : Int), ap, aa⟩ = stepA m x k := by unfold doA;rw [if_pos rfl, Int.toNat_natCast]
theorem doA_send (m : Mach) {n : Net} {x : Asy} {k p k2 p2 : Nat} {l : Ends} (aa : Int) (hl : n.es[k]? = some l) (he : l[p]? = some ((k2 : Int), (p2 : Int))) : doA m n x ⟨1, (k : Int), (p : Int), aa⟩ = sentA m x k p k2 p2 aa := by unfold doA;rw [if_neg (show ¬ (1 : Int) = 5 by decide), if_pos rfl];simp only [Int.toNat_natCast, aG, hl, he, Option.getD_some]
theorem doA_let (m : Mach) (n : Net) (x : Asy) {ak : Int} (k p : Nat) (aa : Int) (h5 : ak ≠ 5) (h1 : ak ≠ 1) : doA m n x ⟨ak, (k : Int), (p : Int), aa⟩ = letterA x ak k p aa.toNat := by unfold doA;rw [if_neg h5, if_neg h1, Int.toNat_natCast, Int.toNat_natCast]
def Did (b : Bool) (w : World) (base : Nat) (xr xb xn xs xf ur ub un us uf : Value) (y : Asy) : Prop :=
  (b = true → ∃ val, ur = val .r ∧ ub = val .b ∧ un = val .n ∧ us = val .s ∧ uf = val .f ∧ AsyK w base val y) ∧ (b = false → ur = xr ∧ ub = xb ∧ un = xn ∧ us = xs ∧ uf = xf)
theorem Did.no {b : Bool} {w : World} {base : Nat} {xr xb xn xs xf : Value} {y : Asy} (h : b = false) : Did b w base xr xb xn xs xf xr xb xn xs xf y := ⟨fun h' => (by rw [h] at h'; cases h'), fun _ => ⟨rfl, rfl, rfl, rfl, rfl⟩⟩
theorem MachR.to {w w' : World} {B B' : Nat} {vs ve vc vo : Value} {m : Mach} (h : MachR w B vs ve vc vo m) (hb : Below B w w') (hs : B ≤ B') : MachR w' B' vs ve vc vo m :=
  ⟨(h.s.below hb).more hs, (h.e.below hb).more hs, (h.c.below hb).more hs, (h.o.below hb).more hs, h.i⟩
theorem small_of {m : Mach} {n : Net} {x : Asy} (hn : netP n) (h : asyP m n x) : SmallA x := by
  have h40 := hn.1.2;have hf := h.2.2.2.2.1;have hs := h.2.2.2.1;refine ⟨by have := h.1.1; omega, by have := h.2.1.1; omega, by have := h.2.2.1.1; omega, by omega, by omega, fun s hm => ?_, fun f hm => ?_, fun f hm ls hl => ?_⟩
  · obtain ⟨k, hk⟩ := List.mem_iff_getElem?.1 hm
    have hk' := (aB.1 hk).1;have h1 : k < n.es.length := by omega
    have h2 : k < x.flight.length := by omega
    have := (h.2.2.2.2.2 k _ s _ (aC h1) hk (aC h2)).1;have := (hn.2.2.2.2 k _ (aC h1)).1;omega
  · obtain ⟨k, hk⟩ := List.mem_iff_getElem?.1 hm
    have hk' := (aB.1 hk).1;have h1 : k < n.es.length := by omega
    have h2 : k < x.slots.length := by omega
    have := (h.2.2.2.2.2 k _ _ f (aC h1) (aC h2) hk).2.1;have := (hn.2.2.2.2 k _ (aC h1)).1;omega
  · obtain ⟨k, hk⟩ := List.mem_iff_getElem?.1 hm
    have hk' := (aB.1 hk).1;have h1 : k < n.es.length := by omega
    have h2 : k < x.slots.length := by omega
    exact ((h.2.2.2.2.2 k _ _ f (aC h1) (aC h2) hk).2.2.2 ls hl).1
set_option maxRecDepth 100000 in
set_option maxHeartbeats 4000000 in
theorem spec_syDo (vs ve vc vo : Value) (m : Mach) (ne ni nn : Value) (n : Net) (xr xb xn xs xf : Value) (x : Asy) (ak an ap aa : Int) (w : World) (hm : MachR w w.heap.size vs ve vc vo m) (hn : NetR w w.heap.size ne ni nn n) (hx : AsyR w w.heap.size xr xb xn xs xf x) (hg : goodP m n x) :
  Calls Tryz.prog 75 #[machV vs ve vc vo m, .agg #[ne, ni, nn], .agg #[xr, xb, xn, xs, xf], .agg #[.int .i64 ak, .int .i64 an, .int .i64 ap, .int .i64 aa]] w
   fun e w' => ∃ ur ub un us uf, e = .returned (.tuple #[.agg #[ur, ub, un, us, uf], .bool (mayB n x ⟨ak, an, ap, aa⟩)]) ∧ Below w.heap.size w w' ∧ Did (mayB n x ⟨ak, an, ap, aa⟩) w' w.heap.size xr xb xn xs xf ur ub un us uf (doA m n x ⟨ak, an, ap, aa⟩) := by
 unfold machV;have ha := hg.2;have hnp := hg.1.2.1;have hmp := hg.1.1;have hsm := small_of hnp ha;have HG := aA hg;have HM0 := aA hm;have HN0 := aA hn;have HX0 := aA hx;have h40 := hnp.1;obtain ⟨⟨A0, m0, c0, rfl⟩, ⟨A1, m1, c1, rfl⟩, ⟨A2, m2, c2, rfl⟩, A3, m3, c3, rfl⟩ := hm.slices;have hne := hn.e;obtain ⟨A4, c4, rfl, hc4, hM4, hr4⟩ := hne;obtain ⟨⟨-, -, -, -⟩, ⟨A5, m5, c5, rfl⟩, A6, m6, c6, rfl⟩ := hn.slices;obtain ⟨⟨A10, m10, c10, rfl⟩, ⟨A11, m11, c11, rfl⟩, ⟨A12, m12, c12, rfl⟩, ⟨A8, m8, c8, rfl⟩, A9, m9, c9, rfl⟩ := hx.slices;obtain ⟨ad4, rfl, ha4, hrow4⟩ := hr4 (by omega);have HR4 := aA hrow4;unfold maxLen at hM4;clear hr4 hrow4;obtain ⟨w0, hw0, hb0, HM, hz0, HS0⟩ := box7 w (.int .i64 m.deg) (.int .i64 m.st) (.int .i64 m.msg) (.slice A0 m0 c0) (.slice A1 m1 c1) (.slice A2 m2 c2) (.slice A3 m3 c3) 46;obtain ⟨w1, hw1, hb1, HD, hz1, HS1⟩ := box3 w0 (.slice (some ad4) n.es.length c4) (.slice A5 m5 c5) (.slice A6 m6 c6) 50;replace HM := bk HM hb1;obtain ⟨w2, hw2, hb2, HY, hz2, HS2⟩ := box5 w1 (.slice A10 m10 c10) (.slice A11 m11 c11) (.slice A12 m12 c12) (.slice A8 m8 c8) (.slice A9 m9 c9) 40;replace HM := bk HM hb2;replace HD := bk HD hb2;obtain ⟨w3, hw3, hb3, HA, hz3, HS3⟩ := box4a w2 (.int .i64 ak) (.int .i64 an) (.int .i64 ap) (.int .i64 aa) 84;replace HM := bk HM hb3;replace HD := bk HD hb3;replace HY := bk HY hb3;have hB : Below w.heap.size w w3 := bl_trans (bl_trans (bl_trans (hb0) hb1) hb2) hb3;have HW := aA (show w3 = (((w.alloc (.cells #[.int .i64 m.deg, .int .i64 m.st, .int .i64 m.msg, .slice A0 m0 c0, .slice A1 m1 c1, .slice A2 m2 c2, .slice A3 m3 c3] 46)).alloc (.cells #[.slice (some ad4) n.es.length c4, .slice A5 m5 c5, .slice A6 m6 c6] 50)).alloc (.cells #[.slice A10 m10 c10, .slice A11 m11 c11, .slice A12 m12 c12, .slice A8 m8 c8, .slice A9 m9 c9] 40)).alloc (.cells #[.int .i64 ak, .int .i64 an, .int .i64 ap, .int .i64 aa] 84) by rw [hw3, hw2, hw1, hw0]);obtain ⟨P1, hP1⟩ : ∃ z, z = w0.heap.size := ⟨_, rfl⟩
 have HP1 := aA (show w.heap.size + 1 = P1 by rw [hP1, HS0.out]);have hPl1 : w.heap.size < P1 := by rw [← HP1.out]; omega
 rw [← hP1] at HD hz1;obtain ⟨P2, hP2⟩ : ∃ z, z = w1.heap.size := ⟨_, rfl⟩
 have HP2 := aA (show w.heap.size + 1 + 1 = P2 by rw [hP2, HS1.out, HS0.out]);have hPl2 : w.heap.size < P2 := by rw [← HP2.out]; omega
 rw [← hP2] at HY hz2;obtain ⟨P3, hP3⟩ : ∃ z, z = w2.heap.size := ⟨_, rfl⟩
 have HP3 := aA (show w.heap.size + 1 + 1 + 1 = P3 by rw [hP3, HS2.out, HS1.out, HS0.out]);have hPl3 : w.heap.size < P3 := by rw [← HP3.out]; omega
 rw [← hP3] at HA hz3;obtain ⟨⟨g0, g1, g2⟩, ⟨g3, g4, g5, g6⟩, gf⟩ := cells7 HM;obtain ⟨q0, q1, q2, qf⟩ := cells3 HD;obtain ⟨⟨y0, y1, y2⟩, ⟨y3, y4⟩, yf⟩ := cells5 HY;obtain ⟨⟨u0, u1⟩, ⟨u2, u3⟩, uf⟩ := cells4a HA;have eg0 := g0;have eg1 := g1;have eg2 := g2;have eg3 := g3;have eg4 := g4;have eg5 := g5;have eg6 := g6;have eq0 := q0;have eq1 := q1;have eq2 := q2;have ey0 := y0;have ey1 := y1;have ey2 := y2;have ey3 := y3;have ey4 := y4;have eu0 := u0;have eu1 := u1;have eu2 := u2;have eu3 := u3;rw [HW.out] at eg0 eg1 eg2 eg3 eg4 eg5 eg6 eq0 eq1 eq2 ey0 ey1 ey2 ey3 ey4 eu0 eu1 eu2 eu3;rw [← HP1.out] at eq0 eq1 eq2;rw [← HP2.out] at ey0 ey1 ey2 ey3 ey4;rw [← HP3.out] at eu0 eu1 eu2 eu3;have hzb0 : w.heap.size < w3.heap.size := by omega
 have hzb1 : P1 < w3.heap.size := by omega
 have hzb2 : P2 < w3.heap.size := by omega
 have hzb3 : P3 < w3.heap.size := by omega
 have HR := aA (hm.up hB);have HN := aA (hn.up hB);have HX := aA (hx.up hB);clear hw3 hw2 hw1 hw0 hP1 hP2 hP3;clear HR HN HX;obtain ⟨w4, hw4, hb4, HQ, hz4, HS4⟩ := box5 w3 (.slice none 0 0) (.slice none 0 0) (.slice none 0 0) (.slice none 0 0) (.slice none 0 0) 40;obtain ⟨P4, hP4⟩ : ∃ z, z = w3.heap.size := ⟨_, rfl⟩
 have HW4 := aA hw4;have HP4 := aA (show w.heap.size + 1 + 1 + 1 + 1 = P4 by rw [hP4, HS3.out, HS2.out, HS1.out, HS0.out]);rw [← hP4] at HQ hz4;have hPl4 : w.heap.size < P4 := by rw [← HP4.out]; omega
 have hwr1 : IntKind.i64.wrap ((n.es.length : Int) - 1) = (n.es.length : Int) - 1 := aL _ (by omega);have HWF := aA (show w4 = _ by rw [hw4, HW.out]);have fu1 := aD (.cells #[.slice none 0 0, .slice none 0 0, .slice none 0 0, .slice none 0 0, .slice none 0 0] 40) eu1;have fq0 := aD (.cells #[.slice none 0 0, .slice none 0 0, .slice none 0 0, .slice none 0 0, .slice none 0 0] 40) eq0;clear eg0 eg1 eg2 eg3 eg4 eg5 eg6 eq0 eq1 eq2 ey0 ey1 ey2 ey3 ey4 eu0 eu1 eu2 eu3;have hzhb4 := hb4.size;clear g0 g1 g2 g3 g4 g5 g6 gf q0 q1 q2 qf y0 y1 y2 y3 y4 yf u0 u1 u2 u3 uf;replace HM := bk HM hb4;replace HD := bk HD hb4;replace HY := bk HY hb4;replace HA := bk HA hb4;replace hB := bl_trans hB hb4;obtain ⟨⟨g0, g1, g2⟩, ⟨g3, g4, g5, g6⟩, gf⟩ := cells7 HM;obtain ⟨q0, q1, q2, qf⟩ := cells3 HD;obtain ⟨⟨y0, y1, y2⟩, ⟨y3, y4⟩, yf⟩ := cells5 HY;obtain ⟨⟨u0, u1⟩, ⟨u2, u3⟩, uf⟩ := cells4a HA;clear hw4 hP4;cases h1 : inB an 0 ((n.es.length : Int) - 1) with
 | false =>
  have HF := aA (may_no1 (x := x) (ak := ak) (ap := ap) (aa := aa) h1);go_enter Tryz.func75, Tryz.ntmps75;go_wp2_with fail;rw [HP4.out, HP3.out, HP2.out, HP1.out, ← HWF.out];clear fu1 fq0
  (try rw [hwr1])
  refine (spec_l1In _ _ _ _).mono ?_;rintro e w' ⟨rfl, rfl⟩;rw [h1];obtain ⟨we, hwe, HE, hge⟩ := set5 HQ (.slice A10 m10 c10) (.slice A11 m11 c11) (.slice A12 m12 c12) (.slice A8 m8 c8) (.slice A9 m9 c9);have HWE := aA hwe;clear hwe
  (try obtain ⟨⟨t0, t1, t2⟩, ⟨t3, t4⟩, tf⟩ := cells5 HQ)
  go_wp2_with fail
  (try rw [← HW6.out])
  rw [← HWE.out];obtain ⟨⟨s0, s1, s2⟩, ⟨s3, s4⟩, -⟩ := cells5 HE;have hBE : Below w.heap.size w we := Below.grown hB hge (by have := (hB).size; omega) (fun k hk => by have e := aE (show some P4 = some k from hk); omega);exact bodyPost_ret (v := .tuple #[.agg #[.slice A10 m10 c10, .slice A11 m11 c11, .slice A12 m12 c12, .slice A8 m8 c8, .slice A9 m9 c9], .bool false]) (by simp [results, Tryz.results75, go_sem, s0, s1, s2, s3, s4]) rfl ⟨_, _, _, _, _, by rw [HF.out], by first | exact hBE | exact hBE.drew | exact hBE.drew.drew, Did.no HF.out⟩
 | true =>
  obtain ⟨k, rfl, hk⟩ := inB_nat h1;obtain ⟨l, s, f, r, hat⟩ := at_of ha hk;have hl6 := (hnp.2.2.2.2 k l hat.hl).1;have hwr2 : IntKind.i64.wrap ((l.length : Int) - 1) = (l.length : Int) - 1 := aL _ (by omega);obtain ⟨u4, hu4, hz4'⟩ := HR4.out k l hat.hl;obtain ⟨B4, d4, rfl, hd4, hD4, -, -⟩ := hz4';unfold maxLen at hD4;have HC4 := aA hu4;have HAT := aA hat;clear hat hu4;obtain ⟨hBs4⟩ : Nonempty (w.heap.size ≤ w4.heap.size) := ⟨hB.size⟩
  have HO := aA (spec_syOwn _ _ _ _ _ x w4 (HX0.out.up hB) hsm);go_enter Tryz.func75, Tryz.ntmps75;go_wp2_with fail;rw [HP4.out, HP3.out, HP2.out, HP1.out, ← HWF.out];clear fu1 fq0
  (try rw [hwr1])
  refine (spec_l1In _ _ _ _).mono ?_;rintro e w' ⟨rfl, rfl⟩;rw [h1];go_wp2_with fail;refine HO.out.mono ?_;rintro e w5 ⟨val, rfl, hk5, hb5⟩;obtain ⟨D0, K0, ev0⟩ := own_sl1 (hk5.own .r trivial);have HV0 := aA ev0;generalize (rowK x val .r).len = N0 at HV0;clear ev0;obtain ⟨D1, K1, ev1⟩ := own_sl1 (hk5.own .b trivial);have HV1 := aA ev1;generalize (rowK x val .b).len = N1 at HV1;clear ev1;obtain ⟨D2, K2, ev2⟩ := own_sl1 (hk5.own .n trivial);have HV2 := aA ev2;generalize (rowK x val .n).len = N2 at HV2;clear ev2;obtain ⟨D3, K3, ev3⟩ := own_sl1 (hk5.own .s trivial);have HV3 := aA ev3;generalize (rowK x val .s).len = N3 at HV3;clear ev3;obtain ⟨D4, K4, ev4⟩ := own_sl1 (hk5.own .f trivial);have HV4 := aA ev4;generalize (rowK x val .f).len = N4 at HV4;clear ev4;have HVK := aA (show Value.agg #[val .r, val .b, val .n, val .s, val .f] = .agg #[.slice D0 N0 K0, .slice D1 N1 K1, .slice D2 N2 K2, .slice D3 N3 K3, .slice D4 N4 K4] by rw [HV0.out, HV1.out, HV2.out, HV3.out, HV4.out]);rw [HVK.out];have hk5n : ∀ j, keyOf x j → ∀ g, (val j).ownBlock = some g → w4.heap.size ≤ g ∧ g < w5.heap.size := fun j hj g hg => (hk5.own j hj).lt g hg
  have HKN := aA hk5n;have HK5 := aA hk5;clear hk5n hk5;have hzhb5 := hb5.size;clear g0 g1 g2 g3 g4 g5 g6 gf q0 q1 q2 qf y0 y1 y2 y3 y4 yf u0 u1 u2 u3 uf;replace HM := bk HM hb5;replace HD := bk HD hb5;replace HY := bk HY hb5;replace HA := bk HA hb5;replace hB := bl_trans hB hb5;obtain ⟨⟨g0, g1, g2⟩, ⟨g3, g4, g5, g6⟩, gf⟩ := cells7 HM;obtain ⟨q0, q1, q2, qf⟩ := cells3 HD;obtain ⟨⟨y0, y1, y2⟩, ⟨y3, y4⟩, yf⟩ := cells5 HY;obtain ⟨⟨u0, u1⟩, ⟨u2, u3⟩, uf⟩ := cells4a HA;replace HQ := bk HQ hb5;obtain ⟨w6, hw6, hb6, HB6, hz6, HS6⟩ := box5 w5 (.slice D0 N0 K0) (.slice D1 N1 K1) (.slice D2 N2 K2) (.slice D3 N3 K3) (.slice D4 N4 K4) 40;obtain ⟨P6, hP6⟩ : ∃ z, z = w5.heap.size := ⟨_, rfl⟩
  have HP6 := aA hP6;have HW6 := aA hw6;rw [← hP6] at HB6 hz6;have hP65 : w5.heap.size ≤ P6 := by rw [hP6]; exact Nat.le_refl _
  have hzhb6 := hb6.size;clear g0 g1 g2 g3 g4 g5 g6 gf q0 q1 q2 qf y0 y1 y2 y3 y4 yf u0 u1 u2 u3 uf;replace HM := bk HM hb6;replace HD := bk HD hb6;replace HY := bk HY hb6;replace HA := bk HA hb6;replace hB := bl_trans hB hb6;obtain ⟨⟨g0, g1, g2⟩, ⟨g3, g4, g5, g6⟩, gf⟩ := cells7 HM;obtain ⟨q0, q1, q2, qf⟩ := cells3 HD;obtain ⟨⟨y0, y1, y2⟩, ⟨y3, y4⟩, yf⟩ := cells5 HY;obtain ⟨⟨u0, u1⟩, ⟨u2, u3⟩, uf⟩ := cells4a HA;replace HQ := bk HQ hb6;obtain ⟨⟨t0, t1, t2⟩, ⟨t3, t4⟩, tf⟩ := cells5 HQ;obtain ⟨⟨o0, o1, o2⟩, ⟨o3, o4⟩, of⟩ := cells5 HB6;have eg0 := g0;have eg1 := g1;have eg2 := g2;have eg3 := g3;have eg4 := g4;have eg5 := g5;have eg6 := g6;have eq0 := q0;have eq1 := q1;have eq2 := q2;have ey0 := y0;have ey1 := y1;have ey2 := y2;have ey3 := y3;have ey4 := y4;have eu0 := u0;have eu1 := u1;have eu2 := u2;have eu3 := u3;have et0 := t0;have et1 := t1;have et2 := t2;have et3 := t3;have et4 := t4;have etf := tf;have eo0 := o0;have eo1 := o1;have eo2 := o2;have eo3 := o3;have eo4 := o4;rw [hw6] at eg0 eg1 eg2 eg3 eg4 eg5 eg6 eq0 eq1 eq2 ey0 ey1 ey2 ey3 ey4 eu0 eu1 eu2 eu3 et0 et1 et2 et3 et4 etf eo0 eo1 eo2 eo3 eo4;rw [hP6] at eo0 eo1 eo2 eo3 eo4;have hB6 : Below w.heap.size w w6 := hB;have h46 : w4.heap.size ≤ w6.heap.size := by omega
  have HKO := aA (AsyK.up HK5.out hb6);have HMS6 := aA (HM0.out.to hB6 hBs4);have HNS6 := aA ((HN0.out.below hB6).more hBs4);clear hw6 hP6;by_cases h5 : ak = 5
  ·
   subst h5;have HMS := aA (may_step HAT.out ap aa);by_cases h2 : ap = 0
   ·
    have k2 : (ap == 0) = true := by rw [beq_iff_eq]; exact h2
    have k2' : (ap != 0) = false := by rw [h2]; simp
    by_cases h3 : aa = 0
    ·
     have k3 : (aa == 0) = true := by rw [beq_iff_eq]; exact h3
     have k3' : (aa != 0) = false := by rw [h3]; simp
     have HMO := aA (show mayB n x ⟨5, (k : Int), ap, aa⟩ = okS r s by rw [HMS.out, decide_eq_true h2, decide_eq_true h3]; rfl);clear h2 h3;go_wp2_with fail;rw [← HW6.out, ← HP6.out];clear eg0 eg1 eg2 eg3 eg4 eg5 eg6 eq0 eq1 eq2 ey0 ey1 ey2 ey3 ey4 eu0 eu1 eu2 eu3 et0 et1 et2 et3 et4 etf eo0 eo1 eo2 eo3 eo4;have hc4' := (hB6.cell (p := ad4.add k) (by rw [block_add]; exact ha4)).trans HC4.out;have hC := spec_syStep _ _ _ _ m n val x w4.heap.size k l s f r w6 HMS6.out HKO.out (by omega) hmp ha HAT.out hl6;rw [HVK.out] at hC;refine hC.mono ?_;rintro e w7 ⟨rfl, val', hsh, hb7, hf7, hk7⟩;have HSH := aA hsh;have HK7 := aA hk7;clear hsh hk7;have hz7 := hf7.1;clear g0 g1 g2 g3 g4 g5 g6 q0 q1 q2 y0 y1 y2 y3 y4 u0 u1 u2 u3 gf qf yf uf o0 o1 o2 o3 o4 of t0 t1 t2 t3 t4 tf;replace HM := bk HM hb7;replace HD := bk HD hb7;replace HY := bk HY hb7;replace HA := bk HA hb7;replace HQ := bk HQ hb7;replace HB6 := aA ((hf7.2 P6 hz6 (fun j hj e => by have := HKN.out j hj P6 e; omega)).trans HB6.out);have hB7 : Below w.heap.size w w7 := hB6.trans (hb7.mono hBs4);obtain ⟨⟨g0, g1, g2⟩, ⟨g3, g4, g5, g6⟩, gf⟩ := cells7 HM;obtain ⟨q0, q1, q2, qf⟩ := cells3 HD;obtain ⟨⟨y0, y1, y2⟩, ⟨y3, y4⟩, yf⟩ := cells5 HY;obtain ⟨⟨u0, u1⟩, ⟨u2, u3⟩, uf⟩ := cells4a HA;obtain ⟨⟨t0, t1, t2⟩, ⟨t3, t4⟩, tf⟩ := cells5 HQ;cases j : okS r s with
     | false =>
      have HF := aA (show mayB n x ⟨5, (k : Int), ap, aa⟩ = false by rw [HMO.out, j]);obtain ⟨we, hwe, HE, hge⟩ := set5 HQ (.slice A10 m10 c10) (.slice A11 m11 c11) (.slice A12 m12 c12) (.slice A8 m8 c8) (.slice A9 m9 c9);have HWE := aA hwe;clear hwe
      (try obtain ⟨⟨t0, t1, t2⟩, ⟨t3, t4⟩, tf⟩ := cells5 HQ)
      go_wp2_with fail
      (try rw [← HW6.out])
      rw [← HWE.out];obtain ⟨⟨s0, s1, s2⟩, ⟨s3, s4⟩, -⟩ := cells5 HE;have hBE : Below w.heap.size w we := Below.grown hB7 hge (by have := (hB7).size; omega) (fun k hk => by have e := aE (show some P4 = some k from hk); omega);exact bodyPost_ret (v := .tuple #[.agg #[.slice A10 m10 c10, .slice A11 m11 c11, .slice A12 m12 c12, .slice A8 m8 c8, .slice A9 m9 c9], .bool false]) (by simp [results, Tryz.results75, go_sem, s0, s1, s2, s3, s4]) rfl ⟨_, _, _, _, _, by rw [HF.out], by first | exact hBE | exact hBE.drew | exact hBE.drew.drew, Did.no HF.out⟩
     | true =>
      have HF := aA (show mayB n x ⟨5, (k : Int), ap, aa⟩ = true by rw [HMO.out, j]);have HKE := aA (show AsyK w7 w4.heap.size val' (doA m n x ⟨5, (k : Int), ap, aa⟩) by have := HK7.out; rw [j, actS_t] at this; rw [doA_step]; exact this);obtain ⟨⟨o0, o1, o2⟩, ⟨o3, o4⟩, of⟩ := cells5 HB6;obtain ⟨we, hwe, HE, hge⟩ := set5 HQ (.slice D0 N0 K0) (.slice D1 N1 K1) (.slice D2 N2 K2) (.slice D3 N3 K3) (.slice D4 N4 K4);have HWE := aA hwe;clear hwe
      (try obtain ⟨⟨t0, t1, t2⟩, ⟨t3, t4⟩, tf⟩ := cells5 HQ)
      go_wp2_with fail
      (try rw [← HW6.out])
      rw [← HWE.out];have HKF := aA (OwnK.mono (OwnK.apart HKE.out hge (fun j hj e => by have := ((HKE.out.own j hj).lt P4 e).1; omega)) hBs4);obtain ⟨⟨s0, s1, s2⟩, ⟨s3, s4⟩, -⟩ := cells5 HE;have hBE : Below w.heap.size w we := Below.grown hB7 hge (by have := (hB7).size; omega) (fun k hk => by have e := aE (show some P4 = some k from hk); omega);exact bodyPost_ret (v := .tuple #[.agg #[.slice D0 N0 K0, .slice D1 N1 K1, .slice D2 N2 K2, .slice D3 N3 K3, .slice D4 N4 K4], .bool true]) (by simp [results, Tryz.results75, go_sem, s0, s1, s2, s3, s4]) rfl ⟨_, _, _, _, _, by rw [HF.out], by first | exact hBE | exact hBE.drew | exact hBE.drew.drew, ⟨fun _ => ⟨val', by rw [HSH.out.1, HV0.out], by rw [HSH.out.2.1, HV1.out], by rw [HSH.out.2.2.1, HV2.out], by rw [HSH.out.2.2.2.1, HV3.out], by rw [HSH.out.2.2.2.2, HV4.out], by first | exact HKF.out | exact HKF.out.drew | exact HKF.out.drew.drew⟩, fun h => by rw [HF.out] at h; cases h⟩⟩
    ·
     have k3 : (aa == 0) = false := by rw [beq_eq_false_iff_ne]; exact h3
     have k3' : (aa != 0) = true := by rw [bne_iff_ne]; exact h3
     have HF := aA (show mayB n x ⟨5, (k : Int), ap, aa⟩ = false by rw [HMS.out, decide_eq_true h2, decide_eq_false h3]; rfl);clear h2 h3;obtain ⟨we, hwe, HE, hge⟩ := set5 HQ (.slice A10 m10 c10) (.slice A11 m11 c11) (.slice A12 m12 c12) (.slice A8 m8 c8) (.slice A9 m9 c9);have HWE := aA hwe;clear hwe
     (try obtain ⟨⟨t0, t1, t2⟩, ⟨t3, t4⟩, tf⟩ := cells5 HQ)
     go_wp2_with fail
     (try rw [← HW6.out])
     rw [← HWE.out];obtain ⟨⟨s0, s1, s2⟩, ⟨s3, s4⟩, -⟩ := cells5 HE;have hBE : Below w.heap.size w we := Below.grown hB6 hge (by have := (hB6).size; omega) (fun k hk => by have e := aE (show some P4 = some k from hk); omega);exact bodyPost_ret (v := .tuple #[.agg #[.slice A10 m10 c10, .slice A11 m11 c11, .slice A12 m12 c12, .slice A8 m8 c8, .slice A9 m9 c9], .bool false]) (by simp [results, Tryz.results75, go_sem, s0, s1, s2, s3, s4]) rfl ⟨_, _, _, _, _, by rw [HF.out], by first | exact hBE | exact hBE.drew | exact hBE.drew.drew, Did.no HF.out⟩
   ·
    have k2 : (ap == 0) = false := by rw [beq_eq_false_iff_ne]; exact h2
    have k2' : (ap != 0) = true := by rw [bne_iff_ne]; exact h2
    have HF := aA (show mayB n x ⟨5, (k : Int), ap, aa⟩ = false by rw [HMS.out, decide_eq_false h2]; rfl);clear h2;obtain ⟨we, hwe, HE, hge⟩ := set5 HQ (.slice A10 m10 c10) (.slice A11 m11 c11) (.slice A12 m12 c12) (.slice A8 m8 c8) (.slice A9 m9 c9);have HWE := aA hwe;clear hwe
    (try obtain ⟨⟨t0, t1, t2⟩, ⟨t3, t4⟩, tf⟩ := cells5 HQ)
    go_wp2_with fail
    (try rw [← HW6.out])
    rw [← HWE.out];obtain ⟨⟨s0, s1, s2⟩, ⟨s3, s4⟩, -⟩ := cells5 HE;have hBE : Below w.heap.size w we := Below.grown hB6 hge (by have := (hB6).size; omega) (fun k hk => by have e := aE (show some P4 = some k from hk); omega);exact bodyPost_ret (v := .tuple #[.agg #[.slice A10 m10 c10, .slice A11 m11 c11, .slice A12 m12 c12, .slice A8 m8 c8, .slice A9 m9 c9], .bool false]) (by simp [results, Tryz.results75, go_sem, s0, s1, s2, s3, s4]) rfl ⟨_, _, _, _, _, by rw [HF.out], by first | exact hBE | exact hBE.drew | exact hBE.drew.drew, Did.no HF.out⟩
  ·
   have k5 : (ak == 5) = false := by rw [beq_eq_false_iff_ne]; exact h5
   cases hp : inB ap 0 ((l.length : Int) - 1) with
   | false =>
    have HF := aA (may_no2 (aa := aa) HAT.out h5 (fun hh => by rw [inB_t ⟨hh.1, by omega⟩] at hp; cases hp));go_wp2_with fail;rw [← HW6.out, ← HP6.out];clear eg0 eg1 eg2 eg3 eg4 eg5 eg6 eq0 eq1 eq2 ey0 ey1 ey2 ey3 ey4 eu0 eu1 eu2 eu3 et0 et1 et2 et3 et4 etf eo0 eo1 eo2 eo3 eo4;have hc4' := (hB6.cell (p := ad4.add k) (by rw [block_add]; exact ha4)).trans HC4.out;refine aH (S := fun w' => w'.cell? ⟨P3, 2, none⟩ = some (.int .i64 ap) ∧ w'.cell? ⟨P1, 0, none⟩ = some (.slice (some ad4) n.es.length c4) ∧ w'.cell? ⟨P3, 1, none⟩ = some (.int .i64 (k : Int)) ∧ w'.cell? (ad4.add k) = some (.slice B4 l.length d4) ∧ w'.cell? ⟨P3, 0, none⟩ = some (.int .i64 ak)) (by kernel_rfl) ?_ (fun hHeld => ?_)
    · go_keep
    refine stk 0 44 ?_;refine stk 1 45 ?_;refine stk 2 46 ?_;refine stk 3 47 ?_;refine stk 4 48 ?_;refine stk 5 49 ?_;refine stk 6 50 ?_;refine stk 7 51 ?_;refine stk 8 52 ?_;refine stk 9 53 ?_;refine tr 10 rfl (by kernel_rfl) (fun K hK => ?_);go_simp;go_at_call 93
    (try rw [hwr2])
    refine (spec_l1In _ _ _ _).mono ?_;rintro e w' ⟨rfl, rfl⟩;rw [hp];refine hK.out _ _ ?_ (fun hHeld => ?_)
    · go_keep
    clear hK K
    try simp only [Act.put, pu]
    refine stk 11 55 ?_;refine stk 12 56 ?_;refine stn 13 57 ?_;refine stn 14 58 ?_;refine stn 15 59 ?_;refine stn 16 60 ?_;refine stk 17 61 ?_;refine aK (by kernel_rfl) ?_ _;obtain ⟨we, hwe, HE, hge⟩ := set5 HQ (.slice A10 m10 c10) (.slice A11 m11 c11) (.slice A12 m12 c12) (.slice A8 m8 c8) (.slice A9 m9 c9);have HWE := aA hwe;clear hwe
    (try obtain ⟨⟨t0, t1, t2⟩, ⟨t3, t4⟩, tf⟩ := cells5 HQ)
    go_wp2_with fail
    (try rw [← HW6.out])
    rw [← HWE.out];obtain ⟨⟨s0, s1, s2⟩, ⟨s3, s4⟩, -⟩ := cells5 HE;have hBE : Below w.heap.size w we := Below.grown hB6 hge (by have := (hB6).size; omega) (fun k hk => by have e := aE (show some P4 = some k from hk); omega);exact bodyPost_ret (v := .tuple #[.agg #[.slice A10 m10 c10, .slice A11 m11 c11, .slice A12 m12 c12, .slice A8 m8 c8, .slice A9 m9 c9], .bool false]) (by simp [results, Tryz.results75, go_sem, s0, s1, s2, s3, s4]) rfl ⟨_, _, _, _, _, by rw [HF.out], by first | exact hBE | exact hBE.drew | exact hBE.drew.drew, Did.no HF.out⟩
   | true =>
    cases hq : inB ak 1 4 with
    | false =>
     have HF := aA (may_else (ap := ap) (aa := aa) HAT.out h5 (fun h => inBf hq (by omega)) (fun h => inBf hq (by omega)) (fun h => inBf hq (by omega)) (fun h => inBf hq (by omega)));go_wp2_with fail;rw [← HW6.out, ← HP6.out];clear eg0 eg1 eg2 eg3 eg4 eg5 eg6 eq0 eq1 eq2 ey0 ey1 ey2 ey3 ey4 eu0 eu1 eu2 eu3 et0 et1 et2 et3 et4 etf eo0 eo1 eo2 eo3 eo4;have hc4' := (hB6.cell (p := ad4.add k) (by rw [block_add]; exact ha4)).trans HC4.out;refine aH (S := fun w' => w'.cell? ⟨P3, 2, none⟩ = some (.int .i64 ap) ∧ w'.cell? ⟨P1, 0, none⟩ = some (.slice (some ad4) n.es.length c4) ∧ w'.cell? ⟨P3, 1, none⟩ = some (.int .i64 (k : Int)) ∧ w'.cell? (ad4.add k) = some (.slice B4 l.length d4) ∧ w'.cell? ⟨P3, 0, none⟩ = some (.int .i64 ak)) (by kernel_rfl) ?_ (fun hHeld => ?_)
     · go_keep
     refine stk 0 44 ?_;refine stk 1 45 ?_;refine stk 2 46 ?_;refine stk 3 47 ?_;refine stk 4 48 ?_;refine stk 5 49 ?_;refine stk 6 50 ?_;refine stk 7 51 ?_;refine stk 8 52 ?_;refine stk 9 53 ?_;refine tr 10 rfl (by kernel_rfl) (fun K hK => ?_);go_simp;go_at_call 93
     (try rw [hwr2])
     refine (spec_l1In _ _ _ _).mono ?_;rintro e w' ⟨rfl, rfl⟩;rw [hp];refine hK.out _ _ ?_ (fun hHeld => ?_)
     · go_keep
     clear hK K
     try simp only [Act.put, pu]
     refine stk 11 55 ?_;refine stk 12 56 ?_;refine stk 13 57 ?_;refine stk 14 58 ?_;refine tr 15 rfl (by kernel_rfl) (fun K hK => ?_);go_simp;go_at_call 93;refine (spec_l1In _ _ _ _).mono ?_;rintro e w' ⟨rfl, rfl⟩;rw [hq];refine hK.out _ _ ?_ (fun hHeld => ?_)
     · go_keep
     clear hK K
     try simp only [Act.put, pu]
     refine stk 16 60 ?_;refine stk 17 61 ?_;refine aK (by kernel_rfl) ?_ _;obtain ⟨we, hwe, HE, hge⟩ := set5 HQ (.slice A10 m10 c10) (.slice A11 m11 c11) (.slice A12 m12 c12) (.slice A8 m8 c8) (.slice A9 m9 c9);have HWE := aA hwe;clear hwe
     (try obtain ⟨⟨t0, t1, t2⟩, ⟨t3, t4⟩, tf⟩ := cells5 HQ)
     go_wp2_with fail
     (try rw [← HW6.out])
     rw [← HWE.out];obtain ⟨⟨s0, s1, s2⟩, ⟨s3, s4⟩, -⟩ := cells5 HE;have hBE : Below w.heap.size w we := Below.grown hB6 hge (by have := (hB6).size; omega) (fun k hk => by have e := aE (show some P4 = some k from hk); omega);exact bodyPost_ret (v := .tuple #[.agg #[.slice A10 m10 c10, .slice A11 m11 c11, .slice A12 m12 c12, .slice A8 m8 c8, .slice A9 m9 c9], .bool false]) (by simp [results, Tryz.results75, go_sem, s0, s1, s2, s3, s4]) rfl ⟨_, _, _, _, _, by rw [HF.out], by first | exact hBE | exact hBE.drew | exact hBE.drew.drew, Did.no HF.out⟩
    | true =>
     have hq14 := inBt hq;have HPP := aA hp;obtain ⟨p, rfl, hpl⟩ := inB_nat hp;obtain ⟨ls, hls⟩ : ∃ y, f[p]? = some y := ⟨_, aC (by rw [HAT.out.fl]; exact hpl)⟩
     by_cases h1' : ak = 1
     ·
      subst h1';obtain ⟨e, he⟩ : ∃ y, l[p]? = some y := ⟨_, aC hpl⟩
      obtain ⟨k2, p2, l2, s2, f2, r2, ls2, e1, e2, hat2, hp2, -⟩ := at_end ha hnp HAT.out he;have ee : e = ((k2 : Int), (p2 : Int)) := by rw [← e1, ← e2]
      subst ee;have HMO := aA (show mayB n x ⟨1, (k : Int), (p : Int), aa⟩ = okN aa r ls2 from may_send HAT.out hls he hat2 hp2 rfl rfl aa);have HDO := aA (doA_send m (x := x) aa HAT.out.hl he);have HSC := aA (And.intro hls (And.intro he (And.intro hat2 hp2)));clear hls he hat2 hp2 e1 e2;go_wp2_with fail;rw [← HW6.out, ← HP6.out];clear eg0 eg1 eg2 eg3 eg4 eg5 eg6 eq0 eq1 eq2 ey0 ey1 ey2 ey3 ey4 eu0 eu1 eu2 eu3 et0 et1 et2 et3 et4 etf eo0 eo1 eo2 eo3 eo4;have hc4' := (hB6.cell (p := ad4.add k) (by rw [block_add]; exact ha4)).trans HC4.out;refine aH (S := fun w' => w'.cell? ⟨P3, 2, none⟩ = some (.int .i64 (p : Int)) ∧ w'.cell? ⟨P1, 0, none⟩ = some (.slice (some ad4) n.es.length c4) ∧ w'.cell? ⟨P3, 1, none⟩ = some (.int .i64 (k : Int)) ∧ w'.cell? (ad4.add k) = some (.slice B4 l.length d4) ∧ w'.cell? ⟨P3, 0, none⟩ = some (.int .i64 1)) (by kernel_rfl) ?_ (fun hHeld => ?_)
      · go_keep
      refine stk 0 44 ?_;refine stk 1 45 ?_;refine stk 2 46 ?_;refine stk 3 47 ?_;refine stk 4 48 ?_;refine stk 5 49 ?_;refine stk 6 50 ?_;refine stk 7 51 ?_;refine stk 8 52 ?_;refine stk 9 53 ?_;refine tr 10 rfl (by kernel_rfl) (fun K hK => ?_);go_simp;go_at_call 93
      (try rw [hwr2])
      refine (spec_l1In _ _ _ _).mono ?_;rintro e w' ⟨rfl, rfl⟩;rw [hp];refine hK.out _ _ ?_ (fun hHeld => ?_)
      · go_keep
      clear hK K
      try simp only [Act.put, pu]
      refine stk 11 55 ?_;refine stk 12 56 ?_;refine stk 13 57 ?_;refine stk 14 58 ?_;refine tr 15 rfl (by kernel_rfl) (fun K hK => ?_);go_simp;go_at_call 93;refine (spec_l1In _ _ _ _).mono ?_;rintro e w' ⟨rfl, rfl⟩;rw [hq];refine hK.out _ _ ?_ (fun hHeld => ?_)
      · go_keep
      clear hK K
      try simp only [Act.put, pu]
      refine stk 16 60 ?_;refine stk 17 61 ?_;refine aK (by kernel_rfl) ?_ _;go_wp2_with fail;have hC := spec_sySend _ _ _ _ m _ _ _ n val x w4.heap.size k l s f r p ls k2 p2 l2 s2 f2 r2 ls2 aa w6.drew (HMS6.out.to (Below.refl _ _).drew (Nat.le_refl _)) ((HNS6.out.below (Below.refl _ _).drew).more (Nat.le_refl _)) HKO.out.drew (show w4.heap.size ≤ w6.heap.size by omega) HG.out HAT.out HSC.out.1 HSC.out.2.1 HSC.out.2.2.1 HSC.out.2.2.2;rw [HVK.out] at hC;refine hC.mono ?_;rintro e w7 ⟨rfl, hb7', hf7', hk7⟩;have hb7 : Below w4.heap.size w6 w7 := (Below.refl _ _).drew.trans hb7';have hf7 : Frame val x w6 w7 := ⟨hf7'.1, hf7'.2⟩
      have HK7 := aA hk7;clear hb7' hf7' hk7;have hz7 := hf7.1;clear g0 g1 g2 g3 g4 g5 g6 q0 q1 q2 y0 y1 y2 y3 y4 u0 u1 u2 u3 gf qf yf uf o0 o1 o2 o3 o4 of t0 t1 t2 t3 t4 tf;replace HM := bk HM hb7;replace HD := bk HD hb7;replace HY := bk HY hb7;replace HA := bk HA hb7;replace HQ := bk HQ hb7;replace HB6 := aA ((hf7.2 P6 hz6 (fun j hj e => by have := HKN.out j hj P6 e; omega)).trans HB6.out);have hB7 : Below w.heap.size w w7 := hB6.trans (hb7.mono hBs4);obtain ⟨⟨g0, g1, g2⟩, ⟨g3, g4, g5, g6⟩, gf⟩ := cells7 HM;obtain ⟨q0, q1, q2, qf⟩ := cells3 HD;obtain ⟨⟨y0, y1, y2⟩, ⟨y3, y4⟩, yf⟩ := cells5 HY;obtain ⟨⟨u0, u1⟩, ⟨u2, u3⟩, uf⟩ := cells4a HA;obtain ⟨⟨t0, t1, t2⟩, ⟨t3, t4⟩, tf⟩ := cells5 HQ;cases j : okN aa r ls2 with
      | false =>
       have HF := aA (show mayB n x ⟨1, (k : Int), (p : Int), aa⟩ = false by rw [HMO.out, j]);obtain ⟨we, hwe, HE, hge⟩ := set5 HQ (.slice A10 m10 c10) (.slice A11 m11 c11) (.slice A12 m12 c12) (.slice A8 m8 c8) (.slice A9 m9 c9);have HWE := aA hwe;clear hwe
       (try obtain ⟨⟨t0, t1, t2⟩, ⟨t3, t4⟩, tf⟩ := cells5 HQ)
       go_wp2_with fail
       (try rw [← HW6.out])
       rw [← HWE.out];obtain ⟨⟨s0, s1, s2⟩, ⟨s3, s4⟩, -⟩ := cells5 HE;have hBE : Below w.heap.size w we := Below.grown hB7 hge (by have := (hB7).size; omega) (fun k hk => by have e := aE (show some P4 = some k from hk); omega);exact bodyPost_ret (v := .tuple #[.agg #[.slice A10 m10 c10, .slice A11 m11 c11, .slice A12 m12 c12, .slice A8 m8 c8, .slice A9 m9 c9], .bool false]) (by simp [results, Tryz.results75, go_sem, s0, s1, s2, s3, s4]) rfl ⟨_, _, _, _, _, by rw [HF.out], by first | exact hBE | exact hBE.drew | exact hBE.drew.drew, Did.no HF.out⟩
      | true =>
       have HF := aA (show mayB n x ⟨1, (k : Int), (p : Int), aa⟩ = true by rw [HMO.out, j]);obtain ⟨val', hsh, hk7⟩ := HK7.out j;have HSH := aA hsh;have HKE := aA (show AsyK w7 w4.heap.size val' (doA m n x ⟨1, (k : Int), (p : Int), aa⟩) by rw [HDO.out]; exact hk7);clear hsh hk7;obtain ⟨⟨o0, o1, o2⟩, ⟨o3, o4⟩, of⟩ := cells5 HB6;obtain ⟨we, hwe, HE, hge⟩ := set5 HQ (.slice D0 N0 K0) (.slice D1 N1 K1) (.slice D2 N2 K2) (.slice D3 N3 K3) (.slice D4 N4 K4);have HWE := aA hwe;clear hwe
       (try obtain ⟨⟨t0, t1, t2⟩, ⟨t3, t4⟩, tf⟩ := cells5 HQ)
       go_wp2_with fail
       (try rw [← HW6.out])
       rw [← HWE.out];have HKF := aA (OwnK.mono (OwnK.apart HKE.out hge (fun j hj e => by have := ((HKE.out.own j hj).lt P4 e).1; omega)) hBs4);obtain ⟨⟨s0, s1, s2⟩, ⟨s3, s4⟩, -⟩ := cells5 HE;have hBE : Below w.heap.size w we := Below.grown hB7 hge (by have := (hB7).size; omega) (fun k hk => by have e := aE (show some P4 = some k from hk); omega);exact bodyPost_ret (v := .tuple #[.agg #[.slice D0 N0 K0, .slice D1 N1 K1, .slice D2 N2 K2, .slice D3 N3 K3, .slice D4 N4 K4], .bool true]) (by simp [results, Tryz.results75, go_sem, s0, s1, s2, s3, s4]) rfl ⟨_, _, _, _, _, by rw [HF.out], by first | exact hBE | exact hBE.drew | exact hBE.drew.drew, ⟨fun _ => ⟨val', by rw [HSH.out.1, HV0.out], by rw [HSH.out.2.1, HV1.out], by rw [HSH.out.2.2.1, HV2.out], by rw [HSH.out.2.2.2.1, HV3.out], by rw [HSH.out.2.2.2.2, HV4.out], by first | exact HKF.out | exact HKF.out.drew | exact HKF.out.drew.drew⟩, fun h => by rw [HF.out] at h; cases h⟩⟩
     ·
      have k1 : (ak == 1) = false := by rw [beq_eq_false_iff_ne]; exact h1'
      have hak : ak = 2 ∨ ak = 3 ∨ ak = 4 := by omega
      have HMO := aA (show mayB n x ⟨ak, (k : Int), (p : Int), aa⟩ = okL ak aa ls by
       rcases hak with h | h | h
       · rw [may_let HAT.out hls (.inl h) aa]; unfold okL; rw [h]; simp
       · rw [may_let HAT.out hls (.inr h) aa]; unfold okL; rw [h]; simp
       · rw [h, may_copy HAT.out hls aa]; unfold okL; simp)
      have HDO := aA (doA_let m n x k p aa h5 h1');have HSC := aA hls;clear hls;go_wp2_with fail;rw [← HW6.out, ← HP6.out];clear eg0 eg1 eg2 eg3 eg4 eg5 eg6 eq0 eq1 eq2 ey0 ey1 ey2 ey3 ey4 eu0 eu1 eu2 eu3 et0 et1 et2 et3 et4 etf eo0 eo1 eo2 eo3 eo4;have hc4' := (hB6.cell (p := ad4.add k) (by rw [block_add]; exact ha4)).trans HC4.out;refine aH (S := fun w' => w'.cell? ⟨P3, 2, none⟩ = some (.int .i64 (p : Int)) ∧ w'.cell? ⟨P1, 0, none⟩ = some (.slice (some ad4) n.es.length c4) ∧ w'.cell? ⟨P3, 1, none⟩ = some (.int .i64 (k : Int)) ∧ w'.cell? (ad4.add k) = some (.slice B4 l.length d4) ∧ w'.cell? ⟨P3, 0, none⟩ = some (.int .i64 ak)) (by kernel_rfl) ?_ (fun hHeld => ?_)
      · go_keep
      refine stk 0 44 ?_;refine stk 1 45 ?_;refine stk 2 46 ?_;refine stk 3 47 ?_;refine stk 4 48 ?_;refine stk 5 49 ?_;refine stk 6 50 ?_;refine stk 7 51 ?_;refine stk 8 52 ?_;refine stk 9 53 ?_;refine tr 10 rfl (by kernel_rfl) (fun K hK => ?_);go_simp;go_at_call 93
      (try rw [hwr2])
      refine (spec_l1In _ _ _ _).mono ?_;rintro e w' ⟨rfl, rfl⟩;rw [hp];refine hK.out _ _ ?_ (fun hHeld => ?_)
      · go_keep
      clear hK K
      try simp only [Act.put, pu]
      refine stk 11 55 ?_;refine stk 12 56 ?_;refine stk 13 57 ?_;refine stk 14 58 ?_;refine tr 15 rfl (by kernel_rfl) (fun K hK => ?_);go_simp;go_at_call 93;refine (spec_l1In _ _ _ _).mono ?_;rintro e w' ⟨rfl, rfl⟩;rw [hq];refine hK.out _ _ ?_ (fun hHeld => ?_)
      · go_keep
      clear hK K
      try simp only [Act.put, pu]
      refine stk 16 60 ?_;refine stk 17 61 ?_;refine aK (by kernel_rfl) ?_ _;go_wp2_with fail;have hC := spec_syLetter val n x w4.heap.size k l s f r p ls ak aa w6.drew HKO.out.drew (show w4.heap.size ≤ w6.heap.size by omega) HAT.out HSC.out hak;rw [HVK.out] at hC;refine hC.mono ?_;rintro e w7 ⟨rfl, hb7', hf7', hk7⟩;have hb7 : Below w4.heap.size w6 w7 := (Below.refl _ _).drew.trans hb7';have hf7 : Frame val x w6 w7 := ⟨hf7'.1, hf7'.2⟩
      have HK7 := aA hk7;clear hb7' hf7' hk7;have hz7 := hf7.1;clear g0 g1 g2 g3 g4 g5 g6 q0 q1 q2 y0 y1 y2 y3 y4 u0 u1 u2 u3 gf qf yf uf o0 o1 o2 o3 o4 of t0 t1 t2 t3 t4 tf;replace HM := bk HM hb7;replace HD := bk HD hb7;replace HY := bk HY hb7;replace HA := bk HA hb7;replace HQ := bk HQ hb7;replace HB6 := aA ((hf7.2 P6 hz6 (fun j hj e => by have := HKN.out j hj P6 e; omega)).trans HB6.out);have hB7 : Below w.heap.size w w7 := hB6.trans (hb7.mono hBs4);obtain ⟨⟨g0, g1, g2⟩, ⟨g3, g4, g5, g6⟩, gf⟩ := cells7 HM;obtain ⟨q0, q1, q2, qf⟩ := cells3 HD;obtain ⟨⟨y0, y1, y2⟩, ⟨y3, y4⟩, yf⟩ := cells5 HY;obtain ⟨⟨u0, u1⟩, ⟨u2, u3⟩, uf⟩ := cells4a HA;obtain ⟨⟨t0, t1, t2⟩, ⟨t3, t4⟩, tf⟩ := cells5 HQ;cases j : okL ak aa ls with
      | false =>
       have HF := aA (show mayB n x ⟨ak, (k : Int), (p : Int), aa⟩ = false by rw [HMO.out, j]);obtain ⟨we, hwe, HE, hge⟩ := set5 HQ (.slice A10 m10 c10) (.slice A11 m11 c11) (.slice A12 m12 c12) (.slice A8 m8 c8) (.slice A9 m9 c9);have HWE := aA hwe;clear hwe
       (try obtain ⟨⟨t0, t1, t2⟩, ⟨t3, t4⟩, tf⟩ := cells5 HQ)
       go_wp2_with fail
       (try rw [← HW6.out])
       rw [← HWE.out];obtain ⟨⟨s0, s1, s2⟩, ⟨s3, s4⟩, -⟩ := cells5 HE;have hBE : Below w.heap.size w we := Below.grown hB7 hge (by have := (hB7).size; omega) (fun k hk => by have e := aE (show some P4 = some k from hk); omega);exact bodyPost_ret (v := .tuple #[.agg #[.slice A10 m10 c10, .slice A11 m11 c11, .slice A12 m12 c12, .slice A8 m8 c8, .slice A9 m9 c9], .bool false]) (by simp [results, Tryz.results75, go_sem, s0, s1, s2, s3, s4]) rfl ⟨_, _, _, _, _, by rw [HF.out], by first | exact hBE | exact hBE.drew | exact hBE.drew.drew, Did.no HF.out⟩
      | true =>
       have HF := aA (show mayB n x ⟨ak, (k : Int), (p : Int), aa⟩ = true by rw [HMO.out, j]);obtain ⟨val', hsh, hk7⟩ := HK7.out j;have HSH := aA hsh;have HKE := aA (show AsyK w7 w4.heap.size val' (doA m n x ⟨ak, (k : Int), (p : Int), aa⟩) by rw [HDO.out]; exact hk7);clear hsh hk7;obtain ⟨⟨o0, o1, o2⟩, ⟨o3, o4⟩, of⟩ := cells5 HB6;obtain ⟨we, hwe, HE, hge⟩ := set5 HQ (.slice D0 N0 K0) (.slice D1 N1 K1) (.slice D2 N2 K2) (.slice D3 N3 K3) (.slice D4 N4 K4);have HWE := aA hwe;clear hwe
       (try obtain ⟨⟨t0, t1, t2⟩, ⟨t3, t4⟩, tf⟩ := cells5 HQ)
       go_wp2_with fail
       (try rw [← HW6.out])
       rw [← HWE.out];have HKF := aA (OwnK.mono (OwnK.apart HKE.out hge (fun j hj e => by have := ((HKE.out.own j hj).lt P4 e).1; omega)) hBs4);obtain ⟨⟨s0, s1, s2⟩, ⟨s3, s4⟩, -⟩ := cells5 HE;have hBE : Below w.heap.size w we := Below.grown hB7 hge (by have := (hB7).size; omega) (fun k hk => by have e := aE (show some P4 = some k from hk); omega);exact bodyPost_ret (v := .tuple #[.agg #[.slice D0 N0 K0, .slice D1 N1 K1, .slice D2 N2 K2, .slice D3 N3 K3, .slice D4 N4 K4], .bool true]) (by simp [results, Tryz.results75, go_sem, s0, s1, s2, s3, s4]) rfl ⟨_, _, _, _, _, by rw [HF.out], by first | exact hBE | exact hBE.drew | exact hBE.drew.drew, ⟨fun _ => ⟨val', by rw [HSH.out.1, HV0.out], by rw [HSH.out.2.1, HV1.out], by rw [HSH.out.2.2.1, HV2.out], by rw [HSH.out.2.2.2.1, HV3.out], by rw [HSH.out.2.2.2.2, HV4.out], by first | exact HKF.out | exact HKF.out.drew | exact HKF.out.drew.drew⟩, fun h => by rw [HF.out] at h; cases h⟩⟩
end Go.Proofs.YtjklbjmdgiddcaaGreat
