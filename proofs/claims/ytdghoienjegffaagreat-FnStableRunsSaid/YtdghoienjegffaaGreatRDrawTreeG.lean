/-
  Small lemmas and contracts that the texts of this claim share. No condition.
-/
import Derived.Test.YtdghoienjegffaaGreatRDrawMix
namespace Go.Proofs.YtdghoienjegffaaGreat
open Go.RowKit
set_option linter.all false
noncomputable def curK (w : World) (P : Nat) : Nat := match w.cell? ⟨P, 1, none⟩ with | some (.int _ k) => k.toNat | _ => 0
noncomputable def curS (w : World) (P : Nat) : Nat := match w.cell? ⟨P, 2, none⟩ with | some (.int _ k) => k.toNat | _ => 0
theorem CurE.ks {w : World} {P k s : Nat} {v : Value} (h : CurE w P v k s) : curK w P = k ∧ curS w P = s := by obtain ⟨p0, p1, p2, -⟩ := cells3 (Lib.hid h.2.2);unfold curK curS;rw [p1, p2];exact ⟨Int.toNat_natCast k, Int.toNat_natCast s⟩
structure TreeN (n : Net) (N v : Nat) : Prop where
  made : MadeN n N 4
  sum : sumD n v = 2 * (v - 1)
  free : ∀ u, v ≤ u → degA n u = 0
theorem TreeN.start (N : Nat) : TreeN (emptyN N) N 1 := ⟨(made_empty N).more (by omega), sumD_empty N 1, fun u _ => by unfold degA; rw [rowAt_empty]; rfl⟩
theorem TreeN.join {n : Net} {N v x : Nat} (h : TreeN n N v) (hv : v < N) (hx : x < v) (hd : degA n x < 4) (h1 : 1 ≤ v) : TreeN (joinN n x v) N (v + 1) := by
  have hl := h.made.len;have hxl : x < n.es.length := by omega
  have hvl : v < n.es.length := by omega
  have h0 := h.free v (Nat.le_refl _);refine ⟨h.made.join (by omega) hv (fun u hu => ?_) (Nat.le_refl _), ?_, fun u hu => ?_⟩
  · rw [degA_join hxl hvl]
    rcases hu with rfl | rfl
    · rw [if_pos rfl, if_neg (by omega)]; omega
    · rw [if_neg (by omega), if_pos rfl]; omega
  · rw [sumD_join hxl hvl]
    have e : sumD n (v + 1) = sumD n v + degA n v := rfl;have := h.sum;rw [if_pos (by omega), if_pos (by omega)];omega
  · rw [degA_join hxl hvl, if_neg (by omega), if_neg (by omega), h.free u (by omega)]
def TrRel (w : World) (P PB PR base : Nat) (cv : Value) (m N : Nat) (i : Value) (wr : World) : Prop := ∃ v : Nat, 1 ≤ v ∧ v ≤ N ∧ i = .int .i64 (v : Int) ∧ NAt w P PB PR base cv (m + 1125899906842624 * v) (fun n => TreeN n N v) wr
def TiRel (w2 : World) (P : Nat) (cv : Value) (nb v t C : Nat) (i : Value) (wr : World) : Prop := ∃ x k s : Nat, x < v ∧ i = .int .i64 (x : Int) ∧ CurE wr P cv k s ∧ w2.grownBy wr (some P) ∧ k ≤ C ∧ (x = t ∨ k < nb ∨ k + steps v t s + 1 ≤ C)
noncomputable def tiM (v t nb x k s : Nat) : Nat := if x = t then 0 else drawM v t nb k s + 1
set_option maxRecDepth 100000 in
set_option maxHeartbeats 4000000 in
theorem cur_tree (P m most : Nat) (cv : Value) (w : World) (h : CurR w P cv m) (hm : m ≤ 288230376151711744) (h1 : 1 ≤ most) (h2 : most ≤ 100) :
  Calls Tryz.prog 87 #[.pointer (some ⟨P, 0, none⟩), .int .i64 (most : Int)] w (DrawnN w P cv (m + 144115188075855872) w.heap.size fun n => ∃ N, 1 ≤ N ∧ N ≤ most ∧ MadeN n N 4) := by
 have H := Lib.hid h;have hP := h.lt;clear h;obtain ⟨w1, hw1, hb1, HQ, hz1, HS1⟩ := box3 w (.slice none 0 0) (.slice none 0 0) (.slice none 0 0) 27;obtain ⟨PR, hPR⟩ : ∃ z, z = w.heap.size := ⟨_, rfl⟩
 have HPR := Lib.hid hPR;have hPRl : w.heap.size ≤ PR ∧ PR ≤ w.heap.size := by omega
 rw [← hPR] at HQ;have HW1 := Lib.hid hw1;clear hw1 hPR;go_enter Tryz.func87, Tryz.ntmps87;go_wp2_with fail;rw [← HW1.out, ← HPR.out];refine (cur_pick P m cv _ w1 (H.out.below hb1 hP) (by omega)).mono ?_;rintro e w2 ⟨x, rfl, hx, hc2, hg2⟩;have hxm : x < most := by omega
 have hwr : IntKind.i64.wrap (1 + (x : Int)) = ((1 + x : Nat) : Int) := by rw [IntWalk.i64_in _ (by omega)]; omega
 have hB2 : Bp w1.heap.size P w1 w2 := Bp.grown hg2 (Nat.le_refl _);have HQ2 := Lib.hid ((hg2.block PR (by omega) (fun e => by have e' : PR = P := Option.some.inj e; omega)).trans HQ.out);have HC2 := Lib.hid hc2;have hz2 := hg2.size;clear hx hc2 hg2;obtain ⟨N, hN⟩ : ∃ z, z = 1 + x := ⟨_, rfl⟩
 rw [← hN] at hwr;have hN1 : 1 ≤ N ∧ N ≤ most := by omega
 clear hN;go_wp2_with fail;refine (spec_neEmpty N w2 (by omega)).mono ?_;rintro e w3 ⟨val, rfl, hk3, hb3⟩;obtain ⟨ge, ce, eke⟩ := own_slN (hk3.own .e trivial);obtain ⟨C1, k1, ek1⟩ := own_slN (hk3.own .i trivial);obtain ⟨C2, k2, ek2⟩ := own_slN (hk3.own .n trivial);have HK3 := Lib.hid hk3;have HV := Lib.hid (And.intro eke (And.intro ek1 ek2));rw [eke, ek1, ek2];clear hk3 eke ek1 ek2 hwr;generalize (rowN (emptyN N) val .e).len = n0 at HV ⊢;generalize (rowN (emptyN N) val .i).len = n1 at HV ⊢;generalize (rowN (emptyN N) val .n).len = n2 at HV ⊢;obtain ⟨w4, hw4, hb4, HB, hz4, HS4⟩ := box3 w3 (.slice ge n0 ce) (.slice C1 n1 k1) (.slice C2 n2 k2) 27;obtain ⟨PB, hPB⟩ : ∃ z, z = w3.heap.size := ⟨_, rfl⟩
 have HPB := Lib.hid hPB;have hz3 := hb3.size;have hPBl : w3.heap.size ≤ PB := by omega
 rw [← hPB] at HB hz4;have HW4 := Lib.hid hw4;have hb24 := bl_trans hb3 hb4;have H4 := Lib.hid (show NAt w1 P PB PR w1.heap.size cv (m + 1125899906842624 * 1) (fun n => TreeN n N 1) w4 from ⟨(HC2.out.below (hb24.mono (by omega : w.heap.size ≤ w2.heap.size)) hP).keep (by omega) fun _ _ => rfl, ⟨emptyN N, val, TreeN.start N, NetB.of (OwnN.mono (HK3.out.up hb4) (by omega)) (by rw [HV.out.1, HV.out.2.1, HV.out.2.2]; exact HB.out)⟩, (hb24.block PR (by omega)).trans HQ2.out, hB2.trans (Bp.below (hb24.mono (by omega))), by omega, by omega, by omega, by omega⟩);clear hw4 hPB;go_wp2_with fail;rw [← HW4.out, ← HPB.out];go_loopw [6] (fun i wr => TrRel w1 P PB PR w1.heap.size cv m N i wr) (fun i _ => N - (intOf i).toNat)
 case atStart => exact ⟨1, Nat.le_refl _, hN1.1, rfl, H4.out⟩
 case round =>
  obtain ⟨v, hv1, hvN, rfl, hat⟩ := hrel;have HA := Lib.hid hat;have hbs : w1.heap.size ≤ wr.heap.size := hat.bp.size;have hP1 : P < w1.heap.size := by omega
  clear hat;obtain ⟨n', val', hQ, hnb⟩ := HA.out.net;have hln := hQ.made.len;obtain ⟨ge', ce', eke, -, -, -, -⟩ := hnb.k.outer (by omega);rw [hln] at eke;obtain ⟨D1, l1, ek1⟩ := own_slN (hnb.k.own .i trivial);obtain ⟨D2, l2, ek2⟩ := own_slN (hnb.k.own .n trivial);have hbx := hnb.box;rw [eke, ek1, ek2] at hbx;have HEK := Lib.hid (And.intro eke (And.intro ek1 ek2));have HQN := Lib.hid hQ;have HNB := Lib.hid hnb;have HLN := Lib.hid hln;have hge : ge' < wr.heap.size ∧ w1.heap.size ≤ ge' := by have h1 := (hnb.k.own .e trivial).lt ge' (by rw [eke]; rfl);exact ⟨h1.2, h1.1⟩
  have hPBr : PB < wr.heap.size := hnb.lt;clear eke ek1 ek2 hQ hnb hln;generalize (rowN n' val' .i).len = i1 at HEK hbx;generalize (rowN n' val' .n).len = i2 at HEK hbx;have HBX := Lib.hid hbx;clear hbx;obtain ⟨q0, q1, q2, qf⟩ := cells3 HBX;by_cases hlt : v < N
  ·
   have hvi : ((v : Int) < (N : Int)) = True := eq_true (by omega);go_wp2_with fail;have hcur := HA.out.cur;have hm' : m + 1125899906842624 * v ≤ 2305843009213693952 := by omega
   have HC := Lib.hid hcur;clear hcur;refine (cur_pick P _ cv _ wr HC.out hm').mono ?_;rintro e w5 ⟨y, rfl, hy, hc5, hg5⟩;have hyv : y < v := by omega
   have H5 := Lib.hid (HA.out.draw hc5 hg5 hbs);have hz5 := hg5.size;have hge5 : ge' ≠ P := by omega
   have hPB5 : PB ≠ P := by omega
   obtain ⟨t, ht, htd⟩ := tree_free hv1 HQN.out.sum;obtain ⟨k5, s5, hk5, he5⟩ := hc5.e;obtain ⟨⟨Ab, nb, cb, rfl, hnb, hbb⟩, hs5, hp5⟩ := he5;have HE5 := Lib.hid (show CurE w5 P (.slice Ab nb cb) k5 s5 from ⟨⟨Ab, nb, cb, rfl, hnb, hbb⟩, hs5, hp5⟩);have hv256 : v ≤ 256 := by omega
   have hst := steps_le v t s5 hv256 ht;obtain ⟨C, hC⟩ : ∃ z, z = m + 1125899906842624 * v + 2 + 1048576 + 281474976710656 := ⟨_, rfl⟩
   have hCl : C ≤ m + 1125899906842624 * v + 563000000000000 := by omega
   have hC2 : m + 1125899906842624 * v + 2 + 1048576 + 281474976710656 ≤ C := by omega
   clear hC q0 q1 q2 qf hy hc5 hbb hs5 hp5 hvi hm';go_wp2_with fail;go_loopw [7] (fun i wr' => TiRel w5 P (.slice Ab nb cb) nb v t C i wr') (fun i wr' => tiM v t nb (intOf i).toNat (curK wr' P) (curS wr' P))
   case atStart => exact ⟨y, k5, s5, hyv, rfl, HE5.out, ⟨rfl, rfl, rfl, Nat.le_refl _, fun _ _ _ => rfl⟩, by omega, by
    by_cases h : k5 < nb
    · exact .inr (.inl h)
    · exact .inr (.inr (by omega))⟩
   case round =>
    obtain ⟨x, k, s, hxv, rfl, hce, hgr, hkC, hks⟩ := hrel;have HCE := Lib.hid hce;have H6 := Lib.hid (H5.out.draw (hce.r hkC) hgr (by omega));have hz6 := hgr.size;have hg6 := grownT hg5 hgr;obtain ⟨q0, q1, q2, qf⟩ := cells3 (Lib.hid ((hg6.block PB hPBr (fun e => hPB5 (Option.some.inj e))).trans HBX.out));have HNB6 := Lib.hid (HNB.out.drawn hg6 hP1 (by omega));obtain ⟨Ax, cx, ekx⟩ := own_slN (HNB6.out.k.rowOwn (rowAt_lt (k := x) (by rw [HLN.out]; omega)));have yr := HNB6.out.k.outerCell (cap := ce') (k := x) (by rw [HLN.out]; exact HEK.out.1) (by rw [HLN.out]; omega);rw [ekx] at yr;have hxi : (x : Int) < (N : Int) := by omega
    have HKS := Lib.hid hce.ks;have hrl : (rowAt n' x).length = degA n' x := rfl;rw [hrl] at yr;obtain ⟨dx, hdx⟩ : ∃ z, z = degA n' x := ⟨_, rfl⟩
    rw [← hdx] at yr;have HDX := Lib.hid hdx;clear ekx hrl hdx hce;by_cases h4 : 4 ≤ dx
    ·
     have hd4 : ((dx : Int) ≥ 4) = True := eq_true (by omega);have hd4' : decide ((4 : Int) ≤ (dx : Int)) = true := decide_eq_true (by omega);have hxt : x ≠ t := fun e => by have h1 := HDX.out;rw [e] at h1;omega
     go_wp2_with fail;refine (cur_pickE P k s Ab nb cb v wr HCE.out (by omega) (by omega) (by omega)).mono ?_;rintro e w7 ⟨z, s', rfl, hz, hc7, hg7, hex⟩;obtain ⟨zz, hzz⟩ : ∃ y, y = z % v := ⟨_, rfl⟩
     rw [show (((fun x => x % v) z : Nat) : Int) = (zz : Int) by rw [hzz]];have HC7 := Lib.hid hc7;have HG7 := Lib.hid (grownT hgr hg7);have HEX := Lib.hid hex;clear hc7 hg7 hex q0 q1 q2 qf yr;have hnbC : nb ≤ C := by omega
     have hkC1 : k + 1 ≤ C := by omega
     have HRL := Lib.hid (show z % v = t ∨ k + 1 < nb ∨ k + 1 + steps v t s' + 1 ≤ C by
      by_cases hzt : z % v = t
      · exact .inl hzt
      ·
       refine .inr ?_;by_cases hk1 : k + 1 < nb
       · exact .inl hk1
       ·
        refine .inr ?_;by_cases hk2 : k < nb
        · have := steps_le v t s' hv256 ht; omega
        ·
         obtain ⟨e1, e2⟩ := HEX.out (by omega);rw [e2, e1] at hzt;have h5 := steps_next v t s hv256 ht hzt;rw [← e1] at h5
         omega)
     have hzv : z % v < v := Nat.mod_lt _ (by omega)
     have HM := Lib.hid (show tiM v t nb (z % v) (curK w7 P) (curS w7 P) < tiM v t nb x (curK wr P) (curS wr P) by
      unfold tiM;rw [if_neg hxt];by_cases hzt : z % v = t
      · rw [if_pos hzt]; omega
      ·
       rw [if_neg hzt, HKS.out.1, HKS.out.2, HC7.out.ks.1, HC7.out.ks.2];have := drawM_next v t nb k s s' z hv256 ht hzt HEX.out
       omega)
     rw [← hzz] at HRL hzv HM;clear hzz;go_wp2_with fail;go_roundw
     case rel => exact ⟨zz, k + 1, s', hzv, by go_num, HC7.out, HG7.out, hkC1, HRL.out⟩
     case measure => simp only [intOf, Int.toNat_natCast];exact HM.out
    ·
     have hd4 : ((dx : Int) ≥ 4) = False := eq_false (by omega);have hd4' : decide ((4 : Int) ≤ (dx : Int)) = false := decide_eq_false (by omega);have HTJ := Lib.hid (HQN.out.join hlt hxv (by have := HDX.out; omega) hv1);go_wp2_with fail;have hC := spec_neJoin _ _ _ n' x v wr (HNB6.out.k.reads (HQN.out.made.i64 (by omega) (by omega))) (HQN.out.made.small (by omega) (by omega)) (by rw [HLN.out]; omega) (by rw [HLN.out]; exact hlt);rw [HEK.out.1, HEK.out.2.1, HEK.out.2.2] at hC;refine hC.mono ?_;clear hC;rintro e w8 ⟨val8, rfl, hk8, hb8⟩;obtain ⟨ge8, ce8, eke8⟩ := own_slN (hk8.own .e trivial);obtain ⟨E1, f1, ek81⟩ := own_slN (hk8.own .i trivial);obtain ⟨E2, f2, ek82⟩ := own_slN (hk8.own .n trivial);rw [eke8, ek81, ek82];have HE8 := Lib.hid (And.intro eke8 (And.intro ek81 ek82));generalize (rowN (joinN n' x v) val8 .e).len = j0 at HE8 ⊢;generalize (rowN (joinN n' x v) val8 .i).len = j1 at HE8 ⊢;generalize (rowN (joinN n' x v) val8 .n).len = j2 at HE8 ⊢;have H8 := Lib.hid (H6.out.up hb8 (by omega));have hz8 := hb8.size;have hle9 : C ≤ m + 1125899906842624 * (v + 1) := Nat.le_trans hCl (by rw [Nat.mul_succ, ← Nat.add_assoc]; exact Nat.add_le_add_left (by decide) _);have H9 := Lib.hid ((H8.out.put (Q' := fun n => TreeN n N (v + 1)) (OwnN.mono hk8 (by omega)) HTJ.out (by omega) HE8.out.1 HE8.out.2.1 HE8.out.2.2).more hle9 fun _ h => h);have HBX8 := Lib.hid ((hb8.block PB HNB6.out.lt).trans ((hg6.block PB hPBr (fun e => hPB5 (Option.some.inj e))).trans HBX.out));obtain ⟨w9, hw9⟩ : ∃ z, z = (((w8.setCell ⟨PB, 0, none⟩ (.slice ge8 j0 ce8)).setCell ⟨PB, 1, none⟩ (.slice E1 j1 f1)).setCell ⟨PB, 2, none⟩ (.slice E2 j2 f2)) := ⟨_, rfl⟩
     rw [← hw9] at H9;have HW9 := Lib.hid hw9;clear eke8 ek81 ek82 hk8 hb8 hw9 q0 q1 q2 qf yr;obtain ⟨q0, q1, q2, qf⟩ := cells3 HBX8;go_wp2_with fail;rw [← HW9.out];go_roundw
     case rel => exact ⟨v + 1, by omega, by omega, by go_num, H9.out⟩
     case measure => simp [intOf]; omega
  ·
   obtain rfl : v = N := by omega
   have hvi : ((v : Int) < (v : Int)) = False := eq_false (by omega);go_wp2_with fail;have hC := cur_mixed P (m + 1125899906842624 * v) cv w1.heap.size v 4 n' val' wr HA.out.cur (by omega) HNB.out.k hbs hP1 HQN.out.made (by omega) (by omega) (by omega);rw [HEK.out.1, HEK.out.2.1, HEK.out.2.2] at hC;refine hC.mono ?_;clear hC q0 q1 q2 qf hvi;rintro e w8 ⟨n8, val8, rfl, hQ8, hk8, hc8, hb8⟩;obtain ⟨Z0, l0, ez0⟩ := own_slN (hk8.own .e trivial);obtain ⟨Z1, y1, ez1⟩ := own_slN (hk8.own .i trivial);obtain ⟨Z2, y2, ez2⟩ := own_slN (hk8.own .n trivial);have HEZ := Lib.hid (And.intro ez0 (And.intro ez1 ez2));rw [ez0, ez1, ez2];clear ez0 ez1 ez2;generalize (rowN n8 val8 .e).len = s0 at HEZ ⊢;generalize (rowN n8 val8 .i).len = s1 at HEZ ⊢;generalize (rowN n8 val8 .n).len = s2 at HEZ ⊢;have HRZ := Lib.hid ((hb8.block PR (by omega) (by omega)).trans HA.out.res);obtain ⟨p0, p1, p2, pf⟩ := cells3 HRZ;obtain ⟨we, hwe, HE, hge'⟩ := set3 HRZ (.slice Z0 s0 l0) (.slice Z1 s1 y1) (.slice Z2 s2 y2);have HWE := Lib.hid hwe;have hz8 := hb8.size;have hKz := OwnN.mono (NetK.past hk8 HRZ.out no_tyN_net hge') (show w.heap.size ≤ w1.heap.size by omega);have hCz : CurR we P cv (m + 144115188075855872) := hc8.keep (by omega) fun b hb' => hge'.block b (by omega) (fun e => by have e' : b = PR := Option.some.inj e; omega)
   have hBz : Bp w.heap.size P w we := (Bp.below hb1).trans (((HA.out.bp.trans hb8).mono (by omega)).trans (Bp.other hge' (by omega) hPRl.1));have HFZ := Lib.hid (And.intro hKz (And.intro hCz hBz));clear hwe hge' hKz hCz hBz hk8 hc8 hb8;go_wp2_with fail;rw [← HWE.out];obtain ⟨z0, z1, z2, -⟩ := cells3 HE;exact bodyPost_ret (v := .agg #[.slice Z0 s0 l0, .slice Z1 s1 y1, .slice Z2 s2 y2]) (by simp [results, Tryz.results87, go_sem, z0, z1, z2]) rfl ⟨n8, val8, by rw [HEZ.out.1, HEZ.out.2.1, HEZ.out.2.2], ⟨v, hv1, hN1.2, hQ8⟩, HFZ.out.1, HFZ.out.2.1, HFZ.out.2.2⟩
end Go.Proofs.YtdghoienjegffaaGreat
namespace Go.Proofs.YtdghoienjegffaaGreat
open Go.RowKit
set_option linter.all false
def SpRel (w : World) (P PB PR base : Nat) (cv : Value) (m N : Nat) (i : Value) (wr : World) : Prop := ∃ k : Nat, k ≤ N ∧ i = .int .i64 (k : Int) ∧ NAt w P PB PR base cv (m + 4 * (N - k)) (fun n => MadeN n N 5) wr
theorem MadeN.join5 {n : Net} {N v u : Nat} (h : MadeN n N 5) (hv : v < N) (hu : u < N) (hne : v ≠ u) (h1 : degA n v < 5) (h2 : degA n u < 5) : MadeN (joinN n v u) N 5 := by
  have hl := h.len;refine h.join hv hu (fun x hx => ?_) (Nat.le_refl _);rw [degA_join (by omega) (by omega)];rcases hx with rfl | rfl
  · rw [if_pos rfl, if_neg hne]; omega
  · rw [if_neg (fun e => hne e.symm), if_pos rfl]; omega
set_option maxRecDepth 100000 in
set_option maxHeartbeats 4000000 in
theorem cur_simple (P m most : Nat) (cv : Value) (w : World) (h : CurR w P cv m) (hm : m ≤ 288230376151711744) (h1 : 1 ≤ most) (h2 : most ≤ 100) :
  Calls Tryz.prog 86 #[.pointer (some ⟨P, 0, none⟩), .int .i64 (most : Int)] w (DrawnN w P cv (m + 144115188075955872) w.heap.size fun n => ∃ N, 1 ≤ N ∧ N ≤ most ∧ MadeN n N 5) := by
 have H := Lib.hid h;have hP := h.lt;clear h;obtain ⟨w1, hw1, hb1, HQ, hz1, HS1⟩ := box3 w (.slice none 0 0) (.slice none 0 0) (.slice none 0 0) 27;obtain ⟨PR, hPR⟩ : ∃ z, z = w.heap.size := ⟨_, rfl⟩
 have HPR := Lib.hid hPR;have hPRl : w.heap.size ≤ PR ∧ PR ≤ w.heap.size := by omega
 rw [← hPR] at HQ;have HW1 := Lib.hid hw1;have hP1 : P < w1.heap.size := by omega
 have hPR1 : PR < w1.heap.size := by omega
 clear hw1 hPR;go_enter Tryz.func86, Tryz.ntmps86;go_wp2_with fail;rw [← HW1.out, ← HPR.out];refine (cur_tree P m most cv w1 (H.out.below hb1 hP) hm h1 h2).mono ?_;rintro e w3 ⟨n, val, rfl, ⟨N, hN1, hN2, hmn⟩, hk3, hc3, hb3⟩;obtain ⟨ge, ce, x0⟩ := own_slN (hk3.own .e trivial);obtain ⟨C1, k1, x1⟩ := own_slN (hk3.own .i trivial);obtain ⟨C2, k2, x2⟩ := own_slN (hk3.own .n trivial);have HV := Lib.hid (And.intro x0 (And.intro x1 x2));rw [x0, x1, x2];clear x0 x1 x2;generalize (rowN n val .e).len = n0 at HV ⊢;generalize (rowN n val .i).len = n1 at HV ⊢;generalize (rowN n val .n).len = n2 at HV ⊢;obtain ⟨w4, hw4, hb4, HB, hz4, HS4⟩ := box3 w3 (.slice ge n0 ce) (.slice C1 n1 k1) (.slice C2 n2 k2) 27;obtain ⟨PB, hPB⟩ : ∃ z, z = w3.heap.size := ⟨_, rfl⟩
 have HPB := Lib.hid hPB;have hz3 := hb3.size;have hPBl : w3.heap.size ≤ PB := by omega
 rw [← hPB] at HB hz4;have HW4 := Lib.hid hw4;have H4 := Lib.hid (show NAt w1 P PB PR w1.heap.size cv (m + 144115188075855872) (fun n => MadeN n N 5) w4 from ⟨hc3.below (hb4.mono (by omega : w1.heap.size ≤ w3.heap.size)) hP1, ⟨n, val, hmn.more (by omega), NetB.of (hk3.up hb4) (by rw [HV.out.1, HV.out.2.1, HV.out.2.2]; exact HB.out)⟩, (hb4.block PR (by omega)).trans ((hb3.block PR hPR1 (by omega)).trans HQ.out), hb3.trans (Bp.below (hb4.mono (by omega))), hP1, by omega, by omega, by omega⟩);have q0 : w4.cell? ⟨PB, 0, none⟩ = some (.slice ge N ce) := by
  rw [cell_of_row _ _ 0 _ _ (0, 0) HB.out];have h1 := hk3.own .e trivial;rw [HV.out.1] at h1;have h2 : n0 = N := by
   have h3 : n0 = n.es.length := by
    rcases h1.2 with ⟨e1, e2⟩ | ⟨g, cap, cur, e1, _⟩
    · have e3 := (Value.slice.inj e1).2.1; rw [e3]; exact e2.symm
    · exact (Value.slice.inj e1).2.1
   rw [h3]; exact hmn.len
  rw [h2]; rfl
 have eq0 := q0;rw [hw4, hPB] at eq0;have hwr : IntKind.i64.wrap (1 + (N : Int)) = ((1 + N : Nat) : Int) := by rw [IntWalk.i64_in _ (by omega)]; omega
 have hmA : m + 144115188075855872 ≤ 2305843009213693952 := by omega
 have hmB : m + 144115188075855872 + 2 ≤ 576460752303423488 := by omega
 obtain ⟨M0, hM0⟩ : ∃ z, z = m + 144115188075855872 := ⟨_, rfl⟩
 rw [← hM0] at H4 hmA hmB;have HM0 := Lib.hid hM0;have hM0l : M0 ≤ 432345564227567616 := by omega
 clear hw4 hPB hk3 hc3 hb3 hmn hM0;go_wp2_with fail;rw [← HW4.out, ← HPB.out];clear eq0;refine (cur_pick P M0 cv _ w4 H4.out.cur hmA).mono ?_;rintro e w5 ⟨x, rfl, hx, hc5, hg5⟩;have hxN : x ≤ N := by omega
 have H5 := Lib.hid (H4.out.draw hc5 hg5 H4.out.bp.size);clear hx hc5 hg5 q0 hwr hmA;go_wp2_with fail;go_loopw [6] (fun i wr => SpRel w1 P PB PR w1.heap.size cv (M0 + 2) N i wr) (fun i _ => (intOf i).toNat)
 case atStart => exact ⟨x, hxN, rfl, H5.out.more (by omega) fun _ h => h⟩
 case round =>
  obtain ⟨k, hkN, rfl, hat⟩ := hrel;have HA := Lib.hid hat;have hbs : w1.heap.size ≤ wr.heap.size := hat.bp.size;clear hat;obtain ⟨n', val', hQ, hnb⟩ := HA.out.net;have hln := hQ.len;obtain ⟨ge', ce', eke, -, -, -, -⟩ := hnb.k.outer (by omega);rw [hln] at eke;obtain ⟨D1, l1, ek1⟩ := own_slN (hnb.k.own .i trivial);obtain ⟨D2, l2, ek2⟩ := own_slN (hnb.k.own .n trivial);have hbx := hnb.box;rw [eke, ek1, ek2] at hbx;have HEK := Lib.hid (And.intro eke (And.intro ek1 ek2));have HQN := Lib.hid hQ;have HNB := Lib.hid hnb;have HLN := Lib.hid hln;have hge : ge' < wr.heap.size ∧ w1.heap.size ≤ ge' := by have h1 := (hnb.k.own .e trivial).lt ge' (by rw [eke]; rfl);exact ⟨h1.2, h1.1⟩
  have hPBr : PB < wr.heap.size := hnb.lt;clear eke ek1 ek2 hQ hnb hln;generalize (rowN n' val' .i).len = i1 at HEK hbx;generalize (rowN n' val' .n).len = i2 at HEK hbx;have HBX := Lib.hid hbx;clear hbx;obtain ⟨q0, q1, q2, qf⟩ := cells3 HBX;have hPPB : PB ≠ P := by omega
  by_cases h0 : 0 < k
  ·
   have hk0 : ((k : Int) > 0) = True := eq_true (by omega);have hMk : M0 + 2 + 4 * (N - k) + 2 ≤ 2305843009213693952 := by omega
   go_wp2_with fail;refine wp_region_held_drew (S := fun w' => w'.cell? ⟨PB, 0, none⟩ = some (.slice (some ⟨ge', 0, none⟩) N ce')) (by kernel_rfl) ?_ (fun hHeld => ?_)
   · go_keep
   refine stk 0 22 ?_;refine stk 1 23 ?_;refine stk 2 24 ?_;refine stk 3 25 ?_;refine stk 5 27 ?_;refine stk 6 28 ?_;refine stk 7 29 ?_;refine stk 8 30 ?_;refine tr 4 rfl (by kernel_rfl) (fun K hK => ?_);go_simp;go_at_call 40;refine (cur_pick P _ cv _ wr.drew (HA.out.cur.below (Below.refl w1.heap.size wr).drew hP1) (by omega)).mono ?_;rintro e w5 ⟨a, rfl, ha, hc5, hg5'⟩;have haN : a < N := by omega
   have hg5 : wr.grownBy w5 (some P) := ⟨hg5'.os, hg5'.tape, hg5'.output, hg5'.size, hg5'.block⟩
   have H5 := Lib.hid (HA.out.draw hc5 hg5 hbs);have hz5 := hg5.size;have HG5 := Lib.hid hg5;clear q0 q1 q2 qf ha hc5 hg5';have q0 : w5.cell? ⟨PB, 0, none⟩ = some (.slice (some ⟨ge', 0, none⟩) N ce') := (cells3 (Lib.hid ((hg5.block PB hPBr (fun e => hPPB (Option.some.inj e))).trans HBX.out))).1;refine hK.out _ _ ?_ (fun hHeld => ?_)
   · go_keep
   clear hK K
   try simp only [Act.put, pu]
   refine tr 9 rfl (by kernel_rfl) (fun K hK => ?_);go_simp;go_at_call 40;refine (cur_pick P _ cv _ w5 H5.out.cur hMk).mono ?_;rintro e w6 ⟨b, rfl, hb, hc6, hg6⟩;have hbN : b < N := by omega
   have H6 := Lib.hid (H5.out.draw hc6 hg6 (by omega));have hz6 := hg6.size;have HG6 := Lib.hid (grownT HG5.out hg6);clear q0 hb hc6 hg5 hg6;have q0 : w6.cell? ⟨PB, 0, none⟩ = some (.slice (some ⟨ge', 0, none⟩) N ce') := (cells3 (Lib.hid ((HG6.out.block PB hPBr (fun e => hPPB (Option.some.inj e))).trans HBX.out))).1;refine hK.out _ _ ?_ (fun hHeld => ?_)
   · go_keep
   clear hK K
   try simp only [Act.put, pu]
   refine stk 10 7 ?_;refine stk 11 8 ?_;refine wpAnyH_done (by kernel_rfl) ?_ _;clear q0;have HBX6 := Lib.hid ((HG6.out.block PB hPBr (fun e => hPPB (Option.some.inj e))).trans HBX.out);obtain ⟨q0, q1, q2, qf⟩ := cells3 HBX6;have HNB6 := Lib.hid (HNB.out.drawn HG6.out hP1 (by omega));have hwrk : IntKind.i64.wrap ((k : Int) - 1) = ((k - 1 : Nat) : Int) := by rw [IntWalk.i64_in _ (by omega)]; omega
   have HNX := Lib.hid (show NAt w1 P PB PR w1.heap.size cv (M0 + 2 + 4 * (N - (k - 1))) (fun n => MadeN n N 5) w6 from H6.out.more (by omega) fun _ h => h);by_cases hab : a = b
   ·
    have kq : ((a : Int) == (b : Int)) = true := by simpa using (show (a : Int) = (b : Int) by omega)
    have kq2 : ((a : Int) != (b : Int)) = false := by simpa using (show (a : Int) = (b : Int) by omega)
    clear hab;go_wp2_with fail;go_roundw
    case rel => exact ⟨k - 1, by omega, by go_num, HNX.out⟩
    case measure => simp [intOf]; omega
   ·
    have kq : ((a : Int) == (b : Int)) = false := by simpa using (show ¬ (a : Int) = (b : Int) by omega)
    have kq2 : ((a : Int) != (b : Int)) = true := by simpa using (show ¬ (a : Int) = (b : Int) by omega)
    have hla := rowAt_lt (n := n') (k := a) (by rw [HLN.out]; exact haN);have hda := HQN.out.deg a;have hC := spec_neNear _ _ _ n' a _ w6 (HNB6.out.k.reads (HQN.out.i64 (by omega) (by omega))) hla (by show degA n' a ≤ _; omega);rw [HEK.out.1, HEK.out.2.1, HEK.out.2.2] at hC;go_wp2_with fail;refine hC.mono ?_;clear hC hla;rintro e w7 ⟨u, rfl, -, hu7, hb7, -⟩;have HU7 := Lib.hid hu7;have H7 := Lib.hid (HNX.out.up hb7 (by omega));have HNB7 := Lib.hid (HNB6.out.up hb7);have HBX7 := Lib.hid ((hb7.block PB HNB6.out.lt).trans HBX6.out);have hz7 := hb7.size;clear hu7 hb7 q0 q1 q2 qf;go_wp2_with fail;refine (spec_l1Has _ _ _ w7 HU7.out).mono ?_;rintro e w' ⟨rfl, rfl⟩;generalize hasB (nearL (rowAt n' a)) (b : Int) = hh;obtain ⟨q0, q1, q2, qf⟩ := cells3 HBX7;cases hh with
    | true =>
     go_wp2_with fail;go_roundw
     case rel => exact ⟨k - 1, by omega, by go_num, H7.out⟩
     case measure => simp [intOf]; omega
    | false =>
     obtain ⟨Aa, ca, eka⟩ := own_slN (HNB7.out.k.rowOwn (rowAt_lt (k := a) (by rw [HLN.out]; exact haN)));obtain ⟨Ab, cb, ekb⟩ := own_slN (HNB7.out.k.rowOwn (rowAt_lt (k := b) (by rw [HLN.out]; exact hbN)));have ya := HNB7.out.k.outerCell (cap := ce') (k := a) (by rw [HLN.out]; exact HEK.out.1) (by rw [HLN.out]; exact haN);have yb := HNB7.out.k.outerCell (cap := ce') (k := b) (by rw [HLN.out]; exact HEK.out.1) (by rw [HLN.out]; exact hbN);rw [eka] at ya;rw [ekb] at yb;obtain ⟨da, hda'⟩ : ∃ z, z = degA n' a := ⟨_, rfl⟩
     obtain ⟨db, hdb'⟩ : ∃ z, z = degA n' b := ⟨_, rfl⟩
     rw [show (rowAt n' a).length = da from hda'.symm] at ya;rw [show (rowAt n' b).length = db from hdb'.symm] at yb;have HDA := Lib.hid hda';have HDB := Lib.hid hdb';have hai : (a : Int) < (N : Int) := by omega
     have hbi : (b : Int) < (N : Int) := by omega
     clear eka ekb hda hda' hdb';by_cases h5 : da < 5
     ·
      have ka : ((da : Int) < 5) = True := eq_true (by omega);have ka' : decide ((da : Int) < 5) = true := decide_eq_true (by omega);by_cases h6 : db < 5
      ·
       have kb : ((db : Int) < 5) = True := eq_true (by omega);have kb' : decide ((db : Int) < 5) = true := decide_eq_true (by omega);have HTJ := Lib.hid (HQN.out.join5 haN hbN hab (by have := HDA.out; omega) (by have := HDB.out; omega));go_wp2_with fail;have hC := spec_neJoin _ _ _ n' a b w7 (HNB7.out.k.reads (HQN.out.i64 (by omega) (by omega))) (HQN.out.small (by omega) (by omega)) (by rw [HLN.out]; omega) (by rw [HLN.out]; omega);rw [HEK.out.1, HEK.out.2.1, HEK.out.2.2] at hC;refine hC.mono ?_;clear hC;rintro e w8 ⟨val8, rfl, hk8, hb8⟩;obtain ⟨ge8, ce8, x0⟩ := own_slN (hk8.own .e trivial);obtain ⟨E1, f1, x1⟩ := own_slN (hk8.own .i trivial);obtain ⟨E2, f2, x2⟩ := own_slN (hk8.own .n trivial);have HE8 := Lib.hid (And.intro x0 (And.intro x1 x2));rw [x0, x1, x2];clear x0 x1 x2;generalize (rowN (joinN n' a b) val8 .e).len = j0 at HE8 ⊢;generalize (rowN (joinN n' a b) val8 .i).len = j1 at HE8 ⊢;generalize (rowN (joinN n' a b) val8 .n).len = j2 at HE8 ⊢;have H8 := Lib.hid (H7.out.up hb8 (by omega));have hz8 := hb8.size;have H9 := Lib.hid ((H8.out.put (Q' := fun n => MadeN n N 5) (OwnN.mono hk8 (by omega)) HTJ.out (by omega) HE8.out.1 HE8.out.2.1 HE8.out.2.2).more (m' := M0 + 2 + 4 * (N - (k - 1))) (Nat.le_refl _) fun _ h => h);have HBX8 := Lib.hid ((hb8.block PB HNB7.out.lt).trans HBX7.out);obtain ⟨w9, hw9⟩ : ∃ z, z = (((w8.setCell ⟨PB, 0, none⟩ (.slice ge8 j0 ce8)).setCell ⟨PB, 1, none⟩ (.slice E1 j1 f1)).setCell ⟨PB, 2, none⟩ (.slice E2 j2 f2)) := ⟨_, rfl⟩
       rw [← hw9] at H9;have HW9 := Lib.hid hw9;clear hk8 hb8 hw9 q0 q1 q2 qf;obtain ⟨q0, q1, q2, qf⟩ := cells3 HBX8;go_wp2_with fail;rw [← HW9.out];go_roundw
       case rel => exact ⟨k - 1, by omega, by go_num, H9.out⟩
       case measure => simp [intOf]; omega
      ·
       have kb : ((db : Int) < 5) = False := eq_false (by omega);have kb' : decide ((db : Int) < 5) = false := decide_eq_false (by omega);go_wp2_with fail;go_roundw
       case rel => exact ⟨k - 1, by omega, by go_num, H7.out⟩
       case measure => simp [intOf]; omega
     ·
      have ka : ((da : Int) < 5) = False := eq_false (by omega);have ka' : decide ((da : Int) < 5) = false := decide_eq_false (by omega);go_wp2_with fail;go_roundw
      case rel => exact ⟨k - 1, by omega, by go_num, H7.out⟩
      case measure => simp [intOf]; omega
  ·
   obtain rfl : k = 0 := by omega
   have hMz : M0 + 2 + 4 * (N - 0) ≤ 576460752303423488 := by omega
   go_wp2_with fail;have hC := cur_mixed P (M0 + 2 + 4 * (N - 0)) cv w1.heap.size N 5 n' val' wr HA.out.cur hMz HNB.out.k hbs hP1 HQN.out (by omega) (by omega) (by omega);rw [HEK.out.1, HEK.out.2.1, HEK.out.2.2] at hC;refine hC.mono ?_;clear hC q0 q1 q2 qf;have hM0 := HM0.out;rintro e w8 ⟨n8, val8, rfl, hQ8, hk8, hc8, hb8⟩;obtain ⟨Z0, l0, ez0⟩ := own_slN (hk8.own .e trivial);obtain ⟨Z1, y1, ez1⟩ := own_slN (hk8.own .i trivial);obtain ⟨Z2, y2, ez2⟩ := own_slN (hk8.own .n trivial);have HEZ := Lib.hid (And.intro ez0 (And.intro ez1 ez2));rw [ez0, ez1, ez2];clear ez0 ez1 ez2;generalize (rowN n8 val8 .e).len = s0 at HEZ ⊢;generalize (rowN n8 val8 .i).len = s1 at HEZ ⊢;generalize (rowN n8 val8 .n).len = s2 at HEZ ⊢;have HRZ := Lib.hid ((hb8.block PR (by omega) (by omega)).trans HA.out.res);obtain ⟨p0, p1, p2, pf⟩ := cells3 HRZ;obtain ⟨we, hwe, HE, hge'⟩ := set3 HRZ (.slice Z0 s0 l0) (.slice Z1 s1 y1) (.slice Z2 s2 y2);have HWE := Lib.hid hwe;have hz8 := hb8.size;have hKz := OwnN.mono (NetK.past hk8 HRZ.out no_tyN_net hge') (show w.heap.size ≤ w1.heap.size by omega);have hCz : CurR we P cv (m + 144115188075955872) := hc8.keep (by omega) fun b hb' => hge'.block b (by omega) (fun e => by have e' : b = PR := Option.some.inj e; omega)
   have hBz : Bp w.heap.size P w we := (Bp.below hb1).trans (((HA.out.bp.trans hb8).mono (by omega)).trans (Bp.other hge' (by omega) hPRl.1));have HFZ := Lib.hid (And.intro hKz (And.intro hCz hBz));have HQ8 := Lib.hid (show ∃ N, 1 ≤ N ∧ N ≤ most ∧ MadeN n8 N 5 from ⟨N, hN1, hN2, hQ8⟩);clear hwe hge' hKz hCz hBz hk8 hc8 hb8 hQ8;go_wp2_with fail;rw [← HWE.out];obtain ⟨z0, z1, z2, -⟩ := cells3 HE;exact bodyPost_ret (v := .agg #[.slice Z0 s0 l0, .slice Z1 s1 y1, .slice Z2 s2 y2]) (by simp [results, Tryz.results86, go_sem, z0, z1, z2]) rfl ⟨n8, val8, by rw [HEZ.out.1, HEZ.out.2.1, HEZ.out.2.2], HQ8.out, HFZ.out.1, HFZ.out.2.1, HFZ.out.2.2⟩
end Go.Proofs.YtdghoienjegffaaGreat
