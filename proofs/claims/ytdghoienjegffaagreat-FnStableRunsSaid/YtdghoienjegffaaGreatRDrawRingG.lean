/-
  Small lemmas and contracts that the texts of this claim share. No condition.
-/
import Derived.Test.YtdghoienjegffaaGreatRDrawTreeG
namespace Go.Proofs.YtdghoienjegffaaGreat
open Go.RowKit
set_option linter.all false
structure RingN (n : Net) (N j : Nat) : Prop where
  made : MadeN n N 2
  rest : j < N → (∀ u, j < u → degA n u = 0) ∧ (degA n j ≤ if j = 0 then 0 else 1) ∧ (0 < j → degA n 0 ≤ 1)
theorem RingN.start (N : Nat) : RingN (emptyN N) N 0 := by
  have h0 : ∀ u, degA (emptyN N) u = 0 := fun u => by unfold degA; rw [rowAt_empty]; rfl
  exact ⟨(made_empty N).more (by omega), fun _ => ⟨fun u _ => h0 u, by rw [h0]; exact Nat.zero_le _, fun _ => by rw [h0]; omega⟩⟩
theorem RingN.join {n : Net} {N j : Nat} (h : RingN n N j) (hj : j < N) : RingN (joinN n j ((j + 1) % N)) N (j + 1) := by
 have hl := h.made.len;obtain ⟨r1, r2, r3⟩ := h.rest hj;have hw : (j + 1) % N < N := Nat.mod_lt _ (by omega);have hd := degA_join (n := n) (v := j) (w := (j + 1) % N) (by omega) (by omega);by_cases hjN : j + 1 < N
 ·
  have e : (j + 1) % N = j + 1 := Nat.mod_eq_of_lt hjN;rw [e] at hd ⊢;have h1 := r1 (j + 1) (by omega);refine ⟨h.made.join hj hjN (fun u hu => ?_) (Nat.le_refl _), fun _ => ⟨fun u hu => ?_, ?_, fun _ => ?_⟩⟩
  ·
   rw [hd];rcases hu with rfl | rfl
   · rw [if_pos rfl, if_neg (by omega)]; split at r2 <;> omega
   · rw [if_neg (by omega), if_pos rfl]; omega
  · rw [hd, if_neg (by omega), if_neg (by omega), r1 u (by omega)]
  · rw [hd, if_neg (by omega), if_pos rfl, if_neg (by omega)]; omega
  ·
   rw [hd, if_neg (show ¬ 0 = j + 1 by omega)];by_cases h0 : 0 = j
   · rw [if_pos h0]; subst h0; rw [if_pos rfl] at r2; omega
   · rw [if_neg h0]; have := r3 (by omega); omega
 ·
  obtain rfl : N = j + 1 := by omega
  rw [Nat.mod_self] at hd ⊢;refine ⟨h.made.join hj (by omega) (fun u hu => ?_) (Nat.le_refl _), fun hc => absurd hc (by omega)⟩;rw [hd];by_cases h0 : j = 0
  · subst h0;rw [if_pos rfl] at r2;rcases hu with rfl | rfl <;> rw [if_pos rfl] <;> omega
  ·
   rw [if_neg h0] at r2;have := r3 (by omega);rcases hu with rfl | rfl
   · rw [if_pos rfl, if_neg h0]; omega
   · rw [if_neg (fun e => h0 e.symm), if_pos rfl]; omega
def RnRel (w : World) (P PB PR base : Nat) (cv : Value) (m N : Nat) (i : Value) (wr : World) : Prop := ∃ j : Nat, j ≤ N ∧ i = .int .i64 (j : Int) ∧ NAt w P PB PR base cv m (fun n => RingN n N j) wr
set_option maxRecDepth 100000 in
set_option maxHeartbeats 4000000 in
theorem cur_ring (P m most : Nat) (cv : Value) (w : World) (h : CurR w P cv m) (hm : m ≤ 500000000000000000) (h1 : 1 ≤ most) (h2 : most ≤ 100) :
  Calls Tryz.prog 126 #[.pointer (some ⟨P, 0, none⟩), .int .i64 (most : Int)] w (DrawnN w P cv (m + 100000) w.heap.size fun n => ∃ N, 1 ≤ N ∧ N ≤ most ∧ MadeN n N 2) := by
 have H := Lib.hid h;have hP := h.lt;clear h;obtain ⟨w1, hw1, hb1, HQ, hz1, HS1⟩ := box3 w (.slice none 0 0) (.slice none 0 0) (.slice none 0 0) 27;obtain ⟨PR, hPR⟩ : ∃ z, z = w.heap.size := ⟨_, rfl⟩
 have HPR := Lib.hid hPR;have hPRl : w.heap.size ≤ PR ∧ PR ≤ w.heap.size := by omega
 rw [← hPR] at HQ;have HW1 := Lib.hid hw1;have hP1 : P < w1.heap.size := by omega
 have hPR1 : PR < w1.heap.size := by omega
 clear hw1 hPR;go_enter Tryz.func126, Tryz.ntmps126;go_wp2_with fail;rw [← HW1.out, ← HPR.out];refine (cur_pick P m cv _ w1 (H.out.below hb1 hP) (by omega)).mono ?_;rintro e w2 ⟨x, rfl, hx, hc2, hg2⟩;have hxm : x < most := by omega
 have hwr : IntKind.i64.wrap (1 + (x : Int)) = ((1 + x : Nat) : Int) := by rw [IntWalk.i64_in _ (by omega)]; omega
 have hB2 : Bp w1.heap.size P w1 w2 := Bp.grown hg2 (Nat.le_refl _);have HQ2 := Lib.hid ((hg2.block PR (by omega) (fun e => by have e' : PR = P := Option.some.inj e; omega)).trans HQ.out);have HC2 := Lib.hid hc2;have hz2 := hg2.size;clear hx hc2 hg2;obtain ⟨N, hN⟩ : ∃ z, z = 1 + x := ⟨_, rfl⟩
 rw [← hN] at hwr;have hN1 : 1 ≤ N ∧ N ≤ most := by omega
 clear hN;go_wp2_with fail;refine (spec_neEmpty N w2 (by omega)).mono ?_;rintro e w3 ⟨val, rfl, hk3, hb3⟩;have hoe := hk3.own .e trivial;replace hoe : w3.ownsRow w2.heap.size 75 1 (val .e) (List.replicate N ([] : Ends)).length (valsN val (List.replicate N ([] : Ends)).length) := hoe;rw [List.length_replicate] at hoe;obtain ⟨ge, ce, x0⟩ := own_slN (hk3.own .e trivial);obtain ⟨C1, k1, x1⟩ := own_slN (hk3.own .i trivial);obtain ⟨C2, k2, x2⟩ := own_slN (hk3.own .n trivial);have HV := Lib.hid (And.intro x0 (And.intro x1 x2));rw [x0, x1, x2];clear x0 x1 x2;generalize (rowN (emptyN N) val .e).len = n0 at HV ⊢;generalize (rowN (emptyN N) val .i).len = n1 at HV ⊢;generalize (rowN (emptyN N) val .n).len = n2 at HV ⊢;have hn0 : n0 = N := by
  rw [HV.out.1] at hoe;rcases hoe.2 with ⟨e1, e2⟩ | ⟨g, cap, cur, e1, _⟩
  · have e3 := (Value.slice.inj e1).2.1; rw [e3]; exact e2.symm
  · exact (Value.slice.inj e1).2.1
 subst hn0;obtain ⟨w4, hw4, hb4, HB, hz4, HS4⟩ := box3 w3 (.slice ge n0 ce) (.slice C1 n1 k1) (.slice C2 n2 k2) 27;obtain ⟨PB, hPB⟩ : ∃ z, z = w3.heap.size := ⟨_, rfl⟩
 have HPB := Lib.hid hPB;have hz3 := hb3.size;have hPBl : w3.heap.size ≤ PB := by omega
 rw [← hPB] at HB hz4;have HW4 := Lib.hid hw4;have hb24 := bl_trans hb3 hb4;have H4 := Lib.hid (show NAt w1 P PB PR w1.heap.size cv (m + 2) (fun n => RingN n n0 0) w4 from ⟨(HC2.out.below (hb24.mono (by omega : w1.heap.size ≤ w2.heap.size)) hP1), ⟨emptyN n0, val, RingN.start n0, NetB.of (OwnN.mono (hk3.up hb4) (by omega)) (by rw [HV.out.1, HV.out.2.1, HV.out.2.2]; exact HB.out)⟩, (hb24.block PR (by omega)).trans HQ2.out, hB2.trans (Bp.below (hb24.mono (by omega))), hP1, by omega, by omega, by omega⟩);obtain ⟨q0, q1, q2, qf⟩ := cells3 HB;have eq0 := q0;rw [hw4, hPB] at eq0;clear hw4 hPB hk3 hoe hwr q1 q2 qf;go_wp2_with fail;rw [← HW4.out, ← HPB.out];clear q0 eq0;go_loopw [15] (fun i wr => RnRel w1 P PB PR w1.heap.size cv (m + 2) n0 i wr) (fun i _ => n0 - (intOf i).toNat)
 case atStart => exact ⟨0, Nat.zero_le _, rfl, H4.out⟩
 case round =>
  obtain ⟨j, hjN, rfl, hat⟩ := hrel;have HA := Lib.hid hat;have hbs : w1.heap.size ≤ wr.heap.size := hat.bp.size;clear hat;obtain ⟨n', val', hQ, hnb⟩ := HA.out.net;have hln := hQ.made.len;obtain ⟨ge', ce', eke, -, -, -, -⟩ := hnb.k.outer (by omega);rw [hln] at eke;obtain ⟨D1, l1, ek1⟩ := own_slN (hnb.k.own .i trivial);obtain ⟨D2, l2, ek2⟩ := own_slN (hnb.k.own .n trivial);have hbx := hnb.box;rw [eke, ek1, ek2] at hbx;have HEK := Lib.hid (And.intro eke (And.intro ek1 ek2));have HQN := Lib.hid hQ;have HNB := Lib.hid hnb;have HLN := Lib.hid hln;have hge : ge' < wr.heap.size ∧ w1.heap.size ≤ ge' := by have h1 := (hnb.k.own .e trivial).lt ge' (by rw [eke]; rfl);exact ⟨h1.2, h1.1⟩
  have hPBr : PB < wr.heap.size := hnb.lt;clear eke ek1 ek2 hQ hnb hln;generalize (rowN n' val' .i).len = i1 at HEK hbx;generalize (rowN n' val' .n).len = i2 at HEK hbx;have HBX := Lib.hid hbx;clear hbx;obtain ⟨q0, q1, q2, qf⟩ := cells3 HBX;by_cases hlt : j < n0
  ·
   have hji : (j : Int) < (n0 : Int) := by omega
   have hw1' : IntKind.i64.wrap ((j : Int) + 1) = (j : Int) + 1 := IntWalk.i64_in _ (by omega);have hn0' : (n0 = 0) = False := eq_false (by omega);have hn00 : ((n0 : Int) == 0) = false := by simpa using (show ¬ (n0 : Int) = 0 by omega)
   obtain ⟨jw, hjw⟩ : ∃ z, z = (j + 1) % n0 := ⟨_, rfl⟩
   have hjwN : jw < n0 := by rw [hjw]; exact Nat.mod_lt _ (by omega)
   have hmod : ((j : Int) + 1).tmod (n0 : Int) = (jw : Int) := by rw [hjw]; exact (Int.ofNat_tmod (j + 1) n0).symm
   have HJW := Lib.hid hjw;have HTJ := Lib.hid (HQN.out.join hlt);rw [← hjw] at HTJ;clear hjw;go_wp2_with fail;refine till_region (S := fun w' => w'.cell? ⟨PB, 0, none⟩ = some (.slice (some ⟨ge', 0, none⟩) n0 ce') ∧ w'.cell? ⟨PB, 1, none⟩ = some (.slice D1 i1 l1) ∧ w'.cell? ⟨PB, 2, none⟩ = some (.slice D2 i2 l2)) (st := 9) (by kernel_rfl) ⟨q0, q1, q2⟩ (fun hHeld => ?_);refine utk 0 18 ?_;refine utf 1 19 ?_;refine utf 2 20 ?_;refine utf 3 21 ?_;refine utf 4 22 ?_;refine utk 5 23 ?_;refine utf 6 24 ?_;refine utf 7 25 ?_;refine ur 8 rfl (by kernel_rfl) (fun K hK => ?_);go_simp;go_at_call 131;have hC := spec_neJoin _ _ _ n' j jw wr.drew ((HNB.out.k.reads (HQN.out.made.i64 (by omega) (by omega))).up (Below.refl _ _).drew) (HQN.out.made.small (by omega) (by omega)) (by rw [HLN.out]; omega) (by rw [HLN.out]; omega);rw [HEK.out.1, HEK.out.2.1, HEK.out.2.2] at hC;refine hC.mono ?_;clear hC;rintro e w8 ⟨val8, rfl, hk8, hb8'⟩;have hb8 : Below wr.heap.size wr w8 := (Below.refl _ _).drew.trans hb8';replace hk8 : NetK w8 wr.heap.size val8 (joinN n' j jw) := hk8;obtain ⟨ge8, ce8, x0⟩ := own_slN (hk8.own .e trivial);obtain ⟨E1, f1, x1⟩ := own_slN (hk8.own .i trivial);obtain ⟨E2, f2, x2⟩ := own_slN (hk8.own .n trivial);have HE8 := Lib.hid (And.intro x0 (And.intro x1 x2));rw [x0, x1, x2];clear x0 x1 x2;generalize (rowN (joinN n' j jw) val8 .e).len = j0 at HE8 ⊢;generalize (rowN (joinN n' j jw) val8 .i).len = j1 at HE8 ⊢;generalize (rowN (joinN n' j jw) val8 .n).len = j2 at HE8 ⊢;have H8 := Lib.hid (HA.out.up hb8 hbs);have HK8 := Lib.hid (OwnN.mono hk8 hbs);have hz8 := hb8.size;have HBX8 := Lib.hid ((hb8.block PB hPBr).trans HBX.out);clear hk8 hb8 hb8' q0 q1 q2 qf;obtain ⟨q0, q1, q2, qf⟩ := cells3 HBX8;refine hK.out (fun _ => ⟨q0, q1, q2⟩) ?_;clear hK K
   try simp only [Act.put, pu]
   refine ur 9 rfl (by kernel_rfl) (fun K hK => ?_);go_simp;obtain ⟨w9, hw9⟩ : ∃ z, z = (((w8.setCell ⟨PB, 0, none⟩ (.slice ge8 j0 ce8)).setCell ⟨PB, 1, none⟩ (.slice E1 j1 f1)).setCell ⟨PB, 2, none⟩ (.slice E2 j2 f2)) := ⟨_, rfl⟩
   rw [← hw9];have H9 := Lib.hid (H8.out.put (Q' := fun n => RingN n n0 (j + 1)) HK8.out HTJ.out (by omega) HE8.out.1 HE8.out.2.1 HE8.out.2.2);rw [← hw9] at H9;clear hw9 q0 q1 q2 qf;refine hK.out (fun h' => till_no h' (by kernel_rfl)) ?_;clear hK K
   try simp only [Act.put, pu]
   refine wpTill_done (by kernel_rfl) ?_ _;go_wp2_with fail;go_roundw
   case rel => exact ⟨j + 1, by omega, by go_num, H9.out⟩
   case measure => simp [intOf]; omega
  ·
   obtain rfl : j = n0 := by omega
   have hjj : ((j : Int) < (j : Int)) = False := eq_false (by omega);clear q0 q1 q2 qf;go_wp2_with fail;refine (cur_one P _ cv _ wr HA.out.cur (by omega)).mono ?_;rintro e w2' ⟨b1, rfl, hc2, hg2⟩;have H2 := Lib.hid (HA.out.draw hc2 hg2 hbs);have hPPB : PB ≠ P := by omega
   have hzg := hg2.size;have HBX2 := Lib.hid ((hg2.block PB hPBr (fun e => hPPB (Option.some.inj e))).trans HBX.out);have HNB2 := Lib.hid (HNB.out.drawn hg2 hP1 (by omega));obtain ⟨q0, q1, q2, qf⟩ := cells3 HBX2;clear hc2 hg2;cases b1 with
   | true =>
    have HRZ := Lib.hid H2.out.res;obtain ⟨p0, p1, p2, pf⟩ := cells3 HRZ;obtain ⟨we, hwe, HE, hge'⟩ := set3 HRZ (.slice (some ⟨ge', 0, none⟩) j ce') (.slice D1 i1 l1) (.slice D2 i2 l2);have HWE := Lib.hid hwe;have hKz := OwnN.mono (NetK.past HNB2.out.k HRZ.out no_tyN_net hge') (show w.heap.size ≤ w1.heap.size by omega);have hCz : CurR we P cv (m + 100000) := H2.out.cur.keep (by omega) fun b hb' => hge'.block b (by omega) (fun e => by have e' : b = PR := Option.some.inj e; omega)
    have hBz : Bp w.heap.size P w we := (Bp.below hb1).trans ((H2.out.bp.mono (by omega)).trans (Bp.other hge' (by omega) hPRl.1));have HFZ := Lib.hid (And.intro hKz (And.intro hCz hBz));clear hwe hge' hKz hCz hBz;go_wp2_with fail;rw [← HWE.out];obtain ⟨z0, z1, z2, -⟩ := cells3 HE;exact bodyPost_ret (v := .agg #[.slice (some ⟨ge', 0, none⟩) j ce', .slice D1 i1 l1, .slice D2 i2 l2]) (by simp [results, Tryz.results126, go_sem, z0, z1, z2]) rfl ⟨n', val', by rw [HEK.out.1, HEK.out.2.1, HEK.out.2.2], ⟨j, hN1.1, hN1.2, HQN.out.made⟩, HFZ.out.1, HFZ.out.2.1, HFZ.out.2.2⟩
   | false =>
    go_wp2_with fail;have hC := cur_mixed P (m + 2 + 2) cv w1.heap.size j 2 n' val' w2' H2.out.cur (by omega) HNB2.out.k (by omega) hP1 HQN.out.made (by omega) (by omega) (by omega);rw [HEK.out.1, HEK.out.2.1, HEK.out.2.2] at hC;refine hC.mono ?_;clear hC q0 q1 q2 qf;rintro e w8 ⟨n8, val8, rfl, hQ8, hk8, hc8, hb8⟩;obtain ⟨Z0, l0, ez0⟩ := own_slN (hk8.own .e trivial);obtain ⟨Z1, y1, ez1⟩ := own_slN (hk8.own .i trivial);obtain ⟨Z2, y2, ez2⟩ := own_slN (hk8.own .n trivial);have HEZ := Lib.hid (And.intro ez0 (And.intro ez1 ez2));rw [ez0, ez1, ez2];clear ez0 ez1 ez2;generalize (rowN n8 val8 .e).len = s0 at HEZ ⊢;generalize (rowN n8 val8 .i).len = s1 at HEZ ⊢;generalize (rowN n8 val8 .n).len = s2 at HEZ ⊢;have HRZ := Lib.hid ((hb8.block PR (by omega) (by omega)).trans H2.out.res);obtain ⟨p0, p1, p2, pf⟩ := cells3 HRZ;obtain ⟨we, hwe, HE, hge'⟩ := set3 HRZ (.slice Z0 s0 l0) (.slice Z1 s1 y1) (.slice Z2 s2 y2);have HWE := Lib.hid hwe;have hz8 := hb8.size;have hKz := OwnN.mono (NetK.past hk8 HRZ.out no_tyN_net hge') (show w.heap.size ≤ w1.heap.size by omega);have hCz : CurR we P cv (m + 100000) := hc8.keep (by omega) fun b hb' => hge'.block b (by omega) (fun e => by have e' : b = PR := Option.some.inj e; omega)
    have hBz : Bp w.heap.size P w we := (Bp.below hb1).trans (((H2.out.bp.trans hb8).mono (by omega)).trans (Bp.other hge' (by omega) hPRl.1));have HFZ := Lib.hid (And.intro hKz (And.intro hCz hBz));have HQ8 := Lib.hid (show ∃ N, 1 ≤ N ∧ N ≤ most ∧ MadeN n8 N 2 from ⟨j, hN1.1, hN1.2, hQ8⟩);clear hwe hge' hKz hCz hBz hk8 hc8 hb8 hQ8;go_wp2_with fail;rw [← HWE.out];obtain ⟨z0, z1, z2, -⟩ := cells3 HE;exact bodyPost_ret (v := .agg #[.slice Z0 s0 l0, .slice Z1 s1 y1, .slice Z2 s2 y2]) (by simp [results, Tryz.results126, go_sem, z0, z1, z2]) rfl ⟨n8, val8, by rw [HEZ.out.1, HEZ.out.2.1, HEZ.out.2.2], HQ8.out, HFZ.out.1, HFZ.out.2.1, HFZ.out.2.2⟩
end Go.Proofs.YtdghoienjegffaaGreat
namespace Go.Proofs.YtdghoienjegffaaGreat
open Go.RowKit
set_option linter.all false
theorem run_appendInts (w : World) (base : Nat) (v u : Value) (xs ys : List Int) (h : w.ownsRow base 3 1 v xs.length (xs.map intV)) (hu : IntsR w w.heap.size u ys) (hl : xs.length ≤ 100000) (hl2 : ys.length ≤ 100000) (hbase : base ≤ w.heap.size) :
  ∃ v' w', (Builtin.append_ #[25, 25] 25 #[v, u]).run Tryz.prog w = .ok v' w' ∧
   w'.ownsRow base 3 1 v' (xs ++ ys).length ((xs ++ ys).map intV) ∧ Below base w w' ∧ w.grownBy w' v.ownBlock ∧ (v'.ownBlock = v.ownBlock ∨ ∃ g, v'.ownBlock = some g ∧ w.heap.size ≤ g) := by
 obtain ⟨i, hi, hz0, hz1, hz2⟩ := info_parts intInfo;obtain ⟨A, c, rfl, h1, h2, h3⟩ := hu.open_;by_cases h0 : ys.length = 0
 ·
  obtain rfl : ys = [] := List.eq_nil_of_length_eq_zero h0;rw [List.append_nil];cases A with
  | none =>
   refine ⟨v, w, ?_, h, Below.refl _ _, ⟨rfl, rfl, rfl, Nat.le_refl _, fun _ _ _ => rfl⟩, .inl rfl⟩;rcases h.2 with ⟨e, e0⟩ | ⟨g, cap, cur, e, hb, hg, hn, hm, hs, ht⟩
   · subst e;simp [Builtin.append_, run_underlying Tryz.underlying25, sizeOf, typeInfo, hi, Builtin.lenOf, Builtin.firstCells, loadCells, loadCellsFrom, storeCells]
   · subst e;exact run_append_nil0 (P := Tryz.prog) _ 25 _ 3 i Tryz.underlying25 hi g _ cap c hn
  | some ad =>
   obtain ⟨v', w', hrun, h2', h3', _, h5⟩ := run_append_own_at (P := Tryz.prog) w base 25 25 3 i _ 1 8 Tryz.underlying25 hi hz0 hz1 hz2 rfl (by decide) v xs.length (xs.map intV) h ad 0 c [] rfl (fun j x hj => by simp at hj) (fun u hu => by cases hu) (by unfold maxLen; omega) (by omega) hbase;refine ⟨v', w', hrun, by simpa using h2', (Below.refl base w).grown h3' hbase (fun k hk => (World.ownsRow.lt h k hk).1), h3', ?_⟩;rcases h5 with h5 | h5
   · exact .inl h5
   · exact .inr ⟨_, h5, Nat.le_refl _⟩
 ·
  obtain ⟨ad, rfl, hb, hc⟩ := h3 (by omega);obtain ⟨v', w', hrun, h2', h3', _, h5⟩ := run_append_own_at (P := Tryz.prog) w base 25 25 3 i _ 1 8 Tryz.underlying25 hi hz0 hz1 hz2 rfl (by decide) v xs.length (xs.map intV) h ad ys.length c (ys.map intV) (by rw [List.length_map, Nat.mul_one])
   (fun j x hj => by
    rw [List.getElem?_map] at hj;cases e : ys[j]? with
    | none => rw [e] at hj; cases hj
    | some y => rw [e] at hj; rw [← Option.some.inj hj]; exact hc j y e)
   (fun u hu => by obtain ⟨y, _, rfl⟩ := List.mem_map.1 hu; rfl) (by unfold maxLen; omega) (by omega) hbase
  refine ⟨v', w', hrun, by rw [List.map_append, List.length_append]; exact h2', (Below.refl base w).grown h3' hbase (fun k hk => (World.ownsRow.lt h k hk).1), h3', ?_⟩;rcases h5 with h5 | h5
  · exact .inl h5
  · exact .inr ⟨_, h5, Nat.le_refl _⟩
def shiftE (k : Nat) (l : Ends) : Ends := l.map fun e => (e.1 + (k : Int), e.2)
def uniTo (a b : Net) (k : Nat) : Net := ⟨a.es ++ (b.es.take k).map (shiftE a.es.length), a.ids ++ b.ids, a.ins ++ b.ins⟩
theorem uniTo_all (a b : Net) : uniTo a b b.es.length = unionN a b := by unfold uniTo unionN; rw [List.take_of_length_le (Nat.le_refl _)]; rfl
theorem uniTo_zero (a b : Net) : uniTo a b 0 = { { a with ids := a.ids ++ b.ids } with ins := a.ins ++ b.ins } := by unfold uniTo; simp
theorem uniTo_succ {a b : Net} {k : Nat} {l : Ends} (h : b.es[k]? = some l) : { uniTo a b k with es := (uniTo a b k).es ++ [shiftE a.es.length l] } = uniTo a b (k + 1) := by obtain ⟨hk, rfl⟩ := List.getElem?_eq_some_iff.1 h;unfold uniTo;rw [List.take_succ_eq_append_getElem hk, List.map_append, ← List.append_assoc];rfl
def UnRel (a b : Net) (base PB : Nat) (w : World) (i : Value) (wr : World) : Prop := Below base w wr ∧ ∃ (k : Nat) (val : NKey → Value), k ≤ b.es.length ∧ i = .int .i64 k ∧ NetB wr base val (uniTo a b k) PB
def UiRel (K : Nat) (l : Ends) (w : World) (u i : Value) (wr : World) : Prop := Below w.heap.size w wr ∧ ∃ j : Nat, j ≤ l.length ∧ i = .int .i64 j ∧ wr.ownsRow w.heap.size 74 2 u j (endCells (shiftE K (l.take j)))
theorem shiftE_snoc {K j : Nat} {l : Ends} {c q : Nat} (h : l[j]? = some ((c : Int), (q : Int))) : endCells (shiftE K (l.take (j + 1))) = endCells (shiftE K (l.take j)) ++ [.int .i64 ((c : Int) + (K : Int)), .int .i64 (q : Int)] := by
  obtain ⟨hj, hl⟩ := List.getElem?_eq_some_iff.1 h;have e : shiftE K (l.take (j + 1)) = shiftE K (l.take j) ++ [((c : Int) + (K : Int), (q : Int))] := by unfold shiftE;rw [List.take_succ_eq_append_getElem hj, List.map_append, hl];simp
  rw [e, endCells_snoc];rfl
theorem run_appendEnd (w : World) (base : Nat) (v : Value) (n : Nat) (xs : List Value) (u0 u1 : Value) (hu0 : u0.oneCell' = true) (hu1 : u1.oneCell' = true) (hown : w.ownsRow base 74 2 v n xs) (hn : n ≤ 100000) (hbase : base ≤ w.heap.size) :
    ∃ v' w', (Builtin.append_ #[75, 75] 75 #[v, .slice (some ⟨w.heap.size, 0, none⟩) 1 1]).run Tryz.prog (w.alloc (.cells #[u0, u1] 74)) = .ok v' w' ∧ w'.ownsRow base 74 2 v' (n + 1) (xs ++ [u0, u1]) ∧ Below base w w' ∧ w.grownBy w' v.ownBlock := by
  obtain ⟨i, hi, hz0, hz1, hz2⟩ := info_parts endInfo;have hown1 := hown.alloc (.cells #[u0, u1] 74);have hnews : ∀ j u', ([u0, u1] : List Value)[j]? = some u' → (w.alloc (.cells #[u0, u1] 74)).cell? ((⟨w.heap.size, 0, none⟩ : Addr).add j) = some u' := by
    intro j u' hj
    match j, hj with
    | 0, hj =>
      obtain rfl : u0 = u' := by simpa using hj
      rw [show (⟨w.heap.size, 0, none⟩ : Addr).add 0 = ⟨w.heap.size, 0, none⟩ from rfl, World.cell?_alloc_at _ _ _ _ rfl]; rfl
    | 1, hj =>
      obtain rfl : u1 = u' := by simpa using hj
      rw [show (⟨w.heap.size, 0, none⟩ : Addr).add 1 = ⟨w.heap.size, 1, none⟩ from rfl, World.cell?_alloc_at _ _ _ _ rfl]; rfl
  obtain ⟨v', w', hrun, h2, h3, _, h5⟩ := run_append_own_at (P := Tryz.prog) (w.alloc (.cells #[u0, u1] 74)) base 75 75 74 i _ 2 16 Tryz.underlying75 hi hz0 hz1 hz2 rfl (by decide) v n xs hown1 ⟨w.heap.size, 0, none⟩ 1 1 [u0, u1] rfl hnews
    (by intro u' hu'
        rcases List.mem_cons.1 hu' with rfl | hu'
        · exact hu0
        · rw [List.mem_singleton.1 hu']; exact hu1) (by unfold maxLen; omega) (by omega) (by simp; omega)
  have hg : w.grownBy w' v.ownBlock := by have h0 := World.grownBy_alloc w (.cells #[u0, u1] 74) v.ownBlock;exact ⟨h3.os.trans h0.os, h3.tape.trans h0.tape, h3.output.trans h0.output, Nat.le_trans h0.size h3.size, fun k hk hne => (h3.block k (Nat.lt_of_lt_of_le hk h0.size) hne).trans (h0.block k hk hne)⟩
  exact ⟨v', w', hrun, h2, (Below.refl base w).grown hg hbase (fun k hk => (hown.lt k hk).1), hg⟩
theorem NetB.growIds {w w7 : World} {base P : Nat} {val : NKey → Value} {n : Net} (h : NetB w base val n P) {v7 : Value} {xs : List Int} (hg : w.grownBy w7 (val .i).ownBlock) (hn : w7.ownsRow base 3 1 v7 xs.length (xs.map intV)) (hb : v7.ownBlock = (val .i).ownBlock ∨ ∃ g, v7.ownBlock = some g ∧ w.heap.size ≤ g) :
    NetB (w7.setCell ⟨P, 1, none⟩ v7) base (updN val .i v7) { n with ids := xs } P := by
  have h1 := NetK.moreIds h.k hg hn hb;have hbx : w7.heap[P]? = some (.cells #[val .e, val .i, val .n] 27 (0, 0)) := (hg.block P h.lt (fun e => h.ne .i trivial e.symm)).trans h.box;obtain ⟨we, e1, h2, g1⟩ := set1 hbx 1 v7;rw [← e1];refine NetB.of (NetK.past h1 hbx no_tyN_net g1) ?_;rw [h2, updN_same, updN_ne _ _ (by simp), updN_ne _ _ (by simp)];rfl
theorem NetB.growIns {w w7 : World} {base P : Nat} {val : NKey → Value} {n : Net} (h : NetB w base val n P) {v7 : Value} {xs : List Int} (hg : w.grownBy w7 (val .n).ownBlock) (hn : w7.ownsRow base 3 1 v7 xs.length (xs.map intV)) (hb : v7.ownBlock = (val .n).ownBlock ∨ ∃ g, v7.ownBlock = some g ∧ w.heap.size ≤ g) :
    NetB (w7.setCell ⟨P, 2, none⟩ v7) base (updN val .n v7) { n with ins := xs } P := by
  have h1 := NetK.moreIns h.k hg hn hb;have hbx : w7.heap[P]? = some (.cells #[val .e, val .i, val .n] 27 (0, 0)) := (hg.block P h.lt (fun e => h.ne .n trivial e.symm)).trans h.box;obtain ⟨we, e1, h2, g1⟩ := set1 hbx 2 v7;rw [← e1];refine NetB.of (NetK.past h1 hbx no_tyN_net g1) ?_;rw [h2, updN_same, updN_ne _ _ (by simp), updN_ne _ _ (by simp)];rfl
set_option maxRecDepth 100000 in
set_option maxHeartbeats 4000000 in
theorem spec_neUnion (ae ai an be bi bn : Value) (a b : Net) (N M d : Nat) (w : World) (hna : NetR w w.heap.size ae ai an a) (hnb : NetR w w.heap.size be bi bn b) (ha : MadeN a N d) (hb : MadeN b M d) (hN : N ≤ 200) (hM : M ≤ 200) (hd : d ≤ 200) :
  Calls Tryz.prog 157 #[.agg #[ae, ai, an], .agg #[be, bi, bn]] w fun e w' => ∃ val, e = .returned (.agg #[val .e, val .i, val .n]) ∧ NetK w' w.heap.size val (unionN a b) ∧ Below w.heap.size w w' := by
 have HA := Lib.hid ha;have HBN := Lib.hid hb;have HNA := Lib.hid hna;have HNB := Lib.hid hnb;obtain ⟨A1, c1, rfl, hc1, hM1, hr1⟩ := hnb.e;obtain ⟨-, ⟨A2, m2, c2, rfl⟩, A3, m3, c3, rfl⟩ := hnb.slices;obtain ⟨A4, c4, rfl, -⟩ := hna.e;obtain ⟨-, ⟨A5, m5, c5, rfl⟩, A6, m6, c6, rfl⟩ := hna.slices;unfold maxLen at hM1;have hla := ha.len;have hlb := hb.len;have HR1 := Lib.hid hr1;clear hna hnb ha hb hr1;rw [hlb] at hc1 HR1 ⊢;have HLB := Lib.hid hlb;have HLA := Lib.hid hla;rw [hla];clear hlb hla;obtain ⟨w0, hw0, hb0, HDA, hz0, HS0⟩ := box3 w (.slice A4 N c4) (.slice A5 m5 c5) (.slice A6 m6 c6) 27;obtain ⟨w1, hw1, hb1, HDB, hz1, HS1⟩ := box3 w0 (.slice A1 M c1) (.slice A2 m2 c2) (.slice A3 m3 c3) 27;obtain ⟨w2, hw2, hb2, HQ, hz2, HS2⟩ := box3 w1 (.slice none 0 0) (.slice none 0 0) (.slice none 0 0) 27;have HW2 := Lib.hid (show w2 = ((w.alloc (.cells #[.slice A4 N c4, .slice A5 m5 c5, .slice A6 m6 c6] 27)).alloc (.cells #[.slice A1 M c1, .slice A2 m2 c2, .slice A3 m3 c3] 27)).alloc (.cells #[.slice none 0 0, .slice none 0 0, .slice none 0 0] 27) by rw [hw2, hw1, hw0]);obtain ⟨P1, hP1⟩ : ∃ z, z = w0.heap.size := ⟨_, rfl⟩
 obtain ⟨P2, hP2⟩ : ∃ z, z = w1.heap.size := ⟨_, rfl⟩
 have HP1 := Lib.hid (show w.heap.size + 1 = P1 by rw [hP1, HS0.out]);have HP2 := Lib.hid (show w.heap.size + 1 + 1 = P2 by rw [hP2, HS1.out, HS0.out]);rw [← hP1] at HDB hz1;rw [← hP2] at HQ hz2;have HDA2 := bk (bk HDA hb1) hb2;have HDB2 := bk HDB hb2;have hB := bl_trans (bl_trans hb0 hb1) hb2;have hPl : w.heap.size < P1 ∧ P1 < P2 := by rw [← HP1.out, ← HP2.out]; omega
 have hzw2 : w.heap.size < w2.heap.size := by omega
 obtain ⟨q0, q1, q2, qf⟩ := cells3 HDA2;have eq0 := q0;have eq1 := q1;have eq2 := q2;rw [HW2.out] at eq0 eq1 eq2;clear hw0 hw1 hw2 hP1 hP2;go_enter Tryz.func157, Tryz.ntmps157;go_wp2_with fail;rw [HP2.out, HP1.out, ← HW2.out];clear eq0 eq1 eq2 q0 q1 q2 qf;have hC := spec_neOwn _ _ _ a w2 (HNA.out.up hB) (HA.out.small (by omega) (by omega));rw [HLA.out] at hC;refine hC.mono ?_;clear hC;rintro e w3 ⟨val, rfl, hk3, hb3⟩;obtain ⟨base, hbase⟩ : ∃ z, z = w2.heap.size := ⟨_, rfl⟩
 rw [← hbase] at hk3;have hbl : base ≤ w3.heap.size ∧ w2.heap.size ≤ base ∧ base ≤ w2.heap.size := by have := hb3.size; omega
 clear hbase;obtain ⟨ge, ce, x0⟩ := own_slN (hk3.own .e trivial);obtain ⟨C1, k1, x1⟩ := own_slN (hk3.own .i trivial);obtain ⟨C2, k2, x2⟩ := own_slN (hk3.own .n trivial);have HV := Lib.hid (And.intro x0 (And.intro x1 x2));rw [x0, x1, x2];clear x0 x1 x2;generalize (rowN a val .e).len = n0 at HV ⊢;generalize (rowN a val .i).len = n1 at HV ⊢;generalize (rowN a val .n).len = n2 at HV ⊢;obtain ⟨w4, hw4, hb4, HB, hz4, HS4⟩ := box3 w3 (.slice ge n0 ce) (.slice C1 n1 k1) (.slice C2 n2 k2) 27;obtain ⟨PB, hPB⟩ : ∃ z, z = w3.heap.size := ⟨_, rfl⟩
 have HPB := Lib.hid hPB;have hPBl : w3.heap.size ≤ PB ∧ PB ≤ w3.heap.size := by omega
 rw [← hPB] at HB hz4;have HW4 := Lib.hid hw4;have H4 := Lib.hid (show NetB w4 base val a PB from NetB.of (hk3.up hb4) (by rw [HV.out.1, HV.out.2.1, HV.out.2.2]; exact HB.out));have hb34 := bl_trans hb3 hb4;have HDB4 := bk HDB2 hb34;have HNB4 := Lib.hid ((HNB.out.up hB).up hb34);obtain ⟨va, wa, hra, hoa, hba, hga, hta⟩ := run_appendInts w4 base (.slice C1 n1 k1) (.slice A2 m2 c2) a.ids b.ids (by have h1 := H4.out.k.own .i trivial; rw [HV.out.2.1] at h1; exact h1) HNB4.out.i (by rw [HA.out.ids]; simp) (by rw [HBN.out.ids]; simp) (by have := hb4.size; omega);obtain ⟨LI, hLI⟩ : ∃ z, z = (a.ids ++ b.ids).length := ⟨_, rfl⟩
 obtain ⟨Aa, ca, eka⟩ := own_slN hoa;rw [← hLI] at eka;clear hLI;subst eka;have HRA := Lib.hid hra;have HI4 := Lib.hid (H4.out.growIds (by rw [HV.out.2.1]; exact hga) hoa (by rw [HV.out.2.1]; exact hta));have hPBw : PB < w4.heap.size := H4.out.lt;have hPBne : (Value.slice C1 n1 k1).ownBlock ≠ some PB := by have h1 := H4.out.ne .i trivial; rw [HV.out.2.1] at h1; exact h1
 have HBa := Lib.hid ((hga.block PB hPBw (fun e => hPBne e.symm)).trans HB.out);obtain ⟨w5, hw5⟩ : ∃ z, z = wa.setCell ⟨PB, 1, none⟩ (.slice Aa LI ca) := ⟨_, rfl⟩
 rw [← hw5] at HI4;have HW5 := Lib.hid hw5;have hb45 : Below w2.heap.size w4 w5 := by rw [hw5]; exact ((hba.mono hbl.2.1).setCell (p := ⟨PB, 1, none⟩) (by show w2.heap.size ≤ PB; omega) _)
 have HB5 := Lib.hid (show w5.heap[PB]? = some (.cells #[.slice ge n0 ce, .slice Aa LI ca, .slice C2 n2 k2] 27 (0, 0)) by
  obtain ⟨we, e1, h1, g1⟩ := set1 HBa.out 1 (.slice Aa LI ca)
  rw [hw5, ← e1]; simpa using h1)
 have HDB5 := Lib.hid ((hb45.block P1 (by omega)).trans HDB4.out);have hzz4 := hb4.size;have hzz5 := hb45.size;have HNB5 := Lib.hid (((HNB.out.up hB).up hb3).up hb4 |>.i);have hb35 : Below w2.heap.size w2 w5 := (hb34).trans hb45;have HNB5 := Lib.hid ((HNB.out.up hB).up hb35);obtain ⟨vb, wb, hrb, hob, hbb, hgb, htb⟩ := run_appendInts w5 base (.slice C2 n2 k2) (.slice A3 m3 c3) a.ins b.ins (by have h1 := HI4.out.k.own .n trivial; rw [updN_ne _ _ (by simp), HV.out.2.2] at h1; exact h1) HNB5.out.n (by rw [HA.out.ins]; omega) (by rw [HBN.out.ins]; omega) (by omega);obtain ⟨LN, hLN⟩ : ∃ z, z = (a.ins ++ b.ins).length := ⟨_, rfl⟩
 obtain ⟨Ab, cb, ekb⟩ := own_slN hob;rw [← hLN] at ekb;clear hLN;subst ekb;have HRB := Lib.hid hrb;have HI5 := Lib.hid (HI4.out.growIns (by rw [updN_ne _ _ (by simp), HV.out.2.2]; exact hgb) hob (by rw [updN_ne _ _ (by simp), HV.out.2.2]; exact htb));have hPBne2 : (Value.slice C2 n2 k2).ownBlock ≠ some PB := by have h1 := H4.out.ne .n trivial; rw [HV.out.2.2] at h1; exact h1
 have HBb := Lib.hid ((hgb.block PB (by omega) (fun e => hPBne2 e.symm)).trans HB5.out);obtain ⟨w6, hw6⟩ : ∃ z, z = wb.setCell ⟨PB, 2, none⟩ (.slice Ab LN cb) := ⟨_, rfl⟩
 rw [← hw6] at HI5;have HW6 := Lib.hid hw6;have hb56 : Below w2.heap.size w5 w6 := by rw [hw6]; exact ((hbb.mono hbl.2.1).setCell (p := ⟨PB, 2, none⟩) (by show w2.heap.size ≤ PB; omega) _)
 have hb26 := hb35.trans hb56;have HDB6 := bk HDB2 hb26;obtain ⟨val6, hval6⟩ : ∃ z, z = updN (updN val .i (.slice Aa LI ca)) .n (.slice Ab LN cb) := ⟨_, rfl⟩
 rw [← hval6, ← uniTo_zero] at HI5;obtain ⟨y0, y1, y2, yf⟩ := cells3 HB;obtain ⟨r0, r1, r2, rf⟩ := cells3 HDB4;have ey1 := y1;have er1 := r1;rw [hw4] at ey1 er1;rw [hPB] at ey1;clear hra hrb hoa hob hga hgb hta htb hw5 hw6 hval6 hba hbb hw4 hPB hk3;obtain ⟨a0, a1, a2, af⟩ := cells3 HBa;obtain ⟨b0, b1, b2, bf⟩ := cells3 HB5;obtain ⟨d0, d1, d2, df⟩ := cells3 HDB5;rw [HW5.out] at b0 b1 b2 d0 d1 d2;obtain ⟨e0, e1, e2, ef⟩ := cells3 HBb;obtain ⟨g0, g1, g2, gf⟩ := cells3 HDB6;rw [HW6.out] at g0;go_wp2_with (at_builtin; (try rw [← HW4.out]); (try rw [← HPB.out]); (try rw [← HW5.out]); first | (refine Lib.wpList_append_run _ rfl _ _ _ _ rfl _ _ rfl rfl _ _ HRA.out ?_) | (refine Lib.wpList_append_run _ rfl _ _ _ _ rfl _ _ rfl rfl _ _ HRB.out ?_))
 (try rw [← HW6.out])
 have hz6 : base ≤ w6.heap.size := by have := hb56.size; omega
 clear a0 a1 a2 af b0 b1 b2 bf d0 d1 d2 df e0 e1 e2 ef g0 g1 g2 gf HRA HRB HBa HB5 HDB5 HBb;go_loopw [28] (fun i wr => UnRel a b base PB w6 i wr) (fun i _ => M - (intOf i).toNat)
 case atStart => exact ⟨Below.refl _ _, 0, val6, Nat.zero_le _, rfl, HI5.out⟩
 case round =>
  obtain ⟨hbr, k, vk, hkM, rfl, hnk⟩ := hrel;rw [HLB.out] at hkM;have HK := Lib.hid hnk;have hzr := hbr.size;have hBr : Below w.heap.size w wr := (hB.trans (hb26.mono (by omega))).trans (hbr.mono (by omega));have hB2r : Below w2.heap.size w2 wr := hb26.trans (hbr.mono (by omega));clear hnk;by_cases hlt : k < M
  ·
   obtain ⟨l, hl⟩ : ∃ y, b.es[k]? = some y := ⟨_, List.getElem?_eq_getElem (by rw [HLB.out]; exact hlt)⟩
   have hlr : rowAt b k = l := rowAt_eq hl;have hl6 : l.length ≤ 200 := by rw [← hlr]; exact Nat.le_trans (HBN.out.deg k) hd
   obtain ⟨ad1, rfl, ha1, hrow1⟩ := HR1.out (by omega);obtain ⟨u1, hu1, hz1'⟩ := hrow1 k l hl;obtain ⟨B1, d1, rfl, hd1, hD1, -, hec⟩ := hz1';have c1k := (hBr.cell (p := ad1.add k) (by rw [block_add]; exact ha1)).trans hu1;have HEC := Lib.hid hec;have HL := Lib.hid hl;have HLR := Lib.hid hlr;unfold maxLen at hD1;clear hl hu1 hrow1 hec hlr;have hki : (k : Int) < (M : Int) := by omega
   obtain ⟨SZ, hSZ⟩ : ∃ z, z = wr.heap.size := ⟨_, rfl⟩
   have HSZ := Lib.hid hSZ;have hSZl : w6.heap.size ≤ SZ := by omega
   clear hSZ;go_wp2_with fail;clear c1k;go_loopw [8, 34] (fun u i wr' => UiRel N l wr u i wr') (fun _ i _ => l.length - (intOf i).toNat)
   case atStart => exact ⟨Below.refl _ _, 0, Nat.zero_le _, rfl, World.ownsRow_nil _ _ _ _⟩
   case round =>
    obtain ⟨hbi, j, hj, rfl, hoj⟩ := hrel;rw [← HSZ.out] at hoj;obtain ⟨Au, cu, rfl⟩ := own_slN hoj;have HOJ := Lib.hid hoj;have hzi : SZ ≤ wr.heap.size := by rw [HSZ.out]; exact hbi.size
    clear hoj;by_cases hltj : j < l.length
    ·
     obtain ⟨⟨ea, eq⟩, hej⟩ : ∃ y, l[j]? = some y := ⟨_, List.getElem?_eq_getElem hltj⟩
     obtain ⟨c, q, hcq, hcM, hqd⟩ := HBN.out.ok k _ (by rw [HLR.out]; exact List.mem_of_getElem? hej);obtain ⟨rfl, rfl⟩ : ea = (c : Int) ∧ eq = (q : Int) := by simpa using hcq
     obtain ⟨eb, eo, rfl, heb, hcells⟩ := HEC.out (by omega);obtain ⟨k0, k1⟩ := hcells j _ hej;have hBi := bl_trans hBr hbi;have hB2i := bl_trans hB2r hbi;replace k0 := (hBi.cell (p := ⟨eb, eo + j * 2, none⟩) (by exact heb)).trans k0;replace k1 := (hBi.cell (p := ⟨eb, eo + j * 2 + 1, none⟩) (by exact heb)).trans k1;have HSN := Lib.hid (shiftE_snoc (K := N) hej);rw [HLB.out] at hcM;obtain ⟨wa', hwa', hba', HE', hza', HSA'⟩ := box2 wr (.int .i64 (c : Int)) (.int .i64 (q : Int)) 74;have HDA' := bk HDA2 (bl_trans hB2i hba');have hza2 := hba'.size;obtain ⟨v7, w7, hrun, ho7, hb7, -⟩ := run_appendEnd wa' SZ (.slice Au j cu) j _ (.int .i64 ((c : Int) + (N : Int))) (.int .i64 (q : Int)) rfl rfl (own_upN HOJ.out hba') (by omega) (by omega);rw [← HSN.out] at ho7;rw [HSA'.out] at hrun;obtain ⟨A7, c7, rfl⟩ := own_slN ho7;have HRUN := Lib.hid hrun;have HO7 := Lib.hid ho7;have hb77 : Below SZ wr w7 := (hba'.mono hzi).trans hb7;have HB7 := Lib.hid (show Below SZ _ w7 from (by rw [HSZ.out]; exact hbi : Below SZ _ wr).trans hb77);have hwr : IntKind.i64.wrap ((c : Int) + (N : Int)) = (c : Int) + (N : Int) := IntWalk.i64_in _ (by omega);have hjl : (j : Int) < (l.length : Int) := by omega
     obtain ⟨p0, p1, p2, pf⟩ := cells3 HDA';obtain ⟨P9, hP9⟩ : ∃ z, z = wr.heap.size := ⟨_, rfl⟩
     have HP9 := Lib.hid hP9;have HWA' := Lib.hid hwa';obtain ⟨t0, t1, tf⟩ := cells2 HE';rw [hwa'] at p0 t0 t1;clear hwa' hrun ho7 hb7 hP9;go_wp2_with (at_builtin; (try rw [← HWA'.out]); refine Lib.wpList_append_run _ rfl _ _ _ _ rfl _ _ rfl rfl _ _ HRUN.out ?_)
     clear p0 p1 p2 pf t0 t1 tf k0 k1;go_roundw
     case rel => exact ⟨by rw [← HSZ.out]; exact HB7.out, j + 1, by omega, by go_num, by rw [← HSZ.out]; exact HO7.out⟩
     case measure => simp [intOf]; omega
    ·
     obtain rfl : j = l.length := by omega
     have hjj : ((l.length : Int) < (l.length : Int)) = False := eq_false (by omega);have HUS := Lib.hid (uniTo_succ (a := a) HL.out);have HTK := Lib.hid (show l.take l.length = l from List.take_of_length_le (Nat.le_refl _));have HLS := Lib.hid (show (shiftE N l).length = l.length by unfold shiftE; rw [List.length_map]);have hoe := HK.out.k.own .e trivial;obtain ⟨LK, hLK⟩ : ∃ z, z = (uniTo a b k).es.length := ⟨_, rfl⟩
     replace hoe := own_upN (show World.ownsRow _ base 75 1 (vk .e) (uniTo a b k).es.length (valsN vk (uniTo a b k).es.length) from hoe) hbi;rw [← hLK] at hoe;have hLK4 : LK ≤ 400 := by
      have h1 : (uniTo a b k).es.length = a.es.length + (b.es.take k).length := by unfold uniTo; simp
      rw [hLK, h1, List.length_take];have := HLA.out;omega
     obtain ⟨Ae, ce2, eke⟩ := own_slN hoe;have HEE := Lib.hid eke;rw [eke] at hoe;have HOE := Lib.hid hoe;have HLK := Lib.hid hLK;have hPBr : PB < _ := HK.out.lt;have hbxr := (hbi.block PB hPBr).trans HK.out.box;have HBXR := Lib.hid hbxr;have q0 : wr.cell? ⟨PB, 0, none⟩ = some (.slice Ae LK ce2) := by rw [cell_of_row _ _ 0 _ _ (0, 0) hbxr, ← eke]; rfl
     have f0 : wr.frozen? ⟨PB, 0, none⟩ = false := frozen_of_row _ _ 0 _ _ hbxr;have hnf : (Value.slice Ae LK ce2).ownBlock ≠ some PB := by have h1 := HK.out.ne .e trivial; rw [eke] at h1; exact h1
     have hPBw' : PB < wr.heap.size := by have := hbi.size; omega
     have HBI := Lib.hid hbi;have hbz : base ≤ wr.heap.size := by omega
     clear hoe eke hLK hbxr hbi;go_wp2_with (at_builtin; refine wpList_append1 wr rfl (.tmp 52) (.tmp 54) 24 rfl base 75 _ 24 Tryz.underlying24 rowInfo rfl _ _ _ rfl _ rfl rfl HOE.out (by unfold maxLen; omega) (by omega) hbz ?_; intro v8 w8 hown8 hbl8 hgr8 hlt8 hob8; obtain ⟨A8, c8, rfl⟩ := own_slN hown8; have q0' := (World.cell?_of_block (a := ⟨PB, 0, none⟩) (hgr8.block PB hPBw' (fun e => hnf e.symm))).trans q0; have f0' := (World.frozen?_of_block (a := ⟨PB, 0, none⟩) (hgr8.block PB hPBw' (fun e => hnf e.symm))).trans f0)
     obtain ⟨w9, hw9⟩ : ∃ z, z = w8.setCell ⟨PB, 0, none⟩ (.slice A8 (LK + 1) c8) := ⟨_, rfl⟩
     rw [← hw9];have hoj' : wr.ownsRow SZ 74 2 (.slice Au l.length cu) (shiftE N l).length (endCells (shiftE N l)) := by have h1 := HOJ.out;rw [HTK.out] at h1;rw [HLS.out];exact h1
     rw [HSZ.out] at hoj';obtain ⟨val9, hk9⟩ := HK.out.addRow HBI.out (by have := HK.out.lt; omega) hoj' (w2 := w8) (v2 := .slice A8 (LK + 1) c8) (by rw [HEE.out]; exact hgr8) (by rw [← HLK.out]; exact hown8) (by rw [HEE.out]; exact hob8.imp id fun ⟨g, h1, h2, _⟩ => ⟨g, h1, h2⟩);rw [← hw9, show ({ uniTo a b k with es := (uniTo a b k).es ++ [shiftE N l] } : Net) = uniTo a b (k + 1) by have h1 := HUS.out; rw [HLA.out] at h1; exact h1] at hk9;have HK9 := Lib.hid hk9
     have HB9 := Lib.hid (show Below base w6 w9 by
      rw [hw9]
      exact ((hbr.trans (HBI.out.mono (by have := hbr.size; omega))).trans hbl8).setCell (p := ⟨PB, 0, none⟩) (by show base ≤ PB; omega) _)
     clear hk9 hw9 hoj' hown8 hbl8 hgr8 hob8 q0 f0 q0' f0';go_wp2_with fail;go_roundw
     case rel => exact ⟨HB9.out, k + 1, val9, by rw [HLB.out]; omega, by go_num, HK9.out⟩
     case measure => simp [intOf]; omega
  ·
   obtain rfl : k = M := by omega
   have hkk : ((k : Int) < (k : Int)) = False := eq_false (by omega);have HXE := Lib.hid (show uniTo a b k = unionN a b by rw [← HLB.out]; exact uniTo_all a b);obtain ⟨X0, x0, ek0⟩ := own_slN (HK.out.k.own .e trivial);obtain ⟨X1, x1, ek1⟩ := own_slN (HK.out.k.own .i trivial);obtain ⟨X2, x2, ek2⟩ := own_slN (HK.out.k.own .n trivial);have hbx := HK.out.box;rw [ek0, ek1, ek2] at hbx;have HVK := Lib.hid (And.intro ek0 (And.intro ek1 ek2));clear ek0 ek1 ek2;generalize (rowN (uniTo a b k) vk .e).len = s0 at HVK hbx;generalize (rowN (uniTo a b k) vk .i).len = s1 at HVK hbx;generalize (rowN (uniTo a b k) vk .n).len = s2 at HVK hbx;have HQr := bk HQ hB2r;obtain ⟨b0, b1, b2, bf⟩ := cells3 (Lib.hid hbx);obtain ⟨p0, p1, p2, pf⟩ := cells3 HQr;obtain ⟨we, hwe, HE, hge⟩ := set3 HQr (.slice X0 s0 x0) (.slice X1 s1 x1) (.slice X2 s2 x2);have HWE := Lib.hid hwe;clear hwe hbx;go_wp2_with fail;rw [← HWE.out];obtain ⟨z0, z1, z2, -⟩ := cells3 HE;have hBE : Below w.heap.size w we := Below.grown hBr hge (by have := hBr.size; omega) (fun k hk => by have e : P2 = k := Option.some.inj hk; omega);have hKE : NetK we w.heap.size vk (unionN a b) := by have h1 := NetK.past HK.out.k HQr.out no_tyN_net hge;rw [HXE.out] at h1;exact OwnN.mono h1 (by omega)
   exact bodyPost_ret (v := .agg #[.slice X0 s0 x0, .slice X1 s1 x1, .slice X2 s2 x2]) (by simp [results, Tryz.results157, go_sem, z0, z1, z2]) rfl ⟨vk, by rw [HVK.out.1, HVK.out.2.1, HVK.out.2.2], hKE, hBE⟩
end Go.Proofs.YtdghoienjegffaaGreat
