/-
  The draw ring. Condition: at most 100 nodes.
-/
import Derived.Test.YtdghoienjegffaaGreatQDrawSim
namespace Go.Proofs.YtdghoienjegffaaGreat
open Go.RowKit
set_option linter.all false
structure RingN (n : Net) (N j : Nat) : Prop where
  made : MadeN n N 2
  rest : j < N → (∀ u, j < u → degA n u = 0) ∧ (degA n j ≤ if j = 0 then 0 else 1) ∧ (0 < j → degA n 0 ≤ 1)
theorem RingN.start (N : Nat) : RingN (emptyN N) N 0 := by
  have h0 : ∀ u, degA (emptyN N) u = 0 := fun u => by unfold degA; rw [rowAt_empty]; rfl
  exact ⟨(made_empty N).more (by omega), fun _ => ⟨fun u _ => h0 u, by rw [h0]; exact Nat.zero_le _, fun _ => by rw [h0]; omega⟩⟩
theorem RingN.join {n : Net} {N j : Nat} (h : RingN n N j) (hj : j < N) : RingN (joinN n j ((j + 1) % N)) N (j + 1) := by
 have hl := h.made.len
 obtain ⟨r1, r2, r3⟩ := h.rest hj
 have hw : (j + 1) % N < N := Nat.mod_lt _ (by omega)
 have hd := degA_join (n := n) (v := j) (w := (j + 1) % N) (by omega) (by omega)
 by_cases hjN : j + 1 < N
 ·
  have e : (j + 1) % N = j + 1 := Nat.mod_eq_of_lt hjN
  rw [e] at hd ⊢
  have h1 := r1 (j + 1) (by omega)
  refine ⟨h.made.join hj hjN (fun u hu => ?_) (Nat.le_refl _), fun _ => ⟨fun u hu => ?_, ?_, fun _ => ?_⟩⟩
  ·
   rw [hd]
   rcases hu with rfl | rfl
   ·
    rw [if_pos rfl, if_neg (by omega)]; split at r2 <;> omega
   ·
    rw [if_neg (by omega), if_pos rfl]; omega
  ·
   rw [hd, if_neg (by omega), if_neg (by omega), r1 u (by omega)]
  ·
   rw [hd, if_neg (by omega), if_pos rfl, if_neg (by omega)]; omega
  ·
   rw [hd, if_neg (show ¬ 0 = j + 1 by omega)]
   by_cases h0 : 0 = j
   ·
    rw [if_pos h0]; subst h0; rw [if_pos rfl] at r2; omega
   ·
    rw [if_neg h0]; have := r3 (by omega); omega
 ·
  obtain rfl : N = j + 1 := by omega
  rw [Nat.mod_self] at hd ⊢
  refine ⟨h.made.join hj (by omega) (fun u hu => ?_) (Nat.le_refl _), fun hc => absurd hc (by omega)⟩
  rw [hd]
  by_cases h0 : j = 0
  ·
   subst h0
   rw [if_pos rfl] at r2
   rcases hu with rfl | rfl <;> rw [if_pos rfl] <;> omega
  ·
   rw [if_neg h0] at r2
   have := r3 (by omega)
   rcases hu with rfl | rfl
   ·
    rw [if_pos rfl, if_neg h0]; omega
   ·
    rw [if_neg (fun e => h0 e.symm), if_pos rfl]; omega
def RnRel (w : World) (P PB PR base : Nat) (cv : Value) (m N : Nat) (i : Value) (wr : World) : Prop := ∃ j : Nat, j ≤ N ∧ i = .int .i64 (j : Int) ∧ NAt w P PB PR base cv m (fun n => RingN n N j) wr
set_option maxRecDepth 100000 in
set_option maxHeartbeats 4000000 in
theorem cur_ring (P m most : Nat) (cv : Value) (w : World) (h : CurR w P cv m) (hm : m ≤ 500000000000000000) (h1 : 1 ≤ most) (h2 : most ≤ 100) :
  Calls Tryz.prog 126 #[.pointer (some ⟨P, 0, none⟩), .int .i64 (most : Int)] w (DrawnN w P cv (m + 100000) w.heap.size fun n => ∃ N, 1 ≤ N ∧ N ≤ most ∧ MadeN n N 2) := by
 have H := Lib.hid h
 have hP := h.lt
 clear h
 obtain ⟨w1, hw1, hb1, HQ, hz1, HS1⟩ := box3 w (.slice none 0 0) (.slice none 0 0) (.slice none 0 0) 27
 obtain ⟨PR, hPR⟩ : ∃ z, z = w.heap.size := ⟨_, rfl⟩
 have HPR := Lib.hid hPR
 have hPRl : w.heap.size ≤ PR ∧ PR ≤ w.heap.size := by omega
 rw [← hPR] at HQ
 have HW1 := Lib.hid hw1
 have hP1 : P < w1.heap.size := by omega
 have hPR1 : PR < w1.heap.size := by omega
 clear hw1 hPR
 go_enter Tryz.func126, Tryz.ntmps126
 go_wp2_with fail
 rw [← HW1.out, ← HPR.out]
 refine (cur_pick P m cv _ w1 (H.out.below hb1 hP) (by omega)).mono ?_
 rintro e w2 ⟨x, rfl, hx, hc2, hg2⟩
 have hxm : x < most := by omega
 have hwr : IntKind.i64.wrap (1 + (x : Int)) = ((1 + x : Nat) : Int) := by rw [IntWalk.i64_in _ (by omega)]; omega
 have hB2 : Bp w1.heap.size P w1 w2 := Bp.grown hg2 (Nat.le_refl _)
 have HQ2 := Lib.hid ((hg2.block PR (by omega) (fun e => by have e' : PR = P := Option.some.inj e; omega)).trans HQ.out)
 have HC2 := Lib.hid hc2
 have hz2 := hg2.size
 clear hx hc2 hg2
 obtain ⟨N, hN⟩ : ∃ z, z = 1 + x := ⟨_, rfl⟩
 rw [← hN] at hwr
 have hN1 : 1 ≤ N ∧ N ≤ most := by omega
 clear hN
 go_wp2_with fail
 refine (spec_neEmpty N w2 (by omega)).mono ?_
 rintro e w3 ⟨val, rfl, hk3, hb3⟩
 have hoe := hk3.own .e trivial
 replace hoe : w3.ownsRow w2.heap.size 75 1 (val .e) (List.replicate N ([] : Ends)).length (valsN val (List.replicate N ([] : Ends)).length) := hoe
 rw [List.length_replicate] at hoe
 obtain ⟨ge, ce, x0⟩ := own_slN (hk3.own .e trivial)
 obtain ⟨C1, k1, x1⟩ := own_slN (hk3.own .i trivial)
 obtain ⟨C2, k2, x2⟩ := own_slN (hk3.own .n trivial)
 have HV := Lib.hid (And.intro x0 (And.intro x1 x2))
 rw [x0, x1, x2]
 clear x0 x1 x2
 generalize (rowN (emptyN N) val .e).len = n0 at HV ⊢
 generalize (rowN (emptyN N) val .i).len = n1 at HV ⊢
 generalize (rowN (emptyN N) val .n).len = n2 at HV ⊢
 have hn0 : n0 = N := by
  rw [HV.out.1] at hoe
  rcases hoe.2 with ⟨e1, e2⟩ | ⟨g, cap, cur, e1, _⟩
  ·
   have e3 := (Value.slice.inj e1).2.1; rw [e3]; exact e2.symm
  ·
   exact (Value.slice.inj e1).2.1
 subst hn0
 obtain ⟨w4, hw4, hb4, HB, hz4, HS4⟩ := box3 w3 (.slice ge n0 ce) (.slice C1 n1 k1) (.slice C2 n2 k2) 27
 obtain ⟨PB, hPB⟩ : ∃ z, z = w3.heap.size := ⟨_, rfl⟩
 have HPB := Lib.hid hPB
 have hz3 := hb3.size
 have hPBl : w3.heap.size ≤ PB := by omega
 rw [← hPB] at HB hz4
 have HW4 := Lib.hid hw4
 have hb24 := bl_trans hb3 hb4
 have H4 := Lib.hid (show NAt w1 P PB PR w1.heap.size cv (m + 2) (fun n => RingN n n0 0) w4 from ⟨(HC2.out.below (hb24.mono (by omega : w1.heap.size ≤ w2.heap.size)) hP1), ⟨emptyN n0, val, RingN.start n0, NetB.of (OwnN.mono (hk3.up hb4) (by omega)) (by rw [HV.out.1, HV.out.2.1, HV.out.2.2]; exact HB.out)⟩, (hb24.block PR (by omega)).trans HQ2.out, hB2.trans (Bp.below (hb24.mono (by omega))), hP1, by omega, by omega, by omega⟩)
 obtain ⟨q0, q1, q2, qf⟩ := cells3 HB
 have eq0 := q0
 rw [hw4, hPB] at eq0
 clear hw4 hPB hk3 hoe hwr q1 q2 qf
 go_wp2_with fail
 rw [← HW4.out, ← HPB.out]
 clear q0 eq0
 go_loopw [15] (fun i wr => RnRel w1 P PB PR w1.heap.size cv (m + 2) n0 i wr) (fun i _ => n0 - (intOf i).toNat)
 case atStart => exact ⟨0, Nat.zero_le _, rfl, H4.out⟩
 case round =>
  obtain ⟨j, hjN, rfl, hat⟩ := hrel
  have HA := Lib.hid hat
  have hbs : w1.heap.size ≤ wr.heap.size := hat.bp.size
  clear hat
  obtain ⟨n', val', hQ, hnb⟩ := HA.out.net
  have hln := hQ.made.len
  obtain ⟨ge', ce', eke, -, -, -, -⟩ := hnb.k.outer (by omega)
  rw [hln] at eke
  obtain ⟨D1, l1, ek1⟩ := own_slN (hnb.k.own .i trivial)
  obtain ⟨D2, l2, ek2⟩ := own_slN (hnb.k.own .n trivial)
  have hbx := hnb.box
  rw [eke, ek1, ek2] at hbx
  have HEK := Lib.hid (And.intro eke (And.intro ek1 ek2))
  have HQN := Lib.hid hQ
  have HNB := Lib.hid hnb
  have HLN := Lib.hid hln
  have hge : ge' < wr.heap.size ∧ w1.heap.size ≤ ge' := by
   have h1 := (hnb.k.own .e trivial).lt ge' (by rw [eke]; rfl)
   exact ⟨h1.2, h1.1⟩
  have hPBr : PB < wr.heap.size := hnb.lt
  clear eke ek1 ek2 hQ hnb hln
  generalize (rowN n' val' .i).len = i1 at HEK hbx
  generalize (rowN n' val' .n).len = i2 at HEK hbx
  have HBX := Lib.hid hbx
  clear hbx
  obtain ⟨q0, q1, q2, qf⟩ := cells3 HBX
  by_cases hlt : j < n0
  ·
   have hji : (j : Int) < (n0 : Int) := by omega
   have hw1' : IntKind.i64.wrap ((j : Int) + 1) = (j : Int) + 1 := IntWalk.i64_in _ (by omega)
   have hn0' : (n0 = 0) = False := eq_false (by omega)
   have hn00 : ((n0 : Int) == 0) = false := by simpa using (show ¬ (n0 : Int) = 0 by omega)
   obtain ⟨jw, hjw⟩ : ∃ z, z = (j + 1) % n0 := ⟨_, rfl⟩
   have hjwN : jw < n0 := by rw [hjw]; exact Nat.mod_lt _ (by omega)
   have hmod : ((j : Int) + 1).tmod (n0 : Int) = (jw : Int) := by rw [hjw]; exact (Int.ofNat_tmod (j + 1) n0).symm
   have HJW := Lib.hid hjw
   have HTJ := Lib.hid (HQN.out.join hlt)
   rw [← hjw] at HTJ
   clear hjw
   go_wp2_with fail
   refine till_region (S := fun w' => w'.cell? ⟨PB, 0, none⟩ = some (.slice (some ⟨ge', 0, none⟩) n0 ce') ∧ w'.cell? ⟨PB, 1, none⟩ = some (.slice D1 i1 l1) ∧ w'.cell? ⟨PB, 2, none⟩ = some (.slice D2 i2 l2)) (st := 9) (by kernel_rfl) ⟨q0, q1, q2⟩ (fun hHeld => ?_)
   refine utk 0 18 ?_
   refine utf 1 19 ?_
   refine utf 2 20 ?_
   refine utf 3 21 ?_
   refine utf 4 22 ?_
   refine utk 5 23 ?_
   refine utf 6 24 ?_
   refine utf 7 25 ?_
   refine ur 8 rfl (by kernel_rfl) (fun K hK => ?_)
   go_simp
   go_at_call 131
   have hC := spec_neJoin _ _ _ n' j jw wr.drew ((HNB.out.k.reads (HQN.out.made.i64 (by omega) (by omega))).up (Below.refl _ _).drew) (HQN.out.made.small (by omega) (by omega)) (by rw [HLN.out]; omega) (by rw [HLN.out]; omega)
   rw [HEK.out.1, HEK.out.2.1, HEK.out.2.2] at hC
   refine hC.mono ?_
   clear hC
   rintro e w8 ⟨val8, rfl, hk8, hb8'⟩
   have hb8 : Below wr.heap.size wr w8 := (Below.refl _ _).drew.trans hb8'
   replace hk8 : NetK w8 wr.heap.size val8 (joinN n' j jw) := hk8
   obtain ⟨ge8, ce8, x0⟩ := own_slN (hk8.own .e trivial)
   obtain ⟨E1, f1, x1⟩ := own_slN (hk8.own .i trivial)
   obtain ⟨E2, f2, x2⟩ := own_slN (hk8.own .n trivial)
   have HE8 := Lib.hid (And.intro x0 (And.intro x1 x2))
   rw [x0, x1, x2]
   clear x0 x1 x2
   generalize (rowN (joinN n' j jw) val8 .e).len = j0 at HE8 ⊢
   generalize (rowN (joinN n' j jw) val8 .i).len = j1 at HE8 ⊢
   generalize (rowN (joinN n' j jw) val8 .n).len = j2 at HE8 ⊢
   have H8 := Lib.hid (HA.out.up hb8 hbs)
   have HK8 := Lib.hid (OwnN.mono hk8 hbs)
   have hz8 := hb8.size
   have HBX8 := Lib.hid ((hb8.block PB hPBr).trans HBX.out)
   clear hk8 hb8 hb8' q0 q1 q2 qf
   obtain ⟨q0, q1, q2, qf⟩ := cells3 HBX8
   refine hK.out (fun _ => ⟨q0, q1, q2⟩) ?_
   clear hK K
   try simp only [Act.put, pu]
   refine ur 9 rfl (by kernel_rfl) (fun K hK => ?_)
   go_simp
   obtain ⟨w9, hw9⟩ : ∃ z, z = (((w8.setCell ⟨PB, 0, none⟩ (.slice ge8 j0 ce8)).setCell ⟨PB, 1, none⟩ (.slice E1 j1 f1)).setCell ⟨PB, 2, none⟩ (.slice E2 j2 f2)) := ⟨_, rfl⟩
   rw [← hw9]
   have H9 := Lib.hid (H8.out.put (Q' := fun n => RingN n n0 (j + 1)) HK8.out HTJ.out (by omega) HE8.out.1 HE8.out.2.1 HE8.out.2.2)
   rw [← hw9] at H9
   clear hw9 q0 q1 q2 qf
   refine hK.out (fun h' => till_no h' (by kernel_rfl)) ?_
   clear hK K
   try simp only [Act.put, pu]
   refine wpTill_done (by kernel_rfl) ?_ _
   go_wp2_with fail
   go_roundw
   case rel => exact ⟨j + 1, by omega, by go_num, H9.out⟩
   case measure => simp [intOf]; omega
  ·
   obtain rfl : j = n0 := by omega
   have hjj : ((j : Int) < (j : Int)) = False := eq_false (by omega)
   clear q0 q1 q2 qf
   go_wp2_with fail
   refine (cur_one P _ cv _ wr HA.out.cur (by omega)).mono ?_
   rintro e w2' ⟨b1, rfl, hc2, hg2⟩
   have H2 := Lib.hid (HA.out.draw hc2 hg2 hbs)
   have hPPB : PB ≠ P := by omega
   have hzg := hg2.size
   have HBX2 := Lib.hid ((hg2.block PB hPBr (fun e => hPPB (Option.some.inj e))).trans HBX.out)
   have HNB2 := Lib.hid (HNB.out.drawn hg2 hP1 (by omega))
   obtain ⟨q0, q1, q2, qf⟩ := cells3 HBX2
   clear hc2 hg2
   cases b1 with
   | true =>
    have HRZ := Lib.hid H2.out.res
    obtain ⟨p0, p1, p2, pf⟩ := cells3 HRZ
    obtain ⟨we, hwe, HE, hge'⟩ := set3 HRZ (.slice (some ⟨ge', 0, none⟩) j ce') (.slice D1 i1 l1) (.slice D2 i2 l2)
    have HWE := Lib.hid hwe
    have hKz := OwnN.mono (NetK.past HNB2.out.k HRZ.out no_tyN_net hge') (show w.heap.size ≤ w1.heap.size by omega)
    have hCz : CurR we P cv (m + 100000) := H2.out.cur.keep (by omega) fun b hb' => hge'.block b (by omega) (fun e => by have e' : b = PR := Option.some.inj e; omega)
    have hBz : Bp w.heap.size P w we := (Bp.below hb1).trans ((H2.out.bp.mono (by omega)).trans (Bp.other hge' (by omega) hPRl.1))
    have HFZ := Lib.hid (And.intro hKz (And.intro hCz hBz))
    clear hwe hge' hKz hCz hBz
    go_wp2_with fail
    rw [← HWE.out]
    obtain ⟨z0, z1, z2, -⟩ := cells3 HE
    exact bodyPost_ret (v := .agg #[.slice (some ⟨ge', 0, none⟩) j ce', .slice D1 i1 l1, .slice D2 i2 l2]) (by simp [results, Tryz.results126, go_sem, z0, z1, z2]) rfl ⟨n', val', by rw [HEK.out.1, HEK.out.2.1, HEK.out.2.2], ⟨j, hN1.1, hN1.2, HQN.out.made⟩, HFZ.out.1, HFZ.out.2.1, HFZ.out.2.2⟩
   | false =>
    go_wp2_with fail
    have hC := cur_mixed P (m + 2 + 2) cv w1.heap.size j 2 n' val' w2' H2.out.cur (by omega) HNB2.out.k (by omega) hP1 HQN.out.made (by omega) (by omega) (by omega)
    rw [HEK.out.1, HEK.out.2.1, HEK.out.2.2] at hC
    refine hC.mono ?_
    clear hC q0 q1 q2 qf
    rintro e w8 ⟨n8, val8, rfl, hQ8, hk8, hc8, hb8⟩
    obtain ⟨Z0, l0, ez0⟩ := own_slN (hk8.own .e trivial)
    obtain ⟨Z1, y1, ez1⟩ := own_slN (hk8.own .i trivial)
    obtain ⟨Z2, y2, ez2⟩ := own_slN (hk8.own .n trivial)
    have HEZ := Lib.hid (And.intro ez0 (And.intro ez1 ez2))
    rw [ez0, ez1, ez2]
    clear ez0 ez1 ez2
    generalize (rowN n8 val8 .e).len = s0 at HEZ ⊢
    generalize (rowN n8 val8 .i).len = s1 at HEZ ⊢
    generalize (rowN n8 val8 .n).len = s2 at HEZ ⊢
    have HRZ := Lib.hid ((hb8.block PR (by omega) (by omega)).trans H2.out.res)
    obtain ⟨p0, p1, p2, pf⟩ := cells3 HRZ
    obtain ⟨we, hwe, HE, hge'⟩ := set3 HRZ (.slice Z0 s0 l0) (.slice Z1 s1 y1) (.slice Z2 s2 y2)
    have HWE := Lib.hid hwe
    have hz8 := hb8.size
    have hKz := OwnN.mono (NetK.past hk8 HRZ.out no_tyN_net hge') (show w.heap.size ≤ w1.heap.size by omega)
    have hCz : CurR we P cv (m + 100000) := hc8.keep (by omega) fun b hb' => hge'.block b (by omega) (fun e => by have e' : b = PR := Option.some.inj e; omega)
    have hBz : Bp w.heap.size P w we := (Bp.below hb1).trans (((H2.out.bp.trans hb8).mono (by omega)).trans (Bp.other hge' (by omega) hPRl.1))
    have HFZ := Lib.hid (And.intro hKz (And.intro hCz hBz))
    have HQ8 := Lib.hid (show ∃ N, 1 ≤ N ∧ N ≤ most ∧ MadeN n8 N 2 from ⟨j, hN1.1, hN1.2, hQ8⟩)
    clear hwe hge' hKz hCz hBz hk8 hc8 hb8 hQ8
    go_wp2_with fail
    rw [← HWE.out]
    obtain ⟨z0, z1, z2, -⟩ := cells3 HE
    exact bodyPost_ret (v := .agg #[.slice Z0 s0 l0, .slice Z1 s1 y1, .slice Z2 s2 y2]) (by simp [results, Tryz.results126, go_sem, z0, z1, z2]) rfl ⟨n8, val8, by rw [HEZ.out.1, HEZ.out.2.1, HEZ.out.2.2], HQ8.out, HFZ.out.1, HFZ.out.2.1, HFZ.out.2.2⟩
end Go.Proofs.YtdghoienjegffaaGreat
