/-
  The draw simple. Condition: at most 100 nodes.
-/
import Derived.Test.YtdghoienjegffaaGreatQDrawTree
namespace Go.Proofs.YtdghoienjegffaaGreat
open Go.RowKit
set_option linter.all false
def SpRel (w : World) (P PB PR base : Nat) (cv : Value) (m N : Nat) (i : Value) (wr : World) : Prop := ∃ k : Nat, k ≤ N ∧ i = .int .i64 (k : Int) ∧ NAt w P PB PR base cv (m + 4 * (N - k)) (fun n => MadeN n N 5) wr
theorem MadeN.join5 {n : Net} {N v u : Nat} (h : MadeN n N 5) (hv : v < N) (hu : u < N) (hne : v ≠ u) (h1 : degA n v < 5) (h2 : degA n u < 5) : MadeN (joinN n v u) N 5 := by
  have hl := h.len
  refine h.join hv hu (fun x hx => ?_) (Nat.le_refl _)
  rw [degA_join (by omega) (by omega)]
  rcases hx with rfl | rfl
  · rw [if_pos rfl, if_neg hne]; omega
  · rw [if_neg (fun e => hne e.symm), if_pos rfl]; omega
set_option maxRecDepth 100000 in
set_option maxHeartbeats 4000000 in
theorem cur_simple (P m most : Nat) (cv : Value) (w : World) (h : CurR w P cv m) (hm : m ≤ 288230376151711744) (h1 : 1 ≤ most) (h2 : most ≤ 100) :
  Calls Tryz.prog 86 #[.pointer (some ⟨P, 0, none⟩), .int .i64 (most : Int)] w (DrawnN w P cv (m + 144115188075955872) w.heap.size fun n => ∃ N, 1 ≤ N ∧ N ≤ most ∧ MadeN n N 5) := by
 have H := Lib.hid h
 have hP := h.lt
 clear h
 obtain ⟨w1, hw1, hb1, HQ, hz1, HS1⟩ := box3 w (.slice none 0 0) (.slice none 0 0) (.slice none 0 0) 27
 obtain ⟨PR, hPR⟩ : ∃ z, z = w.heap.size := ⟨_, rfl⟩
 have HPR := Lib.hid hPR
 have hPRl : w.heap.size ≤ PR ∧ PR ≤ w.heap.size := by omega
 rw [← hPR] at HQ
 have HW1 := Lib.hid hw1
 have hP1 : P < w1.heap.size := by omega
 have hPR1 : PR < w1.heap.size := by omega
 clear hw1 hPR
 go_enter Tryz.func86, Tryz.ntmps86
 go_wp2_with fail
 rw [← HW1.out, ← HPR.out]
 refine (cur_tree P m most cv w1 (H.out.below hb1 hP) hm h1 h2).mono ?_
 rintro e w3 ⟨n, val, rfl, ⟨N, hN1, hN2, hmn⟩, hk3, hc3, hb3⟩
 obtain ⟨ge, ce, x0⟩ := own_slN (hk3.own .e trivial)
 obtain ⟨C1, k1, x1⟩ := own_slN (hk3.own .i trivial)
 obtain ⟨C2, k2, x2⟩ := own_slN (hk3.own .n trivial)
 have HV := Lib.hid (And.intro x0 (And.intro x1 x2))
 rw [x0, x1, x2]
 clear x0 x1 x2
 generalize (rowN n val .e).len = n0 at HV ⊢
 generalize (rowN n val .i).len = n1 at HV ⊢
 generalize (rowN n val .n).len = n2 at HV ⊢
 obtain ⟨w4, hw4, hb4, HB, hz4, HS4⟩ := box3 w3 (.slice ge n0 ce) (.slice C1 n1 k1) (.slice C2 n2 k2) 27
 obtain ⟨PB, hPB⟩ : ∃ z, z = w3.heap.size := ⟨_, rfl⟩
 have HPB := Lib.hid hPB
 have hz3 := hb3.size
 have hPBl : w3.heap.size ≤ PB := by omega
 rw [← hPB] at HB hz4
 have HW4 := Lib.hid hw4
 have H4 := Lib.hid (show NAt w1 P PB PR w1.heap.size cv (m + 144115188075855872) (fun n => MadeN n N 5) w4 from ⟨hc3.below (hb4.mono (by omega : w1.heap.size ≤ w3.heap.size)) hP1, ⟨n, val, hmn.more (by omega), NetB.of (hk3.up hb4) (by rw [HV.out.1, HV.out.2.1, HV.out.2.2]; exact HB.out)⟩, (hb4.block PR (by omega)).trans ((hb3.block PR hPR1 (by omega)).trans HQ.out), hb3.trans (Bp.below (hb4.mono (by omega))), hP1, by omega, by omega, by omega⟩)
 have q0 : w4.cell? ⟨PB, 0, none⟩ = some (.slice ge N ce) := by
  rw [cell_of_row _ _ 0 _ _ (0, 0) HB.out]
  have h1 := hk3.own .e trivial
  rw [HV.out.1] at h1
  have h2 : n0 = N := by
   have h3 : n0 = n.es.length := by
    rcases h1.2 with ⟨e1, e2⟩ | ⟨g, cap, cur, e1, _⟩
    ·
     have e3 := (Value.slice.inj e1).2.1; rw [e3]; exact e2.symm
    ·
     exact (Value.slice.inj e1).2.1
   rw [h3]; exact hmn.len
  rw [h2]; rfl
 have eq0 := q0
 rw [hw4, hPB] at eq0
 have hwr : IntKind.i64.wrap (1 + (N : Int)) = ((1 + N : Nat) : Int) := by rw [IntWalk.i64_in _ (by omega)]; omega
 have hmA : m + 144115188075855872 ≤ 2305843009213693952 := by omega
 have hmB : m + 144115188075855872 + 2 ≤ 576460752303423488 := by omega
 obtain ⟨M0, hM0⟩ : ∃ z, z = m + 144115188075855872 := ⟨_, rfl⟩
 rw [← hM0] at H4 hmA hmB
 have HM0 := Lib.hid hM0
 have hM0l : M0 ≤ 432345564227567616 := by omega
 clear hw4 hPB hk3 hc3 hb3 hmn hM0
 go_wp2_with fail
 rw [← HW4.out, ← HPB.out]
 clear eq0
 refine (cur_pick P M0 cv _ w4 H4.out.cur hmA).mono ?_
 rintro e w5 ⟨x, rfl, hx, hc5, hg5⟩
 have hxN : x ≤ N := by omega
 have H5 := Lib.hid (H4.out.draw hc5 hg5 H4.out.bp.size)
 clear hx hc5 hg5 q0 hwr hmA
 go_wp2_with fail
 go_loopw [6] (fun i wr => SpRel w1 P PB PR w1.heap.size cv (M0 + 2) N i wr) (fun i _ => (intOf i).toNat)
 case atStart => exact ⟨x, hxN, rfl, H5.out.more (by omega) fun _ h => h⟩
 case round =>
  obtain ⟨k, hkN, rfl, hat⟩ := hrel
  have HA := Lib.hid hat
  have hbs : w1.heap.size ≤ wr.heap.size := hat.bp.size
  clear hat
  obtain ⟨n', val', hQ, hnb⟩ := HA.out.net
  have hln := hQ.len
  obtain ⟨ge', ce', eke, -, -, -, -⟩ := hnb.k.outer (by omega)
  rw [hln] at eke
  obtain ⟨D1, l1, ek1⟩ := own_slN (hnb.k.own .i trivial)
  obtain ⟨D2, l2, ek2⟩ := own_slN (hnb.k.own .n trivial)
  have hbx := hnb.box
  rw [eke, ek1, ek2] at hbx
  have HEK := Lib.hid (And.intro eke (And.intro ek1 ek2))
  have HQN := Lib.hid hQ
  have HNB := Lib.hid hnb
  have HLN := Lib.hid hln
  have hge : ge' < wr.heap.size ∧ w1.heap.size ≤ ge' := by
   have h1 := (hnb.k.own .e trivial).lt ge' (by rw [eke]; rfl)
   exact ⟨h1.2, h1.1⟩
  have hPBr : PB < wr.heap.size := hnb.lt
  clear eke ek1 ek2 hQ hnb hln
  generalize (rowN n' val' .i).len = i1 at HEK hbx
  generalize (rowN n' val' .n).len = i2 at HEK hbx
  have HBX := Lib.hid hbx
  clear hbx
  obtain ⟨q0, q1, q2, qf⟩ := cells3 HBX
  have hPPB : PB ≠ P := by omega
  by_cases h0 : 0 < k
  ·
   have hk0 : ((k : Int) > 0) = True := eq_true (by omega)
   have hMk : M0 + 2 + 4 * (N - k) + 2 ≤ 2305843009213693952 := by omega
   go_wp2_with fail
   refine wp_region_held_drew (S := fun w' => w'.cell? ⟨PB, 0, none⟩ = some (.slice (some ⟨ge', 0, none⟩) N ce')) (by kernel_rfl) ?_ (fun hHeld => ?_)
   ·
    go_keep
   refine stk 0 22 ?_
   refine stk 1 23 ?_
   refine stk 2 24 ?_
   refine stk 3 25 ?_
   refine stk 5 27 ?_
   refine stk 6 28 ?_
   refine stk 7 29 ?_
   refine stk 8 30 ?_
   refine tr 4 rfl (by kernel_rfl) (fun K hK => ?_)
   go_simp
   go_at_call 40
   refine (cur_pick P _ cv _ wr.drew (HA.out.cur.below (Below.refl w1.heap.size wr).drew hP1) (by omega)).mono ?_
   rintro e w5 ⟨a, rfl, ha, hc5, hg5'⟩
   have haN : a < N := by omega
   have hg5 : wr.grownBy w5 (some P) := ⟨hg5'.os, hg5'.tape, hg5'.output, hg5'.size, hg5'.block⟩
   have H5 := Lib.hid (HA.out.draw hc5 hg5 hbs)
   have hz5 := hg5.size
   have HG5 := Lib.hid hg5
   clear q0 q1 q2 qf ha hc5 hg5'
   have q0 : w5.cell? ⟨PB, 0, none⟩ = some (.slice (some ⟨ge', 0, none⟩) N ce') := (cells3 (Lib.hid ((hg5.block PB hPBr (fun e => hPPB (Option.some.inj e))).trans HBX.out))).1
   refine hK.out _ _ ?_ (fun hHeld => ?_)
   ·
    go_keep
   clear hK K
   try simp only [Act.put, pu]
   refine tr 9 rfl (by kernel_rfl) (fun K hK => ?_)
   go_simp
   go_at_call 40
   refine (cur_pick P _ cv _ w5 H5.out.cur hMk).mono ?_
   rintro e w6 ⟨b, rfl, hb, hc6, hg6⟩
   have hbN : b < N := by omega
   have H6 := Lib.hid (H5.out.draw hc6 hg6 (by omega))
   have hz6 := hg6.size
   have HG6 := Lib.hid (grownT HG5.out hg6)
   clear q0 hb hc6 hg5 hg6
   have q0 : w6.cell? ⟨PB, 0, none⟩ = some (.slice (some ⟨ge', 0, none⟩) N ce') := (cells3 (Lib.hid ((HG6.out.block PB hPBr (fun e => hPPB (Option.some.inj e))).trans HBX.out))).1
   refine hK.out _ _ ?_ (fun hHeld => ?_)
   ·
    go_keep
   clear hK K
   try simp only [Act.put, pu]
   refine stk 10 7 ?_
   refine stk 11 8 ?_
   refine wpAnyH_done (by kernel_rfl) ?_ _
   clear q0
   have HBX6 := Lib.hid ((HG6.out.block PB hPBr (fun e => hPPB (Option.some.inj e))).trans HBX.out)
   obtain ⟨q0, q1, q2, qf⟩ := cells3 HBX6
   have HNB6 := Lib.hid (HNB.out.drawn HG6.out hP1 (by omega))
   have hwrk : IntKind.i64.wrap ((k : Int) - 1) = ((k - 1 : Nat) : Int) := by rw [IntWalk.i64_in _ (by omega)]; omega
   have HNX := Lib.hid (show NAt w1 P PB PR w1.heap.size cv (M0 + 2 + 4 * (N - (k - 1))) (fun n => MadeN n N 5) w6 from H6.out.more (by omega) fun _ h => h)
   by_cases hab : a = b
   ·
    have kq : ((a : Int) == (b : Int)) = true := by simpa using (show (a : Int) = (b : Int) by omega)
    have kq2 : ((a : Int) != (b : Int)) = false := by simpa using (show (a : Int) = (b : Int) by omega)
    clear hab
    go_wp2_with fail
    go_roundw
    case rel => exact ⟨k - 1, by omega, by go_num, HNX.out⟩
    case measure => simp [intOf]; omega
   ·
    have kq : ((a : Int) == (b : Int)) = false := by simpa using (show ¬ (a : Int) = (b : Int) by omega)
    have kq2 : ((a : Int) != (b : Int)) = true := by simpa using (show ¬ (a : Int) = (b : Int) by omega)
    have hla := rowAt_lt (n := n') (k := a) (by rw [HLN.out]; exact haN)
    have hda := HQN.out.deg a
    have hC := spec_neNear _ _ _ n' a _ w6 (HNB6.out.k.reads (HQN.out.i64 (by omega) (by omega))) hla (by show degA n' a ≤ _; omega)
    rw [HEK.out.1, HEK.out.2.1, HEK.out.2.2] at hC
    go_wp2_with fail
    refine hC.mono ?_
    clear hC hla
    rintro e w7 ⟨u, rfl, -, hu7, hb7, -⟩
    have HU7 := Lib.hid hu7
    have H7 := Lib.hid (HNX.out.up hb7 (by omega))
    have HNB7 := Lib.hid (HNB6.out.up hb7)
    have HBX7 := Lib.hid ((hb7.block PB HNB6.out.lt).trans HBX6.out)
    have hz7 := hb7.size
    clear hu7 hb7 q0 q1 q2 qf
    go_wp2_with fail
    refine (spec_l1Has _ _ _ w7 HU7.out).mono ?_
    rintro e w' ⟨rfl, rfl⟩
    generalize hasB (nearL (rowAt n' a)) (b : Int) = hh
    obtain ⟨q0, q1, q2, qf⟩ := cells3 HBX7
    cases hh with
    | true =>
     go_wp2_with fail
     go_roundw
     case rel => exact ⟨k - 1, by omega, by go_num, H7.out⟩
     case measure => simp [intOf]; omega
    | false =>
     obtain ⟨Aa, ca, eka⟩ := own_slN (HNB7.out.k.rowOwn (rowAt_lt (k := a) (by rw [HLN.out]; exact haN)))
     obtain ⟨Ab, cb, ekb⟩ := own_slN (HNB7.out.k.rowOwn (rowAt_lt (k := b) (by rw [HLN.out]; exact hbN)))
     have ya := HNB7.out.k.outerCell (cap := ce') (k := a) (by rw [HLN.out]; exact HEK.out.1) (by rw [HLN.out]; exact haN)
     have yb := HNB7.out.k.outerCell (cap := ce') (k := b) (by rw [HLN.out]; exact HEK.out.1) (by rw [HLN.out]; exact hbN)
     rw [eka] at ya
     rw [ekb] at yb
     obtain ⟨da, hda'⟩ : ∃ z, z = degA n' a := ⟨_, rfl⟩
     obtain ⟨db, hdb'⟩ : ∃ z, z = degA n' b := ⟨_, rfl⟩
     rw [show (rowAt n' a).length = da from hda'.symm] at ya
     rw [show (rowAt n' b).length = db from hdb'.symm] at yb
     have HDA := Lib.hid hda'
     have HDB := Lib.hid hdb'
     have hai : (a : Int) < (N : Int) := by omega
     have hbi : (b : Int) < (N : Int) := by omega
     clear eka ekb hda hda' hdb'
     by_cases h5 : da < 5
     ·
      have ka : ((da : Int) < 5) = True := eq_true (by omega)
      have ka' : decide ((da : Int) < 5) = true := decide_eq_true (by omega)
      by_cases h6 : db < 5
      ·
       have kb : ((db : Int) < 5) = True := eq_true (by omega)
       have kb' : decide ((db : Int) < 5) = true := decide_eq_true (by omega)
       have HTJ := Lib.hid (HQN.out.join5 haN hbN hab (by have := HDA.out; omega) (by have := HDB.out; omega))
       go_wp2_with fail
       have hC := spec_neJoin _ _ _ n' a b w7 (HNB7.out.k.reads (HQN.out.i64 (by omega) (by omega))) (HQN.out.small (by omega) (by omega)) (by rw [HLN.out]; omega) (by rw [HLN.out]; omega)
       rw [HEK.out.1, HEK.out.2.1, HEK.out.2.2] at hC
       refine hC.mono ?_
       clear hC
       rintro e w8 ⟨val8, rfl, hk8, hb8⟩
       obtain ⟨ge8, ce8, x0⟩ := own_slN (hk8.own .e trivial)
       obtain ⟨E1, f1, x1⟩ := own_slN (hk8.own .i trivial)
       obtain ⟨E2, f2, x2⟩ := own_slN (hk8.own .n trivial)
       have HE8 := Lib.hid (And.intro x0 (And.intro x1 x2))
       rw [x0, x1, x2]
       clear x0 x1 x2
       generalize (rowN (joinN n' a b) val8 .e).len = j0 at HE8 ⊢
       generalize (rowN (joinN n' a b) val8 .i).len = j1 at HE8 ⊢
       generalize (rowN (joinN n' a b) val8 .n).len = j2 at HE8 ⊢
       have H8 := Lib.hid (H7.out.up hb8 (by omega))
       have hz8 := hb8.size
       have H9 := Lib.hid ((H8.out.put (Q' := fun n => MadeN n N 5) (OwnN.mono hk8 (by omega)) HTJ.out (by omega) HE8.out.1 HE8.out.2.1 HE8.out.2.2).more (m' := M0 + 2 + 4 * (N - (k - 1))) (Nat.le_refl _) fun _ h => h)
       have HBX8 := Lib.hid ((hb8.block PB HNB7.out.lt).trans HBX7.out)
       obtain ⟨w9, hw9⟩ : ∃ z, z = (((w8.setCell ⟨PB, 0, none⟩ (.slice ge8 j0 ce8)).setCell ⟨PB, 1, none⟩ (.slice E1 j1 f1)).setCell ⟨PB, 2, none⟩ (.slice E2 j2 f2)) := ⟨_, rfl⟩
       rw [← hw9] at H9
       have HW9 := Lib.hid hw9
       clear hk8 hb8 hw9 q0 q1 q2 qf
       obtain ⟨q0, q1, q2, qf⟩ := cells3 HBX8
       go_wp2_with fail
       rw [← HW9.out]
       go_roundw
       case rel => exact ⟨k - 1, by omega, by go_num, H9.out⟩
       case measure => simp [intOf]; omega
      ·
       have kb : ((db : Int) < 5) = False := eq_false (by omega)
       have kb' : decide ((db : Int) < 5) = false := decide_eq_false (by omega)
       go_wp2_with fail
       go_roundw
       case rel => exact ⟨k - 1, by omega, by go_num, H7.out⟩
       case measure => simp [intOf]; omega
     ·
      have ka : ((da : Int) < 5) = False := eq_false (by omega)
      have ka' : decide ((da : Int) < 5) = false := decide_eq_false (by omega)
      go_wp2_with fail
      go_roundw
      case rel => exact ⟨k - 1, by omega, by go_num, H7.out⟩
      case measure => simp [intOf]; omega
  ·
   obtain rfl : k = 0 := by omega
   have hMz : M0 + 2 + 4 * (N - 0) ≤ 576460752303423488 := by omega
   go_wp2_with fail
   have hC := cur_mixed P (M0 + 2 + 4 * (N - 0)) cv w1.heap.size N 5 n' val' wr HA.out.cur hMz HNB.out.k hbs hP1 HQN.out (by omega) (by omega) (by omega)
   rw [HEK.out.1, HEK.out.2.1, HEK.out.2.2] at hC
   refine hC.mono ?_
   clear hC q0 q1 q2 qf
   have hM0 := HM0.out
   rintro e w8 ⟨n8, val8, rfl, hQ8, hk8, hc8, hb8⟩
   obtain ⟨Z0, l0, ez0⟩ := own_slN (hk8.own .e trivial)
   obtain ⟨Z1, y1, ez1⟩ := own_slN (hk8.own .i trivial)
   obtain ⟨Z2, y2, ez2⟩ := own_slN (hk8.own .n trivial)
   have HEZ := Lib.hid (And.intro ez0 (And.intro ez1 ez2))
   rw [ez0, ez1, ez2]
   clear ez0 ez1 ez2
   generalize (rowN n8 val8 .e).len = s0 at HEZ ⊢
   generalize (rowN n8 val8 .i).len = s1 at HEZ ⊢
   generalize (rowN n8 val8 .n).len = s2 at HEZ ⊢
   have HRZ := Lib.hid ((hb8.block PR (by omega) (by omega)).trans HA.out.res)
   obtain ⟨p0, p1, p2, pf⟩ := cells3 HRZ
   obtain ⟨we, hwe, HE, hge'⟩ := set3 HRZ (.slice Z0 s0 l0) (.slice Z1 s1 y1) (.slice Z2 s2 y2)
   have HWE := Lib.hid hwe
   have hz8 := hb8.size
   have hKz := OwnN.mono (NetK.past hk8 HRZ.out no_tyN_net hge') (show w.heap.size ≤ w1.heap.size by omega)
   have hCz : CurR we P cv (m + 144115188075955872) := hc8.keep (by omega) fun b hb' => hge'.block b (by omega) (fun e => by have e' : b = PR := Option.some.inj e; omega)
   have hBz : Bp w.heap.size P w we := (Bp.below hb1).trans (((HA.out.bp.trans hb8).mono (by omega)).trans (Bp.other hge' (by omega) hPRl.1))
   have HFZ := Lib.hid (And.intro hKz (And.intro hCz hBz))
   have HQ8 := Lib.hid (show ∃ N, 1 ≤ N ∧ N ≤ most ∧ MadeN n8 N 5 from ⟨N, hN1, hN2, hQ8⟩)
   clear hwe hge' hKz hCz hBz hk8 hc8 hb8 hQ8
   go_wp2_with fail
   rw [← HWE.out]
   obtain ⟨z0, z1, z2, -⟩ := cells3 HE
   exact bodyPost_ret (v := .agg #[.slice Z0 s0 l0, .slice Z1 s1 y1, .slice Z2 s2 y2]) (by simp [results, Tryz.results86, go_sem, z0, z1, z2]) rfl ⟨n8, val8, by rw [HEZ.out.1, HEZ.out.2.1, HEZ.out.2.2], HQ8.out, HFZ.out.1, HFZ.out.2.1, HFZ.out.2.2⟩
end Go.Proofs.YtdghoienjegffaaGreat
