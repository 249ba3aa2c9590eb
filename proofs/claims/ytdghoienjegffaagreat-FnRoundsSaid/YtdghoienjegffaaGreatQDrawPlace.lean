/-
  The draws anyNet and place: networks of any kind, seldom invalid ones. Condition: at most 10 nodes are asked for.
-/
import Derived.Test.YtdghoienjegffaaGreatQDrawBend
namespace Go.Proofs.YtdghoienjegffaaGreat
open Go.RowKit
set_option linter.all false
set_option maxRecDepth 100000 in
set_option maxHeartbeats 4000000 in
theorem cur_anyNet (P m most : Nat) (cv : Value) (w : World) (h : CurR w P cv m) (hm : m ≤ 100000) (h1 : 1 ≤ most) (h2 : most ≤ 10) :
  Calls Tryz.prog 127 #[.pointer (some ⟨P, 0, none⟩), .int .i64 (most : Int)] w (DrawnN w P cv (m + 144115188076158000) w.heap.size fun n => FitN n 200 10) := by
 have H := Lib.hid h
 have hP := h.lt
 clear h
 obtain ⟨w1, hw1, hb1, HQ, hz1, HS1⟩ := box3 w (.slice none 0 0) (.slice none 0 0) (.slice none 0 0) 27
 obtain ⟨PR, hPR⟩ : ∃ z, z = w.heap.size := ⟨_, rfl⟩
 have HPR := Lib.hid hPR
 have hPRl : w.heap.size ≤ PR ∧ PR ≤ w.heap.size := by omega
 rw [← hPR] at HQ
 have HW1 := Lib.hid hw1
 have hP1 : P < w1.heap.size := by omega
 have hPR1 : PR < w1.heap.size := by omega
 clear hw1 hPR
 go_enter Tryz.func127, Tryz.ntmps127
 go_wp2_with fail
 rw [← HW1.out, ← HPR.out]
 refine (cur_net P m most cv w1 (H.out.below hb1 hP) (by omega) h1 (by omega)).mono ?_
 rintro e w3 ⟨n3, val3, rfl, ⟨N, hN1, hN2, hQ3⟩, hk3, hc3, hb3⟩
 obtain ⟨ge, ce, x0⟩ := own_slN (hk3.own .e trivial)
 obtain ⟨C1, k1, x1⟩ := own_slN (hk3.own .i trivial)
 obtain ⟨C2, k2, x2⟩ := own_slN (hk3.own .n trivial)
 have HV := Lib.hid (And.intro x0 (And.intro x1 x2))
 rw [x0, x1, x2]
 clear x0 x1 x2
 generalize (rowN n3 val3 .e).len = n0 at HV ⊢
 generalize (rowN n3 val3 .i).len = n1 at HV ⊢
 generalize (rowN n3 val3 .n).len = n2 at HV ⊢
 obtain ⟨w4, hw4, hb4, HB, hz4, HS4⟩ := box3 w3 (.slice ge n0 ce) (.slice C1 n1 k1) (.slice C2 n2 k2) 27
 obtain ⟨PB, hPB⟩ : ∃ z, z = w3.heap.size := ⟨_, rfl⟩
 have HPB := Lib.hid hPB
 have hz3 := hb3.size
 have hPBl : w3.heap.size ≤ PB := by omega
 rw [← hPB] at HB hz4
 have HW4 := Lib.hid hw4
 have HF := Lib.hid (show FitN n3 N 6 from hQ3.fit (Nat.le_refl _) (by omega) (by omega))
 have HEI := Lib.hid (And.intro hQ3.len hQ3.ins)
 have HNB4 := Lib.hid (show NetB w4 w1.heap.size val3 n3 PB from NetB.of (hk3.up hb4) (by rw [HV.out.1, HV.out.2.1, HV.out.2.2]; exact HB.out))
 have H4 := Lib.hid (show NAt w1 P PB PR w1.heap.size cv (m + 144115188076155872) (fun n => FitN n N 6 ∧ n.es.length = N ∧ n.ins.length = N) w4 from ⟨hc3.below (hb4.mono (by omega : w1.heap.size ≤ w3.heap.size)) hP1, ⟨n3, val3, ⟨HF.out, HEI.out⟩, HNB4.out⟩, (hb4.block PR (by omega)).trans ((hb3.block PR (by omega) (by omega)).trans HQ.out), hb3.trans (Bp.below (hb4.mono (by omega))), hP1, by omega, by omega, by omega⟩)
 obtain ⟨q0, q1, q2, qf⟩ := cells3 HB
 have eq0 := q0
 have eq1 := q1
 have eq2 := q2
 rw [hw4, hPB] at eq0 eq1 eq2
 clear hw4 hPB hk3 hc3 hb3 hb4 hQ3 q0 q1 q2 qf
 go_wp2_with fail
 rw [← HW4.out, ← HPB.out]
 clear eq0 eq1 eq2
 refine (cur_one P _ cv _ w4 H4.out.cur (by omega)).mono ?_
 rintro e w5 ⟨b, rfl, hc5, hg5⟩
 have hPPB : PB ≠ P := by omega
 have HNB5 := Lib.hid (HNB4.out.drawn hg5 hP1 (by omega))
 have H5 := Lib.hid (H4.out.draw hc5 hg5 H4.out.bp.size)
 have HB5 := Lib.hid ((hg5.block PB HNB4.out.lt (fun e => hPPB (Option.some.inj e))).trans HB.out)
 clear hc5 hg5
 cases b with
 | true =>
  have hr5 := HNB5.out.k.reads HF.out.i64
  rw [HV.out.1, HV.out.2.1, HV.out.2.2] at hr5
  have HR5 := Lib.hid hr5
  have hbs5 : w1.heap.size ≤ w5.heap.size := H5.out.bp.size
  obtain ⟨q0, q1, q2, qf⟩ := cells3 HB5
  clear hr5
  go_wp2_with fail
  refine (cur_withIds P _ cv _ _ _ n3 w5 H5.out.cur (by omega) HR5.out (HF.out.small (by omega) (by omega))).mono ?_
  rintro e w6 ⟨n6, val6, rfl, hid6, hk6, hc6, hb6⟩
  obtain ⟨E0, f0, x0⟩ := own_slN (hk6.own .e trivial)
  obtain ⟨E1, f1, x1⟩ := own_slN (hk6.own .i trivial)
  obtain ⟨E2, f2, x2⟩ := own_slN (hk6.own .n trivial)
  have HE6 := Lib.hid (And.intro x0 (And.intro x1 x2))
  rw [x0, x1, x2]
  clear x0 x1 x2
  generalize (rowN n6 val6 .e).len = j0 at HE6 ⊢
  generalize (rowN n6 val6 .i).len = j1 at HE6 ⊢
  generalize (rowN n6 val6 .n).len = j2 at HE6 ⊢
  have hg6 := hb6.grows
  have H6 := Lib.hid ((H5.out.draw hc6 hg6 hbs5).more (m' := m + 144115188076156500) (by rw [HEI.out.1]; omega) fun _ h => h)
  have HB6 := Lib.hid ((hg6.block PB HNB5.out.lt (fun e => hPPB (Option.some.inj e))).trans HB5.out)
  have hz6 := hg6.size
  have H7 := Lib.hid (H6.out.put (Q' := fun n => FitN n N 6 ∧ n.es.length = N ∧ n.ins.length = N) (OwnN.mono hk6 hbs5) ⟨HF.out.idd hid6, by rw [hid6.es]; exact HEI.out.1, by rw [hid6.ins]; exact HEI.out.2⟩ (by omega) HE6.out.1 HE6.out.2.1 HE6.out.2.2)
  obtain ⟨w7, hw7⟩ : ∃ z, z = (((w6.setCell ⟨PB, 0, none⟩ (.slice E0 j0 f0)).setCell ⟨PB, 1, none⟩ (.slice E1 j1 f1)).setCell ⟨PB, 2, none⟩ (.slice E2 j2 f2)) := ⟨_, rfl⟩
  rw [← hw7] at H7
  have HW7 := Lib.hid hw7
  clear hk6 hb6 hid6 hc6 hg6 hw7 q0 q1 q2 qf
  obtain ⟨q0, q1, q2, qf⟩ := cells3 HB6
  go_upto_region 4 with fail
  rw [← HW7.out]
  clear q0 q1 q2 qf
  obtain ⟨n9, val9, ⟨hF9, hE9, hI9⟩, hnb9⟩ := H7.out.net
  have hr9 := hnb9.k.reads hF9.i64
  obtain ⟨F0, u0, y0⟩ := own_slN (hnb9.k.own .e trivial)
  obtain ⟨F1, u1, y1⟩ := own_slN (hnb9.k.own .i trivial)
  obtain ⟨F2, u2, y2⟩ := own_slN (hnb9.k.own .n trivial)
  have hbx9 := hnb9.box
  rw [y0, y1, y2] at hbx9 hr9
  generalize (rowN n9 val9 .e).len = v0 at hbx9 hr9
  generalize (rowN n9 val9 .i).len = v1 at hbx9 hr9
  generalize (rowN n9 val9 .n).len = v2 at hbx9 hr9
  have hbs9 : w1.heap.size ≤ w7.heap.size := H7.out.bp.size
  have HBX9 := Lib.hid hbx9
  have HR9 := Lib.hid hr9
  have HF9 := Lib.hid (And.intro hF9 (And.intro hE9 hI9))
  clear y0 y1 y2 hbx9 hr9 hnb9 hF9 hE9 hI9
  obtain ⟨q0, q1, q2, qf⟩ := cells3 HBX9
  go_wp2_with fail
  refine (cur_neBend P _ N cv _ _ _ n9 w7 H7.out.cur (by omega) HR9.out HF9.out.1 hN1 (by omega) HF9.out.2.1 HF9.out.2.2).mono ?_
  clear q0 q1 q2 qf
  rintro e w8 ⟨n8, val8, rfl, hQ8, hk8, hc8, hb8⟩
  replace hk8 := OwnN.mono hk8 (show w1.heap.size ≤ w7.heap.size by omega)
  replace hb8 := hb8.mono (show w1.heap.size ≤ w7.heap.size by omega)
  obtain ⟨Z0, l0, ez0⟩ := own_slN (hk8.own .e trivial)
  obtain ⟨Z1, y1, ez1⟩ := own_slN (hk8.own .i trivial)
  obtain ⟨Z2, y2, ez2⟩ := own_slN (hk8.own .n trivial)
  have HEZ := Lib.hid (And.intro ez0 (And.intro ez1 ez2))
  rw [ez0, ez1, ez2]
  clear ez0 ez1 ez2
  generalize (rowN n8 val8 .e).len = s0 at HEZ ⊢
  generalize (rowN n8 val8 .i).len = s1 at HEZ ⊢
  generalize (rowN n8 val8 .n).len = s2 at HEZ ⊢
  have HRZ := Lib.hid ((hb8.block PR (by omega) (by omega)).trans H7.out.res)
  obtain ⟨p0, p1, p2, pf⟩ := cells3 HRZ
  obtain ⟨we, hwe, HE, hge'⟩ := set3 HRZ (.slice Z0 s0 l0) (.slice Z1 s1 y1) (.slice Z2 s2 y2)
  have HWE := Lib.hid hwe
  have hz8 := hb8.size
  have hKz := OwnN.mono (NetK.past hk8 HRZ.out no_tyN_net hge') (show w.heap.size ≤ w1.heap.size by omega)
  have hCz : CurR we P cv (m + 144115188076158000) := hc8.keep (by omega) fun b hb' => hge'.block b (by omega) (fun e => by have e' : b = PR := Option.some.inj e; omega)
  have hBz : Bp w.heap.size P w we := (Bp.below hb1).trans (((H7.out.bp.trans hb8).mono (by omega)).trans (Bp.other hge' (by omega) hPRl.1))
  have HFZ := Lib.hid (And.intro hKz (And.intro hCz hBz))
  have HQ8 := Lib.hid (show FitN n8 200 10 from hQ8)
  clear hwe hge' hKz hCz hBz hk8 hc8 hb8 hQ8
  go_wp2_with fail
  rw [← HWE.out]
  obtain ⟨z0, z1, z2, -⟩ := cells3 HE
  exact bodyPost_ret (v := .agg #[.slice Z0 s0 l0, .slice Z1 s1 y1, .slice Z2 s2 y2]) (by simp [results, Tryz.results127, go_sem, z0, z1, z2]) rfl ⟨n8, val8, by rw [HEZ.out.1, HEZ.out.2.1, HEZ.out.2.2], HQ8.out, HFZ.out.1, HFZ.out.2.1, HFZ.out.2.2⟩
 | false =>
  have H7 := Lib.hid (H5.out.more (m' := m + 144115188076156500) (by omega) fun _ h => h)
  go_upto_region 4 with fail
  obtain ⟨n9, val9, ⟨hF9, hE9, hI9⟩, hnb9⟩ := H7.out.net
  have hr9 := hnb9.k.reads hF9.i64
  obtain ⟨F0, u0, y0⟩ := own_slN (hnb9.k.own .e trivial)
  obtain ⟨F1, u1, y1⟩ := own_slN (hnb9.k.own .i trivial)
  obtain ⟨F2, u2, y2⟩ := own_slN (hnb9.k.own .n trivial)
  have hbx9 := hnb9.box
  rw [y0, y1, y2] at hbx9 hr9
  generalize (rowN n9 val9 .e).len = v0 at hbx9 hr9
  generalize (rowN n9 val9 .i).len = v1 at hbx9 hr9
  generalize (rowN n9 val9 .n).len = v2 at hbx9 hr9
  have hbs9 : w1.heap.size ≤ w5.heap.size := H7.out.bp.size
  have HBX9 := Lib.hid hbx9
  have HR9 := Lib.hid hr9
  have HF9 := Lib.hid (And.intro hF9 (And.intro hE9 hI9))
  clear y0 y1 y2 hbx9 hr9 hnb9 hF9 hE9 hI9
  obtain ⟨q0, q1, q2, qf⟩ := cells3 HBX9
  go_wp2_with fail
  refine (cur_neBend P _ N cv _ _ _ n9 w5 H7.out.cur (by omega) HR9.out HF9.out.1 hN1 (by omega) HF9.out.2.1 HF9.out.2.2).mono ?_
  clear q0 q1 q2 qf
  rintro e w8 ⟨n8, val8, rfl, hQ8, hk8, hc8, hb8⟩
  replace hk8 := OwnN.mono hk8 (show w1.heap.size ≤ w5.heap.size by omega)
  replace hb8 := hb8.mono (show w1.heap.size ≤ w5.heap.size by omega)
  obtain ⟨Z0, l0, ez0⟩ := own_slN (hk8.own .e trivial)
  obtain ⟨Z1, y1, ez1⟩ := own_slN (hk8.own .i trivial)
  obtain ⟨Z2, y2, ez2⟩ := own_slN (hk8.own .n trivial)
  have HEZ := Lib.hid (And.intro ez0 (And.intro ez1 ez2))
  rw [ez0, ez1, ez2]
  clear ez0 ez1 ez2
  generalize (rowN n8 val8 .e).len = s0 at HEZ ⊢
  generalize (rowN n8 val8 .i).len = s1 at HEZ ⊢
  generalize (rowN n8 val8 .n).len = s2 at HEZ ⊢
  have HRZ := Lib.hid ((hb8.block PR (by omega) (by omega)).trans H7.out.res)
  obtain ⟨p0, p1, p2, pf⟩ := cells3 HRZ
  obtain ⟨we, hwe, HE, hge'⟩ := set3 HRZ (.slice Z0 s0 l0) (.slice Z1 s1 y1) (.slice Z2 s2 y2)
  have HWE := Lib.hid hwe
  have hz8 := hb8.size
  have hKz := OwnN.mono (NetK.past hk8 HRZ.out no_tyN_net hge') (show w.heap.size ≤ w1.heap.size by omega)
  have hCz : CurR we P cv (m + 144115188076158000) := hc8.keep (by omega) fun b hb' => hge'.block b (by omega) (fun e => by have e' : b = PR := Option.some.inj e; omega)
  have hBz : Bp w.heap.size P w we := (Bp.below hb1).trans (((H7.out.bp.trans hb8).mono (by omega)).trans (Bp.other hge' (by omega) hPRl.1))
  have HFZ := Lib.hid (And.intro hKz (And.intro hCz hBz))
  have HQ8 := Lib.hid (show FitN n8 200 10 from hQ8)
  clear hwe hge' hKz hCz hBz hk8 hc8 hb8 hQ8
  go_wp2_with fail
  rw [← HWE.out]
  obtain ⟨z0, z1, z2, -⟩ := cells3 HE
  exact bodyPost_ret (v := .agg #[.slice Z0 s0 l0, .slice Z1 s1 y1, .slice Z2 s2 y2]) (by simp [results, Tryz.results127, go_sem, z0, z1, z2]) rfl ⟨n8, val8, by rw [HEZ.out.1, HEZ.out.2.1, HEZ.out.2.2], HQ8.out, HFZ.out.1, HFZ.out.2.1, HFZ.out.2.2⟩
set_option maxRecDepth 100000 in
set_option maxHeartbeats 4000000 in
theorem cur_place (P m most : Nat) (cv : Value) (w : World) (h : CurR w P cv m) (hm : m ≤ 10000) (h1 : 1 ≤ most) (h2 : most ≤ 10) :
  Calls Tryz.prog 81 #[.pointer (some ⟨P, 0, none⟩), .int .i64 (most : Int)] w (DrawnN w P cv (m + 144115188076159000) w.heap.size fun n => FitN n 200 10) := by
 have H := Lib.hid h
 have hP := h.lt
 clear h
 obtain ⟨w1, hw1, hb1, HQ, hz1, HS1⟩ := box3 w (.slice none 0 0) (.slice none 0 0) (.slice none 0 0) 27
 obtain ⟨PR, hPR⟩ : ∃ z, z = w.heap.size := ⟨_, rfl⟩
 have HPR := Lib.hid hPR
 have hPRl : w.heap.size ≤ PR ∧ PR ≤ w.heap.size := by omega
 rw [← hPR] at HQ
 have HW1 := Lib.hid hw1
 have hP1 : P < w1.heap.size := by omega
 have hPR1 : PR < w1.heap.size := by omega
 clear hw1 hPR
 go_enter Tryz.func81, Tryz.ntmps81
 go_wp2_with fail
 rw [← HW1.out, ← HPR.out]
 refine (cur_pick P m cv _ w1 (H.out.below hb1 hP) (by omega)).mono ?_
 rintro e w2 ⟨x, rfl, hx, hc2, hg2⟩
 have hx8 : x < 8 := by omega
 have hB2 : Bp w1.heap.size P w1 w2 := Bp.grown hg2 (Nat.le_refl _)
 have HQ2 := Lib.hid ((hg2.block PR (by omega) (fun e => by have e' : PR = P := Option.some.inj e; omega)).trans HQ.out)
 have HC2 := Lib.hid hc2
 have hz2 := hg2.size
 clear hx hc2 hg2
 obtain rfl | rfl | rfl | rfl | rfl | rfl | rfl | rfl : x = 0 ∨ x = 1 ∨ x = 2 ∨ x = 3 ∨ x = 4 ∨ x = 5 ∨ x = 6 ∨ x = 7 := by omega
 ·
  go_wp2_with fail
  refine (cur_tree P (m + 2) most cv w2 HC2.out (by omega) h1 (by omega)).mono ?_
  rintro e w8 ⟨n8, val8, rfl, ⟨N, hN1, hN2, hQ8⟩, hk8, hc8, hb8⟩
  replace hk8 := OwnN.mono hk8 (show w1.heap.size ≤ w2.heap.size by omega)
  replace hb8 := hb8.mono (show w1.heap.size ≤ w2.heap.size by omega)
  obtain ⟨Z0, l0, ez0⟩ := own_slN (hk8.own .e trivial)
  obtain ⟨Z1, y1, ez1⟩ := own_slN (hk8.own .i trivial)
  obtain ⟨Z2, y2, ez2⟩ := own_slN (hk8.own .n trivial)
  have HEZ := Lib.hid (And.intro ez0 (And.intro ez1 ez2))
  rw [ez0, ez1, ez2]
  clear ez0 ez1 ez2
  generalize (rowN n8 val8 .e).len = s0 at HEZ ⊢
  generalize (rowN n8 val8 .i).len = s1 at HEZ ⊢
  generalize (rowN n8 val8 .n).len = s2 at HEZ ⊢
  have HRZ := Lib.hid ((hb8.block PR (by omega) (by omega)).trans HQ2.out)
  obtain ⟨p0, p1, p2, pf⟩ := cells3 HRZ
  obtain ⟨we, hwe, HE, hge'⟩ := set3 HRZ (.slice Z0 s0 l0) (.slice Z1 s1 y1) (.slice Z2 s2 y2)
  have HWE := Lib.hid hwe
  have hz8 := hb8.size
  have hKz := OwnN.mono (NetK.past hk8 HRZ.out no_tyN_net hge') (show w.heap.size ≤ w1.heap.size by omega)
  have hCz : CurR we P cv (m + 144115188076159000) := hc8.keep (by omega) fun b hb' => hge'.block b (by omega) (fun e => by have e' : b = PR := Option.some.inj e; omega)
  have hBz : Bp w.heap.size P w we := (Bp.below hb1).trans (((hB2.trans hb8).mono (by omega)).trans (Bp.other hge' (by omega) hPRl.1))
  have HFZ := Lib.hid (And.intro hKz (And.intro hCz hBz))
  have HQ8 := Lib.hid (show FitN n8 200 10 from (hQ8.fit (Nat.le_refl _) (by omega) (by omega)).more (by omega) (by omega))
  clear hwe hge' hKz hCz hBz hk8 hc8 hb8 hQ8
  go_wp2_with fail
  rw [← HWE.out]
  obtain ⟨z0, z1, z2, -⟩ := cells3 HE
  exact bodyPost_ret (v := .agg #[.slice Z0 s0 l0, .slice Z1 s1 y1, .slice Z2 s2 y2]) (by simp [results, Tryz.results81, go_sem, z0, z1, z2]) rfl ⟨n8, val8, by rw [HEZ.out.1, HEZ.out.2.1, HEZ.out.2.2], HQ8.out, HFZ.out.1, HFZ.out.2.1, HFZ.out.2.2⟩
 ·
  go_wp2_with fail
  refine (cur_tree P (m + 2) most cv w2 HC2.out (by omega) h1 (by omega)).mono ?_
  rintro e w8 ⟨n8, val8, rfl, ⟨N, hN1, hN2, hQ8⟩, hk8, hc8, hb8⟩
  replace hk8 := OwnN.mono hk8 (show w1.heap.size ≤ w2.heap.size by omega)
  replace hb8 := hb8.mono (show w1.heap.size ≤ w2.heap.size by omega)
  obtain ⟨Z0, l0, ez0⟩ := own_slN (hk8.own .e trivial)
  obtain ⟨Z1, y1, ez1⟩ := own_slN (hk8.own .i trivial)
  obtain ⟨Z2, y2, ez2⟩ := own_slN (hk8.own .n trivial)
  have HEZ := Lib.hid (And.intro ez0 (And.intro ez1 ez2))
  rw [ez0, ez1, ez2]
  clear ez0 ez1 ez2
  generalize (rowN n8 val8 .e).len = s0 at HEZ ⊢
  generalize (rowN n8 val8 .i).len = s1 at HEZ ⊢
  generalize (rowN n8 val8 .n).len = s2 at HEZ ⊢
  have HRZ := Lib.hid ((hb8.block PR (by omega) (by omega)).trans HQ2.out)
  obtain ⟨p0, p1, p2, pf⟩ := cells3 HRZ
  obtain ⟨we, hwe, HE, hge'⟩ := set3 HRZ (.slice Z0 s0 l0) (.slice Z1 s1 y1) (.slice Z2 s2 y2)
  have HWE := Lib.hid hwe
  have hz8 := hb8.size
  have hKz := OwnN.mono (NetK.past hk8 HRZ.out no_tyN_net hge') (show w.heap.size ≤ w1.heap.size by omega)
  have hCz : CurR we P cv (m + 144115188076159000) := hc8.keep (by omega) fun b hb' => hge'.block b (by omega) (fun e => by have e' : b = PR := Option.some.inj e; omega)
  have hBz : Bp w.heap.size P w we := (Bp.below hb1).trans (((hB2.trans hb8).mono (by omega)).trans (Bp.other hge' (by omega) hPRl.1))
  have HFZ := Lib.hid (And.intro hKz (And.intro hCz hBz))
  have HQ8 := Lib.hid (show FitN n8 200 10 from (hQ8.fit (Nat.le_refl _) (by omega) (by omega)).more (by omega) (by omega))
  clear hwe hge' hKz hCz hBz hk8 hc8 hb8 hQ8
  go_wp2_with fail
  rw [← HWE.out]
  obtain ⟨z0, z1, z2, -⟩ := cells3 HE
  exact bodyPost_ret (v := .agg #[.slice Z0 s0 l0, .slice Z1 s1 y1, .slice Z2 s2 y2]) (by simp [results, Tryz.results81, go_sem, z0, z1, z2]) rfl ⟨n8, val8, by rw [HEZ.out.1, HEZ.out.2.1, HEZ.out.2.2], HQ8.out, HFZ.out.1, HFZ.out.2.1, HFZ.out.2.2⟩
 ·
  go_wp2_with fail
  refine (cur_simple P (m + 2) most cv w2 HC2.out (by omega) h1 (by omega)).mono ?_
  rintro e w8 ⟨n8, val8, rfl, ⟨N, hN1, hN2, hQ8⟩, hk8, hc8, hb8⟩
  replace hk8 := OwnN.mono hk8 (show w1.heap.size ≤ w2.heap.size by omega)
  replace hb8 := hb8.mono (show w1.heap.size ≤ w2.heap.size by omega)
  obtain ⟨Z0, l0, ez0⟩ := own_slN (hk8.own .e trivial)
  obtain ⟨Z1, y1, ez1⟩ := own_slN (hk8.own .i trivial)
  obtain ⟨Z2, y2, ez2⟩ := own_slN (hk8.own .n trivial)
  have HEZ := Lib.hid (And.intro ez0 (And.intro ez1 ez2))
  rw [ez0, ez1, ez2]
  clear ez0 ez1 ez2
  generalize (rowN n8 val8 .e).len = s0 at HEZ ⊢
  generalize (rowN n8 val8 .i).len = s1 at HEZ ⊢
  generalize (rowN n8 val8 .n).len = s2 at HEZ ⊢
  have HRZ := Lib.hid ((hb8.block PR (by omega) (by omega)).trans HQ2.out)
  obtain ⟨p0, p1, p2, pf⟩ := cells3 HRZ
  obtain ⟨we, hwe, HE, hge'⟩ := set3 HRZ (.slice Z0 s0 l0) (.slice Z1 s1 y1) (.slice Z2 s2 y2)
  have HWE := Lib.hid hwe
  have hz8 := hb8.size
  have hKz := OwnN.mono (NetK.past hk8 HRZ.out no_tyN_net hge') (show w.heap.size ≤ w1.heap.size by omega)
  have hCz : CurR we P cv (m + 144115188076159000) := hc8.keep (by omega) fun b hb' => hge'.block b (by omega) (fun e => by have e' : b = PR := Option.some.inj e; omega)
  have hBz : Bp w.heap.size P w we := (Bp.below hb1).trans (((hB2.trans hb8).mono (by omega)).trans (Bp.other hge' (by omega) hPRl.1))
  have HFZ := Lib.hid (And.intro hKz (And.intro hCz hBz))
  have HQ8 := Lib.hid (show FitN n8 200 10 from (hQ8.fit (Nat.le_refl _) (by omega) (by omega)).more (by omega) (by omega))
  clear hwe hge' hKz hCz hBz hk8 hc8 hb8 hQ8
  go_wp2_with fail
  rw [← HWE.out]
  obtain ⟨z0, z1, z2, -⟩ := cells3 HE
  exact bodyPost_ret (v := .agg #[.slice Z0 s0 l0, .slice Z1 s1 y1, .slice Z2 s2 y2]) (by simp [results, Tryz.results81, go_sem, z0, z1, z2]) rfl ⟨n8, val8, by rw [HEZ.out.1, HEZ.out.2.1, HEZ.out.2.2], HQ8.out, HFZ.out.1, HFZ.out.2.1, HFZ.out.2.2⟩
 ·
  go_wp2_with fail
  refine (cur_simple P (m + 2) most cv w2 HC2.out (by omega) h1 (by omega)).mono ?_
  rintro e w8 ⟨n8, val8, rfl, ⟨N, hN1, hN2, hQ8⟩, hk8, hc8, hb8⟩
  replace hk8 := OwnN.mono hk8 (show w1.heap.size ≤ w2.heap.size by omega)
  replace hb8 := hb8.mono (show w1.heap.size ≤ w2.heap.size by omega)
  obtain ⟨Z0, l0, ez0⟩ := own_slN (hk8.own .e trivial)
  obtain ⟨Z1, y1, ez1⟩ := own_slN (hk8.own .i trivial)
  obtain ⟨Z2, y2, ez2⟩ := own_slN (hk8.own .n trivial)
  have HEZ := Lib.hid (And.intro ez0 (And.intro ez1 ez2))
  rw [ez0, ez1, ez2]
  clear ez0 ez1 ez2
  generalize (rowN n8 val8 .e).len = s0 at HEZ ⊢
  generalize (rowN n8 val8 .i).len = s1 at HEZ ⊢
  generalize (rowN n8 val8 .n).len = s2 at HEZ ⊢
  have HRZ := Lib.hid ((hb8.block PR (by omega) (by omega)).trans HQ2.out)
  obtain ⟨p0, p1, p2, pf⟩ := cells3 HRZ
  obtain ⟨we, hwe, HE, hge'⟩ := set3 HRZ (.slice Z0 s0 l0) (.slice Z1 s1 y1) (.slice Z2 s2 y2)
  have HWE := Lib.hid hwe
  have hz8 := hb8.size
  have hKz := OwnN.mono (NetK.past hk8 HRZ.out no_tyN_net hge') (show w.heap.size ≤ w1.heap.size by omega)
  have hCz : CurR we P cv (m + 144115188076159000) := hc8.keep (by omega) fun b hb' => hge'.block b (by omega) (fun e => by have e' : b = PR := Option.some.inj e; omega)
  have hBz : Bp w.heap.size P w we := (Bp.below hb1).trans (((hB2.trans hb8).mono (by omega)).trans (Bp.other hge' (by omega) hPRl.1))
  have HFZ := Lib.hid (And.intro hKz (And.intro hCz hBz))
  have HQ8 := Lib.hid (show FitN n8 200 10 from (hQ8.fit (Nat.le_refl _) (by omega) (by omega)).more (by omega) (by omega))
  clear hwe hge' hKz hCz hBz hk8 hc8 hb8 hQ8
  go_wp2_with fail
  rw [← HWE.out]
  obtain ⟨z0, z1, z2, -⟩ := cells3 HE
  exact bodyPost_ret (v := .agg #[.slice Z0 s0 l0, .slice Z1 s1 y1, .slice Z2 s2 y2]) (by simp [results, Tryz.results81, go_sem, z0, z1, z2]) rfl ⟨n8, val8, by rw [HEZ.out.1, HEZ.out.2.1, HEZ.out.2.2], HQ8.out, HFZ.out.1, HFZ.out.2.1, HFZ.out.2.2⟩
 ·
  go_wp2_with fail
  refine (cur_ring P (m + 2) most cv w2 HC2.out (by omega) h1 (by omega)).mono ?_
  rintro e w8 ⟨n8, val8, rfl, ⟨N, hN1, hN2, hQ8⟩, hk8, hc8, hb8⟩
  replace hk8 := OwnN.mono hk8 (show w1.heap.size ≤ w2.heap.size by omega)
  replace hb8 := hb8.mono (show w1.heap.size ≤ w2.heap.size by omega)
  obtain ⟨Z0, l0, ez0⟩ := own_slN (hk8.own .e trivial)
  obtain ⟨Z1, y1, ez1⟩ := own_slN (hk8.own .i trivial)
  obtain ⟨Z2, y2, ez2⟩ := own_slN (hk8.own .n trivial)
  have HEZ := Lib.hid (And.intro ez0 (And.intro ez1 ez2))
  rw [ez0, ez1, ez2]
  clear ez0 ez1 ez2
  generalize (rowN n8 val8 .e).len = s0 at HEZ ⊢
  generalize (rowN n8 val8 .i).len = s1 at HEZ ⊢
  generalize (rowN n8 val8 .n).len = s2 at HEZ ⊢
  have HRZ := Lib.hid ((hb8.block PR (by omega) (by omega)).trans HQ2.out)
  obtain ⟨p0, p1, p2, pf⟩ := cells3 HRZ
  obtain ⟨we, hwe, HE, hge'⟩ := set3 HRZ (.slice Z0 s0 l0) (.slice Z1 s1 y1) (.slice Z2 s2 y2)
  have HWE := Lib.hid hwe
  have hz8 := hb8.size
  have hKz := OwnN.mono (NetK.past hk8 HRZ.out no_tyN_net hge') (show w.heap.size ≤ w1.heap.size by omega)
  have hCz : CurR we P cv (m + 144115188076159000) := hc8.keep (by omega) fun b hb' => hge'.block b (by omega) (fun e => by have e' : b = PR := Option.some.inj e; omega)
  have hBz : Bp w.heap.size P w we := (Bp.below hb1).trans (((hB2.trans hb8).mono (by omega)).trans (Bp.other hge' (by omega) hPRl.1))
  have HFZ := Lib.hid (And.intro hKz (And.intro hCz hBz))
  have HQ8 := Lib.hid (show FitN n8 200 10 from (hQ8.fit (Nat.le_refl _) (by omega) (by omega)).more (by omega) (by omega))
  clear hwe hge' hKz hCz hBz hk8 hc8 hb8 hQ8
  go_wp2_with fail
  rw [← HWE.out]
  obtain ⟨z0, z1, z2, -⟩ := cells3 HE
  exact bodyPost_ret (v := .agg #[.slice Z0 s0 l0, .slice Z1 s1 y1, .slice Z2 s2 y2]) (by simp [results, Tryz.results81, go_sem, z0, z1, z2]) rfl ⟨n8, val8, by rw [HEZ.out.1, HEZ.out.2.1, HEZ.out.2.2], HQ8.out, HFZ.out.1, HFZ.out.2.1, HFZ.out.2.2⟩
 ·
  go_wp2_with fail
  refine (cur_anyNet P (m + 2) most cv w2 HC2.out (by omega) h1 (by omega)).mono ?_
  rintro e w8 ⟨n8, val8, rfl, hQ8, hk8, hc8, hb8⟩
  replace hk8 := OwnN.mono hk8 (show w1.heap.size ≤ w2.heap.size by omega)
  replace hb8 := hb8.mono (show w1.heap.size ≤ w2.heap.size by omega)
  obtain ⟨Z0, l0, ez0⟩ := own_slN (hk8.own .e trivial)
  obtain ⟨Z1, y1, ez1⟩ := own_slN (hk8.own .i trivial)
  obtain ⟨Z2, y2, ez2⟩ := own_slN (hk8.own .n trivial)
  have HEZ := Lib.hid (And.intro ez0 (And.intro ez1 ez2))
  rw [ez0, ez1, ez2]
  clear ez0 ez1 ez2
  generalize (rowN n8 val8 .e).len = s0 at HEZ ⊢
  generalize (rowN n8 val8 .i).len = s1 at HEZ ⊢
  generalize (rowN n8 val8 .n).len = s2 at HEZ ⊢
  have HRZ := Lib.hid ((hb8.block PR (by omega) (by omega)).trans HQ2.out)
  obtain ⟨p0, p1, p2, pf⟩ := cells3 HRZ
  obtain ⟨we, hwe, HE, hge'⟩ := set3 HRZ (.slice Z0 s0 l0) (.slice Z1 s1 y1) (.slice Z2 s2 y2)
  have HWE := Lib.hid hwe
  have hz8 := hb8.size
  have hKz := OwnN.mono (NetK.past hk8 HRZ.out no_tyN_net hge') (show w.heap.size ≤ w1.heap.size by omega)
  have hCz : CurR we P cv (m + 144115188076159000) := hc8.keep (by omega) fun b hb' => hge'.block b (by omega) (fun e => by have e' : b = PR := Option.some.inj e; omega)
  have hBz : Bp w.heap.size P w we := (Bp.below hb1).trans (((hB2.trans hb8).mono (by omega)).trans (Bp.other hge' (by omega) hPRl.1))
  have HFZ := Lib.hid (And.intro hKz (And.intro hCz hBz))
  have HQ8 := Lib.hid (show FitN n8 200 10 from hQ8)
  clear hwe hge' hKz hCz hBz hk8 hc8 hb8 hQ8
  go_wp2_with fail
  rw [← HWE.out]
  obtain ⟨z0, z1, z2, -⟩ := cells3 HE
  exact bodyPost_ret (v := .agg #[.slice Z0 s0 l0, .slice Z1 s1 y1, .slice Z2 s2 y2]) (by simp [results, Tryz.results81, go_sem, z0, z1, z2]) rfl ⟨n8, val8, by rw [HEZ.out.1, HEZ.out.2.1, HEZ.out.2.2], HQ8.out, HFZ.out.1, HFZ.out.2.1, HFZ.out.2.2⟩
 ·
  go_wp2_with fail
  refine (cur_net P (m + 2) most cv w2 HC2.out (by omega) h1 (by omega)).mono ?_
  rintro e w8 ⟨n8, val8, rfl, ⟨N, hN1, hN2, hQ8⟩, hk8, hc8, hb8⟩
  replace hk8 := OwnN.mono hk8 (show w1.heap.size ≤ w2.heap.size by omega)
  replace hb8 := hb8.mono (show w1.heap.size ≤ w2.heap.size by omega)
  obtain ⟨Z0, l0, ez0⟩ := own_slN (hk8.own .e trivial)
  obtain ⟨Z1, y1, ez1⟩ := own_slN (hk8.own .i trivial)
  obtain ⟨Z2, y2, ez2⟩ := own_slN (hk8.own .n trivial)
  have HEZ := Lib.hid (And.intro ez0 (And.intro ez1 ez2))
  rw [ez0, ez1, ez2]
  clear ez0 ez1 ez2
  generalize (rowN n8 val8 .e).len = s0 at HEZ ⊢
  generalize (rowN n8 val8 .i).len = s1 at HEZ ⊢
  generalize (rowN n8 val8 .n).len = s2 at HEZ ⊢
  have HRZ := Lib.hid ((hb8.block PR (by omega) (by omega)).trans HQ2.out)
  obtain ⟨p0, p1, p2, pf⟩ := cells3 HRZ
  obtain ⟨we, hwe, HE, hge'⟩ := set3 HRZ (.slice Z0 s0 l0) (.slice Z1 s1 y1) (.slice Z2 s2 y2)
  have HWE := Lib.hid hwe
  have hz8 := hb8.size
  have hKz := OwnN.mono (NetK.past hk8 HRZ.out no_tyN_net hge') (show w.heap.size ≤ w1.heap.size by omega)
  have hCz : CurR we P cv (m + 144115188076159000) := hc8.keep (by omega) fun b hb' => hge'.block b (by omega) (fun e => by have e' : b = PR := Option.some.inj e; omega)
  have hBz : Bp w.heap.size P w we := (Bp.below hb1).trans (((hB2.trans hb8).mono (by omega)).trans (Bp.other hge' (by omega) hPRl.1))
  have HFZ := Lib.hid (And.intro hKz (And.intro hCz hBz))
  have HQ8 := Lib.hid (show FitN n8 200 10 from (hQ8.fit (Nat.le_refl _) (by omega) (by omega)).more (by omega) (by omega))
  clear hwe hge' hKz hCz hBz hk8 hc8 hb8 hQ8
  go_wp2_with fail
  rw [← HWE.out]
  obtain ⟨z0, z1, z2, -⟩ := cells3 HE
  exact bodyPost_ret (v := .agg #[.slice Z0 s0 l0, .slice Z1 s1 y1, .slice Z2 s2 y2]) (by simp [results, Tryz.results81, go_sem, z0, z1, z2]) rfl ⟨n8, val8, by rw [HEZ.out.1, HEZ.out.2.1, HEZ.out.2.2], HQ8.out, HFZ.out.1, HFZ.out.2.1, HFZ.out.2.2⟩
 ·
  go_wp2_with fail
  refine (cur_net P (m + 2) most cv w2 HC2.out (by omega) h1 (by omega)).mono ?_
  rintro e w8 ⟨n8, val8, rfl, ⟨N, hN1, hN2, hQ8⟩, hk8, hc8, hb8⟩
  replace hk8 := OwnN.mono hk8 (show w1.heap.size ≤ w2.heap.size by omega)
  replace hb8 := hb8.mono (show w1.heap.size ≤ w2.heap.size by omega)
  obtain ⟨Z0, l0, ez0⟩ := own_slN (hk8.own .e trivial)
  obtain ⟨Z1, y1, ez1⟩ := own_slN (hk8.own .i trivial)
  obtain ⟨Z2, y2, ez2⟩ := own_slN (hk8.own .n trivial)
  have HEZ := Lib.hid (And.intro ez0 (And.intro ez1 ez2))
  rw [ez0, ez1, ez2]
  clear ez0 ez1 ez2
  generalize (rowN n8 val8 .e).len = s0 at HEZ ⊢
  generalize (rowN n8 val8 .i).len = s1 at HEZ ⊢
  generalize (rowN n8 val8 .n).len = s2 at HEZ ⊢
  have HRZ := Lib.hid ((hb8.block PR (by omega) (by omega)).trans HQ2.out)
  obtain ⟨p0, p1, p2, pf⟩ := cells3 HRZ
  obtain ⟨we, hwe, HE, hge'⟩ := set3 HRZ (.slice Z0 s0 l0) (.slice Z1 s1 y1) (.slice Z2 s2 y2)
  have HWE := Lib.hid hwe
  have hz8 := hb8.size
  have hKz := OwnN.mono (NetK.past hk8 HRZ.out no_tyN_net hge') (show w.heap.size ≤ w1.heap.size by omega)
  have hCz : CurR we P cv (m + 144115188076159000) := hc8.keep (by omega) fun b hb' => hge'.block b (by omega) (fun e => by have e' : b = PR := Option.some.inj e; omega)
  have hBz : Bp w.heap.size P w we := (Bp.below hb1).trans (((hB2.trans hb8).mono (by omega)).trans (Bp.other hge' (by omega) hPRl.1))
  have HFZ := Lib.hid (And.intro hKz (And.intro hCz hBz))
  have HQ8 := Lib.hid (show FitN n8 200 10 from (hQ8.fit (Nat.le_refl _) (by omega) (by omega)).more (by omega) (by omega))
  clear hwe hge' hKz hCz hBz hk8 hc8 hb8 hQ8
  go_wp2_with fail
  rw [← HWE.out]
  obtain ⟨z0, z1, z2, -⟩ := cells3 HE
  exact bodyPost_ret (v := .agg #[.slice Z0 s0 l0, .slice Z1 s1 y1, .slice Z2 s2 y2]) (by simp [results, Tryz.results81, go_sem, z0, z1, z2]) rfl ⟨n8, val8, by rw [HEZ.out.1, HEZ.out.2.1, HEZ.out.2.2], HQ8.out, HFZ.out.1, HFZ.out.2.1, HFZ.out.2.2⟩
end Go.Proofs.YtdghoienjegffaaGreat
