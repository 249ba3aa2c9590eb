/-
  The draw net. Condition: at most 90 nodes.
-/
import Derived.Test.YtdghoienjegffaaGreatQNeUni
namespace Go.Proofs.YtdghoienjegffaaGreat
open Go.RowKit
set_option linter.all false
theorem MadeN.join6 {n : Net} {N v u : Nat} (h : MadeN n N 6) (hv : v < N) (hu : u < N) (h1 : degA n v ≤ 4) (h2 : degA n u ≤ 4) : MadeN (joinN n v u) N 6 := by
  have hl := h.len
  refine h.join hv hu (fun x hx => ?_) (Nat.le_refl _)
  rw [degA_join (by omega) (by omega)]
  have : degA n x ≤ 4 := by rcases hx with rfl | rfl <;> assumption
  split <;> split <;> omega
theorem MadeN.stub6 {n : Net} {N v : Nat} (h : MadeN n N 6) (hv : v < N) (h1 : degA n v ≤ 4) : MadeN (stubN n v) N 6 := by
  have h2 := h.stub hv
  have hl := h.len
  refine ⟨h2.len, h2.ins, h2.ids, h2.in9, h2.ok, fun u => ?_⟩
  show degA (pushN _ _ _) u ≤ 6
  rw [degA_push (by omega)]
  have := h.deg u
  split
  · rename_i e; rw [e]; omega
  · omega
def NtRel (w : World) (P PB PR base : Nat) (cv : Value) (m K N : Nat) (i : Value) (wr : World) : Prop := ∃ k : Nat, k ≤ K ∧ i = .int .i64 (k : Int) ∧ NAt w P PB PR base cv (m + 8 * (K - k)) (fun n => MadeN n N 6) wr
set_option maxRecDepth 100000 in
set_option maxHeartbeats 4000000 in
theorem cur_net (P m most : Nat) (cv : Value) (w : World) (h : CurR w P cv m) (hm : m ≤ 288230376151711000) (h1 : 1 ≤ most) (h2 : most ≤ 90) :
  Calls Tryz.prog 128 #[.pointer (some ⟨P, 0, none⟩), .int .i64 (most : Int)] w (DrawnN w P cv (m + 144115188076155872) w.heap.size fun n => ∃ N, 1 ≤ N ∧ N ≤ most + 2 ∧ MadeN n N 6) := by
 have H := Lib.hid h
 have hP := h.lt
 clear h
 obtain ⟨w1, hw1, hb1, HQ, hz1, HS1⟩ := box3 w (.slice none 0 0) (.slice none 0 0) (.slice none 0 0) 27
 obtain ⟨PR, hPR⟩ : ∃ z, z = w.heap.size := ⟨_, rfl⟩
 have HPR := Lib.hid hPR
 have hPRl : w.heap.size ≤ PR ∧ PR ≤ w.heap.size := by omega
 rw [← hPR] at HQ
 have HW1 := Lib.hid hw1
 have hP1 : P < w1.heap.size := by omega
 have hPR1 : PR < w1.heap.size := by omega
 clear hw1 hPR
 go_enter Tryz.func128, Tryz.ntmps128
 go_wp2_with fail
 rw [← HW1.out, ← HPR.out]
 refine (cur_pick P m cv _ w1 (H.out.below hb1 hP) (by omega)).mono ?_
 rintro e w2 ⟨x, rfl, hx, hc2, hg2⟩
 have hx6 : x < 6 := by omega
 have hB2 : Bp w1.heap.size P w1 w2 := Bp.grown hg2 (Nat.le_refl _)
 have HQ2 := Lib.hid ((hg2.block PR (by omega) (fun e => by have e' : PR = P := Option.some.inj e; omega)).trans HQ.out)
 have HC2 := Lib.hid hc2
 have hz2 := hg2.size
 clear hx hc2 hg2
 obtain rfl | rfl | rfl | rfl | rfl | rfl : x = 0 ∨ x = 1 ∨ x = 2 ∨ x = 3 ∨ x = 4 ∨ x = 5 := by omega
 ·
  go_wp2_with fail
  refine (cur_ring P (m + 2) most cv w2 HC2.out (by omega) h1 (by omega)).mono ?_
  rintro e w8 ⟨n8, val8, rfl, ⟨N, hN1, hN2, hQ8⟩, hk8, hc8, hb8⟩
  replace hk8 := OwnN.mono hk8 (show w1.heap.size ≤ w2.heap.size by omega)
  replace hb8 := hb8.mono (show w1.heap.size ≤ w2.heap.size by omega)
  obtain ⟨Z0, l0, ez0⟩ := own_slN (hk8.own .e trivial)
  obtain ⟨Z1, y1, ez1⟩ := own_slN (hk8.own .i trivial)
  obtain ⟨Z2, y2, ez2⟩ := own_slN (hk8.own .n trivial)
  have HEZ := Lib.hid (And.intro ez0 (And.intro ez1 ez2))
  rw [ez0, ez1, ez2]
  clear ez0 ez1 ez2
  generalize (rowN n8 val8 .e).len = s0 at HEZ ⊢
  generalize (rowN n8 val8 .i).len = s1 at HEZ ⊢
  generalize (rowN n8 val8 .n).len = s2 at HEZ ⊢
  have HRZ := Lib.hid ((hb8.block PR (by omega) (by omega)).trans HQ2.out)
  obtain ⟨p0, p1, p2, pf⟩ := cells3 HRZ
  obtain ⟨we, hwe, HE, hge'⟩ := set3 HRZ (.slice Z0 s0 l0) (.slice Z1 s1 y1) (.slice Z2 s2 y2)
  have HWE := Lib.hid hwe
  have hz8 := hb8.size
  have hKz := OwnN.mono (NetK.past hk8 HRZ.out no_tyN_net hge') (show w.heap.size ≤ w1.heap.size by omega)
  have hCz : CurR we P cv (m + 144115188076155872) := hc8.keep (by omega) fun b hb' => hge'.block b (by omega) (fun e => by have e' : b = PR := Option.some.inj e; omega)
  have hBz : Bp w.heap.size P w we := (Bp.below hb1).trans (((hB2.trans hb8).mono (by omega)).trans (Bp.other hge' (by omega) hPRl.1))
  have HFZ := Lib.hid (And.intro hKz (And.intro hCz hBz))
  have HQ8 := Lib.hid (show ∃ N, 1 ≤ N ∧ N ≤ most + 2 ∧ MadeN n8 N 6 from ⟨N, hN1, by omega, hQ8.more (by omega)⟩)
  clear hwe hge' hKz hCz hBz hk8 hc8 hb8 hQ8
  go_wp2_with fail
  rw [← HWE.out]
  obtain ⟨z0, z1, z2, -⟩ := cells3 HE
  exact bodyPost_ret (v := .agg #[.slice Z0 s0 l0, .slice Z1 s1 y1, .slice Z2 s2 y2]) (by simp [results, Tryz.results128, go_sem, z0, z1, z2]) rfl ⟨n8, val8, by rw [HEZ.out.1, HEZ.out.2.1, HEZ.out.2.2], HQ8.out, HFZ.out.1, HFZ.out.2.1, HFZ.out.2.2⟩
 ·
  go_wp2_with fail
  refine (cur_tree P (m + 2) most cv w2 HC2.out (by omega) h1 (by omega)).mono ?_
  rintro e w8 ⟨n8, val8, rfl, ⟨N, hN1, hN2, hQ8⟩, hk8, hc8, hb8⟩
  replace hk8 := OwnN.mono hk8 (show w1.heap.size ≤ w2.heap.size by omega)
  replace hb8 := hb8.mono (show w1.heap.size ≤ w2.heap.size by omega)
  obtain ⟨Z0, l0, ez0⟩ := own_slN (hk8.own .e trivial)
  obtain ⟨Z1, y1, ez1⟩ := own_slN (hk8.own .i trivial)
  obtain ⟨Z2, y2, ez2⟩ := own_slN (hk8.own .n trivial)
  have HEZ := Lib.hid (And.intro ez0 (And.intro ez1 ez2))
  rw [ez0, ez1, ez2]
  clear ez0 ez1 ez2
  generalize (rowN n8 val8 .e).len = s0 at HEZ ⊢
  generalize (rowN n8 val8 .i).len = s1 at HEZ ⊢
  generalize (rowN n8 val8 .n).len = s2 at HEZ ⊢
  have HRZ := Lib.hid ((hb8.block PR (by omega) (by omega)).trans HQ2.out)
  obtain ⟨p0, p1, p2, pf⟩ := cells3 HRZ
  obtain ⟨we, hwe, HE, hge'⟩ := set3 HRZ (.slice Z0 s0 l0) (.slice Z1 s1 y1) (.slice Z2 s2 y2)
  have HWE := Lib.hid hwe
  have hz8 := hb8.size
  have hKz := OwnN.mono (NetK.past hk8 HRZ.out no_tyN_net hge') (show w.heap.size ≤ w1.heap.size by omega)
  have hCz : CurR we P cv (m + 144115188076155872) := hc8.keep (by omega) fun b hb' => hge'.block b (by omega) (fun e => by have e' : b = PR := Option.some.inj e; omega)
  have hBz : Bp w.heap.size P w we := (Bp.below hb1).trans (((hB2.trans hb8).mono (by omega)).trans (Bp.other hge' (by omega) hPRl.1))
  have HFZ := Lib.hid (And.intro hKz (And.intro hCz hBz))
  have HQ8 := Lib.hid (show ∃ N, 1 ≤ N ∧ N ≤ most + 2 ∧ MadeN n8 N 6 from ⟨N, hN1, by omega, hQ8.more (by omega)⟩)
  clear hwe hge' hKz hCz hBz hk8 hc8 hb8 hQ8
  go_wp2_with fail
  rw [← HWE.out]
  obtain ⟨z0, z1, z2, -⟩ := cells3 HE
  exact bodyPost_ret (v := .agg #[.slice Z0 s0 l0, .slice Z1 s1 y1, .slice Z2 s2 y2]) (by simp [results, Tryz.results128, go_sem, z0, z1, z2]) rfl ⟨n8, val8, by rw [HEZ.out.1, HEZ.out.2.1, HEZ.out.2.2], HQ8.out, HFZ.out.1, HFZ.out.2.1, HFZ.out.2.2⟩
 ·
  go_wp2_with fail
  refine (cur_simple P (m + 2) most cv w2 HC2.out (by omega) h1 (by omega)).mono ?_
  rintro e w8 ⟨n8, val8, rfl, ⟨N, hN1, hN2, hQ8⟩, hk8, hc8, hb8⟩
  replace hk8 := OwnN.mono hk8 (show w1.heap.size ≤ w2.heap.size by omega)
  replace hb8 := hb8.mono (show w1.heap.size ≤ w2.heap.size by omega)
  obtain ⟨Z0, l0, ez0⟩ := own_slN (hk8.own .e trivial)
  obtain ⟨Z1, y1, ez1⟩ := own_slN (hk8.own .i trivial)
  obtain ⟨Z2, y2, ez2⟩ := own_slN (hk8.own .n trivial)
  have HEZ := Lib.hid (And.intro ez0 (And.intro ez1 ez2))
  rw [ez0, ez1, ez2]
  clear ez0 ez1 ez2
  generalize (rowN n8 val8 .e).len = s0 at HEZ ⊢
  generalize (rowN n8 val8 .i).len = s1 at HEZ ⊢
  generalize (rowN n8 val8 .n).len = s2 at HEZ ⊢
  have HRZ := Lib.hid ((hb8.block PR (by omega) (by omega)).trans HQ2.out)
  obtain ⟨p0, p1, p2, pf⟩ := cells3 HRZ
  obtain ⟨we, hwe, HE, hge'⟩ := set3 HRZ (.slice Z0 s0 l0) (.slice Z1 s1 y1) (.slice Z2 s2 y2)
  have HWE := Lib.hid hwe
  have hz8 := hb8.size
  have hKz := OwnN.mono (NetK.past hk8 HRZ.out no_tyN_net hge') (show w.heap.size ≤ w1.heap.size by omega)
  have hCz : CurR we P cv (m + 144115188076155872) := hc8.keep (by omega) fun b hb' => hge'.block b (by omega) (fun e => by have e' : b = PR := Option.some.inj e; omega)
  have hBz : Bp w.heap.size P w we := (Bp.below hb1).trans (((hB2.trans hb8).mono (by omega)).trans (Bp.other hge' (by omega) hPRl.1))
  have HFZ := Lib.hid (And.intro hKz (And.intro hCz hBz))
  have HQ8 := Lib.hid (show ∃ N, 1 ≤ N ∧ N ≤ most + 2 ∧ MadeN n8 N 6 from ⟨N, hN1, by omega, hQ8.more (by omega)⟩)
  clear hwe hge' hKz hCz hBz hk8 hc8 hb8 hQ8
  go_wp2_with fail
  rw [← HWE.out]
  obtain ⟨z0, z1, z2, -⟩ := cells3 HE
  exact bodyPost_ret (v := .agg #[.slice Z0 s0 l0, .slice Z1 s1 y1, .slice Z2 s2 y2]) (by simp [results, Tryz.results128, go_sem, z0, z1, z2]) rfl ⟨n8, val8, by rw [HEZ.out.1, HEZ.out.2.1, HEZ.out.2.2], HQ8.out, HFZ.out.1, HFZ.out.2.1, HFZ.out.2.2⟩
 ·
  go_wp2_with fail
  refine (cur_simple P (m + 2) most cv w2 HC2.out (by omega) h1 (by omega)).mono ?_
  rintro e w8 ⟨n8, val8, rfl, ⟨N, hN1, hN2, hQ8⟩, hk8, hc8, hb8⟩
  replace hk8 := OwnN.mono hk8 (show w1.heap.size ≤ w2.heap.size by omega)
  replace hb8 := hb8.mono (show w1.heap.size ≤ w2.heap.size by omega)
  obtain ⟨Z0, l0, ez0⟩ := own_slN (hk8.own .e trivial)
  obtain ⟨Z1, y1, ez1⟩ := own_slN (hk8.own .i trivial)
  obtain ⟨Z2, y2, ez2⟩ := own_slN (hk8.own .n trivial)
  have HEZ := Lib.hid (And.intro ez0 (And.intro ez1 ez2))
  rw [ez0, ez1, ez2]
  clear ez0 ez1 ez2
  generalize (rowN n8 val8 .e).len = s0 at HEZ ⊢
  generalize (rowN n8 val8 .i).len = s1 at HEZ ⊢
  generalize (rowN n8 val8 .n).len = s2 at HEZ ⊢
  have HRZ := Lib.hid ((hb8.block PR (by omega) (by omega)).trans HQ2.out)
  obtain ⟨p0, p1, p2, pf⟩ := cells3 HRZ
  obtain ⟨we, hwe, HE, hge'⟩ := set3 HRZ (.slice Z0 s0 l0) (.slice Z1 s1 y1) (.slice Z2 s2 y2)
  have HWE := Lib.hid hwe
  have hz8 := hb8.size
  have hKz := OwnN.mono (NetK.past hk8 HRZ.out no_tyN_net hge') (show w.heap.size ≤ w1.heap.size by omega)
  have hCz : CurR we P cv (m + 144115188076155872) := hc8.keep (by omega) fun b hb' => hge'.block b (by omega) (fun e => by have e' : b = PR := Option.some.inj e; omega)
  have hBz : Bp w.heap.size P w we := (Bp.below hb1).trans (((hB2.trans hb8).mono (by omega)).trans (Bp.other hge' (by omega) hPRl.1))
  have HFZ := Lib.hid (And.intro hKz (And.intro hCz hBz))
  have HQ8 := Lib.hid (show ∃ N, 1 ≤ N ∧ N ≤ most + 2 ∧ MadeN n8 N 6 from ⟨N, hN1, by omega, hQ8.more (by omega)⟩)
  clear hwe hge' hKz hCz hBz hk8 hc8 hb8 hQ8
  go_wp2_with fail
  rw [← HWE.out]
  obtain ⟨z0, z1, z2, -⟩ := cells3 HE
  exact bodyPost_ret (v := .agg #[.slice Z0 s0 l0, .slice Z1 s1 y1, .slice Z2 s2 y2]) (by simp [results, Tryz.results128, go_sem, z0, z1, z2]) rfl ⟨n8, val8, by rw [HEZ.out.1, HEZ.out.2.1, HEZ.out.2.2], HQ8.out, HFZ.out.1, HFZ.out.2.1, HFZ.out.2.2⟩
 ·
  have hq : ((most : Int)).tdiv 2 = ((most / 2 : Nat) : Int) := (Int.ofNat_tdiv most 2).symm
  have hwr : IntKind.i64.wrap (((most / 2 : Nat) : Int) + 1) = ((most / 2 + 1 : Nat) : Int) := by rw [IntWalk.i64_in _ (by omega)]; omega
  go_wp2_with fail
  have hq2 : ((most : Int) / 2 + 1) = ((most / 2 + 1 : Nat) : Int) := by omega
  rw [hq2]
  obtain ⟨mh, hmh⟩ : ∃ z, z = most / 2 + 1 := ⟨_, rfl⟩
  have hmhl : 1 ≤ mh ∧ mh ≤ 100 ∧ 2 * mh ≤ most + 2 := by omega
  rw [← hmh]
  refine (cur_simple P (m + 2) mh cv w2 HC2.out (by omega) hmhl.1 hmhl.2.1).mono ?_
  rintro e w3 ⟨n3, val3, rfl, ⟨N3, hN31, hN32, hQ3⟩, hk3, hc3, hb3⟩
  obtain ⟨ge, ce, x0⟩ := own_slN (hk3.own .e trivial)
  obtain ⟨C1, k1, x1⟩ := own_slN (hk3.own .i trivial)
  obtain ⟨C2, k2, x2⟩ := own_slN (hk3.own .n trivial)
  have HV := Lib.hid (And.intro x0 (And.intro x1 x2))
  rw [x0, x1, x2]
  clear x0 x1 x2
  generalize (rowN n3 val3 .e).len = n0 at HV ⊢
  generalize (rowN n3 val3 .i).len = n1 at HV ⊢
  generalize (rowN n3 val3 .n).len = n2 at HV ⊢
  obtain ⟨w4, hw4, hb4, HB, hz4, HS4⟩ := box3 w3 (.slice ge n0 ce) (.slice C1 n1 k1) (.slice C2 n2 k2) 27
  obtain ⟨PB, hPB⟩ : ∃ z, z = w3.heap.size := ⟨_, rfl⟩
  have HPB := Lib.hid hPB
  have hz3 := hb3.size
  have hPBl : w3.heap.size ≤ PB := by omega
  rw [← hPB] at HB hz4
  have HW4 := Lib.hid hw4
  have hz4' := hb4.size
  have HK4 := Lib.hid (hk3.up hb4)
  have HC4 := Lib.hid (hc3.below (hb4.mono (by omega : w1.heap.size ≤ w3.heap.size)) hP1)
  have HR4 := Lib.hid ((hb4.block PR (by omega)).trans ((hb3.block PR (by omega) (by omega)).trans HQ2.out))
  have HB4 := Lib.hid (show Bp w1.heap.size P w1 w4 from (hB2.trans (hb3.mono (by omega))).trans (Bp.below (hb4.mono (by omega))))
  obtain ⟨q0, q1, q2, qf⟩ := cells3 HB
  have eq0 := q0
  have eq1 := q1
  have eq2 := q2
  rw [hw4, hPB] at eq0 eq1 eq2
  have hmi := Lib.hid (show IntKind.i64.wrap (IntKind.i64.wrap ((most : Int) / 2) + 1) = (mh : Int) by rw [IntWalk.i64_in ((most : Int) / 2) (by omega), IntWalk.i64_in _ (by omega)]; omega)
  clear hw4 hPB hk3 hc3 hb3 hb4 hq2 hmh
  go_wp2_with fail
  rw [← HW4.out, ← HPB.out]
  clear eq0 eq1 eq2
  refine till_region (S := fun w' => w'.cell? ⟨PB, 0, none⟩ = some (.slice ge n0 ce) ∧ w'.cell? ⟨PB, 1, none⟩ = some (.slice C1 n1 k1) ∧ w'.cell? ⟨PB, 2, none⟩ = some (.slice C2 n2 k2)) (st := 7) (by kernel_rfl) ⟨q0, q1, q2⟩ (fun hHeld => ?_)
  refine utk 0 35 ?_
  refine utf 1 36 ?_
  refine utf 2 37 ?_
  refine utf 3 38 ?_
  refine utf 4 39 ?_
  refine ur 5 rfl (by kernel_rfl) (fun K hK => ?_)
  go_simp
  rw [hmi.out]
  go_at_call 126
  refine (cur_ring P (m + 2 + 144115188075955872) mh cv w4.drew (HC4.out.below (Below.refl w1.heap.size w4).drew hP1) (by omega) hmhl.1 hmhl.2.1).mono ?_
  rintro e w5 ⟨n5, val5, rfl, ⟨N5, hN51, hN52, hQ5⟩, hk5, hc5, hb5'⟩
  replace hk5 : NetK w5 w4.heap.size val5 n5 := hk5
  have hb5 : Bp w4.heap.size P w4 w5 := ⟨hb5'.os, hb5'.tape, hb5'.output, hb5'.size, hb5'.block⟩
  have hz5 := hb5.size
  have hg5 := hb5.grows
  have HK45 := Lib.hid (show NetK w5 w2.heap.size val3 n3 from OwnN.apart HK4.out hg5 fun j hj e => by have := ((HK4.out.own j hj).lt P e).1; omega)
  have hr5 := hk5.reads (hQ5.i64 (by omega) (by omega))
  obtain ⟨X0, f0, x0⟩ := own_slN (hk5.own .e trivial)
  obtain ⟨X1, f1, x1⟩ := own_slN (hk5.own .i trivial)
  obtain ⟨X2, f2, x2⟩ := own_slN (hk5.own .n trivial)
  have HE5 := Lib.hid (And.intro x0 (And.intro x1 x2))
  rw [x0, x1, x2]
  clear x0 x1 x2
  generalize (rowN n5 val5 .e).len = j0 at HE5 ⊢
  generalize (rowN n5 val5 .i).len = j1 at HE5 ⊢
  generalize (rowN n5 val5 .n).len = j2 at HE5 ⊢
  rw [HE5.out.1, HE5.out.2.1, HE5.out.2.2] at hr5
  have HR5 := Lib.hid hr5
  have HQ5 := Lib.hid hQ5
  have HR45 := Lib.hid ((hb5.block PR (by omega) (by omega)).trans HR4.out)
  have HB45 := Lib.hid (HB4.out.trans (hb5.mono (by omega)))
  have hPBP : PB ≠ P := by omega
  have HBX5 := Lib.hid ((hb5.block PB hz4 hPBP).trans HB.out)
  clear hk5 hb5 hb5' hg5 hr5 hQ5 q0 q1 q2 qf
  obtain ⟨q0, q1, q2, qf⟩ := cells3 HBX5
  refine hK.out (fun _ => ⟨q0, q1, q2⟩) ?_
  clear hK K
  try simp only [Act.put, pu]
  refine ur 6 rfl (by kernel_rfl) (fun K hK => ?_)
  go_simp
  go_at_call 157
  have hr45 := HK45.out.reads (hQ3.i64 (by omega) (by omega))
  rw [HV.out.1, HV.out.2.1, HV.out.2.2] at hr45
  refine (spec_neUnion _ _ _ _ _ _ n3 n5 N3 N5 5 w5 hr45 HR5.out hQ3 (HQ5.out.more (by omega)) (by omega) (by omega) (by omega)).mono ?_
  rintro e w6 ⟨val6, rfl, hk6, hb6⟩
  obtain ⟨Z0, l0, x0⟩ := own_slN (hk6.own .e trivial)
  obtain ⟨Z1, y1, x1⟩ := own_slN (hk6.own .i trivial)
  obtain ⟨Z2, y2, x2⟩ := own_slN (hk6.own .n trivial)
  have HEZ := Lib.hid (And.intro x0 (And.intro x1 x2))
  rw [x0, x1, x2]
  clear x0 x1 x2
  generalize (rowN (unionN n3 n5) val6 .e).len = s0 at HEZ ⊢
  generalize (rowN (unionN n3 n5) val6 .i).len = s1 at HEZ ⊢
  generalize (rowN (unionN n3 n5) val6 .n).len = s2 at HEZ ⊢
  have HK6 := Lib.hid hk6
  have HU6 := Lib.hid (show MadeN (unionN n3 n5) (N3 + N5) 6 from (hQ3.union (HQ5.out.more (by omega))).more (by omega))
  have hz6 := hb6.size
  have HR6 := Lib.hid ((hb6.block PR (by omega)).trans HR45.out)
  have HB6 := Lib.hid (HB45.out.trans (Bp.below (hb6.mono (by omega))))
  have HC6 := Lib.hid ((hc5.below (hb6.mono (by omega : w1.heap.size ≤ w5.heap.size)) hP1))
  have HBX6 := Lib.hid ((hb6.block PB (by omega)).trans HBX5.out)
  clear hk6 hb6 hr45 q0 q1 q2 qf
  obtain ⟨q0, q1, q2, qf⟩ := cells3 HBX6
  obtain ⟨p0, p1, p2, pf⟩ := cells3 HR6
  refine hK.out (fun _ => ⟨q0, q1, q2⟩) ?_
  clear hK K
  try simp only [Act.put, pu]
  refine ur 7 rfl (by kernel_rfl) (fun K hK => ?_)
  go_simp
  obtain ⟨we, hwe, HE7, hge'⟩ := set3 HR6 (.slice Z0 s0 l0) (.slice Z1 s1 y1) (.slice Z2 s2 y2)
  rw [← hwe]
  have hKz := OwnN.mono (NetK.past HK6.out HR6.out no_tyN_net hge') (show w.heap.size ≤ w5.heap.size by omega)
  have hCz : CurR we P cv (m + 144115188076155872) := HC6.out.keep (by omega) fun b hb' => hge'.block b (by omega) (fun e => by have e' : b = PR := Option.some.inj e; omega)
  have hBz : Bp w.heap.size P w we := (Bp.below hb1).trans ((HB6.out.mono (by omega)).trans (Bp.other hge' (by omega) hPRl.1))
  have HFZ := Lib.hid (And.intro hKz (And.intro hCz hBz))
  clear hwe hge' hKz hCz hBz q0 q1 q2 qf p0 p1 p2 pf
  refine hK.out (fun h' => till_no h' (by kernel_rfl)) ?_
  clear hK K
  try simp only [Act.put, pu]
  refine wpTill_done (by kernel_rfl) ?_ _
  go_wp2_with fail
  obtain ⟨z0, z1, z2, -⟩ := cells3 HE7
  exact bodyPost_ret (v := .agg #[.slice Z0 s0 l0, .slice Z1 s1 y1, .slice Z2 s2 y2]) (by simp [results, Tryz.results128, go_sem, z0, z1, z2]) rfl ⟨unionN n3 n5, val6, by rw [HEZ.out.1, HEZ.out.2.1, HEZ.out.2.2], ⟨N3 + N5, by omega, by omega, HU6.out⟩, HFZ.out.1, HFZ.out.2.1, HFZ.out.2.2⟩
 ·
  go_wp2_with fail
  refine (cur_pick P (m + 2) cv _ w2 HC2.out (by omega)).mono ?_
  rintro e w2' ⟨x, rfl, hx, hc2, hg2⟩
  have hxm : x < most := by omega
  have hwr : IntKind.i64.wrap (1 + (x : Int)) = ((1 + x : Nat) : Int) := by rw [IntWalk.i64_in _ (by omega)]; omega
  have hB2' : Bp w1.heap.size P w1 w2' := hB2.trans (Bp.grown hg2 (by omega))
  have HQ2' := Lib.hid ((hg2.block PR (by omega) (fun e => by have e' : PR = P := Option.some.inj e; omega)).trans HQ2.out)
  have HC2' := Lib.hid hc2
  have hz2' := hg2.size
  clear hx hc2 hg2
  obtain ⟨N, hN⟩ : ∃ z, z = 1 + x := ⟨_, rfl⟩
  rw [← hN] at hwr
  have hN1 : 1 ≤ N ∧ N ≤ most := by omega
  clear hN
  go_wp2_with fail
  refine (spec_neEmpty N w2' (by omega)).mono ?_
  rintro e w3 ⟨val, rfl, hk3, hb3⟩
  have hoe := hk3.own .e trivial
  replace hoe : w3.ownsRow w2'.heap.size 75 1 (val .e) (List.replicate N ([] : Ends)).length (valsN val (List.replicate N ([] : Ends)).length) := hoe
  rw [List.length_replicate] at hoe
  obtain ⟨ge, ce, x0⟩ := own_slN (hk3.own .e trivial)
  obtain ⟨C1, k1, x1⟩ := own_slN (hk3.own .i trivial)
  obtain ⟨C2, k2, x2⟩ := own_slN (hk3.own .n trivial)
  have HV := Lib.hid (And.intro x0 (And.intro x1 x2))
  rw [x0, x1, x2]
  clear x0 x1 x2
  generalize (rowN (emptyN N) val .e).len = n0 at HV ⊢
  generalize (rowN (emptyN N) val .i).len = n1 at HV ⊢
  generalize (rowN (emptyN N) val .n).len = n2 at HV ⊢
  have hn0 : n0 = N := by
   rw [HV.out.1] at hoe
   rcases hoe.2 with ⟨e1, e2⟩ | ⟨g, cap, cur, e1, _⟩
   ·
    have e3 := (Value.slice.inj e1).2.1; rw [e3]; exact e2.symm
   ·
    exact (Value.slice.inj e1).2.1
  subst hn0
  obtain ⟨w4, hw4, hb4, HB, hz4, HS4⟩ := box3 w3 (.slice ge n0 ce) (.slice C1 n1 k1) (.slice C2 n2 k2) 27
  obtain ⟨PB, hPB⟩ : ∃ z, z = w3.heap.size := ⟨_, rfl⟩
  have HPB := Lib.hid hPB
  have hz3 := hb3.size
  have hPBl : w3.heap.size ≤ PB := by omega
  rw [← hPB] at HB hz4
  have HW4 := Lib.hid hw4
  have hb24 := bl_trans hb3 hb4
  have H4 := Lib.hid (show NAt w1 P PB PR w1.heap.size cv (m + 2 + 2) (fun n => MadeN n n0 6) w4 from ⟨(HC2'.out.below (hb24.mono (by omega : w1.heap.size ≤ w2'.heap.size)) hP1), ⟨emptyN n0, val, (made_empty n0).more (by omega), NetB.of (OwnN.mono (hk3.up hb4) (by omega)) (by rw [HV.out.1, HV.out.2.1, HV.out.2.2]; exact HB.out)⟩, (hb24.block PR (by omega)).trans HQ2'.out, hB2'.trans (Bp.below (hb24.mono (by omega))), hP1, by omega, by omega, by omega⟩)
  have hwr2 : IntKind.i64.wrap (2 * (n0 : Int)) = ((2 * n0 : Nat) : Int) := by rw [IntWalk.i64_in _ (by omega)]; omega
  obtain ⟨q0, q1, q2, qf⟩ := cells3 HB
  have eq0 := q0
  rw [hw4, hPB] at eq0
  clear hw4 hPB hk3 hoe hwr q1 q2 qf
  go_wp2_with fail
  rw [← HW4.out, ← HPB.out]
  clear q0 eq0
  refine (cur_pick P (m + 2 + 2) cv _ w4 H4.out.cur (by omega)).mono ?_
  rintro e w5 ⟨x, rfl, hx, hc5, hg5⟩
  obtain ⟨K, hK⟩ : ∃ z, z = 2 * n0 := ⟨_, rfl⟩
  have hxN : x ≤ K := by omega
  have hK2 : K ≤ 200 := by omega
  have H5 := Lib.hid (H4.out.draw hc5 hg5 H4.out.bp.size)
  clear hx hc5 hg5 hwr2 hK
  go_wp2_with fail
  go_loopw [7] (fun i wr => NtRel w1 P PB PR w1.heap.size cv (m + 2 + 2 + 2) K n0 i wr) (fun i _ => (intOf i).toNat)
  case atStart => exact ⟨x, hxN, rfl, H5.out.more (by omega) fun _ h => h⟩
  case round =>
   obtain ⟨k, hkK, rfl, hat⟩ := hrel
   have HA := Lib.hid hat
   have hbs : w1.heap.size ≤ wr.heap.size := hat.bp.size
   clear hat
   obtain ⟨n', val', hQ, hnb⟩ := HA.out.net
   have hln := hQ.len
   obtain ⟨ge', ce', eke, -, -, -, -⟩ := hnb.k.outer (by omega)
   rw [hln] at eke
   obtain ⟨D1, l1, ek1⟩ := own_slN (hnb.k.own .i trivial)
   obtain ⟨D2, l2, ek2⟩ := own_slN (hnb.k.own .n trivial)
   have hbx := hnb.box
   rw [eke, ek1, ek2] at hbx
   have HEK := Lib.hid (And.intro eke (And.intro ek1 ek2))
   have HQN := Lib.hid hQ
   have HNB := Lib.hid hnb
   have HLN := Lib.hid hln
   have hge : ge' < wr.heap.size ∧ w1.heap.size ≤ ge' := by
    have h1 := (hnb.k.own .e trivial).lt ge' (by rw [eke]; rfl)
    exact ⟨h1.2, h1.1⟩
   have hPBr : PB < wr.heap.size := hnb.lt
   clear eke ek1 ek2 hQ hnb hln
   generalize (rowN n' val' .i).len = i1 at HEK hbx
   generalize (rowN n' val' .n).len = i2 at HEK hbx
   have HBX := Lib.hid hbx
   clear hbx
   obtain ⟨q0, q1, q2, qf⟩ := cells3 HBX
   have hPPB : PB ≠ P := by omega
   by_cases h0 : 0 < k
   ·
    have hk0 : ((k : Int) > 0) = True := eq_true (by omega)
    have hMk : m + 2 + 2 + 2 + 8 * (K - k) + 2 ≤ 2305843009213693952 := by omega
    go_wp2_with fail
    refine wp_region_held_drew (S := fun w' => w'.cell? ⟨PB, 0, none⟩ = some (.slice (some ⟨ge', 0, none⟩) n0 ce')) (by kernel_rfl) ?_ (fun hHeld => ?_)
    ·
     go_keep
    refine stk 0 57 ?_
    refine stk 1 58 ?_
    refine stk 2 59 ?_
    refine stk 3 60 ?_
    refine stk 5 62 ?_
    refine stk 6 63 ?_
    refine stk 7 64 ?_
    refine stk 8 65 ?_
    refine tr 4 rfl (by kernel_rfl) (fun K hK => ?_)
    go_simp
    go_at_call 40
    refine (cur_pick P _ cv _ wr.drew (HA.out.cur.below (Below.refl w1.heap.size wr).drew hP1) (by omega)).mono ?_
    rintro e w5 ⟨a, rfl, ha, hc5, hg5'⟩
    have haN : a < n0 := by omega
    have hg5 : wr.grownBy w5 (some P) := ⟨hg5'.os, hg5'.tape, hg5'.output, hg5'.size, hg5'.block⟩
    have H5 := Lib.hid (HA.out.draw hc5 hg5 hbs)
    have hz5 := hg5.size
    have HG5 := Lib.hid hg5
    clear q0 q1 q2 qf ha hc5 hg5'
    have q0 : w5.cell? ⟨PB, 0, none⟩ = some (.slice (some ⟨ge', 0, none⟩) n0 ce') := (cells3 (Lib.hid ((hg5.block PB hPBr (fun e => hPPB (Option.some.inj e))).trans HBX.out))).1
    refine hK.out _ _ ?_ (fun hHeld => ?_)
    ·
     go_keep
    clear hK K
    try simp only [Act.put, pu]
    refine tr 9 rfl (by kernel_rfl) (fun K hK => ?_)
    go_simp
    go_at_call 40
    refine (cur_pick P _ cv _ w5 H5.out.cur hMk).mono ?_
    rintro e w6 ⟨b, rfl, hb, hc6, hg6⟩
    have hbN : b < n0 := by omega
    have H6 := Lib.hid (H5.out.draw hc6 hg6 (by omega))
    have hz6 := hg6.size
    have HG6 := Lib.hid (grownT HG5.out hg6)
    clear q0 hb hc6 hg5 hg6
    have q0 : w6.cell? ⟨PB, 0, none⟩ = some (.slice (some ⟨ge', 0, none⟩) n0 ce') := (cells3 (Lib.hid ((HG6.out.block PB hPBr (fun e => hPPB (Option.some.inj e))).trans HBX.out))).1
    refine hK.out _ _ ?_ (fun hHeld => ?_)
    ·
     go_keep
    clear hK K
    try simp only [Act.put, pu]
    refine stk 10 8 ?_
    refine stk 11 9 ?_
    refine wpAnyH_done (by kernel_rfl) ?_ _
    clear q0
    have HBX6 := Lib.hid ((HG6.out.block PB hPBr (fun e => hPPB (Option.some.inj e))).trans HBX.out)
    obtain ⟨q0, q1, q2, qf⟩ := cells3 HBX6
    have HNB6 := Lib.hid (HNB.out.drawn HG6.out hP1 (by omega))
    have hwrk : IntKind.i64.wrap ((k : Int) - 1) = ((k - 1 : Nat) : Int) := by rw [IntWalk.i64_in _ (by omega)]; omega
    have HNX := Lib.hid (show NAt w1 P PB PR w1.heap.size cv (m + 2 + 2 + 2 + 8 * (K - (k - 1))) (fun n => MadeN n n0 6) w6 from H6.out.more (by omega) fun _ h => h)
    have hMo : m + 2 + 2 + 2 + 8 * (K - k) + 2 + 2 ≤ 2305843009213693952 := by omega
    have H6' := Lib.hid (H6.out.more (Nat.le_refl _) fun _ h => h)
    obtain ⟨Aa, ca, eka⟩ := own_slN (HNB6.out.k.rowOwn (rowAt_lt (k := a) (by rw [HLN.out]; exact haN)))
    obtain ⟨Ab, cb, ekb⟩ := own_slN (HNB6.out.k.rowOwn (rowAt_lt (k := b) (by rw [HLN.out]; exact hbN)))
    have ya := HNB6.out.k.outerCell (cap := ce') (k := a) (by rw [HLN.out]; exact HEK.out.1) (by rw [HLN.out]; exact haN)
    have yb := HNB6.out.k.outerCell (cap := ce') (k := b) (by rw [HLN.out]; exact HEK.out.1) (by rw [HLN.out]; exact hbN)
    rw [eka] at ya
    rw [ekb] at yb
    obtain ⟨da, hda'⟩ : ∃ z, z = degA n' a := ⟨_, rfl⟩
    obtain ⟨db, hdb'⟩ : ∃ z, z = degA n' b := ⟨_, rfl⟩
    rw [show (rowAt n' a).length = da from hda'.symm] at ya
    rw [show (rowAt n' b).length = db from hdb'.symm] at yb
    have HDA := Lib.hid hda'
    have HDB := Lib.hid hdb'
    have hai : (a : Int) < (n0 : Int) := by omega
    have hbi : (b : Int) < (n0 : Int) := by omega
    clear eka ekb hda' hdb'
    by_cases h5 : 4 < da
    ·
     have ka : ((da : Int) > 4) = True := eq_true (by omega)
     have ka' : decide ((4 : Int) < (da : Int)) = true := decide_eq_true (by omega)
     go_wp2_with fail
     go_roundw
     case rel => exact ⟨k - 1, by omega, by go_num, HNX.out⟩
     case measure => simp [intOf]; omega
    ·
     have ka : ((da : Int) > 4) = False := eq_false (by omega)
     have ka' : decide ((4 : Int) < (da : Int)) = false := decide_eq_false (by omega)
     by_cases h6 : 4 < db
     ·
      have kb : ((db : Int) > 4) = True := eq_true (by omega)
      have kb' : decide ((4 : Int) < (db : Int)) = true := decide_eq_true (by omega)
      go_wp2_with fail
      go_roundw
      case rel => exact ⟨k - 1, by omega, by go_num, HNX.out⟩
      case measure => simp [intOf]; omega
     ·
      have kb : ((db : Int) > 4) = False := eq_false (by omega)
      have kb' : decide ((4 : Int) < (db : Int)) = false := decide_eq_false (by omega)
      have HTJ := Lib.hid (HQN.out.join6 haN hbN (by have := HDA.out; omega) (by have := HDB.out; omega))
      have HTS := Lib.hid (HQN.out.stub6 haN (by have := HDA.out; omega))
      go_wp2_with fail
      refine (cur_one P _ cv _ w6 H6'.out.cur hMo).mono ?_
      rintro e w7 ⟨b1, rfl, hc7, hg7⟩
      have H7 := Lib.hid (H6'.out.draw hc7 hg7 (by omega))
      have HNB7 := Lib.hid (HNB6.out.drawn hg7 hP1 (by omega))
      have HBX7 := Lib.hid ((hg7.block PB HNB6.out.lt (fun e => hPPB (Option.some.inj e))).trans HBX6.out)
      have hz7 := hg7.size
      clear hc7 hg7 q0 q1 q2 qf ya yb
      obtain ⟨q0, q1, q2, qf⟩ := cells3 HBX7
      cases b1 with
      | true =>
       go_wp2_with fail
       have hC := spec_neStub _ _ _ n' a w7 (HNB7.out.k.reads (HQN.out.i64 (by omega) (by omega))) (HQN.out.small (by omega) (by omega)) (by rw [HLN.out]; omega)
       rw [HEK.out.1, HEK.out.2.1, HEK.out.2.2] at hC
       refine hC.mono ?_
       clear hC
       rintro e w8 ⟨val8, rfl, hk8, hb8⟩
       obtain ⟨ge8, ce8, x0⟩ := own_slN (hk8.own .e trivial)
       obtain ⟨E1, f1, x1⟩ := own_slN (hk8.own .i trivial)
       obtain ⟨E2, f2, x2⟩ := own_slN (hk8.own .n trivial)
       have HE8 := Lib.hid (And.intro x0 (And.intro x1 x2))
       rw [x0, x1, x2]
       clear x0 x1 x2
       generalize (rowN (stubN n' a) val8 .e).len = j0 at HE8 ⊢
       generalize (rowN (stubN n' a) val8 .i).len = j1 at HE8 ⊢
       generalize (rowN (stubN n' a) val8 .n).len = j2 at HE8 ⊢
       have H8 := Lib.hid (H7.out.up hb8 (by omega))
       have hz8 := hb8.size
       have H9 := Lib.hid ((H8.out.put (Q' := fun n => MadeN n n0 6) (OwnN.mono hk8 (by omega)) HTS.out (by omega) HE8.out.1 HE8.out.2.1 HE8.out.2.2).more (m' := m + 2 + 2 + 2 + 8 * (K - (k - 1))) (by omega) fun _ h => h)
       have HBX8 := Lib.hid ((hb8.block PB HNB7.out.lt).trans HBX7.out)
       obtain ⟨w9, hw9⟩ : ∃ z, z = (((w8.setCell ⟨PB, 0, none⟩ (.slice ge8 j0 ce8)).setCell ⟨PB, 1, none⟩ (.slice E1 j1 f1)).setCell ⟨PB, 2, none⟩ (.slice E2 j2 f2)) := ⟨_, rfl⟩
       rw [← hw9] at H9
       have HW9 := Lib.hid hw9
       clear hk8 hb8 hw9 q0 q1 q2 qf
       obtain ⟨q0, q1, q2, qf⟩ := cells3 HBX8
       go_wp2_with fail
       rw [← HW9.out]
       go_roundw
       case rel => exact ⟨k - 1, by omega, by go_num, H9.out⟩
       case measure => simp [intOf]; omega
      | false =>
       go_wp2_with fail
       have hC := spec_neJoin _ _ _ n' a b w7 (HNB7.out.k.reads (HQN.out.i64 (by omega) (by omega))) (HQN.out.small (by omega) (by omega)) (by rw [HLN.out]; omega) (by rw [HLN.out]; omega)
       rw [HEK.out.1, HEK.out.2.1, HEK.out.2.2] at hC
       refine hC.mono ?_
       clear hC
       rintro e w8 ⟨val8, rfl, hk8, hb8⟩
       obtain ⟨ge8, ce8, x0⟩ := own_slN (hk8.own .e trivial)
       obtain ⟨E1, f1, x1⟩ := own_slN (hk8.own .i trivial)
       obtain ⟨E2, f2, x2⟩ := own_slN (hk8.own .n trivial)
       have HE8 := Lib.hid (And.intro x0 (And.intro x1 x2))
       rw [x0, x1, x2]
       clear x0 x1 x2
       generalize (rowN (joinN n' a b) val8 .e).len = j0 at HE8 ⊢
       generalize (rowN (joinN n' a b) val8 .i).len = j1 at HE8 ⊢
       generalize (rowN (joinN n' a b) val8 .n).len = j2 at HE8 ⊢
       have H8 := Lib.hid (H7.out.up hb8 (by omega))
       have hz8 := hb8.size
       have H9 := Lib.hid ((H8.out.put (Q' := fun n => MadeN n n0 6) (OwnN.mono hk8 (by omega)) HTJ.out (by omega) HE8.out.1 HE8.out.2.1 HE8.out.2.2).more (m' := m + 2 + 2 + 2 + 8 * (K - (k - 1))) (by omega) fun _ h => h)
       have HBX8 := Lib.hid ((hb8.block PB HNB7.out.lt).trans HBX7.out)
       obtain ⟨w9, hw9⟩ : ∃ z, z = (((w8.setCell ⟨PB, 0, none⟩ (.slice ge8 j0 ce8)).setCell ⟨PB, 1, none⟩ (.slice E1 j1 f1)).setCell ⟨PB, 2, none⟩ (.slice E2 j2 f2)) := ⟨_, rfl⟩
       rw [← hw9] at H9
       have HW9 := Lib.hid hw9
       clear hk8 hb8 hw9 q0 q1 q2 qf
       obtain ⟨q0, q1, q2, qf⟩ := cells3 HBX8
       go_wp2_with fail
       rw [← HW9.out]
       go_roundw
       case rel => exact ⟨k - 1, by omega, by go_num, H9.out⟩
       case measure => simp [intOf]; omega
   ·
    obtain rfl : k = 0 := by omega
    have hMz : m + 2 + 2 + 2 + 8 * (K - 0) ≤ 576460752303423488 := by omega
    go_wp2_with fail
    have hC := cur_mixed P (m + 2 + 2 + 2 + 8 * (K - 0)) cv w1.heap.size n0 6 n' val' wr HA.out.cur hMz HNB.out.k hbs hP1 HQN.out (by omega) (by omega) (by omega)
    rw [HEK.out.1, HEK.out.2.1, HEK.out.2.2] at hC
    refine hC.mono ?_
    clear hC q0 q1 q2 qf
    rintro e w8 ⟨n8, val8, rfl, hQ8, hk8, hc8, hb8⟩
    obtain ⟨Z0, l0, ez0⟩ := own_slN (hk8.own .e trivial)
    obtain ⟨Z1, y1, ez1⟩ := own_slN (hk8.own .i trivial)
    obtain ⟨Z2, y2, ez2⟩ := own_slN (hk8.own .n trivial)
    have HEZ := Lib.hid (And.intro ez0 (And.intro ez1 ez2))
    rw [ez0, ez1, ez2]
    clear ez0 ez1 ez2
    generalize (rowN n8 val8 .e).len = s0 at HEZ ⊢
    generalize (rowN n8 val8 .i).len = s1 at HEZ ⊢
    generalize (rowN n8 val8 .n).len = s2 at HEZ ⊢
    have HRZ := Lib.hid ((hb8.block PR (by omega) (by omega)).trans HA.out.res)
    obtain ⟨p0, p1, p2, pf⟩ := cells3 HRZ
    obtain ⟨we, hwe, HE, hge'⟩ := set3 HRZ (.slice Z0 s0 l0) (.slice Z1 s1 y1) (.slice Z2 s2 y2)
    have HWE := Lib.hid hwe
    have hz8 := hb8.size
    have hKz := OwnN.mono (NetK.past hk8 HRZ.out no_tyN_net hge') (show w.heap.size ≤ w1.heap.size by omega)
    have hCz : CurR we P cv (m + 144115188076155872) := hc8.keep (by omega) fun b hb' => hge'.block b (by omega) (fun e => by have e' : b = PR := Option.some.inj e; omega)
    have hBz : Bp w.heap.size P w we := (Bp.below hb1).trans (((HA.out.bp.trans hb8).mono (by omega)).trans (Bp.other hge' (by omega) hPRl.1))
    have HFZ := Lib.hid (And.intro hKz (And.intro hCz hBz))
    have HQ8 := Lib.hid (show ∃ N, 1 ≤ N ∧ N ≤ most + 2 ∧ MadeN n8 N 6 from ⟨n0, hN1.1, by omega, hQ8⟩)
    clear hwe hge' hKz hCz hBz hk8 hc8 hb8 hQ8
    go_wp2_with fail
    rw [← HWE.out]
    obtain ⟨z0, z1, z2, -⟩ := cells3 HE
    exact bodyPost_ret (v := .agg #[.slice Z0 s0 l0, .slice Z1 s1 y1, .slice Z2 s2 y2]) (by simp [results, Tryz.results128, go_sem, z0, z1, z2]) rfl ⟨n8, val8, by rw [HEZ.out.1, HEZ.out.2.1, HEZ.out.2.2], HQ8.out, HFZ.out.1, HFZ.out.2.1, HFZ.out.2.2⟩
end Go.Proofs.YtdghoienjegffaaGreat
