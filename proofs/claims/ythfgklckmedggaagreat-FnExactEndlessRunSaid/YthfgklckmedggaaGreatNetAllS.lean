/-
  All successors of all situations and which are legal, the reference's side: cvAll, closed.
-/
import Derived.Test.YthfgklckmedggaaGreatNetLegN
import Derived.Test.YthfgklckmedggaaGreatNetSuccS
import Derived.Test.YthfgklckmedggaaGreatNetSort
import Derived.Test.YthfgklckmedggaaGreatPlainReach
namespace Go.Proofs.YthfgklckmedggaaGreat
open Go.RowKit
set_option linter.unusedVariables false
set_option linter.unusedSimpArgs false
noncomputable def nxL (n : Net) (r d : Int) (T : Nat) : List (List Int) := (List.range T).map fun (k : Nat) => nextN n r d k
theorem nxL_len (n : Net) (r d : Int) (T : Nat) : (nxL n r d T).length = T := by simp [nxL]
theorem nxL_at {n : Net} {r d : Int} {T k : Nat} (h : k < T) : (nxL n r d T)[k]? = some (nextN n r d k) := by unfold nxL; rw [List.getElem?_map, List.getElem?_range h]; rfl
theorem nxL_succ (n : Net) (r d : Int) (T : Nat) : nxL n r d (T + 1) = nxL n r d T ++ [nextN n r d T] := by unfold nxL; rw [List.range_succ, List.map_append]; rfl
theorem RowsSt.keep {base : Nat} {w w' : World} {v : Value} {xss : List (List Int)} (h : RowsSt base w v xss) (hs : w.heap.size ≤ w'.heap.size) (hk : ∀ b, base ≤ b → b < w.heap.size → w'.heap[b]? = w.heap[b]?) : RowsSt base w' v xss := by
  obtain ⟨vs, bs, h1, h2, h3, h4⟩ := h
  exact ⟨vs, bs, own_keep4 h1 hs hk, h2.keep fun b hb' => hk b (h4 b hb').1 (h4 b hb').2.1, h3, fun b hb' => by have := h4 b hb'; exact ⟨this.1, by omega, this.2.2⟩⟩
theorem RowsSt.reads {base : Nat} {w : World} {v : Value} {xss : List (List Int)} (h : RowsSt base w v xss) : RowsR w w.heap.size v xss := by
  obtain ⟨bs, k1, -, k3⟩ := h.fin
  exact k1.reads fun b hb => (k3 b hb).2
/-- A row of numbers does not lie in a block of rows' headers. -/
theorem IntsR.off2 {w w' : World} {B P : Nat} {v s1 s2 : Value} {xs : List Int} {t : TypeId} (h : IntsR w B v xs) (hP : w.heap[P]? = some (.cells #[s1, s2] t (0, 0))) (h1 : ∃ a b c, s1 = .slice a b c) (h2 : ∃ a b c, s2 = .slice a b c) (hk : ∀ b, b ≠ P → b < B → w'.heap[b]? = w.heap[b]?) : IntsR w' B v xs := by
  obtain ⟨A, c, e, k1, k2, k3⟩ := h.1
  refine ⟨⟨A, c, e, k1, k2, fun hn => ?_⟩, h.2⟩
  obtain ⟨ad, e', hb, hc⟩ := k3 hn
  have hne : ad.block ≠ P := fun ep => by
    have h0 := hc 0 _ (List.getElem?_eq_getElem hn)
    obtain ⟨ab, ao, sp⟩ := ad
    dsimp only at ep
    subst ep
    rw [List.getElem_map] at h0
    have hz : (Addr.add ⟨ab, ao, sp⟩ 0) = ⟨ab, ao, sp⟩ := by simp [Addr.add]
    rw [hz] at h0
    unfold World.cell? at h0
    simp only [hP] at h0
    obtain ⟨a1, b1, c1, rfl⟩ := h1
    obtain ⟨a2, b2, c2, rfl⟩ := h2
    revert h0
    cases sp <;> simp <;> rcases ao with _ | _ | ao <;> simp [intV]
  exact ⟨ad, e', hb, fun j u hu => (World.cell?_of_block (a := ad.add j) (by rw [block_add]; exact hk _ hne hb)).trans (hc j u hu)⟩
def CaRel (n : Net) (r d : Int) (T P : Nat) (lv : Value) (w : World) (i : Value) (wr : World) : Prop :=
  ∃ (j : Nat) (nv : Value), j ≤ T ∧ i = .int .i64 j ∧ Hid (wr.heap[P]? = some (.cells #[nv, lv] 50 (0, 0))) ∧ RowsSt w.heap.size wr nv (nxL n r d j) ∧ w.heap.size ≤ wr.heap.size ∧ (∀ b, b ≠ P → b < w.heap.size → wr.heap[b]? = w.heap[b]?) ∧ Below P w wr
set_option maxRecDepth 100000 in
set_option maxHeartbeats 2000000 in
theorem spec_cvAll (ve vi vn : Value) (n : Net) (r d : Int) (T : Nat) (w : World) (h : NetR w w.heap.size ve vi vn n) (hdm : dmB n r d = true) (hT : prodI (cnts n r) = T) :
    Calls Tryz.prog 32 #[.agg #[ve, vi, vn], .int .i64 r, .int .i64 d] w fun e w' => ∃ nv lv, e = .returned (.agg #[nv, lv]) ∧ RowsR w' w'.heap.size nv (nxL n r d T) ∧ BoolsR w' w'.heap.size lv (legL n r T) ∧ Below w.heap.size w w' := by
  obtain ⟨hcv, -, hd6⟩ := dm_cv hdm
  obtain ⟨hfew, hcap⟩ := few_of hcv
  have hc3 : T ≤ 3000 := by have := hfew.2.1; omega
  have HT := Lib.hid hT
  have HC := Lib.hid hcv
  have HD6 := Lib.hid hd6
  have HP := Lib.hid (cvB_net hcv)
  have HN64 := Lib.hid (fun (k : Nat) z (hz : z ∈ nextN n r d k) => show I64 z by
    have ha : askP n r := by
      unfold cvB at hcv
      rw [Bool.and_eq_true] at hcv
      exact propB_iff.1 hcv.1
    have := nextN_bd ha hfew (x := (k : Int)) (by omega) z hz
    have := hfew.2.1
    unfold I64
    omega)
  have HNL := Lib.hid (fun (k : Nat) => show (nextN n r d k).length ≤ 3000 by
    have ha : askP n r := by
      unfold cvB at hcv
      rw [Bool.and_eq_true] at hcv
      exact propB_iff.1 hcv.1
    have := rising_len (nextN_rising n r d k) (T := 3000) fun z hz => by
      have := nextN_bd ha hfew (x := (k : Int)) (by omega) z hz
      have := hfew.2.1
      omega
    exact this)
  clear hfew hcap hcv hd6 hT hdm
  obtain ⟨⟨A0, m0, c0, rfl⟩, ⟨A1, m1, c1, rfl⟩, A2, m2, c2, rfl⟩ := h.slices
  obtain ⟨w0, hw0, hB, HD, hz0, HS0⟩ := box3 w (.slice A0 m0 c0) (.slice A1 m1 c1) (.slice A2 m2 c2) 31
  have HN0 := Lib.hid h; have HN := Lib.hid (h.up hB); clear h
  have HW0 := Lib.hid hw0; clear hw0
  obtain ⟨q0, q1, q2, qf⟩ := cells3 HD
  obtain ⟨w1, hw1, hb1, HB1, hz1, HS1⟩ := box2 w0 (.slice none 0 0) (.slice none 0 0) 50
  have HW1 := Lib.hid hw1; clear hw1
  have hzhb1 := hb1.size
  clear q0 q1 q2 qf
  replace HD := bk HD hb1
  replace HN := Lib.hid (HN.out.up hb1)
  replace hB := bl_trans hB hb1
  obtain ⟨q0, q1, q2, qf⟩ := cells3 HD
  have e0 := q0; have e1 := q1; have e2 := q2
  rw [HW1.out, HW0.out] at e0 e1 e2
  go_enter Tryz.func32, Tryz.ntmps32
  go_wp2_with fail
  clear e0 e1 e2
  rw [← HW0.out, ← HW1.out]
  refine (spec_cvLegal _ _ _ n r T w1 HN.out HC.out HT.out).mono ?_
  rintro e w2 ⟨g, rfl, hbits, hg, hb2⟩
  have hgl := hbits.lt
  have HBI := Lib.hid hbits; clear hbits
  have hzhb2 := hb2.size
  clear q0 q1 q2 qf
  replace HD := bk HD hb2
  replace HN := Lib.hid (HN.out.up hb2)
  replace hB := bl_trans hB hb2
  obtain ⟨q0, q1, q2, qf⟩ := cells3 HD
  obtain ⟨w3, hw3, hb3, HB3, hz3, HS3⟩ := box2 w2 (.slice none 0 0) (.slice (some ⟨g, 0, none⟩) T T) 50
  have HW3 := Lib.hid hw3; clear hw3
  have hPw : w.heap.size < w2.heap.size := by have := hb2.size; have := hb1.size; omega
  have hzhb3 := hb3.size
  clear q0 q1 q2 qf
  replace HD := bk HD hb3
  replace HN := Lib.hid (HN.out.up hb3)
  replace hB := bl_trans hB hb3
  obtain ⟨q0, q1, q2, qf⟩ := cells3 HD
  have e0 := q0; have e1 := q1; have e2 := q2
  rw [HW3.out] at e0 e1 e2
  go_wp2_with fail
  rw [← HW3.out]
  clear e0 e1 e2
  refine (spec_ssCounts _ _ _ n r w3 HN.out HP.out).mono ?_
  rintro e w4 ⟨u, rfl, ⟨A', m', c', rfl⟩, hu, hb4⟩
  have HU := Lib.hid hu; clear hu
  have HBX := bk HB3 hb4
  have HBI4 := Lib.hid ((HBI.out.keep (hb3.block g hgl)).keep (hb4.block g (by omega)))
  have hz4 := hb4.size
  have hs0 := HS0.out
  have HT4 := Lib.hid (show w4.heap[w.heap.size + 1]? = some (.cells #[.slice none 0 0, .slice none 0 0] 50 (0, 0)) by
    rw [← hs0]
    exact (hb4.block _ (by omega)).trans ((hb3.block _ (by omega)).trans ((hb2.block _ (by omega)).trans HB1.out)))
  have hP2 : w.heap.size + 1 < w2.heap.size := by omega
  clear hs0
  have hzhb4 := hb4.size
  clear q0 q1 q2 qf
  replace HD := bk HD hb4
  replace HN := Lib.hid (HN.out.up hb4)
  replace hB := bl_trans hB hb4
  obtain ⟨q0, q1, q2, qf⟩ := cells3 HD
  have pl : w4.cell? ⟨w2.heap.size, 1, none⟩ = some (.slice (some ⟨g, 0, none⟩) T T) := cell_of_row _ _ 1 _ _ (0, 0) HBX.out
  go_wp2_with fail
  clear pl
  go_loopw [9, 20] (fun _ i wr => CaRel n r d T w2.heap.size (.slice (some ⟨g, 0, none⟩) T T) w4 i wr) (fun _ i _ => T - (intOf i).toNat)
  case atStart => exact ⟨0, .slice none 0 0, Nat.zero_le _, rfl, HBX, RowsSt.nil _ _, Nat.le_refl _, fun _ _ _ => rfl, Below.refl _ _⟩
  case round =>
    obtain ⟨j, nv, hj, rfl, hbx, hrs, hsz, hkp, hbl⟩ := hrel
    have hBr := hB.trans (hbl.mono (by omega))
    have HNr := Lib.hid ((HN0.out.below hBr).more hBr.size)
    have HDr := bk HD hbl
    have HRS := Lib.hid hrs
    have HKP := Lib.hid hkp
    obtain ⟨An, mn, cn, rfl⟩ := hrs.isSlice
    have HUr := Lib.hid ((HU.out.off2 HBX.out ⟨_, _, _, rfl⟩ ⟨_, _, _, rfl⟩ hkp).more hsz)
    have hPl := (Array.getElem?_eq_some_iff.1 hbx.out).1
    clear q0 q1 q2 qf hrs hkp
    obtain ⟨q0, q1, q2, qf⟩ := cells3 HDr
    by_cases hlt : j < T
    · have k7a : wr.cell? ⟨w2.heap.size, 0, none⟩ = some (.slice An mn cn) := cell_of_row _ _ 0 _ _ (0, 0) hbx.out
      have hnl := HNL.out j
      go_wp2_with fail
      refine wp_region_held_drew (S := fun w' => w'.cell? ⟨w.heap.size, 0, none⟩ = some (.slice A0 m0 c0) ∧ w'.cell? ⟨w.heap.size, 1, none⟩ = some (.slice A1 m1 c1) ∧ w'.cell? ⟨w.heap.size, 2, none⟩ = some (.slice A2 m2 c2)) (by kernel_rfl) ?_ (fun hHeld => ?_)
      · go_keep
      refine tk 0 23 rfl rfl ?_
      try simp only [Act.put, pu]
      refine tk 2 25 rfl rfl ?_
      try simp only [Act.put, pu]
      refine tk 3 26 rfl rfl ?_
      try simp only [Act.put, pu]
      refine tk 4 27 rfl rfl ?_
      try simp only [Act.put, pu]
      refine tk 5 28 rfl rfl ?_
      try simp only [Act.put, pu]
      refine tk 6 29 rfl rfl ?_
      try simp only [Act.put, pu]
      refine wpAnyH_ready (rs := [1, 7]) (by kernel_rfl) (by simp) ?_
      refine AllReadyH.cons rfl (fun K hK => ?_) (AllReadyH.cons rfl (fun K hK => ?_) AllReadyH.nil)
      · go_simp
        refine hK.out _ _ ?_ (fun hHeld => ?_)
        · go_keep
        clear hK K
        try simp only [Act.put, pu]
        refine wpAnyH_ready (rs := [7]) (by kernel_rfl) (by simp) ?_
        refine AllReadyH.cons rfl (fun K hK => ?_) AllReadyH.nil
        go_simp
        go_at_call 58
        refine (spec_cvNext _ _ _ _ n r d j wr.drew (HNr.out.up (Below.refl _ _).drew) HC.out HD6.out (HUr.out.below (Below.refl _ _).drew) (by omega) (by omega)).mono ?_
        rintro e w5 ⟨u, rfl, ⟨A5, m5, c5, rfl⟩, hu, how, hb5'⟩
        have hb5 : Below wr.heap.size wr w5 := (Below.refl _ _).drew.trans hb5'
        clear hb5' hu
        have hz5 := hb5.size
        obtain ⟨b1, o1, o2, o3⟩ := own_ints how (HN64.out j)
        obtain ⟨vs, hown5, hstep⟩ := HRS.out.step hsz hb5 o1 o2 o3
        rw [nxL_len] at hown5 hstep
        have HO5 := Lib.hid hown5
        have HSTP := Lib.hid hstep
        clear how o1 o2 o3 hown5 hstep
        have HD5 := bk HDr hb5
        replace k7a := (hb5.cell (p := ⟨w2.heap.size, 0, none⟩) hPl).trans k7a
        have HBX5 := bk hbx hb5 hPl
        clear q0 q1 q2 qf
        obtain ⟨q0, q1, q2, qf⟩ := cells3 HD5
        refine hK.out _ _ ?_ (fun hHeld => ?_)
        · go_keep
        clear hK K
        try simp only [Act.put, pu]
        refine wpAnyH_ready (rs := [8]) (by kernel_rfl) (by simp) ?_
        refine AllReadyH.cons rfl (fun K hK => ?_) AllReadyH.nil
        go_simp
        have k7b := Lib.cell?_alloc_some (.cells #[.slice A5 m5 c5] 23) k7a
        refine hK.out _ _ ?_ (fun hHeld => ?_)
        · go_keep
        clear hK K
        try simp only [Act.put, pu]
        refine wpAnyH_ready (rs := [9]) (by kernel_rfl) (by simp) ?_
        refine AllReadyH.cons rfl (fun K hK => ?_) AllReadyH.nil
        rw [if_pos (by rfl)]
        refine oper_append1 w5 (.tmp 24) (.tmp 31) 47 rfl w4.heap.size 23 _ 24 Tryz.underlying47 sliceInfo rfl _ _ _ rfl _ rfl rfl HO5.out (by unfold maxLen; omega) (by omega) (by omega) ?_
        intro v' w6 hown6 hbl6 hgr6 hlt6 hob6
        have hst6 := HSTP.out _ _ hown6 hgr6 hob6
        rw [← nxL_succ] at hst6
        obtain ⟨A6, m6, c6, rfl⟩ := hst6.isSlice
        have HST6 := Lib.hid hst6
        have HBL6 := Lib.hid hbl6
        have hz6 := hbl6.size
        clear hown6 hgr6 hob6 hst6
        have HBX6 := Lib.hid ((hbl6.block w2.heap.size (by omega)).trans HBX5.out)
        have k7c : w6.cell? ⟨w2.heap.size, 0, none⟩ = some (.slice An mn cn) := cell_of_row _ _ 0 _ _ (0, 0) HBX6.out
        have f7c : w6.frozen? ⟨w2.heap.size, 0, none⟩ = false := frozen_of_row _ _ 0 _ _ HBX6.out
        have HD6' := Lib.hid ((hbl6.block w.heap.size (by omega)).trans HD5.out)
        clear q0 q1 q2 qf
        obtain ⟨q0, q1, q2, qf⟩ := cells3 HD6'
        refine hK.out _ _ ?_ (fun hHeld => ?_)
        · go_keep
        clear hK K
        try simp only [Act.put, pu]
        refine tk 10 33 rfl rfl ?_
        try simp only [Act.put, pu]
        refine wpAnyH_ready (rs := [11]) (by kernel_rfl) (by simp) ?_
        refine AllReadyH.cons rfl (fun K hK => ?_) AllReadyH.nil
        go_simp
        obtain ⟨w7, hw7⟩ : ∃ z, z = w6.setCell ⟨w2.heap.size, 0, none⟩ (.slice A6 m6 c6) := ⟨_, rfl⟩
        rw [← hw7]
        have hk7 : ∀ b, b ≠ w2.heap.size → w7.heap[b]? = w6.heap[b]? := fun b hb => by rw [hw7]; exact Below.heap_setCell w6 _ _ _ (by simpa using hb)
        have hz7 : w7.heap.size = w6.heap.size := by rw [hw7]; exact size_setCell w6 _ _
        have HBX7 := Lib.hid (show w7.heap[w2.heap.size]? = some (.cells #[.slice A6 m6 c6, .slice (some ⟨g, 0, none⟩) T T] 50 (0, 0)) by rw [hw7]; have := heap_set_same (i := 0) HBX6.out (.slice A6 m6 c6); simpa using this)
        have HBP7 := Lib.hid (show Below w2.heap.size wr w7 by rw [hw7]; exact Below.setCell (p := ⟨w2.heap.size, 0, none⟩) ((show Below w2.heap.size wr w5 from hb5.mono (by omega)).trans (show Below w2.heap.size w5 w6 from HBL6.out.mono (by omega))) (Nat.le_refl _) _)
        have HK7 := Lib.hid hk7
        have HD7 := Lib.hid ((hk7 w.heap.size (by omega)).trans HD6'.out)
        clear q0 q1 q2 qf k7c f7c hw7 hk7
        obtain ⟨q0, q1, q2, qf⟩ := cells3 HD7
        refine hK.out _ _ ?_ (fun hHeld => ?_)
        · go_keep
        clear hK K
        try simp only [Act.put, pu]
        refine wpAnyH_done (by kernel_rfl) ?_ _
        go_wp2_with fail
        go_roundw
        case rel =>
          refine ⟨j + 1, _, by omega, by go_num, HBX7, HST6.out.keep (by omega) (fun b hb _ => HK7.out b (by omega)), by omega, fun b hb hbz => ?_, hbl.trans HBP7.out⟩
          exact (HK7.out b hb).trans ((HBL6.out.block b hbz).trans ((hb5.block b (by omega)).trans (HKP.out b hb hbz)))
        case measure => simp [intOf]; omega
      · go_simp
        go_at_call 58
        refine (spec_cvNext _ _ _ _ n r d j wr.drew (HNr.out.up (Below.refl _ _).drew) HC.out HD6.out (HUr.out.below (Below.refl _ _).drew) (by omega) (by omega)).mono ?_
        rintro e w5 ⟨u, rfl, ⟨A5, m5, c5, rfl⟩, hu, how, hb5'⟩
        have hb5 : Below wr.heap.size wr w5 := (Below.refl _ _).drew.trans hb5'
        clear hb5' hu
        have hz5 := hb5.size
        obtain ⟨b1, o1, o2, o3⟩ := own_ints how (HN64.out j)
        obtain ⟨vs, hown5, hstep⟩ := HRS.out.step hsz hb5 o1 o2 o3
        rw [nxL_len] at hown5 hstep
        have HO5 := Lib.hid hown5
        have HSTP := Lib.hid hstep
        clear how o1 o2 o3 hown5 hstep
        have HD5 := bk HDr hb5
        replace k7a := (hb5.cell (p := ⟨w2.heap.size, 0, none⟩) hPl).trans k7a
        have HBX5 := bk hbx hb5 hPl
        clear q0 q1 q2 qf
        obtain ⟨q0, q1, q2, qf⟩ := cells3 HD5
        refine hK.out _ _ ?_ (fun hHeld => ?_)
        · go_keep
        clear hK K
        try simp only [Act.put, pu]
        refine wpAnyH_ready (rs := [1, 8]) (by kernel_rfl) (by simp) ?_
        refine AllReadyH.cons rfl (fun K hK => ?_) (AllReadyH.cons rfl (fun K hK => ?_) AllReadyH.nil)
        · go_simp
          refine hK.out _ _ ?_ (fun hHeld => ?_)
          · go_keep
          clear hK K
          try simp only [Act.put, pu]
          refine wpAnyH_ready (rs := [8]) (by kernel_rfl) (by simp) ?_
          refine AllReadyH.cons rfl (fun K hK => ?_) AllReadyH.nil
          go_simp
          have k7b := Lib.cell?_alloc_some (.cells #[.slice A5 m5 c5] 23) k7a
          refine hK.out _ _ ?_ (fun hHeld => ?_)
          · go_keep
          clear hK K
          try simp only [Act.put, pu]
          refine wpAnyH_ready (rs := [9]) (by kernel_rfl) (by simp) ?_
          refine AllReadyH.cons rfl (fun K hK => ?_) AllReadyH.nil
          rw [if_pos (by rfl)]
          refine oper_append1 w5 (.tmp 24) (.tmp 31) 47 rfl w4.heap.size 23 _ 24 Tryz.underlying47 sliceInfo rfl _ _ _ rfl _ rfl rfl HO5.out (by unfold maxLen; omega) (by omega) (by omega) ?_
          intro v' w6 hown6 hbl6 hgr6 hlt6 hob6
          have hst6 := HSTP.out _ _ hown6 hgr6 hob6
          rw [← nxL_succ] at hst6
          obtain ⟨A6, m6, c6, rfl⟩ := hst6.isSlice
          have HST6 := Lib.hid hst6
          have HBL6 := Lib.hid hbl6
          have hz6 := hbl6.size
          clear hown6 hgr6 hob6 hst6
          have HBX6 := Lib.hid ((hbl6.block w2.heap.size (by omega)).trans HBX5.out)
          have k7c : w6.cell? ⟨w2.heap.size, 0, none⟩ = some (.slice An mn cn) := cell_of_row _ _ 0 _ _ (0, 0) HBX6.out
          have f7c : w6.frozen? ⟨w2.heap.size, 0, none⟩ = false := frozen_of_row _ _ 0 _ _ HBX6.out
          have HD6' := Lib.hid ((hbl6.block w.heap.size (by omega)).trans HD5.out)
          clear q0 q1 q2 qf
          obtain ⟨q0, q1, q2, qf⟩ := cells3 HD6'
          refine hK.out _ _ ?_ (fun hHeld => ?_)
          · go_keep
          clear hK K
          try simp only [Act.put, pu]
          refine tk 10 33 rfl rfl ?_
          try simp only [Act.put, pu]
          refine wpAnyH_ready (rs := [11]) (by kernel_rfl) (by simp) ?_
          refine AllReadyH.cons rfl (fun K hK => ?_) AllReadyH.nil
          go_simp
          obtain ⟨w7, hw7⟩ : ∃ z, z = w6.setCell ⟨w2.heap.size, 0, none⟩ (.slice A6 m6 c6) := ⟨_, rfl⟩
          rw [← hw7]
          have hk7 : ∀ b, b ≠ w2.heap.size → w7.heap[b]? = w6.heap[b]? := fun b hb => by rw [hw7]; exact Below.heap_setCell w6 _ _ _ (by simpa using hb)
          have hz7 : w7.heap.size = w6.heap.size := by rw [hw7]; exact size_setCell w6 _ _
          have HBX7 := Lib.hid (show w7.heap[w2.heap.size]? = some (.cells #[.slice A6 m6 c6, .slice (some ⟨g, 0, none⟩) T T] 50 (0, 0)) by rw [hw7]; have := heap_set_same (i := 0) HBX6.out (.slice A6 m6 c6); simpa using this)
          have HBP7 := Lib.hid (show Below w2.heap.size wr w7 by rw [hw7]; exact Below.setCell (p := ⟨w2.heap.size, 0, none⟩) ((show Below w2.heap.size wr w5 from hb5.mono (by omega)).trans (show Below w2.heap.size w5 w6 from HBL6.out.mono (by omega))) (Nat.le_refl _) _)
          have HK7 := Lib.hid hk7
          have HD7 := Lib.hid ((hk7 w.heap.size (by omega)).trans HD6'.out)
          clear q0 q1 q2 qf k7c f7c hw7 hk7
          obtain ⟨q0, q1, q2, qf⟩ := cells3 HD7
          refine hK.out _ _ ?_ (fun hHeld => ?_)
          · go_keep
          clear hK K
          try simp only [Act.put, pu]
          refine wpAnyH_done (by kernel_rfl) ?_ _
          go_wp2_with fail
          go_roundw
          case rel =>
            refine ⟨j + 1, _, by omega, by go_num, HBX7, HST6.out.keep (by omega) (fun b hb _ => HK7.out b (by omega)), by omega, fun b hb hbz => ?_, hbl.trans HBP7.out⟩
            exact (HK7.out b hb).trans ((HBL6.out.block b hbz).trans ((hb5.block b (by omega)).trans (HKP.out b hb hbz)))
          case measure => simp [intOf]; omega
        · go_simp
          have k7b := Lib.cell?_alloc_some (.cells #[.slice A5 m5 c5] 23) k7a
          refine hK.out _ _ ?_ (fun hHeld => ?_)
          · go_keep
          clear hK K
          try simp only [Act.put, pu]
          refine wpAnyH_ready (rs := [1]) (by kernel_rfl) (by simp) ?_
          refine AllReadyH.cons rfl (fun K hK => ?_) AllReadyH.nil
          go_simp
          refine hK.out _ _ ?_ (fun hHeld => ?_)
          · go_keep
          clear hK K
          try simp only [Act.put, pu]
          refine wpAnyH_ready (rs := [9]) (by kernel_rfl) (by simp) ?_
          refine AllReadyH.cons rfl (fun K hK => ?_) AllReadyH.nil
          rw [if_pos (by rfl)]
          refine oper_append1 w5 (.tmp 24) (.tmp 31) 47 rfl w4.heap.size 23 _ 24 Tryz.underlying47 sliceInfo rfl _ _ _ rfl _ rfl rfl HO5.out (by unfold maxLen; omega) (by omega) (by omega) ?_
          intro v' w6 hown6 hbl6 hgr6 hlt6 hob6
          have hst6 := HSTP.out _ _ hown6 hgr6 hob6
          rw [← nxL_succ] at hst6
          obtain ⟨A6, m6, c6, rfl⟩ := hst6.isSlice
          have HST6 := Lib.hid hst6
          have HBL6 := Lib.hid hbl6
          have hz6 := hbl6.size
          clear hown6 hgr6 hob6 hst6
          have HBX6 := Lib.hid ((hbl6.block w2.heap.size (by omega)).trans HBX5.out)
          have k7c : w6.cell? ⟨w2.heap.size, 0, none⟩ = some (.slice An mn cn) := cell_of_row _ _ 0 _ _ (0, 0) HBX6.out
          have f7c : w6.frozen? ⟨w2.heap.size, 0, none⟩ = false := frozen_of_row _ _ 0 _ _ HBX6.out
          have HD6' := Lib.hid ((hbl6.block w.heap.size (by omega)).trans HD5.out)
          clear q0 q1 q2 qf
          obtain ⟨q0, q1, q2, qf⟩ := cells3 HD6'
          refine hK.out _ _ ?_ (fun hHeld => ?_)
          · go_keep
          clear hK K
          try simp only [Act.put, pu]
          refine tk 10 33 rfl rfl ?_
          try simp only [Act.put, pu]
          refine wpAnyH_ready (rs := [11]) (by kernel_rfl) (by simp) ?_
          refine AllReadyH.cons rfl (fun K hK => ?_) AllReadyH.nil
          go_simp
          obtain ⟨w7, hw7⟩ : ∃ z, z = w6.setCell ⟨w2.heap.size, 0, none⟩ (.slice A6 m6 c6) := ⟨_, rfl⟩
          rw [← hw7]
          have hk7 : ∀ b, b ≠ w2.heap.size → w7.heap[b]? = w6.heap[b]? := fun b hb => by rw [hw7]; exact Below.heap_setCell w6 _ _ _ (by simpa using hb)
          have hz7 : w7.heap.size = w6.heap.size := by rw [hw7]; exact size_setCell w6 _ _
          have HBX7 := Lib.hid (show w7.heap[w2.heap.size]? = some (.cells #[.slice A6 m6 c6, .slice (some ⟨g, 0, none⟩) T T] 50 (0, 0)) by rw [hw7]; have := heap_set_same (i := 0) HBX6.out (.slice A6 m6 c6); simpa using this)
          have HBP7 := Lib.hid (show Below w2.heap.size wr w7 by rw [hw7]; exact Below.setCell (p := ⟨w2.heap.size, 0, none⟩) ((show Below w2.heap.size wr w5 from hb5.mono (by omega)).trans (show Below w2.heap.size w5 w6 from HBL6.out.mono (by omega))) (Nat.le_refl _) _)
          have HK7 := Lib.hid hk7
          have HD7 := Lib.hid ((hk7 w.heap.size (by omega)).trans HD6'.out)
          clear q0 q1 q2 qf k7c f7c hw7 hk7
          obtain ⟨q0, q1, q2, qf⟩ := cells3 HD7
          refine hK.out _ _ ?_ (fun hHeld => ?_)
          · go_keep
          clear hK K
          try simp only [Act.put, pu]
          refine wpAnyH_done (by kernel_rfl) ?_ _
          go_wp2_with fail
          go_roundw
          case rel =>
            refine ⟨j + 1, _, by omega, by go_num, HBX7, HST6.out.keep (by omega) (fun b hb _ => HK7.out b (by omega)), by omega, fun b hb hbz => ?_, hbl.trans HBP7.out⟩
            exact (HK7.out b hb).trans ((HBL6.out.block b hbz).trans ((hb5.block b (by omega)).trans (HKP.out b hb hbz)))
          case measure => simp [intOf]; omega
    · obtain rfl : j = T := by omega
      have pl : wr.cell? ⟨w2.heap.size, 1, none⟩ = some (.slice (some ⟨g, 0, none⟩) j j) := cell_of_row _ _ 1 _ _ (0, 0) hbx.out
      have pn : wr.cell? ⟨w2.heap.size, 0, none⟩ = some (.slice An mn cn) := cell_of_row _ _ 0 _ _ (0, 0) hbx.out
      have HTr := Lib.hid ((HKP.out _ (by omega) (by omega)).trans HT4.out)
      obtain ⟨t0, t1, tf⟩ := cells2 HTr
      go_wp2_with fail
      obtain ⟨wa, hwa⟩ : ∃ z, z = wr.setCell ⟨w.heap.size + 1, 0, none⟩ (.slice An mn cn) := ⟨_, rfl⟩
      obtain ⟨wb, hwb⟩ : ∃ z, z = wa.setCell ⟨w.heap.size + 1, 1, none⟩ (.slice (some ⟨g, 0, none⟩) j j) := ⟨_, rfl⟩
      rw [← hwa, ← hwb]
      have hta : wa.heap[w.heap.size + 1]? = some (.cells #[.slice An mn cn, .slice none 0 0] 50 (0, 0)) := by rw [hwa]; have := heap_set_same (i := 0) HTr.out (.slice An mn cn); simpa using this
      have htb : wb.heap[w.heap.size + 1]? = some (.cells #[.slice An mn cn, .slice (some ⟨g, 0, none⟩) j j] 50 (0, 0)) := by rw [hwb]; have := heap_set_same (i := 1) hta (.slice (some ⟨g, 0, none⟩) j j); simpa using this
      have hkb : ∀ b, b ≠ w.heap.size + 1 → wb.heap[b]? = wr.heap[b]? := fun b hb => by
        rw [hwb, hwa]
        exact (Below.heap_setCell _ _ _ _ (by simpa using hb)).trans (Below.heap_setCell _ _ _ _ (by simpa using hb))
      have hsb : wb.heap.size = wr.heap.size := by rw [hwb, hwa]; exact (size_setCell _ _ _).trans (size_setCell _ _ _)
      have hBb : Below w.heap.size w wb := by rw [hwb, hwa]; exact Below.setCell (p := ⟨w.heap.size + 1, 1, none⟩) (Below.setCell (p := ⟨w.heap.size + 1, 0, none⟩) hBr (by show w.heap.size ≤ w.heap.size + 1; omega) _) (by show w.heap.size ≤ w.heap.size + 1; omega) _
      obtain ⟨z0, z1, -⟩ := cells2 (Lib.hid htb)
      refine bodyPost_ret (v := .agg #[.slice An mn cn, .slice (some ⟨g, 0, none⟩) j j]) (by simp [results, Tryz.results32, go_sem, z0, z1]) rfl ⟨_, _, rfl, (HRS.out.keep (by omega) fun b hb _ => hkb b (by omega)).reads, ?_, hBb⟩
      have hg8 : BitsAt wb g (legL n r j) := HBI4.out.keep ((hkb g (by omega)).trans (HKP.out g (by omega) (by omega)))
      have := hg8.reads (by rw [legL_len]; exact hc3) (B := wb.heap.size) (by omega)
      rw [legL_len] at this
      exact this
/-- Rows of successors and truths that fit. -/
structure MapOk (N : List (List Int)) (d : List Bool) (T : Nat) : Prop where
  n : N.length = T
  d : d.length = T
  t : T ≤ 3000
  r : ∀ l ∈ N, l.length ≤ 3000 ∧ ∀ y ∈ l, 0 ≤ y ∧ y < T
def closedP (N : List (List Int)) (d : List Bool) : Prop := ∀ (k : Nat) (l : List Int), N[k]? = some l → d.getD k false = true → ∀ y ∈ l, d.getD y.toNat false = true
noncomputable def closedB (N : List (List Int)) (d : List Bool) : Bool := propB (closedP N d)
def ClTo (N : List (List Int)) (d : List Bool) (k : Nat) : Prop := ∀ (j : Nat) (l : List Int), j < k → N[j]? = some l → d.getD j false = true → ∀ y ∈ l, d.getD y.toNat false = true
theorem ClTo.next {N : List (List Int)} {d : List Bool} {k : Nat} {l : List Int} (h : ClTo N d k) (hl : N[k]? = some l) (hk : d.getD k false = true → ∀ y ∈ l, d.getD y.toNat false = true) : ClTo N d (k + 1) := fun j m hj hm => by
  rcases Nat.lt_or_ge j k with h1 | h1
  · exact h j m h1 hm
  · obtain rfl : j = k := by omega
    obtain rfl := Option.some.inj (hl.symm.trans hm)
    exact hk
theorem ClTo.fin {N : List (List Int)} {d : List Bool} (h : ClTo N d N.length) : closedP N d := fun k l hl => h k l (List.getElem?_eq_some_iff.1 hl).1 hl
def CsRel (N : List (List Int)) (d : List Bool) (w : World) (i : Value) (wr : World) : Prop := w = wr ∧ ∃ k : Nat, k ≤ N.length ∧ i = .int .i64 k ∧ ClTo N d k
def CtoRel (d : List Bool) (b : Bool) (l : List Int) (w : World) (i : Value) (wr : World) : Prop := w = wr ∧ ∃ m : Nat, m ≤ l.length ∧ i = .int .i64 m ∧ ∀ y ∈ l.take m, b = true → d.getD y.toNat false = true
theorem take_more {l : List Int} {m : Nat} {y : Int} {P : Int → Prop} (h : ∀ z ∈ l.take m, P z) (hy : l[m]? = some y) (hp : P y) : ∀ z ∈ l.take (m + 1), P z := fun z hz => by
  rw [List.take_add_one, hy, List.mem_append] at hz
  rcases hz with hz | hz
  · exact h z hz
  · simp at hz; subst hz; exact hp
set_option maxRecDepth 100000 in
set_option maxHeartbeats 1000000 in
theorem spec_closed (nv lv : Value) (N : List (List Int)) (d : List Bool) (T : Nat) (w : World) (hn : RowsR w w.heap.size nv N) (hd : BoolsR w w.heap.size lv d) (hm : MapOk N d T) :
    Calls Tryz.prog 33 #[.agg #[nv, lv]] w fun e w' => e = .returned (.bool (closedB N d)) ∧ Below w.heap.size w w' := by
  obtain ⟨mn, md, mt, mr⟩ := hm
  obtain ⟨A8, c8, rfl, hc8, hcm, hrow⟩ := hn.open_
  obtain ⟨A9, c9, rfl, hc9, hcm9, hrow9⟩ := hd.open_
  have HROW := Lib.hid hrow; clear hrow hn
  have HROW9 := Lib.hid hrow9; clear hrow9 hd
  have HMR := Lib.hid mr; clear mr
  unfold maxLen at hcm hcm9
  have hnT : T ≤ N.length ∧ N.length ≤ T := by omega
  have hdT : T ≤ d.length ∧ d.length ≤ T := by omega
  clear mn md
  obtain ⟨w1, hw1, hb1, HB1, hz1, HS1⟩ := box2 w (.slice A8 N.length c8) (.slice A9 d.length c9) 50
  obtain ⟨p0, p1, pf⟩ := cells2 HB1
  have e0 := p0
  rw [hw1] at e0
  have HW1 := Lib.hid hw1; clear hw1
  go_enter Tryz.func33, Tryz.ntmps33
  go_wp2_with fail
  rw [← HW1.out]
  clear e0
  go_loopw [3, 4, 10] (fun _ _ i wr => CsRel N d w1 i wr) (fun _ _ i _ => N.length - (intOf i).toNat)
  case atStart => exact ⟨rfl, 0, Nat.zero_le _, rfl, fun _ _ h => by omega⟩
  case round =>
    obtain ⟨rfl, k, hk, rfl, hcl⟩ := hrel
    have HCL := Lib.hid hcl; clear hcl
    by_cases hlt : k < N.length
    · obtain ⟨l, hl⟩ : ∃ l, N[k]? = some l := ⟨_, List.getElem?_eq_getElem hlt⟩
      obtain ⟨ad, rfl, hab, hrow⟩ := HROW.out (by omega)
      obtain ⟨u, hcu, hru⟩ := hrow k l hl
      obtain ⟨A5, c5, rfl, hc5, hcm5, hrow5⟩ := hru.open_
      unfold maxLen at hcm5
      have HR5 := Lib.hid hrow5
      obtain ⟨hl3, hly⟩ := HMR.out l (List.mem_of_getElem? hl)
      have HLY := Lib.hid hly
      have hcr := (hb1.cell (p := ad.add k) (by rw [block_add]; exact hab)).trans hcu
      obtain ⟨b, hb⟩ : ∃ b, d[k]? = some b := ⟨_, List.getElem?_eq_getElem (by omega)⟩
      obtain ⟨a9, rfl, hab9, hr9⟩ := HROW9.out (by omega)
      have hcb := (hb1.cell (p := a9.add k) (by rw [block_add]; exact hab9)).trans (hr9 k b hb)
      have HR9 := Lib.hid hr9
      have HL := Lib.hid hl
      have HGB := Lib.hid (show d.getD k false = b from getDa hb)
      have hkd : k < d.length := by omega
      clear hrow hcu hru hrow5 hly hl hb hr9
      go_wp2_with fail
      go_loopw [6, 17] (fun _ i wr => CtoRel d b l w1 i wr) (fun _ i _ => l.length - (intOf i).toNat)
      case atStart => exact ⟨rfl, 0, Nat.zero_le _, rfl, fun y hy => by simp at hy⟩
      case round =>
        obtain ⟨rfl, m, hm, rfl, hto⟩ := hrel
        have HTO := Lib.hid hto; clear hto
        by_cases hltm : m < l.length
        · obtain ⟨y, hy⟩ : ∃ y, l[m]? = some y := ⟨_, List.getElem?_eq_getElem hltm⟩
          obtain ⟨hy0, hy1⟩ := HLY.out y (List.mem_of_getElem? hy)
          obtain ⟨yn, rfl⟩ : ∃ yn : Nat, y = yn := ⟨y.toNat, by omega⟩
          obtain ⟨a5, rfl, hab5, hr5⟩ := HR5.out (by omega)
          have hcy := (hb1.cell (p := a5.add m) (by rw [block_add]; exact hab5)).trans (hr5 m _ hy)
          obtain ⟨c, hc⟩ : ∃ c, d[yn]? = some c := ⟨_, List.getElem?_eq_getElem (by omega)⟩
          have hcc := (hb1.cell (p := a9.add yn) (by rw [block_add]; exact hab9)).trans (HR9.out yn c hc)
          have HY := Lib.hid hy
          have HGC := Lib.hid (show d.getD ((yn : Nat) : Int).toNat false = c by rw [Int.toNat_natCast]; exact getDa hc)
          have hyd : yn < d.length := by omega
          clear hy hc hr5
          by_cases hbad : b = true ∧ c = false
          · obtain ⟨rfl, rfl⟩ := hbad
            have HF := Lib.hid (show false = closedB N d from (propB_f fun h => by
              have := h k l HL.out HGB.out _ (List.mem_of_getElem? HY.out)
              rw [HGC.out] at this
              cases this).symm)
            go_wp2_with fail
            go_ret
            exact ⟨ret_bool HF.out, hb1⟩
          · have HX := Lib.hid (take_more (P := fun z => b = true → d.getD z.toNat false = true) HTO.out HY.out fun hbt => by
              rw [HGC.out]
              cases hcb' : c with
              | true => rfl
              | false => exact absurd ⟨hbt, hcb'⟩ hbad)
            cases b with
            | false =>
              go_wp2_with fail
              go_roundw
              case rel => exact ⟨rfl, m + 1, by omega, by go_num, HX.out⟩
              case measure => simp [intOf]; omega
            | true =>
              cases c with
              | false => exact absurd ⟨rfl, rfl⟩ hbad
              | true =>
                go_wp2_with fail
                go_roundw
                case rel => exact ⟨rfl, m + 1, by omega, by go_num, HX.out⟩
                case measure => simp [intOf]; omega
        · obtain rfl : m = l.length := by omega
          have HX := Lib.hid (HCL.out.next HL.out fun hb y hy => HTO.out y (by rw [List.take_length]; exact hy) (by rw [← HGB.out]; exact hb))
          go_wp2_with fail
          go_roundw
          case rel => exact ⟨rfl, k + 1, by omega, by go_num, HX.out⟩
          case measure => simp [intOf]; omega
    · obtain rfl : k = N.length := by omega
      have HF := Lib.hid (show true = closedB N d from (propB_t HCL.out.fin).symm)
      go_wp2_with fail
      go_ret
      exact ⟨ret_bool HF.out, hb1⟩
theorem prod_nat {n : Net} {r d : Int} (hdm : dmB n r d = true) : ∃ T : Nat, prodI (cnts n r) = T := by
  obtain ⟨hcv, -, -⟩ := dm_cv hdm
  obtain ⟨hfew, hcap⟩ := few_of hcv
  have hcb : 1 ≤ capd (cnts n r) ∧ capd (cnts n r) ≤ 3001 := capd_bd fun y hy => (cnts_bd (cvB_net hcv) r y hy).1
  exact ⟨(prodI (cnts n r)).toNat, by omega⟩
theorem map_ok {n : Net} {r d : Int} {T : Nat} (hdm : dmB n r d = true) (hT : prodI (cnts n r) = T) : MapOk (nxL n r d T) (legL n r T) T := by
  obtain ⟨hcv, -, -⟩ := dm_cv hdm
  have ha : askP n r := by
    unfold cvB at hcv
    rw [Bool.and_eq_true] at hcv
    exact propB_iff.1 hcv.1
  have hfew := (few_of hcv).1
  have h3 := hfew.2.1
  refine ⟨nxL_len _ _ _ _, legL_len _ _ _, by omega, fun l hl => ?_⟩
  unfold nxL at hl
  obtain ⟨k, hk, rfl⟩ := List.mem_map.1 hl
  have hb : ∀ y ∈ nextN n r d k, 0 ≤ y ∧ y < (T : Int) := fun y hy => by
    have := nextN_bd ha hfew (x := (k : Int)) (by omega) y hy
    omega
  have := rising_len (nextN_rising n r d k) hb
  exact ⟨by omega, hb⟩
noncomputable def icB (n : Net) (r d : Int) : Bool := dmB n r d && closedB (nxL n r d (prodI (cnts n r)).toNat) (legL n r (prodI (cnts n r)).toNat)
set_option maxRecDepth 100000 in
theorem spec_IsClosed (ve vi vn : Value) (n : Net) (r d : Int) (w : World) (h : NetR w w.heap.size ve vi vn n) (hz : n.es.length ≤ 2000000) :
    Calls Tryz.prog 10 #[.agg #[ve, vi, vn], .int .i64 r, .int .i64 d] w fun e w' => e = .returned (.tuple #[.bool (icB n r d), .bool (dmB n r d)]) ∧ Below w.heap.size w w' := by
  obtain ⟨⟨A0, m0, c0, rfl⟩, ⟨A1, m1, c1, rfl⟩, A2, m2, c2, rfl⟩ := h.slices
  obtain ⟨w0, hw0, hB, HD, hz0, HS0⟩ := box3 w (.slice A0 m0 c0) (.slice A1 m1 c1) (.slice A2 m2 c2) 31
  have HN0 := Lib.hid h; have HN := Lib.hid (h.up hB); clear h
  have HW0 := Lib.hid hw0; clear hw0
  obtain ⟨q0, q1, q2, qf⟩ := cells3 HD
  go_enter Tryz.func10, Tryz.ntmps10
  go_wp2_with fail
  rw [← HW0.out]
  refine (spec_cvDaemons _ _ _ n r d w0 HN.out hz).mono ?_
  rintro e w1 ⟨rfl, hb1⟩
  have hzhb1 := hb1.size
  clear q0 q1 q2 qf
  replace HD := bk HD hb1
  replace HN := Lib.hid (HN.out.up hb1)
  replace hB := bl_trans hB hb1
  obtain ⟨q0, q1, q2, qf⟩ := cells3 HD
  cases h1 : dmB n r d with
  | false =>
    have HQ := Lib.hid h1
    have HF := Lib.hid (show icB n r d = false by unfold icB; rw [h1]; rfl)
    go_wp2_with fail
    go_ret2
    exact ⟨ret2bb HF.out.symm HQ.out.symm, hB⟩
  | true =>
    have HQ := Lib.hid h1
    obtain ⟨T, hT⟩ := prod_nat h1
    have HT := Lib.hid hT
    have HF := Lib.hid (show icB n r d = closedB (nxL n r d T) (legL n r T) by unfold icB; rw [h1, hT]; rfl)
    have HM := Lib.hid (map_ok h1 hT)
    clear hT
    go_wp2_with fail
    refine (spec_cvAll _ _ _ n r d T w1 HN.out HQ.out HT.out).mono ?_
    rintro e w2 ⟨nv, lv, rfl, hn, hd, hb2⟩
    have hzhb2 := hb2.size
    clear q0 q1 q2 qf
    replace HD := bk HD hb2
    replace HN := Lib.hid (HN.out.up hb2)
    replace hB := bl_trans hB hb2
    obtain ⟨q0, q1, q2, qf⟩ := cells3 HD
    have HNV := Lib.hid hn
    have HLV := Lib.hid hd
    clear hn hd
    go_wp2_with fail
    refine (spec_closed _ _ _ _ T w2 HNV.out HLV.out HM.out).mono ?_
    rintro e w3 ⟨rfl, hb3⟩
    have hzhb3 := hb3.size
    clear q0 q1 q2 qf
    replace HD := bk HD hb3
    replace HN := Lib.hid (HN.out.up hb3)
    replace hB := bl_trans hB hb3
    obtain ⟨q0, q1, q2, qf⟩ := cells3 HD
    go_wp2_with fail
    go_ret2
    exact ⟨ret2bb HF.out.symm HQ.out.symm, hB⟩
end Go.Proofs.YthfgklckmedggaaGreat
