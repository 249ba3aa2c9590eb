/-
  All successors of all situations and which are legal, the program's side: explore, closed.
-/
import Derived.Test.YthfgklckmedggaaGreatNetAllS
import Derived.Test.YthfgklckmedggaaGreatSuccJ
import Derived.Test.YthfgklckmedggaaGreatNetDel
namespace Go.Proofs.YthfgklckmedggaaGreat
open Go.RowKit
set_option linter.unusedVariables false
set_option linter.unusedSimpArgs false
theorem OwnRow.tag {w : World} {e : TypeId} {v : Value} {vs : List Value} {bs : List Nat} (h : OwnRow w e v vs bs) : ∀ b ∈ bs, ∃ cur, w.heap[b]? = some (.cells cur e (0, 0)) := by
  rcases h with ⟨_, rfl, _⟩ | ⟨g, c, cur, _, _, _, h4, _, _, h7⟩
  · intro b hb; cases hb
  · intro b hb
    rw [h7] at hb
    obtain rfl : b = g := by simpa using hb
    exact ⟨cur, h4⟩
theorem OwnAll.tag {w : World} {e : TypeId} : ∀ {vs : List Value} {xss : List (List Int)} {bs : List Nat}, OwnAll w e vs xss bs → ∀ b ∈ bs, ∃ cur, w.heap[b]? = some (.cells cur e (0, 0))
  | [], [], _, h, b, hb => by
    have : _ = [] := h
    subst this
    cases hb
  | _ :: _, _ :: _, _, ⟨b1, b2, h1, h2, rfl⟩, b, hb => (List.mem_append.1 hb).elim (h1.1.tag b) (h2.tag b)
  | [], _ :: _, _, h, _, _ => h.elim
  | _ :: _, [], _, h, _, _ => h.elim
theorem own_tag {w : World} {base n : Nat} {e : TypeId} {v : Value} {vs : List Value} {b : Nat} (h : w.ownsRow base e 1 v n vs) (hb : v.ownBlock = some b) : ∃ cur, w.heap[b]? = some (.cells cur e (0, 0)) := by
  rcases h.2 with ⟨rfl, _⟩ | ⟨g, cap, cur, rfl, _, hg, _⟩
  · simp [Value.ownBlock] at hb
  · simp [Value.ownBlock] at hb
    subst hb
    exact ⟨cur, hg⟩
theorem tag_eq {w : World} {b : Nat} {c1 c2 : Array Value} {e1 e2 : TypeId} (h1 : w.heap[b]? = some (.cells c1 e1 (0, 0))) (h2 : w.heap[b]? = some (.cells c2 e2 (0, 0))) : e1 = e2 := by
  have := Option.some.inj (h1.symm.trans h2)
  injection this
theorem own_apart {w : World} {base base' n n' : Nat} {e e' : TypeId} {v v' : Value} {vs vs' : List Value} (h : w.ownsRow base e 1 v n vs) (h' : w.ownsRow base' e' 1 v' n' vs') (hne : e ≠ e') : v.ownBlock = none ∨ v.ownBlock ≠ v'.ownBlock := by
  cases hv : v.ownBlock with
  | none => exact .inl rfl
  | some b =>
    refine .inr fun e => ?_
    obtain ⟨c1, t1⟩ := own_tag h hv
    obtain ⟨c2, t2⟩ := own_tag h' e.symm
    exact hne (tag_eq t1 t2)
/-- The rows stay while the truths grow. -/
theorem RowsSt.grown {base base' m : Nat} {w w' : World} {v lv : Value} {xss : List (List Int)} {ds : List Value} (h : RowsSt base w v xss) (hl : w.ownsRow base' 4 1 lv m ds) (hg : w.grownBy w' lv.ownBlock) : RowsSt base w' v xss := by
  obtain ⟨vs, bs, h1, h2, h3, h4⟩ := h
  have hs := hg.size
  refine ⟨vs, bs, h1.kept hg (own_apart h1 hl (by decide)), h2.keep fun b hb => hg.block b (h4 b hb).2.1 fun e => ?_, h3, fun b hb => by have := h4 b hb; exact ⟨this.1, by omega, this.2.2⟩⟩
  obtain ⟨c1, t1⟩ := h2.tag b hb
  obtain ⟨c2, t2⟩ := own_tag hl e.symm
  exact absurd (tag_eq t1 t2) (by decide)
theorem legL_succ (n : Net) (r : Int) (T : Nat) : legL n r (T + 1) = legL n r T ++ [legN n r T] := by unfold legL; rw [List.range_succ, List.map_append]; rfl
theorem ExG.of {w : World} {G : Nat} {A0 A1 A2 Ac : Option Addr} {m0 c0 m1 c1 m2 c2 mc cc : Nat} {n : Net} {r d : Int} {vt lv nv : Value} (hn : NetR w w.heap.size (.slice A0 m0 c0) (.slice A1 m1 c1) (.slice A2 m2 c2) n) (hc : IntsR w w.heap.size (.slice Ac mc cc) (cnts n r)) (h : w.heap[G]? = some (.cells #[.slice A0 m0 c0, .slice A1 m1 c1, .slice A2 m2 c2, .int .i64 r, .int .i64 d, .slice Ac mc cc, vt, lv, nv] 78 (0, 0))) : ExG w G A0 A1 A2 Ac m0 c0 m1 c1 m2 c2 mc cc n r :=
  ⟨hn, cell_of_row _ _ 0 _ _ (0, 0) h, cell_of_row _ _ 1 _ _ (0, 0) h, cell_of_row _ _ 2 _ _ (0, 0) h, cell_of_row _ _ 3 _ _ (0, 0) h, cell_of_row _ _ 5 _ _ (0, 0) h, hc⟩
def XpRel (n : Net) (r d : Int) (T G : Nat) (s0 s1 s2 sc : Value) (w : World) (i : Value) (wr : World) : Prop :=
  ∃ (j : Nat) (lv nv : Value), j ≤ T ∧ i = .int .i64 j ∧ Hid (wr.heap[G]? = some (.cells #[s0, s1, s2, .int .i64 r, .int .i64 d, sc, .int .i64 T, lv, nv] 78 (0, 0))) ∧ wr.ownsRow w.heap.size 4 1 lv (legL n r j).length ((legL n r j).map Value.bool) ∧ RowsSt w.heap.size wr nv (nxL n r d j) ∧ w.heap.size ≤ wr.heap.size ∧ Below G w wr
/-- What explore leaves behind. -/
def XpPost (n : Net) (r d : Int) (T G : Nat) (s0 s1 s2 sc : Value) (w : World) (e : Ending) (w' : World) : Prop :=
  (∃ v, e = .returned v) ∧ ∃ lv nv, Hid (w'.heap[G]? = some (.cells #[s0, s1, s2, .int .i64 r, .int .i64 d, sc, .int .i64 T, lv, nv] 78 (0, 0))) ∧ BoolsR w' w'.heap.size lv (legL n r T) ∧ RowsR w' w'.heap.size nv (nxL n r d T) ∧ Below G w w'
set_option maxRecDepth 100000 in
set_option maxHeartbeats 4000000 in
theorem impl_explore (G : Nat) (A0 A1 A2 Ac : Option Addr) (m0 c0 m1 c1 m2 c2 mc cc : Nat) (n : Net) (r d : Int) (T : Nat) (w : World) (h : NetR w G (.slice A0 m0 c0) (.slice A1 m1 c1) (.slice A2 m2 c2) n) (hc : IntsR w G (.slice Ac mc cc) (cnts n r))
    (hE : Hid (w.heap[G]? = some (.cells #[.slice A0 m0 c0, .slice A1 m1 c1, .slice A2 m2 c2, .int .i64 r, .int .i64 d, .slice Ac mc cc, .int .i64 T, .slice none 0 0, .slice none 0 0] 78 (0, 0)))) (hdm : dmB n r d = true) (hT : prodI (cnts n r) = T) :
    Calls Tryz.prog 61 #[.pointer (some ⟨G, 0, none⟩)] w (XpPost n r d T G (.slice A0 m0 c0) (.slice A1 m1 c1) (.slice A2 m2 c2) (.slice Ac mc cc) w) := by
  obtain ⟨hcv, -, hd6⟩ := dm_cv hdm
  obtain ⟨hfew, hcap⟩ := few_of hcv
  have hc3 : T ≤ 3000 := by have := hfew.2.1; omega
  have HC := Lib.hid hcv
  have HD6 := Lib.hid hd6
  have HN64 := Lib.hid (fun (k : Nat) z (hz : z ∈ nextN n r d k) => show I64 z by
    have ha : askP n r := by
      unfold cvB at hcv
      rw [Bool.and_eq_true] at hcv
      exact propB_iff.1 hcv.1
    have := nextN_bd ha hfew (x := (k : Int)) (by omega) z hz
    have := hfew.2.1
    unfold I64
    omega)
  clear hfew hcap hcv hd6 hT hdm
  have hGw : G < w.heap.size := (Array.getElem?_eq_some_iff.1 hE.out).1
  have a6 : w.cell? ⟨G, 6, none⟩ = some (.int .i64 T) := cell_of_row _ _ 6 _ _ (0, 0) hE.out
  have HN0 := Lib.hid h; clear h
  have HC0 := Lib.hid hc; clear hc
  go_enter Tryz.func61, Tryz.ntmps61
  go_wp2_with fail
  clear a6
  go_loopw [2, 7] (fun _ i wr => XpRel n r d T G (.slice A0 m0 c0) (.slice A1 m1 c1) (.slice A2 m2 c2) (.slice Ac mc cc) w i wr) (fun _ i _ => T - (intOf i).toNat)
  case atStart => exact ⟨0, _, _, Nat.zero_le _, rfl, hE, World.ownsRow_nil _ _ _ _, RowsSt.nil _ _, Nat.le_refl _, Below.refl _ _⟩
  case round =>
    obtain ⟨j, lv, nv, hj, rfl, hbx, hlo, hrs, hsz, hbl⟩ := hrel
    have hll := legL_len n r j
    rw [hll] at hlo
    obtain ⟨Al, cl, rfl⟩ := own_sl hlo
    obtain ⟨An, mn, cn, rfl⟩ := hrs.isSlice
    have HNr := Lib.hid ((HN0.out.below hbl).more (show G ≤ wr.heap.size by omega))
    have HCr := Lib.hid ((HC0.out.below hbl).more (show G ≤ wr.heap.size by omega))
    have HX := Lib.hid (ExG.of HNr.out HCr.out hbx.out)
    have HO := Lib.hid hlo
    have HR := Lib.hid hrs
    clear hlo hrs hll
    have hGr : G < wr.heap.size := by omega
    by_cases hlt : j < T
    · have k7a : wr.cell? ⟨G, 7, none⟩ = some (.slice Al j cl) := cell_of_row _ _ 7 _ _ (0, 0) hbx.out
      have q0 : wr.cell? ⟨G, 0, none⟩ = some (.slice A0 m0 c0) := cell_of_row _ _ 0 _ _ (0, 0) hbx.out
      have HLN := Lib.hid (show legN n r j = legB n r (stsS (cnts n r) j) from rfl)
      go_wp2_with fail
      refine wp_region_held_drew (S := fun w' => w'.cell? ⟨G, 0, none⟩ = some (.slice A0 m0 c0)) (by kernel_rfl) ?_ (fun hHeld => ?_)
      · go_keep
      refine tk 0 10 rfl rfl ?_
      try simp only [Act.put, pu]
      refine tk 1 11 rfl rfl ?_
      try simp only [Act.put, pu]
      refine tk 2 12 rfl rfl ?_
      try simp only [Act.put, pu]
      refine tk 3 13 rfl rfl ?_
      try simp only [Act.put, pu]
      refine tk 5 15 rfl rfl ?_
      try simp only [Act.put, pu]
      refine tk 6 16 rfl rfl ?_
      try simp only [Act.put, pu]
      refine wpAnyH_ready (rs := [4, 7]) (by kernel_rfl) (by simp) ?_
      refine AllReadyH.cons rfl (fun K hK => ?_) (AllReadyH.cons rfl (fun K hK => ?_) AllReadyH.nil)
      · go_simp
        refine hK.out _ _ ?_ (fun hHeld => ?_)
        · go_keep
        clear hK K
        try simp only [Act.put, pu]
        refine wpAnyH_ready (rs := [7]) (by kernel_rfl) (by simp) ?_
        refine AllReadyH.cons rfl (fun K hK => ?_) AllReadyH.nil
        go_simp
        go_at_call 93
        refine (impl_exLegal G A0 A1 A2 Ac m0 c0 m1 c1 m2 c2 mc cc n r j wr.drew (HX.out.up (Below.refl _ _).drew) HC.out (by omega) (by omega)).mono ?_
        rintro e w5 ⟨rfl, hb5'⟩
        rw [← HLN.out]
        have hb5 : Below wr.heap.size wr w5 := (Below.refl _ _).drew.trans hb5'
        clear hb5'
        have hz5 := hb5.size
        have HO5 := Lib.hid (kept_below HO.out hb5)
        have HR5 := Lib.hid (HR.out.below hb5)
        replace k7a := (hb5.cell (p := ⟨G, 7, none⟩) hGr).trans k7a
        have HBX5 := bk hbx hb5 hGr
        clear q0
        have q0 : w5.cell? ⟨G, 0, none⟩ = some (.slice A0 m0 c0) := cell_of_row _ _ 0 _ _ (0, 0) HBX5.out
        refine hK.out _ _ ?_ (fun hHeld => ?_)
        · go_keep
        clear hK K
        try simp only [Act.put, pu]
        refine wpAnyH_ready (rs := [8]) (by kernel_rfl) (by simp) ?_
        refine AllReadyH.cons rfl (fun K hK => ?_) AllReadyH.nil
        go_simp
        have k7b := Lib.cell?_alloc_some (.cells #[.bool (legN n r j)] 4) k7a
        refine hK.out _ _ ?_ (fun hHeld => ?_)
        · go_keep
        clear hK K
        try simp only [Act.put, pu]
        refine wpAnyH_ready (rs := [9]) (by kernel_rfl) (by simp) ?_
        refine AllReadyH.cons rfl (fun K hK => ?_) AllReadyH.nil
        rw [if_pos (by rfl)]
        refine oper_append1 w5 (.tmp 14) (.tmp 18) 48 rfl w.heap.size 4 _ 1 Tryz.underlying48 boolInf rfl _ _ _ rfl _ rfl rfl HO5.out (by unfold maxLen; omega) (by omega) (by omega) ?_
        intro v' w6 hown6 hbl6 hgr6 hlt6 hob6
        have ho6 : w6.ownsRow w.heap.size 4 1 v' (j + 1) ((legL n r (j + 1)).map Value.bool) := by rw [legL_succ, List.map_append]; exact hown6
        obtain ⟨A6, c6, rfl⟩ := own_sl ho6
        have HO6 := Lib.hid ho6
        have HR6 := Lib.hid (HR5.out.grown HO5.out hgr6)
        have HBL6 := Lib.hid hbl6
        have hz6 := hbl6.size
        have HBX6 := Lib.hid ((hbl6.block G (by omega)).trans HBX5.out)
        clear ho6 hown6 hgr6 hob6 hbl6
        have k7c : w6.cell? ⟨G, 7, none⟩ = some (.slice Al j cl) := cell_of_row _ _ 7 _ _ (0, 0) HBX6.out
        have f7c : w6.frozen? ⟨G, 7, none⟩ = false := frozen_of_row _ _ 7 _ _ HBX6.out
        clear q0
        have q0 : w6.cell? ⟨G, 0, none⟩ = some (.slice A0 m0 c0) := cell_of_row _ _ 0 _ _ (0, 0) HBX6.out
        refine hK.out _ _ ?_ (fun hHeld => ?_)
        · go_keep
        clear hK K
        try simp only [Act.put, pu]
        refine tk 10 20 rfl rfl ?_
        try simp only [Act.put, pu]
        refine tk 11 21 rfl rfl ?_
        try simp only [Act.put, pu]
        refine wpAnyH_ready (rs := [12]) (by kernel_rfl) (by simp) ?_
        refine AllReadyH.cons rfl (fun K hK => ?_) AllReadyH.nil
        go_simp
        obtain ⟨w7, hw7⟩ : ∃ z, z = w6.setCell ⟨G, 7, none⟩ (.slice A6 (j + 1) c6) := ⟨_, rfl⟩
        rw [← hw7]
        have hk7 : ∀ b, b ≠ G → w7.heap[b]? = w6.heap[b]? := fun b hb => by rw [hw7]; exact Below.heap_setCell w6 _ _ _ (by simpa using hb)
        have hz7 : w7.heap.size = w6.heap.size := by rw [hw7]; exact size_setCell w6 _ _
        have HBX7 := Lib.hid (show w7.heap[G]? = some (.cells #[.slice A0 m0 c0, .slice A1 m1 c1, .slice A2 m2 c2, .int .i64 r, .int .i64 d, .slice Ac mc cc, .int .i64 T, .slice A6 (j + 1) c6, .slice An mn cn] 78 (0, 0)) by rw [hw7]; have := heap_set_same (i := 7) HBX6.out (.slice A6 (j + 1) c6); simpa using this)
        have HBP7 := Lib.hid (show Below G wr w7 by rw [hw7]; exact Below.setCell (p := ⟨G, 7, none⟩) ((show Below G wr w5 from hb5.mono (by omega)).trans (show Below G w5 w6 from HBL6.out.mono (by omega))) (Nat.le_refl _) _)
        have HO7 := Lib.hid (own_keep4 HO6.out (by omega) (fun b hb _ => hk7 b (by omega)))
        have HR7 := Lib.hid (HR6.out.keep (by omega) (fun b hb _ => hk7 b (by omega)))
        clear q0 k7c f7c hw7 hk7
        have q0 : w7.cell? ⟨G, 0, none⟩ = some (.slice A0 m0 c0) := cell_of_row _ _ 0 _ _ (0, 0) HBX7.out
        refine hK.out _ _ ?_ (fun hHeld => ?_)
        · go_keep
        clear hK K
        try simp only [Act.put, pu]
        refine wpAnyH_done (by kernel_rfl) ?_ _
        have hB7 := hbl.trans HBP7.out
        have HX7 := Lib.hid (ExG.of ((HN0.out.below hB7).more (show G ≤ w7.heap.size by omega)) ((HC0.out.below hB7).more (show G ≤ w7.heap.size by omega)) HBX7.out)
        have hG7 : G < w7.heap.size := by omega
        have k8a : w7.cell? ⟨G, 8, none⟩ = some (.slice An mn cn) := cell_of_row _ _ 8 _ _ (0, 0) HBX7.out
        have g4 : w7.cell? ⟨G, 4, none⟩ = some (.int .i64 d) := cell_of_row _ _ 4 _ _ (0, 0) HBX7.out
        have G4 := Lib.hid g4; clear g4
        go_wp2_with fail
        refine wp_region_held_drew (S := fun w' => w'.cell? ⟨G, 0, none⟩ = some (.slice A0 m0 c0)) (by kernel_rfl) ?_ (fun hHeld => ?_)
        · go_keep
        refine tk 0 22 rfl rfl ?_
        try simp only [Act.put, pu]
        refine tk 1 23 rfl rfl ?_
        try simp only [Act.put, pu]
        refine tk 2 24 rfl rfl ?_
        try simp only [Act.put, pu]
        refine tk 3 25 rfl rfl ?_
        try simp only [Act.put, pu]
        refine tk 5 27 rfl rfl ?_
        try simp only [Act.put, pu]
        refine tk 6 28 rfl rfl ?_
        try simp only [Act.put, pu]
        refine wpAnyH_ready (rs := [4, 7]) (by kernel_rfl) (by simp) ?_
        refine AllReadyH.cons rfl (fun K hK => ?_) (AllReadyH.cons rfl (fun K hK => ?_) AllReadyH.nil)
        · go_simp
          refine hK.out _ _ ?_ (fun hHeld => ?_)
          · go_keep
          clear hK K
          try simp only [Act.put, pu]
          refine wpAnyH_ready (rs := [7]) (by kernel_rfl) (by simp) ?_
          refine AllReadyH.cons rfl (fun K hK => ?_) AllReadyH.nil
          go_simp
          go_at_call 94
          refine (impl_successors G A0 A1 A2 Ac m0 c0 m1 c1 m2 c2 mc cc n r d j w7.drew (HX7.out.net.up (Below.refl _ _).drew) HX7.out.g0 HX7.out.g1 HX7.out.g2 HX7.out.g3 G4.out HX7.out.g5 (HX7.out.cs.below (Below.refl _ _).drew) HC.out HD6.out (by omega) (by omega)).mono ?_
          rintro e w8 ⟨u, rfl, ⟨A8, m8, c8, rfl⟩, -, how, hb8'⟩
          have hb8 : Below w7.heap.size w7 w8 := (Below.refl _ _).drew.trans hb8'
          clear hb8'
          have hz8 := hb8.size
          have HO8 := Lib.hid (kept_below HO7.out hb8)
          obtain ⟨b1, o1, o2, o3⟩ := own_ints how (HN64.out j)
          obtain ⟨vs, hown8, hstep⟩ := HR7.out.step (by omega) hb8 o1 o2 o3
          rw [nxL_len] at hown8 hstep
          have HW8 := Lib.hid hown8
          have HSTP := Lib.hid hstep
          clear how o1 o2 o3 hown8 hstep
          replace k8a := (hb8.cell (p := ⟨G, 8, none⟩) hG7).trans k8a
          have HBX8 := bk HBX7 hb8 hG7
          clear q0
          have q0 : w8.cell? ⟨G, 0, none⟩ = some (.slice A0 m0 c0) := cell_of_row _ _ 0 _ _ (0, 0) HBX8.out
          refine hK.out _ _ ?_ (fun hHeld => ?_)
          · go_keep
          clear hK K
          try simp only [Act.put, pu]
          refine wpAnyH_ready (rs := [8]) (by kernel_rfl) (by simp) ?_
          refine AllReadyH.cons rfl (fun K hK => ?_) AllReadyH.nil
          go_simp
          have k8b := Lib.cell?_alloc_some (.cells #[.slice A8 m8 c8] 23) k8a
          refine hK.out _ _ ?_ (fun hHeld => ?_)
          · go_keep
          clear hK K
          try simp only [Act.put, pu]
          refine wpAnyH_ready (rs := [9]) (by kernel_rfl) (by simp) ?_
          refine AllReadyH.cons rfl (fun K hK => ?_) AllReadyH.nil
          rw [if_pos (by rfl)]
          refine oper_append1 w8 (.tmp 26) (.tmp 30) 47 rfl w.heap.size 23 _ 24 Tryz.underlying47 sliceInfo rfl _ _ _ rfl _ rfl rfl HW8.out (by unfold maxLen; omega) (by omega) (by omega) ?_
          intro v9 w9 hown9 hbl9 hgr9 hlt9 hob9
          have hst9 := HSTP.out _ _ hown9 hgr9 hob9
          rw [← nxL_succ] at hst9
          obtain ⟨A9, m9, c9, rfl⟩ := hst9.isSlice
          have HST9 := Lib.hid hst9
          have HO9 := Lib.hid (HO8.out.kept hgr9 (own_apart HO8.out HW8.out (by decide)))
          have HBL9 := Lib.hid hbl9
          have hz9 := hbl9.size
          have HBX9 := Lib.hid ((hbl9.block G (by omega)).trans HBX8.out)
          clear hown9 hgr9 hob9 hst9 hbl9
          have k8c : w9.cell? ⟨G, 8, none⟩ = some (.slice An mn cn) := cell_of_row _ _ 8 _ _ (0, 0) HBX9.out
          have f8c : w9.frozen? ⟨G, 8, none⟩ = false := frozen_of_row _ _ 8 _ _ HBX9.out
          clear q0
          have q0 : w9.cell? ⟨G, 0, none⟩ = some (.slice A0 m0 c0) := cell_of_row _ _ 0 _ _ (0, 0) HBX9.out
          refine hK.out _ _ ?_ (fun hHeld => ?_)
          · go_keep
          clear hK K
          try simp only [Act.put, pu]
          refine tk 10 32 rfl rfl ?_
          try simp only [Act.put, pu]
          refine tk 11 33 rfl rfl ?_
          try simp only [Act.put, pu]
          refine wpAnyH_ready (rs := [12]) (by kernel_rfl) (by simp) ?_
          refine AllReadyH.cons rfl (fun K hK => ?_) AllReadyH.nil
          go_simp
          obtain ⟨wa, hwa⟩ : ∃ z, z = w9.setCell ⟨G, 8, none⟩ (.slice A9 m9 c9) := ⟨_, rfl⟩
          rw [← hwa]
          have hka : ∀ b, b ≠ G → wa.heap[b]? = w9.heap[b]? := fun b hb => by rw [hwa]; exact Below.heap_setCell w9 _ _ _ (by simpa using hb)
          have hza : wa.heap.size = w9.heap.size := by rw [hwa]; exact size_setCell w9 _ _
          have HBXa := Lib.hid (show wa.heap[G]? = some (.cells #[.slice A0 m0 c0, .slice A1 m1 c1, .slice A2 m2 c2, .int .i64 r, .int .i64 d, .slice Ac mc cc, .int .i64 T, .slice A6 (j + 1) c6, .slice A9 m9 c9] 78 (0, 0)) by rw [hwa]; have := heap_set_same (i := 8) HBX9.out (.slice A9 m9 c9); simpa using this)
          have HBPa := Lib.hid (show Below G w7 wa by rw [hwa]; exact Below.setCell (p := ⟨G, 8, none⟩) ((show Below G w7 w8 from hb8.mono (by omega)).trans (show Below G w8 w9 from HBL9.out.mono (by omega))) (Nat.le_refl _) _)
          have HOa := Lib.hid (own_keep4 HO9.out (by omega) (fun b hb _ => hka b (by omega)))
          have HRa := Lib.hid (HST9.out.keep (by omega) (fun b hb _ => hka b (by omega)))
          clear q0 k8c f8c hwa hka
          have q0 : wa.cell? ⟨G, 0, none⟩ = some (.slice A0 m0 c0) := cell_of_row _ _ 0 _ _ (0, 0) HBXa.out
          refine hK.out _ _ ?_ (fun hHeld => ?_)
          · go_keep
          clear hK K
          try simp only [Act.put, pu]
          refine wpAnyH_done (by kernel_rfl) ?_ _
          go_wp2_with fail
          go_roundw
          case rel =>
            refine ⟨j + 1, _, _, by omega, by go_num, HBXa, ?_, HRa.out, by omega, hB7.trans HBPa.out⟩
            rw [legL_len]
            exact HOa.out
          case measure => simp [intOf]; omega
        · go_simp
          go_at_call 94
          refine (impl_successors G A0 A1 A2 Ac m0 c0 m1 c1 m2 c2 mc cc n r d j w7.drew (HX7.out.net.up (Below.refl _ _).drew) HX7.out.g0 HX7.out.g1 HX7.out.g2 HX7.out.g3 G4.out HX7.out.g5 (HX7.out.cs.below (Below.refl _ _).drew) HC.out HD6.out (by omega) (by omega)).mono ?_
          rintro e w8 ⟨u, rfl, ⟨A8, m8, c8, rfl⟩, -, how, hb8'⟩
          have hb8 : Below w7.heap.size w7 w8 := (Below.refl _ _).drew.trans hb8'
          clear hb8'
          have hz8 := hb8.size
          have HO8 := Lib.hid (kept_below HO7.out hb8)
          obtain ⟨b1, o1, o2, o3⟩ := own_ints how (HN64.out j)
          obtain ⟨vs, hown8, hstep⟩ := HR7.out.step (by omega) hb8 o1 o2 o3
          rw [nxL_len] at hown8 hstep
          have HW8 := Lib.hid hown8
          have HSTP := Lib.hid hstep
          clear how o1 o2 o3 hown8 hstep
          replace k8a := (hb8.cell (p := ⟨G, 8, none⟩) hG7).trans k8a
          have HBX8 := bk HBX7 hb8 hG7
          clear q0
          have q0 : w8.cell? ⟨G, 0, none⟩ = some (.slice A0 m0 c0) := cell_of_row _ _ 0 _ _ (0, 0) HBX8.out
          refine hK.out _ _ ?_ (fun hHeld => ?_)
          · go_keep
          clear hK K
          try simp only [Act.put, pu]
          refine wpAnyH_ready (rs := [4, 8]) (by kernel_rfl) (by simp) ?_
          refine AllReadyH.cons rfl (fun K hK => ?_) (AllReadyH.cons rfl (fun K hK => ?_) AllReadyH.nil)
          · go_simp
            refine hK.out _ _ ?_ (fun hHeld => ?_)
            · go_keep
            clear hK K
            try simp only [Act.put, pu]
            refine wpAnyH_ready (rs := [8]) (by kernel_rfl) (by simp) ?_
            refine AllReadyH.cons rfl (fun K hK => ?_) AllReadyH.nil
            go_simp
            have k8b := Lib.cell?_alloc_some (.cells #[.slice A8 m8 c8] 23) k8a
            refine hK.out _ _ ?_ (fun hHeld => ?_)
            · go_keep
            clear hK K
            try simp only [Act.put, pu]
            refine wpAnyH_ready (rs := [9]) (by kernel_rfl) (by simp) ?_
            refine AllReadyH.cons rfl (fun K hK => ?_) AllReadyH.nil
            rw [if_pos (by rfl)]
            refine oper_append1 w8 (.tmp 26) (.tmp 30) 47 rfl w.heap.size 23 _ 24 Tryz.underlying47 sliceInfo rfl _ _ _ rfl _ rfl rfl HW8.out (by unfold maxLen; omega) (by omega) (by omega) ?_
            intro v9 w9 hown9 hbl9 hgr9 hlt9 hob9
            have hst9 := HSTP.out _ _ hown9 hgr9 hob9
            rw [← nxL_succ] at hst9
            obtain ⟨A9, m9, c9, rfl⟩ := hst9.isSlice
            have HST9 := Lib.hid hst9
            have HO9 := Lib.hid (HO8.out.kept hgr9 (own_apart HO8.out HW8.out (by decide)))
            have HBL9 := Lib.hid hbl9
            have hz9 := hbl9.size
            have HBX9 := Lib.hid ((hbl9.block G (by omega)).trans HBX8.out)
            clear hown9 hgr9 hob9 hst9 hbl9
            have k8c : w9.cell? ⟨G, 8, none⟩ = some (.slice An mn cn) := cell_of_row _ _ 8 _ _ (0, 0) HBX9.out
            have f8c : w9.frozen? ⟨G, 8, none⟩ = false := frozen_of_row _ _ 8 _ _ HBX9.out
            clear q0
            have q0 : w9.cell? ⟨G, 0, none⟩ = some (.slice A0 m0 c0) := cell_of_row _ _ 0 _ _ (0, 0) HBX9.out
            refine hK.out _ _ ?_ (fun hHeld => ?_)
            · go_keep
            clear hK K
            try simp only [Act.put, pu]
            refine tk 10 32 rfl rfl ?_
            try simp only [Act.put, pu]
            refine tk 11 33 rfl rfl ?_
            try simp only [Act.put, pu]
            refine wpAnyH_ready (rs := [12]) (by kernel_rfl) (by simp) ?_
            refine AllReadyH.cons rfl (fun K hK => ?_) AllReadyH.nil
            go_simp
            obtain ⟨wa, hwa⟩ : ∃ z, z = w9.setCell ⟨G, 8, none⟩ (.slice A9 m9 c9) := ⟨_, rfl⟩
            rw [← hwa]
            have hka : ∀ b, b ≠ G → wa.heap[b]? = w9.heap[b]? := fun b hb => by rw [hwa]; exact Below.heap_setCell w9 _ _ _ (by simpa using hb)
            have hza : wa.heap.size = w9.heap.size := by rw [hwa]; exact size_setCell w9 _ _
            have HBXa := Lib.hid (show wa.heap[G]? = some (.cells #[.slice A0 m0 c0, .slice A1 m1 c1, .slice A2 m2 c2, .int .i64 r, .int .i64 d, .slice Ac mc cc, .int .i64 T, .slice A6 (j + 1) c6, .slice A9 m9 c9] 78 (0, 0)) by rw [hwa]; have := heap_set_same (i := 8) HBX9.out (.slice A9 m9 c9); simpa using this)
            have HBPa := Lib.hid (show Below G w7 wa by rw [hwa]; exact Below.setCell (p := ⟨G, 8, none⟩) ((show Below G w7 w8 from hb8.mono (by omega)).trans (show Below G w8 w9 from HBL9.out.mono (by omega))) (Nat.le_refl _) _)
            have HOa := Lib.hid (own_keep4 HO9.out (by omega) (fun b hb _ => hka b (by omega)))
            have HRa := Lib.hid (HST9.out.keep (by omega) (fun b hb _ => hka b (by omega)))
            clear q0 k8c f8c hwa hka
            have q0 : wa.cell? ⟨G, 0, none⟩ = some (.slice A0 m0 c0) := cell_of_row _ _ 0 _ _ (0, 0) HBXa.out
            refine hK.out _ _ ?_ (fun hHeld => ?_)
            · go_keep
            clear hK K
            try simp only [Act.put, pu]
            refine wpAnyH_done (by kernel_rfl) ?_ _
            go_wp2_with fail
            go_roundw
            case rel =>
              refine ⟨j + 1, _, _, by omega, by go_num, HBXa, ?_, HRa.out, by omega, hB7.trans HBPa.out⟩
              rw [legL_len]
              exact HOa.out
            case measure => simp [intOf]; omega
          · go_simp
            have k8b := Lib.cell?_alloc_some (.cells #[.slice A8 m8 c8] 23) k8a
            refine hK.out _ _ ?_ (fun hHeld => ?_)
            · go_keep
            clear hK K
            try simp only [Act.put, pu]
            refine wpAnyH_ready (rs := [4]) (by kernel_rfl) (by simp) ?_
            refine AllReadyH.cons rfl (fun K hK => ?_) AllReadyH.nil
            go_simp
            refine hK.out _ _ ?_ (fun hHeld => ?_)
            · go_keep
            clear hK K
            try simp only [Act.put, pu]
            refine wpAnyH_ready (rs := [9]) (by kernel_rfl) (by simp) ?_
            refine AllReadyH.cons rfl (fun K hK => ?_) AllReadyH.nil
            rw [if_pos (by rfl)]
            refine oper_append1 w8 (.tmp 26) (.tmp 30) 47 rfl w.heap.size 23 _ 24 Tryz.underlying47 sliceInfo rfl _ _ _ rfl _ rfl rfl HW8.out (by unfold maxLen; omega) (by omega) (by omega) ?_
            intro v9 w9 hown9 hbl9 hgr9 hlt9 hob9
            have hst9 := HSTP.out _ _ hown9 hgr9 hob9
            rw [← nxL_succ] at hst9
            obtain ⟨A9, m9, c9, rfl⟩ := hst9.isSlice
            have HST9 := Lib.hid hst9
            have HO9 := Lib.hid (HO8.out.kept hgr9 (own_apart HO8.out HW8.out (by decide)))
            have HBL9 := Lib.hid hbl9
            have hz9 := hbl9.size
            have HBX9 := Lib.hid ((hbl9.block G (by omega)).trans HBX8.out)
            clear hown9 hgr9 hob9 hst9 hbl9
            have k8c : w9.cell? ⟨G, 8, none⟩ = some (.slice An mn cn) := cell_of_row _ _ 8 _ _ (0, 0) HBX9.out
            have f8c : w9.frozen? ⟨G, 8, none⟩ = false := frozen_of_row _ _ 8 _ _ HBX9.out
            clear q0
            have q0 : w9.cell? ⟨G, 0, none⟩ = some (.slice A0 m0 c0) := cell_of_row _ _ 0 _ _ (0, 0) HBX9.out
            refine hK.out _ _ ?_ (fun hHeld => ?_)
            · go_keep
            clear hK K
            try simp only [Act.put, pu]
            refine tk 10 32 rfl rfl ?_
            try simp only [Act.put, pu]
            refine tk 11 33 rfl rfl ?_
            try simp only [Act.put, pu]
            refine wpAnyH_ready (rs := [12]) (by kernel_rfl) (by simp) ?_
            refine AllReadyH.cons rfl (fun K hK => ?_) AllReadyH.nil
            go_simp
            obtain ⟨wa, hwa⟩ : ∃ z, z = w9.setCell ⟨G, 8, none⟩ (.slice A9 m9 c9) := ⟨_, rfl⟩
            rw [← hwa]
            have hka : ∀ b, b ≠ G → wa.heap[b]? = w9.heap[b]? := fun b hb => by rw [hwa]; exact Below.heap_setCell w9 _ _ _ (by simpa using hb)
            have hza : wa.heap.size = w9.heap.size := by rw [hwa]; exact size_setCell w9 _ _
            have HBXa := Lib.hid (show wa.heap[G]? = some (.cells #[.slice A0 m0 c0, .slice A1 m1 c1, .slice A2 m2 c2, .int .i64 r, .int .i64 d, .slice Ac mc cc, .int .i64 T, .slice A6 (j + 1) c6, .slice A9 m9 c9] 78 (0, 0)) by rw [hwa]; have := heap_set_same (i := 8) HBX9.out (.slice A9 m9 c9); simpa using this)
            have HBPa := Lib.hid (show Below G w7 wa by rw [hwa]; exact Below.setCell (p := ⟨G, 8, none⟩) ((show Below G w7 w8 from hb8.mono (by omega)).trans (show Below G w8 w9 from HBL9.out.mono (by omega))) (Nat.le_refl _) _)
            have HOa := Lib.hid (own_keep4 HO9.out (by omega) (fun b hb _ => hka b (by omega)))
            have HRa := Lib.hid (HST9.out.keep (by omega) (fun b hb _ => hka b (by omega)))
            clear q0 k8c f8c hwa hka
            have q0 : wa.cell? ⟨G, 0, none⟩ = some (.slice A0 m0 c0) := cell_of_row _ _ 0 _ _ (0, 0) HBXa.out
            refine hK.out _ _ ?_ (fun hHeld => ?_)
            · go_keep
            clear hK K
            try simp only [Act.put, pu]
            refine wpAnyH_done (by kernel_rfl) ?_ _
            go_wp2_with fail
            go_roundw
            case rel =>
              refine ⟨j + 1, _, _, by omega, by go_num, HBXa, ?_, HRa.out, by omega, hB7.trans HBPa.out⟩
              rw [legL_len]
              exact HOa.out
            case measure => simp [intOf]; omega
      · go_simp
        go_at_call 93
        refine (impl_exLegal G A0 A1 A2 Ac m0 c0 m1 c1 m2 c2 mc cc n r j wr.drew (HX.out.up (Below.refl _ _).drew) HC.out (by omega) (by omega)).mono ?_
        rintro e w5 ⟨rfl, hb5'⟩
        rw [← HLN.out]
        have hb5 : Below wr.heap.size wr w5 := (Below.refl _ _).drew.trans hb5'
        clear hb5'
        have hz5 := hb5.size
        have HO5 := Lib.hid (kept_below HO.out hb5)
        have HR5 := Lib.hid (HR.out.below hb5)
        replace k7a := (hb5.cell (p := ⟨G, 7, none⟩) hGr).trans k7a
        have HBX5 := bk hbx hb5 hGr
        clear q0
        have q0 : w5.cell? ⟨G, 0, none⟩ = some (.slice A0 m0 c0) := cell_of_row _ _ 0 _ _ (0, 0) HBX5.out
        refine hK.out _ _ ?_ (fun hHeld => ?_)
        · go_keep
        clear hK K
        try simp only [Act.put, pu]
        refine wpAnyH_ready (rs := [4, 8]) (by kernel_rfl) (by simp) ?_
        refine AllReadyH.cons rfl (fun K hK => ?_) (AllReadyH.cons rfl (fun K hK => ?_) AllReadyH.nil)
        · go_simp
          refine hK.out _ _ ?_ (fun hHeld => ?_)
          · go_keep
          clear hK K
          try simp only [Act.put, pu]
          refine wpAnyH_ready (rs := [8]) (by kernel_rfl) (by simp) ?_
          refine AllReadyH.cons rfl (fun K hK => ?_) AllReadyH.nil
          go_simp
          have k7b := Lib.cell?_alloc_some (.cells #[.bool (legN n r j)] 4) k7a
          refine hK.out _ _ ?_ (fun hHeld => ?_)
          · go_keep
          clear hK K
          try simp only [Act.put, pu]
          refine wpAnyH_ready (rs := [9]) (by kernel_rfl) (by simp) ?_
          refine AllReadyH.cons rfl (fun K hK => ?_) AllReadyH.nil
          rw [if_pos (by rfl)]
          refine oper_append1 w5 (.tmp 14) (.tmp 18) 48 rfl w.heap.size 4 _ 1 Tryz.underlying48 boolInf rfl _ _ _ rfl _ rfl rfl HO5.out (by unfold maxLen; omega) (by omega) (by omega) ?_
          intro v' w6 hown6 hbl6 hgr6 hlt6 hob6
          have ho6 : w6.ownsRow w.heap.size 4 1 v' (j + 1) ((legL n r (j + 1)).map Value.bool) := by rw [legL_succ, List.map_append]; exact hown6
          obtain ⟨A6, c6, rfl⟩ := own_sl ho6
          have HO6 := Lib.hid ho6
          have HR6 := Lib.hid (HR5.out.grown HO5.out hgr6)
          have HBL6 := Lib.hid hbl6
          have hz6 := hbl6.size
          have HBX6 := Lib.hid ((hbl6.block G (by omega)).trans HBX5.out)
          clear ho6 hown6 hgr6 hob6 hbl6
          have k7c : w6.cell? ⟨G, 7, none⟩ = some (.slice Al j cl) := cell_of_row _ _ 7 _ _ (0, 0) HBX6.out
          have f7c : w6.frozen? ⟨G, 7, none⟩ = false := frozen_of_row _ _ 7 _ _ HBX6.out
          clear q0
          have q0 : w6.cell? ⟨G, 0, none⟩ = some (.slice A0 m0 c0) := cell_of_row _ _ 0 _ _ (0, 0) HBX6.out
          refine hK.out _ _ ?_ (fun hHeld => ?_)
          · go_keep
          clear hK K
          try simp only [Act.put, pu]
          refine tk 10 20 rfl rfl ?_
          try simp only [Act.put, pu]
          refine tk 11 21 rfl rfl ?_
          try simp only [Act.put, pu]
          refine wpAnyH_ready (rs := [12]) (by kernel_rfl) (by simp) ?_
          refine AllReadyH.cons rfl (fun K hK => ?_) AllReadyH.nil
          go_simp
          obtain ⟨w7, hw7⟩ : ∃ z, z = w6.setCell ⟨G, 7, none⟩ (.slice A6 (j + 1) c6) := ⟨_, rfl⟩
          rw [← hw7]
          have hk7 : ∀ b, b ≠ G → w7.heap[b]? = w6.heap[b]? := fun b hb => by rw [hw7]; exact Below.heap_setCell w6 _ _ _ (by simpa using hb)
          have hz7 : w7.heap.size = w6.heap.size := by rw [hw7]; exact size_setCell w6 _ _
          have HBX7 := Lib.hid (show w7.heap[G]? = some (.cells #[.slice A0 m0 c0, .slice A1 m1 c1, .slice A2 m2 c2, .int .i64 r, .int .i64 d, .slice Ac mc cc, .int .i64 T, .slice A6 (j + 1) c6, .slice An mn cn] 78 (0, 0)) by rw [hw7]; have := heap_set_same (i := 7) HBX6.out (.slice A6 (j + 1) c6); simpa using this)
          have HBP7 := Lib.hid (show Below G wr w7 by rw [hw7]; exact Below.setCell (p := ⟨G, 7, none⟩) ((show Below G wr w5 from hb5.mono (by omega)).trans (show Below G w5 w6 from HBL6.out.mono (by omega))) (Nat.le_refl _) _)
          have HO7 := Lib.hid (own_keep4 HO6.out (by omega) (fun b hb _ => hk7 b (by omega)))
          have HR7 := Lib.hid (HR6.out.keep (by omega) (fun b hb _ => hk7 b (by omega)))
          clear q0 k7c f7c hw7 hk7
          have q0 : w7.cell? ⟨G, 0, none⟩ = some (.slice A0 m0 c0) := cell_of_row _ _ 0 _ _ (0, 0) HBX7.out
          refine hK.out _ _ ?_ (fun hHeld => ?_)
          · go_keep
          clear hK K
          try simp only [Act.put, pu]
          refine wpAnyH_done (by kernel_rfl) ?_ _
          have hB7 := hbl.trans HBP7.out
          have HX7 := Lib.hid (ExG.of ((HN0.out.below hB7).more (show G ≤ w7.heap.size by omega)) ((HC0.out.below hB7).more (show G ≤ w7.heap.size by omega)) HBX7.out)
          have hG7 : G < w7.heap.size := by omega
          have k8a : w7.cell? ⟨G, 8, none⟩ = some (.slice An mn cn) := cell_of_row _ _ 8 _ _ (0, 0) HBX7.out
          have g4 : w7.cell? ⟨G, 4, none⟩ = some (.int .i64 d) := cell_of_row _ _ 4 _ _ (0, 0) HBX7.out
          have G4 := Lib.hid g4; clear g4
          go_wp2_with fail
          refine wp_region_held_drew (S := fun w' => w'.cell? ⟨G, 0, none⟩ = some (.slice A0 m0 c0)) (by kernel_rfl) ?_ (fun hHeld => ?_)
          · go_keep
          refine tk 0 22 rfl rfl ?_
          try simp only [Act.put, pu]
          refine tk 1 23 rfl rfl ?_
          try simp only [Act.put, pu]
          refine tk 2 24 rfl rfl ?_
          try simp only [Act.put, pu]
          refine tk 3 25 rfl rfl ?_
          try simp only [Act.put, pu]
          refine tk 5 27 rfl rfl ?_
          try simp only [Act.put, pu]
          refine tk 6 28 rfl rfl ?_
          try simp only [Act.put, pu]
          refine wpAnyH_ready (rs := [4, 7]) (by kernel_rfl) (by simp) ?_
          refine AllReadyH.cons rfl (fun K hK => ?_) (AllReadyH.cons rfl (fun K hK => ?_) AllReadyH.nil)
          · go_simp
            refine hK.out _ _ ?_ (fun hHeld => ?_)
            · go_keep
            clear hK K
            try simp only [Act.put, pu]
            refine wpAnyH_ready (rs := [7]) (by kernel_rfl) (by simp) ?_
            refine AllReadyH.cons rfl (fun K hK => ?_) AllReadyH.nil
            go_simp
            go_at_call 94
            refine (impl_successors G A0 A1 A2 Ac m0 c0 m1 c1 m2 c2 mc cc n r d j w7.drew (HX7.out.net.up (Below.refl _ _).drew) HX7.out.g0 HX7.out.g1 HX7.out.g2 HX7.out.g3 G4.out HX7.out.g5 (HX7.out.cs.below (Below.refl _ _).drew) HC.out HD6.out (by omega) (by omega)).mono ?_
            rintro e w8 ⟨u, rfl, ⟨A8, m8, c8, rfl⟩, -, how, hb8'⟩
            have hb8 : Below w7.heap.size w7 w8 := (Below.refl _ _).drew.trans hb8'
            clear hb8'
            have hz8 := hb8.size
            have HO8 := Lib.hid (kept_below HO7.out hb8)
            obtain ⟨b1, o1, o2, o3⟩ := own_ints how (HN64.out j)
            obtain ⟨vs, hown8, hstep⟩ := HR7.out.step (by omega) hb8 o1 o2 o3
            rw [nxL_len] at hown8 hstep
            have HW8 := Lib.hid hown8
            have HSTP := Lib.hid hstep
            clear how o1 o2 o3 hown8 hstep
            replace k8a := (hb8.cell (p := ⟨G, 8, none⟩) hG7).trans k8a
            have HBX8 := bk HBX7 hb8 hG7
            clear q0
            have q0 : w8.cell? ⟨G, 0, none⟩ = some (.slice A0 m0 c0) := cell_of_row _ _ 0 _ _ (0, 0) HBX8.out
            refine hK.out _ _ ?_ (fun hHeld => ?_)
            · go_keep
            clear hK K
            try simp only [Act.put, pu]
            refine wpAnyH_ready (rs := [8]) (by kernel_rfl) (by simp) ?_
            refine AllReadyH.cons rfl (fun K hK => ?_) AllReadyH.nil
            go_simp
            have k8b := Lib.cell?_alloc_some (.cells #[.slice A8 m8 c8] 23) k8a
            refine hK.out _ _ ?_ (fun hHeld => ?_)
            · go_keep
            clear hK K
            try simp only [Act.put, pu]
            refine wpAnyH_ready (rs := [9]) (by kernel_rfl) (by simp) ?_
            refine AllReadyH.cons rfl (fun K hK => ?_) AllReadyH.nil
            rw [if_pos (by rfl)]
            refine oper_append1 w8 (.tmp 26) (.tmp 30) 47 rfl w.heap.size 23 _ 24 Tryz.underlying47 sliceInfo rfl _ _ _ rfl _ rfl rfl HW8.out (by unfold maxLen; omega) (by omega) (by omega) ?_
            intro v9 w9 hown9 hbl9 hgr9 hlt9 hob9
            have hst9 := HSTP.out _ _ hown9 hgr9 hob9
            rw [← nxL_succ] at hst9
            obtain ⟨A9, m9, c9, rfl⟩ := hst9.isSlice
            have HST9 := Lib.hid hst9
            have HO9 := Lib.hid (HO8.out.kept hgr9 (own_apart HO8.out HW8.out (by decide)))
            have HBL9 := Lib.hid hbl9
            have hz9 := hbl9.size
            have HBX9 := Lib.hid ((hbl9.block G (by omega)).trans HBX8.out)
            clear hown9 hgr9 hob9 hst9 hbl9
            have k8c : w9.cell? ⟨G, 8, none⟩ = some (.slice An mn cn) := cell_of_row _ _ 8 _ _ (0, 0) HBX9.out
            have f8c : w9.frozen? ⟨G, 8, none⟩ = false := frozen_of_row _ _ 8 _ _ HBX9.out
            clear q0
            have q0 : w9.cell? ⟨G, 0, none⟩ = some (.slice A0 m0 c0) := cell_of_row _ _ 0 _ _ (0, 0) HBX9.out
            refine hK.out _ _ ?_ (fun hHeld => ?_)
            · go_keep
            clear hK K
            try simp only [Act.put, pu]
            refine tk 10 32 rfl rfl ?_
            try simp only [Act.put, pu]
            refine tk 11 33 rfl rfl ?_
            try simp only [Act.put, pu]
            refine wpAnyH_ready (rs := [12]) (by kernel_rfl) (by simp) ?_
            refine AllReadyH.cons rfl (fun K hK => ?_) AllReadyH.nil
            go_simp
            obtain ⟨wa, hwa⟩ : ∃ z, z = w9.setCell ⟨G, 8, none⟩ (.slice A9 m9 c9) := ⟨_, rfl⟩
            rw [← hwa]
            have hka : ∀ b, b ≠ G → wa.heap[b]? = w9.heap[b]? := fun b hb => by rw [hwa]; exact Below.heap_setCell w9 _ _ _ (by simpa using hb)
            have hza : wa.heap.size = w9.heap.size := by rw [hwa]; exact size_setCell w9 _ _
            have HBXa := Lib.hid (show wa.heap[G]? = some (.cells #[.slice A0 m0 c0, .slice A1 m1 c1, .slice A2 m2 c2, .int .i64 r, .int .i64 d, .slice Ac mc cc, .int .i64 T, .slice A6 (j + 1) c6, .slice A9 m9 c9] 78 (0, 0)) by rw [hwa]; have := heap_set_same (i := 8) HBX9.out (.slice A9 m9 c9); simpa using this)
            have HBPa := Lib.hid (show Below G w7 wa by rw [hwa]; exact Below.setCell (p := ⟨G, 8, none⟩) ((show Below G w7 w8 from hb8.mono (by omega)).trans (show Below G w8 w9 from HBL9.out.mono (by omega))) (Nat.le_refl _) _)
            have HOa := Lib.hid (own_keep4 HO9.out (by omega) (fun b hb _ => hka b (by omega)))
            have HRa := Lib.hid (HST9.out.keep (by omega) (fun b hb _ => hka b (by omega)))
            clear q0 k8c f8c hwa hka
            have q0 : wa.cell? ⟨G, 0, none⟩ = some (.slice A0 m0 c0) := cell_of_row _ _ 0 _ _ (0, 0) HBXa.out
            refine hK.out _ _ ?_ (fun hHeld => ?_)
            · go_keep
            clear hK K
            try simp only [Act.put, pu]
            refine wpAnyH_done (by kernel_rfl) ?_ _
            go_wp2_with fail
            go_roundw
            case rel =>
              refine ⟨j + 1, _, _, by omega, by go_num, HBXa, ?_, HRa.out, by omega, hB7.trans HBPa.out⟩
              rw [legL_len]
              exact HOa.out
            case measure => simp [intOf]; omega
          · go_simp
            go_at_call 94
            refine (impl_successors G A0 A1 A2 Ac m0 c0 m1 c1 m2 c2 mc cc n r d j w7.drew (HX7.out.net.up (Below.refl _ _).drew) HX7.out.g0 HX7.out.g1 HX7.out.g2 HX7.out.g3 G4.out HX7.out.g5 (HX7.out.cs.below (Below.refl _ _).drew) HC.out HD6.out (by omega) (by omega)).mono ?_
            rintro e w8 ⟨u, rfl, ⟨A8, m8, c8, rfl⟩, -, how, hb8'⟩
            have hb8 : Below w7.heap.size w7 w8 := (Below.refl _ _).drew.trans hb8'
            clear hb8'
            have hz8 := hb8.size
            have HO8 := Lib.hid (kept_below HO7.out hb8)
            obtain ⟨b1, o1, o2, o3⟩ := own_ints how (HN64.out j)
            obtain ⟨vs, hown8, hstep⟩ := HR7.out.step (by omega) hb8 o1 o2 o3
            rw [nxL_len] at hown8 hstep
            have HW8 := Lib.hid hown8
            have HSTP := Lib.hid hstep
            clear how o1 o2 o3 hown8 hstep
            replace k8a := (hb8.cell (p := ⟨G, 8, none⟩) hG7).trans k8a
            have HBX8 := bk HBX7 hb8 hG7
            clear q0
            have q0 : w8.cell? ⟨G, 0, none⟩ = some (.slice A0 m0 c0) := cell_of_row _ _ 0 _ _ (0, 0) HBX8.out
            refine hK.out _ _ ?_ (fun hHeld => ?_)
            · go_keep
            clear hK K
            try simp only [Act.put, pu]
            refine wpAnyH_ready (rs := [4, 8]) (by kernel_rfl) (by simp) ?_
            refine AllReadyH.cons rfl (fun K hK => ?_) (AllReadyH.cons rfl (fun K hK => ?_) AllReadyH.nil)
            · go_simp
              refine hK.out _ _ ?_ (fun hHeld => ?_)
              · go_keep
              clear hK K
              try simp only [Act.put, pu]
              refine wpAnyH_ready (rs := [8]) (by kernel_rfl) (by simp) ?_
              refine AllReadyH.cons rfl (fun K hK => ?_) AllReadyH.nil
              go_simp
              have k8b := Lib.cell?_alloc_some (.cells #[.slice A8 m8 c8] 23) k8a
              refine hK.out _ _ ?_ (fun hHeld => ?_)
              · go_keep
              clear hK K
              try simp only [Act.put, pu]
              refine wpAnyH_ready (rs := [9]) (by kernel_rfl) (by simp) ?_
              refine AllReadyH.cons rfl (fun K hK => ?_) AllReadyH.nil
              rw [if_pos (by rfl)]
              refine oper_append1 w8 (.tmp 26) (.tmp 30) 47 rfl w.heap.size 23 _ 24 Tryz.underlying47 sliceInfo rfl _ _ _ rfl _ rfl rfl HW8.out (by unfold maxLen; omega) (by omega) (by omega) ?_
              intro v9 w9 hown9 hbl9 hgr9 hlt9 hob9
              have hst9 := HSTP.out _ _ hown9 hgr9 hob9
              rw [← nxL_succ] at hst9
              obtain ⟨A9, m9, c9, rfl⟩ := hst9.isSlice
              have HST9 := Lib.hid hst9
              have HO9 := Lib.hid (HO8.out.kept hgr9 (own_apart HO8.out HW8.out (by decide)))
              have HBL9 := Lib.hid hbl9
              have hz9 := hbl9.size
              have HBX9 := Lib.hid ((hbl9.block G (by omega)).trans HBX8.out)
              clear hown9 hgr9 hob9 hst9 hbl9
              have k8c : w9.cell? ⟨G, 8, none⟩ = some (.slice An mn cn) := cell_of_row _ _ 8 _ _ (0, 0) HBX9.out
              have f8c : w9.frozen? ⟨G, 8, none⟩ = false := frozen_of_row _ _ 8 _ _ HBX9.out
              clear q0
              have q0 : w9.cell? ⟨G, 0, none⟩ = some (.slice A0 m0 c0) := cell_of_row _ _ 0 _ _ (0, 0) HBX9.out
              refine hK.out _ _ ?_ (fun hHeld => ?_)
              · go_keep
              clear hK K
              try simp only [Act.put, pu]
              refine tk 10 32 rfl rfl ?_
              try simp only [Act.put, pu]
              refine tk 11 33 rfl rfl ?_
              try simp only [Act.put, pu]
              refine wpAnyH_ready (rs := [12]) (by kernel_rfl) (by simp) ?_
              refine AllReadyH.cons rfl (fun K hK => ?_) AllReadyH.nil
              go_simp
              obtain ⟨wa, hwa⟩ : ∃ z, z = w9.setCell ⟨G, 8, none⟩ (.slice A9 m9 c9) := ⟨_, rfl⟩
              rw [← hwa]
              have hka : ∀ b, b ≠ G → wa.heap[b]? = w9.heap[b]? := fun b hb => by rw [hwa]; exact Below.heap_setCell w9 _ _ _ (by simpa using hb)
              have hza : wa.heap.size = w9.heap.size := by rw [hwa]; exact size_setCell w9 _ _
              have HBXa := Lib.hid (show wa.heap[G]? = some (.cells #[.slice A0 m0 c0, .slice A1 m1 c1, .slice A2 m2 c2, .int .i64 r, .int .i64 d, .slice Ac mc cc, .int .i64 T, .slice A6 (j + 1) c6, .slice A9 m9 c9] 78 (0, 0)) by rw [hwa]; have := heap_set_same (i := 8) HBX9.out (.slice A9 m9 c9); simpa using this)
              have HBPa := Lib.hid (show Below G w7 wa by rw [hwa]; exact Below.setCell (p := ⟨G, 8, none⟩) ((show Below G w7 w8 from hb8.mono (by omega)).trans (show Below G w8 w9 from HBL9.out.mono (by omega))) (Nat.le_refl _) _)
              have HOa := Lib.hid (own_keep4 HO9.out (by omega) (fun b hb _ => hka b (by omega)))
              have HRa := Lib.hid (HST9.out.keep (by omega) (fun b hb _ => hka b (by omega)))
              clear q0 k8c f8c hwa hka
              have q0 : wa.cell? ⟨G, 0, none⟩ = some (.slice A0 m0 c0) := cell_of_row _ _ 0 _ _ (0, 0) HBXa.out
              refine hK.out _ _ ?_ (fun hHeld => ?_)
              · go_keep
              clear hK K
              try simp only [Act.put, pu]
              refine wpAnyH_done (by kernel_rfl) ?_ _
              go_wp2_with fail
              go_roundw
              case rel =>
                refine ⟨j + 1, _, _, by omega, by go_num, HBXa, ?_, HRa.out, by omega, hB7.trans HBPa.out⟩
                rw [legL_len]
                exact HOa.out
              case measure => simp [intOf]; omega
            · go_simp
              have k8b := Lib.cell?_alloc_some (.cells #[.slice A8 m8 c8] 23) k8a
              refine hK.out _ _ ?_ (fun hHeld => ?_)
              · go_keep
              clear hK K
              try simp only [Act.put, pu]
              refine wpAnyH_ready (rs := [4]) (by kernel_rfl) (by simp) ?_
              refine AllReadyH.cons rfl (fun K hK => ?_) AllReadyH.nil
              go_simp
              refine hK.out _ _ ?_ (fun hHeld => ?_)
              · go_keep
              clear hK K
              try simp only [Act.put, pu]
              refine wpAnyH_ready (rs := [9]) (by kernel_rfl) (by simp) ?_
              refine AllReadyH.cons rfl (fun K hK => ?_) AllReadyH.nil
              rw [if_pos (by rfl)]
              refine oper_append1 w8 (.tmp 26) (.tmp 30) 47 rfl w.heap.size 23 _ 24 Tryz.underlying47 sliceInfo rfl _ _ _ rfl _ rfl rfl HW8.out (by unfold maxLen; omega) (by omega) (by omega) ?_
              intro v9 w9 hown9 hbl9 hgr9 hlt9 hob9
              have hst9 := HSTP.out _ _ hown9 hgr9 hob9
              rw [← nxL_succ] at hst9
              obtain ⟨A9, m9, c9, rfl⟩ := hst9.isSlice
              have HST9 := Lib.hid hst9
              have HO9 := Lib.hid (HO8.out.kept hgr9 (own_apart HO8.out HW8.out (by decide)))
              have HBL9 := Lib.hid hbl9
              have hz9 := hbl9.size
              have HBX9 := Lib.hid ((hbl9.block G (by omega)).trans HBX8.out)
              clear hown9 hgr9 hob9 hst9 hbl9
              have k8c : w9.cell? ⟨G, 8, none⟩ = some (.slice An mn cn) := cell_of_row _ _ 8 _ _ (0, 0) HBX9.out
              have f8c : w9.frozen? ⟨G, 8, none⟩ = false := frozen_of_row _ _ 8 _ _ HBX9.out
              clear q0
              have q0 : w9.cell? ⟨G, 0, none⟩ = some (.slice A0 m0 c0) := cell_of_row _ _ 0 _ _ (0, 0) HBX9.out
              refine hK.out _ _ ?_ (fun hHeld => ?_)
              · go_keep
              clear hK K
              try simp only [Act.put, pu]
              refine tk 10 32 rfl rfl ?_
              try simp only [Act.put, pu]
              refine tk 11 33 rfl rfl ?_
              try simp only [Act.put, pu]
              refine wpAnyH_ready (rs := [12]) (by kernel_rfl) (by simp) ?_
              refine AllReadyH.cons rfl (fun K hK => ?_) AllReadyH.nil
              go_simp
              obtain ⟨wa, hwa⟩ : ∃ z, z = w9.setCell ⟨G, 8, none⟩ (.slice A9 m9 c9) := ⟨_, rfl⟩
              rw [← hwa]
              have hka : ∀ b, b ≠ G → wa.heap[b]? = w9.heap[b]? := fun b hb => by rw [hwa]; exact Below.heap_setCell w9 _ _ _ (by simpa using hb)
              have hza : wa.heap.size = w9.heap.size := by rw [hwa]; exact size_setCell w9 _ _
              have HBXa := Lib.hid (show wa.heap[G]? = some (.cells #[.slice A0 m0 c0, .slice A1 m1 c1, .slice A2 m2 c2, .int .i64 r, .int .i64 d, .slice Ac mc cc, .int .i64 T, .slice A6 (j + 1) c6, .slice A9 m9 c9] 78 (0, 0)) by rw [hwa]; have := heap_set_same (i := 8) HBX9.out (.slice A9 m9 c9); simpa using this)
              have HBPa := Lib.hid (show Below G w7 wa by rw [hwa]; exact Below.setCell (p := ⟨G, 8, none⟩) ((show Below G w7 w8 from hb8.mono (by omega)).trans (show Below G w8 w9 from HBL9.out.mono (by omega))) (Nat.le_refl _) _)
              have HOa := Lib.hid (own_keep4 HO9.out (by omega) (fun b hb _ => hka b (by omega)))
              have HRa := Lib.hid (HST9.out.keep (by omega) (fun b hb _ => hka b (by omega)))
              clear q0 k8c f8c hwa hka
              have q0 : wa.cell? ⟨G, 0, none⟩ = some (.slice A0 m0 c0) := cell_of_row _ _ 0 _ _ (0, 0) HBXa.out
              refine hK.out _ _ ?_ (fun hHeld => ?_)
              · go_keep
              clear hK K
              try simp only [Act.put, pu]
              refine wpAnyH_done (by kernel_rfl) ?_ _
              go_wp2_with fail
              go_roundw
              case rel =>
                refine ⟨j + 1, _, _, by omega, by go_num, HBXa, ?_, HRa.out, by omega, hB7.trans HBPa.out⟩
                rw [legL_len]
                exact HOa.out
              case measure => simp [intOf]; omega
        · go_simp
          have k7b := Lib.cell?_alloc_some (.cells #[.bool (legN n r j)] 4) k7a
          refine hK.out _ _ ?_ (fun hHeld => ?_)
          · go_keep
          clear hK K
          try simp only [Act.put, pu]
          refine wpAnyH_ready (rs := [4]) (by kernel_rfl) (by simp) ?_
          refine AllReadyH.cons rfl (fun K hK => ?_) AllReadyH.nil
          go_simp
          refine hK.out _ _ ?_ (fun hHeld => ?_)
          · go_keep
          clear hK K
          try simp only [Act.put, pu]
          refine wpAnyH_ready (rs := [9]) (by kernel_rfl) (by simp) ?_
          refine AllReadyH.cons rfl (fun K hK => ?_) AllReadyH.nil
          rw [if_pos (by rfl)]
          refine oper_append1 w5 (.tmp 14) (.tmp 18) 48 rfl w.heap.size 4 _ 1 Tryz.underlying48 boolInf rfl _ _ _ rfl _ rfl rfl HO5.out (by unfold maxLen; omega) (by omega) (by omega) ?_
          intro v' w6 hown6 hbl6 hgr6 hlt6 hob6
          have ho6 : w6.ownsRow w.heap.size 4 1 v' (j + 1) ((legL n r (j + 1)).map Value.bool) := by rw [legL_succ, List.map_append]; exact hown6
          obtain ⟨A6, c6, rfl⟩ := own_sl ho6
          have HO6 := Lib.hid ho6
          have HR6 := Lib.hid (HR5.out.grown HO5.out hgr6)
          have HBL6 := Lib.hid hbl6
          have hz6 := hbl6.size
          have HBX6 := Lib.hid ((hbl6.block G (by omega)).trans HBX5.out)
          clear ho6 hown6 hgr6 hob6 hbl6
          have k7c : w6.cell? ⟨G, 7, none⟩ = some (.slice Al j cl) := cell_of_row _ _ 7 _ _ (0, 0) HBX6.out
          have f7c : w6.frozen? ⟨G, 7, none⟩ = false := frozen_of_row _ _ 7 _ _ HBX6.out
          clear q0
          have q0 : w6.cell? ⟨G, 0, none⟩ = some (.slice A0 m0 c0) := cell_of_row _ _ 0 _ _ (0, 0) HBX6.out
          refine hK.out _ _ ?_ (fun hHeld => ?_)
          · go_keep
          clear hK K
          try simp only [Act.put, pu]
          refine tk 10 20 rfl rfl ?_
          try simp only [Act.put, pu]
          refine tk 11 21 rfl rfl ?_
          try simp only [Act.put, pu]
          refine wpAnyH_ready (rs := [12]) (by kernel_rfl) (by simp) ?_
          refine AllReadyH.cons rfl (fun K hK => ?_) AllReadyH.nil
          go_simp
          obtain ⟨w7, hw7⟩ : ∃ z, z = w6.setCell ⟨G, 7, none⟩ (.slice A6 (j + 1) c6) := ⟨_, rfl⟩
          rw [← hw7]
          have hk7 : ∀ b, b ≠ G → w7.heap[b]? = w6.heap[b]? := fun b hb => by rw [hw7]; exact Below.heap_setCell w6 _ _ _ (by simpa using hb)
          have hz7 : w7.heap.size = w6.heap.size := by rw [hw7]; exact size_setCell w6 _ _
          have HBX7 := Lib.hid (show w7.heap[G]? = some (.cells #[.slice A0 m0 c0, .slice A1 m1 c1, .slice A2 m2 c2, .int .i64 r, .int .i64 d, .slice Ac mc cc, .int .i64 T, .slice A6 (j + 1) c6, .slice An mn cn] 78 (0, 0)) by rw [hw7]; have := heap_set_same (i := 7) HBX6.out (.slice A6 (j + 1) c6); simpa using this)
          have HBP7 := Lib.hid (show Below G wr w7 by rw [hw7]; exact Below.setCell (p := ⟨G, 7, none⟩) ((show Below G wr w5 from hb5.mono (by omega)).trans (show Below G w5 w6 from HBL6.out.mono (by omega))) (Nat.le_refl _) _)
          have HO7 := Lib.hid (own_keep4 HO6.out (by omega) (fun b hb _ => hk7 b (by omega)))
          have HR7 := Lib.hid (HR6.out.keep (by omega) (fun b hb _ => hk7 b (by omega)))
          clear q0 k7c f7c hw7 hk7
          have q0 : w7.cell? ⟨G, 0, none⟩ = some (.slice A0 m0 c0) := cell_of_row _ _ 0 _ _ (0, 0) HBX7.out
          refine hK.out _ _ ?_ (fun hHeld => ?_)
          · go_keep
          clear hK K
          try simp only [Act.put, pu]
          refine wpAnyH_done (by kernel_rfl) ?_ _
          have hB7 := hbl.trans HBP7.out
          have HX7 := Lib.hid (ExG.of ((HN0.out.below hB7).more (show G ≤ w7.heap.size by omega)) ((HC0.out.below hB7).more (show G ≤ w7.heap.size by omega)) HBX7.out)
          have hG7 : G < w7.heap.size := by omega
          have k8a : w7.cell? ⟨G, 8, none⟩ = some (.slice An mn cn) := cell_of_row _ _ 8 _ _ (0, 0) HBX7.out
          have g4 : w7.cell? ⟨G, 4, none⟩ = some (.int .i64 d) := cell_of_row _ _ 4 _ _ (0, 0) HBX7.out
          have G4 := Lib.hid g4; clear g4
          go_wp2_with fail
          refine wp_region_held_drew (S := fun w' => w'.cell? ⟨G, 0, none⟩ = some (.slice A0 m0 c0)) (by kernel_rfl) ?_ (fun hHeld => ?_)
          · go_keep
          refine tk 0 22 rfl rfl ?_
          try simp only [Act.put, pu]
          refine tk 1 23 rfl rfl ?_
          try simp only [Act.put, pu]
          refine tk 2 24 rfl rfl ?_
          try simp only [Act.put, pu]
          refine tk 3 25 rfl rfl ?_
          try simp only [Act.put, pu]
          refine tk 5 27 rfl rfl ?_
          try simp only [Act.put, pu]
          refine tk 6 28 rfl rfl ?_
          try simp only [Act.put, pu]
          refine wpAnyH_ready (rs := [4, 7]) (by kernel_rfl) (by simp) ?_
          refine AllReadyH.cons rfl (fun K hK => ?_) (AllReadyH.cons rfl (fun K hK => ?_) AllReadyH.nil)
          · go_simp
            refine hK.out _ _ ?_ (fun hHeld => ?_)
            · go_keep
            clear hK K
            try simp only [Act.put, pu]
            refine wpAnyH_ready (rs := [7]) (by kernel_rfl) (by simp) ?_
            refine AllReadyH.cons rfl (fun K hK => ?_) AllReadyH.nil
            go_simp
            go_at_call 94
            refine (impl_successors G A0 A1 A2 Ac m0 c0 m1 c1 m2 c2 mc cc n r d j w7.drew (HX7.out.net.up (Below.refl _ _).drew) HX7.out.g0 HX7.out.g1 HX7.out.g2 HX7.out.g3 G4.out HX7.out.g5 (HX7.out.cs.below (Below.refl _ _).drew) HC.out HD6.out (by omega) (by omega)).mono ?_
            rintro e w8 ⟨u, rfl, ⟨A8, m8, c8, rfl⟩, -, how, hb8'⟩
            have hb8 : Below w7.heap.size w7 w8 := (Below.refl _ _).drew.trans hb8'
            clear hb8'
            have hz8 := hb8.size
            have HO8 := Lib.hid (kept_below HO7.out hb8)
            obtain ⟨b1, o1, o2, o3⟩ := own_ints how (HN64.out j)
            obtain ⟨vs, hown8, hstep⟩ := HR7.out.step (by omega) hb8 o1 o2 o3
            rw [nxL_len] at hown8 hstep
            have HW8 := Lib.hid hown8
            have HSTP := Lib.hid hstep
            clear how o1 o2 o3 hown8 hstep
            replace k8a := (hb8.cell (p := ⟨G, 8, none⟩) hG7).trans k8a
            have HBX8 := bk HBX7 hb8 hG7
            clear q0
            have q0 : w8.cell? ⟨G, 0, none⟩ = some (.slice A0 m0 c0) := cell_of_row _ _ 0 _ _ (0, 0) HBX8.out
            refine hK.out _ _ ?_ (fun hHeld => ?_)
            · go_keep
            clear hK K
            try simp only [Act.put, pu]
            refine wpAnyH_ready (rs := [8]) (by kernel_rfl) (by simp) ?_
            refine AllReadyH.cons rfl (fun K hK => ?_) AllReadyH.nil
            go_simp
            have k8b := Lib.cell?_alloc_some (.cells #[.slice A8 m8 c8] 23) k8a
            refine hK.out _ _ ?_ (fun hHeld => ?_)
            · go_keep
            clear hK K
            try simp only [Act.put, pu]
            refine wpAnyH_ready (rs := [9]) (by kernel_rfl) (by simp) ?_
            refine AllReadyH.cons rfl (fun K hK => ?_) AllReadyH.nil
            rw [if_pos (by rfl)]
            refine oper_append1 w8 (.tmp 26) (.tmp 30) 47 rfl w.heap.size 23 _ 24 Tryz.underlying47 sliceInfo rfl _ _ _ rfl _ rfl rfl HW8.out (by unfold maxLen; omega) (by omega) (by omega) ?_
            intro v9 w9 hown9 hbl9 hgr9 hlt9 hob9
            have hst9 := HSTP.out _ _ hown9 hgr9 hob9
            rw [← nxL_succ] at hst9
            obtain ⟨A9, m9, c9, rfl⟩ := hst9.isSlice
            have HST9 := Lib.hid hst9
            have HO9 := Lib.hid (HO8.out.kept hgr9 (own_apart HO8.out HW8.out (by decide)))
            have HBL9 := Lib.hid hbl9
            have hz9 := hbl9.size
            have HBX9 := Lib.hid ((hbl9.block G (by omega)).trans HBX8.out)
            clear hown9 hgr9 hob9 hst9 hbl9
            have k8c : w9.cell? ⟨G, 8, none⟩ = some (.slice An mn cn) := cell_of_row _ _ 8 _ _ (0, 0) HBX9.out
            have f8c : w9.frozen? ⟨G, 8, none⟩ = false := frozen_of_row _ _ 8 _ _ HBX9.out
            clear q0
            have q0 : w9.cell? ⟨G, 0, none⟩ = some (.slice A0 m0 c0) := cell_of_row _ _ 0 _ _ (0, 0) HBX9.out
            refine hK.out _ _ ?_ (fun hHeld => ?_)
            · go_keep
            clear hK K
            try simp only [Act.put, pu]
            refine tk 10 32 rfl rfl ?_
            try simp only [Act.put, pu]
            refine tk 11 33 rfl rfl ?_
            try simp only [Act.put, pu]
            refine wpAnyH_ready (rs := [12]) (by kernel_rfl) (by simp) ?_
            refine AllReadyH.cons rfl (fun K hK => ?_) AllReadyH.nil
            go_simp
            obtain ⟨wa, hwa⟩ : ∃ z, z = w9.setCell ⟨G, 8, none⟩ (.slice A9 m9 c9) := ⟨_, rfl⟩
            rw [← hwa]
            have hka : ∀ b, b ≠ G → wa.heap[b]? = w9.heap[b]? := fun b hb => by rw [hwa]; exact Below.heap_setCell w9 _ _ _ (by simpa using hb)
            have hza : wa.heap.size = w9.heap.size := by rw [hwa]; exact size_setCell w9 _ _
            have HBXa := Lib.hid (show wa.heap[G]? = some (.cells #[.slice A0 m0 c0, .slice A1 m1 c1, .slice A2 m2 c2, .int .i64 r, .int .i64 d, .slice Ac mc cc, .int .i64 T, .slice A6 (j + 1) c6, .slice A9 m9 c9] 78 (0, 0)) by rw [hwa]; have := heap_set_same (i := 8) HBX9.out (.slice A9 m9 c9); simpa using this)
            have HBPa := Lib.hid (show Below G w7 wa by rw [hwa]; exact Below.setCell (p := ⟨G, 8, none⟩) ((show Below G w7 w8 from hb8.mono (by omega)).trans (show Below G w8 w9 from HBL9.out.mono (by omega))) (Nat.le_refl _) _)
            have HOa := Lib.hid (own_keep4 HO9.out (by omega) (fun b hb _ => hka b (by omega)))
            have HRa := Lib.hid (HST9.out.keep (by omega) (fun b hb _ => hka b (by omega)))
            clear q0 k8c f8c hwa hka
            have q0 : wa.cell? ⟨G, 0, none⟩ = some (.slice A0 m0 c0) := cell_of_row _ _ 0 _ _ (0, 0) HBXa.out
            refine hK.out _ _ ?_ (fun hHeld => ?_)
            · go_keep
            clear hK K
            try simp only [Act.put, pu]
            refine wpAnyH_done (by kernel_rfl) ?_ _
            go_wp2_with fail
            go_roundw
            case rel =>
              refine ⟨j + 1, _, _, by omega, by go_num, HBXa, ?_, HRa.out, by omega, hB7.trans HBPa.out⟩
              rw [legL_len]
              exact HOa.out
            case measure => simp [intOf]; omega
          · go_simp
            go_at_call 94
            refine (impl_successors G A0 A1 A2 Ac m0 c0 m1 c1 m2 c2 mc cc n r d j w7.drew (HX7.out.net.up (Below.refl _ _).drew) HX7.out.g0 HX7.out.g1 HX7.out.g2 HX7.out.g3 G4.out HX7.out.g5 (HX7.out.cs.below (Below.refl _ _).drew) HC.out HD6.out (by omega) (by omega)).mono ?_
            rintro e w8 ⟨u, rfl, ⟨A8, m8, c8, rfl⟩, -, how, hb8'⟩
            have hb8 : Below w7.heap.size w7 w8 := (Below.refl _ _).drew.trans hb8'
            clear hb8'
            have hz8 := hb8.size
            have HO8 := Lib.hid (kept_below HO7.out hb8)
            obtain ⟨b1, o1, o2, o3⟩ := own_ints how (HN64.out j)
            obtain ⟨vs, hown8, hstep⟩ := HR7.out.step (by omega) hb8 o1 o2 o3
            rw [nxL_len] at hown8 hstep
            have HW8 := Lib.hid hown8
            have HSTP := Lib.hid hstep
            clear how o1 o2 o3 hown8 hstep
            replace k8a := (hb8.cell (p := ⟨G, 8, none⟩) hG7).trans k8a
            have HBX8 := bk HBX7 hb8 hG7
            clear q0
            have q0 : w8.cell? ⟨G, 0, none⟩ = some (.slice A0 m0 c0) := cell_of_row _ _ 0 _ _ (0, 0) HBX8.out
            refine hK.out _ _ ?_ (fun hHeld => ?_)
            · go_keep
            clear hK K
            try simp only [Act.put, pu]
            refine wpAnyH_ready (rs := [4, 8]) (by kernel_rfl) (by simp) ?_
            refine AllReadyH.cons rfl (fun K hK => ?_) (AllReadyH.cons rfl (fun K hK => ?_) AllReadyH.nil)
            · go_simp
              refine hK.out _ _ ?_ (fun hHeld => ?_)
              · go_keep
              clear hK K
              try simp only [Act.put, pu]
              refine wpAnyH_ready (rs := [8]) (by kernel_rfl) (by simp) ?_
              refine AllReadyH.cons rfl (fun K hK => ?_) AllReadyH.nil
              go_simp
              have k8b := Lib.cell?_alloc_some (.cells #[.slice A8 m8 c8] 23) k8a
              refine hK.out _ _ ?_ (fun hHeld => ?_)
              · go_keep
              clear hK K
              try simp only [Act.put, pu]
              refine wpAnyH_ready (rs := [9]) (by kernel_rfl) (by simp) ?_
              refine AllReadyH.cons rfl (fun K hK => ?_) AllReadyH.nil
              rw [if_pos (by rfl)]
              refine oper_append1 w8 (.tmp 26) (.tmp 30) 47 rfl w.heap.size 23 _ 24 Tryz.underlying47 sliceInfo rfl _ _ _ rfl _ rfl rfl HW8.out (by unfold maxLen; omega) (by omega) (by omega) ?_
              intro v9 w9 hown9 hbl9 hgr9 hlt9 hob9
              have hst9 := HSTP.out _ _ hown9 hgr9 hob9
              rw [← nxL_succ] at hst9
              obtain ⟨A9, m9, c9, rfl⟩ := hst9.isSlice
              have HST9 := Lib.hid hst9
              have HO9 := Lib.hid (HO8.out.kept hgr9 (own_apart HO8.out HW8.out (by decide)))
              have HBL9 := Lib.hid hbl9
              have hz9 := hbl9.size
              have HBX9 := Lib.hid ((hbl9.block G (by omega)).trans HBX8.out)
              clear hown9 hgr9 hob9 hst9 hbl9
              have k8c : w9.cell? ⟨G, 8, none⟩ = some (.slice An mn cn) := cell_of_row _ _ 8 _ _ (0, 0) HBX9.out
              have f8c : w9.frozen? ⟨G, 8, none⟩ = false := frozen_of_row _ _ 8 _ _ HBX9.out
              clear q0
              have q0 : w9.cell? ⟨G, 0, none⟩ = some (.slice A0 m0 c0) := cell_of_row _ _ 0 _ _ (0, 0) HBX9.out
              refine hK.out _ _ ?_ (fun hHeld => ?_)
              · go_keep
              clear hK K
              try simp only [Act.put, pu]
              refine tk 10 32 rfl rfl ?_
              try simp only [Act.put, pu]
              refine tk 11 33 rfl rfl ?_
              try simp only [Act.put, pu]
              refine wpAnyH_ready (rs := [12]) (by kernel_rfl) (by simp) ?_
              refine AllReadyH.cons rfl (fun K hK => ?_) AllReadyH.nil
              go_simp
              obtain ⟨wa, hwa⟩ : ∃ z, z = w9.setCell ⟨G, 8, none⟩ (.slice A9 m9 c9) := ⟨_, rfl⟩
              rw [← hwa]
              have hka : ∀ b, b ≠ G → wa.heap[b]? = w9.heap[b]? := fun b hb => by rw [hwa]; exact Below.heap_setCell w9 _ _ _ (by simpa using hb)
              have hza : wa.heap.size = w9.heap.size := by rw [hwa]; exact size_setCell w9 _ _
              have HBXa := Lib.hid (show wa.heap[G]? = some (.cells #[.slice A0 m0 c0, .slice A1 m1 c1, .slice A2 m2 c2, .int .i64 r, .int .i64 d, .slice Ac mc cc, .int .i64 T, .slice A6 (j + 1) c6, .slice A9 m9 c9] 78 (0, 0)) by rw [hwa]; have := heap_set_same (i := 8) HBX9.out (.slice A9 m9 c9); simpa using this)
              have HBPa := Lib.hid (show Below G w7 wa by rw [hwa]; exact Below.setCell (p := ⟨G, 8, none⟩) ((show Below G w7 w8 from hb8.mono (by omega)).trans (show Below G w8 w9 from HBL9.out.mono (by omega))) (Nat.le_refl _) _)
              have HOa := Lib.hid (own_keep4 HO9.out (by omega) (fun b hb _ => hka b (by omega)))
              have HRa := Lib.hid (HST9.out.keep (by omega) (fun b hb _ => hka b (by omega)))
              clear q0 k8c f8c hwa hka
              have q0 : wa.cell? ⟨G, 0, none⟩ = some (.slice A0 m0 c0) := cell_of_row _ _ 0 _ _ (0, 0) HBXa.out
              refine hK.out _ _ ?_ (fun hHeld => ?_)
              · go_keep
              clear hK K
              try simp only [Act.put, pu]
              refine wpAnyH_done (by kernel_rfl) ?_ _
              go_wp2_with fail
              go_roundw
              case rel =>
                refine ⟨j + 1, _, _, by omega, by go_num, HBXa, ?_, HRa.out, by omega, hB7.trans HBPa.out⟩
                rw [legL_len]
                exact HOa.out
              case measure => simp [intOf]; omega
            · go_simp
              have k8b := Lib.cell?_alloc_some (.cells #[.slice A8 m8 c8] 23) k8a
              refine hK.out _ _ ?_ (fun hHeld => ?_)
              · go_keep
              clear hK K
              try simp only [Act.put, pu]
              refine wpAnyH_ready (rs := [4]) (by kernel_rfl) (by simp) ?_
              refine AllReadyH.cons rfl (fun K hK => ?_) AllReadyH.nil
              go_simp
              refine hK.out _ _ ?_ (fun hHeld => ?_)
              · go_keep
              clear hK K
              try simp only [Act.put, pu]
              refine wpAnyH_ready (rs := [9]) (by kernel_rfl) (by simp) ?_
              refine AllReadyH.cons rfl (fun K hK => ?_) AllReadyH.nil
              rw [if_pos (by rfl)]
              refine oper_append1 w8 (.tmp 26) (.tmp 30) 47 rfl w.heap.size 23 _ 24 Tryz.underlying47 sliceInfo rfl _ _ _ rfl _ rfl rfl HW8.out (by unfold maxLen; omega) (by omega) (by omega) ?_
              intro v9 w9 hown9 hbl9 hgr9 hlt9 hob9
              have hst9 := HSTP.out _ _ hown9 hgr9 hob9
              rw [← nxL_succ] at hst9
              obtain ⟨A9, m9, c9, rfl⟩ := hst9.isSlice
              have HST9 := Lib.hid hst9
              have HO9 := Lib.hid (HO8.out.kept hgr9 (own_apart HO8.out HW8.out (by decide)))
              have HBL9 := Lib.hid hbl9
              have hz9 := hbl9.size
              have HBX9 := Lib.hid ((hbl9.block G (by omega)).trans HBX8.out)
              clear hown9 hgr9 hob9 hst9 hbl9
              have k8c : w9.cell? ⟨G, 8, none⟩ = some (.slice An mn cn) := cell_of_row _ _ 8 _ _ (0, 0) HBX9.out
              have f8c : w9.frozen? ⟨G, 8, none⟩ = false := frozen_of_row _ _ 8 _ _ HBX9.out
              clear q0
              have q0 : w9.cell? ⟨G, 0, none⟩ = some (.slice A0 m0 c0) := cell_of_row _ _ 0 _ _ (0, 0) HBX9.out
              refine hK.out _ _ ?_ (fun hHeld => ?_)
              · go_keep
              clear hK K
              try simp only [Act.put, pu]
              refine tk 10 32 rfl rfl ?_
              try simp only [Act.put, pu]
              refine tk 11 33 rfl rfl ?_
              try simp only [Act.put, pu]
              refine wpAnyH_ready (rs := [12]) (by kernel_rfl) (by simp) ?_
              refine AllReadyH.cons rfl (fun K hK => ?_) AllReadyH.nil
              go_simp
              obtain ⟨wa, hwa⟩ : ∃ z, z = w9.setCell ⟨G, 8, none⟩ (.slice A9 m9 c9) := ⟨_, rfl⟩
              rw [← hwa]
              have hka : ∀ b, b ≠ G → wa.heap[b]? = w9.heap[b]? := fun b hb => by rw [hwa]; exact Below.heap_setCell w9 _ _ _ (by simpa using hb)
              have hza : wa.heap.size = w9.heap.size := by rw [hwa]; exact size_setCell w9 _ _
              have HBXa := Lib.hid (show wa.heap[G]? = some (.cells #[.slice A0 m0 c0, .slice A1 m1 c1, .slice A2 m2 c2, .int .i64 r, .int .i64 d, .slice Ac mc cc, .int .i64 T, .slice A6 (j + 1) c6, .slice A9 m9 c9] 78 (0, 0)) by rw [hwa]; have := heap_set_same (i := 8) HBX9.out (.slice A9 m9 c9); simpa using this)
              have HBPa := Lib.hid (show Below G w7 wa by rw [hwa]; exact Below.setCell (p := ⟨G, 8, none⟩) ((show Below G w7 w8 from hb8.mono (by omega)).trans (show Below G w8 w9 from HBL9.out.mono (by omega))) (Nat.le_refl _) _)
              have HOa := Lib.hid (own_keep4 HO9.out (by omega) (fun b hb _ => hka b (by omega)))
              have HRa := Lib.hid (HST9.out.keep (by omega) (fun b hb _ => hka b (by omega)))
              clear q0 k8c f8c hwa hka
              have q0 : wa.cell? ⟨G, 0, none⟩ = some (.slice A0 m0 c0) := cell_of_row _ _ 0 _ _ (0, 0) HBXa.out
              refine hK.out _ _ ?_ (fun hHeld => ?_)
              · go_keep
              clear hK K
              try simp only [Act.put, pu]
              refine wpAnyH_done (by kernel_rfl) ?_ _
              go_wp2_with fail
              go_roundw
              case rel =>
                refine ⟨j + 1, _, _, by omega, by go_num, HBXa, ?_, HRa.out, by omega, hB7.trans HBPa.out⟩
                rw [legL_len]
                exact HOa.out
              case measure => simp [intOf]; omega
    · obtain rfl : j = T := by omega
      go_wp2_with fail
      go_end0
      exact ⟨⟨_, rfl⟩, _, _, hbx, own_bools HO.out, HR.out.reads, hbl⟩
