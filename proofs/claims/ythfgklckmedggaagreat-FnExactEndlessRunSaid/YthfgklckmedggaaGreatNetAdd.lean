/-
  Successors of a situation, the program's side: one set's successor (the closure of successors).
-/
import Derived.Test.YthfgklckmedggaaGreatNextI
import Derived.Test.YthfgklckmedggaaGreatNetSort
import Derived.Test.YthfgklckmedggaaGreatNumAll
import Derived.Test.YthfgklckmedggaaGreatSetsAll
import Derived.Laws.Bits64b
namespace Go.Proofs.YthfgklckmedggaaGreat
open Go.RowKit
set_option linter.unusedVariables false
set_option linter.unusedSimpArgs false
/-- What lies still while the successors are put together: the explorer, the states, the enabled nodes, in blocks below P7; then the variable that holds what has been put together. -/
structure SuAt (P2 P5 P6 P7 G : Nat) (A0 A1 A2 Ac : Option Addr) (m0 c0 m1 c1 m2 c2 mc cc ce cs : Nat) (ed sd : Addr) (n : Net) (r : Int) (ss en : List Int) (w : World) : Prop where
  net : NetR w P7 (.slice A0 m0 c0) (.slice A1 m1 c1) (.slice A2 m2 c2) n
  g0 : w.cell? ⟨G, 0, none⟩ = some (.slice A0 m0 c0)
  g1 : w.cell? ⟨G, 1, none⟩ = some (.slice A1 m1 c1)
  g2 : w.cell? ⟨G, 2, none⟩ = some (.slice A2 m2 c2)
  g3 : w.cell? ⟨G, 3, none⟩ = some (.int .i64 r)
  g5 : w.cell? ⟨G, 5, none⟩ = some (.slice Ac mc cc)
  cnt : IntsR w P7 (.slice Ac mc cc) (cnts n r)
  sts : IntsR w P7 (.slice (some sd) ss.length cs) ss
  enb : IntsR w P7 (.slice (some ed) en.length ce) en
  p2 : w.cell? ⟨P2, 0, none⟩ = some (.pointer (some ⟨G, 0, none⟩))
  p5 : w.cell? ⟨P5, 0, none⟩ = some (.slice (some sd) ss.length cs)
  p6 : w.cell? ⟨P6, 0, none⟩ = some (.slice (some ed) en.length ce)
  lt : (G < P7 ∧ P2 < P7) ∧ P5 < P7 ∧ P6 < P7
theorem SuAt.up {P2 P5 P6 P7 G : Nat} {A0 A1 A2 Ac : Option Addr} {m0 c0 m1 c1 m2 c2 mc cc ce cs : Nat} {ed sd : Addr} {n : Net} {r : Int} {ss en : List Int} {w w' : World} (h : SuAt P2 P5 P6 P7 G A0 A1 A2 Ac m0 c0 m1 c1 m2 c2 mc cc ce cs ed sd n r ss en w) (hb : Below P7 w w') :
    SuAt P2 P5 P6 P7 G A0 A1 A2 Ac m0 c0 m1 c1 m2 c2 mc cc ce cs ed sd n r ss en w' := by
  obtain ⟨⟨l1, l2⟩, l3, l4⟩ := h.lt
  exact ⟨h.net.below hb, (hb.cell (p := ⟨G, 0, none⟩) l1).trans h.g0, (hb.cell (p := ⟨G, 1, none⟩) l1).trans h.g1, (hb.cell (p := ⟨G, 2, none⟩) l1).trans h.g2, (hb.cell (p := ⟨G, 3, none⟩) l1).trans h.g3, (hb.cell (p := ⟨G, 5, none⟩) l1).trans h.g5,
    h.cnt.below hb, h.sts.below hb, h.enb.below hb, (hb.cell (p := ⟨P2, 0, none⟩) l2).trans h.p2, (hb.cell (p := ⟨P5, 0, none⟩) l3).trans h.p5, (hb.cell (p := ⟨P6, 0, none⟩) l4).trans h.p6, h.lt⟩
/-- The variable that holds what has been put together. -/
def OutAt (P7 : Nat) (outs : List Int) (w : World) : Prop :=
  ∃ u, w.cell? ⟨P7, 0, none⟩ = some u ∧ w.frozen? ⟨P7, 0, none⟩ = false ∧ w.ownsRow (P7 + 1) 3 1 u outs.length (outs.map intV)
theorem bit_u64 (m j : Nat) (hm : m < 2 ^ 41) : (bits BinOp.and IntKind.u64 ((m : Int) / 2 ^ j) 1 == 1) = m.testBit j := by
  have hle : m / 2 ^ j ≤ m := Nat.div_le_self _ _
  have e : (m : Int) / 2 ^ j = ((m / 2 ^ j : Nat) : Int) := by rw [Int.natCast_ediv, Int.natCast_pow]; rfl
  have h1 := bits_and_u64_nat (m / 2 ^ j) 1 (by omega) (by omega)
  rw [e, show (1 : Int) = ((1 : Nat) : Int) from rfl, h1, Nat.and_one_is_mod, Nat.testBit_eq_decide_div_mod_eq]
  by_cases hb : m / 2 ^ j % 2 = 1
  · rw [hb, decide_eq_true rfl]; rfl
  · rw [decide_eq_false hb, beq_eq_false_iff_ne]
    omega
def AdRel (en : List Int) (m P7 : Nat) (w : World) (v i : Value) (wr : World) : Prop :=
  ∃ j c : Nat, j ≤ en.length ∧ i = .int .i64 j ∧ c = (pickTo en m j).length ∧ wr.ownsRow w.heap.size 3 1 v c ((pickTo en m j).map intV) ∧ Below w.heap.size w wr
set_option maxRecDepth 100000 in
set_option maxHeartbeats 2000000 in
theorem closure_add (P2 P5 P6 P7 G : Nat) (A0 A1 A2 Ac : Option Addr) (m0 c0 m1 c1 m2 c2 mc cc ce cs : Nat) (ed sd : Addr) (n : Net) (r : Int) (ss en outs : List Int) (m : Nat) (w : World) (h : SuAt P2 P5 P6 P7 G A0 A1 A2 Ac m0 c0 m1 c1 m2 c2 mc cc ce cs ed sd n r ss en w)
    (ho : OutAt P7 outs w) (ha : askP n r) (hf : Few (cnts n r)) (hS : Sts (cnts n r) ss) (hen : ∀ v ∈ en, 0 ≤ v ∧ v.toNat < ss.length) (hel : en.length ≤ 40) (hol : outs.length ≤ 1000) (hm : m < 2 ^ 41) :
    Calls Tryz.prog 118 #[.int .u64 (m : Int), .pointer (some ⟨P6, 0, none⟩), .pointer (some ⟨P7, 0, none⟩), .pointer (some ⟨P2, 0, none⟩), .pointer (some ⟨P5, 0, none⟩)] w fun e w' =>
      (∃ v, e = .returned v) ∧ OutAt P7 (outs ++ [numM n r ss (pick en m)]) w' ∧ Below P7 w w' := by
  obtain ⟨u, k7, f7, hown⟩ := ho
  have H := Lib.hid h
  have hl7 := World.block_lt_of_cell? _ _ k7
  have hl7' : P7 < w.heap.size := hl7
  have k6 := h.p6
  obtain ⟨-, -, hcm, hec⟩ := h.enb.some_
  have HEC := Lib.hid hec; clear hec
  have HE64 := Lib.hid h.enb.2
  clear h
  unfold maxLen at hcm
  go_enter Tryz.func118, Tryz.ntmps118
  go_wp2_with fail
  go_loopw [6, 7, 8, 11] (fun v _ _ i wr => AdRel en m P7 w v i wr) (fun _ _ _ i _ => en.length - (intOf i).toNat)
  case atStart => exact ⟨0, 0, Nat.zero_le _, rfl, rfl, World.ownsRow_nil _ _ _ _, Below.refl _ _⟩
  case round =>
    obtain ⟨j, c, hj, rfl, hcl, hown2, hbl⟩ := hrel
    have hcj := pickTo_len en m j
    have HCL := Lib.hid hcl
    replace hcj : c ≤ j := by omega
    clear hcl
    by_cases hjl : j < en.length
    · obtain ⟨x, hx⟩ : ∃ x, en[j]? = some x := ⟨_, List.getElem?_eq_getElem hjl⟩
      obtain ⟨ed', e', hedb, hedc⟩ := HEC.out (by omega)
      obtain rfl : ed = ed' := by simpa using e'
      have hcx := (hbl.cell (p := ed.add j) (by rw [block_add]; omega)).trans (hedc j x hx)
      clear e' hedc
      have HTB := Lib.hid (bit_u64 m j hm)
      have HG := Lib.hid (show en.getD j 0 = x by rw [List.getD_eq_getElem?_getD, hx]; rfl)
      clear hx
      cases hb : m.testBit j with
      | true =>
        rw [hb] at HTB
        have kb := HTB.out
        have HN := Lib.hid (show pickTo en m (j + 1) = pickTo en m j ++ [x] by rw [pickTo_succ, hb, if_pos rfl, HG.out])
        go_wp2_with ((at_builtin; refine wpList_append1 wr rfl (.tmp 21) (.tmp 23) 23 rfl w.heap.size 3 _ 8 Tryz.underlying23 intInfo rfl _ _ _ rfl _ rfl rfl hown2 (by unfold maxLen; omega) (by omega) hbl.size ?_; intro v' w' hown' hbl' hgr' hlt' hob'))
        go_roundw
        case rel => exact ⟨j + 1, c + 1, by omega, by go_num, by rw [HN.out, List.length_append, HCL.out]; rfl, by rw [HN.out, List.map_append]; exact hown', hbl.trans hbl'⟩
        case measure => simp [intOf]; omega
      | false =>
        rw [hb] at HTB
        have kb := HTB.out
        have HN := Lib.hid (show pickTo en m (j + 1) = pickTo en m j by rw [pickTo_succ, hb, if_neg (by simp), List.append_nil])
        go_wp2_with fail
        go_roundw
        case rel => exact ⟨j + 1, c, by omega, by go_num, by rw [HN.out]; exact HCL.out, by rw [HN.out]; exact hown2, hbl⟩
        case measure => simp [intOf]; omega
    · obtain rfl : j = en.length := by omega
      have HPK := Lib.hid (show IntsR wr wr.heap.size u6 (pick en m) from own_intsR hown2 (pickTo_I64 HE64.out (Nat.le_refl _)))
      obtain ⟨A6, m6, c6, rfl⟩ := HPK.out.isSlice
      have hpk : ∀ v ∈ pick en m, 0 ≤ v ∧ v.toNat < ss.length := fun v hv => hen v (pick_mem hv)
      have hpl : (pick en m).length ≤ 40 := Nat.le_trans (pickTo_len _ _ _) hel
      have hms := moveS_sts ha hS (pick en m) hpk
      have HMS := Lib.hid hms
      have HPKM := Lib.hid hpk
      have hz := hbl.size
      have hb7 : Below P7 w wr := hbl.mono (by omega)
      have H1 := Lib.hid (H.out.up hb7)
      have k7a := (hbl.cell (p := ⟨P7, 0, none⟩) hl7').trans k7
      have f7a := (hbl.frozen (p := ⟨P7, 0, none⟩) hl7').trans f7
      have HO1 := Lib.hid (own_keep4 hown hbl.size (fun b _ hb => hbl.block b hb))
      have HFEW := Lib.hid hf
      have J := Lib.hid (impl_moveSet _ _ _ _ _ n r ss (pick en m) wr.drew ((H1.out.net.more (by omega)).up (Below.refl _ _).drew) ha ((H1.out.sts.below (Below.refl _ _).drew).more (by show P7 ≤ wr.heap.size; omega)) hS ((HPK.out.below (Below.refl _ _).drew).more (Nat.le_refl _)) hpk (by omega))
      have HLT := Lib.hid H1.out.lt
      obtain ⟨⟨l1, l2⟩, l3, l4⟩ := HLT.out
      have n1 : P7 ≠ G := by omega
      have n2 : P7 ≠ P2 := by omega
      have n5 : P7 ≠ P5 := by omega
      clear hcj hown2 hown k7 f7 hms hpk hf k6
      have a0 := H1.out.g0
      have a1 := H1.out.g1
      have a2 := H1.out.g2
      have a3 := H1.out.g3
      have ap2 := H1.out.p2
      have ap5 := H1.out.p5
      go_wp2_with fail
      refine wp_region_held_drew (S := fun w' => w'.cell? ⟨P2, 0, none⟩ = some (.pointer (some ⟨G, 0, none⟩)) ∧ w'.cell? ⟨G, 0, none⟩ = some (.slice A0 m0 c0) ∧ w'.cell? ⟨G, 1, none⟩ = some (.slice A1 m1 c1) ∧ w'.cell? ⟨G, 2, none⟩ = some (.slice A2 m2 c2) ∧ w'.cell? ⟨G, 3, none⟩ = some (.int .i64 r) ∧ w'.cell? ⟨P5, 0, none⟩ = some (.slice (some sd) ss.length cs)) (by kernel_rfl) ?_ (fun hHeld => ?_)
      · go_keep
      refine tk 1 27 rfl rfl ?_
      try simp only [Act.put, pu]
      refine tk 2 28 rfl rfl ?_
      try simp only [Act.put, pu]
      refine tk 3 29 rfl rfl ?_
      try simp only [Act.put, pu]
      refine tk 4 30 rfl rfl ?_
      try simp only [Act.put, pu]
      refine tk 5 31 rfl rfl ?_
      try simp only [Act.put, pu]
      refine tk 6 32 rfl rfl ?_
      try simp only [Act.put, pu]
      refine tk 7 33 rfl rfl ?_
      try simp only [Act.put, pu]
      refine tk 8 34 rfl rfl ?_
      try simp only [Act.put, pu]
      refine tk 9 35 rfl rfl ?_
      try simp only [Act.put, pu]
      refine tk 10 36 rfl rfl ?_
      try simp only [Act.put, pu]
      refine tk 11 37 rfl rfl ?_
      try simp only [Act.put, pu]
      refine wpAnyH_ready (rs := [0, 12]) (by kernel_rfl) (by simp) ?_
      refine AllReadyH.cons rfl (fun K hK => ?_) (AllReadyH.cons rfl (fun K hK => ?_) AllReadyH.nil)
      · go_simp
        refine hK.out _ _ ?_ (fun hHeld => ?_)
        · go_keep
        clear hK K
        try simp only [Act.put, pu]
        refine wpAnyH_ready (rs := [12]) (by kernel_rfl) (by simp) ?_
        refine AllReadyH.cons rfl (fun K hK => ?_) AllReadyH.nil
        go_simp
        go_at_call 120
        refine J.out.mono ?_
        rintro e w3 ⟨u3, rfl, ⟨A9, m9, c9, rfl⟩, hu3, hb3'⟩
        have hb3 : Below wr.heap.size wr w3 := (Below.refl _ _).drew.trans hb3'
        clear hb3'
        have HU3 := Lib.hid hu3; clear hu3
        have hz3 := hb3.size
        have hb73 : Below P7 w w3 := hb7.trans (hb3.mono (by omega))
        have H3 := Lib.hid (H.out.up hb73)
        replace k7a := (hb3.cell (p := ⟨P7, 0, none⟩) (by show P7 < wr.heap.size; omega)).trans k7a
        replace f7a := (hb3.frozen (p := ⟨P7, 0, none⟩) (by show P7 < wr.heap.size; omega)).trans f7a
        have HO3 := Lib.hid (own_keep4 HO1.out hb3.size (fun b _ hb => hb3.block b hb))
        clear a0 a1 a2 a3 ap2 ap5
        have a0 := H3.out.g0
        have a1 := H3.out.g1
        have a2 := H3.out.g2
        have a3 := H3.out.g3
        have ap2 := H3.out.p2
        have ap5 := H3.out.p5
        refine hK.out _ _ ?_ (fun hHeld => ?_)
        · go_keep
        clear hK K
        try simp only [Act.put, pu]
        refine wpAnyH_ready (rs := [13]) (by kernel_rfl) (by simp) ?_
        refine AllReadyH.cons rfl (fun K hK => ?_) AllReadyH.nil
        go_simp
        go_at_call 119
        refine (impl_number G Ac A9 mc cc m9 c9 (cnts n r) (moveS n r ss (pick en m)) w3 (by omega) H3.out.g5 (H3.out.cnt.more (by omega)) HU3.out HFEW.out HMS.out).mono ?_
        rintro e w4 ⟨rfl, hb4⟩
        have hz4 := hb4.size
        have hb74 : Below P7 w w4 := hb73.trans (hb4.mono (by omega))
        have H4 := Lib.hid (H.out.up hb74)
        replace k7a := (hb4.cell (p := ⟨P7, 0, none⟩) (by show P7 < w3.heap.size; omega)).trans k7a
        replace f7a := (hb4.frozen (p := ⟨P7, 0, none⟩) (by show P7 < w3.heap.size; omega)).trans f7a
        have HO4 := Lib.hid (own_keep4 HO3.out hb4.size (fun b _ hb => hb4.block b hb))
        clear a0 a1 a2 a3 ap2 ap5
        have a0 := H4.out.g0
        have a1 := H4.out.g1
        have a2 := H4.out.g2
        have a3 := H4.out.g3
        have ap2 := H4.out.p2
        have ap5 := H4.out.p5
        refine hK.out _ _ ?_ (fun hHeld => ?_)
        · go_keep
        clear hK K
        try simp only [Act.put, pu]
        refine wpAnyH_ready (rs := [14]) (by kernel_rfl) (by simp) ?_
        refine AllReadyH.cons rfl (fun K hK => ?_) AllReadyH.nil
        go_simp
        have k7b := Lib.cell?_alloc_some (.cells #[.int .i64 (numS (cnts n r) (moveS n r ss (pick en m)))] 3) k7a
        refine hK.out _ _ ?_ (fun hHeld => ?_)
        · go_keep
        clear hK K
        try simp only [Act.put, pu]
        refine wpAnyH_ready (rs := [15]) (by kernel_rfl) (by simp) ?_
        refine AllReadyH.cons rfl (fun K hK => ?_) AllReadyH.nil
        rw [if_pos (by rfl)]
        refine oper_append1 w4 (.tmp 26) (.tmp 40) 23 rfl (P7 + 1) 3 _ 8 Tryz.underlying23 intInfo rfl _ _ _ rfl _ rfl rfl HO4.out (by unfold maxLen; omega) (by omega) (by omega) ?_
        intro v' w5 hown5 hbl5 hgr5 hlt5 hob5
        obtain ⟨A5, c5, rfl⟩ := own_sl hown5
        have HO5 := Lib.hid hown5
        have hz5 := hbl5.size
        have hb75 : Below P7 w w5 := hb74.trans (hbl5.mono (by omega))
        have H5 := Lib.hid (H.out.up hb75)
        have k7c := (hbl5.cell (p := ⟨P7, 0, none⟩) (by show P7 < P7 + 1; omega)).trans k7a
        have f7c := (hbl5.frozen (p := ⟨P7, 0, none⟩) (by show P7 < P7 + 1; omega)).trans f7a
        clear hown5 hgr5 hlt5 hob5
        clear a0 a1 a2 a3 ap2 ap5
        have a0 := H5.out.g0
        have a1 := H5.out.g1
        have a2 := H5.out.g2
        have a3 := H5.out.g3
        have ap2 := H5.out.p2
        have ap5 := H5.out.p5
        refine hK.out _ _ ?_ (fun hHeld => ?_)
        · go_keep
        clear hK K
        try simp only [Act.put, pu]
        refine wpAnyH_ready (rs := [16]) (by kernel_rfl) (by simp) ?_
        refine AllReadyH.cons rfl (fun K hK => ?_) AllReadyH.nil
        go_simp
        refine hK.out _ _ ?_ (fun hHeld => ?_)
        · go_keep
        clear hK K
        try simp only [Act.put, pu]
        refine wpAnyH_done (by kernel_rfl) ?_ _
        go_wp2_with fail
        go_end0
        exact ⟨⟨_, rfl⟩, ⟨_, (World.cell?_setCell_same' _ _ _ (by rw [k7c]; rfl)), (World.frozen?_setCell _ _ _ _).trans f7c, by rw [List.length_append, List.map_append]; exact own_set HO5.out (Nat.lt_succ_self _)⟩, hb75.setCell (p := ⟨P7, 0, none⟩) (Nat.le_refl _) _⟩
      · go_simp
        go_at_call 120
        refine J.out.mono ?_
        rintro e w3 ⟨u3, rfl, ⟨A9, m9, c9, rfl⟩, hu3, hb3'⟩
        have hb3 : Below wr.heap.size wr w3 := (Below.refl _ _).drew.trans hb3'
        clear hb3'
        have HU3 := Lib.hid hu3; clear hu3
        have hz3 := hb3.size
        have hb73 : Below P7 w w3 := hb7.trans (hb3.mono (by omega))
        have H3 := Lib.hid (H.out.up hb73)
        replace k7a := (hb3.cell (p := ⟨P7, 0, none⟩) (by show P7 < wr.heap.size; omega)).trans k7a
        replace f7a := (hb3.frozen (p := ⟨P7, 0, none⟩) (by show P7 < wr.heap.size; omega)).trans f7a
        have HO3 := Lib.hid (own_keep4 HO1.out hb3.size (fun b _ hb => hb3.block b hb))
        clear a0 a1 a2 a3 ap2 ap5
        have a0 := H3.out.g0
        have a1 := H3.out.g1
        have a2 := H3.out.g2
        have a3 := H3.out.g3
        have ap2 := H3.out.p2
        have ap5 := H3.out.p5
        refine hK.out _ _ ?_ (fun hHeld => ?_)
        · go_keep
        clear hK K
        try simp only [Act.put, pu]
        refine wpAnyH_ready (rs := [0, 13]) (by kernel_rfl) (by simp) ?_
        refine AllReadyH.cons rfl (fun K hK => ?_) (AllReadyH.cons rfl (fun K hK => ?_) AllReadyH.nil)
        · go_simp
          refine hK.out _ _ ?_ (fun hHeld => ?_)
          · go_keep
          clear hK K
          try simp only [Act.put, pu]
          refine wpAnyH_ready (rs := [13]) (by kernel_rfl) (by simp) ?_
          refine AllReadyH.cons rfl (fun K hK => ?_) AllReadyH.nil
          go_simp
          go_at_call 119
          refine (impl_number G Ac A9 mc cc m9 c9 (cnts n r) (moveS n r ss (pick en m)) w3 (by omega) H3.out.g5 (H3.out.cnt.more (by omega)) HU3.out HFEW.out HMS.out).mono ?_
          rintro e w4 ⟨rfl, hb4⟩
          have hz4 := hb4.size
          have hb74 : Below P7 w w4 := hb73.trans (hb4.mono (by omega))
          have H4 := Lib.hid (H.out.up hb74)
          replace k7a := (hb4.cell (p := ⟨P7, 0, none⟩) (by show P7 < w3.heap.size; omega)).trans k7a
          replace f7a := (hb4.frozen (p := ⟨P7, 0, none⟩) (by show P7 < w3.heap.size; omega)).trans f7a
          have HO4 := Lib.hid (own_keep4 HO3.out hb4.size (fun b _ hb => hb4.block b hb))
          clear a0 a1 a2 a3 ap2 ap5
          have a0 := H4.out.g0
          have a1 := H4.out.g1
          have a2 := H4.out.g2
          have a3 := H4.out.g3
          have ap2 := H4.out.p2
          have ap5 := H4.out.p5
          refine hK.out _ _ ?_ (fun hHeld => ?_)
          · go_keep
          clear hK K
          try simp only [Act.put, pu]
          refine wpAnyH_ready (rs := [14]) (by kernel_rfl) (by simp) ?_
          refine AllReadyH.cons rfl (fun K hK => ?_) AllReadyH.nil
          go_simp
          have k7b := Lib.cell?_alloc_some (.cells #[.int .i64 (numS (cnts n r) (moveS n r ss (pick en m)))] 3) k7a
          refine hK.out _ _ ?_ (fun hHeld => ?_)
          · go_keep
          clear hK K
          try simp only [Act.put, pu]
          refine wpAnyH_ready (rs := [15]) (by kernel_rfl) (by simp) ?_
          refine AllReadyH.cons rfl (fun K hK => ?_) AllReadyH.nil
          rw [if_pos (by rfl)]
          refine oper_append1 w4 (.tmp 26) (.tmp 40) 23 rfl (P7 + 1) 3 _ 8 Tryz.underlying23 intInfo rfl _ _ _ rfl _ rfl rfl HO4.out (by unfold maxLen; omega) (by omega) (by omega) ?_
          intro v' w5 hown5 hbl5 hgr5 hlt5 hob5
          obtain ⟨A5, c5, rfl⟩ := own_sl hown5
          have HO5 := Lib.hid hown5
          have hz5 := hbl5.size
          have hb75 : Below P7 w w5 := hb74.trans (hbl5.mono (by omega))
          have H5 := Lib.hid (H.out.up hb75)
          have k7c := (hbl5.cell (p := ⟨P7, 0, none⟩) (by show P7 < P7 + 1; omega)).trans k7a
          have f7c := (hbl5.frozen (p := ⟨P7, 0, none⟩) (by show P7 < P7 + 1; omega)).trans f7a
          clear hown5 hgr5 hlt5 hob5
          clear a0 a1 a2 a3 ap2 ap5
          have a0 := H5.out.g0
          have a1 := H5.out.g1
          have a2 := H5.out.g2
          have a3 := H5.out.g3
          have ap2 := H5.out.p2
          have ap5 := H5.out.p5
          refine hK.out _ _ ?_ (fun hHeld => ?_)
          · go_keep
          clear hK K
          try simp only [Act.put, pu]
          refine wpAnyH_ready (rs := [16]) (by kernel_rfl) (by simp) ?_
          refine AllReadyH.cons rfl (fun K hK => ?_) AllReadyH.nil
          go_simp
          refine hK.out _ _ ?_ (fun hHeld => ?_)
          · go_keep
          clear hK K
          try simp only [Act.put, pu]
          refine wpAnyH_done (by kernel_rfl) ?_ _
          go_wp2_with fail
          go_end0
          exact ⟨⟨_, rfl⟩, ⟨_, (World.cell?_setCell_same' _ _ _ (by rw [k7c]; rfl)), (World.frozen?_setCell _ _ _ _).trans f7c, by rw [List.length_append, List.map_append]; exact own_set HO5.out (Nat.lt_succ_self _)⟩, hb75.setCell (p := ⟨P7, 0, none⟩) (Nat.le_refl _) _⟩
        · go_simp
          go_at_call 119
          refine (impl_number G Ac A9 mc cc m9 c9 (cnts n r) (moveS n r ss (pick en m)) w3 (by omega) H3.out.g5 (H3.out.cnt.more (by omega)) HU3.out HFEW.out HMS.out).mono ?_
          rintro e w4 ⟨rfl, hb4⟩
          have hz4 := hb4.size
          have hb74 : Below P7 w w4 := hb73.trans (hb4.mono (by omega))
          have H4 := Lib.hid (H.out.up hb74)
          replace k7a := (hb4.cell (p := ⟨P7, 0, none⟩) (by show P7 < w3.heap.size; omega)).trans k7a
          replace f7a := (hb4.frozen (p := ⟨P7, 0, none⟩) (by show P7 < w3.heap.size; omega)).trans f7a
          have HO4 := Lib.hid (own_keep4 HO3.out hb4.size (fun b _ hb => hb4.block b hb))
          clear a0 a1 a2 a3 ap2 ap5
          have a0 := H4.out.g0
          have a1 := H4.out.g1
          have a2 := H4.out.g2
          have a3 := H4.out.g3
          have ap2 := H4.out.p2
          have ap5 := H4.out.p5
          refine hK.out _ _ ?_ (fun hHeld => ?_)
          · go_keep
          clear hK K
          try simp only [Act.put, pu]
          refine wpAnyH_ready (rs := [0, 14]) (by kernel_rfl) (by simp) ?_
          refine AllReadyH.cons rfl (fun K hK => ?_) (AllReadyH.cons rfl (fun K hK => ?_) AllReadyH.nil)
          · go_simp
            refine hK.out _ _ ?_ (fun hHeld => ?_)
            · go_keep
            clear hK K
            try simp only [Act.put, pu]
            refine wpAnyH_ready (rs := [14]) (by kernel_rfl) (by simp) ?_
            refine AllReadyH.cons rfl (fun K hK => ?_) AllReadyH.nil
            go_simp
            have k7b := Lib.cell?_alloc_some (.cells #[.int .i64 (numS (cnts n r) (moveS n r ss (pick en m)))] 3) k7a
            refine hK.out _ _ ?_ (fun hHeld => ?_)
            · go_keep
            clear hK K
            try simp only [Act.put, pu]
            refine wpAnyH_ready (rs := [15]) (by kernel_rfl) (by simp) ?_
            refine AllReadyH.cons rfl (fun K hK => ?_) AllReadyH.nil
            rw [if_pos (by rfl)]
            refine oper_append1 w4 (.tmp 26) (.tmp 40) 23 rfl (P7 + 1) 3 _ 8 Tryz.underlying23 intInfo rfl _ _ _ rfl _ rfl rfl HO4.out (by unfold maxLen; omega) (by omega) (by omega) ?_
            intro v' w5 hown5 hbl5 hgr5 hlt5 hob5
            obtain ⟨A5, c5, rfl⟩ := own_sl hown5
            have HO5 := Lib.hid hown5
            have hz5 := hbl5.size
            have hb75 : Below P7 w w5 := hb74.trans (hbl5.mono (by omega))
            have H5 := Lib.hid (H.out.up hb75)
            have k7c := (hbl5.cell (p := ⟨P7, 0, none⟩) (by show P7 < P7 + 1; omega)).trans k7a
            have f7c := (hbl5.frozen (p := ⟨P7, 0, none⟩) (by show P7 < P7 + 1; omega)).trans f7a
            clear hown5 hgr5 hlt5 hob5
            clear a0 a1 a2 a3 ap2 ap5
            have a0 := H5.out.g0
            have a1 := H5.out.g1
            have a2 := H5.out.g2
            have a3 := H5.out.g3
            have ap2 := H5.out.p2
            have ap5 := H5.out.p5
            refine hK.out _ _ ?_ (fun hHeld => ?_)
            · go_keep
            clear hK K
            try simp only [Act.put, pu]
            refine wpAnyH_ready (rs := [16]) (by kernel_rfl) (by simp) ?_
            refine AllReadyH.cons rfl (fun K hK => ?_) AllReadyH.nil
            go_simp
            refine hK.out _ _ ?_ (fun hHeld => ?_)
            · go_keep
            clear hK K
            try simp only [Act.put, pu]
            refine wpAnyH_done (by kernel_rfl) ?_ _
            go_wp2_with fail
            go_end0
            exact ⟨⟨_, rfl⟩, ⟨_, (World.cell?_setCell_same' _ _ _ (by rw [k7c]; rfl)), (World.frozen?_setCell _ _ _ _).trans f7c, by rw [List.length_append, List.map_append]; exact own_set HO5.out (Nat.lt_succ_self _)⟩, hb75.setCell (p := ⟨P7, 0, none⟩) (Nat.le_refl _) _⟩
          · go_simp
            have k7b := Lib.cell?_alloc_some (.cells #[.int .i64 (numS (cnts n r) (moveS n r ss (pick en m)))] 3) k7a
            refine hK.out _ _ ?_ (fun hHeld => ?_)
            · go_keep
            clear hK K
            try simp only [Act.put, pu]
            refine wpAnyH_ready (rs := [0]) (by kernel_rfl) (by simp) ?_
            refine AllReadyH.cons rfl (fun K hK => ?_) AllReadyH.nil
            go_simp
            refine hK.out _ _ ?_ (fun hHeld => ?_)
            · go_keep
            clear hK K
            try simp only [Act.put, pu]
            refine wpAnyH_ready (rs := [15]) (by kernel_rfl) (by simp) ?_
            refine AllReadyH.cons rfl (fun K hK => ?_) AllReadyH.nil
            rw [if_pos (by rfl)]
            refine oper_append1 w4 (.tmp 26) (.tmp 40) 23 rfl (P7 + 1) 3 _ 8 Tryz.underlying23 intInfo rfl _ _ _ rfl _ rfl rfl HO4.out (by unfold maxLen; omega) (by omega) (by omega) ?_
            intro v' w5 hown5 hbl5 hgr5 hlt5 hob5
            obtain ⟨A5, c5, rfl⟩ := own_sl hown5
            have HO5 := Lib.hid hown5
            have hz5 := hbl5.size
            have hb75 : Below P7 w w5 := hb74.trans (hbl5.mono (by omega))
            have H5 := Lib.hid (H.out.up hb75)
            have k7c := (hbl5.cell (p := ⟨P7, 0, none⟩) (by show P7 < P7 + 1; omega)).trans k7a
            have f7c := (hbl5.frozen (p := ⟨P7, 0, none⟩) (by show P7 < P7 + 1; omega)).trans f7a
            clear hown5 hgr5 hlt5 hob5
            clear a0 a1 a2 a3 ap2 ap5
            have a0 := H5.out.g0
            have a1 := H5.out.g1
            have a2 := H5.out.g2
            have a3 := H5.out.g3
            have ap2 := H5.out.p2
            have ap5 := H5.out.p5
            refine hK.out _ _ ?_ (fun hHeld => ?_)
            · go_keep
            clear hK K
            try simp only [Act.put, pu]
            refine wpAnyH_ready (rs := [16]) (by kernel_rfl) (by simp) ?_
            refine AllReadyH.cons rfl (fun K hK => ?_) AllReadyH.nil
            go_simp
            refine hK.out _ _ ?_ (fun hHeld => ?_)
            · go_keep
            clear hK K
            try simp only [Act.put, pu]
            refine wpAnyH_done (by kernel_rfl) ?_ _
            go_wp2_with fail
            go_end0
            exact ⟨⟨_, rfl⟩, ⟨_, (World.cell?_setCell_same' _ _ _ (by rw [k7c]; rfl)), (World.frozen?_setCell _ _ _ _).trans f7c, by rw [List.length_append, List.map_append]; exact own_set HO5.out (Nat.lt_succ_self _)⟩, hb75.setCell (p := ⟨P7, 0, none⟩) (Nat.le_refl _) _⟩
end Go.Proofs.YthfgklckmedggaaGreat
