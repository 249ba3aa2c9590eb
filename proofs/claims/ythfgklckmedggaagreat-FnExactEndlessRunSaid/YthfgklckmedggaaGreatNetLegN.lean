/-
  The legal situations' numbers, both sides: LegalNumbers.
-/
import Derived.Test.YthfgklckmedggaaGreatBits
import Derived.Test.YthfgklckmedggaaGreatNetLegI
import Derived.Test.YthfgklckmedggaaGreatSuccJ
import Derived.Test.YthfgklckmedggaaGreatSpecB
namespace Go.Proofs.YthfgklckmedggaaGreat
open Go.RowKit
set_option linter.unusedVariables false
set_option linter.unusedSimpArgs false
noncomputable def legN (n : Net) (r : Int) (k : Nat) : Bool := legB n r (stsS (cnts n r) k)
noncomputable def legL (n : Net) (r : Int) (T : Nat) : List Bool := (List.range T).map (legN n r)
theorem legL_len (n : Net) (r : Int) (T : Nat) : (legL n r T).length = T := by simp [legL]
theorem legL_at {n : Net} {r : Int} {T k : Nat} (h : k < T) : (legL n r T)[k]? = some (legN n r k) := by unfold legL; rw [List.getElem?_map, List.getElem?_range h]; rfl
/-- The row of truths while it fills. -/
noncomputable def legTo (n : Net) (r : Int) (T j : Nat) : List Bool := (legL n r T).take j ++ List.replicate (T - j) false
theorem legTo_len {n : Net} {r : Int} {T j : Nat} (h : j ≤ T) : (legTo n r T j).length = T := by
  unfold legTo
  rw [List.length_append, List.length_take, List.length_replicate, legL_len]
  omega
theorem legTo_at {n : Net} {r : Int} {T j : Nat} (h : j < T) : (legTo n r T j)[j]? = some false := by
  unfold legTo
  have h1 : ((legL n r T).take j).length = j := by rw [List.length_take, legL_len]; omega
  rw [List.getElem?_append_right (by omega), h1, Nat.sub_self, List.getElem?_replicate, if_pos (by omega)]
theorem legTo_step {n : Net} {r : Int} {T j : Nat} (h : j < T) : (legTo n r T j).set j (legN n r j) = legTo n r T (j + 1) := by
  unfold legTo
  have h1 : ((legL n r T).take j).length = j := by rw [List.length_take, legL_len]; omega
  obtain ⟨m, hm⟩ : ∃ m, T - j = m + 1 := ⟨T - j - 1, by omega⟩
  obtain ⟨h2, h3⟩ := List.getElem?_eq_some_iff.1 (legL_at (n := n) (r := r) h)
  rw [List.set_append_right _ _ (by omega), h1, Nat.sub_self, hm, List.replicate_succ, List.set_cons_zero, List.take_succ_eq_append_getElem h2, h3, show T - (j + 1) = m by omega, List.append_assoc]
  rfl
theorem legTo_end (n : Net) (r : Int) (T : Nat) : legTo n r T T = legL n r T := by
  unfold legTo
  rw [Nat.sub_self, List.take_of_length_le (by rw [legL_len]; omega)]
  simp
def CvlRel (n : Net) (r : Int) (T : Nat) (w : World) (i : Value) (wr : World) : Prop := ∃ j : Nat, j ≤ T ∧ i = .int .i64 j ∧ BitsAt wr w.heap.size (legTo n r T j) ∧ Below w.heap.size w wr
set_option maxRecDepth 100000 in
set_option maxHeartbeats 1000000 in
theorem spec_cvLegal (ve vi vn : Value) (n : Net) (r : Int) (T : Nat) (w : World) (h : NetR w w.heap.size ve vi vn n) (hcv : cvB n r = true) (hT : prodI (cnts n r) = T) :
    Calls Tryz.prog 56 #[.agg #[ve, vi, vn], .int .i64 r] w fun e w' => ∃ g, e = .returned (.slice (some ⟨g, 0, none⟩) T T) ∧ BitsAt w' g (legL n r T) ∧ w.heap.size ≤ g ∧ Below w.heap.size w w' := by
  have ha : askP n r := by
    unfold cvB at hcv
    rw [Bool.and_eq_true] at hcv
    exact propB_iff.1 hcv.1
  obtain ⟨hfew, hcap⟩ := few_of hcv
  have hc3 : T ≤ 3000 := by have := hfew.2.1; omega
  have HCAP := Lib.hid (hcap.trans hT)
  have HSS := Lib.hid (fun (k : Nat) => stsS_ok (x := (k : Int)) (fun k hk => (hfew.1 k hk).1) (by omega))
  have HFW := Lib.hid hfew
  have HA := Lib.hid ha
  have HP := Lib.hid ha.1
  clear ha hfew hcap hcv hT
  obtain ⟨⟨A0, m0, c0, rfl⟩, ⟨A1, m1, c1, rfl⟩, A2, m2, c2, rfl⟩ := h.slices
  obtain ⟨w0, hw0, hB, HD, hz0, HS0⟩ := box3 w (.slice A0 m0 c0) (.slice A1 m1 c1) (.slice A2 m2 c2) 31
  have HN0 := Lib.hid h; have HN := Lib.hid (h.up hB); clear h
  have HW0 := Lib.hid hw0; clear hw0
  obtain ⟨q0, q1, q2, qf⟩ := cells3 HD
  have hmk := fun W => run_make1 (P := Tryz.prog) 48 4 (.bool false) 1 Tryz.underlying48 boolInf rfl T (by omega) (by omega) W
  go_enter Tryz.func56, Tryz.ntmps56
  go_wp2_with fail
  rw [← HW0.out]
  refine (spec_ssCounts _ _ _ n r w0 HN.out HP.out).mono ?_
  rintro e w1 ⟨u, rfl, ⟨A', m', c', rfl⟩, hu, hb1⟩
  have HU := Lib.hid hu; clear hu
  have hzhb1 := hb1.size
  clear q0 q1 q2 qf
  replace HD := bk HD hb1
  replace HN := Lib.hid (HN.out.up hb1)
  replace hB := bl_trans hB hb1
  obtain ⟨q0, q1, q2, qf⟩ := cells3 HD
  go_wp2_with fail
  refine (spec_cvCount _ _ _ n r w1 HN.out HP.out).mono ?_
  rintro e w2 ⟨rfl, hb2⟩
  rw [HCAP.out]
  replace HU := Lib.hid ((HU.out.below hb2).more hb2.size)
  have hzhb2 := hb2.size
  clear q0 q1 q2 qf
  replace HD := bk HD hb2
  replace HN := Lib.hid (HN.out.up hb2)
  replace hB := bl_trans hB hb2
  obtain ⟨q0, q1, q2, qf⟩ := cells3 HD
  obtain ⟨w3, hw3⟩ : ∃ z, z = w2.alloc (.cells (rowOf [] T (.bool false)) 4) := ⟨_, rfl⟩
  have hb3 : Below w2.heap.size w2 w3 := by rw [hw3]; exact bl_alloc (Below.refl _ _) _
  have hbits : BitsAt w3 w2.heap.size (legTo n r T 0) := by
    rw [hw3]
    refine (heap_alloc_new w2 _).trans ?_
    unfold legTo rowOf
    simp
  have HBI := Lib.hid hbits
  have HW3 := Lib.hid hw3
  clear hw3 hbits
  go_wp2_with fail
  rw [← HW3.out]
  clear hmk
  go_loopw [7, 17] (fun _ i wr => CvlRel n r T w2 i wr) (fun _ i _ => T - (intOf i).toNat)
  case atStart => exact ⟨0, Nat.zero_le _, rfl, HBI.out, hb3⟩
  case round =>
    obtain ⟨j, hj, rfl, hbits, hbl⟩ := hrel
    have HBT := Lib.hid hbits
    have hgl := hbits.lt
    have HU4 := Lib.hid ((HU.out.below hbl).more hbl.size)
    have hzhbl := hbl.size
    clear q0 q1 q2 qf
    replace HD := bk HD hbl
    replace HN := Lib.hid (HN.out.up hbl)
    replace hB := bl_trans hB hbl
    obtain ⟨q0, q1, q2, qf⟩ := cells3 HD
    clear hbits
    by_cases hlt : j < T
    · have HST := Lib.hid (legTo_step (n := n) (r := r) hlt)
      have hat := legTo_at (n := n) (r := r) hlt
      have HLN := Lib.hid (show legN n r j = legB n r (stsS (cnts n r) j) from rfl)
      have hlen := legTo_len (n := n) (r := r) hj
      have HAT := Lib.hid hat
      clear hat
      go_wp2_with fail
      refine wp_region_held_drew (S := fun w' => w'.cell? ⟨w.heap.size, 0, none⟩ = some (.slice A0 m0 c0) ∧ w'.cell? ⟨w.heap.size, 1, none⟩ = some (.slice A1 m1 c1) ∧ w'.cell? ⟨w.heap.size, 2, none⟩ = some (.slice A2 m2 c2)) (by kernel_rfl) ?_ (fun hHeld => ?_)
      · go_keep
      refine tk 0 20 rfl rfl ?_
      try simp only [Act.put, pu]
      refine tk 1 21 rfl rfl ?_
      try simp only [Act.put, pu]
      refine tk 2 22 rfl rfl ?_
      try simp only [Act.put, pu]
      refine tk 3 23 rfl rfl ?_
      try simp only [Act.put, pu]
      refine tk 4 24 rfl rfl ?_
      try simp only [Act.put, pu]
      refine tk 5 25 rfl rfl ?_
      try simp only [Act.put, pu]
      refine tr 6 rfl (by kernel_rfl) (fun K hK => ?_)
      go_simp
      go_at_call 81
      refine (spec_cvStates _ (cnts n r) j wr.drew (HU4.out.below (Below.refl _ _).drew) HFW.out (by omega) (by omega)).mono ?_
      rintro e w5 ⟨u, rfl, ⟨A5, m5, c5, rfl⟩, hu, hb5'⟩
      have hb5 : Below wr.heap.size wr w5 := (Below.refl _ _).drew.trans hb5'
      clear hb5'
      have HS5 := Lib.hid hu; clear hu
      have HB5 := Lib.hid (HBT.out.keep (hb5.block _ hgl))
      have hzhb5 := hb5.size
      clear q0 q1 q2 qf
      replace HD := bk HD hb5
      replace HN := Lib.hid (HN.out.up hb5)
      replace hB := bl_trans hB hb5
      obtain ⟨q0, q1, q2, qf⟩ := cells3 HD
      refine hK.out _ _ ?_ (fun hHeld => ?_)
      · go_keep
      clear hK K
      try simp only [Act.put, pu]
      refine tr 7 rfl (by kernel_rfl) (fun K hK => ?_)
      go_simp
      go_at_call 80
      refine (spec_ssLegal _ _ _ _ n r (stsS (cnts n r) j) w5 HN.out HA.out HS5.out (HSS.out j)).mono ?_
      rintro e w6 ⟨rfl, hb6⟩
      rw [← HLN.out]
      have HB6 := Lib.hid (HB5.out.keep (hb6.block _ (by omega)))
      have hzhb6 := hb6.size
      clear q0 q1 q2 qf
      replace HD := bk HD hb6
      replace HN := Lib.hid (HN.out.up hb6)
      replace hB := bl_trans hB hb6
      obtain ⟨q0, q1, q2, qf⟩ := cells3 HD
      have hc6 := HB6.out.cell HAT.out
      have hf6 := HB6.out.frozen j
      have hjl : j < (legTo n r T j).length := by omega
      refine hK.out _ _ ?_ (fun hHeld => ?_)
      · go_keep
      clear hK K
      try simp only [Act.put, pu]
      refine tk 8 28 rfl rfl ?_
      try simp only [Act.put, pu]
      refine tr 9 rfl (by kernel_rfl) (fun K hK => ?_)
      go_simp
      obtain ⟨w7, hw7⟩ : ∃ z, z = w6.setCell ⟨w2.heap.size, j, none⟩ (.bool (legN n r j)) := ⟨_, rfl⟩
      rw [← hw7]
      have hk7 : ∀ b, b ≠ w2.heap.size → w7.heap[b]? = w6.heap[b]? := fun b hb => by rw [hw7]; exact Below.heap_setCell w6 _ _ _ (by simpa using hb)
      have HB7 := Lib.hid (show BitsAt w7 w2.heap.size (legTo n r T (j + 1)) by rw [hw7, ← HST.out]; exact HB6.out.set j _)
      have hbl7 : Below w2.heap.size w2 w7 := by rw [hw7]; exact ((hbl.trans (hb5.mono (by omega))).trans (hb6.mono (by omega))).setCell (Nat.le_refl _) _
      clear q0 q1 q2 qf hc6 hf6
      replace HD := Lib.hid ((hk7 w.heap.size (by omega)).trans HD.out)
      obtain ⟨q0, q1, q2, qf⟩ := cells3 HD
      clear hw7 hk7
      refine hK.out _ _ ?_ (fun hHeld => ?_)
      · go_keep
      clear hK K
      try simp only [Act.put, pu]
      refine wpAnyH_done (by kernel_rfl) ?_ _
      go_wp2_with fail
      go_roundw
      case rel => exact ⟨j + 1, by omega, by go_num, HB7.out, hbl7⟩
      case measure => simp [intOf]; omega
    · obtain rfl : j = T := by omega
      have HFI := Lib.hid (legTo_end n r j)
      go_wp2_with fail
      go_ret
      exact ⟨_, rfl, by rw [← HFI.out]; exact HBT.out, by have := hb2.size; have := hb1.size; omega, hB⟩
noncomputable def lnTo (n : Net) (r : Int) (j : Nat) : List Int := ((List.range j).filter (legN n r)).map fun (k : Nat) => (k : Int)
noncomputable def lnL (n : Net) (r : Int) : List Int := if cvB n r = true then lnTo n r (prodI (cnts n r)).toNat else []
theorem ln_f {n : Net} {r : Int} (h : cvB n r = false) : lnL n r = [] := if_neg (by rw [h]; simp)
theorem ln_t {n : Net} {r : Int} (h : cvB n r = true) : lnL n r = lnTo n r (prodI (cnts n r)).toNat := if_pos h
theorem lnTo_succ (n : Net) (r : Int) (j : Nat) : lnTo n r (j + 1) = lnTo n r j ++ (if legN n r j = true then [(j : Int)] else []) := by
  unfold lnTo
  rw [List.range_succ, List.filter_append, List.map_append]
  congr 1
  by_cases h : legN n r j = true
  · rw [if_pos h, List.filter_cons, if_pos h]; rfl
  · rw [if_neg h, List.filter_cons, if_neg h]; rfl
theorem lnTo_len (n : Net) (r : Int) (j : Nat) : (lnTo n r j).length ≤ j := by
  unfold lnTo
  rw [List.length_map]
  exact Nat.le_trans (List.length_filter_le _ _) (by simp)
theorem lnTo_64 {n : Net} {r : Int} {j : Nat} (h : j ≤ 3000) : ∀ z ∈ lnTo n r j, I64 z := fun z hz => by
  unfold lnTo at hz
  obtain ⟨k, hk, rfl⟩ := List.mem_map.1 hz
  have := List.mem_range.1 (List.mem_filter.1 hk).1
  unfold I64
  omega
def LnRel (n : Net) (r : Int) (T : Nat) (w : World) (v i : Value) (wr : World) : Prop := ∃ j : Nat, j ≤ T ∧ i = .int .i64 j ∧ wr.ownsRow w.heap.size 3 1 v (lnTo n r j).length ((lnTo n r j).map intV) ∧ Below w.heap.size w wr
/-- The block of an explorer: what its methods read. -/
structure ExG (w : World) (G : Nat) (A0 A1 A2 Ac : Option Addr) (m0 c0 m1 c1 m2 c2 mc cc : Nat) (n : Net) (r : Int) : Prop where
  net : NetR w w.heap.size (.slice A0 m0 c0) (.slice A1 m1 c1) (.slice A2 m2 c2) n
  g0 : w.cell? ⟨G, 0, none⟩ = some (.slice A0 m0 c0)
  g1 : w.cell? ⟨G, 1, none⟩ = some (.slice A1 m1 c1)
  g2 : w.cell? ⟨G, 2, none⟩ = some (.slice A2 m2 c2)
  g3 : w.cell? ⟨G, 3, none⟩ = some (.int .i64 r)
  g5 : w.cell? ⟨G, 5, none⟩ = some (.slice Ac mc cc)
  cs : IntsR w w.heap.size (.slice Ac mc cc) (cnts n r)
theorem ExG.lt {w : World} {G : Nat} {A0 A1 A2 Ac : Option Addr} {m0 c0 m1 c1 m2 c2 mc cc : Nat} {n : Net} {r : Int} (h : ExG w G A0 A1 A2 Ac m0 c0 m1 c1 m2 c2 mc cc n r) : G < w.heap.size := World.block_lt_of_cell? _ _ h.g0
theorem ExG.up {w w' : World} {G : Nat} {A0 A1 A2 Ac : Option Addr} {m0 c0 m1 c1 m2 c2 mc cc : Nat} {n : Net} {r : Int} (h : ExG w G A0 A1 A2 Ac m0 c0 m1 c1 m2 c2 mc cc n r) (hb : Below w.heap.size w w') : ExG w' G A0 A1 A2 Ac m0 c0 m1 c1 m2 c2 mc cc n r :=
  ⟨h.net.up hb, (hb.cell (p := ⟨G, 0, none⟩) h.lt).trans h.g0, (hb.cell (p := ⟨G, 1, none⟩) h.lt).trans h.g1, (hb.cell (p := ⟨G, 2, none⟩) h.lt).trans h.g2, (hb.cell (p := ⟨G, 3, none⟩) h.lt).trans h.g3, (hb.cell (p := ⟨G, 5, none⟩) h.lt).trans h.g5, (h.cs.below hb).more hb.size⟩
set_option maxRecDepth 100000 in
set_option maxHeartbeats 1000000 in
theorem impl_exLegal (G : Nat) (A0 A1 A2 Ac : Option Addr) (m0 c0 m1 c1 m2 c2 mc cc : Nat) (n : Net) (r x : Int) (w : World) (h : ExG w G A0 A1 A2 Ac m0 c0 m1 c1 m2 c2 mc cc n r) (hcv : cvB n r = true) (hx0 : 0 ≤ x) (hx1 : x ≤ 3000) :
    Calls Tryz.prog 93 #[.pointer (some ⟨G, 0, none⟩), .int .i64 x] w fun e w' => e = .returned (.bool (legB n r (stsS (cnts n r) x))) ∧ Below w.heap.size w w' := by
  have ha : askP n r := by
    unfold cvB at hcv
    rw [Bool.and_eq_true] at hcv
    exact propB_iff.1 hcv.1
  have hfew := (few_of hcv).1
  have HS := Lib.hid (stsS_ok (x := x) (fun k hk => (hfew.1 k hk).1) hx0)
  have HFW := Lib.hid hfew
  have HA := Lib.hid ha
  have H := Lib.hid h
  have a0 := h.g0
  have a1 := h.g1
  have a2 := h.g2
  have a3 := h.g3
  have a5 := h.g5
  clear hcv ha hfew h
  go_enter Tryz.func93, Tryz.ntmps93
  go_wp2_with fail
  refine wp_region_held_drew (S := fun w' => w'.cell? ⟨G, 0, none⟩ = some (.slice A0 m0 c0) ∧ w'.cell? ⟨G, 1, none⟩ = some (.slice A1 m1 c1) ∧ w'.cell? ⟨G, 2, none⟩ = some (.slice A2 m2 c2) ∧ w'.cell? ⟨G, 3, none⟩ = some (.int .i64 r) ∧ w'.cell? ⟨G, 5, none⟩ = some (.slice Ac mc cc)) (by kernel_rfl) ?_ (fun hHeld => ?_)
  · go_keep
  refine tk 0 5 rfl rfl ?_
  try simp only [Act.put, pu]
  refine tk 1 6 rfl rfl ?_
  try simp only [Act.put, pu]
  refine tk 2 7 rfl rfl ?_
  try simp only [Act.put, pu]
  refine tk 3 8 rfl rfl ?_
  try simp only [Act.put, pu]
  refine tk 4 9 rfl rfl ?_
  try simp only [Act.put, pu]
  refine tk 5 10 rfl rfl ?_
  try simp only [Act.put, pu]
  refine tk 6 11 rfl rfl ?_
  try simp only [Act.put, pu]
  refine tk 7 12 rfl rfl ?_
  try simp only [Act.put, pu]
  refine tk 8 13 rfl rfl ?_
  try simp only [Act.put, pu]
  refine tk 9 14 rfl rfl ?_
  try simp only [Act.put, pu]
  refine tr 10 rfl (by kernel_rfl) (fun K hK => ?_)
  go_simp
  go_at_call 116
  refine (impl_states G Ac mc cc (cnts n r) x w.drew a5 (H.out.cs.below (Below.refl _ _).drew) HFW.out hx0 hx1).mono ?_
  rintro e w2 ⟨u, rfl, ⟨A5, m5, c5, rfl⟩, hu, -, hb2'⟩
  have hb2 : Below w.heap.size w w2 := (Below.refl _ _).drew.trans hb2'
  clear hb2'
  have HU := Lib.hid hu; clear hu
  have H2 := Lib.hid (H.out.up hb2)
  clear a0 a1 a2 a3 a5
  have a0 := H2.out.g0
  have a1 := H2.out.g1
  have a2 := H2.out.g2
  have a3 := H2.out.g3
  have a5 := H2.out.g5
  refine hK.out _ _ ?_ (fun hHeld => ?_)
  · go_keep
  clear hK K
  try simp only [Act.put, pu]
  refine tr 11 rfl (by kernel_rfl) (fun K hK => ?_)
  go_simp
  go_at_call 115
  refine (impl_isLegal _ _ _ _ n r (stsS (cnts n r) x) w2 H2.out.net HA.out HU.out HS.out).mono ?_
  rintro e w3 ⟨rfl, hb3⟩
  have H3 := Lib.hid (H2.out.up hb3)
  clear a0 a1 a2 a3 a5
  have a0 := H3.out.g0
  have a1 := H3.out.g1
  have a2 := H3.out.g2
  have a3 := H3.out.g3
  have a5 := H3.out.g5
  refine hK.out _ _ ?_ (fun hHeld => ?_)
  · go_keep
  clear hK K
  try simp only [Act.put, pu]
  refine tk 12 4 rfl rfl ?_
  try simp only [Act.put, pu]
  refine wpAnyH_done (by kernel_rfl) ?_ _
  go_wp2_with fail
  go_ret
  exact ⟨rfl, bl_trans hb2 hb3⟩
noncomputable def notLeg (n : Net) (r : Int) (z : Int) : Bool := !legN n r z.toNat
theorem lnTo_filter (n : Net) (r : Int) (T : Nat) : (numsL T).filter (keepP (notLeg n r)) = lnTo n r T := by
  unfold numsL lnTo
  rw [List.filter_map]
  congr 1
  refine List.filter_congr fun v _ => ?_
  unfold keepP notLeg
  simp
def LnPost (n : Net) (r : Int) (w : World) (e : Ending) (w' : World) : Prop :=
  ∃ u, e = .returned (.tuple #[u, .bool (cvB n r)]) ∧ (∃ A m c, u = .slice A m c) ∧ IntsR w' w'.heap.size u (lnL n r) ∧ w'.ownsRow w.heap.size 3 1 u (lnL n r).length ((lnL n r).map intV) ∧ Below w.heap.size w w'
theorem ask1 (n : Net) (r : Int) : (askB n r && dB n 1) = askB n r := by
  have : dB n 1 = true := rfl
  rw [this, Bool.and_true]
end Go.Proofs.YthfgklckmedggaaGreat
