/-
  The laws' own functions over clauses: szClause, toClause, eqClause, of lists of them.
-/
import Derived.Test.YtcpbbjocaimocaaGreatMachMem
namespace Go.Proofs.YtcpbbjocaimocaaGreat
open Go.RowKit
set_option linter.unusedVariables false
set_option linter.unusedSimpArgs false
theorem sz_Clause (st nx : Int) (A : Option Addr) (n c : Nat) (left : Int) (w : World) (hn : n ≤ maxLen) (hl : 0 ≤ left) (hl' : left ≤ 1048576) :
    Calls Tryz.prog 94 #[.agg #[.int .i64 st, .slice A n c, .int .i64 nx], .int .i64 left] w fun e w' => e = .returned (.int .i64 (szR left n)) ∧ Below w.heap.size w w' := by
  obtain ⟨w0, hw0, hB, HD, hz0, HS0⟩ := box3 w (.int .i64 st) (.slice A n c) (.int .i64 nx) 132
  have HW0 := Lib.hid hw0; clear hw0
  obtain ⟨q0, q1, q2, qf⟩ := cells3 HD
  have HL := Lib.hid hn
  by_cases hs : (n : Int) ≤ left
  · have h5 : szR left n = left - n := by unfold szR; rw [if_pos hs]
    rw [h5]
    go_enter Tryz.func94, Tryz.ntmps94
    go_wp2_with fail
    rw [← HW0.out]
    refine (sz_IntS A n c left w0 HL.out hl hl').mono ?_
    rintro e w' ⟨rfl, rfl⟩
    rw [h5]
    go_wp2_with fail
    go_ret
    exact ⟨rfl, hB⟩
  · have h5 : szR left n = -1 := by unfold szR; rw [if_neg hs]
    rw [h5]
    go_enter Tryz.func94, Tryz.ntmps94
    go_wp2_with fail
    rw [← HW0.out]
    refine (sz_IntS A n c left w0 HL.out hl hl').mono ?_
    rintro e w' ⟨rfl, rfl⟩
    rw [h5]
    go_wp2_with fail
    go_ret
    exact ⟨rfl, hB⟩
def SzCRel (cs : List Cl) (left : Int) (w : World) (l i : Value) (wr : World) : Prop :=
  Below w.heap.size w wr ∧ ∃ (k q : Nat), k ≤ cs.length ∧ q = lensC (cs.take k) ∧ i = .int .i64 k ∧ l = .int .i64 (left - cs.length - q) ∧ (q : Int) ≤ left - cs.length
theorem sz_ClauseS (v : Value) (cs : List Cl) (left : Int) (w : World) (h : ClsR w w.heap.size v cs) (hl : 0 ≤ left) (hl' : left ≤ 1048576) :
    Calls Tryz.prog 46 #[v, .int .i64 left] w fun e w' => e = .returned (.int .i64 (szR left (szCls cs))) ∧ Below w.heap.size w w' := by
  obtain ⟨A, c, rfl, h1, h2, -, h3⟩ := h
  have hL : cs.length ≤ 9223372036854775807 := by unfold maxLen at h2; omega
  have H3 := Lib.hid h3
  clear h2 h3
  by_cases hs : (cs.length : Int) ≤ left
  · go_enter Tryz.func46, Tryz.ntmps46
    go_wp2
    go_loopw [1, 5] (fun l i wr => SzCRel cs left w l i wr) (fun _ i _ => cs.length - (intOf i).toNat)
    case atStart => exact ⟨Below.refl _ _, 0, 0, Nat.zero_le _, rfl, rfl, by simp, by omega⟩
    case round =>
      obtain ⟨hbl, k, q, hk, hq, rfl, rfl, hle⟩ := hrel
      have HQ := Lib.hid hq; clear hq
      by_cases hlt : k < cs.length
      · obtain ⟨x, hx⟩ : ∃ x, cs[k]? = some x := ⟨cs[k], List.getElem?_eq_getElem hlt⟩
        obtain ⟨b, o, rfl, hb, hc⟩ := H3.out (by omega)
        obtain ⟨k0, ⟨u, k1, hu⟩, k2⟩ := hc k x hx
        obtain ⟨A', c', rfl, hlc, hcm, -⟩ := hu.open_
        have j0 := (hbl.cell (p := ⟨b, o + k * 3, none⟩) hb).trans k0
        have j1 := (hbl.cell (p := ⟨b, o + k * 3 + 1, none⟩) hb).trans k1
        have j2 := (hbl.cell (p := ⟨b, o + k * 3 + 2, none⟩) hb).trans k2
        have HS := Lib.hid (lensC_snoc cs k x hx)
        have HT := Lib.hid (lensC_split cs (k + 1))
        have HM := Lib.hid (show x.2.1.length ≤ maxLen by omega)
        clear hc hx hu k0 k1 k2 hcm
        by_cases hx : (x.2.1.length : Int) ≤ left - cs.length - q
        · have h5 : szR (left - cs.length - q) x.2.1.length = left - cs.length - q - x.2.1.length := by unfold szR; rw [if_pos hx]
          go_wp2_with fail
          refine (sz_Clause x.1 x.2.2 A' x.2.1.length c' _ _ HM.out (by omega) (by omega)).mono ?_
          rintro e w1 ⟨rfl, hb1⟩
          rw [h5]
          go_wp2_with fail
          go_roundw
          case rel => exact ⟨bl_trans hbl hb1, k + 1, q + x.2.1.length, by omega, by rw [HS.out, HQ.out], by go_num, by go_num, by omega⟩
          case measure => simp [intOf]; omega
        · have h5 : szR (left - cs.length - q) x.2.1.length = -1 := by unfold szR; rw [if_neg hx]
          go_wp2_with fail
          refine (sz_Clause x.1 x.2.2 A' x.2.1.length c' _ _ HM.out (by omega) (by omega)).mono ?_
          rintro e w1 ⟨rfl, hb1⟩
          rw [h5]
          go_wp2_with fail
          go_ret
          have h6 := HT.out
          have h7 := HS.out
          have h8 := HQ.out
          exact ⟨ret_int (by unfold szR szCls; rw [if_neg (by omega)]), bl_trans hbl hb1⟩
      · go_wp2_with fail
        go_ret
        have h6 := lensC_all cs k (by omega)
        have h8 := HQ.out
        exact ⟨ret_int (by unfold szR szCls; rw [if_pos (by omega)]; omega), hbl⟩
  · have H := Lib.hid (show szR left (szCls cs) = -1 by unfold szR szCls; rw [if_neg (by omega)])
    go_enter Tryz.func46, Tryz.ntmps46
    go_wp2
    go_ret
    exact ⟨ret_int H.out.symm, Below.refl _ _⟩
theorem eq_Clause (st nx : Int) (v v' : Value) (xs : List Int) (w : World) (h : IntsR w w.heap.size v xs) (h' : IntsR w w.heap.size v' xs) :
    Calls Tryz.prog 110 #[.agg #[.int .i64 st, v, .int .i64 nx], .agg #[.int .i64 st, v', .int .i64 nx]] w fun e w' => e = .returned (.bool true) ∧ Below w.heap.size w w' := by
  have H := Lib.hid h
  have H' := Lib.hid h'
  obtain ⟨A0, m0, c0, rfl⟩ := h.isSlice
  obtain ⟨A1, m1, c1, rfl⟩ := h'.isSlice
  obtain ⟨w0, hw0, hb0, HD0, hz0, HS0⟩ := box3 w (.int .i64 st) (.slice A0 m0 c0) (.int .i64 nx) 141
  obtain ⟨w1, hw1, hb1, HD1, hz1, HS1⟩ := box3 w0 (.int .i64 st) (.slice A1 m1 c1) (.int .i64 nx) 141
  replace HD0 := bk HD0 hb1
  rw [HS0.out] at HD1
  have hB := bl_trans hb0 hb1
  have HW0 := Lib.hid hw0; clear hw0
  have HW1 := Lib.hid hw1; clear hw1
  obtain ⟨q0, q1, q2, qf⟩ := cells3 HD0
  obtain ⟨p0, p1, p2, pf⟩ := cells3 HD1
  clear h h'
  go_enter Tryz.func110, Tryz.ntmps110
  go_wp2_with fail
  rw [← HW0.out, ← HW1.out]
  refine (eq_IntS _ _ xs w1 ((H.out.below hB).more hB.size) ((H'.out.below hB).more hB.size)).mono ?_
  rintro e w2 ⟨rfl, a, hw2⟩
  have hb2 : Below w1.heap.size w1 w2 := by rw [hw2]; exact bl_drewN (Below.refl _ _) _
  clear hw2 q0 q1 q2 qf p0 p1 p2 pf
  replace HD0 := bk HD0 hb2
  replace HD1 := bk HD1 hb2 (by have := HS0.out; omega)
  obtain ⟨q0, q1, q2, qf⟩ := cells3 HD0
  obtain ⟨p0, p1, p2, pf⟩ := cells3 HD1
  go_wp2_with fail
  go_ret
  exact ⟨rfl, bl_trans hB hb2⟩
/-- A copy of a clause: the inbox in a new block. -/
theorem to_Clause (st nx : Int) (v : Value) (xs : List Int) (w : World) (h : IntsR w w.heap.size v xs) (hn : xs.length ≤ 1048576) :
    Calls Tryz.prog 103 #[.agg #[.int .i64 st, v, .int .i64 nx]] w fun e w' => ∃ g, e = .returned (.agg #[.int .i64 st, .slice (some ⟨g, 0, none⟩) xs.length xs.length, .int .i64 nx]) ∧ w'.heap[g]? = some (.cells (xs.map intV).toArray 3 (0, 0)) ∧ w.heap.size ≤ g ∧ Below w.heap.size w w' := by
  have H := Lib.hid h
  obtain ⟨A0, m0, c0, rfl⟩ := h.isSlice
  clear h
  obtain ⟨w0, hw0, hb0, HD0, hz0, HS0⟩ := box3 w (.int .i64 st) (.slice A0 m0 c0) (.int .i64 nx) 132
  obtain ⟨w1, hw1, hb1, HD1, hz1, HS1⟩ := box3 w0 (.int .i64 0) (.slice none 0 0) (.int .i64 0) 141
  obtain ⟨w2, hw2, hb2, HD2, hz2, HS2⟩ := box3 w1 (.int .i64 st) (.slice none 0 0) (.int .i64 0) 141
  have hs1 : w0.heap.size = w.heap.size + 1 := HS0.out
  have hs2 : w1.heap.size = w.heap.size + 1 + 1 := by rw [HS1.out, hs1]
  rw [hs1] at HD1 hz1
  rw [hs2] at HD2 hz2
  replace HD0 := bk (bk HD0 hb1) hb2
  replace HD1 := bk HD1 hb2
  have hB := bl_trans (bl_trans hb0 hb1) hb2
  clear hs1 hs2 hb0 hb1 hb2
  obtain ⟨q0, q1, q2, qf⟩ := cells3 HD0
  have s1 := q1
  rw [hw2, hw1, hw0] at s1
  have HW0 := Lib.hid hw0; clear hw0
  have HW1 := Lib.hid hw1; clear hw1
  have HW2 := Lib.hid hw2; clear hw2
  go_enter Tryz.func103, Tryz.ntmps103
  go_wp2_with fail
  rw [← HW0.out, ← HW1.out, ← HW2.out]
  refine (to_IntS _ xs w2 ((H.out.below hB).more hB.size) hn).mono ?_
  rintro e w4 ⟨rfl, hw4⟩
  have hb4 : Below w2.heap.size w2 w4 := by rw [hw4]; exact bl_alloc (Below.refl _ _) _
  have HI := Lib.hid (show w4.heap[w2.heap.size]? = some (.cells (xs.map intV).toArray 3 (0, 0)) by rw [hw4]; exact heap_alloc_new w2 _)
  have hy4 : w2.heap.size < w4.heap.size := by rw [hw4]; simp
  clear hw4 q0 q1 q2 qf s1
  replace HD0 := bk HD0 hb4
  replace HD1 := bk HD1 hb4
  replace HD2 := bk HD2 hb4
  have hB4 := bl_trans hB hb4
  obtain ⟨q0, q1, q2, qf⟩ := cells3 HD0
  obtain ⟨p0, p1, p2, pf⟩ := cells3 HD2
  obtain ⟨r0, r1, r2, rf⟩ := cells3 HD1
  go_wp2_with fail
  clear q0 q1 q2 qf p0 p1 p2 pf r0 r1 r2 rf
  obtain ⟨x1, hx1⟩ : ∃ z, z = w4.setCell ⟨w.heap.size + 1 + 1, 1, none⟩ (.slice (some ⟨w2.heap.size, 0, none⟩) xs.length xs.length) := ⟨_, rfl⟩
  rw [← hx1]
  obtain ⟨hX1, hO1, HX1, hZ1, hY1⟩ := setB hB4 (by omega) HD2.out hx1
  replace HI := Lib.hid ((hO1 _ (by omega)).trans HI.out)
  clear hx1
  replace HD1 := Lib.hid ((hO1 _ (by omega)).trans HD1.out)
  obtain ⟨x2, hx2⟩ : ∃ z, z = x1.setCell ⟨w.heap.size + 1 + 1, 2, none⟩ (.int .i64 nx) := ⟨_, rfl⟩
  rw [← hx2]
  obtain ⟨hX2, hO2, HX2, hZ2, hY2⟩ := setB hX1 (by omega) HX1.out hx2
  replace HI := Lib.hid ((hO2 _ (by omega)).trans HI.out)
  clear hx2
  replace HD1 := Lib.hid ((hO2 _ (by omega)).trans HD1.out)
  obtain ⟨x3, hx3⟩ : ∃ z, z = x2.setCell ⟨w.heap.size + 1, 0, none⟩ (.int .i64 st) := ⟨_, rfl⟩
  rw [← hx3]
  obtain ⟨hX3, hO3, HX3, hZ3, hY3⟩ := setB hX2 (by omega) HD1.out hx3
  replace HI := Lib.hid ((hO3 _ (by omega)).trans HI.out)
  clear hx3
  obtain ⟨x4, hx4⟩ : ∃ z, z = x3.setCell ⟨w.heap.size + 1, 1, none⟩ (.slice (some ⟨w2.heap.size, 0, none⟩) xs.length xs.length) := ⟨_, rfl⟩
  rw [← hx4]
  obtain ⟨hX4, hO4, HX4, hZ4, hY4⟩ := setB hX3 (by omega) HX3.out hx4
  replace HI := Lib.hid ((hO4 _ (by omega)).trans HI.out)
  clear hx4
  obtain ⟨x5, hx5⟩ : ∃ z, z = x4.setCell ⟨w.heap.size + 1, 2, none⟩ (.int .i64 nx) := ⟨_, rfl⟩
  rw [← hx5]
  obtain ⟨hX5, hO5, HX5, hZ5, hY5⟩ := setB hX4 (by omega) HX4.out hx5
  replace HI := Lib.hid ((hO5 _ (by omega)).trans HI.out)
  clear hx5
  have HF := Lib.hid (show x5.heap[w.heap.size + 1]? = some (.cells #[.int .i64 st, .slice (some ⟨w2.heap.size, 0, none⟩) xs.length xs.length, .int .i64 nx] 141 (0, 0)) from HX5.out)
  obtain ⟨s0, s1, s2, sf⟩ := cells3 HF
  refine bodyPost_ret (v := .agg #[.int .i64 st, .slice (some ⟨w2.heap.size, 0, none⟩) xs.length xs.length, .int .i64 nx]) (by simp [results, Tryz.results103, go_sem, s0, s1, s2]) rfl ?_
  exact ⟨w2.heap.size, rfl, HI.out, by omega, hX5⟩
def EqCRel (n : Nat) (w : World) (i : Value) (wr : World) : Prop := Below w.heap.size w wr ∧ ∃ k : Nat, k ≤ n ∧ i = .int .i64 k
set_option maxHeartbeats 1000000 in
theorem eq_ClauseS (v v' : Value) (cs : List Cl) (w : World) (h : ClsR w w.heap.size v cs) (h' : ClsR w w.heap.size v' cs) :
    Calls Tryz.prog 60 #[v, v'] w fun e w' => e = .returned (.bool true) ∧ Below w.heap.size w w' := by
  obtain ⟨A, c, rfl, h1, h2, -, h3⟩ := h
  obtain ⟨A', c', rfl, h1', h2', -, h3'⟩ := h'
  unfold maxLen at h2
  have H3 := Lib.hid h3; clear h3
  have H3' := Lib.hid h3'; clear h3'
  go_enter Tryz.func60, Tryz.ntmps60
  go_wp2
  go_loopw [5] (fun i wr => EqCRel cs.length w i wr) (fun i _ => cs.length - (intOf i).toNat)
  case atStart => exact ⟨Below.refl _ _, 0, Nat.zero_le _, rfl⟩
  case round =>
    obtain ⟨hbl, k, hk, rfl⟩ := hrel
    by_cases hlt : k < cs.length
    · obtain ⟨x, hx⟩ : ∃ x, cs[k]? = some x := ⟨cs[k], List.getElem?_eq_getElem hlt⟩
      obtain ⟨b, o, rfl, hb, hc⟩ := H3.out (by omega)
      obtain ⟨b', o', rfl, hb', hc'⟩ := H3'.out (by omega)
      obtain ⟨k0, ⟨u, k1, hu⟩, k2⟩ := hc k x hx
      obtain ⟨k0', ⟨u', k1', hu'⟩, k2'⟩ := hc' k x hx
      have q0 := (hbl.cell (p := ⟨b, o + k * 3, none⟩) hb).trans k0
      have q1 := (hbl.cell (p := ⟨b, o + k * 3 + 1, none⟩) hb).trans k1
      have q2 := (hbl.cell (p := ⟨b, o + k * 3 + 2, none⟩) hb).trans k2
      have p0 := (hbl.cell (p := ⟨b', o' + k * 3, none⟩) hb').trans k0'
      have p1 := (hbl.cell (p := ⟨b', o' + k * 3 + 1, none⟩) hb').trans k1'
      have p2 := (hbl.cell (p := ⟨b', o' + k * 3 + 2, none⟩) hb').trans k2'
      have hzw := hbl.size
      have HU := Lib.hid ((hu.below hbl).more hbl.size)
      have HU' := Lib.hid ((hu'.below hbl).more hbl.size)
      clear hc hx hc' k0 k1 k2 k0' k1' k2' hu hu'
      go_wp2_with fail
      refine wp_region_held_drew (S := fun w' => (w'.cell? ⟨b, o + k * 3, none⟩ = some (.int .i64 x.1) ∧ w'.cell? ⟨b, o + k * 3 + 1, none⟩ = some u ∧ w'.cell? ⟨b, o + k * 3 + 2, none⟩ = some (.int .i64 x.2.2)) ∧ w'.cell? ⟨b', o' + k * 3, none⟩ = some (.int .i64 x.1) ∧ w'.cell? ⟨b', o' + k * 3 + 1, none⟩ = some u' ∧ w'.cell? ⟨b', o' + k * 3 + 2, none⟩ = some (.int .i64 x.2.2)) (by kernel_rfl) ?_ (fun hHeld => ?_)
      · go_keep
      refine tk 0 17 rfl rfl ?_
      refine tk 1 18 rfl rfl ?_
      refine tk 2 19 rfl rfl ?_
      refine tk 3 20 rfl rfl ?_
      refine tk 4 21 rfl rfl ?_
      refine tk 5 22 rfl rfl ?_
      refine tk 6 23 rfl rfl ?_
      refine tk 7 24 rfl rfl ?_
      try simp only [Act.put, pu]
      refine tr 8 rfl (by kernel_rfl) (fun K hK => ?_)
      go_simp
      go_at_call 110
      have hd : Below wr.heap.size wr wr.drew := (Below.refl _ _).drew
      refine (eq_Clause x.1 x.2.2 u u' x.2.1 wr.drew (HU.out.below hd) (HU'.out.below hd)).mono ?_
      rintro e w1 ⟨rfl, hb1⟩
      have hB01 := ((Below.refl wr.heap.size wr).drew).trans hb1
      have hB1 := hbl.trans (hB01.mono hbl.size)
      have r0 := (hB01.cell (p := ⟨b, o + k * 3, none⟩) (show b < wr.heap.size by omega)).trans q0
      have r1 := (hB01.cell (p := ⟨b, o + k * 3 + 1, none⟩) (show b < wr.heap.size by omega)).trans q1
      have r2 := (hB01.cell (p := ⟨b, o + k * 3 + 2, none⟩) (show b < wr.heap.size by omega)).trans q2
      have t0 := (hB01.cell (p := ⟨b', o' + k * 3, none⟩) (show b' < wr.heap.size by omega)).trans p0
      have t1 := (hB01.cell (p := ⟨b', o' + k * 3 + 1, none⟩) (show b' < wr.heap.size by omega)).trans p1
      have t2 := (hB01.cell (p := ⟨b', o' + k * 3 + 2, none⟩) (show b' < wr.heap.size by omega)).trans p2
      refine hK.out _ _ ?_ (fun hHeld => ?_)
      · go_keep
      clear hK K
      try simp only [Act.put, pu]
      refine tk 9 26 rfl rfl ?_
      try simp only [Act.put, pu]
      refine wpAnyH_done (by kernel_rfl) ?_ _
      go_wp2_with fail
      go_roundw
      case rel => exact ⟨hB1, k + 1, by omega, by go_num⟩
      case measure => simp [intOf]; omega
    · go_wp2_with fail
      go_ret
      exact ⟨rfl, hbl⟩
theorem clInfo : (Tryz.prog.info? 141).map (fun i => (i.zero, i.size, i.bytes)) = some (some (.agg #[.int .i64 0, .slice none 0 0, .int .i64 0]), 3, 40) := by kernel_rfl
theorem run_make3 {P : Program} (t e : TypeId) (z : Value) (bytes : Nat) (ht : P.underlying t = some (.slice e)) (hinf : (P.info? e).map (fun i => (i.zero, i.size, i.bytes)) = some (some z, 3, bytes)) (n : Nat)
    (hb : bytes * n ≤ 281474976710656) (h63 : n ≤ 9223372036854775807) (w : World) :
    (Instr.makeSlice t (.int .i64 (n : Int)) (.int .i64 (n : Int))).run P w = .ok (.slice (some ⟨w.heap.size, 0, none⟩) n n) (w.alloc (.cells (madeCells z.cells (n * 3)) e)) := by
  obtain ⟨i, hi, hz0, hz1, hz2⟩ := info_parts hinf
  have hb' : (i.bytes : Int) * (n : Int) ≤ 281474976710656 := by
    rw [hz2]
    have h : ((bytes * n : Nat) : Int) ≤ 281474976710656 := by omega
    rwa [Int.natCast_mul] at h
  have hr := run_make (P := P) w t e i z ht hi hz0 .i64 .i64 n n (by omega) (by omega) hb' (by omega)
  simp only [Int.toNat_natCast] at hr
  rw [hr, hz1]
/-- The first k clauses as they lie in the cells C; the inboxes in blocks above g0. -/
def ClsTo (cs : List Cl) (C : Array Value) (k g0 : Nat) (w : World) : Prop := ∀ j x, j < k → cs[j]? = some x → C[j * 3]? = some (.int .i64 x.1) ∧ (∃ g, C[j * 3 + 1]? = some (.slice (some ⟨g, 0, none⟩) x.2.1.length x.2.1.length) ∧ g0 < g ∧ g < w.heap.size ∧ w.heap[g]? = some (.cells (x.2.1.map intV).toArray 3 (0, 0))) ∧ C[j * 3 + 2]? = some (.int .i64 x.2.2)
theorem ClsTo.keep {cs : List Cl} {C : Array Value} {k g0 : Nat} {w w' : World} (h : ClsTo cs C k g0 w) (hs : w.heap.size ≤ w'.heap.size) (hk : ∀ b, g0 < b → b < w.heap.size → w'.heap[b]? = w.heap[b]?) : ClsTo cs C k g0 w' := fun j x hj hx => by
  obtain ⟨h1, ⟨g, h2, h3, h4, h5⟩, h6⟩ := h j x hj hx
  exact ⟨h1, ⟨g, h2, h3, by omega, (hk g h3 h4).trans h5⟩, h6⟩
theorem ClsTo.next {cs : List Cl} {C : Array Value} {k g0 g : Nat} {w : World} {x : Cl} (h : ClsTo cs C k g0 w) (hx : cs[k]? = some x) (hC : C.size = cs.length * 3) (hk : k < cs.length) (hg : g0 < g) (hg2 : g < w.heap.size) (hh : w.heap[g]? = some (.cells (x.2.1.map intV).toArray 3 (0, 0))) :
    ClsTo cs (((C.setIfInBounds (k * 3) (.int .i64 x.1)).setIfInBounds (k * 3 + 1) (.slice (some ⟨g, 0, none⟩) x.2.1.length x.2.1.length)).setIfInBounds (k * 3 + 2) (.int .i64 x.2.2)) (k + 1) g0 w := by
  intro j y hj hy
  by_cases hjk : j < k
  · obtain ⟨h1, ⟨g', h2, h3⟩, h4⟩ := h j y hjk hy
    refine ⟨?_, ⟨g', ?_, h3⟩, ?_⟩
    · rw [Array.getElem?_setIfInBounds_ne (by omega), Array.getElem?_setIfInBounds_ne (by omega), Array.getElem?_setIfInBounds_ne (by omega)]; exact h1
    · rw [Array.getElem?_setIfInBounds_ne (by omega), Array.getElem?_setIfInBounds_ne (by omega), Array.getElem?_setIfInBounds_ne (by omega)]; exact h2
    · rw [Array.getElem?_setIfInBounds_ne (by omega), Array.getElem?_setIfInBounds_ne (by omega), Array.getElem?_setIfInBounds_ne (by omega)]; exact h4
  · obtain rfl : j = k := by omega
    obtain rfl := Option.some.inj (hx.symm.trans hy)
    refine ⟨?_, ⟨g, ?_, hg, hg2, hh⟩, ?_⟩
    · rw [Array.getElem?_setIfInBounds_ne (by omega), Array.getElem?_setIfInBounds_ne (by omega), Array.getElem?_setIfInBounds_self_of_lt (by omega)]
    · rw [Array.getElem?_setIfInBounds_ne (by omega), Array.getElem?_setIfInBounds_self_of_lt (by simp; omega)]
    · rw [Array.getElem?_setIfInBounds_self_of_lt (by simp; omega)]
def ToCRel (cs : List Cl) (w : World) (i : Value) (wr : World) : Prop :=
  ∃ (k : Nat) (C : Array Value), k ≤ cs.length ∧ i = .int .i64 k ∧ wr.heap[w.heap.size]? = some (.cells C 141 (0, 0)) ∧ C.size = cs.length * 3 ∧ Below w.heap.size w wr ∧ w.heap.size < wr.heap.size ∧ (∀ j, k ≤ j → j < cs.length → C[j * 3 + 1]? = some (.slice none 0 0)) ∧ ClsTo cs C k w.heap.size wr
theorem made3_at {n j : Nat} (h : j < n) : (madeCells (Value.agg #[.int .i64 0, .slice none 0 0, .int .i64 0]).cells (n * 3))[j * 3 + 1]? = some (.slice none 0 0) := by
  have h1 : (j * 3 + 1) % 3 = 1 := by omega
  have h2 : j * 3 + 1 < n * 3 := by omega
  unfold madeCells
  rw [Array.getElem?_map, Array.getElem?_eq_getElem (by simpa using h2)]
  simp [Value.cells, h1]
/-- Clauses in a block of their own, the inboxes in blocks above it. -/
def ClsOwn (w : World) (g : Nat) (cs : List Cl) : Prop := ∃ C, w.heap[g]? = some (.cells C 141 (0, 0)) ∧ C.size = cs.length * 3 ∧ ClsTo cs C cs.length g w
theorem ClsOwn.keep {w w' : World} {g : Nat} {cs : List Cl} (h : ClsOwn w g cs) (hs : w.heap.size ≤ w'.heap.size) (hk : ∀ b, g ≤ b → b < w.heap.size → w'.heap[b]? = w.heap[b]?) : ClsOwn w' g cs := by
  obtain ⟨C, h1, h2, h3⟩ := h
  exact ⟨C, (hk g (Nat.le_refl _) (Array.getElem?_eq_some_iff.1 h1).1).trans h1, h2, h3.keep hs fun b hb => hk b (by omega)⟩
set_option maxHeartbeats 1000000 in
theorem to_ClauseS0 (v : Value) (cs : List Cl) (w : World) (h : ClsR w w.heap.size v cs) (hn : szCls cs ≤ 1048576) :
    Calls Tryz.prog 53 #[v] w fun e w' => e = .returned (.slice (some ⟨w.heap.size, 0, none⟩) cs.length cs.length) ∧ ClsOwn w' w.heap.size cs ∧ Below w.heap.size w w' := by
  obtain ⟨A, c, rfl, h1, h2, h4, h3⟩ := h
  have H4 := Lib.hid h4; clear h4
  have H3 := Lib.hid h3; clear h3
  have HSZ := Lib.hid (show ∀ (k : Nat) (x : Cl), cs[k]? = some x → x.2.1.length ≤ 1048576 from fun k x hx => by
    have := lensC_snoc cs k x hx
    have := lensC_split cs (k + 1)
    unfold szCls at hn
    omega)
  have hn' : cs.length ≤ 1048576 := by unfold szCls at hn; omega
  clear hn
  have hmk := fun W => run_make3 (P := Tryz.prog) 40 141 _ 40 Tryz.underlying40 clInfo cs.length (by omega) (by omega) W
  go_enter Tryz.func53, Tryz.ntmps53
  go_wp2
  clear hmk
  go_loopw [4] (fun i wr => ToCRel cs w i wr) (fun i _ => cs.length - (intOf i).toNat)
  case atStart => exact ⟨0, _, Nat.zero_le _, rfl, heap_alloc_new w _, by simp [madeCells], bl_alloc (Below.refl _ _) _, by simp, fun j _ hj => made3_at hj, fun j x hj => by omega⟩
  case round =>
    obtain ⟨k, C, hk, rfl, hblk, hC, hbl, hgt, hnil, hits⟩ := hrel
    have hsz := hbl.size
    have HI := Lib.hid hits; clear hits
    have HB := Lib.hid hblk; clear hblk
    have HC := Lib.hid hC; clear hC
    have HNIL := Lib.hid hnil; clear hnil
    by_cases hlt : k < cs.length
    · obtain ⟨x, hx⟩ : ∃ x, cs[k]? = some x := ⟨cs[k], List.getElem?_eq_getElem hlt⟩
      obtain ⟨b, o, rfl, hb, hc⟩ := H3.out (by omega)
      obtain ⟨k0, ⟨u, k1, hu⟩, k2⟩ := hc k x hx
      obtain ⟨A', c', rfl, -, -, -⟩ := hu.open_
      have q0 := (hbl.cell (p := ⟨b, o + k * 3, none⟩) hb).trans k0
      have q1 := (hbl.cell (p := ⟨b, o + k * 3 + 1, none⟩) hb).trans k1
      have q2 := (hbl.cell (p := ⟨b, o + k * 3 + 2, none⟩) hb).trans k2
      have HU := Lib.hid ((hu.below hbl).more hsz)
      have HX := Lib.hid hx
      have hxz := HSZ.out k x hx
      clear hc hx k0 k1 k2 hu
      go_wp2_with fail
      refine (to_Clause x.1 x.2.2 _ x.2.1 wr HU.out hxz).mono ?_
      rintro e w1 ⟨g, rfl, hgh, hgg, hb1⟩
      have hblk1 : w1.heap[w.heap.size]? = some (.cells C 141 (0, 0)) := (hb1.block _ hgt).trans HB.out
      have hz1 := hb1.size
      have hgl : g < w1.heap.size := (Array.getElem?_eq_some_iff.1 hgh).1
      obtain ⟨o0, hz0⟩ : ∃ u, C[k * 3]? = some u := ⟨_, Array.getElem?_eq_getElem (by rw [HC.out]; omega)⟩
      obtain ⟨o2, hz2⟩ : ∃ u, C[k * 3 + 2]? = some u := ⟨_, Array.getElem?_eq_getElem (by rw [HC.out]; omega)⟩
      have z0 : w1.cell? ⟨w.heap.size, k * 3, none⟩ = some o0 := by rw [cell_of_row w1 _ (k * 3) _ _ (0, 0) hblk1]; exact hz0
      have z1 : w1.cell? ⟨w.heap.size, k * 3 + 1, none⟩ = some (.slice none 0 0) := by rw [cell_of_row w1 _ (k * 3 + 1) _ _ (0, 0) hblk1]; exact HNIL.out k (Nat.le_refl _) hlt
      have z2 : w1.cell? ⟨w.heap.size, k * 3 + 2, none⟩ = some o2 := by rw [cell_of_row w1 _ (k * 3 + 2) _ _ (0, 0) hblk1]; exact hz2
      have y0 : w1.frozen? ⟨w.heap.size, k * 3, none⟩ = false := by simp [World.frozen?, hblk1]
      have y1 : w1.frozen? ⟨w.heap.size, k * 3 + 1, none⟩ = false := by simp [World.frozen?, hblk1]
      have y2 : w1.frozen? ⟨w.heap.size, k * 3 + 2, none⟩ = false := by simp [World.frozen?, hblk1]
      have hB1 := hbl.trans (hb1.mono hsz)
      have hgt1 : w.heap.size < w1.heap.size := by omega
      have HB1 := Lib.hid hblk1
      have HGH := Lib.hid hgh
      have HI1 := Lib.hid (HI.out.keep (w' := w1) hz1 fun b _ h => hb1.block b h)
      clear hblk1 hgh hz0 hz2
      go_wp2_with fail
      go_roundw
      case rel =>
        refine ⟨k + 1, _, by omega, by go_num, heap_set_same (heap_set_same (heap_set_same HB1.out _) _) _, by simp [HC.out], ?_, by simp only [size_setCell]; exact hgt1, fun j h1 h2 => ?_, ?_⟩
        · iterate 3 (refine Below.setCell ?_ (by simp) _)
          exact hB1
        · rw [Array.getElem?_setIfInBounds_ne (by omega), Array.getElem?_setIfInBounds_ne (by omega), Array.getElem?_setIfInBounds_ne (by omega)]
          exact HNIL.out j (by omega) h2
        · refine (HI1.out.next HX.out HC.out hlt (show w.heap.size < g by omega) hgl HGH.out).keep (by simp only [size_setCell]; exact Nat.le_refl _) fun b h1 h2 => ?_
          iterate 3 rw [Below.heap_setCell _ _ _ _ (by simp; omega)]
      case measure => simp [intOf]; omega
    · have hkk : k = cs.length := by omega
      go_wp2_with fail
      go_ret
      subst hkk
      exact ⟨rfl, ⟨C, HB.out, HC.out, HI.out⟩, hbl⟩
theorem cls_64 {w : World} {B : Nat} {v : Value} {cs : List Cl} (h : ClsR w B v cs) : (∀ e ∈ cs, I64 e.1 ∧ I64 e.2.2) ∧ ∀ e ∈ cs, ∀ y ∈ e.2.1, I64 y := by
  obtain ⟨A, c, -, -, -, h4, h3⟩ := h
  refine ⟨h4, fun e he => ?_⟩
  obtain ⟨j, hj⟩ := List.mem_iff_getElem?.1 he
  obtain ⟨b, o, -, -, hc⟩ := h3 (by have := (List.getElem?_eq_some_iff.1 hj).1; omega)
  obtain ⟨-, ⟨u, -, hu⟩, -⟩ := hc j e hj
  exact hu.2
theorem ClsOwn.reads {w : World} {g : Nat} {cs : List Cl} (h : ClsOwn w g cs) (h64 : (∀ e ∈ cs, I64 e.1 ∧ I64 e.2.2) ∧ ∀ e ∈ cs, ∀ y ∈ e.2.1, I64 y) (hn : szCls cs ≤ 1048576) : ClsR w w.heap.size (.slice (some ⟨g, 0, none⟩) cs.length cs.length) cs := by
  obtain ⟨C, hB, hC, hI⟩ := h
  have hl : cs.length ≤ 1048576 := by unfold szCls at hn; omega
  refine ⟨_, _, rfl, Nat.le_refl _, by unfold maxLen; omega, h64.1, fun _ => ⟨_, 0, rfl, (Array.getElem?_eq_some_iff.1 hB).1, fun j x hx => ?_⟩⟩
  have hj : j < cs.length := (List.getElem?_eq_some_iff.1 hx).1
  obtain ⟨k1, ⟨g', k2, k3, k4, k5⟩, k6⟩ := hI j x hj hx
  have hz : x.2.1.length ≤ 1048576 := by
    have := lensC_snoc cs j x hx
    have := lensC_split cs (j + 1)
    unfold szCls at hn
    omega
  exact ⟨by rw [cell_of_row _ _ (0 + j * 3) _ _ (0, 0) hB, Nat.zero_add]; exact k1, ⟨_, by rw [cell_of_row _ _ (0 + j * 3 + 1) _ _ (0, 0) hB, Nat.zero_add]; exact k2, ints_row k5 (by unfold maxLen; omega) (h64.2 x (List.mem_of_getElem? hx)) k4⟩, by rw [cell_of_row _ _ (0 + j * 3 + 2) _ _ (0, 0) hB, Nat.zero_add]; exact k6⟩
theorem to_ClauseS (v : Value) (cs : List Cl) (w : World) (h : ClsR w w.heap.size v cs) (hn : szCls cs ≤ 1048576) :
    Calls Tryz.prog 53 #[v] w fun e w' => ∃ v', e = .returned v' ∧ ClsR w' w'.heap.size v' cs ∧ Below w.heap.size w w' := by
  refine (to_ClauseS0 v cs w h hn).mono ?_
  rintro e w' ⟨rfl, ho, hb⟩
  exact ⟨_, rfl, ho.reads (cls_64 h) hn, hb⟩
end Go.Proofs.YtcpbbjocaimocaaGreat
