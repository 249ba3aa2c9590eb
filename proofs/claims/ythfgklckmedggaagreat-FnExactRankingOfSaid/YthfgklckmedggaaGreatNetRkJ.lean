/-
  Ranks, the program's side: ranks, RankingOf, LongestRun.
-/
import Derived.Test.YthfgklckmedggaaGreatNetRkI
import Derived.Laws.EntriesVeiled
namespace Go.Proofs.YthfgklckmedggaaGreat
open Go.RowKit
set_option linter.unusedVariables false
set_option linter.unusedSimpArgs false
def RoRel (N : List (List Int)) (dd : List Bool) (T R : Nat) (w : World) (i : Value) (wr : World) : Prop :=
  ∃ (j : Nat) (o : List Int), i = .int .i64 j ∧ j ≤ T ∧ NumsAt wr R o ∧ RsOk N dd T o ∧ (∀ x : Nat, o[x]? ≠ some (-2)) ∧ (∀ x : Nat, x < j → o[x]? ≠ some (-1)) ∧ RkSt R w wr
def RnPost (N : List (List Int)) (dd : List Bool) (T : Nat) (w : World) (e : Ending) (w' : World) : Prop :=
  ∃ v, e = .returned v ∧ Below w.heap.size w w' ∧ ((roP N dd T = false ∧ v = .slice none 0 0) ∨ (roP N dd T = true ∧ ∃ R, v = .slice (some ⟨R, 0, none⟩) T T ∧ w.heap.size ≤ R ∧ NumsAt w' R (rkL N dd T) ∧ ∀ v ∈ rkL N dd T, I64 v))
theorem ro_no {N : List (List Int)} {dd : List Bool} {T : Nat} (h : ¬ rkP N dd T) : roP N dd T = false := by
  unfold roP
  rw [propB_f h, Bool.and_false]
theorem ro_64 {N : List (List Int)} {dd : List Bool} {T : Nat} {o : List Int} (h : RsOk N dd T o) (hT : T ≤ 3000) : ∀ v ∈ o, I64 v := fun v hv => by
  have h1 := h.low v hv
  have h2 := h.top v hv
  unfold I64
  omega
theorem ro_fin {N : List (List Int)} {dd : List Bool} {T : Nat} {o : List Int} (h : RsOk N dd T o) (h2 : ∀ x : Nat, o[x]? ≠ some (-2)) (h1 : ∀ x : Nat, x < T → o[x]? ≠ some (-1)) : o = rkL N dd T ∧ rkP N dd T := by
  refine h.fin fun x hx => ?_
  obtain ⟨v, hv, hv2, -⟩ := h.at_ hx
  have a2 : v ≠ -2 := fun e => h2 x (by rw [hv, e])
  have a1 : v ≠ -1 := fun e => h1 x hx (by rw [hv, e])
  rw [getDi hv, hv]
  exact ⟨by omega, by simp⟩
set_option maxRecDepth 100000 in
set_option maxHeartbeats 2000000 in
theorem impl_ranks (G T : Nat) (lv nv : Value) (N : List (List Int)) (dd : List Bool) (w : World) (hx : Xd w G T lv nv N dd) (h0 : 0 < T) :
    Calls Tryz.prog 46 #[.pointer (some ⟨G, 0, none⟩)] w (RnPost N dd T w) := by
  have hT3 := hx.ok.t
  obtain ⟨w1, hw1, hb1, HB1, hz1, HS1⟩ := box1 w (.pointer (some ⟨G, 0, none⟩)) 54
  obtain ⟨w2, hw2⟩ : ∃ z, z = w1.alloc (.cells #[.int .i64 (-1)] 3) := ⟨_, rfl⟩
  have hb2 : Below w1.heap.size w1 w2 := by rw [hw2]; exact bl_alloc (Below.refl _ _) _
  have hn2 : NumsAt w2 (w.heap.size + 1) [-1] := by rw [hw2, ← HS1.out]; exact heap_alloc_new w1 _
  have hz2 : w1.heap.size < w2.heap.size := by rw [hw2]; simp
  have hX2 := (hx.up hb1).up hb2
  have p1 : w1.cell? ⟨w.heap.size, 0, none⟩ = some (.pointer (some ⟨G, 0, none⟩)) := cell_of_row _ _ 0 _ _ (0, 0) HB1.out
  have p1' := (hb2.cell (p := ⟨w.heap.size, 0, none⟩) hz1).trans p1
  have a6 := hX2.c6
  have e1 := p1'
  have e6 := a6
  rw [hw2, hw1] at e1 e6
  have HW1 := Lib.hid hw1
  have HW2 := Lib.hid hw2
  have HN2 := Lib.hid hn2
  have HX0 := Lib.hid hx
  have HX2 := Lib.hid hX2
  have HP1 := Lib.hid p1'
  have hB2 := bl_trans hb1 hb2
  clear hx hX2 p1 p1' a6 hw1 hw2 hn2
  go_enter Tryz.func46, Tryz.ntmps46
  go_wp2_with fail
  rw [← HW1.out, ← HW2.out]
  clear e1 e6
  refine (impl_Repeat (-1) T (w.heap.size + 1) w2 HN2.out (by omega) (by omega)).mono ?_
  rintro e w3 ⟨rfl, hnum, hb3⟩
  have hz3 := hnum.lt
  obtain ⟨w4, hw4⟩ : ∃ z, z = w3.alloc (.cells #[.slice (some ⟨w2.heap.size, 0, none⟩) T T] 23) := ⟨_, rfl⟩
  have hb4 : Below w3.heap.size w3 w4 := by rw [hw4]; exact bl_alloc (Below.refl _ _) _
  have hz4 : w3.heap.size < w4.heap.size := by rw [hw4]; simp
  have HZ4 := Lib.hid (show w4.heap.size = w3.heap.size + 1 by rw [hw4]; simp)
  have hh4 : w4.heap[w3.heap.size]? = some (.cells #[.slice (some ⟨w2.heap.size, 0, none⟩) T T] 23 (0, 0)) := by rw [hw4]; exact heap_alloc_new w3 _
  obtain ⟨w6, hw6⟩ : ∃ z, z = w4.alloc (.cells #[.func (.func 72) #[] #[.pointer (some ⟨w.heap.size, 0, none⟩), .pointer (some ⟨w3.heap.size, 0, none⟩), .pointer (some ⟨w3.heap.size + 1, 0, none⟩)]] 83) := ⟨_, rfl⟩
  have hb6 : Below w4.heap.size w4 w6 := by rw [hw6]; exact bl_alloc (Below.refl _ _) _
  have hh6 : w6.heap[w3.heap.size + 1]? = some (.cells #[.func (.func 72) #[] #[.pointer (some ⟨w.heap.size, 0, none⟩), .pointer (some ⟨w3.heap.size, 0, none⟩), .pointer (some ⟨w3.heap.size + 1, 0, none⟩)]] 83 (0, 0)) := by rw [hw6, ← HZ4.out]; exact heap_alloc_new w4 _
  have hz6 : w3.heap.size + 1 < w6.heap.size := (Array.getElem?_eq_some_iff.1 hh6).1
  have hB6 : Below w3.heap.size w3 w6 := bl_trans hb4 hb6
  have s5 : w6.cell? ⟨w3.heap.size, 0, none⟩ = some (.slice (some ⟨w2.heap.size, 0, none⟩) T T) := by
    refine cell_of_row _ _ 0 _ _ (0, 0) (show w6.heap[w3.heap.size]? = _ from (hb6.block _ hz4).trans hh4)
  have s6 : w6.cell? ⟨w3.heap.size + 1, 0, none⟩ = some (.func (.func 72) #[] #[.pointer (some ⟨w.heap.size, 0, none⟩), .pointer (some ⟨w3.heap.size, 0, none⟩), .pointer (some ⟨w3.heap.size + 1, 0, none⟩)]) := cell_of_row _ _ 0 _ _ (0, 0) hh6
  have hn6 : NumsAt w6 w2.heap.size (List.replicate T (-1)) := hnum.keep (hB6.block _ hz3)
  have hB26 : Below w2.heap.size w2 w6 := hb3.trans (hB6.mono (by omega))
  have HCX := Lib.hid (show RkCx w6 w2.heap.size G T w2.heap.size w.heap.size w3.heap.size (w3.heap.size + 1) lv nv N dd from
    ⟨(hB26.cell (p := ⟨G, 7, none⟩) HX2.out.lt).trans HX2.out.c7, (hB26.cell (p := ⟨G, 8, none⟩) HX2.out.lt).trans HX2.out.c8, HX2.out.b.below hB26, HX2.out.n.below hB26, HX2.out.ok, HX2.out.lt, by omega, Nat.le_refl _, by omega, by omega, (hB26.cell (p := ⟨w.heap.size, 0, none⟩) (by show w.heap.size < w2.heap.size; omega)).trans HP1.out, s5, s6⟩)
  have HN6 := Lib.hid hn6
  have HB26 := Lib.hid hB26
  have t5 := s5
  rw [hw6, hw4] at t5
  have HW4 := Lib.hid hw4
  have HW6 := Lib.hid hw6
  clear hw4 hw6 hn6 hB26 s5 s6 hh4 hh6 hnum hb3 hb4 hb6 hB6
  go_wp2_with fail
  rw [← HW4.out, ← HW6.out]
  clear t5
  go_loopw [2, 5, 15] (fun _ _ i wr => RoRel N dd T w2.heap.size w6 i wr) (fun _ _ i _ => T - (intOf i).toNat)
  case atStart => exact ⟨0, _, rfl, Nat.zero_le _, HN6.out, RsOk.start N dd T, fun x hx => by have := List.eq_of_mem_replicate (List.mem_of_getElem? hx); omega, fun x hx => by omega, RkSt.refl _ _⟩
  case round =>
    obtain ⟨j, o, rfl, hj, hnum, hok, hno2, hno1, hst⟩ := hrel
    have hcx := HCX.out.up hst
    have q1 := hcx.p1
    have q2 := hcx.p2
    have q3 := hcx.p3
    have HBr := Lib.hid (show Below w.heap.size w _ from bl_trans hB2 (HB26.out.trans hst.bl))
    by_cases hlt : j < T
    · have J := Lib.hid (rank_call w2.heap.size G T w2.heap.size w.heap.size w3.heap.size (w3.heap.size + 1) lv nv N dd (unks o) o j _ (Nat.le_refl _) hcx hnum hok (fun x hx => absurd hx (hno2 x)) hlt)
      have H2 := Lib.hid hno2
      have H1 := Lib.hid hno1
      have HST := Lib.hid hst
      clear hcx hnum hok hno2 hno1 hst
      go_wp2_with fail
      refine J.out.mono ?_
      rintro e w7 ⟨r, rfl, hst7, hcase⟩
      have HB7 := Lib.hid (show Below w.heap.size w w7 from HBr.out.trans (hst7.bl.mono (by omega)))
      rcases hcase with ⟨rfl, hno⟩ | ⟨q, o7, rfl, hrk7, hnum7, hok7, hext7, hat7⟩
      · have HNO := Lib.hid (ro_no hno)
        clear hno hst7
        go_wp2_with fail
        go_ret
        exact ⟨_, rfl, HB7.out, .inl ⟨HNO.out, rfl⟩⟩
      · have hcq : ((q : Int) == -1) = false := by rw [beq_eq_false_iff_ne]; omega
        have HREL := Lib.hid (show j + 1 ≤ T ∧ NumsAt w7 w2.heap.size o7 ∧ RsOk N dd T o7 ∧ (∀ x : Nat, o7[x]? ≠ some (-2)) ∧ (∀ x : Nat, x < j + 1 → o7[x]? ≠ some (-1)) ∧ RkSt w2.heap.size w6 w7 from
          ⟨by omega, hnum7, hok7, fun x hx => H2.out x ((hext7.opn x).1 hx), fun x hx hx1 => by
            rcases Nat.lt_or_ge x j with h1 | h1
            · exact H1.out x h1 (hext7.unk x hx1)
            · obtain rfl : x = j := by omega
              rw [hat7] at hx1
              have := Option.some.inj hx1
              omega, HST.out.trans hst7⟩)
        clear hnum7 hok7 hext7 hat7 hrk7 hst7
        go_wp2_with fail
        go_roundw
        case rel => exact ⟨j + 1, o7, by go_num, HREL.out⟩
        case measure => simp [intOf]; omega
    · obtain rfl : j = T := by omega
      obtain ⟨hfin, hall⟩ := ro_fin hok hno2 hno1
      have h64 := ro_64 hok hT3
      rw [hfin] at hnum h64
      have H64 := Lib.hid h64; clear h64
      have HNU := Lib.hid hnum
      have HALL := Lib.hid hall
      have HXr := Lib.hid (HX0.out.up HBr.out)
      have hsz := hst.bl.size
      have hRr := hnum.lt
      clear hcx hnum hok hno2 hno1 hst hfin hall
      go_wp2_with fail
      refine (impl_closed G _ lv nv N dd _ HXr.out).mono ?_
      rintro e w8 ⟨rfl, hb8⟩
      have HB8 := Lib.hid (bl_trans HBr.out hb8)
      have HN8 := Lib.hid (HNU.out.keep (hb8.block _ hRr))
      replace q2 := (hb8.cell (p := ⟨w3.heap.size, 0, none⟩) (World.block_lt_of_cell? _ _ q2)).trans q2
      clear q1 q3 hb8
      have HRO := Lib.hid (fun b (hb : closedB N dd = b) => show roP N dd j = b by unfold roP; rw [hb, propB_t HALL.out, Bool.and_true])
      cases hc : closedB N dd with
      | false =>
        have HF := Lib.hid (HRO.out _ hc)
        go_wp2_with fail
        go_ret
        exact ⟨_, rfl, HB8.out, .inl ⟨HF.out, rfl⟩⟩
      | true =>
        have HF := Lib.hid (HRO.out _ hc)
        go_wp2_with fail
        go_ret
        exact ⟨_, rfl, HB8.out, .inr ⟨HF.out, w2.heap.size, rfl, by omega, HN8.out, H64.out⟩⟩
theorem own_nums {w : World} {base g : Nat} {xs : List Int} (h : NumsAt w g xs) (hb : base ≤ g) (hl : xs.length ≤ 2000000) : w.ownsRow base 3 1 (.slice (some ⟨g, 0, none⟩) xs.length xs.length) xs.length (xs.map intV) :=
  ⟨by simp, .inr ⟨g, xs.length, _, rfl, hb, h, Nat.le_refl _, by unfold maxLen; omega, by simp, by simp only [Nat.mul_one]; exact List.take_of_length_le (by simp)⟩⟩
theorem own_none (w : World) (base : Nat) : w.ownsRow base 3 1 (.slice none 0 0) ([] : List Int).length (([] : List Int).map intV) := World.ownsRow_nil _ _ _ _
set_option maxRecDepth 100000 in
theorem impl_RankingOf0 (ve vi vn : Value) (n : Net) (r d : Int) (w : World) (h : NetR w w.heap.size ve vi vn n) (hz : n.es.length ≤ 2000000) (hzi : n.ids.length ≤ 2000000) :
    Calls Tryz.prog 23 #[.agg #[ve, vi, vn], .int .i64 r, .int .i64 d] w fun e w' => ∃ u, e = .returned (.tuple #[u, .bool (roB n r d)]) ∧ w'.ownsRow w.heap.size 3 1 u (roL n r d).length ((roL n r d).map intV) ∧ (∀ x ∈ roL n r d, I64 x) ∧ Below w.heap.size w w' := by
  obtain ⟨⟨A0, m0, c0, rfl⟩, ⟨A1, m1, c1, rfl⟩, A2, m2, c2, rfl⟩ := h.slices
  obtain ⟨w0, hw0, hB, HD, hz0, HS0⟩ := box3 w (.slice A0 m0 c0) (.slice A1 m1 c1) (.slice A2 m2 c2) 31
  have HN0 := Lib.hid h; have HN := Lib.hid (h.up hB); clear h
  have HW0 := Lib.hid hw0; clear hw0
  obtain ⟨q0, q1, q2, qf⟩ := cells3 HD
  go_enter Tryz.func23, Tryz.ntmps23
  go_wp2_with fail
  rw [← HW0.out]
  refine (impl_explored _ _ _ n r d w0 HN.out hz hzi).mono ?_
  rintro e w1 ⟨hb1, hx⟩
  have hzhb1 := hb1.size
  clear q0 q1 q2 qf
  replace HD := bk HD hb1
  replace HN := Lib.hid (HN.out.up hb1)
  replace hB := bl_trans hB hb1
  obtain ⟨q0, q1, q2, qf⟩ := cells3 HD
  rcases hx with ⟨h1, p, rfl⟩ | ⟨h1, G, T, lv, nv, hT, rfl, hX⟩
  · have HF := Lib.hid (show roB n r d = false by unfold roB; rw [h1]; rfl)
    go_wp2_with fail
    go_ret2
    exact ⟨_, ret2b HF.out.symm, by rw [ro_f HF.out]; exact own_none _ _, by rw [ro_f HF.out]; exact (fun x hx => nomatch hx), hB⟩
  · have HQ := Lib.hid h1
    have HF := Lib.hid (show roB n r d = roP (nxL n r d T) (legL n r T) T by unfold roB; rw [h1, hT]; rfl)
    have HL := Lib.hid (fun hb : roB n r d = true => show roL n r d = rkL (nxL n r d T) (legL n r T) T by rw [ro_t hb, hT]; rfl)
    have HX := Lib.hid hX
    have HT0 := Lib.hid (dm_T h1 hT)
    clear hX hT
    go_wp2_with fail
    refine (impl_ranks G T lv nv _ _ w1 HX.out HT0.out).mono ?_
    rintro e w2 ⟨u, rfl, hb2, hcase⟩
    have hsz := hB.size
    rcases hcase with ⟨hro, rfl⟩ | ⟨hro, R, rfl, hR, hnum, h64⟩
    · have HF2 := Lib.hid (HF.out.trans hro)
      clear hro
      go_wp2_with fail
      go_ret2
      exact ⟨_, ret2b HF2.out.symm, by rw [ro_f HF2.out]; exact own_none _ _, by rw [ro_f HF2.out]; exact (fun x hx => nomatch hx), bl_trans hB hb2⟩
    · have HF2 := Lib.hid (HF.out.trans hro)
      have hT3 := HX.out.ok.t
      have ho := own_nums (base := w.heap.size) hnum (by omega) (by rw [rkL_len]; omega)
      rw [← HL.out HF2.out] at ho h64
      have H64 := Lib.hid h64; clear h64
      have hlen : (roL n r d).length = T := by rw [HL.out HF2.out, rkL_len]
      rw [show (Value.slice (some ⟨R, 0, none⟩) (roL n r d).length (roL n r d).length) = Value.slice (some ⟨R, 0, none⟩) T T by rw [hlen]] at ho
      have HO := Lib.hid ho
      clear hro hnum ho hlen
      go_wp2_with fail
      go_ret2
      exact ⟨_, ret2b HF2.out.symm, HO.out, H64.out, bl_trans hB hb2⟩
theorem impl_RankingOf (ve vi vn : Value) (n : Net) (r d : Int) (w : World) (h : NetR w w.heap.size ve vi vn n) (hz : n.es.length ≤ 2000000) (hzi : n.ids.length ≤ 2000000) :
    Calls Tryz.prog 23 #[.agg #[ve, vi, vn], .int .i64 r, .int .i64 d] w fun e w' => ∃ u, e = .returned (.tuple #[u, .bool (roB n r d)]) ∧ (∃ A m c, u = .slice A m c) ∧ IntsR w' w'.heap.size u (roL n r d) ∧ w'.ownsRow w.heap.size 3 1 u (roL n r d).length ((roL n r d).map intV) ∧ Below w.heap.size w w' := by
  refine (impl_RankingOf0 ve vi vn n r d w h hz hzi).mono ?_
  rintro e w' ⟨u, rfl, ho, h64, hb⟩
  obtain ⟨A5, c5, rfl⟩ := own_sl ho
  exact ⟨_, rfl, ⟨_, _, _, rfl⟩, own_intsR ho h64, ho, hb⟩
theorem rkL_nn {n : Net} {r d : Int} : ∀ x ∈ roL n r d, 0 ≤ x := fun x hx => by
  cases hq : roB n r d with
  | false => rw [ro_f hq] at hx; cases hx
  | true =>
    rw [ro_t hq] at hx
    unfold roB roP at hq
    rw [Bool.and_eq_true, Bool.and_eq_true] at hq
    have hp := propB_iff.1 hq.2.2
    unfold rkL at hx
    obtain ⟨k, hk, rfl⟩ := List.mem_map.1 hx
    obtain ⟨m, hm⟩ := hp k (List.mem_range.1 hk)
    rw [rkV_of hm]
    omega
theorem roL_pos {n : Net} {r d : Int} (hq : roB n r d = true) : 0 < (roL n r d).length := by
  rw [ro_t hq, rkL_len]
  unfold roB at hq
  rw [Bool.and_eq_true] at hq
  obtain ⟨T, hT⟩ := prod_nat hq.1
  have := dm_T hq.1 hT
  omega
set_option maxRecDepth 100000 in
theorem impl_LongestRun (ve vi vn : Value) (n : Net) (r d : Int) (w : World) (h : NetR w w.heap.size ve vi vn n) (hz : n.es.length ≤ 2000000) (hzi : n.ids.length ≤ 2000000) :
    Calls Tryz.prog 21 #[.agg #[ve, vi, vn], .int .i64 r, .int .i64 d] w fun e w' => e = .returned (.tuple #[.int .i64 (loV n r d), .bool (roB n r d)]) ∧ Below w.heap.size w w' := by
  obtain ⟨⟨A0, m0, c0, rfl⟩, ⟨A1, m1, c1, rfl⟩, A2, m2, c2, rfl⟩ := h.slices
  obtain ⟨w0, hw0, hB, HD, hz0, HS0⟩ := box3 w (.slice A0 m0 c0) (.slice A1 m1 c1) (.slice A2 m2 c2) 31
  have HN0 := Lib.hid h; have HN := Lib.hid (h.up hB); clear h
  have HW0 := Lib.hid hw0; clear hw0
  obtain ⟨q0, q1, q2, qf⟩ := cells3 HD
  go_enter Tryz.func21, Tryz.ntmps21
  go_wp2_with fail
  rw [← HW0.out]
  refine (impl_RankingOf _ _ _ n r d w0 HN.out hz hzi).mono ?_
  rintro e w1 ⟨u, rfl, ⟨A5, m5, c5, rfl⟩, hu, -, hb1⟩
  have HU := Lib.hid hu; clear hu
  have hzhb1 := hb1.size
  clear q0 q1 q2 qf
  replace HD := bk HD hb1
  replace HN := Lib.hid (HN.out.up hb1)
  replace hB := bl_trans hB hb1
  obtain ⟨q0, q1, q2, qf⟩ := cells3 HD
  cases hq : roB n r d with
  | false =>
    have HQ := Lib.hid hq
    have HL := Lib.hid (show (0 : Int) = loV n r d by unfold loV; rw [ro_f hq]; rfl)
    go_wp2_with fail
    go_ret2
    exact ⟨ret2ib HL.out HQ.out.symm, hB⟩
  | true =>
    have HQ := Lib.hid hq
    have HP := Lib.hid (roL_pos hq)
    go_wp2_with fail
    refine (impl_Max _ _ w1 HU.out HP.out rkL_nn).mono ?_
    rintro e w' ⟨rfl, rfl⟩
    go_wp2_with fail
    go_ret2
    exact ⟨ret2ib rfl HQ.out.symm, hB⟩
end Go.Proofs.YthfgklckmedggaaGreat
