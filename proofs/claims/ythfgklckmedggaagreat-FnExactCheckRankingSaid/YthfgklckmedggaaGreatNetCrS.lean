/-
  Rankings that are given, the reference's side: CheckRanking.
-/
import Derived.Test.YthfgklckmedggaaGreatNetEndS
namespace Go.Proofs.YthfgklckmedggaaGreat
open Go.RowKit
set_option linter.unusedVariables false
set_option linter.unusedSimpArgs false
def CoRel (N : List (List Int)) (d : List Bool) (rk : List Int) (w : World) (i : Value) (wr : World) : Prop := Below w.heap.size w wr ∧ ∃ k : Nat, k ≤ N.length ∧ i = .int .i64 k ∧ CrTo N d rk k
def CqRel (d : List Bool) (rk l : List Int) (b : Bool) (v : Int) (w : World) (i : Value) (wr : World) : Prop := Below w.heap.size w wr ∧ ∃ m : Nat, m ≤ l.length ∧ i = .int .i64 m ∧ ∀ y ∈ l.take m, b = false → d.getD y.toNat false = false → rk.getD y.toNat 0 < v
set_option maxRecDepth 100000 in
set_option maxHeartbeats 2000000 in
theorem spec_CheckRanking (ve vi vn vs : Value) (n : Net) (r d : Int) (ss : List Int) (w : World) (h : NetR w w.heap.size ve vi vn n) (hss : IntsR w w.heap.size vs ss) (hz : n.es.length ≤ 2000000) (hl : ss.length ≤ 1048576) :
    Calls Tryz.prog 18 #[.agg #[ve, vi, vn], .int .i64 r, .int .i64 d, vs] w fun e w' => e = .returned (.tuple #[.bool (chB n r d ss), .bool (dmB n r d)]) ∧ Below w.heap.size w w' := by
  have HI := Lib.hid hss
  obtain ⟨As, cs, rfl, hcs, hcsm, hrs⟩ := hss.open_
  unfold maxLen at hcsm
  have HRS := Lib.hid hrs
  clear hss hrs
  obtain ⟨⟨A0, m0, c0, rfl⟩, ⟨A1, m1, c1, rfl⟩, A2, m2, c2, rfl⟩ := h.slices
  obtain ⟨w0, hw0, hB, HD, hz0, HS0⟩ := box3 w (.slice A0 m0 c0) (.slice A1 m1 c1) (.slice A2 m2 c2) 31
  have HN0 := Lib.hid h; have HN := Lib.hid (h.up hB); clear h
  have HW0 := Lib.hid hw0; clear hw0
  obtain ⟨q0, q1, q2, qf⟩ := cells3 HD
  replace HI := Lib.hid ((HI.out.below hB).more hB.size)
  go_enter Tryz.func18, Tryz.ntmps18
  go_wp2_with fail
  rw [← HW0.out]
  refine (spec_cvDaemons _ _ _ n r d w0 HN.out hz).mono ?_
  rintro e w1 ⟨rfl, hb1⟩
  have hzhb1 := hb1.size
  clear q0 q1 q2 qf
  replace HD := bk HD hb1
  replace HN := Lib.hid (HN.out.up hb1)
  replace hB := bl_trans hB hb1
  obtain ⟨q0, q1, q2, qf⟩ := cells3 HD
  replace HI := Lib.hid ((HI.out.below hb1).more hb1.size)
  cases h1 : dmB n r d with
  | false =>
    have HQ := Lib.hid h1
    have HF := Lib.hid (show chB n r d ss = false by unfold chB; rw [h1]; rfl)
    go_wp2_with fail
    go_ret2
    exact ⟨ret2bb HF.out.symm HQ.out.symm, hB⟩
  | true =>
    have HQ := Lib.hid h1
    obtain ⟨T, hT⟩ := prod_nat h1
    have HT := Lib.hid hT
    have HF := Lib.hid (show chB n r d ss = crB (nxL n r d T) (legL n r T) T ss by unfold chB; rw [h1, hT]; rfl)
    have HM := Lib.hid (map_ok h1 hT)
    clear hT
    go_wp2_with fail
    refine (spec_cvAll _ _ _ n r d T w1 HN.out HQ.out HT.out).mono ?_
    rintro e w2 ⟨nv, lv, rfl, hn, hd, hb2⟩
    have hzhb2 := hb2.size
    clear q0 q1 q2 qf
    replace HD := bk HD hb2
    replace HN := Lib.hid (HN.out.up hb2)
    replace hB := bl_trans hB hb2
    obtain ⟨q0, q1, q2, qf⟩ := cells3 HD
    replace HI := Lib.hid ((HI.out.below hb2).more hb2.size)
    generalize nxL n r d T = N at *
    generalize legL n r T = dd at *
    have HNV := Lib.hid hn
    have HLV := Lib.hid hd
    obtain ⟨A8, c8, rfl, hc8, hcm, hrow⟩ := hn.open_
    obtain ⟨A9, c9, rfl, hc9, hcm9, hrow9⟩ := hd.open_
    have HROW := Lib.hid hrow; clear hrow hn
    have HROW9 := Lib.hid hrow9; clear hrow9 hd
    unfold maxLen at hcm hcm9
    have hnT := HM.out.n
    subst hnT
    have hdT : N.length ≤ dd.length ∧ dd.length ≤ N.length := by have := HM.out.d; omega
    have hT3 := HM.out.t
    obtain ⟨w3, hw3, hb3, HB3, hz3, HS3⟩ := box2 w2 (.slice A8 N.length c8) (.slice A9 dd.length c9) 50
    have hB3 := bl_trans hB hb3
    obtain ⟨p0, p1, pf⟩ := cells2 HB3
    have e0 := p0
    have e1 := p1
    rw [hw3] at e0 e1
    have HW3 := Lib.hid hw3; clear hw3
    replace HI := Lib.hid ((HI.out.below hb3).more hb3.size)
    by_cases hlen : ss.length = N.length
    · have hlen2 : ss.length ≤ N.length ∧ N.length ≤ ss.length := by omega
      have HLEN := Lib.hid hlen
      have hle : (((ss.length : Nat) : Int) != ((N.length : Nat) : Int)) = false := by rw [hlen]; simp
      clear hlen
      cases hc : closedB N dd with
      | false =>
        have HF2 := Lib.hid (HF.out.trans (cr_closed hc)).symm
        go_wp2_with fail
        rw [← HW3.out]
        refine (spec_closed _ _ N dd N.length w3 ((HNV.out.below hb3).more hb3.size) ((HLV.out.below hb3).more hb3.size) HM.out).mono ?_
        rintro e w4 ⟨rfl, hb4⟩
        rw [hc]
        go_wp2_with fail
        go_ret2
        exact ⟨ret2bb HF2.out (by first | exact HQ.out.symm | rfl), bl_trans hB3 hb4⟩
      | true =>
        have HCL := Lib.hid hc
        go_wp2_with fail
        rw [← HW3.out]
        refine (spec_closed _ _ N dd N.length w3 ((HNV.out.below hb3).more hb3.size) ((HLV.out.below hb3).more hb3.size) HM.out).mono ?_
        rintro e w4 ⟨rfl, hb4⟩
        rw [hc]
        have hB4 := bl_trans hB3 hb4
        have hb24 := bl_trans hb3 hb4
        have hz4 : w2.heap.size < w4.heap.size := by have := hb4.size; omega
        have p4 := (hb4.cell (p := ⟨w2.heap.size, 0, none⟩) hz3).trans p0
        have HP1 := Lib.hid ((hb4.cell (p := ⟨w2.heap.size, 1, none⟩) hz3).trans p1)
        clear hc e0 e1 q0 q1 q2 qf p0 p1 pf hle
        go_wp2_with fail
        clear p4
        go_loopw [11, 12, 38] (fun _ _ i wr => CoRel N dd ss w4 i wr) (fun _ _ i _ => N.length - (intOf i).toNat)
        case atStart => exact ⟨Below.refl _ _, 0, Nat.zero_le _, rfl, fun _ h => by omega⟩
        case round =>
          obtain ⟨hbl, k, hk, rfl, hto⟩ := hrel
          have HTO := Lib.hid hto; clear hto
          by_cases hlt : k < N.length
          · obtain ⟨v, hv⟩ : ∃ v, ss[k]? = some v := ⟨_, List.getElem?_eq_getElem (by omega)⟩
            obtain ⟨az, rfl, has, hrs⟩ := HRS.out (by omega)
            have hBr := bl_trans hB4 hbl
            have hb2r := bl_trans hb24 hbl
            have kv := (hBr.cell (p := az.add k) (by rw [block_add]; exact has)).trans (hrs k _ hv)
            obtain ⟨b, hb⟩ : ∃ b, dd[k]? = some b := ⟨_, List.getElem?_eq_getElem (by omega)⟩
            obtain ⟨l, hl⟩ : ∃ l, N[k]? = some l := ⟨_, List.getElem?_eq_getElem (by omega)⟩
            obtain ⟨ad, rfl, hab, hrow⟩ := HROW.out (by omega)
            obtain ⟨u, hcu, hru⟩ := hrow k l hl
            obtain ⟨a9, rfl, hab9, hr9⟩ := HROW9.out (by omega)
            have kr := (hb2r.cell (p := ad.add k) (by rw [block_add]; exact hab)).trans hcu
            have kb := (hb2r.cell (p := a9.add k) (by rw [block_add]; exact hab9)).trans (hr9 k b hb)
            obtain ⟨A5, c5, rfl, -, hcm5, hr5⟩ := hru.open_
            unfold maxLen at hcm5
            obtain ⟨hl3, hly⟩ := HM.out.r l (List.mem_of_getElem? hl)
            have k1 := (hbl.cell (p := ⟨w2.heap.size, 1, none⟩) hz4).trans HP1.out
            have HL := Lib.hid hl
            have HLY := Lib.hid hly
            have HR5 := Lib.hid hr5
            have HR9 := Lib.hid hr9
            have HRSS := Lib.hid hrs
            have HD := Lib.hid (show dd.getD k false = b from getDa hb)
            have HV := Lib.hid (show ss.getD k 0 = v by rw [List.getD_eq_getElem?_getD, hv]; rfl)
            have hkd : k < dd.length := by omega
            have hkr : k < ss.length := by omega
            clear hv hb hl hrow hru hr9 hrs hr5 hcu hly
            by_cases hv0 : v < 0
            · have HF2 := Lib.hid (HF.out.trans (cr_neg hlt (by rw [HV.out]; exact hv0))).symm
              go_wp2_with fail
              go_ret2
              exact ⟨ret2bb HF2.out (by first | exact HQ.out.symm | rfl), hBr⟩
            · by_cases hst : b = false ∧ l.length = 0
              · obtain ⟨rfl, hl0⟩ := hst
                have HF2 := Lib.hid (HF.out.trans (cr_stuck hlt HL.out HD.out (List.eq_nil_of_length_eq_zero hl0))).symm
                go_wp2_with fail
                go_ret2
                exact ⟨ret2bb HF2.out (by first | exact HQ.out.symm | rfl), hBr⟩
              · have HST := Lib.hid hst; clear hst
                have hgo : b = true ∨ (b = false ∧ (((l.length : Nat) : Int) == 0) = false) := by
                  cases b with
                  | true => exact .inl rfl
                  | false => exact .inr ⟨rfl, by rw [beq_eq_false_iff_ne]; intro h; exact HST.out ⟨rfl, by omega⟩⟩
                rcases hgo with rfl | ⟨rfl, hlz⟩
                · go_wp2_with fail
                  have hb0 := hbl
                  obtain ⟨wq, hwq⟩ : ∃ z, z = wr := ⟨_, rfl⟩
                  go_loopw [14, 63] (fun _ i wr' => CqRel dd ss l true v wr i wr') (fun _ i _ => l.length - (intOf i).toNat)
                  case atStart => exact ⟨Below.refl _ _, 0, Nat.zero_le _, rfl, fun y hy => by simp at hy⟩
                  case round =>
                    obtain ⟨hblm, m, hm, rfl, hto⟩ := hrel
                    have HTI := Lib.hid hto; clear hto
                    by_cases hltm : m < l.length
                    · obtain ⟨y, hy⟩ : ∃ y, l[m]? = some y := ⟨_, List.getElem?_eq_getElem hltm⟩
                      obtain ⟨hy0, hy1⟩ := HLY.out y (List.mem_of_getElem? hy)
                      obtain ⟨yn, rfl⟩ : ∃ yn : Nat, y = yn := ⟨y.toNat, by omega⟩
                      obtain ⟨a5, rfl, hab5, hr5⟩ := HR5.out (by omega)
                      have hb2m := bl_trans hb2r hblm
                      have hBm := bl_trans hBr hblm
                      have ky := (hb2m.cell (p := a5.add m) (by rw [block_add]; exact hab5)).trans (hr5 m _ hy)
                      obtain ⟨c, hc⟩ : ∃ c, dd[yn]? = some c := ⟨_, List.getElem?_eq_getElem (by omega)⟩
                      obtain ⟨z, hz⟩ : ∃ z, ss[yn]? = some z := ⟨_, List.getElem?_eq_getElem (by omega)⟩
                      have kc := (hb2m.cell (p := a9.add yn) (by rw [block_add]; exact hab9)).trans (HR9.out yn c hc)
                      have kz := (hBm.cell (p := az.add yn) (by rw [block_add]; exact has)).trans (HRSS.out yn _ hz)
                      have kb2 := (hblm.cell (p := a9.add k) (by rw [block_add]; have := hb2r.size; omega)).trans kb
                      have kv2 := (hblm.cell (p := az.add k) (by rw [block_add]; have := hBr.size; omega)).trans kv
                      have k12 := (hblm.cell (p := ⟨w2.heap.size, 1, none⟩) (Nat.lt_of_lt_of_le hz4 hbl.size)).trans k1
                      have HY := Lib.hid (List.mem_of_getElem? hy)
                      have HYM := Lib.hid hy
                      have HC := Lib.hid (show dd.getD ((yn : Nat) : Int).toNat false = c by rw [Int.toNat_natCast]; exact getDa hc)
                      have HZ := Lib.hid (show ss.getD ((yn : Nat) : Int).toNat 0 = z by rw [Int.toNat_natCast, List.getD_eq_getElem?_getD, hz]; rfl)
                      have hyd : yn < dd.length := by omega
                      have hys : yn < ss.length := by omega
                      clear hy hc hz hr5 kb kv k1
                      have HN := Lib.hid (take_more (P := fun z => true = false → dd.getD z.toNat false = false → ss.getD z.toNat 0 < v) HTI.out HYM.out fun h => by cases h)
                      go_wp2_with fail
                      refine wp_region_held_drew (S := fun w' => w'.cell? ⟨w2.heap.size, 1, none⟩ = some (.slice (some a9) dd.length c9) ∧ w'.cell? (a9.add k) = some (.bool true)) (by kernel_rfl) ?_ (fun hHeld => ?_)
                      · go_keep
                      refine tk 0 67 rfl rfl ?_
                      try simp only [Act.put, pu]
                      refine tk 1 68 rfl rfl ?_
                      try simp only [Act.put, pu]
                      refine tk 2 69 rfl rfl ?_
                      try simp only [Act.put, pu]
                      refine tk 3 70 rfl rfl ?_
                      try simp only [Act.put, pu]
                      refine tk 4 71 rfl rfl ?_
                      try simp only [Act.put, pu]
                      refine tk 5 72 rfl rfl ?_
                      try simp only [Act.put, pu]
                      refine tk 6 73 rfl rfl ?_
                      try simp only [Act.put, pu]
                      refine tn 7 74 rfl rfl ?_
                      try simp only [Act.put, pu]
                      refine tn 8 75 rfl rfl ?_
                      try simp only [Act.put, pu]
                      refine tn 9 76 rfl rfl ?_
                      try simp only [Act.put, pu]
                      refine tn 10 77 rfl rfl ?_
                      try simp only [Act.put, pu]
                      refine tn 11 78 rfl rfl ?_
                      try simp only [Act.put, pu]
                      refine tn 12 79 rfl rfl ?_
                      try simp only [Act.put, pu]
                      refine tk 13 80 rfl rfl ?_
                      try simp only [Act.put, pu]
                      refine tk 14 81 rfl rfl ?_
                      try simp only [Act.put, pu]
                      refine tn 15 82 rfl rfl ?_
                      try simp only [Act.put, pu]
                      refine tn 16 83 rfl rfl ?_
                      try simp only [Act.put, pu]
                      refine tn 17 84 rfl rfl ?_
                      try simp only [Act.put, pu]
                      refine tn 18 85 rfl rfl ?_
                      try simp only [Act.put, pu]
                      refine tn 19 86 rfl rfl ?_
                      try simp only [Act.put, pu]
                      refine tn 20 87 rfl rfl ?_
                      try simp only [Act.put, pu]
                      refine tn 21 88 rfl rfl ?_
                      try simp only [Act.put, pu]
                      refine tn 22 89 rfl rfl ?_
                      try simp only [Act.put, pu]
                      refine tn 23 90 rfl rfl ?_
                      try simp only [Act.put, pu]
                      refine tk 24 91 rfl rfl ?_
                      try simp only [Act.put, pu]
                      refine wpAnyH_done (by kernel_rfl) ?_ _
                      go_wp2_with fail
                      go_roundw
                      case rel => exact ⟨bl_drewN hblm _, m + 1, by omega, by go_num, HN.out⟩
                      case measure => simp [intOf]; omega
                    · obtain rfl : m = l.length := by omega
                      have HX := Lib.hid (HTO.out.next HL.out (by rw [HV.out]; omega) (fun hd0 h => by rw [HD.out] at hd0; exact HST.out ⟨by first | trivial | exact hd0, by rw [h]; rfl⟩) fun y hy hd0 hdy => by rw [HV.out]; exact HTI.out y (by rw [List.take_length]; exact hy) (by first | trivial | (rw [← HD.out]; exact hd0)) hdy)
                      go_wp2_with fail
                      go_roundw
                      case rel => exact ⟨bl_trans hbl hblm, k + 1, by omega, by go_num, HX.out⟩
                      case measure => simp [intOf]; omega
                · go_wp2_with fail
                  have hb0 := hbl
                  obtain ⟨wq, hwq⟩ : ∃ z, z = wr := ⟨_, rfl⟩
                  go_loopw [14, 63] (fun _ i wr' => CqRel dd ss l false v wr i wr') (fun _ i _ => l.length - (intOf i).toNat)
                  case atStart => exact ⟨Below.refl _ _, 0, Nat.zero_le _, rfl, fun y hy => by simp at hy⟩
                  case round =>
                    obtain ⟨hblm, m, hm, rfl, hto⟩ := hrel
                    have HTI := Lib.hid hto; clear hto
                    by_cases hltm : m < l.length
                    · obtain ⟨y, hy⟩ : ∃ y, l[m]? = some y := ⟨_, List.getElem?_eq_getElem hltm⟩
                      obtain ⟨hy0, hy1⟩ := HLY.out y (List.mem_of_getElem? hy)
                      obtain ⟨yn, rfl⟩ : ∃ yn : Nat, y = yn := ⟨y.toNat, by omega⟩
                      obtain ⟨a5, rfl, hab5, hr5⟩ := HR5.out (by omega)
                      have hb2m := bl_trans hb2r hblm
                      have hBm := bl_trans hBr hblm
                      have ky := (hb2m.cell (p := a5.add m) (by rw [block_add]; exact hab5)).trans (hr5 m _ hy)
                      obtain ⟨c, hc⟩ : ∃ c, dd[yn]? = some c := ⟨_, List.getElem?_eq_getElem (by omega)⟩
                      obtain ⟨z, hz⟩ : ∃ z, ss[yn]? = some z := ⟨_, List.getElem?_eq_getElem (by omega)⟩
                      have kc := (hb2m.cell (p := a9.add yn) (by rw [block_add]; exact hab9)).trans (HR9.out yn c hc)
                      have kz := (hBm.cell (p := az.add yn) (by rw [block_add]; exact has)).trans (HRSS.out yn _ hz)
                      have kb2 := (hblm.cell (p := a9.add k) (by rw [block_add]; have := hb2r.size; omega)).trans kb
                      have kv2 := (hblm.cell (p := az.add k) (by rw [block_add]; have := hBr.size; omega)).trans kv
                      have k12 := (hblm.cell (p := ⟨w2.heap.size, 1, none⟩) (Nat.lt_of_lt_of_le hz4 hbl.size)).trans k1
                      have HY := Lib.hid (List.mem_of_getElem? hy)
                      have HYM := Lib.hid hy
                      have HC := Lib.hid (show dd.getD ((yn : Nat) : Int).toNat false = c by rw [Int.toNat_natCast]; exact getDa hc)
                      have HZ := Lib.hid (show ss.getD ((yn : Nat) : Int).toNat 0 = z by rw [Int.toNat_natCast, List.getD_eq_getElem?_getD, hz]; rfl)
                      have hyd : yn < dd.length := by omega
                      have hys : yn < ss.length := by omega
                      clear hy hc hz hr5 kb kv k1
                      cases c with
                      | true =>
                        have HN := Lib.hid (take_more (P := fun z => false = false → dd.getD z.toNat false = false → ss.getD z.toNat 0 < v) HTI.out HYM.out fun _ h => by rw [HC.out] at h; cases h)
                        go_wp2_with fail
                        refine wp_region_held_drew (S := fun w' => w'.cell? ⟨w2.heap.size, 1, none⟩ = some (.slice (some a9) dd.length c9) ∧ w'.cell? (a9.add k) = some (.bool false) ∧ w'.cell? (a9.add yn) = some (.bool true)) (by kernel_rfl) ?_ (fun hHeld => ?_)
                        · go_keep
                        refine tk 0 67 rfl rfl ?_
                        try simp only [Act.put, pu]
                        refine tk 1 68 rfl rfl ?_
                        try simp only [Act.put, pu]
                        refine tk 2 69 rfl rfl ?_
                        try simp only [Act.put, pu]
                        refine tk 3 70 rfl rfl ?_
                        try simp only [Act.put, pu]
                        refine tk 4 71 rfl rfl ?_
                        try simp only [Act.put, pu]
                        refine tk 5 72 rfl rfl ?_
                        try simp only [Act.put, pu]
                        refine tk 6 73 rfl rfl ?_
                        try simp only [Act.put, pu]
                        refine tk 7 74 rfl rfl ?_
                        try simp only [Act.put, pu]
                        refine tk 8 75 rfl rfl ?_
                        try simp only [Act.put, pu]
                        refine tk 9 76 rfl rfl ?_
                        try simp only [Act.put, pu]
                        refine tk 10 77 rfl rfl ?_
                        try simp only [Act.put, pu]
                        refine tk 11 78 rfl rfl ?_
                        try simp only [Act.put, pu]
                        refine tk 12 79 rfl rfl ?_
                        try simp only [Act.put, pu]
                        refine tk 13 80 rfl rfl ?_
                        try simp only [Act.put, pu]
                        refine tk 14 81 rfl rfl ?_
                        try simp only [Act.put, pu]
                        refine tn 15 82 rfl rfl ?_
                        try simp only [Act.put, pu]
                        refine tn 16 83 rfl rfl ?_
                        try simp only [Act.put, pu]
                        refine tn 17 84 rfl rfl ?_
                        try simp only [Act.put, pu]
                        refine tn 18 85 rfl rfl ?_
                        try simp only [Act.put, pu]
                        refine tn 19 86 rfl rfl ?_
                        try simp only [Act.put, pu]
                        refine tn 20 87 rfl rfl ?_
                        try simp only [Act.put, pu]
                        refine tn 21 88 rfl rfl ?_
                        try simp only [Act.put, pu]
                        refine tn 22 89 rfl rfl ?_
                        try simp only [Act.put, pu]
                        refine tn 23 90 rfl rfl ?_
                        try simp only [Act.put, pu]
                        refine tk 24 91 rfl rfl ?_
                        try simp only [Act.put, pu]
                        refine wpAnyH_done (by kernel_rfl) ?_ _
                        go_wp2_with fail
                        go_roundw
                        case rel => exact ⟨bl_drewN hblm _, m + 1, by omega, by go_num, fun z hz _ h => HN.out z hz (by trivial) h⟩
                        case measure => simp [intOf]; omega
                      | false =>
                        by_cases hzv : v ≤ z
                        · have HF2 := Lib.hid (HF.out.trans (cr_bad hlt HL.out HD.out HY.out HC.out (by rw [HV.out, HZ.out]; exact hzv))).symm
                          go_wp2_with fail
                          refine wp_region_held_drew (S := fun w' => w'.cell? ⟨w2.heap.size, 1, none⟩ = some (.slice (some a9) dd.length c9) ∧ w'.cell? (a9.add k) = some (.bool false) ∧ w'.cell? (a9.add yn) = some (.bool false) ∧ w'.cell? (az.add yn) = some (.int .i64 z) ∧ w'.cell? (az.add k) = some (.int .i64 v)) (by kernel_rfl) ?_ (fun hHeld => ?_)
                          · go_keep
                          refine tk 0 67 rfl rfl ?_
                          try simp only [Act.put, pu]
                          refine tk 1 68 rfl rfl ?_
                          try simp only [Act.put, pu]
                          refine tk 2 69 rfl rfl ?_
                          try simp only [Act.put, pu]
                          refine tk 3 70 rfl rfl ?_
                          try simp only [Act.put, pu]
                          refine tk 4 71 rfl rfl ?_
                          try simp only [Act.put, pu]
                          refine tk 5 72 rfl rfl ?_
                          try simp only [Act.put, pu]
                          refine tk 6 73 rfl rfl ?_
                          try simp only [Act.put, pu]
                          refine tk 7 74 rfl rfl ?_
                          try simp only [Act.put, pu]
                          refine tk 8 75 rfl rfl ?_
                          try simp only [Act.put, pu]
                          refine tk 9 76 rfl rfl ?_
                          try simp only [Act.put, pu]
                          refine tk 10 77 rfl rfl ?_
                          try simp only [Act.put, pu]
                          refine tk 11 78 rfl rfl ?_
                          try simp only [Act.put, pu]
                          refine tk 12 79 rfl rfl ?_
                          try simp only [Act.put, pu]
                          refine tk 13 80 rfl rfl ?_
                          try simp only [Act.put, pu]
                          refine tk 14 81 rfl rfl ?_
                          try simp only [Act.put, pu]
                          refine tk 15 82 rfl rfl ?_
                          try simp only [Act.put, pu]
                          refine tk 16 83 rfl rfl ?_
                          try simp only [Act.put, pu]
                          refine tk 17 84 rfl rfl ?_
                          try simp only [Act.put, pu]
                          refine tk 18 85 rfl rfl ?_
                          try simp only [Act.put, pu]
                          refine tk 19 86 rfl rfl ?_
                          try simp only [Act.put, pu]
                          refine tk 20 87 rfl rfl ?_
                          try simp only [Act.put, pu]
                          refine tk 21 88 rfl rfl ?_
                          try simp only [Act.put, pu]
                          refine tk 22 89 rfl rfl ?_
                          try simp only [Act.put, pu]
                          refine tk 23 90 rfl rfl ?_
                          try simp only [Act.put, pu]
                          refine tk 24 91 rfl rfl ?_
                          try simp only [Act.put, pu]
                          refine wpAnyH_done (by kernel_rfl) ?_ _
                          go_wp2_with fail
                          go_ret2
                          exact ⟨ret2bb HF2.out HQ.out.symm, bl_drewN hBm _⟩
                        · have HN := Lib.hid (take_more (P := fun z => false = false → dd.getD z.toNat false = false → ss.getD z.toNat 0 < v) HTI.out HYM.out fun _ _ => by rw [HZ.out]; omega)
                          go_wp2_with fail
                          refine wp_region_held_drew (S := fun w' => w'.cell? ⟨w2.heap.size, 1, none⟩ = some (.slice (some a9) dd.length c9) ∧ w'.cell? (a9.add k) = some (.bool false) ∧ w'.cell? (a9.add yn) = some (.bool false) ∧ w'.cell? (az.add yn) = some (.int .i64 z) ∧ w'.cell? (az.add k) = some (.int .i64 v)) (by kernel_rfl) ?_ (fun hHeld => ?_)
                          · go_keep
                          refine tk 0 67 rfl rfl ?_
                          try simp only [Act.put, pu]
                          refine tk 1 68 rfl rfl ?_
                          try simp only [Act.put, pu]
                          refine tk 2 69 rfl rfl ?_
                          try simp only [Act.put, pu]
                          refine tk 3 70 rfl rfl ?_
                          try simp only [Act.put, pu]
                          refine tk 4 71 rfl rfl ?_
                          try simp only [Act.put, pu]
                          refine tk 5 72 rfl rfl ?_
                          try simp only [Act.put, pu]
                          refine tk 6 73 rfl rfl ?_
                          try simp only [Act.put, pu]
                          refine tk 7 74 rfl rfl ?_
                          try simp only [Act.put, pu]
                          refine tk 8 75 rfl rfl ?_
                          try simp only [Act.put, pu]
                          refine tk 9 76 rfl rfl ?_
                          try simp only [Act.put, pu]
                          refine tk 10 77 rfl rfl ?_
                          try simp only [Act.put, pu]
                          refine tk 11 78 rfl rfl ?_
                          try simp only [Act.put, pu]
                          refine tk 12 79 rfl rfl ?_
                          try simp only [Act.put, pu]
                          refine tk 13 80 rfl rfl ?_
                          try simp only [Act.put, pu]
                          refine tk 14 81 rfl rfl ?_
                          try simp only [Act.put, pu]
                          refine tk 15 82 rfl rfl ?_
                          try simp only [Act.put, pu]
                          refine tk 16 83 rfl rfl ?_
                          try simp only [Act.put, pu]
                          refine tk 17 84 rfl rfl ?_
                          try simp only [Act.put, pu]
                          refine tk 18 85 rfl rfl ?_
                          try simp only [Act.put, pu]
                          refine tk 19 86 rfl rfl ?_
                          try simp only [Act.put, pu]
                          refine tk 20 87 rfl rfl ?_
                          try simp only [Act.put, pu]
                          refine tk 21 88 rfl rfl ?_
                          try simp only [Act.put, pu]
                          refine tk 22 89 rfl rfl ?_
                          try simp only [Act.put, pu]
                          refine tk 23 90 rfl rfl ?_
                          try simp only [Act.put, pu]
                          refine tk 24 91 rfl rfl ?_
                          try simp only [Act.put, pu]
                          refine wpAnyH_done (by kernel_rfl) ?_ _
                          go_wp2_with fail
                          go_roundw
                          case rel => exact ⟨bl_drewN hblm _, m + 1, by omega, by go_num, fun z hz _ h => HN.out z hz (by trivial) h⟩
                          case measure => simp [intOf]; omega
                    · obtain rfl : m = l.length := by omega
                      have HX := Lib.hid (HTO.out.next HL.out (by rw [HV.out]; omega) (fun hd0 h => by rw [HD.out] at hd0; exact HST.out ⟨by first | trivial | exact hd0, by rw [h]; rfl⟩) fun y hy hd0 hdy => by rw [HV.out]; exact HTI.out y (by rw [List.take_length]; exact hy) (by first | trivial | (rw [← HD.out]; exact hd0)) hdy)
                      go_wp2_with fail
                      go_roundw
                      case rel => exact ⟨bl_trans hbl hblm, k + 1, by omega, by go_num, HX.out⟩
                      case measure => simp [intOf]; omega
          · obtain rfl : k = N.length := by omega
            have HF2 := Lib.hid (HF.out.trans (cr_t HTO.out HLEN.out HCL.out)).symm
            go_wp2_with fail
            go_ret2
            exact ⟨ret2bb HF2.out (by first | exact HQ.out.symm | rfl), bl_trans hB4 hbl⟩
    · have HF2 := Lib.hid (HF.out.trans (cr_len (N := N) (d := dd) hlen)).symm
      have hle : (((ss.length : Nat) : Int) != ((N.length : Nat) : Int)) = true := by rw [bne_iff_ne]; omega
      go_wp2_with fail
      go_ret2
      exact ⟨ret2bb HF2.out (by first | exact HQ.out.symm | rfl), by rw [← HW3.out]; exact hB3⟩
end Go.Proofs.YthfgklckmedggaaGreat
