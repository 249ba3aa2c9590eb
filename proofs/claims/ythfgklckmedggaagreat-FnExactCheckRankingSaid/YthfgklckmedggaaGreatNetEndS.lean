/-
  Endless runs and rankings that are given, the reference's side: IsEndlessRun, CheckRanking.
-/
import Derived.Test.YthfgklckmedggaaGreatNetAllS
namespace Go.Proofs.YthfgklckmedggaaGreat
open Go.RowKit
set_option linter.unusedVariables false
set_option linter.unusedSimpArgs false
def endAt (N : List (List Int)) (d : List Bool) (l : List Int) (i : Nat) : Prop := ∀ x y : Int, l[i]? = some x → l[(i + 1) % l.length]? = some y → d.getD x.toNat false = false ∧ y ∈ N.getD x.toNat []
def eeP (N : List (List Int)) (d : List Bool) (T : Nat) (l : List Int) : Prop := (1 ≤ l.length ∧ l.length ≤ 3000) ∧ (∀ x ∈ l, 0 ≤ x ∧ x ≤ (T : Int) - 1) ∧ ∀ i, i < l.length → endAt N d l i
noncomputable def eeB (N : List (List Int)) (d : List Bool) (T : Nat) (l : List Int) : Bool := propB (eeP N d T l)
noncomputable def ieB (n : Net) (r d : Int) (l : List Int) : Bool := dmB n r d && eeB (nxL n r d (prodI (cnts n r)).toNat) (legL n r (prodI (cnts n r)).toNat) (prodI (cnts n r)).toNat l
def EndTo (N : List (List Int)) (d : List Bool) (l : List Int) (k : Nat) : Prop := ∀ i, i < k → endAt N d l i
theorem EndTo.next {N : List (List Int)} {d : List Bool} {l m : List Int} {k : Nat} {x y : Int} (h : EndTo N d l k) (hx : l[k]? = some x) (hy : l[(k + 1) % l.length]? = some y) (hm : N[x.toNat]? = some m) (hd : d.getD x.toNat false = false) (hh : y ∈ m) : EndTo N d l (k + 1) := fun i hi => by
  rcases Nat.lt_or_ge i k with h1 | h1
  · exact h i h1
  · obtain rfl : i = k := by omega
    intro a b ha hb
    obtain rfl := Option.some.inj (hx.symm.trans ha)
    obtain rfl := Option.some.inj (hy.symm.trans hb)
    refine ⟨hd, ?_⟩
    rw [List.getD_eq_getElem?_getD, hm]
    exact hh
theorem ee_t {N : List (List Int)} {d : List Bool} {T : Nat} {l : List Int} (h : EndTo N d l l.length) (h1 : inB l.length 1 3000 = true) (h2 : allB l 0 ((T : Int) - 1) = true) : eeB N d T l = true := by
  refine propB_t ⟨?_, allB_iff.1 h2, h⟩
  have := of_decide_eq_true h1
  omega
theorem ee_len {N : List (List Int)} {d : List Bool} {T : Nat} {l : List Int} (h1 : inB l.length 1 3000 = false) : eeB N d T l = false := propB_f fun ⟨h, _⟩ => by
  have := of_decide_eq_false h1
  omega
theorem ee_all {N : List (List Int)} {d : List Bool} {T : Nat} {l : List Int} (h2 : allB l 0 ((T : Int) - 1) = false) : eeB N d T l = false := propB_f fun ⟨_, h, _⟩ => by
  rw [allB_iff.2 h] at h2
  cases h2
theorem ee_bad {N : List (List Int)} {d : List Bool} {T : Nat} {l m : List Int} {k : Nat} {x y : Int} (hx : l[k]? = some x) (hy : l[(k + 1) % l.length]? = some y) (hm : N[x.toNat]? = some m) (hbad : d.getD x.toNat false = true ∨ y ∉ m) : eeB N d T l = false := propB_f fun ⟨_, _, h⟩ => by
  obtain ⟨h1, h2⟩ := h k (List.getElem?_eq_some_iff.1 hx).1 x y hx hy
  rw [List.getD_eq_getElem?_getD, hm] at h2
  rcases hbad with hb | hb
  · rw [h1] at hb; cases hb
  · exact hb h2
/-- What a ranking must do at a situation. -/
def rowAt (N : List (List Int)) (d : List Bool) (rk : List Int) (k : Nat) : Prop := ∀ l, N[k]? = some l → d.getD k false = false → l ≠ [] ∧ ∀ y ∈ l, d.getD y.toNat false = false → rk.getD y.toNat 0 < rk.getD k 0
def crP (N : List (List Int)) (d : List Bool) (T : Nat) (rk : List Int) : Prop := rk.length = T ∧ closedP N d ∧ (∀ k, k < T → 0 ≤ rk.getD k 0) ∧ ∀ k, k < T → rowAt N d rk k
noncomputable def crB (N : List (List Int)) (d : List Bool) (T : Nat) (rk : List Int) : Bool := propB (crP N d T rk)
noncomputable def chB (n : Net) (r d : Int) (rk : List Int) : Bool := dmB n r d && crB (nxL n r d (prodI (cnts n r)).toNat) (legL n r (prodI (cnts n r)).toNat) (prodI (cnts n r)).toNat rk
def CrTo (N : List (List Int)) (d : List Bool) (rk : List Int) (j : Nat) : Prop := ∀ k, k < j → 0 ≤ rk.getD k 0 ∧ rowAt N d rk k
theorem CrTo.next {N : List (List Int)} {d : List Bool} {rk l : List Int} {j : Nat} (h : CrTo N d rk j) (hl : N[j]? = some l) (h0 : 0 ≤ rk.getD j 0) (hd : d.getD j false = false → l ≠ []) (hy : ∀ y ∈ l, d.getD j false = false → d.getD y.toNat false = false → rk.getD y.toNat 0 < rk.getD j 0) : CrTo N d rk (j + 1) := fun k hk => by
  rcases Nat.lt_or_ge k j with h1 | h1
  · exact h k h1
  · obtain rfl : k = j := by omega
    refine ⟨h0, fun m hm hdk => ?_⟩
    obtain rfl := Option.some.inj (hl.symm.trans hm)
    exact ⟨hd hdk, fun y hy' => hy y hy' hdk⟩
theorem cr_t {N : List (List Int)} {d : List Bool} {T : Nat} {rk : List Int} (h : CrTo N d rk T) (h1 : rk.length = T) (h2 : closedB N d = true) : crB N d T rk = true :=
  propB_t ⟨h1, propB_iff.1 h2, fun k hk => (h k hk).1, fun k hk => (h k hk).2⟩
theorem cr_len {N : List (List Int)} {d : List Bool} {T : Nat} {rk : List Int} (h : rk.length ≠ T) : crB N d T rk = false := propB_f fun ⟨h1, _⟩ => h h1
theorem cr_closed {N : List (List Int)} {d : List Bool} {T : Nat} {rk : List Int} (h : closedB N d = false) : crB N d T rk = false := propB_f fun ⟨_, h2, _⟩ => by rw [closedB, propB_t h2] at h; cases h
theorem cr_neg {N : List (List Int)} {d : List Bool} {T k : Nat} {rk : List Int} (hk : k < T) (h : rk.getD k 0 < 0) : crB N d T rk = false := propB_f fun ⟨_, _, h3, _⟩ => by have := h3 k hk; omega
theorem cr_stuck {N : List (List Int)} {d : List Bool} {T k : Nat} {rk l : List Int} (hk : k < T) (hl : N[k]? = some l) (hd : d.getD k false = false) (h : l = []) : crB N d T rk = false := propB_f fun ⟨_, _, _, h4⟩ => (h4 k hk l hl hd).1 h
theorem cr_bad {N : List (List Int)} {d : List Bool} {T k : Nat} {rk l : List Int} {y : Int} (hk : k < T) (hl : N[k]? = some l) (hd : d.getD k false = false) (hy : y ∈ l) (hdy : d.getD y.toNat false = false) (h : rk.getD k 0 ≤ rk.getD y.toNat 0) : crB N d T rk = false := propB_f fun ⟨_, _, _, h4⟩ => by
  have := (h4 k hk l hl hd).2 y hy hdy
  omega
theorem rem_at {k len : Nat} (h : 0 < len) (hk : k + 1 ≤ 3000) : (IntKind.i64.wrap ((k : Int) + 1)).tmod (len : Int) = (((k + 1) % len : Nat) : Int) := by
  rw [IntWalk.i64_in _ (by omega), show ((k : Int) + 1) = ((k + 1 : Nat) : Int) by omega, Int.tmod_eq_emod_of_nonneg (by omega), ← Int.natCast_emod]
theorem ne_nil {l : List Int} (h : 0 < l.length) : (l = []) = False := by
  rw [eq_iff_iff]
  constructor
  · intro e; rw [e] at h; simp at h
  · exact False.elim
def ErRel (N : List (List Int)) (d : List Bool) (l : List Int) (w : World) (i : Value) (wr : World) : Prop := Below w.heap.size w wr ∧ ∃ k : Nat, k ≤ l.length ∧ i = .int .i64 k ∧ EndTo N d l k
set_option maxRecDepth 100000 in
set_option maxHeartbeats 2000000 in
theorem spec_IsEndlessRun (ve vi vn vs : Value) (n : Net) (r d : Int) (ss : List Int) (w : World) (h : NetR w w.heap.size ve vi vn n) (hss : IntsR w w.heap.size vs ss) (hz : n.es.length ≤ 2000000) (hl : ss.length ≤ 1048576) :
    Calls Tryz.prog 14 #[.agg #[ve, vi, vn], .int .i64 r, .int .i64 d, vs] w fun e w' => e = .returned (.tuple #[.bool (ieB n r d ss), .bool (dmB n r d)]) ∧ Below w.heap.size w w' := by
  have HI := Lib.hid hss
  obtain ⟨As, cs, rfl, hcs, hcsm, hrs⟩ := hss.open_
  unfold maxLen at hcsm
  have HRS := Lib.hid hrs
  clear hss hrs
  obtain ⟨⟨A0, m0, c0, rfl⟩, ⟨A1, m1, c1, rfl⟩, A2, m2, c2, rfl⟩ := h.slices
  obtain ⟨w0, hw0, hB, HD, hz0, HS0⟩ := box3 w (.slice A0 m0 c0) (.slice A1 m1 c1) (.slice A2 m2 c2) 31
  have HN0 := Lib.hid h; have HN := Lib.hid (h.up hB); clear h
  have HW0 := Lib.hid hw0; clear hw0
  obtain ⟨q0, q1, q2, qf⟩ := cells3 HD
  replace HI := Lib.hid ((HI.out.below hB).more hB.size)
  go_enter Tryz.func14, Tryz.ntmps14
  go_wp2_with fail
  rw [← HW0.out]
  refine (spec_cvDaemons _ _ _ n r d w0 HN.out hz).mono ?_
  rintro e w1 ⟨rfl, hb1⟩
  have hzhb1 := hb1.size
  clear q0 q1 q2 qf
  replace HD := bk HD hb1
  replace HN := Lib.hid (HN.out.up hb1)
  replace hB := bl_trans hB hb1
  obtain ⟨q0, q1, q2, qf⟩ := cells3 HD
  replace HI := Lib.hid ((HI.out.below hb1).more hb1.size)
  cases h1 : dmB n r d with
  | false =>
    have HQ := Lib.hid h1
    have HF := Lib.hid (show ieB n r d ss = false by unfold ieB; rw [h1]; rfl)
    go_wp2_with fail
    go_ret2
    exact ⟨ret2bb HF.out.symm HQ.out.symm, hB⟩
  | true =>
    have HQ := Lib.hid h1
    obtain ⟨T, hT⟩ := prod_nat h1
    have HT := Lib.hid hT
    have HF := Lib.hid (show ieB n r d ss = eeB (nxL n r d T) (legL n r T) T ss by unfold ieB; rw [h1, hT]; rfl)
    have HM := Lib.hid (map_ok h1 hT)
    clear hT
    go_wp2_with fail
    refine (spec_cvAll _ _ _ n r d T w1 HN.out HQ.out HT.out).mono ?_
    rintro e w2 ⟨nv, lv, rfl, hn, hd, hb2⟩
    have hzhb2 := hb2.size
    clear q0 q1 q2 qf
    replace HD := bk HD hb2
    replace HN := Lib.hid (HN.out.up hb2)
    replace hB := bl_trans hB hb2
    obtain ⟨q0, q1, q2, qf⟩ := cells3 HD
    replace HI := Lib.hid ((HI.out.below hb2).more hb2.size)
    generalize nxL n r d T = N at *
    generalize legL n r T = dd at *
    obtain ⟨A8, c8, rfl, hc8, hcm, hrow⟩ := hn.open_
    obtain ⟨A9, c9, rfl, hc9, hcm9, hrow9⟩ := hd.open_
    have HROW := Lib.hid hrow; clear hrow hn
    have HROW9 := Lib.hid hrow9; clear hrow9 hd
    unfold maxLen at hcm hcm9
    have hnT := HM.out.n
    subst hnT
    have hdT : N.length ≤ dd.length ∧ dd.length ≤ N.length := by have := HM.out.d; omega
    have hT3 := HM.out.t
    obtain ⟨w3, hw3, hb3, HB3, hz3, HS3⟩ := box2 w2 (.slice A8 N.length c8) (.slice A9 dd.length c9) 50
    have hB3 := bl_trans hB hb3
    obtain ⟨p0, p1, pf⟩ := cells2 HB3
    have e0 := p0
    have e1 := p1
    rw [hw3] at e0 e1
    have HW3 := Lib.hid hw3; clear hw3
    replace HI := Lib.hid ((HI.out.below hb3).more hb3.size)
    cases h2 : inB ss.length 1 3000 with
    | false =>
      have HF2 := Lib.hid (HF.out.trans (ee_len h2)).symm
      go_wp2_with (go_at_call 38; refine (spec_l1In _ _ _ _).mono ?_; rintro e w' ⟨rfl, rfl⟩)
      go_ret2
      exact ⟨ret2bb HF2.out HQ.out.symm, by rw [← HW3.out]; exact hB3⟩
    | true =>
      have HH2 := Lib.hid h2
      cases h3 : allB ss 0 ((N.length : Int) - 1) with
      | false =>
        have HF2 := Lib.hid (HF.out.trans (ee_all h3)).symm
        go_wp2_with (go_at_call 38; refine (spec_l1In _ _ _ _).mono ?_; rintro e w' ⟨rfl, rfl⟩)
        rw [← HW3.out]
        refine (spec_l1All _ ss 0 _ w3 HI.out).mono ?_
        rintro e w' ⟨rfl, rfl⟩
        rw [h3]
        go_wp2_with fail
        go_ret2
        exact ⟨ret2bb HF2.out HQ.out.symm, hB3⟩
      | true =>
        have HH3 := Lib.hid h3
        have HAL := Lib.hid (allB_iff.1 h3)
        go_wp2_with (go_at_call 38; refine (spec_l1In _ _ _ _).mono ?_; rintro e w' ⟨rfl, rfl⟩)
        rw [← HW3.out]
        refine (spec_l1All _ ss 0 _ w3 HI.out).mono ?_
        rintro e w' ⟨rfl, rfl⟩
        rw [h3]
        have hln : 1 ≤ ss.length ∧ ss.length ≤ 3000 := by have := of_decide_eq_true h2; omega
        clear h2 h3 e0 e1 q0 q1 q2 qf
        have HP0 := Lib.hid p0
        have HP1 := Lib.hid p1
        clear p0 p1 pf
        go_wp2_with fail
        go_loopw [11, 12, 37] (fun _ _ i wr => ErRel N dd ss w3 i wr) (fun _ _ i _ => ss.length - (intOf i).toNat)
        case atStart => exact ⟨Below.refl _ _, 0, Nat.zero_le _, rfl, fun _ h => by omega⟩
        case round =>
          obtain ⟨hbl, k, hk, rfl, hto⟩ := hrel
          have HTO := Lib.hid hto; clear hto
          by_cases hlt : k < ss.length
          · obtain ⟨x, hx⟩ : ∃ x, ss[k]? = some x := ⟨_, List.getElem?_eq_getElem hlt⟩
            have hmod := Nat.mod_lt (k + 1) (show 0 < ss.length by omega)
            have hrm := rem_at (k := k) (show 0 < ss.length by omega) (by omega)
            have hsn := ne_nil (show 0 < ss.length by omega)
            obtain ⟨q, hq⟩ : ∃ q, q = (k + 1) % ss.length := ⟨_, rfl⟩
            obtain ⟨y, hy⟩ : ∃ y, ss[q]? = some y := ⟨_, List.getElem?_eq_getElem (by omega)⟩
            have HY := Lib.hid (show ss[(k + 1) % ss.length]? = some y by rw [← hq]; exact hy)
            rw [← hq] at hrm hmod
            obtain ⟨hx0, hx1⟩ := HAL.out x (List.mem_of_getElem? hx)
            obtain ⟨xn, rfl⟩ : ∃ xn : Nat, x = xn := ⟨x.toNat, by omega⟩
            obtain ⟨az, rfl, has, hrs⟩ := HRS.out (by omega)
            have hB4 := bl_trans hB3 hbl
            have kx := (hB4.cell (p := az.add k) (by rw [block_add]; exact has)).trans (hrs k _ hx)
            have ky := (hB4.cell (p := az.add q) (by rw [block_add]; exact has)).trans (hrs q _ hy)
            obtain ⟨b, hb⟩ : ∃ b, dd[xn]? = some b := ⟨_, List.getElem?_eq_getElem (by omega)⟩
            obtain ⟨m, hm⟩ : ∃ m, N[xn]? = some m := ⟨_, List.getElem?_eq_getElem (by omega)⟩
            obtain ⟨ad, rfl, hab, hrow⟩ := HROW.out (by omega)
            obtain ⟨u, hcu, hru⟩ := hrow xn m hm
            obtain ⟨a9, rfl, hab9, hr9⟩ := HROW9.out (by omega)
            have hb23 := bl_trans hb3 hbl
            have kr := (hb23.cell (p := ad.add xn) (by rw [block_add]; exact hab)).trans hcu
            have kb := (hb23.cell (p := a9.add xn) (by rw [block_add]; exact hab9)).trans (hr9 xn b hb)
            have HRU := Lib.hid ((hru.below hb23).more hb23.size)
            obtain ⟨A5, c5, rfl, -, hcm5, -⟩ := hru.open_
            have k0 := (hbl.cell (p := ⟨w2.heap.size, 0, none⟩) hz3).trans HP0.out
            have k1 := (hbl.cell (p := ⟨w2.heap.size, 1, none⟩) hz3).trans HP1.out
            have HX := Lib.hid hx
            have HM := Lib.hid (show N[((xn : Nat) : Int).toNat]? = some m by rw [Int.toNat_natCast]; exact hm)
            have HD := Lib.hid (show dd.getD ((xn : Nat) : Int).toNat false = b by rw [Int.toNat_natCast]; exact getDa hb)
            have HQQ := Lib.hid hq
            have hxd : xn < dd.length := by omega
            have hxN : xn < N.length := by omega
            clear hx hy hb hm hrow hru hr9 hrs hcu hq hB4 hb23
            cases b with
            | true =>
              have HF2 := Lib.hid (HF.out.trans (ee_bad HX.out HY.out HM.out (.inl HD.out))).symm
              go_wp2_with fail
              refine wp_region_held_drew (S := fun w' => w'.cell? ⟨w2.heap.size, 1, none⟩ = some (.slice (some a9) dd.length c9) ∧ w'.cell? (a9.add xn) = some (.bool true)) (by kernel_rfl) ?_ (fun hHeld => ?_)
              · go_keep
              refine tk 0 42 rfl rfl ?_
              try simp only [Act.put, pu]
              refine tk 1 43 rfl rfl ?_
              try simp only [Act.put, pu]
              refine tk 2 44 rfl rfl ?_
              try simp only [Act.put, pu]
              refine tk 3 45 rfl rfl ?_
              try simp only [Act.put, pu]
              refine tk 4 46 rfl rfl ?_
              try simp only [Act.put, pu]
              refine tk 5 47 rfl rfl ?_
              try simp only [Act.put, pu]
              refine tn 6 48 rfl rfl ?_
              try simp only [Act.put, pu]
              refine tn 7 49 rfl rfl ?_
              try simp only [Act.put, pu]
              refine tn 8 50 rfl rfl ?_
              try simp only [Act.put, pu]
              refine tn 9 51 rfl rfl ?_
              try simp only [Act.put, pu]
              refine tn 10 52 rfl rfl ?_
              try simp only [Act.put, pu]
              refine tn 11 53 rfl rfl ?_
              try simp only [Act.put, pu]
              refine tn 12 54 rfl rfl ?_
              try simp only [Act.put, pu]
              refine tn 13 55 rfl rfl ?_
              try simp only [Act.put, pu]
              refine tn 14 56 rfl rfl ?_
              try simp only [Act.put, pu]
              refine tn 15 57 rfl rfl ?_
              try simp only [Act.put, pu]
              refine tn 16 58 rfl rfl ?_
              try simp only [Act.put, pu]
              refine tn 17 59 rfl rfl ?_
              try simp only [Act.put, pu]
              refine tn 18 60 rfl rfl ?_
              try simp only [Act.put, pu]
              refine tn 19 61 rfl rfl ?_
              try simp only [Act.put, pu]
              refine tn 20 62 rfl rfl ?_
              try simp only [Act.put, pu]
              refine tk 21 63 rfl rfl ?_
              try simp only [Act.put, pu]
              refine wpAnyH_done (by kernel_rfl) ?_ _
              go_wp2_with fail
              go_ret2
              exact ⟨ret2bb HF2.out HQ.out.symm, bl_trans hB3 (bl_drewN hbl _)⟩
            | false =>
              have J := fun W (hW : Below _ _ W) => Lib.hid (spec_l1Has _ m y W ((HRU.out.below hW).more hW.size))
              cases hh : hasB m y with
              | true =>
                have HN2 := Lib.hid (HTO.out.next HX.out HY.out HM.out HD.out (propB_iff.1 hh))
                rw [hh] at J
                clear hh
                go_wp2_with fail
                refine wp_region_held_drew (S := fun w' => w'.cell? ⟨w2.heap.size, 1, none⟩ = some (.slice (some a9) dd.length c9) ∧ w'.cell? (a9.add xn) = some (.bool false) ∧ w'.cell? ⟨w2.heap.size, 0, none⟩ = some (.slice (some ad) N.length c8) ∧ w'.cell? (ad.add xn) = some (.slice A5 m.length c5) ∧ w'.cell? (az.add q) = some (.int .i64 y)) (by kernel_rfl) ?_ (fun hHeld => ?_)
                · go_keep
                refine tk 0 42 rfl rfl ?_
                try simp only [Act.put, pu]
                refine tk 1 43 rfl rfl ?_
                try simp only [Act.put, pu]
                refine tk 2 44 rfl rfl ?_
                try simp only [Act.put, pu]
                refine tk 3 45 rfl rfl ?_
                try simp only [Act.put, pu]
                refine tk 4 46 rfl rfl ?_
                try simp only [Act.put, pu]
                refine tk 5 47 rfl rfl ?_
                try simp only [Act.put, pu]
                refine tk 6 48 rfl rfl ?_
                try simp only [Act.put, pu]
                refine tk 7 49 rfl rfl ?_
                try simp only [Act.put, pu]
                refine tk 8 50 rfl rfl ?_
                try simp only [Act.put, pu]
                refine tk 9 51 rfl rfl ?_
                try simp only [Act.put, pu]
                refine tk 10 52 rfl rfl ?_
                try simp only [Act.put, pu]
                refine tk 11 53 rfl rfl ?_
                try simp only [Act.put, pu]
                refine tk 12 54 rfl rfl ?_
                try simp only [Act.put, pu]
                refine tk 13 55 rfl rfl ?_
                try simp only [Act.put, pu]
                refine tk 14 56 rfl rfl ?_
                try simp only [Act.put, pu]
                refine tk 15 57 rfl rfl ?_
                try simp only [Act.put, pu]
                refine tk 16 58 rfl rfl ?_
                try simp only [Act.put, pu]
                refine tk 17 59 rfl rfl ?_
                try simp only [Act.put, pu]
                refine tk 18 60 rfl rfl ?_
                try simp only [Act.put, pu]
                refine tr 19 rfl (by kernel_rfl) (fun K hK => ?_)
                go_simp
                go_at_call 40
                refine (J _ (Below.refl _ _).drew).out.mono ?_
                rintro e w' ⟨rfl, rfl⟩
                refine hK.out _ _ ?_ (fun hHeld => ?_)
                · go_keep
                clear hK K
                try simp only [Act.put, pu]
                refine tk 20 62 rfl rfl ?_
                try simp only [Act.put, pu]
                refine tk 21 63 rfl rfl ?_
                try simp only [Act.put, pu]
                refine wpAnyH_done (by kernel_rfl) ?_ _
                go_wp2_with fail
                go_roundw
                case rel => exact ⟨bl_drewN hbl _, k + 1, by omega, by go_num, HN2.out⟩
                case measure => simp [intOf]; omega
              | false =>
                have HF2 := Lib.hid (HF.out.trans (ee_bad HX.out HY.out HM.out (.inr fun h => by rw [hasB_t h] at hh; cases hh))).symm
                rw [hh] at J
                clear hh
                go_wp2_with fail
                refine wp_region_held_drew (S := fun w' => w'.cell? ⟨w2.heap.size, 1, none⟩ = some (.slice (some a9) dd.length c9) ∧ w'.cell? (a9.add xn) = some (.bool false) ∧ w'.cell? ⟨w2.heap.size, 0, none⟩ = some (.slice (some ad) N.length c8) ∧ w'.cell? (ad.add xn) = some (.slice A5 m.length c5) ∧ w'.cell? (az.add q) = some (.int .i64 y)) (by kernel_rfl) ?_ (fun hHeld => ?_)
                · go_keep
                refine tk 0 42 rfl rfl ?_
                try simp only [Act.put, pu]
                refine tk 1 43 rfl rfl ?_
                try simp only [Act.put, pu]
                refine tk 2 44 rfl rfl ?_
                try simp only [Act.put, pu]
                refine tk 3 45 rfl rfl ?_
                try simp only [Act.put, pu]
                refine tk 4 46 rfl rfl ?_
                try simp only [Act.put, pu]
                refine tk 5 47 rfl rfl ?_
                try simp only [Act.put, pu]
                refine tk 6 48 rfl rfl ?_
                try simp only [Act.put, pu]
                refine tk 7 49 rfl rfl ?_
                try simp only [Act.put, pu]
                refine tk 8 50 rfl rfl ?_
                try simp only [Act.put, pu]
                refine tk 9 51 rfl rfl ?_
                try simp only [Act.put, pu]
                refine tk 10 52 rfl rfl ?_
                try simp only [Act.put, pu]
                refine tk 11 53 rfl rfl ?_
                try simp only [Act.put, pu]
                refine tk 12 54 rfl rfl ?_
                try simp only [Act.put, pu]
                refine tk 13 55 rfl rfl ?_
                try simp only [Act.put, pu]
                refine tk 14 56 rfl rfl ?_
                try simp only [Act.put, pu]
                refine tk 15 57 rfl rfl ?_
                try simp only [Act.put, pu]
                refine tk 16 58 rfl rfl ?_
                try simp only [Act.put, pu]
                refine tk 17 59 rfl rfl ?_
                try simp only [Act.put, pu]
                refine tk 18 60 rfl rfl ?_
                try simp only [Act.put, pu]
                refine tr 19 rfl (by kernel_rfl) (fun K hK => ?_)
                go_simp
                go_at_call 40
                refine (J _ (Below.refl _ _).drew).out.mono ?_
                rintro e w' ⟨rfl, rfl⟩
                refine hK.out _ _ ?_ (fun hHeld => ?_)
                · go_keep
                clear hK K
                try simp only [Act.put, pu]
                refine tk 20 62 rfl rfl ?_
                try simp only [Act.put, pu]
                refine tk 21 63 rfl rfl ?_
                try simp only [Act.put, pu]
                refine wpAnyH_done (by kernel_rfl) ?_ _
                go_wp2_with fail
                go_ret2
                exact ⟨ret2bb HF2.out HQ.out.symm, bl_drewN (bl_trans hB3 hbl) _⟩
          · obtain rfl : k = ss.length := by omega
            have HF2 := Lib.hid (HF.out.trans (ee_t HTO.out HH2.out HH3.out)).symm
            go_wp2_with fail
            go_ret2
            exact ⟨ret2bb HF2.out HQ.out.symm, bl_trans hB3 hbl⟩
end Go.Proofs.YthfgklckmedggaaGreat
