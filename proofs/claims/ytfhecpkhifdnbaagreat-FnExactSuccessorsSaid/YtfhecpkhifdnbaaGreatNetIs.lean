/-
  Networks, the program's side: IsNetwork says whether a network is one.
-/
import Derived.Test.YtfhecpkhifdnbaaGreatNetIds
import Derived.Test.YtfhecpkhifdnbaaGreatNetGood
import Derived.Laws.StructEq
namespace Go.Proofs.YtfhecpkhifdnbaaGreat
open Go.RowKit
set_option linter.unusedVariables false
set_option linter.unusedSimpArgs false
theorem endOk_noP {n : Net} {v i : Nat} {e : Int × Int} (h : portB n e.1 e.2 = false) : ¬ endOk n.es v i e := fun ⟨h0, h1, m, hm, hx⟩ => by
  have : portB n e.1 e.2 = true := propB_t ⟨h0, h1, m, hm, (List.getElem?_eq_some_iff.1 hx).1⟩
  rw [this] at h
  cases h
theorem port_yes {n : Net} {e : Int × Int} (h : portB n e.1 e.2 = true) : ∃ (a p : Nat) (m : Ends) (x : Int × Int), e.1 = a ∧ e.2 = p ∧ n.es[a]? = some m ∧ m[p]? = some x := by
  obtain ⟨h0, h1, m, hm, hx⟩ := propB_iff.1 h
  exact ⟨_, _, m, _, (Int.toNat_of_nonneg h0).symm, (Int.toNat_of_nonneg h1).symm, hm, List.getElem?_eq_getElem hx⟩
set_option maxRecDepth 100000 in
set_option maxHeartbeats 2000000 in
theorem impl_IsNetwork (ve vi vn : Value) (n : Net) (w : World) (h : NetR w w.heap.size ve vi vn n) (hz : n.es.length ≤ 2000000) (hzi : n.ids.length ≤ 2000000) :
    Calls Tryz.prog 158 #[.agg #[ve, vi, vn]] w fun e w' => e = .returned (.bool (netB n)) ∧ Below w.heap.size w w' := by
  have hgd : Tryz.prog.eqGuardType Tryz.prog.depth 144 = false := by kernel_rfl
  have heq := eqIn_End
  obtain ⟨⟨A0, m0, c0, rfl⟩, ⟨A1, m1, c1, rfl⟩, A2, m2, c2, rfl⟩ := h.slices
  obtain ⟨w0, hw0, hB, HD, hz0, HS0⟩ := box3 w (.slice A0 m0 c0) (.slice A1 m1 c1) (.slice A2 m2 c2) 31
  have HN0 := Lib.hid h; have HN := Lib.hid (h.up hB); clear h
  have HW0 := Lib.hid hw0; clear hw0
  obtain ⟨q0, q1, q2, qf⟩ := cells3 HD
  obtain ⟨hm0, hcc, hmx⟩ := HN.out.e.len_slice
  subst hm0
  obtain ⟨hm1, -, -, -⟩ := HN.out.i.some_
  subst hm1
  obtain ⟨hm2, hd2, hd3, -⟩ := HN.out.n.some_
  subst hm2
  have hmx' : n.es.length ≤ 9223372036854775807 := by unfold maxLen at hmx; omega
  have hmi' : n.ins.length ≤ 9223372036854775807 := by unfold maxLen at hd3; omega
  clear hmx hd3 hcc hd2
  go_enter Tryz.func158, Tryz.ntmps158
  cases g1 : inB (n.es.length : Int) 1 40 with
  | false =>
    go_wp2_with (go_at_call 75; refine (impl_within _ _ _ _).mono ?_; rintro e w' ⟨rfl, rfl⟩)
    go_ret
    rw [← HW0.out]
    exact ⟨ret_bool (net_noH fun hh => by rw [inB_t (by have := hh.1; omega)] at g1; cases g1).symm, hB⟩
  | true =>
    have h40 : 1 ≤ n.es.length ∧ n.es.length ≤ 40 := by unfold inB at g1; have := of_decide_eq_true g1; omega
    go_wp2_with (go_at_call 75; refine (impl_within _ _ _ _).mono ?_; rintro e w' ⟨rfl, rfl⟩)
    rw [← HW0.out]
    refine (impl_idsOk _ n.ids n.es.length w0 HN.out.i hzi).mono ?_
    rintro e w1 ⟨rfl, hb1⟩
    have hzhb1 := hb1.size
    clear q0 q1 q2 qf
    replace HD := bk HD hb1
    replace HN := Lib.hid (HN.out.up hb1)
    replace hB := bl_trans hB hb1
    obtain ⟨q0, q1, q2, qf⟩ := cells3 HD
    cases g2 : idsB n.ids n.es.length with
    | false =>
      go_wp2_with fail
      go_ret
      exact ⟨ret_bool (net_noH fun hh => by rw [show idsB n.ids n.es.length = true from propB_t hh.2.1] at g2; cases g2).symm, hB⟩
    | true =>
      go_wp2_with fail
      refine (impl_inputsOk _ n.ins n.es.length w1 HN.out.n hz).mono ?_
      rintro e w2 ⟨rfl, hb2⟩
      have hzhb2 := hb2.size
      clear q0 q1 q2 qf
      replace HD := bk HD hb2
      replace HN := Lib.hid (HN.out.up hb2)
      replace hB := bl_trans hB hb2
      obtain ⟨q0, q1, q2, qf⟩ := cells3 HD
      cases g3 : (decide (n.ins.length = n.es.length) && allB n.ins 0 9) with
      | false =>
        go_wp2_with fail
        go_ret
        exact ⟨ret_bool (net_noH fun hh => by rw [decide_eq_true hh.2.2.1, (inAll_iff _).2 hh.2.2.2] at g3; cases g3).symm, hB⟩
      | true =>
        have hc3 := Bool.and_eq_true_iff.1 g3
        have HH := Lib.hid (show HeadP n from ⟨h40, propB_iff.1 g2, of_decide_eq_true hc3.1, (inAll_iff _).1 hc3.2⟩)
        clear hc3
        go_wp2_with fail
        go_loopw [3, 4, 33] (fun _ _ i wr => GdRel n w2 i wr) (fun _ _ i _ => n.es.length - (intOf i).toNat)
        case atStart => exact ⟨Below.refl _ _, 0, Nat.zero_le _, rfl, fun _ _ h => absurd h (by omega)⟩
        case round =>
          obtain ⟨hb3, k, hk, rfl, hup⟩ := hrel
          have HU := Lib.hid hup; clear hup
          have hzhb3 := hb3.size
          clear q0 q1 q2 qf
          replace HD := bk HD hb3
          replace HN := Lib.hid (HN.out.up hb3)
          replace hB := bl_trans hB hb3
          obtain ⟨q0, q1, q2, qf⟩ := cells3 HD
          by_cases hlt : k < n.es.length
          · obtain ⟨l, hl⟩ : ∃ y, n.es[k]? = some y := ⟨n.es[k], List.getElem?_eq_getElem hlt⟩
            obtain ⟨ad, rfl⟩ := HN.out.e.some_ (by omega)
            obtain ⟨hbb, u, hu, hr⟩ := HN.out.e.at_ hl
            have HR := Lib.hid hr
            obtain ⟨A', c', rfl, hlc, hlm, -, h4⟩ := hr
            unfold maxLen at hlm
            have HL := Lib.hid hl; clear hl
            by_cases h6 : l.length ≤ 6
            · go_wp2_with fail
              obtain ⟨wq, rfl⟩ : ∃ z, z = wr := ⟨_, rfl⟩
              go_loopw [5, 6, 43] (fun _ _ i wr' => GeRel n k l wq i wr') (fun _ _ i _ => l.length - (intOf i).toNat)
              case atStart => exact ⟨Below.refl _ _, 0, Nat.zero_le _, rfl, fun _ _ h => absurd h (by omega)⟩
              case round =>
                obtain ⟨hb2, j, hj, rfl, hup2⟩ := hrel
                have HU2 := Lib.hid hup2; clear hup2
                have hzhb2 := hb2.size
                clear q0 q1 q2 qf
                replace HD := bk HD hb2
                replace HN := Lib.hid (HN.out.up hb2)
                replace hB := bl_trans hB hb2
                obtain ⟨q0, q1, q2, qf⟩ := cells3 HD
                by_cases hlt2 : j < l.length
                · obtain ⟨e, he⟩ : ∃ y, l[j]? = some y := ⟨_, List.getElem?_eq_getElem hlt2⟩
                  obtain ⟨b, o, rfl, -, -⟩ := h4 (by omega)
                  obtain ⟨hbb, p0, p1⟩ := (HR.out.below hb2).at_ he
                  obtain ⟨wv, hwv, hb4, HE, hzv, HSV⟩ := box2 wr (.int .i64 e.1) (.int .i64 e.2) 144
                  have HWV := Lib.hid hwv; clear hwv
                  have HEL := Lib.hid he; clear he
                  go_wp2_with fail
                  rw [← HWV.out]
                  replace hb2 := bl_trans hb2 hb4
                  have hzhb4 := hb4.size
                  clear q0 q1 q2 qf
                  replace HD := bk HD hb4
                  replace HN := Lib.hid (HN.out.up hb4)
                  replace hB := bl_trans hB hb4
                  obtain ⟨q0, q1, q2, qf⟩ := cells3 HD
                  obtain ⟨e0, e1, ef⟩ := cells2 HE
                  have HNS := Lib.hid (fun h => net_noE HL.out HEL.out h)
                  cases g : portB n e.1 e.2 with
                  | false =>
                    have HF := Lib.hid (HNS.out (endOk_noP g))
                    clear HNS p0 p1
                    refine wp_region_held_drew (S := fun w' => w'.cell? ⟨w.heap.size, 0, none⟩ = some (.slice (some ad) n.es.length c0) ∧ w'.cell? ⟨w.heap.size, 1, none⟩ = some (.slice A1 n.ids.length c1) ∧ w'.cell? ⟨w.heap.size, 2, none⟩ = some (.slice A2 n.ins.length c2) ∧ w'.cell? ⟨wr.heap.size, 0, none⟩ = some (.int .i64 e.1) ∧ w'.cell? ⟨wr.heap.size, 1, none⟩ = some (.int .i64 e.2)) (by kernel_rfl) ?_ (fun hHeld => ?_)
                    · go_keep
                    refine tk 0 48 rfl rfl ?_
                    try simp only [Act.put, pu]
                    refine tk 1 49 rfl rfl ?_
                    try simp only [Act.put, pu]
                    refine tk 2 50 rfl rfl ?_
                    try simp only [Act.put, pu]
                    refine tk 3 51 rfl rfl ?_
                    try simp only [Act.put, pu]
                    refine tk 4 52 rfl rfl ?_
                    try simp only [Act.put, pu]
                    refine tr 5 rfl (by kernel_rfl) (fun K hK => ?_)
                    go_simp
                    go_at_call 118
                    refine (impl_hasPort _ _ _ n e.1 e.2 wv.drew (HN.out.up (Below.refl _ _).drew) hz).mono ?_
                    rintro e' w5 ⟨rfl, hb5'⟩
                    have hb5 : Below wv.heap.size wv w5 := (Below.refl _ _).drew.trans hb5'
                    clear hb5'
                    rw [g]
                    have hzhb5 := hb5.size
                    clear q0 q1 q2 qf
                    replace HD := bk HD hb5
                    replace HN := Lib.hid (HN.out.up hb5)
                    replace hB := bl_trans hB hb5
                    obtain ⟨q0, q1, q2, qf⟩ := cells3 HD
                    replace hb2 := bl_trans hb2 hb5
                    clear e0 e1 ef
                    replace HE := bk HE hb5
                    obtain ⟨e0, e1, ef⟩ := cells2 HE
                    refine hK.out _ _ ?_ (fun hHeld => ?_)
                    · go_keep
                    clear hK K
                    try simp only [Act.put, pu]
                    refine tk 6 54 rfl rfl ?_
                    try simp only [Act.put, pu]
                    refine tk 7 55 rfl rfl ?_
                    try simp only [Act.put, pu]
                    refine tn 8 56 rfl rfl ?_
                    try simp only [Act.put, pu]
                    refine tn 9 57 rfl rfl ?_
                    try simp only [Act.put, pu]
                    refine tn 10 58 rfl rfl ?_
                    try simp only [Act.put, pu]
                    refine tn 11 59 rfl rfl ?_
                    try simp only [Act.put, pu]
                    refine tn 12 60 rfl rfl ?_
                    try simp only [Act.put, pu]
                    refine tn 13 61 rfl rfl ?_
                    try simp only [Act.put, pu]
                    refine tn 14 62 rfl rfl ?_
                    try simp only [Act.put, pu]
                    refine tn 15 63 rfl rfl ?_
                    try simp only [Act.put, pu]
                    refine tn 16 64 rfl rfl ?_
                    try simp only [Act.put, pu]
                    refine tn 17 65 rfl rfl ?_
                    try simp only [Act.put, pu]
                    refine tn 18 66 rfl rfl ?_
                    try simp only [Act.put, pu]
                    refine tn 19 67 rfl rfl ?_
                    try simp only [Act.put, pu]
                    refine tn 20 68 rfl rfl ?_
                    try simp only [Act.put, pu]
                    refine tn 21 69 rfl rfl ?_
                    try simp only [Act.put, pu]
                    refine tk 22 70 rfl rfl ?_
                    try simp only [Act.put, pu]
                    refine wpAnyH_done (by kernel_rfl) ?_ _
                    go_wp2_with fail
                    go_ret
                    exact ⟨ret_bool HF.out.symm, hB⟩
                  | true =>
                    obtain ⟨a, p, m, x, ha, hp, hm, hx⟩ := port_yes g
                    obtain ⟨hbA, u2, r0, hrm⟩ := HN.out.e.at_ hm
                    have hbq : (ad.add a).block < wv.heap.size := by rw [block_add]; exact hbA
                    clear hbA
                    have HRM := Lib.hid hrm
                    obtain ⟨Am, cm, rfl, hmc, hmm, -, h5⟩ := hrm
                    unfold maxLen at hmm
                    have hpl := (List.getElem?_eq_some_iff.1 hx).1
                    have hal := (List.getElem?_eq_some_iff.1 hm).1
                    obtain ⟨b2, o2, rfl, -, -⟩ := h5 (by omega)
                    obtain ⟨hbx, x0, x1⟩ := HRM.out.at_ hx
                    replace hbx : b2 < wv.heap.size := hbx
                    rw [ha] at e0
                    rw [hp] at e1
                    rw [ha, hp] at g
                    have HA := Lib.hid ha; clear ha
                    have HPP := Lib.hid hp; clear hp
                    have HM := Lib.hid hm; clear hm
                    have HX := Lib.hid hx; clear hx
                    clear p0 p1 h5
                    by_cases hv : x.1 = (k : Int) ∧ x.2 = (j : Int)
                    · have kq : (x.1 == (k : Int) && x.2 == (j : Int)) = true := by rw [hv.1, hv.2]; simp
                      have HO := Lib.hid (HU2.out.next HEL.out (endOk_of HA.out HPP.out HM.out HX.out hv))
                      clear hv HNS
                      refine wp_region_held_drew (S := fun w' => w'.cell? ⟨w.heap.size, 0, none⟩ = some (.slice (some ad) n.es.length c0) ∧ w'.cell? ⟨w.heap.size, 1, none⟩ = some (.slice A1 n.ids.length c1) ∧ w'.cell? ⟨w.heap.size, 2, none⟩ = some (.slice A2 n.ins.length c2) ∧ w'.cell? ⟨wr.heap.size, 0, none⟩ = some (.int .i64 (a : Int)) ∧ w'.cell? ⟨wr.heap.size, 1, none⟩ = some (.int .i64 (p : Int)) ∧ w'.cell? (ad.add a) = some (.slice (some ⟨b2, o2, none⟩) m.length cm) ∧ w'.cell? ⟨b2, o2 + p * 2, none⟩ = some (.int .i64 x.1) ∧ w'.cell? ⟨b2, o2 + p * 2 + 1, none⟩ = some (.int .i64 x.2)) (by kernel_rfl) ?_ (fun hHeld => ?_)
                      · go_keep
                      refine tk 0 48 rfl rfl ?_
                      try simp only [Act.put, pu]
                      refine tk 1 49 rfl rfl ?_
                      try simp only [Act.put, pu]
                      refine tk 2 50 rfl rfl ?_
                      try simp only [Act.put, pu]
                      refine tk 3 51 rfl rfl ?_
                      try simp only [Act.put, pu]
                      refine tk 4 52 rfl rfl ?_
                      try simp only [Act.put, pu]
                      refine tr 5 rfl (by kernel_rfl) (fun K hK => ?_)
                      go_simp
                      go_at_call 118
                      refine (impl_hasPort _ _ _ n (a : Int) (p : Int) wv.drew (HN.out.up (Below.refl _ _).drew) hz).mono ?_
                      rintro e' w5 ⟨rfl, hb5'⟩
                      have hb5 : Below wv.heap.size wv w5 := (Below.refl _ _).drew.trans hb5'
                      clear hb5'
                      rw [g]
                      have hzhb5 := hb5.size
                      clear q0 q1 q2 qf
                      replace HD := bk HD hb5
                      replace HN := Lib.hid (HN.out.up hb5)
                      replace hB := bl_trans hB hb5
                      obtain ⟨q0, q1, q2, qf⟩ := cells3 HD
                      replace hb2 := bl_trans hb2 hb5
                      clear e0 e1 ef
                      replace HE := bk HE hb5
                      obtain ⟨e0, e1, ef⟩ := cells2 HE
                      rw [HA.out] at e0
                      rw [HPP.out] at e1
                      replace r0 := (hb5.cell hbq).trans r0
                      replace x0 := (hb5.cell (by exact hbx)).trans x0
                      replace x1 := (hb5.cell (by exact hbx)).trans x1
                      refine hK.out _ _ ?_ (fun hHeld => ?_)
                      · go_keep
                      clear hK K
                      try simp only [Act.put, pu]
                      refine tk 6 54 rfl rfl ?_
                      try simp only [Act.put, pu]
                      refine tk 7 55 rfl rfl ?_
                      try simp only [Act.put, pu]
                      refine tk 8 56 rfl rfl ?_
                      try simp only [Act.put, pu]
                      refine tk 9 57 rfl rfl ?_
                      try simp only [Act.put, pu]
                      refine tk 10 58 rfl rfl ?_
                      try simp only [Act.put, pu]
                      refine tk 11 59 rfl rfl ?_
                      try simp only [Act.put, pu]
                      refine tk 12 60 rfl rfl ?_
                      try simp only [Act.put, pu]
                      refine tk 13 61 rfl rfl ?_
                      try simp only [Act.put, pu]
                      refine tk 14 62 rfl rfl ?_
                      try simp only [Act.put, pu]
                      refine tk 15 63 rfl rfl ?_
                      try simp only [Act.put, pu]
                      refine tk 16 64 rfl rfl ?_
                      try simp only [Act.put, pu]
                      refine tk 17 65 rfl rfl ?_
                      try simp only [Act.put, pu]
                      refine tk 18 66 rfl rfl ?_
                      try simp only [Act.put, pu]
                      refine tk 19 67 rfl rfl ?_
                      try simp only [Act.put, pu]
                      refine tk 20 68 rfl rfl ?_
                      try simp only [Act.put, pu]
                      refine tk 21 69 rfl rfl ?_
                      try simp only [Act.put, pu]
                      refine tk 22 70 rfl rfl ?_
                      try simp only [Act.put, pu]
                      refine wpAnyH_done (by kernel_rfl) ?_ _
                      go_wp2_with fail
                      go_roundw
                      case rel => exact ⟨hb2, j + 1, by omega, by go_num, HO.out⟩
                      case measure => simp [intOf]; omega
                    · have kq : (x.1 == (k : Int) && x.2 == (j : Int)) = false := by
                        rw [Bool.and_eq_false_iff, beq_eq_false_iff_ne, beq_eq_false_iff_ne]
                        by_cases h1 : x.1 = (k : Int)
                        · exact .inr fun h2 => hv ⟨h1, h2⟩
                        · exact .inl h1
                      have HF := Lib.hid (HNS.out (endOk_no3 HA.out HPP.out HM.out HX.out hv))
                      clear hv HNS
                      refine wp_region_held_drew (S := fun w' => w'.cell? ⟨w.heap.size, 0, none⟩ = some (.slice (some ad) n.es.length c0) ∧ w'.cell? ⟨w.heap.size, 1, none⟩ = some (.slice A1 n.ids.length c1) ∧ w'.cell? ⟨w.heap.size, 2, none⟩ = some (.slice A2 n.ins.length c2) ∧ w'.cell? ⟨wr.heap.size, 0, none⟩ = some (.int .i64 (a : Int)) ∧ w'.cell? ⟨wr.heap.size, 1, none⟩ = some (.int .i64 (p : Int)) ∧ w'.cell? (ad.add a) = some (.slice (some ⟨b2, o2, none⟩) m.length cm) ∧ w'.cell? ⟨b2, o2 + p * 2, none⟩ = some (.int .i64 x.1) ∧ w'.cell? ⟨b2, o2 + p * 2 + 1, none⟩ = some (.int .i64 x.2)) (by kernel_rfl) ?_ (fun hHeld => ?_)
                      · go_keep
                      refine tk 0 48 rfl rfl ?_
                      try simp only [Act.put, pu]
                      refine tk 1 49 rfl rfl ?_
                      try simp only [Act.put, pu]
                      refine tk 2 50 rfl rfl ?_
                      try simp only [Act.put, pu]
                      refine tk 3 51 rfl rfl ?_
                      try simp only [Act.put, pu]
                      refine tk 4 52 rfl rfl ?_
                      try simp only [Act.put, pu]
                      refine tr 5 rfl (by kernel_rfl) (fun K hK => ?_)
                      go_simp
                      go_at_call 118
                      refine (impl_hasPort _ _ _ n (a : Int) (p : Int) wv.drew (HN.out.up (Below.refl _ _).drew) hz).mono ?_
                      rintro e' w5 ⟨rfl, hb5'⟩
                      have hb5 : Below wv.heap.size wv w5 := (Below.refl _ _).drew.trans hb5'
                      clear hb5'
                      rw [g]
                      have hzhb5 := hb5.size
                      clear q0 q1 q2 qf
                      replace HD := bk HD hb5
                      replace HN := Lib.hid (HN.out.up hb5)
                      replace hB := bl_trans hB hb5
                      obtain ⟨q0, q1, q2, qf⟩ := cells3 HD
                      replace hb2 := bl_trans hb2 hb5
                      clear e0 e1 ef
                      replace HE := bk HE hb5
                      obtain ⟨e0, e1, ef⟩ := cells2 HE
                      rw [HA.out] at e0
                      rw [HPP.out] at e1
                      replace r0 := (hb5.cell hbq).trans r0
                      replace x0 := (hb5.cell (by exact hbx)).trans x0
                      replace x1 := (hb5.cell (by exact hbx)).trans x1
                      refine hK.out _ _ ?_ (fun hHeld => ?_)
                      · go_keep
                      clear hK K
                      try simp only [Act.put, pu]
                      refine tk 6 54 rfl rfl ?_
                      try simp only [Act.put, pu]
                      refine tk 7 55 rfl rfl ?_
                      try simp only [Act.put, pu]
                      refine tk 8 56 rfl rfl ?_
                      try simp only [Act.put, pu]
                      refine tk 9 57 rfl rfl ?_
                      try simp only [Act.put, pu]
                      refine tk 10 58 rfl rfl ?_
                      try simp only [Act.put, pu]
                      refine tk 11 59 rfl rfl ?_
                      try simp only [Act.put, pu]
                      refine tk 12 60 rfl rfl ?_
                      try simp only [Act.put, pu]
                      refine tk 13 61 rfl rfl ?_
                      try simp only [Act.put, pu]
                      refine tk 14 62 rfl rfl ?_
                      try simp only [Act.put, pu]
                      refine tk 15 63 rfl rfl ?_
                      try simp only [Act.put, pu]
                      refine tk 16 64 rfl rfl ?_
                      try simp only [Act.put, pu]
                      refine tk 17 65 rfl rfl ?_
                      try simp only [Act.put, pu]
                      refine tk 18 66 rfl rfl ?_
                      try simp only [Act.put, pu]
                      refine tk 19 67 rfl rfl ?_
                      try simp only [Act.put, pu]
                      refine tk 20 68 rfl rfl ?_
                      try simp only [Act.put, pu]
                      refine tk 21 69 rfl rfl ?_
                      try simp only [Act.put, pu]
                      refine tk 22 70 rfl rfl ?_
                      try simp only [Act.put, pu]
                      refine wpAnyH_done (by kernel_rfl) ?_ _
                      go_wp2_with fail
                      go_ret
                      exact ⟨ret_bool HF.out.symm, hB⟩
                · have hl2 : l.length ≤ j := by omega
                  go_wp2_with fail
                  refine ⟨⟨bl_trans hb3 hb2, k + 1, by omega, by go_num, HU.out.next HL.out h6 HU2.out hl2⟩, ?_⟩
                  simp [intOf]
                  omega
            · have HF := Lib.hid (net_no6 HL.out h6)
              go_wp2_with fail
              go_ret
              exact ⟨ret_bool HF.out.symm, hB⟩
          · have HF := Lib.hid (net_end HH.out HU.out (by omega))
            go_wp2_with fail
            go_ret
            exact ⟨ret_bool HF.out.symm, hB⟩
end Go.Proofs.YtfhecpkhifdnbaaGreat
