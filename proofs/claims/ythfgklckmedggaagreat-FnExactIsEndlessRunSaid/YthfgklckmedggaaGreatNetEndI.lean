/-
  Endless runs that are given, the program's side: isEndless, IsEndlessRun.
-/
import Derived.Test.YthfgklckmedggaaGreatNetAllJ
import Derived.Test.YthfgklckmedggaaGreatNetEndS
namespace Go.Proofs.YthfgklckmedggaaGreat
open Go.RowKit
set_option linter.unusedVariables false
set_option linter.unusedSimpArgs false
set_option maxRecDepth 100000 in
set_option maxHeartbeats 2000000 in
theorem impl_isEndless (G T : Nat) (lv nv vs : Value) (N : List (List Int)) (dd : List Bool) (ss : List Int) (w : World) (hx : Xd w G T lv nv N dd) (hss : IntsR w w.heap.size vs ss) :
    Calls Tryz.prog 41 #[.pointer (some ⟨G, 0, none⟩), vs] w fun e w' => e = .returned (.bool (eeB N dd T ss)) ∧ Below w.heap.size w w' := by
  have HI := Lib.hid hss
  obtain ⟨As, cs, rfl, hcs, hcsm, hrs⟩ := hss.open_
  unfold maxLen at hcsm
  have HRS := Lib.hid hrs
  clear hss hrs
  have hT3 := hx.ok.t
  have hnT := hx.ok.n
  have hdT : T ≤ dd.length ∧ dd.length ≤ T := by have := hx.ok.d; omega
  have hNT : T ≤ N.length ∧ N.length ≤ T := by omega
  clear hnT
  obtain ⟨A8, c8, rfl, hc8, hcm, hrow⟩ := hx.n.open_
  obtain ⟨A9, c9, rfl, hc9, hcm9, hrow9⟩ := hx.b.open_
  have HROW := Lib.hid hrow; clear hrow
  have HROW9 := Lib.hid hrow9; clear hrow9
  unfold maxLen at hcm hcm9
  have a6 := hx.c6
  have HX0 := Lib.hid hx; clear hx
  cases h2 : inB ss.length 1 3000 with
  | false =>
    have HF2 := Lib.hid (ee_len (N := N) (d := dd) (T := T) h2).symm
    go_enter Tryz.func41, Tryz.ntmps41
    go_wp2_with (go_at_call 65; refine (impl_within _ _ _ _).mono ?_; rintro e w' ⟨rfl, rfl⟩)
    go_ret
    exact ⟨ret_bool HF2.out, Below.refl _ _⟩
  | true =>
    have HH2 := Lib.hid h2
    cases h3 : allB ss 0 ((T : Int) - 1) with
    | false =>
      have HF2 := Lib.hid (ee_all (N := N) (d := dd) h3).symm
      go_enter Tryz.func41, Tryz.ntmps41
      go_wp2_with (go_at_call 65; refine (impl_within _ _ _ _).mono ?_; rintro e w' ⟨rfl, rfl⟩)
      refine (impl_allWithin _ ss 0 _ w HI.out).mono ?_
      rintro e w2 ⟨rfl, hb2⟩
      rw [h3]
      go_wp2_with fail
      go_ret
      exact ⟨ret_bool HF2.out, hb2⟩
    | true =>
      have HH3 := Lib.hid h3
      have HAL := Lib.hid (allB_iff.1 h3)
      go_enter Tryz.func41, Tryz.ntmps41
      go_wp2_with (go_at_call 65; refine (impl_within _ _ _ _).mono ?_; rintro e w' ⟨rfl, rfl⟩)
      refine (impl_allWithin _ ss 0 _ w HI.out).mono ?_
      rintro e w2 ⟨rfl, hb2⟩
      rw [h3]
      have hln : 1 ≤ ss.length ∧ ss.length ≤ 3000 := by have := of_decide_eq_true h2; omega
      clear h2 h3 a6
      go_wp2_with fail
      go_loopw [5, 6, 23] (fun _ _ i wr => ErRel N dd ss w i wr) (fun _ _ i _ => ss.length - (intOf i).toNat)
      case atStart => exact ⟨hb2, 0, Nat.zero_le _, rfl, fun _ h => by omega⟩
      case round =>
        obtain ⟨hbl, k, hk, rfl, hto⟩ := hrel
        have HTO := Lib.hid hto; clear hto
        by_cases hlt : k < ss.length
        · obtain ⟨x, hx⟩ : ∃ x, ss[k]? = some x := ⟨_, List.getElem?_eq_getElem hlt⟩
          have hmod := Nat.mod_lt (k + 1) (show 0 < ss.length by omega)
          have hrm := rem_at (k := k) (show 0 < ss.length by omega) (by omega)
          have hsn := ne_nil (show 0 < ss.length by omega)
          obtain ⟨q, hq⟩ : ∃ q, q = (k + 1) % ss.length := ⟨_, rfl⟩
          obtain ⟨y, hy⟩ : ∃ y, ss[q]? = some y := ⟨_, List.getElem?_eq_getElem (by omega)⟩
          have HY := Lib.hid (show ss[(k + 1) % ss.length]? = some y by rw [← hq]; exact hy)
          rw [← hq] at hrm hmod
          obtain ⟨hx0, hx1⟩ := HAL.out x (List.mem_of_getElem? hx)
          obtain ⟨xn, rfl⟩ : ∃ xn : Nat, x = xn := ⟨x.toNat, by omega⟩
          obtain ⟨az, rfl, has, hrs⟩ := HRS.out (by omega)
          have kx := (hbl.cell (p := az.add k) (by rw [block_add]; exact has)).trans (hrs k _ hx)
          have ky := (hbl.cell (p := az.add q) (by rw [block_add]; exact has)).trans (hrs q _ hy)
          obtain ⟨b, hb⟩ : ∃ b, dd[xn]? = some b := ⟨_, List.getElem?_eq_getElem (by omega)⟩
          obtain ⟨m, hm⟩ : ∃ m, N[xn]? = some m := ⟨_, List.getElem?_eq_getElem (by omega)⟩
          obtain ⟨ad, rfl, hab, hrow⟩ := HROW.out (by omega)
          obtain ⟨u, hcu, hru⟩ := hrow xn m hm
          obtain ⟨a9, rfl, hab9, hr9⟩ := HROW9.out (by omega)
          have kr := (hbl.cell (p := ad.add xn) (by rw [block_add]; exact hab)).trans hcu
          have kb := (hbl.cell (p := a9.add xn) (by rw [block_add]; exact hab9)).trans (hr9 xn b hb)
          have HRU := Lib.hid ((hru.below hbl).more hbl.size)
          obtain ⟨A5, c5, rfl, -, hcm5, -⟩ := hru.open_
          have k7 := (hbl.cell (p := ⟨G, 7, none⟩) HX0.out.lt).trans HX0.out.c7
          have k8 := (hbl.cell (p := ⟨G, 8, none⟩) HX0.out.lt).trans HX0.out.c8
          have HX := Lib.hid hx
          have HM := Lib.hid (show N[((xn : Nat) : Int).toNat]? = some m by rw [Int.toNat_natCast]; exact hm)
          have HD := Lib.hid (show dd.getD ((xn : Nat) : Int).toNat false = b by rw [Int.toNat_natCast]; exact getDa hb)
          have hxd : xn < dd.length := by omega
          have hxN : xn < N.length := by omega
          clear hx hy hb hm hrow hru hr9 hrs hcu hq
          cases b with
          | true =>
            have HF2 := Lib.hid (ee_bad (d := dd) (T := T) HX.out HY.out HM.out (.inl HD.out)).symm
            go_wp2_with fail
            refine wp_region_held_drew (S := fun w' => w'.cell? ⟨G, 7, none⟩ = some (.slice (some a9) dd.length c9) ∧ w'.cell? (a9.add xn) = some (.bool true)) (by kernel_rfl) ?_ (fun hHeld => ?_)
            · go_keep
            refine tk 0 28 rfl rfl ?_
            try simp only [Act.put, pu]
            refine tk 1 29 rfl rfl ?_
            try simp only [Act.put, pu]
            refine tk 2 30 rfl rfl ?_
            try simp only [Act.put, pu]
            refine tk 3 31 rfl rfl ?_
            try simp only [Act.put, pu]
            refine tk 4 32 rfl rfl ?_
            try simp only [Act.put, pu]
            refine tk 5 33 rfl rfl ?_
            try simp only [Act.put, pu]
            refine tk 6 34 rfl rfl ?_
            try simp only [Act.put, pu]
            refine tk 7 35 rfl rfl ?_
            try simp only [Act.put, pu]
            refine tn 8 36 rfl rfl ?_
            try simp only [Act.put, pu]
            refine tn 9 37 rfl rfl ?_
            try simp only [Act.put, pu]
            refine tn 10 38 rfl rfl ?_
            try simp only [Act.put, pu]
            refine tn 11 39 rfl rfl ?_
            try simp only [Act.put, pu]
            refine tn 12 40 rfl rfl ?_
            try simp only [Act.put, pu]
            refine tn 13 41 rfl rfl ?_
            try simp only [Act.put, pu]
            refine tn 14 42 rfl rfl ?_
            try simp only [Act.put, pu]
            refine tn 15 43 rfl rfl ?_
            try simp only [Act.put, pu]
            refine tn 16 44 rfl rfl ?_
            try simp only [Act.put, pu]
            refine tn 17 45 rfl rfl ?_
            try simp only [Act.put, pu]
            refine tn 18 46 rfl rfl ?_
            try simp only [Act.put, pu]
            refine tn 19 47 rfl rfl ?_
            try simp only [Act.put, pu]
            refine tn 20 48 rfl rfl ?_
            try simp only [Act.put, pu]
            refine tn 21 49 rfl rfl ?_
            try simp only [Act.put, pu]
            refine tn 22 50 rfl rfl ?_
            try simp only [Act.put, pu]
            refine tn 23 51 rfl rfl ?_
            try simp only [Act.put, pu]
            refine tn 24 52 rfl rfl ?_
            try simp only [Act.put, pu]
            refine tk 25 53 rfl rfl ?_
            try simp only [Act.put, pu]
            refine wpAnyH_done (by kernel_rfl) ?_ _
            go_wp2_with fail
            go_ret
            exact ⟨ret_bool HF2.out, bl_drewN hbl _⟩
          | false =>
            have J := fun W (hW : Below _ _ W) => Lib.hid (impl_Contains _ m y W ((HRU.out.below hW).more hW.size))
            cases hh : m.contains y with
            | true =>
              have HN2 := Lib.hid (HTO.out.next HX.out HY.out HM.out HD.out (List.contains_iff_mem.1 hh))
              rw [hh] at J
              clear hh
              go_wp2_with fail
              refine wp_region_held_drew (S := fun w' => w'.cell? ⟨G, 7, none⟩ = some (.slice (some a9) dd.length c9) ∧ w'.cell? (a9.add xn) = some (.bool false) ∧ w'.cell? ⟨G, 8, none⟩ = some (.slice (some ad) N.length c8) ∧ w'.cell? (ad.add xn) = some (.slice A5 m.length c5) ∧ w'.cell? (az.add q) = some (.int .i64 y)) (by kernel_rfl) ?_ (fun hHeld => ?_)
              · go_keep
              refine tk 0 28 rfl rfl ?_
              try simp only [Act.put, pu]
              refine tk 1 29 rfl rfl ?_
              try simp only [Act.put, pu]
              refine tk 2 30 rfl rfl ?_
              try simp only [Act.put, pu]
              refine tk 3 31 rfl rfl ?_
              try simp only [Act.put, pu]
              refine tk 4 32 rfl rfl ?_
              try simp only [Act.put, pu]
              refine tk 5 33 rfl rfl ?_
              try simp only [Act.put, pu]
              refine tk 6 34 rfl rfl ?_
              try simp only [Act.put, pu]
              refine tk 7 35 rfl rfl ?_
              try simp only [Act.put, pu]
              refine tk 8 36 rfl rfl ?_
              try simp only [Act.put, pu]
              refine tk 9 37 rfl rfl ?_
              try simp only [Act.put, pu]
              refine tk 10 38 rfl rfl ?_
              try simp only [Act.put, pu]
              refine tk 11 39 rfl rfl ?_
              try simp only [Act.put, pu]
              refine tk 12 40 rfl rfl ?_
              try simp only [Act.put, pu]
              refine tk 13 41 rfl rfl ?_
              try simp only [Act.put, pu]
              refine tk 14 42 rfl rfl ?_
              try simp only [Act.put, pu]
              refine tk 15 43 rfl rfl ?_
              try simp only [Act.put, pu]
              refine tk 16 44 rfl rfl ?_
              try simp only [Act.put, pu]
              refine tk 17 45 rfl rfl ?_
              try simp only [Act.put, pu]
              refine tk 18 46 rfl rfl ?_
              try simp only [Act.put, pu]
              refine tk 19 47 rfl rfl ?_
              try simp only [Act.put, pu]
              refine tk 20 48 rfl rfl ?_
              try simp only [Act.put, pu]
              refine tk 21 49 rfl rfl ?_
              try simp only [Act.put, pu]
              refine tk 22 50 rfl rfl ?_
              try simp only [Act.put, pu]
              refine tr 23 rfl (by kernel_rfl) (fun K hK => ?_)
              go_simp
              go_at_call 67
              refine (J _ (Below.refl _ _).drew).out.mono ?_
              rintro e w' ⟨rfl, rfl⟩
              refine hK.out _ _ ?_ (fun hHeld => ?_)
              · go_keep
              clear hK K
              try simp only [Act.put, pu]
              refine tk 24 52 rfl rfl ?_
              try simp only [Act.put, pu]
              refine tk 25 53 rfl rfl ?_
              try simp only [Act.put, pu]
              refine wpAnyH_done (by kernel_rfl) ?_ _
              go_wp2_with fail
              go_roundw
              case rel => exact ⟨bl_drewN hbl _, k + 1, by omega, by go_num, HN2.out⟩
              case measure => simp [intOf]; omega
            | false =>
              have HF2 := Lib.hid (ee_bad (d := dd) (T := T) HX.out HY.out HM.out (.inr fun h => by rw [List.contains_iff_mem.2 h] at hh; cases hh)).symm
              rw [hh] at J
              clear hh
              go_wp2_with fail
              refine wp_region_held_drew (S := fun w' => w'.cell? ⟨G, 7, none⟩ = some (.slice (some a9) dd.length c9) ∧ w'.cell? (a9.add xn) = some (.bool false) ∧ w'.cell? ⟨G, 8, none⟩ = some (.slice (some ad) N.length c8) ∧ w'.cell? (ad.add xn) = some (.slice A5 m.length c5) ∧ w'.cell? (az.add q) = some (.int .i64 y)) (by kernel_rfl) ?_ (fun hHeld => ?_)
              · go_keep
              refine tk 0 28 rfl rfl ?_
              try simp only [Act.put, pu]
              refine tk 1 29 rfl rfl ?_
              try simp only [Act.put, pu]
              refine tk 2 30 rfl rfl ?_
              try simp only [Act.put, pu]
              refine tk 3 31 rfl rfl ?_
              try simp only [Act.put, pu]
              refine tk 4 32 rfl rfl ?_
              try simp only [Act.put, pu]
              refine tk 5 33 rfl rfl ?_
              try simp only [Act.put, pu]
              refine tk 6 34 rfl rfl ?_
              try simp only [Act.put, pu]
              refine tk 7 35 rfl rfl ?_
              try simp only [Act.put, pu]
              refine tk 8 36 rfl rfl ?_
              try simp only [Act.put, pu]
              refine tk 9 37 rfl rfl ?_
              try simp only [Act.put, pu]
              refine tk 10 38 rfl rfl ?_
              try simp only [Act.put, pu]
              refine tk 11 39 rfl rfl ?_
              try simp only [Act.put, pu]
              refine tk 12 40 rfl rfl ?_
              try simp only [Act.put, pu]
              refine tk 13 41 rfl rfl ?_
              try simp only [Act.put, pu]
              refine tk 14 42 rfl rfl ?_
              try simp only [Act.put, pu]
              refine tk 15 43 rfl rfl ?_
              try simp only [Act.put, pu]
              refine tk 16 44 rfl rfl ?_
              try simp only [Act.put, pu]
              refine tk 17 45 rfl rfl ?_
              try simp only [Act.put, pu]
              refine tk 18 46 rfl rfl ?_
              try simp only [Act.put, pu]
              refine tk 19 47 rfl rfl ?_
              try simp only [Act.put, pu]
              refine tk 20 48 rfl rfl ?_
              try simp only [Act.put, pu]
              refine tk 21 49 rfl rfl ?_
              try simp only [Act.put, pu]
              refine tk 22 50 rfl rfl ?_
              try simp only [Act.put, pu]
              refine tr 23 rfl (by kernel_rfl) (fun K hK => ?_)
              go_simp
              go_at_call 67
              refine (J _ (Below.refl _ _).drew).out.mono ?_
              rintro e w' ⟨rfl, rfl⟩
              refine hK.out _ _ ?_ (fun hHeld => ?_)
              · go_keep
              clear hK K
              try simp only [Act.put, pu]
              refine tk 24 52 rfl rfl ?_
              try simp only [Act.put, pu]
              refine tk 25 53 rfl rfl ?_
              try simp only [Act.put, pu]
              refine wpAnyH_done (by kernel_rfl) ?_ _
              go_wp2_with fail
              go_ret
              exact ⟨ret_bool HF2.out, bl_drewN hbl _⟩
        · obtain rfl : k = ss.length := by omega
          have HF2 := Lib.hid (ee_t HTO.out HH2.out HH3.out).symm
          go_wp2_with fail
          go_ret
          exact ⟨ret_bool HF2.out, hbl⟩
set_option maxRecDepth 100000 in
theorem impl_IsEndlessRun (ve vi vn vs : Value) (n : Net) (r d : Int) (ss : List Int) (w : World) (h : NetR w w.heap.size ve vi vn n) (hss : IntsR w w.heap.size vs ss) (hz : n.es.length ≤ 2000000) (hzi : n.ids.length ≤ 2000000) :
    Calls Tryz.prog 16 #[.agg #[ve, vi, vn], .int .i64 r, .int .i64 d, vs] w fun e w' => e = .returned (.tuple #[.bool (ieB n r d ss), .bool (dmB n r d)]) ∧ Below w.heap.size w w' := by
  have HI := Lib.hid hss
  obtain ⟨As, cs, rfl, -, -, -⟩ := hss.open_
  clear hss
  obtain ⟨⟨A0, m0, c0, rfl⟩, ⟨A1, m1, c1, rfl⟩, A2, m2, c2, rfl⟩ := h.slices
  obtain ⟨w0, hw0, hB, HD, hz0, HS0⟩ := box3 w (.slice A0 m0 c0) (.slice A1 m1 c1) (.slice A2 m2 c2) 31
  have HN0 := Lib.hid h; have HN := Lib.hid (h.up hB); clear h
  have HW0 := Lib.hid hw0; clear hw0
  obtain ⟨q0, q1, q2, qf⟩ := cells3 HD
  replace HI := Lib.hid ((HI.out.below hB).more hB.size)
  go_enter Tryz.func16, Tryz.ntmps16
  go_wp2_with fail
  rw [← HW0.out]
  refine (impl_explored _ _ _ n r d w0 HN.out hz hzi).mono ?_
  rintro e w1 ⟨hb1, hx⟩
  have hzhb1 := hb1.size
  clear q0 q1 q2 qf
  replace HD := bk HD hb1
  replace HN := Lib.hid (HN.out.up hb1)
  replace hB := bl_trans hB hb1
  obtain ⟨q0, q1, q2, qf⟩ := cells3 HD
  replace HI := Lib.hid ((HI.out.below hb1).more hb1.size)
  rcases hx with ⟨h1, p, rfl⟩ | ⟨h1, G, T, lv, nv, hT, rfl, hX⟩
  · have HQ := Lib.hid h1
    have HF := Lib.hid (show ieB n r d ss = false by unfold ieB; rw [h1]; rfl)
    go_wp2_with fail
    go_ret2
    exact ⟨ret2bb HF.out.symm HQ.out.symm, hB⟩
  · have HQ := Lib.hid h1
    have HF := Lib.hid (show ieB n r d ss = eeB (nxL n r d T) (legL n r T) T ss by unfold ieB; rw [h1, hT]; rfl)
    have HX := Lib.hid hX
    clear hX hT
    go_wp2_with fail
    refine (impl_isEndless G T lv nv _ _ _ ss w1 HX.out HI.out).mono ?_
    rintro e w2 ⟨rfl, hb2⟩
    go_wp2_with fail
    go_ret2
    exact ⟨ret2bb HF.out.symm HQ.out.symm, bl_trans hB hb2⟩
end Go.Proofs.YthfgklckmedggaaGreat
