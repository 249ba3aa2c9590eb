/-
  The program's ranksOk, for every good walk problem.
-/
import Derived.Test.YtcfbkickiijjkaaGreatDoorVZ
namespace Go.Proofs.YtcfbkickiijjkaaGreatDoor
open Go.RowKit
set_option linter.all false
def ShRelB (rs : List (List Int)) (w w0 : World) (i : Value) (wr : World) : Prop := Below w0.heap.size w0 wr ∧ ShRel rs w i wr
set_option maxRecDepth 100000 in
set_option maxHeartbeats 1000000 in
theorem impl_ranksOk (n : Nat) (v u : Value) (xss rs : List (List Int)) (w : World) (ar : Bool) (h : RowsR w w.heap.size v xss) (hu : RowsR w w.heap.size u rs) (hg : Good n xss) :
  Calls Tryz.prog 158 #[.agg #[.int .i64 (n : Int), v], u, .bool ar] w fun e w' => e = .returned (.bool (propB (RanksP ar n xss rs))) ∧ Below w.heap.size w w' := by
 have hn : (1 : Int) ≤ n ∧ (n : Int) ≤ 12 := by have := hg.1; unfold inB at this; simpa using this
 have HS := Lib.hid hg.small
 have HG := Lib.hid hg.2
 obtain ⟨A, c, rfl, h1, h2, h3⟩ := h.open_
 obtain ⟨A2, c2, rfl, f1, f2, f3⟩ := hu.open_
 unfold maxLen at h2 f2
 clear h hg hu
 have H3 := Lib.hid h3; clear h3
 have F3 := Lib.hid f3; clear f3
 have hb0 := bl_alloc (Below.refl w.heap.size w) (.cells #[.int .i64 (n : Int), .slice A xss.length c] 50)
 have hc1 : (w.alloc (.cells #[.int .i64 (n : Int), .slice A xss.length c] 50)).cell? ⟨w.heap.size, 1, none⟩ = some (.slice A xss.length c) := by rw [World.cell?_alloc_at _ _ _ _ rfl]; rfl
 have HC1 := Lib.hid hc1; clear hc1
 have hw1 : (w.alloc (.cells #[.int .i64 (n : Int), .slice A xss.length c] 50)).heap.size = w.heap.size + 1 := by simp
 have HW1 := Lib.hid hw1; clear hw1
 by_cases hr : rs.length = n
 ·
  have t0 : ((rs.length : Int) != (n : Int)) = false := by rw [hr]; simp
  have HR := Lib.hid hr; clear hr
  go_enter Tryz.func158, Tryz.ntmps158
  go_wp2_with fail
  generalize w.alloc (.cells #[.int .i64 (n : Int), .slice A xss.length c] 50) = w0 at *
  clear t0
  go_loopw [8, 20] (fun _ i wr => ShRelB rs w w0 i wr) (fun _ i _ => rs.length - (intOf i).toNat)
  case atStart => exact ⟨Below.refl _ _, 0, Nat.zero_le _, rfl, (fun i r hi => absurd hi (by omega)), hb0⟩
  case round =>
   obtain ⟨hbw, k, hk, rfl, hup, hbl⟩ := hrel
   obtain ⟨hw1, hw2⟩ := bx w.heap.size hbw (by rw [HW1.out]; omega)
   have HU := Lib.hid hup; clear hup
   by_cases hlt : k < rs.length
   ·
    obtain ⟨xs, hx⟩ : ∃ x, rs[k]? = some x := ⟨rs[k], List.getElem?_eq_getElem hlt⟩
    obtain ⟨ad, rfl, hb, hc⟩ := F3.out (by omega)
    obtain ⟨u, hu, hr⟩ := hc k _ hx
    have hcell := (hbl.cell (p := ad.add k) (by rw [block_add]; exact hb)).trans hu
    have HV := Lib.hid ((hr.below hbl).more hbl.size)
    obtain ⟨A1, c1, rfl, g1, g2, g3⟩ := (hr.below hbl).open_
    clear hc hr hu g3
    have GX := Lib.hid hx; clear hx
    by_cases q : xs.length = 3
    ·
     have t0 : ((xs.length : Int) != 3) = false := by rw [q]; rfl
     have HQ := Lib.hid q
     clear q
     go_wp2_with fail
     refine (impl_allWithin _ xs 0 1000 _ HV.out).mono ?_
     rintro e w1 ⟨rfl, hb1⟩
     have hbl1 := bl_trans hbl hb1
     cases q2 : allB xs 0 1000 with
     | true =>
      go_wp2_with fail
      go_roundw
      case rel => exact ⟨bl_trans hbw hb1, k + 1, by omega, by go_num, HU.out.next GX.out HQ.out q2, hbl1⟩
      case measure => simp [intOf]; omega
     | false =>
      go_wp2_with fail
      go_ret
      exact ⟨ret_bool (propB_f (fun h => by have := (h.2.1 k xs hlt GX.out).2; rw [q2] at this; cases this)).symm, hbl1⟩
    ·
     have t0 : ((xs.length : Int) != 3) = true := by rw [bne_iff_ne]; omega
     have HQ := Lib.hid q
     go_wp2_with fail
     go_ret
     exact ⟨ret_bool (propB_f (fun h => HQ.out (h.2.1 k xs hlt GX.out).1)).symm, hbl⟩
   ·
    have hx1 := (hw1 1).trans HC1.out
    clear hw1 hw2
    have HSH := Lib.hid (show ShapeTo rs rs.length from fun i r hi => HU.out i r (by omega))
    go_wp2_with fail
    clear hx1
    go_loopw [10, 36] (fun _ i wr2 => ArRel ar rs xss wr i wr2) (fun _ i _ => xss.length - (intOf i).toNat)
    case atStart => exact ⟨0, 0, Nat.zero_le _, rfl, (fun i x y hi => absurd hi (by omega)), rfl⟩
    case round =>
     obtain ⟨k2, m, hk2, rfl, hup, rfl⟩ := hrel
     have HT := Lib.hid hup; clear hup
     by_cases hlt2 : k2 < xss.length
     ·
      obtain ⟨xs, hx⟩ : ∃ x, xss[k2]? = some x := ⟨xss[k2], List.getElem?_eq_getElem hlt2⟩
      obtain ⟨x, y, rfl, hx1, hy1⟩ := small_pair (HS.out xs (List.mem_of_getElem? hx))
      obtain ⟨ad, rfl, hb, hc⟩ := H3.out (by omega)
      obtain ⟨u, hu, hr'⟩ := hc k2 _ hx
      have hcell := (hbl.cell (p := ad.add k2) (by rw [block_add]; exact hb)).trans hu
      obtain ⟨ad1, c1, rfl, g1, g2, hb1, k0, k1⟩ := pair_cells (hr'.below hbl)
      have hxy : x < n ∧ y < n := by
       obtain ⟨xs', e, _, h4, _⟩ := HG.out k2 hlt2
       rw [hx] at e; cases e
       have h5 := allB_iff.1 h4
       have h6 := h5 x (by simp)
       have h7 := h5 y (by simp)
       omega
      rw [← HR.out] at hxy
      obtain ⟨hxn, hyn⟩ := hxy
      obtain ⟨ad2, rfl, hb2, hc2⟩ := F3.out (by omega)
      obtain ⟨r1, hr1⟩ : ∃ r, rs[x]? = some r := ⟨rs[x]'(by omega), List.getElem?_eq_getElem (by omega)⟩
      obtain ⟨r2, hr2⟩ : ∃ r, rs[y]? = some r := ⟨rs[y]'(by omega), List.getElem?_eq_getElem (by omega)⟩
      have o1 := HSH.out x r1 (by omega) hr1
      have o2 := HSH.out y r2 (by omega) hr2
      obtain ⟨a0, a1, a2, rfl⟩ := triple o1.1
      obtain ⟨b0, b1, b2, rfl⟩ := triple o2.1
      have o3 := allB_iff.1 o1.2
      have o4 := allB_iff.1 o2.2
      have p0 := o3 a0 (by simp)
      have p1 := o3 a1 (by simp)
      have p2 := o3 a2 (by simp)
      have p3 := o4 b0 (by simp)
      have p4 := o4 b1 (by simp)
      have p5 := o4 b2 (by simp)
      obtain ⟨v1, m1, hi1⟩ := hc2 x _ hr1
      obtain ⟨v2, m2, hi2⟩ := hc2 y _ hr2
      have l1 := (hbl.cell (p := ad2.add x) (by rw [block_add]; exact hb2)).trans m1
      have l2 := (hbl.cell (p := ad2.add y) (by rw [block_add]; exact hb2)).trans m2
      obtain ⟨ad3, c3, rfl, i1, i2, i3, i4, i5, i6⟩ := triple_cells (hi1.below hbl)
      obtain ⟨ad4, c4, rfl, j1, j2, j3, j4, j5, j6⟩ := triple_cells (hi2.below hbl)
      have HA := Lib.hid (show arcR ar rs x y ↔ (a0 < b0 ∨ ar = true ∧ a0 = b0 ∧ a1 = b1 ∧ 2 ≤ a1 ∧ Int.tmod (b2 - a2 - 1) a1 = 0) by
       unfold arcR upR aroundR
       rw [getD_of hr1, getD_of hr2]
       simp)
      have GX := Lib.hid hx
      clear hc hc2 hu hr' m1 m2 hi1 hi2 o1 o2 o3 o4 hx hr1 hr2
      have hbad : ¬ arcR ar rs x y → propB (RanksP ar n xss rs) = false := fun hn => propB_f (fun h => hn (h.2.2 k2 x y hlt2 GX.out))
      have HB := Lib.hid hbad; clear hbad
      by_cases q0 : a0 < b0
      ·
       have t9 : decide (a0 < b0) = true := decide_eq_true q0
       go_wp2_with fail
       go_quiet (fail)
       go_wp2_with fail
       go_quiet (fail)
       go_wp2_with fail
       go_roundw
       case rel => exact ⟨k2 + 1, _, by omega, by go_num, HT.out.next GX.out (HA.out.2 (.inl q0)), rfl⟩
       case measure => simp [intOf]; omega
      ·
       have t9 : decide (a0 < b0) = false := decide_eq_false q0
       have HQ0 := Lib.hid q0
       cases ar with
       | false =>
        clear q0
        go_wp2_with fail
        go_quiet (fail)
        go_wp2_with fail
        go_quiet (fail)
        go_wp2_with fail
        go_quiet (fail)
        go_wp2_with fail
        go_ret
        refine ⟨ret_bool (HB.out (fun h => ?_)).symm, bl_drewN (bl_drewN (bl_drewN (bl_drewN hbl _) _) _) _⟩
        rcases HA.out.1 h with h | h
        ·
         have := HQ0.out; omega
        ·
         cases h.1
       | true =>
        by_cases q1 : a0 = b0
        ·
         have t0 : (a0 != b0) = false := by rw [q1]; simp
         by_cases q2 : a1 = b1
         ·
          have t1 : (a1 != b1) = false := by rw [q2]; simp
          by_cases q3 : 2 ≤ a1
          ·
           have t2 : decide (a1 < 2) = false := decide_eq_false (by omega)
           have t3 : (a1 == 0) = false := by rw [beq_eq_false_iff_ne]; omega
           have hm1 : Int.tmod (b2 - a2 - 1) a1 < a1 := Int.tmod_lt_of_pos _ (by omega)
           have hm2 : -a1 < Int.tmod (b2 - a2 - 1) a1 := by
            have := Int.lt_tmod_of_pos (b2 - a2 - 1) (show 0 < a1 by omega)
            omega
           have HQ := Lib.hid (And.intro q1 (And.intro q2 q3))
           clear q0 q1 q2
           by_cases q4 : Int.tmod (b2 - a2 - 1) a1 = 0
           ·
            have t4 : (Int.tmod (b2 - a2 - 1) a1 != 0) = false := by rw [q4]; rfl
            have HQ4 := Lib.hid q4; clear q4
            go_wp2_with fail
            go_quiet (fail)
            go_wp2_with fail
            go_quiet (fail)
            go_wp2_with fail
            go_quiet (fail)
            go_wp2_with fail
            go_roundw
            case rel => exact ⟨k2 + 1, _, by omega, by go_num, HT.out.next GX.out (HA.out.2 (.inr ⟨(by first | rfl | trivial), HQ.out.1, HQ.out.2.1, HQ.out.2.2, HQ4.out⟩)), rfl⟩
            case measure => simp [intOf]; omega
           ·
            have t4 : (Int.tmod (b2 - a2 - 1) a1 != 0) = true := by rw [bne_iff_ne]; exact q4
            have HQ4 := Lib.hid q4; clear q4
            go_wp2_with fail
            go_quiet (fail)
            go_wp2_with fail
            go_quiet (fail)
            go_wp2_with fail
            go_quiet (fail)
            go_wp2_with fail
            go_ret
            refine ⟨ret_bool (HB.out (fun h => ?_)).symm, bl_drewN (bl_drewN (bl_drewN (bl_drewN hbl _) _) _) _⟩
            rcases HA.out.1 h with h | h
            ·
             have := HQ.out.1; omega
            ·
             exact HQ4.out h.2.2.2.2
          ·
           have t2 : decide (a1 < 2) = true := decide_eq_true (by omega)
           have HQ := Lib.hid q3
           clear q0 q1 q2
           go_wp2_with fail
           go_quiet (fail)
           go_wp2_with fail
           go_quiet (fail)
           go_wp2_with fail
           go_quiet (fail)
           go_wp2_with fail
           go_ret
           refine ⟨ret_bool (HB.out (fun h => ?_)).symm, bl_drewN (bl_drewN (bl_drewN (bl_drewN hbl _) _) _) _⟩
           rcases HA.out.1 h with h | h
           ·
            have := HQ0.out; omega
           ·
            have := HQ.out; have := h.2.2.2.1; omega
         ·
          have t1 : (a1 != b1) = true := by rw [bne_iff_ne]; exact q2
          have HQ := Lib.hid q2
          clear q0 q1
          go_wp2_with fail
          go_quiet (fail)
          go_wp2_with fail
          go_quiet (fail)
          go_wp2_with fail
          go_quiet (fail)
          go_wp2_with fail
          go_ret
          refine ⟨ret_bool (HB.out (fun h => ?_)).symm, bl_drewN (bl_drewN (bl_drewN (bl_drewN hbl _) _) _) _⟩
          rcases HA.out.1 h with h | h
          ·
           have := HQ0.out; omega
          ·
           exact HQ.out h.2.2.1
        ·
         have t0 : (a0 != b0) = true := by rw [bne_iff_ne]; exact q1
         have HQ := Lib.hid q1
         clear q0
         go_wp2_with fail
         go_quiet (fail)
         go_wp2_with fail
         go_quiet (fail)
         go_wp2_with fail
         go_quiet (fail)
         go_wp2_with fail
         go_ret
         refine ⟨ret_bool (HB.out (fun h => ?_)).symm, bl_drewN (bl_drewN (bl_drewN (bl_drewN hbl _) _) _) _⟩
         rcases HA.out.1 h with h | h
         ·
          have := HQ0.out; omega
         ·
          exact HQ.out h.2.1
     ·
      go_wp2_with fail
      go_ret
      exact ⟨ret_bool (propB_t ⟨HR.out, HSH.out, fun i x y hi => HT.out i x y (by omega)⟩).symm, bl_drewN hbl _⟩
 ·
  have t0 : ((rs.length : Int) != (n : Int)) = true := by rw [bne_iff_ne]; omega
  have HR := Lib.hid hr
  go_enter Tryz.func158, Tryz.ntmps158
  go_wp2_with fail
  go_ret
  exact ⟨ret_bool (propB_f (fun h => HR.out h.1)).symm, hb0⟩
end Go.Proofs.YtcfbkickiijjkaaGreatDoor
