/-
  Ranks that grow along all arcs: waAbove, for every good walk problem and ranks of the right shape.
-/
import Derived.Test.YtcfbkickiijjkaaGreatDoorVZ
namespace Go.Proofs.YtcfbkickiijjkaaGreatDoor
open Go.RowKit
set_option linter.all false
set_option maxRecDepth 100000 in
set_option maxHeartbeats 1000000 in
theorem spec_waAbove (n : Nat) (v u : Value) (xss rs : List (List Int)) (w : World) (h : RowsR w w.heap.size v xss) (hu : RowsR w w.heap.size u rs) (hg : Good n xss) (hr : rs.length = n) (hs : ShapeTo rs rs.length) :
  Calls Tryz.prog 151 #[.agg #[.int .i64 (n : Int), v], u] w fun e w' => e = .returned (.bool (propB (ArcsTo false rs xss xss.length))) ∧ Below w.heap.size w w' := by
 have hn : (1 : Int) ≤ n ∧ (n : Int) ≤ 12 := by have := hg.1; unfold inB at this; simpa using this
 have HS := Lib.hid hg.small
 have HG := Lib.hid hg.2
 have HR := Lib.hid hr; clear hr
 have HSH := Lib.hid hs; clear hs
 obtain ⟨A, c, rfl, h1, h2, h3⟩ := h.open_
 obtain ⟨A2, c2, rfl, f1, f2, f3⟩ := hu.open_
 unfold maxLen at h2 f2
 clear h hg hu
 have H3 := Lib.hid h3; clear h3
 have F3 := Lib.hid f3; clear f3
 have hb0 := bl_alloc (Below.refl w.heap.size w) (.cells #[.int .i64 (n : Int), .slice A xss.length c] 50)
 go_enter Tryz.func151, Tryz.ntmps151
 go_wp2_with fail
 generalize w.alloc (.cells #[.int .i64 (n : Int), .slice A xss.length c] 50) = w0 at *
 go_loopw [6, 10] (fun _ i wr => ArRel false rs xss w0 i wr) (fun _ i _ => xss.length - (intOf i).toNat)
 case atStart => exact ⟨0, 0, Nat.zero_le _, rfl, (fun i x y hi => absurd hi (by omega)), rfl⟩
 case round =>
  obtain ⟨k2, m, hk2, rfl, hup, rfl⟩ := hrel
  have HT := Lib.hid hup; clear hup
  by_cases hlt2 : k2 < xss.length
  ·
   obtain ⟨xs, hx⟩ : ∃ x, xss[k2]? = some x := ⟨xss[k2], List.getElem?_eq_getElem hlt2⟩
   obtain ⟨x, y, rfl, hx1, hy1⟩ := small_pair (HS.out xs (List.mem_of_getElem? hx))
   obtain ⟨ad, rfl, hb, hc⟩ := H3.out (by omega)
   obtain ⟨u, hu, hr'⟩ := hc k2 _ hx
   have hcell := (hb0.cell (p := ad.add k2) (by rw [block_add]; exact hb)).trans hu
   obtain ⟨ad1, c1, rfl, g1, g2, hb1, k0, k1⟩ := pair_cells (hr'.below hb0)
   have hxy : x < n ∧ y < n := by
    obtain ⟨xs', e, _, h4, _⟩ := HG.out k2 hlt2
    rw [hx] at e; cases e
    have h5 := allB_iff.1 h4
    have h6 := h5 x (by simp)
    have h7 := h5 y (by simp)
    omega
   rw [← HR.out] at hxy
   obtain ⟨hxn, hyn⟩ := hxy
   obtain ⟨ad2, rfl, hb2, hc2⟩ := F3.out (by omega)
   obtain ⟨r1, hr1⟩ : ∃ r, rs[x]? = some r := ⟨rs[x]'(by omega), List.getElem?_eq_getElem (by omega)⟩
   obtain ⟨r2, hr2⟩ : ∃ r, rs[y]? = some r := ⟨rs[y]'(by omega), List.getElem?_eq_getElem (by omega)⟩
   have o1 := HSH.out x r1 (by omega) hr1
   have o2 := HSH.out y r2 (by omega) hr2
   obtain ⟨a0, a1, a2, rfl⟩ := triple o1.1
   obtain ⟨b0, b1, b2, rfl⟩ := triple o2.1
   have o3 := allB_iff.1 o1.2
   have o4 := allB_iff.1 o2.2
   have p0 := o3 a0 (by simp)
   have p1 := o3 a1 (by simp)
   have p2 := o3 a2 (by simp)
   have p3 := o4 b0 (by simp)
   have p4 := o4 b1 (by simp)
   have p5 := o4 b2 (by simp)
   obtain ⟨v1, m1, hi1⟩ := hc2 x _ hr1
   obtain ⟨v2, m2, hi2⟩ := hc2 y _ hr2
   have l1 := (hb0.cell (p := ad2.add x) (by rw [block_add]; exact hb2)).trans m1
   have l2 := (hb0.cell (p := ad2.add y) (by rw [block_add]; exact hb2)).trans m2
   obtain ⟨ad3, c3, rfl, i1, i2, i3, i4, i5, i6⟩ := triple_cells (hi1.below hb0)
   obtain ⟨ad4, c4, rfl, j1, j2, j3, j4, j5, j6⟩ := triple_cells (hi2.below hb0)
   have HA := Lib.hid (show arcR false rs x y ↔ a0 < b0 by
    unfold arcR upR aroundR
    rw [getD_of hr1, getD_of hr2]
    simp)
   have GX := Lib.hid hx
   clear hc hc2 hu hr' m1 m2 hi1 hi2 o1 o2 o3 o4 hx hr1 hr2
   have hbad : ¬ arcR false rs x y → propB (ArcsTo false rs xss xss.length) = false := fun hn => propB_f (fun h => hn (h k2 x y hlt2 GX.out))
   have HB := Lib.hid hbad; clear hbad
   by_cases q0 : a0 < b0
   ·
    have t9 : decide (b0 ≤ a0) = false := decide_eq_false (by omega)
    go_wp2_with fail
    go_quiet (fail)
    go_wp2_with fail
    go_roundw
    case rel => exact ⟨k2 + 1, _, by omega, by go_num, HT.out.next GX.out (HA.out.2 q0), rfl⟩
    case measure => simp [intOf]; omega
   ·
    have t9 : decide (b0 ≤ a0) = true := decide_eq_true (by omega)
    have HQ := Lib.hid q0
    go_wp2_with fail
    go_quiet (fail)
    go_wp2_with fail
    go_ret
    exact ⟨ret_bool (HB.out (fun h => by have := HQ.out; have := HA.out.1 h; omega)).symm, bl_drewN (bl_drewN hb0 _) _⟩
  ·
   go_wp2_with fail
   go_ret
   exact ⟨ret_bool (propB_t (fun i x y hi => HT.out i x y (by omega))).symm, bl_drewN hb0 _⟩
end Go.Proofs.YtcfbkickiijjkaaGreatDoor
