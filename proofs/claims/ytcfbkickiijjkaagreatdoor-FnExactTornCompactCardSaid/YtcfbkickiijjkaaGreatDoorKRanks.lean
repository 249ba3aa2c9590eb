/-
  Ranks that show that walks lead upwards or go around: waRanked, waAbove and ranksOk, for every good walk problem.
-/
import Derived.Test.YtcfbkickiijjkaaGreatDoorRows
import Derived.Test.YtcfbkickiijjkaaGreatDoorKZ
import Derived.WalkKit
import Derived.WalkSpells
import Derived.WalkLawsBesides
import Derived.Lib.Hide
import Derived.Deep.QuietTactic
import Derived.BigQuiet
namespace Go.Proofs.YtcfbkickiijjkaaGreatDoor
open Go.RowKit
set_option linter.unusedVariables false
def rankOk (r : List Int) : Prop := r.length = 3 ∧ allB r 0 1000 = true
def ShapeTo (rs : List (List Int)) (k : Nat) : Prop := ∀ i r, i < k → rs[i]? = some r → rankOk r
theorem ShapeTo.next {rs : List (List Int)} {k : Nat} {r : List Int} (h : ShapeTo rs k) (hr : rs[k]? = some r) (h1 : r.length = 3) (h2 : allB r 0 1000 = true) : ShapeTo rs (k + 1) := by
  intro i x hi hx
  by_cases e : i = k
  · subst e; rw [hr] at hx; cases hx; exact ⟨h1, h2⟩
  · exact h i x (by omega) hx
def upR (r s : List Int) : Prop := r.getD 0 0 < s.getD 0 0
def aroundR (r s : List Int) : Prop := r.getD 0 0 = s.getD 0 0 ∧ r.getD 1 0 = s.getD 1 0 ∧ 2 ≤ r.getD 1 0 ∧ Int.tmod (s.getD 2 0 - r.getD 2 0 - 1) (r.getD 1 0) = 0
def arcR (ar : Bool) (rs : List (List Int)) (x y : Nat) : Prop := upR (rs.getD x []) (rs.getD y []) ∨ (ar = true ∧ aroundR (rs.getD x []) (rs.getD y []))
def ArcsTo (ar : Bool) (rs xss : List (List Int)) (k : Nat) : Prop := ∀ i (x y : Nat), i < k → xss[i]? = some [(x : Int), (y : Int)] → arcR ar rs x y
theorem ArcsTo.next {ar : Bool} {rs xss : List (List Int)} {k x y : Nat} (h : ArcsTo ar rs xss k) (hx : xss[k]? = some [(x : Int), (y : Int)]) (ha : arcR ar rs x y) : ArcsTo ar rs xss (k + 1) := by
  intro i x' y' hi hx'
  by_cases e : i = k
  · subst e
    rw [hx] at hx'
    simp at hx'
    obtain ⟨e1, e2⟩ := hx'
    obtain rfl : x = x' := by omega
    obtain rfl : y = y' := by omega
    exact ha
  · exact h i x' y' (by omega) hx'
def RanksP (ar : Bool) (n : Nat) (xss rs : List (List Int)) : Prop := rs.length = n ∧ ShapeTo rs rs.length ∧ ArcsTo ar rs xss xss.length
theorem RanksP.above (n : Nat) (xss rs : List (List Int)) : RanksP false n xss rs ↔ RanksP true n xss rs ∧ ArcsTo false rs xss xss.length := by
  constructor
  · rintro ⟨h1, h2, h3⟩
    refine ⟨⟨h1, h2, fun i x y hi hx => ?_⟩, h3⟩
    rcases h3 i x y hi hx with h | ⟨h, _⟩
    · exact .inl h
    · cases h
  · rintro ⟨⟨h1, h2, _⟩, h3⟩; exact ⟨h1, h2, h3⟩
theorem triple {r : List Int} (h : r.length = 3) : ∃ a b c : Int, r = [a, b, c] := by
  match r, h with
  | [a, b, c], _ => exact ⟨a, b, c, rfl⟩
theorem triple_cells {w : World} {B : Nat} {u : Value} {a b c : Int} (h : IntsR w B u [a, b, c]) :
    ∃ ad c', u = .slice (some ad) 3 c' ∧ 3 ≤ c' ∧ c' ≤ maxLen ∧ ad.block < B ∧ w.cell? ad = some (.int .i64 a) ∧ w.cell? ⟨ad.block, ad.off + 1, none⟩ = some (.int .i64 b) ∧ w.cell? ⟨ad.block, ad.off + 2, none⟩ = some (.int .i64 c) := by
  obtain ⟨A, c', rfl, h1, h2, h3⟩ := h.open_
  obtain ⟨ad, rfl, hb, hc⟩ := h3 (by simp)
  have k0 := hc 0 _ rfl
  have k1 := hc 1 _ rfl
  have k2 := hc 2 _ rfl
  have e0 : ad.add 0 = ad := by unfold Addr.add; simp
  have e1 : ad.add 1 = ⟨ad.block, ad.off + 1, none⟩ := by unfold Addr.add; simp
  have e2 : ad.add 2 = ⟨ad.block, ad.off + 2, none⟩ := by unfold Addr.add; simp
  rw [e0] at k0; rw [e1] at k1; rw [e2] at k2
  exact ⟨ad, c', rfl, h1, h2, hb, k0, k1, k2⟩
theorem pair_cells {w : World} {B : Nat} {u : Value} {a b : Int} (h : IntsR w B u [a, b]) :
    ∃ ad c', u = .slice (some ad) 2 c' ∧ 2 ≤ c' ∧ c' ≤ maxLen ∧ ad.block < B ∧ w.cell? ad = some (.int .i64 a) ∧ w.cell? ⟨ad.block, ad.off + 1, none⟩ = some (.int .i64 b) := by
  obtain ⟨A, c', rfl, h1, h2, h3⟩ := h.open_
  obtain ⟨ad, rfl, hb, hc⟩ := h3 (by simp)
  have k0 := hc 0 _ rfl
  have k1 := hc 1 _ rfl
  have e0 : ad.add 0 = ad := by unfold Addr.add; simp
  have e1 : ad.add 1 = ⟨ad.block, ad.off + 1, none⟩ := by unfold Addr.add; simp
  rw [e0] at k0; rw [e1] at k1
  exact ⟨ad, c', rfl, h1, h2, hb, k0, k1⟩
theorem getD_of {rs : List (List Int)} {x : Nat} {r : List Int} (h : rs[x]? = some r) : rs.getD x [] = r := by simp [List.getD, h]
def ShRel (rs : List (List Int)) (w : World) (i : Value) (wr : World) : Prop := ∃ k : Nat, k ≤ rs.length ∧ i = .int .i64 k ∧ ShapeTo rs k ∧ Below w.heap.size w wr
def ArRel (ar : Bool) (rs xss : List (List Int)) (w : World) (i : Value) (wr : World) : Prop := ∃ k m : Nat, k ≤ xss.length ∧ i = .int .i64 k ∧ ArcsTo ar rs xss k ∧ wr = w.drewN m
def ShRel0 (rs : List (List Int)) (w w0 : World) (i : Value) (wr : World) : Prop := w0 = wr ∧ ShRel rs w i wr
set_option maxRecDepth 100000 in
set_option maxHeartbeats 1000000 in
theorem spec_waRanked (n : Nat) (v u : Value) (xss rs : List (List Int)) (w : World) (h : RowsR w w.heap.size v xss) (hu : RowsR w w.heap.size u rs) (hg : Good n xss) :
  Calls Tryz.prog 150 #[.agg #[.int .i64 (n : Int), v], u] w fun e w' => e = .returned (.bool (propB (RanksP true n xss rs))) ∧ Below w.heap.size w w' := by
 have hn : (1 : Int) ≤ n ∧ (n : Int) ≤ 12 := by have := hg.1; unfold inB at this; simpa using this
 have HS := Lib.hid hg.small
 have HG := Lib.hid hg.2
 obtain ⟨A, c, rfl, h1, h2, h3⟩ := h.open_
 obtain ⟨A2, c2, rfl, f1, f2, f3⟩ := hu.open_
 unfold maxLen at h2 f2
 clear h hg hu
 have H3 := Lib.hid h3; clear h3
 have F3 := Lib.hid f3; clear f3
 have hb0 := bl_alloc (Below.refl w.heap.size w) (.cells #[.int .i64 (n : Int), .slice A xss.length c] 50)
 have hc1 : (w.alloc (.cells #[.int .i64 (n : Int), .slice A xss.length c] 50)).cell? ⟨w.heap.size, 1, none⟩ = some (.slice A xss.length c) := by rw [World.cell?_alloc_at _ _ _ _ rfl]; rfl
 have HC1 := Lib.hid hc1; clear hc1
 by_cases hr : rs.length = n
 ·
  have t0 : ((rs.length : Int) != (n : Int)) = false := by rw [hr]; simp
  have HR := Lib.hid hr; clear hr
  go_enter Tryz.func150, Tryz.ntmps150
  go_wp2_with fail
  generalize w.alloc (.cells #[.int .i64 (n : Int), .slice A xss.length c] 50) = w0 at *
  clear t0
  go_loopw [6, 19] (fun _ i wr => ShRel0 rs w w0 i wr) (fun _ i _ => rs.length - (intOf i).toNat)
  case atStart => exact ⟨rfl, 0, Nat.zero_le _, rfl, (fun i r hi => absurd hi (by omega)), hb0⟩
  case round =>
   obtain ⟨rfl, k, hk, rfl, hup, hbl⟩ := hrel
   have HU := Lib.hid hup; clear hup
   by_cases hlt : k < rs.length
   ·
    obtain ⟨xs, hx⟩ : ∃ x, rs[k]? = some x := ⟨rs[k], List.getElem?_eq_getElem hlt⟩
    obtain ⟨ad, rfl, hb, hc⟩ := F3.out (by omega)
    obtain ⟨u, hu, hr⟩ := hc k _ hx
    have hcell := (hbl.cell (p := ad.add k) (by rw [block_add]; exact hb)).trans hu
    have HV := Lib.hid ((hr.below hbl).more hbl.size)
    obtain ⟨A1, c1, rfl, g1, g2, g3⟩ := (hr.below hbl).open_
    clear hc hr hu g3
    have GX := Lib.hid hx; clear hx
    by_cases q : xs.length = 3
    ·
     have t0 : ((xs.length : Int) != 3) = false := by rw [q]; rfl
     have HQ := Lib.hid q
     clear q
     go_wp2_with fail
     refine (spec_l1All _ xs 0 1000 _ HV.out).mono ?_
     rintro e w1 ⟨rfl, rfl⟩
     cases q2 : allB xs 0 1000 with
     | true =>
      go_wp2_with fail
      go_roundw
      case rel => exact ⟨rfl, k + 1, by omega, by go_num, HU.out.next GX.out HQ.out q2, hbl⟩
      case measure => simp [intOf]; omega
     | false =>
      go_wp2_with fail
      go_ret
      exact ⟨ret_bool (propB_f (fun h => by have := (h.2.1 k xs hlt GX.out).2; rw [q2] at this; cases this)).symm, hbl⟩
    ·
     have t0 : ((xs.length : Int) != 3) = true := by rw [bne_iff_ne]; omega
     have HQ := Lib.hid q
     go_wp2_with fail
     go_ret
     exact ⟨ret_bool (propB_f (fun h => HQ.out (h.2.1 k xs hlt GX.out).1)).symm, hbl⟩
   ·
    have hx1 := HC1.out
    have HSH := Lib.hid (show ShapeTo rs rs.length from fun i r hi => HU.out i r (by omega))
    go_wp2_with fail
    clear hx1
    go_loopw [8, 35] (fun _ i wr => ArRel true rs xss w0 i wr) (fun _ i _ => xss.length - (intOf i).toNat)
    case atStart => exact ⟨0, 0, Nat.zero_le _, rfl, (fun i x y hi => absurd hi (by omega)), rfl⟩
    case round =>
     obtain ⟨k2, m, hk2, rfl, hup, rfl⟩ := hrel
     have HT := Lib.hid hup; clear hup
     by_cases hlt2 : k2 < xss.length
     ·
      obtain ⟨xs, hx⟩ : ∃ x, xss[k2]? = some x := ⟨xss[k2], List.getElem?_eq_getElem hlt2⟩
      obtain ⟨x, y, rfl, hx1, hy1⟩ := small_pair (HS.out xs (List.mem_of_getElem? hx))
      obtain ⟨ad, rfl, hb, hc⟩ := H3.out (by omega)
      obtain ⟨u, hu, hr'⟩ := hc k2 _ hx
      have hcell := (hbl.cell (p := ad.add k2) (by rw [block_add]; exact hb)).trans hu
      obtain ⟨ad1, c1, rfl, g1, g2, hb1, k0, k1⟩ := pair_cells (hr'.below hbl)
      have hxy : x < n ∧ y < n := by
       obtain ⟨xs', e, _, h4, _⟩ := HG.out k2 hlt2
       rw [hx] at e; cases e
       have h5 := allB_iff.1 h4
       have h6 := h5 x (by simp)
       have h7 := h5 y (by simp)
       omega
      rw [← HR.out] at hxy
      obtain ⟨hxn, hyn⟩ := hxy
      obtain ⟨ad2, rfl, hb2, hc2⟩ := F3.out (by omega)
      obtain ⟨r1, hr1⟩ : ∃ r, rs[x]? = some r := ⟨rs[x]'(by omega), List.getElem?_eq_getElem (by omega)⟩
      obtain ⟨r2, hr2⟩ : ∃ r, rs[y]? = some r := ⟨rs[y]'(by omega), List.getElem?_eq_getElem (by omega)⟩
      have o1 := HSH.out x r1 (by omega) hr1
      have o2 := HSH.out y r2 (by omega) hr2
      obtain ⟨a0, a1, a2, rfl⟩ := triple o1.1
      obtain ⟨b0, b1, b2, rfl⟩ := triple o2.1
      have o3 := allB_iff.1 o1.2
      have o4 := allB_iff.1 o2.2
      have p0 := o3 a0 (by simp)
      have p1 := o3 a1 (by simp)
      have p2 := o3 a2 (by simp)
      have p3 := o4 b0 (by simp)
      have p4 := o4 b1 (by simp)
      have p5 := o4 b2 (by simp)
      obtain ⟨v1, m1, hi1⟩ := hc2 x _ hr1
      obtain ⟨v2, m2, hi2⟩ := hc2 y _ hr2
      have l1 := (hbl.cell (p := ad2.add x) (by rw [block_add]; exact hb2)).trans m1
      have l2 := (hbl.cell (p := ad2.add y) (by rw [block_add]; exact hb2)).trans m2
      obtain ⟨ad3, c3, rfl, i1, i2, i3, i4, i5, i6⟩ := triple_cells (hi1.below hbl)
      obtain ⟨ad4, c4, rfl, j1, j2, j3, j4, j5, j6⟩ := triple_cells (hi2.below hbl)
      have HA := Lib.hid (show arcR true rs x y ↔ (a0 < b0 ∨ a0 = b0 ∧ a1 = b1 ∧ 2 ≤ a1 ∧ Int.tmod (b2 - a2 - 1) a1 = 0) by
       unfold arcR upR aroundR
       rw [getD_of hr1, getD_of hr2]
       simp)
      have GX := Lib.hid hx
      clear hc hc2 hu hr' m1 m2 hi1 hi2 o1 o2 o3 o4 hx hr1 hr2
      have hbad : ¬ arcR true rs x y → propB (RanksP true n xss rs) = false := fun hn => propB_f (fun h => hn (h.2.2 k2 x y hlt2 GX.out))
      have HB := Lib.hid hbad; clear hbad
      by_cases q0 : a0 < b0
      ·
       have t0 : (a0 == b0) = false := by rw [beq_eq_false_iff_ne]; omega
       have t9 : decide (b0 ≤ a0) = false := decide_eq_false (by omega)
       go_wp2_with fail
       go_quiet (fail)
       go_wp2_with fail
       go_quiet (fail)
       go_wp2_with fail
       go_quiet (fail)
       go_wp2_with fail
       go_roundw
       case rel => exact ⟨k2 + 1, _, by omega, by go_num, HT.out.next GX.out (HA.out.2 (.inl q0)), rfl⟩
       case measure => simp [intOf]; omega
      ·
       by_cases q1 : a0 = b0
       ·
        have t0 : (a0 == b0) = true := by rw [beq_iff_eq]; exact q1
        have t9 : decide (b0 ≤ a0) = true := decide_eq_true (by omega)
        by_cases q2 : a1 = b1
        ·
         have t1 : (a1 == b1) = true := by rw [beq_iff_eq]; exact q2
         by_cases q3 : 2 ≤ a1
         ·
          have t2 : decide (2 ≤ a1) = true := decide_eq_true q3
          have t3 : (a1 == 0) = false := by rw [beq_eq_false_iff_ne]; omega
          have hm1 : Int.tmod (b2 - a2 - 1) a1 < a1 := Int.tmod_lt_of_pos _ (by omega)
          have hm2 : -a1 < Int.tmod (b2 - a2 - 1) a1 := by
           have := Int.lt_tmod_of_pos (b2 - a2 - 1) (show 0 < a1 by omega)
           omega
          have HQ := Lib.hid (And.intro q1 (And.intro q2 q3))
          clear q0 q1 q2
          by_cases q4 : Int.tmod (b2 - a2 - 1) a1 = 0
          ·
           have t4 : (Int.tmod (b2 - a2 - 1) a1 != 0) = false := by rw [q4]; rfl
           have HQ4 := Lib.hid q4; clear q4
           go_wp2_with fail
           go_quiet (fail)
           go_wp2_with fail
           go_quiet (fail)
           go_wp2_with fail
           go_quiet (fail)
           go_wp2_with fail
           go_roundw
           case rel => exact ⟨k2 + 1, _, by omega, by go_num, HT.out.next GX.out (HA.out.2 (.inr ⟨HQ.out.1, HQ.out.2.1, HQ.out.2.2, HQ4.out⟩)), rfl⟩
           case measure => simp [intOf]; omega
          ·
           have t4 : (Int.tmod (b2 - a2 - 1) a1 != 0) = true := by rw [bne_iff_ne]; exact q4
           have HQ4 := Lib.hid q4; clear q4
           go_wp2_with fail
           go_quiet (fail)
           go_wp2_with fail
           go_quiet (fail)
           go_wp2_with fail
           go_quiet (fail)
           go_wp2_with fail
           go_ret
           refine ⟨ret_bool (HB.out (fun h => ?_)).symm, bl_drewN (bl_drewN (bl_drewN (bl_drewN hbl _) _) _) _⟩
           rcases HA.out.1 h with h | h
           ·
            have := HQ.out.1; omega
           ·
            exact HQ4.out h.2.2.2
         ·
          have t2 : decide (2 ≤ a1) = false := decide_eq_false q3
          have HQ := Lib.hid (And.intro q0 q3)
          clear q0 q1 q2
          go_wp2_with fail
          go_quiet (fail)
          go_wp2_with fail
          go_quiet (fail)
          go_wp2_with fail
          go_quiet (fail)
          go_wp2_with fail
          go_ret
          refine ⟨ret_bool (HB.out (fun h => ?_)).symm, bl_drewN (bl_drewN (bl_drewN (bl_drewN hbl _) _) _) _⟩
          rcases HA.out.1 h with h | h
          ·
           have := HQ.out.1; omega
          ·
           have := HQ.out.2; have := h.2.2.1; omega
        ·
         have t1 : (a1 == b1) = false := by rw [beq_eq_false_iff_ne]; exact q2
         have HQ := Lib.hid (And.intro q0 q2)
         clear q0 q1
         go_wp2_with fail
         go_quiet (fail)
         go_wp2_with fail
         go_quiet (fail)
         go_wp2_with fail
         go_quiet (fail)
         go_wp2_with fail
         go_ret
         refine ⟨ret_bool (HB.out (fun h => ?_)).symm, bl_drewN (bl_drewN (bl_drewN (bl_drewN hbl _) _) _) _⟩
         rcases HA.out.1 h with h | h
         ·
          have := HQ.out.1; omega
         ·
          exact HQ.out.2 h.2.1
       ·
        have t0 : (a0 == b0) = false := by rw [beq_eq_false_iff_ne]; omega
        have t9 : decide (b0 ≤ a0) = true := decide_eq_true (by omega)
        have HQ := Lib.hid (And.intro q0 q1)
        go_wp2_with fail
        go_quiet (fail)
        go_wp2_with fail
        go_quiet (fail)
        go_wp2_with fail
        go_quiet (fail)
        go_wp2_with fail
        go_ret
        refine ⟨ret_bool (HB.out (fun h => ?_)).symm, bl_drewN (bl_drewN (bl_drewN (bl_drewN hbl _) _) _) _⟩
        rcases HA.out.1 h with h | h
        ·
         have := HQ.out.1; omega
        ·
         exact HQ.out.2 h.1
     ·
      go_wp2_with fail
      go_ret
      exact ⟨ret_bool (propB_t ⟨HR.out, HSH.out, fun i x y hi => HT.out i x y (by omega)⟩).symm, bl_drewN hbl _⟩
 ·
  have t0 : ((rs.length : Int) != (n : Int)) = true := by rw [bne_iff_ne]; omega
  have HR := Lib.hid hr
  go_enter Tryz.func150, Tryz.ntmps150
  go_wp2_with fail
  go_ret
  exact ⟨ret_bool (propB_f (fun h => HR.out h.1)).symm, hb0⟩
end Go.Proofs.YtcfbkickiijjkaaGreatDoor
