/-
  Ranks that show that walks lead upwards or go around: waRanked, waAbove and ranksOk, for every good walk problem.
  Ranks that grow along all arcs: waAbove, for every good walk problem and ranks of the right shape.
  The program's ranksOk, for every good walk problem.
  Certificates of walk problems: the form, and the reference's waCheck, for every good walk problem.
-/
import Derived.Test.YtjhljipehnmbnaaGreatRows
import Derived.Test.YtjhljipehnmbnaaGreatKit
import Derived.Test.YtjhljipehnmbnaaGreatMem
import Derived.Test.YtjhljipehnmbnaaGreatArgs
import Derived.Test.YtjhljipehnmbnaaGreatLists
import Derived.Test.YtjhljipehnmbnaaGreatWithin
import Derived.Test.YtjhljipehnmbnaaGreatGood
import Derived.Test.YtjhljipehnmbnaaGreatSmallA
import Derived.WalkKit
import Derived.WalkSpells
import Derived.WalkLawsBesides
import Derived.Lib.Hide
import Derived.Deep.QuietTactic
import Derived.BigQuiet
import Derived.Test.YtjhljipehnmbnaaGreatBasic
import Derived.Test.YtjhljipehnmbnaaGreatAfter
import Derived.Test.YtjhljipehnmbnaaGreatClosed
import Derived.Test.YtjhljipehnmbnaaGreatMay
import Derived.Test.YtjhljipehnmbnaaGreatSpecWalk
import Derived.Deep.RegionHeld3
namespace Go.Proofs.YtjhljipehnmbnaaGreat
section
open Go.RowKit
set_option linter.unusedVariables false

def rankOk (r : List Int) : Prop := r.length = 3 ∧ allB r 0 1000 = true
def ShapeTo (rs : List (List Int)) (k : Nat) : Prop := ∀ i r, i < k → rs[i]? = some r → rankOk r
theorem ShapeTo.next {rs : List (List Int)} {k : Nat} {r : List Int} (h : ShapeTo rs k) (hr : rs[k]? = some r) (h1 : r.length = 3) (h2 : allB r 0 1000 = true) : ShapeTo rs (k + 1) := by
  intro i x hi hx
  by_cases e : i = k
  · subst e; rw [hr] at hx; cases hx; exact ⟨h1, h2⟩
  · exact h i x (by omega) hx
def upR (r s : List Int) : Prop := r.getD 0 0 < s.getD 0 0
def aroundR (r s : List Int) : Prop := r.getD 0 0 = s.getD 0 0 ∧ r.getD 1 0 = s.getD 1 0 ∧ 2 ≤ r.getD 1 0 ∧ Int.tmod (s.getD 2 0 - r.getD 2 0 - 1) (r.getD 1 0) = 0
def arcR (ar : Bool) (rs : List (List Int)) (x y : Nat) : Prop := upR (rs.getD x []) (rs.getD y []) ∨ (ar = true ∧ aroundR (rs.getD x []) (rs.getD y []))
def ArcsTo (ar : Bool) (rs xss : List (List Int)) (k : Nat) : Prop := ∀ i (x y : Nat), i < k → xss[i]? = some [(x : Int), (y : Int)] → arcR ar rs x y
theorem ArcsTo.next {ar : Bool} {rs xss : List (List Int)} {k x y : Nat} (h : ArcsTo ar rs xss k) (hx : xss[k]? = some [(x : Int), (y : Int)]) (ha : arcR ar rs x y) : ArcsTo ar rs xss (k + 1) := by
  intro i x' y' hi hx'
  by_cases e : i = k
  · subst e
    rw [hx] at hx'
    simp at hx'
    obtain ⟨e1, e2⟩ := hx'
    obtain rfl : x = x' := by omega
    obtain rfl : y = y' := by omega
    exact ha
  · exact h i x' y' (by omega) hx'
def RanksP (ar : Bool) (n : Nat) (xss rs : List (List Int)) : Prop := rs.length = n ∧ ShapeTo rs rs.length ∧ ArcsTo ar rs xss xss.length
theorem RanksP.above (n : Nat) (xss rs : List (List Int)) : RanksP false n xss rs ↔ RanksP true n xss rs ∧ ArcsTo false rs xss xss.length := by
  constructor
  · rintro ⟨h1, h2, h3⟩
    refine ⟨⟨h1, h2, fun i x y hi hx => ?_⟩, h3⟩
    rcases h3 i x y hi hx with h | ⟨h, _⟩
    · exact .inl h
    · cases h
  · rintro ⟨⟨h1, h2, _⟩, h3⟩; exact ⟨h1, h2, h3⟩
theorem triple {r : List Int} (h : r.length = 3) : ∃ a b c : Int, r = [a, b, c] := by
  match r, h with
  | [a, b, c], _ => exact ⟨a, b, c, rfl⟩
theorem triple_cells {w : World} {B : Nat} {u : Value} {a b c : Int} (h : IntsR w B u [a, b, c]) :
    ∃ ad c', u = .slice (some ad) 3 c' ∧ 3 ≤ c' ∧ c' ≤ maxLen ∧ ad.block < B ∧ w.cell? ad = some (.int .i64 a) ∧ w.cell? ⟨ad.block, ad.off + 1, none⟩ = some (.int .i64 b) ∧ w.cell? ⟨ad.block, ad.off + 2, none⟩ = some (.int .i64 c) := by
  obtain ⟨A, c', rfl, h1, h2, h3⟩ := h.open_
  obtain ⟨ad, rfl, hb, hc⟩ := h3 (by simp)
  have k0 := hc 0 _ rfl
  have k1 := hc 1 _ rfl
  have k2 := hc 2 _ rfl
  have e0 : ad.add 0 = ad := by unfold Addr.add; simp
  have e1 : ad.add 1 = ⟨ad.block, ad.off + 1, none⟩ := by unfold Addr.add; simp
  have e2 : ad.add 2 = ⟨ad.block, ad.off + 2, none⟩ := by unfold Addr.add; simp
  rw [e0] at k0; rw [e1] at k1; rw [e2] at k2
  exact ⟨ad, c', rfl, h1, h2, hb, k0, k1, k2⟩
theorem pair_cells {w : World} {B : Nat} {u : Value} {a b : Int} (h : IntsR w B u [a, b]) :
    ∃ ad c', u = .slice (some ad) 2 c' ∧ 2 ≤ c' ∧ c' ≤ maxLen ∧ ad.block < B ∧ w.cell? ad = some (.int .i64 a) ∧ w.cell? ⟨ad.block, ad.off + 1, none⟩ = some (.int .i64 b) := by
  obtain ⟨A, c', rfl, h1, h2, h3⟩ := h.open_
  obtain ⟨ad, rfl, hb, hc⟩ := h3 (by simp)
  have k0 := hc 0 _ rfl
  have k1 := hc 1 _ rfl
  have e0 : ad.add 0 = ad := by unfold Addr.add; simp
  have e1 : ad.add 1 = ⟨ad.block, ad.off + 1, none⟩ := by unfold Addr.add; simp
  rw [e0] at k0; rw [e1] at k1
  exact ⟨ad, c', rfl, h1, h2, hb, k0, k1⟩
theorem getD_of {rs : List (List Int)} {x : Nat} {r : List Int} (h : rs[x]? = some r) : rs.getD x [] = r := by simp [List.getD, h]
def ShRel (rs : List (List Int)) (w : World) (i : Value) (wr : World) : Prop := ∃ k : Nat, k ≤ rs.length ∧ i = .int .i64 k ∧ ShapeTo rs k ∧ Below w.heap.size w wr
def ArRel (ar : Bool) (rs xss : List (List Int)) (w : World) (i : Value) (wr : World) : Prop := ∃ k m : Nat, k ≤ xss.length ∧ i = .int .i64 k ∧ ArcsTo ar rs xss k ∧ wr = w.drewN m
theorem drew2 (w : World) (a b : Nat) : (w.drewN a).drewN b = w.drewN (a + b) := by simp
theorem drew3 (w : World) (a b c : Nat) : ((w.drewN a).drewN b).drewN c = w.drewN (a + b + c) := by simp
theorem drew4 (w : World) (a b c d : Nat) : (((w.drewN a).drewN b).drewN c).drewN d = w.drewN (a + b + c + d) := by simp
def ShRel0 (rs : List (List Int)) (w w0 : World) (i : Value) (wr : World) : Prop := w0 = wr ∧ ShRel rs w i wr
set_option maxRecDepth 100000 in
set_option maxHeartbeats 1000000 in
theorem spec_waRanked (n : Nat) (v u : Value) (xss rs : List (List Int)) (w : World) (h : RowsR w w.heap.size v xss) (hu : RowsR w w.heap.size u rs) (hg : Good n xss) :
    Calls Tryz.prog 71 #[.agg #[.int .i64 (n : Int), v], u] w fun e w' => e = .returned (.bool (propB (RanksP true n xss rs))) ∧ Below w.heap.size w w' := by
  have hn : (1 : Int) ≤ n ∧ (n : Int) ≤ 12 := by have := hg.1; unfold inB at this; simpa using this
  have HS := Lib.hid hg.small
  have HG := Lib.hid hg.2
  obtain ⟨A, c, rfl, h1, h2, h3⟩ := h.open_
  obtain ⟨A2, c2, rfl, f1, f2, f3⟩ := hu.open_
  unfold maxLen at h2 f2
  clear h hg hu
  have H3 := Lib.hid h3; clear h3
  have F3 := Lib.hid f3; clear f3
  have hb0 := bl_alloc (Below.refl w.heap.size w) (.cells #[.int .i64 (n : Int), .slice A xss.length c] 26)
  have hc1 : (w.alloc (.cells #[.int .i64 (n : Int), .slice A xss.length c] 26)).cell? ⟨w.heap.size, 1, none⟩ = some (.slice A xss.length c) := by rw [World.cell?_alloc_at _ _ _ _ rfl]; rfl
  have HC1 := Lib.hid hc1; clear hc1
  by_cases hr : rs.length = n
  · have t0 : ((rs.length : Int) != (n : Int)) = false := by rw [hr]; simp
    have HR := Lib.hid hr; clear hr
    go_enter Tryz.func71, Tryz.ntmps71
    go_wp2_with fail
    generalize w.alloc (.cells #[.int .i64 (n : Int), .slice A xss.length c] 26) = w0 at *
    clear t0
    go_loopw [6, 19] (fun _ i wr => ShRel0 rs w w0 i wr) (fun _ i _ => rs.length - (intOf i).toNat)
    case atStart => exact ⟨rfl, 0, Nat.zero_le _, rfl, (fun i r hi => absurd hi (by omega)), hb0⟩
    case round =>
      obtain ⟨rfl, k, hk, rfl, hup, hbl⟩ := hrel
      have HU := Lib.hid hup; clear hup
      by_cases hlt : k < rs.length
      · obtain ⟨xs, hx⟩ : ∃ x, rs[k]? = some x := ⟨rs[k], List.getElem?_eq_getElem hlt⟩
        obtain ⟨ad, rfl, hb, hc⟩ := F3.out (by omega)
        obtain ⟨u, hu, hr⟩ := hc k _ hx
        have hcell := (hbl.cell (p := ad.add k) (by rw [block_add]; exact hb)).trans hu
        have HV := Lib.hid ((hr.below hbl).more hbl.size)
        obtain ⟨A1, c1, rfl, g1, g2, g3⟩ := (hr.below hbl).open_
        clear hc hr hu g3
        have GX := Lib.hid hx; clear hx
        by_cases q : xs.length = 3
        · have t0 : ((xs.length : Int) != 3) = false := by rw [q]; rfl
          have HQ := Lib.hid q
          clear q
          go_wp2_with fail
          refine (spec_l1All _ xs 0 1000 _ HV.out).mono ?_
          rintro e w1 ⟨rfl, rfl⟩
          cases q2 : allB xs 0 1000 with
          | true =>
            go_wp2_with fail
            go_roundw
            case rel => exact ⟨rfl, k + 1, by omega, by go_num, HU.out.next GX.out HQ.out q2, hbl⟩
            case measure => simp [intOf]; omega
          | false =>
            go_wp2_with fail
            go_ret
            exact ⟨ret_bool (propB_f (fun h => by have := (h.2.1 k xs hlt GX.out).2; rw [q2] at this; cases this)).symm, hbl⟩
        · have t0 : ((xs.length : Int) != 3) = true := by rw [bne_iff_ne]; omega
          have HQ := Lib.hid q
          go_wp2_with fail
          go_ret
          exact ⟨ret_bool (propB_f (fun h => HQ.out (h.2.1 k xs hlt GX.out).1)).symm, hbl⟩
      · have hx1 := HC1.out
        have HSH := Lib.hid (show ShapeTo rs rs.length from fun i r hi => HU.out i r (by omega))
        go_wp2_with fail
        clear hx1
        go_loopw [8, 35] (fun _ i wr => ArRel true rs xss w0 i wr) (fun _ i _ => xss.length - (intOf i).toNat)
        case atStart => exact ⟨0, 0, Nat.zero_le _, rfl, (fun i x y hi => absurd hi (by omega)), rfl⟩
        case round =>
          obtain ⟨k2, m, hk2, rfl, hup, rfl⟩ := hrel
          have HT := Lib.hid hup; clear hup
          by_cases hlt2 : k2 < xss.length
          · obtain ⟨xs, hx⟩ : ∃ x, xss[k2]? = some x := ⟨xss[k2], List.getElem?_eq_getElem hlt2⟩
            obtain ⟨x, y, rfl, hx1, hy1⟩ := small_pair (HS.out xs (List.mem_of_getElem? hx))
            obtain ⟨ad, rfl, hb, hc⟩ := H3.out (by omega)
            obtain ⟨u, hu, hr'⟩ := hc k2 _ hx
            have hcell := (hbl.cell (p := ad.add k2) (by rw [block_add]; exact hb)).trans hu
            obtain ⟨ad1, c1, rfl, g1, g2, hb1, k0, k1⟩ := pair_cells (hr'.below hbl)
            have hxy : x < n ∧ y < n := by
              obtain ⟨xs', e, _, h4, _⟩ := HG.out k2 hlt2
              rw [hx] at e; cases e
              have h5 := allB_iff.1 h4
              have h6 := h5 x (by simp)
              have h7 := h5 y (by simp)
              omega
            rw [← HR.out] at hxy
            obtain ⟨hxn, hyn⟩ := hxy
            obtain ⟨ad2, rfl, hb2, hc2⟩ := F3.out (by omega)
            obtain ⟨r1, hr1⟩ : ∃ r, rs[x]? = some r := ⟨rs[x]'(by omega), List.getElem?_eq_getElem (by omega)⟩
            obtain ⟨r2, hr2⟩ : ∃ r, rs[y]? = some r := ⟨rs[y]'(by omega), List.getElem?_eq_getElem (by omega)⟩
            have o1 := HSH.out x r1 (by omega) hr1
            have o2 := HSH.out y r2 (by omega) hr2
            obtain ⟨a0, a1, a2, rfl⟩ := triple o1.1
            obtain ⟨b0, b1, b2, rfl⟩ := triple o2.1
            have o3 := allB_iff.1 o1.2
            have o4 := allB_iff.1 o2.2
            have p0 := o3 a0 (by simp)
            have p1 := o3 a1 (by simp)
            have p2 := o3 a2 (by simp)
            have p3 := o4 b0 (by simp)
            have p4 := o4 b1 (by simp)
            have p5 := o4 b2 (by simp)
            obtain ⟨v1, m1, hi1⟩ := hc2 x _ hr1
            obtain ⟨v2, m2, hi2⟩ := hc2 y _ hr2
            have l1 := (hbl.cell (p := ad2.add x) (by rw [block_add]; exact hb2)).trans m1
            have l2 := (hbl.cell (p := ad2.add y) (by rw [block_add]; exact hb2)).trans m2
            obtain ⟨ad3, c3, rfl, i1, i2, i3, i4, i5, i6⟩ := triple_cells (hi1.below hbl)
            obtain ⟨ad4, c4, rfl, j1, j2, j3, j4, j5, j6⟩ := triple_cells (hi2.below hbl)
            have HA := Lib.hid (show arcR true rs x y ↔ (a0 < b0 ∨ a0 = b0 ∧ a1 = b1 ∧ 2 ≤ a1 ∧ Int.tmod (b2 - a2 - 1) a1 = 0) by
              unfold arcR upR aroundR
              rw [getD_of hr1, getD_of hr2]
              simp)
            have GX := Lib.hid hx
            clear hc hc2 hu hr' m1 m2 hi1 hi2 o1 o2 o3 o4 hx hr1 hr2
            have hbad : ¬ arcR true rs x y → propB (RanksP true n xss rs) = false := fun hn => propB_f (fun h => hn (h.2.2 k2 x y hlt2 GX.out))
            have HB := Lib.hid hbad; clear hbad
            by_cases q0 : a0 < b0
            · have t0 : (a0 == b0) = false := by rw [beq_eq_false_iff_ne]; omega
              have t9 : decide (b0 ≤ a0) = false := decide_eq_false (by omega)
              go_wp2_with fail
              go_quiet (fail)
              go_wp2_with fail
              go_quiet (fail)
              go_wp2_with fail
              go_quiet (fail)
              go_wp2_with fail
              go_roundw
              case rel => exact ⟨k2 + 1, _, by omega, by go_num, HT.out.next GX.out (HA.out.2 (.inl q0)), rfl⟩
              case measure => simp [intOf]; omega
            · by_cases q1 : a0 = b0
              · have t0 : (a0 == b0) = true := by rw [beq_iff_eq]; exact q1
                have t9 : decide (b0 ≤ a0) = true := decide_eq_true (by omega)
                by_cases q2 : a1 = b1
                · have t1 : (a1 == b1) = true := by rw [beq_iff_eq]; exact q2
                  by_cases q3 : 2 ≤ a1
                  · have t2 : decide (2 ≤ a1) = true := decide_eq_true q3
                    have t3 : (a1 == 0) = false := by rw [beq_eq_false_iff_ne]; omega
                    have hm1 : Int.tmod (b2 - a2 - 1) a1 < a1 := Int.tmod_lt_of_pos _ (by omega)
                    have hm2 : -a1 < Int.tmod (b2 - a2 - 1) a1 := by
                      have := Int.lt_tmod_of_pos (b2 - a2 - 1) (show 0 < a1 by omega)
                      omega
                    have HQ := Lib.hid (And.intro q1 (And.intro q2 q3))
                    clear q0 q1 q2
                    by_cases q4 : Int.tmod (b2 - a2 - 1) a1 = 0
                    · have t4 : (Int.tmod (b2 - a2 - 1) a1 != 0) = false := by rw [q4]; rfl
                      have HQ4 := Lib.hid q4; clear q4
                      go_wp2_with fail
                      go_quiet (fail)
                      go_wp2_with fail
                      go_quiet (fail)
                      go_wp2_with fail
                      go_quiet (fail)
                      go_wp2_with fail
                      go_roundw
                      case rel => exact ⟨k2 + 1, _, by omega, by go_num, HT.out.next GX.out (HA.out.2 (.inr ⟨HQ.out.1, HQ.out.2.1, HQ.out.2.2, HQ4.out⟩)), rfl⟩
                      case measure => simp [intOf]; omega
                    · have t4 : (Int.tmod (b2 - a2 - 1) a1 != 0) = true := by rw [bne_iff_ne]; exact q4
                      have HQ4 := Lib.hid q4; clear q4
                      go_wp2_with fail
                      go_quiet (fail)
                      go_wp2_with fail
                      go_quiet (fail)
                      go_wp2_with fail
                      go_quiet (fail)
                      go_wp2_with fail
                      go_ret
                      refine ⟨ret_bool (HB.out (fun h => ?_)).symm, bl_drewN (bl_drewN (bl_drewN (bl_drewN hbl _) _) _) _⟩
                      rcases HA.out.1 h with h | h
                      · have := HQ.out.1; omega
                      · exact HQ4.out h.2.2.2
                  · have t2 : decide (2 ≤ a1) = false := decide_eq_false q3
                    have HQ := Lib.hid (And.intro q0 q3)
                    clear q0 q1 q2
                    go_wp2_with fail
                    go_quiet (fail)
                    go_wp2_with fail
                    go_quiet (fail)
                    go_wp2_with fail
                    go_quiet (fail)
                    go_wp2_with fail
                    go_ret
                    refine ⟨ret_bool (HB.out (fun h => ?_)).symm, bl_drewN (bl_drewN (bl_drewN (bl_drewN hbl _) _) _) _⟩
                    rcases HA.out.1 h with h | h
                    · have := HQ.out.1; omega
                    · have := HQ.out.2; have := h.2.2.1; omega
                · have t1 : (a1 == b1) = false := by rw [beq_eq_false_iff_ne]; exact q2
                  have HQ := Lib.hid (And.intro q0 q2)
                  clear q0 q1
                  go_wp2_with fail
                  go_quiet (fail)
                  go_wp2_with fail
                  go_quiet (fail)
                  go_wp2_with fail
                  go_quiet (fail)
                  go_wp2_with fail
                  go_ret
                  refine ⟨ret_bool (HB.out (fun h => ?_)).symm, bl_drewN (bl_drewN (bl_drewN (bl_drewN hbl _) _) _) _⟩
                  rcases HA.out.1 h with h | h
                  · have := HQ.out.1; omega
                  · exact HQ.out.2 h.2.1
              · have t0 : (a0 == b0) = false := by rw [beq_eq_false_iff_ne]; omega
                have t9 : decide (b0 ≤ a0) = true := decide_eq_true (by omega)
                have HQ := Lib.hid (And.intro q0 q1)
                go_wp2_with fail
                go_quiet (fail)
                go_wp2_with fail
                go_quiet (fail)
                go_wp2_with fail
                go_quiet (fail)
                go_wp2_with fail
                go_ret
                refine ⟨ret_bool (HB.out (fun h => ?_)).symm, bl_drewN (bl_drewN (bl_drewN (bl_drewN hbl _) _) _) _⟩
                rcases HA.out.1 h with h | h
                · have := HQ.out.1; omega
                · exact HQ.out.2 h.1
          · go_wp2_with fail
            go_ret
            exact ⟨ret_bool (propB_t ⟨HR.out, HSH.out, fun i x y hi => HT.out i x y (by omega)⟩).symm, bl_drewN hbl _⟩
  · have t0 : ((rs.length : Int) != (n : Int)) = true := by rw [bne_iff_ne]; omega
    have HR := Lib.hid hr
    go_enter Tryz.func71, Tryz.ntmps71
    go_wp2_with fail
    go_ret
    exact ⟨ret_bool (propB_f (fun h => HR.out h.1)).symm, hb0⟩
end
section
open Go.RowKit
set_option linter.unusedVariables false

set_option maxRecDepth 100000 in
set_option maxHeartbeats 1000000 in
theorem spec_waAbove (n : Nat) (v u : Value) (xss rs : List (List Int)) (w : World) (h : RowsR w w.heap.size v xss) (hu : RowsR w w.heap.size u rs) (hg : Good n xss) (hr : rs.length = n) (hs : ShapeTo rs rs.length) :
    Calls Tryz.prog 72 #[.agg #[.int .i64 (n : Int), v], u] w fun e w' => e = .returned (.bool (propB (ArcsTo false rs xss xss.length))) ∧ Below w.heap.size w w' := by
  have hn : (1 : Int) ≤ n ∧ (n : Int) ≤ 12 := by have := hg.1; unfold inB at this; simpa using this
  have HS := Lib.hid hg.small
  have HG := Lib.hid hg.2
  have HR := Lib.hid hr; clear hr
  have HSH := Lib.hid hs; clear hs
  obtain ⟨A, c, rfl, h1, h2, h3⟩ := h.open_
  obtain ⟨A2, c2, rfl, f1, f2, f3⟩ := hu.open_
  unfold maxLen at h2 f2
  clear h hg hu
  have H3 := Lib.hid h3; clear h3
  have F3 := Lib.hid f3; clear f3
  have hb0 := bl_alloc (Below.refl w.heap.size w) (.cells #[.int .i64 (n : Int), .slice A xss.length c] 26)
  go_enter Tryz.func72, Tryz.ntmps72
  go_wp2_with fail
  generalize w.alloc (.cells #[.int .i64 (n : Int), .slice A xss.length c] 26) = w0 at *
  go_loopw [6, 10] (fun _ i wr => ArRel false rs xss w0 i wr) (fun _ i _ => xss.length - (intOf i).toNat)
  case atStart => exact ⟨0, 0, Nat.zero_le _, rfl, (fun i x y hi => absurd hi (by omega)), rfl⟩
  case round =>
    obtain ⟨k2, m, hk2, rfl, hup, rfl⟩ := hrel
    have HT := Lib.hid hup; clear hup
    by_cases hlt2 : k2 < xss.length
    · obtain ⟨xs, hx⟩ : ∃ x, xss[k2]? = some x := ⟨xss[k2], List.getElem?_eq_getElem hlt2⟩
      obtain ⟨x, y, rfl, hx1, hy1⟩ := small_pair (HS.out xs (List.mem_of_getElem? hx))
      obtain ⟨ad, rfl, hb, hc⟩ := H3.out (by omega)
      obtain ⟨u, hu, hr'⟩ := hc k2 _ hx
      have hcell := (hb0.cell (p := ad.add k2) (by rw [block_add]; exact hb)).trans hu
      obtain ⟨ad1, c1, rfl, g1, g2, hb1, k0, k1⟩ := pair_cells (hr'.below hb0)
      have hxy : x < n ∧ y < n := by
        obtain ⟨xs', e, _, h4, _⟩ := HG.out k2 hlt2
        rw [hx] at e; cases e
        have h5 := allB_iff.1 h4
        have h6 := h5 x (by simp)
        have h7 := h5 y (by simp)
        omega
      rw [← HR.out] at hxy
      obtain ⟨hxn, hyn⟩ := hxy
      obtain ⟨ad2, rfl, hb2, hc2⟩ := F3.out (by omega)
      obtain ⟨r1, hr1⟩ : ∃ r, rs[x]? = some r := ⟨rs[x]'(by omega), List.getElem?_eq_getElem (by omega)⟩
      obtain ⟨r2, hr2⟩ : ∃ r, rs[y]? = some r := ⟨rs[y]'(by omega), List.getElem?_eq_getElem (by omega)⟩
      have o1 := HSH.out x r1 (by omega) hr1
      have o2 := HSH.out y r2 (by omega) hr2
      obtain ⟨a0, a1, a2, rfl⟩ := triple o1.1
      obtain ⟨b0, b1, b2, rfl⟩ := triple o2.1
      have o3 := allB_iff.1 o1.2
      have o4 := allB_iff.1 o2.2
      have p0 := o3 a0 (by simp)
      have p1 := o3 a1 (by simp)
      have p2 := o3 a2 (by simp)
      have p3 := o4 b0 (by simp)
      have p4 := o4 b1 (by simp)
      have p5 := o4 b2 (by simp)
      obtain ⟨v1, m1, hi1⟩ := hc2 x _ hr1
      obtain ⟨v2, m2, hi2⟩ := hc2 y _ hr2
      have l1 := (hb0.cell (p := ad2.add x) (by rw [block_add]; exact hb2)).trans m1
      have l2 := (hb0.cell (p := ad2.add y) (by rw [block_add]; exact hb2)).trans m2
      obtain ⟨ad3, c3, rfl, i1, i2, i3, i4, i5, i6⟩ := triple_cells (hi1.below hb0)
      obtain ⟨ad4, c4, rfl, j1, j2, j3, j4, j5, j6⟩ := triple_cells (hi2.below hb0)
      have HA := Lib.hid (show arcR false rs x y ↔ a0 < b0 by
        unfold arcR upR aroundR
        rw [getD_of hr1, getD_of hr2]
        simp)
      have GX := Lib.hid hx
      clear hc hc2 hu hr' m1 m2 hi1 hi2 o1 o2 o3 o4 hx hr1 hr2
      have hbad : ¬ arcR false rs x y → propB (ArcsTo false rs xss xss.length) = false := fun hn => propB_f (fun h => hn (h k2 x y hlt2 GX.out))
      have HB := Lib.hid hbad; clear hbad
      by_cases q0 : a0 < b0
      · have t9 : decide (b0 ≤ a0) = false := decide_eq_false (by omega)
        go_wp2_with fail
        go_quiet (fail)
        go_wp2_with fail
        go_roundw
        case rel => exact ⟨k2 + 1, _, by omega, by go_num, HT.out.next GX.out (HA.out.2 q0), rfl⟩
        case measure => simp [intOf]; omega
      · have t9 : decide (b0 ≤ a0) = true := decide_eq_true (by omega)
        have HQ := Lib.hid q0
        go_wp2_with fail
        go_quiet (fail)
        go_wp2_with fail
        go_ret
        exact ⟨ret_bool (HB.out (fun h => by have := HQ.out; have := HA.out.1 h; omega)).symm, bl_drewN (bl_drewN hb0 _) _⟩
    · go_wp2_with fail
      go_ret
      exact ⟨ret_bool (propB_t (fun i x y hi => HT.out i x y (by omega))).symm, bl_drewN hb0 _⟩
end
section
open Go.RowKit
set_option linter.unusedVariables false

def ShRelB (rs : List (List Int)) (w w0 : World) (i : Value) (wr : World) : Prop := Below w0.heap.size w0 wr ∧ ShRel rs w i wr
set_option maxRecDepth 100000 in
set_option maxHeartbeats 1000000 in
theorem impl_ranksOk (n : Nat) (v u : Value) (xss rs : List (List Int)) (w : World) (ar : Bool) (h : RowsR w w.heap.size v xss) (hu : RowsR w w.heap.size u rs) (hg : Good n xss) :
    Calls Tryz.prog 64 #[.agg #[.int .i64 (n : Int), v], u, .bool ar] w fun e w' => e = .returned (.bool (propB (RanksP ar n xss rs))) ∧ Below w.heap.size w w' := by
  have hn : (1 : Int) ≤ n ∧ (n : Int) ≤ 12 := by have := hg.1; unfold inB at this; simpa using this
  have HS := Lib.hid hg.small
  have HG := Lib.hid hg.2
  obtain ⟨A, c, rfl, h1, h2, h3⟩ := h.open_
  obtain ⟨A2, c2, rfl, f1, f2, f3⟩ := hu.open_
  unfold maxLen at h2 f2
  clear h hg hu
  have H3 := Lib.hid h3; clear h3
  have F3 := Lib.hid f3; clear f3
  have hb0 := bl_alloc (Below.refl w.heap.size w) (.cells #[.int .i64 (n : Int), .slice A xss.length c] 26)
  have hc1 : (w.alloc (.cells #[.int .i64 (n : Int), .slice A xss.length c] 26)).cell? ⟨w.heap.size, 1, none⟩ = some (.slice A xss.length c) := by rw [World.cell?_alloc_at _ _ _ _ rfl]; rfl
  have HC1 := Lib.hid hc1; clear hc1
  have hw1 : (w.alloc (.cells #[.int .i64 (n : Int), .slice A xss.length c] 26)).heap.size = w.heap.size + 1 := by simp
  have HW1 := Lib.hid hw1; clear hw1
  by_cases hr : rs.length = n
  · have t0 : ((rs.length : Int) != (n : Int)) = false := by rw [hr]; simp
    have HR := Lib.hid hr; clear hr
    go_enter Tryz.func64, Tryz.ntmps64
    go_wp2_with fail
    generalize w.alloc (.cells #[.int .i64 (n : Int), .slice A xss.length c] 26) = w0 at *
    clear t0
    go_loopw [8, 20] (fun _ i wr => ShRelB rs w w0 i wr) (fun _ i _ => rs.length - (intOf i).toNat)
    case atStart => exact ⟨Below.refl _ _, 0, Nat.zero_le _, rfl, (fun i r hi => absurd hi (by omega)), hb0⟩
    case round =>
      obtain ⟨hbw, k, hk, rfl, hup, hbl⟩ := hrel
      obtain ⟨hw1, hw2⟩ := bx w.heap.size hbw (by rw [HW1.out]; omega)
      have HU := Lib.hid hup; clear hup
      by_cases hlt : k < rs.length
      · obtain ⟨xs, hx⟩ : ∃ x, rs[k]? = some x := ⟨rs[k], List.getElem?_eq_getElem hlt⟩
        obtain ⟨ad, rfl, hb, hc⟩ := F3.out (by omega)
        obtain ⟨u, hu, hr⟩ := hc k _ hx
        have hcell := (hbl.cell (p := ad.add k) (by rw [block_add]; exact hb)).trans hu
        have HV := Lib.hid ((hr.below hbl).more hbl.size)
        obtain ⟨A1, c1, rfl, g1, g2, g3⟩ := (hr.below hbl).open_
        clear hc hr hu g3
        have GX := Lib.hid hx; clear hx
        by_cases q : xs.length = 3
        · have t0 : ((xs.length : Int) != 3) = false := by rw [q]; rfl
          have HQ := Lib.hid q
          clear q
          go_wp2_with fail
          refine (impl_allWithin _ xs 0 1000 _ HV.out).mono ?_
          rintro e w1 ⟨rfl, hb1⟩
          have hbl1 := bl_trans hbl hb1
          cases q2 : allB xs 0 1000 with
          | true =>
            go_wp2_with fail
            go_roundw
            case rel => exact ⟨bl_trans hbw hb1, k + 1, by omega, by go_num, HU.out.next GX.out HQ.out q2, hbl1⟩
            case measure => simp [intOf]; omega
          | false =>
            go_wp2_with fail
            go_ret
            exact ⟨ret_bool (propB_f (fun h => by have := (h.2.1 k xs hlt GX.out).2; rw [q2] at this; cases this)).symm, hbl1⟩
        · have t0 : ((xs.length : Int) != 3) = true := by rw [bne_iff_ne]; omega
          have HQ := Lib.hid q
          go_wp2_with fail
          go_ret
          exact ⟨ret_bool (propB_f (fun h => HQ.out (h.2.1 k xs hlt GX.out).1)).symm, hbl⟩
      · have hx1 := (hw1 1).trans HC1.out
        clear hw1 hw2
        have HSH := Lib.hid (show ShapeTo rs rs.length from fun i r hi => HU.out i r (by omega))
        go_wp2_with fail
        clear hx1
        go_loopw [10, 36] (fun _ i wr2 => ArRel ar rs xss wr i wr2) (fun _ i _ => xss.length - (intOf i).toNat)
        case atStart => exact ⟨0, 0, Nat.zero_le _, rfl, (fun i x y hi => absurd hi (by omega)), rfl⟩
        case round =>
          obtain ⟨k2, m, hk2, rfl, hup, rfl⟩ := hrel
          have HT := Lib.hid hup; clear hup
          by_cases hlt2 : k2 < xss.length
          · obtain ⟨xs, hx⟩ : ∃ x, xss[k2]? = some x := ⟨xss[k2], List.getElem?_eq_getElem hlt2⟩
            obtain ⟨x, y, rfl, hx1, hy1⟩ := small_pair (HS.out xs (List.mem_of_getElem? hx))
            obtain ⟨ad, rfl, hb, hc⟩ := H3.out (by omega)
            obtain ⟨u, hu, hr'⟩ := hc k2 _ hx
            have hcell := (hbl.cell (p := ad.add k2) (by rw [block_add]; exact hb)).trans hu
            obtain ⟨ad1, c1, rfl, g1, g2, hb1, k0, k1⟩ := pair_cells (hr'.below hbl)
            have hxy : x < n ∧ y < n := by
              obtain ⟨xs', e, _, h4, _⟩ := HG.out k2 hlt2
              rw [hx] at e; cases e
              have h5 := allB_iff.1 h4
              have h6 := h5 x (by simp)
              have h7 := h5 y (by simp)
              omega
            rw [← HR.out] at hxy
            obtain ⟨hxn, hyn⟩ := hxy
            obtain ⟨ad2, rfl, hb2, hc2⟩ := F3.out (by omega)
            obtain ⟨r1, hr1⟩ : ∃ r, rs[x]? = some r := ⟨rs[x]'(by omega), List.getElem?_eq_getElem (by omega)⟩
            obtain ⟨r2, hr2⟩ : ∃ r, rs[y]? = some r := ⟨rs[y]'(by omega), List.getElem?_eq_getElem (by omega)⟩
            have o1 := HSH.out x r1 (by omega) hr1
            have o2 := HSH.out y r2 (by omega) hr2
            obtain ⟨a0, a1, a2, rfl⟩ := triple o1.1
            obtain ⟨b0, b1, b2, rfl⟩ := triple o2.1
            have o3 := allB_iff.1 o1.2
            have o4 := allB_iff.1 o2.2
            have p0 := o3 a0 (by simp)
            have p1 := o3 a1 (by simp)
            have p2 := o3 a2 (by simp)
            have p3 := o4 b0 (by simp)
            have p4 := o4 b1 (by simp)
            have p5 := o4 b2 (by simp)
            obtain ⟨v1, m1, hi1⟩ := hc2 x _ hr1
            obtain ⟨v2, m2, hi2⟩ := hc2 y _ hr2
            have l1 := (hbl.cell (p := ad2.add x) (by rw [block_add]; exact hb2)).trans m1
            have l2 := (hbl.cell (p := ad2.add y) (by rw [block_add]; exact hb2)).trans m2
            obtain ⟨ad3, c3, rfl, i1, i2, i3, i4, i5, i6⟩ := triple_cells (hi1.below hbl)
            obtain ⟨ad4, c4, rfl, j1, j2, j3, j4, j5, j6⟩ := triple_cells (hi2.below hbl)
            have HA := Lib.hid (show arcR ar rs x y ↔ (a0 < b0 ∨ ar = true ∧ a0 = b0 ∧ a1 = b1 ∧ 2 ≤ a1 ∧ Int.tmod (b2 - a2 - 1) a1 = 0) by
              unfold arcR upR aroundR
              rw [getD_of hr1, getD_of hr2]
              simp)
            have GX := Lib.hid hx
            clear hc hc2 hu hr' m1 m2 hi1 hi2 o1 o2 o3 o4 hx hr1 hr2
            have hbad : ¬ arcR ar rs x y → propB (RanksP ar n xss rs) = false := fun hn => propB_f (fun h => hn (h.2.2 k2 x y hlt2 GX.out))
            have HB := Lib.hid hbad; clear hbad
            by_cases q0 : a0 < b0
            · have t9 : decide (a0 < b0) = true := decide_eq_true q0
              go_wp2_with fail
              go_quiet (fail)
              go_wp2_with fail
              go_quiet (fail)
              go_wp2_with fail
              go_roundw
              case rel => exact ⟨k2 + 1, _, by omega, by go_num, HT.out.next GX.out (HA.out.2 (.inl q0)), rfl⟩
              case measure => simp [intOf]; omega
            · have t9 : decide (a0 < b0) = false := decide_eq_false q0
              have HQ0 := Lib.hid q0
              cases ar with
              | false =>
                clear q0
                go_wp2_with fail
                go_quiet (fail)
                go_wp2_with fail
                go_quiet (fail)
                go_wp2_with fail
                go_quiet (fail)
                go_wp2_with fail
                go_ret
                refine ⟨ret_bool (HB.out (fun h => ?_)).symm, bl_drewN (bl_drewN (bl_drewN (bl_drewN hbl _) _) _) _⟩
                rcases HA.out.1 h with h | h
                · have := HQ0.out; omega
                · cases h.1
              | true =>
                by_cases q1 : a0 = b0
                · have t0 : (a0 != b0) = false := by rw [q1]; simp
                  by_cases q2 : a1 = b1
                  · have t1 : (a1 != b1) = false := by rw [q2]; simp
                    by_cases q3 : 2 ≤ a1
                    · have t2 : decide (a1 < 2) = false := decide_eq_false (by omega)
                      have t3 : (a1 == 0) = false := by rw [beq_eq_false_iff_ne]; omega
                      have hm1 : Int.tmod (b2 - a2 - 1) a1 < a1 := Int.tmod_lt_of_pos _ (by omega)
                      have hm2 : -a1 < Int.tmod (b2 - a2 - 1) a1 := by
                        have := Int.lt_tmod_of_pos (b2 - a2 - 1) (show 0 < a1 by omega)
                        omega
                      have HQ := Lib.hid (And.intro q1 (And.intro q2 q3))
                      clear q0 q1 q2
                      by_cases q4 : Int.tmod (b2 - a2 - 1) a1 = 0
                      · have t4 : (Int.tmod (b2 - a2 - 1) a1 != 0) = false := by rw [q4]; rfl
                        have HQ4 := Lib.hid q4; clear q4
                        go_wp2_with fail
                        go_quiet (fail)
                        go_wp2_with fail
                        go_quiet (fail)
                        go_wp2_with fail
                        go_quiet (fail)
                        go_wp2_with fail
                        go_roundw
                        case rel => exact ⟨k2 + 1, _, by omega, by go_num, HT.out.next GX.out (HA.out.2 (.inr ⟨(by first | rfl | trivial), HQ.out.1, HQ.out.2.1, HQ.out.2.2, HQ4.out⟩)), rfl⟩
                        case measure => simp [intOf]; omega
                      · have t4 : (Int.tmod (b2 - a2 - 1) a1 != 0) = true := by rw [bne_iff_ne]; exact q4
                        have HQ4 := Lib.hid q4; clear q4
                        go_wp2_with fail
                        go_quiet (fail)
                        go_wp2_with fail
                        go_quiet (fail)
                        go_wp2_with fail
                        go_quiet (fail)
                        go_wp2_with fail
                        go_ret
                        refine ⟨ret_bool (HB.out (fun h => ?_)).symm, bl_drewN (bl_drewN (bl_drewN (bl_drewN hbl _) _) _) _⟩
                        rcases HA.out.1 h with h | h
                        · have := HQ.out.1; omega
                        · exact HQ4.out h.2.2.2.2
                    · have t2 : decide (a1 < 2) = true := decide_eq_true (by omega)
                      have HQ := Lib.hid q3
                      clear q0 q1 q2
                      go_wp2_with fail
                      go_quiet (fail)
                      go_wp2_with fail
                      go_quiet (fail)
                      go_wp2_with fail
                      go_quiet (fail)
                      go_wp2_with fail
                      go_ret
                      refine ⟨ret_bool (HB.out (fun h => ?_)).symm, bl_drewN (bl_drewN (bl_drewN (bl_drewN hbl _) _) _) _⟩
                      rcases HA.out.1 h with h | h
                      · have := HQ0.out; omega
                      · have := HQ.out; have := h.2.2.2.1; omega
                  · have t1 : (a1 != b1) = true := by rw [bne_iff_ne]; exact q2
                    have HQ := Lib.hid q2
                    clear q0 q1
                    go_wp2_with fail
                    go_quiet (fail)
                    go_wp2_with fail
                    go_quiet (fail)
                    go_wp2_with fail
                    go_quiet (fail)
                    go_wp2_with fail
                    go_ret
                    refine ⟨ret_bool (HB.out (fun h => ?_)).symm, bl_drewN (bl_drewN (bl_drewN (bl_drewN hbl _) _) _) _⟩
                    rcases HA.out.1 h with h | h
                    · have := HQ0.out; omega
                    · exact HQ.out h.2.2.1
                · have t0 : (a0 != b0) = true := by rw [bne_iff_ne]; exact q1
                  have HQ := Lib.hid q1
                  clear q0
                  go_wp2_with fail
                  go_quiet (fail)
                  go_wp2_with fail
                  go_quiet (fail)
                  go_wp2_with fail
                  go_quiet (fail)
                  go_wp2_with fail
                  go_ret
                  refine ⟨ret_bool (HB.out (fun h => ?_)).symm, bl_drewN (bl_drewN (bl_drewN (bl_drewN hbl _) _) _) _⟩
                  rcases HA.out.1 h with h | h
                  · have := HQ0.out; omega
                  · exact HQ.out h.2.1
          · go_wp2_with fail
            go_ret
            exact ⟨ret_bool (propB_t ⟨HR.out, HSH.out, fun i x y hi => HT.out i x y (by omega)⟩).symm, bl_drewN hbl _⟩
  · have t0 : ((rs.length : Int) != (n : Int)) = true := by rw [bne_iff_ne]; omega
    have HR := Lib.hid hr
    go_enter Tryz.func64, Tryz.ntmps64
    go_wp2_with fail
    go_ret
    exact ⟨ret_bool (propB_f (fun h => HR.out h.1)).symm, hb0⟩
end
section
open Go.RowKit
set_option linter.unusedVariables false

def cert3 (n : Nat) (xss : List (List Int)) (cl lb : Int) (f s : List Int) (rs : List (List Int)) : Prop := inB lb 0 ((n : Int) - 1) = true ∧ f.length + s.length + rs.length = 0 ∧ hasArc xss lb.toNat lb.toNat
def cert2 (n : Nat) (xss : List (List Int)) (cl lb : Int) (f s : List Int) (rs : List (List Int)) : Prop := inB lb 0 ((n : Int) - 1) = true ∧ rs.length = 0 ∧ (∀ a, ¬ hasArc xss a a) ∧ closedP n xss f lb ∧ closedP n xss s lb ∧ Nat.gcd (f.length - 1) (s.length - 1) = 1
def cert1 (n : Nat) (xss : List (List Int)) (cl lb : Int) (f s : List Int) (rs : List (List Int)) : Prop := inB lb 0 ((n : Int) - 1) = true ∧ s.length = 0 ∧ closedP n xss f lb ∧ RanksP true n xss rs
def cert0 (n : Nat) (xss : List (List Int)) (cl lb : Int) (f s : List Int) (rs : List (List Int)) : Prop := lb = 0 ∧ f.length + s.length = 0 ∧ RanksP false n xss rs
/-- A certificate in one of the four forms. -/
def certP (n : Nat) (xss : List (List Int)) (cl lb : Int) (f s : List Int) (rs : List (List Int)) : Prop :=
  (cl = 3 ∧ cert3 n xss cl lb f s rs) ∨ (cl = 2 ∧ cert2 n xss cl lb f s rs) ∨ (cl = 1 ∧ cert1 n xss cl lb f s rs) ∨ (cl = 0 ∧ cert0 n xss cl lb f s rs)
theorem certP_3 (n : Nat) (xss : List (List Int)) (lb : Int) (f s : List Int) (rs : List (List Int)) : certP n xss 3 lb f s rs ↔ cert3 n xss 3 lb f s rs := by unfold certP; simp
theorem certP_2 (n : Nat) (xss : List (List Int)) (lb : Int) (f s : List Int) (rs : List (List Int)) : certP n xss 2 lb f s rs ↔ cert2 n xss 2 lb f s rs := by unfold certP; simp
theorem certP_1 (n : Nat) (xss : List (List Int)) (lb : Int) (f s : List Int) (rs : List (List Int)) : certP n xss 1 lb f s rs ↔ cert1 n xss 1 lb f s rs := by unfold certP; simp
theorem certP_0 (n : Nat) (xss : List (List Int)) (lb : Int) (f s : List Int) (rs : List (List Int)) : certP n xss 0 lb f s rs ↔ cert0 n xss 0 lb f s rs := by unfold certP; simp
/-- The two boxes of a check: the problem's and the certificate's. -/
structure Boxes (w : World) (b : Nat) (n v cl lb vf vs vr : Value) : Prop where
  p0 : w.cell? ⟨b, 0, none⟩ = some n
  p1 : w.cell? ⟨b, 1, none⟩ = some v
  c0 : w.cell? ⟨b + 1, 0, none⟩ = some cl
  c1 : w.cell? ⟨b + 1, 1, none⟩ = some lb
  c2 : w.cell? ⟨b + 1, 2, none⟩ = some vf
  c3 : w.cell? ⟨b + 1, 3, none⟩ = some vs
  c4 : w.cell? ⟨b + 1, 4, none⟩ = some vr
theorem Boxes.below {w w' : World} {b B : Nat} {n v cl lb vf vs vr : Value} (h : Boxes w b n v cl lb vf vs vr) (hb : Below B w w') (hB : b + 1 < B) : Boxes w' b n v cl lb vf vs vr :=
  ⟨(hb.cell (p := ⟨b, 0, none⟩) (by show b < B; omega)).trans h.p0, (hb.cell (p := ⟨b, 1, none⟩) (by show b < B; omega)).trans h.p1,
   (hb.cell (p := ⟨b + 1, 0, none⟩) hB).trans h.c0, (hb.cell (p := ⟨b + 1, 1, none⟩) hB).trans h.c1, (hb.cell (p := ⟨b + 1, 2, none⟩) hB).trans h.c2, (hb.cell (p := ⟨b + 1, 3, none⟩) hB).trans h.c3, (hb.cell (p := ⟨b + 1, 4, none⟩) hB).trans h.c4⟩
/-! A region that draws its order, walked by hand: an operation that is taken first, one that is not wanted, and the one that is ready. -/
theorem take_wanted {P : Program} {md : Region.Mode} {ops : Array Oper} {Q : Exit → Act → World → Prop} {S : World → Prop} {fuel : Nat} {listed : Array Bool} {a : Act} {w : World} (i d : Nat) {oi : Oper} {v : Value}
    (hi : ops.toList[i]? = some oi) (hd : oi.dst = some d) (hs : Region.noSelect ops = true) (hf : Region.free md ops listed i = true) (hr : (Region.ready md ops listed).contains i = true)
    (hQ : ∀ c a w, Q (.panic c) (a.put (some d) v) w → Q (.panic c) a w) (hw : Region.wanted oi (yielded ops a.tmps) = true) (hy : ∀ w, S w → (execOp a.eval oi).run P w = .ok (.value v) w) (hS : S w)
    (h : wpAnyH P md ops Q S fuel (listed.setIfInBounds i true) (a.put (some d) v) w) : wpAnyH P md ops Q S (fuel + 1) listed a w := by
  rw [← hd] at hQ h
  exact wpAnyH_take (by rw [← Array.getElem?_toList]; exact hi) hs hf hr hQ (Or.inl ⟨hw, hy⟩) hS h
theorem take_not {P : Program} {md : Region.Mode} {ops : Array Oper} {Q : Exit → Act → World → Prop} {S : World → Prop} {fuel : Nat} {listed : Array Bool} {a : Act} {w : World} (i d : Nat) {oi : Oper}
    (hi : ops.toList[i]? = some oi) (hd : oi.dst = some d) (hs : Region.noSelect ops = true) (hf : Region.free md ops listed i = true) (hr : (Region.ready md ops listed).contains i = true)
    (hQ : ∀ c a w, Q (.panic c) (a.put (some d) undef) w → Q (.panic c) a w) (hw : Region.wanted oi (yielded ops a.tmps) = false) (hS : S w)
    (h : wpAnyH P md ops Q S fuel (listed.setIfInBounds i true) (a.put (some d) undef) w) : wpAnyH P md ops Q S (fuel + 1) listed a w := by
  rw [← hd] at hQ h
  exact wpAnyH_take (by rw [← Array.getElem?_toList]; exact hi) hs hf hr hQ (Or.inr ⟨hw, rfl⟩) hS h
theorem take_ready {P : Program} {md : Region.Mode} {ops : Array Oper} {Q : Exit → Act → World → Prop} {S : World → Prop} {fuel : Nat} {listed : Array Bool} {a : Act} {w : World} (i : Nat) {o : Oper}
    (hi : ops.toList[i]? = some o) (hr : Region.ready md ops listed = [i])
    (h : ∀ K' : Act → World → Prop, Shut (∀ a w, S w → (S w → wpAnyH P md ops Q S fuel (listed.setIfInBounds i true) a w) → K' a w) → if Region.wanted o (yielded ops a.tmps) = true then Oper.wp P o a w K' Q else K' (a.put o.dst undef) w) :
    wpAnyH P md ops Q S (fuel + 1) listed a w :=
  wpAnyH_ready hr (by simp) (AllReadyH.cons (by rw [← Array.getElem?_toList]; exact hi) h AllReadyH.nil)
theorem mayF_false {xss : List (List Int)} {a b : Nat} (h : mayF xss a b = false) : ¬ hasArc xss a b := fun k => by unfold mayF at h; rw [propB_t k] at h; cases h
theorem propB_ff {p : Prop} (h : propB p = false) : ¬ p := fun k => by rw [propB_t k] at h; cases h
set_option maxRecDepth 100000 in
set_option maxHeartbeats 2000000 in
theorem spec_waCheck (n : Nat) (v vf vs vr : Value) (xss : List (List Int)) (cl lb : Int) (f s : List Int) (rs : List (List Int)) (w : World) (h : RowsR w w.heap.size v xss) (hf : IntsR w w.heap.size vf f) (hs : IntsR w w.heap.size vs s) (hr : RowsR w w.heap.size vr rs) (hg : Good n xss)
    (hlen : f.length ≤ 1000000000 ∧ s.length ≤ 1000000000 ∧ rs.length ≤ 1000000000) (hlb : I64 lb) :
    Calls Tryz.prog 39 #[.agg #[.int .i64 (n : Int), v], .agg #[.int .i64 cl, .int .i64 lb, vf, vs, vr]] w fun e w' => e = .returned (.bool (propB (certP n xss cl lb f s rs))) ∧ Below w.heap.size w w' := by
  have hn : (1 : Int) ≤ n ∧ (n : Int) ≤ 12 := by have := hg.1; unfold inB at this; simpa using this
  have HH := Lib.hid h; clear h
  have HF := Lib.hid hf
  have HS := Lib.hid hs
  have HR := Lib.hid hr
  have HG := Lib.hid hg; clear hg
  obtain ⟨Af, cf, rfl, f1, f2, f3⟩ := hf.open_
  obtain ⟨As, cs, rfl, s1, s2, s3⟩ := hs.open_
  obtain ⟨Ar, cr, rfl, r1, r2, r3⟩ := hr.open_
  clear f3 s3 r3 hf hs hr
  unfold maxLen at f2 s2 r2
  obtain ⟨l1, l2, l3⟩ := hlen
  unfold I64 at hlb
  have hb0 := bl_alloc (bl_alloc (Below.refl w.heap.size w) (.cells #[.int .i64 (n : Int), v] 26)) (.cells #[.int .i64 cl, .int .i64 lb, .slice Af f.length cf, .slice As s.length cs, .slice Ar rs.length cr] 30)
  have hbx : Boxes ((w.alloc (.cells #[.int .i64 (n : Int), v] 26)).alloc (.cells #[.int .i64 cl, .int .i64 lb, .slice Af f.length cf, .slice As s.length cs, .slice Ar rs.length cr] 30)) w.heap.size (.int .i64 (n : Int)) v (.int .i64 cl) (.int .i64 lb) (.slice Af f.length cf) (.slice As s.length cs) (.slice Ar rs.length cr) := by
    refine ⟨?_, ?_, ?_, ?_, ?_, ?_, ?_⟩
    · rw [World.cell?_alloc_lt _ _ _ (show w.heap.size < _ by simp), World.cell?_alloc_at _ _ _ _ rfl]; rfl
    · rw [World.cell?_alloc_lt _ _ _ (show w.heap.size < _ by simp), World.cell?_alloc_at _ _ _ _ rfl]; rfl
    all_goals
      rw [World.cell?_alloc_at _ _ _ _ (show w.heap.size + 1 = _ by simp)]; rfl
  have hsz : ((w.alloc (.cells #[.int .i64 (n : Int), v] 26)).alloc (.cells #[.int .i64 cl, .int .i64 lb, .slice Af f.length cf, .slice As s.length cs, .slice Ar rs.length cr] 30)).heap.size = w.heap.size + 2 := by simp
  have HB := Lib.hid hbx; clear hbx
  have HZ := Lib.hid hsz; clear hsz
  go_enter Tryz.func39, Tryz.ntmps39
  go_wp2_with fail
  generalize (w.alloc (.cells #[.int .i64 (n : Int), v] 26)).alloc (.cells #[.int .i64 cl, .int .i64 lb, .slice Af f.length cf, .slice As s.length cs, .slice Ar rs.length cr] 30) = w0 at *
  refine (spec_l1In lb 0 ((n : Int) - 1) w0).mono ?_
  rintro e w' ⟨rfl, rfl⟩
  have HZw0 := Lib.hid (show w.heap.size + 2 ≤ w0.heap.size by rw [HZ.out]; omega)
  obtain ⟨p0, p1, c0, c1, c2, c3, c4⟩ := HB.out
  by_cases e3 : cl = 3
  · subst e3
    have HP := Lib.hid (certP_3 n xss lb f s rs)
    cases q1 : inB lb 0 ((n : Int) - 1) with
    | false =>
      go_wp2_with fail
      go_quiet (fail)
      go_wp2_with fail
      go_ret
      exact ⟨ret_bool (propB_f (fun h => by have := (HP.out.1 h).1; rw [q1] at this; cases this)).symm, bl_drewN hb0 _⟩
    | true =>
      have hq : 0 ≤ lb ∧ lb ≤ (n : Int) - 1 := by unfold inB at q1; simpa using q1
      obtain ⟨a, rfl⟩ := Int.eq_ofNat_of_zero_le hq.1
      have han : a < n := by omega
      have HQ1 := Lib.hid q1; clear q1
      by_cases q2 : f.length + s.length + rs.length = 0
      · have t0 : ((f.length : Int) + (s.length : Int) + (rs.length : Int) == 0) = true := by rw [beq_iff_eq]; omega
        have HQ2 := Lib.hid q2; clear q2
        have e1 : IntKind.i64.wrap ((f.length : Int) + (s.length : Int)) = (f.length : Int) + (s.length : Int) := IntWalk.i64_in _ (by omega)
        have e2 : IntKind.i64.wrap ((f.length : Int) + (s.length : Int) + (rs.length : Int)) = (f.length : Int) + (s.length : Int) + (rs.length : Int) := IntWalk.i64_in _ (by omega)
        have HM := Lib.hid (fun (W : World) (hW : Below w0.heap.size w0 W) => spec_waMay n v xss W ((HH.out.below (hb0.trans (hW.mono (by rw [HZ.out]; omega)))).more (by have := hW.size; have := hb0.size; omega)) HG.out)
        go_wp2_with fail
        refine wp_region_held_drew (S := (fun w' => w'.cell? ⟨w.heap.size, 0, none⟩ = some (.int .i64 (n : Int)) ∧ w'.cell? ⟨w.heap.size, 1, none⟩ = some v ∧ w'.cell? ⟨w.heap.size + 1, 1, none⟩ = some (.int .i64 (a : Int)) ∧ w'.cell? ⟨w.heap.size + 1, 2, none⟩ = some (.slice Af f.length cf) ∧ w'.cell? ⟨w.heap.size + 1, 3, none⟩ = some (.slice As s.length cs) ∧ w'.cell? ⟨w.heap.size + 1, 4, none⟩ = some (.slice Ar rs.length cr))) (by kernel_rfl) ?_ (fun hHeld => ?_)
        · go_keep
        refine take_wanted 0 16 (v := ?v100) rfl rfl (by kernel_rfl) (by kernel_rfl) (by kernel_rfl) (fun _ _ _ h => h) (by rfl) ?y100 (by assumption) ?r100
        case y100 => intro w hSw; (try dsimp only at hSw); go_simp <;> with_reducible rfl
        try simp only [Act.put, List.setIfInBounds_toArray, List.set_cons_zero, List.set_cons_succ]
        refine take_wanted 1 17 (v := ?v101) rfl rfl (by kernel_rfl) (by kernel_rfl) (by kernel_rfl) (fun _ _ _ h => h) (by rfl) ?y101 (by assumption) ?r101
        case y101 => intro w hSw; (try dsimp only at hSw); go_simp <;> with_reducible rfl
        try simp only [Act.put, List.setIfInBounds_toArray, List.set_cons_zero, List.set_cons_succ]
        refine take_wanted 2 18 (v := ?v102) rfl rfl (by kernel_rfl) (by kernel_rfl) (by kernel_rfl) (fun _ _ _ h => h) (by rfl) ?y102 (by assumption) ?r102
        case y102 => intro w hSw; (try dsimp only at hSw); go_simp <;> with_reducible rfl
        try simp only [Act.put, List.setIfInBounds_toArray, List.set_cons_zero, List.set_cons_succ]
        refine take_wanted 3 19 (v := ?v103) rfl rfl (by kernel_rfl) (by kernel_rfl) (by kernel_rfl) (fun _ _ _ h => h) (by rfl) ?y103 (by assumption) ?r103
        case y103 => intro w hSw; (try dsimp only at hSw); go_simp <;> with_reducible rfl
        try simp only [Act.put, List.setIfInBounds_toArray, List.set_cons_zero, List.set_cons_succ]
        refine take_wanted 4 20 (v := ?v104) rfl rfl (by kernel_rfl) (by kernel_rfl) (by kernel_rfl) (fun _ _ _ h => h) (by rfl) ?y104 (by assumption) ?r104
        case y104 => intro w hSw; (try dsimp only at hSw); go_simp <;> with_reducible rfl
        try simp only [Act.put, List.setIfInBounds_toArray, List.set_cons_zero, List.set_cons_succ]
        refine take_wanted 5 21 (v := ?v105) rfl rfl (by kernel_rfl) (by kernel_rfl) (by kernel_rfl) (fun _ _ _ h => h) (by rfl) ?y105 (by assumption) ?r105
        case y105 => intro w hSw; (try dsimp only at hSw); go_simp <;> with_reducible rfl
        try simp only [Act.put, List.setIfInBounds_toArray, List.set_cons_zero, List.set_cons_succ]
        refine take_wanted 6 22 (v := ?v106) rfl rfl (by kernel_rfl) (by kernel_rfl) (by kernel_rfl) (fun _ _ _ h => h) (by rfl) ?y106 (by assumption) ?r106
        case y106 => intro w hSw; (try dsimp only at hSw); go_simp <;> with_reducible rfl
        try simp only [Act.put, List.setIfInBounds_toArray, List.set_cons_zero, List.set_cons_succ]
        refine take_wanted 7 23 (v := ?v107) rfl rfl (by kernel_rfl) (by kernel_rfl) (by kernel_rfl) (fun _ _ _ h => h) (by rfl) ?y107 (by assumption) ?r107
        case y107 => intro w hSw; (try dsimp only at hSw); go_simp <;> with_reducible rfl
        try simp only [Act.put, List.setIfInBounds_toArray, List.set_cons_zero, List.set_cons_succ]
        refine take_wanted 8 24 (v := ?v108) rfl rfl (by kernel_rfl) (by kernel_rfl) (by kernel_rfl) (fun _ _ _ h => h) (by rfl) ?y108 (by assumption) ?r108
        case y108 => intro w hSw; (try dsimp only at hSw); go_simp <;> with_reducible rfl
        try simp only [Act.put, List.setIfInBounds_toArray, List.set_cons_zero, List.set_cons_succ]
        refine take_wanted 9 25 (v := ?v109) rfl rfl (by kernel_rfl) (by kernel_rfl) (by kernel_rfl) (fun _ _ _ h => h) (by rfl) ?y109 (by assumption) ?r109
        case y109 => intro w hSw; (try dsimp only at hSw); go_simp <;> with_reducible rfl
        try simp only [Act.put, List.setIfInBounds_toArray, List.set_cons_zero, List.set_cons_succ]
        refine take_wanted 10 26 (v := ?v110) rfl rfl (by kernel_rfl) (by kernel_rfl) (by kernel_rfl) (fun _ _ _ h => h) (by rfl) ?y110 (by assumption) ?r110
        case y110 => intro w hSw; (try dsimp only at hSw); go_simp <;> with_reducible rfl
        try simp only [Act.put, List.setIfInBounds_toArray, List.set_cons_zero, List.set_cons_succ]
        refine take_wanted 11 27 (v := ?v111) rfl rfl (by kernel_rfl) (by kernel_rfl) (by kernel_rfl) (fun _ _ _ h => h) (by rfl) ?y111 (by assumption) ?r111
        case y111 => intro w hSw; (try dsimp only at hSw); go_simp <;> with_reducible rfl
        try simp only [Act.put, List.setIfInBounds_toArray, List.set_cons_zero, List.set_cons_succ]
        refine take_wanted 12 28 (v := ?v112) rfl rfl (by kernel_rfl) (by kernel_rfl) (by kernel_rfl) (fun _ _ _ h => h) (by rfl) ?y112 (by assumption) ?r112
        case y112 => intro w hSw; (try dsimp only at hSw); go_simp <;> with_reducible rfl
        try simp only [Act.put, List.setIfInBounds_toArray, List.set_cons_zero, List.set_cons_succ]
        refine take_wanted 13 29 (v := ?v113) rfl rfl (by kernel_rfl) (by kernel_rfl) (by kernel_rfl) (fun _ _ _ h => h) (by rfl) ?y113 (by assumption) ?r113
        case y113 => intro w hSw; (try dsimp only at hSw); go_simp <;> with_reducible rfl
        try simp only [Act.put, List.setIfInBounds_toArray, List.set_cons_zero, List.set_cons_succ]
        refine take_wanted 14 30 (v := ?v114) rfl rfl (by kernel_rfl) (by kernel_rfl) (by kernel_rfl) (fun _ _ _ h => h) (by rfl) ?y114 (by assumption) ?r114
        case y114 => intro w hSw; (try dsimp only at hSw); go_simp <;> with_reducible rfl
        try simp only [Act.put, List.setIfInBounds_toArray, List.set_cons_zero, List.set_cons_succ]
        refine take_wanted 15 31 (v := ?v115) rfl rfl (by kernel_rfl) (by kernel_rfl) (by kernel_rfl) (fun _ _ _ h => h) (by rfl) ?y115 (by assumption) ?r115
        case y115 => intro w hSw; (try dsimp only at hSw); go_simp <;> with_reducible rfl
        try simp only [Act.put, List.setIfInBounds_toArray, List.set_cons_zero, List.set_cons_succ]
        refine take_wanted 16 32 (v := ?v116) rfl rfl (by kernel_rfl) (by kernel_rfl) (by kernel_rfl) (fun _ _ _ h => h) (by rfl) ?y116 (by assumption) ?r116
        case y116 => intro w hSw; (try dsimp only at hSw); go_simp <;> with_reducible rfl
        try simp only [Act.put, List.setIfInBounds_toArray, List.set_cons_zero, List.set_cons_succ]
        refine take_wanted 18 34 (v := ?v118) rfl rfl (by kernel_rfl) (by kernel_rfl) (by kernel_rfl) (fun _ _ _ h => h) (by rfl) ?y118 (by assumption) ?r118
        case y118 => intro w hSw; (try dsimp only at hSw); go_simp <;> with_reducible rfl
        try simp only [Act.put, List.setIfInBounds_toArray, List.set_cons_zero, List.set_cons_succ]
        refine take_wanted 19 35 (v := ?v119) rfl rfl (by kernel_rfl) (by kernel_rfl) (by kernel_rfl) (fun _ _ _ h => h) (by rfl) ?y119 (by assumption) ?r119
        case y119 => intro w hSw; (try dsimp only at hSw); go_simp <;> with_reducible rfl
        try simp only [Act.put, List.setIfInBounds_toArray, List.set_cons_zero, List.set_cons_succ]
        refine take_wanted 22 38 (v := ?v122) rfl rfl (by kernel_rfl) (by kernel_rfl) (by kernel_rfl) (fun _ _ _ h => h) (by rfl) ?y122 (by assumption) ?r122
        case y122 => intro w hSw; (try dsimp only at hSw); go_simp <;> with_reducible rfl
        try simp only [Act.put, List.setIfInBounds_toArray, List.set_cons_zero, List.set_cons_succ]
        refine take_wanted 23 39 (v := ?v123) rfl rfl (by kernel_rfl) (by kernel_rfl) (by kernel_rfl) (fun _ _ _ h => h) (by rfl) ?y123 (by assumption) ?r123
        case y123 => intro w hSw; (try dsimp only at hSw); go_simp <;> with_reducible rfl
        try simp only [Act.put, List.setIfInBounds_toArray, List.set_cons_zero, List.set_cons_succ]
        refine take_ready 17 rfl (by kernel_rfl) (fun K hK => ?_)
        go_simp
        (go_at_call 68; refine (HM.out _ (by first | exact (Below.refl _ _).drew | exact Below.refl _ _)).mono ?_; rintro e w1 ⟨v', rfl, ⟨adm, cm, rfl, g1, g2, g3⟩, hb1⟩; obtain ⟨ad2, c2', k1, k2, k3, k4⟩ := g3 a (by omega); have k5 := k4 a (by omega); clear k4 g3; obtain ⟨z0, z1, z2, z3, z4, z5, z6⟩ := (HB.out.below (Below.refl _ _).drew (show w.heap.size + 1 < w0.heap.size by rw [HZ.out]; omega)).below hb1 (show w.heap.size + 1 < w0.drew.heap.size by show _ < w0.heap.size; rw [HZ.out]; omega))
        refine hK.out _ _ ?_ (fun hHeld => ?_)
        · go_keep
        clear hK K
        try simp only [Act.put, List.setIfInBounds_toArray, List.set_cons_zero, List.set_cons_succ]
        refine take_wanted 20 36 (v := ?v120) rfl rfl (by kernel_rfl) (by kernel_rfl) (by kernel_rfl) (fun _ _ _ h => h) (by rfl) ?y120 (by assumption) ?r120
        case y120 => intro w hSw; (try dsimp only at hSw); go_simp <;> with_reducible rfl
        try simp only [Act.put, List.setIfInBounds_toArray, List.set_cons_zero, List.set_cons_succ]
        refine take_ready 21 rfl (by kernel_rfl) (fun K hK => ?_)
        go_simp
        refine hK.out _ _ ?_ (fun hHeld => ?_)
        · go_keep
        clear hK K
        try simp only [Act.put, List.setIfInBounds_toArray, List.set_cons_zero, List.set_cons_succ]
        refine take_wanted 24 40 (v := ?v124) rfl rfl (by kernel_rfl) (by kernel_rfl) (by kernel_rfl) (fun _ _ _ h => h) (by rfl) ?y124 (by assumption) ?r124
        case y124 => intro w hSw; (try dsimp only at hSw); go_simp <;> with_reducible rfl
        try simp only [Act.put, List.setIfInBounds_toArray, List.set_cons_zero, List.set_cons_succ]
        refine take_ready 25 rfl (by kernel_rfl) (fun K hK => ?_)
        go_simp
        refine hK.out _ _ ?_ (fun hHeld => ?_)
        · go_keep
        clear hK K
        try simp only [Act.put, List.setIfInBounds_toArray, List.set_cons_zero, List.set_cons_succ]
        refine take_wanted 26 42 (v := ?v126) rfl rfl (by kernel_rfl) (by kernel_rfl) (by kernel_rfl) (fun _ _ _ h => h) (by rfl) ?y126 (by assumption) ?r126
        case y126 => intro w hSw; (try dsimp only at hSw); go_simp <;> with_reducible rfl
        try simp only [Act.put, List.setIfInBounds_toArray, List.set_cons_zero, List.set_cons_succ]
        refine take_wanted 27 4 (v := ?v127) rfl rfl (by kernel_rfl) (by kernel_rfl) (by kernel_rfl) (fun _ _ _ h => h) (by rfl) ?y127 (by assumption) ?r127
        case y127 => intro w hSw; (try dsimp only at hSw); go_simp <;> with_reducible rfl
        try simp only [Act.put, List.setIfInBounds_toArray, List.set_cons_zero, List.set_cons_succ]
        refine wpAnyH_done (by kernel_rfl) ?_ _
        all_goals
          cases q3 : mayF xss a a with
          | true =>
            go_wp2_with fail
            go_ret
            exact ⟨ret_bool (propB_t (HP.out.2 ⟨HQ1.out, HQ2.out, propB_iff.1 q3⟩)).symm, bl_trans hb0.drew hb1⟩
          | false =>
            go_wp2_with fail
            go_ret
            exact ⟨ret_bool (propB_f (fun h => mayF_false q3 (HP.out.1 h).2.2)).symm, bl_trans hb0.drew hb1⟩
      · have t0 : ((f.length : Int) + (s.length : Int) + (rs.length : Int) == 0) = false := by rw [beq_eq_false_iff_ne]; omega
        have HQ2 := Lib.hid q2; clear q2
        go_wp2_with fail
        go_quiet (fail)
        go_wp2_with fail
        go_ret
        exact ⟨ret_bool (propB_f (fun h => HQ2.out (HP.out.1 h).2.1)).symm, bl_drewN hb0 _⟩
  · by_cases e2 : cl = 2
    · subst e2
      have HP := Lib.hid (certP_2 n xss lb f s rs)
      cases q1 : inB lb 0 ((n : Int) - 1) with
      | false =>
        go_wp2_with fail
        go_ret
        exact ⟨ret_bool (propB_f (fun h => by have := (HP.out.1 h).1; rw [q1] at this; cases this)).symm, hb0⟩
      | true =>
        have HQ1 := Lib.hid q1; clear q1
        by_cases q2 : rs.length = 0
        · have t0 : ((rs.length : Int) == 0) = true := by rw [beq_iff_eq]; omega
          have HQ2 := Lib.hid q2; clear q2
          go_wp2_with fail
          refine (spec_waLoop n v xss w0 ((HH.out.below hb0).more hb0.size) HG.out).mono ?_
          rintro e u1 ⟨i, rfl, hi, hb_u1⟩
          have hbu1 := bl_trans hb0 hb_u1
          have HXu1 := Lib.hid (HB.out.below hb_u1 (by have := HZw0.out; omega))
          have HZu1 := Lib.hid (show w.heap.size + 2 ≤ u1.heap.size by have := hb_u1.size; have := HZw0.out; omega)
          obtain ⟨yu10, yu11, yu12, yu13, yu14, yu15, yu16⟩ := HXu1.out
          by_cases q3 : i < 0
          · have HN := Lib.hid (show ∀ a, ¬ hasArc xss a a from by
              rcases hi with ⟨_, h⟩ | ⟨k, a, e, _⟩
              · exact h
              · omega)
            have t1 : decide (i < 0) = true := decide_eq_true q3
            go_wp2_with fail
            refine (spec_waRound n v _ xss f lb u1 ((HH.out.below hbu1).more hbu1.size) ((HF.out.below hbu1).more hbu1.size) HG.out).mono ?_
            rintro e u2 ⟨rfl, hb_u2⟩
            have hbu2 := bl_trans hbu1 hb_u2
            have HXu2 := Lib.hid (HXu1.out.below hb_u2 (by have := HZu1.out; omega))
            have HZu2 := Lib.hid (show w.heap.size + 2 ≤ u2.heap.size by have := hb_u2.size; have := HZu1.out; omega)
            obtain ⟨yu20, yu21, yu22, yu23, yu24, yu25, yu26⟩ := HXu2.out
            cases q4 : propB (closedP n xss f lb) with
            | false =>
              go_wp2_with fail
              go_ret
              exact ⟨ret_bool (propB_f (fun h => propB_ff q4 (HP.out.1 h).2.2.2.1)).symm, hbu2⟩
            | true =>
              go_wp2_with fail
              refine (spec_waRound n v _ xss s lb u2 ((HH.out.below hbu2).more hbu2.size) ((HS.out.below hbu2).more hbu2.size) HG.out).mono ?_
              rintro e u3 ⟨rfl, hb_u3⟩
              have hbu3 := bl_trans hbu2 hb_u3
              have HXu3 := Lib.hid (HXu2.out.below hb_u3 (by have := HZu2.out; omega))
              have HZu3 := Lib.hid (show w.heap.size + 2 ≤ u3.heap.size by have := hb_u3.size; have := HZu2.out; omega)
              obtain ⟨yu30, yu31, yu32, yu33, yu34, yu35, yu36⟩ := HXu3.out
              cases q5 : propB (closedP n xss s lb) with
              | false =>
                go_wp2_with fail
                go_ret
                exact ⟨ret_bool (propB_f (fun h => propB_ff q5 (HP.out.1 h).2.2.2.2.1)).symm, hbu3⟩
              | true =>
                have o1 : (2 : Int) ≤ f.length ∧ (f.length : Int) ≤ 200 := by have := (propB_iff.1 q4).1; unfold inB at this; simpa using this
                have o2 : (2 : Int) ≤ s.length ∧ (s.length : Int) ≤ 200 := by have := (propB_iff.1 q5).1; unfold inB at this; simpa using this
                have x1 : (f.length : Int) - 1 = ((f.length - 1 : Nat) : Int) := by omega
                have x2 : (s.length : Int) - 1 = ((s.length - 1 : Nat) : Int) := by omega
                have X1 := Lib.hid x1; clear x1
                have X2 := Lib.hid x2; clear x2
                go_wp2_with fail
                rw [X1.out, X2.out]
                refine (spec_waGcd (f.length - 1) (s.length - 1) u3 (by omega) (by omega)).mono ?_
                rintro e w' ⟨rfl, m, rfl⟩
                by_cases q6 : Nat.gcd (f.length - 1) (s.length - 1) = 1
                · have t6 : ((Nat.gcd (f.length - 1) (s.length - 1) : Int) == 1) = true := by rw [q6]; rfl
                  have HQ6 := Lib.hid q6; clear q6
                  go_wp2_with fail
                  go_ret
                  exact ⟨ret_bool (propB_t (HP.out.2 ⟨HQ1.out, HQ2.out, HN.out, propB_iff.1 q4, propB_iff.1 q5, HQ6.out⟩)).symm, bl_drewN hbu3 _⟩
                · have t6 : ((Nat.gcd (f.length - 1) (s.length - 1) : Int) == 1) = false := by rw [beq_eq_false_iff_ne]; omega
                  have HQ6 := Lib.hid q6; clear q6
                  go_wp2_with fail
                  go_ret
                  exact ⟨ret_bool (propB_f (fun h => HQ6.out (HP.out.1 h).2.2.2.2.2)).symm, bl_drewN hbu3 _⟩
          · have HN := Lib.hid (show ∃ a, hasArc xss a a from by
              rcases hi with ⟨e, h⟩ | ⟨k, a, e, h, _⟩
              · omega
              · exact ⟨a, List.mem_of_getElem? h⟩)
            have t1 : decide (i < 0) = false := decide_eq_false q3
            go_wp2_with fail
            go_ret
            exact ⟨ret_bool (propB_f (fun h => by obtain ⟨a, ha⟩ := HN.out; exact (HP.out.1 h).2.2.1 a ha)).symm, hbu1⟩
        · have t0 : ((rs.length : Int) == 0) = false := by rw [beq_eq_false_iff_ne]; omega
          have HQ2 := Lib.hid q2; clear q2
          go_wp2_with fail
          go_ret
          exact ⟨ret_bool (propB_f (fun h => HQ2.out (HP.out.1 h).2.1)).symm, hb0⟩
    · by_cases e1 : cl = 1
      · subst e1
        have HP := Lib.hid (certP_1 n xss lb f s rs)
        cases q1 : inB lb 0 ((n : Int) - 1) with
        | false =>
          go_wp2_with fail
          go_ret
          exact ⟨ret_bool (propB_f (fun h => by have := (HP.out.1 h).1; rw [q1] at this; cases this)).symm, hb0⟩
        | true =>
          have HQ1 := Lib.hid q1; clear q1
          by_cases q2 : s.length = 0
          · have t0 : ((s.length : Int) == 0) = true := by rw [beq_iff_eq]; omega
            have HQ2 := Lib.hid q2; clear q2
            go_wp2_with fail
            refine (spec_waRound n v _ xss f lb w0 ((HH.out.below hb0).more hb0.size) ((HF.out.below hb0).more hb0.size) HG.out).mono ?_
            rintro e u2 ⟨rfl, hb_u2⟩
            have hbu2 := bl_trans hb0 hb_u2
            have HXu2 := Lib.hid (HB.out.below hb_u2 (by have := HZw0.out; omega))
            have HZu2 := Lib.hid (show w.heap.size + 2 ≤ u2.heap.size by have := hb_u2.size; have := HZw0.out; omega)
            obtain ⟨yu20, yu21, yu22, yu23, yu24, yu25, yu26⟩ := HXu2.out
            cases q4 : propB (closedP n xss f lb) with
            | false =>
              go_wp2_with fail
              go_ret
              exact ⟨ret_bool (propB_f (fun h => propB_ff q4 (HP.out.1 h).2.2.1)).symm, hbu2⟩
            | true =>
              go_wp2_with fail
              refine (spec_waRanked n v _ xss rs u2 ((HH.out.below hbu2).more hbu2.size) ((HR.out.below hbu2).more hbu2.size) HG.out).mono ?_
              rintro e u3 ⟨rfl, hb_u3⟩
              have hbu3 := bl_trans hbu2 hb_u3
              have HXu3 := Lib.hid (HXu2.out.below hb_u3 (by have := HZu2.out; omega))
              have HZu3 := Lib.hid (show w.heap.size + 2 ≤ u3.heap.size by have := hb_u3.size; have := HZu2.out; omega)
              obtain ⟨yu30, yu31, yu32, yu33, yu34, yu35, yu36⟩ := HXu3.out
              cases q5 : propB (RanksP true n xss rs) with
              | false =>
                go_wp2_with fail
                go_ret
                exact ⟨ret_bool (propB_f (fun h => propB_ff q5 (HP.out.1 h).2.2.2)).symm, hbu3⟩
              | true =>
                go_wp2_with fail
                go_ret
                exact ⟨ret_bool (propB_t (HP.out.2 ⟨HQ1.out, HQ2.out, propB_iff.1 q4, propB_iff.1 q5⟩)).symm, hbu3⟩
          · have t0 : ((s.length : Int) == 0) = false := by rw [beq_eq_false_iff_ne]; omega
            have HQ2 := Lib.hid q2; clear q2
            go_wp2_with fail
            go_ret
            exact ⟨ret_bool (propB_f (fun h => HQ2.out (HP.out.1 h).2.1)).symm, hb0⟩
      · by_cases e0 : cl = 0
        · subst e0
          have HP := Lib.hid (certP_0 n xss lb f s rs)
          by_cases q1 : lb = 0
          · have t1 : (lb == 0) = true := by rw [beq_iff_eq]; exact q1
            have HQ1 := Lib.hid q1; clear q1
            by_cases q2 : f.length + s.length = 0
            · have t0 : ((f.length : Int) + (s.length : Int) == 0) = true := by rw [beq_iff_eq]; omega
              have HQ2 := Lib.hid q2; clear q2
              go_wp2_with fail
              refine (spec_waRanked n v _ xss rs w0 ((HH.out.below hb0).more hb0.size) ((HR.out.below hb0).more hb0.size) HG.out).mono ?_
              rintro e u2 ⟨rfl, hb_u2⟩
              have hbu2 := bl_trans hb0 hb_u2
              have HXu2 := Lib.hid (HB.out.below hb_u2 (by have := HZw0.out; omega))
              have HZu2 := Lib.hid (show w.heap.size + 2 ≤ u2.heap.size by have := hb_u2.size; have := HZw0.out; omega)
              obtain ⟨yu20, yu21, yu22, yu23, yu24, yu25, yu26⟩ := HXu2.out
              cases q5 : propB (RanksP true n xss rs) with
              | false =>
                go_wp2_with fail
                go_ret
                exact ⟨ret_bool (propB_f (fun h => propB_ff q5 ((RanksP.above n xss rs).1 (HP.out.1 h).2.2).1)).symm, hbu2⟩
              | true =>
                go_wp2_with fail
                refine (spec_waAbove n v _ xss rs u2 ((HH.out.below hbu2).more hbu2.size) ((HR.out.below hbu2).more hbu2.size) HG.out (propB_iff.1 q5).1 (propB_iff.1 q5).2.1).mono ?_
                rintro e u3 ⟨rfl, hb_u3⟩
                have hbu3 := bl_trans hbu2 hb_u3
                have HXu3 := Lib.hid (HXu2.out.below hb_u3 (by have := HZu2.out; omega))
                have HZu3 := Lib.hid (show w.heap.size + 2 ≤ u3.heap.size by have := hb_u3.size; have := HZu2.out; omega)
                obtain ⟨yu30, yu31, yu32, yu33, yu34, yu35, yu36⟩ := HXu3.out
                cases q6 : propB (ArcsTo false rs xss xss.length) with
                | false =>
                  go_wp2_with fail
                  go_ret
                  exact ⟨ret_bool (propB_f (fun h => propB_ff q6 ((RanksP.above n xss rs).1 (HP.out.1 h).2.2).2)).symm, hbu3⟩
                | true =>
                  go_wp2_with fail
                  go_ret
                  exact ⟨ret_bool (propB_t (HP.out.2 ⟨HQ1.out, HQ2.out, (RanksP.above n xss rs).2 ⟨propB_iff.1 q5, propB_iff.1 q6⟩⟩)).symm, hbu3⟩
            · have t0 : ((f.length : Int) + (s.length : Int) == 0) = false := by rw [beq_eq_false_iff_ne]; omega
              have HQ2 := Lib.hid q2; clear q2
              go_wp2_with fail
              go_ret
              exact ⟨ret_bool (propB_f (fun h => HQ2.out (HP.out.1 h).2.1)).symm, hb0⟩
          · have t1 : (lb == 0) = false := by rw [beq_eq_false_iff_ne]; exact q1
            have HQ1 := Lib.hid q1; clear q1
            go_wp2_with fail
            go_ret
            exact ⟨ret_bool (propB_f (fun h => HQ1.out (HP.out.1 h).1)).symm, hb0⟩
        · have d3 : (cl == 3) = false := by rw [beq_eq_false_iff_ne]; exact e3
          have d2 : (cl == 2) = false := by rw [beq_eq_false_iff_ne]; exact e2
          have d1 : (cl == 1) = false := by rw [beq_eq_false_iff_ne]; exact e1
          have d0 : (cl == 0) = false := by rw [beq_eq_false_iff_ne]; exact e0
          have HE := Lib.hid (And.intro e3 (And.intro e2 (And.intro e1 e0))); clear e3 e2 e1 e0
          go_wp2_with fail
          go_ret
          exact ⟨ret_bool (propB_f (fun h => by unfold certP at h; have := HE.out; omega)).symm, hb0⟩
end
end Go.Proofs.YtjhljipehnmbnaaGreat
