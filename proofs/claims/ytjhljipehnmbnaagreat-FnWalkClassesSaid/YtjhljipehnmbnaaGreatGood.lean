/-
  Walk problems: the program's IsWalkProblem and the reference's waGood are one plain function, for every problem.
-/
import Derived.Test.YtjhljipehnmbnaaGreatRows
import Derived.Test.YtjhljipehnmbnaaGreatKit
import Derived.Test.YtjhljipehnmbnaaGreatMem
import Derived.Test.YtjhljipehnmbnaaGreatBasic
import Derived.Test.YtjhljipehnmbnaaGreatLists
import Derived.Test.YtjhljipehnmbnaaGreatWithin
import Derived.WalkKit
import Derived.WalkSpells
import Derived.WalkLawsBesides
import Derived.Lib.Hide
namespace Go.Proofs.YtjhljipehnmbnaaGreat
open Go.RowKit
set_option linter.unusedVariables false

def arcOk (n : Int) (xss : List (List Int)) (i : Nat) : Prop :=
  ∃ xs, xss[i]? = some xs ∧ xs.length = 2 ∧ allB xs 0 (n - 1) = true ∧ (0 < i → ∃ ys, xss[i - 1]? = some ys ∧ ordL ys xs < 0)
def Good (n : Int) (xss : List (List Int)) : Prop := inB n 1 12 = true ∧ ∀ i, i < xss.length → arcOk n xss i
noncomputable def goodB (n : Int) (xss : List (List Int)) : Bool := propB (Good n xss)
theorem goodB_t {n : Int} {xss : List (List Int)} (h : Good n xss) : goodB n xss = true := propB_t h
theorem goodB_f {n : Int} {xss : List (List Int)} (h : ¬ Good n xss) : goodB n xss = false := propB_f h
theorem goodB_iff {n : Int} {xss : List (List Int)} : goodB n xss = true ↔ Good n xss := propB_iff
def GoodTo (n : Int) (xss : List (List Int)) (k : Nat) : Prop := ∀ i, i < k → arcOk n xss i
theorem GoodTo.next {n : Int} {xss : List (List Int)} {k : Nat} (h : GoodTo n xss k) (hk : arcOk n xss k) : GoodTo n xss (k + 1) := by
  intro i hi
  by_cases e : i = k
  · subst e; exact hk
  · exact h i (by omega)
theorem not_good {n : Int} {xss : List (List Int)} {k : Nat} {xs : List Int} (hx : xss[k]? = some xs) (h : xs.length = 2 → allB xs 0 (n - 1) = true → 0 < k ∧ ∃ ys, xss[k - 1]? = some ys ∧ 0 ≤ ordL ys xs) : ¬ ∀ i, i < xss.length → arcOk n xss i := by
  intro hg
  obtain ⟨xs', e, h1, h2, h3⟩ := hg k (List.getElem?_eq_some_iff.1 hx).1
  rw [hx] at e; cases e
  obtain ⟨hk, ys, hy, ho⟩ := h h1 h2
  obtain ⟨ys', hy', ho'⟩ := h3 hk
  rw [hy] at hy'; cases hy'
  omega
def GoodRel (n : Int) (xss : List (List Int)) (w : World) (i : Value) (wr : World) : Prop := ∃ k : Nat, k ≤ xss.length ∧ i = .int .i64 k ∧ GoodTo n xss k ∧ Below w.heap.size w wr
theorem allB_small {xs : List Int} {n : Int} (h : allB xs 0 (n - 1) = true) (hn : n ≤ 1000000) : ∀ x ∈ xs, -1000000000 ≤ x ∧ x ≤ 1000000000 := by
  intro x hx
  have := allB_iff.1 h x hx
  omega

/-- What waArcs tells. -/
noncomputable def arcsB (n : Int) (xss : List (List Int)) : Bool := propB (∀ i, i < xss.length → arcOk n xss i)
theorem arcsB_t {n : Int} {xss : List (List Int)} (h : ∀ i, i < xss.length → arcOk n xss i) : arcsB n xss = true := propB_t h
theorem arcsB_f {n : Int} {xss : List (List Int)} (h : ¬ ∀ i, i < xss.length → arcOk n xss i) : arcsB n xss = false := propB_f h
theorem spec_waArcs (v : Value) (xss : List (List Int)) (n : Int) (w : World) (h : RowsR w w.heap.size v xss) (hn0 : 1 ≤ n) (hn : n ≤ 1000000) :
    Calls Tryz.prog 55 #[v, .int .i64 n] w fun e w' => e = .returned (.bool (arcsB n xss)) ∧ Below w.heap.size w w' := by
  obtain ⟨A, c, rfl, h1, h2, h3⟩ := h.open_
  unfold maxLen at h2
  clear h
  have H3 := Lib.hid h3; clear h3
  go_enter Tryz.func55, Tryz.ntmps55
  go_wp2_with fail
  go_loopw [9, 5, 6] (fun i _ _ wr => GoodRel n xss w i wr) (fun i _ _ _ => xss.length - (intOf i).toNat)
  case atStart => exact ⟨0, Nat.zero_le _, rfl, (fun _ h => absurd h (by omega)), Below.refl _ _⟩
  case round =>
    obtain ⟨k, hk, rfl, hup, hbl⟩ := hrel
    have HU := Lib.hid hup; clear hup
    by_cases hlt : k < xss.length
    · obtain ⟨xs, hx⟩ : ∃ x, xss[k]? = some x := ⟨xss[k], List.getElem?_eq_getElem hlt⟩
      obtain ⟨ad, rfl, hb, hc⟩ := H3.out (by omega)
      obtain ⟨u, hu, hr⟩ := hc k xs hx
      have hcell : wr.cell? (ad.add k) = some u := (hbl.cell (p := ad.add k) (by rw [block_add]; exact hb)).trans hu
      have hr' : IntsR wr wr.heap.size u xs := (hr.below hbl).more hbl.size
      have HR := Lib.hid hr'; clear hr' hr hu
      obtain ⟨A1, c1, rfl, g1, g2, -⟩ := HR.out.open_
      unfold maxLen at g2
      have HC := Lib.hid hc; clear hc
      have HX := Lib.hid hx; clear hx
      by_cases q1 : xs.length = 2
      · have t1 : ((xs.length : Int) == 2) = true := by rw [q1]; rfl
        have t2 : ((xs.length : Int) != 2) = false := by rw [q1]; rfl
        have Q1 := Lib.hid q1; clear q1
        cases q2 : allB xs 0 (n - 1) with
        | true =>
          by_cases q3 : k = 0
          · have t3 : ¬ (0 : Int) < (k : Int) := by omega
            have Q3 := Lib.hid q3; clear q3
            go_wp2_with (go_at_call 79; refine (spec_l1All _ xs _ _ _ HR.out).mono ?_; rintro e w' ⟨rfl, rfl⟩)
            go_roundw
            case rel => exact ⟨k + 1, by omega, by go_num, HU.out.next ⟨xs, HX.out, Q1.out, q2, fun h => absurd h (by omega)⟩, hbl⟩
            case measure => simp [intOf]; omega
          · have t3 : (0 : Int) < (k : Int) := by omega
            obtain ⟨ys, hy, y1, y2, -⟩ := HU.out (k - 1) (by omega)
            obtain ⟨u2, hu2, hr2⟩ := HC.out (k - 1) ys hy
            have hcell2 : wr.cell? (ad.add (k - 1)) = some u2 := (hbl.cell (p := ad.add (k - 1)) (by rw [block_add]; exact hb)).trans hu2
            have hr2' : IntsR wr wr.heap.size u2 ys := (hr2.below hbl).more hbl.size
            have HR2 := Lib.hid hr2'; clear hr2' hr2 hu2
            have HY := Lib.hid hy; clear hy
            have YL := Lib.hid y1; clear y1
            by_cases q4 : ordL ys xs < 0
            · have t4 : ¬ 0 ≤ ordL ys xs := by omega
              go_wp2_with (first
                | (go_at_call 79; refine (spec_l1All _ xs _ _ _ HR.out).mono ?_; rintro e w' ⟨rfl, rfl⟩)
                | (go_at_call 80; refine (spec_prOrder _ _ ys xs _ HR2.out HR.out (Q1.out.trans YL.out.symm) (allB_small y2 hn) (allB_small q2 hn)).mono ?_; rintro e w' ⟨rfl, rfl⟩))
              go_roundw
              case rel => exact ⟨k + 1, by omega, by go_num, HU.out.next ⟨xs, HX.out, Q1.out, q2, fun _ => ⟨ys, HY.out, q4⟩⟩, hbl⟩
              case measure => simp [intOf]; omega
            · have t4 : 0 ≤ ordL ys xs := by omega
              go_wp2_with (first
                | (go_at_call 79; refine (spec_l1All _ xs _ _ _ HR.out).mono ?_; rintro e w' ⟨rfl, rfl⟩)
                | (go_at_call 80; refine (spec_prOrder _ _ ys xs _ HR2.out HR.out (Q1.out.trans YL.out.symm) (allB_small y2 hn) (allB_small q2 hn)).mono ?_; rintro e w' ⟨rfl, rfl⟩))
              go_ret
              exact ⟨ret_bool (arcsB_f (not_good HX.out (fun _ _ => ⟨by omega, ys, HY.out, t4⟩))).symm, hbl⟩
        | false =>
          go_wp2_with (go_at_call 79; refine (spec_l1All _ xs _ _ _ HR.out).mono ?_; rintro e w' ⟨rfl, rfl⟩)
          go_ret
          exact ⟨ret_bool (arcsB_f (not_good HX.out (fun _ h => by rw [q2] at h; cases h))).symm, hbl⟩
      · have t1 : ((xs.length : Int) == 2) = false := by rw [beq_eq_false_iff_ne]; omega
        have t2 : ((xs.length : Int) != 2) = true := by rw [bne, t1]; rfl
        go_wp2_with fail
        go_ret
        exact ⟨ret_bool (arcsB_f (not_good HX.out (fun h _ => absurd h q1))).symm, hbl⟩
    · go_wp2_with fail
      go_ret
      exact ⟨ret_bool (arcsB_t (fun i hi => HU.out i (by omega))).symm, hbl⟩
theorem spec_waGood (n : Int) (v : Value) (xss : List (List Int)) (w : World) (h : RowsR w w.heap.size v xss) :
    Calls Tryz.prog 28 #[.agg #[.int .i64 n, v]] w fun e w' => e = .returned (.bool (goodB n xss)) ∧ Below w.heap.size w w' := by
  have HH := Lib.hid h; clear h
  cases q : inB n 1 12 with
  | true =>
    have hn : 1 ≤ n ∧ n ≤ 12 := by unfold inB at q; simpa using q
    have H1 := Lib.hid (show goodB n xss = arcsB n xss by unfold goodB arcsB; exact propB_congr ⟨fun h => h.2, fun h => ⟨q, h⟩⟩)
    go_enter Tryz.func28, Tryz.ntmps28
    go_wp2_with (go_at_call 54; refine (spec_l1In _ _ _ _).mono ?_; rintro e w' ⟨rfl, rfl⟩)
    refine (spec_waArcs v xss n _ ((HH.out.below (bl_alloc (Below.refl _ _) _)).more (by simp)) hn.1 (by omega)).mono ?_
    rintro e w1 ⟨rfl, hb1⟩
    go_wp2_with fail
    go_ret
    exact ⟨ret_bool H1.out.symm, bl_trans (bl_alloc (Below.refl _ _) _) hb1⟩
  | false =>
    have H1 := Lib.hid (show goodB n xss = false from goodB_f (fun h => by have h1 := h.1; rw [q] at h1; cases h1))
    go_enter Tryz.func28, Tryz.ntmps28
    go_wp2_with (go_at_call 54; refine (spec_l1In _ _ _ _).mono ?_; rintro e w' ⟨rfl, rfl⟩)
    go_ret
    exact ⟨ret_bool H1.out.symm, bl_alloc (Below.refl _ _) _⟩

theorem impl_IsWalkProblem (n : Int) (v : Value) (xss : List (List Int)) (w : World) (h : RowsR w w.heap.size v xss) :
    Calls Tryz.prog 19 #[.agg #[.int .i64 n, v]] w fun e w' => e = .returned (.bool (goodB n xss)) ∧ Below w.heap.size w w' := by
  cases q : inB n 1 12 with
  | false =>
    have H1 := Lib.hid (show goodB n xss = false from goodB_f (fun h => by have h1 := h.1; rw [q] at h1; cases h1))
    go_enter Tryz.func19, Tryz.ntmps19
    go_wp2_with (go_at_call 40; refine (impl_within _ _ _ _).mono ?_; rintro e w' ⟨rfl, rfl⟩)
    go_ret
    exact ⟨ret_bool H1.out.symm, bl_alloc (Below.refl _ _) _⟩
  | true =>
    have hn : 1 ≤ n ∧ n ≤ 12 := by unfold inB at q; simpa using q
    obtain ⟨A, c, rfl, h1, h2, h3⟩ := h.open_
    unfold maxLen at h2
    clear h
    have H3 := Lib.hid h3; clear h3
    go_enter Tryz.func19, Tryz.ntmps19
    go_wp2_with (go_at_call 40; refine (impl_within _ _ _ _).mono ?_; rintro e w' ⟨rfl, rfl⟩)
    have hw0 : Below w.heap.size w (w.alloc (.cells #[.int .i64 n, .slice A xss.length c] 26)) := bl_alloc (Below.refl _ _) _
    have hw1 : (w.alloc (.cells #[.int .i64 n, .slice A xss.length c] 26)).heap.size = w.heap.size + 1 := by simp
    have hc0 : (w.alloc (.cells #[.int .i64 n, .slice A xss.length c] 26)).cell? ⟨w.heap.size, 0, none⟩ = some (.int .i64 n) := by rw [World.cell?_alloc_at _ _ _ _ rfl]; rfl
    have hc1 : (w.alloc (.cells #[.int .i64 n, .slice A xss.length c] 26)).cell? ⟨w.heap.size, 1, none⟩ = some (.slice A xss.length c) := by rw [World.cell?_alloc_at _ _ _ _ rfl]; rfl
    generalize w.alloc (.cells #[.int .i64 n, .slice A xss.length c] 26) = w0 at *
    have HW1 := Lib.hid hw1; clear hw1
    have HC0 := Lib.hid hc0; clear hc0
    have HC1 := Lib.hid hc1; clear hc1
    go_loopw [12, 3, 4] (fun i _ _ wr => GoodRel n xss w0 i wr) (fun i _ _ _ => xss.length - (intOf i).toNat)
    case atStart => exact ⟨0, Nat.zero_le _, rfl, (fun _ h => absurd h (by omega)), Below.refl _ _⟩
    case round =>
      obtain ⟨k, hk, rfl, hup, hbl⟩ := hrel
      have HU := Lib.hid hup; clear hup
      have hb0 : Below w.heap.size w wr := bl_trans hw0 hbl
      have hlt0 : w.heap.size < w0.heap.size := by rw [HW1.out]; omega
      have hx0 : wr.cell? ⟨w.heap.size, 0, none⟩ = some (.int .i64 n) := (hbl.cell (p := ⟨w.heap.size, 0, none⟩) hlt0).trans HC0.out
      have hx1 : wr.cell? ⟨w.heap.size, 1, none⟩ = some (.slice A xss.length c) := (hbl.cell (p := ⟨w.heap.size, 1, none⟩) hlt0).trans HC1.out
      by_cases hlt : k < xss.length
      · obtain ⟨xs, hx⟩ : ∃ x, xss[k]? = some x := ⟨xss[k], List.getElem?_eq_getElem hlt⟩
        obtain ⟨ad, rfl, hb, hc⟩ := H3.out (by omega)
        obtain ⟨u, hu, hr⟩ := hc k xs hx
        have hcell : wr.cell? (ad.add k) = some u := (hb0.cell (p := ad.add k) (by rw [block_add]; exact hb)).trans hu
        have hr' : IntsR wr wr.heap.size u xs := (hr.below hb0).more hb0.size
        have HR := Lib.hid hr'; clear hr' hr hu
        obtain ⟨A1, c1, rfl, g1, g2, -⟩ := HR.out.open_
        unfold maxLen at g2
        have HC := Lib.hid hc; clear hc
        have HX := Lib.hid hx; clear hx
        by_cases q1 : xs.length = 2
        · have t1 : ((xs.length : Int) == 2) = true := by rw [q1]; rfl
          have t2 : ((xs.length : Int) != 2) = false := by rw [q1]; rfl
          have Q1 := Lib.hid q1; clear q1
          go_wp2_with fail
          refine (impl_hasLabels n _ _ xs _ HR.out (by omega) (by omega)).mono ?_
          rintro e w1 ⟨rfl, hb1⟩
          have hsz1 := hb1.size
          have hy1 : w1.cell? ⟨w.heap.size, 1, none⟩ = some (.slice (some ad) xss.length c) := (hb1.cell (p := ⟨w.heap.size, 1, none⟩) (by have := hbl.size; show w.heap.size < _; omega)).trans hx1
          have hbl1 : Below w0.heap.size w0 w1 := bl_trans hbl hb1
          have hb01 : Below w.heap.size w w1 := bl_trans hb0 hb1
          clear hx0 hx1
          cases q2 : allB xs 0 (n - 1) with
          | true =>
            by_cases q3 : k = 0
            · have t3 : ¬ (0 : Int) < (k : Int) := by omega
              have Q3 := Lib.hid q3; clear q3
              go_wp2_with fail
              go_roundw
              case rel => exact ⟨k + 1, by omega, by go_num, HU.out.next ⟨xs, HX.out, Q1.out, q2, fun h => absurd h (by omega)⟩, hbl1⟩
              case measure => simp [intOf]; omega
            · have t3 : (0 : Int) < (k : Int) := by omega
              obtain ⟨ys, hy, y1, y2, -⟩ := HU.out (k - 1) (by omega)
              obtain ⟨u2, hu2, hr2⟩ := HC.out (k - 1) ys hy
              have hcell2 : w1.cell? (ad.add (k - 1)) = some u2 := (hb01.cell (p := ad.add (k - 1)) (by rw [block_add]; exact hb)).trans hu2
              have hr2' : IntsR w1 w1.heap.size u2 ys := (hr2.below hb01).more hb01.size
              have HR2 := Lib.hid hr2'; clear hr2' hr2 hu2
              have HR1 := Lib.hid ((HR.out.below hb1).more hsz1)
              have HY := Lib.hid hy; clear hy
              have YL := Lib.hid y1; clear y1
              by_cases q4 : ordL ys xs < 0
              · have t4 : ¬ 0 ≤ ordL ys xs := by omega
                go_wp2_with (go_at_call 42; refine (slices_Compare _ _ ys xs _ HR2.out HR1.out).mono ?_; rintro e w' ⟨rfl, rfl⟩)
                go_roundw
                case rel => exact ⟨k + 1, by omega, by go_num, HU.out.next ⟨xs, HX.out, Q1.out, q2, fun _ => ⟨ys, HY.out, q4⟩⟩, hbl1⟩
                case measure => simp [intOf]; omega
              · have t4 : 0 ≤ ordL ys xs := by omega
                go_wp2_with (go_at_call 42; refine (slices_Compare _ _ ys xs _ HR2.out HR1.out).mono ?_; rintro e w' ⟨rfl, rfl⟩)
                go_ret
                exact ⟨ret_bool (goodB_f (fun h => not_good HX.out (fun _ _ => ⟨by omega, ys, HY.out, t4⟩) h.2)).symm, hb01⟩
          | false =>
            go_wp2_with fail
            go_ret
            exact ⟨ret_bool (goodB_f (fun h => not_good HX.out (fun _ h => by rw [q2] at h; cases h) h.2)).symm, hb01⟩
        · have t1 : ((xs.length : Int) == 2) = false := by rw [beq_eq_false_iff_ne]; omega
          have t2 : ((xs.length : Int) != 2) = true := by rw [bne, t1]; rfl
          go_wp2_with fail
          go_ret
          exact ⟨ret_bool (goodB_f (fun h => not_good HX.out (fun h _ => absurd h q1) h.2)).symm, hb0⟩
      · go_wp2_with fail
        go_ret
        exact ⟨ret_bool (goodB_t ⟨q, fun i hi => HU.out i (by omega)⟩).symm, hb0⟩
end Go.Proofs.YtjhljipehnmbnaaGreat
