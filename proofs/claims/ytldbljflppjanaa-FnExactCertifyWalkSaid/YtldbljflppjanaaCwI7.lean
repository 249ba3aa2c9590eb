/-
  Walk problems, the program's side: flexibility, class, the first walk of a length.
-/
import Derived.Test.YtldbljflppjanaaCwI6
namespace Go.Proofs.Ytldbljflppjanaa
open Go.RowKit
set_option linter.unusedVariables false
set_option linter.unusedSimpArgs false
/-- Closed walks of a length. -/
noncomputable def loopB (xss : List (List Int)) (a k : Nat) : Bool := propB (wk (hasArc xss) k a a)
noncomputable def flexN (xss : List (List Int)) (a m : Nat) : Nat := downB (loopB xss a) m
theorem rset_loop {n : Nat} {xss : List (List Int)} (hg : Good n xss) {a k : Nat} (ha : a < n) : (rset xss a k).testBit a = loopB xss a k := by
  have hn := good_n hg
  unfold rset loopB
  rw [Bool.eq_iff_iff, bitSet_bit, propB_iff]
  exact ⟨fun h => h.2, fun h => ⟨by omega, h⟩⟩
def FdRel (xss : List (List Int)) (a m : Nat) (w1 : World) (kv : Value) (wr : World) : Prop :=
  w1 = wr ∧ ∃ k : Nat, k ≤ m ∧ kv = .int .i64 k ∧ flexN xss a m = downB (loopB xss a) k
set_option maxRecDepth 100000 in
theorem impl_flexibilityOf (n : Nat) (v : Value) (xss : List (List Int)) (a : Nat) (w : World) (h : RowsR w w.heap.size v xss) (hg : Good n xss) (ha : a < n) (hv : ∃ A m c, v = .slice A m c) :
    Calls Try.prog 21 #[.agg #[.int .i64 (n : Int), v], .int .i64 (a : Int)] w fun e w' => e = .returned (.int .i64 (flexN xss a 288 : Int)) ∧ Below w.heap.size w w' := by
  have hn := good_n hg
  have HH := Lib.hid h; clear h
  have HG := Lib.hid hg; clear hg
  go_enter Try.func21, Try.ntmps21
  go_wp2_with fail
  refine (impl_reached n v xss a 288 _ ((HH.out.below (bl_alloc (Below.refl _ _) _)).more (by simp)) HG.out ha (by omega) hv).mono ?_
  rintro e w1 ⟨u, rfl, hown, hb1⟩
  have hb01 := bl_trans (bl_alloc (Below.refl w.heap.size w) _) hb1
  have hr := own_intsR hown (rsetL_64 xss a (288 + 1))
  obtain ⟨A2, c2, rfl, q1, q2, q3⟩ := hr.open_
  rw [natsI_len, rsetL_len] at q1 q3 ⊢
  obtain ⟨ad, rfl, hbd, hc⟩ := q3 (by omega)
  have HC := Lib.hid hc
  have HRL := Lib.hid (fun k => rset_loop (k := k) HG.out ha)
  clear q3 hr hown hc
  go_wp2_with fail
  go_loopw [6] (fun kv wr => FdRel xss a 288 w1 kv wr) (fun kv _ => (intOf kv).toNat)
  case atStart => exact ⟨rfl, 288, Nat.le_refl _, rfl, rfl⟩
  case round =>
    obtain ⟨rfl, k, hk, rfl, hfx⟩ := hrel
    have HF := Lib.hid hfx
    clear hfx
    rcases Nat.eq_zero_or_pos k with h0 | h0
    · subst h0
      go_wp2_with fail
      go_ret
      exact ⟨ret_int (by rw [HF.out]; rfl), hb01⟩
    · have hcell := HC.out k _ (natsI_at (rsetL_at (xss := xss) (a := a) (show k < 288 + 1 by omega)))
      have hrl := rset_lt xss a k
      have hk0 : (0 : Int) < (k : Int) := by omega
      have HRJ := Lib.hid (HRL.out k)
      by_cases ht : (rset xss a k).testBit a = true
      · have hbit := bit_t hrl (by omega) ht
        have HE := Lib.hid (show downB (loopB xss a) k = downB (loopB xss a) (k - 1) by
          obtain ⟨j, rfl⟩ : ∃ j, k = j + 1 := ⟨k - 1, by omega⟩
          rw [downB, if_pos (by rw [← HRJ.out]; exact ht)]
          rfl)
        clear ht
        generalize rset xss a k = q at *
        go_wp2_with fail
        go_roundw
        case rel => exact ⟨rfl, k - 1, by omega, by first | go_num | (congr 1; omega), by rw [HF.out, HE.out]⟩
        case measure => simp [intOf]; omega
      · have hbit := bit_f hrl (by omega) ht
        have HE := Lib.hid (show downB (loopB xss a) k = k + 1 by
          obtain ⟨j, rfl⟩ : ∃ j, k = j + 1 := ⟨k - 1, by omega⟩
          rw [downB, if_neg (by rw [← HRJ.out]; exact ht)])
        clear ht
        generalize rset xss a k = q at *
        go_wp2_with fail
        go_ret
        exact ⟨ret_int (by rw [HF.out, HE.out]; push_cast; omega), hb01⟩
/-- The class of a walk problem. -/
noncomputable def classN (n : Nat) (xss : List (List Int)) : Nat :=
  if propB (∃ a, a < n ∧ hasArc xss a a) = true then 3 else if 0 < (flexL n xss).length then 2 else if 0 < (roots xss n).length then 1 else 0
set_option maxRecDepth 100000 in
theorem impl_classOf (n : Nat) (v : Value) (xss : List (List Int)) (w : World) (h : RowsR w w.heap.size v xss) (hg : Good n xss) (hv : ∃ A m c, v = .slice A m c) :
    Calls Try.prog 18 #[.agg #[.int .i64 (n : Int), v]] w fun e w' => e = .returned (.int .i64 (classN n xss : Int)) ∧ Below w.heap.size w w' := by
  have HH := Lib.hid h; clear h
  have HG := Lib.hid hg; clear hg
  have hrl := roots_len xss n
  have hn := good_n HG.out
  obtain ⟨w0, hw0⟩ : ∃ z, z = w.alloc (.cells #[.int .i64 (n : Int), v] 31) := ⟨_, rfl⟩
  have hb0 : Below w.heap.size w w0 := by rw [hw0]; exact bl_alloc (Below.refl _ _) _
  have hz0 : w0.heap.size = w.heap.size + 1 := by rw [hw0]; simp
  have HB0 := Lib.hid (show w0.heap[w.heap.size]? = some (.cells #[.int .i64 (n : Int), v] 31 (0, 0)) by rw [hw0]; exact heap_alloc_new _ _)
  have HW0 := Lib.hid hw0
  have hzz : w.heap.size < w0.heap.size := by omega
  clear hw0 hz0
  obtain ⟨b0, b1, bf⟩ := cells2 HB0
  go_enter Try.func18, Try.ntmps18
  go_wp2_with fail
  rw [← HW0.out]
  refine (impl_walkComponents n v xss w0 ((HH.out.below hb0).more hb0.size) HG.out hv).mono ?_
  rintro e w1 ⟨lv, pv, rfl, hlv, hpv, hb1⟩
  obtain ⟨Al, cl, rfl⟩ := hlv.sl
  have hb01 := bl_trans hb0 hb1
  have HB1 := bk HB0 hb1 (by omega)
  clear hlv hpv b0 b1 bf
  obtain ⟨b0, b1, bf⟩ := cells2 HB1
  go_wp2_with fail
  refine (impl_loopOf n v xss w1 ((HH.out.below hb01).more hb01.size) HG.out hv).mono ?_
  rintro e w2 ⟨i, rfl, hi, hb2⟩
  have hb02 := bl_trans hb01 hb2
  have HB2 := bk HB1 hb2 (by have := hb1.size; omega)
  clear b0 b1 bf
  obtain ⟨b0, b1, bf⟩ := cells2 HB2
  rcases hi with ⟨rfl, hno⟩ | ⟨a, ha, rfl, haa, -⟩
  · have hnp := propB_f (p := ∃ a, a < n ∧ hasArc xss a a) (by rintro ⟨a, h1, h2⟩; exact hno a h1 h2)
    have HCL := Lib.hid (show classN n xss = if 0 < (flexL n xss).length then 2 else if 0 < (roots xss n).length then 1 else 0 by unfold classN; rw [hnp]; rfl)
    clear hno hnp
    go_wp2_with fail
    refine (impl_flexibleLabels n v xss w2 ((HH.out.below hb02).more hb02.size) HG.out hv).mono ?_
    rintro e w3 ⟨u, rfl, hown, hb3⟩
    obtain ⟨Au, cu, rfl⟩ := own_sl hown
    have hb03 := bl_trans hb02 hb3
    clear hown
    by_cases hf : 0 < (flexL n xss).length
    · have hfi : (0 : Int) < ((flexL n xss).length : Int) := by omega
      go_wp2_with fail
      go_ret
      exact ⟨ret_int (by rw [HCL.out, if_pos hf]; rfl), hb03⟩
    · have hfi : ¬ (0 : Int) < ((flexL n xss).length : Int) := by omega
      by_cases hr : 0 < (roots xss n).length
      · have hri : (0 : Int) < ((roots xss n).length : Int) := by omega
        go_wp2_with fail
        go_ret
        exact ⟨ret_int (by rw [HCL.out, if_neg hf, if_pos hr]; rfl), hb03⟩
      · have hri : ¬ (0 : Int) < ((roots xss n).length : Int) := by omega
        go_wp2_with fail
        go_ret
        exact ⟨ret_int (by rw [HCL.out, if_neg hf, if_neg hr]; rfl), hb03⟩
  · have HCL := Lib.hid (show classN n xss = 3 by unfold classN; rw [propB_t ⟨a, ha, haa⟩]; rfl)
    clear haa
    go_wp2_with fail
    go_ret
    exact ⟨ret_int (by rw [HCL.out]; rfl), hb02⟩
end Go.Proofs.Ytldbljflppjanaa
