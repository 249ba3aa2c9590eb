/-
  Runs in rounds: the reference's RunTogether. Condition: sizes.
-/
import Derived.Test.YtdghoienjegffaaGreatQPlainTog
import Derived.Test.YtdghoienjegffaaGreatQNetNextV
namespace Go.Proofs.YtdghoienjegffaaGreat
open Go.RowKit
set_option linter.all false
noncomputable def togN (n : Net) (r : Int) (ss : List Int) : Nat → Nat → Nat
  | 0, j => j
  | d + 1, j => @ite Nat (enS n r (roundsT n r j ss) = []) (Classical.propDecidable _) j (togN n r ss d (j + 1))
theorem togN_calm {n : Net} {r : Int} {ss : List Int} {d j : Nat} (h : enS n r (roundsT n r j ss) = []) : togN n r ss d j = j := by
  cases d with
  | zero => rfl
  | succ d => unfold togN; rw [if_pos h]
theorem togN_step {n : Net} {r : Int} {ss : List Int} {d j : Nat} (h : ¬ enS n r (roundsT n r j ss) = []) : togN n r ss (d + 1) j = togN n r ss d (j + 1) := by
  rw [togN, if_neg h]
noncomputable def togB (n : Net) (r : Int) (ss : List Int) (most : Int) : Bool := sitB n r ss && inB most 0 2000
theorem roundT_sts {n : Net} {r : Int} {ss : List Int} (ha : askP n r) (hs : Sts (cnts n r) ss) : Sts (cnts n r) (roundT n r ss) := moveS_sts ha hs _ fun v hv => enS_mem hv
theorem roundsT_sts {n : Net} {r : Int} {ss : List Int} (ha : askP n r) (hs : Sts (cnts n r) ss) : ∀ k, Sts (cnts n r) (roundsT n r k ss)
  | 0 => hs
  | k + 1 => roundT_sts ha (roundsT_sts ha hs k)
def TogPost (n : Net) (r : Int) (ss : List Int) (most : Int) (w : World) (e : Ending) (w' : World) : Prop :=
  Below w.heap.size w w' ∧ ∃ (u : Value) (k : Int) (xs : List Int), e = .returned (.tuple #[u, .int .i64 k, .bool (togB n r ss most)]) ∧ (∃ A m c, u = .slice A m c) ∧ IntsR w' w'.heap.size u xs ∧
    (togB n r ss most = true → k = (togN n r ss most.toNat 0 : Nat) ∧ xs = roundsT n r (togN n r ss most.toNat 0) ss) ∧ (togB n r ss most = false → k = 0 ∧ xs = [])
theorem ints_upR {w w' : World} {v : Value} {xs : List Int} (h : IntsR w w.heap.size v xs) (hb : Below w.heap.size w w') : IntsR w' w'.heap.size v xs := (h.below hb).more hb.size
theorem spec_ssMost (most : Int) (w : World) : Calls Tryz.prog 30 #[.int .i64 most] w fun e w' => e = .returned (.bool (inB most 0 2000)) ∧ w = w' := by
  go_enter Tryz.func30, Tryz.ntmps30
  go_wp2_with fail
  refine (spec_l1In _ _ _ _).mono ?_
  rintro e w' ⟨rfl, rfl⟩
  go_wp2_with fail
  go_ret
  exact ⟨rfl, rfl⟩
def RtRel (n : Net) (r : Int) (ss : List Int) (K : Nat) (w : World) (now k en : Value) (wr : World) : Prop :=
  Below w.heap.size w wr ∧ ∃ j : Nat, j ≤ K ∧ k = .int .i64 (j : Int) ∧ (∃ A m c, now = .slice A m c) ∧ IntsR wr wr.heap.size now (roundsT n r j ss) ∧ (∃ A m c, en = .slice A m c) ∧ IntsR wr wr.heap.size en (enS n r (roundsT n r j ss)) ∧ togN n r ss (K - j) j = togN n r ss K 0
set_option maxRecDepth 100000 in
set_option maxHeartbeats 4000000 in
theorem spec_RunTogether (ve vi vn vs : Value) (n : Net) (r : Int) (ss : List Int) (most : Int) (w : World) (h : NetR w w.heap.size ve vi vn n) (hs : IntsR w w.heap.size vs ss) (hz : n.es.length ≤ 2000000) (hzs : ss.length ≤ 1048576) :
  Calls Tryz.prog 8 #[.agg #[ve, vi, vn], .int .i64 r, vs, .int .i64 most] w (TogPost n r ss most w) := by
 have HN := Lib.hid h
 have HS := Lib.hid hs
 obtain ⟨⟨A0, m0, c0, rfl⟩, ⟨A1, m1, c1, rfl⟩, A2, m2, c2, rfl⟩ := h.slices
 obtain ⟨As, ms, cs, rfl⟩ := hs.isSlice
 clear h hs
 obtain ⟨w0, hw0, hb0, HD, hz0, HS0⟩ := box3 w (.slice A0 m0 c0) (.slice A1 m1 c1) (.slice A2 m2 c2) 27
 have HW0 := Lib.hid hw0
 obtain ⟨q0, q1, q2, qf⟩ := cells3 HD
 have eq0 := q0
 have eq1 := q1
 have eq2 := q2
 rw [hw0] at eq0 eq1 eq2
 clear hw0
 go_enter Tryz.func8, Tryz.ntmps8
 go_wp2_with fail
 rw [← HW0.out]
 clear eq0 eq1 eq2
 refine (spec_ssStates _ _ _ _ n r ss w0 (HN.out.up hb0) (ints_upR HS.out hb0) hz hzs).mono ?_
 rintro e w1 ⟨rfl, hb1⟩
 have hzz1 := hb1.size
 have hB1 := bl_trans hb0 hb1
 have HD1 := bk HD hb1
 clear q0 q1 q2 qf
 obtain ⟨q0, q1, q2, qf⟩ := cells3 HD1
 have hbad : togB n r ss most = false → ∀ w', Below w.heap.size w w' → TogPost n r ss most w (.returned (.tuple #[.slice none 0 0, .int .i64 0, .bool false])) w' := fun h w' hb =>
  ⟨hb, .slice none 0 0, 0, [], by rw [h], ⟨_, _, _, rfl⟩, ints_nil _ _, fun h' => absurd h' (by rw [h]; decide), fun _ => ⟨rfl, rfl⟩⟩
 have HBAD := Lib.hid hbad
 clear hbad
 cases hsit : sitB n r ss with
 | false =>
  have hto : togB n r ss most = false := by unfold togB; rw [hsit]; rfl
  have HTO := Lib.hid hto
  clear hsit hto
  go_wp2_with fail
  exact bodyPost_ret (v := .tuple #[.slice none 0 0, .int .i64 0, .bool false]) (by simp [results, Tryz.results8, go_sem]) rfl (HBAD.out HTO.out _ hB1)
 | true =>
  have HSIT := Lib.hid hsit
  clear hsit
  go_wp2_with fail
  refine (spec_ssMost _ _).mono ?_
  rintro e w' ⟨rfl, rfl⟩
  cases hin : inB most 0 2000 with
  | false =>
   have hto : togB n r ss most = false := by unfold togB; rw [hin, Bool.and_false]
   have HTO := Lib.hid hto
   clear hin hto
   go_wp2_with fail
   exact bodyPost_ret (v := .tuple #[.slice none 0 0, .int .i64 0, .bool false]) (by simp [results, Tryz.results8, go_sem]) rfl (HBAD.out HTO.out _ hB1)
  | true =>
   have HTO := Lib.hid (show togB n r ss most = true by unfold togB; rw [HSIT.out, hin]; rfl)
   obtain ⟨hask, hsts⟩ := propB_iff.1 HSIT.out
   have hin' : 0 ≤ most ∧ most ≤ 2000 := by unfold inB at hin; simpa using hin
   obtain ⟨K, rfl⟩ : ∃ K : Nat, most = K := ⟨most.toNat, by omega⟩
   have hK : K ≤ 2000 := by omega
   have HAS := Lib.hid hask
   have HST := Lib.hid hsts
   clear hin hin' hask hsts
   go_wp2_with fail
   refine (spec_l1Own _ ss w1 (ints_upR HS.out hB1) (by omega)).mono ?_
   rintro e w2 ⟨v2, rfl, ho2, hb2⟩
   have hi2 : IntsR w2 w2.heap.size v2 ss := own_intsR ho2 HS.out.2
   obtain ⟨A3, m3, c3, rfl⟩ := hi2.isSlice
   have HI2 := Lib.hid hi2
   have hzz2 := hb2.size
   have HD2 := bk HD1 hb2
   have hB2 := bl_trans hB1 hb2
   clear ho2 hb2 hi2 q0 q1 q2 qf
   obtain ⟨q0, q1, q2, qf⟩ := cells3 HD2
   go_wp2_with fail
   refine (spec_ssEnabled _ _ _ _ n r ss w2 (HN.out.up hB2) HAS.out HI2.out HST.out).mono ?_
   rintro e w3 ⟨u, rfl, ⟨A4, m4, c4, rfl⟩, he3, hb3⟩
   have hzz3 := hb3.size
   have HD3 := bk HD2 hb3
   have hB3 := bl_trans hB2 hb3
   have HI3 := Lib.hid (ints_upR HI2.out hb3)
   have HE3 := Lib.hid he3
   clear he3 hb3 q0 q1 q2 qf
   go_wp2_with fail
   go_loopw [11, 12, 13] (fun now k en wr => RtRel n r ss K w3 now k en wr) (fun _ k _ _ => K - (intOf k).toNat)
   case atStart => exact ⟨Below.refl _ _, 0, Nat.zero_le _, rfl, ⟨_, _, _, rfl⟩, HI3.out, ⟨_, _, _, rfl⟩, HE3.out, rfl⟩
   case round =>
    obtain ⟨hbr, j, hjK, rfl, ⟨A5, m5, c5, rfl⟩, hnow, ⟨A6, m6, c6, rfl⟩, hen, htog⟩ := hrel
    have HNOW := Lib.hid hnow
    have HEN := Lib.hid hen
    have HTG := Lib.hid htog
    have hzzr := hbr.size
    have hBr := bl_trans hB3 hbr
    have HDr := bk HD3 hbr
    have hm6 : m6 = (enS n r (roundsT n r j ss)).length := by
     obtain ⟨A, c, e, _⟩ := hen.open_
     exact (Value.slice.inj e).2.1
    have HM6 := Lib.hid hm6
    have hstj := Lib.hid (roundsT_sts HAS.out HST.out j)
    have hlj := roundsT_len n r ss j
    obtain ⟨q0, q1, q2, qf⟩ := cells3 HDr
    clear hnow hen htog hm6
    by_cases h0 : 0 < m6
    ·
     have hg0 : ((m6 : Int) > 0) = True := eq_true (by omega)
     have hne : ¬ enS n r (roundsT n r j ss) = [] := fun e => by have := HM6.out; rw [e] at this; simp at this; omega
     by_cases hj : j < K
     ·
      have hjk : ((j : Int) < (K : Int)) = True := eq_true (by omega)
      have hTS := Lib.hid (show togN n r ss (K - (j + 1)) (j + 1) = togN n r ss K 0 by
       rw [← HTG.out, show K - j = K - (j + 1) + 1 by omega, togN_step hne])
      have hl9 : (enS n r (roundsT n r j ss)).length ≤ 2000000 := by
       have h9 : (enS n r (roundsT n r j ss)).length ≤ (roundsT n r j ss).length := by
        unfold enS enN
        rw [List.length_map]
        exact Nat.le_trans (List.length_filter_le _ _) (by rw [List.length_range]; exact Nat.le_refl _)
       omega
      clear hne
      go_wp2_with fail
      refine (spec_ssMove _ _ _ _ _ n r (roundsT n r j ss) (enS n r (roundsT n r j ss)) wr (HN.out.up hBr) HAS.out HNOW.out hstj.out HEN.out (fun v hv => enS_mem hv) hl9).mono ?_
      rintro e w5 ⟨u5, rfl, ⟨A7, m7, c7, rfl⟩, hm5, hb5⟩
      have HM5 := Lib.hid (show IntsR w5 w5.heap.size (.slice A7 m7 c7) (roundsT n r (j + 1) ss) from hm5)
      have hzz5 := hb5.size
      have HD5 := bk HDr hb5
      have hB5 := bl_trans hBr hb5
      have hBr5 := bl_trans hbr hb5
      clear hm5 hb5 q0 q1 q2 qf hg0 hjk
      obtain ⟨q0, q1, q2, qf⟩ := cells3 HD5
      go_wp2_with fail
      refine (spec_ssEnabled _ _ _ _ n r (roundsT n r (j + 1) ss) w5 (HN.out.up hB5) HAS.out HM5.out (roundsT_sts HAS.out HST.out (j + 1))).mono ?_
      rintro e w6 ⟨u6, rfl, ⟨A8, m8, c8, rfl⟩, he6, hb6⟩
      have HE6 := Lib.hid he6
      have HM6' := Lib.hid (ints_upR HM5.out hb6)
      have hBr6 := bl_trans hBr5 hb6
      clear he6 hb6 q0 q1 q2 qf
      go_wp2_with fail
      go_roundw
      case rel => exact ⟨hBr6, j + 1, by omega, by go_num, ⟨_, _, _, rfl⟩, HM6'.out, ⟨_, _, _, rfl⟩, HE6.out, hTS.out⟩
      case measure => simp [intOf]; omega
     ·
      obtain rfl : j = K := by omega
      have hjk : ((j : Int) < (j : Int)) = False := eq_false (by omega)
      have hT : togN n r ss j 0 = j := by rw [← HTG.out, Nat.sub_self]; rfl
      have HT := Lib.hid hT
      clear hT hne
      go_wp2_with fail
      exact bodyPost_ret (v := .tuple #[.slice A5 m5 c5, .int .i64 (j : Int), .bool true]) (by simp [results, Tryz.results8, go_sem]) rfl ⟨hBr, _, _, roundsT n r j ss, by rw [HTO.out], ⟨_, _, _, rfl⟩, HNOW.out, fun _ => ⟨by rw [Int.toNat_natCast, HT.out], by rw [Int.toNat_natCast, HT.out]⟩, fun h => absurd h (by rw [HTO.out]; decide)⟩
    ·
     have hg0 : ((m6 : Int) > 0) = False := eq_false (by omega)
     have hne : enS n r (roundsT n r j ss) = [] := List.eq_nil_of_length_eq_zero (by have := HM6.out; omega)
     have hT : togN n r ss K 0 = j := by rw [← HTG.out, togN_calm hne]
     have HT := Lib.hid hT
     clear hT hne
     go_wp2_with fail
     exact bodyPost_ret (v := .tuple #[.slice A5 m5 c5, .int .i64 (j : Int), .bool true]) (by simp [results, Tryz.results8, go_sem]) rfl ⟨hBr, _, _, roundsT n r j ss, by rw [HTO.out], ⟨_, _, _, rfl⟩, HNOW.out, fun _ => ⟨by rw [Int.toNat_natCast, HT.out], by rw [Int.toNat_natCast, HT.out]⟩, fun h => absurd h (by rw [HTO.out]; decide)⟩
end Go.Proofs.YtdghoienjegffaaGreat
