/-
  Runs in rounds: the program's RunTogether. Condition: sizes.
-/
import Derived.Test.YtdghoienjegffaaGreatQRunTog
import Derived.Test.YtdghoienjegffaaGreatQNextI
namespace Go.Proofs.YtdghoienjegffaaGreat
open Go.RowKit
set_option linter.all false
def RtRelI (n : Net) (r : Int) (ss : List Int) (K : Nat) (w : World) (now k : Value) (wr : World) : Prop :=
  Below w.heap.size w wr ∧ ∃ j : Nat, j ≤ K ∧ k = .int .i64 (j : Int) ∧ (∃ A m c, now = .slice A m c) ∧ IntsR wr wr.heap.size now (roundsT n r j ss) ∧ togN n r ss (K - j) j = togN n r ss K 0
set_option maxRecDepth 100000 in
set_option maxHeartbeats 4000000 in
theorem impl_RunTogether (ve vi vn vs : Value) (n : Net) (r : Int) (ss : List Int) (most : Int) (w : World) (h : NetR w w.heap.size ve vi vn n) (hs : IntsR w w.heap.size vs ss) (hz : n.es.length ≤ 2000000) (hzi : n.ids.length ≤ 2000000) (hzs : ss.length ≤ 1048576) :
  Calls Tryz.prog 7 #[.agg #[ve, vi, vn], .int .i64 r, vs, .int .i64 most] w (TogPost n r ss most w) := by
 have HN := Lib.hid h
 have HS := Lib.hid hs
 obtain ⟨⟨A0, m0, c0, rfl⟩, ⟨A1, m1, c1, rfl⟩, A2, m2, c2, rfl⟩ := h.slices
 obtain ⟨As, ms, cs, rfl⟩ := hs.isSlice
 clear h hs
 obtain ⟨w0, hw0, hb0, HD, hz0, HS0⟩ := box3 w (.slice A0 m0 c0) (.slice A1 m1 c1) (.slice A2 m2 c2) 27
 have HW0 := Lib.hid hw0
 obtain ⟨q0, q1, q2, qf⟩ := cells3 HD
 have eq0 := q0
 have eq1 := q1
 have eq2 := q2
 rw [hw0] at eq0 eq1 eq2
 clear hw0
 go_enter Tryz.func7, Tryz.ntmps7
 go_wp2_with fail
 rw [← HW0.out]
 clear eq0 eq1 eq2
 refine (impl_situationOk _ _ _ _ n r ss w0 (HN.out.up hb0) (ints_upR HS.out hb0) hz hzi).mono ?_
 rintro e w1 ⟨rfl, hb1⟩
 have hzz1 := hb1.size
 have hB1 := bl_trans hb0 hb1
 have HD1 := bk HD hb1
 clear q0 q1 q2 qf
 obtain ⟨q0, q1, q2, qf⟩ := cells3 HD1
 have hbad : togB n r ss most = false → ∀ w', Below w.heap.size w w' → TogPost n r ss most w (.returned (.tuple #[.slice none 0 0, .int .i64 0, .bool false])) w' := fun h w' hb =>
  ⟨hb, .slice none 0 0, 0, [], by rw [h], ⟨_, _, _, rfl⟩, ints_nil _ _, fun h' => absurd h' (by rw [h]; decide), fun _ => ⟨rfl, rfl⟩⟩
 have HBAD := Lib.hid hbad
 clear hbad
 cases hsit : sitB n r ss with
 | false =>
  have hto : togB n r ss most = false := by unfold togB; rw [hsit]; rfl
  have HTO := Lib.hid hto
  clear hsit hto
  go_wp2_with fail
  exact bodyPost_ret (v := .tuple #[.slice none 0 0, .int .i64 0, .bool false]) (by simp [results, Tryz.results7, go_sem]) rfl (HBAD.out HTO.out _ hB1)
 | true =>
  have HSIT := Lib.hid hsit
  clear hsit
  go_wp2_with fail
  refine (impl_within _ _ _ _).mono ?_
  rintro e w' ⟨rfl, rfl⟩
  cases hin : inB most 0 2000 with
  | false =>
   have hto : togB n r ss most = false := by unfold togB; rw [hin, Bool.and_false]
   have HTO := Lib.hid hto
   clear hin hto
   go_wp2_with fail
   exact bodyPost_ret (v := .tuple #[.slice none 0 0, .int .i64 0, .bool false]) (by simp [results, Tryz.results7, go_sem]) rfl (HBAD.out HTO.out _ hB1)
  | true =>
   have HTO := Lib.hid (show togB n r ss most = true by unfold togB; rw [HSIT.out, hin]; rfl)
   obtain ⟨hask, hsts⟩ := propB_iff.1 HSIT.out
   have hin' : 0 ≤ most ∧ most ≤ 2000 := by unfold inB at hin; simpa using hin
   obtain ⟨K, rfl⟩ : ∃ K : Nat, most = K := ⟨most.toNat, by omega⟩
   have hK : K ≤ 2000 := by omega
   have HAS := Lib.hid hask
   have HST := Lib.hid hsts
   clear hin hin' hask hsts
   go_wp2_with fail
   refine (impl_Clone _ ss w1 (ints_upR HS.out hB1) (by omega)).mono ?_
   rintro e w2 ⟨v2, rfl, ho2, hne2, hb2⟩
   have hi2 : IntsR w2 w2.heap.size v2 ss := own_intsR ho2 HS.out.2
   obtain ⟨A3, m3, c3, rfl⟩ := hi2.isSlice
   have HI2 := Lib.hid hi2
   have hzz2 := hb2.size
   have HD2 := bk HD1 hb2
   have hB2 := bl_trans hB1 hb2
   clear ho2 hb2 hi2 hne2 q0 q1 q2 qf
   obtain ⟨q0, q1, q2, qf⟩ := cells3 HD2
   go_wp2_with fail
   go_loopw [11, 27] (fun now k wr => RtRelI n r ss K w2 now k wr) (fun _ k _ => K - (intOf k).toNat)
   case atStart => exact ⟨Below.refl _ _, 0, Nat.zero_le _, rfl, ⟨_, _, _, rfl⟩, HI2.out, rfl⟩
   case round =>
    obtain ⟨hbr, j, hjK, rfl, ⟨A5, m5, c5, rfl⟩, hnow, htog⟩ := hrel
    have HNOW := Lib.hid hnow
    have HTG := Lib.hid htog
    have hzzr := hbr.size
    have hBr := bl_trans hB2 hbr
    have HDr := bk HD2 hbr
    have hstj := Lib.hid (roundsT_sts HAS.out HST.out j)
    have hlj := roundsT_len n r ss j
    obtain ⟨q0, q1, q2, qf⟩ := cells3 HDr
    clear hnow htog
    by_cases hj : j < K
    ·
     have hjk : ((j : Int) < (K : Int)) = True := eq_true (by omega)
     go_wp2_with fail
     refine (impl_enabledNodes _ _ _ _ n r (roundsT n r j ss) wr (HN.out.up hBr) HAS.out HNOW.out hstj.out).mono ?_
     rintro e w4 ⟨u, rfl, ⟨g6, c6, rfl, hg6⟩, he4, hb4⟩
     have hzz4 := hb4.size
     have HD4 := bk HDr hb4
     have hB4 := bl_trans hBr hb4
     have hBr4 := bl_trans hbr hb4
     have HI4 := Lib.hid (ints_upR HNOW.out hb4)
     have HE4 := Lib.hid he4
     clear he4 hb4 hg6 q0 q1 q2 qf
     obtain ⟨q0, q1, q2, qf⟩ := cells3 HD4
     obtain ⟨m6, hm6⟩ : ∃ m : Nat, m = (enS n r (roundsT n r j ss)).length := ⟨_, rfl⟩
     have HM6 := Lib.hid hm6
     rw [← hm6] at HE4 ⊢
     clear hm6
     by_cases h0 : m6 = 0
     ·
      subst h0
      have hne : enS n r (roundsT n r j ss) = [] := List.eq_nil_of_length_eq_zero HM6.out.symm
      have hT : togN n r ss K 0 = j := by rw [← HTG.out, togN_calm hne]
      have HT := Lib.hid hT
      clear hT hne
      go_wp2_with fail
      exact bodyPost_ret (v := .tuple #[.slice A5 m5 c5, .int .i64 (j : Int), .bool true]) (by simp [results, Tryz.results7, go_sem]) rfl ⟨hB4, _, _, roundsT n r j ss, by rw [HTO.out], ⟨_, _, _, rfl⟩, HI4.out, fun _ => ⟨by rw [Int.toNat_natCast, HT.out], by rw [Int.toNat_natCast, HT.out]⟩, fun h => absurd h (by rw [HTO.out]; decide)⟩
     ·
      have hg0 : ((m6 : Int) = 0) = False := eq_false (by omega)
      have hne : ¬ enS n r (roundsT n r j ss) = [] := fun e => by have := HM6.out; rw [e] at this; simp at this; omega
      have hTS := Lib.hid (show togN n r ss (K - (j + 1)) (j + 1) = togN n r ss K 0 by
       rw [← HTG.out, show K - j = K - (j + 1) + 1 by omega, togN_step hne])
      have hl9 : (enS n r (roundsT n r j ss)).length ≤ 2000000 := by
       have h9 : (enS n r (roundsT n r j ss)).length ≤ (roundsT n r j ss).length := by
        unfold enS enN
        rw [List.length_map]
        exact Nat.le_trans (List.length_filter_le _ _) (by rw [List.length_range]; exact Nat.le_refl _)
       omega
      clear hne
      go_wp2_with fail
      refine (impl_moveSet _ _ _ _ _ n r (roundsT n r j ss) (enS n r (roundsT n r j ss)) w4 (HN.out.up hB4) HAS.out HI4.out hstj.out HE4.out (fun v hv => enS_mem hv) hl9).mono ?_
      rintro e w5 ⟨u5, rfl, ⟨A7, m7, c7, rfl⟩, hm5, hb5⟩
      have HM5 := Lib.hid (show IntsR w5 w5.heap.size (.slice A7 m7 c7) (roundsT n r (j + 1) ss) from hm5)
      have hBr5 := bl_trans hBr4 hb5
      clear hm5 hb5 q0 q1 q2 qf
      go_wp2_with fail
      go_roundw
      case rel => exact ⟨hBr5, j + 1, by omega, by go_num, ⟨_, _, _, rfl⟩, HM5.out, hTS.out⟩
      case measure => simp [intOf]; omega
    ·
     obtain rfl : j = K := by omega
     have hjk : ((j : Int) < (j : Int)) = False := eq_false (by omega)
     have hT : togN n r ss j 0 = j := by rw [← HTG.out, Nat.sub_self]; rfl
     have HT := Lib.hid hT
     clear hT
     go_wp2_with fail
     exact bodyPost_ret (v := .tuple #[.slice A5 m5 c5, .int .i64 (j : Int), .bool true]) (by simp [results, Tryz.results7, go_sem]) rfl ⟨hBr, _, _, roundsT n r j ss, by rw [HTO.out], ⟨_, _, _, rfl⟩, HNOW.out, fun _ => ⟨by rw [Int.toNat_natCast, HT.out], by rw [Int.toNat_natCast, HT.out]⟩, fun h => absurd h (by rw [HTO.out]; decide)⟩
end Go.Proofs.YtdghoienjegffaaGreat
