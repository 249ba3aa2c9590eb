/-
  Proved: the law FnExactWalkText returns true for every walk problem, and leaves it as it was. The row's own condition: the listed tables of strconv and math/bits hold what their text lays (the card ties them).
-/
import Derived.Test.YtoihklgooligkaaDoorRows
import Derived.Test.YtoihklgooligkaaDoorCards
import Derived.Test.YtoihklgooligkaaDoorTie
import Derived.Test.YtoihklgooligkaaDoorLaw
import Derived.Test.YtoihklgooligkaaDoorArgsWalk
import Derived.Test.YtoihklgooligkaaDoorWalkTexts
import Derived.Test.YtoihklgooligkaaDoorOpen
import Derived.ProofKit
import Derived.Lay
import Derived.LaidMore
import Derived.OpenShut
import Derived.ShutString
import Derived.Stop.Joined
import Derived.SevenTiedAt
import Derived.Deep.RegionWith
import Derived.Lib.SmallJoins
import Derived.Lib.LaidTab
namespace Go.Proofs.YtoihklgooligkaaDoor.fnExactWalkText
open Go.ChangeShapes Go.WideShapes Go.ChangeAt Go.RowKit Go.Joins
set_option linter.unusedVariables false

set_option maxHeartbeats 2000000 in
theorem walk (n : Int) (v : Value) (xss : List (List Int)) (w : World) (h : RowsR w w.heap.size v xss) (hp : Pow10 w) :
    Calls Tryd.prog 4 #[walkV n v] w fun e w' => e = .returned (.bool true) ∧ Below w.heap.size w w' := by
  have HH := Lib.hid h; clear h
  by_cases hs : szRows xss ≤ 1048576
  · have hz : 0 ≤ szR 1048576 (szRows xss) := by unfold szR; split <;> omega
    have hl : xss.length ≤ 1048576 := by unfold szRows at hs; omega
    have hw0 := fun o => bl_alloc (Below.refl w.heap.size w) o
    go_enter Tryd.func4, Tryd.ntmps4
    go_wp2_with fail
    refine (sz_Walk n v xss _ _ ((HH.out.below (hw0 _)).more (by simp)) (by omega) (by omega)).mono ?_
    rintro e w1 ⟨rfl, hb1⟩
    obtain ⟨hc1, hf1⟩ := bx w.heap.size hb1 (by simp)
    have hB1 := bl_trans (hw0 _) hb1
    have hz1 : w.heap.size < w1.heap.size := by have := hb1.size; simp at this; omega
    go_wp2_with fail
    refine (to_Walk n v xss _ ((HH.out.below hB1).more hB1.size) hs).mono ?_
    rintro e w2 ⟨v2, bs2, rfl, ho2, hn2, hbs2, hb2⟩
    obtain ⟨hc2, hf2⟩ := bx w.heap.size hb2 hz1
    have hB2 := bl_trans hB1 hb2
    have hz2 : w.heap.size < w2.heap.size := Nat.lt_of_lt_of_le hz1 hb2.size
    go_wp2_with fail
    refine (spec_WalkText n v2 xss _ (ho2.reads (fun b hb => (hbs2 b hb).2)) hl).mono ?_
    rintro e w3 ⟨rfl, hb3⟩
    obtain ⟨hc3, hf3⟩ := bx w.heap.size hb3 hz2
    have hB3 := bl_trans hB2 hb3
    have hz3 : w.heap.size < w3.heap.size := Nat.lt_of_lt_of_le hz2 hb3.size
    go_wp2_with fail
    refine (to_Walk n v xss _ ((HH.out.below hB3).more hB3.size) hs).mono ?_
    rintro e w4 ⟨v4, bs4, rfl, ho4, hn4, hbs4, hb4⟩
    obtain ⟨hc4, hf4⟩ := bx w.heap.size hb4 hz3
    have hB4 := bl_trans hB3 hb4
    have hz4 : w.heap.size < w4.heap.size := Nat.lt_of_lt_of_le hz3 hb4.size
    obtain ⟨A4, m4, c4, rfl⟩ := ho4.isSlice
    go_wp2_with fail
    have hw4 := bl_alloc (Below.refl w4.heap.size w4) (.cells #[.int .i64 n, .slice A4 m4 c4] 29)
    have hr4 : RowsR w4 w4.heap.size (.slice A4 m4 c4) xss := ho4.reads (fun b hb => (hbs4 b hb).2)
    refine (impl_WalkText n _ xss _ ((hr4.below hw4).more (by simp)) hl (hp.below (bl_trans hB4 hw4))).mono ?_
    rintro e w5 ⟨rfl, hb5⟩
    obtain ⟨hc5, hf5⟩ := bx w.heap.size hb5 (by simp; omega)
    obtain ⟨hc5', hf5'⟩ := bx w4.heap.size hb5 (by simp)
    have hB5 := bl_trans (bl_trans hB4 hw4) hb5
    have hz5 : w.heap.size < w5.heap.size := by have := hb5.size; simp at this; omega
    have hz5' : w4.heap.size < w5.heap.size := by have := hb5.size; simp at this; omega
    have hr5 : RowsR w5 w5.heap.size (.slice A4 m4 c4) xss := (hr4.below (hw4.trans (hb5.mono (by simp)))).more (by omega)
    have HR5 := Lib.hid (show RowsR w5.drew w5.drew.heap.size (.slice A4 m4 c4) xss from hr5.below (Below.refl _ _).drew)
    have HR := Lib.hid (show RowsR w5.drew w5.drew.heap.size v xss from (HH.out.below hB5.drew).more hB5.size)
    clear hr4 hr5
    unfold strV
    go_wp2_with fail
    go_region_with (first
      | (go_at_call 11; refine (to_Walk n v xss _ HR.out hs).mono ?_; rintro e w6 ⟨v6, bs6, rfl, ho6, hn6, hbs6, hb6⟩; have k1 := @Below.cell _ _ _ hb6 ⟨w4.heap.size, 0, none⟩ hz5'; have k2 := @Below.cell _ _ _ hb6 ⟨w4.heap.size, 1, none⟩ hz5')
      | (go_at_call 13; refine (eq_Walk n _ v6 xss _ ((HR5.out.below hb6).more hb6.size) (ho6.reads (fun b hb => (hbs6 b hb).2))).mono ?_; rintro e w7 ⟨rfl, hb7⟩))
    all_goals
      go_wp2_with fail
      go_ret
      exact ⟨rfl, bl_trans (bl_trans hB5.drew hb6) hb7⟩
  · have hz : szR 1048576 (szRows xss) < 0 := by unfold szR; split <;> omega
    go_enter Tryd.func4, Tryd.ntmps4
    go_wp2_with fail
    refine (sz_Walk n v xss _ _ ((HH.out.below (bl_alloc (Below.refl w.heap.size w) _)).more (by simp)) (by omega) (by omega)).mono ?_
    rintro e w1 ⟨rfl, hb1⟩
    go_wp2_with fail
    go_ret
    exact ⟨rfl, bl_trans (bl_alloc (Below.refl _ _) _) hb1⟩

theorem laidOut : laidOutB Tryd.prog = true := by kernel_rfl
theorem own : ownKnob Tryd.prog.godebug = none := by kernel_rfl
set_option maxRecDepth 100000 in
theorem lifted (os : Os) (started : os.Started) (H : Type) (enc : TypeId × Value → H) :
    ReturnsInHanded {} Tryd.checked os 4 .any (fun w args => (Rows.fnExactWalkTextSpec.pre enc Tryd.prog Tryd.f4 [] false w args ∧ laidMetH Tryd.prog Rows.fnExactWalkTextRow.laid w) ∧ sizedMet enc Tryd.prog Tryd.f4 (OpenSpec.ofChange Rows.fnExactWalkTextSpec) false w args)
      (Rows.fnExactWalkTextSpec.post enc Tryd.prog Tryd.f4 false true false false) := by
  refine law_lifted (C := Tryd.checked) (X := fun w _ => laidMetH Tryd.prog Rows.fnExactWalkTextRow.laid w) (fun _ _ _ hh h => h.of_heap hh) own started (by kernel_rfl) Tryd.func4
    laidOut (by kernel_rfl) rfl (by kernel_rfl) Tryd.underlying4 (fun ds h => by match ds, h with | [_], _ => rfl)
    (ChangeSpec.witness_shaped (enc := enc) (C := Tryd.checked) (os := os) (X := fun w _ => laidMetH Tryd.prog Rows.fnExactWalkTextRow.laid w) false (World.laidAll Tryd.prog os Rows.fnExactWalkTextRow.laid) #[.agg #[.int .i64 0, .slice none 0 0]] 8 (World.laidAll_os _ _ _)
      (World.shaped_of_ZipB (by kernel_rfl) (by kernel_rfl)) (by kernel_rfl) (by kernel_rfl) (by kernel_rfl)
      (by rw [MakeChecks.laidMetH_plain _ _ _ (by kernel_rfl)]; exact laidMet_laidAll _ (by kernel_rfl) (by kernel_rfl))) ?_
  intro W base args ds p hval0 hA0 hlt hL hsh
  have hval : ∀ (j : Nat) t v, Tryd.f4.params[j]? = some t → args[j]? = some v → Value.okWide Tryd.prog W .any base t v := hval0
  have hA : DataW.TrodAll enc Tryd.prog W 0 (fun _ => true) true Tryd.f4.params.toList args.toList ds p := hA0
  rw [Tryd.params4] at hA hval
  obtain ⟨v0, vs0, d0, ds0, p0, q0, hargs, rfl, rfl, h0, r0⟩ := trodAll_cons hA
  obtain ⟨rfl, rfl, rfl⟩ := trodAll_nil r0
  obtain rfl : args = #[v0] := by cases args; simp_all
  obtain ⟨c0, c1, y0, y1, m, rfl, rfl, -, hy0, hy1⟩ := open_agg2 Tryd.underlying25 (by kernel_rfl) (by kernel_rfl) (hval 0 25 v0 rfl rfl) h0
  obtain ⟨n, e0, -, wn⟩ := DataW.trod_int Tryd.underlying3 hy0
  obtain ⟨v, xss, e1, hr⟩ := rows_of_trod Tryd.underlying23 Tryd.underlying33 Tryd.underlying3 (by kernel_rfl) (by kernel_rfl) hy1
  simp only [List.cons.injEq, and_true] at e0 e1
  subst e0 e1
  rw [MakeChecks.laidMetH_plain _ _ _ (by kernel_rfl)] at hL
  have hP : Pow10 W := pow10_of_laid (r := []) 2 (by kernel_rfl) hL
  exact walk n c1 xss W hr hP

theorem over : Rows.FnExactWalkTextSaid :=
  OpenClaim.holds_of_wide 4 Tryd.f4 rfl rfl rfl rfl rfl rfl rfl ⟨rfl, rfl, rfl, rfl, rfl⟩ rfl rfl rfl rfl rfl (by kernel_rfl) Tryd.func4 (by kernel_rfl)
    (of_decide_eq_true (by kernel_rfl)) (by unfold Func.isWrapper; first | (rw [if_pos (by decide +kernel)]; kernel_rfl) | (rw [if_neg (by decide +kernel)]; exact ⟨rfl, rfl⟩))
    (fun os started H enc _ => lifted os started H enc)

/-- The statement: the tied card. -/
theorem proved : Rows.FnExactWalkTextCardSaid :=
  Claim7.holds_tied_plain_at .later [] [.data, .data, .data] true Rows.fnExactWalkTextCard.stood.harness false
    over (fun _ h => by cases h) (by kernel_rfl) (fun _ h => by cases h) fnExactWalkText_row_tie rfl ⟨rfl, rfl⟩ (by kernel_rfl) rfl
    (fun f fn hf hfn => by
      obtain rfl : f = 4 := Option.some.inj ((show Tryd.prog.funcNamed Rows.fnExactWalkTextRow.func = some 4 by kernel_rfl).symm.trans hf) |>.symm
      obtain rfl : fn = Tryd.f4 := (Option.some.inj (Tryd.func4.symm.trans hfn)).symm
      exact ⟨by kernel_rfl, fun j t ht => by
        rw [Tryd.params4] at ht
        have hm : t ∈ [25] := by simpa using Array.mem_of_getElem? ht
        have hall : ([25].all fun u => !Tryd.prog.wantsStandIn u) = true := by kernel_rfl
        exact (show Tryd.prog.wantsStandIn t = false by simpa using List.all_eq_true.1 hall t hm)⟩)
    (by kernel_rfl)
#print axioms proved
end Go.Proofs.YtoihklgooligkaaDoor.fnExactWalkText
