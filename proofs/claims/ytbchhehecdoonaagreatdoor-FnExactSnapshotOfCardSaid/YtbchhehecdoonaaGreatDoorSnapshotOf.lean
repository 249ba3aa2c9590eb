/-
  Proved: the law FnExactSnapshotOf returns true for every slice of items and every number, and leaves them as they were. The row's own condition: the listed tables hold what their text lays (the card ties them).
-/
import Derived.Test.YtbchhehecdoonaaGreatDoorRows
import Derived.Test.YtbchhehecdoonaaGreatDoorCards
import Derived.Test.YtbchhehecdoonaaGreatDoorTie
import Derived.Test.YtbchhehecdoonaaGreatDoorLaw
import Derived.Test.YtbchhehecdoonaaGreatDoorArgsItems
import Derived.Test.YtbchhehecdoonaaGreatDoorOpenItem
import Derived.Test.YtbchhehecdoonaaGreatDoorSnapshot
import Derived.ProofKit
import Derived.Lay
import Derived.LaidMore
import Derived.OpenShut
import Derived.ShutString
import Derived.Stop.Joined
import Derived.SevenTiedAt
import Derived.Deep.RegionHeld3
import Derived.Lib.SmallJoins
import Derived.Lib.LaidTab
namespace Go.Proofs.YtbchhehecdoonaaGreatDoor.fnExactSnapshotOf
open Go.ChangeShapes Go.WideShapes Go.ChangeAt Go.RowKit Go.Joins Go.Deep
set_option linter.unusedVariables false

theorem walk (v : Value) (xs : List Item) (g : Int) (w : World) (h : ItemsR w w.heap.size v xs) (hw : ∀ x ∈ xs, ItemW x) (hp : Pow10 w) :
    Calls Tryz.prog 4 #[v, .int .i64 g] w fun e w' => e = .returned (.bool true) ∧ Below w.heap.size w w' := by
  have HP := Lib.hid hp; clear hp
  have HH := Lib.hid h; clear h
  have hz1 := szR_le (left := 1048576) (n := szItems xs) (by omega)
  go_enter Tryz.func4, Tryz.ntmps4
  go_wp2_with fail
  refine (sz_Items v xs 1048576 w HH.out (fun x hx => (hw x hx).1) (by omega) (by omega)).mono ?_
  rintro e w1 ⟨rfl, hb1⟩
  by_cases q1 : szR 1048576 (szItems xs) < 0
  · go_wp2_with fail
    go_ret
    exact ⟨rfl, hb1⟩
  · obtain ⟨k1, k2⟩ := szR_pos q1
    have hs1 : szItems xs ≤ 1048576 := by omega
    have K2 := Lib.hid k2; clear k2
    have HOK := Lib.hid (show ItemsOk xs from fun x hx => ⟨by have := lensI_mem hx; unfold szItems at hs1; omega, (hw x hx).2.1⟩)
    go_wp2_with fail
    refine (to_Items v xs w1 (HH.out.up hb1) hs1).mono ?_
    rintro e w2 ⟨v2, rfl, hi2, hb2⟩
    have hB2 := bl_trans hb1 hb2
    go_wp2_with fail
    refine (spec_SnapshotOf v2 xs g w2 hi2 HOK.out).mono ?_
    rintro e w3 ⟨rfl, hb3⟩
    have hB3 := bl_trans hB2 hb3
    go_wp2_with fail
    refine (to_Items v xs w3 (HH.out.up hB3) hs1).mono ?_
    rintro e w4 ⟨v4, rfl, hi4, hb4⟩
    have hB4 := bl_trans hB3 hb4
    have HI4 := Lib.hid hi4; clear hi4
    go_wp2_with fail
    refine (impl_SnapshotOf v4 xs g w4 HI4.out HOK.out (HP.out.below hB4)).mono ?_
    rintro e w5 ⟨rfl, hb5⟩
    have hB5 := bl_trans hB4 hb5
    unfold strV
    go_wp2_with fail
    refine (to_Items v xs w5 (HH.out.up hB5) hs1).mono ?_
    rintro e w6 ⟨v6, rfl, hi6, hb6⟩
    have hB6 := bl_trans hB5 hb6
    go_wp2_with fail
    refine (eq_Items v4 v6 xs w6 ((HI4.out.up hb5).up hb6) hi6).mono ?_
    rintro e w7 ⟨rfl, hb7⟩
    go_wp2_with fail
    go_ret
    exact ⟨rfl, bl_trans hB6 hb7⟩

theorem laidOut : laidOutB Tryz.prog = true := by kernel_rfl
theorem own : ownKnob Tryz.prog.godebug = none := by kernel_rfl
set_option maxRecDepth 100000 in
theorem lifted (os : Os) (started : os.Started) (H : Type) (enc : TypeId × Value → H) :
    ReturnsInHanded {} Tryz.checked os 4 .any (fun w args => (Rows.fnExactSnapshotOfSpec.pre enc Tryz.prog Tryz.f4 [] false w args ∧ laidMetH Tryz.prog Rows.fnExactSnapshotOfRow.laid w) ∧ sizedMet enc Tryz.prog Tryz.f4 (OpenSpec.ofChange Rows.fnExactSnapshotOfSpec) false w args)
      (Rows.fnExactSnapshotOfSpec.post enc Tryz.prog Tryz.f4 false true false false) := by
  refine law_lifted (C := Tryz.checked) (X := fun w _ => laidMetH Tryz.prog Rows.fnExactSnapshotOfRow.laid w) (fun _ _ _ hh h => h.of_heap hh) own started (by kernel_rfl) Tryz.func4
    laidOut (by kernel_rfl) rfl (by kernel_rfl) Tryz.underlying4 (fun ds h => by match ds, h with | [_, _], _ => rfl)
    (ChangeSpec.witness_shaped (enc := enc) (C := Tryz.checked) (os := os) (X := fun w _ => laidMetH Tryz.prog Rows.fnExactSnapshotOfRow.laid w) false (World.laidAll Tryz.prog os Rows.fnExactSnapshotOfRow.laid) #[.slice none 0 0, .int .i64 0] 8 (World.laidAll_os _ _ _)
      (World.shaped_of_ZipB (by kernel_rfl) (by kernel_rfl)) (by kernel_rfl) (by kernel_rfl) (by kernel_rfl)
      (by rw [MakeChecks.laidMetH_plain _ _ _ (by kernel_rfl)]; exact laidMet_laidAll _ (by kernel_rfl) (by kernel_rfl))) ?_
  intro W base args ds p hval0 hA0 hlt hL hsh
  have hval : ∀ (j : Nat) t v, Tryz.f4.params[j]? = some t → args[j]? = some v → Value.okWide Tryz.prog W .any base t v := hval0
  have hA : DataW.TrodAll enc Tryz.prog W 0 (fun _ => true) true Tryz.f4.params.toList args.toList ds p := hA0
  rw [Tryz.params4] at hA hval
  obtain ⟨v0, vs0, d0, ds0, p0, q0, hargs, rfl, rfl, h0, r0⟩ := trodAll_cons hA
  obtain ⟨v1, vs1, d1, ds1, p1, q1, rfl, rfl, rfl, h1, r1⟩ := trodAll_cons r0
  obtain ⟨rfl, rfl, rfl⟩ := trodAll_nil r1
  obtain rfl : args = #[v0, v1] := by cases args; simp_all
  obtain ⟨fuel, hf⟩ := h0
  obtain ⟨v, xs, e0, hr, hw⟩ := items_of_trod hf
  have e1 : v0 = v := by
    obtain ⟨A, m, c, rfl⟩ := okWide_slice Tryz.underlying44 (hval 0 44 v0 rfl rfl)
    simpa [Value.cells] using e0
  subst e1
  obtain ⟨fuel1, hf1⟩ := h1
  obtain ⟨g, e2, -, wg⟩ := DataW.trod_int Tryz.underlying3 hf1
  have e3 : v1 = .int .i64 g := by
    obtain ⟨z, rfl⟩ := okWide_int Tryz.underlying3 (hval 1 3 v1 rfl rfl)
    simpa [Value.cells] using e2
  subst e3
  rw [MakeChecks.laidMetH_plain _ _ _ (by kernel_rfl)] at hL
  have hP : Pow10 W := pow10_of_laid (r := Rows.fnExactSnapshotOfRow.laid.drop 3) 2 (by kernel_rfl) hL
  exact walk _ xs g W hr hw hP

theorem over : Rows.FnExactSnapshotOfSaid :=
  OpenClaim.holds_of_wide 4 Tryz.f4 rfl rfl rfl rfl rfl rfl rfl ⟨rfl, rfl, rfl, rfl, rfl⟩ rfl rfl rfl rfl rfl (by kernel_rfl) Tryz.func4 (by kernel_rfl)
    (of_decide_eq_true (by kernel_rfl)) (by unfold Func.isWrapper; first | (rw [if_pos (by decide +kernel)]; kernel_rfl) | (rw [if_neg (by decide +kernel)]; exact ⟨rfl, rfl⟩))
    (fun os started H enc _ => lifted os started H enc)

/-- The statement: the tied card. -/
theorem proved : Rows.FnExactSnapshotOfCardSaid :=
  Claim7.holds_tied_plain_at .later [] [.data, .data, .data, .data, .pinned] true Rows.fnExactSnapshotOfCard.stood.harness true
    over (fun _ h => by cases h) (by kernel_rfl) (fun _ h => by cases h) fnExactSnapshotOf_row_tie rfl ⟨rfl, rfl⟩ (by kernel_rfl) rfl
    (fun f fn hf hfn => by
      obtain rfl : f = 4 := Option.some.inj ((show Tryz.prog.funcNamed Rows.fnExactSnapshotOfRow.func = some 4 by kernel_rfl).symm.trans hf) |>.symm
      obtain rfl : fn = Tryz.f4 := (Option.some.inj (Tryz.func4.symm.trans hfn)).symm
      exact ⟨by kernel_rfl, fun j t ht => by
        rw [Tryz.params4] at ht
        have hm : t ∈ [44, 3] := by simpa using Array.mem_of_getElem? ht
        have hall : ([44, 3].all fun u => !Tryz.prog.wantsStandIn u) = true := by kernel_rfl
        exact (show Tryz.prog.wantsStandIn t = false by simpa using List.all_eq_true.1 hall t hm)⟩)
    (by kernel_rfl)
#print axioms proved
end Go.Proofs.YtbchhehecdoonaaGreatDoor.fnExactSnapshotOf
