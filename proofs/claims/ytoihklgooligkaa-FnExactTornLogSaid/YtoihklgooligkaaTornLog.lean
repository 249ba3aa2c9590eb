/-
  Proved: the law FnExactTornLog returns true for every disk and number, and leaves the disk as it was. No condition. (The frame at the end is after the kit's proof-skeleton.mjs.)
-/
import Derived.Test.YtoihklgooligkaaRows
import Derived.Test.YtoihklgooligkaaKit
import Derived.Test.YtoihklgooligkaaBasic
import Derived.WalkKit
import Derived.WalkSpells
import Derived.WalkLawsBesides
import Derived.ProofKit
import Derived.OpenShut
import Derived.ShutString
import Derived.Lib.Hide
import Derived.Lib.SmallJoins
namespace Go.Proofs.Ytoihklgooligkaa.fnExactTornLog
open Go.ChangeShapes Go.WideShapes Go.ChangeAt Go.RowKit Go.Joins
set_option linter.unusedVariables false
abbrev disk (a b c : ByteArray) : Value := .agg #[.string a, .string b, .string c]
theorem to_disk (a b c : ByteArray) (w : World) :
    Calls Try.prog 9 #[disk a b c] w fun e w' => e = .returned (disk a b c) ∧ Below w.heap.size w w' := by
  go_enter Try.func9, Try.ntmps9
  go_wp2
  refine bodyPost_ret (v := disk a b c) (by simp [results, Try.results9, go_sem]) rfl ⟨rfl, ?_⟩
  repeat (first | exact Below.refl _ _ | refine Below.drew ?_ | refine bl_alloc ?_ _ | refine Below.setCell ?_ (by simp <;> omega) _)
theorem sz_disk (a b c : ByteArray) (w : World) (left : Int) (hl : 0 ≤ left) (hl' : left ≤ 1048576) (ha : a.size ≤ maxLen) (hb : b.size ≤ maxLen) (hc : c.size ≤ maxLen) :
    Calls Try.prog 7 #[disk a b c, .int .i64 left] w fun e w' => e = .returned (.int .i64 (szR left (a.size + b.size + c.size))) ∧ Below w.heap.size w w' := by
  unfold maxLen at *
  go_enter Try.func7, Try.ntmps7
  go_wp2
  all_goals
    go_ret
    exact ⟨ret_int (by unfold szR; split <;> omega), (by repeat (first | exact Below.refl _ _ | refine Below.drew ?_ | refine bl_alloc ?_ _ | refine Below.setCell ?_ (by simp <;> omega) _))⟩
theorem spec_torn_no (a b c : ByteArray) (k : Int) (w : World) (hc : c.size ≤ 1048576) (h : ¬ (c.size ≤ 20000 ∧ 0 ≤ k ∧ k ≤ c.size)) :
    Calls Try.prog 8 #[disk a b c, .int .i64 k] w fun e w' => e = .returned (.tuple #[disk ⟨#[]⟩ ⟨#[]⟩ ⟨#[]⟩, .bool false]) ∧ Below w.heap.size w w' := by
  by_cases h1 : c.size ≤ 20000
  · have hi : inB k 0 c.size = false := inB_f (by omega)
    go_enter Try.func8, Try.ntmps8
    go_wp2_with (go_at_call 13; refine (spec_l1In _ _ _ _).mono ?_; rintro e w' ⟨rfl, rfl⟩)
    refine bodyPost_ret (v := .tuple #[disk ⟨#[]⟩ ⟨#[]⟩ ⟨#[]⟩, .bool false]) (by simp [results, Try.results8, go_sem]) rfl ⟨rfl, ?_⟩
    repeat (first | exact Below.refl _ _ | refine Below.drew ?_ | refine bl_alloc ?_ _ | refine Below.setCell ?_ (by simp <;> omega) _)
  · go_enter Try.func8, Try.ntmps8
    go_wp2_with (go_at_call 13; refine (spec_l1In _ _ _ _).mono ?_; rintro e w' ⟨rfl, rfl⟩)
    refine bodyPost_ret (v := .tuple #[disk ⟨#[]⟩ ⟨#[]⟩ ⟨#[]⟩, .bool false]) (by simp [results, Try.results8, go_sem]) rfl ⟨rfl, ?_⟩
    repeat (first | exact Below.refl _ _ | refine Below.drew ?_ | refine bl_alloc ?_ _ | refine Below.setCell ?_ (by simp <;> omega) _)
theorem spec_torn_yes (a b c : ByteArray) (k : Int) (w : World) (h1 : c.size ≤ 20000) (h2 : 0 ≤ k) (h3 : k ≤ c.size) :
    Calls Try.prog 8 #[disk a b c, .int .i64 k] w fun e w' => e = .returned (.tuple #[disk a b (c.extract 0 k.toNat), .bool true]) ∧ Below w.heap.size w w' := by
  have hi : inB k 0 c.size = true := inB_t (by omega)
  go_enter Try.func8, Try.ntmps8
  go_wp2_with (go_at_call 13; refine (spec_l1In _ _ _ _).mono ?_; rintro e w' ⟨rfl, rfl⟩)
  go_region
  go_wp2
  refine bodyPost_ret (v := .tuple #[disk a b (c.extract 0 k.toNat), .bool true]) (by simp [results, Try.results8, go_sem]) rfl ⟨rfl, (by repeat (first | exact Below.refl _ _ | refine Below.drew ?_ | refine bl_alloc ?_ _ | refine Below.setCell ?_ (by simp <;> omega) _))⟩
theorem impl_torn_no (a b c : ByteArray) (k : Int) (w : World) (hc : c.size ≤ 1048576) (h : ¬ (c.size ≤ 20000 ∧ 0 ≤ k ∧ k ≤ c.size)) :
    Calls Try.prog 10 #[disk a b c, .int .i64 k] w fun e w' => e = .returned (.tuple #[disk ⟨#[]⟩ ⟨#[]⟩ ⟨#[]⟩, .bool false]) ∧ Below w.heap.size w w' := by
  by_cases h1 : c.size ≤ 20000
  · have hi : inB k 0 c.size = false := inB_f (by omega)
    go_enter Try.func10, Try.ntmps10
    go_wp2_with (go_at_call 14; refine (impl_within _ _ _ _).mono ?_; rintro e w' ⟨rfl, rfl⟩)
    refine bodyPost_ret (v := .tuple #[disk ⟨#[]⟩ ⟨#[]⟩ ⟨#[]⟩, .bool false]) (by simp [results, Try.results10, go_sem]) rfl ⟨rfl, (by repeat (first | exact Below.refl _ _ | refine Below.drew ?_ | refine bl_alloc ?_ _ | refine Below.setCell ?_ (by simp <;> omega) _))⟩
  · go_enter Try.func10, Try.ntmps10
    go_wp2_with (go_at_call 14; refine (impl_within _ _ _ _).mono ?_; rintro e w' ⟨rfl, rfl⟩)
    refine bodyPost_ret (v := .tuple #[disk ⟨#[]⟩ ⟨#[]⟩ ⟨#[]⟩, .bool false]) (by simp [results, Try.results10, go_sem]) rfl ⟨rfl, (by repeat (first | exact Below.refl _ _ | refine Below.drew ?_ | refine bl_alloc ?_ _ | refine Below.setCell ?_ (by simp <;> omega) _))⟩
theorem impl_torn_yes (a b c : ByteArray) (k : Int) (w : World) (h1 : c.size ≤ 20000) (h2 : 0 ≤ k) (h3 : k ≤ c.size) :
    Calls Try.prog 10 #[disk a b c, .int .i64 k] w fun e w' => e = .returned (.tuple #[disk a b (c.extract 0 k.toNat), .bool true]) ∧ Below w.heap.size w w' := by
  have hi : inB k 0 c.size = true := inB_t (by omega)
  go_enter Try.func10, Try.ntmps10
  go_wp2_with (go_at_call 14; refine (impl_within _ _ _ _).mono ?_; rintro e w' ⟨rfl, rfl⟩)
  refine bodyPost_ret (v := .tuple #[disk a b (c.extract 0 k.toNat), .bool true]) (by simp [results, Try.results10, go_sem]) rfl ⟨rfl, (by repeat (first | exact Below.refl _ _ | refine Below.drew ?_ | refine bl_alloc ?_ _ | refine Below.setCell ?_ (by simp <;> omega) _))⟩
def tornOut (a b c : ByteArray) (k : Int) : ByteArray × ByteArray × ByteArray × Bool :=
  if c.size ≤ 20000 ∧ 0 ≤ k ∧ k ≤ c.size then (a, b, c.extract 0 k.toNat, true) else (⟨#[]⟩, ⟨#[]⟩, ⟨#[]⟩, false)
theorem spec_torn (a b c : ByteArray) (k : Int) (w : World) (hc : c.size ≤ 1048576) :
    Calls Try.prog 8 #[disk a b c, .int .i64 k] w fun e w' => e = .returned (.tuple #[disk (tornOut a b c k).1 (tornOut a b c k).2.1 (tornOut a b c k).2.2.1, .bool (tornOut a b c k).2.2.2]) ∧ Below w.heap.size w w' := by
  unfold tornOut
  by_cases h : c.size ≤ 20000 ∧ 0 ≤ k ∧ k ≤ c.size
  · rw [if_pos h]; exact spec_torn_yes a b c k w h.1 h.2.1 h.2.2
  · rw [if_neg h]; exact spec_torn_no a b c k w hc h
theorem impl_torn (a b c : ByteArray) (k : Int) (w : World) (hc : c.size ≤ 1048576) :
    Calls Try.prog 10 #[disk a b c, .int .i64 k] w fun e w' => e = .returned (.tuple #[disk (tornOut a b c k).1 (tornOut a b c k).2.1 (tornOut a b c k).2.2.1, .bool (tornOut a b c k).2.2.2]) ∧ Below w.heap.size w w' := by
  unfold tornOut
  by_cases h : c.size ≤ 20000 ∧ 0 ≤ k ∧ k ≤ c.size
  · rw [if_pos h]; exact impl_torn_yes a b c k w h.1 h.2.1 h.2.2
  · rw [if_neg h]; exact impl_torn_no a b c k w hc h
theorem eq_disk (a b c : ByteArray) (w : World) :
    Calls Try.prog 11 #[disk a b c, disk a b c] w fun e w' => e = .returned (.bool true) ∧ Below w.heap.size w w' := by
  go_enter Try.func11, Try.ntmps11
  go_wp2
  go_ret
  exact ⟨rfl, (by repeat (first | exact Below.refl _ _ | refine Below.drew ?_ | refine bl_alloc ?_ _ | refine Below.setCell ?_ (by simp <;> omega) _))⟩
theorem law_walk (a b c : ByteArray) (k : Int) (w : World) (ha : a.size ≤ maxLen) (hb : b.size ≤ maxLen) (hc : c.size ≤ maxLen) :
    Calls Try.prog 4 #[disk a b c, .int .i64 k] w fun e w' => e = .returned (.bool true) ∧ Below w.heap.size w w' := by
  by_cases hs : a.size + b.size + c.size ≤ 1048576
  · have hz : 0 ≤ szR 1048576 (a.size + b.size + c.size) := by unfold szR; split <;> omega
    go_enter Try.func4, Try.ntmps4
    go_wp2_with fail
    refine (sz_disk a b c _ _ (by omega) (by omega) ha hb hc).mono ?_
    rintro e w1 ⟨rfl, hb1⟩
    have hz1 : w.heap.size < w1.heap.size := by have := hb1.size; simp at this; omega
    obtain ⟨hc1, hf1⟩ := bx w.heap.size hb1 (by simp)
    go_wp2_with fail
    refine (to_disk a b c _).mono ?_
    rintro e w2 ⟨rfl, hb2⟩
    have hz2 : w.heap.size < w2.heap.size := by have := hb2.size; omega
    obtain ⟨hc2, hf2⟩ := bx w.heap.size hb2 hz1
    go_wp2_with fail
    · refine (spec_torn a b c k _ (by omega)).mono ?_
      rintro e w3 ⟨rfl, hb3⟩
      have hz3 : w.heap.size < w3.heap.size := by have := hb3.size; omega
      obtain ⟨hc3, hf3⟩ := bx w.heap.size hb3 hz2
      go_wp2_with fail
      refine (to_disk a b c _).mono ?_
      rintro e w4 ⟨rfl, hb4⟩
      have hz4 : w3.heap.size < w4.heap.size := by have := hb4.size; simp at this; omega
      obtain ⟨hc4, hf4⟩ := bx w3.heap.size hb4 (by simp)
      go_wp2_with fail
      refine (impl_torn a b c k _ (by omega)).mono ?_
      rintro e w5 ⟨rfl, hb5⟩
      have hz5 : w3.heap.size < w5.heap.size := by have := hb5.size; omega
      obtain ⟨hc5, hf5⟩ := bx w3.heap.size hb5 hz4
      go_wp2_with fail
      refine (eq_disk _ _ _ _).mono ?_
      rintro e w6 ⟨rfl, hb6⟩
      go_wp2_with fail
      go_ret
      exact ⟨rfl, bl_trans (bl_alloc (bl_trans (bl_trans (bl_alloc (bl_trans (bl_trans (bl_trans (bl_alloc (Below.refl _ _) _) hb1) hb2) hb3) _) hb4) hb5) _) hb6⟩
  · have hz : szR 1048576 (a.size + b.size + c.size) < 0 := by unfold szR; split <;> omega
    go_enter Try.func4, Try.ntmps4
    go_wp2_with fail
    refine (sz_disk a b c _ _ (by omega) (by omega) ha hb hc).mono ?_
    rintro e w1 ⟨rfl, hb1⟩
    go_wp2_with fail
    go_ret
    exact ⟨rfl, bl_trans (bl_alloc (Below.refl _ _) _) hb1⟩

theorem laidOut : laidOutB Try.prog = true := by kernel_rfl
theorem own : ownKnob Try.prog.godebug = none := by kernel_rfl
set_option maxRecDepth 100000 in
theorem lifted (os : Os) (started : os.Started) (H : Type) (enc : TypeId × Value → H) :
    ReturnsInHanded {} Try.checked os 4 .any (Rows.fnExactTornLogSpec.pre6 enc Try.prog Try.f4 Rows.fnExactTornLogRow.domain false) (Rows.fnExactTornLogSpec.post enc Try.prog Try.f4 false true false false) := by
  refine returnsInHanded_of_change (C := Try.checked) own started (by kernel_rfl) Try.func4
    (ChangeSpec.witness6 (enc := enc) (C := Try.checked) false ⟨#[], #[.agg #[.string ByteArray.empty, .string ByteArray.empty, .string ByteArray.empty], .int .i64 0], []⟩ 8 (by kernel_rfl) (by kernel_rfl) (by kernel_rfl) (by kernel_rfl)) ?_
  intro W base args ds gs before hval0 hW hcnd _
  have hval : ∀ (j : Nat) t v, Try.f4.params[j]? = some t → args[j]? = some v → Value.okWide Try.prog W .any base t v := hval0
  have hW' := hW
  obtain ⟨p, q, hA0, hV, rfl, hfz, hnd⟩ := hW
  have hA : DataW.TrodAll enc Try.prog W 0 (fun _ => true) true Try.f4.params.toList args.toList ds p := hA0
  rw [Try.params4] at hA hval
  obtain ⟨v0, vs0, d0, ds0, p0, q0, hargs, rfl, rfl, h0, r0⟩ := trodAll_cons hA
  obtain ⟨v1, vs1, d1, ds1, p1, q1, rfl, rfl, rfl, h1, r1⟩ := trodAll_cons r0
  obtain ⟨rfl, rfl, rfl⟩ := trodAll_nil r1
  obtain rfl : args = #[v0, v1] := by cases args; simp_all
  obtain ⟨rfl, rfl⟩ := trodVars_none hV
  obtain ⟨c0, c1, c2, y0, y1, y2, n, rfl, rfl, -, hy0, hy1, hy2⟩ := open_agg3 Try.underlying25 (by kernel_rfl) (by kernel_rfl) (hval 0 25 v0 rfl rfl) h0
  obtain ⟨s0, e0, -, w0⟩ := DataW.trod_string Try.underlying9 hy0
  obtain ⟨s1, e1, -, w1⟩ := DataW.trod_string Try.underlying9 hy1
  obtain ⟨s2, e2, -, w2⟩ := DataW.trod_string Try.underlying9 hy2
  simp only [List.cons.injEq, and_true] at e0 e1 e2
  subst e0 e1 e2
  obtain ⟨x, rfl, rfl, -, wx⟩ := open_int Try.underlying3 (hval 1 3 v1 rfl rfl) h1
  refine (law_walk s0 s1 s2 x W w0 w1 w2).mono fun e W' ⟨he, hg⟩ => ?_
  subst he
  exact ⟨_, rfl, post_law laidOut (by kernel_rfl) rfl (by kernel_rfl) Try.underlying4 rfl hW' hg⟩

theorem over : Rows.fnExactTornLogRow.holds Try.pinned (OpenSpec.ofChange Rows.fnExactTornLogSpec) :=
  OpenClaim.holds_of_wide 4 Try.f4 rfl rfl rfl rfl rfl rfl rfl ⟨rfl, rfl, rfl, rfl, rfl⟩ rfl rfl rfl rfl rfl (by kernel_rfl) Try.func4 (by kernel_rfl)
    (of_decide_eq_true (by kernel_rfl)) (by unfold Func.isWrapper; first | (rw [if_pos (by decide +kernel)]; kernel_rfl) | (rw [if_neg (by decide +kernel)]; exact ⟨rfl, rfl⟩))
    (fun os started H enc _ => lifted os started H enc)

/-- The statement. -/
theorem proved : Rows.FnExactTornLogSaid :=
  over
#print axioms proved
end Go.Proofs.Ytoihklgooligkaa.fnExactTornLog
