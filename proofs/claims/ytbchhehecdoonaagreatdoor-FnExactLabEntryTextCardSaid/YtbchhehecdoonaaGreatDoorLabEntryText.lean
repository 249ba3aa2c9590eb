/-
  Proved: the law FnExactLabEntryText returns true for every entry, and leaves them as they were. The row's own condition: the listed tables hold what their text lays (the card ties them).
-/
import Derived.Test.YtbchhehecdoonaaGreatDoorRows
import Derived.Test.YtbchhehecdoonaaGreatDoorCards
import Derived.Test.YtbchhehecdoonaaGreatDoorTie
import Derived.Test.YtbchhehecdoonaaGreatDoorLaw
import Derived.Test.YtbchhehecdoonaaGreatDoorOpenItem
import Derived.Test.YtbchhehecdoonaaGreatDoorArgsEntry
import Derived.Test.YtbchhehecdoonaaGreatDoorEntryText
import Derived.ProofKit
import Derived.Lay
import Derived.LaidMore
import Derived.OpenShut
import Derived.ShutString
import Derived.Stop.Joined
import Derived.SevenTiedAt
import Derived.Deep.RegionHeld3
import Derived.Lib.SmallJoins
import Derived.Lib.LaidTab
namespace Go.Proofs.YtbchhehecdoonaaGreatDoor.fnExactLabEntryText
open Go.ChangeShapes Go.WideShapes Go.ChangeAt Go.RowKit Go.Joins Go.Deep
set_option linter.unusedVariables false

def entryL (e : Entry) (va vf vs vr : Value) : List Value := .int .i64 e.kd :: .string e.nm :: .string e.tn :: itemL e.it va vf vs vr
set_option maxRecDepth 100000 in
theorem entry_of_trod {H : Type} {enc : TypeId × Value → H} {w : World} {base : Nat} {spare : Nat → Bool} {held : Bool} {fuel : Nat} {cs : List Value} {x : DataW H × List MemPlace} (h : DataW.trod enc Tryz.prog w base spare held fuel 31 cs = some x) :
    ∃ en va vf vs vr, cs = entryL en va vf vs vr ∧ ItemR w w.heap.size en.it va vf vs vr ∧ en.nm.size ≤ maxLen ∧ en.tn.size ≤ maxLen ∧ en.it.nm.size ≤ maxLen ∧ I64 en.it.lb := by
  obtain ⟨ys, n, _, _, hl, hlen, hg⟩ := DataW.trod_struct Tryz.underlying31 h
  have h8 : cs.length = 11 := hl.trans (by kernel_rfl)
  match cs, h8 with
  | [b0, b1, b2, c0, c1, c2, c3, c4, c5, c6, c7], _ =>
    match ys, hlen with
    | [y0, y1, y2, y3], _ =>
      have s1 : Tryz.prog.cellsOf 9 = 1 := by kernel_rfl
      have s2 : Tryz.prog.cellsOf 29 = 8 := by kernel_rfl
      have s4 : Tryz.prog.cellsOf 3 = 1 := by kernel_rfl
      have g0 : DataW.trod enc Tryz.prog w base spare held n 3 [b0] = some y0 := by simpa [s4] using hg 0 _ rfl
      have g1 : DataW.trod enc Tryz.prog w base spare held n 9 [b1] = some y1 := by simpa [s1] using hg 1 _ rfl
      have g2 : DataW.trod enc Tryz.prog w base spare held n 9 [b2] = some y2 := by simpa [s1] using hg 2 _ rfl
      have g3 : DataW.trod enc Tryz.prog w base spare held n 29 [c0, c1, c2, c3, c4, c5, c6, c7] = some y3 := by simpa [s2] using hg 3 _ rfl
      obtain ⟨kd, e0, -, wk⟩ := DataW.trod_int Tryz.underlying3 g0
      obtain ⟨nm, e1, -, hnm⟩ := DataW.trod_string Tryz.underlying9 g1
      obtain ⟨tn, e2, -, htn⟩ := DataW.trod_string Tryz.underlying9 g2
      obtain ⟨it, va, vf, vs, vr, e3, hr, hw⟩ := item_of_trod g3
      simp only [List.cons.injEq, and_true] at e0 e1 e2
      subst e0 e1 e2
      exact ⟨⟨kd, nm, tn, it⟩, va, vf, vs, vr, by rw [e3]; rfl, hr, hnm, htn, hw.1, hw.2.1⟩
set_option maxRecDepth 100000 in
set_option maxHeartbeats 2000000 in
theorem walk (en : Entry) (va vf vs vr : Value) (w : World) (h : ItemR w w.heap.size en.it va vf vs vr) (h1 : en.nm.size ≤ maxLen) (h2 : en.tn.size ≤ maxLen) (h3 : en.it.nm.size ≤ maxLen) (hlb : I64 en.it.lb) (hp : Pow10 w) :
    Calls Tryz.prog 3 #[entryV en va vf vs vr] w fun e w' => e = .returned (.bool true) ∧ Below w.heap.size w w' := by
  have HP := Lib.hid hp; clear hp
  have HH := Lib.hid h; clear h
  have HLB := Lib.hid hlb; clear hlb
  have hb0 := bl_alloc (Below.refl w.heap.size w) (.cells #[.int .i64 en.kd, .string en.nm, .string en.tn, .string en.it.nm, .int .i64 en.it.n, va, .int .i64 en.it.cl, .int .i64 en.it.lb, vf, vs, vr] 31)
  have HX0 := Lib.hid (Box11.new w 31 (.int .i64 en.kd) (.string en.nm) (.string en.tn) (.string en.it.nm) (.int .i64 en.it.n) va (.int .i64 en.it.cl) (.int .i64 en.it.lb) vf vs vr)
  have HZ0 := Lib.hid (show w.heap.size < (w.alloc (.cells #[.int .i64 en.kd, .string en.nm, .string en.tn, .string en.it.nm, .int .i64 en.it.n, va, .int .i64 en.it.cl, .int .i64 en.it.lb, vf, vs, vr] 31)).heap.size by simp)
  have hz1 := szR_le (left := 1048576) (n := szEntry en) (by omega)
  go_enter Tryz.func3, Tryz.ntmps3
  go_wp2_with fail
  generalize w.alloc (.cells #[.int .i64 en.kd, .string en.nm, .string en.tn, .string en.it.nm, .int .i64 en.it.n, va, .int .i64 en.it.cl, .int .i64 en.it.lb, vf, vs, vr] 31) = w0 at *
  refine (sz_Entry en va vf vs vr 1048576 w0 (HH.out.up hb0) h1 h2 h3 (by omega) (by omega)).mono ?_
  rintro e w1 ⟨rfl, hb1⟩
  have hB1 := bl_trans hb0 hb1
  have HX1 := Lib.hid (HX0.out.below hb1 HZ0.out)
  have HZ1 := Lib.hid (Nat.lt_of_lt_of_le HZ0.out hb1.size)
  obtain ⟨a0, a1, a2, a3, a4, a5, a6, a7, a8, a9, aa⟩ := HX1.out
  by_cases q1 : szR 1048576 (szEntry en) < 0
  · go_wp2_with fail
    go_ret
    exact ⟨rfl, hB1⟩
  · obtain ⟨k1, k2⟩ := szR_pos q1
    have hs1 : szEntry en ≤ 1048576 := by omega
    have K2 := Lib.hid k2; clear k2
    go_wp2_with fail
    refine (to_Entry en va vf vs vr w1 (HH.out.up hB1) hs1).mono ?_
    rintro e w2 ⟨va2, vf2, vs2, vr2, bs2, rfl, ho2, -, hbs2, hb2⟩
    have hB2 := bl_trans hB1 hb2
    have HX2 := Lib.hid (HX1.out.below hb2 HZ1.out)
    have HZ2 := Lib.hid (Nat.lt_of_lt_of_le HZ1.out hb2.size)
    have HO2 := Lib.hid (ho2.reads (fun b hb => (hbs2 b hb).2)); clear ho2 hbs2
    go_wp2_with fail
    refine (spec_LabEntryText en va2 vf2 vs2 vr2 w2 HO2.out hs1 HLB.out).mono ?_
    rintro e w3 ⟨rfl, hb3⟩
    have hB3 := bl_trans hB2 hb3
    have HX3 := Lib.hid (HX2.out.below hb3 HZ2.out)
    have HZ3 := Lib.hid (Nat.lt_of_lt_of_le HZ2.out hb3.size)
    obtain ⟨b0, b1, b2, b3, b4, b5, b6, b7, b8, b9, ba⟩ := HX3.out
    go_wp2_with fail
    refine (to_Entry en va vf vs vr w3 (HH.out.up hB3) hs1).mono ?_
    rintro e w4 ⟨va4, vf4, vs4, vr4, bs4, rfl, ho4, -, hbs4, hb4⟩
    have hB4 := bl_trans hB3 hb4
    have HX4 := Lib.hid (HX3.out.below hb4 HZ3.out)
    have HZ4 := Lib.hid (Nat.lt_of_lt_of_le HZ3.out hb4.size)
    have HO4 := Lib.hid (ho4.reads (fun b hb => (hbs4 b hb).2)); clear ho4 hbs4
    obtain ⟨A6, m6, c6, rfl⟩ := HO4.out.a.isSlice'
    obtain ⟨A7, m7, c7, rfl⟩ := HO4.out.f.isSlice
    obtain ⟨A8, m8, c8, rfl⟩ := HO4.out.s.isSlice
    obtain ⟨A9, m9, c9, rfl⟩ := HO4.out.r.isSlice'
    have hb4s := bl_alloc (Below.refl w4.heap.size w4) (.cells #[.int .i64 en.kd, .string en.nm, .string en.tn, .string en.it.nm, .int .i64 en.it.n, .slice A6 m6 c6, .int .i64 en.it.cl, .int .i64 en.it.lb, .slice A7 m7 c7, .slice A8 m8 c8, .slice A9 m9 c9] 40)
    have HY4 := Lib.hid (Box11.new w4 40 (.int .i64 en.kd) (.string en.nm) (.string en.tn) (.string en.it.nm) (.int .i64 en.it.n) (.slice A6 m6 c6) (.int .i64 en.it.cl) (.int .i64 en.it.lb) (.slice A7 m7 c7) (.slice A8 m8 c8) (.slice A9 m9 c9))
    have HW4 := Lib.hid (show w4.heap.size < (w4.alloc (.cells #[.int .i64 en.kd, .string en.nm, .string en.tn, .string en.it.nm, .int .i64 en.it.n, .slice A6 m6 c6, .int .i64 en.it.cl, .int .i64 en.it.lb, .slice A7 m7 c7, .slice A8 m8 c8, .slice A9 m9 c9] 40)).heap.size by simp)
    go_wp2_with fail
    generalize w4.alloc (.cells #[.int .i64 en.kd, .string en.nm, .string en.tn, .string en.it.nm, .int .i64 en.it.n, .slice A6 m6 c6, .int .i64 en.it.cl, .int .i64 en.it.lb, .slice A7 m7 c7, .slice A8 m8 c8, .slice A9 m9 c9] 40) = w4s at *
    have hB4s := bl_trans hB4 hb4s
    have HX4s := Lib.hid (HX4.out.below hb4s HZ4.out)
    have HZ4s := Lib.hid (Nat.lt_of_lt_of_le HZ4.out hb4s.size)
    refine (impl_LabEntryText en _ _ _ _ w4s (HO4.out.up hb4s) hs1 HLB.out (HP.out.below hB4s)).mono ?_
    rintro e w5 ⟨rfl, hb5⟩
    have hB45 := hb4s.trans (hb5.mono hb4s.size)
    have hB5 := bl_trans hB4s hb5
    have HX5 := Lib.hid (HX4s.out.below hb5 HZ4s.out)
    have HZ5 := Lib.hid (Nat.lt_of_lt_of_le HZ4s.out hb5.size)
    have HY5 := Lib.hid (HY4.out.below hb5 HW4.out)
    have HW5 := Lib.hid (Nat.lt_of_lt_of_le HW4.out hb5.size)
    obtain ⟨p0, p1, p2, p3, p4, p5, p6, p7, p8, p9, pa⟩ := HX5.out
    obtain ⟨q0, q1, q2, q3, q4, q5, q6, q7, q8, q9, qa⟩ := HY5.out
    unfold strV
    go_wp2_with fail
    refine wp_region_held_drew (S := (fun w' => w'.cell? ⟨w.heap.size, 0, none⟩ = some (.int .i64 en.kd) ∧ w'.cell? ⟨w.heap.size, 1, none⟩ = some (.string en.nm) ∧ w'.cell? ⟨w.heap.size, 2, none⟩ = some (.string en.tn) ∧ w'.cell? ⟨w.heap.size, 3, none⟩ = some (.string en.it.nm) ∧ w'.cell? ⟨w.heap.size, 4, none⟩ = some (.int .i64 en.it.n) ∧ w'.cell? ⟨w.heap.size, 5, none⟩ = some va ∧ w'.cell? ⟨w.heap.size, 6, none⟩ = some (.int .i64 en.it.cl) ∧ w'.cell? ⟨w.heap.size, 7, none⟩ = some (.int .i64 en.it.lb) ∧ w'.cell? ⟨w.heap.size, 8, none⟩ = some vf ∧ w'.cell? ⟨w.heap.size, 9, none⟩ = some vs ∧ w'.cell? ⟨w.heap.size, 10, none⟩ = some vr ∧ w'.cell? ⟨w4.heap.size, 0, none⟩ = some (.int .i64 en.kd) ∧ w'.cell? ⟨w4.heap.size, 1, none⟩ = some (.string en.nm) ∧ w'.cell? ⟨w4.heap.size, 2, none⟩ = some (.string en.tn) ∧ w'.cell? ⟨w4.heap.size, 3, none⟩ = some (.string en.it.nm) ∧ w'.cell? ⟨w4.heap.size, 4, none⟩ = some (.int .i64 en.it.n) ∧ w'.cell? ⟨w4.heap.size, 5, none⟩ = some (.slice A6 m6 c6) ∧ w'.cell? ⟨w4.heap.size, 6, none⟩ = some (.int .i64 en.it.cl) ∧ w'.cell? ⟨w4.heap.size, 7, none⟩ = some (.int .i64 en.it.lb) ∧ w'.cell? ⟨w4.heap.size, 8, none⟩ = some (.slice A7 m7 c7) ∧ w'.cell? ⟨w4.heap.size, 9, none⟩ = some (.slice A8 m8 c8) ∧ w'.cell? ⟨w4.heap.size, 10, none⟩ = some (.slice A9 m9 c9))) (by kernel_rfl) ?_ (fun hHeld => ?_)
    · go_keep
    refine take_wanted 0 35 (v := ?v100) rfl rfl (by kernel_rfl) (by kernel_rfl) (by kernel_rfl) (fun _ _ _ h => h) (by rfl) ?y100 (by assumption) ?r100
    case y100 => intro w hSw; (try dsimp only at hSw); go_simp <;> with_reducible rfl
    try simp only [Act.put, List.setIfInBounds_toArray, List.set_cons_zero, List.set_cons_succ]
    refine take_wanted 1 36 (v := ?v101) rfl rfl (by kernel_rfl) (by kernel_rfl) (by kernel_rfl) (fun _ _ _ h => h) (by rfl) ?y101 (by assumption) ?r101
    case y101 => intro w hSw; (try dsimp only at hSw); go_simp <;> with_reducible rfl
    try simp only [Act.put, List.setIfInBounds_toArray, List.set_cons_zero, List.set_cons_succ]
    refine take_ready 2 rfl (by kernel_rfl) (fun K hK => ?_)
    go_simp
    (go_at_call 9; refine (to_Entry en va vf vs vr _ (HH.out.up hB5.drew) hs1).mono ?_; rintro e w6 ⟨va6, vf6, vs6, vr6, bs6, rfl, ho6, -, hbs6, hb6⟩; have hB56 := ((Below.refl w5.heap.size w5).drew).trans hb6; have hB6 := bl_trans hB5 hB56; have HO6 := Lib.hid (ho6.reads (fun b hb => (hbs6 b hb).2)); clear ho6 hbs6; have HX6 := Lib.hid (HX5.out.below hB56 HZ5.out); have HY6 := Lib.hid (HY5.out.below hB56 HW5.out); obtain ⟨e0, e1, e2, e3, e4, e5, e6, e7, e8, e9, ea⟩ := HX6.out; obtain ⟨i0, i1, i2, i3, i4, i5, i6, i7, i8, i9, ia⟩ := HY6.out)
    refine hK.out _ _ ?_ (fun hHeld => ?_)
    · go_keep
    clear hK K
    try simp only [Act.put, List.setIfInBounds_toArray, List.set_cons_zero, List.set_cons_succ]
    refine take_ready 3 rfl (by kernel_rfl) (fun K hK => ?_)
    go_simp
    (go_at_call 11; have hB456 := hB45.trans (hB56.mono hB45.size); refine (eq_Entry en _ _ _ _ _ _ _ _ w6 (HO4.out.up hB456) HO6.out).mono ?_; rintro e w7 ⟨rfl, hb7⟩; have hB7 := bl_trans hB6 hb7; have HX7 := Lib.hid (HX6.out.below hb7 (Nat.lt_of_lt_of_le HZ5.out hB56.size)); have HY7 := Lib.hid (HY6.out.below hb7 (Nat.lt_of_lt_of_le HW5.out hB56.size)); obtain ⟨j0, j1, j2, j3, j4, j5, j6, j7, j8, j9, ja⟩ := HX7.out; obtain ⟨k0, k1, k2, k3, k4, k5, k6, k7, k8, k9, ka⟩ := HY7.out)
    refine hK.out _ _ ?_ (fun hHeld => ?_)
    · go_keep
    clear hK K
    try simp only [Act.put, List.setIfInBounds_toArray, List.set_cons_zero, List.set_cons_succ]
    refine take_wanted 4 39 (v := ?v104) rfl rfl (by kernel_rfl) (by kernel_rfl) (by kernel_rfl) (fun _ _ _ h => h) (by rfl) ?y104 (by assumption) ?r104
    case y104 => intro w hSw; (try dsimp only at hSw); go_simp <;> with_reducible rfl
    try simp only [Act.put, List.setIfInBounds_toArray, List.set_cons_zero, List.set_cons_succ]
    refine wpAnyH_done (by kernel_rfl) ?_ _
    go_wp2_with fail
    go_ret
    exact ⟨rfl, hB7⟩

theorem laidOut : laidOutB Tryz.prog = true := by kernel_rfl
theorem own : ownKnob Tryz.prog.godebug = none := by kernel_rfl
set_option maxRecDepth 100000 in
theorem lifted (os : Os) (started : os.Started) (H : Type) (enc : TypeId × Value → H) :
    ReturnsInHanded {} Tryz.checked os 3 .any (fun w args => (Rows.fnExactLabEntryTextSpec.pre enc Tryz.prog Tryz.f3 [] false w args ∧ laidMetH Tryz.prog Rows.fnExactLabEntryTextRow.laid w) ∧ sizedMet enc Tryz.prog Tryz.f3 (OpenSpec.ofChange Rows.fnExactLabEntryTextSpec) false w args)
      (Rows.fnExactLabEntryTextSpec.post enc Tryz.prog Tryz.f3 false true false false) := by
  refine law_lifted (C := Tryz.checked) (X := fun w _ => laidMetH Tryz.prog Rows.fnExactLabEntryTextRow.laid w) (fun _ _ _ hh h => h.of_heap hh) own started (by kernel_rfl) Tryz.func3
    laidOut (by kernel_rfl) rfl (by kernel_rfl) Tryz.underlying4 (fun ds h => by match ds, h with | [_], _ => rfl)
    (ChangeSpec.witness_shaped (enc := enc) (C := Tryz.checked) (os := os) (X := fun w _ => laidMetH Tryz.prog Rows.fnExactLabEntryTextRow.laid w) false (World.laidAll Tryz.prog os Rows.fnExactLabEntryTextRow.laid) #[.agg #[.int .i64 0, .string ⟨#[]⟩, .string ⟨#[]⟩, .string ⟨#[]⟩, .int .i64 0, .slice none 0 0, .int .i64 0, .int .i64 0, .slice none 0 0, .slice none 0 0, .slice none 0 0]] 8 (World.laidAll_os _ _ _)
      (World.shaped_of_ZipB (by kernel_rfl) (by kernel_rfl)) (by kernel_rfl) (by kernel_rfl) (by kernel_rfl)
      (by rw [MakeChecks.laidMetH_plain _ _ _ (by kernel_rfl)]; exact laidMet_laidAll _ (by kernel_rfl) (by kernel_rfl))) ?_
  intro W base args ds p hval0 hA0 hlt hL hsh
  have hval : ∀ (j : Nat) t v, Tryz.f3.params[j]? = some t → args[j]? = some v → Value.okWide Tryz.prog W .any base t v := hval0
  have hA : DataW.TrodAll enc Tryz.prog W 0 (fun _ => true) true Tryz.f3.params.toList args.toList ds p := hA0
  rw [Tryz.params3] at hA hval
  obtain ⟨v0, vs0, d0, ds0, p0, q0, hargs, rfl, rfl, h0, r0⟩ := trodAll_cons hA
  obtain ⟨rfl, rfl, rfl⟩ := trodAll_nil r0
  obtain rfl : args = #[v0] := by cases args; simp_all
  obtain ⟨cs, rfl, hsz⟩ := okWide_struct Tryz.underlying31 (hval 0 31 v0 rfl rfl)
  obtain ⟨fuel, hf⟩ := h0
  obtain ⟨en, va, vf, vs, vr, e0, hr, g1, g2, g3, hlb⟩ := entry_of_trod hf
  obtain rfl : cs = (entryL en va vf vs vr).toArray := by
    obtain ⟨l⟩ := cs
    simpa [Value.cells] using e0
  rw [MakeChecks.laidMetH_plain _ _ _ (by kernel_rfl)] at hL
  have hP : Pow10 W := pow10_of_laid (r := Rows.fnExactLabEntryTextRow.laid.drop 3) 2 (by kernel_rfl) hL
  exact walk en va vf vs vr W hr g1 g2 g3 hlb hP

theorem over : Rows.FnExactLabEntryTextSaid :=
  OpenClaim.holds_of_wide 3 Tryz.f3 rfl rfl rfl rfl rfl rfl rfl ⟨rfl, rfl, rfl, rfl, rfl⟩ rfl rfl rfl rfl rfl (by kernel_rfl) Tryz.func3 (by kernel_rfl)
    (of_decide_eq_true (by kernel_rfl)) (by unfold Func.isWrapper; first | (rw [if_pos (by decide +kernel)]; kernel_rfl) | (rw [if_neg (by decide +kernel)]; exact ⟨rfl, rfl⟩))
    (fun os started H enc _ => lifted os started H enc)

/-- The statement: the tied card. -/
theorem proved : Rows.FnExactLabEntryTextCardSaid :=
  Claim7.holds_tied_plain_at .later [] [.data, .data, .data, .data, .pinned] true Rows.fnExactLabEntryTextCard.stood.harness true
    over (fun _ h => by cases h) (by kernel_rfl) (fun _ h => by cases h) fnExactLabEntryText_row_tie rfl ⟨rfl, rfl⟩ (by kernel_rfl) rfl
    (fun f fn hf hfn => by
      obtain rfl : f = 3 := Option.some.inj ((show Tryz.prog.funcNamed Rows.fnExactLabEntryTextRow.func = some 3 by kernel_rfl).symm.trans hf) |>.symm
      obtain rfl : fn = Tryz.f3 := (Option.some.inj (Tryz.func3.symm.trans hfn)).symm
      exact ⟨by kernel_rfl, fun j t ht => by
        rw [Tryz.params3] at ht
        have hm : t ∈ [31] := by simpa using Array.mem_of_getElem? ht
        have hall : ([31].all fun u => !Tryz.prog.wantsStandIn u) = true := by kernel_rfl
        exact (show Tryz.prog.wantsStandIn t = false by simpa using List.all_eq_true.1 hall t hm)⟩)
    (by kernel_rfl)
#print axioms proved
end Go.Proofs.YtbchhehecdoonaaGreatDoor.fnExactLabEntryText
