/-
  Proved: the law FnExactApplyLab returns true for every slice of items and every entry, and leaves them as they were. The row's own condition: the listed tables hold what their text lays (the card ties them).
-/
import Derived.Test.YtkbkbjcpblajjaaGreatDoorRows
import Derived.Test.YtkbkbjcpblajjaaGreatDoorCards
import Derived.Test.YtkbkbjcpblajjaaGreatDoorTie
import Derived.Test.YtkbkbjcpblajjaaGreatDoorLaw
import Derived.Test.YtkbkbjcpblajjaaGreatDoorOpenItem
import Derived.Test.YtkbkbjcpblajjaaGreatDoorStoreAll
import Derived.Test.YtkbkbjcpblajjaaGreatDoorApplyB
import Derived.ProofKit
import Derived.Lay
import Derived.LaidMore
import Derived.OpenShut
import Derived.ShutString
import Derived.Stop.Joined
import Derived.SevenTiedAt
import Derived.Deep.RegionHeld3
import Derived.Lib.SmallJoins
import Derived.Lib.LaidTab
namespace Go.Proofs.YtkbkbjcpblajjaaGreatDoor.fnExactApplyLab
open Go.ChangeShapes Go.WideShapes Go.ChangeAt Go.RowKit Go.Joins Go.Deep
set_option linter.unusedVariables false

def entryL (e : Entry) (va vf vs vr : Value) : List Value := .int .i64 e.kd :: .string e.nm :: .string e.tn :: itemL e.it va vf vs vr
set_option maxRecDepth 100000 in
theorem entry_of_trod {H : Type} {enc : TypeId × Value → H} {w : World} {base : Nat} {spare : Nat → Bool} {held : Bool} {fuel : Nat} {cs : List Value} {x : DataW H × List MemPlace} (h : DataW.trod enc Tryz.prog w base spare held fuel 32 cs = some x) :
    ∃ en va vf vs vr, cs = entryL en va vf vs vr ∧ ItemR w w.heap.size en.it va vf vs vr ∧ en.nm.size ≤ maxLen ∧ en.tn.size ≤ maxLen ∧ en.it.nm.size ≤ maxLen ∧ I64 en.it.lb := by
  obtain ⟨ys, n, _, _, hl, hlen, hg⟩ := DataW.trod_struct Tryz.underlying32 h
  have h8 : cs.length = 11 := hl.trans (by kernel_rfl)
  match cs, h8 with
  | [b0, b1, b2, c0, c1, c2, c3, c4, c5, c6, c7], _ =>
    match ys, hlen with
    | [y0, y1, y2, y3], _ =>
      have s1 : Tryz.prog.cellsOf 9 = 1 := by kernel_rfl
      have s2 : Tryz.prog.cellsOf 30 = 8 := by kernel_rfl
      have s4 : Tryz.prog.cellsOf 3 = 1 := by kernel_rfl
      have g0 : DataW.trod enc Tryz.prog w base spare held n 3 [b0] = some y0 := by simpa [s4] using hg 0 _ rfl
      have g1 : DataW.trod enc Tryz.prog w base spare held n 9 [b1] = some y1 := by simpa [s1] using hg 1 _ rfl
      have g2 : DataW.trod enc Tryz.prog w base spare held n 9 [b2] = some y2 := by simpa [s1] using hg 2 _ rfl
      have g3 : DataW.trod enc Tryz.prog w base spare held n 30 [c0, c1, c2, c3, c4, c5, c6, c7] = some y3 := by simpa [s2] using hg 3 _ rfl
      obtain ⟨kd, e0, -, wk⟩ := DataW.trod_int Tryz.underlying3 g0
      obtain ⟨nm, e1, -, hnm⟩ := DataW.trod_string Tryz.underlying9 g1
      obtain ⟨tn, e2, -, htn⟩ := DataW.trod_string Tryz.underlying9 g2
      obtain ⟨it, va, vf, vs, vr, e3, hr, hw⟩ := item_of_trod g3
      simp only [List.cons.injEq, and_true] at e0 e1 e2
      subst e0 e1 e2
      exact ⟨⟨kd, nm, tn, it⟩, va, vf, vs, vr, by rw [e3]; rfl, hr, hnm, htn, hw.1, hw.2.1⟩
theorem al_sz (xs : List Item) (en : Entry) : (alX xs en).length ≤ 100 ∧ ∀ x ∈ alX xs en, szItem x ≤ 2000000 := by
  unfold alX
  by_cases h : alB xs en = true
  · rw [if_pos h]
    unfold alB at h
    rw [Bool.and_eq_true] at h
    have hs := ap_store (propB_iff.1 h.1) (propB_iff.1 h.2)
    exact ⟨by have := hs.2; omega, fun x hx => Nat.le_trans (storeP.okI hs.all x hx).1 (by omega)⟩
  · rw [if_neg h]
    exact ⟨Nat.zero_le _, fun x hx => by cases hx⟩
set_option maxRecDepth 100000 in
set_option maxHeartbeats 2000000 in
theorem walk (v : Value) (xs : List Item) (en : Entry) (va vf vs vr : Value) (w : World) (h : ItemsR w w.heap.size v xs) (hw : ∀ x ∈ xs, ItemW x) (hi : ItemR w w.heap.size en.it va vf vs vr) (h1 : en.nm.size ≤ maxLen) (h2 : en.tn.size ≤ maxLen) (h3 : en.it.nm.size ≤ maxLen) (hlb : I64 en.it.lb) :
    Calls Tryz.prog 3 #[v, entryV en va vf vs vr] w fun e w' => e = .returned (.bool true) ∧ Below w.heap.size w w' := by
  obtain ⟨Aa, ma, ca, rfl⟩ := hi.a.isSlice'
  obtain ⟨Af, mf, cf, rfl⟩ := hi.f.isSlice
  obtain ⟨As, ms, cs, rfl⟩ := hi.s.isSlice
  obtain ⟨Ar, mr, cr, rfl⟩ := hi.r.isSlice'
  obtain ⟨Ax, cx, rfl⟩ := h.slice
  have Ri := Lib.hid h; clear h
  have Re := Lib.hid hi; clear hi
  have HLB := Lib.hid hlb; clear hlb
  have HWX := Lib.hid hw; clear hw
  have hB := Below.refl w.heap.size w
  obtain ⟨w0, hw0⟩ : ∃ z, z = w.alloc (.cells #[.int .i64 en.kd, .string en.nm, .string en.tn, .string en.it.nm, .int .i64 en.it.n, .slice Aa ma ca, .int .i64 en.it.cl, .int .i64 en.it.lb, .slice Af mf cf, .slice As ms cs, .slice Ar mr cr] 32) := ⟨_, rfl⟩
  have hba0 : Below w.heap.size w w0 := by rw [hw0]; exact bl_alloc (Below.refl _ _) _
  have HE0 := Lib.hid (show w0.heap[w.heap.size]? = some (.cells #[.int .i64 en.kd, .string en.nm, .string en.tn, .string en.it.nm, .int .i64 en.it.n, .slice Aa ma ca, .int .i64 en.it.cl, .int .i64 en.it.lb, .slice Af mf cf, .slice As ms cs, .slice Ar mr cr] 32) by rw [hw0]; exact heap_alloc_new w _)
  have hl0 : w.heap.size < w0.heap.size := by rw [hw0]; simp
  have HW0 := Lib.hid hw0; clear hw0
  have hz1 := hba0.size
  replace hB := bl_trans hB hba0
  replace Ri := Lib.hid (Ri.out.below (hba0.mono (show w.heap.size ≤ w.heap.size by omega)))
  replace Re := Lib.hid (Re.out.below (hba0.mono (show w.heap.size ≤ w.heap.size by omega)))
  go_enter Tryz.func3, Tryz.ntmps3
  go_wp2_with fail
  rw [← HW0.out]
  refine (sz_Items _ xs 1048576 w0 (Ri.out.more (show w.heap.size ≤ w0.heap.size by omega)) (fun x hx => (HWX.out x hx).1) (by omega) (by omega)).mono ?_
  rintro e w1 ⟨rfl, hb1⟩
  have hz2 := hb1.size
  replace hB := bl_trans hB hb1
  replace HE0 := Lib.hid ((hb1.block (w.heap.size) (show w.heap.size < w0.heap.size by omega)).trans HE0.out)
  replace Ri := Lib.hid (Ri.out.below (hb1.mono (show w.heap.size ≤ w0.heap.size by omega)))
  replace Re := Lib.hid (Re.out.below (hb1.mono (show w.heap.size ≤ w0.heap.size by omega)))
  have e01_0 : w1.cell? ⟨w.heap.size, 0, none⟩ = some (.int .i64 en.kd) := cell_of_row _ _ 0 _ _ (0, 0) HE0.out
  have e01_1 : w1.cell? ⟨w.heap.size, 1, none⟩ = some (.string en.nm) := cell_of_row _ _ 1 _ _ (0, 0) HE0.out
  have e01_2 : w1.cell? ⟨w.heap.size, 2, none⟩ = some (.string en.tn) := cell_of_row _ _ 2 _ _ (0, 0) HE0.out
  have e01_3 : w1.cell? ⟨w.heap.size, 3, none⟩ = some (.string en.it.nm) := cell_of_row _ _ 3 _ _ (0, 0) HE0.out
  have e01_4 : w1.cell? ⟨w.heap.size, 4, none⟩ = some (.int .i64 en.it.n) := cell_of_row _ _ 4 _ _ (0, 0) HE0.out
  have e01_5 : w1.cell? ⟨w.heap.size, 5, none⟩ = some (.slice Aa ma ca) := cell_of_row _ _ 5 _ _ (0, 0) HE0.out
  have e01_6 : w1.cell? ⟨w.heap.size, 6, none⟩ = some (.int .i64 en.it.cl) := cell_of_row _ _ 6 _ _ (0, 0) HE0.out
  have e01_7 : w1.cell? ⟨w.heap.size, 7, none⟩ = some (.int .i64 en.it.lb) := cell_of_row _ _ 7 _ _ (0, 0) HE0.out
  have e01_8 : w1.cell? ⟨w.heap.size, 8, none⟩ = some (.slice Af mf cf) := cell_of_row _ _ 8 _ _ (0, 0) HE0.out
  have e01_9 : w1.cell? ⟨w.heap.size, 9, none⟩ = some (.slice As ms cs) := cell_of_row _ _ 9 _ _ (0, 0) HE0.out
  have e01_10 : w1.cell? ⟨w.heap.size, 10, none⟩ = some (.slice Ar mr cr) := cell_of_row _ _ 10 _ _ (0, 0) HE0.out
  have e01_f : ∀ i, w1.frozen? ⟨w.heap.size, i, none⟩ = false := fun i => frozen_of_row _ _ i _ _ HE0.out
  have hzl := szR_le (left := 1048576) (n := szItems xs) (by omega)
  by_cases q1 : szR 1048576 (szItems xs) < 0
  · go_wp2_with fail
    go_ret
    exact ⟨rfl, hB⟩
  · obtain ⟨k1, -⟩ := szR_pos q1
    have hs1 : szItems xs ≤ 1048576 := by omega
    obtain ⟨L, hL⟩ : ∃ L, L = szR 1048576 (szItems xs) := ⟨_, rfl⟩
    rw [← hL] at hzl q1 ⊢
    have hl0' : 0 ≤ L := by omega
    clear hL k1
    go_wp2_with fail
    refine (sz_Entry en _ _ _ _ L w1 (Re.out.more (show w.heap.size ≤ w1.heap.size by omega)) h1 h2 h3 hl0' hzl).mono ?_
    rintro e w2 ⟨rfl, hb2⟩
    have hz3 := hb2.size
    replace hB := bl_trans hB hb2
    clear e01_0 e01_1 e01_2 e01_3 e01_4 e01_5 e01_6 e01_7 e01_8 e01_9 e01_10 e01_f
    replace HE0 := Lib.hid ((hb2.block (w.heap.size) (show w.heap.size < w1.heap.size by omega)).trans HE0.out)
    replace Ri := Lib.hid (Ri.out.below (hb2.mono (show w.heap.size ≤ w1.heap.size by omega)))
    replace Re := Lib.hid (Re.out.below (hb2.mono (show w.heap.size ≤ w1.heap.size by omega)))
    have e02_0 : w2.cell? ⟨w.heap.size, 0, none⟩ = some (.int .i64 en.kd) := cell_of_row _ _ 0 _ _ (0, 0) HE0.out
    have e02_1 : w2.cell? ⟨w.heap.size, 1, none⟩ = some (.string en.nm) := cell_of_row _ _ 1 _ _ (0, 0) HE0.out
    have e02_2 : w2.cell? ⟨w.heap.size, 2, none⟩ = some (.string en.tn) := cell_of_row _ _ 2 _ _ (0, 0) HE0.out
    have e02_3 : w2.cell? ⟨w.heap.size, 3, none⟩ = some (.string en.it.nm) := cell_of_row _ _ 3 _ _ (0, 0) HE0.out
    have e02_4 : w2.cell? ⟨w.heap.size, 4, none⟩ = some (.int .i64 en.it.n) := cell_of_row _ _ 4 _ _ (0, 0) HE0.out
    have e02_5 : w2.cell? ⟨w.heap.size, 5, none⟩ = some (.slice Aa ma ca) := cell_of_row _ _ 5 _ _ (0, 0) HE0.out
    have e02_6 : w2.cell? ⟨w.heap.size, 6, none⟩ = some (.int .i64 en.it.cl) := cell_of_row _ _ 6 _ _ (0, 0) HE0.out
    have e02_7 : w2.cell? ⟨w.heap.size, 7, none⟩ = some (.int .i64 en.it.lb) := cell_of_row _ _ 7 _ _ (0, 0) HE0.out
    have e02_8 : w2.cell? ⟨w.heap.size, 8, none⟩ = some (.slice Af mf cf) := cell_of_row _ _ 8 _ _ (0, 0) HE0.out
    have e02_9 : w2.cell? ⟨w.heap.size, 9, none⟩ = some (.slice As ms cs) := cell_of_row _ _ 9 _ _ (0, 0) HE0.out
    have e02_10 : w2.cell? ⟨w.heap.size, 10, none⟩ = some (.slice Ar mr cr) := cell_of_row _ _ 10 _ _ (0, 0) HE0.out
    have e02_f : ∀ i, w2.frozen? ⟨w.heap.size, i, none⟩ = false := fun i => frozen_of_row _ _ i _ _ HE0.out
    by_cases q2 : szR L (szEntry en) < 0
    · go_wp2_with fail
      go_ret
      exact ⟨rfl, hB⟩
    · obtain ⟨k2, k3⟩ := szR_pos q2
      have hs2 : szEntry en ≤ 1048576 := by omega
      have K3 := Lib.hid k3; clear k3
      have HOK := Lib.hid (show ItemsOk xs from fun x hx => ⟨by have := lensI_mem hx; unfold szItems at hs1; omega, (HWX.out x hx).2.1⟩)
      have HSZX := Lib.hid (show ∀ x ∈ xs, szItem x ≤ 2000000 from fun x hx => Nat.le_trans (HOK.out x hx).1 (by omega))
      have hme := endIs_sz xs 1
      have hmo := (endIs_le xs 1 HSZX.out).1
      have hs3 : xs.length + lensI xs ≤ 1048576 := hs1
      have hze : szItem en.it ≤ 1048576 := by unfold szEntry at hs2; omega
      obtain ⟨KE, hKE⟩ : ∃ KE, KE = endIs 1 xs := ⟨_, rfl⟩
      rw [← hKE] at hme hmo
      have hke : KE ≤ 10000000 := by omega
      have HKE := Lib.hid hKE; clear hKE hme
      have hmm : KE ≤ endM KE en.it ∧ endM KE en.it ≤ KE + 2000000 := by unfold endM; unfold szItem szCert szRows at hze; omega
      obtain ⟨KM, hKM⟩ : ∃ KM, KM = endM KE en.it := ⟨_, rfl⟩
      rw [← hKM] at hmm
      have HKM := Lib.hid hKM; clear hKM
      have J1 := Lib.hid (fun (v : Value) (va vf vs vr : Value) (W : World) (h : ItemsR W W.heap.size v xs) (hi : ItemR W W.heap.size en.it va vf vs vr) => spec_ApplyLab v xs en va vf vs vr W h HOK.out hi hs2 HLB.out)
      have J2 := Lib.hid (fun (v : Value) (va vf vs vr : Value) (W : World) (h : ItemsR W W.heap.size v xs) (hi : ItemR W W.heap.size en.it va vf vs vr) => impl_ApplyLab v xs en va vf vs vr W h HOK.out hi hs2 HLB.out)
      obtain ⟨hlen, hszz⟩ := al_sz xs en
      unfold AlPost at J1
      unfold AliPost at J2
      generalize alB xs en = ok at *
      generalize alX xs en = X at *
      have hM0 := (endIs_le X 1 hszz).1
      have HSZ := Lib.hid hszz; clear hszz
      have hM1 : ¬ (endIs 1 X < 0) := by omega
      have hM2 : ¬ (KM < 0) := by omega
      go_wp2_with fail
      refine wp_region_held_drew (S := (fun w' => w'.cell? ⟨w.heap.size, 0, none⟩ = some (.int .i64 en.kd) ∧ w'.cell? ⟨w.heap.size, 1, none⟩ = some (.string en.nm) ∧ w'.cell? ⟨w.heap.size, 2, none⟩ = some (.string en.tn) ∧ w'.cell? ⟨w.heap.size, 3, none⟩ = some (.string en.it.nm) ∧ w'.cell? ⟨w.heap.size, 4, none⟩ = some (.int .i64 en.it.n) ∧ w'.cell? ⟨w.heap.size, 5, none⟩ = some (.slice Aa ma ca) ∧ w'.cell? ⟨w.heap.size, 6, none⟩ = some (.int .i64 en.it.cl) ∧ w'.cell? ⟨w.heap.size, 7, none⟩ = some (.int .i64 en.it.lb) ∧ w'.cell? ⟨w.heap.size, 8, none⟩ = some (.slice Af mf cf) ∧ w'.cell? ⟨w.heap.size, 9, none⟩ = some (.slice As ms cs) ∧ w'.cell? ⟨w.heap.size, 10, none⟩ = some (.slice Ar mr cr))) (by kernel_rfl) ?_ (fun hHeld => ?_)
      · go_keep
      have hz4 := (Below.refl w2.heap.size w2).drew.size
      replace hB := bl_trans hB (Below.refl w2.heap.size w2).drew
      clear e02_0 e02_1 e02_2 e02_3 e02_4 e02_5 e02_6 e02_7 e02_8 e02_9 e02_10 e02_f
      replace HE0 := Lib.hid (((Below.refl w2.heap.size w2).drew.block (w.heap.size) (show w.heap.size < w2.heap.size by omega)).trans HE0.out)
      replace Ri := Lib.hid (Ri.out.below ((Below.refl w2.heap.size w2).drew.mono (show w.heap.size ≤ w2.heap.size by omega)))
      replace Re := Lib.hid (Re.out.below ((Below.refl w2.heap.size w2).drew.mono (show w.heap.size ≤ w2.heap.size by omega)))
      have e03_0 : w2.drew.cell? ⟨w.heap.size, 0, none⟩ = some (.int .i64 en.kd) := cell_of_row _ _ 0 _ _ (0, 0) HE0.out
      have e03_1 : w2.drew.cell? ⟨w.heap.size, 1, none⟩ = some (.string en.nm) := cell_of_row _ _ 1 _ _ (0, 0) HE0.out
      have e03_2 : w2.drew.cell? ⟨w.heap.size, 2, none⟩ = some (.string en.tn) := cell_of_row _ _ 2 _ _ (0, 0) HE0.out
      have e03_3 : w2.drew.cell? ⟨w.heap.size, 3, none⟩ = some (.string en.it.nm) := cell_of_row _ _ 3 _ _ (0, 0) HE0.out
      have e03_4 : w2.drew.cell? ⟨w.heap.size, 4, none⟩ = some (.int .i64 en.it.n) := cell_of_row _ _ 4 _ _ (0, 0) HE0.out
      have e03_5 : w2.drew.cell? ⟨w.heap.size, 5, none⟩ = some (.slice Aa ma ca) := cell_of_row _ _ 5 _ _ (0, 0) HE0.out
      have e03_6 : w2.drew.cell? ⟨w.heap.size, 6, none⟩ = some (.int .i64 en.it.cl) := cell_of_row _ _ 6 _ _ (0, 0) HE0.out
      have e03_7 : w2.drew.cell? ⟨w.heap.size, 7, none⟩ = some (.int .i64 en.it.lb) := cell_of_row _ _ 7 _ _ (0, 0) HE0.out
      have e03_8 : w2.drew.cell? ⟨w.heap.size, 8, none⟩ = some (.slice Af mf cf) := cell_of_row _ _ 8 _ _ (0, 0) HE0.out
      have e03_9 : w2.drew.cell? ⟨w.heap.size, 9, none⟩ = some (.slice As ms cs) := cell_of_row _ _ 9 _ _ (0, 0) HE0.out
      have e03_10 : w2.drew.cell? ⟨w.heap.size, 10, none⟩ = some (.slice Ar mr cr) := cell_of_row _ _ 10 _ _ (0, 0) HE0.out
      have e03_f : ∀ i, w2.drew.frozen? ⟨w.heap.size, i, none⟩ = false := fun i => frozen_of_row _ _ i _ _ HE0.out
      refine take_wanted 0 28 (v := ?v200) rfl rfl (by kernel_rfl) (by kernel_rfl) (by kernel_rfl) (fun _ _ _ h => h) (by rfl) ?y200 (by assumption) ?r200
      case y200 => intro w hSw; (try dsimp only at hSw); go_simp <;> with_reducible rfl
      try simp only [Act.put, List.setIfInBounds_toArray, List.set_cons_zero, List.set_cons_succ]
      refine take_wanted 2 30 (v := ?v202) rfl rfl (by kernel_rfl) (by kernel_rfl) (by kernel_rfl) (fun _ _ _ h => h) (by rfl) ?y202 (by assumption) ?r202
      case y202 => intro w hSw; (try dsimp only at hSw); go_simp <;> with_reducible rfl
      try simp only [Act.put, List.setIfInBounds_toArray, List.set_cons_zero, List.set_cons_succ]
      refine take_ready 1 rfl (by kernel_rfl) (fun K hK => ?_)
      go_simp
      go_at_call 11
      refine (to_Items _ xs w2.drew (Ri.out.more (show w.heap.size ≤ w2.drew.heap.size by omega)) hs1).mono ?_
      rintro e w3 ⟨vp, rfl, hr, hbw3⟩
      have hz5 := hbw3.size
      replace hB := bl_trans hB hbw3
      clear e03_0 e03_1 e03_2 e03_3 e03_4 e03_5 e03_6 e03_7 e03_8 e03_9 e03_10 e03_f
      replace HE0 := Lib.hid ((hbw3.block (w.heap.size) (show w.heap.size < w2.drew.heap.size by omega)).trans HE0.out)
      replace Ri := Lib.hid (Ri.out.below (hbw3.mono (show w.heap.size ≤ w2.drew.heap.size by omega)))
      replace Re := Lib.hid (Re.out.below (hbw3.mono (show w.heap.size ≤ w2.drew.heap.size by omega)))
      have e04_0 : w3.cell? ⟨w.heap.size, 0, none⟩ = some (.int .i64 en.kd) := cell_of_row _ _ 0 _ _ (0, 0) HE0.out
      have e04_1 : w3.cell? ⟨w.heap.size, 1, none⟩ = some (.string en.nm) := cell_of_row _ _ 1 _ _ (0, 0) HE0.out
      have e04_2 : w3.cell? ⟨w.heap.size, 2, none⟩ = some (.string en.tn) := cell_of_row _ _ 2 _ _ (0, 0) HE0.out
      have e04_3 : w3.cell? ⟨w.heap.size, 3, none⟩ = some (.string en.it.nm) := cell_of_row _ _ 3 _ _ (0, 0) HE0.out
      have e04_4 : w3.cell? ⟨w.heap.size, 4, none⟩ = some (.int .i64 en.it.n) := cell_of_row _ _ 4 _ _ (0, 0) HE0.out
      have e04_5 : w3.cell? ⟨w.heap.size, 5, none⟩ = some (.slice Aa ma ca) := cell_of_row _ _ 5 _ _ (0, 0) HE0.out
      have e04_6 : w3.cell? ⟨w.heap.size, 6, none⟩ = some (.int .i64 en.it.cl) := cell_of_row _ _ 6 _ _ (0, 0) HE0.out
      have e04_7 : w3.cell? ⟨w.heap.size, 7, none⟩ = some (.int .i64 en.it.lb) := cell_of_row _ _ 7 _ _ (0, 0) HE0.out
      have e04_8 : w3.cell? ⟨w.heap.size, 8, none⟩ = some (.slice Af mf cf) := cell_of_row _ _ 8 _ _ (0, 0) HE0.out
      have e04_9 : w3.cell? ⟨w.heap.size, 9, none⟩ = some (.slice As ms cs) := cell_of_row _ _ 9 _ _ (0, 0) HE0.out
      have e04_10 : w3.cell? ⟨w.heap.size, 10, none⟩ = some (.slice Ar mr cr) := cell_of_row _ _ 10 _ _ (0, 0) HE0.out
      have e04_f : ∀ i, w3.frozen? ⟨w.heap.size, i, none⟩ = false := fun i => frozen_of_row _ _ i _ _ HE0.out
      obtain ⟨Ap, cp, rfl⟩ := hr.slice
      have Rp := Lib.hid hr; clear hr
      refine hK.out _ _ ?_ (fun hHeld => ?_)
      · go_keep
      clear hK K
      try simp only [Act.put, List.setIfInBounds_toArray, List.set_cons_zero, List.set_cons_succ]
      refine take_ready 3 rfl (by kernel_rfl) (fun K hK => ?_)
      go_simp
      go_at_call 12
      refine (to_Entry en _ _ _ _ w3 (Re.out.more (show w.heap.size ≤ w3.heap.size by omega)) hs2).mono ?_
      rintro e w4 ⟨vaq, vfq, vsq, vrq, bsq, rfl, ho, hnq, hrg, hbw4⟩
      have hz6 := hbw4.size
      replace hB := bl_trans hB hbw4
      clear e04_0 e04_1 e04_2 e04_3 e04_4 e04_5 e04_6 e04_7 e04_8 e04_9 e04_10 e04_f
      replace HE0 := Lib.hid ((hbw4.block (w.heap.size) (show w.heap.size < w3.heap.size by omega)).trans HE0.out)
      replace Ri := Lib.hid (Ri.out.below (hbw4.mono (show w.heap.size ≤ w3.heap.size by omega)))
      replace Re := Lib.hid (Re.out.below (hbw4.mono (show w.heap.size ≤ w3.heap.size by omega)))
      replace Rp := Lib.hid (Rp.out.below (hbw4.mono (show w3.heap.size ≤ w3.heap.size by omega)))
      have e05_0 : w4.cell? ⟨w.heap.size, 0, none⟩ = some (.int .i64 en.kd) := cell_of_row _ _ 0 _ _ (0, 0) HE0.out
      have e05_1 : w4.cell? ⟨w.heap.size, 1, none⟩ = some (.string en.nm) := cell_of_row _ _ 1 _ _ (0, 0) HE0.out
      have e05_2 : w4.cell? ⟨w.heap.size, 2, none⟩ = some (.string en.tn) := cell_of_row _ _ 2 _ _ (0, 0) HE0.out
      have e05_3 : w4.cell? ⟨w.heap.size, 3, none⟩ = some (.string en.it.nm) := cell_of_row _ _ 3 _ _ (0, 0) HE0.out
      have e05_4 : w4.cell? ⟨w.heap.size, 4, none⟩ = some (.int .i64 en.it.n) := cell_of_row _ _ 4 _ _ (0, 0) HE0.out
      have e05_5 : w4.cell? ⟨w.heap.size, 5, none⟩ = some (.slice Aa ma ca) := cell_of_row _ _ 5 _ _ (0, 0) HE0.out
      have e05_6 : w4.cell? ⟨w.heap.size, 6, none⟩ = some (.int .i64 en.it.cl) := cell_of_row _ _ 6 _ _ (0, 0) HE0.out
      have e05_7 : w4.cell? ⟨w.heap.size, 7, none⟩ = some (.int .i64 en.it.lb) := cell_of_row _ _ 7 _ _ (0, 0) HE0.out
      have e05_8 : w4.cell? ⟨w.heap.size, 8, none⟩ = some (.slice Af mf cf) := cell_of_row _ _ 8 _ _ (0, 0) HE0.out
      have e05_9 : w4.cell? ⟨w.heap.size, 9, none⟩ = some (.slice As ms cs) := cell_of_row _ _ 9 _ _ (0, 0) HE0.out
      have e05_10 : w4.cell? ⟨w.heap.size, 10, none⟩ = some (.slice Ar mr cr) := cell_of_row _ _ 10 _ _ (0, 0) HE0.out
      have e05_f : ∀ i, w4.frozen? ⟨w.heap.size, i, none⟩ = false := fun i => frozen_of_row _ _ i _ _ HE0.out
      obtain ⟨ba, bf, bz, br, oa, of, oz, or, hbs⟩ := id ho
      obtain ⟨Aaq, maq, caq, rfl⟩ := oa.isSlice
      obtain ⟨Afq, mfq, cfq, rfl⟩ := of.1.isSlice
      obtain ⟨Asq, msq, csq, rfl⟩ := oz.1.isSlice
      obtain ⟨Arq, mrq, crq, rfl⟩ := or.isSlice
      clear oa of oz or hbs
      have Rq := Lib.hid (ho.reads (B := w4.heap.size) (fun b hb => (hrg b hb).2)); clear ho hrg hnq
      refine hK.out _ _ ?_ (fun hHeld => ?_)
      · go_keep
      clear hK K
      try simp only [Act.put, List.setIfInBounds_toArray, List.set_cons_zero, List.set_cons_succ]
      refine take_ready 4 rfl (by kernel_rfl) (fun K hK => ?_)
      go_simp
      go_at_call 10
      refine (J1.out _ _ _ _ _ w4 (Rp.out.more (show w3.heap.size ≤ w4.heap.size by omega)) (Rq.out.more (show w4.heap.size ≤ w4.heap.size by omega))).mono ?_
      rintro e w5 ⟨vw, rfl, hr, hb5⟩
      have hz7 := hb5.size
      replace hB := bl_trans hB hb5
      clear e05_0 e05_1 e05_2 e05_3 e05_4 e05_5 e05_6 e05_7 e05_8 e05_9 e05_10 e05_f
      replace HE0 := Lib.hid ((hb5.block (w.heap.size) (show w.heap.size < w4.heap.size by omega)).trans HE0.out)
      replace Ri := Lib.hid (Ri.out.below (hb5.mono (show w.heap.size ≤ w4.heap.size by omega)))
      replace Re := Lib.hid (Re.out.below (hb5.mono (show w.heap.size ≤ w4.heap.size by omega)))
      replace Rp := Lib.hid (Rp.out.below (hb5.mono (show w3.heap.size ≤ w4.heap.size by omega)))
      replace Rq := Lib.hid (Rq.out.below (hb5.mono (show w4.heap.size ≤ w4.heap.size by omega)))
      have e06_0 : w5.cell? ⟨w.heap.size, 0, none⟩ = some (.int .i64 en.kd) := cell_of_row _ _ 0 _ _ (0, 0) HE0.out
      have e06_1 : w5.cell? ⟨w.heap.size, 1, none⟩ = some (.string en.nm) := cell_of_row _ _ 1 _ _ (0, 0) HE0.out
      have e06_2 : w5.cell? ⟨w.heap.size, 2, none⟩ = some (.string en.tn) := cell_of_row _ _ 2 _ _ (0, 0) HE0.out
      have e06_3 : w5.cell? ⟨w.heap.size, 3, none⟩ = some (.string en.it.nm) := cell_of_row _ _ 3 _ _ (0, 0) HE0.out
      have e06_4 : w5.cell? ⟨w.heap.size, 4, none⟩ = some (.int .i64 en.it.n) := cell_of_row _ _ 4 _ _ (0, 0) HE0.out
      have e06_5 : w5.cell? ⟨w.heap.size, 5, none⟩ = some (.slice Aa ma ca) := cell_of_row _ _ 5 _ _ (0, 0) HE0.out
      have e06_6 : w5.cell? ⟨w.heap.size, 6, none⟩ = some (.int .i64 en.it.cl) := cell_of_row _ _ 6 _ _ (0, 0) HE0.out
      have e06_7 : w5.cell? ⟨w.heap.size, 7, none⟩ = some (.int .i64 en.it.lb) := cell_of_row _ _ 7 _ _ (0, 0) HE0.out
      have e06_8 : w5.cell? ⟨w.heap.size, 8, none⟩ = some (.slice Af mf cf) := cell_of_row _ _ 8 _ _ (0, 0) HE0.out
      have e06_9 : w5.cell? ⟨w.heap.size, 9, none⟩ = some (.slice As ms cs) := cell_of_row _ _ 9 _ _ (0, 0) HE0.out
      have e06_10 : w5.cell? ⟨w.heap.size, 10, none⟩ = some (.slice Ar mr cr) := cell_of_row _ _ 10 _ _ (0, 0) HE0.out
      have e06_f : ∀ i, w5.frozen? ⟨w.heap.size, i, none⟩ = false := fun i => frozen_of_row _ _ i _ _ HE0.out
      obtain ⟨Aw, cw, rfl⟩ := hr.slice
      have Rw := Lib.hid hr; clear hr
      refine hK.out _ _ ?_ (fun hHeld => ?_)
      · go_keep
      clear hK K
      try simp only [Act.put, List.setIfInBounds_toArray, List.set_cons_zero, List.set_cons_succ]
      refine take_wanted 5 27 (v := ?v205) rfl rfl (by kernel_rfl) (by kernel_rfl) (by kernel_rfl) (fun _ _ _ h => h) (by rfl) ?y205 (by assumption) ?r205
      case y205 => intro w hSw; (try dsimp only at hSw); go_simp <;> with_reducible rfl
      try simp only [Act.put, List.setIfInBounds_toArray, List.set_cons_zero, List.set_cons_succ]
      refine take_wanted 6 33 (v := ?v206) rfl rfl (by kernel_rfl) (by kernel_rfl) (by kernel_rfl) (fun _ _ _ h => h) (by rfl) ?y206 (by assumption) ?r206
      case y206 => intro w hSw; (try dsimp only at hSw); go_simp <;> with_reducible rfl
      try simp only [Act.put, List.setIfInBounds_toArray, List.set_cons_zero, List.set_cons_succ]
      refine take_wanted 7 34 (v := ?v207) rfl rfl (by kernel_rfl) (by kernel_rfl) (by kernel_rfl) (fun _ _ _ h => h) (by rfl) ?y207 (by assumption) ?r207
      case y207 => intro w hSw; (try dsimp only at hSw); go_simp <;> with_reducible rfl
      try simp only [Act.put, List.setIfInBounds_toArray, List.set_cons_zero, List.set_cons_succ]
      refine take_wanted 8 6 (v := ?v208) rfl rfl (by kernel_rfl) (by kernel_rfl) (by kernel_rfl) (fun _ _ _ h => h) (by rfl) ?y208 (by assumption) ?r208
      case y208 => intro w hSw; (try dsimp only at hSw); go_simp <;> with_reducible rfl
      try simp only [Act.put, List.setIfInBounds_toArray, List.set_cons_zero, List.set_cons_succ]
      refine take_wanted 9 7 (v := ?v209) rfl rfl (by kernel_rfl) (by kernel_rfl) (by kernel_rfl) (fun _ _ _ h => h) (by rfl) ?y209 (by assumption) ?r209
      case y209 => intro w hSw; (try dsimp only at hSw); go_simp <;> with_reducible rfl
      try simp only [Act.put, List.setIfInBounds_toArray, List.set_cons_zero, List.set_cons_succ]
      refine wpAnyH_done (by kernel_rfl) ?_ _
      clear Rp
      clear Rq
      clear J1
      go_wp2_with fail
      refine (to_ItemsO _ xs w5 (Ri.out.more (show w.heap.size ≤ w5.heap.size by omega)) hs1).mono ?_
      rintro e w6 ⟨vx, bsx, rfl, ho, hnx, hrg, hb6⟩
      have hz8 := hb6.size
      replace hB := bl_trans hB hb6
      clear e06_0 e06_1 e06_2 e06_3 e06_4 e06_5 e06_6 e06_7 e06_8 e06_9 e06_10 e06_f
      replace HE0 := Lib.hid ((hb6.block (w.heap.size) (show w.heap.size < w5.heap.size by omega)).trans HE0.out)
      replace Ri := Lib.hid (Ri.out.below (hb6.mono (show w.heap.size ≤ w5.heap.size by omega)))
      replace Re := Lib.hid (Re.out.below (hb6.mono (show w.heap.size ≤ w5.heap.size by omega)))
      replace Rw := Lib.hid (Rw.out.below (hb6.mono (show w5.heap.size ≤ w5.heap.size by omega)))
      have e07_0 : w6.cell? ⟨w.heap.size, 0, none⟩ = some (.int .i64 en.kd) := cell_of_row _ _ 0 _ _ (0, 0) HE0.out
      have e07_1 : w6.cell? ⟨w.heap.size, 1, none⟩ = some (.string en.nm) := cell_of_row _ _ 1 _ _ (0, 0) HE0.out
      have e07_2 : w6.cell? ⟨w.heap.size, 2, none⟩ = some (.string en.tn) := cell_of_row _ _ 2 _ _ (0, 0) HE0.out
      have e07_3 : w6.cell? ⟨w.heap.size, 3, none⟩ = some (.string en.it.nm) := cell_of_row _ _ 3 _ _ (0, 0) HE0.out
      have e07_4 : w6.cell? ⟨w.heap.size, 4, none⟩ = some (.int .i64 en.it.n) := cell_of_row _ _ 4 _ _ (0, 0) HE0.out
      have e07_5 : w6.cell? ⟨w.heap.size, 5, none⟩ = some (.slice Aa ma ca) := cell_of_row _ _ 5 _ _ (0, 0) HE0.out
      have e07_6 : w6.cell? ⟨w.heap.size, 6, none⟩ = some (.int .i64 en.it.cl) := cell_of_row _ _ 6 _ _ (0, 0) HE0.out
      have e07_7 : w6.cell? ⟨w.heap.size, 7, none⟩ = some (.int .i64 en.it.lb) := cell_of_row _ _ 7 _ _ (0, 0) HE0.out
      have e07_8 : w6.cell? ⟨w.heap.size, 8, none⟩ = some (.slice Af mf cf) := cell_of_row _ _ 8 _ _ (0, 0) HE0.out
      have e07_9 : w6.cell? ⟨w.heap.size, 9, none⟩ = some (.slice As ms cs) := cell_of_row _ _ 9 _ _ (0, 0) HE0.out
      have e07_10 : w6.cell? ⟨w.heap.size, 10, none⟩ = some (.slice Ar mr cr) := cell_of_row _ _ 10 _ _ (0, 0) HE0.out
      have e07_f : ∀ i, w6.frozen? ⟨w.heap.size, i, none⟩ = false := fun i => frozen_of_row _ _ i _ _ HE0.out
      obtain ⟨Ax0, mx0, cx0, rfl⟩ := ho.isSlice
      have Ox := Lib.hid ho; clear ho
      have Gx := Lib.hid hrg; clear hrg
      go_wp2_with fail
      refine (to_Entry en _ _ _ _ w6 (Re.out.more (show w.heap.size ≤ w6.heap.size by omega)) hs2).mono ?_
      rintro e w7 ⟨vay, vfy, vsy, vry, bsy, rfl, ho, hny, hrg, hbw7⟩
      have hz9 := hbw7.size
      replace hB := bl_trans hB hbw7
      clear e07_0 e07_1 e07_2 e07_3 e07_4 e07_5 e07_6 e07_7 e07_8 e07_9 e07_10 e07_f
      replace HE0 := Lib.hid ((hbw7.block (w.heap.size) (show w.heap.size < w6.heap.size by omega)).trans HE0.out)
      replace Ri := Lib.hid (Ri.out.below (hbw7.mono (show w.heap.size ≤ w6.heap.size by omega)))
      replace Re := Lib.hid (Re.out.below (hbw7.mono (show w.heap.size ≤ w6.heap.size by omega)))
      replace Rw := Lib.hid (Rw.out.below (hbw7.mono (show w5.heap.size ≤ w6.heap.size by omega)))
      replace Ox := Lib.hid (Ox.out.keep fun b hb' => hbw7.block b (by have := Gx.out b hb'; omega))
      have e08_0 : w7.cell? ⟨w.heap.size, 0, none⟩ = some (.int .i64 en.kd) := cell_of_row _ _ 0 _ _ (0, 0) HE0.out
      have e08_1 : w7.cell? ⟨w.heap.size, 1, none⟩ = some (.string en.nm) := cell_of_row _ _ 1 _ _ (0, 0) HE0.out
      have e08_2 : w7.cell? ⟨w.heap.size, 2, none⟩ = some (.string en.tn) := cell_of_row _ _ 2 _ _ (0, 0) HE0.out
      have e08_3 : w7.cell? ⟨w.heap.size, 3, none⟩ = some (.string en.it.nm) := cell_of_row _ _ 3 _ _ (0, 0) HE0.out
      have e08_4 : w7.cell? ⟨w.heap.size, 4, none⟩ = some (.int .i64 en.it.n) := cell_of_row _ _ 4 _ _ (0, 0) HE0.out
      have e08_5 : w7.cell? ⟨w.heap.size, 5, none⟩ = some (.slice Aa ma ca) := cell_of_row _ _ 5 _ _ (0, 0) HE0.out
      have e08_6 : w7.cell? ⟨w.heap.size, 6, none⟩ = some (.int .i64 en.it.cl) := cell_of_row _ _ 6 _ _ (0, 0) HE0.out
      have e08_7 : w7.cell? ⟨w.heap.size, 7, none⟩ = some (.int .i64 en.it.lb) := cell_of_row _ _ 7 _ _ (0, 0) HE0.out
      have e08_8 : w7.cell? ⟨w.heap.size, 8, none⟩ = some (.slice Af mf cf) := cell_of_row _ _ 8 _ _ (0, 0) HE0.out
      have e08_9 : w7.cell? ⟨w.heap.size, 9, none⟩ = some (.slice As ms cs) := cell_of_row _ _ 9 _ _ (0, 0) HE0.out
      have e08_10 : w7.cell? ⟨w.heap.size, 10, none⟩ = some (.slice Ar mr cr) := cell_of_row _ _ 10 _ _ (0, 0) HE0.out
      have e08_f : ∀ i, w7.frozen? ⟨w.heap.size, i, none⟩ = false := fun i => frozen_of_row _ _ i _ _ HE0.out
      obtain ⟨ba, bf, bz, br, oa, of, oz, or, hbs⟩ := id ho
      obtain ⟨Aay, may, cay, rfl⟩ := oa.isSlice
      obtain ⟨Afy, mfy, cfy, rfl⟩ := of.1.isSlice
      obtain ⟨Asy, msy, csy, rfl⟩ := oz.1.isSlice
      obtain ⟨Ary, mry, cry, rfl⟩ := or.isSlice
      clear oa of oz or hbs
      have Oy := Lib.hid ho; clear ho
      have Gy := Lib.hid hrg; clear hrg
      have hba10 := bl_alloc (Below.refl w7.heap.size w7) (.cells #[.int .i64 en.kd, .string en.nm, .string en.tn, .string en.it.nm, .int .i64 en.it.n, .slice Aay may cay, .int .i64 en.it.cl, .int .i64 en.it.lb, .slice Afy mfy cfy, .slice Asy msy csy, .slice Ary mry cry] 44)
      have HY0 := Lib.hid (heap_alloc_new w7 (.cells #[.int .i64 en.kd, .string en.nm, .string en.tn, .string en.it.nm, .int .i64 en.it.n, .slice Aay may cay, .int .i64 en.it.cl, .int .i64 en.it.lb, .slice Afy mfy cfy, .slice Asy msy csy, .slice Ary mry cry] 44))
      have hs10 : w7.heap.size < (w7.alloc (.cells #[.int .i64 en.kd, .string en.nm, .string en.tn, .string en.it.nm, .int .i64 en.it.n, .slice Aay may cay, .int .i64 en.it.cl, .int .i64 en.it.lb, .slice Afy mfy cfy, .slice Asy msy csy, .slice Ary mry cry] 44)).heap.size := by simp
      have HS10 := Lib.hid hs10; clear hs10; have hs10 := HS10.out
      have hz11 := hba10.size
      replace hB := bl_trans hB hba10
      clear e08_0 e08_1 e08_2 e08_3 e08_4 e08_5 e08_6 e08_7 e08_8 e08_9 e08_10 e08_f
      replace HE0 := Lib.hid ((hba10.block (w.heap.size) (show w.heap.size < w7.heap.size by omega)).trans HE0.out)
      replace Ri := Lib.hid (Ri.out.below (hba10.mono (show w.heap.size ≤ w7.heap.size by omega)))
      replace Re := Lib.hid (Re.out.below (hba10.mono (show w.heap.size ≤ w7.heap.size by omega)))
      replace Rw := Lib.hid (Rw.out.below (hba10.mono (show w5.heap.size ≤ w7.heap.size by omega)))
      replace Ox := Lib.hid (Ox.out.keep fun b hb' => hba10.block b (by have := Gx.out b hb'; omega))
      replace Oy := Lib.hid (Oy.out.keep fun b hb' => hba10.block b (by have := Gy.out b hb'; omega))
      have e09_0 : (w7.alloc (.cells #[.int .i64 en.kd, .string en.nm, .string en.tn, .string en.it.nm, .int .i64 en.it.n, .slice Aay may cay, .int .i64 en.it.cl, .int .i64 en.it.lb, .slice Afy mfy cfy, .slice Asy msy csy, .slice Ary mry cry] 44)).cell? ⟨w.heap.size, 0, none⟩ = some (.int .i64 en.kd) := cell_of_row _ _ 0 _ _ (0, 0) HE0.out
      have e09_1 : (w7.alloc (.cells #[.int .i64 en.kd, .string en.nm, .string en.tn, .string en.it.nm, .int .i64 en.it.n, .slice Aay may cay, .int .i64 en.it.cl, .int .i64 en.it.lb, .slice Afy mfy cfy, .slice Asy msy csy, .slice Ary mry cry] 44)).cell? ⟨w.heap.size, 1, none⟩ = some (.string en.nm) := cell_of_row _ _ 1 _ _ (0, 0) HE0.out
      have e09_2 : (w7.alloc (.cells #[.int .i64 en.kd, .string en.nm, .string en.tn, .string en.it.nm, .int .i64 en.it.n, .slice Aay may cay, .int .i64 en.it.cl, .int .i64 en.it.lb, .slice Afy mfy cfy, .slice Asy msy csy, .slice Ary mry cry] 44)).cell? ⟨w.heap.size, 2, none⟩ = some (.string en.tn) := cell_of_row _ _ 2 _ _ (0, 0) HE0.out
      have e09_3 : (w7.alloc (.cells #[.int .i64 en.kd, .string en.nm, .string en.tn, .string en.it.nm, .int .i64 en.it.n, .slice Aay may cay, .int .i64 en.it.cl, .int .i64 en.it.lb, .slice Afy mfy cfy, .slice Asy msy csy, .slice Ary mry cry] 44)).cell? ⟨w.heap.size, 3, none⟩ = some (.string en.it.nm) := cell_of_row _ _ 3 _ _ (0, 0) HE0.out
      have e09_4 : (w7.alloc (.cells #[.int .i64 en.kd, .string en.nm, .string en.tn, .string en.it.nm, .int .i64 en.it.n, .slice Aay may cay, .int .i64 en.it.cl, .int .i64 en.it.lb, .slice Afy mfy cfy, .slice Asy msy csy, .slice Ary mry cry] 44)).cell? ⟨w.heap.size, 4, none⟩ = some (.int .i64 en.it.n) := cell_of_row _ _ 4 _ _ (0, 0) HE0.out
      have e09_5 : (w7.alloc (.cells #[.int .i64 en.kd, .string en.nm, .string en.tn, .string en.it.nm, .int .i64 en.it.n, .slice Aay may cay, .int .i64 en.it.cl, .int .i64 en.it.lb, .slice Afy mfy cfy, .slice Asy msy csy, .slice Ary mry cry] 44)).cell? ⟨w.heap.size, 5, none⟩ = some (.slice Aa ma ca) := cell_of_row _ _ 5 _ _ (0, 0) HE0.out
      have e09_6 : (w7.alloc (.cells #[.int .i64 en.kd, .string en.nm, .string en.tn, .string en.it.nm, .int .i64 en.it.n, .slice Aay may cay, .int .i64 en.it.cl, .int .i64 en.it.lb, .slice Afy mfy cfy, .slice Asy msy csy, .slice Ary mry cry] 44)).cell? ⟨w.heap.size, 6, none⟩ = some (.int .i64 en.it.cl) := cell_of_row _ _ 6 _ _ (0, 0) HE0.out
      have e09_7 : (w7.alloc (.cells #[.int .i64 en.kd, .string en.nm, .string en.tn, .string en.it.nm, .int .i64 en.it.n, .slice Aay may cay, .int .i64 en.it.cl, .int .i64 en.it.lb, .slice Afy mfy cfy, .slice Asy msy csy, .slice Ary mry cry] 44)).cell? ⟨w.heap.size, 7, none⟩ = some (.int .i64 en.it.lb) := cell_of_row _ _ 7 _ _ (0, 0) HE0.out
      have e09_8 : (w7.alloc (.cells #[.int .i64 en.kd, .string en.nm, .string en.tn, .string en.it.nm, .int .i64 en.it.n, .slice Aay may cay, .int .i64 en.it.cl, .int .i64 en.it.lb, .slice Afy mfy cfy, .slice Asy msy csy, .slice Ary mry cry] 44)).cell? ⟨w.heap.size, 8, none⟩ = some (.slice Af mf cf) := cell_of_row _ _ 8 _ _ (0, 0) HE0.out
      have e09_9 : (w7.alloc (.cells #[.int .i64 en.kd, .string en.nm, .string en.tn, .string en.it.nm, .int .i64 en.it.n, .slice Aay may cay, .int .i64 en.it.cl, .int .i64 en.it.lb, .slice Afy mfy cfy, .slice Asy msy csy, .slice Ary mry cry] 44)).cell? ⟨w.heap.size, 9, none⟩ = some (.slice As ms cs) := cell_of_row _ _ 9 _ _ (0, 0) HE0.out
      have e09_10 : (w7.alloc (.cells #[.int .i64 en.kd, .string en.nm, .string en.tn, .string en.it.nm, .int .i64 en.it.n, .slice Aay may cay, .int .i64 en.it.cl, .int .i64 en.it.lb, .slice Afy mfy cfy, .slice Asy msy csy, .slice Ary mry cry] 44)).cell? ⟨w.heap.size, 10, none⟩ = some (.slice Ar mr cr) := cell_of_row _ _ 10 _ _ (0, 0) HE0.out
      have e09_f : ∀ i, (w7.alloc (.cells #[.int .i64 en.kd, .string en.nm, .string en.tn, .string en.it.nm, .int .i64 en.it.n, .slice Aay may cay, .int .i64 en.it.cl, .int .i64 en.it.lb, .slice Afy mfy cfy, .slice Asy msy csy, .slice Ary mry cry] 44)).frozen? ⟨w.heap.size, i, none⟩ = false := fun i => frozen_of_row _ _ i _ _ HE0.out
      have y01_0 : (w7.alloc (.cells #[.int .i64 en.kd, .string en.nm, .string en.tn, .string en.it.nm, .int .i64 en.it.n, .slice Aay may cay, .int .i64 en.it.cl, .int .i64 en.it.lb, .slice Afy mfy cfy, .slice Asy msy csy, .slice Ary mry cry] 44)).cell? ⟨w7.heap.size, 0, none⟩ = some (.int .i64 en.kd) := cell_of_row _ _ 0 _ _ (0, 0) HY0.out
      have y01_1 : (w7.alloc (.cells #[.int .i64 en.kd, .string en.nm, .string en.tn, .string en.it.nm, .int .i64 en.it.n, .slice Aay may cay, .int .i64 en.it.cl, .int .i64 en.it.lb, .slice Afy mfy cfy, .slice Asy msy csy, .slice Ary mry cry] 44)).cell? ⟨w7.heap.size, 1, none⟩ = some (.string en.nm) := cell_of_row _ _ 1 _ _ (0, 0) HY0.out
      have y01_2 : (w7.alloc (.cells #[.int .i64 en.kd, .string en.nm, .string en.tn, .string en.it.nm, .int .i64 en.it.n, .slice Aay may cay, .int .i64 en.it.cl, .int .i64 en.it.lb, .slice Afy mfy cfy, .slice Asy msy csy, .slice Ary mry cry] 44)).cell? ⟨w7.heap.size, 2, none⟩ = some (.string en.tn) := cell_of_row _ _ 2 _ _ (0, 0) HY0.out
      have y01_3 : (w7.alloc (.cells #[.int .i64 en.kd, .string en.nm, .string en.tn, .string en.it.nm, .int .i64 en.it.n, .slice Aay may cay, .int .i64 en.it.cl, .int .i64 en.it.lb, .slice Afy mfy cfy, .slice Asy msy csy, .slice Ary mry cry] 44)).cell? ⟨w7.heap.size, 3, none⟩ = some (.string en.it.nm) := cell_of_row _ _ 3 _ _ (0, 0) HY0.out
      have y01_4 : (w7.alloc (.cells #[.int .i64 en.kd, .string en.nm, .string en.tn, .string en.it.nm, .int .i64 en.it.n, .slice Aay may cay, .int .i64 en.it.cl, .int .i64 en.it.lb, .slice Afy mfy cfy, .slice Asy msy csy, .slice Ary mry cry] 44)).cell? ⟨w7.heap.size, 4, none⟩ = some (.int .i64 en.it.n) := cell_of_row _ _ 4 _ _ (0, 0) HY0.out
      have y01_5 : (w7.alloc (.cells #[.int .i64 en.kd, .string en.nm, .string en.tn, .string en.it.nm, .int .i64 en.it.n, .slice Aay may cay, .int .i64 en.it.cl, .int .i64 en.it.lb, .slice Afy mfy cfy, .slice Asy msy csy, .slice Ary mry cry] 44)).cell? ⟨w7.heap.size, 5, none⟩ = some (.slice Aay may cay) := cell_of_row _ _ 5 _ _ (0, 0) HY0.out
      have y01_6 : (w7.alloc (.cells #[.int .i64 en.kd, .string en.nm, .string en.tn, .string en.it.nm, .int .i64 en.it.n, .slice Aay may cay, .int .i64 en.it.cl, .int .i64 en.it.lb, .slice Afy mfy cfy, .slice Asy msy csy, .slice Ary mry cry] 44)).cell? ⟨w7.heap.size, 6, none⟩ = some (.int .i64 en.it.cl) := cell_of_row _ _ 6 _ _ (0, 0) HY0.out
      have y01_7 : (w7.alloc (.cells #[.int .i64 en.kd, .string en.nm, .string en.tn, .string en.it.nm, .int .i64 en.it.n, .slice Aay may cay, .int .i64 en.it.cl, .int .i64 en.it.lb, .slice Afy mfy cfy, .slice Asy msy csy, .slice Ary mry cry] 44)).cell? ⟨w7.heap.size, 7, none⟩ = some (.int .i64 en.it.lb) := cell_of_row _ _ 7 _ _ (0, 0) HY0.out
      have y01_8 : (w7.alloc (.cells #[.int .i64 en.kd, .string en.nm, .string en.tn, .string en.it.nm, .int .i64 en.it.n, .slice Aay may cay, .int .i64 en.it.cl, .int .i64 en.it.lb, .slice Afy mfy cfy, .slice Asy msy csy, .slice Ary mry cry] 44)).cell? ⟨w7.heap.size, 8, none⟩ = some (.slice Afy mfy cfy) := cell_of_row _ _ 8 _ _ (0, 0) HY0.out
      have y01_9 : (w7.alloc (.cells #[.int .i64 en.kd, .string en.nm, .string en.tn, .string en.it.nm, .int .i64 en.it.n, .slice Aay may cay, .int .i64 en.it.cl, .int .i64 en.it.lb, .slice Afy mfy cfy, .slice Asy msy csy, .slice Ary mry cry] 44)).cell? ⟨w7.heap.size, 9, none⟩ = some (.slice Asy msy csy) := cell_of_row _ _ 9 _ _ (0, 0) HY0.out
      have y01_10 : (w7.alloc (.cells #[.int .i64 en.kd, .string en.nm, .string en.tn, .string en.it.nm, .int .i64 en.it.n, .slice Aay may cay, .int .i64 en.it.cl, .int .i64 en.it.lb, .slice Afy mfy cfy, .slice Asy msy csy, .slice Ary mry cry] 44)).cell? ⟨w7.heap.size, 10, none⟩ = some (.slice Ary mry cry) := cell_of_row _ _ 10 _ _ (0, 0) HY0.out
      have y01_f : ∀ i, (w7.alloc (.cells #[.int .i64 en.kd, .string en.nm, .string en.tn, .string en.it.nm, .int .i64 en.it.n, .slice Aay may cay, .int .i64 en.it.cl, .int .i64 en.it.lb, .slice Afy mfy cfy, .slice Asy msy csy, .slice Ary mry cry] 44)).frozen? ⟨w7.heap.size, i, none⟩ = false := fun i => frozen_of_row _ _ i _ _ HY0.out
      go_wp2_with fail
      generalize w7.alloc (.cells #[.int .i64 en.kd, .string en.nm, .string en.tn, .string en.it.nm, .int .i64 en.it.n, .slice Aay may cay, .int .i64 en.it.cl, .int .i64 en.it.lb, .slice Afy mfy cfy, .slice Asy msy csy, .slice Ary mry cry] 44) = w8 at *
      refine (J2.out _ _ _ _ _ w8 (Ox.out.reads (B := w8.heap.size) (fun b hb' => by have := Gx.out b hb'; omega)) (Oy.out.reads (B := w8.heap.size) (fun b hb' => by have := Gy.out b hb'; omega))).mono ?_
      rintro e w9 ⟨vg, bsg, rfl, ho, hng, hrg, hb9⟩
      have hz12 := hb9.size
      replace hB := bl_trans hB hb9
      clear e09_0 e09_1 e09_2 e09_3 e09_4 e09_5 e09_6 e09_7 e09_8 e09_9 e09_10 e09_f
      replace HE0 := Lib.hid ((hb9.block (w.heap.size) (show w.heap.size < w8.heap.size by omega)).trans HE0.out)
      clear y01_0 y01_1 y01_2 y01_3 y01_4 y01_5 y01_6 y01_7 y01_8 y01_9 y01_10 y01_f
      replace HY0 := Lib.hid ((hb9.block (w7.heap.size) (show w7.heap.size < w8.heap.size by omega)).trans HY0.out)
      replace Ri := Lib.hid (Ri.out.below (hb9.mono (show w.heap.size ≤ w8.heap.size by omega)))
      replace Re := Lib.hid (Re.out.below (hb9.mono (show w.heap.size ≤ w8.heap.size by omega)))
      replace Rw := Lib.hid (Rw.out.below (hb9.mono (show w5.heap.size ≤ w8.heap.size by omega)))
      replace Ox := Lib.hid (Ox.out.keep fun b hb' => hb9.block b (by have := Gx.out b hb'; omega))
      replace Oy := Lib.hid (Oy.out.keep fun b hb' => hb9.block b (by have := Gy.out b hb'; omega))
      have e010_0 : w9.cell? ⟨w.heap.size, 0, none⟩ = some (.int .i64 en.kd) := cell_of_row _ _ 0 _ _ (0, 0) HE0.out
      have e010_1 : w9.cell? ⟨w.heap.size, 1, none⟩ = some (.string en.nm) := cell_of_row _ _ 1 _ _ (0, 0) HE0.out
      have e010_2 : w9.cell? ⟨w.heap.size, 2, none⟩ = some (.string en.tn) := cell_of_row _ _ 2 _ _ (0, 0) HE0.out
      have e010_3 : w9.cell? ⟨w.heap.size, 3, none⟩ = some (.string en.it.nm) := cell_of_row _ _ 3 _ _ (0, 0) HE0.out
      have e010_4 : w9.cell? ⟨w.heap.size, 4, none⟩ = some (.int .i64 en.it.n) := cell_of_row _ _ 4 _ _ (0, 0) HE0.out
      have e010_5 : w9.cell? ⟨w.heap.size, 5, none⟩ = some (.slice Aa ma ca) := cell_of_row _ _ 5 _ _ (0, 0) HE0.out
      have e010_6 : w9.cell? ⟨w.heap.size, 6, none⟩ = some (.int .i64 en.it.cl) := cell_of_row _ _ 6 _ _ (0, 0) HE0.out
      have e010_7 : w9.cell? ⟨w.heap.size, 7, none⟩ = some (.int .i64 en.it.lb) := cell_of_row _ _ 7 _ _ (0, 0) HE0.out
      have e010_8 : w9.cell? ⟨w.heap.size, 8, none⟩ = some (.slice Af mf cf) := cell_of_row _ _ 8 _ _ (0, 0) HE0.out
      have e010_9 : w9.cell? ⟨w.heap.size, 9, none⟩ = some (.slice As ms cs) := cell_of_row _ _ 9 _ _ (0, 0) HE0.out
      have e010_10 : w9.cell? ⟨w.heap.size, 10, none⟩ = some (.slice Ar mr cr) := cell_of_row _ _ 10 _ _ (0, 0) HE0.out
      have e010_f : ∀ i, w9.frozen? ⟨w.heap.size, i, none⟩ = false := fun i => frozen_of_row _ _ i _ _ HE0.out
      have y02_0 : w9.cell? ⟨w7.heap.size, 0, none⟩ = some (.int .i64 en.kd) := cell_of_row _ _ 0 _ _ (0, 0) HY0.out
      have y02_1 : w9.cell? ⟨w7.heap.size, 1, none⟩ = some (.string en.nm) := cell_of_row _ _ 1 _ _ (0, 0) HY0.out
      have y02_2 : w9.cell? ⟨w7.heap.size, 2, none⟩ = some (.string en.tn) := cell_of_row _ _ 2 _ _ (0, 0) HY0.out
      have y02_3 : w9.cell? ⟨w7.heap.size, 3, none⟩ = some (.string en.it.nm) := cell_of_row _ _ 3 _ _ (0, 0) HY0.out
      have y02_4 : w9.cell? ⟨w7.heap.size, 4, none⟩ = some (.int .i64 en.it.n) := cell_of_row _ _ 4 _ _ (0, 0) HY0.out
      have y02_5 : w9.cell? ⟨w7.heap.size, 5, none⟩ = some (.slice Aay may cay) := cell_of_row _ _ 5 _ _ (0, 0) HY0.out
      have y02_6 : w9.cell? ⟨w7.heap.size, 6, none⟩ = some (.int .i64 en.it.cl) := cell_of_row _ _ 6 _ _ (0, 0) HY0.out
      have y02_7 : w9.cell? ⟨w7.heap.size, 7, none⟩ = some (.int .i64 en.it.lb) := cell_of_row _ _ 7 _ _ (0, 0) HY0.out
      have y02_8 : w9.cell? ⟨w7.heap.size, 8, none⟩ = some (.slice Afy mfy cfy) := cell_of_row _ _ 8 _ _ (0, 0) HY0.out
      have y02_9 : w9.cell? ⟨w7.heap.size, 9, none⟩ = some (.slice Asy msy csy) := cell_of_row _ _ 9 _ _ (0, 0) HY0.out
      have y02_10 : w9.cell? ⟨w7.heap.size, 10, none⟩ = some (.slice Ary mry cry) := cell_of_row _ _ 10 _ _ (0, 0) HY0.out
      have y02_f : ∀ i, w9.frozen? ⟨w7.heap.size, i, none⟩ = false := fun i => frozen_of_row _ _ i _ _ HY0.out
      obtain ⟨Ag, mg, cg, rfl⟩ := ho.isSlice
      have Og := Lib.hid ho; clear ho
      have Gg := Lib.hid hrg; clear hrg
      go_wp2_with fail
      refine (eq_Items _ _ X w9 (Og.out.reads (B := w9.heap.size) (fun b hb' => by have := Gg.out b hb'; omega)) (Rw.out.more (show w5.heap.size ≤ w9.heap.size by omega))).mono ?_
      rintro e w10 ⟨rfl, hb10⟩
      have hz13 := hb10.size
      replace hB := bl_trans hB hb10
      clear e010_0 e010_1 e010_2 e010_3 e010_4 e010_5 e010_6 e010_7 e010_8 e010_9 e010_10 e010_f
      replace HE0 := Lib.hid ((hb10.block (w.heap.size) (show w.heap.size < w9.heap.size by omega)).trans HE0.out)
      clear y02_0 y02_1 y02_2 y02_3 y02_4 y02_5 y02_6 y02_7 y02_8 y02_9 y02_10 y02_f
      replace HY0 := Lib.hid ((hb10.block (w7.heap.size) (show w7.heap.size < w9.heap.size by omega)).trans HY0.out)
      replace Ri := Lib.hid (Ri.out.below (hb10.mono (show w.heap.size ≤ w9.heap.size by omega)))
      replace Re := Lib.hid (Re.out.below (hb10.mono (show w.heap.size ≤ w9.heap.size by omega)))
      replace Rw := Lib.hid (Rw.out.below (hb10.mono (show w5.heap.size ≤ w9.heap.size by omega)))
      replace Ox := Lib.hid (Ox.out.keep fun b hb' => hb10.block b (by have := Gx.out b hb'; omega))
      replace Oy := Lib.hid (Oy.out.keep fun b hb' => hb10.block b (by have := Gy.out b hb'; omega))
      replace Og := Lib.hid (Og.out.keep fun b hb' => hb10.block b (by have := Gg.out b hb'; omega))
      have e011_0 : w10.cell? ⟨w.heap.size, 0, none⟩ = some (.int .i64 en.kd) := cell_of_row _ _ 0 _ _ (0, 0) HE0.out
      have e011_1 : w10.cell? ⟨w.heap.size, 1, none⟩ = some (.string en.nm) := cell_of_row _ _ 1 _ _ (0, 0) HE0.out
      have e011_2 : w10.cell? ⟨w.heap.size, 2, none⟩ = some (.string en.tn) := cell_of_row _ _ 2 _ _ (0, 0) HE0.out
      have e011_3 : w10.cell? ⟨w.heap.size, 3, none⟩ = some (.string en.it.nm) := cell_of_row _ _ 3 _ _ (0, 0) HE0.out
      have e011_4 : w10.cell? ⟨w.heap.size, 4, none⟩ = some (.int .i64 en.it.n) := cell_of_row _ _ 4 _ _ (0, 0) HE0.out
      have e011_5 : w10.cell? ⟨w.heap.size, 5, none⟩ = some (.slice Aa ma ca) := cell_of_row _ _ 5 _ _ (0, 0) HE0.out
      have e011_6 : w10.cell? ⟨w.heap.size, 6, none⟩ = some (.int .i64 en.it.cl) := cell_of_row _ _ 6 _ _ (0, 0) HE0.out
      have e011_7 : w10.cell? ⟨w.heap.size, 7, none⟩ = some (.int .i64 en.it.lb) := cell_of_row _ _ 7 _ _ (0, 0) HE0.out
      have e011_8 : w10.cell? ⟨w.heap.size, 8, none⟩ = some (.slice Af mf cf) := cell_of_row _ _ 8 _ _ (0, 0) HE0.out
      have e011_9 : w10.cell? ⟨w.heap.size, 9, none⟩ = some (.slice As ms cs) := cell_of_row _ _ 9 _ _ (0, 0) HE0.out
      have e011_10 : w10.cell? ⟨w.heap.size, 10, none⟩ = some (.slice Ar mr cr) := cell_of_row _ _ 10 _ _ (0, 0) HE0.out
      have e011_f : ∀ i, w10.frozen? ⟨w.heap.size, i, none⟩ = false := fun i => frozen_of_row _ _ i _ _ HE0.out
      have y03_0 : w10.cell? ⟨w7.heap.size, 0, none⟩ = some (.int .i64 en.kd) := cell_of_row _ _ 0 _ _ (0, 0) HY0.out
      have y03_1 : w10.cell? ⟨w7.heap.size, 1, none⟩ = some (.string en.nm) := cell_of_row _ _ 1 _ _ (0, 0) HY0.out
      have y03_2 : w10.cell? ⟨w7.heap.size, 2, none⟩ = some (.string en.tn) := cell_of_row _ _ 2 _ _ (0, 0) HY0.out
      have y03_3 : w10.cell? ⟨w7.heap.size, 3, none⟩ = some (.string en.it.nm) := cell_of_row _ _ 3 _ _ (0, 0) HY0.out
      have y03_4 : w10.cell? ⟨w7.heap.size, 4, none⟩ = some (.int .i64 en.it.n) := cell_of_row _ _ 4 _ _ (0, 0) HY0.out
      have y03_5 : w10.cell? ⟨w7.heap.size, 5, none⟩ = some (.slice Aay may cay) := cell_of_row _ _ 5 _ _ (0, 0) HY0.out
      have y03_6 : w10.cell? ⟨w7.heap.size, 6, none⟩ = some (.int .i64 en.it.cl) := cell_of_row _ _ 6 _ _ (0, 0) HY0.out
      have y03_7 : w10.cell? ⟨w7.heap.size, 7, none⟩ = some (.int .i64 en.it.lb) := cell_of_row _ _ 7 _ _ (0, 0) HY0.out
      have y03_8 : w10.cell? ⟨w7.heap.size, 8, none⟩ = some (.slice Afy mfy cfy) := cell_of_row _ _ 8 _ _ (0, 0) HY0.out
      have y03_9 : w10.cell? ⟨w7.heap.size, 9, none⟩ = some (.slice Asy msy csy) := cell_of_row _ _ 9 _ _ (0, 0) HY0.out
      have y03_10 : w10.cell? ⟨w7.heap.size, 10, none⟩ = some (.slice Ary mry cry) := cell_of_row _ _ 10 _ _ (0, 0) HY0.out
      have y03_f : ∀ i, w10.frozen? ⟨w7.heap.size, i, none⟩ = false := fun i => frozen_of_row _ _ i _ _ HY0.out
      go_wp2_with fail
      refine (to_Items _ xs w10 (Ri.out.more (show w.heap.size ≤ w10.heap.size by omega)) hs1).mono ?_
      rintro e w11 ⟨vp, rfl, hr, hbw11⟩
      have hz14 := hbw11.size
      replace hB := bl_trans hB hbw11
      clear e011_0 e011_1 e011_2 e011_3 e011_4 e011_5 e011_6 e011_7 e011_8 e011_9 e011_10 e011_f
      replace HE0 := Lib.hid ((hbw11.block (w.heap.size) (show w.heap.size < w10.heap.size by omega)).trans HE0.out)
      clear y03_0 y03_1 y03_2 y03_3 y03_4 y03_5 y03_6 y03_7 y03_8 y03_9 y03_10 y03_f
      replace HY0 := Lib.hid ((hbw11.block (w7.heap.size) (show w7.heap.size < w10.heap.size by omega)).trans HY0.out)
      replace Ri := Lib.hid (Ri.out.below (hbw11.mono (show w.heap.size ≤ w10.heap.size by omega)))
      replace Re := Lib.hid (Re.out.below (hbw11.mono (show w.heap.size ≤ w10.heap.size by omega)))
      replace Rw := Lib.hid (Rw.out.below (hbw11.mono (show w5.heap.size ≤ w10.heap.size by omega)))
      replace Ox := Lib.hid (Ox.out.keep fun b hb' => hbw11.block b (by have := Gx.out b hb'; omega))
      replace Oy := Lib.hid (Oy.out.keep fun b hb' => hbw11.block b (by have := Gy.out b hb'; omega))
      replace Og := Lib.hid (Og.out.keep fun b hb' => hbw11.block b (by have := Gg.out b hb'; omega))
      have e012_0 : w11.cell? ⟨w.heap.size, 0, none⟩ = some (.int .i64 en.kd) := cell_of_row _ _ 0 _ _ (0, 0) HE0.out
      have e012_1 : w11.cell? ⟨w.heap.size, 1, none⟩ = some (.string en.nm) := cell_of_row _ _ 1 _ _ (0, 0) HE0.out
      have e012_2 : w11.cell? ⟨w.heap.size, 2, none⟩ = some (.string en.tn) := cell_of_row _ _ 2 _ _ (0, 0) HE0.out
      have e012_3 : w11.cell? ⟨w.heap.size, 3, none⟩ = some (.string en.it.nm) := cell_of_row _ _ 3 _ _ (0, 0) HE0.out
      have e012_4 : w11.cell? ⟨w.heap.size, 4, none⟩ = some (.int .i64 en.it.n) := cell_of_row _ _ 4 _ _ (0, 0) HE0.out
      have e012_5 : w11.cell? ⟨w.heap.size, 5, none⟩ = some (.slice Aa ma ca) := cell_of_row _ _ 5 _ _ (0, 0) HE0.out
      have e012_6 : w11.cell? ⟨w.heap.size, 6, none⟩ = some (.int .i64 en.it.cl) := cell_of_row _ _ 6 _ _ (0, 0) HE0.out
      have e012_7 : w11.cell? ⟨w.heap.size, 7, none⟩ = some (.int .i64 en.it.lb) := cell_of_row _ _ 7 _ _ (0, 0) HE0.out
      have e012_8 : w11.cell? ⟨w.heap.size, 8, none⟩ = some (.slice Af mf cf) := cell_of_row _ _ 8 _ _ (0, 0) HE0.out
      have e012_9 : w11.cell? ⟨w.heap.size, 9, none⟩ = some (.slice As ms cs) := cell_of_row _ _ 9 _ _ (0, 0) HE0.out
      have e012_10 : w11.cell? ⟨w.heap.size, 10, none⟩ = some (.slice Ar mr cr) := cell_of_row _ _ 10 _ _ (0, 0) HE0.out
      have e012_f : ∀ i, w11.frozen? ⟨w.heap.size, i, none⟩ = false := fun i => frozen_of_row _ _ i _ _ HE0.out
      have y04_0 : w11.cell? ⟨w7.heap.size, 0, none⟩ = some (.int .i64 en.kd) := cell_of_row _ _ 0 _ _ (0, 0) HY0.out
      have y04_1 : w11.cell? ⟨w7.heap.size, 1, none⟩ = some (.string en.nm) := cell_of_row _ _ 1 _ _ (0, 0) HY0.out
      have y04_2 : w11.cell? ⟨w7.heap.size, 2, none⟩ = some (.string en.tn) := cell_of_row _ _ 2 _ _ (0, 0) HY0.out
      have y04_3 : w11.cell? ⟨w7.heap.size, 3, none⟩ = some (.string en.it.nm) := cell_of_row _ _ 3 _ _ (0, 0) HY0.out
      have y04_4 : w11.cell? ⟨w7.heap.size, 4, none⟩ = some (.int .i64 en.it.n) := cell_of_row _ _ 4 _ _ (0, 0) HY0.out
      have y04_5 : w11.cell? ⟨w7.heap.size, 5, none⟩ = some (.slice Aay may cay) := cell_of_row _ _ 5 _ _ (0, 0) HY0.out
      have y04_6 : w11.cell? ⟨w7.heap.size, 6, none⟩ = some (.int .i64 en.it.cl) := cell_of_row _ _ 6 _ _ (0, 0) HY0.out
      have y04_7 : w11.cell? ⟨w7.heap.size, 7, none⟩ = some (.int .i64 en.it.lb) := cell_of_row _ _ 7 _ _ (0, 0) HY0.out
      have y04_8 : w11.cell? ⟨w7.heap.size, 8, none⟩ = some (.slice Afy mfy cfy) := cell_of_row _ _ 8 _ _ (0, 0) HY0.out
      have y04_9 : w11.cell? ⟨w7.heap.size, 9, none⟩ = some (.slice Asy msy csy) := cell_of_row _ _ 9 _ _ (0, 0) HY0.out
      have y04_10 : w11.cell? ⟨w7.heap.size, 10, none⟩ = some (.slice Ary mry cry) := cell_of_row _ _ 10 _ _ (0, 0) HY0.out
      have y04_f : ∀ i, w11.frozen? ⟨w7.heap.size, i, none⟩ = false := fun i => frozen_of_row _ _ i _ _ HY0.out
      obtain ⟨Ap, cp, rfl⟩ := hr.slice
      have Rp := Lib.hid hr; clear hr
      go_wp2_with fail
      refine (eq_Items _ _ xs w11 (Ox.out.reads (B := w11.heap.size) (fun b hb' => by have := Gx.out b hb'; omega)) (Rp.out.more (show w11.heap.size ≤ w11.heap.size by omega))).mono ?_
      rintro e w12 ⟨rfl, hb12⟩
      have hz15 := hb12.size
      replace hB := bl_trans hB hb12
      clear e012_0 e012_1 e012_2 e012_3 e012_4 e012_5 e012_6 e012_7 e012_8 e012_9 e012_10 e012_f
      replace HE0 := Lib.hid ((hb12.block (w.heap.size) (show w.heap.size < w11.heap.size by omega)).trans HE0.out)
      clear y04_0 y04_1 y04_2 y04_3 y04_4 y04_5 y04_6 y04_7 y04_8 y04_9 y04_10 y04_f
      replace HY0 := Lib.hid ((hb12.block (w7.heap.size) (show w7.heap.size < w11.heap.size by omega)).trans HY0.out)
      replace Ri := Lib.hid (Ri.out.below (hb12.mono (show w.heap.size ≤ w11.heap.size by omega)))
      replace Re := Lib.hid (Re.out.below (hb12.mono (show w.heap.size ≤ w11.heap.size by omega)))
      replace Rw := Lib.hid (Rw.out.below (hb12.mono (show w5.heap.size ≤ w11.heap.size by omega)))
      replace Rp := Lib.hid (Rp.out.below (hb12.mono (show w11.heap.size ≤ w11.heap.size by omega)))
      replace Ox := Lib.hid (Ox.out.keep fun b hb' => hb12.block b (by have := Gx.out b hb'; omega))
      replace Oy := Lib.hid (Oy.out.keep fun b hb' => hb12.block b (by have := Gy.out b hb'; omega))
      replace Og := Lib.hid (Og.out.keep fun b hb' => hb12.block b (by have := Gg.out b hb'; omega))
      have e013_0 : w12.cell? ⟨w.heap.size, 0, none⟩ = some (.int .i64 en.kd) := cell_of_row _ _ 0 _ _ (0, 0) HE0.out
      have e013_1 : w12.cell? ⟨w.heap.size, 1, none⟩ = some (.string en.nm) := cell_of_row _ _ 1 _ _ (0, 0) HE0.out
      have e013_2 : w12.cell? ⟨w.heap.size, 2, none⟩ = some (.string en.tn) := cell_of_row _ _ 2 _ _ (0, 0) HE0.out
      have e013_3 : w12.cell? ⟨w.heap.size, 3, none⟩ = some (.string en.it.nm) := cell_of_row _ _ 3 _ _ (0, 0) HE0.out
      have e013_4 : w12.cell? ⟨w.heap.size, 4, none⟩ = some (.int .i64 en.it.n) := cell_of_row _ _ 4 _ _ (0, 0) HE0.out
      have e013_5 : w12.cell? ⟨w.heap.size, 5, none⟩ = some (.slice Aa ma ca) := cell_of_row _ _ 5 _ _ (0, 0) HE0.out
      have e013_6 : w12.cell? ⟨w.heap.size, 6, none⟩ = some (.int .i64 en.it.cl) := cell_of_row _ _ 6 _ _ (0, 0) HE0.out
      have e013_7 : w12.cell? ⟨w.heap.size, 7, none⟩ = some (.int .i64 en.it.lb) := cell_of_row _ _ 7 _ _ (0, 0) HE0.out
      have e013_8 : w12.cell? ⟨w.heap.size, 8, none⟩ = some (.slice Af mf cf) := cell_of_row _ _ 8 _ _ (0, 0) HE0.out
      have e013_9 : w12.cell? ⟨w.heap.size, 9, none⟩ = some (.slice As ms cs) := cell_of_row _ _ 9 _ _ (0, 0) HE0.out
      have e013_10 : w12.cell? ⟨w.heap.size, 10, none⟩ = some (.slice Ar mr cr) := cell_of_row _ _ 10 _ _ (0, 0) HE0.out
      have e013_f : ∀ i, w12.frozen? ⟨w.heap.size, i, none⟩ = false := fun i => frozen_of_row _ _ i _ _ HE0.out
      have y05_0 : w12.cell? ⟨w7.heap.size, 0, none⟩ = some (.int .i64 en.kd) := cell_of_row _ _ 0 _ _ (0, 0) HY0.out
      have y05_1 : w12.cell? ⟨w7.heap.size, 1, none⟩ = some (.string en.nm) := cell_of_row _ _ 1 _ _ (0, 0) HY0.out
      have y05_2 : w12.cell? ⟨w7.heap.size, 2, none⟩ = some (.string en.tn) := cell_of_row _ _ 2 _ _ (0, 0) HY0.out
      have y05_3 : w12.cell? ⟨w7.heap.size, 3, none⟩ = some (.string en.it.nm) := cell_of_row _ _ 3 _ _ (0, 0) HY0.out
      have y05_4 : w12.cell? ⟨w7.heap.size, 4, none⟩ = some (.int .i64 en.it.n) := cell_of_row _ _ 4 _ _ (0, 0) HY0.out
      have y05_5 : w12.cell? ⟨w7.heap.size, 5, none⟩ = some (.slice Aay may cay) := cell_of_row _ _ 5 _ _ (0, 0) HY0.out
      have y05_6 : w12.cell? ⟨w7.heap.size, 6, none⟩ = some (.int .i64 en.it.cl) := cell_of_row _ _ 6 _ _ (0, 0) HY0.out
      have y05_7 : w12.cell? ⟨w7.heap.size, 7, none⟩ = some (.int .i64 en.it.lb) := cell_of_row _ _ 7 _ _ (0, 0) HY0.out
      have y05_8 : w12.cell? ⟨w7.heap.size, 8, none⟩ = some (.slice Afy mfy cfy) := cell_of_row _ _ 8 _ _ (0, 0) HY0.out
      have y05_9 : w12.cell? ⟨w7.heap.size, 9, none⟩ = some (.slice Asy msy csy) := cell_of_row _ _ 9 _ _ (0, 0) HY0.out
      have y05_10 : w12.cell? ⟨w7.heap.size, 10, none⟩ = some (.slice Ary mry cry) := cell_of_row _ _ 10 _ _ (0, 0) HY0.out
      have y05_f : ∀ i, w12.frozen? ⟨w7.heap.size, i, none⟩ = false := fun i => frozen_of_row _ _ i _ _ HY0.out
      clear Rp
      go_wp2_with fail
      refine wp_region_held_drew (S := (fun w' => w'.cell? ⟨w.heap.size, 0, none⟩ = some (.int .i64 en.kd) ∧ w'.cell? ⟨w.heap.size, 1, none⟩ = some (.string en.nm) ∧ w'.cell? ⟨w.heap.size, 2, none⟩ = some (.string en.tn) ∧ w'.cell? ⟨w.heap.size, 3, none⟩ = some (.string en.it.nm) ∧ w'.cell? ⟨w.heap.size, 4, none⟩ = some (.int .i64 en.it.n) ∧ w'.cell? ⟨w.heap.size, 5, none⟩ = some (.slice Aa ma ca) ∧ w'.cell? ⟨w.heap.size, 6, none⟩ = some (.int .i64 en.it.cl) ∧ w'.cell? ⟨w.heap.size, 7, none⟩ = some (.int .i64 en.it.lb) ∧ w'.cell? ⟨w.heap.size, 8, none⟩ = some (.slice Af mf cf) ∧ w'.cell? ⟨w.heap.size, 9, none⟩ = some (.slice As ms cs) ∧ w'.cell? ⟨w.heap.size, 10, none⟩ = some (.slice Ar mr cr) ∧ w'.cell? ⟨w7.heap.size, 0, none⟩ = some (.int .i64 en.kd) ∧ w'.cell? ⟨w7.heap.size, 1, none⟩ = some (.string en.nm) ∧ w'.cell? ⟨w7.heap.size, 2, none⟩ = some (.string en.tn) ∧ w'.cell? ⟨w7.heap.size, 3, none⟩ = some (.string en.it.nm) ∧ w'.cell? ⟨w7.heap.size, 4, none⟩ = some (.int .i64 en.it.n) ∧ w'.cell? ⟨w7.heap.size, 5, none⟩ = some (.slice Aay may cay) ∧ w'.cell? ⟨w7.heap.size, 6, none⟩ = some (.int .i64 en.it.cl) ∧ w'.cell? ⟨w7.heap.size, 7, none⟩ = some (.int .i64 en.it.lb) ∧ w'.cell? ⟨w7.heap.size, 8, none⟩ = some (.slice Afy mfy cfy) ∧ w'.cell? ⟨w7.heap.size, 9, none⟩ = some (.slice Asy msy csy) ∧ w'.cell? ⟨w7.heap.size, 10, none⟩ = some (.slice Ary mry cry))) (by kernel_rfl) ?_ (fun hHeld => ?_)
      · go_keep
      have hz16 := (Below.refl w12.heap.size w12).drew.size
      replace hB := bl_trans hB (Below.refl w12.heap.size w12).drew
      clear e013_0 e013_1 e013_2 e013_3 e013_4 e013_5 e013_6 e013_7 e013_8 e013_9 e013_10 e013_f
      replace HE0 := Lib.hid (((Below.refl w12.heap.size w12).drew.block (w.heap.size) (show w.heap.size < w12.heap.size by omega)).trans HE0.out)
      clear y05_0 y05_1 y05_2 y05_3 y05_4 y05_5 y05_6 y05_7 y05_8 y05_9 y05_10 y05_f
      replace HY0 := Lib.hid (((Below.refl w12.heap.size w12).drew.block (w7.heap.size) (show w7.heap.size < w12.heap.size by omega)).trans HY0.out)
      replace Ri := Lib.hid (Ri.out.below ((Below.refl w12.heap.size w12).drew.mono (show w.heap.size ≤ w12.heap.size by omega)))
      replace Re := Lib.hid (Re.out.below ((Below.refl w12.heap.size w12).drew.mono (show w.heap.size ≤ w12.heap.size by omega)))
      replace Rw := Lib.hid (Rw.out.below ((Below.refl w12.heap.size w12).drew.mono (show w5.heap.size ≤ w12.heap.size by omega)))
      replace Ox := Lib.hid (Ox.out.keep fun b hb' => (Below.refl w12.heap.size w12).drew.block b (by have := Gx.out b hb'; omega))
      replace Oy := Lib.hid (Oy.out.keep fun b hb' => (Below.refl w12.heap.size w12).drew.block b (by have := Gy.out b hb'; omega))
      replace Og := Lib.hid (Og.out.keep fun b hb' => (Below.refl w12.heap.size w12).drew.block b (by have := Gg.out b hb'; omega))
      have e014_0 : w12.drew.cell? ⟨w.heap.size, 0, none⟩ = some (.int .i64 en.kd) := cell_of_row _ _ 0 _ _ (0, 0) HE0.out
      have e014_1 : w12.drew.cell? ⟨w.heap.size, 1, none⟩ = some (.string en.nm) := cell_of_row _ _ 1 _ _ (0, 0) HE0.out
      have e014_2 : w12.drew.cell? ⟨w.heap.size, 2, none⟩ = some (.string en.tn) := cell_of_row _ _ 2 _ _ (0, 0) HE0.out
      have e014_3 : w12.drew.cell? ⟨w.heap.size, 3, none⟩ = some (.string en.it.nm) := cell_of_row _ _ 3 _ _ (0, 0) HE0.out
      have e014_4 : w12.drew.cell? ⟨w.heap.size, 4, none⟩ = some (.int .i64 en.it.n) := cell_of_row _ _ 4 _ _ (0, 0) HE0.out
      have e014_5 : w12.drew.cell? ⟨w.heap.size, 5, none⟩ = some (.slice Aa ma ca) := cell_of_row _ _ 5 _ _ (0, 0) HE0.out
      have e014_6 : w12.drew.cell? ⟨w.heap.size, 6, none⟩ = some (.int .i64 en.it.cl) := cell_of_row _ _ 6 _ _ (0, 0) HE0.out
      have e014_7 : w12.drew.cell? ⟨w.heap.size, 7, none⟩ = some (.int .i64 en.it.lb) := cell_of_row _ _ 7 _ _ (0, 0) HE0.out
      have e014_8 : w12.drew.cell? ⟨w.heap.size, 8, none⟩ = some (.slice Af mf cf) := cell_of_row _ _ 8 _ _ (0, 0) HE0.out
      have e014_9 : w12.drew.cell? ⟨w.heap.size, 9, none⟩ = some (.slice As ms cs) := cell_of_row _ _ 9 _ _ (0, 0) HE0.out
      have e014_10 : w12.drew.cell? ⟨w.heap.size, 10, none⟩ = some (.slice Ar mr cr) := cell_of_row _ _ 10 _ _ (0, 0) HE0.out
      have e014_f : ∀ i, w12.drew.frozen? ⟨w.heap.size, i, none⟩ = false := fun i => frozen_of_row _ _ i _ _ HE0.out
      have y06_0 : w12.drew.cell? ⟨w7.heap.size, 0, none⟩ = some (.int .i64 en.kd) := cell_of_row _ _ 0 _ _ (0, 0) HY0.out
      have y06_1 : w12.drew.cell? ⟨w7.heap.size, 1, none⟩ = some (.string en.nm) := cell_of_row _ _ 1 _ _ (0, 0) HY0.out
      have y06_2 : w12.drew.cell? ⟨w7.heap.size, 2, none⟩ = some (.string en.tn) := cell_of_row _ _ 2 _ _ (0, 0) HY0.out
      have y06_3 : w12.drew.cell? ⟨w7.heap.size, 3, none⟩ = some (.string en.it.nm) := cell_of_row _ _ 3 _ _ (0, 0) HY0.out
      have y06_4 : w12.drew.cell? ⟨w7.heap.size, 4, none⟩ = some (.int .i64 en.it.n) := cell_of_row _ _ 4 _ _ (0, 0) HY0.out
      have y06_5 : w12.drew.cell? ⟨w7.heap.size, 5, none⟩ = some (.slice Aay may cay) := cell_of_row _ _ 5 _ _ (0, 0) HY0.out
      have y06_6 : w12.drew.cell? ⟨w7.heap.size, 6, none⟩ = some (.int .i64 en.it.cl) := cell_of_row _ _ 6 _ _ (0, 0) HY0.out
      have y06_7 : w12.drew.cell? ⟨w7.heap.size, 7, none⟩ = some (.int .i64 en.it.lb) := cell_of_row _ _ 7 _ _ (0, 0) HY0.out
      have y06_8 : w12.drew.cell? ⟨w7.heap.size, 8, none⟩ = some (.slice Afy mfy cfy) := cell_of_row _ _ 8 _ _ (0, 0) HY0.out
      have y06_9 : w12.drew.cell? ⟨w7.heap.size, 9, none⟩ = some (.slice Asy msy csy) := cell_of_row _ _ 9 _ _ (0, 0) HY0.out
      have y06_10 : w12.drew.cell? ⟨w7.heap.size, 10, none⟩ = some (.slice Ary mry cry) := cell_of_row _ _ 10 _ _ (0, 0) HY0.out
      have y06_f : ∀ i, w12.drew.frozen? ⟨w7.heap.size, i, none⟩ = false := fun i => frozen_of_row _ _ i _ _ HY0.out
      refine take_wanted 0 59 (v := ?v300) rfl rfl (by kernel_rfl) (by kernel_rfl) (by kernel_rfl) (fun _ _ _ h => h) (by rfl) ?y300 (by assumption) ?r300
      case y300 => intro w hSw; (try dsimp only at hSw); go_simp <;> with_reducible rfl
      try simp only [Act.put, List.setIfInBounds_toArray, List.set_cons_zero, List.set_cons_succ]
      refine take_wanted 1 60 (v := ?v301) rfl rfl (by kernel_rfl) (by kernel_rfl) (by kernel_rfl) (fun _ _ _ h => h) (by rfl) ?y301 (by assumption) ?r301
      case y301 => intro w hSw; (try dsimp only at hSw); go_simp <;> with_reducible rfl
      try simp only [Act.put, List.setIfInBounds_toArray, List.set_cons_zero, List.set_cons_succ]
      refine take_ready 2 rfl (by kernel_rfl) (fun K hK => ?_)
      go_simp
      go_at_call 12
      refine (to_Entry en _ _ _ _ w12.drew (Re.out.more (show w.heap.size ≤ w12.drew.heap.size by omega)) hs2).mono ?_
      rintro e w13 ⟨vaq, vfq, vsq, vrq, bsq, rfl, ho, hnq, hrg, hbw13⟩
      have hz17 := hbw13.size
      replace hB := bl_trans hB hbw13
      clear e014_0 e014_1 e014_2 e014_3 e014_4 e014_5 e014_6 e014_7 e014_8 e014_9 e014_10 e014_f
      replace HE0 := Lib.hid ((hbw13.block (w.heap.size) (show w.heap.size < w12.drew.heap.size by omega)).trans HE0.out)
      clear y06_0 y06_1 y06_2 y06_3 y06_4 y06_5 y06_6 y06_7 y06_8 y06_9 y06_10 y06_f
      replace HY0 := Lib.hid ((hbw13.block (w7.heap.size) (show w7.heap.size < w12.drew.heap.size by omega)).trans HY0.out)
      replace Ri := Lib.hid (Ri.out.below (hbw13.mono (show w.heap.size ≤ w12.drew.heap.size by omega)))
      replace Re := Lib.hid (Re.out.below (hbw13.mono (show w.heap.size ≤ w12.drew.heap.size by omega)))
      replace Rw := Lib.hid (Rw.out.below (hbw13.mono (show w5.heap.size ≤ w12.drew.heap.size by omega)))
      replace Ox := Lib.hid (Ox.out.keep fun b hb' => hbw13.block b (by have := Gx.out b hb'; omega))
      replace Oy := Lib.hid (Oy.out.keep fun b hb' => hbw13.block b (by have := Gy.out b hb'; omega))
      replace Og := Lib.hid (Og.out.keep fun b hb' => hbw13.block b (by have := Gg.out b hb'; omega))
      have e015_0 : w13.cell? ⟨w.heap.size, 0, none⟩ = some (.int .i64 en.kd) := cell_of_row _ _ 0 _ _ (0, 0) HE0.out
      have e015_1 : w13.cell? ⟨w.heap.size, 1, none⟩ = some (.string en.nm) := cell_of_row _ _ 1 _ _ (0, 0) HE0.out
      have e015_2 : w13.cell? ⟨w.heap.size, 2, none⟩ = some (.string en.tn) := cell_of_row _ _ 2 _ _ (0, 0) HE0.out
      have e015_3 : w13.cell? ⟨w.heap.size, 3, none⟩ = some (.string en.it.nm) := cell_of_row _ _ 3 _ _ (0, 0) HE0.out
      have e015_4 : w13.cell? ⟨w.heap.size, 4, none⟩ = some (.int .i64 en.it.n) := cell_of_row _ _ 4 _ _ (0, 0) HE0.out
      have e015_5 : w13.cell? ⟨w.heap.size, 5, none⟩ = some (.slice Aa ma ca) := cell_of_row _ _ 5 _ _ (0, 0) HE0.out
      have e015_6 : w13.cell? ⟨w.heap.size, 6, none⟩ = some (.int .i64 en.it.cl) := cell_of_row _ _ 6 _ _ (0, 0) HE0.out
      have e015_7 : w13.cell? ⟨w.heap.size, 7, none⟩ = some (.int .i64 en.it.lb) := cell_of_row _ _ 7 _ _ (0, 0) HE0.out
      have e015_8 : w13.cell? ⟨w.heap.size, 8, none⟩ = some (.slice Af mf cf) := cell_of_row _ _ 8 _ _ (0, 0) HE0.out
      have e015_9 : w13.cell? ⟨w.heap.size, 9, none⟩ = some (.slice As ms cs) := cell_of_row _ _ 9 _ _ (0, 0) HE0.out
      have e015_10 : w13.cell? ⟨w.heap.size, 10, none⟩ = some (.slice Ar mr cr) := cell_of_row _ _ 10 _ _ (0, 0) HE0.out
      have e015_f : ∀ i, w13.frozen? ⟨w.heap.size, i, none⟩ = false := fun i => frozen_of_row _ _ i _ _ HE0.out
      have y07_0 : w13.cell? ⟨w7.heap.size, 0, none⟩ = some (.int .i64 en.kd) := cell_of_row _ _ 0 _ _ (0, 0) HY0.out
      have y07_1 : w13.cell? ⟨w7.heap.size, 1, none⟩ = some (.string en.nm) := cell_of_row _ _ 1 _ _ (0, 0) HY0.out
      have y07_2 : w13.cell? ⟨w7.heap.size, 2, none⟩ = some (.string en.tn) := cell_of_row _ _ 2 _ _ (0, 0) HY0.out
      have y07_3 : w13.cell? ⟨w7.heap.size, 3, none⟩ = some (.string en.it.nm) := cell_of_row _ _ 3 _ _ (0, 0) HY0.out
      have y07_4 : w13.cell? ⟨w7.heap.size, 4, none⟩ = some (.int .i64 en.it.n) := cell_of_row _ _ 4 _ _ (0, 0) HY0.out
      have y07_5 : w13.cell? ⟨w7.heap.size, 5, none⟩ = some (.slice Aay may cay) := cell_of_row _ _ 5 _ _ (0, 0) HY0.out
      have y07_6 : w13.cell? ⟨w7.heap.size, 6, none⟩ = some (.int .i64 en.it.cl) := cell_of_row _ _ 6 _ _ (0, 0) HY0.out
      have y07_7 : w13.cell? ⟨w7.heap.size, 7, none⟩ = some (.int .i64 en.it.lb) := cell_of_row _ _ 7 _ _ (0, 0) HY0.out
      have y07_8 : w13.cell? ⟨w7.heap.size, 8, none⟩ = some (.slice Afy mfy cfy) := cell_of_row _ _ 8 _ _ (0, 0) HY0.out
      have y07_9 : w13.cell? ⟨w7.heap.size, 9, none⟩ = some (.slice Asy msy csy) := cell_of_row _ _ 9 _ _ (0, 0) HY0.out
      have y07_10 : w13.cell? ⟨w7.heap.size, 10, none⟩ = some (.slice Ary mry cry) := cell_of_row _ _ 10 _ _ (0, 0) HY0.out
      have y07_f : ∀ i, w13.frozen? ⟨w7.heap.size, i, none⟩ = false := fun i => frozen_of_row _ _ i _ _ HY0.out
      obtain ⟨ba, bf, bz, br, oa, of, oz, or, hbs⟩ := id ho
      obtain ⟨Aaq, maq, caq, rfl⟩ := oa.isSlice
      obtain ⟨Afq, mfq, cfq, rfl⟩ := of.1.isSlice
      obtain ⟨Asq, msq, csq, rfl⟩ := oz.1.isSlice
      obtain ⟨Arq, mrq, crq, rfl⟩ := or.isSlice
      clear oa of oz or hbs
      have Rq := Lib.hid (ho.reads (B := w13.heap.size) (fun b hb => (hrg b hb).2)); clear ho hrg hnq
      refine hK.out _ _ ?_ (fun hHeld => ?_)
      · go_keep
      clear hK K
      try simp only [Act.put, List.setIfInBounds_toArray, List.set_cons_zero, List.set_cons_succ]
      refine take_ready 3 rfl (by kernel_rfl) (fun K hK => ?_)
      go_simp
      go_at_call 15
      refine (eq_Entry en _ _ _ _ _ _ _ _ w13 (Oy.out.reads (B := w13.heap.size) (fun b hb' => by have := Gy.out b hb'; omega)) (Rq.out.more (show w13.heap.size ≤ w13.heap.size by omega))).mono ?_
      rintro e w14 ⟨rfl, hb14⟩
      have hz18 := hb14.size
      replace hB := bl_trans hB hb14
      clear e015_0 e015_1 e015_2 e015_3 e015_4 e015_5 e015_6 e015_7 e015_8 e015_9 e015_10 e015_f
      replace HE0 := Lib.hid ((hb14.block (w.heap.size) (show w.heap.size < w13.heap.size by omega)).trans HE0.out)
      clear y07_0 y07_1 y07_2 y07_3 y07_4 y07_5 y07_6 y07_7 y07_8 y07_9 y07_10 y07_f
      replace HY0 := Lib.hid ((hb14.block (w7.heap.size) (show w7.heap.size < w13.heap.size by omega)).trans HY0.out)
      replace Ri := Lib.hid (Ri.out.below (hb14.mono (show w.heap.size ≤ w13.heap.size by omega)))
      replace Re := Lib.hid (Re.out.below (hb14.mono (show w.heap.size ≤ w13.heap.size by omega)))
      replace Rw := Lib.hid (Rw.out.below (hb14.mono (show w5.heap.size ≤ w13.heap.size by omega)))
      replace Rq := Lib.hid (Rq.out.below (hb14.mono (show w13.heap.size ≤ w13.heap.size by omega)))
      replace Ox := Lib.hid (Ox.out.keep fun b hb' => hb14.block b (by have := Gx.out b hb'; omega))
      replace Oy := Lib.hid (Oy.out.keep fun b hb' => hb14.block b (by have := Gy.out b hb'; omega))
      replace Og := Lib.hid (Og.out.keep fun b hb' => hb14.block b (by have := Gg.out b hb'; omega))
      have e016_0 : w14.cell? ⟨w.heap.size, 0, none⟩ = some (.int .i64 en.kd) := cell_of_row _ _ 0 _ _ (0, 0) HE0.out
      have e016_1 : w14.cell? ⟨w.heap.size, 1, none⟩ = some (.string en.nm) := cell_of_row _ _ 1 _ _ (0, 0) HE0.out
      have e016_2 : w14.cell? ⟨w.heap.size, 2, none⟩ = some (.string en.tn) := cell_of_row _ _ 2 _ _ (0, 0) HE0.out
      have e016_3 : w14.cell? ⟨w.heap.size, 3, none⟩ = some (.string en.it.nm) := cell_of_row _ _ 3 _ _ (0, 0) HE0.out
      have e016_4 : w14.cell? ⟨w.heap.size, 4, none⟩ = some (.int .i64 en.it.n) := cell_of_row _ _ 4 _ _ (0, 0) HE0.out
      have e016_5 : w14.cell? ⟨w.heap.size, 5, none⟩ = some (.slice Aa ma ca) := cell_of_row _ _ 5 _ _ (0, 0) HE0.out
      have e016_6 : w14.cell? ⟨w.heap.size, 6, none⟩ = some (.int .i64 en.it.cl) := cell_of_row _ _ 6 _ _ (0, 0) HE0.out
      have e016_7 : w14.cell? ⟨w.heap.size, 7, none⟩ = some (.int .i64 en.it.lb) := cell_of_row _ _ 7 _ _ (0, 0) HE0.out
      have e016_8 : w14.cell? ⟨w.heap.size, 8, none⟩ = some (.slice Af mf cf) := cell_of_row _ _ 8 _ _ (0, 0) HE0.out
      have e016_9 : w14.cell? ⟨w.heap.size, 9, none⟩ = some (.slice As ms cs) := cell_of_row _ _ 9 _ _ (0, 0) HE0.out
      have e016_10 : w14.cell? ⟨w.heap.size, 10, none⟩ = some (.slice Ar mr cr) := cell_of_row _ _ 10 _ _ (0, 0) HE0.out
      have e016_f : ∀ i, w14.frozen? ⟨w.heap.size, i, none⟩ = false := fun i => frozen_of_row _ _ i _ _ HE0.out
      have y08_0 : w14.cell? ⟨w7.heap.size, 0, none⟩ = some (.int .i64 en.kd) := cell_of_row _ _ 0 _ _ (0, 0) HY0.out
      have y08_1 : w14.cell? ⟨w7.heap.size, 1, none⟩ = some (.string en.nm) := cell_of_row _ _ 1 _ _ (0, 0) HY0.out
      have y08_2 : w14.cell? ⟨w7.heap.size, 2, none⟩ = some (.string en.tn) := cell_of_row _ _ 2 _ _ (0, 0) HY0.out
      have y08_3 : w14.cell? ⟨w7.heap.size, 3, none⟩ = some (.string en.it.nm) := cell_of_row _ _ 3 _ _ (0, 0) HY0.out
      have y08_4 : w14.cell? ⟨w7.heap.size, 4, none⟩ = some (.int .i64 en.it.n) := cell_of_row _ _ 4 _ _ (0, 0) HY0.out
      have y08_5 : w14.cell? ⟨w7.heap.size, 5, none⟩ = some (.slice Aay may cay) := cell_of_row _ _ 5 _ _ (0, 0) HY0.out
      have y08_6 : w14.cell? ⟨w7.heap.size, 6, none⟩ = some (.int .i64 en.it.cl) := cell_of_row _ _ 6 _ _ (0, 0) HY0.out
      have y08_7 : w14.cell? ⟨w7.heap.size, 7, none⟩ = some (.int .i64 en.it.lb) := cell_of_row _ _ 7 _ _ (0, 0) HY0.out
      have y08_8 : w14.cell? ⟨w7.heap.size, 8, none⟩ = some (.slice Afy mfy cfy) := cell_of_row _ _ 8 _ _ (0, 0) HY0.out
      have y08_9 : w14.cell? ⟨w7.heap.size, 9, none⟩ = some (.slice Asy msy csy) := cell_of_row _ _ 9 _ _ (0, 0) HY0.out
      have y08_10 : w14.cell? ⟨w7.heap.size, 10, none⟩ = some (.slice Ary mry cry) := cell_of_row _ _ 10 _ _ (0, 0) HY0.out
      have y08_f : ∀ i, w14.frozen? ⟨w7.heap.size, i, none⟩ = false := fun i => frozen_of_row _ _ i _ _ HY0.out
      refine hK.out _ _ ?_ (fun hHeld => ?_)
      · go_keep
      clear hK K
      try simp only [Act.put, List.setIfInBounds_toArray, List.set_cons_zero, List.set_cons_succ]
      refine take_wanted 4 63 (v := ?v304) rfl rfl (by kernel_rfl) (by kernel_rfl) (by kernel_rfl) (fun _ _ _ h => h) (by rfl) ?y304 (by assumption) ?r304
      case y304 => intro w hSw; (try dsimp only at hSw); go_simp <;> with_reducible rfl
      try simp only [Act.put, List.setIfInBounds_toArray, List.set_cons_zero, List.set_cons_succ]
      refine wpAnyH_done (by kernel_rfl) ?_ _
      clear Rq
      go_wp2_with fail
      refine (mark_ItemsB _ xs bsx 1 w14 Ox.out hnx (fun b hb => by have := Gx.out b hb; omega) HSZX.out (by rw [← HKE.out]; omega) (by omega)).mono ?_
      rintro e w15 ⟨rfl, -, hk15⟩
      rw [← HKE.out]
      clear Ox
      have hz19 := hk15.size
      replace hB := hB.trans (hk15.below (fun b hb' => by have := Gx.out b hb'; omega) (show w.heap.size ≤ w14.heap.size by omega))
      clear e016_0 e016_1 e016_2 e016_3 e016_4 e016_5 e016_6 e016_7 e016_8 e016_9 e016_10 e016_f
      replace HE0 := Lib.hid ((hk15.block (w.heap.size) (by omega) (fun hm => by have := Gx.out _ hm; omega)).trans HE0.out)
      clear y08_0 y08_1 y08_2 y08_3 y08_4 y08_5 y08_6 y08_7 y08_8 y08_9 y08_10 y08_f
      replace HY0 := Lib.hid ((hk15.block (w7.heap.size) (by omega) (fun hm => by have := Gx.out _ hm; omega)).trans HY0.out)
      replace Ri := Lib.hid (Ri.out.below (hk15.below (fun b hb' => by have := Gx.out b hb'; omega) (show w.heap.size ≤ w14.heap.size by omega)))
      replace Re := Lib.hid (Re.out.below (hk15.below (fun b hb' => by have := Gx.out b hb'; omega) (show w.heap.size ≤ w14.heap.size by omega)))
      replace Rw := Lib.hid (Rw.out.below (hk15.below (fun b hb' => by have := Gx.out b hb'; omega) (show w5.heap.size ≤ w14.heap.size by omega)))
      replace Oy := Lib.hid (Oy.out.keep fun b hb' => hk15.block b (by have := Gy.out b hb'; omega) (fun hm => by have := Gy.out b hb'; have := Gx.out _ hm; omega))
      replace Og := Lib.hid (Og.out.keep fun b hb' => hk15.block b (by have := Gg.out b hb'; omega) (fun hm => by have := Gg.out b hb'; have := Gx.out _ hm; omega))
      have e017_0 : w15.cell? ⟨w.heap.size, 0, none⟩ = some (.int .i64 en.kd) := cell_of_row _ _ 0 _ _ (0, 0) HE0.out
      have e017_1 : w15.cell? ⟨w.heap.size, 1, none⟩ = some (.string en.nm) := cell_of_row _ _ 1 _ _ (0, 0) HE0.out
      have e017_2 : w15.cell? ⟨w.heap.size, 2, none⟩ = some (.string en.tn) := cell_of_row _ _ 2 _ _ (0, 0) HE0.out
      have e017_3 : w15.cell? ⟨w.heap.size, 3, none⟩ = some (.string en.it.nm) := cell_of_row _ _ 3 _ _ (0, 0) HE0.out
      have e017_4 : w15.cell? ⟨w.heap.size, 4, none⟩ = some (.int .i64 en.it.n) := cell_of_row _ _ 4 _ _ (0, 0) HE0.out
      have e017_5 : w15.cell? ⟨w.heap.size, 5, none⟩ = some (.slice Aa ma ca) := cell_of_row _ _ 5 _ _ (0, 0) HE0.out
      have e017_6 : w15.cell? ⟨w.heap.size, 6, none⟩ = some (.int .i64 en.it.cl) := cell_of_row _ _ 6 _ _ (0, 0) HE0.out
      have e017_7 : w15.cell? ⟨w.heap.size, 7, none⟩ = some (.int .i64 en.it.lb) := cell_of_row _ _ 7 _ _ (0, 0) HE0.out
      have e017_8 : w15.cell? ⟨w.heap.size, 8, none⟩ = some (.slice Af mf cf) := cell_of_row _ _ 8 _ _ (0, 0) HE0.out
      have e017_9 : w15.cell? ⟨w.heap.size, 9, none⟩ = some (.slice As ms cs) := cell_of_row _ _ 9 _ _ (0, 0) HE0.out
      have e017_10 : w15.cell? ⟨w.heap.size, 10, none⟩ = some (.slice Ar mr cr) := cell_of_row _ _ 10 _ _ (0, 0) HE0.out
      have e017_f : ∀ i, w15.frozen? ⟨w.heap.size, i, none⟩ = false := fun i => frozen_of_row _ _ i _ _ HE0.out
      have y09_0 : w15.cell? ⟨w7.heap.size, 0, none⟩ = some (.int .i64 en.kd) := cell_of_row _ _ 0 _ _ (0, 0) HY0.out
      have y09_1 : w15.cell? ⟨w7.heap.size, 1, none⟩ = some (.string en.nm) := cell_of_row _ _ 1 _ _ (0, 0) HY0.out
      have y09_2 : w15.cell? ⟨w7.heap.size, 2, none⟩ = some (.string en.tn) := cell_of_row _ _ 2 _ _ (0, 0) HY0.out
      have y09_3 : w15.cell? ⟨w7.heap.size, 3, none⟩ = some (.string en.it.nm) := cell_of_row _ _ 3 _ _ (0, 0) HY0.out
      have y09_4 : w15.cell? ⟨w7.heap.size, 4, none⟩ = some (.int .i64 en.it.n) := cell_of_row _ _ 4 _ _ (0, 0) HY0.out
      have y09_5 : w15.cell? ⟨w7.heap.size, 5, none⟩ = some (.slice Aay may cay) := cell_of_row _ _ 5 _ _ (0, 0) HY0.out
      have y09_6 : w15.cell? ⟨w7.heap.size, 6, none⟩ = some (.int .i64 en.it.cl) := cell_of_row _ _ 6 _ _ (0, 0) HY0.out
      have y09_7 : w15.cell? ⟨w7.heap.size, 7, none⟩ = some (.int .i64 en.it.lb) := cell_of_row _ _ 7 _ _ (0, 0) HY0.out
      have y09_8 : w15.cell? ⟨w7.heap.size, 8, none⟩ = some (.slice Afy mfy cfy) := cell_of_row _ _ 8 _ _ (0, 0) HY0.out
      have y09_9 : w15.cell? ⟨w7.heap.size, 9, none⟩ = some (.slice Asy msy csy) := cell_of_row _ _ 9 _ _ (0, 0) HY0.out
      have y09_10 : w15.cell? ⟨w7.heap.size, 10, none⟩ = some (.slice Ary mry cry) := cell_of_row _ _ 10 _ _ (0, 0) HY0.out
      have y09_f : ∀ i, w15.frozen? ⟨w7.heap.size, i, none⟩ = false := fun i => frozen_of_row _ _ i _ _ HY0.out
      clear hk15
      go_wp2_with fail
      refine (mark_Entry en _ _ _ _ bsy KE w15 Oy.out hny (fun b hb => by have := Gy.out b hb; omega) (by omega) (by rw [← HKM.out]; omega)).mono ?_
      rintro e w16 ⟨rfl, -, hk16⟩
      rw [← HKM.out]
      clear Oy
      have hz20 := hk16.size
      replace hB := hB.trans (hk16.below (fun b hb' => by have := Gy.out b hb'; omega) (show w.heap.size ≤ w15.heap.size by omega))
      clear e017_0 e017_1 e017_2 e017_3 e017_4 e017_5 e017_6 e017_7 e017_8 e017_9 e017_10 e017_f
      replace HE0 := Lib.hid ((hk16.block (w.heap.size) (by omega) (fun hm => by have := Gy.out _ hm; omega)).trans HE0.out)
      clear y09_0 y09_1 y09_2 y09_3 y09_4 y09_5 y09_6 y09_7 y09_8 y09_9 y09_10 y09_f
      replace HY0 := Lib.hid ((hk16.block (w7.heap.size) (by omega) (fun hm => by have := Gy.out _ hm; omega)).trans HY0.out)
      replace Ri := Lib.hid (Ri.out.below (hk16.below (fun b hb' => by have := Gy.out b hb'; omega) (show w.heap.size ≤ w15.heap.size by omega)))
      replace Re := Lib.hid (Re.out.below (hk16.below (fun b hb' => by have := Gy.out b hb'; omega) (show w.heap.size ≤ w15.heap.size by omega)))
      replace Rw := Lib.hid (Rw.out.below (hk16.below (fun b hb' => by have := Gy.out b hb'; omega) (show w5.heap.size ≤ w15.heap.size by omega)))
      replace Og := Lib.hid (Og.out.keep fun b hb' => hk16.block b (by have := Gg.out b hb'; omega) (fun hm => by have := Gg.out b hb'; have := Gy.out _ hm; omega))
      have e018_0 : w16.cell? ⟨w.heap.size, 0, none⟩ = some (.int .i64 en.kd) := cell_of_row _ _ 0 _ _ (0, 0) HE0.out
      have e018_1 : w16.cell? ⟨w.heap.size, 1, none⟩ = some (.string en.nm) := cell_of_row _ _ 1 _ _ (0, 0) HE0.out
      have e018_2 : w16.cell? ⟨w.heap.size, 2, none⟩ = some (.string en.tn) := cell_of_row _ _ 2 _ _ (0, 0) HE0.out
      have e018_3 : w16.cell? ⟨w.heap.size, 3, none⟩ = some (.string en.it.nm) := cell_of_row _ _ 3 _ _ (0, 0) HE0.out
      have e018_4 : w16.cell? ⟨w.heap.size, 4, none⟩ = some (.int .i64 en.it.n) := cell_of_row _ _ 4 _ _ (0, 0) HE0.out
      have e018_5 : w16.cell? ⟨w.heap.size, 5, none⟩ = some (.slice Aa ma ca) := cell_of_row _ _ 5 _ _ (0, 0) HE0.out
      have e018_6 : w16.cell? ⟨w.heap.size, 6, none⟩ = some (.int .i64 en.it.cl) := cell_of_row _ _ 6 _ _ (0, 0) HE0.out
      have e018_7 : w16.cell? ⟨w.heap.size, 7, none⟩ = some (.int .i64 en.it.lb) := cell_of_row _ _ 7 _ _ (0, 0) HE0.out
      have e018_8 : w16.cell? ⟨w.heap.size, 8, none⟩ = some (.slice Af mf cf) := cell_of_row _ _ 8 _ _ (0, 0) HE0.out
      have e018_9 : w16.cell? ⟨w.heap.size, 9, none⟩ = some (.slice As ms cs) := cell_of_row _ _ 9 _ _ (0, 0) HE0.out
      have e018_10 : w16.cell? ⟨w.heap.size, 10, none⟩ = some (.slice Ar mr cr) := cell_of_row _ _ 10 _ _ (0, 0) HE0.out
      have e018_f : ∀ i, w16.frozen? ⟨w.heap.size, i, none⟩ = false := fun i => frozen_of_row _ _ i _ _ HE0.out
      have y010_0 : w16.cell? ⟨w7.heap.size, 0, none⟩ = some (.int .i64 en.kd) := cell_of_row _ _ 0 _ _ (0, 0) HY0.out
      have y010_1 : w16.cell? ⟨w7.heap.size, 1, none⟩ = some (.string en.nm) := cell_of_row _ _ 1 _ _ (0, 0) HY0.out
      have y010_2 : w16.cell? ⟨w7.heap.size, 2, none⟩ = some (.string en.tn) := cell_of_row _ _ 2 _ _ (0, 0) HY0.out
      have y010_3 : w16.cell? ⟨w7.heap.size, 3, none⟩ = some (.string en.it.nm) := cell_of_row _ _ 3 _ _ (0, 0) HY0.out
      have y010_4 : w16.cell? ⟨w7.heap.size, 4, none⟩ = some (.int .i64 en.it.n) := cell_of_row _ _ 4 _ _ (0, 0) HY0.out
      have y010_5 : w16.cell? ⟨w7.heap.size, 5, none⟩ = some (.slice Aay may cay) := cell_of_row _ _ 5 _ _ (0, 0) HY0.out
      have y010_6 : w16.cell? ⟨w7.heap.size, 6, none⟩ = some (.int .i64 en.it.cl) := cell_of_row _ _ 6 _ _ (0, 0) HY0.out
      have y010_7 : w16.cell? ⟨w7.heap.size, 7, none⟩ = some (.int .i64 en.it.lb) := cell_of_row _ _ 7 _ _ (0, 0) HY0.out
      have y010_8 : w16.cell? ⟨w7.heap.size, 8, none⟩ = some (.slice Afy mfy cfy) := cell_of_row _ _ 8 _ _ (0, 0) HY0.out
      have y010_9 : w16.cell? ⟨w7.heap.size, 9, none⟩ = some (.slice Asy msy csy) := cell_of_row _ _ 9 _ _ (0, 0) HY0.out
      have y010_10 : w16.cell? ⟨w7.heap.size, 10, none⟩ = some (.slice Ary mry cry) := cell_of_row _ _ 10 _ _ (0, 0) HY0.out
      have y010_f : ∀ i, w16.frozen? ⟨w7.heap.size, i, none⟩ = false := fun i => frozen_of_row _ _ i _ _ HY0.out
      clear hk16
      go_wp2_with fail
      refine (eq_Items _ _ X w16 (Og.out.reads (B := w16.heap.size) (fun b hb' => by have := Gg.out b hb'; omega)) (Rw.out.more (show w5.heap.size ≤ w16.heap.size by omega))).mono ?_
      rintro e w17 ⟨rfl, hb17⟩
      have hz21 := hb17.size
      replace hB := bl_trans hB hb17
      clear e018_0 e018_1 e018_2 e018_3 e018_4 e018_5 e018_6 e018_7 e018_8 e018_9 e018_10 e018_f
      replace HE0 := Lib.hid ((hb17.block (w.heap.size) (show w.heap.size < w16.heap.size by omega)).trans HE0.out)
      clear y010_0 y010_1 y010_2 y010_3 y010_4 y010_5 y010_6 y010_7 y010_8 y010_9 y010_10 y010_f
      replace HY0 := Lib.hid ((hb17.block (w7.heap.size) (show w7.heap.size < w16.heap.size by omega)).trans HY0.out)
      replace Ri := Lib.hid (Ri.out.below (hb17.mono (show w.heap.size ≤ w16.heap.size by omega)))
      replace Re := Lib.hid (Re.out.below (hb17.mono (show w.heap.size ≤ w16.heap.size by omega)))
      replace Rw := Lib.hid (Rw.out.below (hb17.mono (show w5.heap.size ≤ w16.heap.size by omega)))
      replace Og := Lib.hid (Og.out.keep fun b hb' => hb17.block b (by have := Gg.out b hb'; omega))
      have e019_0 : w17.cell? ⟨w.heap.size, 0, none⟩ = some (.int .i64 en.kd) := cell_of_row _ _ 0 _ _ (0, 0) HE0.out
      have e019_1 : w17.cell? ⟨w.heap.size, 1, none⟩ = some (.string en.nm) := cell_of_row _ _ 1 _ _ (0, 0) HE0.out
      have e019_2 : w17.cell? ⟨w.heap.size, 2, none⟩ = some (.string en.tn) := cell_of_row _ _ 2 _ _ (0, 0) HE0.out
      have e019_3 : w17.cell? ⟨w.heap.size, 3, none⟩ = some (.string en.it.nm) := cell_of_row _ _ 3 _ _ (0, 0) HE0.out
      have e019_4 : w17.cell? ⟨w.heap.size, 4, none⟩ = some (.int .i64 en.it.n) := cell_of_row _ _ 4 _ _ (0, 0) HE0.out
      have e019_5 : w17.cell? ⟨w.heap.size, 5, none⟩ = some (.slice Aa ma ca) := cell_of_row _ _ 5 _ _ (0, 0) HE0.out
      have e019_6 : w17.cell? ⟨w.heap.size, 6, none⟩ = some (.int .i64 en.it.cl) := cell_of_row _ _ 6 _ _ (0, 0) HE0.out
      have e019_7 : w17.cell? ⟨w.heap.size, 7, none⟩ = some (.int .i64 en.it.lb) := cell_of_row _ _ 7 _ _ (0, 0) HE0.out
      have e019_8 : w17.cell? ⟨w.heap.size, 8, none⟩ = some (.slice Af mf cf) := cell_of_row _ _ 8 _ _ (0, 0) HE0.out
      have e019_9 : w17.cell? ⟨w.heap.size, 9, none⟩ = some (.slice As ms cs) := cell_of_row _ _ 9 _ _ (0, 0) HE0.out
      have e019_10 : w17.cell? ⟨w.heap.size, 10, none⟩ = some (.slice Ar mr cr) := cell_of_row _ _ 10 _ _ (0, 0) HE0.out
      have e019_f : ∀ i, w17.frozen? ⟨w.heap.size, i, none⟩ = false := fun i => frozen_of_row _ _ i _ _ HE0.out
      have y011_0 : w17.cell? ⟨w7.heap.size, 0, none⟩ = some (.int .i64 en.kd) := cell_of_row _ _ 0 _ _ (0, 0) HY0.out
      have y011_1 : w17.cell? ⟨w7.heap.size, 1, none⟩ = some (.string en.nm) := cell_of_row _ _ 1 _ _ (0, 0) HY0.out
      have y011_2 : w17.cell? ⟨w7.heap.size, 2, none⟩ = some (.string en.tn) := cell_of_row _ _ 2 _ _ (0, 0) HY0.out
      have y011_3 : w17.cell? ⟨w7.heap.size, 3, none⟩ = some (.string en.it.nm) := cell_of_row _ _ 3 _ _ (0, 0) HY0.out
      have y011_4 : w17.cell? ⟨w7.heap.size, 4, none⟩ = some (.int .i64 en.it.n) := cell_of_row _ _ 4 _ _ (0, 0) HY0.out
      have y011_5 : w17.cell? ⟨w7.heap.size, 5, none⟩ = some (.slice Aay may cay) := cell_of_row _ _ 5 _ _ (0, 0) HY0.out
      have y011_6 : w17.cell? ⟨w7.heap.size, 6, none⟩ = some (.int .i64 en.it.cl) := cell_of_row _ _ 6 _ _ (0, 0) HY0.out
      have y011_7 : w17.cell? ⟨w7.heap.size, 7, none⟩ = some (.int .i64 en.it.lb) := cell_of_row _ _ 7 _ _ (0, 0) HY0.out
      have y011_8 : w17.cell? ⟨w7.heap.size, 8, none⟩ = some (.slice Afy mfy cfy) := cell_of_row _ _ 8 _ _ (0, 0) HY0.out
      have y011_9 : w17.cell? ⟨w7.heap.size, 9, none⟩ = some (.slice Asy msy csy) := cell_of_row _ _ 9 _ _ (0, 0) HY0.out
      have y011_10 : w17.cell? ⟨w7.heap.size, 10, none⟩ = some (.slice Ary mry cry) := cell_of_row _ _ 10 _ _ (0, 0) HY0.out
      have y011_f : ∀ i, w17.frozen? ⟨w7.heap.size, i, none⟩ = false := fun i => frozen_of_row _ _ i _ _ HY0.out
      go_wp2_with fail
      refine (mark_Items _ X bsg 1 w17 Og.out hng (fun b hb => by have := Gg.out b hb; omega) HSZ.out hlen (by omega) (by omega)).mono ?_
      rintro e w18 ⟨rfl, ho, hk18⟩
      clear Og
      have Og := Lib.hid ho; clear ho
      have hz22 := hk18.size
      replace hB := hB.trans (hk18.below (fun b hb' => by have := Gg.out b hb'; omega) (show w.heap.size ≤ w17.heap.size by omega))
      clear e019_0 e019_1 e019_2 e019_3 e019_4 e019_5 e019_6 e019_7 e019_8 e019_9 e019_10 e019_f
      replace HE0 := Lib.hid ((hk18.block (w.heap.size) (by omega) (fun hm => by have := Gg.out _ hm; omega)).trans HE0.out)
      clear y011_0 y011_1 y011_2 y011_3 y011_4 y011_5 y011_6 y011_7 y011_8 y011_9 y011_10 y011_f
      replace HY0 := Lib.hid ((hk18.block (w7.heap.size) (by omega) (fun hm => by have := Gg.out _ hm; omega)).trans HY0.out)
      replace Ri := Lib.hid (Ri.out.below (hk18.below (fun b hb' => by have := Gg.out b hb'; omega) (show w.heap.size ≤ w17.heap.size by omega)))
      replace Re := Lib.hid (Re.out.below (hk18.below (fun b hb' => by have := Gg.out b hb'; omega) (show w.heap.size ≤ w17.heap.size by omega)))
      replace Rw := Lib.hid (Rw.out.below (hk18.below (fun b hb' => by have := Gg.out b hb'; omega) (show w5.heap.size ≤ w17.heap.size by omega)))
      have e020_0 : w18.cell? ⟨w.heap.size, 0, none⟩ = some (.int .i64 en.kd) := cell_of_row _ _ 0 _ _ (0, 0) HE0.out
      have e020_1 : w18.cell? ⟨w.heap.size, 1, none⟩ = some (.string en.nm) := cell_of_row _ _ 1 _ _ (0, 0) HE0.out
      have e020_2 : w18.cell? ⟨w.heap.size, 2, none⟩ = some (.string en.tn) := cell_of_row _ _ 2 _ _ (0, 0) HE0.out
      have e020_3 : w18.cell? ⟨w.heap.size, 3, none⟩ = some (.string en.it.nm) := cell_of_row _ _ 3 _ _ (0, 0) HE0.out
      have e020_4 : w18.cell? ⟨w.heap.size, 4, none⟩ = some (.int .i64 en.it.n) := cell_of_row _ _ 4 _ _ (0, 0) HE0.out
      have e020_5 : w18.cell? ⟨w.heap.size, 5, none⟩ = some (.slice Aa ma ca) := cell_of_row _ _ 5 _ _ (0, 0) HE0.out
      have e020_6 : w18.cell? ⟨w.heap.size, 6, none⟩ = some (.int .i64 en.it.cl) := cell_of_row _ _ 6 _ _ (0, 0) HE0.out
      have e020_7 : w18.cell? ⟨w.heap.size, 7, none⟩ = some (.int .i64 en.it.lb) := cell_of_row _ _ 7 _ _ (0, 0) HE0.out
      have e020_8 : w18.cell? ⟨w.heap.size, 8, none⟩ = some (.slice Af mf cf) := cell_of_row _ _ 8 _ _ (0, 0) HE0.out
      have e020_9 : w18.cell? ⟨w.heap.size, 9, none⟩ = some (.slice As ms cs) := cell_of_row _ _ 9 _ _ (0, 0) HE0.out
      have e020_10 : w18.cell? ⟨w.heap.size, 10, none⟩ = some (.slice Ar mr cr) := cell_of_row _ _ 10 _ _ (0, 0) HE0.out
      have e020_f : ∀ i, w18.frozen? ⟨w.heap.size, i, none⟩ = false := fun i => frozen_of_row _ _ i _ _ HE0.out
      have y012_0 : w18.cell? ⟨w7.heap.size, 0, none⟩ = some (.int .i64 en.kd) := cell_of_row _ _ 0 _ _ (0, 0) HY0.out
      have y012_1 : w18.cell? ⟨w7.heap.size, 1, none⟩ = some (.string en.nm) := cell_of_row _ _ 1 _ _ (0, 0) HY0.out
      have y012_2 : w18.cell? ⟨w7.heap.size, 2, none⟩ = some (.string en.tn) := cell_of_row _ _ 2 _ _ (0, 0) HY0.out
      have y012_3 : w18.cell? ⟨w7.heap.size, 3, none⟩ = some (.string en.it.nm) := cell_of_row _ _ 3 _ _ (0, 0) HY0.out
      have y012_4 : w18.cell? ⟨w7.heap.size, 4, none⟩ = some (.int .i64 en.it.n) := cell_of_row _ _ 4 _ _ (0, 0) HY0.out
      have y012_5 : w18.cell? ⟨w7.heap.size, 5, none⟩ = some (.slice Aay may cay) := cell_of_row _ _ 5 _ _ (0, 0) HY0.out
      have y012_6 : w18.cell? ⟨w7.heap.size, 6, none⟩ = some (.int .i64 en.it.cl) := cell_of_row _ _ 6 _ _ (0, 0) HY0.out
      have y012_7 : w18.cell? ⟨w7.heap.size, 7, none⟩ = some (.int .i64 en.it.lb) := cell_of_row _ _ 7 _ _ (0, 0) HY0.out
      have y012_8 : w18.cell? ⟨w7.heap.size, 8, none⟩ = some (.slice Afy mfy cfy) := cell_of_row _ _ 8 _ _ (0, 0) HY0.out
      have y012_9 : w18.cell? ⟨w7.heap.size, 9, none⟩ = some (.slice Asy msy csy) := cell_of_row _ _ 9 _ _ (0, 0) HY0.out
      have y012_10 : w18.cell? ⟨w7.heap.size, 10, none⟩ = some (.slice Ary mry cry) := cell_of_row _ _ 10 _ _ (0, 0) HY0.out
      have y012_f : ∀ i, w18.frozen? ⟨w7.heap.size, i, none⟩ = false := fun i => frozen_of_row _ _ i _ _ HY0.out
      clear hk18
      go_wp2_with fail
      refine (held_Items _ X 1 w18 (Og.out.reads (B := w18.heap.size) (fun b hb' => by have := Gg.out b hb'; omega)) HSZ.out hlen (by omega) (by omega)).mono ?_
      rintro e w19 ⟨rfl, hb19⟩
      have hz23 := hb19.size
      replace hB := bl_trans hB hb19
      clear e020_0 e020_1 e020_2 e020_3 e020_4 e020_5 e020_6 e020_7 e020_8 e020_9 e020_10 e020_f
      replace HE0 := Lib.hid ((hb19.block (w.heap.size) (show w.heap.size < w18.heap.size by omega)).trans HE0.out)
      clear y012_0 y012_1 y012_2 y012_3 y012_4 y012_5 y012_6 y012_7 y012_8 y012_9 y012_10 y012_f
      replace HY0 := Lib.hid ((hb19.block (w7.heap.size) (show w7.heap.size < w18.heap.size by omega)).trans HY0.out)
      replace Ri := Lib.hid (Ri.out.below (hb19.mono (show w.heap.size ≤ w18.heap.size by omega)))
      replace Re := Lib.hid (Re.out.below (hb19.mono (show w.heap.size ≤ w18.heap.size by omega)))
      replace Rw := Lib.hid (Rw.out.below (hb19.mono (show w5.heap.size ≤ w18.heap.size by omega)))
      replace Og := Lib.hid (Og.out.keep fun b hb' => hb19.block b (by have := Gg.out b hb'; omega))
      have e021_0 : w19.cell? ⟨w.heap.size, 0, none⟩ = some (.int .i64 en.kd) := cell_of_row _ _ 0 _ _ (0, 0) HE0.out
      have e021_1 : w19.cell? ⟨w.heap.size, 1, none⟩ = some (.string en.nm) := cell_of_row _ _ 1 _ _ (0, 0) HE0.out
      have e021_2 : w19.cell? ⟨w.heap.size, 2, none⟩ = some (.string en.tn) := cell_of_row _ _ 2 _ _ (0, 0) HE0.out
      have e021_3 : w19.cell? ⟨w.heap.size, 3, none⟩ = some (.string en.it.nm) := cell_of_row _ _ 3 _ _ (0, 0) HE0.out
      have e021_4 : w19.cell? ⟨w.heap.size, 4, none⟩ = some (.int .i64 en.it.n) := cell_of_row _ _ 4 _ _ (0, 0) HE0.out
      have e021_5 : w19.cell? ⟨w.heap.size, 5, none⟩ = some (.slice Aa ma ca) := cell_of_row _ _ 5 _ _ (0, 0) HE0.out
      have e021_6 : w19.cell? ⟨w.heap.size, 6, none⟩ = some (.int .i64 en.it.cl) := cell_of_row _ _ 6 _ _ (0, 0) HE0.out
      have e021_7 : w19.cell? ⟨w.heap.size, 7, none⟩ = some (.int .i64 en.it.lb) := cell_of_row _ _ 7 _ _ (0, 0) HE0.out
      have e021_8 : w19.cell? ⟨w.heap.size, 8, none⟩ = some (.slice Af mf cf) := cell_of_row _ _ 8 _ _ (0, 0) HE0.out
      have e021_9 : w19.cell? ⟨w.heap.size, 9, none⟩ = some (.slice As ms cs) := cell_of_row _ _ 9 _ _ (0, 0) HE0.out
      have e021_10 : w19.cell? ⟨w.heap.size, 10, none⟩ = some (.slice Ar mr cr) := cell_of_row _ _ 10 _ _ (0, 0) HE0.out
      have e021_f : ∀ i, w19.frozen? ⟨w.heap.size, i, none⟩ = false := fun i => frozen_of_row _ _ i _ _ HE0.out
      have y013_0 : w19.cell? ⟨w7.heap.size, 0, none⟩ = some (.int .i64 en.kd) := cell_of_row _ _ 0 _ _ (0, 0) HY0.out
      have y013_1 : w19.cell? ⟨w7.heap.size, 1, none⟩ = some (.string en.nm) := cell_of_row _ _ 1 _ _ (0, 0) HY0.out
      have y013_2 : w19.cell? ⟨w7.heap.size, 2, none⟩ = some (.string en.tn) := cell_of_row _ _ 2 _ _ (0, 0) HY0.out
      have y013_3 : w19.cell? ⟨w7.heap.size, 3, none⟩ = some (.string en.it.nm) := cell_of_row _ _ 3 _ _ (0, 0) HY0.out
      have y013_4 : w19.cell? ⟨w7.heap.size, 4, none⟩ = some (.int .i64 en.it.n) := cell_of_row _ _ 4 _ _ (0, 0) HY0.out
      have y013_5 : w19.cell? ⟨w7.heap.size, 5, none⟩ = some (.slice Aay may cay) := cell_of_row _ _ 5 _ _ (0, 0) HY0.out
      have y013_6 : w19.cell? ⟨w7.heap.size, 6, none⟩ = some (.int .i64 en.it.cl) := cell_of_row _ _ 6 _ _ (0, 0) HY0.out
      have y013_7 : w19.cell? ⟨w7.heap.size, 7, none⟩ = some (.int .i64 en.it.lb) := cell_of_row _ _ 7 _ _ (0, 0) HY0.out
      have y013_8 : w19.cell? ⟨w7.heap.size, 8, none⟩ = some (.slice Afy mfy cfy) := cell_of_row _ _ 8 _ _ (0, 0) HY0.out
      have y013_9 : w19.cell? ⟨w7.heap.size, 9, none⟩ = some (.slice Asy msy csy) := cell_of_row _ _ 9 _ _ (0, 0) HY0.out
      have y013_10 : w19.cell? ⟨w7.heap.size, 10, none⟩ = some (.slice Ary mry cry) := cell_of_row _ _ 10 _ _ (0, 0) HY0.out
      have y013_f : ∀ i, w19.frozen? ⟨w7.heap.size, i, none⟩ = false := fun i => frozen_of_row _ _ i _ _ HY0.out
      go_wp2_with fail
      refine wp_region_held_drew (S := (fun w' => w'.cell? ⟨w.heap.size, 0, none⟩ = some (.int .i64 en.kd) ∧ w'.cell? ⟨w.heap.size, 1, none⟩ = some (.string en.nm) ∧ w'.cell? ⟨w.heap.size, 2, none⟩ = some (.string en.tn) ∧ w'.cell? ⟨w.heap.size, 3, none⟩ = some (.string en.it.nm) ∧ w'.cell? ⟨w.heap.size, 4, none⟩ = some (.int .i64 en.it.n) ∧ w'.cell? ⟨w.heap.size, 5, none⟩ = some (.slice Aa ma ca) ∧ w'.cell? ⟨w.heap.size, 6, none⟩ = some (.int .i64 en.it.cl) ∧ w'.cell? ⟨w.heap.size, 7, none⟩ = some (.int .i64 en.it.lb) ∧ w'.cell? ⟨w.heap.size, 8, none⟩ = some (.slice Af mf cf) ∧ w'.cell? ⟨w.heap.size, 9, none⟩ = some (.slice As ms cs) ∧ w'.cell? ⟨w.heap.size, 10, none⟩ = some (.slice Ar mr cr))) (by kernel_rfl) ?_ (fun hHeld => ?_)
      · go_keep
      have hz24 := (Below.refl w19.heap.size w19).drew.size
      replace hB := bl_trans hB (Below.refl w19.heap.size w19).drew
      clear e021_0 e021_1 e021_2 e021_3 e021_4 e021_5 e021_6 e021_7 e021_8 e021_9 e021_10 e021_f
      replace HE0 := Lib.hid (((Below.refl w19.heap.size w19).drew.block (w.heap.size) (show w.heap.size < w19.heap.size by omega)).trans HE0.out)
      clear y013_0 y013_1 y013_2 y013_3 y013_4 y013_5 y013_6 y013_7 y013_8 y013_9 y013_10 y013_f
      replace HY0 := Lib.hid (((Below.refl w19.heap.size w19).drew.block (w7.heap.size) (show w7.heap.size < w19.heap.size by omega)).trans HY0.out)
      replace Ri := Lib.hid (Ri.out.below ((Below.refl w19.heap.size w19).drew.mono (show w.heap.size ≤ w19.heap.size by omega)))
      replace Re := Lib.hid (Re.out.below ((Below.refl w19.heap.size w19).drew.mono (show w.heap.size ≤ w19.heap.size by omega)))
      replace Rw := Lib.hid (Rw.out.below ((Below.refl w19.heap.size w19).drew.mono (show w5.heap.size ≤ w19.heap.size by omega)))
      replace Og := Lib.hid (Og.out.keep fun b hb' => (Below.refl w19.heap.size w19).drew.block b (by have := Gg.out b hb'; omega))
      have e022_0 : w19.drew.cell? ⟨w.heap.size, 0, none⟩ = some (.int .i64 en.kd) := cell_of_row _ _ 0 _ _ (0, 0) HE0.out
      have e022_1 : w19.drew.cell? ⟨w.heap.size, 1, none⟩ = some (.string en.nm) := cell_of_row _ _ 1 _ _ (0, 0) HE0.out
      have e022_2 : w19.drew.cell? ⟨w.heap.size, 2, none⟩ = some (.string en.tn) := cell_of_row _ _ 2 _ _ (0, 0) HE0.out
      have e022_3 : w19.drew.cell? ⟨w.heap.size, 3, none⟩ = some (.string en.it.nm) := cell_of_row _ _ 3 _ _ (0, 0) HE0.out
      have e022_4 : w19.drew.cell? ⟨w.heap.size, 4, none⟩ = some (.int .i64 en.it.n) := cell_of_row _ _ 4 _ _ (0, 0) HE0.out
      have e022_5 : w19.drew.cell? ⟨w.heap.size, 5, none⟩ = some (.slice Aa ma ca) := cell_of_row _ _ 5 _ _ (0, 0) HE0.out
      have e022_6 : w19.drew.cell? ⟨w.heap.size, 6, none⟩ = some (.int .i64 en.it.cl) := cell_of_row _ _ 6 _ _ (0, 0) HE0.out
      have e022_7 : w19.drew.cell? ⟨w.heap.size, 7, none⟩ = some (.int .i64 en.it.lb) := cell_of_row _ _ 7 _ _ (0, 0) HE0.out
      have e022_8 : w19.drew.cell? ⟨w.heap.size, 8, none⟩ = some (.slice Af mf cf) := cell_of_row _ _ 8 _ _ (0, 0) HE0.out
      have e022_9 : w19.drew.cell? ⟨w.heap.size, 9, none⟩ = some (.slice As ms cs) := cell_of_row _ _ 9 _ _ (0, 0) HE0.out
      have e022_10 : w19.drew.cell? ⟨w.heap.size, 10, none⟩ = some (.slice Ar mr cr) := cell_of_row _ _ 10 _ _ (0, 0) HE0.out
      have e022_f : ∀ i, w19.drew.frozen? ⟨w.heap.size, i, none⟩ = false := fun i => frozen_of_row _ _ i _ _ HE0.out
      have y014_0 : w19.drew.cell? ⟨w7.heap.size, 0, none⟩ = some (.int .i64 en.kd) := cell_of_row _ _ 0 _ _ (0, 0) HY0.out
      have y014_1 : w19.drew.cell? ⟨w7.heap.size, 1, none⟩ = some (.string en.nm) := cell_of_row _ _ 1 _ _ (0, 0) HY0.out
      have y014_2 : w19.drew.cell? ⟨w7.heap.size, 2, none⟩ = some (.string en.tn) := cell_of_row _ _ 2 _ _ (0, 0) HY0.out
      have y014_3 : w19.drew.cell? ⟨w7.heap.size, 3, none⟩ = some (.string en.it.nm) := cell_of_row _ _ 3 _ _ (0, 0) HY0.out
      have y014_4 : w19.drew.cell? ⟨w7.heap.size, 4, none⟩ = some (.int .i64 en.it.n) := cell_of_row _ _ 4 _ _ (0, 0) HY0.out
      have y014_5 : w19.drew.cell? ⟨w7.heap.size, 5, none⟩ = some (.slice Aay may cay) := cell_of_row _ _ 5 _ _ (0, 0) HY0.out
      have y014_6 : w19.drew.cell? ⟨w7.heap.size, 6, none⟩ = some (.int .i64 en.it.cl) := cell_of_row _ _ 6 _ _ (0, 0) HY0.out
      have y014_7 : w19.drew.cell? ⟨w7.heap.size, 7, none⟩ = some (.int .i64 en.it.lb) := cell_of_row _ _ 7 _ _ (0, 0) HY0.out
      have y014_8 : w19.drew.cell? ⟨w7.heap.size, 8, none⟩ = some (.slice Afy mfy cfy) := cell_of_row _ _ 8 _ _ (0, 0) HY0.out
      have y014_9 : w19.drew.cell? ⟨w7.heap.size, 9, none⟩ = some (.slice Asy msy csy) := cell_of_row _ _ 9 _ _ (0, 0) HY0.out
      have y014_10 : w19.drew.cell? ⟨w7.heap.size, 10, none⟩ = some (.slice Ary mry cry) := cell_of_row _ _ 10 _ _ (0, 0) HY0.out
      have y014_f : ∀ i, w19.drew.frozen? ⟨w7.heap.size, i, none⟩ = false := fun i => frozen_of_row _ _ i _ _ HY0.out
      refine take_wanted 0 95 (v := ?v400) rfl rfl (by kernel_rfl) (by kernel_rfl) (by kernel_rfl) (fun _ _ _ h => h) (by rfl) ?y400 (by assumption) ?r400
      case y400 => intro w hSw; (try dsimp only at hSw); go_simp <;> with_reducible rfl
      try simp only [Act.put, List.setIfInBounds_toArray, List.set_cons_zero, List.set_cons_succ]
      refine take_wanted 2 97 (v := ?v402) rfl rfl (by kernel_rfl) (by kernel_rfl) (by kernel_rfl) (fun _ _ _ h => h) (by rfl) ?y402 (by assumption) ?r402
      case y402 => intro w hSw; (try dsimp only at hSw); go_simp <;> with_reducible rfl
      try simp only [Act.put, List.setIfInBounds_toArray, List.set_cons_zero, List.set_cons_succ]
      refine take_ready 1 rfl (by kernel_rfl) (fun K hK => ?_)
      go_simp
      go_at_call 11
      refine (to_Items _ xs w19.drew (Ri.out.more (show w.heap.size ≤ w19.drew.heap.size by omega)) hs1).mono ?_
      rintro e w20 ⟨vp, rfl, hr, hbw20⟩
      have hz25 := hbw20.size
      replace hB := bl_trans hB hbw20
      clear e022_0 e022_1 e022_2 e022_3 e022_4 e022_5 e022_6 e022_7 e022_8 e022_9 e022_10 e022_f
      replace HE0 := Lib.hid ((hbw20.block (w.heap.size) (show w.heap.size < w19.drew.heap.size by omega)).trans HE0.out)
      clear y014_0 y014_1 y014_2 y014_3 y014_4 y014_5 y014_6 y014_7 y014_8 y014_9 y014_10 y014_f
      replace HY0 := Lib.hid ((hbw20.block (w7.heap.size) (show w7.heap.size < w19.drew.heap.size by omega)).trans HY0.out)
      replace Ri := Lib.hid (Ri.out.below (hbw20.mono (show w.heap.size ≤ w19.drew.heap.size by omega)))
      replace Re := Lib.hid (Re.out.below (hbw20.mono (show w.heap.size ≤ w19.drew.heap.size by omega)))
      replace Rw := Lib.hid (Rw.out.below (hbw20.mono (show w5.heap.size ≤ w19.drew.heap.size by omega)))
      replace Og := Lib.hid (Og.out.keep fun b hb' => hbw20.block b (by have := Gg.out b hb'; omega))
      have e023_0 : w20.cell? ⟨w.heap.size, 0, none⟩ = some (.int .i64 en.kd) := cell_of_row _ _ 0 _ _ (0, 0) HE0.out
      have e023_1 : w20.cell? ⟨w.heap.size, 1, none⟩ = some (.string en.nm) := cell_of_row _ _ 1 _ _ (0, 0) HE0.out
      have e023_2 : w20.cell? ⟨w.heap.size, 2, none⟩ = some (.string en.tn) := cell_of_row _ _ 2 _ _ (0, 0) HE0.out
      have e023_3 : w20.cell? ⟨w.heap.size, 3, none⟩ = some (.string en.it.nm) := cell_of_row _ _ 3 _ _ (0, 0) HE0.out
      have e023_4 : w20.cell? ⟨w.heap.size, 4, none⟩ = some (.int .i64 en.it.n) := cell_of_row _ _ 4 _ _ (0, 0) HE0.out
      have e023_5 : w20.cell? ⟨w.heap.size, 5, none⟩ = some (.slice Aa ma ca) := cell_of_row _ _ 5 _ _ (0, 0) HE0.out
      have e023_6 : w20.cell? ⟨w.heap.size, 6, none⟩ = some (.int .i64 en.it.cl) := cell_of_row _ _ 6 _ _ (0, 0) HE0.out
      have e023_7 : w20.cell? ⟨w.heap.size, 7, none⟩ = some (.int .i64 en.it.lb) := cell_of_row _ _ 7 _ _ (0, 0) HE0.out
      have e023_8 : w20.cell? ⟨w.heap.size, 8, none⟩ = some (.slice Af mf cf) := cell_of_row _ _ 8 _ _ (0, 0) HE0.out
      have e023_9 : w20.cell? ⟨w.heap.size, 9, none⟩ = some (.slice As ms cs) := cell_of_row _ _ 9 _ _ (0, 0) HE0.out
      have e023_10 : w20.cell? ⟨w.heap.size, 10, none⟩ = some (.slice Ar mr cr) := cell_of_row _ _ 10 _ _ (0, 0) HE0.out
      have e023_f : ∀ i, w20.frozen? ⟨w.heap.size, i, none⟩ = false := fun i => frozen_of_row _ _ i _ _ HE0.out
      have y015_0 : w20.cell? ⟨w7.heap.size, 0, none⟩ = some (.int .i64 en.kd) := cell_of_row _ _ 0 _ _ (0, 0) HY0.out
      have y015_1 : w20.cell? ⟨w7.heap.size, 1, none⟩ = some (.string en.nm) := cell_of_row _ _ 1 _ _ (0, 0) HY0.out
      have y015_2 : w20.cell? ⟨w7.heap.size, 2, none⟩ = some (.string en.tn) := cell_of_row _ _ 2 _ _ (0, 0) HY0.out
      have y015_3 : w20.cell? ⟨w7.heap.size, 3, none⟩ = some (.string en.it.nm) := cell_of_row _ _ 3 _ _ (0, 0) HY0.out
      have y015_4 : w20.cell? ⟨w7.heap.size, 4, none⟩ = some (.int .i64 en.it.n) := cell_of_row _ _ 4 _ _ (0, 0) HY0.out
      have y015_5 : w20.cell? ⟨w7.heap.size, 5, none⟩ = some (.slice Aay may cay) := cell_of_row _ _ 5 _ _ (0, 0) HY0.out
      have y015_6 : w20.cell? ⟨w7.heap.size, 6, none⟩ = some (.int .i64 en.it.cl) := cell_of_row _ _ 6 _ _ (0, 0) HY0.out
      have y015_7 : w20.cell? ⟨w7.heap.size, 7, none⟩ = some (.int .i64 en.it.lb) := cell_of_row _ _ 7 _ _ (0, 0) HY0.out
      have y015_8 : w20.cell? ⟨w7.heap.size, 8, none⟩ = some (.slice Afy mfy cfy) := cell_of_row _ _ 8 _ _ (0, 0) HY0.out
      have y015_9 : w20.cell? ⟨w7.heap.size, 9, none⟩ = some (.slice Asy msy csy) := cell_of_row _ _ 9 _ _ (0, 0) HY0.out
      have y015_10 : w20.cell? ⟨w7.heap.size, 10, none⟩ = some (.slice Ary mry cry) := cell_of_row _ _ 10 _ _ (0, 0) HY0.out
      have y015_f : ∀ i, w20.frozen? ⟨w7.heap.size, i, none⟩ = false := fun i => frozen_of_row _ _ i _ _ HY0.out
      obtain ⟨Ap, cp, rfl⟩ := hr.slice
      have Rp := Lib.hid hr; clear hr
      refine hK.out _ _ ?_ (fun hHeld => ?_)
      · go_keep
      clear hK K
      try simp only [Act.put, List.setIfInBounds_toArray, List.set_cons_zero, List.set_cons_succ]
      refine take_ready 3 rfl (by kernel_rfl) (fun K hK => ?_)
      go_simp
      go_at_call 12
      refine (to_Entry en _ _ _ _ w20 (Re.out.more (show w.heap.size ≤ w20.heap.size by omega)) hs2).mono ?_
      rintro e w21 ⟨vaq, vfq, vsq, vrq, bsq, rfl, ho, hnq, hrg, hbw21⟩
      have hz26 := hbw21.size
      replace hB := bl_trans hB hbw21
      clear e023_0 e023_1 e023_2 e023_3 e023_4 e023_5 e023_6 e023_7 e023_8 e023_9 e023_10 e023_f
      replace HE0 := Lib.hid ((hbw21.block (w.heap.size) (show w.heap.size < w20.heap.size by omega)).trans HE0.out)
      clear y015_0 y015_1 y015_2 y015_3 y015_4 y015_5 y015_6 y015_7 y015_8 y015_9 y015_10 y015_f
      replace HY0 := Lib.hid ((hbw21.block (w7.heap.size) (show w7.heap.size < w20.heap.size by omega)).trans HY0.out)
      replace Ri := Lib.hid (Ri.out.below (hbw21.mono (show w.heap.size ≤ w20.heap.size by omega)))
      replace Re := Lib.hid (Re.out.below (hbw21.mono (show w.heap.size ≤ w20.heap.size by omega)))
      replace Rw := Lib.hid (Rw.out.below (hbw21.mono (show w5.heap.size ≤ w20.heap.size by omega)))
      replace Rp := Lib.hid (Rp.out.below (hbw21.mono (show w20.heap.size ≤ w20.heap.size by omega)))
      replace Og := Lib.hid (Og.out.keep fun b hb' => hbw21.block b (by have := Gg.out b hb'; omega))
      have e024_0 : w21.cell? ⟨w.heap.size, 0, none⟩ = some (.int .i64 en.kd) := cell_of_row _ _ 0 _ _ (0, 0) HE0.out
      have e024_1 : w21.cell? ⟨w.heap.size, 1, none⟩ = some (.string en.nm) := cell_of_row _ _ 1 _ _ (0, 0) HE0.out
      have e024_2 : w21.cell? ⟨w.heap.size, 2, none⟩ = some (.string en.tn) := cell_of_row _ _ 2 _ _ (0, 0) HE0.out
      have e024_3 : w21.cell? ⟨w.heap.size, 3, none⟩ = some (.string en.it.nm) := cell_of_row _ _ 3 _ _ (0, 0) HE0.out
      have e024_4 : w21.cell? ⟨w.heap.size, 4, none⟩ = some (.int .i64 en.it.n) := cell_of_row _ _ 4 _ _ (0, 0) HE0.out
      have e024_5 : w21.cell? ⟨w.heap.size, 5, none⟩ = some (.slice Aa ma ca) := cell_of_row _ _ 5 _ _ (0, 0) HE0.out
      have e024_6 : w21.cell? ⟨w.heap.size, 6, none⟩ = some (.int .i64 en.it.cl) := cell_of_row _ _ 6 _ _ (0, 0) HE0.out
      have e024_7 : w21.cell? ⟨w.heap.size, 7, none⟩ = some (.int .i64 en.it.lb) := cell_of_row _ _ 7 _ _ (0, 0) HE0.out
      have e024_8 : w21.cell? ⟨w.heap.size, 8, none⟩ = some (.slice Af mf cf) := cell_of_row _ _ 8 _ _ (0, 0) HE0.out
      have e024_9 : w21.cell? ⟨w.heap.size, 9, none⟩ = some (.slice As ms cs) := cell_of_row _ _ 9 _ _ (0, 0) HE0.out
      have e024_10 : w21.cell? ⟨w.heap.size, 10, none⟩ = some (.slice Ar mr cr) := cell_of_row _ _ 10 _ _ (0, 0) HE0.out
      have e024_f : ∀ i, w21.frozen? ⟨w.heap.size, i, none⟩ = false := fun i => frozen_of_row _ _ i _ _ HE0.out
      have y016_0 : w21.cell? ⟨w7.heap.size, 0, none⟩ = some (.int .i64 en.kd) := cell_of_row _ _ 0 _ _ (0, 0) HY0.out
      have y016_1 : w21.cell? ⟨w7.heap.size, 1, none⟩ = some (.string en.nm) := cell_of_row _ _ 1 _ _ (0, 0) HY0.out
      have y016_2 : w21.cell? ⟨w7.heap.size, 2, none⟩ = some (.string en.tn) := cell_of_row _ _ 2 _ _ (0, 0) HY0.out
      have y016_3 : w21.cell? ⟨w7.heap.size, 3, none⟩ = some (.string en.it.nm) := cell_of_row _ _ 3 _ _ (0, 0) HY0.out
      have y016_4 : w21.cell? ⟨w7.heap.size, 4, none⟩ = some (.int .i64 en.it.n) := cell_of_row _ _ 4 _ _ (0, 0) HY0.out
      have y016_5 : w21.cell? ⟨w7.heap.size, 5, none⟩ = some (.slice Aay may cay) := cell_of_row _ _ 5 _ _ (0, 0) HY0.out
      have y016_6 : w21.cell? ⟨w7.heap.size, 6, none⟩ = some (.int .i64 en.it.cl) := cell_of_row _ _ 6 _ _ (0, 0) HY0.out
      have y016_7 : w21.cell? ⟨w7.heap.size, 7, none⟩ = some (.int .i64 en.it.lb) := cell_of_row _ _ 7 _ _ (0, 0) HY0.out
      have y016_8 : w21.cell? ⟨w7.heap.size, 8, none⟩ = some (.slice Afy mfy cfy) := cell_of_row _ _ 8 _ _ (0, 0) HY0.out
      have y016_9 : w21.cell? ⟨w7.heap.size, 9, none⟩ = some (.slice Asy msy csy) := cell_of_row _ _ 9 _ _ (0, 0) HY0.out
      have y016_10 : w21.cell? ⟨w7.heap.size, 10, none⟩ = some (.slice Ary mry cry) := cell_of_row _ _ 10 _ _ (0, 0) HY0.out
      have y016_f : ∀ i, w21.frozen? ⟨w7.heap.size, i, none⟩ = false := fun i => frozen_of_row _ _ i _ _ HY0.out
      obtain ⟨ba, bf, bz, br, oa, of, oz, or, hbs⟩ := id ho
      obtain ⟨Aaq, maq, caq, rfl⟩ := oa.isSlice
      obtain ⟨Afq, mfq, cfq, rfl⟩ := of.1.isSlice
      obtain ⟨Asq, msq, csq, rfl⟩ := oz.1.isSlice
      obtain ⟨Arq, mrq, crq, rfl⟩ := or.isSlice
      clear oa of oz or hbs
      have Rq := Lib.hid (ho.reads (B := w21.heap.size) (fun b hb => (hrg b hb).2)); clear ho hrg hnq
      refine hK.out _ _ ?_ (fun hHeld => ?_)
      · go_keep
      clear hK K
      try simp only [Act.put, List.setIfInBounds_toArray, List.set_cons_zero, List.set_cons_succ]
      refine take_ready 4 rfl (by kernel_rfl) (fun K hK => ?_)
      go_simp
      go_at_call 13
      refine (J2.out _ _ _ _ _ w21 (Rp.out.more (show w20.heap.size ≤ w21.heap.size by omega)) (Rq.out.more (show w21.heap.size ≤ w21.heap.size by omega))).mono ?_
      rintro e w22 ⟨vh, bsh, rfl, ho, hnh, hrg, hb22⟩
      have hz27 := hb22.size
      replace hB := bl_trans hB hb22
      clear e024_0 e024_1 e024_2 e024_3 e024_4 e024_5 e024_6 e024_7 e024_8 e024_9 e024_10 e024_f
      replace HE0 := Lib.hid ((hb22.block (w.heap.size) (show w.heap.size < w21.heap.size by omega)).trans HE0.out)
      clear y016_0 y016_1 y016_2 y016_3 y016_4 y016_5 y016_6 y016_7 y016_8 y016_9 y016_10 y016_f
      replace HY0 := Lib.hid ((hb22.block (w7.heap.size) (show w7.heap.size < w21.heap.size by omega)).trans HY0.out)
      replace Ri := Lib.hid (Ri.out.below (hb22.mono (show w.heap.size ≤ w21.heap.size by omega)))
      replace Re := Lib.hid (Re.out.below (hb22.mono (show w.heap.size ≤ w21.heap.size by omega)))
      replace Rw := Lib.hid (Rw.out.below (hb22.mono (show w5.heap.size ≤ w21.heap.size by omega)))
      replace Rp := Lib.hid (Rp.out.below (hb22.mono (show w20.heap.size ≤ w21.heap.size by omega)))
      replace Rq := Lib.hid (Rq.out.below (hb22.mono (show w21.heap.size ≤ w21.heap.size by omega)))
      replace Og := Lib.hid (Og.out.keep fun b hb' => hb22.block b (by have := Gg.out b hb'; omega))
      have e025_0 : w22.cell? ⟨w.heap.size, 0, none⟩ = some (.int .i64 en.kd) := cell_of_row _ _ 0 _ _ (0, 0) HE0.out
      have e025_1 : w22.cell? ⟨w.heap.size, 1, none⟩ = some (.string en.nm) := cell_of_row _ _ 1 _ _ (0, 0) HE0.out
      have e025_2 : w22.cell? ⟨w.heap.size, 2, none⟩ = some (.string en.tn) := cell_of_row _ _ 2 _ _ (0, 0) HE0.out
      have e025_3 : w22.cell? ⟨w.heap.size, 3, none⟩ = some (.string en.it.nm) := cell_of_row _ _ 3 _ _ (0, 0) HE0.out
      have e025_4 : w22.cell? ⟨w.heap.size, 4, none⟩ = some (.int .i64 en.it.n) := cell_of_row _ _ 4 _ _ (0, 0) HE0.out
      have e025_5 : w22.cell? ⟨w.heap.size, 5, none⟩ = some (.slice Aa ma ca) := cell_of_row _ _ 5 _ _ (0, 0) HE0.out
      have e025_6 : w22.cell? ⟨w.heap.size, 6, none⟩ = some (.int .i64 en.it.cl) := cell_of_row _ _ 6 _ _ (0, 0) HE0.out
      have e025_7 : w22.cell? ⟨w.heap.size, 7, none⟩ = some (.int .i64 en.it.lb) := cell_of_row _ _ 7 _ _ (0, 0) HE0.out
      have e025_8 : w22.cell? ⟨w.heap.size, 8, none⟩ = some (.slice Af mf cf) := cell_of_row _ _ 8 _ _ (0, 0) HE0.out
      have e025_9 : w22.cell? ⟨w.heap.size, 9, none⟩ = some (.slice As ms cs) := cell_of_row _ _ 9 _ _ (0, 0) HE0.out
      have e025_10 : w22.cell? ⟨w.heap.size, 10, none⟩ = some (.slice Ar mr cr) := cell_of_row _ _ 10 _ _ (0, 0) HE0.out
      have e025_f : ∀ i, w22.frozen? ⟨w.heap.size, i, none⟩ = false := fun i => frozen_of_row _ _ i _ _ HE0.out
      have y017_0 : w22.cell? ⟨w7.heap.size, 0, none⟩ = some (.int .i64 en.kd) := cell_of_row _ _ 0 _ _ (0, 0) HY0.out
      have y017_1 : w22.cell? ⟨w7.heap.size, 1, none⟩ = some (.string en.nm) := cell_of_row _ _ 1 _ _ (0, 0) HY0.out
      have y017_2 : w22.cell? ⟨w7.heap.size, 2, none⟩ = some (.string en.tn) := cell_of_row _ _ 2 _ _ (0, 0) HY0.out
      have y017_3 : w22.cell? ⟨w7.heap.size, 3, none⟩ = some (.string en.it.nm) := cell_of_row _ _ 3 _ _ (0, 0) HY0.out
      have y017_4 : w22.cell? ⟨w7.heap.size, 4, none⟩ = some (.int .i64 en.it.n) := cell_of_row _ _ 4 _ _ (0, 0) HY0.out
      have y017_5 : w22.cell? ⟨w7.heap.size, 5, none⟩ = some (.slice Aay may cay) := cell_of_row _ _ 5 _ _ (0, 0) HY0.out
      have y017_6 : w22.cell? ⟨w7.heap.size, 6, none⟩ = some (.int .i64 en.it.cl) := cell_of_row _ _ 6 _ _ (0, 0) HY0.out
      have y017_7 : w22.cell? ⟨w7.heap.size, 7, none⟩ = some (.int .i64 en.it.lb) := cell_of_row _ _ 7 _ _ (0, 0) HY0.out
      have y017_8 : w22.cell? ⟨w7.heap.size, 8, none⟩ = some (.slice Afy mfy cfy) := cell_of_row _ _ 8 _ _ (0, 0) HY0.out
      have y017_9 : w22.cell? ⟨w7.heap.size, 9, none⟩ = some (.slice Asy msy csy) := cell_of_row _ _ 9 _ _ (0, 0) HY0.out
      have y017_10 : w22.cell? ⟨w7.heap.size, 10, none⟩ = some (.slice Ary mry cry) := cell_of_row _ _ 10 _ _ (0, 0) HY0.out
      have y017_f : ∀ i, w22.frozen? ⟨w7.heap.size, i, none⟩ = false := fun i => frozen_of_row _ _ i _ _ HY0.out
      obtain ⟨Ah, mh, ch, rfl⟩ := ho.isSlice
      have Oh := Lib.hid ho; clear ho
      have Gh := Lib.hid hrg; clear hrg
      refine hK.out _ _ ?_ (fun hHeld => ?_)
      · go_keep
      clear hK K
      try simp only [Act.put, List.setIfInBounds_toArray, List.set_cons_zero, List.set_cons_succ]
      refine take_wanted 5 94 (v := ?v405) rfl rfl (by kernel_rfl) (by kernel_rfl) (by kernel_rfl) (fun _ _ _ h => h) (by rfl) ?y405 (by assumption) ?r405
      case y405 => intro w hSw; (try dsimp only at hSw); go_simp <;> with_reducible rfl
      try simp only [Act.put, List.setIfInBounds_toArray, List.set_cons_zero, List.set_cons_succ]
      refine take_wanted 6 100 (v := ?v406) rfl rfl (by kernel_rfl) (by kernel_rfl) (by kernel_rfl) (fun _ _ _ h => h) (by rfl) ?y406 (by assumption) ?r406
      case y406 => intro w hSw; (try dsimp only at hSw); go_simp <;> with_reducible rfl
      try simp only [Act.put, List.setIfInBounds_toArray, List.set_cons_zero, List.set_cons_succ]
      refine take_wanted 7 101 (v := ?v407) rfl rfl (by kernel_rfl) (by kernel_rfl) (by kernel_rfl) (fun _ _ _ h => h) (by rfl) ?y407 (by assumption) ?r407
      case y407 => intro w hSw; (try dsimp only at hSw); go_simp <;> with_reducible rfl
      try simp only [Act.put, List.setIfInBounds_toArray, List.set_cons_zero, List.set_cons_succ]
      refine take_wanted 8 15 (v := ?v408) rfl rfl (by kernel_rfl) (by kernel_rfl) (by kernel_rfl) (fun _ _ _ h => h) (by rfl) ?y408 (by assumption) ?r408
      case y408 => intro w hSw; (try dsimp only at hSw); go_simp <;> with_reducible rfl
      try simp only [Act.put, List.setIfInBounds_toArray, List.set_cons_zero, List.set_cons_succ]
      refine take_wanted 9 16 (v := ?v409) rfl rfl (by kernel_rfl) (by kernel_rfl) (by kernel_rfl) (fun _ _ _ h => h) (by rfl) ?y409 (by assumption) ?r409
      case y409 => intro w hSw; (try dsimp only at hSw); go_simp <;> with_reducible rfl
      try simp only [Act.put, List.setIfInBounds_toArray, List.set_cons_zero, List.set_cons_succ]
      refine wpAnyH_done (by kernel_rfl) ?_ _
      clear Rp
      clear Rq
      go_wp2_with fail
      refine (eq_Items _ _ X w22 (Oh.out.reads (B := w22.heap.size) (fun b hb' => by have := Gh.out b hb'; omega)) (Rw.out.more (show w5.heap.size ≤ w22.heap.size by omega))).mono ?_
      rintro e w23 ⟨rfl, hb23⟩
      have hz28 := hb23.size
      replace hB := bl_trans hB hb23
      clear e025_0 e025_1 e025_2 e025_3 e025_4 e025_5 e025_6 e025_7 e025_8 e025_9 e025_10 e025_f
      replace HE0 := Lib.hid ((hb23.block (w.heap.size) (show w.heap.size < w22.heap.size by omega)).trans HE0.out)
      clear y017_0 y017_1 y017_2 y017_3 y017_4 y017_5 y017_6 y017_7 y017_8 y017_9 y017_10 y017_f
      replace HY0 := Lib.hid ((hb23.block (w7.heap.size) (show w7.heap.size < w22.heap.size by omega)).trans HY0.out)
      replace Ri := Lib.hid (Ri.out.below (hb23.mono (show w.heap.size ≤ w22.heap.size by omega)))
      replace Re := Lib.hid (Re.out.below (hb23.mono (show w.heap.size ≤ w22.heap.size by omega)))
      replace Rw := Lib.hid (Rw.out.below (hb23.mono (show w5.heap.size ≤ w22.heap.size by omega)))
      replace Og := Lib.hid (Og.out.keep fun b hb' => hb23.block b (by have := Gg.out b hb'; omega))
      replace Oh := Lib.hid (Oh.out.keep fun b hb' => hb23.block b (by have := Gh.out b hb'; omega))
      have e026_0 : w23.cell? ⟨w.heap.size, 0, none⟩ = some (.int .i64 en.kd) := cell_of_row _ _ 0 _ _ (0, 0) HE0.out
      have e026_1 : w23.cell? ⟨w.heap.size, 1, none⟩ = some (.string en.nm) := cell_of_row _ _ 1 _ _ (0, 0) HE0.out
      have e026_2 : w23.cell? ⟨w.heap.size, 2, none⟩ = some (.string en.tn) := cell_of_row _ _ 2 _ _ (0, 0) HE0.out
      have e026_3 : w23.cell? ⟨w.heap.size, 3, none⟩ = some (.string en.it.nm) := cell_of_row _ _ 3 _ _ (0, 0) HE0.out
      have e026_4 : w23.cell? ⟨w.heap.size, 4, none⟩ = some (.int .i64 en.it.n) := cell_of_row _ _ 4 _ _ (0, 0) HE0.out
      have e026_5 : w23.cell? ⟨w.heap.size, 5, none⟩ = some (.slice Aa ma ca) := cell_of_row _ _ 5 _ _ (0, 0) HE0.out
      have e026_6 : w23.cell? ⟨w.heap.size, 6, none⟩ = some (.int .i64 en.it.cl) := cell_of_row _ _ 6 _ _ (0, 0) HE0.out
      have e026_7 : w23.cell? ⟨w.heap.size, 7, none⟩ = some (.int .i64 en.it.lb) := cell_of_row _ _ 7 _ _ (0, 0) HE0.out
      have e026_8 : w23.cell? ⟨w.heap.size, 8, none⟩ = some (.slice Af mf cf) := cell_of_row _ _ 8 _ _ (0, 0) HE0.out
      have e026_9 : w23.cell? ⟨w.heap.size, 9, none⟩ = some (.slice As ms cs) := cell_of_row _ _ 9 _ _ (0, 0) HE0.out
      have e026_10 : w23.cell? ⟨w.heap.size, 10, none⟩ = some (.slice Ar mr cr) := cell_of_row _ _ 10 _ _ (0, 0) HE0.out
      have e026_f : ∀ i, w23.frozen? ⟨w.heap.size, i, none⟩ = false := fun i => frozen_of_row _ _ i _ _ HE0.out
      have y018_0 : w23.cell? ⟨w7.heap.size, 0, none⟩ = some (.int .i64 en.kd) := cell_of_row _ _ 0 _ _ (0, 0) HY0.out
      have y018_1 : w23.cell? ⟨w7.heap.size, 1, none⟩ = some (.string en.nm) := cell_of_row _ _ 1 _ _ (0, 0) HY0.out
      have y018_2 : w23.cell? ⟨w7.heap.size, 2, none⟩ = some (.string en.tn) := cell_of_row _ _ 2 _ _ (0, 0) HY0.out
      have y018_3 : w23.cell? ⟨w7.heap.size, 3, none⟩ = some (.string en.it.nm) := cell_of_row _ _ 3 _ _ (0, 0) HY0.out
      have y018_4 : w23.cell? ⟨w7.heap.size, 4, none⟩ = some (.int .i64 en.it.n) := cell_of_row _ _ 4 _ _ (0, 0) HY0.out
      have y018_5 : w23.cell? ⟨w7.heap.size, 5, none⟩ = some (.slice Aay may cay) := cell_of_row _ _ 5 _ _ (0, 0) HY0.out
      have y018_6 : w23.cell? ⟨w7.heap.size, 6, none⟩ = some (.int .i64 en.it.cl) := cell_of_row _ _ 6 _ _ (0, 0) HY0.out
      have y018_7 : w23.cell? ⟨w7.heap.size, 7, none⟩ = some (.int .i64 en.it.lb) := cell_of_row _ _ 7 _ _ (0, 0) HY0.out
      have y018_8 : w23.cell? ⟨w7.heap.size, 8, none⟩ = some (.slice Afy mfy cfy) := cell_of_row _ _ 8 _ _ (0, 0) HY0.out
      have y018_9 : w23.cell? ⟨w7.heap.size, 9, none⟩ = some (.slice Asy msy csy) := cell_of_row _ _ 9 _ _ (0, 0) HY0.out
      have y018_10 : w23.cell? ⟨w7.heap.size, 10, none⟩ = some (.slice Ary mry cry) := cell_of_row _ _ 10 _ _ (0, 0) HY0.out
      have y018_f : ∀ i, w23.frozen? ⟨w7.heap.size, i, none⟩ = false := fun i => frozen_of_row _ _ i _ _ HY0.out
      go_wp2_with fail
      refine (held_Items _ X 1 w23 (Og.out.reads (B := w23.heap.size) (fun b hb' => by have := Gg.out b hb'; omega)) HSZ.out hlen (by omega) (by omega)).mono ?_
      rintro e w24 ⟨rfl, hb24⟩
      have hz29 := hb24.size
      replace hB := bl_trans hB hb24
      clear e026_0 e026_1 e026_2 e026_3 e026_4 e026_5 e026_6 e026_7 e026_8 e026_9 e026_10 e026_f
      replace HE0 := Lib.hid ((hb24.block (w.heap.size) (show w.heap.size < w23.heap.size by omega)).trans HE0.out)
      clear y018_0 y018_1 y018_2 y018_3 y018_4 y018_5 y018_6 y018_7 y018_8 y018_9 y018_10 y018_f
      replace HY0 := Lib.hid ((hb24.block (w7.heap.size) (show w7.heap.size < w23.heap.size by omega)).trans HY0.out)
      replace Ri := Lib.hid (Ri.out.below (hb24.mono (show w.heap.size ≤ w23.heap.size by omega)))
      replace Re := Lib.hid (Re.out.below (hb24.mono (show w.heap.size ≤ w23.heap.size by omega)))
      replace Rw := Lib.hid (Rw.out.below (hb24.mono (show w5.heap.size ≤ w23.heap.size by omega)))
      replace Og := Lib.hid (Og.out.keep fun b hb' => hb24.block b (by have := Gg.out b hb'; omega))
      replace Oh := Lib.hid (Oh.out.keep fun b hb' => hb24.block b (by have := Gh.out b hb'; omega))
      have e027_0 : w24.cell? ⟨w.heap.size, 0, none⟩ = some (.int .i64 en.kd) := cell_of_row _ _ 0 _ _ (0, 0) HE0.out
      have e027_1 : w24.cell? ⟨w.heap.size, 1, none⟩ = some (.string en.nm) := cell_of_row _ _ 1 _ _ (0, 0) HE0.out
      have e027_2 : w24.cell? ⟨w.heap.size, 2, none⟩ = some (.string en.tn) := cell_of_row _ _ 2 _ _ (0, 0) HE0.out
      have e027_3 : w24.cell? ⟨w.heap.size, 3, none⟩ = some (.string en.it.nm) := cell_of_row _ _ 3 _ _ (0, 0) HE0.out
      have e027_4 : w24.cell? ⟨w.heap.size, 4, none⟩ = some (.int .i64 en.it.n) := cell_of_row _ _ 4 _ _ (0, 0) HE0.out
      have e027_5 : w24.cell? ⟨w.heap.size, 5, none⟩ = some (.slice Aa ma ca) := cell_of_row _ _ 5 _ _ (0, 0) HE0.out
      have e027_6 : w24.cell? ⟨w.heap.size, 6, none⟩ = some (.int .i64 en.it.cl) := cell_of_row _ _ 6 _ _ (0, 0) HE0.out
      have e027_7 : w24.cell? ⟨w.heap.size, 7, none⟩ = some (.int .i64 en.it.lb) := cell_of_row _ _ 7 _ _ (0, 0) HE0.out
      have e027_8 : w24.cell? ⟨w.heap.size, 8, none⟩ = some (.slice Af mf cf) := cell_of_row _ _ 8 _ _ (0, 0) HE0.out
      have e027_9 : w24.cell? ⟨w.heap.size, 9, none⟩ = some (.slice As ms cs) := cell_of_row _ _ 9 _ _ (0, 0) HE0.out
      have e027_10 : w24.cell? ⟨w.heap.size, 10, none⟩ = some (.slice Ar mr cr) := cell_of_row _ _ 10 _ _ (0, 0) HE0.out
      have e027_f : ∀ i, w24.frozen? ⟨w.heap.size, i, none⟩ = false := fun i => frozen_of_row _ _ i _ _ HE0.out
      have y019_0 : w24.cell? ⟨w7.heap.size, 0, none⟩ = some (.int .i64 en.kd) := cell_of_row _ _ 0 _ _ (0, 0) HY0.out
      have y019_1 : w24.cell? ⟨w7.heap.size, 1, none⟩ = some (.string en.nm) := cell_of_row _ _ 1 _ _ (0, 0) HY0.out
      have y019_2 : w24.cell? ⟨w7.heap.size, 2, none⟩ = some (.string en.tn) := cell_of_row _ _ 2 _ _ (0, 0) HY0.out
      have y019_3 : w24.cell? ⟨w7.heap.size, 3, none⟩ = some (.string en.it.nm) := cell_of_row _ _ 3 _ _ (0, 0) HY0.out
      have y019_4 : w24.cell? ⟨w7.heap.size, 4, none⟩ = some (.int .i64 en.it.n) := cell_of_row _ _ 4 _ _ (0, 0) HY0.out
      have y019_5 : w24.cell? ⟨w7.heap.size, 5, none⟩ = some (.slice Aay may cay) := cell_of_row _ _ 5 _ _ (0, 0) HY0.out
      have y019_6 : w24.cell? ⟨w7.heap.size, 6, none⟩ = some (.int .i64 en.it.cl) := cell_of_row _ _ 6 _ _ (0, 0) HY0.out
      have y019_7 : w24.cell? ⟨w7.heap.size, 7, none⟩ = some (.int .i64 en.it.lb) := cell_of_row _ _ 7 _ _ (0, 0) HY0.out
      have y019_8 : w24.cell? ⟨w7.heap.size, 8, none⟩ = some (.slice Afy mfy cfy) := cell_of_row _ _ 8 _ _ (0, 0) HY0.out
      have y019_9 : w24.cell? ⟨w7.heap.size, 9, none⟩ = some (.slice Asy msy csy) := cell_of_row _ _ 9 _ _ (0, 0) HY0.out
      have y019_10 : w24.cell? ⟨w7.heap.size, 10, none⟩ = some (.slice Ary mry cry) := cell_of_row _ _ 10 _ _ (0, 0) HY0.out
      have y019_f : ∀ i, w24.frozen? ⟨w7.heap.size, i, none⟩ = false := fun i => frozen_of_row _ _ i _ _ HY0.out
      go_wp2_with fail
      go_ret
      exact ⟨rfl, hB⟩

theorem laidOut : laidOutB Tryz.prog = true := by kernel_rfl
theorem own : ownKnob Tryz.prog.godebug = none := by kernel_rfl
set_option maxRecDepth 100000 in
theorem lifted (os : Os) (started : os.Started) (H : Type) (enc : TypeId × Value → H) :
    ReturnsInHanded {} Tryz.checked os 3 .any (fun w args => (Rows.fnExactApplyLabSpec.pre enc Tryz.prog Tryz.f3 [] false w args ∧ laidMetH Tryz.prog Rows.fnExactApplyLabRow.laid w) ∧ sizedMet enc Tryz.prog Tryz.f3 (OpenSpec.ofChange Rows.fnExactApplyLabSpec) false w args)
      (Rows.fnExactApplyLabSpec.post enc Tryz.prog Tryz.f3 false true false false) := by
  refine law_lifted (C := Tryz.checked) (X := fun w _ => laidMetH Tryz.prog Rows.fnExactApplyLabRow.laid w) (fun _ _ _ hh h => h.of_heap hh) own started (by kernel_rfl) Tryz.func3
    laidOut (by kernel_rfl) rfl (by kernel_rfl) Tryz.underlying4 (fun ds h => by match ds, h with | [_, _], _ => rfl)
    (ChangeSpec.witness_shaped (enc := enc) (C := Tryz.checked) (os := os) (X := fun w _ => laidMetH Tryz.prog Rows.fnExactApplyLabRow.laid w) false (World.laidAll Tryz.prog os Rows.fnExactApplyLabRow.laid) #[.slice none 0 0, .agg #[.int .i64 0, .string ⟨#[]⟩, .string ⟨#[]⟩, .string ⟨#[]⟩, .int .i64 0, .slice none 0 0, .int .i64 0, .int .i64 0, .slice none 0 0, .slice none 0 0, .slice none 0 0]] 8 (World.laidAll_os _ _ _)
      (World.shaped_of_ZipB (by kernel_rfl) (by kernel_rfl)) (by kernel_rfl) (by kernel_rfl) (by kernel_rfl)
      (by rw [MakeChecks.laidMetH_plain _ _ _ (by kernel_rfl)]; exact laidMet_laidAll _ (by kernel_rfl) (by kernel_rfl))) ?_
  intro W base args ds p hval0 hA0 hlt hL hsh
  have hval : ∀ (j : Nat) t v, Tryz.f3.params[j]? = some t → args[j]? = some v → Value.okWide Tryz.prog W .any base t v := hval0
  have hA : DataW.TrodAll enc Tryz.prog W 0 (fun _ => true) true Tryz.f3.params.toList args.toList ds p := hA0
  rw [Tryz.params3] at hA hval
  obtain ⟨v0, vs0, d0, ds0, p0, q0, hargs, rfl, rfl, h0, r0⟩ := trodAll_cons hA
  obtain ⟨v1, vs1, d1, ds1, p1, q1, rfl, rfl, rfl, h1, r1⟩ := trodAll_cons r0
  obtain ⟨rfl, rfl, rfl⟩ := trodAll_nil r1
  obtain rfl : args = #[v0, v1] := by cases args; simp_all
  obtain ⟨fuel, hf⟩ := h0
  obtain ⟨v, xs, e0, hr, hw⟩ := items_of_trod hf
  have e1 : v0 = v := by
    obtain ⟨A, m, c, rfl⟩ := okWide_slice Tryz.underlying22 (hval 0 22 v0 rfl rfl)
    simpa [Value.cells] using e0
  subst e1
  obtain ⟨cs, rfl, hsz⟩ := okWide_struct Tryz.underlying32 (hval 1 32 v1 rfl rfl)
  obtain ⟨fuel1, hf1⟩ := h1
  obtain ⟨en, va, vf, vs, vr, e2, hr1, g1, g2, g3, hlb⟩ := entry_of_trod hf1
  obtain rfl : cs = (entryL en va vf vs vr).toArray := by
    obtain ⟨l⟩ := cs
    simpa [Value.cells] using e2
  exact walk _ xs en va vf vs vr W hr hw hr1 g1 g2 g3 hlb

theorem over : Rows.FnExactApplyLabSaid :=
  OpenClaim.holds_of_wide 3 Tryz.f3 rfl rfl rfl rfl rfl rfl rfl ⟨rfl, rfl, rfl, rfl, rfl⟩ rfl rfl rfl rfl rfl (by kernel_rfl) Tryz.func3 (by kernel_rfl)
    (of_decide_eq_true (by kernel_rfl)) (by unfold Func.isWrapper; first | (rw [if_pos (by decide +kernel)]; kernel_rfl) | (rw [if_neg (by decide +kernel)]; exact ⟨rfl, rfl⟩))
    (fun os started H enc _ => lifted os started H enc)

/-- The statement: the tied card. -/
theorem proved : Rows.FnExactApplyLabCardSaid :=
  Claim7.holds_tied_plain_at .later [] [.data, .pinned] true Rows.fnExactApplyLabCard.stood.harness true
    over (fun _ h => by cases h) (by kernel_rfl) (fun _ h => by cases h) fnExactApplyLab_row_tie rfl ⟨rfl, rfl⟩ (by kernel_rfl) rfl
    (fun f fn hf hfn => by
      obtain rfl : f = 3 := Option.some.inj ((show Tryz.prog.funcNamed Rows.fnExactApplyLabRow.func = some 3 by kernel_rfl).symm.trans hf) |>.symm
      obtain rfl : fn = Tryz.f3 := (Option.some.inj (Tryz.func3.symm.trans hfn)).symm
      exact ⟨by kernel_rfl, fun j t ht => by
        rw [Tryz.params3] at ht
        have hm : t ∈ [22, 32] := by simpa using Array.mem_of_getElem? ht
        have hall : ([22, 32].all fun u => !Tryz.prog.wantsStandIn u) = true := by kernel_rfl
        exact (show Tryz.prog.wantsStandIn t = false by simpa using List.all_eq_true.1 hall t hm)⟩)
    (by kernel_rfl)
#print axioms proved
end Go.Proofs.YtkbkbjcpblajjaaGreatDoor.fnExactApplyLab
