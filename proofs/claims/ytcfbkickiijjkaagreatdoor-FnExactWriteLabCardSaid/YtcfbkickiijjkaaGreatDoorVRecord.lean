/-
  The reference's srRecord and the program's recordOf: the text of a record.
-/
import Derived.Test.YtcfbkickiijjkaaGreatDoorVPlainRecord
namespace Go.Proofs.YtcfbkickiijjkaaGreatDoor
open Go.RowKit
set_option linter.all false
theorem entryT_len {e : Entry} (h : entryP e) : (entryT e).length ≤ 60000100 := by
  rcases kd_text h with ⟨h1, h2, h3, h4, h5⟩ | ⟨h1, h2, h3, h4, h5⟩ | ⟨h1, h2, h3, h4, h5⟩
  · rw [h5]
    exact Nat.le_trans (putT_len h4 (storeP.okI (xs := [e.it]) (fun x hx => by simp at hx; subst hx; exact h4) e.it (by simp)).1) (by omega)
  · rw [h5]
    have := h2.2.2
    simp only [List.length_append, List.length_cons, dropW, List.length_nil]
    omega
  · rw [h5]
    have := h2.2.2
    have := h3.2.2
    simp only [List.length_append, List.length_cons, nameW, List.length_nil]
    omega
set_option maxRecDepth 100000 in
set_option maxHeartbeats 1000000 in
theorem spec_srRecord (en : Entry) (va vf vs vr : Value) (g : Int) (w : World) (hi : ItemR w w.heap.size en.it va vf vs vr) (hz : szEntry en ≤ 1048576) (hen : entryP en) (hg0 : 0 ≤ g) (hg : g ≤ 100000) :
  Calls Tryz.prog 38 #[entryV en va vf vs vr, .int .i64 g] w fun e w' => e = .returned (strV (recT g en)) ∧ Below w.heap.size w w' := by
 obtain ⟨Aa, ma, ca, rfl⟩ := hi.a.isSlice'
 obtain ⟨Af, mf, cf, rfl⟩ := hi.f.isSlice
 obtain ⟨As, ms, cs, rfl⟩ := hi.s.isSlice
 obtain ⟨Ar, mr, cr, rfl⟩ := hi.r.isSlice'
 have Re := Lib.hid hi; clear hi
 have HE := Lib.hid hen; clear hen
 have hlE := entryT_len HE.out
 have hlN := numT_len (M := 100000) (x := g) hg0 hg
 have HR := Lib.hid (show recT g en = ((((numT g ++ [32]) ++ entryT en) ++ [32, 35]) ++ numT (sumOf ((numT g ++ [32]) ++ entryT en))) ++ [10] from rfl)
 obtain ⟨ET, hET⟩ : ∃ T, T = entryT en := ⟨_, rfl⟩
 obtain ⟨NG, hNG⟩ : ∃ T, T = numT g := ⟨_, rfl⟩
 have JN := Lib.hid (fun (W : World) (hW : Below w.heap.size w W) => show Calls Tryz.prog 58 #[.int .i64 g] W fun e w' => e = .returned (strV NG) ∧ Below W.heap.size W w' by rw [hNG]; exact spec_l1Num g W hg0 (by omega))
 have JT := Lib.hid (fun (W : World) (hW : Below w.heap.size w W) (h : ItemR W W.heap.size en.it (.slice Aa ma ca) (.slice Af mf cf) (.slice As ms cs) (.slice Ar mr cr)) => show Calls Tryz.prog 59 #[entryV en (.slice Aa ma ca) (.slice Af mf cf) (.slice As ms cs) (.slice Ar mr cr)] W fun e w' => e = .returned (strV ET) ∧ Below W.heap.size W w' by rw [hET]; exact spec_srText en _ _ _ _ W h hz HE.out)
 rw [← hET, ← hNG] at HR
 rw [← hET] at hlE
 rw [← hNG] at hlN
 clear hET hNG
 obtain ⟨T1, hT1⟩ : ∃ T, T = NG ++ [32] := ⟨_, rfl⟩
 have lT1 : T1.length ≤ 100000000 * 1 := by rw [hT1]; simp only [List.length_append, List.length_cons, List.length_nil]; omega
 have kT1 : ∀ W, (binOp .add 9 (strV NG) (.string ⟨#[32]⟩)).run Tryz.prog W = .ok (strV T1) W := by rw [hT1]; exact cat_vc NG ⟨#[32]⟩ (by have : (ByteArray.mk #[32]).size = 1 := rfl; omega)
 obtain ⟨T2, hT2⟩ : ∃ T, T = T1 ++ ET := ⟨_, rfl⟩
 have lT2 : T2.length ≤ 100000000 * 2 := by rw [hT2]; simp only [List.length_append, List.length_cons, List.length_nil]; omega
 have kT2 : ∀ W, (binOp .add 9 (strV T1) (strV ET)).run Tryz.prog W = .ok (strV T2) W := by rw [hT2]; exact cat_vv T1 ET (by omega)
 rw [← hT1, ← hT2] at HR
 have hsm := sumOf_bd T2
 obtain ⟨Sm, hSm⟩ : ∃ T, T = sumOf T2 := ⟨_, rfl⟩
 rw [← hSm] at hsm
 obtain ⟨Dg, hDg⟩ : ∃ T, T = numT Sm := ⟨_, rfl⟩
 have n3 := numT_len (M := 100000) (x := Sm) hsm.1 (by omega)
 rw [← hDg] at n3
 have JS := Lib.hid (fun (W : World) => show Calls Tryz.prog 60 #[strV T2] W fun e w' => e = .returned (.int .i64 Sm) ∧ Below W.heap.size W w' by
  rw [hSm]
  exact (spec_sum ⟨T2.toArray⟩ W (by rw [Lib.size_eq]; show T2.length ≤ _; omega)).mono fun _ _ h => ⟨h.1, by rw [← h.2]; exact Below.refl _ _⟩)
 have JD := Lib.hid (fun (W : World) (hW : Below w.heap.size w W) => show Calls Tryz.prog 58 #[.int .i64 Sm] W fun e w' => e = .returned (strV Dg) ∧ Below W.heap.size W w' by rw [hDg]; exact spec_l1Num Sm W (by omega) (by omega))
 rw [← hSm, ← hDg] at HR
 clear hSm hDg
 obtain ⟨Q1, hQ1⟩ : ∃ T, T = T2 ++ [32, 35] := ⟨_, rfl⟩
 have lQ1 : Q1.length ≤ 1000000000 * 1 := by rw [hQ1]; simp only [List.length_append, List.length_cons, List.length_nil]; omega
 have kQ1 : ∀ W, (binOp .add 9 (strV T2) (.string ⟨#[32, 35]⟩)).run Tryz.prog W = .ok (strV Q1) W := by rw [hQ1]; exact cat_vc T2 ⟨#[32, 35]⟩ (by have : (ByteArray.mk #[32, 35]).size = 2 := rfl; omega)
 obtain ⟨Q2, hQ2⟩ : ∃ T, T = Q1 ++ Dg := ⟨_, rfl⟩
 have lQ2 : Q2.length ≤ 1000000000 * 2 := by rw [hQ2]; simp only [List.length_append, List.length_cons, List.length_nil]; omega
 have kQ2 : ∀ W, (binOp .add 9 (strV Q1) (strV Dg)).run Tryz.prog W = .ok (strV Q2) W := by rw [hQ2]; exact cat_vv Q1 Dg (by omega)
 obtain ⟨Q3, hQ3⟩ : ∃ T, T = Q2 ++ [10] := ⟨_, rfl⟩
 have lQ3 : Q3.length ≤ 1000000000 * 3 := by rw [hQ3]; simp only [List.length_append, List.length_cons, List.length_nil]; omega
 have kQ3 : ∀ W, (binOp .add 9 (strV Q2) (.string ⟨#[10]⟩)).run Tryz.prog W = .ok (strV Q3) W := by rw [hQ3]; exact cat_vc Q2 ⟨#[10]⟩ (by have : (ByteArray.mk #[10]).size = 1 := rfl; omega)
 have HF := Lib.hid (show Q3 = recT g en by rw [hQ3, hQ2, hQ1, HR.out])
 clear hQ1 hQ2 hQ3 hT1 hT2 HR
 have hB := Below.refl w.heap.size w
 obtain ⟨w0, hw0⟩ : ∃ z, z = w.alloc (.cells #[.int .i64 en.kd, .string en.nm, .string en.tn, .string en.it.nm, .int .i64 en.it.n, .slice Aa ma ca, .int .i64 en.it.cl, .int .i64 en.it.lb, .slice Af mf cf, .slice As ms cs, .slice Ar mr cr] 55) := ⟨_, rfl⟩
 have hba0 : Below w.heap.size w w0 := by rw [hw0]; exact bl_alloc (Below.refl _ _) _
 have HE0 := Lib.hid (show w0.heap[w.heap.size]? = some (.cells #[.int .i64 en.kd, .string en.nm, .string en.tn, .string en.it.nm, .int .i64 en.it.n, .slice Aa ma ca, .int .i64 en.it.cl, .int .i64 en.it.lb, .slice Af mf cf, .slice As ms cs, .slice Ar mr cr] 55) by rw [hw0]; exact heap_alloc_new w _)
 have hl0 : w.heap.size < w0.heap.size := by rw [hw0]; simp
 have HW0 := Lib.hid hw0; clear hw0
 have hz1 := hba0.size
 replace hB := bl_trans hB hba0
 replace Re := Lib.hid (Re.out.below (hba0.mono (by omega)))
 go_enter Tryz.func38, Tryz.ntmps38
 go_wp2_with fail
 rw [← HW0.out]
 have e01 := cells11 HE0
 refine wp_region_held_drew (S := (fun w' => w'.cell? ⟨w.heap.size, 0, none⟩ = some (.int .i64 en.kd) ∧ w'.cell? ⟨w.heap.size, 1, none⟩ = some (.string en.nm) ∧ w'.cell? ⟨w.heap.size, 2, none⟩ = some (.string en.tn) ∧ w'.cell? ⟨w.heap.size, 3, none⟩ = some (.string en.it.nm) ∧ w'.cell? ⟨w.heap.size, 4, none⟩ = some (.int .i64 en.it.n) ∧ w'.cell? ⟨w.heap.size, 5, none⟩ = some (.slice Aa ma ca) ∧ w'.cell? ⟨w.heap.size, 6, none⟩ = some (.int .i64 en.it.cl) ∧ w'.cell? ⟨w.heap.size, 7, none⟩ = some (.int .i64 en.it.lb) ∧ w'.cell? ⟨w.heap.size, 8, none⟩ = some (.slice Af mf cf) ∧ w'.cell? ⟨w.heap.size, 9, none⟩ = some (.slice As ms cs) ∧ w'.cell? ⟨w.heap.size, 10, none⟩ = some (.slice Ar mr cr))) (by kernel_rfl) ?_ (fun hHeld => ?_)
 ·
  go_keep
 have hz2 := (Below.refl w0.heap.size w0).drew.size
 replace hB := bl_trans hB (Below.refl w0.heap.size w0).drew
 clear e01
 replace HE0 := Lib.hid (((Below.refl w0.heap.size w0).drew.block (w.heap.size) (show w.heap.size < w0.heap.size by omega)).trans HE0.out)
 replace Re := Lib.hid (Re.out.below ((Below.refl w0.heap.size w0).drew.mono (by omega)))
 have e02 := cells11 HE0
 refine tk 0 6 rfl rfl ?_
 try simp only [pu]
 refine tk 3 9 rfl rfl ?_
 try simp only [pu]
 refine take_ready 1 rfl (by kernel_rfl) (fun K hK => ?_)
 go_simp
 go_at_call 58
 refine (JN.out w0.drew hB).mono ?_
 rintro e w1 ⟨rfl, hb1⟩
 have hz3 := hb1.size
 replace hB := bl_trans hB hb1
 clear e02
 replace HE0 := bk HE0 hb1
 replace Re := Lib.hid (Re.out.below (hb1.mono (by omega)))
 have e03 := cells11 HE0
 refine hK.out _ _ ?_ (fun hHeld => ?_)
 ·
  go_keep
 clear hK K
 try simp only [pu]
 refine tk 2 8 rfl rfl ?_
 try simp only [pu]
 refine take_ready 4 rfl (by kernel_rfl) (fun K hK => ?_)
 go_simp
 go_at_call 59
 refine (JT.out w1 hB (Re.out.more (show w.heap.size ≤ w1.heap.size by omega))).mono ?_
 rintro e w2 ⟨rfl, hb2⟩
 have hz4 := hb2.size
 replace hB := bl_trans hB hb2
 clear e03
 replace HE0 := bk HE0 hb2
 replace Re := Lib.hid (Re.out.below (hb2.mono (by omega)))
 have e04 := cells11 HE0
 refine hK.out _ _ ?_ (fun hHeld => ?_)
 ·
  go_keep
 clear hK K
 try simp only [pu]
 refine tk 5 11 rfl rfl ?_
 try simp only [pu]
 refine tk 6 5 rfl rfl ?_
 try simp only [pu]
 refine wpAnyH_done (by kernel_rfl) ?_ _
 go_wp2_with fail
 refine (JS.out w2).mono ?_
 rintro e w3 ⟨rfl, hb3⟩
 have hz5 := hb3.size
 replace hB := bl_trans hB hb3
 clear e04
 replace HE0 := bk HE0 hb3
 replace Re := Lib.hid (Re.out.below (hb3.mono (by omega)))
 go_wp2_with fail
 refine (JD.out w3 hB).mono ?_
 rintro e w4 ⟨rfl, hb4⟩
 have hz6 := hb4.size
 replace hB := bl_trans hB hb4
 replace HE0 := bk HE0 hb4
 replace Re := Lib.hid (Re.out.below (hb4.mono (by omega)))
 go_wp2_with fail
 go_ret
 rw [← HF.out]
 exact ⟨rfl, hB⟩
set_option maxRecDepth 100000 in
set_option maxHeartbeats 1000000 in
theorem impl_recordOf (en : Entry) (va vf vs vr : Value) (g : Int) (w : World) (hi : ItemR w w.heap.size en.it va vf vs vr) (hz : szEntry en ≤ 1048576) (hen : entryP en) (hg0 : 0 ≤ g) (hg : g ≤ 100000) (hp : Pow10 w) :
  Calls Tryz.prog 41 #[entryV en va vf vs vr, .int .i64 g] w fun e w' => e = .returned (strV (recT g en)) ∧ Below w.heap.size w w' := by
 obtain ⟨Aa, ma, ca, rfl⟩ := hi.a.isSlice'
 obtain ⟨Af, mf, cf, rfl⟩ := hi.f.isSlice
 obtain ⟨As, ms, cs, rfl⟩ := hi.s.isSlice
 obtain ⟨Ar, mr, cr, rfl⟩ := hi.r.isSlice'
 have Re := Lib.hid hi; clear hi
 have HE := Lib.hid hen; clear hen
 have HP := Lib.hid hp; clear hp
 have hlE := entryT_len HE.out
 have hlN := numT_len (M := 100000) (x := g) hg0 hg
 have HR := Lib.hid (show recT g en = ((((numT g ++ [32]) ++ entryT en) ++ [32, 35]) ++ numT (sumOf ((numT g ++ [32]) ++ entryT en))) ++ [10] from rfl)
 obtain ⟨ET, hET⟩ : ∃ T, T = entryT en := ⟨_, rfl⟩
 obtain ⟨NG, hNG⟩ : ∃ T, T = numT g := ⟨_, rfl⟩
 have JN := Lib.hid (fun (W : World) (hW : Below w.heap.size w W) => show Calls Tryz.prog 68 #[.int .i64 g] W fun e w' => e = .returned (strV NG) ∧ Below W.heap.size W w' by rw [hNG]; exact impl_Itoa g W hg0 (by omega) (HP.out.below hW))
 have JT := Lib.hid (fun (W : World) (hW : Below w.heap.size w W) (h : ItemR W W.heap.size en.it (.slice Aa ma ca) (.slice Af mf cf) (.slice As ms cs) (.slice Ar mr cr)) => show Calls Tryz.prog 69 #[entryV en (.slice Aa ma ca) (.slice Af mf cf) (.slice As ms cs) (.slice Ar mr cr)] W fun e w' => e = .returned (strV ET) ∧ Below W.heap.size W w' by rw [hET]; exact impl_labEntryText en _ _ _ _ W h hz HE.out (HP.out.below hW))
 rw [← hET, ← hNG] at HR
 rw [← hET] at hlE
 rw [← hNG] at hlN
 clear hET hNG
 obtain ⟨T1, hT1⟩ : ∃ T, T = NG ++ [32] := ⟨_, rfl⟩
 have lT1 : T1.length ≤ 100000000 * 1 := by rw [hT1]; simp only [List.length_append, List.length_cons, List.length_nil]; omega
 have kT1 : ∀ W, (binOp .add 9 (strV NG) (.string ⟨#[32]⟩)).run Tryz.prog W = .ok (strV T1) W := by rw [hT1]; exact cat_vc NG ⟨#[32]⟩ (by have : (ByteArray.mk #[32]).size = 1 := rfl; omega)
 obtain ⟨T2, hT2⟩ : ∃ T, T = T1 ++ ET := ⟨_, rfl⟩
 have lT2 : T2.length ≤ 100000000 * 2 := by rw [hT2]; simp only [List.length_append, List.length_cons, List.length_nil]; omega
 have kT2 : ∀ W, (binOp .add 9 (strV T1) (strV ET)).run Tryz.prog W = .ok (strV T2) W := by rw [hT2]; exact cat_vv T1 ET (by omega)
 rw [← hT1, ← hT2] at HR
 have hsm := sumOf_bd T2
 obtain ⟨Sm, hSm⟩ : ∃ T, T = sumOf T2 := ⟨_, rfl⟩
 rw [← hSm] at hsm
 obtain ⟨Dg, hDg⟩ : ∃ T, T = numT Sm := ⟨_, rfl⟩
 have n3 := numT_len (M := 100000) (x := Sm) hsm.1 (by omega)
 rw [← hDg] at n3
 have JS := Lib.hid (fun (W : World) => show Calls Tryz.prog 70 #[strV T2] W fun e w' => e = .returned (.int .i64 Sm) ∧ Below W.heap.size W w' by
  rw [hSm]
  exact impl_sum ⟨T2.toArray⟩ W (by rw [Lib.size_eq]; show T2.length ≤ _; omega))
 have JD := Lib.hid (fun (W : World) (hW : Below w.heap.size w W) => show Calls Tryz.prog 68 #[.int .i64 Sm] W fun e w' => e = .returned (strV Dg) ∧ Below W.heap.size W w' by rw [hDg]; exact impl_Itoa Sm W (by omega) (by omega) (HP.out.below hW))
 rw [← hSm, ← hDg] at HR
 clear hSm hDg
 obtain ⟨Q1, hQ1⟩ : ∃ T, T = T2 ++ [32, 35] := ⟨_, rfl⟩
 have lQ1 : Q1.length ≤ 1000000000 * 1 := by rw [hQ1]; simp only [List.length_append, List.length_cons, List.length_nil]; omega
 have kQ1 : ∀ W, (binOp .add 9 (strV T2) (.string ⟨#[32, 35]⟩)).run Tryz.prog W = .ok (strV Q1) W := by rw [hQ1]; exact cat_vc T2 ⟨#[32, 35]⟩ (by have : (ByteArray.mk #[32, 35]).size = 2 := rfl; omega)
 obtain ⟨Q2, hQ2⟩ : ∃ T, T = Q1 ++ Dg := ⟨_, rfl⟩
 have lQ2 : Q2.length ≤ 1000000000 * 2 := by rw [hQ2]; simp only [List.length_append, List.length_cons, List.length_nil]; omega
 have kQ2 : ∀ W, (binOp .add 9 (strV Q1) (strV Dg)).run Tryz.prog W = .ok (strV Q2) W := by rw [hQ2]; exact cat_vv Q1 Dg (by omega)
 obtain ⟨Q3, hQ3⟩ : ∃ T, T = Q2 ++ [10] := ⟨_, rfl⟩
 have lQ3 : Q3.length ≤ 1000000000 * 3 := by rw [hQ3]; simp only [List.length_append, List.length_cons, List.length_nil]; omega
 have kQ3 : ∀ W, (binOp .add 9 (strV Q2) (.string ⟨#[10]⟩)).run Tryz.prog W = .ok (strV Q3) W := by rw [hQ3]; exact cat_vc Q2 ⟨#[10]⟩ (by have : (ByteArray.mk #[10]).size = 1 := rfl; omega)
 have HF := Lib.hid (show Q3 = recT g en by rw [hQ3, hQ2, hQ1, HR.out])
 clear hQ1 hQ2 hQ3 hT1 hT2 HR
 have hB := Below.refl w.heap.size w
 obtain ⟨w0, hw0⟩ : ∃ z, z = w.alloc (.cells #[.int .i64 en.kd, .string en.nm, .string en.tn, .string en.it.nm, .int .i64 en.it.n, .slice Aa ma ca, .int .i64 en.it.cl, .int .i64 en.it.lb, .slice Af mf cf, .slice As ms cs, .slice Ar mr cr] 55) := ⟨_, rfl⟩
 have hba0 : Below w.heap.size w w0 := by rw [hw0]; exact bl_alloc (Below.refl _ _) _
 have HE0 := Lib.hid (show w0.heap[w.heap.size]? = some (.cells #[.int .i64 en.kd, .string en.nm, .string en.tn, .string en.it.nm, .int .i64 en.it.n, .slice Aa ma ca, .int .i64 en.it.cl, .int .i64 en.it.lb, .slice Af mf cf, .slice As ms cs, .slice Ar mr cr] 55) by rw [hw0]; exact heap_alloc_new w _)
 have hl0 : w.heap.size < w0.heap.size := by rw [hw0]; simp
 have HW0 := Lib.hid hw0; clear hw0
 have hz1 := hba0.size
 replace hB := bl_trans hB hba0
 replace Re := Lib.hid (Re.out.below (hba0.mono (by omega)))
 go_enter Tryz.func41, Tryz.ntmps41
 go_wp2_with fail
 rw [← HW0.out]
 have e01 := cells11 HE0
 refine wp_region_held_drew (S := (fun w' => w'.cell? ⟨w.heap.size, 0, none⟩ = some (.int .i64 en.kd) ∧ w'.cell? ⟨w.heap.size, 1, none⟩ = some (.string en.nm) ∧ w'.cell? ⟨w.heap.size, 2, none⟩ = some (.string en.tn) ∧ w'.cell? ⟨w.heap.size, 3, none⟩ = some (.string en.it.nm) ∧ w'.cell? ⟨w.heap.size, 4, none⟩ = some (.int .i64 en.it.n) ∧ w'.cell? ⟨w.heap.size, 5, none⟩ = some (.slice Aa ma ca) ∧ w'.cell? ⟨w.heap.size, 6, none⟩ = some (.int .i64 en.it.cl) ∧ w'.cell? ⟨w.heap.size, 7, none⟩ = some (.int .i64 en.it.lb) ∧ w'.cell? ⟨w.heap.size, 8, none⟩ = some (.slice Af mf cf) ∧ w'.cell? ⟨w.heap.size, 9, none⟩ = some (.slice As ms cs) ∧ w'.cell? ⟨w.heap.size, 10, none⟩ = some (.slice Ar mr cr))) (by kernel_rfl) ?_ (fun hHeld => ?_)
 ·
  go_keep
 have hz2 := (Below.refl w0.heap.size w0).drew.size
 replace hB := bl_trans hB (Below.refl w0.heap.size w0).drew
 clear e01
 replace HE0 := Lib.hid (((Below.refl w0.heap.size w0).drew.block (w.heap.size) (show w.heap.size < w0.heap.size by omega)).trans HE0.out)
 replace Re := Lib.hid (Re.out.below ((Below.refl w0.heap.size w0).drew.mono (by omega)))
 have e02 := cells11 HE0
 refine tk 0 6 rfl rfl ?_
 try simp only [pu]
 refine tk 3 9 rfl rfl ?_
 try simp only [pu]
 refine take_ready 1 rfl (by kernel_rfl) (fun K hK => ?_)
 go_simp
 go_at_call 68
 refine (JN.out w0.drew hB).mono ?_
 rintro e w1 ⟨rfl, hb1⟩
 have hz3 := hb1.size
 replace hB := bl_trans hB hb1
 clear e02
 replace HE0 := bk HE0 hb1
 replace Re := Lib.hid (Re.out.below (hb1.mono (by omega)))
 have e03 := cells11 HE0
 refine hK.out _ _ ?_ (fun hHeld => ?_)
 ·
  go_keep
 clear hK K
 try simp only [pu]
 refine tk 2 8 rfl rfl ?_
 try simp only [pu]
 refine take_ready 4 rfl (by kernel_rfl) (fun K hK => ?_)
 go_simp
 go_at_call 69
 refine (JT.out w1 hB (Re.out.more (show w.heap.size ≤ w1.heap.size by omega))).mono ?_
 rintro e w2 ⟨rfl, hb2⟩
 have hz4 := hb2.size
 replace hB := bl_trans hB hb2
 clear e03
 replace HE0 := bk HE0 hb2
 replace Re := Lib.hid (Re.out.below (hb2.mono (by omega)))
 have e04 := cells11 HE0
 refine hK.out _ _ ?_ (fun hHeld => ?_)
 ·
  go_keep
 clear hK K
 try simp only [pu]
 refine tk 5 11 rfl rfl ?_
 try simp only [pu]
 refine tk 6 5 rfl rfl ?_
 try simp only [pu]
 refine wpAnyH_done (by kernel_rfl) ?_ _
 go_wp2_with fail
 refine (JS.out w2).mono ?_
 rintro e w3 ⟨rfl, hb3⟩
 have hz5 := hb3.size
 replace hB := bl_trans hB hb3
 clear e04
 replace HE0 := bk HE0 hb3
 replace Re := Lib.hid (Re.out.below (hb3.mono (by omega)))
 go_wp2_with fail
 refine (JD.out w3 hB).mono ?_
 rintro e w4 ⟨rfl, hb4⟩
 have hz6 := hb4.size
 replace hB := bl_trans hB hb4
 replace HE0 := bk HE0 hb4
 replace Re := Lib.hid (Re.out.below (hb4.mono (by omega)))
 go_wp2_with fail
 go_ret
 rw [← HF.out]
 exact ⟨rfl, hB⟩
end Go.Proofs.YtcfbkickiijjkaaGreatDoor
