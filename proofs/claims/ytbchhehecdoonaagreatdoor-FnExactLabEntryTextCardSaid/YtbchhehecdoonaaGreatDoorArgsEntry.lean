/-
  The laws' own functions over entries: szLabEntry, toLabEntry, eqLabEntry.
-/
import Derived.Test.YtbchhehecdoonaaGreatDoorRows
import Derived.Test.YtbchhehecdoonaaGreatDoorKit
import Derived.Test.YtbchhehecdoonaaGreatDoorMem
import Derived.Test.YtbchhehecdoonaaGreatDoorArgs
import Derived.Test.YtbchhehecdoonaaGreatDoorArgsCert
import Derived.Test.YtbchhehecdoonaaGreatDoorArgsItem
import Derived.Test.YtbchhehecdoonaaGreatDoorEntry
import Derived.WalkKit
import Derived.WalkSpells
import Derived.WalkLawsBesides
import Derived.Lib.Hide
namespace Go.Proofs.YtbchhehecdoonaaGreatDoor
open Go.RowKit
set_option linter.unusedVariables false
set_option linter.unusedSimpArgs false

theorem sz_Entry (en : Entry) (va vf vs vr : Value) (left : Int) (w : World) (h : ItemR w w.heap.size en.it va vf vs vr) (h1 : en.nm.size ≤ maxLen) (h2 : en.tn.size ≤ maxLen) (h3 : en.it.nm.size ≤ maxLen) (hl : 0 ≤ left) (hl' : left ≤ 1048576) :
    Calls Tryz.prog 7 #[entryV en va vf vs vr, .int .i64 left] w fun e w' => e = .returned (.int .i64 (szR left (szEntry en))) ∧ Below w.heap.size w w' := by
  unfold maxLen at h1 h2
  have HH := Lib.hid h; clear h
  have HS := Lib.hid (show szEntry en = en.nm.size + en.tn.size + szItem en.it from rfl)
  obtain ⟨kd, nm, tn, ⟨inm, n, xss, cl, lb, f, s, rs⟩⟩ := en
  dsimp only at *
  generalize szEntry ⟨kd, nm, tn, ⟨inm, n, xss, cl, lb, f, s, rs⟩⟩ = N at *
  have hb0 := bl_alloc (Below.refl w.heap.size w) (.cells #[.int .i64 kd, .string nm, .string tn, .string inm, .int .i64 n, va, .int .i64 cl, .int .i64 lb, vf, vs, vr] 31)
  have HB := Lib.hid (Box11.new w 31 (.int .i64 kd) (.string nm) (.string tn) (.string inm) (.int .i64 n) va (.int .i64 cl) (.int .i64 lb) vf vs vr)
  by_cases q0 : (nm.size : Int) ≤ left
  · by_cases q1 : (tn.size : Int) ≤ left - nm.size
    · go_enter Tryz.func7, Tryz.ntmps7
      go_wp2_with fail
      generalize w.alloc (.cells #[.int .i64 kd, .string nm, .string tn, .string inm, .int .i64 n, va, .int .i64 cl, .int .i64 lb, vf, vs, vr] 31) = w0 at *
      refine (sz_Item ⟨inm, n, xss, cl, lb, f, s, rs⟩ va vf vs vr (left - nm.size - tn.size) w0 (HH.out.up hb0) h3 (by omega) (by omega)).mono ?_
      rintro e w1 ⟨rfl, hb1⟩
      have hB1 := bl_trans hb0 hb1
      have E1 := Lib.hid (show szR (left - nm.size - tn.size) (szItem ⟨inm, n, xss, cl, lb, f, s, rs⟩) = szR left N by rw [HS.out, Nat.add_assoc, ← szR_add (m := nm.size) q0, ← szR_add (m := tn.size) q1])
      rw [E1.out]
      have hz := szR_le (left := left) (n := N) hl
      by_cases q3 : szR left N < 0
      · have H := Lib.hid (show szR left N = -1 from szR_m1 q3)
        go_wp2_with fail
        go_ret
        exact ⟨ret_int H.out.symm, hB1⟩
      · go_wp2_with fail
        go_ret
        exact ⟨rfl, hB1⟩
    · have H := Lib.hid (show szR left N = -1 by rw [HS.out]; unfold szR; rw [if_neg (by omega)])
      go_enter Tryz.func7, Tryz.ntmps7
      go_wp2_with fail
      go_ret
      exact ⟨ret_int H.out.symm, hb0⟩
  · have H := Lib.hid (show szR left N = -1 by rw [HS.out]; unfold szR; rw [if_neg (by omega)])
    go_enter Tryz.func7, Tryz.ntmps7
    go_wp2_with fail
    go_ret
    exact ⟨ret_int H.out.symm, hb0⟩

theorem eq_Entry (en : Entry) (va vf vs vr va' vf' vs' vr' : Value) (w : World) (h : ItemR w w.heap.size en.it va vf vs vr) (h' : ItemR w w.heap.size en.it va' vf' vs' vr') :
    Calls Tryz.prog 11 #[entryV en va vf vs vr, entryV en va' vf' vs' vr'] w fun e w' => e = .returned (.bool true) ∧ Below w.heap.size w w' := by
  have HH := Lib.hid h; clear h
  have HH' := Lib.hid h'; clear h'
  obtain ⟨kd, nm, tn, ⟨inm, n, xss, cl, lb, f, s, rs⟩⟩ := en
  dsimp only at *
  have hb0 := bl_alloc (bl_alloc (Below.refl w.heap.size w) (.cells #[.int .i64 kd, .string nm, .string tn, .string inm, .int .i64 n, va, .int .i64 cl, .int .i64 lb, vf, vs, vr] 40)) (.cells #[.int .i64 kd, .string nm, .string tn, .string inm, .int .i64 n, va', .int .i64 cl, .int .i64 lb, vf', vs', vr'] 40)
  have hq : (nm.toList == nm.toList) = true := by simp
  have hq2 : (tn.toList == tn.toList) = true := by simp
  go_enter Tryz.func11, Tryz.ntmps11
  go_wp2_with fail
  generalize (w.alloc (.cells #[.int .i64 kd, .string nm, .string tn, .string inm, .int .i64 n, va, .int .i64 cl, .int .i64 lb, vf, vs, vr] 40)).alloc (.cells #[.int .i64 kd, .string nm, .string tn, .string inm, .int .i64 n, va', .int .i64 cl, .int .i64 lb, vf', vs', vr'] 40) = w0 at *
  refine (eq_Item ⟨inm, n, xss, cl, lb, f, s, rs⟩ va vf vs vr va' vf' vs' vr' w0 (HH.out.up hb0) (HH'.out.up hb0)).mono ?_
  rintro e w1 ⟨rfl, hb1⟩
  go_wp2_with fail
  go_ret
  exact ⟨rfl, bl_trans hb0 hb1⟩

theorem to_Entry (en : Entry) (va vf vs vr : Value) (w : World) (h : ItemR w w.heap.size en.it va vf vs vr) (hz : szEntry en ≤ 1048576) :
    Calls Tryz.prog 9 #[entryV en va vf vs vr] w fun e w' => ∃ va' vf' vs' vr' bs, e = .returned (entryV en va' vf' vs' vr') ∧ OwnItem w' en.it va' vf' vs' vr' bs ∧ bs.Nodup ∧ (∀ b ∈ bs, w.heap.size ≤ b ∧ b < w'.heap.size) ∧ Below w.heap.size w w' := by
  have HH := Lib.hid h; clear h
  have hz1 := (nm_len hz).2.2.2
  obtain ⟨kd, nm, tn, ⟨inm, n, xss, cl, lb, f, s, rs⟩⟩ := en
  dsimp only at *
  have HZ := Lib.hid hz; clear hz
  go_enter Tryz.func9, Tryz.ntmps9
  go_wp2_with fail
  refine (to_Item ⟨inm, n, xss, cl, lb, f, s, rs⟩ va vf vs vr _ ((HH.out.below (by repeat (first | exact Below.refl _ _ | refine bl_alloc ?_ _ | refine Below.setCell ?_ (by simp <;> omega) _))).more (by simp; omega)) hz1).mono ?_
  rintro e w1 ⟨va1, vf1, vs1, vr1, b1, rfl, ho1, hn1, hbs1, hb1⟩
  obtain ⟨A1, m1, k1, rfl⟩ := (ho1.reads (B := w1.heap.size) (fun b hb => (hbs1 b hb).2)).a.isSlice'
  obtain ⟨A2, m2, k2, rfl⟩ := (ho1.reads (B := w1.heap.size) (fun b hb => (hbs1 b hb).2)).f.isSlice
  obtain ⟨A3, m3, k3, rfl⟩ := (ho1.reads (B := w1.heap.size) (fun b hb => (hbs1 b hb).2)).s.isSlice
  obtain ⟨A4, m4, k4, rfl⟩ := (ho1.reads (B := w1.heap.size) (fun b hb => (hbs1 b hb).2)).r.isSlice'
  obtain ⟨hc1, hf1⟩ := bx (w.heap.size + 1) hb1 (by simp)
  obtain ⟨hc2, hf2⟩ := bx (w.heap.size + 1 + 1) hb1 (by simp)
  have hs1 := hb1.size
  simp at hs1 hbs1
  have hall1 := bl_trans (show Below w.heap.size w _ by repeat (first | exact Below.refl _ _ | refine bl_alloc ?_ _ | refine Below.setCell ?_ (by simp <;> omega) _)) hb1
  have HO := Lib.hid ho1; clear ho1
  have HN := Lib.hid hn1; clear hn1
  have HBS := Lib.hid hbs1; clear hbs1
  go_wp2_with fail
  refine bodyPost_ret (v := entryV ⟨kd, nm, tn, ⟨inm, n, xss, cl, lb, f, s, rs⟩⟩ (.slice A1 m1 k1) (.slice A2 m2 k2) (.slice A3 m3 k3) (.slice A4 m4 k4)) (by simp [results, Tryz.results9, go_sem, hc1]) rfl ⟨_, _, _, _, _, rfl, ?_, HN.out, ?_, ?_⟩
  · refine HO.out.keep fun b hb => ?_
    have := HBS.out b hb
    repeat rw [Below.heap_setCell _ _ _ _ (by simp; omega)]
  · intro b hb
    have := HBS.out b hb
    simp only [size_setCell]
    omega
  · iterate 19 (refine Below.setCell ?_ (by simp <;> omega) _)
    exact hall1
end Go.Proofs.YtbchhehecdoonaaGreatDoor
