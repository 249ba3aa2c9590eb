/-
  The laws' own functions over certificates of walk problems: szWalkCertificate, toWalkCertificate, eqWalkCertificate.
-/
import Derived.Test.YtcfbkickiijjkaaGreatDoorVZ
namespace Go.Proofs.YtcfbkickiijjkaaGreatDoor
open Go.RowKit
set_option linter.all false
abbrev certV (cl lb : Int) (vf vs vr : Value) : Value := .agg #[.int .i64 cl, .int .i64 lb, vf, vs, vr]
def szCert (f s : List Int) (rs : List (List Int)) : Nat := f.length + s.length + szRows rs
theorem szR_pos {left : Int} {n : Nat} (h : ¬ szR left n < 0) : (n : Int) ≤ left ∧ szR left n = left - n := by
  unfold szR at *
  split at h <;> simp_all
theorem szR_m1 {left : Int} {n : Nat} (h : szR left n < 0) : szR left n = -1 := by
  unfold szR at *
  split at h <;> split <;> omega
theorem sz_Cert (cl lb : Int) (vf vs vr : Value) (f s : List Int) (rs : List (List Int)) (left : Int) (w : World) (hf : IntsR w w.heap.size vf f) (hs : IntsR w w.heap.size vs s) (hr : RowsR w w.heap.size vr rs) (hl : 0 ≤ left) (hl' : left ≤ 1048576) :
  Calls Tryz.prog 52 #[certV cl lb vf vs vr, .int .i64 left] w fun e w' => e = .returned (.int .i64 (szR left (szCert f s rs))) ∧ Below w.heap.size w w' := by
 have HR := Lib.hid hr
 obtain ⟨Af, cf, rfl, f1, f2, f3⟩ := hf.open_
 obtain ⟨As, cs, rfl, s1, s2, s3⟩ := hs.open_
 obtain ⟨Ar, cr, rfl, r1, r2, r3⟩ := hr.open_
 clear f3 s3 r3 hf hs hr
 have hb0 := bl_alloc (Below.refl w.heap.size w) (.cells #[.int .i64 cl, .int .i64 lb, .slice Af f.length cf, .slice As s.length cs, .slice Ar rs.length cr] 43)
 have H1 := Lib.hid (fun (h : szR left f.length < 0) => show szR left (szCert f s rs) = -1 by unfold szCert; rw [Nat.add_assoc]; exact szR_neg h hl)
 go_enter Tryz.func52, Tryz.ntmps52
 go_wp2_with fail
 refine (sz_IntS Af f.length cf left _ (by omega) hl hl').mono ?_
 rintro e w1 ⟨rfl, rfl⟩
 by_cases q1 : szR left f.length < 0
 ·
  have H := Lib.hid (H1.out q1)
  go_wp2_with fail
  go_ret
  exact ⟨ret_int H.out.symm, hb0⟩
 ·
  obtain ⟨k1, k2⟩ := szR_pos q1
  have K2 := Lib.hid k2; clear k2
  have b1 : 0 ≤ szR left f.length ∧ szR left f.length ≤ 1048576 := by rw [K2.out]; omega
  go_wp2_with fail
  refine (sz_IntS As s.length cs (szR left f.length) _ (by omega) b1.1 b1.2).mono ?_
  rintro e w1 ⟨rfl, rfl⟩
  have E2 := Lib.hid (show szR (szR left f.length) s.length = szR left (f.length + s.length) by rw [K2.out, szR_add k1])
  rw [E2.out]
  by_cases q2 : szR left (f.length + s.length) < 0
  ·
   have H := Lib.hid (show szR left (szCert f s rs) = -1 from szR_neg q2 hl)
   go_wp2_with fail
   go_ret
   exact ⟨ret_int H.out.symm, hb0⟩
  ·
   obtain ⟨k3, k4⟩ := szR_pos q2
   have K4 := Lib.hid k4; clear k4
   have b2 : 0 ≤ szR left (f.length + s.length) ∧ szR left (f.length + s.length) ≤ 1048576 := by rw [K4.out]; omega
   go_wp2_with fail
   refine (sz_IntSS _ rs (szR left (f.length + s.length)) _ ((HR.out.below hb0).more hb0.size) b2.1 b2.2).mono ?_
   rintro e w1 ⟨rfl, rfl⟩
   have E3 := Lib.hid (show szR (szR left (f.length + s.length)) (szRows rs) = szR left (szCert f s rs) by rw [K4.out, szR_add k3]; rfl)
   rw [E3.out]
   have hz := szR_le (left := left) (n := szCert f s rs) hl
   by_cases q3 : szR left (szCert f s rs) < 0
   ·
    have H := Lib.hid (show szR left (szCert f s rs) = -1 from szR_m1 q3)
    go_wp2_with fail
    go_ret
    exact ⟨ret_int H.out.symm, hb0⟩
   ·
    go_wp2_with fail
    go_ret
    exact ⟨rfl, hb0⟩
theorem eq_Cert (cl lb : Int) (vf vs vr vf' vs' vr' : Value) (f s : List Int) (rs : List (List Int)) (w : World) (hf : IntsR w w.heap.size vf f) (hs : IntsR w w.heap.size vs s) (hr : RowsR w w.heap.size vr rs) (hf' : IntsR w w.heap.size vf' f) (hs' : IntsR w w.heap.size vs' s) (hr' : RowsR w w.heap.size vr' rs) :
    Calls Tryz.prog 50 #[certV cl lb vf vs vr, certV cl lb vf' vs' vr'] w fun e w' => e = .returned (.bool true) ∧ Below w.heap.size w w' := by
  have HF := Lib.hid hf; clear hf
  have HF' := Lib.hid hf'; clear hf'
  have HS := Lib.hid hs; clear hs
  have HS' := Lib.hid hs'; clear hs'
  have HR := Lib.hid hr; clear hr
  have HR' := Lib.hid hr'; clear hr'
  have hb0 := bl_alloc (bl_alloc (Below.refl w.heap.size w) (.cells #[.int .i64 cl, .int .i64 lb, vf, vs, vr] 51)) (.cells #[.int .i64 cl, .int .i64 lb, vf', vs', vr'] 51)
  go_enter Tryz.func50, Tryz.ntmps50
  go_wp2_with fail
  refine (eq_IntS vf vf' f _ ((HF.out.below hb0).more hb0.size) ((HF'.out.below hb0).more hb0.size)).mono ?_
  rintro e w1 ⟨rfl, m, rfl⟩
  have hb1 := bl_drewN hb0 m
  go_wp2_with fail
  refine (eq_IntS vs vs' s _ ((HS.out.below hb1).more hb1.size) ((HS'.out.below hb1).more hb1.size)).mono ?_
  rintro e w1 ⟨rfl, m2, rfl⟩
  have hb2 := bl_drewN hb0 (m + m2)
  go_wp2_with fail
  refine (eq_IntSS vr vr' rs _ ((HR.out.below hb2).more hb2.size) ((HR'.out.below hb2).more hb2.size)).mono ?_
  rintro e w1 ⟨rfl, m3, rfl⟩
  have hb3 := bl_drewN hb0 (m + m2 + m3)
  go_wp2_with fail
  go_ret
  exact ⟨rfl, hb3⟩
theorem heap_new_at {W : World} {o : Obj} {k : Nat} (h : k = W.heap.size) : (W.alloc o).heap[k]? = some o := by subst h; exact heap_alloc_new _ _
theorem heap_old_at {W : World} {o : Obj} {k : Nat} (h : k < W.heap.size) : (W.alloc o).heap[k]? = W.heap[k]? := ((Below.refl W.heap.size W).alloc (Nat.le_refl _) o).block k h
theorem to_Cert (cl lb : Int) (vf vs vr : Value) (f s : List Int) (rs : List (List Int)) (w : World) (hf : IntsR w w.heap.size vf f) (hs : IntsR w w.heap.size vs s) (hr : RowsR w w.heap.size vr rs) (hn : szCert f s rs ≤ 1048576) :
  Calls Tryz.prog 62 #[certV cl lb vf vs vr] w fun e w' => ∃ vf' vs' vr' bf bs br, e = .returned (certV cl lb vf' vs' vr') ∧ OwnInts w' 3 vf' f bf ∧ OwnInts w' 3 vs' s bs ∧ OwnRows w' 41 3 vr' rs br ∧ (bf ++ bs ++ br).Nodup ∧ (∀ b ∈ bf ++ bs ++ br, w.heap.size ≤ b ∧ b < w'.heap.size) ∧ Below w.heap.size w w' := by
 unfold szCert at hn
 have HF := Lib.hid hf; clear hf
 have HS := Lib.hid hs; clear hs
 have HR := Lib.hid hr; clear hr
 go_enter Tryz.func62, Tryz.ntmps62
 go_wp2_with fail
 refine (to_IntS vf f _ ((HF.out.below (by repeat (first | exact Below.refl _ _ | refine bl_alloc ?_ _ | refine Below.setCell ?_ (by simp <;> omega) _))).more (by simp; omega)) (by omega)).mono ?_
 rintro e w1 ⟨rfl, rfl⟩
 go_wp2_with fail
 refine (to_IntS vs s _ ((HS.out.below (by repeat (first | exact Below.refl _ _ | refine bl_alloc ?_ _ | refine Below.setCell ?_ (by simp <;> omega) _))).more (by simp; omega)) (by omega)).mono ?_
 rintro e w1 ⟨rfl, rfl⟩
 go_wp2_with fail
 refine (to_IntSS vr rs _ ((HR.out.below (by repeat (first | exact Below.refl _ _ | refine bl_alloc ?_ _ | refine Below.setCell ?_ (by simp <;> omega) _))).more (by simp; omega)) (by omega)).mono ?_
 rintro e w3 ⟨vr', br, rfl, ho, hnd, hbs, hb3⟩
 obtain ⟨A', m', c', rfl⟩ := ho.isSlice
 obtain ⟨hc1, hf1⟩ := bx (w.heap.size + 1) hb3 (by simp)
 obtain ⟨hc2, hf2⟩ := bx (w.heap.size + 1 + 1) hb3 (by simp)
 have hz3 := hb3.size
 simp at hz3 hbs
 have B1 := Lib.hid (hb3.block (w.heap.size + 3) (by simp))
 have B2 := Lib.hid (hb3.block (w.heap.size + 4) (by simp))
 have hall := bl_trans (show Below w.heap.size w _ by repeat (first | exact Below.refl _ _ | refine bl_alloc ?_ _)) hb3
 have C1 := Lib.hid (show w3.heap[w.heap.size + 3]? = some (.cells (f.map intV).toArray 3 (0, 0)) by rw [B1.out]; exact (heap_old_at (by simp)).trans (heap_new_at (by simp)))
 have C2 := Lib.hid (show w3.heap[w.heap.size + 4]? = some (.cells (s.map intV).toArray 3 (0, 0)) by rw [B2.out]; exact heap_new_at (by simp))
 clear B1 B2
 go_wp2_with fail
 refine bodyPost_ret (v := certV cl lb (.slice (some ⟨w.heap.size + 3, 0, none⟩) f.length f.length) (.slice (some ⟨w.heap.size + 4, 0, none⟩) s.length s.length) (.slice A' m' c')) (by simp [results, Tryz.results62, go_sem, hc1]) rfl ⟨_, _, _, [w.heap.size + 3], [w.heap.size + 4], br, rfl, ⟨.inr ⟨w.heap.size + 3, f.length, (f.map intV).toArray, by simp, by simp, by unfold maxLen; omega, ?_, by simp, List.take_of_length_le (by simp), rfl⟩, HF.out.2⟩, ⟨.inr ⟨w.heap.size + 4, s.length, (s.map intV).toArray, by simp, by simp, by unfold maxLen; omega, ?_, by simp, List.take_of_length_le (by simp), rfl⟩, HS.out.2⟩, ?_, ?_, ?_, ?_⟩
 ·
  rw [Below.heap_setCell _ _ _ _ (by simp), Below.heap_setCell _ _ _ _ (by simp), Below.heap_setCell _ _ _ _ (by simp), Below.heap_setCell _ _ _ _ (by simp), Below.heap_setCell _ _ _ _ (by simp), Below.heap_setCell _ _ _ _ (by simp)]
  exact C1.out
 ·
  rw [Below.heap_setCell _ _ _ _ (by simp), Below.heap_setCell _ _ _ _ (by simp), Below.heap_setCell _ _ _ _ (by simp), Below.heap_setCell _ _ _ _ (by simp), Below.heap_setCell _ _ _ _ (by simp), Below.heap_setCell _ _ _ _ (by simp)]
  exact C2.out
 ·
  refine ho.keep fun b hb => ?_
  have := hbs b hb
  rw [Below.heap_setCell _ _ _ _ (by simp; omega), Below.heap_setCell _ _ _ _ (by simp; omega), Below.heap_setCell _ _ _ _ (by simp; omega), Below.heap_setCell _ _ _ _ (by simp; omega), Below.heap_setCell _ _ _ _ (by simp; omega), Below.heap_setCell _ _ _ _ (by simp; omega)]
 ·
  rw [List.nodup_append]
  refine ⟨by simp, hnd, fun a ha b hb => ?_⟩
  have := hbs b hb
  simp at ha
  omega
 ·
  intro b hb
  simp at hb
  simp
  rcases hb with rfl | rfl | hb
  ·
   omega
  ·
   omega
  ·
   have := hbs b hb; omega
 ·
  exact (((((hall.setCell (by simp; omega) _).setCell (by simp) _).setCell (by simp) _).setCell (by simp) _).setCell (by simp) _).setCell (by simp) _
end Go.Proofs.YtcfbkickiijjkaaGreatDoor
