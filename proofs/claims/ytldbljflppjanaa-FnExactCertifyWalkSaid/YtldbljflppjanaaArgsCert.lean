/-
  The laws' own functions over certificates of walk problems: szWalkCertificate, toWalkCertificate, eqWalkCertificate.
-/
import Derived.Test.YtldbljflppjanaaRows
import Derived.Test.YtldbljflppjanaaKit
import Derived.Test.YtldbljflppjanaaMem
import Derived.Test.YtldbljflppjanaaArgs
import Derived.WalkKit
import Derived.WalkSpells
import Derived.WalkLawsBesides
import Derived.Lib.Hide
namespace Go.Proofs.Ytldbljflppjanaa
open Go.RowKit
set_option linter.unusedVariables false

/-- A certificate's value, and what it counts. -/
abbrev certV (cl lb : Int) (vf vs vr : Value) : Value := .agg #[.int .i64 cl, .int .i64 lb, vf, vs, vr]
def szCert (f s : List Int) (rs : List (List Int)) : Nat := f.length + s.length + szRows rs
theorem szR_pos {left : Int} {n : Nat} (h : ¬ szR left n < 0) : (n : Int) ≤ left ∧ szR left n = left - n := by
  unfold szR at *
  split at h <;> simp_all
theorem szR_m1 {left : Int} {n : Nat} (h : szR left n < 0) : szR left n = -1 := by
  unfold szR at *
  split at h <;> split <;> omega
theorem eq_Cert (cl lb : Int) (vf vs vr vf' vs' vr' : Value) (f s : List Int) (rs : List (List Int)) (w : World) (hf : IntsR w w.heap.size vf f) (hs : IntsR w w.heap.size vs s) (hr : RowsR w w.heap.size vr rs) (hf' : IntsR w w.heap.size vf' f) (hs' : IntsR w w.heap.size vs' s) (hr' : RowsR w w.heap.size vr' rs) :
    Calls Try.prog 8 #[certV cl lb vf vs vr, certV cl lb vf' vs' vr'] w fun e w' => e = .returned (.bool true) ∧ Below w.heap.size w w' := by
  have HF := Lib.hid hf; clear hf
  have HF' := Lib.hid hf'; clear hf'
  have HS := Lib.hid hs; clear hs
  have HS' := Lib.hid hs'; clear hs'
  have HR := Lib.hid hr; clear hr
  have HR' := Lib.hid hr'; clear hr'
  have hb0 := bl_alloc (bl_alloc (Below.refl w.heap.size w) (.cells #[.int .i64 cl, .int .i64 lb, vf, vs, vr] 28)) (.cells #[.int .i64 cl, .int .i64 lb, vf', vs', vr'] 28)
  go_enter Try.func8, Try.ntmps8
  go_wp2_with fail
  refine (eq_IntS vf vf' f _ ((HF.out.below hb0).more hb0.size) ((HF'.out.below hb0).more hb0.size)).mono ?_
  rintro e w1 ⟨rfl, m, rfl⟩
  have hb1 := bl_drewN hb0 m
  go_wp2_with fail
  refine (eq_IntS vs vs' s _ ((HS.out.below hb1).more hb1.size) ((HS'.out.below hb1).more hb1.size)).mono ?_
  rintro e w1 ⟨rfl, m2, rfl⟩
  have hb2 := bl_drewN hb0 (m + m2)
  go_wp2_with fail
  refine (eq_IntSS vr vr' rs _ ((HR.out.below hb2).more hb2.size) ((HR'.out.below hb2).more hb2.size)).mono ?_
  rintro e w1 ⟨rfl, m3, rfl⟩
  have hb3 := bl_drewN hb0 (m + m2 + m3)
  go_wp2_with fail
  go_ret
  exact ⟨rfl, hb3⟩
theorem heap_new_at {W : World} {o : Obj} {k : Nat} (h : k = W.heap.size) : (W.alloc o).heap[k]? = some o := by subst h; exact heap_alloc_new _ _
theorem heap_old_at {W : World} {o : Obj} {k : Nat} (h : k < W.heap.size) : (W.alloc o).heap[k]? = W.heap[k]? := ((Below.refl W.heap.size W).alloc (Nat.le_refl _) o).block k h
end Go.Proofs.Ytldbljflppjanaa
