/-
  The laws' own functions over certificates of walk problems: szWalkCertificate, toWalkCertificate, eqWalkCertificate.
-/
import Derived.Test.YtcfbkickiijjkaaGreatDoorRows
import Derived.Test.YtcfbkickiijjkaaGreatDoorQZ
import Derived.WalkKit
import Derived.WalkSpells
import Derived.WalkLawsBesides
import Derived.Lib.Hide
namespace Go.Proofs.YtcfbkickiijjkaaGreatDoor
open Go.RowKit
set_option linter.unusedVariables false
abbrev certV (cl lb : Int) (vf vs vr : Value) : Value := .agg #[.int .i64 cl, .int .i64 lb, vf, vs, vr]
def szCert (f s : List Int) (rs : List (List Int)) : Nat := f.length + s.length + szRows rs
theorem eq_Cert (cl lb : Int) (vf vs vr vf' vs' vr' : Value) (f s : List Int) (rs : List (List Int)) (w : World) (hf : IntsR w w.heap.size vf f) (hs : IntsR w w.heap.size vs s) (hr : RowsR w w.heap.size vr rs) (hf' : IntsR w w.heap.size vf' f) (hs' : IntsR w w.heap.size vs' s) (hr' : RowsR w w.heap.size vr' rs) :
    Calls Tryz.prog 50 #[certV cl lb vf vs vr, certV cl lb vf' vs' vr'] w fun e w' => e = .returned (.bool true) ∧ Below w.heap.size w w' := by
  have HF := Lib.hid hf; clear hf
  have HF' := Lib.hid hf'; clear hf'
  have HS := Lib.hid hs; clear hs
  have HS' := Lib.hid hs'; clear hs'
  have HR := Lib.hid hr; clear hr
  have HR' := Lib.hid hr'; clear hr'
  have hb0 := bl_alloc (bl_alloc (Below.refl w.heap.size w) (.cells #[.int .i64 cl, .int .i64 lb, vf, vs, vr] 51)) (.cells #[.int .i64 cl, .int .i64 lb, vf', vs', vr'] 51)
  go_enter Tryz.func50, Tryz.ntmps50
  go_wp2_with fail
  refine (eq_IntS vf vf' f _ ((HF.out.below hb0).more hb0.size) ((HF'.out.below hb0).more hb0.size)).mono ?_
  rintro e w1 ⟨rfl, m, rfl⟩
  have hb1 := bl_drewN hb0 m
  go_wp2_with fail
  refine (eq_IntS vs vs' s _ ((HS.out.below hb1).more hb1.size) ((HS'.out.below hb1).more hb1.size)).mono ?_
  rintro e w1 ⟨rfl, m2, rfl⟩
  have hb2 := bl_drewN hb0 (m + m2)
  go_wp2_with fail
  refine (eq_IntSS vr vr' rs _ ((HR.out.below hb2).more hb2.size) ((HR'.out.below hb2).more hb2.size)).mono ?_
  rintro e w1 ⟨rfl, m3, rfl⟩
  have hb3 := bl_drewN hb0 (m + m2 + m3)
  go_wp2_with fail
  go_ret
  exact ⟨rfl, hb3⟩
end Go.Proofs.YtcfbkickiijjkaaGreatDoor
