/-
  The laws' own functions over items of a store: szLabItem, toLabItem, eqLabItem.
-/
import Derived.Test.YtcfbkickiijjkaaGreatDoorRows
import Derived.Test.YtcfbkickiijjkaaGreatDoorQZ
import Derived.Test.YtcfbkickiijjkaaGreatDoorQArgsWalk
import Derived.Test.YtcfbkickiijjkaaGreatDoorQArgsCert
import Derived.Test.YtcfbkickiijjkaaGreatDoorQItem
import Derived.WalkKit
import Derived.WalkSpells
import Derived.WalkLawsBesides
import Derived.Lib.Hide
namespace Go.Proofs.YtcfbkickiijjkaaGreatDoor
open Go.RowKit
set_option linter.unusedVariables false
set_option linter.unusedSimpArgs false
theorem eq_Item (x : Item) (va vf vs vr va' vf' vs' vr' : Value) (w : World) (h : ItemR w w.heap.size x va vf vs vr) (h' : ItemR w w.heap.size x va' vf' vs' vr') :
  Calls Tryz.prog 30 #[itemV x va vf vs vr, itemV x va' vf' vs' vr'] w fun e w' => e = .returned (.bool true) ∧ Below w.heap.size w w' := by
 have HH := Lib.hid h; clear h
 have HH' := Lib.hid h'; clear h'
 have hb0 := bl_alloc (bl_alloc (Below.refl w.heap.size w) (.cells #[.string x.nm, .int .i64 x.n, va, .int .i64 x.cl, .int .i64 x.lb, vf, vs, vr] 53)) (.cells #[.string x.nm, .int .i64 x.n, va', .int .i64 x.cl, .int .i64 x.lb, vf', vs', vr'] 53)
 obtain ⟨nm, n, xss, cl, lb, f, s, rs⟩ := x
 dsimp only at *
 have HB := Lib.hid ((Box8.new w 53 (.string nm) (.int .i64 n) va (.int .i64 cl) (.int .i64 lb) vf vs vr).below (bl_alloc (Below.refl _ _) (.cells #[.string nm, .int .i64 n, va', .int .i64 cl, .int .i64 lb, vf', vs', vr'] 53)) (by simp))
 have HB' := Lib.hid (Box8.new (w.alloc (.cells #[.string nm, .int .i64 n, va, .int .i64 cl, .int .i64 lb, vf, vs, vr] 53)) 53 (.string nm) (.int .i64 n) va' (.int .i64 cl) (.int .i64 lb) vf' vs' vr')
 rw [show (w.alloc (.cells #[.string nm, .int .i64 n, va, .int .i64 cl, .int .i64 lb, vf, vs, vr] 53)).heap.size = w.heap.size + 1 by simp] at HB'
 have HZ := Lib.hid (show w.heap.size + 1 < ((w.alloc (.cells #[.string nm, .int .i64 n, va, .int .i64 cl, .int .i64 lb, vf, vs, vr] 53)).alloc (.cells #[.string nm, .int .i64 n, va', .int .i64 cl, .int .i64 lb, vf', vs', vr'] 53)).heap.size by simp)
 have hq : (nm.toList == nm.toList) = true := by simp
 go_enter Tryz.func30, Tryz.ntmps30
 go_wp2_with fail
 generalize (w.alloc (.cells #[.string nm, .int .i64 n, va, .int .i64 cl, .int .i64 lb, vf, vs, vr] 53)).alloc (.cells #[.string nm, .int .i64 n, va', .int .i64 cl, .int .i64 lb, vf', vs', vr'] 53) = w0 at *
 refine (eq_Walk n va va' xss w0 (HH.out.up hb0).a (HH'.out.up hb0).a).mono ?_
 rintro e w1 ⟨rfl, hb1⟩
 have hB1 := bl_trans hb0 hb1
 obtain ⟨d0, d1, d2, d3, d4, d5, d6, d7⟩ := HB.out.below hb1 (by have := HZ.out; omega)
 obtain ⟨g0, g1, g2, g3, g4, g5, g6, g7⟩ := HB'.out.below hb1 HZ.out
 go_wp2_with fail
 refine (eq_Cert cl lb vf vs vr vf' vs' vr' f s rs w1 (HH.out.up hB1).f (HH.out.up hB1).s (HH.out.up hB1).r (HH'.out.up hB1).f (HH'.out.up hB1).s (HH'.out.up hB1).r).mono ?_
 rintro e w2 ⟨rfl, hb2⟩
 go_wp2_with fail
 go_ret
 exact ⟨rfl, bl_trans hB1 hb2⟩
def OwnItem (w : World) (x : Item) (va vf vs vr : Value) (bs : List Nat) : Prop :=
  ∃ ba bf bz br, OwnRows w 41 3 va x.xss ba ∧ OwnInts w 3 vf x.f bf ∧ OwnInts w 3 vs x.s bz ∧ OwnRows w 41 3 vr x.rs br ∧ bs = ba ++ (bf ++ bz ++ br)
theorem OwnItem.keep {w w' : World} {x : Item} {va vf vs vr : Value} {bs : List Nat} (h : OwnItem w x va vf vs vr bs) (hk : ∀ b ∈ bs, w'.heap[b]? = w.heap[b]?) : OwnItem w' x va vf vs vr bs := by
  obtain ⟨ba, bf, bz, br, h1, h2, h3, h4, rfl⟩ := h
  exact ⟨ba, bf, bz, br, h1.keep fun b hb => hk b (by simp [hb]), h2.keep fun b hb => hk b (by simp [hb]), h3.keep fun b hb => hk b (by simp [hb]), h4.keep fun b hb => hk b (by simp [hb]), rfl⟩
theorem OwnItem.reads {w : World} {x : Item} {va vf vs vr : Value} {bs : List Nat} (h : OwnItem w x va vf vs vr bs) {B : Nat} (hB : ∀ b ∈ bs, b < B) : ItemR w B x va vf vs vr := by
  obtain ⟨ba, bf, bz, br, h1, h2, h3, h4, rfl⟩ := h
  exact ⟨h1.reads fun b hb => hB b (by simp [hb]), h2.reads fun b hb => hB b (by simp [hb]), h3.reads fun b hb => hB b (by simp [hb]), h4.reads fun b hb => hB b (by simp [hb])⟩
end Go.Proofs.YtcfbkickiijjkaaGreatDoor
