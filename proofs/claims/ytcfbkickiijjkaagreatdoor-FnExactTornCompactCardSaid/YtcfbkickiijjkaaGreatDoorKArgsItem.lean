/-
  The laws' own functions over items of a store: szLabItem, toLabItem, eqLabItem.
-/
import Derived.Test.YtcfbkickiijjkaaGreatDoorRows
import Derived.Test.YtcfbkickiijjkaaGreatDoorKZ
import Derived.Test.YtcfbkickiijjkaaGreatDoorKArgsWalk
import Derived.Test.YtcfbkickiijjkaaGreatDoorKArgsCert
import Derived.Test.YtcfbkickiijjkaaGreatDoorKItem
import Derived.WalkKit
import Derived.WalkSpells
import Derived.WalkLawsBesides
import Derived.Lib.Hide
namespace Go.Proofs.YtcfbkickiijjkaaGreatDoor
open Go.RowKit
set_option linter.unusedVariables false
set_option linter.unusedSimpArgs false
def OwnItem (w : World) (x : Item) (va vf vs vr : Value) (bs : List Nat) : Prop :=
  ∃ ba bf bz br, OwnRows w 41 3 va x.xss ba ∧ OwnInts w 3 vf x.f bf ∧ OwnInts w 3 vs x.s bz ∧ OwnRows w 41 3 vr x.rs br ∧ bs = ba ++ (bf ++ bz ++ br)
theorem OwnItem.keep {w w' : World} {x : Item} {va vf vs vr : Value} {bs : List Nat} (h : OwnItem w x va vf vs vr bs) (hk : ∀ b ∈ bs, w'.heap[b]? = w.heap[b]?) : OwnItem w' x va vf vs vr bs := by
  obtain ⟨ba, bf, bz, br, h1, h2, h3, h4, rfl⟩ := h
  exact ⟨ba, bf, bz, br, h1.keep fun b hb => hk b (by simp [hb]), h2.keep fun b hb => hk b (by simp [hb]), h3.keep fun b hb => hk b (by simp [hb]), h4.keep fun b hb => hk b (by simp [hb]), rfl⟩
theorem OwnItem.reads {w : World} {x : Item} {va vf vs vr : Value} {bs : List Nat} (h : OwnItem w x va vf vs vr bs) {B : Nat} (hB : ∀ b ∈ bs, b < B) : ItemR w B x va vf vs vr := by
  obtain ⟨ba, bf, bz, br, h1, h2, h3, h4, rfl⟩ := h
  exact ⟨h1.reads fun b hb => hB b (by simp [hb]), h2.reads fun b hb => hB b (by simp [hb]), h3.reads fun b hb => hB b (by simp [hb]), h4.reads fun b hb => hB b (by simp [hb])⟩
end Go.Proofs.YtcfbkickiijjkaaGreatDoor
