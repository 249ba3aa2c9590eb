/-
  What DoAsync hands back, as one owned state: the state behind the act, or the empty one. No condition.
-/
import Derived.Test.YtehkcodbcnhhoaaGreatEDoAll
import Derived.Test.YtehkcodbcnhhoaaGreatEPlainDo
import Derived.Test.YtehkcodbcnhhoaaGreatEHeldB
namespace Go.Proofs.YtehkcodbcnhhoaaGreat
open Go.RowKit
set_option linter.all false
def emA : Asy := ⟨[], [], [], [], []⟩
theorem emA_key {j : Key} (h : keyOf emA j) : j = .r ∨ j = .b ∨ j = .n ∨ j = .s ∨ j = .f := by
  cases j with
  | sl k => exact absurd (show k < 0 from h) (by omega)
  | fr k => exact absurd (show k < 0 from h) (by omega)
  | le k p => exact absurd (show k < 0 from h.1) (by omega)
  | _ => simp
theorem nilAsyK (w : World) (base : Nat) : AsyK w base (fun _ => nilV) emA := by
  refine ⟨fun i hi => ?_, fun i j hi hj hne => .inl rfl⟩
  rcases emA_key hi with rfl | rfl | rfl | rfl | rfl <;> exact World.ownsRow_nil _ _ _ _
section
variable {w w' : World} {base P : Nat} {val : Key → Value} {y : Asy}
theorem AsyB.off (h : AsyB w base val y P) (hP : base ≤ P) (hs : w.heap.size ≤ w'.heap.size) (hk : ∀ b : Nat, base ≤ b → b < w.heap.size → w'.heap[b]? = w.heap[b]?) : AsyB w' base val y P :=
  ⟨⟨fun i hi => own_keep4 (h.k.own i hi) hs hk, h.k.sep⟩, h.ne, (hk P hP h.lt).trans h.box⟩
theorem AsyB.below (h : AsyB w base val y P) (hb : Below w.heap.size w w') : AsyB w' base val y P := h.up hb
end
def BoxR (w : World) (base P : Nat) (v0 v1 v2 v3 v4 : Value) (y : Asy) : Prop := ∃ val : Key → Value, v0 = val .r ∧ v1 = val .b ∧ v2 = val .n ∧ v3 = val .s ∧ v4 = val .f ∧ AsyB w base val y P
theorem BoxR.of {w : World} {base b0 P : Nat} {v0 v1 v2 v3 v4 : Value} {val : Key → Value} {y : Asy} (h0 : v0 = val .r) (h1 : v1 = val .b) (h2 : v2 = val .n) (h3 : v3 = val .s) (h4 : v4 = val .f) (hk : AsyK w b0 val y) (hb : base ≤ b0) (hne : ∀ j, keyOf y j → (val j).ownBlock ≠ some P)
    (hbx : w.heap[P]? = some (.cells #[v0, v1, v2, v3, v4] 34 (0, 0))) : BoxR w base P v0 v1 v2 v3 v4 y := ⟨val, h0, h1, h2, h3, h4, OwnK.mono hk hb, hne, by rw [hbx, h0, h1, h2, h3, h4]⟩
theorem noTop_ord (x : Asy) : ∀ i ∈ ordA x, ¬ isTop i := fun i hi => by
  unfold ordA at hi
  simp only [List.mem_append, List.mem_singleton] at hi
  rcases hi with h | h | h | h | h
  · rw [h]; exact fun h => h
  · rw [h]; exact fun h => h
  · rw [h]; exact fun h => h
  · exact noTop_sl x i h
  · exact noTop_le x i h
end Go.Proofs.YtehkcodbcnhhoaaGreat
