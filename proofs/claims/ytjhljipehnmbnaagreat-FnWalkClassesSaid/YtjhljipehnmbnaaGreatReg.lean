/-
  Short forms that the walks share: the cells of a block at once, one step of a drawn region, a block carried over a part of the run. No program in sight, no condition.
-/
import Derived.Test.YtjhljipehnmbnaaGreatKit
import Derived.Laws.Rows
import Derived.Lib.Hide
import Derived.WalkKit
import Derived.Deep.RegionHeld3
namespace Go.Proofs.YtjhljipehnmbnaaGreat
open Go.RowKit
set_option linter.unusedVariables false
theorem cells2 {w : World} {b : Nat} {v0 v1 : Value} {t : TypeId} (H : Hid (w.heap[b]? = some (.cells #[v0, v1] t (0, 0)))) : w.cell? ⟨b, 0, none⟩ = some v0 ∧ w.cell? ⟨b, 1, none⟩ = some v1 ∧ ∀ i, w.frozen? ⟨b, i, none⟩ = false :=
  ⟨cell_of_row _ _ 0 _ _ (0, 0) H.out, cell_of_row _ _ 1 _ _ (0, 0) H.out, fun i => frozen_of_row _ _ i _ _ H.out⟩
theorem cells3 {w : World} {b : Nat} {v0 v1 v2 : Value} {t : TypeId} (H : Hid (w.heap[b]? = some (.cells #[v0, v1, v2] t (0, 0)))) : w.cell? ⟨b, 0, none⟩ = some v0 ∧ w.cell? ⟨b, 1, none⟩ = some v1 ∧ w.cell? ⟨b, 2, none⟩ = some v2 ∧ ∀ i, w.frozen? ⟨b, i, none⟩ = false :=
  ⟨cell_of_row _ _ 0 _ _ (0, 0) H.out, cell_of_row _ _ 1 _ _ (0, 0) H.out, cell_of_row _ _ 2 _ _ (0, 0) H.out, fun i => frozen_of_row _ _ i _ _ H.out⟩
theorem pu : (∀ (l : List Value) (i : Nat) (v : Value), l.toArray.setIfInBounds i v = (l.set i v).toArray) ∧ (∀ (x : Value) (l : List Value) (v : Value), (x :: l).set 0 v = v :: l) ∧ ∀ (x : Value) (l : List Value) (n : Nat) (v : Value), (x :: l).set (n + 1) v = x :: l.set n v :=
  ⟨fun l i v => List.setIfInBounds_toArray l i v, fun _ _ _ => rfl, fun _ _ _ _ => rfl⟩
theorem bk {w w' : World} {b B : Nat} {o : Option Obj} (H : Hid (w.heap[b]? = o)) (hb : Below B w w') (h : b < B := by omega) : Hid (w'.heap[b]? = o) := Lib.hid ((hb.block b h).trans H.out)
theorem tk {P : Program} {md : Region.Mode} {ops : Array Oper} {Q : Exit → Act → World → Prop} {S : World → Prop} {fuel : Nat} {listed : Array Bool} {a : Act} {w : World} (i d : Nat) {oi : Oper} {v : Value}
    (hi : ops.toList[i]? = some oi) (hd : oi.dst = some d)
    (h : wpAnyH P md ops Q S fuel (listed.setIfInBounds i true) (a.put (some d) v) w)
    (hy : ∀ w, S w → (execOp a.eval oi).run P w = .ok (.value v) w := by intro w hSw; (try dsimp only at hSw); go_simp <;> with_reducible rfl)
    (hs : Region.noSelect ops = true := by kernel_rfl) (hf : Region.free md ops listed i = true := by kernel_rfl) (hr : (Region.ready md ops listed).contains i = true := by kernel_rfl)
    (hQ : ∀ c a w, Q (.panic c) (a.put (some d) v) w → Q (.panic c) a w := by exact fun _ _ _ h => h) (hw : Region.wanted oi (yielded ops a.tmps) = true := by rfl) (hS : S w := by assumption) : wpAnyH P md ops Q S (fuel + 1) listed a w := by
  rw [← hd] at hQ h
  exact wpAnyH_take (by rw [← Array.getElem?_toList]; exact hi) hs hf hr hQ (Or.inl ⟨hw, hy⟩) hS h
theorem tn {P : Program} {md : Region.Mode} {ops : Array Oper} {Q : Exit → Act → World → Prop} {S : World → Prop} {fuel : Nat} {listed : Array Bool} {a : Act} {w : World} (i d : Nat) {oi : Oper}
    (hi : ops.toList[i]? = some oi) (hd : oi.dst = some d)
    (h : wpAnyH P md ops Q S fuel (listed.setIfInBounds i true) (a.put (some d) undef) w)
    (hs : Region.noSelect ops = true := by kernel_rfl) (hf : Region.free md ops listed i = true := by kernel_rfl) (hr : (Region.ready md ops listed).contains i = true := by kernel_rfl)
    (hQ : ∀ c a w, Q (.panic c) (a.put (some d) undef) w → Q (.panic c) a w := by exact fun _ _ _ h => h) (hw : Region.wanted oi (yielded ops a.tmps) = false := by rfl) (hS : S w := by assumption) : wpAnyH P md ops Q S (fuel + 1) listed a w := by
  rw [← hd] at hQ h
  exact wpAnyH_take (by rw [← Array.getElem?_toList]; exact hi) hs hf hr hQ (Or.inr ⟨hw, rfl⟩) hS h

theorem tr {P : Program} {md : Region.Mode} {ops : Array Oper} {Q : Exit → Act → World → Prop} {S : World → Prop} {fuel : Nat} {listed : Array Bool} {a : Act} {w : World} (i : Nat) {o : Oper}
    (hi : ops.toList[i]? = some o) (hr : Region.ready md ops listed = [i])
    (h : ∀ K' : Act → World → Prop, Shut (∀ a w, S w → (S w → wpAnyH P md ops Q S fuel (listed.setIfInBounds i true) a w) → K' a w) → if Region.wanted o (yielded ops a.tmps) = true then Oper.wp P o a w K' Q else K' (a.put o.dst undef) w) :
    wpAnyH P md ops Q S (fuel + 1) listed a w :=
  wpAnyH_ready hr (by simp) (AllReadyH.cons (by rw [← Array.getElem?_toList]; exact hi) h AllReadyH.nil)
theorem tr2 {P : Program} {md : Region.Mode} {ops : Array Oper} {Q : Exit → Act → World → Prop} {S : World → Prop} {fuel : Nat} {listed : Array Bool} {a : Act} {w : World} (i j : Nat) {o o' : Oper}
    (hi : ops.toList[i]? = some o) (hj : ops.toList[j]? = some o') (hr : Region.ready md ops listed = [i, j])
    (h : ∀ K' : Act → World → Prop, Shut (∀ a w, S w → (S w → wpAnyH P md ops Q S fuel (listed.setIfInBounds i true) a w) → K' a w) → if Region.wanted o (yielded ops a.tmps) = true then Oper.wp P o a w K' Q else K' (a.put o.dst undef) w)
    (h' : ∀ K' : Act → World → Prop, Shut (∀ a w, S w → (S w → wpAnyH P md ops Q S fuel (listed.setIfInBounds j true) a w) → K' a w) → if Region.wanted o' (yielded ops a.tmps) = true then Oper.wp P o' a w K' Q else K' (a.put o'.dst undef) w) :
    wpAnyH P md ops Q S (fuel + 1) listed a w :=
  wpAnyH_ready hr (by simp) (AllReadyH.cons (by rw [← Array.getElem?_toList]; exact hi) h (AllReadyH.cons (by rw [← Array.getElem?_toList]; exact hj) h' AllReadyH.nil))
/-- One cell of a block of one's own is set. -/
theorem setB {w W W' : World} {G i : Nat} {cs : Array Value} {t : TypeId} {v : Value} (hB : Below w.heap.size w W) (hG : w.heap.size ≤ G) (hc : W.heap[G]? = some (.cells cs t (0, 0))) (hw : W' = W.setCell ⟨G, i, none⟩ v) :
    Below w.heap.size w W' ∧ (∀ b, b ≠ G → W'.heap[b]? = W.heap[b]?) ∧ Hid (W'.heap[G]? = some (.cells (cs.setIfInBounds i v) t (0, 0))) ∧ W'.heap.size ≤ W.heap.size ∧ W.heap.size ≤ W'.heap.size := by
  subst hw
  refine ⟨hB.setCell hG _, fun b hb => Below.heap_setCell _ _ _ _ (by simpa using hb), Lib.hid ?_, by simp [World.setCell], by simp [World.setCell]⟩
  simp [World.setCell, Array.getElem?_modify, hc]
end Go.Proofs.YtjhljipehnmbnaaGreat
