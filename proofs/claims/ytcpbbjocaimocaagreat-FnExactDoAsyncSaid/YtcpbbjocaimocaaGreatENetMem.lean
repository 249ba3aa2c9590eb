/-
  How networks are read in memory: slices of ends (two cells an element), slices of these, and the three slices of a network. No program in sight, no condition.
-/
import Derived.Test.YtcpbbjocaimocaaGreatEPlainNet
import Derived.Laws.AppendOwn
namespace Go.Proofs.YtcpbbjocaimocaaGreat
open Go.RowKit
set_option linter.all false
abbrev Ends := List (Int × Int)
def EndsR (w : World) (S : Nat → Prop) (v : Value) (es : Ends) : Prop :=
  ∃ A c, v = .slice A es.length c ∧ es.length ≤ c ∧ c ≤ maxLen ∧ (∀ e ∈ es, I64 e.1 ∧ I64 e.2) ∧ (0 < es.length → ∃ b o, A = some ⟨b, o, none⟩ ∧ S b ∧
    ∀ k e, es[k]? = some e → w.cell? ⟨b, o + k * 2, none⟩ = some (.int .i64 e.1) ∧ w.cell? ⟨b, o + k * 2 + 1, none⟩ = some (.int .i64 e.2))
def EndssR (w : World) (S : Nat → Prop) (v : Value) (ess : List Ends) : Prop :=
  ∃ A c, v = .slice A ess.length c ∧ ess.length ≤ c ∧ c ≤ maxLen ∧ (0 < ess.length → ∃ ad, A = some ad ∧ S ad.block ∧
    ∀ k es, ess[k]? = some es → ∃ u, w.cell? (ad.add k) = some u ∧ EndsR w S u es)
section
variable {w w' : World} {S S' : Nat → Prop} {v : Value}
theorem EndsR.keep {es : Ends} (h : EndsR w S v es) (hS : ∀ b, S b → S' b) (hk : ∀ b, S b → w'.heap[b]? = w.heap[b]?) : EndsR w' S' v es := by
  obtain ⟨A, c, e, h1, h2, h3, h4⟩ := h
  refine ⟨A, c, e, h1, h2, h3, fun hn => ?_⟩
  obtain ⟨b, o, e', hb, hc⟩ := h4 hn
  refine ⟨b, o, e', hS b hb, fun k x hx => ?_⟩
  obtain ⟨k1, k2⟩ := hc k x hx
  exact ⟨(World.cell?_of_block (hk b hb)).trans k1, (World.cell?_of_block (hk b hb)).trans k2⟩
theorem EndssR.keep {ess : List Ends} (h : EndssR w S v ess) (hS : ∀ b, S b → S' b) (hk : ∀ b, S b → w'.heap[b]? = w.heap[b]?) : EndssR w' S' v ess := by
  obtain ⟨A, c, e, h1, h2, h4⟩ := h
  refine ⟨A, c, e, h1, h2, fun hn => ?_⟩
  obtain ⟨ad, e', hb, hc⟩ := h4 hn
  refine ⟨ad, e', hS _ hb, fun k x hx => ?_⟩
  obtain ⟨u, k1, k2⟩ := hc k x hx
  exact ⟨u, (World.cell?_of_block (by rw [block_add]; exact hk _ hb)).trans k1, k2.keep hS hk⟩
end
abbrev EndsB (w : World) (B : Nat) (v : Value) (es : Ends) : Prop := EndsR w (· < B) v es
theorem EndsR.below {w w' : World} {B : Nat} {v : Value} {es : Ends} (h : EndsB w B v es) (hb : Below B w w') : EndsB w' B v es := h.keep (fun _ h => h) fun b hB => hb.block b hB
theorem EndsR.more {w : World} {B B' : Nat} {v : Value} {es : Ends} (h : EndsB w B v es) (hB : B ≤ B') : EndsB w B' v es := h.keep (fun _ h => Nat.lt_of_lt_of_le h hB) fun _ _ => rfl
structure NetR (w : World) (B : Nat) (ve vi vn : Value) (n : Net) : Prop where
  e : EndssR w (· < B) ve n.es
  i : IntsR w B vi n.ids
  n : IntsR w B vn n.ins
theorem NetR.below {w w' : World} {B : Nat} {ve vi vn : Value} {n : Net} (h : NetR w B ve vi vn n) (hb : Below B w w') : NetR w' B ve vi vn n :=
  ⟨h.e.keep (fun _ h => h) fun b hB => hb.block b hB, h.i.below hb, h.n.below hb⟩
theorem NetR.more {w : World} {B B' : Nat} {ve vi vn : Value} {n : Net} (h : NetR w B ve vi vn n) (hB : B ≤ B') : NetR w B' ve vi vn n :=
  ⟨h.e.keep (fun _ h => Nat.lt_of_lt_of_le h hB) fun _ _ => rfl, h.i.more hB, h.n.more hB⟩
theorem NetR.up {w w' : World} {ve vi vn : Value} {n : Net} (h : NetR w w.heap.size ve vi vn n) (hb : Below w.heap.size w w') : NetR w' w'.heap.size ve vi vn n := (h.below hb).more hb.size
theorem IntsR.isSlice {w : World} {B : Nat} {v : Value} {xs : List Int} (h : IntsR w B v xs) : ∃ A m c, v = .slice A m c := by
  obtain ⟨A, c, rfl, _⟩ := h.open_
  exact ⟨_, _, _, rfl⟩
theorem EndssR.isSlice {w : World} {S : Nat → Prop} {v : Value} {xs : List Ends} (h : EndssR w S v xs) : ∃ A m c, v = .slice A m c := by
  obtain ⟨A, c, rfl, _⟩ := h
  exact ⟨_, _, _, rfl⟩
theorem NetR.slices {w : World} {B : Nat} {ve vi vn : Value} {n : Net} (h : NetR w B ve vi vn n) : (∃ A m c, ve = .slice A m c) ∧ (∃ A m c, vi = .slice A m c) ∧ ∃ A m c, vn = .slice A m c := ⟨h.e.isSlice, h.i.isSlice, h.n.isSlice⟩
theorem ints_row {w : World} {g B : Nat} {t : TypeId} {xs : List Int} (hc : w.heap[g]? = some (.cells (xs.map intV).toArray t (0, 0))) (hl : xs.length ≤ maxLen) (hI : ∀ x ∈ xs, I64 x) (hg : g < B) : IntsR w B (.slice (some ⟨g, 0, none⟩) xs.length xs.length) xs := by
  refine ⟨⟨some ⟨g, 0, none⟩, xs.length, by rw [List.length_map], by rw [List.length_map]; exact Nat.le_refl _, hl, fun _ => ⟨_, rfl, hg, fun j u hu => ?_⟩⟩, hI⟩
  rw [show (⟨g, 0, none⟩ : Addr).add j = ⟨g, j, none⟩ by unfold Addr.add; split <;> simp_all, cell_of_row _ _ j _ _ (0, 0) hc, ← Array.getElem?_toList]
  exact hu
end Go.Proofs.YtcpbbjocaimocaaGreat
