/-
  Asynchronous states that are a call's own: every list in a block of its own, no two in one; what a store, an append and a new list leave of that. No program in sight, no condition.
-/
import Derived.Test.YtcpbbjocaimocaaGreatPlainMay
import Derived.Test.YtcpbbjocaimocaaGreatMachMem
namespace Go.Proofs.YtcpbbjocaimocaaGreat
open Go.RowKit
set_option linter.unusedVariables false
set_option linter.unusedSimpArgs false
/-- The lists of a state: rounds, before, now, slots, flight; the slots of a node; the ports' letters of a node; the letters at a port. -/
inductive Key where
  | r | b | n | s | f
  | sl (k : Nat)
  | fr (k : Nat)
  | le (k p : Nat)
structure RowD where
  ty : TypeId
  sz : Nat
  len : Nat
  con : List Value
noncomputable def upd {α : Type} (g : Key → α) (i : Key) (v : α) (j : Key) : α := @ite α (j = i) (Classical.propDecidable _) v (g j)
theorem upd_same {α : Type} (g : Key → α) (i : Key) (v : α) : upd g i v i = v := by unfold upd; rw [if_pos rfl]
theorem upd_ne {α : Type} (g : Key → α) {i j : Key} (v : α) (h : j ≠ i) : upd g i v j = g j := by unfold upd; rw [if_neg h]
structure OwnK (w : World) (base : Nat) (K : Key → Prop) (val : Key → Value) (R : Key → RowD) : Prop where
  own : ∀ i, K i → w.ownsRow base (R i).ty (R i).sz (val i) (R i).len (R i).con
  sep : ∀ i j, K i → K j → i ≠ j → (val i).ownBlock = none ∨ (val i).ownBlock ≠ (val j).ownBlock
section
variable {w w' : World} {base : Nat} {K K' : Key → Prop} {val val' : Key → Value} {R R' : Key → RowD}
theorem OwnK.keep (h : OwnK w base K val R) (hg : w.grownBy w' none) : OwnK w' base K val R :=
  ⟨fun i hi => (h.own i hi).kept hg (by cases (val i).ownBlock <;> simp), h.sep⟩
theorem OwnK.congr (h : OwnK w base K val R) (hv : ∀ j, K' j → K j ∧ val' j = val j ∧ R' j = R j) : OwnK w base K' val' R' :=
  ⟨fun i hi => by obtain ⟨a, b, c⟩ := hv i hi; rw [b, c]; exact h.own i a, fun i j hi hj hne => by rw [(hv i hi).2.1, (hv j hj).2.1]; exact h.sep i j (hv i hi).1 (hv j hj).1 hne⟩
theorem OwnK.put (h : OwnK w base K val R) (i : Key) (v : Value) (Ri : RowD) {row : Option Nat} (hg : w.grownBy w' row) (hrow : ∀ j, K j → j ≠ i → (val j).ownBlock = none ∨ (val j).ownBlock ≠ row)
    (hn : w'.ownsRow base Ri.ty Ri.sz v Ri.len Ri.con) (hb : v.ownBlock = none ∨ (K i ∧ v.ownBlock = (val i).ownBlock) ∨ ∃ g, v.ownBlock = some g ∧ w.heap.size ≤ g) :
    OwnK w' base (fun j => K j ∨ j = i) (upd val i v) (upd R i Ri) := by
  have hv : ∀ j, K j → j ≠ i → v.ownBlock = none ∨ v.ownBlock ≠ (val j).ownBlock := fun j hj hne => by
    rcases hb with hb | ⟨hi, hb⟩ | ⟨g, hb, hlt⟩
    · exact .inl hb
    · rw [hb]; exact h.sep i j hi hj (Ne.symm hne)
    · refine .inr fun e => ?_
      rw [hb] at e
      have := ((h.own j hj).lt g e.symm).2
      omega
  refine ⟨fun j hj => ?_, fun j k hj hk hne => ?_⟩
  · by_cases e : j = i
    · subst e; rw [upd_same, upd_same]; exact hn
    · rw [upd_ne _ _ e, upd_ne _ _ e]
      have hj' : K j := hj.resolve_right e
      exact (h.own j hj').kept hg (hrow j hj' e)
  · by_cases e : j = i
    · subst e
      have ek : k ≠ j := fun e => hne e.symm
      rw [upd_same, upd_ne _ _ ek]
      exact hv k (hk.resolve_right ek) ek
    · rw [upd_ne _ _ e]
      by_cases ek : k = i
      · subst ek
        rw [upd_same]
        rcases hv j (hj.resolve_right e) e with h1 | h1
        · rw [h1]
          cases (val j).ownBlock with
          | none => exact .inl rfl
          | some g => exact .inr (by simp)
        · exact .inr fun e => h1 e.symm
      · rw [upd_ne _ _ ek]
        exact h.sep j k (hj.resolve_right e) (hk.resolve_right ek) hne
/-- A new list, the others as before. -/
theorem OwnK.new (h : OwnK w base K val R) (i : Key) (v : Value) (Ri : RowD) (hg : w.grownBy w' none) (hn : w'.ownsRow base Ri.ty Ri.sz v Ri.len Ri.con) (hb : v.ownBlock = none ∨ ∃ g, v.ownBlock = some g ∧ w.heap.size ≤ g) :
    OwnK w' base (fun j => K j ∨ j = i) (upd val i v) (upd R i Ri) :=
  h.put i v Ri hg (fun j _ _ => by cases (val j).ownBlock <;> simp) hn (hb.imp id fun x => .inr x)
/-- A list that grows or is written. -/
theorem OwnK.mend (h : OwnK w base K val R) (i : Key) (hi : K i) (v : Value) (Ri : RowD) (hg : w.grownBy w' (val i).ownBlock) (hn : w'.ownsRow base Ri.ty Ri.sz v Ri.len Ri.con) (hb : v.ownBlock = (val i).ownBlock ∨ ∃ g, v.ownBlock = some g ∧ w.heap.size ≤ g) :
    OwnK w' base K (upd val i v) (upd R i Ri) :=
  (h.put i v Ri hg (fun j hj hne => h.sep j i hj hi hne) hn (.inr (hb.imp (fun e => ⟨hi, e⟩) id))).congr fun j hj => ⟨.inl hj, rfl, rfl⟩
/-- One element of a list is set. -/
theorem OwnK.set (h : OwnK w base K val R) (i : Key) (hi : K i) {g cap j n : Nat} {con : List Value} {ty : TypeId} {sz : Nat} (hv : val i = .slice (some ⟨g, 0, none⟩) n cap) (hR : R i = ⟨ty, sz, n, con⟩) (u : Value) :
    OwnK (w.setCell ⟨g, j, none⟩ u) base K val (upd R i ⟨ty, sz, n, con.set j u⟩) := by
  have ho := h.own i hi
  rw [hv, hR] at ho
  obtain ⟨h1, h2⟩ := World.ownsRow.stored ho j u
  have hb : (val i).ownBlock = some g := by rw [hv]; rfl
  refine (h.mend (w' := w.setCell ⟨g, j, none⟩ u) i hi (val i) ⟨ty, sz, n, con.set j u⟩ (by rw [hb]; exact h2) (by rw [hv]; exact h1) (.inl rfl)).congr fun k hk => ⟨hk, ?_, rfl⟩
  by_cases e : k = i
  · subst e; rw [upd_same]
  · rw [upd_ne _ _ e]
end
def letC (e : Int × Int) : List Value := [.int .i64 e.1, .int .i64 e.2]
def letCells (ls : Ends) : List Value := ls.flatMap letC
def portsAt (x : Asy) (k : Nat) : List Ends := x.flight.getD k []
def slotsAt (x : Asy) (k : Nat) : List Int := x.slots.getD k []
def lettersAt (x : Asy) (k p : Nat) : Ends := (portsAt x k).getD p []
def valsOf (g : Nat → Key) (val : Key → Value) (n : Nat) : List Value := (List.range n).map fun k => val (g k)
def rowK (x : Asy) (val : Key → Value) : Key → RowD
  | .r => ⟨3, 1, x.rounds.length, x.rounds.map intV⟩
  | .b => ⟨3, 1, x.before.length, x.before.map intV⟩
  | .n => ⟨3, 1, x.now.length, x.now.map intV⟩
  | .s => ⟨24, 1, x.slots.length, valsOf .sl val x.slots.length⟩
  | .f => ⟨119, 1, x.flight.length, valsOf .fr val x.flight.length⟩
  | .sl k => ⟨3, 1, (slotsAt x k).length, (slotsAt x k).map intV⟩
  | .fr k => ⟨120, 1, (portsAt x k).length, valsOf (.le k) val (portsAt x k).length⟩
  | .le k p => ⟨156, 2, (lettersAt x k p).length, letCells (lettersAt x k p)⟩
def keyOf (x : Asy) : Key → Prop
  | .sl k => k < x.slots.length
  | .fr k => k < x.flight.length
  | .le k p => k < x.flight.length ∧ p < (portsAt x k).length
  | _ => True
/-- The state x, all of it the call's own. -/
def AsyK (w : World) (base : Nat) (val : Key → Value) (x : Asy) : Prop := OwnK w base (keyOf x) val (rowK x val)
end Go.Proofs.YtcpbbjocaimocaaGreat
