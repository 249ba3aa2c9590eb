/-
  Small lemmas and contracts that the texts of this claim share. No condition.
-/
import Derived.Test.YtdghoienjegffaaGreatRZ
namespace Go.Proofs.YtdghoienjegffaaGreat
open Go.RowKit
set_option linter.all false
inductive NKey where
  | e | i | n
  | r (k : Nat)
structure RowN where
  ty : TypeId
  sz : Nat
  len : Nat
  con : List Value
noncomputable def updN {α : Type} (g : NKey → α) (i : NKey) (v : α) (j : NKey) : α := @ite α (j = i) (Classical.propDecidable _) v (g j)
theorem updN_same {α : Type} (g : NKey → α) (i : NKey) (v : α) : updN g i v i = v := by unfold updN; rw [if_pos rfl]
theorem updN_ne {α : Type} (g : NKey → α) {i j : NKey} (v : α) (h : j ≠ i) : updN g i v j = g j := by unfold updN; rw [if_neg h]
structure OwnN (w : World) (base : Nat) (K : NKey → Prop) (val : NKey → Value) (R : NKey → RowN) : Prop where
  own : ∀ i, K i → w.ownsRow base (R i).ty (R i).sz (val i) (R i).len (R i).con
  sep : ∀ i j, K i → K j → i ≠ j → (val i).ownBlock = none ∨ (val i).ownBlock ≠ (val j).ownBlock
theorem grown_belowN {w w' : World} (h : Below w.heap.size w w') (row : Option Nat) : w.grownBy w' row := ⟨h.os, h.tape, h.output, h.size, fun k hk _ => h.block k hk⟩
theorem freshN {w w' : World} {e : TypeId} {sz n : Nat} {v : Value} {vs : List Value} (h : w'.ownsRow w.heap.size e sz v n vs) : v.ownBlock = none ∨ ∃ g, v.ownBlock = some g ∧ w.heap.size ≤ g := by
  have hl := h.lt;cases e : v.ownBlock with
  | none => exact .inl rfl
  | some g => exact .inr ⟨g, rfl, (hl g e).1⟩
section
variable {w w' : World} {base : Nat} {K K' : NKey → Prop} {val val' : NKey → Value} {R R' : NKey → RowN}
theorem OwnN.keep (h : OwnN w base K val R) (hg : w.grownBy w' none) : OwnN w' base K val R :=
  ⟨fun i hi => (h.own i hi).kept hg (by cases (val i).ownBlock <;> simp), h.sep⟩
theorem OwnN.mono {base' : Nat} (h : OwnN w base K val R) (hb : base' ≤ base) : OwnN w base' K val R := ⟨fun i hi => own_mono (h.own i hi) hb, h.sep⟩
theorem OwnN.congr (h : OwnN w base K val R) (hv : ∀ j, K' j → K j ∧ val' j = val j ∧ R' j = R j) : OwnN w base K' val' R' :=
  ⟨fun i hi => by obtain ⟨a, b, c⟩ := hv i hi; rw [b, c]; exact h.own i a, fun i j hi hj hne => by rw [(hv i hi).2.1, (hv j hj).2.1]; exact h.sep i j (hv i hi).1 (hv j hj).1 hne⟩
theorem OwnN.put (h : OwnN w base K val R) (i : NKey) (v : Value) (Ri : RowN) {row : Option Nat} (hg : w.grownBy w' row) (hrow : ∀ j, K j → j ≠ i → (val j).ownBlock = none ∨ (val j).ownBlock ≠ row)
  (hn : w'.ownsRow base Ri.ty Ri.sz v Ri.len Ri.con) (hb : v.ownBlock = none ∨ (K i ∧ v.ownBlock = (val i).ownBlock) ∨ ∃ g, v.ownBlock = some g ∧ w.heap.size ≤ g) :
  OwnN w' base (fun j => K j ∨ j = i) (updN val i v) (updN R i Ri) := by
 have hv : ∀ j, K j → j ≠ i → v.ownBlock = none ∨ v.ownBlock ≠ (val j).ownBlock := fun j hj hne => by
  rcases hb with hb | ⟨hi, hb⟩ | ⟨g, hb, hlt⟩
  · exact .inl hb
  · rw [hb]; exact h.sep i j hi hj (Ne.symm hne)
  ·
   refine .inr fun e => ?_
   rw [hb] at e;have := ((h.own j hj).lt g e.symm).2;omega
 refine ⟨fun j hj => ?_, fun j k hj hk hne => ?_⟩
 ·
  by_cases e : j = i
  · subst e; rw [updN_same, updN_same]; exact hn
  · rw [updN_ne _ _ e, updN_ne _ _ e];have hj' : K j := hj.resolve_right e;exact (h.own j hj').kept hg (hrow j hj' e)
 ·
  by_cases e : j = i
  ·
   subst e;have ek : k ≠ j := fun e => hne e.symm
   rw [updN_same, updN_ne _ _ ek];exact hv k (hk.resolve_right ek) ek
  ·
   rw [updN_ne _ _ e];by_cases ek : k = i
   ·
    subst ek;rw [updN_same];rcases hv j (hj.resolve_right e) e with h1 | h1
    ·
     rw [h1];cases (val j).ownBlock with
     | none => exact .inl rfl
     | some g => exact .inr (by simp)
    · exact .inr fun e => h1 e.symm
   · rw [updN_ne _ _ ek];exact h.sep j k (hj.resolve_right e) (hk.resolve_right ek) hne
theorem OwnN.new (h : OwnN w base K val R) (i : NKey) (v : Value) (Ri : RowN) (hg : w.grownBy w' none) (hn : w'.ownsRow base Ri.ty Ri.sz v Ri.len Ri.con) (hb : v.ownBlock = none ∨ ∃ g, v.ownBlock = some g ∧ w.heap.size ≤ g) :
    OwnN w' base (fun j => K j ∨ j = i) (updN val i v) (updN R i Ri) :=
  h.put i v Ri hg (fun j _ _ => by cases (val j).ownBlock <;> simp) hn (hb.imp id fun x => .inr x)
theorem OwnN.mend (h : OwnN w base K val R) (i : NKey) (hi : K i) (v : Value) (Ri : RowN) (hg : w.grownBy w' (val i).ownBlock) (hn : w'.ownsRow base Ri.ty Ri.sz v Ri.len Ri.con) (hb : v.ownBlock = (val i).ownBlock ∨ ∃ g, v.ownBlock = some g ∧ w.heap.size ≤ g) :
    OwnN w' base K (updN val i v) (updN R i Ri) :=
  (h.put i v Ri hg (fun j hj hne => h.sep j i hj hi hne) hn (.inr (hb.imp (fun e => ⟨hi, e⟩) id))).congr fun j hj => ⟨.inl hj, rfl, rfl⟩
theorem OwnN.set (h : OwnN w base K val R) (i : NKey) (hi : K i) {g cap j n : Nat} {con : List Value} {ty : TypeId} {sz : Nat} (hv : val i = .slice (some ⟨g, 0, none⟩) n cap) (hR : R i = ⟨ty, sz, n, con⟩) (u : Value) :
    OwnN (w.setCell ⟨g, j, none⟩ u) base K val (updN R i ⟨ty, sz, n, con.set j u⟩) := by
  have ho := h.own i hi;rw [hv, hR] at ho;obtain ⟨h1, h2⟩ := World.ownsRow.stored ho j u;have hb : (val i).ownBlock = some g := by rw [hv]; rfl
  refine (h.mend (w' := w.setCell ⟨g, j, none⟩ u) i hi (val i) ⟨ty, sz, n, con.set j u⟩ (by rw [hb]; exact h2) (by rw [hv]; exact h1) (.inl rfl)).congr fun k hk => ⟨hk, ?_, rfl⟩
  by_cases e : k = i
  · subst e; rw [updN_same]
  · rw [updN_ne _ _ e]
end
def endC (e : Int × Int) : List Value := [.int .i64 e.1, .int .i64 e.2]
def endCells (ls : Ends) : List Value := ls.flatMap endC
def rowAt (n : Net) (k : Nat) : Ends := n.es.getD k []
def valsN (val : NKey → Value) (n : Nat) : List Value := (List.range n).map fun k => val (.r k)
def rowN (n : Net) (val : NKey → Value) : NKey → RowN
  | .e => ⟨75, 1, n.es.length, valsN val n.es.length⟩
  | .i => ⟨3, 1, n.ids.length, n.ids.map intV⟩
  | .n => ⟨3, 1, n.ins.length, n.ins.map intV⟩
  | .r k => ⟨74, 2, (rowAt n k).length, endCells (rowAt n k)⟩
def keyN (n : Net) : NKey → Prop
  | .r k => k < n.es.length
  | _ => True
def NetK (w : World) (base : Nat) (val : NKey → Value) (n : Net) : Prop := OwnN w base (keyN n) val (rowN n val)
theorem endCells_at {ls : Ends} {k : Nat} {e : Int × Int} (h : ls[k]? = some e) : (endCells ls)[k * 2]? = some (.int .i64 e.1) ∧ (endCells ls)[k * 2 + 1]? = some (.int .i64 e.2) := by
  induction ls generalizing k with
  | nil => simp at h
  | cons y r ih =>
    have e' : endCells (y :: r) = endC y ++ endCells r := rfl;rcases k with _ | k
    · simp only [List.getElem?_cons_zero, Option.some.injEq] at h
      subst h;exact ⟨rfl, rfl⟩
    · have := ih (k := k) h
      rw [e'];have hl : (endC y).length = 2 := rfl;rw [List.getElem?_append_right (by rw [hl]; omega), List.getElem?_append_right (by rw [hl]; omega), hl];rw [show (k + 1) * 2 - 2 = k * 2 by omega, show (k + 1) * 2 + 1 - 2 = k * 2 + 1 by omega];exact this
theorem endCells_len (ls : Ends) : (endCells ls).length = ls.length * 2 := by
  induction ls with
  | nil => rfl
  | cons y r ih => rw [show endCells (y :: r) = endC y ++ endCells r from rfl, List.length_append, ih, List.length_cons]; show 2 + _ = _; omega
theorem endCells_append (a b : Ends) : endCells (a ++ b) = endCells a ++ endCells b := by unfold endCells; rw [List.flatMap_append]
theorem endCells_snoc (ls : Ends) (e : Int × Int) : endCells (ls ++ [e]) = endCells ls ++ endC e := by rw [endCells_append]; unfold endCells; simp
theorem endCells_set {ls : Ends} {k : Nat} {e : Int × Int} (hk : k < ls.length) : endCells (ls.set k e) = ((endCells ls).set (k * 2) (.int .i64 e.1)).set (k * 2 + 1) (.int .i64 e.2) := by
  induction ls generalizing k with
  | nil => simp at hk
  | cons y r ih =>
    have e' : ∀ z, endCells (z :: r) = .int .i64 z.1 :: .int .i64 z.2 :: endCells r := fun _ => rfl
    rcases k with _ | k
    · rw [List.set_cons_zero, e', e']; rfl
    · have e2 : endCells (y :: r.set k e) = .int .i64 y.1 :: .int .i64 y.2 :: endCells (r.set k e) := rfl
      rw [List.set_cons_succ, e2, e', ih (by simpa using hk), show (k + 1) * 2 = k * 2 + 1 + 1 by omega];rfl
theorem own_endsN {w : World} {base : Nat} {v : Value} {ls : Ends} (h : w.ownsRow base 74 2 v ls.length (endCells ls)) (hi : ∀ e ∈ ls, I64 e.1 ∧ I64 e.2) : EndsR w (· < w.heap.size) v ls := by
  have hlt := h.lt;have hc := fun g cap (e : v = .slice (some ⟨g, 0, none⟩) ls.length cap) => World.ownsRow.cellAt (by rw [e] at h; exact h)
  rcases h.2 with ⟨e, e0⟩ | ⟨g, cap, cur, e, hb, hg, hn, hm, hs, ht⟩
  · exact ⟨none, 0, by rw [e, e0], by omega, Nat.zero_le _, hi, fun hn => absurd hn (by omega)⟩
  · refine ⟨some ⟨g, 0, none⟩, cap, e, hn, hm, hi, fun _ => ⟨g, 0, rfl, (hlt g (by rw [e]; rfl)).2, fun k x hx => ?_⟩⟩
    obtain ⟨h1, h2⟩ := endCells_at hx;have hk := (List.getElem?_eq_some_iff.1 hx).1;rw [Nat.zero_add];exact ⟨(hc g cap e (k * 2) (by omega)).trans h1, (hc g cap e (k * 2 + 1) (by omega)).trans h2⟩
structure I64N (n : Net) : Prop where
  e : ∀ l ∈ n.es, ∀ e ∈ l, I64 e.1 ∧ I64 e.2
  i : ∀ x ∈ n.ids, I64 x
  n : ∀ x ∈ n.ins, I64 x
theorem valsN_at {val : NKey → Value} {n k : Nat} (h : k < n) : (valsN val n)[k]? = some (val (.r k)) := by unfold valsN;rw [List.getElem?_map, List.getElem?_range h];rfl
theorem valsN_len (val : NKey → Value) (n : Nat) : (valsN val n).length = n := by simp [valsN]
theorem valsN_succ (val : NKey → Value) (n : Nat) : valsN val (n + 1) = valsN val n ++ [val (.r n)] := by simp [valsN, List.range_succ]
theorem valsN_congr {val val' : NKey → Value} {n : Nat} (h : ∀ k, k < n → val' (.r k) = val (.r k)) : valsN val' n = valsN val n := by unfold valsN;exact List.map_congr_left fun k hk => h k (List.mem_range.1 hk)
theorem valsN_set (val : NKey → Value) (n k : Nat) (v : Value) : valsN (updN val (.r k) v) n = (valsN val n).set k v := by
  refine List.ext_getElem? fun j => ?_
  rw [List.getElem?_set, valsN_len];by_cases hj : j < n
  · rw [valsN_at hj]
    by_cases e : k = j
    · subst e; rw [if_pos rfl, if_pos hj, updN_same]
    · rw [if_neg e, valsN_at hj, updN_ne _ _ fun h => e (NKey.r.inj h).symm]
  · rw [List.getElem?_eq_none (by rw [valsN_len]; omega)]
    by_cases e : k = j
    · subst e; rw [if_pos rfl, if_neg hj]
    · rw [if_neg e, List.getElem?_eq_none (by rw [valsN_len]; omega)]
section
variable {w w' w1 w2 : World} {base : Nat} {val : NKey → Value} {n : Net}
theorem rowAt_eq {k : Nat} {s : Ends} (h : n.es[k]? = some s) : rowAt n k = s := by unfold rowAt; rw [List.getD_eq_getElem?_getD, h]; rfl
theorem rowAt_lt {k : Nat} (h : k < n.es.length) : n.es[k]? = some (rowAt n k) := by
  obtain ⟨s, hs⟩ : ∃ s, n.es[k]? = some s := ⟨_, List.getElem?_eq_getElem h⟩
  rw [rowAt_eq hs, hs]
theorem NetK.up (h : NetK w base val n) (hb : Below w.heap.size w w') : NetK w' base val n := OwnN.keep h (grown_belowN hb _)
theorem NetK.reads (h : NetK w base val n) (hi : I64N n) : NetR w w.heap.size (val .e) (val .i) (val .n) n := by
  refine ⟨?_, own_intsR (h.own .i trivial) hi.i, own_intsR (h.own .n trivial) hi.n⟩;have ho := h.own .e trivial;obtain ⟨bs, r1, -, -⟩ := OwnRow.of_owns ho;obtain ⟨A, c, e, h1, h2, h3⟩ := r1.reads r1.lt;have hl : (rowN n val .e).con.length = n.es.length := valsN_len _ _;rw [hl] at e h1 h3;refine ⟨A, c, e, h1, h2, fun hn => ?_⟩;obtain ⟨ad, e', hb, hc⟩ := h3 hn;refine ⟨ad, e', hb, fun k f hf => ⟨val (.r k), hc k _ (valsN_at (List.getElem?_eq_some_iff.1 hf).1), ?_⟩⟩;have hk := (List.getElem?_eq_some_iff.1 hf).1;have ho := h.own (.r k) hk;have e : rowN n val (.r k) = ⟨74, 2, f.length, endCells f⟩ := by show (⟨_, _, (rowAt n k).length, _⟩ : RowN) = _; rw [rowAt_eq hf]
  rw [e] at ho;exact own_endsN ho (hi.e f (List.mem_of_getElem? hf))
theorem OwnN.slice {K : NKey → Prop} {R : NKey → RowN} (h : OwnN w base K val R) (i : NKey) (hi : K i) (hn : 0 < (R i).len) : ∃ g cap, val i = .slice (some ⟨g, 0, none⟩) (R i).len cap ∧ (R i).len ≤ cap ∧ cap ≤ maxLen ∧ base ≤ g ∧ g < w.heap.size := by
  have ho := h.own i hi;have hl := ho.lt;rcases ho.2 with ⟨_, e⟩ | ⟨g, cap, cur, e, h1, _, h5, h6, _⟩
  · omega
  · exact ⟨g, cap, e, h5, h6, h1, (hl g (by rw [e]; rfl)).2⟩
theorem NetK.outer (h : NetK w base val n) (h0 : 0 < n.es.length) : ∃ g cap, val .e = .slice (some ⟨g, 0, none⟩) n.es.length cap ∧ n.es.length ≤ cap ∧ cap ≤ maxLen ∧ base ≤ g ∧ g < w.heap.size := OwnN.slice h .e trivial h0
theorem NetK.insSlice (h : NetK w base val n) (h0 : 0 < n.ins.length) : ∃ g cap, val .n = .slice (some ⟨g, 0, none⟩) n.ins.length cap ∧ n.ins.length ≤ cap ∧ cap ≤ maxLen ∧ base ≤ g ∧ g < w.heap.size := OwnN.slice h .n trivial h0
theorem NetK.idsSlice (h : NetK w base val n) (h0 : 0 < n.ids.length) : ∃ g cap, val .i = .slice (some ⟨g, 0, none⟩) n.ids.length cap ∧ n.ids.length ≤ cap ∧ cap ≤ maxLen ∧ base ≤ g ∧ g < w.heap.size := OwnN.slice h .i trivial h0
theorem NetK.rowSlice (h : NetK w base val n) {k : Nat} {l : Ends} (hl : n.es[k]? = some l) (h0 : 0 < l.length) : ∃ g cap, val (.r k) = .slice (some ⟨g, 0, none⟩) l.length cap ∧ l.length ≤ cap ∧ cap ≤ maxLen ∧ base ≤ g ∧ g < w.heap.size := by have := OwnN.slice h (.r k) (List.getElem?_eq_some_iff.1 hl).1 (by show 0 < (rowAt n k).length; rw [rowAt_eq hl]; exact h0);rw [show (rowN n val (.r k)).len = l.length by show (rowAt n k).length = _; rw [rowAt_eq hl]] at this;exact this
theorem NetK.rowOwn (h : NetK w base val n) {k : Nat} {l : Ends} (hl : n.es[k]? = some l) : w.ownsRow base 74 2 (val (.r k)) l.length (endCells l) := by have ho := h.own (.r k) (List.getElem?_eq_some_iff.1 hl).1;rw [show rowN n val (.r k) = ⟨74, 2, l.length, endCells l⟩ by show (⟨_, _, (rowAt n k).length, _⟩ : RowN) = _; rw [rowAt_eq hl]] at ho;exact ho
theorem NetK.outerCell (h : NetK w base val n) {g cap k : Nat} (hv : val .e = .slice (some ⟨g, 0, none⟩) n.es.length cap) (hk : k < n.es.length) : w.cell? ⟨g, k, none⟩ = some (val (.r k)) := by
  have ho := h.own .e trivial;have ho' : w.ownsRow base 75 1 (.slice (some ⟨g, 0, none⟩) n.es.length cap) n.es.length (valsN val n.es.length) := by rw [← hv]; exact ho
  exact (World.ownsRow.cellAt ho' k (by omega)).trans (valsN_at hk)
theorem NetK.newIns (h : NetK w base val n) {v : Value} {xs : List Int} (hg : w.grownBy w1 none) (hn : w1.ownsRow base 3 1 v xs.length (xs.map intV)) (hb : v.ownBlock = none ∨ ∃ g, v.ownBlock = some g ∧ w.heap.size ≤ g) : NetK w1 base (updN val .n v) { n with ins := xs } :=
  (OwnN.new h .n v ⟨3, 1, xs.length, xs.map intV⟩ hg hn hb).congr fun j hj => ⟨.inl (by cases j <;> exact hj), rfl, by
    cases j with
    | n => rw [updN_same]; rfl
    | e => rw [updN_ne _ _ (by simp)]; show (⟨_, _, _, valsN (updN val .n v) _⟩ : RowN) = _; rw [valsN_congr (fun _ _ => updN_ne _ _ (by simp))]; rfl
    | _ => rw [updN_ne _ _ (by simp)]; rfl⟩
theorem NetK.newIds (h : NetK w base val n) {v : Value} {xs : List Int} (hg : w.grownBy w1 none) (hn : w1.ownsRow base 3 1 v xs.length (xs.map intV)) (hb : v.ownBlock = none ∨ ∃ g, v.ownBlock = some g ∧ w.heap.size ≤ g) : NetK w1 base (updN val .i v) { n with ids := xs } :=
  (OwnN.new h .i v ⟨3, 1, xs.length, xs.map intV⟩ hg hn hb).congr fun j hj => ⟨.inl (by cases j <;> exact hj), rfl, by
    cases j with
    | i => rw [updN_same]; rfl
    | e => rw [updN_ne _ _ (by simp)]; show (⟨_, _, _, valsN (updN val .i v) _⟩ : RowN) = _; rw [valsN_congr (fun _ _ => updN_ne _ _ (by simp))]; rfl
    | _ => rw [updN_ne _ _ (by simp)]; rfl⟩
theorem NetK.moreIns (h : NetK w base val n) {v : Value} {xs : List Int} (hg : w.grownBy w1 (val .n).ownBlock) (hn : w1.ownsRow base 3 1 v xs.length (xs.map intV)) (hb : v.ownBlock = (val .n).ownBlock ∨ ∃ g, v.ownBlock = some g ∧ w.heap.size ≤ g) : NetK w1 base (updN val .n v) { n with ins := xs } :=
  (OwnN.mend h .n trivial v ⟨3, 1, xs.length, xs.map intV⟩ hg hn hb).congr fun j hj => ⟨by cases j <;> exact hj, rfl, by
    cases j with
    | n => rw [updN_same]; rfl
    | e => rw [updN_ne _ _ (by simp)]; show (⟨_, _, _, valsN (updN val .n v) _⟩ : RowN) = _; rw [valsN_congr (fun _ _ => updN_ne _ _ (by simp))]; rfl
    | _ => rw [updN_ne _ _ (by simp)]; rfl⟩
theorem NetK.moreIds (h : NetK w base val n) {v : Value} {xs : List Int} (hg : w.grownBy w1 (val .i).ownBlock) (hn : w1.ownsRow base 3 1 v xs.length (xs.map intV)) (hb : v.ownBlock = (val .i).ownBlock ∨ ∃ g, v.ownBlock = some g ∧ w.heap.size ≤ g) : NetK w1 base (updN val .i v) { n with ids := xs } :=
  (OwnN.mend h .i trivial v ⟨3, 1, xs.length, xs.map intV⟩ hg hn hb).congr fun j hj => ⟨by cases j <;> exact hj, rfl, by
    cases j with
    | i => rw [updN_same]; rfl
    | e => rw [updN_ne _ _ (by simp)]; show (⟨_, _, _, valsN (updN val .i v) _⟩ : RowN) = _; rw [valsN_congr (fun _ _ => updN_ne _ _ (by simp))]; rfl
    | _ => rw [updN_ne _ _ (by simp)]; rfl⟩
theorem NetK.setIn (h : NetK w base val n) {g cap : Nat} (hv : val .n = .slice (some ⟨g, 0, none⟩) n.ins.length cap) (k : Nat) (y : Int) : NetK (w.setCell ⟨g, k, none⟩ (.int .i64 y)) base val { n with ins := n.ins.set k y } :=
  (OwnN.set h .n trivial hv rfl (.int .i64 y) (j := k)).congr fun j hj => ⟨by cases j <;> exact hj, rfl, by
    cases j with
    | n => rw [updN_same]; show (⟨_, _, (n.ins.set k y).length, (n.ins.set k y).map intV⟩ : RowN) = _; rw [List.length_set, List.map_set]; rfl
    | _ => rw [updN_ne _ _ (by simp)]; rfl⟩
theorem NetK.setId (h : NetK w base val n) {g cap : Nat} (hv : val .i = .slice (some ⟨g, 0, none⟩) n.ids.length cap) (k : Nat) (y : Int) : NetK (w.setCell ⟨g, k, none⟩ (.int .i64 y)) base val { n with ids := n.ids.set k y } :=
  (OwnN.set h .i trivial hv rfl (.int .i64 y) (j := k)).congr fun j hj => ⟨by cases j <;> exact hj, rfl, by
    cases j with
    | i => rw [updN_same]; show (⟨_, _, (n.ids.set k y).length, (n.ids.set k y).map intV⟩ : RowN) = _; rw [List.length_set, List.map_set]; rfl
    | _ => rw [updN_ne _ _ (by simp)]; rfl⟩
theorem rowAt_set {k : Nat} (hk : k < n.es.length) (s : Ends) (j : Nat) : rowAt { n with es := n.es.set k s } j = if j = k then s else rowAt n j := by
  unfold rowAt;rw [List.getD_eq_getElem?_getD, List.getD_eq_getElem?_getD, List.getElem?_set];by_cases e : k = j
  · subst e; rw [if_pos rfl, if_pos hk, if_pos rfl]; rfl
  · rw [if_neg e, if_neg (fun h => e h.symm)]
theorem rowAt_snoc (s : Ends) (j : Nat) (hj : j ≤ n.es.length) : rowAt { n with es := n.es ++ [s] } j = if j = n.es.length then s else rowAt n j := by
  unfold rowAt;rw [List.getD_eq_getElem?_getD, List.getD_eq_getElem?_getD, List.getElem?_append];by_cases e : j = n.es.length
  · subst e; rw [if_neg (by omega), if_pos rfl]; simp
  · rw [if_pos (by omega), if_neg e]
theorem NetK.rowSet {K : NKey → Prop} {k : Nat} (hk : k < n.es.length) {v : Value} {l : Ends} {g cap : Nat} (hv : val .e = .slice (some ⟨g, 0, none⟩) n.es.length cap) (hK : ∀ j, keyN n j → K j)
    (h1 : OwnN w1 base K (updN val (.r k) v) (updN (rowN n val) (.r k) ⟨74, 2, l.length, endCells l⟩)) :
    NetK (w1.setCell ⟨g, k, none⟩ v) base (updN val (.r k) v) { n with es := n.es.set k l } :=
  (OwnN.set h1 .e (hK .e trivial) (by rw [updN_ne _ _ (by simp)]; exact hv) (by rw [updN_ne _ _ (by simp)]; rfl) v (j := k)).congr fun j hj => ⟨hK j (by
    cases j with
    | r i => exact (by simpa [keyN] using hj)
    | _ => exact hj), rfl, by
    cases j with
    | r i =>
      rw [updN_ne _ _ (by simp)];by_cases e : i = k
      · subst e
        rw [updN_same];show (⟨_, _, (rowAt { n with es := n.es.set i l } i).length, _⟩ : RowN) = _;rw [rowAt_set hk, if_pos rfl]
      · rw [updN_ne _ _ (by simpa using e)]
        show (⟨_, _, (rowAt { n with es := n.es.set k l } i).length, _⟩ : RowN) = _;rw [rowAt_set hk, if_neg e]; rfl
    | e => rw [updN_same]; show (⟨_, _, (n.es.set k _).length, valsN (updN val (.r k) v) (n.es.set k _).length⟩ : RowN) = _; rw [List.length_set, valsN_set]
    | _ => rw [updN_ne _ _ (by simp), updN_ne _ _ (by simp)]; rfl⟩
theorem NetK.newRow (h : NetK w base val n) {k : Nat} (hk : k < n.es.length) {g cap : Nat} (hv : val .e = .slice (some ⟨g, 0, none⟩) n.es.length cap) {v : Value} {l : Ends} (hg : w.grownBy w' none) (hn : w'.ownsRow base 74 2 v l.length (endCells l))
    (hb : v.ownBlock = none ∨ ∃ g, v.ownBlock = some g ∧ w.heap.size ≤ g) : NetK (w'.setCell ⟨g, k, none⟩ v) base (updN val (.r k) v) { n with es := n.es.set k l } :=
  NetK.rowSet hk hv (fun j hj => .inl hj) (OwnN.new h (.r k) v ⟨74, 2, l.length, endCells l⟩ hg hn hb)
theorem NetK.moreRow (h : NetK w base val n) {k : Nat} (hk : k < n.es.length) {g cap : Nat} (hv : val .e = .slice (some ⟨g, 0, none⟩) n.es.length cap) {v : Value} {l : Ends} (hg : w.grownBy w' (val (.r k)).ownBlock) (hn : w'.ownsRow base 74 2 v l.length (endCells l))
    (hb : v.ownBlock = (val (.r k)).ownBlock ∨ ∃ g, v.ownBlock = some g ∧ w.heap.size ≤ g) : NetK (w'.setCell ⟨g, k, none⟩ v) base (updN val (.r k) v) { n with es := n.es.set k l } :=
  NetK.rowSet hk hv (fun j hj => hj) (OwnN.mend h (.r k) hk v ⟨74, 2, l.length, endCells l⟩ hg hn hb)
theorem NetK.setEnd (h : NetK w base val n) {k : Nat} {l : Ends} (hl : n.es[k]? = some l) {g cap : Nat} (hv : val (.r k) = .slice (some ⟨g, 0, none⟩) l.length cap) {p : Nat} (hp : p < l.length) (x y : Int) :
  NetK ((w.setCell ⟨g, p * 2, none⟩ (.int .i64 x)).setCell ⟨g, p * 2 + 1, none⟩ (.int .i64 y)) base val { n with es := n.es.set k (l.set p (x, y)) } := by
 have hk := (List.getElem?_eq_some_iff.1 hl).1;have e0 : rowN n val (.r k) = ⟨74, 2, l.length, endCells l⟩ := by show (⟨_, _, (rowAt n k).length, _⟩ : RowN) = _; rw [rowAt_eq hl]
 refine (OwnN.set (OwnN.set h (.r k) hk hv e0 (.int .i64 x) (j := p * 2)) (.r k) hk hv (updN_same _ _ _) (.int .i64 y) (j := p * 2 + 1)).congr fun j hj => ⟨by
  cases j with
  | r i => exact (by simpa [keyN] using hj)
  | _ => exact hj, rfl, ?_⟩
 cases j with
 | r i =>
  by_cases e : i = k
  · subst e;rw [updN_same];show (⟨_, _, (rowAt { n with es := n.es.set i (l.set p (x, y)) } i).length, endCells (rowAt { n with es := n.es.set i (l.set p (x, y)) } i)⟩ : RowN) = _;rw [rowAt_set hk, if_pos rfl, List.length_set, endCells_set hp]
  · rw [updN_ne _ _ (by simpa using e), updN_ne _ _ (by simpa using e)];show (⟨_, _, (rowAt { n with es := n.es.set k (l.set p (x, y)) } i).length, _⟩ : RowN) = _;rw [rowAt_set hk, if_neg e]; rfl
 | e => rw [updN_ne _ _ (by simp), updN_ne _ _ (by simp)]; show (⟨_, _, (n.es.set k _).length, valsN val (n.es.set k _).length⟩ : RowN) = _; rw [List.length_set]; rfl
 | _ => rw [updN_ne _ _ (by simp), updN_ne _ _ (by simp)]; rfl
theorem NetK.addRow (h : NetK w base val n) {v v2 : Value} {s : Ends} (hg : w.grownBy w1 none) (hn : w1.ownsRow base 74 2 v s.length (endCells s)) (hb : v.ownBlock = none ∨ ∃ g, v.ownBlock = some g ∧ w.heap.size ≤ g)
  (hg2 : w1.grownBy w2 (val .e).ownBlock) (hn2 : w2.ownsRow base 75 1 v2 (n.es.length + 1) (valsN val n.es.length ++ [v])) (hb2 : v2.ownBlock = (val .e).ownBlock ∨ ∃ g, v2.ownBlock = some g ∧ w1.heap.size ≤ g) :
  NetK w2 base (updN (updN val (.r n.es.length) v) .e v2) { n with es := n.es ++ [s] } :=
 (OwnN.mend (OwnN.new h (.r n.es.length) v ⟨74, 2, s.length, endCells s⟩ hg hn hb) .e (.inl trivial) v2 ⟨75, 1, n.es.length + 1, valsN val n.es.length ++ [v]⟩ (by rw [updN_ne _ _ (by simp)]; exact hg2) hn2 (by rw [updN_ne _ _ (by simp)]; exact hb2)).congr fun j hj => ⟨by
  cases j with
  | r i =>
   have hi : i < (n.es ++ [s]).length := hj;rw [List.length_append, List.length_singleton] at hi;by_cases e : i = n.es.length
   · exact .inr (by rw [e])
   · exact .inl (show i < n.es.length by omega)
  | _ => exact .inl hj, rfl, by
  cases j with
  | r i =>
   have hi : i < (n.es ++ [s]).length := hj;rw [List.length_append, List.length_singleton] at hi;rw [updN_ne _ _ (by simp)];show (⟨_, _, (rowAt { n with es := n.es ++ [s] } i).length, endCells (rowAt { n with es := n.es ++ [s] } i)⟩ : RowN) = _;rw [rowAt_snoc s i (by omega)];by_cases e : i = n.es.length
   · subst e; rw [updN_same, if_pos rfl]
   · rw [updN_ne _ _ (by simpa using e), if_neg e]; rfl
  | e =>
   rw [updN_same];show (⟨_, _, (n.es ++ [s]).length, valsN (updN (updN val (.r n.es.length) v) .e v2) (n.es ++ [s]).length⟩ : RowN) = _;rw [List.length_append, List.length_singleton, valsN_succ, updN_ne _ _ (by simp), updN_same, valsN_congr (fun i hi => by rw [updN_ne _ _ (by simp), updN_ne _ _ (by simp; omega)])]
  | _ => rw [updN_ne _ _ (by simp), updN_ne _ _ (by simp)]; rfl⟩
end
structure NetB (w : World) (base : Nat) (val : NKey → Value) (n : Net) (P : Nat) : Prop where
  k : NetK w base val n
  ne : ∀ j, keyN n j → (val j).ownBlock ≠ some P
  box : w.heap[P]? = some (.cells #[val .e, val .i, val .n] 27 (0, 0))
def TyN (t : TypeId) : Prop := t = 75 ∨ t = 3 ∨ t = 74
section
variable {w w' w1 w2 : World} {base P : Nat} {val : NKey → Value} {n : Net}
theorem heap_ltN {w : World} {b : Nat} {o : Obj} (h : w.heap[b]? = some o) : b < w.heap.size := (Array.getElem?_eq_some_iff.1 h).1
theorem NetB.lt (h : NetB w base val n P) : P < w.heap.size := heap_ltN h.box
theorem NetB.up (h : NetB w base val n P) (hb : Below w.heap.size w w1) : NetB w1 base val n P := ⟨h.k.up hb, h.ne, (hb.block P h.lt).trans h.box⟩
theorem rowN_ty (j : NKey) : TyN (rowN n val j).ty := by
  cases j with
  | e => exact .inl rfl
  | i => exact .inr (.inl rfl)
  | n => exact .inr (.inl rfl)
  | r k => exact .inr (.inr rfl)
theorem NetK.noTy (h : NetK w base val n) {j : NKey} (hj : keyN n j) {g : Nat} {cur : Array Value} {t : TypeId} {fz : Nat × Nat} (hg : w.heap[g]? = some (.cells cur t fz)) (ht : ¬ TyN t) : (val j).ownBlock ≠ some g := fun e => by
  rcases (h.own j hj).2 with ⟨e2, _⟩ | ⟨g', cap, cur', e2, _, h3, _⟩
  · rw [e2] at e; cases e
  · rw [e2] at e
    obtain rfl : g' = g := Option.some.inj e;rw [hg] at h3;have := Option.some.inj h3;simp only [Obj.cells.injEq] at this;exact ht (this.2.1 ▸ rowN_ty j)
theorem OwnN.apart {K : NKey → Prop} {R : NKey → RowN} (h : OwnN w base K val R) (hg : w.grownBy w' (some P)) (ne : ∀ j, K j → (val j).ownBlock ≠ some P) : OwnN w' base K val R := ⟨fun i hi => (h.own i hi).kept hg (.inr (ne i hi)), h.sep⟩
theorem NetK.past (h : NetK w base val n) {cur : Array Value} {t : TypeId} {fz : Nat × Nat} (hP : w.heap[P]? = some (.cells cur t fz)) (ht : ¬ TyN t) (hg : w.grownBy w' (some P)) : NetK w' base val n :=
  OwnN.apart h hg fun j hj => h.noTy hj hP ht
end
end Go.Proofs.YtdghoienjegffaaGreat
namespace Go.Proofs.YtdghoienjegffaaGreat
open Go.RowKit
set_option linter.all false
def degA (n : Net) (u : Nat) : Nat := (rowAt n u).length
def EndsOk (n : Net) : Prop := ∀ (u : Nat) (e : Int × Int), e ∈ rowAt n u → ∃ a b : Nat, e = ((a : Int), (b : Int)) ∧ a < n.es.length ∧ b < degA n a
structure MadeN (n : Net) (N d : Nat) : Prop where
  len : n.es.length = N
  ins : n.ins.length = N
  ids : n.ids = []
  in9 : ∀ x ∈ n.ins, 0 ≤ x ∧ x ≤ 9
  ok : EndsOk n
  deg : ∀ u, degA n u ≤ d
theorem MadeN.more {n : Net} {N d d' : Nat} (h : MadeN n N d) (hd : d ≤ d') : MadeN n N d' := ⟨h.len, h.ins, h.ids, h.in9, h.ok, fun u => Nat.le_trans (h.deg u) hd⟩
theorem rowAt_out {n : Net} {u : Nat} (h : n.es.length ≤ u) : rowAt n u = [] := by unfold rowAt; rw [List.getD_eq_getElem?_getD, List.getElem?_eq_none h]; rfl
theorem rowAt_mem {n : Net} {l : Ends} (h : l ∈ n.es) : ∃ u, u < n.es.length ∧ rowAt n u = l := by obtain ⟨u, hu⟩ := List.getElem?_of_mem h;exact ⟨u, (List.getElem?_eq_some_iff.1 hu).1, rowAt_eq hu⟩
theorem MadeN.i64 {n : Net} {N d : Nat} (h : MadeN n N d) (hN : N ≤ 1000000) (hd : d ≤ 1000000) : I64N n := by
  refine ⟨fun l hl e he => ?_, fun x hx => ?_, fun x hx => ?_⟩
  · obtain ⟨u, hu, rfl⟩ := rowAt_mem hl
    obtain ⟨a, b, rfl, h1, h2⟩ := h.ok u e he;have := h.len;have := h.deg a;exact ⟨⟨by show (-9223372036854775808 : Int) ≤ (a : Int); omega, by show (a : Int) ≤ _; omega⟩, by show (-9223372036854775808 : Int) ≤ (b : Int); omega, by show (b : Int) ≤ _; omega⟩
  · rw [h.ids] at hx; cases hx
  · have := h.in9 x hx
    exact ⟨by omega, by omega⟩
def pushN (n : Net) (u : Nat) (e : Int × Int) : Net := { n with es := n.es.set u (rowAt n u ++ [e]) }
theorem pushN_len (n : Net) (u : Nat) (e : Int × Int) : (pushN n u e).es.length = n.es.length := List.length_set
theorem rowAt_push {n : Net} {u : Nat} (hu : u < n.es.length) (e : Int × Int) (x : Nat) : rowAt (pushN n u e) x = if x = u then rowAt n u ++ [e] else rowAt n x := rowAt_set hu _ x
theorem degA_push {n : Net} {u : Nat} (hu : u < n.es.length) (e : Int × Int) (x : Nat) : degA (pushN n u e) x = degA n x + if x = u then 1 else 0 := by
  unfold degA;rw [rowAt_push hu];by_cases h : x = u
  · rw [if_pos h, if_pos h, h, List.length_append, List.length_singleton]
  · rw [if_neg h, if_neg h, Nat.add_zero]
theorem push_mem {n : Net} {u : Nat} (hu : u < n.es.length) {e f : Int × Int} {x : Nat} (h : f ∈ rowAt (pushN n u e) x) : f ∈ rowAt n x ∨ x = u ∧ f = e := by
  rw [rowAt_push hu] at h;by_cases hx : x = u
  · rw [if_pos hx] at h
    rcases List.mem_append.1 h with h | h
    · exact .inl (hx ▸ h)
    · exact .inr ⟨hx, List.mem_singleton.1 h⟩
  · rw [if_neg hx] at h
    exact .inl h
def joinN (n : Net) (v w : Nat) : Net := pushN (pushN n v ((w : Int), ((degA n w + if v = w then 1 else 0 : Nat) : Int))) w ((v : Int), (degA n v : Int))
def stubN (n : Net) (v : Nat) : Net := pushN n v ((v : Int), (degA n v : Int))
section
variable {n : Net} {v w : Nat}
theorem joinN_len : (joinN n v w).es.length = n.es.length := by unfold joinN; rw [pushN_len, pushN_len]
theorem degA_join (hv : v < n.es.length) (hw : w < n.es.length) (x : Nat) : degA (joinN n v w) x = degA n x + (if x = v then 1 else 0) + if x = w then 1 else 0 := by unfold joinN;rw [degA_push (by rw [pushN_len]; exact hw), degA_push hv]
theorem ok_join (h : EndsOk n) (hv : v < n.es.length) (hw : w < n.es.length) : EndsOk (joinN n v w) := fun u e he => by
  have hd := degA_join (n := n) hv hw;rw [joinN_len];rcases push_mem (by rw [pushN_len]; exact hw) he with he | ⟨-, rfl⟩
  · rcases push_mem hv he with he | ⟨-, rfl⟩
    · obtain ⟨a, b, e1, h1, h2⟩ := h u e he
      exact ⟨a, b, e1, h1, by rw [hd]; omega⟩
    · refine ⟨w, _, rfl, hw, ?_⟩
      rw [hd, if_pos rfl];by_cases e : v = w
      · rw [if_pos e, if_pos e.symm]; omega
      · rw [if_neg e, if_neg (fun h => e h.symm)]; omega
  · refine ⟨v, _, rfl, hv, ?_⟩
    rw [hd, if_pos rfl];omega
theorem ok_stub (h : EndsOk n) (hv : v < n.es.length) : EndsOk (stubN n v) := fun u e he => by
  have hd := degA_push (n := n) hv ((v : Int), (degA n v : Int));rw [show (stubN n v).es.length = n.es.length from pushN_len _ _ _];rcases push_mem hv he with he | ⟨-, rfl⟩
  · obtain ⟨a, b, e1, h1, h2⟩ := h u e he
    exact ⟨a, b, e1, h1, by show b < degA (pushN _ _ _) a; rw [hd]; omega⟩
  · exact ⟨v, _, rfl, hv, by show _ < degA (pushN _ _ _) v; rw [hd, if_pos rfl]; omega⟩
theorem MadeN.join {N d d' : Nat} (h : MadeN n N d) (hv : v < N) (hw : w < N) (hd : ∀ u, (u = v ∨ u = w) → degA (joinN n v w) u ≤ d') (hdd : d ≤ d') : MadeN (joinN n v w) N d' := by
  have hv' : v < n.es.length := by rw [h.len]; exact hv
  have hw' : w < n.es.length := by rw [h.len]; exact hw
  refine ⟨joinN_len.trans h.len, h.ins, h.ids, h.in9, ok_join h.ok hv' hw', fun u => ?_⟩;by_cases e1 : u = v
  · exact hd u (.inl e1)
  · by_cases e2 : u = w
    · exact hd u (.inr e2)
    · rw [degA_join hv' hw', if_neg e1, if_neg e2]
      exact Nat.le_trans (h.deg u) hdd
theorem MadeN.stub {N d : Nat} (h : MadeN n N d) (hv : v < N) : MadeN (stubN n v) N (d + 1) := by
  have hv' : v < n.es.length := by rw [h.len]; exact hv
  refine ⟨(pushN_len _ _ _).trans h.len, h.ins, h.ids, h.in9, ok_stub h.ok hv', fun u => ?_⟩;show degA (pushN _ _ _) u ≤ _;have := h.deg u;rw [degA_push hv'];split <;> omega
end
def setN (n : Net) (u p : Nat) (e : Int × Int) : Net := { n with es := n.es.set u ((rowAt n u).set p e) }
section
variable {n : Net} {u p : Nat}
theorem setN_len (e : Int × Int) : (setN n u p e).es.length = n.es.length := List.length_set
theorem degA_set (hu : u < n.es.length) (e : Int × Int) (x : Nat) : degA (setN n u p e) x = degA n x := by
  unfold degA setN;rw [rowAt_set hu];by_cases h : x = u
  · rw [if_pos h, h, List.length_set]
  · rw [if_neg h]
theorem ok_set (h : EndsOk n) (hu : u < n.es.length) {a b : Nat} (ha : a < n.es.length) (hb : b < degA n a) : EndsOk (setN n u p ((a : Int), (b : Int))) := fun x e he => by
  rw [setN_len];have he' : e ∈ rowAt n x ∨ e = ((a : Int), (b : Int)) := by
    unfold setN at he;rw [rowAt_set hu] at he;by_cases hx : x = u
    · rw [if_pos hx] at he
      rcases List.mem_or_eq_of_mem_set he with h1 | h1
      · exact .inl (hx ▸ h1)
      · exact .inr h1
    · rw [if_neg hx] at he
      exact .inl he
  rcases he' with he' | rfl
  · obtain ⟨c, d, e1, h1, h2⟩ := h x e he'
    exact ⟨c, d, e1, h1, by rw [degA_set hu]; exact h2⟩
  · exact ⟨a, b, rfl, ha, by rw [degA_set hu]; exact hb⟩
end
def unionN (a b : Net) : Net := ⟨a.es ++ b.es.map (fun l => l.map fun e => (e.1 + (a.es.length : Int), e.2)), a.ids ++ b.ids, a.ins ++ b.ins⟩
theorem rowAt_union (a b : Net) (u : Nat) : rowAt (unionN a b) u = if u < a.es.length then rowAt a u else (rowAt b (u - a.es.length)).map fun e => (e.1 + (a.es.length : Int), e.2) := by
  unfold rowAt unionN;rw [List.getD_eq_getElem?_getD, List.getD_eq_getElem?_getD, List.getD_eq_getElem?_getD, List.getElem?_append];by_cases h : u < a.es.length
  · rw [if_pos h, if_pos h]
  · rw [if_neg h, if_neg h, List.getElem?_map]
    cases b.es[u - a.es.length]? <;> rfl
theorem degA_union (a b : Net) (u : Nat) : degA (unionN a b) u = if u < a.es.length then degA a u else degA b (u - a.es.length) := by
  unfold degA;rw [rowAt_union];split
  · rfl
  · rw [List.length_map]
theorem MadeN.union {a b : Net} {N M d : Nat} (ha : MadeN a N d) (hb : MadeN b M d) : MadeN (unionN a b) (N + M) d := by
  refine ⟨?_, ?_, ?_, fun x hx => ?_, fun u e he => ?_, fun u => ?_⟩
  · show (a.es ++ b.es.map _).length = _
    rw [List.length_append, List.length_map, ha.len, hb.len]
  · show (a.ins ++ b.ins).length = _
    rw [List.length_append, ha.ins, hb.ins]
  · show a.ids ++ b.ids = []
    rw [ha.ids, hb.ids]; rfl
  · rcases List.mem_append.1 hx with h | h
    · exact ha.in9 x h
    · exact hb.in9 x h
  · have hl : (unionN a b).es.length = a.es.length + b.es.length := by show (a.es ++ b.es.map _).length = _; rw [List.length_append, List.length_map]
    rw [rowAt_union] at he;by_cases h : u < a.es.length
    · rw [if_pos h] at he
      obtain ⟨c, d', e1, h1, h2⟩ := ha.ok u e he;exact ⟨c, d', e1, by rw [hl]; omega, by rw [degA_union, if_pos h1]; exact h2⟩
    · rw [if_neg h] at he
      obtain ⟨e0, he0, rfl⟩ := List.mem_map.1 he;obtain ⟨c, d', rfl, h1, h2⟩ := hb.ok _ e0 he0;refine ⟨c + a.es.length, d', ?_, by rw [hl]; omega, ?_⟩
      · show ((c : Int) + (a.es.length : Int), (d' : Int)) = _
        rw [Int.natCast_add]
      · rw [degA_union, if_neg (by omega), Nat.add_sub_cancel]; exact h2
  · rw [degA_union]
    split
    · exact ha.deg u
    · exact hb.deg _
def sumD (n : Net) : Nat → Nat
  | 0 => 0
  | k + 1 => sumD n k + degA n k
theorem sumD_join {n : Net} {v w : Nat} (hv : v < n.es.length) (hw : w < n.es.length) : ∀ k, sumD (joinN n v w) k = sumD n k + (if v < k then 1 else 0) + if w < k then 1 else 0
 | 0 => rfl
 | k + 1 => by
  show sumD (joinN n v w) k + degA (joinN n v w) k = sumD n k + degA n k + _ + _;rw [sumD_join hv hw k, degA_join hv hw];by_cases h1 : v < k
  ·
   by_cases h2 : w < k
   · rw [if_pos h1, if_pos h2, if_neg (show ¬ k = v by omega), if_neg (show ¬ k = w by omega), if_pos (show v < k + 1 by omega), if_pos (show w < k + 1 by omega)]; omega
   ·
    by_cases h3 : k = w
    · rw [if_pos h1, if_neg h2, if_neg (show ¬ k = v by omega), if_pos h3, if_pos (show v < k + 1 by omega), if_pos (show w < k + 1 by omega)]; omega
    · rw [if_pos h1, if_neg h2, if_neg (show ¬ k = v by omega), if_neg h3, if_pos (show v < k + 1 by omega), if_neg (show ¬ w < k + 1 by omega)]; omega
  ·
   by_cases h4 : k = v
   ·
    by_cases h2 : w < k
    · rw [if_neg h1, if_pos h2, if_pos h4, if_neg (show ¬ k = w by omega), if_pos (show v < k + 1 by omega), if_pos (show w < k + 1 by omega)]; omega
    ·
     by_cases h3 : k = w
     · rw [if_neg h1, if_neg h2, if_pos h4, if_pos h3, if_pos (show v < k + 1 by omega), if_pos (show w < k + 1 by omega)]; omega
     · rw [if_neg h1, if_neg h2, if_pos h4, if_neg h3, if_pos (show v < k + 1 by omega), if_neg (show ¬ w < k + 1 by omega)]; omega
   ·
    by_cases h2 : w < k
    · rw [if_neg h1, if_pos h2, if_neg h4, if_neg (show ¬ k = w by omega), if_neg (show ¬ v < k + 1 by omega), if_pos (show w < k + 1 by omega)]; omega
    ·
     by_cases h3 : k = w
     · rw [if_neg h1, if_neg h2, if_neg h4, if_pos h3, if_neg (show ¬ v < k + 1 by omega), if_pos (show w < k + 1 by omega)]; omega
     · rw [if_neg h1, if_neg h2, if_neg h4, if_neg h3, if_neg (show ¬ v < k + 1 by omega), if_neg (show ¬ w < k + 1 by omega)]; omega
theorem sumD_ge {n : Net} : ∀ k, (∀ t, t < k → 4 ≤ degA n t) → 4 * k ≤ sumD n k
  | 0, _ => Nat.le_refl _
  | k + 1, h => by
    have h1 := sumD_ge k fun t ht => h t (by omega)
    have h2 := h k (by omega);show 4 * (k + 1) ≤ sumD n k + degA n k;omega
theorem tree_free {n : Net} {v : Nat} (hv : 1 ≤ v) (h : sumD n v = 2 * (v - 1)) : ∃ t, t < v ∧ degA n t < 4 := by
  apply Classical.byContradiction;intro hc;have := sumD_ge (n := n) v fun t ht => Nat.le_of_not_lt fun h' => hc ⟨t, ht, h'⟩
  omega
def emptyN (k : Nat) : Net := ⟨List.replicate k [], [], List.replicate k 0⟩
theorem rowAt_empty (k u : Nat) : rowAt (emptyN k) u = [] := by unfold rowAt emptyN;rw [List.getD_eq_getElem?_getD, List.getElem?_replicate];split <;> rfl
theorem made_empty (k : Nat) : MadeN (emptyN k) k 0 := by
  refine ⟨List.length_replicate, List.length_replicate, rfl, fun x hx => ?_, fun u e he => ?_, fun u => ?_⟩
  · rw [List.eq_of_mem_replicate hx]; decide
  · rw [rowAt_empty] at he; cases he
  · unfold degA; rw [rowAt_empty]; exact Nat.le_refl _
theorem sumD_empty (k : Nat) : ∀ j, sumD (emptyN k) j = 0
  | 0 => rfl
  | j + 1 => by show sumD (emptyN k) j + degA (emptyN k) j = 0;rw [sumD_empty k j];unfold degA;rw [rowAt_empty];rfl
end Go.Proofs.YtdghoienjegffaaGreat
