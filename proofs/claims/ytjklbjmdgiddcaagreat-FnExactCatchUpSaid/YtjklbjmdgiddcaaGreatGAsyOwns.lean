/-
  Asynchronous states that are a call's own: every list in a block of its own, no two in one; what a store, an append and a new list leave of that. No program in sight, no condition.
  Asynchronous states that are a call's own: how they are read, and how single elements are set. No program in sight, no condition.
  Asynchronous states that are a call's own: how a copy is built, list by list. No program in sight, no condition.
  Asynchronous states that are a call's own and whose five lists stand in a box at block P. No program in sight, no condition.
-/
import Derived.Test.YtjklbjmdgiddcaaGreatGArgsLetG
namespace Go.Proofs.YtjklbjmdgiddcaaGreat
section
open Go.RowKit
set_option linter.all false
inductive Key where
  | r | b | n | s | f
  | sl (k : Nat)
  | fr (k : Nat)
  | le (k p : Nat)
structure RowD where
  ty : TypeId
  sz : Nat
  len : Nat
  con : List Value
noncomputable def upd {α : Type} (g : Key → α) (i : Key) (v : α) (j : Key) : α := @ite α (j = i) (Classical.propDecidable _) v (g j)
theorem upd_same {α : Type} (g : Key → α) (i : Key) (v : α) : upd g i v i = v := by unfold upd; rw [if_pos rfl]
theorem upd_ne {α : Type} (g : Key → α) {i j : Key} (v : α) (h : j ≠ i) : upd g i v j = g j := by unfold upd; rw [if_neg h]
structure OwnK (w : World) (base : Nat) (K : Key → Prop) (val : Key → Value) (R : Key → RowD) : Prop where
  own : ∀ i, K i → w.ownsRow base (R i).ty (R i).sz (val i) (R i).len (R i).con
  sep : ∀ i j, K i → K j → i ≠ j → (val i).ownBlock = none ∨ (val i).ownBlock ≠ (val j).ownBlock
section
variable {w w' : World} {base : Nat} {K K' : Key → Prop} {val val' : Key → Value} {R R' : Key → RowD}
theorem OwnK.keep (h : OwnK w base K val R) (hg : w.grownBy w' none) : OwnK w' base K val R :=
  ⟨fun i hi => (h.own i hi).kept hg (by cases (val i).ownBlock <;> simp), h.sep⟩
theorem OwnK.congr (h : OwnK w base K val R) (hv : ∀ j, K' j → K j ∧ val' j = val j ∧ R' j = R j) : OwnK w base K' val' R' :=
  ⟨fun i hi => by obtain ⟨a, b, c⟩ := hv i hi; rw [b, c]; exact h.own i a, fun i j hi hj hne => by rw [(hv i hi).2.1, (hv j hj).2.1]; exact h.sep i j (hv i hi).1 (hv j hj).1 hne⟩
theorem OwnK.put (h : OwnK w base K val R) (i : Key) (v : Value) (Ri : RowD) {row : Option Nat} (hg : w.grownBy w' row) (hrow : ∀ j, K j → j ≠ i → (val j).ownBlock = none ∨ (val j).ownBlock ≠ row)
  (hn : w'.ownsRow base Ri.ty Ri.sz v Ri.len Ri.con) (hb : v.ownBlock = none ∨ (K i ∧ v.ownBlock = (val i).ownBlock) ∨ ∃ g, v.ownBlock = some g ∧ w.heap.size ≤ g) :
  OwnK w' base (fun j => K j ∨ j = i) (upd val i v) (upd R i Ri) := by
 have hv : ∀ j, K j → j ≠ i → v.ownBlock = none ∨ v.ownBlock ≠ (val j).ownBlock := fun j hj hne => by
  rcases hb with hb | ⟨hi, hb⟩ | ⟨g, hb, hlt⟩
  · exact .inl hb
  · rw [hb]; exact h.sep i j hi hj (Ne.symm hne)
  ·
   refine .inr fun e => ?_
   rw [hb] at e;have := ((h.own j hj).lt g e.symm).2;omega
 refine ⟨fun j hj => ?_, fun j k hj hk hne => ?_⟩
 ·
  by_cases e : j = i
  · subst e; rw [upd_same, upd_same]; exact hn
  · rw [upd_ne _ _ e, upd_ne _ _ e];have hj' : K j := hj.resolve_right e;exact (h.own j hj').kept hg (hrow j hj' e)
 ·
  by_cases e : j = i
  ·
   subst e;have ek : k ≠ j := fun e => hne e.symm
   rw [upd_same, upd_ne _ _ ek];exact hv k (hk.resolve_right ek) ek
  ·
   rw [upd_ne _ _ e];by_cases ek : k = i
   ·
    subst ek;rw [upd_same];rcases hv j (hj.resolve_right e) e with h1 | h1
    ·
     rw [h1];cases (val j).ownBlock with
     | none => exact .inl rfl
     | some g => exact .inr (by simp)
    · exact .inr fun e => h1 e.symm
   · rw [upd_ne _ _ ek];exact h.sep j k (hj.resolve_right e) (hk.resolve_right ek) hne
theorem OwnK.new (h : OwnK w base K val R) (i : Key) (v : Value) (Ri : RowD) (hg : w.grownBy w' none) (hn : w'.ownsRow base Ri.ty Ri.sz v Ri.len Ri.con) (hb : v.ownBlock = none ∨ ∃ g, v.ownBlock = some g ∧ w.heap.size ≤ g) :
    OwnK w' base (fun j => K j ∨ j = i) (upd val i v) (upd R i Ri) :=
  h.put i v Ri hg (fun j _ _ => by cases (val j).ownBlock <;> simp) hn (hb.imp id fun x => .inr x)
theorem OwnK.mend (h : OwnK w base K val R) (i : Key) (hi : K i) (v : Value) (Ri : RowD) (hg : w.grownBy w' (val i).ownBlock) (hn : w'.ownsRow base Ri.ty Ri.sz v Ri.len Ri.con) (hb : v.ownBlock = (val i).ownBlock ∨ ∃ g, v.ownBlock = some g ∧ w.heap.size ≤ g) :
    OwnK w' base K (upd val i v) (upd R i Ri) :=
  (h.put i v Ri hg (fun j hj hne => h.sep j i hj hi hne) hn (.inr (hb.imp (fun e => ⟨hi, e⟩) id))).congr fun j hj => ⟨.inl hj, rfl, rfl⟩
theorem OwnK.set (h : OwnK w base K val R) (i : Key) (hi : K i) {g cap j n : Nat} {con : List Value} {ty : TypeId} {sz : Nat} (hv : val i = .slice (some ⟨g, 0, none⟩) n cap) (hR : R i = ⟨ty, sz, n, con⟩) (u : Value) :
    OwnK (w.setCell ⟨g, j, none⟩ u) base K val (upd R i ⟨ty, sz, n, con.set j u⟩) := by
  have ho := h.own i hi;rw [hv, hR] at ho;obtain ⟨h1, h2⟩ := World.ownsRow.stored ho j u;have hb : (val i).ownBlock = some g := by rw [hv]; rfl
  refine (h.mend (w' := w.setCell ⟨g, j, none⟩ u) i hi (val i) ⟨ty, sz, n, con.set j u⟩ (by rw [hb]; exact h2) (by rw [hv]; exact h1) (.inl rfl)).congr fun k hk => ⟨hk, ?_, rfl⟩
  by_cases e : k = i
  · subst e; rw [upd_same]
  · rw [upd_ne _ _ e]
end
def letC (e : Int × Int) : List Value := [.int .i64 e.1, .int .i64 e.2]
def letCells (ls : Ends) : List Value := ls.flatMap letC
def portsAt (x : Asy) (k : Nat) : List Ends := x.flight.getD k []
def slotsAt (x : Asy) (k : Nat) : List Int := x.slots.getD k []
def lettersAt (x : Asy) (k p : Nat) : Ends := (portsAt x k).getD p []
def valsOf (g : Nat → Key) (val : Key → Value) (n : Nat) : List Value := (List.range n).map fun k => val (g k)
def rowK (x : Asy) (val : Key → Value) : Key → RowD
  | .r => ⟨3, 1, x.rounds.length, x.rounds.map intV⟩
  | .b => ⟨3, 1, x.before.length, x.before.map intV⟩
  | .n => ⟨3, 1, x.now.length, x.now.map intV⟩
  | .s => ⟨24, 1, x.slots.length, valsOf .sl val x.slots.length⟩
  | .f => ⟨101, 1, x.flight.length, valsOf .fr val x.flight.length⟩
  | .sl k => ⟨3, 1, (slotsAt x k).length, (slotsAt x k).map intV⟩
  | .fr k => ⟨102, 1, (portsAt x k).length, valsOf (.le k) val (portsAt x k).length⟩
  | .le k p => ⟨129, 2, (lettersAt x k p).length, letCells (lettersAt x k p)⟩
def keyOf (x : Asy) : Key → Prop
  | .sl k => k < x.slots.length
  | .fr k => k < x.flight.length
  | .le k p => k < x.flight.length ∧ p < (portsAt x k).length
  | _ => True
def AsyK (w : World) (base : Nat) (val : Key → Value) (x : Asy) : Prop := OwnK w base (keyOf x) val (rowK x val)
end
section
open Go.RowKit
set_option linter.all false
theorem own_slR {w : World} {base n : Nat} {e : TypeId} {v : Value} {vs : List Value} (h : w.ownsRow base e 1 v n vs) : SlR w w.heap.size v vs := by obtain ⟨bs, h1, -, -⟩ := OwnRow.of_owns h;exact h1.reads h1.lt
theorem allR_of2 {w : World} {B : Nat} : ∀ {vs : List Value} {xss : List (List Int)}, vs.length = xss.length → (∀ (k : Nat) (v : Value) (xs : List Int), vs[k]? = some v → xss[k]? = some xs → IntsR w B v xs) → AllR w B vs xss
  | [], [], _, _ => trivial
  | v :: vs, xs :: xss, h, hk => ⟨hk 0 v xs rfl rfl, allR_of2 (by simpa using h) fun k v xs h1 h2 => hk (k + 1) v xs (by simpa using h1) (by simpa using h2)⟩
  | [], _ :: _, h, _ => by simp at h
  | _ :: _, [], h, _ => by simp at h
theorem letCells_at {ls : Ends} {k : Nat} {e : Int × Int} (h : ls[k]? = some e) : (letCells ls)[k * 2]? = some (.int .i64 e.1) ∧ (letCells ls)[k * 2 + 1]? = some (.int .i64 e.2) := by
  induction ls generalizing k with
  | nil => simp at h
  | cons y r ih =>
    have e' : letCells (y :: r) = letC y ++ letCells r := rfl;rcases k with _ | k
    · simp only [List.getElem?_cons_zero, Option.some.injEq] at h
      subst h;exact ⟨rfl, rfl⟩
    · have := ih (k := k) h
      rw [e'];have hl : (letC y).length = 2 := rfl;rw [List.getElem?_append_right (by rw [hl]; omega), List.getElem?_append_right (by rw [hl]; omega), hl];rw [show (k + 1) * 2 - 2 = k * 2 by omega, show (k + 1) * 2 + 1 - 2 = k * 2 + 1 by omega];exact this
theorem letCells_len (ls : Ends) : (letCells ls).length = ls.length * 2 := by
  induction ls with
  | nil => rfl
  | cons y r ih => rw [show letCells (y :: r) = letC y ++ letCells r from rfl, List.length_append, ih, List.length_cons]; show 2 + _ = _; omega
theorem letCells_snoc (ls : Ends) (e : Int × Int) : letCells (ls ++ [e]) = letCells ls ++ letC e := by unfold letCells;rw [List.flatMap_append];simp
theorem letCells_append (a b : Ends) : letCells (a ++ b) = letCells a ++ letCells b := by unfold letCells; rw [List.flatMap_append]
theorem own_endsR {w : World} {base : Nat} {v : Value} {ls : Ends} (h : w.ownsRow base 129 2 v ls.length (letCells ls)) (hi : ∀ e ∈ ls, I64 e.1 ∧ I64 e.2) : EndsR w (· < w.heap.size) v ls := by
  have hlt := h.lt;have hc := fun g cap (e : v = .slice (some ⟨g, 0, none⟩) ls.length cap) => World.ownsRow.cellAt (by rw [e] at h; exact h)
  rcases h.2 with ⟨e, e0⟩ | ⟨g, cap, cur, e, hb, hg, hn, hm, hs, ht⟩
  · exact ⟨none, 0, by rw [e, e0], by omega, Nat.zero_le _, hi, fun hn => absurd hn (by omega)⟩
  · refine ⟨some ⟨g, 0, none⟩, cap, e, hn, hm, hi, fun _ => ⟨g, 0, rfl, (hlt g (by rw [e]; rfl)).2, fun k x hx => ?_⟩⟩
    obtain ⟨h1, h2⟩ := letCells_at hx;have hk := (aB.1 hx).1;rw [Nat.zero_add];exact ⟨(hc g cap e (k * 2) (by omega)).trans h1, (hc g cap e (k * 2 + 1) (by omega)).trans h2⟩
structure I64A (x : Asy) : Prop where
  r : ∀ y ∈ x.rounds, I64 y
  b : ∀ y ∈ x.before, I64 y
  n : ∀ y ∈ x.now, I64 y
  s : ∀ l ∈ x.slots, ∀ y ∈ l, I64 y
  f : ∀ f ∈ x.flight, ∀ ls ∈ f, ∀ e ∈ ls, I64 e.1 ∧ I64 e.2
theorem valsOf_at {g : Nat → Key} {val : Key → Value} {n k : Nat} (h : k < n) : (valsOf g val n)[k]? = some (val (g k)) := by unfold valsOf;rw [List.getElem?_map, List.getElem?_range h];rfl
theorem valsOf_len (g : Nat → Key) (val : Key → Value) (n : Nat) : (valsOf g val n).length = n := by simp [valsOf]
theorem valsOf_succ (g : Nat → Key) (val : Key → Value) (n : Nat) : valsOf g val (n + 1) = valsOf g val n ++ [val (g n)] := by simp [valsOf, List.range_succ]
theorem valsOf_congr {g : Nat → Key} {val val' : Key → Value} {n : Nat} (h : ∀ k, k < n → val' (g k) = val (g k)) : valsOf g val' n = valsOf g val n := by unfold valsOf;exact List.map_congr_left fun k hk => h k (List.mem_range.1 hk)
theorem valsOf_set {g : Nat → Key} (val : Key → Value) (n k : Nat) (v : Value) (hg : ∀ i j, g i = g j → i = j) : valsOf g (upd val (g k) v) n = (valsOf g val n).set k v := by
  refine List.ext_getElem? fun j => ?_
  rw [List.getElem?_set, valsOf_len];by_cases hj : j < n
  · rw [valsOf_at hj]
    by_cases e : k = j
    · subst e; rw [if_pos rfl, if_pos hj, upd_same]
    · rw [if_neg e, valsOf_at hj, upd_ne _ _ fun h => e (hg _ _ h).symm]
  · rw [List.getElem?_eq_none (by rw [valsOf_len]; omega)]
    by_cases e : k = j
    · subst e; rw [if_pos rfl, if_neg hj]
    · rw [if_neg e, List.getElem?_eq_none (by rw [valsOf_len]; omega)]
section
variable {w w' : World} {base : Nat} {val : Key → Value} {x : Asy}
theorem slotsAt_eq {k : Nat} {s : List Int} (h : x.slots[k]? = some s) : slotsAt x k = s := by unfold slotsAt; rw [aG, h]; rfl
theorem portsAt_eq {k : Nat} {f : List Ends} (h : x.flight[k]? = some f) : portsAt x k = f := by unfold portsAt; rw [aG, h]; rfl
theorem lettersAt_eq {k p : Nat} {f : List Ends} {ls : Ends} (h : x.flight[k]? = some f) (h' : f[p]? = some ls) : lettersAt x k p = ls := by unfold lettersAt; rw [portsAt_eq h, aG, h']; rfl
theorem AsyK.reads (h : AsyK w base val x) (hi : I64A x) : AsyR w w.heap.size (val .r) (val .b) (val .n) (val .s) (val .f) x := by
 refine ⟨own_intsR (h.own .r trivial) hi.r, own_intsR (h.own .b trivial) hi.b, own_intsR (h.own .n trivial) hi.n, ?_, ?_⟩
 ·
  refine ⟨_, own_slR (h.own .s trivial), allR_of2 (valsOf_len _ _ _) fun k v xs h1 h2 => ?_⟩;have hk := (aB.1 h2).1;have h1' : (valsOf .sl val x.slots.length)[k]? = some v := h1;rw [valsOf_at hk] at h1';obtain rfl := aE h1';have ho := h.own (.sl k) hk;have e : rowK x val (.sl k) = ⟨3, 1, xs.length, xs.map intV⟩ := by show (⟨_, _, (slotsAt x k).length, _⟩ : RowD) = _; rw [slotsAt_eq h2]
  rw [e] at ho;exact own_intsR ho (hi.s xs (aN h2))
 ·
  obtain ⟨A, c, e, h1, h2, h3⟩ := own_slR (h.own .f trivial);have hl : (rowK x val .f).con.length = x.flight.length := valsOf_len _ _ _;rw [hl] at e h1 h3;refine ⟨A, c, e, h1, h2, fun hn => ?_⟩;obtain ⟨ad, e', hb, hc⟩ := h3 hn;refine ⟨ad, e', hb, fun k f hf => ⟨val (.fr k), hc k _ (valsOf_at (aB.1 hf).1), ?_⟩⟩;have hk := (aB.1 hf).1;have ho := h.own (.fr k) hk;have e : rowK x val (.fr k) = ⟨102, 1, f.length, valsOf (.le k) val f.length⟩ := by show (⟨_, _, (portsAt x k).length, _⟩ : RowD) = _; rw [portsAt_eq hf]
  rw [e] at ho;obtain ⟨A', c', e2, g1, g2, g3⟩ := own_slR ho;have hl' : (valsOf (.le k) val f.length).length = f.length := valsOf_len _ _ _;rw [hl'] at e2 g1 g3;refine ⟨A', c', e2, g1, g2, fun hn' => ?_⟩;obtain ⟨ad', e3, hb', hc'⟩ := g3 hn';refine ⟨ad', e3, hb', fun p ls hp => ⟨val (.le k p), hc' p _ (valsOf_at (aB.1 hp).1), ?_⟩⟩;have hpl := (aB.1 hp).1;have ho' := h.own (.le k p) ⟨hk, by rw [portsAt_eq hf]; exact hpl⟩;have e4 : rowK x val (.le k p) = ⟨129, 2, ls.length, letCells ls⟩ := by show (⟨_, _, (lettersAt x k p).length, _⟩ : RowD) = _; rw [lettersAt_eq hf hp]
  rw [e4] at ho';exact own_endsR ho' (hi.f f (aN hf) ls (aN hp))
theorem grown_below (h : Below w.heap.size w w') : w.grownBy w' none := ⟨h.os, h.tape, h.output, h.size, fun k hk _ => h.block k hk⟩
theorem AsyK.up (h : AsyK w base val x) (hb : Below w.heap.size w w') : AsyK w' base val x := OwnK.keep h (grown_below hb)
theorem AsyK.setRounds (h : AsyK w base val x) {g cap : Nat} (hv : val .r = .slice (some ⟨g, 0, none⟩) x.rounds.length cap) (k : Nat) (y : Int) : AsyK (w.setCell ⟨g, k, none⟩ (.int .i64 y)) base val { x with rounds := x.rounds.set k y } :=
  (OwnK.set h .r trivial hv rfl (.int .i64 y) (j := k)).congr fun j hj => ⟨by cases j <;> exact hj, rfl, by
    cases j with
    | r => rw [upd_same]; show (⟨_, _, (x.rounds.set k y).length, (x.rounds.set k y).map intV⟩ : RowD) = _; rw [List.length_set, List.map_set]; rfl
    | _ => rw [upd_ne _ _ (by simp)]; rfl⟩
theorem AsyK.setBefore (h : AsyK w base val x) {g cap : Nat} (hv : val .b = .slice (some ⟨g, 0, none⟩) x.before.length cap) (k : Nat) (y : Int) : AsyK (w.setCell ⟨g, k, none⟩ (.int .i64 y)) base val { x with before := x.before.set k y } :=
  (OwnK.set h .b trivial hv rfl (.int .i64 y) (j := k)).congr fun j hj => ⟨by cases j <;> exact hj, rfl, by
    cases j with
    | b => rw [upd_same]; show (⟨_, _, (x.before.set k y).length, (x.before.set k y).map intV⟩ : RowD) = _; rw [List.length_set, List.map_set]; rfl
    | _ => rw [upd_ne _ _ (by simp)]; rfl⟩
theorem AsyK.setNow (h : AsyK w base val x) {g cap : Nat} (hv : val .n = .slice (some ⟨g, 0, none⟩) x.now.length cap) (k : Nat) (y : Int) : AsyK (w.setCell ⟨g, k, none⟩ (.int .i64 y)) base val { x with now := x.now.set k y } :=
  (OwnK.set h .n trivial hv rfl (.int .i64 y) (j := k)).congr fun j hj => ⟨by cases j <;> exact hj, rfl, by
    cases j with
    | n => rw [upd_same]; show (⟨_, _, (x.now.set k y).length, (x.now.set k y).map intV⟩ : RowD) = _; rw [List.length_set, List.map_set]; rfl
    | _ => rw [upd_ne _ _ (by simp)]; rfl⟩
theorem slotsAt_set {k : Nat} (hk : k < x.slots.length) (s : List Int) (j : Nat) : slotsAt { x with slots := x.slots.set k s } j = if j = k then s else slotsAt x j := by
  unfold slotsAt;rw [aG, aG, List.getElem?_set];by_cases e : k = j
  · subst e; rw [if_pos rfl, if_pos hk, if_pos rfl]; rfl
  · rw [if_neg e, if_neg (fun h => e h.symm)]
theorem portsAt_set {k : Nat} (hk : k < x.flight.length) (f : List Ends) (j : Nat) : portsAt { x with flight := x.flight.set k f } j = if j = k then f else portsAt x j := by
  unfold portsAt;rw [aG, aG, List.getElem?_set];by_cases e : k = j
  · subst e; rw [if_pos rfl, if_pos hk, if_pos rfl]; rfl
  · rw [if_neg e, if_neg (fun h => e h.symm)]
theorem AsyK.setSlot (h : AsyK w base val x) {k : Nat} (hk : k < x.slots.length) {g cap : Nat} (hv : val (.sl k) = .slice (some ⟨g, 0, none⟩) (slotsAt x k).length cap) (p : Nat) (y : Int) :
    AsyK (w.setCell ⟨g, p, none⟩ (.int .i64 y)) base val { x with slots := x.slots.set k ((slotsAt x k).set p y) } :=
  (OwnK.set h (.sl k) hk hv rfl (.int .i64 y) (j := p)).congr fun j hj => ⟨by
    cases j with
    | sl i => exact (by simpa [keyOf] using hj)
    | _ => exact hj, rfl, by
    cases j with
    | sl i =>
      by_cases e : i = k
      · subst e
        rw [upd_same];show (⟨_, _, (slotsAt { x with slots := x.slots.set i ((slotsAt x i).set p y) } i).length, _⟩ : RowD) = _;rw [slotsAt_set hk, if_pos rfl, List.length_set, List.map_set]; rfl
      · rw [upd_ne _ _ (by simpa using e)]
        show (⟨_, _, (slotsAt { x with slots := x.slots.set k ((slotsAt x k).set p y) } i).length, _⟩ : RowD) = _;rw [slotsAt_set hk, if_neg e]; rfl
    | s => rw [upd_ne _ _ (by simp)]; show (⟨_, _, (x.slots.set k _).length, valsOf .sl val (x.slots.set k _).length⟩ : RowD) = _; rw [List.length_set]; rfl
    | _ => rw [upd_ne _ _ (by simp)]; rfl⟩
theorem AsyK.newSlots (h : AsyK w base val x) {k : Nat} (hk : k < x.slots.length) {g cap : Nat} (hv : val .s = .slice (some ⟨g, 0, none⟩) x.slots.length cap) {v : Value} {s : List Int} (hg : w.grownBy w' none) (hn : w'.ownsRow base 3 1 v s.length (s.map intV))
  (hb : v.ownBlock = none ∨ ∃ g, v.ownBlock = some g ∧ w.heap.size ≤ g) : AsyK (w'.setCell ⟨g, k, none⟩ v) base (upd val (.sl k) v) { x with slots := x.slots.set k s } :=
 (OwnK.set (OwnK.new h (.sl k) v ⟨3, 1, s.length, s.map intV⟩ hg hn hb) .s (.inl trivial) (by rw [upd_ne _ _ (by simp)]; exact hv) (by rw [upd_ne _ _ (by simp)]; rfl) v (j := k)).congr fun j hj => ⟨by
  cases j with
  | sl i => exact .inl (by simpa [keyOf] using hj)
  | _ => exact .inl hj, rfl, by
  cases j with
  | sl i =>
   rw [upd_ne _ _ (by simp)];by_cases e : i = k
   · subst e;rw [upd_same];show (⟨_, _, (slotsAt { x with slots := x.slots.set i s } i).length, _⟩ : RowD) = _;rw [slotsAt_set hk, if_pos rfl]
   · rw [upd_ne _ _ (by simpa using e)];show (⟨_, _, (slotsAt { x with slots := x.slots.set k s } i).length, _⟩ : RowD) = _;rw [slotsAt_set hk, if_neg e]; rfl
  | s => rw [upd_same]; show (⟨_, _, (x.slots.set k _).length, valsOf .sl (upd val (.sl k) v) (x.slots.set k _).length⟩ : RowD) = _; rw [List.length_set, valsOf_set _ _ _ _ (fun i j h => by simpa using h)]
  | fr i => rw [upd_ne _ _ (by simp), upd_ne _ _ (by simp)]; show (⟨_, _, _, valsOf (.le i) (upd val (.sl k) v) _⟩ : RowD) = _; rw [valsOf_congr (fun _ _ => upd_ne _ _ (by simp))]; rfl
  | f => rw [upd_ne _ _ (by simp), upd_ne _ _ (by simp)]; show (⟨_, _, _, valsOf .fr (upd val (.sl k) v) _⟩ : RowD) = _; rw [valsOf_congr (fun _ _ => upd_ne _ _ (by simp))]; rfl
  | _ => rw [upd_ne _ _ (by simp), upd_ne _ _ (by simp)]; rfl⟩
theorem AsyK.newLetters (h : AsyK w base val x) {k p : Nat} (hk : k < x.flight.length) (hp : p < (portsAt x k).length) {g cap : Nat} (hv : val (.fr k) = .slice (some ⟨g, 0, none⟩) (portsAt x k).length cap) {v : Value} {ls : Ends} (hg : w.grownBy w' (val (.le k p)).ownBlock)
  (hn : w'.ownsRow base 129 2 v ls.length (letCells ls)) (hb : v.ownBlock = (val (.le k p)).ownBlock ∨ ∃ g, v.ownBlock = some g ∧ w.heap.size ≤ g) :
  AsyK (w'.setCell ⟨g, p, none⟩ v) base (upd val (.le k p) v) { x with flight := x.flight.set k ((portsAt x k).set p ls) } :=
 (OwnK.set (OwnK.mend h (.le k p) ⟨hk, hp⟩ v ⟨129, 2, ls.length, letCells ls⟩ hg hn hb) (.fr k) hk (by rw [upd_ne _ _ (by simp)]; exact hv) (by rw [upd_ne _ _ (by simp)]; rfl) v (j := p)).congr fun j hj => ⟨by
  cases j with
  | fr i => exact (by simpa [keyOf] using hj)
  | le i q =>
   have h2 : i < (x.flight.set k ((portsAt x k).set p ls)).length ∧ q < (portsAt { x with flight := x.flight.set k ((portsAt x k).set p ls) } i).length := hj;rw [List.length_set, portsAt_set hk] at h2;refine ⟨h2.1, ?_⟩;by_cases e : i = k
   · subst e;have := h2.2;rw [if_pos rfl, List.length_set] at this;exact this
   · have := h2.2;rw [if_neg e] at this;exact this
  | _ => exact hj, rfl, by
  cases j with
  | fr i =>
   by_cases e : i = k
   · subst e;rw [upd_same];show (⟨_, _, (portsAt { x with flight := x.flight.set i ((portsAt x i).set p ls) } i).length, valsOf (.le i) (upd val (.le i p) v) (portsAt { x with flight := x.flight.set i ((portsAt x i).set p ls) } i).length⟩ : RowD) = _;rw [portsAt_set hk, if_pos rfl, List.length_set, valsOf_set _ _ _ _ (fun i j h => by simpa using h)]
   · rw [upd_ne _ _ (by simpa using e), upd_ne _ _ (by simp)];show (⟨_, _, (portsAt { x with flight := x.flight.set k ((portsAt x k).set p ls) } i).length, valsOf (.le i) (upd val (.le k p) v) (portsAt { x with flight := x.flight.set k ((portsAt x k).set p ls) } i).length⟩ : RowD) = _;rw [portsAt_set hk, if_neg e, valsOf_congr (fun _ _ => upd_ne _ _ (by simp [e]))]; rfl
  | le i q =>
   rw [upd_ne _ _ (by simp)];by_cases e : i = k ∧ q = p
   ·
    obtain ⟨rfl, rfl⟩ := e;rw [upd_same];show (⟨_, _, (lettersAt { x with flight := x.flight.set i ((portsAt x i).set q ls) } i q).length, _⟩ : RowD) = _;have : lettersAt { x with flight := x.flight.set i ((portsAt x i).set q ls) } i q = ls := by unfold lettersAt;rw [portsAt_set hk, if_pos rfl, aG, List.getElem?_set, if_pos rfl, if_pos hp];rfl
    rw [this]
   ·
    rw [upd_ne _ _ (by simpa using e)];show (⟨_, _, (lettersAt { x with flight := x.flight.set k ((portsAt x k).set p ls) } i q).length, _⟩ : RowD) = _;have : lettersAt { x with flight := x.flight.set k ((portsAt x k).set p ls) } i q = lettersAt x i q := by
     unfold lettersAt;rw [portsAt_set hk];by_cases e2 : i = k
     ·
      subst e2;have e3 : p ≠ q := fun h => e ⟨rfl, h.symm⟩
      rw [if_pos rfl, aG, aG, List.getElem?_set, if_neg e3]
     · rw [if_neg e2]
    rw [this]; rfl
  | f =>
   rw [upd_ne _ _ (by simp), upd_ne _ _ (by simp)];show (⟨_, _, (x.flight.set k _).length, valsOf .fr (upd val (.le k p) v) (x.flight.set k _).length⟩ : RowD) = _;rw [List.length_set, valsOf_congr (fun _ _ => upd_ne _ _ (by simp))]; rfl
  | s => rw [upd_ne _ _ (by simp), upd_ne _ _ (by simp)]; show (⟨_, _, _, valsOf .sl (upd val (.le k p) v) _⟩ : RowD) = _; rw [valsOf_congr (fun _ _ => upd_ne _ _ (by simp))]; rfl
  | _ => rw [upd_ne _ _ (by simp), upd_ne _ _ (by simp)]; rfl⟩
end
end
section
open Go.RowKit
set_option linter.all false
theorem fresh_of {w w' : World} {e : TypeId} {sz n : Nat} {v : Value} {vs : List Value} (h : w'.ownsRow w.heap.size e sz v n vs) : v.ownBlock = none ∨ ∃ g, v.ownBlock = some g ∧ w.heap.size ≤ g := by
  cases e : v.ownBlock with
  | none => exact .inl rfl
  | some g => exact .inr ⟨g, rfl, (h.lt g e).1⟩
def nilV : Value := .slice none 0 0
section
variable {w w1 w2 : World} {base : Nat} {val : Key → Value} {x : Asy}
theorem slotsAt_snoc (s : List Int) (j : Nat) (hj : j ≤ x.slots.length) : slotsAt { x with slots := x.slots ++ [s] } j = if j = x.slots.length then s else slotsAt x j := by
  unfold slotsAt;rw [aG, aG, List.getElem?_append];by_cases e : j = x.slots.length
  · subst e; rw [if_neg (by omega), if_pos rfl]; simp
  · rw [if_pos (by omega), if_neg e]
theorem portsAt_snoc (f : List Ends) (j : Nat) (hj : j ≤ x.flight.length) : portsAt { x with flight := x.flight ++ [f] } j = if j = x.flight.length then f else portsAt x j := by
  unfold portsAt;rw [aG, aG, List.getElem?_append];by_cases e : j = x.flight.length
  · subst e; rw [if_neg (by omega), if_pos rfl]; simp
  · rw [if_pos (by omega), if_neg e]
theorem AsyK.addSlots (h : AsyK w base val x) {v v2 : Value} {s : List Int} (hg : w.grownBy w1 none) (hn : w1.ownsRow base 3 1 v s.length (s.map intV)) (hb : v.ownBlock = none ∨ ∃ g, v.ownBlock = some g ∧ w.heap.size ≤ g)
  (hg2 : w1.grownBy w2 (val .s).ownBlock) (hn2 : w2.ownsRow base 24 1 v2 (x.slots.length + 1) (valsOf .sl val x.slots.length ++ [v])) (hb2 : v2.ownBlock = (val .s).ownBlock ∨ ∃ g, v2.ownBlock = some g ∧ w1.heap.size ≤ g) :
  AsyK w2 base (upd (upd val (.sl x.slots.length) v) .s v2) { x with slots := x.slots ++ [s] } :=
 (OwnK.mend (OwnK.new h (.sl x.slots.length) v ⟨3, 1, s.length, s.map intV⟩ hg hn hb) .s (.inl trivial) v2 ⟨24, 1, x.slots.length + 1, valsOf .sl val x.slots.length ++ [v]⟩ (by rw [upd_ne _ _ (by simp)]; exact hg2) hn2 (by rw [upd_ne _ _ (by simp)]; exact hb2)).congr fun j hj => ⟨by
  cases j with
  | sl i =>
   have hi : i < (x.slots ++ [s]).length := hj;rw [List.length_append, List.length_singleton] at hi;by_cases e : i = x.slots.length
   · exact .inr (by rw [e])
   · exact .inl (show i < x.slots.length by omega)
  | _ => exact .inl hj, rfl, by
  cases j with
  | sl i =>
   have hi : i < (x.slots ++ [s]).length := hj;rw [List.length_append, List.length_singleton] at hi;rw [upd_ne _ _ (by simp)];show (⟨_, _, (slotsAt { x with slots := x.slots ++ [s] } i).length, (slotsAt { x with slots := x.slots ++ [s] } i).map intV⟩ : RowD) = _;rw [slotsAt_snoc s i (by omega)];by_cases e : i = x.slots.length
   · subst e; rw [upd_same, if_pos rfl]
   · rw [upd_ne _ _ (by simpa using e), if_neg e]; rfl
  | s =>
   rw [upd_same];show (⟨_, _, (x.slots ++ [s]).length, valsOf .sl (upd (upd val (.sl x.slots.length) v) .s v2) (x.slots ++ [s]).length⟩ : RowD) = _;rw [List.length_append, List.length_singleton, valsOf_succ, upd_ne _ _ (by simp), upd_same, valsOf_congr (fun i hi => by rw [upd_ne _ _ (by simp), upd_ne _ _ (by simp; omega)])]
  | fr i => rw [upd_ne _ _ (by simp), upd_ne _ _ (by simp)]; show (⟨_, _, _, valsOf (.le i) (upd (upd val (.sl x.slots.length) v) .s v2) _⟩ : RowD) = _; rw [valsOf_congr (fun _ _ => by rw [upd_ne _ _ (by simp), upd_ne _ _ (by simp)])]; rfl
  | f => rw [upd_ne _ _ (by simp), upd_ne _ _ (by simp)]; show (⟨_, _, _, valsOf .fr (upd (upd val (.sl x.slots.length) v) .s v2) _⟩ : RowD) = _; rw [valsOf_congr (fun _ _ => by rw [upd_ne _ _ (by simp), upd_ne _ _ (by simp)])]; rfl
  | _ => rw [upd_ne _ _ (by simp), upd_ne _ _ (by simp)]; rfl⟩
def withRow (x : Asy) (row : List Ends) : Asy := { x with flight := x.flight ++ [row] }
noncomputable def rowF (x : Asy) (row : List Ends) (val : Key → Value) : Key → RowD := upd (rowK (withRow x row) val) .f ⟨101, 1, x.flight.length, valsOf .fr val x.flight.length⟩
def AsyF (w : World) (base : Nat) (val : Key → Value) (x : Asy) (row : List Ends) : Prop := OwnK w base (keyOf (withRow x row)) val (rowF x row val)
theorem portsAt_row (row : List Ends) (j : Nat) (hj : j ≤ x.flight.length) : portsAt (withRow x row) j = if j = x.flight.length then row else portsAt x j := portsAt_snoc row j hj
theorem keyOf_row {row : List Ends} {j : Key} (hj : keyOf (withRow x row) j) : keyOf x j ∨ j = .fr x.flight.length ∨ ∃ p, j = .le x.flight.length p ∧ p < row.length := by
  cases j with
  | fr i =>
    have hi : i < (x.flight ++ [row]).length := hj;rw [List.length_append, List.length_singleton] at hi;by_cases e : i = x.flight.length
    · exact .inr (.inl (by rw [e]))
    · exact .inl (show i < x.flight.length by omega)
  | le i p =>
    have hi : i < (x.flight ++ [row]).length := hj.1;have hp : p < (portsAt (withRow x row) i).length := hj.2;rw [List.length_append, List.length_singleton] at hi;rw [portsAt_row row i (by omega)] at hp;by_cases e : i = x.flight.length
    · rw [if_pos e] at hp
      exact .inr (.inr ⟨p, by rw [e], hp⟩)
    · rw [if_neg e] at hp
      exact .inl ⟨by omega, hp⟩
  | _ => exact .inl hj
theorem AsyF.start (h : AsyK w base val x) : AsyF w base (upd val (.fr x.flight.length) nilV) x [] :=
 (OwnK.new h (.fr x.flight.length) nilV ⟨102, 1, 0, []⟩ (grown_below (Below.refl _ _)) (World.ownsRow_nil _ _ _ _) (.inl rfl)).congr fun j hj => ⟨by
  rcases keyOf_row hj with h1 | h1 | ⟨p, h1, h2⟩
  · exact .inl h1
  · exact .inr h1
  · exact absurd h2 (by simp), rfl, by
  unfold rowF;cases j with
  | f => rw [upd_same, upd_ne _ _ (by simp)]; show _ = (⟨_, _, _, valsOf .fr val x.flight.length⟩ : RowD); rw [valsOf_congr (fun i hi => upd_ne _ _ (by simp; omega))]
  | fr i =>
   have hi : i < (x.flight ++ [([] : List Ends)]).length := hj;rw [List.length_append, List.length_singleton] at hi;rw [upd_ne _ _ (by simp)];show (⟨_, _, (portsAt (withRow x []) i).length, valsOf (.le i) (upd val (.fr x.flight.length) nilV) (portsAt (withRow x []) i).length⟩ : RowD) = _;rw [portsAt_row [] i (by omega), valsOf_congr (fun _ _ => upd_ne _ _ (by simp))];by_cases e : i = x.flight.length
   · subst e; rw [upd_same, if_pos rfl]; rfl
   · rw [upd_ne _ _ (by simpa using e), if_neg e]; rfl
  | le i p =>
   rw [upd_ne _ _ (by simp), upd_ne _ _ (by simp)];rcases keyOf_row hj with h1 | h1 | ⟨q, h1, h2⟩
   ·
    show (⟨_, _, (lettersAt (withRow x []) i p).length, _⟩ : RowD) = _;have : lettersAt (withRow x []) i p = lettersAt x i p := by unfold lettersAt; rw [portsAt_row [] i (by have := h1.1; omega), if_neg (by have := h1.1; omega)]
    rw [this]; rfl
   · cases h1
   · exact absurd h2 (by simp)
  | s => rw [upd_ne _ _ (by simp), upd_ne _ _ (by simp)]; show (⟨_, _, _, valsOf .sl (upd val (.fr x.flight.length) nilV) _⟩ : RowD) = _; rw [valsOf_congr (fun _ _ => upd_ne _ _ (by simp))]; rfl
  | _ => rw [upd_ne _ _ (by simp), upd_ne _ _ (by simp)]; rfl⟩
theorem AsyF.add {row : List Ends} (h : AsyF w base val x row) {v v2 : Value} {ls : Ends} (hg : w.grownBy w1 none) (hn : w1.ownsRow base 129 2 v ls.length (letCells ls)) (hb : v.ownBlock = none ∨ ∃ g, v.ownBlock = some g ∧ w.heap.size ≤ g)
  (hg2 : w1.grownBy w2 (val (.fr x.flight.length)).ownBlock) (hn2 : w2.ownsRow base 102 1 v2 (row.length + 1) (valsOf (.le x.flight.length) val row.length ++ [v])) (hb2 : v2.ownBlock = (val (.fr x.flight.length)).ownBlock ∨ ∃ g, v2.ownBlock = some g ∧ w1.heap.size ≤ g) :
  AsyF w2 base (upd (upd val (.le x.flight.length row.length) v) (.fr x.flight.length) v2) x (row ++ [ls]) :=
 (OwnK.mend (OwnK.new h (.le x.flight.length row.length) v ⟨129, 2, ls.length, letCells ls⟩ hg hn hb) (.fr x.flight.length) (.inl (show x.flight.length < (x.flight ++ [row]).length by simp)) v2 ⟨102, 1, row.length + 1, valsOf (.le x.flight.length) val row.length ++ [v]⟩ (by rw [upd_ne _ _ (by simp)]; exact hg2) hn2 (by rw [upd_ne _ _ (by simp)]; exact hb2)).congr fun j hj => ⟨by
  rcases keyOf_row hj with h1 | h1 | ⟨p, h1, h2⟩
  ·
   cases j with
   | fr i => exact .inl (show i < (x.flight ++ [row]).length by have : i < x.flight.length := h1; simp; omega)
   | le i p => exact .inl (show i < (x.flight ++ [row]).length ∧ p < (portsAt (withRow x row) i).length from ⟨by have : i < x.flight.length := h1.1; simp; omega, by rw [portsAt_row row i (by have := h1.1; omega), if_neg (by have := h1.1; omega)]; exact h1.2⟩)
   | _ => exact .inl h1
  · exact .inl (by rw [h1]; show x.flight.length < (x.flight ++ [row]).length; simp)
  ·
   rw [List.length_append, List.length_singleton] at h2;by_cases e : p = row.length
   · exact .inr (by rw [h1, e])
   · exact .inl (by rw [h1]; exact ⟨by show x.flight.length < (x.flight ++ [row]).length; simp, by rw [portsAt_row row _ (Nat.le_refl _), if_pos rfl]; omega⟩), rfl, by
  unfold rowF;cases j with
  | f => rw [upd_same, upd_ne _ _ (by simp), upd_ne _ _ (by simp), upd_same]; rw [valsOf_congr (fun i hi => by rw [upd_ne _ _ (by simp; omega), upd_ne _ _ (by simp)])]
  | fr i =>
   have hi : i < (x.flight ++ [row ++ [ls]]).length := hj;rw [List.length_append, List.length_singleton] at hi;rw [upd_ne _ _ (by simp)];show (⟨_, _, (portsAt (withRow x (row ++ [ls])) i).length, valsOf (.le i) (upd (upd val (.le x.flight.length row.length) v) (.fr x.flight.length) v2) (portsAt (withRow x (row ++ [ls])) i).length⟩ : RowD) = _;rw [portsAt_row _ i (by omega)];by_cases e : i = x.flight.length
   · subst e;rw [upd_same, if_pos rfl, List.length_append, List.length_singleton, valsOf_succ, upd_ne _ _ (by simp), upd_same, valsOf_congr (fun q hq => by rw [upd_ne _ _ (by simp), upd_ne _ _ (by simp; omega)])]
   · rw [upd_ne _ _ (by simpa using e), if_neg e, upd_ne _ _ (by simp), upd_ne _ _ (by simp), valsOf_congr (fun q hq => by rw [upd_ne _ _ (by simp), upd_ne _ _ (by simp [e])])];show _ = (⟨_, _, (portsAt (withRow x row) i).length, valsOf (.le i) val (portsAt (withRow x row) i).length⟩ : RowD);rw [portsAt_row _ i (by omega), if_neg e]
  | le i p =>
   rw [upd_ne _ _ (by simp), upd_ne _ _ (by simp)];show (⟨_, _, (lettersAt (withRow x (row ++ [ls])) i p).length, letCells (lettersAt (withRow x (row ++ [ls])) i p)⟩ : RowD) = _;rcases keyOf_row hj with h1 | h1 | ⟨q, h1, h2⟩
   ·
    have hi : i < x.flight.length := h1.1;have e1 : lettersAt (withRow x (row ++ [ls])) i p = lettersAt x i p := by unfold lettersAt; rw [portsAt_row _ i (by omega), if_neg (by omega)]
    rw [e1, upd_ne _ _ (by simp; omega), upd_ne _ _ (by simp)];show _ = (⟨_, _, (lettersAt (withRow x row) i p).length, letCells (lettersAt (withRow x row) i p)⟩ : RowD);have e2 : lettersAt (withRow x row) i p = lettersAt x i p := by unfold lettersAt; rw [portsAt_row _ i (by omega), if_neg (by omega)]
    rw [e2]
   · cases h1
   ·
    cases h1;rw [List.length_append, List.length_singleton] at h2;by_cases e : p = row.length
    ·
     subst e;have e1 : lettersAt (withRow x (row ++ [ls])) x.flight.length row.length = ls := by unfold lettersAt; rw [portsAt_row _ _ (Nat.le_refl _), if_pos rfl]; simp
     rw [e1, upd_same]
    ·
     have e1 : lettersAt (withRow x (row ++ [ls])) x.flight.length p = lettersAt (withRow x row) x.flight.length p := by unfold lettersAt;rw [portsAt_row _ _ (Nat.le_refl _), portsAt_row _ _ (Nat.le_refl _), if_pos rfl, if_pos rfl, aG, aG, List.getElem?_append_left (by omega)]
     rw [e1, upd_ne _ _ (by simpa using e), upd_ne _ _ (by simp)]; rfl
  | s => rw [upd_ne _ _ (by simp), upd_ne _ _ (by simp), upd_ne _ _ (by simp), upd_ne _ _ (by simp)]; show (⟨_, _, _, valsOf .sl (upd (upd val (.le x.flight.length row.length) v) (.fr x.flight.length) v2) _⟩ : RowD) = _; rw [valsOf_congr (fun _ _ => by rw [upd_ne _ _ (by simp), upd_ne _ _ (by simp)])]; rfl
  | _ => rw [upd_ne _ _ (by simp), upd_ne _ _ (by simp), upd_ne _ _ (by simp), upd_ne _ _ (by simp)]; rfl⟩
theorem AsyF.fin {row : List Ends} (h : AsyF w base val x row) {v2 : Value} (hg2 : w.grownBy w2 (val .f).ownBlock) (hn2 : w2.ownsRow base 101 1 v2 (x.flight.length + 1) (valsOf .fr val x.flight.length ++ [val (.fr x.flight.length)])) (hb2 : v2.ownBlock = (val .f).ownBlock ∨ ∃ g, v2.ownBlock = some g ∧ w.heap.size ≤ g) :
    AsyK w2 base (upd val .f v2) (withRow x row) :=
  (OwnK.mend h .f trivial v2 ⟨101, 1, x.flight.length + 1, valsOf .fr val x.flight.length ++ [val (.fr x.flight.length)]⟩ hg2 hn2 hb2).congr fun j hj => ⟨hj, rfl, by
    unfold rowF;cases j with
    | f =>
      rw [upd_same];show (⟨_, _, (x.flight ++ [row]).length, valsOf .fr (upd val .f v2) (x.flight ++ [row]).length⟩ : RowD) = _;rw [List.length_append, List.length_singleton, valsOf_succ, upd_ne _ _ (by simp), valsOf_congr (fun i hi => upd_ne _ _ (by simp))]
    | fr i => rw [upd_ne _ _ (by simp), upd_ne _ _ (by simp)]; show (⟨_, _, _, valsOf (.le i) (upd val .f v2) _⟩ : RowD) = _; rw [valsOf_congr (fun _ _ => upd_ne _ _ (by simp))]; rfl
    | s => rw [upd_ne _ _ (by simp), upd_ne _ _ (by simp)]; show (⟨_, _, _, valsOf .sl (upd val .f v2) _⟩ : RowD) = _; rw [valsOf_congr (fun _ _ => upd_ne _ _ (by simp))]; rfl
    | _ => rw [upd_ne _ _ (by simp), upd_ne _ _ (by simp)]; rfl⟩
end
end
section
open Go.RowKit
set_option linter.all false
structure AsyB (w : World) (base : Nat) (val : Key → Value) (x : Asy) (P : Nat) : Prop where
  k : AsyK w base val x
  ne : ∀ j, keyOf x j → (val j).ownBlock ≠ some P
  box : w.heap[P]? = some (.cells #[val .r, val .b, val .n, val .s, val .f] 40 (0, 0))
structure AsyFB (w : World) (base : Nat) (val : Key → Value) (x : Asy) (row : List Ends) (P : Nat) : Prop where
  k : AsyF w base val x row
  ne : ∀ j, keyOf (withRow x row) j → (val j).ownBlock ≠ some P
  box : w.heap[P]? = some (.cells #[val .r, val .b, val .n, val .s, val .f] 40 (0, 0))
section
variable {w w1 w2 : World} {base P : Nat} {val : Key → Value} {x : Asy} {row : List Ends}
theorem OwnK.apart {K : Key → Prop} {R : Key → RowD} {w' : World} (h : OwnK w base K val R) (hg : w.grownBy w' (some P)) (ne : ∀ j, K j → (val j).ownBlock ≠ some P) : OwnK w' base K val R := ⟨fun i hi => (h.own i hi).kept hg (.inr (ne i hi)), h.sep⟩
theorem OwnK.mono {K : Key → Prop} {R : Key → RowD} {base' : Nat} (h : OwnK w base K val R) (hb : base' ≤ base) : OwnK w base' K val R := ⟨fun i hi => own_mono (h.own i hi) hb, h.sep⟩
theorem heap_lt {w : World} {b : Nat} {o : Obj} (h : w.heap[b]? = some o) : b < w.heap.size := (Array.getElem?_eq_some_iff.1 h).1
theorem AsyB.lt (h : AsyB w base val x P) : P < w.heap.size := heap_lt h.box
theorem AsyFB.lt (h : AsyFB w base val x row P) : P < w.heap.size := heap_lt h.box
theorem AsyB.up (h : AsyB w base val x P) (hb : Below w.heap.size w w1) : AsyB w1 base val x P := ⟨OwnK.keep h.k (grown_below hb), h.ne, (hb.block P h.lt).trans h.box⟩
theorem grown_set (w : World) (P i : Nat) (u : Value) : w.grownBy (w.setCell ⟨P, i, none⟩ u) (some P) := ⟨rfl, rfl, rfl, by simp [World.setCell], fun j _ hj => Below.heap_setCell w _ _ _ (fun h => hj (by rw [h]))⟩
theorem ne_of {b g : Option Nat} {n : Nat} (h : b = g ∨ ∃ k, b = some k ∧ n ≤ k) (h1 : g ≠ some P) (h2 : P < n) : b ≠ some P := fun e => by
  rcases h with h | ⟨k, h, hk⟩
  · exact h1 (h ▸ e)
  · rw [h] at e
    have := aE e;omega
theorem ne_fresh {b : Option Nat} {n : Nat} (h : b = none ∨ ∃ k, b = some k ∧ n ≤ k) (h2 : P < n) : b ≠ some P := ne_of h (by simp) h2
theorem AsyB.addSlots (h : AsyB w base val x P) {v v2 : Value} {s : List Int} (hb1 : Below w.heap.size w w1) (hbase : base ≤ w.heap.size) (hn : w1.ownsRow w.heap.size 3 1 v s.length (s.map intV))
  (hg2 : w1.grownBy w2 (val .s).ownBlock) (hn2 : w2.ownsRow base 24 1 v2 (x.slots.length + 1) (valsOf .sl val x.slots.length ++ [v])) (hb2 : v2.ownBlock = (val .s).ownBlock ∨ ∃ g, v2.ownBlock = some g ∧ w1.heap.size ≤ g) :
  ∃ val', val' .s = v2 ∧ AsyB (w2.setCell ⟨P, 3, none⟩ v2) base val' { x with slots := x.slots ++ [s] } P := by
 have hP := h.lt;have hz := hb1.size;have k1 := AsyK.addSlots h.k (grown_below hb1) (own_mono hn hbase) (fresh_of hn) hg2 hn2 hb2;have hne : ∀ j, keyOf { x with slots := x.slots ++ [s] } j → (upd (upd val (.sl x.slots.length) v) .s v2 j).ownBlock ≠ some P := fun j hj => by
  cases j with
  | s => rw [upd_same]; exact ne_of hb2 (h.ne .s trivial) (by omega)
  | sl i =>
   rw [upd_ne _ _ (by simp)];by_cases e : i = x.slots.length
   · subst e; rw [upd_same]; exact ne_fresh (fresh_of hn) hP
   · rw [upd_ne _ _ (by simpa using e)];refine h.ne (.sl i) ?_;have hi : i < (x.slots ++ [s]).length := hj;rw [List.length_append, List.length_singleton] at hi;show i < x.slots.length;omega
  | r => rw [upd_ne _ _ (by simp), upd_ne _ _ (by simp)]; exact h.ne .r trivial
  | b => rw [upd_ne _ _ (by simp), upd_ne _ _ (by simp)]; exact h.ne .b trivial
  | n => rw [upd_ne _ _ (by simp), upd_ne _ _ (by simp)]; exact h.ne .n trivial
  | f => rw [upd_ne _ _ (by simp), upd_ne _ _ (by simp)]; exact h.ne .f trivial
  | fr i => rw [upd_ne _ _ (by simp), upd_ne _ _ (by simp)]; exact h.ne (.fr i) hj
  | le i p => rw [upd_ne _ _ (by simp), upd_ne _ _ (by simp)]; exact h.ne (.le i p) hj
 have hbx : w2.heap[P]? = some (.cells #[val .r, val .b, val .n, val .s, val .f] 40 (0, 0)) := (hg2.block P (by omega) (fun e => h.ne .s trivial e.symm)).trans ((hb1.block P hP).trans h.box);refine ⟨_, upd_same _ _ _, OwnK.apart k1 (grown_set w2 P 3 v2) hne, hne, ?_⟩;rw [heap_set_same hbx v2];simp [upd]
theorem AsyB.startF (h : AsyB w base val x P) : ∃ val', val' (.fr x.flight.length) = nilV ∧ AsyFB w base val' x [] P := by
  have k1 := AsyF.start h.k;refine ⟨_, upd_same _ _ _, k1, fun j hj => ?_, ?_⟩
  · rcases keyOf_row hj with h1 | h1 | ⟨p, h1, h2⟩
    · by_cases e : j = .fr x.flight.length
      · subst e; rw [upd_same]; simp [nilV, Value.ownBlock]
      · rw [upd_ne _ _ e]; exact h.ne j h1
    · subst h1; rw [upd_same]; simp [nilV, Value.ownBlock]
    · exact absurd h2 (by simp)
  · rw [h.box, upd_ne _ _ (by simp), upd_ne _ _ (by simp), upd_ne _ _ (by simp), upd_ne _ _ (by simp), upd_ne _ _ (by simp)]
theorem AsyFB.add (h : AsyFB w base val x row P) {v v2 : Value} {ls : Ends} (hb1 : Below w.heap.size w w1) (hbase : base ≤ w.heap.size) (hn : w1.ownsRow w.heap.size 129 2 v ls.length (letCells ls))
  (hg2 : w1.grownBy w2 (val (.fr x.flight.length)).ownBlock) (hn2 : w2.ownsRow base 102 1 v2 (row.length + 1) (valsOf (.le x.flight.length) val row.length ++ [v])) (hb2 : v2.ownBlock = (val (.fr x.flight.length)).ownBlock ∨ ∃ g, v2.ownBlock = some g ∧ w1.heap.size ≤ g) :
  ∃ val', val' (.fr x.flight.length) = v2 ∧ AsyFB w2 base val' x (row ++ [ls]) P := by
 have hP := h.lt;have hz := hb1.size;have hfr : keyOf (withRow x row) (.fr x.flight.length) := by show x.flight.length < (x.flight ++ [row]).length; simp
 have k1 := AsyF.add h.k (grown_below hb1) (own_mono hn hbase) (fresh_of hn) hg2 hn2 hb2;refine ⟨_, upd_same _ _ _, k1, fun j hj => ?_, ?_⟩
 ·
  by_cases e : j = .fr x.flight.length
  · subst e; rw [upd_same]; exact ne_of hb2 (h.ne _ hfr) (by omega)
  ·
   rw [upd_ne _ _ e];by_cases e2 : j = .le x.flight.length row.length
   · subst e2; rw [upd_same]; exact ne_fresh (fresh_of hn) hP
   ·
    rw [upd_ne _ _ e2];refine h.ne j ?_;rcases keyOf_row hj with h1 | h1 | ⟨p, h1, h2⟩
    ·
     cases j with
     | fr i => show i < (x.flight ++ [row]).length; have : i < x.flight.length := h1; simp; omega
     | le i p => exact ⟨by show i < (x.flight ++ [row]).length; have : i < x.flight.length := h1.1; simp; omega, by rw [portsAt_row row i (by have := h1.1; omega), if_neg (by have := h1.1; omega)]; exact h1.2⟩
     | _ => exact h1
    · exact absurd h1 e
    ·
     rw [List.length_append, List.length_singleton] at h2;subst h1;have : p ≠ row.length := fun h => e2 (by rw [h])
     exact ⟨by show x.flight.length < (x.flight ++ [row]).length; simp, by rw [portsAt_row row _ (Nat.le_refl _), if_pos rfl]; omega⟩
 · rw [hg2.block P (by omega) (fun e => h.ne _ hfr e.symm), hb1.block P hP, h.box];rw [upd_ne _ _ (by simp), upd_ne _ _ (by simp), upd_ne _ _ (by simp), upd_ne _ _ (by simp), upd_ne _ _ (by simp), upd_ne _ _ (by simp), upd_ne _ _ (by simp), upd_ne _ _ (by simp), upd_ne _ _ (by simp), upd_ne _ _ (by simp)]
theorem AsyFB.fin (h : AsyFB w base val x row P) {v2 : Value} (hg2 : w.grownBy w2 (val .f).ownBlock) (hn2 : w2.ownsRow base 101 1 v2 (x.flight.length + 1) (valsOf .fr val x.flight.length ++ [val (.fr x.flight.length)])) (hb2 : v2.ownBlock = (val .f).ownBlock ∨ ∃ g, v2.ownBlock = some g ∧ w.heap.size ≤ g) :
    ∃ val', AsyB (w2.setCell ⟨P, 4, none⟩ v2) base val' (withRow x row) P := by
  have hP := h.lt;have k1 := AsyF.fin h.k hg2 hn2 hb2;have hne : ∀ j, keyOf (withRow x row) j → (upd val .f v2 j).ownBlock ≠ some P := fun j hj => by
    by_cases e : j = .f
    · subst e; rw [upd_same]; exact ne_of hb2 (h.ne .f trivial) (by omega)
    · rw [upd_ne _ _ e]; exact h.ne j hj
  have hbx : w2.heap[P]? = some (.cells #[val .r, val .b, val .n, val .s, val .f] 40 (0, 0)) := (hg2.block P (by omega) (fun e => h.ne .f trivial e.symm)).trans h.box;refine ⟨_, OwnK.apart k1 (grown_set w2 P 4 v2) hne, hne, ?_⟩;rw [heap_set_same hbx v2];simp [upd]
theorem AsyFB.frow (h : AsyFB w base val x row P) : w.ownsRow base 102 1 (val (.fr x.flight.length)) row.length (valsOf (.le x.flight.length) val row.length) := by
  have h1 := h.k.own (.fr x.flight.length) (by show x.flight.length < (x.flight ++ [row]).length; simp);have e : rowF x row val (.fr x.flight.length) = ⟨102, 1, row.length, valsOf (.le x.flight.length) val row.length⟩ := by unfold rowF;rw [upd_ne _ _ (by simp)];show (⟨_, _, (portsAt (withRow x row) x.flight.length).length, valsOf (.le x.flight.length) val (portsAt (withRow x row) x.flight.length).length⟩ : RowD) = _;rw [portsAt_row row _ (Nat.le_refl _), if_pos rfl]
  rw [e] at h1;exact h1
theorem AsyFB.flow (h : AsyFB w base val x row P) : w.ownsRow base 101 1 (val .f) x.flight.length (valsOf .fr val x.flight.length) := by
  have h1 := h.k.own .f trivial;have e : rowF x row val .f = ⟨101, 1, x.flight.length, valsOf .fr val x.flight.length⟩ := by unfold rowF; rw [upd_same]
  rw [e] at h1;exact h1
end
theorem own_sl1 {w : World} {base n sz : Nat} {e : TypeId} {v : Value} {vs : List Value} (h : w.ownsRow base e sz v n vs) : ∃ A c, v = .slice A n c := by
  rcases h.2 with ⟨e, e0⟩ | ⟨g, cap, cur, e, -⟩
  · exact ⟨none, 0, by rw [e, e0]⟩
  · exact ⟨_, _, e⟩
end
end Go.Proofs.YtjklbjmdgiddcaaGreat
