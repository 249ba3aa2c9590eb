/-
  Asynchronous states that are a call's own and whose five lists stand in a box at block P. No program in sight, no condition.
-/
import Derived.Test.YtcpbbjocaimocaaGreatAsyOwn3
namespace Go.Proofs.YtcpbbjocaimocaaGreat
open Go.RowKit
set_option linter.unusedVariables false
set_option linter.unusedSimpArgs false
structure AsyB (w : World) (base : Nat) (val : Key → Value) (x : Asy) (P : Nat) : Prop where
  k : AsyK w base val x
  ne : ∀ j, keyOf x j → (val j).ownBlock ≠ some P
  box : w.heap[P]? = some (.cells #[val .r, val .b, val .n, val .s, val .f] 50 (0, 0))
structure AsyFB (w : World) (base : Nat) (val : Key → Value) (x : Asy) (row : List Ends) (P : Nat) : Prop where
  k : AsyF w base val x row
  ne : ∀ j, keyOf (withRow x row) j → (val j).ownBlock ≠ some P
  box : w.heap[P]? = some (.cells #[val .r, val .b, val .n, val .s, val .f] 50 (0, 0))
section
variable {w w1 w2 : World} {base P : Nat} {val : Key → Value} {x : Asy} {row : List Ends}
theorem OwnK.apart {K : Key → Prop} {R : Key → RowD} {w' : World} (h : OwnK w base K val R) (hg : w.grownBy w' (some P)) (ne : ∀ j, K j → (val j).ownBlock ≠ some P) : OwnK w' base K val R := ⟨fun i hi => (h.own i hi).kept hg (.inr (ne i hi)), h.sep⟩
theorem OwnK.mono {K : Key → Prop} {R : Key → RowD} {base' : Nat} (h : OwnK w base K val R) (hb : base' ≤ base) : OwnK w base' K val R := ⟨fun i hi => own_mono (h.own i hi) hb, h.sep⟩
theorem heap_lt {w : World} {b : Nat} {o : Obj} (h : w.heap[b]? = some o) : b < w.heap.size := (Array.getElem?_eq_some_iff.1 h).1
theorem AsyB.lt (h : AsyB w base val x P) : P < w.heap.size := heap_lt h.box
theorem AsyFB.lt (h : AsyFB w base val x row P) : P < w.heap.size := heap_lt h.box
theorem AsyB.up (h : AsyB w base val x P) (hb : Below w.heap.size w w1) : AsyB w1 base val x P := ⟨OwnK.keep h.k (grown_below hb), h.ne, (hb.block P h.lt).trans h.box⟩
theorem AsyFB.up (h : AsyFB w base val x row P) (hb : Below w.heap.size w w1) : AsyFB w1 base val x row P := ⟨OwnK.keep h.k (grown_below hb), h.ne, (hb.block P h.lt).trans h.box⟩
theorem grown_set (w : World) (P i : Nat) (u : Value) : w.grownBy (w.setCell ⟨P, i, none⟩ u) (some P) := ⟨rfl, rfl, rfl, by simp [World.setCell], fun j _ hj => Below.heap_setCell w _ _ _ (fun h => hj (by rw [h]))⟩
theorem ne_of {b g : Option Nat} {n : Nat} (h : b = g ∨ ∃ k, b = some k ∧ n ≤ k) (h1 : g ≠ some P) (h2 : P < n) : b ≠ some P := fun e => by
  rcases h with h | ⟨k, h, hk⟩
  · exact h1 (h ▸ e)
  · rw [h] at e
    have := Option.some.inj e
    omega
theorem ne_fresh {b : Option Nat} {n : Nat} (h : b = none ∨ ∃ k, b = some k ∧ n ≤ k) (h2 : P < n) : b ≠ some P := ne_of h (by simp) h2
/-- The slots of one more node, and the box. -/
theorem AsyB.addSlots (h : AsyB w base val x P) {v v2 : Value} {s : List Int} (hb1 : Below w.heap.size w w1) (hbase : base ≤ w.heap.size) (hn : w1.ownsRow w.heap.size 3 1 v s.length (s.map intV))
    (hg2 : w1.grownBy w2 (val .s).ownBlock) (hn2 : w2.ownsRow base 24 1 v2 (x.slots.length + 1) (valsOf .sl val x.slots.length ++ [v])) (hb2 : v2.ownBlock = (val .s).ownBlock ∨ ∃ g, v2.ownBlock = some g ∧ w1.heap.size ≤ g) :
    ∃ val', val' .s = v2 ∧ AsyB (w2.setCell ⟨P, 3, none⟩ v2) base val' { x with slots := x.slots ++ [s] } P := by
  have hP := h.lt
  have hz := hb1.size
  have k1 := AsyK.addSlots h.k (grown_below hb1) (own_mono hn hbase) (fresh_of hn) hg2 hn2 hb2
  have hne : ∀ j, keyOf { x with slots := x.slots ++ [s] } j → (upd (upd val (.sl x.slots.length) v) .s v2 j).ownBlock ≠ some P := fun j hj => by
    cases j with
    | s => rw [upd_same]; exact ne_of hb2 (h.ne .s trivial) (by omega)
    | sl i =>
      rw [upd_ne _ _ (by simp)]
      by_cases e : i = x.slots.length
      · subst e; rw [upd_same]; exact ne_fresh (fresh_of hn) hP
      · rw [upd_ne _ _ (by simpa using e)]
        refine h.ne (.sl i) ?_
        have hi : i < (x.slots ++ [s]).length := hj
        rw [List.length_append, List.length_singleton] at hi
        show i < x.slots.length
        omega
    | r => rw [upd_ne _ _ (by simp), upd_ne _ _ (by simp)]; exact h.ne .r trivial
    | b => rw [upd_ne _ _ (by simp), upd_ne _ _ (by simp)]; exact h.ne .b trivial
    | n => rw [upd_ne _ _ (by simp), upd_ne _ _ (by simp)]; exact h.ne .n trivial
    | f => rw [upd_ne _ _ (by simp), upd_ne _ _ (by simp)]; exact h.ne .f trivial
    | fr i => rw [upd_ne _ _ (by simp), upd_ne _ _ (by simp)]; exact h.ne (.fr i) hj
    | le i p => rw [upd_ne _ _ (by simp), upd_ne _ _ (by simp)]; exact h.ne (.le i p) hj
  have hbx : w2.heap[P]? = some (.cells #[val .r, val .b, val .n, val .s, val .f] 50 (0, 0)) := (hg2.block P (by omega) (fun e => h.ne .s trivial e.symm)).trans ((hb1.block P hP).trans h.box)
  refine ⟨_, upd_same _ _ _, OwnK.apart k1 (grown_set w2 P 3 v2) hne, hne, ?_⟩
  rw [heap_set_same hbx v2]
  simp [upd]
/-- The row of one more node begins. -/
theorem AsyB.startF (h : AsyB w base val x P) : ∃ val', val' (.fr x.flight.length) = nilV ∧ AsyFB w base val' x [] P := by
  have k1 := AsyF.start h.k
  refine ⟨_, upd_same _ _ _, k1, fun j hj => ?_, ?_⟩
  · rcases keyOf_row hj with h1 | h1 | ⟨p, h1, h2⟩
    · by_cases e : j = .fr x.flight.length
      · subst e; rw [upd_same]; simp [nilV, Value.ownBlock]
      · rw [upd_ne _ _ e]; exact h.ne j h1
    · subst h1; rw [upd_same]; simp [nilV, Value.ownBlock]
    · exact absurd h2 (by simp)
  · rw [h.box, upd_ne _ _ (by simp), upd_ne _ _ (by simp), upd_ne _ _ (by simp), upd_ne _ _ (by simp), upd_ne _ _ (by simp)]
/-- The letters of one more port. -/
theorem AsyFB.add (h : AsyFB w base val x row P) {v v2 : Value} {ls : Ends} (hb1 : Below w.heap.size w w1) (hbase : base ≤ w.heap.size) (hn : w1.ownsRow w.heap.size 156 2 v ls.length (letCells ls))
    (hg2 : w1.grownBy w2 (val (.fr x.flight.length)).ownBlock) (hn2 : w2.ownsRow base 120 1 v2 (row.length + 1) (valsOf (.le x.flight.length) val row.length ++ [v])) (hb2 : v2.ownBlock = (val (.fr x.flight.length)).ownBlock ∨ ∃ g, v2.ownBlock = some g ∧ w1.heap.size ≤ g) :
    ∃ val', val' (.fr x.flight.length) = v2 ∧ AsyFB w2 base val' x (row ++ [ls]) P := by
  have hP := h.lt
  have hz := hb1.size
  have hfr : keyOf (withRow x row) (.fr x.flight.length) := by show x.flight.length < (x.flight ++ [row]).length; simp
  have k1 := AsyF.add h.k (grown_below hb1) (own_mono hn hbase) (fresh_of hn) hg2 hn2 hb2
  refine ⟨_, upd_same _ _ _, k1, fun j hj => ?_, ?_⟩
  · by_cases e : j = .fr x.flight.length
    · subst e; rw [upd_same]; exact ne_of hb2 (h.ne _ hfr) (by omega)
    · rw [upd_ne _ _ e]
      by_cases e2 : j = .le x.flight.length row.length
      · subst e2; rw [upd_same]; exact ne_fresh (fresh_of hn) hP
      · rw [upd_ne _ _ e2]
        refine h.ne j ?_
        rcases keyOf_row hj with h1 | h1 | ⟨p, h1, h2⟩
        · cases j with
          | fr i => show i < (x.flight ++ [row]).length; have : i < x.flight.length := h1; simp; omega
          | le i p => exact ⟨by show i < (x.flight ++ [row]).length; have : i < x.flight.length := h1.1; simp; omega, by rw [portsAt_row row i (by have := h1.1; omega), if_neg (by have := h1.1; omega)]; exact h1.2⟩
          | _ => exact h1
        · exact absurd h1 e
        · rw [List.length_append, List.length_singleton] at h2
          subst h1
          have : p ≠ row.length := fun h => e2 (by rw [h])
          exact ⟨by show x.flight.length < (x.flight ++ [row]).length; simp, by rw [portsAt_row row _ (Nat.le_refl _), if_pos rfl]; omega⟩
  · rw [hg2.block P (by omega) (fun e => h.ne _ hfr e.symm), hb1.block P hP, h.box]
    rw [upd_ne _ _ (by simp), upd_ne _ _ (by simp), upd_ne _ _ (by simp), upd_ne _ _ (by simp), upd_ne _ _ (by simp), upd_ne _ _ (by simp), upd_ne _ _ (by simp), upd_ne _ _ (by simp), upd_ne _ _ (by simp), upd_ne _ _ (by simp)]
/-- The row of one more node is laid, and the box. -/
theorem AsyFB.fin (h : AsyFB w base val x row P) {v2 : Value} (hg2 : w.grownBy w2 (val .f).ownBlock) (hn2 : w2.ownsRow base 119 1 v2 (x.flight.length + 1) (valsOf .fr val x.flight.length ++ [val (.fr x.flight.length)])) (hb2 : v2.ownBlock = (val .f).ownBlock ∨ ∃ g, v2.ownBlock = some g ∧ w.heap.size ≤ g) :
    ∃ val', AsyB (w2.setCell ⟨P, 4, none⟩ v2) base val' (withRow x row) P := by
  have hP := h.lt
  have k1 := AsyF.fin h.k hg2 hn2 hb2
  have hne : ∀ j, keyOf (withRow x row) j → (upd val .f v2 j).ownBlock ≠ some P := fun j hj => by
    by_cases e : j = .f
    · subst e; rw [upd_same]; exact ne_of hb2 (h.ne .f trivial) (by omega)
    · rw [upd_ne _ _ e]; exact h.ne j hj
  have hbx : w2.heap[P]? = some (.cells #[val .r, val .b, val .n, val .s, val .f] 50 (0, 0)) := (hg2.block P (by omega) (fun e => h.ne .f trivial e.symm)).trans h.box
  refine ⟨_, OwnK.apart k1 (grown_set w2 P 4 v2) hne, hne, ?_⟩
  rw [heap_set_same hbx v2]
  simp [upd]
/-- The row under construction, and the list of rows. -/
theorem AsyFB.frow (h : AsyFB w base val x row P) : w.ownsRow base 120 1 (val (.fr x.flight.length)) row.length (valsOf (.le x.flight.length) val row.length) := by
  have h1 := h.k.own (.fr x.flight.length) (by show x.flight.length < (x.flight ++ [row]).length; simp)
  have e : rowF x row val (.fr x.flight.length) = ⟨120, 1, row.length, valsOf (.le x.flight.length) val row.length⟩ := by
    unfold rowF
    rw [upd_ne _ _ (by simp)]
    show (⟨_, _, (portsAt (withRow x row) x.flight.length).length, valsOf (.le x.flight.length) val (portsAt (withRow x row) x.flight.length).length⟩ : RowD) = _
    rw [portsAt_row row _ (Nat.le_refl _), if_pos rfl]
  rw [e] at h1
  exact h1
theorem AsyFB.flow (h : AsyFB w base val x row P) : w.ownsRow base 119 1 (val .f) x.flight.length (valsOf .fr val x.flight.length) := by
  have h1 := h.k.own .f trivial
  have e : rowF x row val .f = ⟨119, 1, x.flight.length, valsOf .fr val x.flight.length⟩ := by unfold rowF; rw [upd_same]
  rw [e] at h1
  exact h1
end
theorem own_sl1 {w : World} {base n sz : Nat} {e : TypeId} {v : Value} {vs : List Value} (h : w.ownsRow base e sz v n vs) : ∃ A c, v = .slice A n c := by
  rcases h.2 with ⟨e, e0⟩ | ⟨g, cap, cur, e, -⟩
  · exact ⟨none, 0, by rw [e, e0]⟩
  · exact ⟨_, _, e⟩
end Go.Proofs.YtcpbbjocaimocaaGreat
