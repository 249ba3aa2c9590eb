/-
  Asynchronous states that are a call's own: how a copy is built, list by list. No program in sight, no condition.
-/
import Derived.Test.YtcpbbjocaimocaaGreatAsyOwn2
namespace Go.Proofs.YtcpbbjocaimocaaGreat
open Go.RowKit
set_option linter.unusedVariables false
set_option linter.unusedSimpArgs false
theorem fresh_of {w w' : World} {e : TypeId} {sz n : Nat} {v : Value} {vs : List Value} (h : w'.ownsRow w.heap.size e sz v n vs) : v.ownBlock = none ∨ ∃ g, v.ownBlock = some g ∧ w.heap.size ≤ g := by
  cases e : v.ownBlock with
  | none => exact .inl rfl
  | some g => exact .inr ⟨g, rfl, (h.lt g e).1⟩
theorem OwnK.empty (w : World) (base : Nat) (val : Key → Value) (R : Key → RowD) : OwnK w base (fun _ => False) val R := ⟨fun _ h => h.elim, fun _ _ h => h.elim⟩
def nilV : Value := .slice none 0 0
theorem AsyK.start3 {w0 w1 w2 w3 : World} {v1 v2 v3 : Value} {rs bs ns : List Int} (h1 : w1.ownsRow w0.heap.size 3 1 v1 rs.length (rs.map intV)) (b1 : Below w0.heap.size w0 w1) (h2 : w2.ownsRow w1.heap.size 3 1 v2 bs.length (bs.map intV)) (b2 : Below w1.heap.size w1 w2)
    (h3 : w3.ownsRow w2.heap.size 3 1 v3 ns.length (ns.map intV)) (b3 : Below w2.heap.size w2 w3) : ∃ val, val .r = v1 ∧ val .b = v2 ∧ val .n = v3 ∧ val .s = nilV ∧ val .f = nilV ∧ AsyK w3 w0.heap.size val ⟨rs, bs, ns, [], []⟩ := by
  have k0 := OwnK.empty w0 w0.heap.size (fun _ => nilV) (fun _ => ⟨3, 1, 0, []⟩)
  have k1 := OwnK.new k0 .r v1 ⟨3, 1, rs.length, rs.map intV⟩ (grown_below b1) h1 (fresh_of h1)
  have k2 := OwnK.new k1 .b v2 ⟨3, 1, bs.length, bs.map intV⟩ (grown_below b2) (own_mono h2 b1.size) (fresh_of h2)
  have k3 := OwnK.new k2 .n v3 ⟨3, 1, ns.length, ns.map intV⟩ (grown_below b3) (own_mono h3 (Nat.le_trans b1.size b2.size)) (fresh_of h3)
  have k4 := OwnK.new k3 .s nilV ⟨24, 1, 0, []⟩ (grown_below (Below.refl _ _)) (World.ownsRow_nil _ _ _ _) (.inl rfl)
  have k5 := OwnK.new k4 .f nilV ⟨119, 1, 0, []⟩ (grown_below (Below.refl _ _)) (World.ownsRow_nil _ _ _ _) (.inl rfl)
  refine ⟨upd (upd (upd (upd (upd (fun _ => nilV) .r v1) .b v2) .n v3) .s nilV) .f nilV, ?_, ?_, ?_, ?_, ?_, k5.congr fun j hj => ?_⟩
  · rw [upd_ne _ _ (by simp), upd_ne _ _ (by simp), upd_ne _ _ (by simp), upd_ne _ _ (by simp), upd_same]
  · rw [upd_ne _ _ (by simp), upd_ne _ _ (by simp), upd_ne _ _ (by simp), upd_same]
  · rw [upd_ne _ _ (by simp), upd_ne _ _ (by simp), upd_same]
  · rw [upd_ne _ _ (by simp), upd_same]
  · rw [upd_same]
  · cases j with
    | r => exact ⟨by simp, rfl, by rw [upd_ne _ _ (by simp), upd_ne _ _ (by simp), upd_ne _ _ (by simp), upd_ne _ _ (by simp), upd_same]; rfl⟩
    | b => exact ⟨by simp, rfl, by rw [upd_ne _ _ (by simp), upd_ne _ _ (by simp), upd_ne _ _ (by simp), upd_same]; rfl⟩
    | n => exact ⟨by simp, rfl, by rw [upd_ne _ _ (by simp), upd_ne _ _ (by simp), upd_same]; rfl⟩
    | s => exact ⟨by simp, rfl, by rw [upd_ne _ _ (by simp), upd_same]; rfl⟩
    | f => exact ⟨by simp, rfl, by rw [upd_same]; rfl⟩
    | sl k => exact absurd (show k < 0 from hj) (by omega)
    | fr k => exact absurd (show k < 0 from hj) (by omega)
    | le k p => exact absurd (show k < 0 from hj.1) (by omega)
section
variable {w w1 w2 : World} {base : Nat} {val : Key → Value} {x : Asy}
theorem slotsAt_snoc (s : List Int) (j : Nat) (hj : j ≤ x.slots.length) : slotsAt { x with slots := x.slots ++ [s] } j = if j = x.slots.length then s else slotsAt x j := by
  unfold slotsAt
  rw [List.getD_eq_getElem?_getD, List.getD_eq_getElem?_getD, List.getElem?_append]
  by_cases e : j = x.slots.length
  · subst e; rw [if_neg (by omega), if_pos rfl]; simp
  · rw [if_pos (by omega), if_neg e]
theorem portsAt_snoc (f : List Ends) (j : Nat) (hj : j ≤ x.flight.length) : portsAt { x with flight := x.flight ++ [f] } j = if j = x.flight.length then f else portsAt x j := by
  unfold portsAt
  rw [List.getD_eq_getElem?_getD, List.getD_eq_getElem?_getD, List.getElem?_append]
  by_cases e : j = x.flight.length
  · subst e; rw [if_neg (by omega), if_pos rfl]; simp
  · rw [if_pos (by omega), if_neg e]
/-- The slots of one more node. -/
theorem AsyK.addSlots (h : AsyK w base val x) {v v2 : Value} {s : List Int} (hg : w.grownBy w1 none) (hn : w1.ownsRow base 3 1 v s.length (s.map intV)) (hb : v.ownBlock = none ∨ ∃ g, v.ownBlock = some g ∧ w.heap.size ≤ g)
    (hg2 : w1.grownBy w2 (val .s).ownBlock) (hn2 : w2.ownsRow base 24 1 v2 (x.slots.length + 1) (valsOf .sl val x.slots.length ++ [v])) (hb2 : v2.ownBlock = (val .s).ownBlock ∨ ∃ g, v2.ownBlock = some g ∧ w1.heap.size ≤ g) :
    AsyK w2 base (upd (upd val (.sl x.slots.length) v) .s v2) { x with slots := x.slots ++ [s] } :=
  (OwnK.mend (OwnK.new h (.sl x.slots.length) v ⟨3, 1, s.length, s.map intV⟩ hg hn hb) .s (.inl trivial) v2 ⟨24, 1, x.slots.length + 1, valsOf .sl val x.slots.length ++ [v]⟩ (by rw [upd_ne _ _ (by simp)]; exact hg2) hn2 (by rw [upd_ne _ _ (by simp)]; exact hb2)).congr fun j hj => ⟨by
    cases j with
    | sl i =>
      have hi : i < (x.slots ++ [s]).length := hj
      rw [List.length_append, List.length_singleton] at hi
      by_cases e : i = x.slots.length
      · exact .inr (by rw [e])
      · exact .inl (show i < x.slots.length by omega)
    | _ => exact .inl hj, rfl, by
    cases j with
    | sl i =>
      have hi : i < (x.slots ++ [s]).length := hj
      rw [List.length_append, List.length_singleton] at hi
      rw [upd_ne _ _ (by simp)]
      show (⟨_, _, (slotsAt { x with slots := x.slots ++ [s] } i).length, (slotsAt { x with slots := x.slots ++ [s] } i).map intV⟩ : RowD) = _
      rw [slotsAt_snoc s i (by omega)]
      by_cases e : i = x.slots.length
      · subst e; rw [upd_same, if_pos rfl]
      · rw [upd_ne _ _ (by simpa using e), if_neg e]; rfl
    | s =>
      rw [upd_same]
      show (⟨_, _, (x.slots ++ [s]).length, valsOf .sl (upd (upd val (.sl x.slots.length) v) .s v2) (x.slots ++ [s]).length⟩ : RowD) = _
      rw [List.length_append, List.length_singleton, valsOf_succ, upd_ne _ _ (by simp), upd_same, valsOf_congr (fun i hi => by rw [upd_ne _ _ (by simp), upd_ne _ _ (by simp; omega)])]
    | fr i => rw [upd_ne _ _ (by simp), upd_ne _ _ (by simp)]; show (⟨_, _, _, valsOf (.le i) (upd (upd val (.sl x.slots.length) v) .s v2) _⟩ : RowD) = _; rw [valsOf_congr (fun _ _ => by rw [upd_ne _ _ (by simp), upd_ne _ _ (by simp)])]; rfl
    | f => rw [upd_ne _ _ (by simp), upd_ne _ _ (by simp)]; show (⟨_, _, _, valsOf .fr (upd (upd val (.sl x.slots.length) v) .s v2) _⟩ : RowD) = _; rw [valsOf_congr (fun _ _ => by rw [upd_ne _ _ (by simp), upd_ne _ _ (by simp)])]; rfl
    | _ => rw [upd_ne _ _ (by simp), upd_ne _ _ (by simp)]; rfl⟩
/-- The state x beside the letters of one more node, as far as they have been copied. -/
def withRow (x : Asy) (row : List Ends) : Asy := { x with flight := x.flight ++ [row] }
noncomputable def rowF (x : Asy) (row : List Ends) (val : Key → Value) : Key → RowD := upd (rowK (withRow x row) val) .f ⟨119, 1, x.flight.length, valsOf .fr val x.flight.length⟩
def AsyF (w : World) (base : Nat) (val : Key → Value) (x : Asy) (row : List Ends) : Prop := OwnK w base (keyOf (withRow x row)) val (rowF x row val)
theorem portsAt_row (row : List Ends) (j : Nat) (hj : j ≤ x.flight.length) : portsAt (withRow x row) j = if j = x.flight.length then row else portsAt x j := portsAt_snoc row j hj
theorem AsyF.keep {row : List Ends} (h : AsyF w base val x row) (hg : w.grownBy w1 none) : AsyF w1 base val x row := OwnK.keep h hg
theorem keyOf_row {row : List Ends} {j : Key} (hj : keyOf (withRow x row) j) : keyOf x j ∨ j = .fr x.flight.length ∨ ∃ p, j = .le x.flight.length p ∧ p < row.length := by
  cases j with
  | fr i =>
    have hi : i < (x.flight ++ [row]).length := hj
    rw [List.length_append, List.length_singleton] at hi
    by_cases e : i = x.flight.length
    · exact .inr (.inl (by rw [e]))
    · exact .inl (show i < x.flight.length by omega)
  | le i p =>
    have hi : i < (x.flight ++ [row]).length := hj.1
    have hp : p < (portsAt (withRow x row) i).length := hj.2
    rw [List.length_append, List.length_singleton] at hi
    rw [portsAt_row row i (by omega)] at hp
    by_cases e : i = x.flight.length
    · rw [if_pos e] at hp
      exact .inr (.inr ⟨p, by rw [e], hp⟩)
    · rw [if_neg e] at hp
      exact .inl ⟨by omega, hp⟩
  | _ => exact .inl hj
theorem AsyF.start (h : AsyK w base val x) : AsyF w base (upd val (.fr x.flight.length) nilV) x [] :=
  (OwnK.new h (.fr x.flight.length) nilV ⟨120, 1, 0, []⟩ (grown_below (Below.refl _ _)) (World.ownsRow_nil _ _ _ _) (.inl rfl)).congr fun j hj => ⟨by
    rcases keyOf_row hj with h1 | h1 | ⟨p, h1, h2⟩
    · exact .inl h1
    · exact .inr h1
    · exact absurd h2 (by simp), rfl, by
    unfold rowF
    cases j with
    | f => rw [upd_same, upd_ne _ _ (by simp)]; show _ = (⟨_, _, _, valsOf .fr val x.flight.length⟩ : RowD); rw [valsOf_congr (fun i hi => upd_ne _ _ (by simp; omega))]
    | fr i =>
      have hi : i < (x.flight ++ [([] : List Ends)]).length := hj
      rw [List.length_append, List.length_singleton] at hi
      rw [upd_ne _ _ (by simp)]
      show (⟨_, _, (portsAt (withRow x []) i).length, valsOf (.le i) (upd val (.fr x.flight.length) nilV) (portsAt (withRow x []) i).length⟩ : RowD) = _
      rw [portsAt_row [] i (by omega), valsOf_congr (fun _ _ => upd_ne _ _ (by simp))]
      by_cases e : i = x.flight.length
      · subst e; rw [upd_same, if_pos rfl]; rfl
      · rw [upd_ne _ _ (by simpa using e), if_neg e]; rfl
    | le i p =>
      rw [upd_ne _ _ (by simp), upd_ne _ _ (by simp)]
      rcases keyOf_row hj with h1 | h1 | ⟨q, h1, h2⟩
      · show (⟨_, _, (lettersAt (withRow x []) i p).length, _⟩ : RowD) = _
        have : lettersAt (withRow x []) i p = lettersAt x i p := by unfold lettersAt; rw [portsAt_row [] i (by have := h1.1; omega), if_neg (by have := h1.1; omega)]
        rw [this]; rfl
      · cases h1
      · exact absurd h2 (by simp)
    | s => rw [upd_ne _ _ (by simp), upd_ne _ _ (by simp)]; show (⟨_, _, _, valsOf .sl (upd val (.fr x.flight.length) nilV) _⟩ : RowD) = _; rw [valsOf_congr (fun _ _ => upd_ne _ _ (by simp))]; rfl
    | _ => rw [upd_ne _ _ (by simp), upd_ne _ _ (by simp)]; rfl⟩
/-- The letters of one more port. -/
theorem AsyF.add {row : List Ends} (h : AsyF w base val x row) {v v2 : Value} {ls : Ends} (hg : w.grownBy w1 none) (hn : w1.ownsRow base 156 2 v ls.length (letCells ls)) (hb : v.ownBlock = none ∨ ∃ g, v.ownBlock = some g ∧ w.heap.size ≤ g)
    (hg2 : w1.grownBy w2 (val (.fr x.flight.length)).ownBlock) (hn2 : w2.ownsRow base 120 1 v2 (row.length + 1) (valsOf (.le x.flight.length) val row.length ++ [v])) (hb2 : v2.ownBlock = (val (.fr x.flight.length)).ownBlock ∨ ∃ g, v2.ownBlock = some g ∧ w1.heap.size ≤ g) :
    AsyF w2 base (upd (upd val (.le x.flight.length row.length) v) (.fr x.flight.length) v2) x (row ++ [ls]) :=
  (OwnK.mend (OwnK.new h (.le x.flight.length row.length) v ⟨156, 2, ls.length, letCells ls⟩ hg hn hb) (.fr x.flight.length) (.inl (show x.flight.length < (x.flight ++ [row]).length by simp)) v2 ⟨120, 1, row.length + 1, valsOf (.le x.flight.length) val row.length ++ [v]⟩ (by rw [upd_ne _ _ (by simp)]; exact hg2) hn2 (by rw [upd_ne _ _ (by simp)]; exact hb2)).congr fun j hj => ⟨by
    rcases keyOf_row hj with h1 | h1 | ⟨p, h1, h2⟩
    · cases j with
      | fr i => exact .inl (show i < (x.flight ++ [row]).length by have : i < x.flight.length := h1; simp; omega)
      | le i p => exact .inl (show i < (x.flight ++ [row]).length ∧ p < (portsAt (withRow x row) i).length from ⟨by have : i < x.flight.length := h1.1; simp; omega, by rw [portsAt_row row i (by have := h1.1; omega), if_neg (by have := h1.1; omega)]; exact h1.2⟩)
      | _ => exact .inl h1
    · exact .inl (by rw [h1]; show x.flight.length < (x.flight ++ [row]).length; simp)
    · rw [List.length_append, List.length_singleton] at h2
      by_cases e : p = row.length
      · exact .inr (by rw [h1, e])
      · exact .inl (by rw [h1]; exact ⟨by show x.flight.length < (x.flight ++ [row]).length; simp, by rw [portsAt_row row _ (Nat.le_refl _), if_pos rfl]; omega⟩), rfl, by
    unfold rowF
    cases j with
    | f => rw [upd_same, upd_ne _ _ (by simp), upd_ne _ _ (by simp), upd_same]; rw [valsOf_congr (fun i hi => by rw [upd_ne _ _ (by simp; omega), upd_ne _ _ (by simp)])]
    | fr i =>
      have hi : i < (x.flight ++ [row ++ [ls]]).length := hj
      rw [List.length_append, List.length_singleton] at hi
      rw [upd_ne _ _ (by simp)]
      show (⟨_, _, (portsAt (withRow x (row ++ [ls])) i).length, valsOf (.le i) (upd (upd val (.le x.flight.length row.length) v) (.fr x.flight.length) v2) (portsAt (withRow x (row ++ [ls])) i).length⟩ : RowD) = _
      rw [portsAt_row _ i (by omega)]
      by_cases e : i = x.flight.length
      · subst e
        rw [upd_same, if_pos rfl, List.length_append, List.length_singleton, valsOf_succ, upd_ne _ _ (by simp), upd_same, valsOf_congr (fun q hq => by rw [upd_ne _ _ (by simp), upd_ne _ _ (by simp; omega)])]
      · rw [upd_ne _ _ (by simpa using e), if_neg e, upd_ne _ _ (by simp), upd_ne _ _ (by simp), valsOf_congr (fun q hq => by rw [upd_ne _ _ (by simp), upd_ne _ _ (by simp [e])])]
        show _ = (⟨_, _, (portsAt (withRow x row) i).length, valsOf (.le i) val (portsAt (withRow x row) i).length⟩ : RowD)
        rw [portsAt_row _ i (by omega), if_neg e]
    | le i p =>
      rw [upd_ne _ _ (by simp), upd_ne _ _ (by simp)]
      show (⟨_, _, (lettersAt (withRow x (row ++ [ls])) i p).length, letCells (lettersAt (withRow x (row ++ [ls])) i p)⟩ : RowD) = _
      rcases keyOf_row hj with h1 | h1 | ⟨q, h1, h2⟩
      · have hi : i < x.flight.length := h1.1
        have e1 : lettersAt (withRow x (row ++ [ls])) i p = lettersAt x i p := by unfold lettersAt; rw [portsAt_row _ i (by omega), if_neg (by omega)]
        rw [e1, upd_ne _ _ (by simp; omega), upd_ne _ _ (by simp)]
        show _ = (⟨_, _, (lettersAt (withRow x row) i p).length, letCells (lettersAt (withRow x row) i p)⟩ : RowD)
        have e2 : lettersAt (withRow x row) i p = lettersAt x i p := by unfold lettersAt; rw [portsAt_row _ i (by omega), if_neg (by omega)]
        rw [e2]
      · cases h1
      · cases h1
        rw [List.length_append, List.length_singleton] at h2
        by_cases e : p = row.length
        · subst e
          have e1 : lettersAt (withRow x (row ++ [ls])) x.flight.length row.length = ls := by unfold lettersAt; rw [portsAt_row _ _ (Nat.le_refl _), if_pos rfl]; simp
          rw [e1, upd_same]
        · have e1 : lettersAt (withRow x (row ++ [ls])) x.flight.length p = lettersAt (withRow x row) x.flight.length p := by
            unfold lettersAt
            rw [portsAt_row _ _ (Nat.le_refl _), portsAt_row _ _ (Nat.le_refl _), if_pos rfl, if_pos rfl, List.getD_eq_getElem?_getD, List.getD_eq_getElem?_getD, List.getElem?_append_left (by omega)]
          rw [e1, upd_ne _ _ (by simpa using e), upd_ne _ _ (by simp)]; rfl
    | s => rw [upd_ne _ _ (by simp), upd_ne _ _ (by simp), upd_ne _ _ (by simp), upd_ne _ _ (by simp)]; show (⟨_, _, _, valsOf .sl (upd (upd val (.le x.flight.length row.length) v) (.fr x.flight.length) v2) _⟩ : RowD) = _; rw [valsOf_congr (fun _ _ => by rw [upd_ne _ _ (by simp), upd_ne _ _ (by simp)])]; rfl
    | _ => rw [upd_ne _ _ (by simp), upd_ne _ _ (by simp), upd_ne _ _ (by simp), upd_ne _ _ (by simp)]; rfl⟩
/-- The row of one more node is laid. -/
theorem AsyF.fin {row : List Ends} (h : AsyF w base val x row) {v2 : Value} (hg2 : w.grownBy w2 (val .f).ownBlock) (hn2 : w2.ownsRow base 119 1 v2 (x.flight.length + 1) (valsOf .fr val x.flight.length ++ [val (.fr x.flight.length)])) (hb2 : v2.ownBlock = (val .f).ownBlock ∨ ∃ g, v2.ownBlock = some g ∧ w.heap.size ≤ g) :
    AsyK w2 base (upd val .f v2) (withRow x row) :=
  (OwnK.mend h .f trivial v2 ⟨119, 1, x.flight.length + 1, valsOf .fr val x.flight.length ++ [val (.fr x.flight.length)]⟩ hg2 hn2 hb2).congr fun j hj => ⟨hj, rfl, by
    unfold rowF
    cases j with
    | f =>
      rw [upd_same]
      show (⟨_, _, (x.flight ++ [row]).length, valsOf .fr (upd val .f v2) (x.flight ++ [row]).length⟩ : RowD) = _
      rw [List.length_append, List.length_singleton, valsOf_succ, upd_ne _ _ (by simp), valsOf_congr (fun i hi => upd_ne _ _ (by simp))]
    | fr i => rw [upd_ne _ _ (by simp), upd_ne _ _ (by simp)]; show (⟨_, _, _, valsOf (.le i) (upd val .f v2) _⟩ : RowD) = _; rw [valsOf_congr (fun _ _ => upd_ne _ _ (by simp))]; rfl
    | s => rw [upd_ne _ _ (by simp), upd_ne _ _ (by simp)]; show (⟨_, _, _, valsOf .sl (upd val .f v2) _⟩ : RowD) = _; rw [valsOf_congr (fun _ _ => upd_ne _ _ (by simp))]; rfl
    | _ => rw [upd_ne _ _ (by simp), upd_ne _ _ (by simp)]; rfl⟩
end
end Go.Proofs.YtcpbbjocaimocaaGreat
