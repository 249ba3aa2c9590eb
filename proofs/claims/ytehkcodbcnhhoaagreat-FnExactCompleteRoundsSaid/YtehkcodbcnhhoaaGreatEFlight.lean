/-
  A node's row of letters that is made at once, empty. No program but the rows' types in sight, no condition.
-/
import Derived.Test.YtehkcodbcnhhoaaGreatEPlayA
namespace Go.Proofs.YtehkcodbcnhhoaaGreat
open Go.RowKit
set_option linter.all false
def fval (val : Key → Value) (K : Nat) (v : Value) : Key → Value
  | .fr k => if k = K then v else val (.fr k)
  | .le k p => if k = K then nilV else val (.le k p)
  | .sl k => val (.sl k)
  | .r => val .r
  | .b => val .b
  | .n => val .n
  | .s => val .s
  | .f => val .f
section
variable {w w1 : World} {base P : Nat} {val : Key → Value} {x : Asy} {v : Value}
theorem fval_old (row : List Ends) {j : Key} (hj : keyOf x j) : fval val x.flight.length v j = val j ∧ rowF x row (fval val x.flight.length v) j = rowK x val j := by
 unfold rowF
 cases j with
 | f =>
  refine ⟨rfl, ?_⟩
  rw [upd_same]
  show (⟨_, _, _, valsOf .fr (fval val x.flight.length v) x.flight.length⟩ : RowD) = ⟨_, _, _, valsOf .fr val x.flight.length⟩
  rw [valsOf_congr (fun i hi => show fval val x.flight.length v (.fr i) = val (.fr i) from if_neg (by omega))]
 | fr i =>
  have hi : i < x.flight.length := hj
  refine ⟨if_neg (by omega), ?_⟩
  rw [upd_ne _ _ (by simp)]
  show (⟨_, _, (portsAt (withRow x row) i).length, valsOf (.le i) (fval val x.flight.length v) (portsAt (withRow x row) i).length⟩ : RowD) = ⟨_, _, (portsAt x i).length, valsOf (.le i) val (portsAt x i).length⟩
  rw [portsAt_row row i (by omega), if_neg (by omega), valsOf_congr (fun p hp => show fval val x.flight.length v (.le i p) = val (.le i p) from if_neg (by omega))]
 | le i p =>
  have hi : i < x.flight.length := hj.1
  refine ⟨if_neg (by omega), ?_⟩
  rw [upd_ne _ _ (by simp)]
  have : lettersAt (withRow x row) i p = lettersAt x i p := by unfold lettersAt; rw [portsAt_row row i (by omega), if_neg (by omega)]
  show (⟨_, _, (lettersAt (withRow x row) i p).length, letCells (lettersAt (withRow x row) i p)⟩ : RowD) = _
  rw [this]
  rfl
 | s =>
  refine ⟨rfl, ?_⟩
  rw [upd_ne _ _ (by simp)]
  show (⟨_, _, _, valsOf .sl (fval val x.flight.length v) _⟩ : RowD) = ⟨_, _, _, valsOf .sl val _⟩
  rw [valsOf_congr (val := val) (fun _ _ => rfl)]
  rfl
 | _ => exact ⟨rfl, by rw [upd_ne _ _ (by simp)]; rfl⟩
theorem AsyB.makeF (h : AsyB w base val x P) (hb1 : Below w.heap.size w w1) (hbase : base ≤ w.heap.size) {l : Nat} (hn : w1.ownsRow w.heap.size 117 1 v l (List.replicate l nilV)) :
  ∃ val', val' (.fr x.flight.length) = v ∧ AsyFB w1 base val' x (List.replicate l []) P := by
 have h1 := h.up hb1
 have hfr : fval val x.flight.length v (.fr x.flight.length) = v := if_pos rfl
 have hle : ∀ p, fval val x.flight.length v (.le x.flight.length p) = nilV := fun p => if_pos rfl
 have hfresh := fresh_of hn
 have hlt : ∀ j, keyOf x j → ∀ g, (val j).ownBlock = some g → g < w.heap.size := fun j hj g hg => ((h.k.own j hj).lt g hg).2
 have hns : ∀ j, keyOf x j → (val j).ownBlock = none ∨ (val j).ownBlock ≠ v.ownBlock := fun j hj => by
  cases e : (val j).ownBlock with
  | none => exact .inl rfl
  | some g =>
   refine .inr fun e' => ?_
   have h2 := hlt j hj g e
   rcases hfresh with h3 | ⟨g', h3, h4⟩
   ·
    rw [h3] at e'; cases e'
   ·
    rw [h3] at e'; have := Option.some.inj e'; omega
 refine ⟨fval val x.flight.length v, hfr, ⟨fun j hj => ?_, fun i j hi hj hne => ?_⟩, fun j hj => ?_, h1.box⟩
 ·
  rcases keyOf_row hj with hk | rfl | ⟨p, rfl, hp⟩
  ·
   obtain ⟨e1, e2⟩ := fval_old (val := val) (v := v) (List.replicate l []) hk
   rw [e1, e2]
   exact h1.k.own j hk
  ·
   have e : rowF x (List.replicate l []) (fval val x.flight.length v) (.fr x.flight.length) = ⟨117, 1, l, List.replicate l nilV⟩ := by
    unfold rowF
    rw [upd_ne _ _ (by simp)]
    show (⟨_, _, (portsAt (withRow x (List.replicate l [])) x.flight.length).length, valsOf (.le x.flight.length) (fval val x.flight.length v) (portsAt (withRow x (List.replicate l [])) x.flight.length).length⟩ : RowD) = _
    rw [portsAt_row _ _ (Nat.le_refl _), if_pos rfl, List.length_replicate]
    congr 1
    unfold valsOf
    apply List.ext_getElem?
    intro k
    by_cases hk : k < l
    ·
     rw [List.getElem?_map, List.getElem?_range hk, List.getElem?_replicate, if_pos hk]
     show some (fval val x.flight.length v (.le x.flight.length k)) = _
     rw [hle]
    ·
     rw [List.getElem?_eq_none (by simp; omega), List.getElem?_eq_none (by simp; omega)]
   rw [e, hfr]
   exact own_mono hn hbase
  ·
   have e : rowF x (List.replicate l []) (fval val x.flight.length v) (.le x.flight.length p) = ⟨121, 2, 0, []⟩ := by
    unfold rowF
    rw [upd_ne _ _ (by simp)]
    have e2 : lettersAt (withRow x (List.replicate l [])) x.flight.length p = [] := by
     unfold lettersAt
     rw [portsAt_row _ _ (Nat.le_refl _), if_pos rfl, List.getD_eq_getElem?_getD, List.getElem?_replicate]
     split <;> rfl
    show (⟨_, _, (lettersAt (withRow x (List.replicate l [])) x.flight.length p).length, letCells (lettersAt (withRow x (List.replicate l [])) x.flight.length p)⟩ : RowD) = _
    rw [e2]
    rfl
   rw [e, hle]
   exact World.ownsRow_nil _ _ _ _
 ·
  have nn : nilV.ownBlock = none := rfl
  rcases keyOf_row hi with hk | rfl | ⟨p, rfl, hp⟩
  ·
   rw [(fval_old (val := val) (v := v) [] hk).1]
   rcases keyOf_row hj with hk2 | rfl | ⟨q, rfl, hq⟩
   ·
    rw [(fval_old (val := val) (v := v) [] hk2).1]
    exact h.k.sep i j hk hk2 hne
   ·
    rw [hfr]
    exact hns i hk
   ·
    rw [hle, nn]
    cases (val i).ownBlock <;> simp
  ·
   rw [hfr]
   rcases keyOf_row hj with hk2 | rfl | ⟨q, rfl, hq⟩
   ·
    rw [(fval_old (val := val) (v := v) [] hk2).1]
    rcases hns j hk2 with h2 | h2
    ·
     rw [h2]; cases v.ownBlock <;> simp
    ·
     exact .inr fun e => h2 e.symm
   ·
    exact absurd rfl hne
   ·
    rw [hle, nn]
    cases v.ownBlock <;> simp
  ·
   rw [hle]
   exact .inl rfl
 ·
  rcases keyOf_row hj with hk | rfl | ⟨p, rfl, hp⟩
  ·
   rw [(fval_old (val := val) (v := v) [] hk).1]
   exact h.ne j hk
  ·
   rw [hfr]
   exact ne_fresh hfresh h.lt
  ·
   rw [hle]
   simp [nilV, Value.ownBlock]
end
theorem own_madeZ (w : World) (e : TypeId) (n : Nat) (z : Value) (hn : n ≤ maxLen) : (w.alloc (.cells (rowOf [] n z) e)).ownsRow w.heap.size e 1 (.slice (some ⟨w.heap.size, 0, none⟩) n n) n (List.replicate n z) := by
  have e0 : rowOf [] n z = (List.replicate n z).toArray := by simp [rowOf]
  rw [e0]
  exact ⟨by simp, .inr ⟨w.heap.size, n, _, rfl, Nat.le_refl _, heap_alloc_new w _, Nat.le_refl _, hn, by simp, by simp⟩⟩
def slVal (v : Value) : Key → Value
  | .s => v
  | _ => nilV
theorem madeSlots {W : World} {base N : Nat} {v : Value} (ho : W.ownsRow base 24 1 v N (List.replicate N nilV)) : AsyK W base (slVal v) ⟨[], [], [], List.replicate N [], []⟩ := by
 refine ⟨fun j hj => ?_, fun i j hi hj hne => ?_⟩
 ·
  cases j with
  | s =>
   show W.ownsRow base 24 1 v (List.replicate N ([] : List Int)).length (valsOf .sl (slVal v) (List.replicate N ([] : List Int)).length)
   rw [List.length_replicate]
   have e : valsOf .sl (slVal v) N = List.replicate N nilV := by
    unfold valsOf
    apply List.ext_getElem?
    intro k
    by_cases hk : k < N
    ·
     rw [List.getElem?_map, List.getElem?_range hk, List.getElem?_replicate, if_pos hk]; rfl
    ·
     rw [List.getElem?_eq_none (by simp; omega), List.getElem?_eq_none (by simp; omega)]
   rw [e]
   exact ho
  | sl k =>
   have e : slotsAt ⟨[], [], [], List.replicate N [], []⟩ k = [] := by
    unfold slotsAt
    rw [List.getD_eq_getElem?_getD, List.getElem?_replicate]
    split <;> rfl
   show W.ownsRow base 3 1 nilV (slotsAt ⟨[], [], [], List.replicate N [], []⟩ k).length ((slotsAt ⟨[], [], [], List.replicate N [], []⟩ k).map intV)
   rw [e]
   exact World.ownsRow_nil _ _ _ _
  | fr k => exact absurd (show k < 0 from hj) (by omega)
  | le k p => exact absurd (show k < 0 from hj.1) (by omega)
  | _ => exact World.ownsRow_nil _ _ _ _
 ·
  cases i with
  | s =>
   cases j with
   | s => exact absurd rfl hne
   | _ => (show v.ownBlock = none ∨ v.ownBlock ≠ none; cases v.ownBlock <;> simp)
  | _ => exact .inl rfl
def slotsTo (n : Net) (k : Nat) : List (List Int) := (freeS n).take k ++ List.replicate (n.es.length - k) []
theorem slotsTo_len (n : Net) {k : Nat} (h : k ≤ n.es.length) : (slotsTo n k).length = n.es.length := by
  unfold slotsTo freeS
  simp
  omega
theorem slotsTo_zero (n : Net) : slotsTo n 0 = List.replicate n.es.length [] := by simp [slotsTo]
theorem slotsTo_all (n : Net) : slotsTo n n.es.length = freeS n := by
  unfold slotsTo
  rw [Nat.sub_self, List.take_of_length_le (by simp [freeS])]
  simp
theorem slotsTo_set (n : Net) {k : Nat} {l : Ends} (hl : n.es[k]? = some l) : (slotsTo n k).set k (List.replicate l.length (-1)) = slotsTo n (k + 1) := by
  have hk := (List.getElem?_eq_some_iff.1 hl).1
  have hf : (freeS n)[k]? = some (List.replicate l.length (-1)) := by unfold freeS; rw [List.getElem?_map, hl]; rfl
  have h1 : ((freeS n).take k).length = k := by simp [freeS]; omega
  unfold slotsTo
  rw [take_snoc hf, List.set_append_right _ _ (by omega), h1, Nat.sub_self, show n.es.length - k = (n.es.length - (k + 1)) + 1 by omega, List.replicate_succ, List.set_cons_zero, List.append_assoc]
  rfl
end Go.Proofs.YtehkcodbcnhhoaaGreat
