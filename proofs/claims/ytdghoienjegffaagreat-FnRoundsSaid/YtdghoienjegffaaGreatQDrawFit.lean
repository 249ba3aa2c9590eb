/-
  Networks of small sizes in a box beside the draws' cursor: what a step that writes the network's own blocks leaves. No program in sight, no condition.
-/
import Derived.Test.YtdghoienjegffaaGreatQDrawIds
namespace Go.Proofs.YtdghoienjegffaaGreat
open Go.RowKit
set_option linter.all false
structure Kp (base PR : Nat) (w w' : World) : Prop where
  os : w'.os = w.os
  tape : w'.tape = w.tape
  output : w'.output = w.output
  size : w.heap.size ≤ w'.heap.size
  block : ∀ b, b < base ∨ b = PR → w'.heap[b]? = w.heap[b]?
section
variable {base PR P PB m m' g : Nat} {w w' w'' wr : World} {cv : Value} {Q Q' : Net → Prop} {val : NKey → Value} {n : Net}
theorem Kp.trans (h : Kp base PR w w') (k : Kp base PR w' w'') : Kp base PR w w'' := ⟨k.os.trans h.os, k.tape.trans h.tape, k.output.trans h.output, Nat.le_trans h.size k.size, fun b hb => (k.block b hb).trans (h.block b hb)⟩
theorem Kp.grown {row : Option Nat} (h : w.grownBy w' row) (hr : ∀ g, row = some g → base ≤ g ∧ g ≠ PR) (hb : base ≤ w.heap.size) (hR : PR < w.heap.size) : Kp base PR w w' := ⟨h.os, h.tape, h.output, h.size, fun b hb' => h.block b (by omega) (fun e => by have := hr b e.symm; omega)⟩
theorem Kp.below (h : Below w.heap.size w w') (hb : base ≤ w.heap.size) (hR : PR < w.heap.size) : Kp base PR w w' := ⟨h.os, h.tape, h.output, h.size, fun b hb' => h.block b (by omega)⟩
theorem Kp.cell (hg : base ≤ g) (hne : g ≠ PR) (k : Nat) (v : Value) : Kp base PR w (w.setCell ⟨g, k, none⟩ v) := ⟨rfl, rfl, rfl, by rw [World.size_setCell]; exact Nat.le_refl _, fun b hb => Below.heap_setCell _ _ _ _ (by show b ≠ g; omega)⟩
theorem NAt.step (h : NAt w P PB PR base cv m Q wr) (hn : ∃ n val, Q' n ∧ NetB w' base val n PB) (hk : Kp base PR wr w') : NAt w P PB PR base cv m Q' w' := by
  have hP := h.hP
  exact ⟨h.cur.keep (Nat.le_refl _) fun b hb => hk.block b (.inl (by omega)), hn, (hk.block PR (.inr rfl)).trans h.res, h.bp.trans ⟨hk.os, hk.tape, hk.output, hk.size, fun b hb _ => hk.block b (.inl hb)⟩, hP, h.hB, h.hR, h.hne⟩
theorem NetB.apart (h : NetB wr base val n PB) {c : Array Value} {fz : Nat × Nat} (hres : wr.heap[PR]? = some (.cells c 27 fz)) (j : NKey) (hj : keyN n j) : ∀ g, (val j).ownBlock = some g → base ≤ g ∧ g ≠ PR := fun g e =>
  ⟨((h.k.own j hj).lt g e).1, fun e' => h.k.noTy hj hres no_tyN_net (by rw [e, e'])⟩
theorem NetB.setIn (h : NetB w base val n PB) {g cap : Nat} (hv : val .n = .slice (some ⟨g, 0, none⟩) n.ins.length cap) (k : Nat) (y : Int) : NetB (w.setCell ⟨g, k, none⟩ (.int .i64 y)) base val { n with ins := n.ins.set k y } PB :=
  NetB.of (h.k.setIn hv k y) ((Below.heap_setCell _ _ _ _ (fun e => h.ne .n trivial (by rw [hv]; show some g = some PB; rw [e]))).trans h.box)
theorem NetB.setId (h : NetB w base val n PB) {g cap : Nat} (hv : val .i = .slice (some ⟨g, 0, none⟩) n.ids.length cap) (k : Nat) (y : Int) : NetB (w.setCell ⟨g, k, none⟩ (.int .i64 y)) base val { n with ids := n.ids.set k y } PB :=
  NetB.of (h.k.setId hv k y) ((Below.heap_setCell _ _ _ _ (fun e => h.ne .i trivial (by rw [hv]; show some g = some PB; rw [e]))).trans h.box)
theorem NetB.setOne (h : NetB w base val n PB) {k : Nat} {l l' : Ends} (hl : n.es[k]? = some l) {g cap : Nat} (hv : val (.r k) = .slice (some ⟨g, 0, none⟩) l.length cap) {j : Nat} {u : Value} (hlen : l'.length = l.length) (hc : endCells l' = (endCells l).set j u) :
    NetB (w.setCell ⟨g, j, none⟩ u) base val { n with es := n.es.set k l' } PB := by
  have hk := (List.getElem?_eq_some_iff.1 hl).1
  have e0 : rowN n val (.r k) = ⟨74, 2, l.length, endCells l⟩ := by show (⟨_, _, (rowAt n k).length, _⟩ : RowN) = _; rw [rowAt_eq hl]
  refine NetB.of ((OwnN.set h.k (.r k) hk hv e0 u (j := j)).congr fun j' hj => ⟨by
    cases j' with
    | r i => exact (by simpa [keyN] using hj)
    | _ => exact hj, rfl, ?_⟩) ((Below.heap_setCell _ _ _ _ (fun e => h.ne (.r k) hk (by rw [hv]; show some g = some PB; rw [e]))).trans h.box)
  cases j' with
  | r i =>
    by_cases e : i = k
    · subst e
      rw [updN_same]
      show (⟨_, _, (rowAt { n with es := n.es.set i l' } i).length, endCells (rowAt { n with es := n.es.set i l' } i)⟩ : RowN) = _
      rw [rowAt_set hk, if_pos rfl, hlen, hc]
    · rw [updN_ne _ _ (by simpa using e)]
      show (⟨_, _, (rowAt { n with es := n.es.set k l' } i).length, _⟩ : RowN) = _
      rw [rowAt_set hk, if_neg e]; rfl
  | e => rw [updN_ne _ _ (by simp)]; show (⟨_, _, (n.es.set k _).length, valsN val (n.es.set k _).length⟩ : RowN) = _; rw [List.length_set]; rfl
  | _ => rw [updN_ne _ _ (by simp)]; rfl
theorem NetB.newIds (h : NetB w base val n PB) {v : Value} {xs : List Int} (hg : w.grownBy w' none) (hn : w'.ownsRow base 3 1 v xs.length (xs.map intV)) (hb : v.ownBlock = none ∨ ∃ g, v.ownBlock = some g ∧ w.heap.size ≤ g) : NetB (w'.setCell ⟨PB, 1, none⟩ v) base (updN val .i v) { n with ids := xs } PB := by
  have h1 := NetK.newIds h.k hg hn hb
  have hbx : w'.heap[PB]? = some (.cells #[val .e, val .i, val .n] 27 (0, 0)) := (hg.block PB h.lt (by simp)).trans h.box
  obtain ⟨we, e1, h2, g1⟩ := set1 hbx 1 v
  rw [← e1]
  refine NetB.of (NetK.past h1 hbx no_tyN_net g1) ?_
  rw [h2, updN_same, updN_ne _ _ (by simp), updN_ne _ _ (by simp)]
  rfl
theorem NetB.newIns (h : NetB w base val n PB) {v : Value} {xs : List Int} (hg : w.grownBy w' none) (hn : w'.ownsRow base 3 1 v xs.length (xs.map intV)) (hb : v.ownBlock = none ∨ ∃ g, v.ownBlock = some g ∧ w.heap.size ≤ g) : NetB (w'.setCell ⟨PB, 2, none⟩ v) base (updN val .n v) { n with ins := xs } PB := by
  have h1 := NetK.newIns h.k hg hn hb
  have hbx : w'.heap[PB]? = some (.cells #[val .e, val .i, val .n] 27 (0, 0)) := (hg.block PB h.lt (by simp)).trans h.box
  obtain ⟨we, e1, h2, g1⟩ := set1 hbx 2 v
  rw [← e1]
  refine NetB.of (NetK.past h1 hbx no_tyN_net g1) ?_
  rw [h2, updN_same, updN_ne _ _ (by simp), updN_ne _ _ (by simp)]
  rfl
end
structure FitN (n : Net) (K d : Nat) : Prop where
  es : n.es.length ≤ K
  ids : n.ids.length ≤ K
  ins : n.ins.length ≤ K
  deg : ∀ u, degA n u ≤ d
  i64 : I64N n
section
variable {n : Net} {K K' d d' : Nat}
theorem FitN.more (h : FitN n K d) (hK : K ≤ K') (hd : d ≤ d') : FitN n K' d' := ⟨Nat.le_trans h.es hK, Nat.le_trans h.ids hK, Nat.le_trans h.ins hK, fun u => Nat.le_trans (h.deg u) hd, h.i64⟩
theorem FitN.small (h : FitN n K d) (hK : K ≤ 1000) (hd : d ≤ 1000) : SmallN n := ⟨Nat.le_trans h.es hK, Nat.le_trans h.ids hK, fun l hl => by
  obtain ⟨u, hu, rfl⟩ := rowAt_mem hl
  exact Nat.le_trans (h.deg u) hd, Nat.le_trans h.ins hK⟩
theorem FitN.setIn (h : FitN n K d) (k : Nat) {y : Int} (hy : I64 y) : FitN { n with ins := n.ins.set k y } K d := ⟨h.es, h.ids, by show (n.ins.set k y).length ≤ K; rw [List.length_set]; exact h.ins, h.deg, h.i64.e, h.i64.i, fun x hx => by
  rcases List.mem_or_eq_of_mem_set hx with h1 | h1
  · exact h.i64.n x h1
  · rw [h1]; exact hy⟩
theorem FitN.withIns (h : FitN n K d) {xs : List Int} (hl : xs.length ≤ K) (hx : ∀ x ∈ xs, I64 x) : FitN { n with ins := xs } K d := ⟨h.es, h.ids, hl, h.deg, h.i64.e, h.i64.i, hx⟩
theorem FitN.withIds (h : FitN n K d) {xs : List Int} (hl : xs.length ≤ K) (hx : ∀ x ∈ xs, I64 x) : FitN { n with ids := xs } K d := ⟨h.es, hl, h.ins, h.deg, h.i64.e, hx, h.i64.n⟩
theorem FitN.addIn (h : FitN n K d) (hK : K + 1 ≤ K') {y : Int} (hy : I64 y) : FitN { n with ins := n.ins ++ [y] } K' d :=
  ⟨by have := h.es; show n.es.length ≤ K'; omega, by have := h.ids; show n.ids.length ≤ K'; omega, by have := h.ins; show (n.ins ++ [y]).length ≤ K'; rw [List.length_append, List.length_singleton]; omega, h.deg, h.i64.e, h.i64.i, fun x hx => by
  rcases List.mem_append.1 hx with h1 | h1
  · exact h.i64.n x h1
  · rw [List.mem_singleton.1 h1]; exact hy⟩
theorem FitN.setRow (h : FitN n K d) {k : Nat} (hk : k < n.es.length) {l : Ends} (hl : l.length ≤ d') (hd : d ≤ d') (hi : ∀ e ∈ l, I64 e.1 ∧ I64 e.2) : FitN { n with es := n.es.set k l } K d' :=
  ⟨by show (n.es.set k l).length ≤ K; rw [List.length_set]; exact h.es, h.ids, h.ins, fun u => by
  unfold degA
  rw [rowAt_set hk]
  split
  · exact hl
  · exact Nat.le_trans (h.deg u) hd, fun s hs => by
  rcases List.mem_or_eq_of_mem_set hs with h1 | h1
  · exact h.i64.e s h1
  · rw [h1]; exact hi, h.i64.i, h.i64.n⟩
theorem FitN.addNil (h : FitN n K d) (hK : K + 1 ≤ K') : FitN { n with es := n.es ++ [[]] } K' d :=
  ⟨by have := h.es; show (n.es ++ [[]]).length ≤ K'; rw [List.length_append, List.length_singleton]; omega, by have := h.ids; show n.ids.length ≤ K'; omega, by have := h.ins; show n.ins.length ≤ K'; omega, fun u => by
  by_cases hu : u < n.es.length
  · have e : rowAt { n with es := n.es ++ [[]] } u = rowAt n u := by rw [rowAt_snoc _ _ (by omega), if_neg (by omega)]
    show (rowAt { n with es := n.es ++ [[]] } u).length ≤ d
    rw [e]; exact h.deg u
  · by_cases h2 : u = n.es.length
    · show (rowAt { n with es := n.es ++ [[]] } u).length ≤ d
      rw [h2, rowAt_snoc _ _ (Nat.le_refl _), if_pos rfl]; exact Nat.zero_le _
    · show (rowAt { n with es := n.es ++ [[]] } u).length ≤ d
      rw [rowAt_out (by show (n.es ++ [[]]).length ≤ u; rw [List.length_append, List.length_singleton]; omega)]; exact Nat.zero_le _, fun s hs => by
  rcases List.mem_append.1 hs with h1 | h1
  · exact h.i64.e s h1
  · rw [List.mem_singleton.1 h1]; exact fun _ h => absurd h (by simp), h.i64.i, h.i64.n⟩
theorem FitN.nil (K d : Nat) : FitN ⟨[], [], []⟩ K d := ⟨Nat.zero_le _, Nat.zero_le _, Nat.zero_le _, fun u => Nat.zero_le _, fun _ h => absurd h (by simp), fun _ h => absurd h (by simp), fun _ h => absurd h (by simp)⟩
theorem MadeN.fit {N : Nat} (h : MadeN n N d) (hK : N ≤ K) (hN : K ≤ 1000) (hd : d ≤ 1000) : FitN n K d := ⟨by rw [h.len]; exact hK, by rw [h.ids]; exact Nat.zero_le _, by rw [h.ins]; exact hK, h.deg, h.i64 (by omega) (by omega)⟩
theorem FitN.idd {n' : Net} (h : FitN n K d) (hi : IddN n n') : FitN n' K d := ⟨by rw [hi.es]; exact h.es, by rw [hi.len]; exact h.es, by rw [hi.ins]; exact h.ins, fun u => by
  have e : rowAt n' u = rowAt n u := by unfold rowAt; rw [hi.es]
  show (rowAt n' u).length ≤ d
  rw [e]; exact h.deg u, by rw [hi.es]; exact h.i64.e, fun x hx => by have := hi.ids x hx; exact ⟨by omega, by omega⟩, by rw [hi.ins]; exact h.i64.n⟩
end
end Go.Proofs.YtdghoienjegffaaGreat
