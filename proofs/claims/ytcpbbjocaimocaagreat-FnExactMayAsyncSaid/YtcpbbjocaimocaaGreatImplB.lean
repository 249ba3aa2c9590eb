/-
  Networks, the program's side: whether a network hangs together; stubs and loops; a token ring; which rules run on it.
  Networks, the program's side: the edges, each once; stubs and loops.
  Networks, the program's side: no stubs and no loops; a token ring; which rules run.
  Networks, the program's side: a token ring; what a daemon is; which rules run on a network.
  Networks, the program's side: what a daemon is; which rules run on a network; how many states each node has.
  Networks, the program's side: how many states each node has.
  Networks, the program's side: an explorer of a rule's situations; how many there are.
  Networks, the program's side: whether a list is a situation; its number; the situation of a number.
-/
import Derived.Test.YtcpbbjocaimocaaGreatImplA
namespace Go.Proofs.YtcpbbjocaimocaaGreat
section
open Go.RowKit
set_option linter.unusedVariables false
set_option linter.unusedSimpArgs false
theorem impl_Contains (v : Value) (xs : List Int) (x : Int) (w : World) (h : IntsR w w.heap.size v xs) :
    Calls Tryz.prog 108 #[v, .int .i64 x] w fun e w' => e = .returned (.bool (xs.contains x)) ∧ w = w' := by
  obtain ⟨A, c, rfl, h1, h2, h3⟩ := h.open_
  unfold maxLen at h2
  by_cases h0 : xs.length = 0
  · obtain rfl : xs = [] := List.eq_nil_of_length_eq_zero h0
    refine (Tryz.slices_Contains_int_empty A c x w).mono ?_
    rintro e w' ⟨rfl, rfl⟩
    exact ⟨rfl, rfl⟩
  · obtain ⟨ad, rfl, hb, hc⟩ := h3 (by omega)
    obtain ⟨b, off, rfl, hcc⟩ := ints_cells (by omega) hc
    refine (Tryz.slices_Contains_int b off xs.length c xs x w (Nat.le_refl _) (by omega) hcc).mono ?_
    rintro e w' ⟨rfl, rfl⟩
    rw [List.take_length]
    exact ⟨rfl, rfl⟩
theorem conn_eq (n : Net) : (!decide ((-1 : Int) ∈ far n.es 0)) = connB n := by
  by_cases h : (-1 : Int) ∈ far n.es 0
  · rw [show connB n = false from propB_f fun hc => hc h, decide_eq_true h]
    rfl
  · rw [show connB n = true from propB_t h, decide_eq_false h]
    rfl
end
section
open Go.RowKit
set_option linter.unusedVariables false
set_option linter.unusedSimpArgs false
theorem wpList_appendK {P : Program} (w : World) {ops : Array Oper} {rest : List Oper} {o : Oper} {a : Act} {Q : Exit → Act → World → Prop} (hgd : o.guard = none) (s x : Operand) (t : TypeId)
    (ho : o.op = .call { callee := .builtin .append, args := #[s, x], argTypes := #[t, t] })
    (base : Nat) (e : TypeId) (z : Value) (size bytes : Nat) (ht : P.underlying t = some (.slice e)) (hinf : (P.info? e).map (fun i => (i.zero, i.size, i.bytes)) = some (some z, size, bytes)) (hzs : z.cells.size = size) (hsz : 0 < size)
    (v : Value) (n : Nat) (xs : List Value) (hs : a.eval s = v) (us : List Value) (hlu : us.length = size) (hu : ∀ u ∈ us, u.oneCell' = true) (hx : a.eval x = .slice (some ⟨w.heap.size, 0, none⟩) 1 1)
    (hown : w.ownsRow base e size v n xs) (h63 : n + 1 ≤ maxLen) (hbytes : (n + 1) * bytes ≤ 140737488355328) (hbase : base ≤ w.heap.size)
    (h : ∀ v' w', w'.ownsRow base e size v' (n + 1) (xs ++ us) → Below base w w' → w.grownBy w' v.ownBlock → w.heap.size < w'.heap.size → (v'.ownBlock = v.ownBlock ∨ ∃ g, v'.ownBlock = some g ∧ w.heap.size ≤ g ∧ g < w'.heap.size) → wpList P ops Q rest (a.put o.dst v') w') :
    wpList P ops Q (o :: rest) a (w.alloc (.cells us.toArray e)) := by
  obtain ⟨i, hi, hz0, hz1, hz2⟩ := info_parts hinf
  have hown1 := hown.alloc (.cells us.toArray e)
  have hnews : ∀ j u', us[j]? = some u' → (w.alloc (.cells us.toArray e)).cell? ((⟨w.heap.size, 0, none⟩ : Addr).add j) = some u' := by
    intro j u' hj
    rw [show (⟨w.heap.size, 0, none⟩ : Addr).add j = ⟨w.heap.size, j, none⟩ by unfold Addr.add; split <;> simp_all, World.cell?_alloc_at _ _ _ _ rfl]
    simpa using hj
  obtain ⟨v', w', hrun, h2, h3, _, h5⟩ := run_append_own_at (P := P) (w.alloc (.cells us.toArray e)) base t o.type e i z size bytes ht hi hz0 hz1 hz2 hzs hsz v n xs hown1 ⟨w.heap.size, 0, none⟩ 1 1 us (by rw [hlu]; omega) hnews hu h63 hbytes (by simp; omega)
  have hg : w.grownBy w' v.ownBlock := by
    have h0 := World.grownBy_alloc w (.cells us.toArray e) v.ownBlock
    exact ⟨h3.os.trans h0.os, h3.tape.trans h0.tape, h3.output.trans h0.output, Nat.le_trans h0.size h3.size, fun k hk hne => (h3.block k (Nat.lt_of_lt_of_le hk h0.size) hne).trans (h0.block k hk hne)⟩
  have hsz' : w.heap.size < w'.heap.size := by have := h3.size; simp at this; omega
  have hB : Below base w w' := (Below.refl base w).grown hg hbase (fun k hk => (hown.lt k hk).1)
  refine wpList_plain hgd fun K hK => ?_
  unfold Oper.wp execOp
  simp only [ho, resolve, invoke, builtin, Sem.run_bind, Sem.run_pure, Result.andThen_ok, List.map_toArray, List.map_cons, List.map_nil, hs, hx, hrun]
  refine hK _ _ (h v' w' h2 hB hg hsz' ?_)
  rcases h5 with h5 | h5
  · exact .inl h5
  · refine .inr ⟨_, h5, by simp, ?_⟩
    exact (h2.lt _ h5).2
theorem own_mono {w : World} {base base' : Nat} {e : TypeId} {size : Nat} {v : Value} {n : Nat} {xs : List Value} (h : w.ownsRow base e size v n xs) (hb : base' ≤ base) : w.ownsRow base' e size v n xs :=
  ⟨h.1, h.2.imp id fun ⟨g, cap, cur, h1, h2, h3⟩ => ⟨g, cap, cur, h1, Nat.le_trans hb h2, h3⟩⟩
theorem own_keep4 {w w' : World} {base n size : Nat} {e : TypeId} {v : Value} {vs : List Value} (h : w.ownsRow base e size v n vs) (hs : w.heap.size ≤ w'.heap.size) (hk : ∀ b, base ≤ b → b < w.heap.size → w'.heap[b]? = w.heap[b]?) : w'.ownsRow base e size v n vs := by
  refine ⟨h.1, ?_⟩
  have hlt := h.lt
  rcases h.2 with h2 | ⟨g, cap, cur, rfl, hb, hg, r⟩
  · exact .inl h2
  · exact .inr ⟨g, cap, cur, rfl, hb, (hk g hb (hlt g rfl).2).trans hg, r⟩
abbrev Edge := Int × Int × Int × Int
def edC (x : Edge) : List Value := [.int .i64 x.1, .int .i64 x.2.1, .int .i64 x.2.2.1, .int .i64 x.2.2.2]
def edCells (E : List Edge) : List Value := E.flatMap edC
theorem edCells_snoc (E : List Edge) (x : Edge) : edCells (E ++ [x]) = edCells E ++ edC x := by
  unfold edCells
  rw [List.flatMap_append]
  simp
/-- An edge is listed from its lesser side. -/
def edOk (v i : Nat) (e : Int × Int) : Prop := (v : Int) < e.1 ∨ (v : Int) = e.1 ∧ (i : Int) ≤ e.2
def EdOf (n : Net) (x : Edge) : Prop := ∃ (v : Nat) (l : Ends) (i : Nat) (e : Int × Int), n.es[v]? = some l ∧ l[i]? = some e ∧ edOk v i e ∧ x = ((v : Int), (i : Int), e.1, e.2)
/-- The edges of the nodes before k, and of the first j ends of node k. -/
def EdTo (n : Net) (k j : Nat) (E : List Edge) : Prop :=
  (∀ x ∈ E, EdOf n x) ∧ (∀ (v : Nat) (l : Ends) (i : Nat) (e : Int × Int), (v < k ∨ v = k ∧ i < j) → n.es[v]? = some l → l[i]? = some e → edOk v i e → ((v : Int), (i : Int), e.1, e.2) ∈ E) ∧ E.length ≤ 6 * k + j
theorem EdTo.start (n : Net) : EdTo n 0 0 [] := ⟨fun _ h => absurd h (by simp), fun v l i e h => by omega, Nat.le_refl _⟩
theorem EdTo.yes {n : Net} {k j : Nat} {E : List Edge} {l : Ends} {e : Int × Int} (h : EdTo n k j E) (hl : n.es[k]? = some l) (he : l[j]? = some e) (ho : edOk k j e) : EdTo n k (j + 1) (E ++ [((k : Int), (j : Int), e.1, e.2)]) := by
  obtain ⟨h1, h2, h3⟩ := h
  refine ⟨fun x hx => ?_, fun v l' i e' hc hl' he' ho' => ?_, by simp; omega⟩
  · rcases List.mem_append.1 hx with hx | hx
    · exact h1 x hx
    · rw [List.mem_singleton] at hx
      exact ⟨k, l, j, e, hl, he, ho, hx⟩
  · by_cases hvj : v = k ∧ i = j
    · obtain ⟨rfl, rfl⟩ := hvj
      obtain rfl := Option.some.inj (hl.symm.trans hl')
      obtain rfl := Option.some.inj (he.symm.trans he')
      exact List.mem_append.2 (.inr (by simp))
    · exact List.mem_append.2 (.inl (h2 v l' i e' (by omega) hl' he' ho'))
theorem EdTo.no {n : Net} {k j : Nat} {E : List Edge} {l : Ends} {e : Int × Int} (h : EdTo n k j E) (hl : n.es[k]? = some l) (he : l[j]? = some e) (ho : ¬ edOk k j e) : EdTo n k (j + 1) E := by
  obtain ⟨h1, h2, h3⟩ := h
  refine ⟨h1, fun v l' i e' hc hl' he' ho' => ?_, by omega⟩
  by_cases hvj : v = k ∧ i = j
  · obtain ⟨rfl, rfl⟩ := hvj
    obtain rfl := Option.some.inj (hl.symm.trans hl')
    obtain rfl := Option.some.inj (he.symm.trans he')
    exact absurd ho' ho
  · exact h2 v l' i e' (by omega) hl' he' ho'
theorem EdTo.row {n : Net} {k j : Nat} {E : List Edge} {l : Ends} (h : EdTo n k j E) (hl : n.es[k]? = some l) (hj : l.length ≤ j) (hj6 : j ≤ 6) : EdTo n (k + 1) 0 E := by
  obtain ⟨h1, h2, h3⟩ := h
  refine ⟨h1, fun v l' i e' hc hl' he' ho' => ?_, by omega⟩
  by_cases hv : v = k
  · subst hv
    obtain rfl := Option.some.inj (hl.symm.trans hl')
    exact h2 v l i e' (.inr ⟨rfl, by have := (List.getElem?_eq_some_iff.1 he').1; omega⟩) hl he' ho'
  · exact h2 v l' i e' (by omega) hl' he' ho'
/-- All edges, each once. -/
def EdAll (n : Net) (E : List Edge) : Prop := ∃ k, n.es.length ≤ k ∧ EdTo n k 0 E
theorem EdAll.loop {n : Net} {E : List Edge} (h : EdAll n E) (hp : netP n) : (∃ x ∈ E, x.1 = x.2.2.1) ↔ ¬ plainP n := by
  obtain ⟨k, hk, h1, h2, -⟩ := h
  rw [← edge_loop hp]
  constructor
  · rintro ⟨x, hx, hq⟩
    obtain ⟨v, l, i, e, hl, he, ho, rfl⟩ := h1 x hx
    exact ⟨v, l, hl, i, e, he, ho, hq⟩
  · rintro ⟨v, l, hl, i, e, he, ho, hq⟩
    exact ⟨_, h2 v l i e (.inl (by have := (List.getElem?_eq_some_iff.1 hl).1; omega)) hl he ho, hq⟩
end
section
open Go.RowKit
set_option linter.unusedVariables false
set_option linter.unusedSimpArgs false
/-- Where the cells of a row of edges lie. -/
theorem edge_at {E : List Edge} {k : Nat} {x : Edge} (h : E[k]? = some x) : (edCells E)[k * 4]? = some (.int .i64 x.1) ∧ (edCells E)[k * 4 + 1]? = some (.int .i64 x.2.1) ∧ (edCells E)[k * 4 + 2]? = some (.int .i64 x.2.2.1) ∧ (edCells E)[k * 4 + 3]? = some (.int .i64 x.2.2.2) := by
  induction E generalizing k with
  | nil => simp at h
  | cons y r ih =>
    rcases k with _ | k
    · simp only [List.getElem?_cons_zero, Option.some.injEq] at h
      subst h
      exact ⟨rfl, rfl, rfl, rfl⟩
    · have := ih (k := k) h
      have e : edCells (y :: r) = edC y ++ edCells r := rfl
      rw [e]
      have hl : (edC y).length = 4 := rfl
      rw [List.getElem?_append_right (by rw [hl]; omega), List.getElem?_append_right (by rw [hl]; omega), List.getElem?_append_right (by rw [hl]; omega), List.getElem?_append_right (by rw [hl]; omega), hl]
      rw [show (k + 1) * 4 - 4 = k * 4 by omega, show (k + 1) * 4 + 1 - 4 = k * 4 + 1 by omega, show (k + 1) * 4 + 2 - 4 = k * 4 + 2 by omega, show (k + 1) * 4 + 3 - 4 = k * 4 + 3 by omega]
      exact this
/-- None of the first k ends where it starts. -/
def NoLoopTo (E : List Edge) (k : Nat) : Prop := ∀ (j : Nat) (x : Edge), j < k → E[j]? = some x → x.1 ≠ x.2.2.1
theorem NoLoopTo.next {E : List Edge} {k : Nat} {x : Edge} (h : NoLoopTo E k) (hx : E[k]? = some x) (hn : x.1 ≠ x.2.2.1) : NoLoopTo E (k + 1) := fun j y hj hy => by
  by_cases e : j = k
  · subst e
    obtain rfl := Option.some.inj (hx.symm.trans hy)
    exact hn
  · exact h j y (by omega) hy
noncomputable def loopB (E : List Edge) : Bool := propB (∃ x ∈ E, x.1 = x.2.2.1)
theorem NoLoopTo.fin {E : List Edge} {k : Nat} (h : NoLoopTo E k) (hk : E.length ≤ k) : loopB E = false := propB_f fun ⟨x, hx, e⟩ => by
  obtain ⟨j, hj⟩ := List.mem_iff_getElem?.1 hx
  exact h j x (by have := (List.getElem?_eq_some_iff.1 hj).1; omega) hj e
def LpRel (E : List Edge) (w : World) (i : Value) (wr : World) : Prop := Below w.heap.size w wr ∧ ∃ k : Nat, k ≤ E.length ∧ i = .int .i64 k ∧ NoLoopTo E k
def LpIdx (E : List Edge) (w : World) (e : Ending) (w' : World) : Prop := ∃ i : Int, e = .returned (.int .i64 i) ∧ -1 ≤ i ∧ i ≤ E.length ∧ decide (0 ≤ i) = loopB E ∧ Below w.heap.size w w'
theorem loop_plain {n : Net} {E : List Edge} (h : EdAll n E) (hp : netP n) : loopB E = !plainB n := by
  by_cases hq : plainP n
  · rw [show plainB n = true from propB_t hq]
    exact propB_f fun hl => (h.loop hp).1 hl hq
  · rw [show plainB n = false from propB_f hq]
    exact propB_t ((h.loop hp).2 hq)
end
section
open Go.RowKit
set_option linter.unusedVariables false
set_option linter.unusedSimpArgs false
noncomputable def rowB (l : Ends) : Bool := propB (rowOk l)
noncomputable def rowsB (n : Net) : Bool := propB (∀ l ∈ n.es, rowOk l)
theorem RingTo.fin {n : Net} {k : Nat} (h : RingTo n k) (hk : n.es.length ≤ k) : rowsB n = true := propB_t fun l hl => by
  obtain ⟨j, hj⟩ := List.mem_iff_getElem?.1 hl
  exact h j l (by have := (List.getElem?_eq_some_iff.1 hj).1; omega) hj
def RxRel (n : Net) (w : World) (i : Value) (wr : World) : Prop := w = wr ∧ ∃ k : Nat, k ≤ n.es.length ∧ i = .int .i64 k ∧ RingTo n k
def RgIdx (n : Net) (w : World) (e : Ending) (w' : World) : Prop := ∃ i : Int, e = .returned (.int .i64 i) ∧ -1 ≤ i ∧ i ≤ n.es.length ∧ decide (0 ≤ i) = (!rowsB n) ∧ w = w'
theorem ring_f {n : Net} (h : ¬ (2 ≤ n.es.length ∧ connP n ∧ onesN n.ins = 1)) : ringB n = false := propB_f fun hp => h ⟨hp.1, hp.2.1, hp.2.2.1⟩
theorem ring_all {n : Net} (h1 : 2 ≤ n.es.length) (h2 : connB n = true) (h3 : onesN n.ins = 1) : ringB n = rowsB n := propB_congr ⟨fun hp => hp.2.2.2, fun hp => ⟨h1, propB_iff.1 h2, h3, hp⟩⟩
end
section
open Go.RowKit
set_option linter.unusedVariables false
set_option linter.unusedSimpArgs false
end
section
open Go.RowKit
set_option linter.unusedVariables false
set_option linter.unusedSimpArgs false
theorem most_max (l : List Int) (a : Int) : l.foldl (fun a x => if a > x then a else x) a = l.foldl max a := by
  have e : (fun a x : Int => if a > x then a else x) = max := by
    funext a x
    by_cases h : a > x
    · rw [if_pos h]; omega
    · rw [if_neg h]; omega
  rw [e]
theorem maxOf_most {l : List Int} (h0 : 0 < l.length) (h : ∀ x ∈ l, 0 ≤ x) : Lib.maxOf l = most l := by
  cases l with
  | nil => simp at h0
  | cons y r =>
    unfold Lib.maxOf most
    rw [most_max]
    simp only [List.headD_cons, List.foldl_cons]
    have := h y (by simp)
    rw [show max y y = y by omega, show max 0 y = y by omega]
theorem impl_Max (v : Value) (xs : List Int) (w : World) (h : IntsR w w.heap.size v xs) (h0 : 0 < xs.length) (hn : ∀ x ∈ xs, 0 ≤ x) :
    Calls Tryz.prog 90 #[v] w fun e w' => e = .returned (.int .i64 (most xs)) ∧ w = w' := by
  obtain ⟨A, c, rfl, h1, h2, h3⟩ := h.open_
  unfold maxLen at h2
  obtain ⟨ad, rfl, hb, hc⟩ := h3 h0
  obtain ⟨b, off, rfl, hcc⟩ := ints_cells h0 hc
  refine (Tryz.slices_Max_int b off xs.length c xs w h0 (Nat.le_refl _) (by omega) hcc).mono ?_
  rintro e w' ⟨rfl, rfl⟩
  rw [List.take_length, maxOf_most h0 hn]
  exact ⟨rfl, rfl⟩
theorem rep_ints {w : World} {g k : Nat} {x : Int} (h : NumsAt w g (List.replicate k x)) (hk : k ≤ 1000) (hx : I64 x) : IntsR w w.heap.size (.slice (some ⟨g, 0, none⟩) k k) (List.replicate k x) := by
  have := ints_row (B := w.heap.size) h (by unfold maxLen; simp; omega) (fun y hy => by rw [List.eq_of_mem_replicate hy]; exact hx) h.lt
  simpa using this
theorem impl_Repeat1 (x : Int) (k g : Nat) (w : World) (hg : w.heap.size = g) (hk : 1 ≤ k) (hk2 : k ≤ 1000) (hx : I64 x) :
    Calls Tryz.prog 120 #[.slice (some ⟨g, 0, none⟩) 1 1, .int .i64 (k : Int)] (w.alloc (.cells #[.int .i64 x] 3)) fun e w' => e = .returned (.slice (some ⟨g + 1, 0, none⟩) k k) ∧ IntsR w' w'.heap.size (.slice (some ⟨g + 1, 0, none⟩) k k) (List.replicate k x) ∧ Below w.heap.size w w' := by
  subst hg
  have hsz : (w.alloc (.cells #[.int .i64 x] 3)).heap.size = w.heap.size + 1 := by simp
  refine (impl_Repeat x k w.heap.size _ (heap_alloc_new w _) hk (by omega)).mono ?_
  rintro e w3 ⟨rfl, hnum, hb⟩
  have hI := rep_ints hnum hk2 hx
  have hB := (bl_alloc (Below.refl w.heap.size w) (.cells #[.int .i64 x] 3)).trans (hb.mono (by rw [show (w.alloc (.cells (List.map intV [x]).toArray 3)).heap.size = w.heap.size + 1 from hsz]; omega))
  rw [show (w.alloc (.cells (List.map intV [x]).toArray 3)).heap.size = w.heap.size + 1 from hsz] at hI ⊢
  exact ⟨rfl, hI, hB⟩
def CntPost (n : Net) (r : Int) (w : World) (e : Ending) (w' : World) : Prop := ∃ u, e = .returned u ∧ (∃ A m c, u = .slice A m c) ∧ IntsR w' w'.heap.size u (cnts n r) ∧ Below w.heap.size w w'
theorem cnts2 (n : Net) : cnts n 2 = List.replicate n.es.length (most (degs n) + 1) := if_pos rfl
theorem cnts3 (n : Net) : cnts n 3 = List.replicate n.es.length 2 := rfl
theorem cnts4 (n : Net) : cnts n 4 = (degs n).map (· + 1) := rfl
theorem cnts_else {n : Net} {r : Int} (h2 : r ≠ 2) (h3 : r ≠ 3) (h4 : r ≠ 4) : cnts n r = List.replicate n.es.length ((n.es.length : Int) + 1) := by
  unfold cnts
  rw [if_neg h2, if_neg h3, if_neg h4]
end
section
open Go.RowKit
set_option linter.unusedVariables false
set_option linter.unusedSimpArgs false
theorem sit_eq {n : Net} {r : Int} (h : askB n r = true) : sitG (cnts n r) 1 = if capd (cnts n r) ≤ 3000 then capd (cnts n r) else 0 :=
  sit_cap (fun x hx => (cnts_bd (askB_net h) r x hx).1) (by omega) (by omega)
theorem cv_pos {n : Net} {r : Int} (h : askB n r = true) : cvB n r = decide (0 < sitG (cnts n r) 1) := by
  have hb := capd_bd fun x hx => (cnts_bd (askB_net h) r x hx).1
  rw [sit_eq h]
  unfold cvB
  rw [h]
  by_cases hc : capd (cnts n r) ≤ 3000
  · rw [if_pos hc, decide_eq_true hc, decide_eq_true (by omega)]
    rfl
  · rw [if_neg hc, decide_eq_false hc]
    rfl
theorem cv_no {n : Net} {r : Int} (h : askB n r = false) : cvB n r = false := by
  unfold cvB
  rw [h]
  rfl
theorem ct_sit {n : Net} {r : Int} (h : cvB n r = true) : ctN n r = sitG (cnts n r) 1 := by
  rw [ctN_t h]
  have ha : askB n r = true := by
    unfold cvB at h
    exact (Bool.and_eq_true_iff.1 h).1
  have hc : capd (cnts n r) ≤ 3000 := by
    unfold cvB at h
    exact of_decide_eq_true (Bool.and_eq_true_iff.1 h).2
  rw [sit_eq ha, if_pos hc]
end
section
open Go.RowKit
set_option linter.unusedVariables false
set_option linter.unusedSimpArgs false
theorem so_cv {n : Net} {r x : Int} (h : cvB n r = true) : soB n r x = inB x 0 (sitG (cnts n r) 1 - 1) := by
  have ha : askB n r = true := by
    unfold cvB at h
    exact (Bool.and_eq_true_iff.1 h).1
  unfold soB
  rw [h, ← ct_sit h, ctN_t h]
  rfl
def SnPost (n : Net) (r x : Int) (w : World) (e : Ending) (w' : World) : Prop :=
  ∃ u, e = .returned (.tuple #[u, .bool (soB n r x)]) ∧ (∃ A m c, u = .slice A m c) ∧ IntsR w' w'.heap.size u (soL n r x) ∧ w'.ownsRow w.heap.size 3 1 u (soL n r x).length ((soL n r x).map intV) ∧ Below w.heap.size w w'
end
end Go.Proofs.YtcpbbjocaimocaaGreat
