/-
  Networks: what a network is, distances from a node, rules and counts of states: the plain law, with no program in sight. No condition.
-/
import Derived.Test.YtcpbbjocaimocaaGreatKit
namespace Go.Proofs.YtcpbbjocaimocaaGreat
set_option linter.unusedVariables false
set_option linter.unusedSimpArgs false

structure Net where
  es : List (List (Int × Int))
  ids : List Int
  ins : List Int
def endOk (es : List (List (Int × Int))) (v i : Nat) (e : Int × Int) : Prop :=
  0 ≤ e.1 ∧ 0 ≤ e.2 ∧ ∃ l, es[e.1.toNat]? = some l ∧ l[e.2.toNat]? = some ((v : Int), (i : Int))
def nodeOk (es : List (List (Int × Int))) (v : Nat) (l : List (Int × Int)) : Prop := l.length ≤ 6 ∧ ∀ i e, l[i]? = some e → endOk es v i e
def idsP (ids : List Int) (k : Nat) : Prop := (∀ x ∈ ids, 1 ≤ x ∧ x ≤ 999999) ∧ ids.Nodup ∧ (ids = [] ∨ ids.length = k)
def netP (n : Net) : Prop := (1 ≤ n.es.length ∧ n.es.length ≤ 40) ∧ idsP n.ids n.es.length ∧ n.ins.length = n.es.length ∧ (∀ x ∈ n.ins, 0 ≤ x ∧ x ≤ 9) ∧ ∀ v l, n.es[v]? = some l → nodeOk n.es v l
noncomputable def netB (n : Net) : Bool := propB (netP n)
/-- No stubs and no loops. -/
def plainP (n : Net) : Prop := ∀ (v : Nat) (l : List (Int × Int)), n.es[v]? = some l → ∀ e ∈ l, e.1 ≠ (v : Int)
noncomputable def plainB (n : Net) : Bool := propB (plainP n)

/-! ### Distances from a node -/
/-- One node's ends: who has no distance yet gets one. -/
def visit (w : Nat) : List (Int × Int) → List Int × List Int → List Int × List Int
  | [], s => s
  | e :: r, s => if s.1.getD e.1.toNat 0 < 0 then visit w r (s.1.set e.1.toNat (s.1.getD w 0 + 1), s.2 ++ [e.1]) else visit w r s
def bfs (es : List (List (Int × Int))) : Nat → List Int → List Int → List Int
  | 0, d, _ => d
  | _ + 1, d, [] => d
  | f + 1, d, w :: q => bfs es f (visit w.toNat (es.getD w.toNat []) (d, q)).1 (visit w.toNat (es.getD w.toNat []) (d, q)).2
/-- How many have no distance. -/
def neg (d : List Int) : Nat := d.countP (· < 0)
/-- What a search knows: k nodes; distances are -1 or below the number of nodes that have one; the queue's nodes have one. -/
def DistOk (k : Nat) (d q : List Int) : Prop := d.length = k ∧ (∀ x ∈ d, x = -1 ∨ (0 ≤ x ∧ x + neg d < k)) ∧ ∀ w ∈ q, 0 ≤ w ∧ ∃ x, d[w.toNat]? = some x ∧ 0 ≤ x
theorem neg_set {d : List Int} {j : Nat} {x y : Int} (h : d[j]? = some y) (hy : y < 0) (hx : 0 ≤ x) : neg (d.set j x) + 1 = neg d := by
  induction d generalizing j with
  | nil => simp at h
  | cons a r ih =>
    cases j with
    | zero =>
      simp only [List.getElem?_cons_zero, Option.some.injEq] at h
      subst h
      simp only [List.set_cons_zero, neg, List.countP_cons, decide_eq_true hy, decide_eq_false (show ¬ x < 0 by omega)]
      simp
    | succ j =>
      simp only [List.getElem?_cons_succ] at h
      have := ih h
      simp only [List.set_cons_succ, neg, List.countP_cons] at this ⊢
      omega
theorem neg_pos {d : List Int} {j : Nat} {y : Int} (h : d[j]? = some y) (hy : y < 0) : 0 < neg d := by
  unfold neg
  exact List.countP_pos_iff.2 ⟨y, List.mem_of_getElem? h, by simpa using hy⟩
theorem neg_le (d : List Int) : neg d ≤ d.length := List.countP_le_length
theorem mem_set {d : List Int} {j : Nat} {x y : Int} (h : y ∈ d.set j x) : y = x ∨ y ∈ d := by
  rcases List.mem_or_eq_of_mem_set h with h | h
  · exact .inr h
  · exact .inl h
theorem DistOk.step {k : Nat} {d q : List Int} {w : Nat} {x : Int} {e : Int} (h : DistOk k d q) (hw : d[w]? = some x) (hx : 0 ≤ x) (he0 : 0 ≤ e) (he : ∃ y, d[e.toNat]? = some y ∧ y < 0) :
    DistOk k (d.set e.toNat (x + 1)) (q ++ [e]) ∧ (d.set e.toNat (x + 1))[w]? = some x ∧ neg (d.set e.toNat (x + 1)) + 1 = neg d := by
  obtain ⟨h1, h2, h3⟩ := h
  obtain ⟨y, hy, hy0⟩ := he
  have hn := neg_set (x := x + 1) hy hy0 (by omega)
  have hne : e.toNat ≠ w := by
    rintro rfl
    have := Option.some.inj (hy.symm.trans hw)
    omega
  have hxk := h2 x (List.mem_of_getElem? hw)
  have hel : e.toNat < d.length := (List.getElem?_eq_some_iff.1 hy).1
  refine ⟨⟨by rw [List.length_set]; exact h1, fun z hz => ?_, fun z hz => ?_⟩, by rw [List.getElem?_set_ne hne]; exact hw, hn⟩
  · rcases mem_set hz with rfl | hz
    · right; omega
    · rcases h2 z hz with h | h
      · exact .inl h
      · right; omega
  · rcases List.mem_append.1 hz with hz | hz
    · obtain ⟨z0, u, hu, hu0⟩ := h3 z hz
      refine ⟨z0, u, ?_, hu0⟩
      rw [List.getElem?_set_ne]
      · exact hu
      · intro e1
        rw [← e1] at hu
        have := Option.some.inj (hy.symm.trans hu)
        omega
    · rw [List.mem_singleton] at hz
      subst hz
      exact ⟨he0, x + 1, by rw [List.getElem?_set_self hel], by omega⟩
theorem visit_ok {k : Nat} {w : Nat} : ∀ (l : List (Int × Int)) {d q : List Int} {x : Int}, DistOk k d q → d[w]? = some x → 0 ≤ x → (∀ e ∈ l, 0 ≤ e.1 ∧ e.1.toNat < k) →
    DistOk k (visit w l (d, q)).1 (visit w l (d, q)).2 ∧ neg (visit w l (d, q)).1 + (visit w l (d, q)).2.length = neg d + q.length
  | [], d, q, x, h, _, _, _ => ⟨h, rfl⟩
  | e :: r, d, q, x, h, hw, hx, hl => by
    obtain ⟨e0, e1⟩ := hl e (by simp)
    unfold visit
    have hel : e.1.toNat < d.length := by rw [h.1]; exact e1
    have hg : d.getD e.1.toNat 0 = d[e.1.toNat] := by simp [List.getD, List.getElem?_eq_getElem hel]
    by_cases hc : d.getD e.1.toNat 0 < 0
    · rw [if_pos hc]
      have hgw : d.getD w 0 = x := by simp [List.getD, hw]
      obtain ⟨k1, k2, k3⟩ := h.step hw hx e0 ⟨_, List.getElem?_eq_getElem hel, by rw [← hg]; exact hc⟩
      obtain ⟨m1, m2⟩ := visit_ok r k1 k2 hx fun e' he' => hl e' (by simp [he'])
      simp only [hgw]
      refine ⟨m1, ?_⟩
      rw [m2, List.length_append, List.length_singleton]
      omega
    · rw [if_neg hc]
      exact visit_ok r h hw hx fun e' he' => hl e' (by simp [he'])
/-- All ends lead to nodes. -/
def EndsIn (es : List (List (Int × Int))) : Prop := ∀ l ∈ es, ∀ e ∈ l, 0 ≤ e.1 ∧ e.1.toNat < es.length
theorem netP.endsIn {n : Net} (h : netP n) : EndsIn n.es := fun l hl e he => by
  obtain ⟨v, hv⟩ := List.mem_iff_getElem?.1 hl
  obtain ⟨i, hi⟩ := List.mem_iff_getElem?.1 he
  obtain ⟨h0, h1, m, hm, _⟩ := (h.2.2.2.2 v l hv).2 i e hi
  exact ⟨h0, (List.getElem?_eq_some_iff.1 hm).1⟩
theorem bfs_step {es : List (List (Int × Int))} {d q : List Int} {w : Int} (hes : EndsIn es) (h : DistOk es.length d (w :: q)) :
    DistOk es.length (visit w.toNat (es.getD w.toNat []) (d, q)).1 (visit w.toNat (es.getD w.toNat []) (d, q)).2 ∧
    neg (visit w.toNat (es.getD w.toNat []) (d, q)).1 + (visit w.toNat (es.getD w.toNat []) (d, q)).2.length + 1 = neg d + (w :: q).length := by
  obtain ⟨w0, x, hx, hx0⟩ := h.2.2 w (by simp)
  have hwl : w.toNat < es.length := by rw [← h.1]; exact (List.getElem?_eq_some_iff.1 hx).1
  have hm : es.getD w.toNat [] ∈ es := by simp [List.getD, List.getElem?_eq_getElem hwl]
  obtain ⟨k1, k2⟩ := visit_ok (es.getD w.toNat []) (q := q) ⟨h.1, h.2.1, fun z hz => h.2.2 z (by simp [hz])⟩ hx hx0 (hes _ hm)
  refine ⟨k1, ?_⟩
  rw [k2, List.length_cons]
  omega
/-- What the loop over the queue knows: D is what comes out in the end. -/
def Bfs (es : List (List (Int × Int))) (D d q : List Int) : Prop := ∃ f, bfs es f d q = D ∧ neg d + q.length ≤ f ∧ DistOk es.length d q
theorem Bfs.fin {es : List (List (Int × Int))} {D d : List Int} (h : Bfs es D d []) : D = d ∧ DistOk es.length d [] := by
  obtain ⟨f, h1, _, h3⟩ := h
  refine ⟨?_, h3⟩
  rw [← h1]
  cases f <;> rfl
theorem Bfs.step {es : List (List (Int × Int))} {D d q : List Int} {w : Int} (hes : EndsIn es) (h : Bfs es D d (w :: q)) :
    Bfs es D (visit w.toNat (es.getD w.toNat []) (d, q)).1 (visit w.toNat (es.getD w.toNat []) (d, q)).2 := by
  obtain ⟨f, h1, h2, h3⟩ := h
  obtain ⟨k1, k2⟩ := bfs_step hes h3
  cases f with
  | zero => simp at h2
  | succ f => exact ⟨f, h1, by omega, k1⟩
def far (es : List (List (Int × Int))) (v : Nat) : List Int := bfs es es.length ((List.replicate es.length (-1)).set v 0) [(v : Int)]
theorem far_start {es : List (List (Int × Int))} {v : Nat} (hv : v < es.length) : Bfs es (far es v) ((List.replicate es.length (-1)).set v 0) [(v : Int)] := by
  have hn : neg (List.replicate es.length (-1 : Int)) = es.length := by
    unfold neg
    rw [List.countP_replicate]
    simp
  have h1 := neg_set (d := List.replicate es.length (-1 : Int)) (j := v) (x := 0) (y := -1) (by simp [List.getElem?_replicate, hv]) (by omega) (by omega)
  refine ⟨es.length, rfl, by simp; omega, by simp, fun x hx => ?_, fun w hw => ?_⟩
  · rcases mem_set hx with rfl | hx
    · right; omega
    · left; exact (List.mem_replicate.1 hx).2
  · rw [List.mem_singleton] at hw
    subst hw
    exact ⟨by omega, 0, by simp [hv], by omega⟩
theorem bfs_ok {es : List (List (Int × Int))} (hes : EndsIn es) : ∀ (f : Nat) (d q : List Int), DistOk es.length d q → DistOk es.length (bfs es f d q) []
  | 0, d, q, h => ⟨h.1, h.2.1, fun _ hw => by cases hw⟩
  | _ + 1, d, [], h => h
  | f + 1, d, w :: q, h => bfs_ok hes f _ _ (bfs_step hes h).1
theorem far_ok {es : List (List (Int × Int))} {v : Nat} (hes : EndsIn es) (hv : v < es.length) : (far es v).length = es.length ∧ ∀ x ∈ far es v, x = -1 ∨ (0 ≤ x ∧ x < es.length) := by
  obtain ⟨f, h1, h2, h3⟩ := far_start hv
  have := bfs_ok hes f _ _ h3
  rw [h1] at this
  exact ⟨this.1, fun x hx => by rcases this.2.1 x hx with h | h; exact .inl h; right; omega⟩
def connP (n : Net) : Prop := (-1 : Int) ∉ far n.es 0
noncomputable def connB (n : Net) : Bool := propB (connP n)
theorem conn_all {n : Net} (h : netP n) : connP n ↔ ∀ x ∈ far n.es 0, 0 ≤ x ∧ x ≤ 40 := by
  obtain ⟨h1, h2⟩ := far_ok h.endsIn (v := 0) (by have := h.1.1; omega)
  have h40 := h.1.2
  constructor
  · intro hc x hx
    rcases h2 x hx with rfl | h
    · exact absurd hx hc
    · omega
  · intro ha hm
    have := ha _ hm
    omega

/-! ### Rules and counts -/
def onesN (l : List Int) : Nat := l.countP (· == 1)
/-- A ring with one node with the input 1. -/
def ringP (n : Net) : Prop := 2 ≤ n.es.length ∧ connP n ∧ onesN n.ins = 1 ∧ ∀ l ∈ n.es, l.length = 2 ∧ ∃ e, l[0]? = some e ∧ e.2 = 1
noncomputable def ringB (n : Net) : Bool := propB (ringP n)
def runsP (n : Net) (r : Int) : Prop := plainP n ∧ (r = 5 → ringP n)
def askP (n : Net) (r : Int) : Prop := netP n ∧ (1 ≤ r ∧ r ≤ 5) ∧ runsP n r
noncomputable def askB (n : Net) (r : Int) : Bool := propB (askP n r)
def degs (n : Net) : List Int := n.es.map fun l => (l.length : Int)
def most (l : List Int) : Int := l.foldl (fun a x => if a > x then a else x) 0
def cnts (n : Net) (r : Int) : List Int :=
  if r = 2 then List.replicate n.es.length (most (degs n) + 1)
  else if r = 3 then List.replicate n.es.length 2
  else if r = 4 then (degs n).map (· + 1)
  else List.replicate n.es.length (n.es.length + 1)
theorem most_go (l : List Int) : ∀ a : Int, a ≤ l.foldl (fun a x => if a > x then a else x) a ∧ (∀ x ∈ l, x ≤ l.foldl (fun a x => if a > x then a else x) a) ∧ (l.foldl (fun a x => if a > x then a else x) a = a ∨ l.foldl (fun a x => if a > x then a else x) a ∈ l) := by
  induction l with
  | nil => intro a; exact ⟨Int.le_refl _, fun _ h => by (cases h), .inl rfl⟩
  | cons y r ih =>
    intro a
    simp only [List.foldl_cons]
    obtain ⟨h1, h2, h3⟩ := ih (if a > y then a else y)
    by_cases hc : a > y
    · rw [if_pos hc] at h1 h2 h3 ⊢
      refine ⟨h1, fun x hx => ?_, ?_⟩
      · rcases List.mem_cons.1 hx with rfl | hx
        · omega
        · exact h2 x hx
      · rcases h3 with h | h
        · exact .inl h
        · exact .inr (by simp [h])
    · rw [if_neg hc] at h1 h2 h3 ⊢
      refine ⟨by omega, fun x hx => ?_, ?_⟩
      · rcases List.mem_cons.1 hx with rfl | hx
        · exact h1
        · exact h2 x hx
      · rcases h3 with h | h
        · right; rw [h]; simp
        · exact .inr (by simp [h])
theorem most_ge (l : List Int) {x : Int} (h : x ∈ l) : x ≤ most l := (most_go l 0).2.1 x h
theorem most_nn (l : List Int) : 0 ≤ most l := (most_go l 0).1
theorem most_mem {l : List Int} (hl : l ≠ []) (h : ∀ x ∈ l, 0 ≤ x) : most l ∈ l := by
  rcases (most_go l 0).2.2 with h1 | h1
  · cases l with
    | nil => exact absurd rfl hl
    | cons y r =>
      have e : most (y :: r) = 0 := h1
      have := most_ge (y :: r) (x := y) (by simp)
      have := h y (by simp)
      rw [e]
      have : y = 0 := by omega
      simp [this]
  · exact h1
theorem most_le {l : List Int} {b : Int} (hb : 0 ≤ b) (h : ∀ x ∈ l, x ≤ b) : most l ≤ b := by
  rcases (most_go l 0).2.2 with h1 | h1
  · have e : most l = 0 := h1
    omega
  · exact h _ h1
theorem degs_bd {n : Net} (h : netP n) : ∀ x ∈ degs n, 0 ≤ x ∧ x ≤ 6 := fun x hx => by
  obtain ⟨l, hl, rfl⟩ := List.mem_map.1 hx
  obtain ⟨v, hv⟩ := List.mem_iff_getElem?.1 hl
  have := (h.2.2.2.2 v l hv).1
  omega
theorem cnts_bd {n : Net} (h : netP n) (r : Int) : ∀ x ∈ cnts n r, 1 ≤ x ∧ x ≤ 41 := by
  intro x hx
  have h1 := h.1
  have hm : most (degs n) ≤ 6 := most_le (by omega) fun x hx => (degs_bd h x hx).2
  have hm0 := most_nn (degs n)
  unfold cnts at hx
  split at hx
  · have := (List.mem_replicate.1 hx).2; omega
  split at hx
  · have := (List.mem_replicate.1 hx).2; omega
  split at hx
  · obtain ⟨y, hy, rfl⟩ := List.mem_map.1 hx
    have := degs_bd h y hy
    omega
  · have := (List.mem_replicate.1 hx).2; omega
theorem cnts_len (n : Net) (r : Int) : (cnts n r).length = n.es.length := by
  unfold cnts degs
  split
  · simp
  split
  · simp
  split
  · simp
  · simp
/-- The number of situations, up to a bound. -/
def capd (l : List Int) : Int := l.foldl (fun a k => if a * k < 3001 then a * k else 3001) 1
def capG (l : List Int) (a : Int) : Int := l.foldl (fun a k => if a * k < 3001 then a * k else 3001) a
theorem capG_top {l : List Int} (h : ∀ x ∈ l, 1 ≤ x) : capG l 3001 = 3001 := by
  induction l with
  | nil => rfl
  | cons y r ih =>
    have hy := h y (by simp)
    unfold capG
    simp only [List.foldl_cons]
    rw [if_neg (by have : (3001 : Int) * 1 ≤ 3001 * y := Int.mul_le_mul_of_nonneg_left hy (by omega); omega)]
    exact ih fun x hx => h x (by simp [hx])
theorem capG_pos {l : List Int} (h : ∀ x ∈ l, 1 ≤ x) : ∀ {a : Int}, 1 ≤ a → 1 ≤ capG l a := by
  induction l with
  | nil => intro a ha; exact ha
  | cons y r ih =>
    intro a ha
    have hy := h y (by simp)
    unfold capG
    simp only [List.foldl_cons]
    refine ih (fun x hx => h x (by simp [hx])) ?_
    split
    · have : (1 : Int) * 1 ≤ a * y := Int.mul_le_mul ha hy (by omega) (by omega)
      omega
    · omega
/-- The program's count: 0 if there are too many. -/
def sitG : List Int → Int → Int
  | [], a => a
  | k :: r, a => if a * k > 3000 then 0 else sitG r (a * k)
theorem sit_cap {l : List Int} (h : ∀ x ∈ l, 1 ≤ x) : ∀ {a : Int}, 1 ≤ a → a ≤ 3000 → sitG l a = (if capG l a ≤ 3000 then capG l a else 0) := by
  induction l with
  | nil => intro a h1 h2; show a = if a ≤ 3000 then a else 0; rw [if_pos h2]
  | cons y r ih =>
    intro a ha ha2
    have hy := h y (by simp)
    have hr : ∀ x ∈ r, 1 ≤ x := fun x hx => h x (by simp [hx])
    have hay : (1 : Int) * 1 ≤ a * y := Int.mul_le_mul ha hy (by omega) (by omega)
    have e1 : sitG (y :: r) a = if a * y > 3000 then 0 else sitG r (a * y) := rfl
    have e2 : capG (y :: r) a = capG r (if a * y < 3001 then a * y else 3001) := rfl
    rw [e1, e2]
    by_cases hc : a * y > 3000
    · rw [if_pos hc, if_neg (show ¬ a * y < 3001 by omega), capG_top hr]
      rfl
    · rw [if_neg hc, if_pos (show a * y < 3001 by omega)]
      exact ih hr (by omega) (by omega)
/-- The hidden sides of IsNetwork: identifiers by a sorted copy. -/
def risingP (l : List Int) (lo hi : Int) : Prop := (∀ x ∈ l, lo ≤ x ∧ x ≤ hi) ∧ ∀ (i : Nat) (a b : Int), l[i]? = some a → l[i + 1]? = some b → a < b
theorem rising_pair {l : List Int} (h : ∀ (i : Nat) (a b : Int), l[i]? = some a → l[i + 1]? = some b → a < b) : l.Pairwise (· < ·) := by
  induction l with
  | nil => exact .nil
  | cons x r ih =>
    have hr := ih fun i a b h1 h2 => h (i + 1) a b (by simpa using h1) (by simpa using h2)
    refine List.pairwise_cons.2 ⟨fun y hy => ?_, hr⟩
    cases r with
    | nil => cases hy
    | cons z t =>
      have h0 := h 0 x z rfl rfl
      rcases List.mem_cons.1 hy with rfl | hy
      · exact h0
      · have := (List.pairwise_cons.1 hr).1 y hy
        omega
theorem pair_rising {l : List Int} (h : l.Pairwise (· < ·)) : ∀ (i : Nat) (a b : Int), l[i]? = some a → l[i + 1]? = some b → a < b := by
  intro i a b h1 h2
  obtain ⟨i1, rfl⟩ := List.getElem?_eq_some_iff.1 h1
  obtain ⟨i2, rfl⟩ := List.getElem?_eq_some_iff.1 h2
  exact List.pairwise_iff_getElem.1 h i (i + 1) i1 i2 (by omega)
theorem ids_sorted {ids ys : List Int} {k : Nat} (hp : ys.Perm ids) (hs : ys.Pairwise (· ≤ ·)) (hne : ids ≠ []) : (ids.length = k ∧ risingP ys 1 999999) ↔ idsP ids k := by
  unfold idsP risingP
  constructor
  · rintro ⟨h1, h2, h3⟩
    have hn : ys.Nodup := (rising_pair h3).imp fun h => by omega
    exact ⟨fun x hx => h2 x (hp.mem_iff.2 hx), hp.nodup_iff.1 hn, .inr h1⟩
  · rintro ⟨h1, h2, h3⟩
    have hn : ys.Nodup := hp.nodup_iff.2 h2
    refine ⟨by rcases h3 with h | h; exact absurd h hne; exact h, fun x hx => h1 x (hp.mem_iff.1 hx), pair_rising ?_⟩
    have : ys.Pairwise (fun a b => a ≤ b ∧ a ≠ b) := List.Pairwise.and hs hn
    exact this.imp fun h => by omega
theorem ids_loop {ids : List Int} : (∀ (i : Nat) (x : Int), ids[i]? = some x → (1 ≤ x ∧ x ≤ 999999) ∧ x ∉ ids.take i) ↔ (∀ x ∈ ids, 1 ≤ x ∧ x ≤ 999999) ∧ ids.Nodup := by
  constructor
  · intro h
    refine ⟨fun x hx => ?_, ?_⟩
    · obtain ⟨i, hi⟩ := List.mem_iff_getElem?.1 hx
      exact (h i x hi).1
    · refine List.pairwise_iff_getElem.2 fun i j hi hj hij e => ?_
      refine (h j ids[j] (List.getElem?_eq_getElem hj)).2 ?_
      rw [← e]
      refine List.mem_of_getElem? (i := i) ?_
      rw [List.getElem?_take, if_pos hij, List.getElem?_eq_getElem hi]
  · rintro ⟨h1, h2⟩ i x hx
    refine ⟨h1 x (List.mem_of_getElem? hx), fun hm => ?_⟩
    obtain ⟨j, hj⟩ := List.mem_iff_getElem?.1 hm
    rw [List.getElem?_take] at hj
    split at hj
    · rename_i hji
      obtain ⟨i1, rfl⟩ := List.getElem?_eq_some_iff.1 hx
      obtain ⟨j1, e⟩ := List.getElem?_eq_some_iff.1 hj
      exact List.pairwise_iff_getElem.1 h2 j i j1 i1 hji e
    · cases hj
/-- The program looks at each edge once, from its lesser side. -/
theorem edge_loop {n : Net} (h : netP n) : (∃ (v : Nat) (l : List (Int × Int)), n.es[v]? = some l ∧ ∃ (i : Nat) (e : Int × Int), l[i]? = some e ∧ ((v : Int) < e.1 ∨ (v : Int) = e.1 ∧ (i : Int) ≤ e.2) ∧ (v : Int) = e.1) ↔ ¬ plainP n := by
  unfold plainP
  constructor
  · rintro ⟨v, l, hv, i, e, hi, -, he⟩ hp
    exact hp v l hv e (List.mem_of_getElem? hi) he.symm
  · intro hp
    simp only [Classical.not_forall] at hp
    obtain ⟨v, l, hv, e, hm, hne⟩ := hp
    have he : e.1 = (v : Int) := Classical.not_not.1 hne
    obtain ⟨i, hi⟩ := List.mem_iff_getElem?.1 hm
    obtain ⟨h0, h1, m, hm2, hm3⟩ := (h.2.2.2.2 v l hv).2 i e hi
    have hvv : e.1.toNat = v := by omega
    rw [hvv, hv] at hm2
    obtain rfl : l = m := Option.some.inj hm2
    by_cases hc : (i : Int) ≤ e.2
    · exact ⟨v, l, hv, i, e, hi, .inr ⟨he.symm, hc⟩, he.symm⟩
    · exact ⟨v, l, hv, e.2.toNat, _, hm3, .inr ⟨rfl, by simp; omega⟩, rfl⟩
end Go.Proofs.YtcpbbjocaimocaaGreat
