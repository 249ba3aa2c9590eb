/-
  Networks: what a network is, distances from a node, rules and counts of states: the plain law, with no program in sight. No condition.
-/
import Derived.Test.YtcpbbjocaimocaaGreatEZ
namespace Go.Proofs.YtcpbbjocaimocaaGreat
set_option linter.all false
structure Net where
  es : List (List (Int × Int))
  ids : List Int
  ins : List Int
def endOk (es : List (List (Int × Int))) (v i : Nat) (e : Int × Int) : Prop :=
  0 ≤ e.1 ∧ 0 ≤ e.2 ∧ ∃ l, es[e.1.toNat]? = some l ∧ l[e.2.toNat]? = some ((v : Int), (i : Int))
def nodeOk (es : List (List (Int × Int))) (v : Nat) (l : List (Int × Int)) : Prop := l.length ≤ 6 ∧ ∀ i e, l[i]? = some e → endOk es v i e
def idsP (ids : List Int) (k : Nat) : Prop := (∀ x ∈ ids, 1 ≤ x ∧ x ≤ 999999) ∧ ids.Nodup ∧ (ids = [] ∨ ids.length = k)
def netP (n : Net) : Prop := (1 ≤ n.es.length ∧ n.es.length ≤ 40) ∧ idsP n.ids n.es.length ∧ n.ins.length = n.es.length ∧ (∀ x ∈ n.ins, 0 ≤ x ∧ x ≤ 9) ∧ ∀ v l, n.es[v]? = some l → nodeOk n.es v l
noncomputable def netB (n : Net) : Bool := propB (netP n)
/-! ### Distances from a node -/
def visit (w : Nat) : List (Int × Int) → List Int × List Int → List Int × List Int
  | [], s => s
  | e :: r, s => if s.1.getD e.1.toNat 0 < 0 then visit w r (s.1.set e.1.toNat (s.1.getD w 0 + 1), s.2 ++ [e.1]) else visit w r s
def bfs (es : List (List (Int × Int))) : Nat → List Int → List Int → List Int
  | 0, d, _ => d
  | _ + 1, d, [] => d
  | f + 1, d, w :: q => bfs es f (visit w.toNat (es.getD w.toNat []) (d, q)).1 (visit w.toNat (es.getD w.toNat []) (d, q)).2
def far (es : List (List (Int × Int))) (v : Nat) : List Int := bfs es es.length ((List.replicate es.length (-1)).set v 0) [(v : Int)]
/-! ### Rules and counts -/
def degs (n : Net) : List Int := n.es.map fun l => (l.length : Int)
def most (l : List Int) : Int := l.foldl (fun a x => if a > x then a else x) 0
theorem degs_bd {n : Net} (h : netP n) : ∀ x ∈ degs n, 0 ≤ x ∧ x ≤ 6 := fun x hx => by
  obtain ⟨l, hl, rfl⟩ := List.mem_map.1 hx
  obtain ⟨v, hv⟩ := List.mem_iff_getElem?.1 hl
  have := (h.2.2.2.2 v l hv).1
  omega
def risingP (l : List Int) (lo hi : Int) : Prop := (∀ x ∈ l, lo ≤ x ∧ x ≤ hi) ∧ ∀ (i : Nat) (a b : Int), l[i]? = some a → l[i + 1]? = some b → a < b
theorem rising_pair {l : List Int} (h : ∀ (i : Nat) (a b : Int), l[i]? = some a → l[i + 1]? = some b → a < b) : l.Pairwise (· < ·) := by
  induction l with
  | nil => exact .nil
  | cons x r ih =>
    have hr := ih fun i a b h1 h2 => h (i + 1) a b (by simpa using h1) (by simpa using h2)
    refine List.pairwise_cons.2 ⟨fun y hy => ?_, hr⟩
    cases r with
    | nil => cases hy
    | cons z t =>
      have h0 := h 0 x z rfl rfl
      rcases List.mem_cons.1 hy with rfl | hy
      · exact h0
      · have := (List.pairwise_cons.1 hr).1 y hy
        omega
theorem pair_rising {l : List Int} (h : l.Pairwise (· < ·)) : ∀ (i : Nat) (a b : Int), l[i]? = some a → l[i + 1]? = some b → a < b := by
  intro i a b h1 h2
  obtain ⟨i1, rfl⟩ := List.getElem?_eq_some_iff.1 h1
  obtain ⟨i2, rfl⟩ := List.getElem?_eq_some_iff.1 h2
  exact List.pairwise_iff_getElem.1 h i (i + 1) i1 i2 (by omega)
theorem ids_sorted {ids ys : List Int} {k : Nat} (hp : ys.Perm ids) (hs : ys.Pairwise (· ≤ ·)) (hne : ids ≠ []) : (ids.length = k ∧ risingP ys 1 999999) ↔ idsP ids k := by
  unfold idsP risingP
  constructor
  · rintro ⟨h1, h2, h3⟩
    have hn : ys.Nodup := (rising_pair h3).imp fun h => by omega
    exact ⟨fun x hx => h2 x (hp.mem_iff.2 hx), hp.nodup_iff.1 hn, .inr h1⟩
  · rintro ⟨h1, h2, h3⟩
    have hn : ys.Nodup := hp.nodup_iff.2 h2
    refine ⟨by rcases h3 with h | h; exact absurd h hne; exact h, fun x hx => h1 x (hp.mem_iff.1 hx), pair_rising ?_⟩
    have : ys.Pairwise (fun a b => a ≤ b ∧ a ≠ b) := List.Pairwise.and hs hn
    exact this.imp fun h => by omega
theorem ids_loop {ids : List Int} : (∀ (i : Nat) (x : Int), ids[i]? = some x → (1 ≤ x ∧ x ≤ 999999) ∧ x ∉ ids.take i) ↔ (∀ x ∈ ids, 1 ≤ x ∧ x ≤ 999999) ∧ ids.Nodup := by
  constructor
  · intro h
    refine ⟨fun x hx => ?_, ?_⟩
    · obtain ⟨i, hi⟩ := List.mem_iff_getElem?.1 hx
      exact (h i x hi).1
    · refine List.pairwise_iff_getElem.2 fun i j hi hj hij e => ?_
      refine (h j ids[j] (List.getElem?_eq_getElem hj)).2 ?_
      rw [← e]
      refine List.mem_of_getElem? (i := i) ?_
      rw [List.getElem?_take, if_pos hij, List.getElem?_eq_getElem hi]
  · rintro ⟨h1, h2⟩ i x hx
    refine ⟨h1 x (List.mem_of_getElem? hx), fun hm => ?_⟩
    obtain ⟨j, hj⟩ := List.mem_iff_getElem?.1 hm
    rw [List.getElem?_take] at hj
    split at hj
    · rename_i hji
      obtain ⟨i1, rfl⟩ := List.getElem?_eq_some_iff.1 hx
      obtain ⟨j1, e⟩ := List.getElem?_eq_some_iff.1 hj
      exact List.pairwise_iff_getElem.1 h2 j i j1 i1 hji e
    · cases hj
end Go.Proofs.YtcpbbjocaimocaaGreat
