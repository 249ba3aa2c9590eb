/-
  The first walk of a length between two labels; arcs read backwards. Plain facts; no program in sight, no condition.
-/
import Derived.Test.YtjhljipehnmbnaaGreatCwIX
namespace Go.Proofs.YtjhljipehnmbnaaGreat
set_option linter.unusedVariables false
/-- The arcs backwards. -/
def revA (xss : List (List Int)) : List (List Int) := xss.map List.reverse
theorem revA_small {xss : List (List Int)} (h : SmallArcs xss) : SmallArcs (revA xss) := by
  intro xs hx
  obtain ⟨ys, hy, rfl⟩ := List.mem_map.1 hx
  obtain ⟨h1, h2⟩ := h ys hy
  exact ⟨by rw [List.length_reverse]; exact h1, fun x hx => h2 x (List.mem_reverse.1 hx)⟩
theorem revA_arc {xss : List (List Int)} {a b : Nat} : hasArc (revA xss) b a ↔ hasArc xss a b := by
  unfold hasArc revA
  rw [List.mem_map]
  constructor
  · rintro ⟨ys, hy, e⟩
    have : ys = [(a : Int), (b : Int)] := by rw [← List.reverse_reverse ys, e]; rfl
    rw [← this]; exact hy
  · intro h
    exact ⟨_, h, rfl⟩
theorem revA_len (xss : List (List Int)) : (revA xss).length = xss.length := by simp [revA]
theorem revA_take (xss : List (List Int)) (k : Nat) : (revA xss).take k = revA (xss.take k) := by simp [revA, List.map_take]
theorem revA_snoc (xss : List (List Int)) (x y : Nat) : revA (xss ++ [[(x : Int), (y : Int)]]) = revA xss ++ [[(y : Int), (x : Int)]] := by simp [revA]
theorem wk_rev {xss : List (List Int)} : ∀ {k a b : Nat}, wk (hasArc (revA xss)) k b a ↔ wk (hasArc xss) k a b
  | 0, a, b => by show b = a ↔ a = b; exact eq_comm
  | k + 1, a, b => by
    rw [wk_head (R := hasArc xss)]
    show (∃ c, wk (hasArc (revA xss)) k b c ∧ hasArc (revA xss) c a) ↔ _
    constructor
    · rintro ⟨c, h1, h2⟩; exact ⟨c, revA_arc.1 h2, wk_rev.1 h1⟩
    · rintro ⟨c, h1, h2⟩; exact ⟨c, wk_rev.2 h2, revA_arc.2 h1⟩
theorem rset_rev (xss : List (List Int)) (b k : Nat) : rset (revA xss) b k = bitSet fun a => wk (hasArc xss) k a b := bitSet_congr fun a _ => wk_rev
theorem rset_next_rev {n : Nat} {xss : List (List Int)} (hg : Good n xss) (b k : Nat) : nextN (revA xss) (bl (rset (revA xss) b k) 12) = rset (revA xss) b (k + 1) := by
  unfold rset
  rw [bl_set]
  refine bitSet_eq fun x => ?_
  unfold nextN
  rw [next_bit (revA_small hg.small)]
  have hn := good_n hg
  constructor
  · rintro (h | ⟨c, h1, h2⟩)
    · simp at h
    · have := (arc_lt hg (revA_arc.1 h2)).1
      exact ⟨by omega, c, (mem_lsP.1 h1).2, h2⟩
  · rintro ⟨_, c, h1, h2⟩
    have := (arc_lt hg (revA_arc.1 h2)).2
    exact .inr ⟨c, mem_lsP.2 ⟨by omega, h1⟩, h2⟩
theorem wk_lt_rev {n : Nat} {xss : List (List Int)} (hg : Good n xss) {a b k : Nat} (hb : b < n) (h : wk (hasArc xss) k a b) : a < n := by
  match k, h with
  | 0, h => cases (show a = b from h); exact hb
  | k + 1, h =>
    obtain ⟨c, h, _⟩ := wk_head.1 h
    exact (arc_lt hg h).1
theorem rset_bl_rev {n : Nat} {xss : List (List Int)} (hg : Good n xss) {b k : Nat} (hb : b < n) : ∀ x ∈ bl (rset (revA xss) b k) 12, x < n := fun x hx => by
  rw [rset_rev, bl_set] at hx
  exact wk_lt_rev hg hb (mem_lsP.1 hx).2
/-! ### The first walk -/
/-- The labels by which a walk may go on. -/
noncomputable def onL (xss : List (List Int)) (b i a : Nat) : List Nat := lsP fun c => hasArc xss a c ∧ wk (hasArc xss) i c b
noncomputable def stepN (xss : List (List Int)) (b i a : Nat) : Nat := (onL xss b i a).headD 0
noncomputable def lexW (xss : List (List Int)) (b : Nat) : Nat → Nat → List Nat
  | 0, a => [a]
  | k + 1, a => a :: lexW xss b k (stepN xss b k a)
theorem lex_len (xss : List (List Int)) (b : Nat) : ∀ k a, (lexW xss b k a).length = k + 1
  | 0, a => rfl
  | k + 1, a => by rw [lexW, List.length_cons, lex_len]
theorem onL_head {n : Nat} {xss : List (List Int)} (hg : Good n xss) {b i a : Nat} (h : wk (hasArc xss) (i + 1) a b) : (onL xss b i a)[0]? = some (stepN xss b i a) ∧ hasArc xss a (stepN xss b i a) ∧ wk (hasArc xss) i (stepN xss b i a) b := by
  have hn := good_n hg
  obtain ⟨c, h1, h2⟩ := wk_head.1 h
  have hm : c ∈ onL xss b i a := mem_lsP.2 ⟨by have := (arc_lt hg h1).2; omega, h1, h2⟩
  unfold stepN
  cases hl : onL xss b i a with
  | nil => rw [hl] at hm; cases hm
  | cons x r =>
    have hx : x ∈ onL xss b i a := by rw [hl]; simp
    exact ⟨rfl, (mem_lsP.1 hx).2⟩
theorem onL_bits {n : Nat} {xss : List (List Int)} (hg : Good n xss) (b i a : Nat) : mask xss a &&& rset (revA xss) b i = bitSet fun c => hasArc xss a c ∧ wk (hasArc xss) i c b := by
  have hn := good_n hg
  refine bitSet_eq fun c => ?_
  rw [Nat.testBit_and, Bool.and_eq_true, mask_bit hg.small, rset_rev, bitSet_bit]
  constructor
  · rintro ⟨h1, h2, h3⟩; exact ⟨h2, h1, h3⟩
  · rintro ⟨h1, h2, h3⟩; exact ⟨h2, h1, h3⟩
theorem lex_next {n : Nat} {xss : List (List Int)} (hg : Good n xss) {b : Nat} : ∀ {k a j x : Nat}, wk (hasArc xss) k a b → (lexW xss b k a)[j]? = some x → wk (hasArc xss) (k - j) x b ∧ (j < k → (lexW xss b k a)[j + 1]? = some (stepN xss b (k - 1 - j) x))
  | 0, a, j, x, h, hx => by
    rw [lexW] at hx
    rcases j with _ | j
    · simp at hx; subst hx; exact ⟨h, fun h => absurd h (by omega)⟩
    · simp at hx
  | k + 1, a, j, x, h, hx => by
    have ho := onL_head hg h
    rw [lexW] at hx ⊢
    rcases j with _ | j
    · simp at hx
      subst hx
      refine ⟨h, fun _ => ?_⟩
      rw [List.getElem?_cons_succ]
      cases k with
      | zero => rfl
      | succ k => rw [lexW]; rfl
    · rw [List.getElem?_cons_succ] at hx
      have ih := lex_next hg ho.2.2 hx
      refine ⟨by rw [show k + 1 - (j + 1) = k - j by omega]; exact ih.1, fun hj => ?_⟩
      rw [List.getElem?_cons_succ, show k + 1 - 1 - (j + 1) = k - 1 - j by omega]
      exact ih.2 (by omega)
theorem lex_zero (xss : List (List Int)) (b k a : Nat) : (lexW xss b k a)[0]? = some a := by
  cases k with
  | zero => rfl
  | succ k => rfl
theorem lex_lt {n : Nat} {xss : List (List Int)} (hg : Good n xss) {b k a : Nat} (hb : b < n) (h : wk (hasArc xss) k a b) : ∀ x ∈ lexW xss b k a, x < n := by
  intro x hx
  obtain ⟨j, hj⟩ := List.mem_iff_getElem?.1 hx
  exact wk_lt_rev hg hb (lex_next hg h hj).1
/-- The first walk of a length, if there is one. -/
noncomputable def wbL (xss : List (List Int)) (a b k : Nat) : List Nat := if propB (wk (hasArc xss) k a b) = true then lexW xss b k a else []
theorem wb_t {xss : List (List Int)} {a b k : Nat} (h : wk (hasArc xss) k a b) : wbL xss a b k = lexW xss b k a := by unfold wbL; rw [if_pos (propB_t h)]
theorem wb_f {xss : List (List Int)} {a b k : Nat} (h : ¬ wk (hasArc xss) k a b) : wbL xss a b k = [] := by unfold wbL; rw [if_neg (by rw [propB_iff]; exact h)]
theorem wb_len (xss : List (List Int)) (a b k : Nat) : (wbL xss a b k).length ≤ k + 1 := by
  unfold wbL
  split
  · rw [lex_len]; exact Nat.le_refl _
  · simp
theorem wb_lt {n : Nat} {xss : List (List Int)} (hg : Good n xss) {a b k : Nat} (hb : b < n) : ∀ x ∈ wbL xss a b k, x < n := by
  intro x hx
  by_cases h : wk (hasArc xss) k a b
  · rw [wb_t h] at hx; exact lex_lt hg hb h x hx
  · rw [wb_f h] at hx; cases hx
end Go.Proofs.YtjhljipehnmbnaaGreat
