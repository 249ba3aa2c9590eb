/-
  The period of a component, as a greatest common divisor over the arcs within. Plain facts; no program in sight, no condition.
-/
import Derived.Test.YtjhljipehnmbnaaGreatPlainCw
import Derived.Test.YtjhljipehnmbnaaGreatClosed
namespace Go.Proofs.YtjhljipehnmbnaaGreat
set_option linter.unusedVariables false
theorem dvd_gcdF (e : Nat) : ∀ (xs : List Nat) (d : Nat), e ∣ xs.foldl Nat.gcd d ↔ e ∣ d ∧ ∀ x ∈ xs, e ∣ x
  | [], d => by simp
  | x :: xs, d => by
    rw [List.foldl_cons, dvd_gcdF e xs, Nat.dvd_gcd_iff, and_assoc]
    simp
theorem dvd_gcdL (e : Nat) (xs : List Nat) : e ∣ gcdL xs ↔ ∀ x ∈ xs, e ∣ x := by
  unfold gcdL
  rw [dvd_gcdF]
  simp
/-- The ends of an arc. -/
def pa (xs : List Int) : Nat := (xs.getD 0 0).toNat
def pb (xs : List Int) : Nat := (xs.getD 1 0).toNat
theorem pa_eq (x y : Nat) : pa [(x : Int), (y : Int)] = x := by simp [pa]
theorem pb_eq (x y : Nat) : pb [(x : Int), (y : Int)] = y := by simp [pb]
/-- What the arcs within a set of labels are off. -/
noncomputable def offs (xss : List (List Int)) (C : Nat → Prop) (f : Nat → Nat) : List Nat := (xss.filter fun xs => propB (C (pa xs) ∧ C (pb xs))).map fun xs => (dft f (pa xs) (pb xs)).natAbs
noncomputable def perN (xss : List (List Int)) (C : Nat → Prop) (f : Nat → Nat) : Nat := gcdL (offs xss C f)
theorem per_in {xss : List (List Int)} {C : Nat → Prop} {f : Nat → Nat} {x y : Nat} (h : C x ∧ C y) : perN (xss ++ [[(x : Int), (y : Int)]]) C f = Nat.gcd (perN xss C f) (dft f x y).natAbs := by
  unfold perN offs
  rw [List.filter_append, List.map_append, List.filter_cons_of_pos (by rw [pa_eq, pb_eq]; exact propB_t h), List.filter_nil, List.map_cons, List.map_nil, gcdL_snoc, pa_eq, pb_eq]
theorem per_out {xss : List (List Int)} {C : Nat → Prop} {f : Nat → Nat} {x y : Nat} (h : ¬ (C x ∧ C y)) : perN (xss ++ [[(x : Int), (y : Int)]]) C f = perN xss C f := by
  unfold perN offs
  rw [List.filter_append, List.filter_cons_of_neg (by rw [pa_eq, pb_eq, propB_iff]; exact h), List.filter_nil, List.append_nil]
theorem per_nil (C : Nat → Prop) (f : Nat → Nat) : perN [] C f = 0 := rfl
theorem perN_congr {xss : List (List Int)} {C C' : Nat → Prop} {f f' : Nat → Nat} (hC : ∀ x, C x ↔ C' x) (hf : ∀ x, C x → f x = f' x) : perN xss C f = perN xss C' f' := by
  obtain rfl : C = C' := funext fun x => propext (hC x)
  unfold perN offs
  congr 1
  refine List.map_congr_left fun xs hx => ?_
  have h := propB_iff.1 (List.mem_filter.1 hx).2
  unfold dft
  rw [hf _ h.1, hf _ h.2]
theorem per_le {xss : List (List Int)} {C : Nat → Prop} {f : Nat → Nat} {M : Nat} (h : ∀ x, C x → f x ≤ M) : perN xss C f ≤ M + 1 := by
  unfold perN
  refine gcdL_le _ _ _ (Nat.zero_le _) fun x hx => ?_
  obtain ⟨xs, hm, rfl⟩ := List.mem_map.1 hx
  have k := propB_iff.1 (List.mem_filter.1 hm).2
  have h1 := h _ k.1
  have h2 := h _ k.2
  unfold dft
  omega
theorem perN_per {n : Nat} {xss : List (List Int)} (hg : Good n xss) (r : Nat) (f : Nat → Nat) : Per (hasArc xss) r f (perN xss (mates (hasArc xss) r) f) := by
  intro e
  unfold perN
  rw [dvd_gcdL]
  constructor
  · intro h x y hxy hx hy
    have := h (dft f x y).natAbs (List.mem_map.2 ⟨[(x : Int), (y : Int)], List.mem_filter.2 ⟨hxy, propB_t (by rw [pa_eq, pb_eq]; exact ⟨hx, hy⟩)⟩, by rw [pa_eq, pb_eq]⟩)
    exact Int.ofNat_dvd_left.2 this
  · intro h q hq
    obtain ⟨xs, hm, rfl⟩ := List.mem_map.1 hq
    obtain ⟨h1, h2⟩ := List.mem_filter.1 hm
    obtain ⟨x, y, rfl, _, _⟩ := small_pair (hg.small xs h1)
    have k := propB_iff.1 h2
    rw [pa_eq, pb_eq] at k ⊢
    exact Int.ofNat_dvd_left.1 (h x y h1 k.1 k.2)
/-! ### The components -/
/-- The labels of a's component. -/
noncomputable def compL (xss : List (List Int)) (a : Nat) : List Nat := lsP (mates (hasArc xss) a)
theorem mem_comp {n : Nat} {xss : List (List Int)} (hg : Good n xss) {a b : Nat} : b ∈ compL xss a ↔ mates (hasArc xss) a b := by
  unfold compL
  rw [mem_lsP]
  constructor
  · exact fun h => h.2
  · intro h
    have := (rc_lt (fun x y => arc_lt hg) h.1).2
    have := good_n hg
    exact ⟨by omega, h⟩
theorem comp_lt {n : Nat} {xss : List (List Int)} (hg : Good n xss) {a b : Nat} (h : b ∈ compL xss a) : b < n := (rc_lt (fun x y => arc_lt hg) ((mem_comp hg).1 h).1).2
/-- a is the least label of a component. -/
def isRoot (xss : List (List Int)) (a : Nat) : Prop := mates (hasArc xss) a a ∧ ∀ b, b < a → ¬ mates (hasArc xss) b a
/-- The least labels of the components, below k. -/
noncomputable def roots (xss : List (List Int)) (k : Nat) : List Nat := lsTo (isRoot xss) k
theorem root_head {n : Nat} {xss : List (List Int)} (hg : Good n xss) {a : Nat} (h : isRoot xss a) : (compL xss a)[0]? = some a := by
  have hm : a ∈ compL xss a := (mem_comp hg).2 h.1
  obtain ⟨i, hi⟩ := List.mem_iff_getElem?.1 hm
  rcases Nat.eq_zero_or_pos i with rfl | h0
  · exact hi
  · exfalso
    have hl := (List.getElem?_eq_some_iff.1 hi).1
    obtain ⟨x, hx⟩ : ∃ x, (compL xss a)[0]? = some x := ⟨_, List.getElem?_eq_getElem (by omega)⟩
    have hxa : x < a := by
      have hp := List.pairwise_iff_getElem.1 (lsP_pw (mates (hasArc xss) a)) 0 i (show 0 < (compL xss a).length by omega) hl h0
      obtain ⟨h1, e1⟩ := List.getElem?_eq_some_iff.1 hx
      obtain ⟨h2, e2⟩ := List.getElem?_eq_some_iff.1 hi
      unfold compL at e1 e2
      rw [e1, e2] at hp
      exact hp
    exact h.2 x hxa ((mem_comp hg).1 (List.mem_of_getElem? hx)).symm
end Go.Proofs.YtjhljipehnmbnaaGreat
