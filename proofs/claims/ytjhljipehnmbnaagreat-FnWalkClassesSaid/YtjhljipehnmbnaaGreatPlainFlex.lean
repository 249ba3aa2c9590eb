/-
  Walks in a relation of numbers: lengths of shortest walks, periods of components, and from which length on a label with period 1 has all closed walks. Plain facts; no program in sight, no condition.
-/
import Derived.Test.YtjhljipehnmbnaaGreatKit
namespace Go.Proofs.YtjhljipehnmbnaaGreat
set_option linter.unusedVariables false

/-- A walk of k arcs. -/
def wk (R : Nat → Nat → Prop) : Nat → Nat → Nat → Prop
  | 0, a, b => a = b
  | k + 1, a, b => ∃ c, wk R k a c ∧ R c b
/-- A walk of at least one arc. -/
def rc (R : Nat → Nat → Prop) (a b : Nat) : Prop := ∃ k, 1 ≤ k ∧ wk R k a b
/-- Two labels with walks from each to the other. -/
def mates (R : Nat → Nat → Prop) (a b : Nat) : Prop := rc R a b ∧ rc R b a
theorem inj_le : ∀ (n m : Nat) (f : Nat → Nat), (∀ i, i < m → f i < n) → (∀ i j, i < j → j < m → f i ≠ f j) → m ≤ n
  | 0, m, f, h, _ => by
    by_cases e : m = 0
    · omega
    · have := h 0 (by omega); omega
  | n + 1, m, f, h, hi => by
    by_cases e : ∃ i, i < m ∧ f i = n
    · obtain ⟨i0, h0, e0⟩ := e
      have := inj_le n (m - 1) (fun i => if i = i0 then f (m - 1) else f i) (by
        intro i hm
        split
        · rename_i q
          have h1 := h (m - 1) (by omega)
          by_cases q2 : f (m - 1) = n
          · exfalso
            rcases Nat.lt_or_ge i0 (m - 1) with q3 | q3
            · exact hi i0 (m - 1) q3 (by omega) (by omega)
            · omega
          · omega
        · rename_i q
          have h1 := h i (by omega)
          by_cases q2 : f i = n
          · exfalso
            rcases Nat.lt_or_ge i i0 with q3 | q3
            · exact hi i i0 q3 h0 (by omega)
            · exact hi i0 i (by omega) (by omega) (by omega)
          · omega) (by
        intro i j hij hj
        split
        · rename_i q
          subst q
          rw [if_neg (by omega)]
          intro q2
          exact hi j (m - 1) (by omega) (by omega) q2.symm
        · split
          · rename_i q
            exact hi i (m - 1) (by omega) (by omega)
          · exact hi i j hij (by omega))
      omega
    · have := inj_le n m f (fun i hm => by
        have h1 := h i hm
        have h2 : f i ≠ n := fun q => e ⟨i, hm, q⟩
        omega) hi
      omega
/-- The least number with a property. -/
theorem least (p : Nat → Prop) : ∀ k, p k → ∃ d, d ≤ k ∧ p d ∧ ∀ j, j < d → ¬ p j := by
  intro k
  induction k using Nat.strongRecOn with
  | ind k ih =>
    intro hk
    by_cases e : ∃ j, j < k ∧ p j
    · obtain ⟨j, hj, hp⟩ := e
      obtain ⟨d, h1, h2, h3⟩ := ih j hj hp
      exact ⟨d, by omega, h2, h3⟩
    · exact ⟨k, Nat.le_refl _, hk, fun j hj hp => e ⟨j, hj, hp⟩⟩
section
variable {R : Nat → Nat → Prop}
theorem wk_add : ∀ {k j a b c : Nat}, wk R j a b → wk R k b c → wk R (j + k) a c
  | 0, _, _, _, _, h, h' => by cases (show _ = _ from h'); exact h
  | k + 1, _, _, _, _, h, ⟨d, h1, h2⟩ => ⟨d, wk_add h h1, h2⟩
theorem wk_split : ∀ {k j a c : Nat}, wk R (j + k) a c → ∃ b, wk R j a b ∧ wk R k b c
  | 0, _, _, c, h => ⟨c, h, rfl⟩
  | k + 1, j, _, c, h => by
    obtain ⟨d, h1, h2⟩ := (show ∃ d, wk R (j + k) _ d ∧ R d c from h)
    obtain ⟨b, h3, h4⟩ := wk_split h1
    exact ⟨b, h3, d, h4, h2⟩
theorem wk_one {a b : Nat} (h : R a b) : wk R 1 a b := ⟨a, rfl, h⟩
theorem wk_head {k a b : Nat} : wk R (k + 1) a b ↔ ∃ c, R a c ∧ wk R k c b := by
  constructor
  · intro h
    rw [Nat.add_comm] at h
    obtain ⟨c, ⟨d, h1, h2⟩, h3⟩ := wk_split h
    cases (show a = d from h1)
    exact ⟨c, h2, h3⟩
  · rintro ⟨c, h1, h2⟩
    rw [Nat.add_comm]
    exact wk_add (wk_one h1) h2
theorem rc_trans {a b c : Nat} (h : rc R a b) (h' : rc R b c) : rc R a c := by
  obtain ⟨k, h1, h2⟩ := h
  obtain ⟨j, h3, h4⟩ := h'
  exact ⟨k + j, by omega, wk_add h2 h4⟩
theorem rc_one {a b : Nat} (h : R a b) : rc R a b := ⟨1, Nat.le_refl _, wk_one h⟩
theorem mates.symm {a b : Nat} (h : mates R a b) : mates R b a := ⟨h.2, h.1⟩
theorem mates.trans {a b c : Nat} (h : mates R a b) (h' : mates R b c) : mates R a c := ⟨rc_trans h.1 h'.1, rc_trans h'.2 h.2⟩
theorem mates.self {a b : Nat} (h : mates R a b) : mates R a a := h.trans h.symm
theorem wk_zero {a b : Nat} : wk R 0 a b ↔ a = b := Iff.rfl
theorem wk_mul (s : Nat) : ∀ {j a b : Nat}, wk R (s * j) a b ↔ wk (wk R s) j a b
  | 0, a, b => by rw [Nat.mul_zero]; exact Iff.rfl
  | j + 1, a, b => by
    rw [Nat.mul_succ]
    constructor
    · intro h
      obtain ⟨c, h1, h2⟩ := wk_split h
      exact ⟨c, (wk_mul s).1 h1, h2⟩
    · rintro ⟨c, h1, h2⟩
      exact wk_add ((wk_mul s).2 h1) h2
theorem wk_loop {s a : Nat} (h : wk R s a a) : ∀ j, wk R (s * j) a a
  | 0 => by rw [Nat.mul_zero]; exact rfl
  | j + 1 => by rw [Nat.mul_succ]; exact wk_add (wk_loop h j) h
/-- A walk between labels below n has a walk of fewer than n arcs beside it. -/
theorem wk_short {n k a b : Nat} (hb : ∀ x y, R x y → x < n ∧ y < n) (ha : a < n) (h : wk R k a b) : ∃ j, j ≤ k ∧ j < n ∧ wk R j a b := by
  obtain ⟨d, h1, h2, h3⟩ := least (fun j => wk R j a b) k h
  refine ⟨d, h1, ?_, h2⟩
  have hv : ∀ i, ∃ v, i ≤ d → wk R i a v ∧ wk R (d - i) v b := by
    intro i
    by_cases e : i ≤ d
    · rw [show d = i + (d - i) by omega] at h2
      obtain ⟨v, h4, h5⟩ := wk_split h2
      exact ⟨v, fun _ => ⟨h4, h5⟩⟩
    · exact ⟨0, fun q => absurd q e⟩
  have := inj_le n (d + 1) (fun i => (hv i).choose) (by
    intro i hi
    have h4 := ((hv i).choose_spec (by omega)).1
    show (hv i).choose < n
    generalize (hv i).choose = v at h4
    match i, h4 with
    | 0, h4 => cases (show a = v from h4); exact ha
    | i + 1, ⟨c, _, h5⟩ => exact (hb _ _ h5).2) (by
    intro i j hij hj q
    have h4 := ((hv i).choose_spec (by omega)).1
    have h5 := ((hv j).choose_spec (by omega)).2
    rw [← q] at h5
    exact h3 _ (by omega) (wk_add h4 h5))
  omega
/-- .. and of at least one and at most n arcs. -/
theorem rc_short {n a b : Nat} (hb : ∀ x y, R x y → x < n ∧ y < n) (h : rc R a b) : ∃ j, 1 ≤ j ∧ j ≤ n ∧ wk R j a b := by
  obtain ⟨k, hk, h⟩ := h
  obtain ⟨k, rfl⟩ : ∃ j, k = j + 1 := ⟨k - 1, by omega⟩
  obtain ⟨c, h1, h2⟩ := wk_head.1 h
  obtain ⟨j, _, h3, h4⟩ := wk_short hb (hb _ _ h1).2 h2
  exact ⟨j + 1, by omega, by omega, wk_head.2 ⟨c, h1, h4⟩⟩
theorem rc_lt {n a b : Nat} (hb : ∀ x y, R x y → x < n ∧ y < n) (h : rc R a b) : a < n ∧ b < n := by
  obtain ⟨k, hk, h⟩ := h
  obtain ⟨k, rfl⟩ : ∃ j, k = j + 1 := ⟨k - 1, by omega⟩
  obtain ⟨c, h1, h2⟩ := wk_head.1 h
  obtain ⟨c', h3, h4⟩ := h
  exact ⟨(hb _ _ h1).1, (hb _ _ h4).2⟩
/-! ### Depths and periods -/
/-- f tells of each mate of r the length of some walk from r. -/
def Pot (R : Nat → Nat → Prop) (r : Nat) (f : Nat → Nat) : Prop := f r = 0 ∧ ∀ b, mates R r b → wk R (f b) r b
def dft (f : Nat → Nat) (x y : Nat) : Int := (f x : Int) + 1 - f y
/-- d is the greatest common divisor of the arcs' defects. -/
def Per (R : Nat → Nat → Prop) (r : Nat) (f : Nat → Nat) (d : Nat) : Prop := ∀ e : Nat, e ∣ d ↔ ∀ x y, R x y → mates R r x → mates R r y → (e : Int) ∣ dft f x y
theorem mates_step {r x y : Nat} (hy : mates R r y) (hx : R x y) {k : Nat} (h : wk R k r x) (hr : mates R r r) : mates R r x := by
  refine ⟨?_, rc_trans (rc_one hx) hy.2⟩
  by_cases e : k = 0
  · subst e
    cases (show r = x from h)
    exact hr.1
  · exact ⟨k, by omega, h⟩
/-- The length of any walk from r differs from the depth by a multiple. -/
theorem pot_walk {r e : Nat} {f : Nat → Nat} (hr : mates R r r) (h0 : f r = 0) (hd : ∀ x y, R x y → mates R r x → mates R r y → (e : Int) ∣ dft f x y) :
    ∀ (k b : Nat), mates R r b → wk R k r b → (e : Int) ∣ (k : Int) - f b
  | 0, b, _, h => by
    cases (show r = b from h)
    rw [h0]
    exact ⟨0, by omega⟩
  | k + 1, b, hb, ⟨c, h1, h2⟩ => by
    have hc := mates_step hb h2 h1 hr
    obtain ⟨p, hp⟩ := pot_walk hr h0 hd k c hc h1
    obtain ⟨q, hq⟩ := hd c b h2 hc hb
    refine ⟨p + q, ?_⟩
    unfold dft at hq
    rw [Int.mul_add]
    omega
theorem per_dvd {r : Nat} {f g : Nat → Nat} {d d' : Nat} (hr : mates R r r) (hf : Pot R r f) (hg : Pot R r g) (h : Per R r f d) (h' : Per R r g d') : d ∣ d' := by
  have hd := (h d).1 (Nat.dvd_refl d)
  refine (h' d).2 fun x y hxy hx hy => ?_
  obtain ⟨p, hp⟩ := pot_walk hr hf.1 hd _ _ hx (hg.2 x hx)
  obtain ⟨q, hq⟩ := pot_walk hr hf.1 hd _ _ hy (hg.2 y hy)
  obtain ⟨s, hs⟩ := hd x y hxy hx hy
  refine ⟨s + p - q, ?_⟩
  unfold dft at *
  rw [Int.mul_sub, Int.mul_add]
  omega
/-- Two depths have one period. -/
theorem per_eq {r : Nat} {f g : Nat → Nat} {d d' : Nat} (hr : mates R r r) (hf : Pot R r f) (hg : Pot R r g) (h : Per R r f d) (h' : Per R r g d') : d = d' :=
  Nat.dvd_antisymm (per_dvd hr hf hg h h') (per_dvd hr hg hf h' h)
theorem per_pos {r : Nat} {f : Nat → Nat} {d : Nat} (hr : mates R r r) (hf : Pot R r f) (h : Per R r f d) : 0 < d := by
  have hd := (h d).1 (Nat.dvd_refl d)
  obtain ⟨k, h1, h2⟩ := hr.1
  obtain ⟨p, hp⟩ := pot_walk hr hf.1 hd _ _ hr h2
  rw [hf.1] at hp
  rcases Nat.eq_zero_or_pos d with e | e
  · subst e
    simp at hp
    omega
  · exact e
/-- .. and the same residues. -/
theorem per_mod {r b : Nat} {f g : Nat → Nat} {d : Nat} (hr : mates R r r) (hf : Pot R r f) (hg : Pot R r g) (h : Per R r f d) (hb : mates R r b) : f b % d = g b % d := by
  have hd := (h d).1 (Nat.dvd_refl d)
  obtain ⟨p, hp⟩ := pot_walk hr hf.1 hd _ _ hb (hg.2 b hb)
  have : (g b : Int) % (d : Int) = (f b : Int) % (d : Int) := by
    rw [show (g b : Int) = f b + d * p by omega, Int.add_mul_emod_self_left]
  exact_mod_cast this.symm
/-! ### Flexible labels -/
theorem res_all {r a s : Nat} {f : Nat → Nat} (hs : 1 ≤ s) (hsa : wk R s a a) (hr : mates R r r) (ha : mates R r a) (hf : Pot R r f) (h1 : Per R r f 1) (m : Int) : ∃ k, wk R k a a ∧ (s : Int) ∣ (k : Int) - m := by
  obtain ⟨S, hS⟩ : ∃ S : Int → Prop, S = fun m => ∃ k, wk R k a a ∧ (s : Int) ∣ (k : Int) - m := ⟨_, rfl⟩
  have hk : ∀ k : Nat, wk R k a a → S k := fun k h => by rw [hS]; exact ⟨k, h, 0, by omega⟩
  have hadd : ∀ x y, S x → S y → S (x + y) := by
    rw [hS]
    rintro x y ⟨k, h2, p, hp⟩ ⟨j, h3, q, hq⟩
    exact ⟨k + j, wk_add h2 h3, p + q, by rw [Int.mul_add]; omega⟩
  have hneg : ∀ x, S x → S (-x) := by
    rw [hS]
    rintro x ⟨k, h2, p, hp⟩
    refine ⟨k * (s - 1), wk_loop h2 _, k - p, ?_⟩
    obtain ⟨t, rfl⟩ : ∃ t, s = t + 1 := ⟨s - 1, by omega⟩
    rw [Int.mul_sub, ← hp]
    push_cast
    rw [Int.add_mul, Int.mul_comm (t : Int) k]
    omega
  have h0 : S 0 := hk 0 rfl
  have hnat : ∀ x, S x → ∀ j : Nat, S (x * j) := by
    intro x hx j
    induction j with
    | zero => simpa using h0
    | succ j ih =>
      have := hadd _ _ ih hx
      rw [show x * ((j + 1 : Nat) : Int) = x * j + x by push_cast; rw [Int.mul_add, Int.mul_one]]
      exact this
  have hmul : ∀ x, S x → ∀ j : Int, S (x * j) := by
    intro x hx j
    rcases Int.le_total 0 j with q | q
    · obtain ⟨i, rfl⟩ := Int.eq_ofNat_of_zero_le q
      exact hnat x hx i
    · obtain ⟨i, hi⟩ := Int.eq_ofNat_of_zero_le (show 0 ≤ -j by omega)
      have := hneg _ (hnat x hx i)
      rw [← hi] at this
      rw [show x * j = -(x * -j) by rw [Int.mul_neg, Int.neg_neg]]
      exact this
  obtain ⟨g, _, ⟨hg1, hg⟩, hmin⟩ := least (fun g => 1 ≤ g ∧ S (g : Int)) s ⟨hs, hk s hsa⟩
  have hdv : ∀ x, S x → (g : Int) ∣ x := by
    intro x hx
    have h2 := hadd _ _ hx (hneg _ (hmul _ hg (x / g)))
    have h3 : x + -((g : Int) * (x / g)) = x % g := by have := Int.emod_add_mul_ediv x g; omega
    rw [h3] at h2
    have h4 := Int.emod_nonneg x (show (g : Int) ≠ 0 by omega)
    have h5 := Int.emod_lt_of_pos x (show (0 : Int) < g by omega)
    obtain ⟨i, hi⟩ := Int.eq_ofNat_of_zero_le h4
    rw [hi] at h2 h5
    have h6 : i = 0 := by
      rcases Nat.eq_zero_or_pos i with q | q
      · exact q
      · exact absurd ⟨q, h2⟩ (hmin i (by omega))
    rw [h6] at hi
    exact Int.dvd_of_emod_eq_zero hi
  have hg' : g ∣ 1 := by
    refine (h1 g).2 fun x y hxy hx hy => ?_
    obtain ⟨u, _, hu⟩ := (ha.symm).1
    obtain ⟨q, _, hq⟩ := (hy.symm.trans ha).1
    obtain ⟨p1, e1⟩ := hdv _ (hk _ (wk_add (wk_add hu (show wk R (f x + 1) r y from ⟨x, hf.2 x hx, hxy⟩)) hq))
    obtain ⟨p2, e2⟩ := hdv _ (hk _ (wk_add (wk_add hu (hf.2 y hy)) hq))
    refine ⟨p1 - p2, ?_⟩
    rw [Int.mul_sub, ← e1, ← e2]
    unfold dft
    push_cast
    omega
  have hg2 : g = 1 := Nat.dvd_one.1 hg'
  subst hg2
  have := hmul _ hg m
  rw [hS] at this
  simpa using this
/-- In a component with the period 1, all long closed walks are there. -/
theorem flex_all {n r a : Nat} {f : Nat → Nat} (hb : ∀ x y, R x y → x < n ∧ y < n) (hr : mates R r r) (ha : mates R r a) (hf : Pot R r f) (h1 : Per R r f 1) (k : Nat) (hk : n * n ≤ k) : wk R k a a := by
  obtain ⟨s, hs1, hsn, hsa⟩ := rc_short hb ha.symm.self.1
  have han := (rc_lt hb ha.1).2
  have hbs : ∀ x y, wk R s x y → x < n ∧ y < n := fun x y h => rc_lt hb ⟨s, hs1, h⟩
  have key : ∀ b, mates R r b → wk R (s * (n - 1)) a b := by
    intro b hbm
    obtain ⟨t, _, ht⟩ := (ha.symm.trans hbm).1
    obtain ⟨j, hj, hd⟩ := res_all hs1 hsa hr ha hf h1 (-(t : Int))
    rw [show (j : Int) - -(t : Int) = ((j + t : Nat) : Int) by push_cast; omega] at hd
    obtain ⟨c, hc⟩ := Int.natCast_dvd_natCast.1 hd
    have hw := wk_add hj ht
    rw [hc] at hw
    obtain ⟨i, _, hi, hwi⟩ := wk_short hbs han ((wk_mul s).1 hw)
    have := wk_add ((wk_mul s).1 (wk_loop hsa (n - 1 - i))) hwi
    rw [show n - 1 - i + i = n - 1 by omega] at this
    exact (wk_mul s).2 this
  have hle : s * (n - 1) ≤ n * n := Nat.mul_le_mul hsn (by omega)
  obtain ⟨m, rfl⟩ : ∃ m, k = s * (n - 1) + m := ⟨k - s * (n - 1), by omega⟩
  have hm : m ≤ s * m := Nat.le_mul_of_pos_left m (by omega)
  have hl := wk_loop hsa m
  rw [show s * m = s * m - m + m by omega] at hl
  obtain ⟨b, h2, h3⟩ := wk_split hl
  have hba : mates R r b := by
    by_cases q : s * m - m = 0
    · rw [q] at h2
      cases (show a = b from h2)
      exact ha
    · by_cases q2 : m = 0
      · subst q2; omega
      · exact ha.trans ⟨⟨_, by omega, h2⟩, ⟨m, by omega, h3⟩⟩
  exact wk_add (key b hba) h3
end
/-! ### The length from which on all are there -/
def downB (P : Nat → Bool) : Nat → Nat
  | 0 => 1
  | k + 1 => if P (k + 1) = true then downB P k else k + 2
theorem down_eq (P : Nat → Bool) (L : Nat) : ∀ M, L ≤ M → (∀ k, L < k → k ≤ M → P k = true) → downB P M = downB P L
  | 0, h, _ => by rw [show L = 0 by omega]
  | M + 1, h, hp => by
    by_cases e : L = M + 1
    · rw [e]
    · rw [downB, if_pos (hp _ (by omega) (by omega))]
      exact down_eq P L M (by omega) (fun k h1 h2 => hp k h1 (by omega))
theorem down_le (P : Nat → Bool) : ∀ M, downB P M ≤ M + 1
  | 0 => Nat.le_refl _
  | M + 1 => by
    rw [downB]
    split
    · have := down_le P M; omega
    · omega
theorem down_up (P : Nat → Bool) : ∀ M k, downB P M ≤ k → k ≤ M → P k = true
  | 0, k, h, h' => by rw [downB] at h; omega
  | M + 1, k, h, h' => by
    rw [downB] at h
    split at h
    · rename_i e
      by_cases q : k = M + 1
      · rw [q]; exact e
      · exact down_up P M k h (by omega)
    · omega
theorem down_pos (P : Nat → Bool) : ∀ M, 1 ≤ downB P M
  | 0 => Nat.le_refl _
  | M + 1 => by
    rw [downB]
    split
    · exact down_pos P M
    · omega
end Go.Proofs.YtjhljipehnmbnaaGreat
