/-
  The draws' generator x -> a x + c mod 2^64: from every seed on, its bits 40 to 47 take every value. Plain arithmetic; no program in sight, no condition.
-/
import Derived.WalkKit
namespace Go.Proofs.YtdghoienjegffaaGreat
set_option linter.all false
def lcg (s : Nat) : Nat := (s * 6364136223846793005 + 1442695040888963407) % 18446744073709551616
def itN (f : Nat → Nat) : Nat → Nat → Nat
  | 0, s => s
  | k + 1, s => itN f k (f s)
theorem itN_zero (f : Nat → Nat) (s : Nat) : itN f 0 s = s := rfl
theorem itN_succ (f : Nat → Nat) (k s : Nat) : itN f (k + 1) s = itN f k (f s) := rfl
theorem itN_add (f : Nat → Nat) (j k s : Nat) : itN f (j + k) s = itN f k (itN f j s) := by
  induction j generalizing s with
  | zero => rw [Nat.zero_add, itN_zero]
  | succ j ih => rw [Nat.succ_add, itN_succ, itN_succ, ih]
def lcgN (k s : Nat) : Nat := itN lcg k s
theorem lcgN_zero (s : Nat) : lcgN 0 s = s := itN_zero lcg s
theorem lcgN_succ (k s : Nat) : lcgN (k + 1) s = lcgN k (lcg s) := itN_succ lcg k s
theorem lcgN_add (j k s : Nat) : lcgN (j + k) s = lcgN k (lcgN j s) := itN_add lcg j k s
def lcgP : Nat → Nat × Nat
  | 0 => (6364136223846793005 % 281474976710656, 1442695040888963407 % 281474976710656)
  | k + 1 => ((lcgP k).1 * (lcgP k).1 % 281474976710656, ((lcgP k).1 + 1) * (lcgP k).2 % 281474976710656)
theorem aff_mod {M x y : Nat} (A C : Nat) (h : x % M = y % M) : (x * A + C) % M = (y * A + C) % M := by
  rw [Nat.add_mod, Nat.mul_mod, h, ← Nat.mul_mod, ← Nat.add_mod]
theorem aff_mod2 (M x A C : Nat) : (x * (A % M) + C % M) % M = (x * A + C) % M := by
  rw [Nat.add_mod, Nat.mul_mod, Nat.mod_mod, Nat.mod_mod, ← Nat.mul_mod, ← Nat.add_mod]
theorem lcgP_spec : ∀ (k s : Nat), lcgN (2 ^ k) s % 281474976710656 = (s * (lcgP k).1 + (lcgP k).2) % 281474976710656
  | 0, s => by
    rw [show 2 ^ 0 = 0 + 1 from rfl, lcgN_succ, lcgN_zero, lcgP]
    unfold lcg
    rw [Nat.mod_mod_of_dvd _ (show 281474976710656 ∣ 18446744073709551616 from ⟨65536, rfl⟩), aff_mod2]
  | k + 1, s => by
    rw [Nat.pow_succ, Nat.mul_two, lcgN_add, lcgP_spec k, aff_mod _ _ (lcgP_spec k s), lcgP]
    dsimp only
    rw [aff_mod2]
    congr 1
    rw [Nat.add_mul, Nat.mul_assoc, Nat.add_mul (lcgP k).1 1, Nat.one_mul, Nat.mul_comm (lcgP k).2, Nat.add_assoc]
theorem lcgP_step {k a c : Nat} (h : lcgP k = (a, c)) : lcgP (k + 1) = (a * a % 281474976710656, (a + 1) * c % 281474976710656) := by rw [lcgP, h]
theorem lcgP_40 : lcgP 40 = (1 + 4398046511104 * 25, 1099511627776 * 5) := by
 have h : lcgP 0 = (268475395571501, 135785246851407) := by decide +kernel
 replace h : lcgP 1 = (167821578317289, 261759008664882) := (lcgP_step h).trans (by decide +kernel)
 replace h : lcgP 2 = (64749088980497, 29590162545076) := (lcgP_step h).trans (by decide +kernel)
 replace h : lcgP 3 = (240102500547873, 131452784502440) := (lcgP_step h).trans (by decide +kernel)
 replace h : lcgP 4 = (50425220480577, 195974542109264) := (lcgP_step h).trans (by decide +kernel)
 replace h : lcgP 5 = (28054275001473, 53465906759840) := (lcgP_step h).trans (by decide +kernel)
 replace h : lcgP 6 = (259207438620929, 88701075874112) := (lcgP_step h).trans (by decide +kernel)
 replace h : lcgP 7 = (228747937296897, 90869567586944) := (lcgP_step h).trans (by decide +kernel)
 replace h : lcgP 8 = (156190090421249, 79740997534976) := (lcgP_step h).trans (by decide +kernel)
 replace h : lcgP 9 = (223544135305217, 184979017304576) := (lcgP_step h).trans (by decide +kernel)
 replace h : lcgP 10 = (37082039685121, 209632069686272) := (lcgP_step h).trans (by decide +kernel)
 replace h : lcgP 11 = (28740253589505, 201727522908160) := (lcgP_step h).trans (by decide +kernel)
 replace h : lcgP 12 = (106957523795969, 214249874935808) := (lcgP_step h).trans (by decide +kernel)
 replace h : lcgP 13 = (9401858293761, 52659845373952) := (lcgP_step h).trans (by decide +kernel)
 replace h : lcgP 14 = (203505563926529, 242431421399040) := (lcgP_step h).trans (by decide +kernel)
 replace h : lcgP 15 = (160656098721793, 83331719004160) := (lcgP_step h).trans (by decide +kernel)
 replace h : lcgP 16 = (180317011050497, 249388803096576) := (lcgP_step h).trans (by decide +kernel)
 replace h : lcgP 17 = (78128253239297, 266729113124864) := (lcgP_step h).trans (by decide +kernel)
 replace h : lcgP 18 = (152133337874433, 168214207397888) := (lcgP_step h).trans (by decide +kernel)
 replace h : lcgP 19 = (6299024621569, 1352246231040) := (lcgP_step h).trans (by decide +kernel)
 replace h : lcgP 20 = (228102328287233, 69774701756416) := (lcgP_step h).trans (by decide +kernel)
 replace h : lcgP 21 = (192321865908225, 126355263979520) := (lcgP_step h).trans (by decide +kernel)
 replace h : lcgP 22 = (173537499283457, 199933969825792) := (lcgP_step h).trans (by decide +kernel)
 replace h : lcgP 23 = (65600021856257, 188761707118592) := (lcgP_step h).trans (by decide +kernel)
 replace h : lcgP 24 = (131200043712513, 96048437526528) := (lcgP_step h).trans (by decide +kernel)
 replace h : lcgP 25 = (262400087425025, 192096875053056) := (lcgP_step h).trans (by decide +kernel)
 replace h : lcgP 26 = (243325198139393, 102718773395456) := (lcgP_step h).trans (by decide +kernel)
 replace h : lcgP 27 = (205175419568129, 205437546790912) := (lcgP_step h).trans (by decide +kernel)
 replace h : lcgP 28 = (128875862425601, 129400116871168) := (lcgP_step h).trans (by decide +kernel)
 replace h : lcgP 29 = (257751724851201, 258800233742336) := (lcgP_step h).trans (by decide +kernel)
 replace h : lcgP 30 = (234028472991745, 236125490774016) := (lcgP_step h).trans (by decide +kernel)
 replace h : lcgP 31 = (186581969272833, 190776004837376) := (lcgP_step h).trans (by decide +kernel)
 replace h : lcgP 32 = (91688961835009, 100077032964096) := (lcgP_step h).trans (by decide +kernel)
 replace h : lcgP 33 = (183377923670017, 200154065928192) := (lcgP_step h).trans (by decide +kernel)
 replace h : lcgP 34 = (85280870629377, 118833155145728) := (lcgP_step h).trans (by decide +kernel)
 replace h : lcgP 35 = (170561741258753, 237666310291456) := (lcgP_step h).trans (by decide +kernel)
 replace h : lcgP 36 = (59648505806849, 193857643872256) := (lcgP_step h).trans (by decide +kernel)
 replace h : lcgP 37 = (119297011613697, 106240311033856) := (lcgP_step h).trans (by decide +kernel)
 replace h : lcgP 38 = (238594023227393, 212480622067712) := (lcgP_step h).trans (by decide +kernel)
 replace h : lcgP 39 = (195713069744129, 143486267424768) := (lcgP_step h).trans (by decide +kernel)
 replace h : lcgP 40 = (109951162777601, 5497558138880) := (lcgP_step h).trans (by decide +kernel)
 exact h
def hi8 (s : Nat) : Nat := s / 1099511627776 % 256
def jump (s : Nat) : Nat := lcgN (2 ^ 40) s
def shiftV (r : Nat) : Nat := (4 * 25 * r + 5) % 256
theorem jump_spec (s : Nat) : jump s % 1099511627776 = s % 1099511627776 ∧ hi8 (jump s) = (hi8 s + shiftV (s % 1099511627776)) % 256 := by
  have h := lcgP_spec 40 s
  rw [lcgP_40] at h
  dsimp only at h
  unfold jump hi8 shiftV
  generalize lcgN (2 ^ 40) s = z at h ⊢
  have e : s * (1 + 4398046511104 * 25) + 1099511627776 * 5 = s % 1099511627776 + 1099511627776 * (s / 1099511627776 + 100 * (s % 1099511627776) + 5 + 109951162777600 * (s / 1099511627776)) := by omega
  rw [e] at h
  have hb : s % 1099511627776 < 1099511627776 := Nat.mod_lt _ (by decide)
  clear e
  generalize s % 1099511627776 = b at h hb ⊢
  generalize s / 1099511627776 = d at h ⊢
  obtain ⟨X, hX⟩ : ∃ X, X = d + 100 * b + 5 + 109951162777600 * d := ⟨_, rfl⟩
  rw [← hX] at h
  have h3 : z % 281474976710656 = b + 1099511627776 * (X % 256) := by omega
  have h4 : X % 256 = (d % 256 + (4 * 25 * b + 5) % 256) % 256 := by omega
  rw [← h4]
  clear h h4 hX
  generalize X % 256 = Y at h3
  constructor
  · omega
  · omega
theorem pow64 : ∀ v, v < 256 → v % 2 = 1 → v ^ 64 % 256 = 1 := by decide +kernel
theorem shift_odd (r : Nat) : shiftV r % 2 = 1 ∧ shiftV r < 256 := by unfold shiftV; omega
def jumps (k s : Nat) : Nat := itN jump k s
theorem jumps_zero (s : Nat) : jumps 0 s = s := itN_zero jump s
theorem jumps_succ (k s : Nat) : jumps (k + 1) s = jumps k (jump s) := itN_succ jump k s
theorem jumps_spec : ∀ (j s : Nat), hi8 (jumps j s) = (hi8 s + j * shiftV (s % 1099511627776)) % 256
  | 0, s => by rw [jumps_zero]; unfold hi8; omega
  | j + 1, s => by
    rw [jumps_succ]
    obtain ⟨h1, h2⟩ := jump_spec s
    rw [jumps_spec j (jump s), h1, h2, Nat.add_mul, Nat.one_mul]
    generalize shiftV (s % 1099511627776) = v
    generalize hi8 s = h
    rw [Nat.mod_add_mod, Nat.add_assoc, Nat.add_comm v]
theorem jumps_lcg : ∀ (j s : Nat), jumps j s = lcgN (j * 2 ^ 40) s
  | 0, s => by rw [Nat.zero_mul, jumps_zero, lcgN_zero]
  | j + 1, s => by
    rw [jumps_succ, jumps_lcg j (jump s), Nat.add_mul, Nat.one_mul, Nat.add_comm, lcgN_add]
    unfold jump
    exact Eq.refl _
theorem lcg_hits (s t : Nat) (ht : t < 256) : ∃ k, k < 281474976710656 ∧ hi8 (lcgN k s) = t := by
  obtain ⟨h1, h2⟩ := shift_odd (s % 1099511627776)
  have hp := pow64 _ h2 h1
  have hj := jumps_spec ((t + 256 - hi8 s) * shiftV (s % 1099511627776) ^ 63 % 256) s
  rw [jumps_lcg] at hj
  refine ⟨_, ?_, hj.trans ?_⟩
  · have := Nat.mod_lt ((t + 256 - hi8 s) * shiftV (s % 1099511627776) ^ 63) (show 0 < 256 by decide)
    omega
  have hh : hi8 s < 256 := by unfold hi8; omega
  generalize shiftV (s % 1099511627776) = v at *
  have e : (t + 256 - hi8 s) * v ^ 63 * v = (t + 256 - hi8 s) * v ^ 64 := by rw [Nat.mul_assoc, ← Nat.pow_succ]
  have e2 : ((t + 256 - hi8 s) * v ^ 63 % 256) * v % 256 = (t + 256 - hi8 s) % 256 := by
    rw [Nat.mul_mod, Nat.mod_mod, ← Nat.mul_mod, e, Nat.mul_mod, hp, Nat.mul_one, Nat.mod_mod]
  rw [Nat.add_mod, e2, ← Nat.add_mod]
  omega
def Hit (v t s j : Nat) : Prop := hi8 (lcgN (j + 1) s) % v = t
theorem least_ex {p : Nat → Prop} : ∀ (j : Nat), p j → ∃ k, p k ∧ ∀ i, p i → k ≤ i
  | 0, h => ⟨0, h, fun _ _ => Nat.zero_le _⟩
  | j + 1, h => Classical.byContradiction fun hc => hc (by
    by_cases h0 : ∃ i, i ≤ j ∧ p i
    · obtain ⟨i, hi, hp⟩ := h0
      exact absurd (least_upto j i hi hp) hc
    · exact ⟨j + 1, h, fun i hp => Nat.le_of_not_lt fun hl => h0 ⟨i, by omega, hp⟩⟩)
where
  least_upto (j : Nat) : ∀ i, i ≤ j → p i → ∃ k, p k ∧ ∀ i, p i → k ≤ i := by
    induction j with
    | zero => exact fun i hi hp => ⟨i, hp, fun _ _ => by omega⟩
    | succ j ih =>
      intro i hi hp
      by_cases h0 : ∃ i, i ≤ j ∧ p i
      · obtain ⟨i', hi', hp'⟩ := h0
        exact ih i' hi' hp'
      · exact ⟨i, hp, fun i' hp' => by
          have h1 : ¬ i' ≤ j := fun h => h0 ⟨i', h, hp'⟩
          omega⟩
theorem hit_some (v t s : Nat) (hv : v ≤ 256) (ht : t < v) : ∃ j, j < 281474976710656 ∧ Hit v t s j := by
  obtain ⟨k, h1, h2⟩ := lcg_hits (lcg s) t (by omega)
  exact ⟨k, h1, by unfold Hit; rw [lcgN_succ, h2]; exact Nat.mod_eq_of_lt ht⟩
theorem steps_ex (v t s : Nat) : ∃ j, (∃ i, Hit v t s i) → Hit v t s j ∧ ∀ i, Hit v t s i → j ≤ i := by
  by_cases h : ∃ i, Hit v t s i
  · obtain ⟨i, hi⟩ := h
    obtain ⟨k, h1, h2⟩ := least_ex i hi
    exact ⟨k, fun _ => ⟨h1, h2⟩⟩
  · exact ⟨0, fun h' => absurd h' h⟩
noncomputable def steps (v t s : Nat) : Nat := Classical.choose (steps_ex v t s)
theorem steps_spec (v t s : Nat) (hv : v ≤ 256) (ht : t < v) : Hit v t s (steps v t s) ∧ ∀ i, Hit v t s i → steps v t s ≤ i := by
  obtain ⟨j, h1, h2⟩ := hit_some v t s hv ht
  exact Classical.choose_spec (steps_ex v t s) ⟨j, h2⟩
theorem steps_le (v t s : Nat) (hv : v ≤ 256) (ht : t < v) : steps v t s < 281474976710656 := by
  obtain ⟨j, h1, h2⟩ := hit_some v t s hv ht
  exact Nat.lt_of_le_of_lt ((steps_spec v t s hv ht).2 j h2) h1
theorem steps_next (v t s : Nat) (hv : v ≤ 256) (ht : t < v) (hne : hi8 (lcg s) % v ≠ t) : steps v t (lcg s) < steps v t s := by
  have h3 := (steps_spec v t s hv ht).1
  generalize steps v t s = K at h3 ⊢
  cases K with
  | zero => exact absurd (by unfold Hit at h3; rw [lcgN_succ, lcgN_zero] at h3; exact h3) hne
  | succ K =>
    have h4 : Hit v t (lcg s) K := by unfold Hit at h3 ⊢; rw [lcgN_succ] at h3; exact h3
    exact Nat.lt_succ_of_le ((steps_spec v t (lcg s) hv ht).2 K h4)
noncomputable def drawM (v t n k s : Nat) : Nat := if k < n then (n - k) * 281474976710656 + 281474976710656 else steps v t s
theorem drawM_next (v t n k s s' x : Nat) (hv : v ≤ 256) (ht : t < v) (hne : x % v ≠ t) (hs : n ≤ k → s' = lcg s ∧ x = hi8 s') : drawM v t n (k + 1) s' < drawM v t n k s := by
  unfold drawM
  by_cases h : k < n
  · rw [if_pos h]
    by_cases h1 : k + 1 < n
    · rw [if_pos h1]; omega
    · rw [if_neg h1]
      have := steps_le v t s' hv ht
      omega
  · rw [if_neg h, if_neg (by omega)]
    obtain ⟨e1, e2⟩ := hs (by omega)
    rw [e1] at e2 ⊢
    rw [e2] at hne
    exact steps_next v t s hv ht hne
end Go.Proofs.YtdghoienjegffaaGreat
