/-
  How the program finds components: the labels that reach and are reached, label by label. Plain facts; no program in sight, no condition.
-/
import Derived.Test.YtjhljipehnmbnaaGreatCwI4
namespace Go.Proofs.YtjhljipehnmbnaaGreat
set_option linter.unusedVariables false
def komp (xss : List (List Int)) (a b : Nat) : Prop := b = a ∨ mates (hasArc xss) a b
noncomputable def kompL (xss : List (List Int)) (a : Nat) : List Nat := lsP (komp xss a)
theorem komp_iff {n : Nat} {xss : List (List Int)} (hg : Good n xss) {a b : Nat} (ha : a < n) : ((∃ k, k ≤ n ∧ wk (hasArc xss) k a b) ∧ ∃ k, k ≤ n ∧ wk (hasArc xss) k b a) ↔ komp xss a b := by
  constructor
  · rintro ⟨⟨k, _, h1⟩, j, _, h2⟩
    by_cases e : k = 0
    · subst e; exact .inl (show a = b from h1).symm
    · by_cases e2 : j = 0
      · subst e2; exact .inl (show b = a from h2)
      · exact .inr ⟨⟨k, by omega, h1⟩, ⟨j, by omega, h2⟩⟩
  · rintro (rfl | h)
    · exact ⟨⟨0, by omega, rfl⟩, 0, by omega, rfl⟩
    · obtain ⟨k, _, h1, h2⟩ := rc_short (fun x y => arc_lt hg) h.1
      obtain ⟨j, _, h3, h4⟩ := rc_short (fun x y => arc_lt hg) h.2
      exact ⟨⟨k, h1, h2⟩, j, h3, h4⟩
theorem kompL_lt {n : Nat} {xss : List (List Int)} (hg : Good n xss) {a : Nat} (ha : a < n) : ∀ b ∈ kompL xss a, b < n := by
  intro b hb
  rcases (mem_lsP.1 hb).2 with rfl | h
  · exact ha
  · exact (rc_lt (fun x y => arc_lt hg) h.1).2
theorem kompL_mem {n : Nat} {xss : List (List Int)} (hg : Good n xss) {a b : Nat} (ha : a < n) : b ∈ kompL xss a ↔ komp xss a b := by
  have hn := good_n hg
  constructor
  · exact fun h => (mem_lsP.1 h).2
  · intro h
    refine mem_lsP.2 ⟨?_, h⟩
    rcases h with rfl | h
    · omega
    · have := (rc_lt (fun x y => arc_lt hg) h.1).2
      omega
theorem komp_comp {xss : List (List Int)} {a : Nat} (h : mates (hasArc xss) a a) : kompL xss a = compL xss a := lsP_congr fun b _ => by
  unfold komp
  constructor
  · rintro (rfl | k)
    · exact h
    · exact k
  · exact .inr
/-- The labels of l that reach a. -/
noncomputable def kf (n : Nat) (xss : List (List Int)) (a : Nat) (l : List Nat) : List Nat := l.filter fun b => (closN n xss b).testBit a
theorem kf_t {n : Nat} {xss : List (List Int)} {a b : Nat} {l : List Nat} (h : (closN n xss b).testBit a = true) : kf n xss a (l ++ [b]) = kf n xss a l ++ [b] := by simp [kf, h]
theorem kf_f {n : Nat} {xss : List (List Int)} {a b : Nat} {l : List Nat} (h : ¬ (closN n xss b).testBit a = true) : kf n xss a (l ++ [b]) = kf n xss a l := by simp [kf, h]
theorem kf_len {n : Nat} {xss : List (List Int)} {a : Nat} {l : List Nat} : (kf n xss a l).length ≤ l.length := List.length_filter_le _ _
theorem kf_all {n : Nat} {xss : List (List Int)} (hg : Good n xss) {a : Nat} (ha : a < n) : kf n xss a (bl (closN n xss a) 12) = kompL xss a := by
  have hn := good_n hg
  unfold kf closN
  rw [bl_set]
  unfold kompL lsP
  rw [List.filter_filter]
  refine List.filter_congr fun b hb => ?_
  have hb := List.mem_range.1 hb
  rw [Bool.eq_iff_iff, Bool.and_eq_true, bitSet_bit, propB_iff, propB_iff, ← komp_iff hg ha]
  constructor
  · rintro ⟨h1, h2⟩; exact ⟨h2, h1.2⟩
  · rintro ⟨h1, h2⟩; exact ⟨⟨by omega, h2⟩, h1⟩
theorem clos_bl {n : Nat} {xss : List (List Int)} (hg : Good n xss) {a : Nat} (ha : a < n) : ∀ b ∈ bl (closN n xss a) 12, b < n := by
  intro b hb
  unfold closN at hb
  rw [bl_set] at hb
  obtain ⟨k, _, h⟩ := (mem_lsP.1 hb).2
  exact wk_lt hg ha h
/-- The labels that are done behind k rounds. -/
noncomputable def doneN (xss : List (List Int)) (k : Nat) : Nat := bitSet fun b => ∃ c, c < k ∧ komp xss c b
theorem doneN_lt (xss : List (List Int)) (k : Nat) : doneN xss k < 4096 := bitSet_lt _
theorem doneN_zero (xss : List (List Int)) : doneN xss 0 = 0 := (bitSet_eq fun b => by simp).symm
theorem doneN_bit {n : Nat} {xss : List (List Int)} (hg : Good n xss) {k : Nat} (hk : k < n) : (doneN xss k).testBit k = true ↔ ∃ c, c < k ∧ mates (hasArc xss) c k := by
  have hn := good_n hg
  unfold doneN
  rw [bitSet_bit]
  constructor
  · rintro ⟨_, c, h1, rfl | h2⟩
    · omega
    · exact ⟨c, h1, h2⟩
  · rintro ⟨c, h1, h2⟩
    exact ⟨by omega, c, h1, .inr h2⟩
theorem doneN_skip {n : Nat} {xss : List (List Int)} (hg : Good n xss) {k : Nat} (hk : k < n) (h : (doneN xss k).testBit k = true) : doneN xss (k + 1) = doneN xss k := by
  obtain ⟨c, h1, h2⟩ := (doneN_bit hg hk).1 h
  refine bitSet_congr fun b _ => ?_
  constructor
  · rintro ⟨d, h3, h4⟩
    by_cases e : d = k
    · subst e
      rcases h4 with rfl | h4
      · exact ⟨c, h1, .inr h2⟩
      · exact ⟨c, h1, .inr (h2.trans h4)⟩
    · exact ⟨d, by omega, h4⟩
  · rintro ⟨d, h3, h4⟩
    exact ⟨d, by omega, h4⟩
theorem setN_bit {l : List Nat} {b : Nat} : (setN l).testBit b = true ↔ b ∈ l := by
  unfold setN
  rw [foldl_bit]
  simp
theorem doneN_more {n : Nat} {xss : List (List Int)} (hg : Good n xss) {k : Nat} (hk : k < n) : doneN xss k ||| setN (kompL xss k) = doneN xss (k + 1) := by
  have hn := good_n hg
  refine bitSet_eq fun b => ?_
  rw [Nat.testBit_or, Bool.or_eq_true, setN_bit]
  unfold doneN
  rw [bitSet_bit]
  constructor
  · rintro (⟨h1, c, h2, h3⟩ | h)
    · exact ⟨h1, c, by omega, h3⟩
    · have := mem_lsP.1 h
      exact ⟨this.1, k, by omega, this.2⟩
  · rintro ⟨h1, c, h2, h3⟩
    by_cases e : c = k
    · subst e
      exact .inr (mem_lsP.2 ⟨h1, h3⟩)
    · exact .inl ⟨h1, c, by omega, h3⟩
/-- Whether one of the labels of l has an arc to one of the set. -/
noncomputable def inN (xss : List (List Int)) (s : Nat) (l : List Nat) : Bool := propB (∃ b ∈ l, mask xss b &&& s ≠ 0)
theorem inN_nil (xss : List (List Int)) (s : Nat) : inN xss s [] = false := propB_f (by simp)
theorem inN_old {xss : List (List Int)} {s b : Nat} {l : List Nat} (h : inN xss s l = true) : inN xss s (l ++ [b]) = true := by
  obtain ⟨c, h1, h2⟩ := propB_iff.1 h
  exact propB_t ⟨c, by simp [h1], h2⟩
theorem inN_new {xss : List (List Int)} {s b : Nat} {l : List Nat} (h : inN xss s l = false) : inN xss s (l ++ [b]) = decide (mask xss b &&& s ≠ 0) := by
  rw [Bool.eq_iff_iff]
  unfold inN at *
  rw [propB_iff, decide_eq_true_eq]
  constructor
  · rintro ⟨c, h1, h2⟩
    rcases List.mem_append.1 h1 with h1 | h1
    · exact absurd (propB_t (p := ∃ b ∈ l, mask xss b &&& s ≠ 0) ⟨c, h1, h2⟩) (by rw [h]; simp)
    · simp at h1; subst h1; exact h2
  · intro h2
    exact ⟨b, by simp, h2⟩
theorem and_ne {x y : Nat} : x &&& y ≠ 0 ↔ ∃ i, x.testBit i = true ∧ y.testBit i = true := by
  constructor
  · intro h
    obtain ⟨i, hi⟩ := Nat.exists_testBit_of_ne_zero h
    rw [Nat.testBit_and, Bool.and_eq_true] at hi
    exact ⟨i, hi⟩
  · rintro ⟨i, h1, h2⟩ h
    have : (x &&& y).testBit i = true := by rw [Nat.testBit_and, h1, h2]; rfl
    rw [h] at this
    simp at this
theorem inN_all {n : Nat} {xss : List (List Int)} (hg : Good n xss) {a : Nat} (ha : a < n) : inN xss (setN (kompL xss a)) (kompL xss a) = true ↔ mates (hasArc xss) a a := by
  have hz : ∀ b, komp xss a b → (∃ k, wk (hasArc xss) k a b) ∧ ∃ k, wk (hasArc xss) k b a := by
    rintro b (rfl | h)
    · exact ⟨⟨0, rfl⟩, 0, rfl⟩
    · obtain ⟨⟨k, _, h1⟩, j, _, h2⟩ := h
      exact ⟨⟨k, h1⟩, j, h2⟩
  unfold inN
  rw [propB_iff]
  constructor
  · rintro ⟨b, h1, h2⟩
    obtain ⟨c, h3, h4⟩ := and_ne.1 h2
    have hbc := (mask_bit hg.small b c).1 h3
    have hc := (kompL_mem hg ha).1 (setN_bit.1 h4)
    have hb := (kompL_mem hg ha).1 h1
    obtain ⟨k, hk⟩ := (hz b hb).1
    obtain ⟨j, hj⟩ := (hz c hc).2
    have : rc (hasArc xss) a a := ⟨k + 1 + j, by omega, wk_add (show wk (hasArc xss) (k + 1) a c from ⟨b, hk, hbc⟩) hj⟩
    exact ⟨this, this⟩
  · rintro ⟨⟨k, hk, h1⟩, _⟩
    obtain ⟨k, rfl⟩ : ∃ j, k = j + 1 := ⟨k - 1, by omega⟩
    obtain ⟨c, h2, h3⟩ := wk_head.1 h1
    refine ⟨a, (kompL_mem hg ha).2 (.inl rfl), and_ne.2 ⟨c, (mask_bit hg.small a c).2 h2, setN_bit.2 ((kompL_mem hg ha).2 ?_)⟩⟩
    by_cases e : k = 0
    · subst e
      exact .inl (show c = a from h3)
    · exact .inr ⟨rc_one h2, k, by omega, h3⟩
theorem lsTo_pre (p : Nat → Prop) {k : Nat} : ∀ n, k ≤ n → ∃ t, lsTo p n = lsTo p k ++ t
  | 0, h => ⟨[], by rw [show k = 0 by omega]; rfl⟩
  | n + 1, h => by
    by_cases e : k = n + 1
    · exact ⟨[], by rw [e, List.append_nil]⟩
    · obtain ⟨t, ht⟩ := lsTo_pre p n (show k ≤ n by omega)
      by_cases q : p n
      · exact ⟨t ++ [n], by rw [lsTo_t q, ht, List.append_assoc]⟩
      · exact ⟨t, by rw [lsTo_f q, ht]⟩
theorem roots_at {xss : List (List Int)} {k n : Nat} (h : isRoot xss k) (hk : k < n) : (roots xss n)[(roots xss k).length]? = some k := by
  obtain ⟨t, ht⟩ := lsTo_pre (isRoot xss) n (show k + 1 ≤ n by omega)
  unfold roots
  rw [ht, lsTo_t h, List.append_assoc, List.getElem?_append_right (Nat.le_refl _), Nat.sub_self]
  rfl
theorem roots_t {xss : List (List Int)} {k : Nat} (h : isRoot xss k) : roots xss (k + 1) = roots xss k ++ [k] := lsTo_t h
theorem roots_f {xss : List (List Int)} {k : Nat} (h : ¬ isRoot xss k) : roots xss (k + 1) = roots xss k := lsTo_f h
theorem roots_len (xss : List (List Int)) (k : Nat) : (roots xss k).length ≤ k := lsTo_len _ k
end Go.Proofs.YtjhljipehnmbnaaGreat
