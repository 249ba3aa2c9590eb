/-
  Sets of labels as bits and as lists, and the walks of a walk problem told by them. Plain facts; no program in sight, no condition.
-/
import Derived.Test.YtjhljipehnmbnaaGreatPlainFlex
import Derived.Test.YtjhljipehnmbnaaGreatSmallA
namespace Go.Proofs.YtjhljipehnmbnaaGreat
set_option linter.unusedVariables false

/-- The labels with a property, rising. -/
noncomputable def lsP (p : Nat → Prop) : List Nat := (List.range 12).filter fun b => propB (p b)
theorem mem_lsP {p : Nat → Prop} {b : Nat} : b ∈ lsP p ↔ b < 12 ∧ p b := by
  unfold lsP
  rw [List.mem_filter, List.mem_range, propB_iff]
theorem lsP_congr {p q : Nat → Prop} (h : ∀ b, b < 12 → (p b ↔ q b)) : lsP p = lsP q := by
  unfold lsP
  exact List.filter_congr fun b hb => propB_congr (h b (List.mem_range.1 hb))
theorem lsP_len (p : Nat → Prop) : (lsP p).length ≤ 12 := by
  have := List.length_filter_le (fun b => propB (p b)) (List.range 12)
  rw [List.length_range] at this
  exact this
theorem lsP_nodup (p : Nat → Prop) : (lsP p).Nodup := List.nodup_range.filter _
theorem lsP_pw (p : Nat → Prop) : (lsP p).Pairwise (· < ·) := List.Pairwise.filter _ List.pairwise_lt_range
/-- .. up to one of them. -/
noncomputable def lsTo (p : Nat → Prop) (k : Nat) : List Nat := (List.range k).filter fun b => propB (p b)
theorem lsTo_t {p : Nat → Prop} {k : Nat} (h : p k) : lsTo p (k + 1) = lsTo p k ++ [k] := by
  unfold lsTo
  rw [List.range_succ, List.filter_append]
  simp [propB_t h]
theorem lsTo_f {p : Nat → Prop} {k : Nat} (h : ¬ p k) : lsTo p (k + 1) = lsTo p k := by
  unfold lsTo
  rw [List.range_succ, List.filter_append]
  simp [propB_f h]
theorem lsTo_zero (p : Nat → Prop) : lsTo p 0 = [] := rfl
theorem lsTo_len (p : Nat → Prop) (k : Nat) : (lsTo p k).length ≤ k := by
  have := List.length_filter_le (fun b => propB (p b)) (List.range k)
  rw [List.length_range] at this
  exact this
theorem mem_lsTo {p : Nat → Prop} {k b : Nat} : b ∈ lsTo p k ↔ b < k ∧ p b := by
  unfold lsTo
  rw [List.mem_filter, List.mem_range, propB_iff]
theorem lsTo_stop {p : Nat → Prop} {k : Nat} : ∀ j, k ≤ j → (∀ b, k ≤ b → b < j → ¬ p b) → lsTo p j = lsTo p k
  | 0, h, _ => by rw [show k = 0 by omega]
  | j + 1, h, hp => by
    by_cases e : k = j + 1
    · rw [e]
    · rw [lsTo_f (hp j (by omega) (by omega))]
      exact lsTo_stop j (by omega) fun b h1 h2 => hp b h1 (by omega)
theorem lsTo_all {p : Nat → Prop} {k : Nat} (h : k ≤ 12) (hp : ∀ b, k ≤ b → b < 12 → ¬ p b) : lsTo p k = lsP p := (lsTo_stop 12 h hp).symm
/-- The labels with a property, as bits. -/
noncomputable def bitSet (p : Nat → Prop) : Nat := (lsP p).foldl (fun m b => m ||| 2 ^ b) 0
theorem foldl_bit (b : Nat) : ∀ (l : List Nat) (m : Nat), (l.foldl (fun m b => m ||| 2 ^ b) m).testBit b = true ↔ m.testBit b = true ∨ b ∈ l
  | [], m => by simp
  | x :: l, m => by
    rw [List.foldl_cons, foldl_bit b l, Nat.testBit_or, Bool.or_eq_true, Nat.testBit_two_pow, decide_eq_true_eq, List.mem_cons, or_assoc, eq_comm (a := x)]
theorem bitSet_bit {p : Nat → Prop} {b : Nat} : (bitSet p).testBit b = true ↔ b < 12 ∧ p b := by
  unfold bitSet
  rw [foldl_bit, mem_lsP]
  simp
theorem bitSet_eq {p : Nat → Prop} {m : Nat} (h : ∀ b, m.testBit b = true ↔ b < 12 ∧ p b) : m = bitSet p :=
  Nat.eq_of_testBit_eq fun b => by rw [Bool.eq_iff_iff, h, bitSet_bit]
theorem bitSet_lt (p : Nat → Prop) : bitSet p < 4096 := by
  refine Nat.lt_pow_two_of_testBit (n := 12) _ fun i hi => ?_
  rw [Bool.eq_false_iff]
  intro h
  have := (bitSet_bit.1 h).1
  omega
theorem bitSet_congr {p q : Nat → Prop} (h : ∀ b, b < 12 → (p b ↔ q b)) : bitSet p = bitSet q := by unfold bitSet; rw [lsP_congr h]
theorem lsP_bits (m : Nat) : lsP (fun b => m.testBit b = true) = (List.range 12).filter m.testBit := by
  unfold lsP
  exact List.filter_congr fun b _ => by rw [Bool.eq_iff_iff, propB_iff]
/-- What labelsIn gives for a set. -/
theorem lsP_set (p : Nat → Prop) : lsP (fun b => (bitSet p).testBit b = true) = lsP p := lsP_congr fun b hb => by rw [bitSet_bit]; exact ⟨fun h => h.2, fun h => ⟨hb, h⟩⟩
def natsI (l : List Nat) : List Int := l.map fun (x : Nat) => (x : Int)
theorem natsI_len (l : List Nat) : (natsI l).length = l.length := by simp [natsI]
theorem natsI_at {l : List Nat} {k x : Nat} (h : l[k]? = some x) : (natsI l)[k]? = some (x : Int) := by unfold natsI; rw [List.getElem?_map, h]; rfl
theorem natsI_of {l : List Nat} {k : Nat} {x : Int} (h : (natsI l)[k]? = some x) : ∃ y, l[k]? = some y ∧ x = (y : Int) := by
  unfold natsI at h
  rw [List.getElem?_map] at h
  obtain ⟨y, h1, h2⟩ := Option.map_eq_some_iff.1 h
  exact ⟨y, h1, h2.symm⟩
theorem natsI_snoc (l : List Nat) (x : Nat) : natsI (l ++ [x]) = natsI l ++ [(x : Int)] := by simp [natsI]
theorem natsI_app (l k : List Nat) : natsI (l ++ k) = natsI l ++ natsI k := by simp [natsI]
theorem natsI_mem {l : List Nat} {x : Nat} : (x : Int) ∈ natsI l ↔ x ∈ l := by
  unfold natsI
  rw [List.mem_map]
  constructor
  · rintro ⟨y, h, e⟩
    rw [show x = y by omega]; exact h
  · intro h; exact ⟨x, h, rfl⟩
theorem natsI_bd {l : List Nat} {M : Nat} (h : ∀ x ∈ l, x ≤ M) : ∀ x ∈ natsI l, 0 ≤ x ∧ x ≤ M := by
  intro x hx
  obtain ⟨y, hy, rfl⟩ := List.mem_map.1 hx
  have := h y hy
  omega
/-! ### The walks of a walk problem -/
theorem arc_lt {n : Nat} {xss : List (List Int)} (hg : Good n xss) {a b : Nat} (h : hasArc xss a b) : a < n ∧ b < n := by
  obtain ⟨i, hi⟩ := List.mem_iff_getElem?.1 (show [(a : Int), (b : Int)] ∈ xss from h)
  obtain ⟨xs, e, _, h2, _⟩ := hg.2 i (List.getElem?_eq_some_iff.1 hi).1
  rw [hi] at e
  cases e
  have h3 := allB_iff.1 h2
  have h4 := h3 a (by simp)
  have h5 := h3 b (by simp)
  omega
theorem good_n {n : Nat} {xss : List (List Int)} (hg : Good n xss) : 1 ≤ n ∧ n ≤ 12 := by
  have := hg.1
  unfold inB at this
  simp at this
  omega
/-- One round of a search: the labels behind those of a set. -/
theorem next_bit {xss : List (List Int)} (hs : SmallArcs xss) {b : Nat} : ∀ (l : List Nat) (m : Nat), (l.foldl (fun m c => m ||| mask xss c) m).testBit b = true ↔ m.testBit b = true ∨ ∃ c ∈ l, hasArc xss c b
  | [], m => by simp
  | x :: l, m => by
    rw [List.foldl_cons, next_bit hs l, Nat.testBit_or, Bool.or_eq_true, mask_bit hs, or_assoc]
    constructor
    · rintro (h | h | ⟨c, h1, h2⟩)
      · exact .inl h
      · exact .inr ⟨x, by simp, h⟩
      · exact .inr ⟨c, by simp [h1], h2⟩
    · rintro (h | ⟨c, h1, h2⟩)
      · exact .inl h
      · rcases List.mem_cons.1 h1 with rfl | h1
        · exact .inr (.inl h2)
        · exact .inr (.inr ⟨c, h1, h2⟩)
/-- .. and the labels ahead of those of a set. -/
def bmask (xss : List (List Int)) (b : Nat) : Nat := mask (xss.map List.reverse) b
end Go.Proofs.YtjhljipehnmbnaaGreat
