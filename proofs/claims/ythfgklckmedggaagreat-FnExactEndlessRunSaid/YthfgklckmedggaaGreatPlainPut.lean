/-
  A rising list put together one by one is the sorted list without what comes twice: the plain law, with no program in sight. No condition.
-/
import Derived.Test.YthfgklckmedggaaGreatKit
import Derived.Lib.SlicesCompact
namespace Go.Proofs.YthfgklckmedggaaGreat
open Go
set_option linter.unusedVariables false
set_option linter.unusedSimpArgs false
/-- The reference's insertion into a rising list. -/
def putS : List Int → Int → List Int
  | [], x => [x]
  | y :: r, x => if y < x then y :: putS r x else if y = x then y :: r else x :: y :: r
def Rising (l : List Int) : Prop := l.Pairwise (· < ·)
theorem putS_mem : ∀ (l : List Int) (x z : Int), z ∈ putS l x ↔ z = x ∨ z ∈ l
  | [], x, z => by simp [putS]
  | y :: r, x, z => by
    unfold putS
    split
    · rw [List.mem_cons, putS_mem r x z, List.mem_cons]
      constructor <;> (intro h; rcases h with h | h | h <;> simp [h])
    · split
      · rename_i h; subst h; simp
      · simp
theorem putS_rising : ∀ (l : List Int) (x : Int), Rising l → Rising (putS l x)
  | [], x, _ => by unfold putS Rising; exact List.pairwise_singleton _ _
  | y :: r, x, h => by
    obtain ⟨h1, h2⟩ := List.pairwise_cons.1 h
    unfold putS
    split
    · rename_i hy
      refine List.pairwise_cons.2 ⟨fun z hz => ?_, putS_rising r x h2⟩
      rcases (putS_mem r x z).1 hz with rfl | hz
      · exact hy
      · exact h1 z hz
    · split
      · exact h
      · rename_i h3 h4
        refine List.pairwise_cons.2 ⟨fun z hz => ?_, h⟩
        rcases List.mem_cons.1 hz with rfl | hz
        · omega
        · have := h1 z hz; omega
theorem puts_mem : ∀ (L l : List Int) (z : Int), z ∈ L.foldl putS l ↔ z ∈ L ∨ z ∈ l
  | [], l, z => by simp
  | x :: r, l, z => by
    rw [List.foldl_cons, puts_mem r, putS_mem, List.mem_cons]
    constructor
    · rintro (h | h | h)
      · exact .inl (.inr h)
      · exact .inl (.inl h)
      · exact .inr h
    · rintro ((h | h) | h)
      · exact .inr (.inl h)
      · exact .inl h
      · exact .inr (.inr h)
theorem puts_rising : ∀ (L l : List Int), Rising l → Rising (L.foldl putS l)
  | [], l, h => h
  | x :: r, l, h => puts_rising r _ (putS_rising l x h)
theorem rising_eq : ∀ (l k : List Int), Rising l → Rising k → (∀ z, z ∈ l ↔ z ∈ k) → l = k
  | [], [], _, _, _ => rfl
  | [], y :: r, _, _, h => by have := (h y).2 (by simp); cases this
  | y :: r, [], _, _, h => by have := (h y).1 (by simp); cases this
  | x :: l, y :: k, hl, hk, h => by
    obtain ⟨l1, l2⟩ := List.pairwise_cons.1 hl
    obtain ⟨k1, k2⟩ := List.pairwise_cons.1 hk
    have hxy : x = y := by
      rcases List.mem_cons.1 ((h x).1 (by simp)) with e | e
      · exact e
      · rcases List.mem_cons.1 ((h y).2 (by simp)) with e' | e'
        · exact e'.symm
        · have := k1 x e; have := l1 y e'; omega
    subst hxy
    congr 1
    refine rising_eq l k l2 k2 fun z => ⟨fun hz => ?_, fun hz => ?_⟩
    · rcases List.mem_cons.1 ((h z).1 (List.mem_cons_of_mem _ hz)) with e | e
      · have := l1 z hz; omega
      · exact e
    · rcases List.mem_cons.1 ((h z).2 (List.mem_cons_of_mem _ hz)) with e | e
      · have := k1 z hz; omega
      · exact e
theorem comp_ok {d : Array Int} (hs : ∀ i j, i ≤ j → j < d.size → d[i]! ≤ d[j]!) : ∀ m, m ≤ d.size → Rising (Lib.compactUpTo d m) ∧ ∀ z, z ∈ Lib.compactUpTo d m ↔ ∃ j, j < m ∧ d[j]! = z
  | 0, _ => ⟨List.Pairwise.nil, fun z => ⟨fun h => (by cases h), fun ⟨j, hj, _⟩ => absurd hj (by omega)⟩⟩
  | m + 1, hm => by
    obtain ⟨h1, h2⟩ := comp_ok hs m (by omega)
    rw [Lib.compactUpTo_succ]
    by_cases hk : Lib.keeps d m = true
    · rw [if_pos hk]
      unfold Lib.keeps at hk
      have hk := of_decide_eq_true hk
      have hlt : ∀ z ∈ Lib.compactUpTo d m, z < d[m]! := fun z hz => by
        obtain ⟨j, hj, rfl⟩ := (h2 z).1 hz
        have a1 := hs j (m - 1) (by omega) (by omega)
        have a2 := hs (m - 1) m (by omega) (by omega)
        rcases hk with hk | hk
        · omega
        · omega
      refine ⟨List.pairwise_append.2 ⟨h1, List.pairwise_singleton _ _, fun a ha b hb => by rw [List.mem_singleton] at hb; rw [hb]; exact hlt a ha⟩, fun z => ?_⟩
      rw [List.mem_append, List.mem_singleton, h2 z]
      constructor
      · rintro (⟨j, hj, rfl⟩ | rfl)
        · exact ⟨j, by omega, rfl⟩
        · exact ⟨m, by omega, rfl⟩
      · rintro ⟨j, hj, rfl⟩
        by_cases e : j = m
        · subst e; exact .inr rfl
        · exact .inl ⟨j, by omega, rfl⟩
    · rw [if_neg hk, List.append_nil]
      unfold Lib.keeps at hk
      have hk : ¬ (m = 0 ∨ d[m]! ≠ d[m - 1]!) := fun h => hk (decide_eq_true h)
      have k0 : m ≠ 0 := fun e => hk (.inl e)
      have k1 : d[m]! = d[m - 1]! := Classical.not_not.1 fun e => hk (.inr e)
      refine ⟨h1, fun z => ?_⟩
      rw [h2 z]
      constructor
      · rintro ⟨j, hj, rfl⟩
        exact ⟨j, by omega, rfl⟩
      · rintro ⟨j, hj, rfl⟩
        by_cases e : j = m
        · subst e; exact ⟨j - 1, by omega, k1.symm⟩
        · exact ⟨j, by omega, rfl⟩
/-- Sorting and leaving out what comes twice gives what the reference puts together one by one. -/
theorem puts_compact {ys L : List Int} (hp : ys.Perm L) (hs : ys.Pairwise (· ≤ ·)) : Lib.compact ys = L.foldl putS [] := by
  have hs' : ∀ i j, i ≤ j → j < ys.toArray.size → ys.toArray[i]! ≤ ys.toArray[j]! := fun i j hij hj => by
    have hj' : j < ys.length := hj
    have hi' : i < ys.length := by omega
    have e1 : ys.toArray[i]! = ys[i] := by simp [hi']
    have e2 : ys.toArray[j]! = ys[j] := by simp [hj']
    rw [e1, e2]
    rcases Nat.lt_or_ge i j with h | h
    · exact List.pairwise_iff_getElem.1 hs i j hi' hj' h
    · obtain rfl : i = j := by omega
      exact Int.le_refl _
  obtain ⟨h1, h2⟩ := comp_ok hs' ys.length (Nat.le_refl _)
  refine rising_eq _ _ h1 (puts_rising L [] List.Pairwise.nil) fun z => ?_
  rw [puts_mem]
  refine (h2 z).trans ⟨?_, ?_⟩
  · rintro ⟨j, hj, rfl⟩
    left
    have e1 : ys.toArray[j]! = ys[j] := by simp [hj]
    rw [e1]
    exact hp.mem_iff.1 (List.getElem_mem hj)
  · rintro (hz | hz)
    · obtain ⟨j, hj, e⟩ := List.getElem_of_mem (hp.mem_iff.2 hz)
      exact ⟨j, hj, by rw [← e]; simp [hj]⟩
    · cases hz
end Go.Proofs.YthfgklckmedggaaGreat
