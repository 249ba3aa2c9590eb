/-
  From the reading of an argument (a slice of numbers, a slice of such slices) to what the walks ask of memory. No program in sight, no condition.
-/
import Derived.Test.YtehkcodbcnhhoaaGreatEZ
import Derived.Deep.Slices
import Derived.Deep.Matrix
namespace Go.Proofs.YtehkcodbcnhhoaaGreat
open Go.RowKit Go.ChangeShapes Go.WideShapes Go.Deep
set_option linter.all false
section
variable {H : Type} {enc : TypeId × Value → H} {P : Program} {w : World} {base : Nat} {spare : Nat → Bool} {held : Bool}
theorem I64_of_wf {x : Int} (h : (Lit.int .i64 x).wf = true) : I64 x := by
  have : -9223372036854775808 ≤ x ∧ x ≤ 9223372036854775807 := by simpa [Lit.wf, IntKind.min, IntKind.max, IntKind.signed, IntKind.bits] using h
  exact this
theorem ints_of_trod {t e : TypeId} {fuel : Nat} {cs : List Value} {x : DataW H × List MemPlace} (ht : P.underlying t = some (.slice e)) (he : P.underlying e = some (.int .i64)) (hc : P.cellsOf e = 1)
    (h : DataW.trod enc P w base spare held fuel t cs = some x) : ∃ v xs, cs = [v] ∧ IntsR w w.heap.size v xs := by
  rcases open_ints ht he hc h with ⟨rfl, _⟩ | ⟨a, len, cap, zs, rfl, _, hl, hm, hz, _, hcell, hwf⟩
  · exact ⟨_, [], rfl, ⟨none, 0, rfl, Nat.le_refl _, Nat.zero_le _, fun h => absurd h (by simp)⟩, fun _ h => by cases h⟩
  · have hzl : len ≤ zs.length := by rw [hz]; split <;> omega
    have hlen : (zs.take len).length = len := by simp; omega
    refine ⟨_, zs.take len, rfl, ⟨some a, cap, ?_, ?_, hm, fun hn => ⟨a, rfl, ?_, fun j u hu => ?_⟩⟩, fun x hx => I64_of_wf (hwf x (List.mem_of_mem_take hx))⟩
    · rw [List.length_map, hlen]
    · rw [List.length_map, hlen]; exact hl
    · rw [List.length_map, hlen] at hn
      have h0 := hcell 0 (by omega)
      have := World.block_lt_of_cell? _ _ h0
      rwa [block_add] at this
    · rw [List.getElem?_map] at hu
      cases hj : (zs.take len)[j]? with
      | none => rw [hj] at hu; cases hu
      | some z =>
        rw [hj] at hu
        simp at hu
        subst hu
        rw [List.getElem?_take] at hj
        split at hj
        · rw [hcell j (by omega)]
          simp [List.getD, hj, intV]
        · cases hj
theorem rows_of_trod {t s e : TypeId} {fuel : Nat} {cs : List Value} {x : DataW H × List MemPlace} (ht : P.underlying t = some (.slice s)) (hs : P.underlying s = some (.slice e)) (he : P.underlying e = some (.int .i64)) (hcs : P.cellsOf s = 1) (hc : P.cellsOf e = 1)
  (h : DataW.trod enc P w base spare held fuel t cs = some x) : ∃ v xss, cs = [v] ∧ RowsR w w.heap.size v xss := by
 rcases open_slice ht h with ⟨rfl, _⟩ | ⟨a, len, cap, m, n, D, Pl, rfl, _, hl, hm, hmm, _, hi⟩
 ·
  exact ⟨_, [], rfl, [], ⟨none, 0, rfl, Nat.le_refl _, Nat.zero_le _, fun h => absurd h (by simp)⟩, trivial⟩
 ·
  have hml : len ≤ m := by rw [hmm]; split <;> omega
  have each : ∀ k, k ≤ len → ∃ vs xss, vs.length = k ∧ AllR w w.heap.size vs xss ∧ ∀ j u, vs[j]? = some u → w.cell? (a.add j) = some u := by
   intro k
   induction k with
   | zero => intro _; exact ⟨[], [], rfl, trivial, fun j u hu => by simp at hu⟩
   | succ k ih =>
    intro hk
    obtain ⟨vs, xss, h1, h2, h3⟩ := ih (by omega)
    obtain ⟨cs', hcells, htr⟩ := hi k (by omega)
    rw [hcs] at hcells
    obtain ⟨v, xs, rfl, hv⟩ := ints_of_trod hs he hc htr
    obtain ⟨_, _, hat⟩ := World.cells?_some hcells
    have hcell : w.cell? (a.add k) = some v := by
     have h0 := hat 0 (by omega)
     have e0 : (a.add k).add 0 = a.add k := by unfold Addr.add; simp
     rw [Nat.mul_one, e0] at h0
     simpa using h0
    refine ⟨vs ++ [v], xss ++ [xs], by simp [h1], ?_, ?_⟩
    ·
     clear ih h1 h3 hcell hat hcells htr
     induction vs generalizing xss with
     | nil =>
      cases xss with
      | nil => exact ⟨hv, trivial⟩
      | cons _ _ => exact h2.elim
     | cons u vs ih =>
      cases xss with
      | nil => exact h2.elim
      | cons ys xss => exact ⟨h2.1, ih xss h2.2⟩
    ·
     intro j u hu
     by_cases hj : j < vs.length
     ·
      rw [List.getElem?_append_left hj] at hu
      exact h3 j u hu
     ·
      rw [List.getElem?_append_right (by omega)] at hu
      obtain rfl : j = k := by
       have := (List.getElem?_eq_some_iff.1 hu).1
       simp at this
       omega
      rw [h1, Nat.sub_self] at hu
      simp at hu
      rw [← hu]; exact hcell
  obtain ⟨vs, xss, h1, h2, h3⟩ := each len (Nat.le_refl _)
  refine ⟨_, xss, rfl, vs, ⟨some a, cap, by rw [h1], by rw [h1]; exact hl, hm, fun hn => ⟨a, rfl, ?_, h3⟩⟩, h2⟩
  have h0 := h3 0 (vs[0]) (List.getElem?_eq_getElem hn)
  have := World.block_lt_of_cell? _ _ h0
  rwa [block_add] at this
end
end Go.Proofs.YtehkcodbcnhhoaaGreat
