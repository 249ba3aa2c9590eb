/-
  Small lemmas and contracts that the texts of this claim share. No condition.
-/
import Derived.Deep.Slices
import Derived.Deep.Matrix
import Derived.Test.YtjklbjmdgiddcaaGreatGPlainNetG
import Derived.Deep.Fields
namespace Go.Proofs.YtjklbjmdgiddcaaGreat
open Go.RowKit Go.ChangeShapes Go.WideShapes Go.Deep
set_option linter.all false
section
variable {H : Type} {enc : TypeId × Value → H} {P : Program} {w : World} {base : Nat} {spare : Nat → Bool} {held : Bool}
theorem I64_of_wf {x : Int} (h : (Lit.int .i64 x).wf = true) : I64 x := by
  have : -9223372036854775808 ≤ x ∧ x ≤ 9223372036854775807 := by simpa [Lit.wf, IntKind.min, IntKind.max, IntKind.signed, IntKind.bits] using h
  exact this
theorem ints_of_trod {t e : TypeId} {fuel : Nat} {cs : List Value} {x : DataW H × List MemPlace} (ht : P.underlying t = some (.slice e)) (he : P.underlying e = some (.int .i64)) (hc : P.cellsOf e = 1)
    (h : DataW.trod enc P w base spare held fuel t cs = some x) : ∃ v xs, cs = [v] ∧ IntsR w w.heap.size v xs := by
  rcases open_ints ht he hc h with ⟨rfl, _⟩ | ⟨a, len, cap, zs, rfl, _, hl, hm, hz, _, hcell, hwf⟩
  · exact ⟨_, [], rfl, ⟨none, 0, rfl, Nat.le_refl _, Nat.zero_le _, fun h => absurd h (by simp)⟩, fun _ h => by cases h⟩
  · have hzl : len ≤ zs.length := by rw [hz]; split <;> omega
    have hlen : (zs.take len).length = len := by simp; omega
    refine ⟨_, zs.take len, rfl, ⟨some a, cap, ?_, ?_, hm, fun hn => ⟨a, rfl, ?_, fun j u hu => ?_⟩⟩, fun x hx => I64_of_wf (hwf x (List.mem_of_mem_take hx))⟩
    · rw [List.length_map, hlen]
    · rw [List.length_map, hlen]; exact hl
    · rw [List.length_map, hlen] at hn
      have h0 := hcell 0 (by omega);have := World.block_lt_of_cell? _ _ h0;rwa [block_add] at this
    · rw [List.getElem?_map] at hu
      cases hj : (zs.take len)[j]? with
      | none => rw [hj] at hu; cases hu
      | some z =>
        rw [hj] at hu;simp at hu;subst hu;rw [List.getElem?_take] at hj;split at hj
        · rw [hcell j (by omega)]
          simp [List.getD, hj, intV]
        · cases hj
theorem rows_of_trod {t s e : TypeId} {fuel : Nat} {cs : List Value} {x : DataW H × List MemPlace} (ht : P.underlying t = some (.slice s)) (hs : P.underlying s = some (.slice e)) (he : P.underlying e = some (.int .i64)) (hcs : P.cellsOf s = 1) (hc : P.cellsOf e = 1)
  (h : DataW.trod enc P w base spare held fuel t cs = some x) : ∃ v xss, cs = [v] ∧ RowsR w w.heap.size v xss := by
 rcases open_slice ht h with ⟨rfl, _⟩ | ⟨a, len, cap, m, n, D, Pl, rfl, _, hl, hm, hmm, _, hi⟩
 · exact ⟨_, [], rfl, [], ⟨none, 0, rfl, Nat.le_refl _, Nat.zero_le _, fun h => absurd h (by simp)⟩, trivial⟩
 ·
  have hml : len ≤ m := by rw [hmm]; split <;> omega
  have each : ∀ k, k ≤ len → ∃ vs xss, vs.length = k ∧ AllR w w.heap.size vs xss ∧ ∀ j u, vs[j]? = some u → w.cell? (a.add j) = some u := by
   intro k;induction k with
   | zero => intro _; exact ⟨[], [], rfl, trivial, fun j u hu => by simp at hu⟩
   | succ k ih =>
    intro hk;obtain ⟨vs, xss, h1, h2, h3⟩ := ih (by omega);obtain ⟨cs', hcells, htr⟩ := hi k (by omega);rw [hcs] at hcells;obtain ⟨v, xs, rfl, hv⟩ := ints_of_trod hs he hc htr;obtain ⟨_, _, hat⟩ := World.cells?_some hcells;have hcell : w.cell? (a.add k) = some v := by
     have h0 := hat 0 (by omega);have e0 : (a.add k).add 0 = a.add k := by unfold Addr.add; simp
     rw [Nat.mul_one, e0] at h0;simpa using h0
    refine ⟨vs ++ [v], xss ++ [xs], by simp [h1], ?_, ?_⟩
    ·
     clear ih h1 h3 hcell hat hcells htr;induction vs generalizing xss with
     | nil =>
      cases xss with
      | nil => exact ⟨hv, trivial⟩
      | cons _ _ => exact h2.elim
     | cons u vs ih =>
      cases xss with
      | nil => exact h2.elim
      | cons ys xss => exact ⟨h2.1, ih xss h2.2⟩
    ·
     intro j u hu;by_cases hj : j < vs.length
     · rw [List.getElem?_append_left hj] at hu;exact h3 j u hu
     ·
      rw [List.getElem?_append_right (by omega)] at hu;obtain rfl : j = k := by have := (aB.1 hu).1;simp at this;omega
      rw [h1, Nat.sub_self] at hu;simp at hu;rw [← hu]; exact hcell
  obtain ⟨vs, xss, h1, h2, h3⟩ := each len (Nat.le_refl _);refine ⟨_, xss, rfl, vs, ⟨some a, cap, by rw [h1], by rw [h1]; exact hl, hm, fun hn => ⟨a, rfl, ?_, h3⟩⟩, h2⟩;have h0 := h3 0 (vs[0]) (aC hn);have := World.block_lt_of_cell? _ _ h0;rwa [block_add] at this
end
end Go.Proofs.YtjklbjmdgiddcaaGreat
namespace Go.Proofs.YtjklbjmdgiddcaaGreat
open Go.RowKit Go.ChangeShapes Go.WideShapes Go.Deep
set_option linter.all false
section
variable {H : Type} {enc : TypeId × Value → H} {w : World} {base : Nat} {spare : Nat → Bool} {held : Bool}
set_option maxRecDepth 100000 in
theorem end_of_trod {fuel : Nat} {cs : List Value} {x : DataW H × List MemPlace} (h : DataW.trod enc Tryz.prog w base spare held fuel 148 cs = some x) :
    ∃ e : Int × Int, cs = [.int .i64 e.1, .int .i64 e.2] ∧ I64 e.1 ∧ I64 e.2 := by
  obtain ⟨ys, n, _, _, hl, hlen, hg⟩ := DataW.trod_struct Tryz.underlying148 h;have h2 : cs.length = 2 := hl.trans (by kernel_rfl)
  match cs, h2 with
  | [c0, c1], _ =>
    match ys, hlen with
    | [y0, y1], _ =>
      have s1 : Tryz.prog.cellsOf 3 = 1 := by kernel_rfl
      have g0 : DataW.trod enc Tryz.prog w base spare held n 3 [c0] = some y0 := by simpa [s1] using hg 0 _ rfl
      have g1 : DataW.trod enc Tryz.prog w base spare held n 3 [c1] = some y1 := by simpa [s1] using hg 1 _ rfl
      obtain ⟨p0, e0, -, w0⟩ := DataW.trod_int Tryz.underlying3 g0;obtain ⟨p1, e1, -, w1⟩ := DataW.trod_int Tryz.underlying3 g1;simp only [List.cons.injEq, and_true] at e0 e1;subst e0 e1;exact ⟨(p0, p1), rfl, I64_of_wf w0, I64_of_wf w1⟩
set_option maxRecDepth 100000 in
theorem ends_of_trod {fuel : Nat} {cs : List Value} {x : DataW H × List MemPlace} (h : DataW.trod enc Tryz.prog w base spare held fuel 116 cs = some x) :
  ∃ v es, cs = [v] ∧ EndsB w w.heap.size v es := by
 rcases open_slice Tryz.underlying116 h with ⟨rfl, _⟩ | ⟨a, len, cap, m, n, D, Pl, rfl, _, hl, hm, hmm, _, hi⟩
 · exact ⟨_, [], rfl, none, 0, rfl, Nat.le_refl _, Nat.zero_le _, (fun _ h => by cases h), fun h => absurd h (by simp)⟩
 ·
  have hml : len ≤ m := by rw [hmm]; split <;> omega
  have each : ∀ k, k ≤ len → ∃ xs : Ends, xs.length = k ∧ (∀ x ∈ xs, I64 x.1 ∧ I64 x.2) ∧
    ∀ j x, xs[j]? = some x → w.cell? (a.add (j * 2 + 0)) = some (.int .i64 x.1) ∧ w.cell? (a.add (j * 2 + 1)) = some (.int .i64 x.2) := by
   intro k;induction k with
   | zero => intro _; exact ⟨[], rfl, (fun _ h => by cases h), fun j x hx => by simp at hx⟩
   | succ k ih =>
    intro hk;obtain ⟨xs, h1, h2, h3⟩ := ih (by omega);obtain ⟨cs', hcells, htr⟩ := hi k (by omega);rw [show Tryz.prog.cellsOf 148 = 2 by kernel_rfl] at hcells;obtain ⟨it, rfl, hr⟩ := end_of_trod htr;obtain ⟨_, _, hat⟩ := World.cells?_some hcells;refine ⟨xs ++ [it], by simp [h1], ?_, ?_⟩
    ·
     intro x hx;rcases List.mem_append.1 hx with h | h
     · exact h2 x h
     ·
      obtain rfl : x = it := by simpa using h
      exact hr
    ·
     intro j x hx;by_cases hj : j < xs.length
     · rw [List.getElem?_append_left hj] at hx;exact h3 j x hx
     ·
      rw [List.getElem?_append_right (by omega)] at hx;obtain rfl : j = k := by have := (aB.1 hx).1;simp at this;omega
      rw [h1, Nat.sub_self] at hx;obtain rfl : it = x := by simpa using hx
      rw [← Go.Deep.add_add, hat 0 (by omega), ← Go.Deep.add_add, hat 1 (by omega)];exact ⟨rfl, rfl⟩
  obtain ⟨xs, h1, h2, h3⟩ := each len (Nat.le_refl _);refine ⟨_, xs, rfl, some a, cap, by rw [h1], by rw [h1]; exact hl, hm, h2, fun hn => ?_⟩;have hc0 := (h3 0 (xs[0]) (aC hn)).1;have hlt := World.block_lt_of_cell? _ _ hc0;rw [block_add] at hlt;obtain ⟨b, o, sp⟩ := a;have e0 : (⟨b, o, sp⟩ : Addr).add (0 * 2 + 0) = ⟨b, o, sp⟩ := by unfold Addr.add; simp
  rw [e0] at hc0;have hsp : sp = none := by
   cases sp with
   | none => rfl
   | some q =>
    unfold World.cell? at hc0;split at hc0 <;> simp at hc0
  subst hsp;refine ⟨b, o, rfl, hlt, fun k x hx => ?_⟩;have e1 : ∀ j, (⟨b, o, none⟩ : Addr).add (k * 2 + j) = ⟨b, o + k * 2 + j, none⟩ := fun j => by unfold Addr.add; split <;> simp_all; omega
  have := h3 k x hx;rw [e1 0, e1 1] at this;exact this
set_option maxRecDepth 100000 in
theorem endss_of_trod {fuel : Nat} {cs : List Value} {x : DataW H × List MemPlace} (h : DataW.trod enc Tryz.prog w base spare held fuel 27 cs = some x) :
  ∃ v ess, cs = [v] ∧ EndssR w (· < w.heap.size) v ess := by
 rcases open_slice Tryz.underlying27 h with ⟨rfl, _⟩ | ⟨a, len, cap, m, n, D, Pl, rfl, _, hl, hm, hmm, _, hi⟩
 · exact ⟨_, [], rfl, none, 0, rfl, Nat.le_refl _, Nat.zero_le _, fun h => absurd h (by simp)⟩
 ·
  have hml : len ≤ m := by rw [hmm]; split <;> omega
  have each : ∀ k, k ≤ len → ∃ xss : List Ends, xss.length = k ∧ ∀ j xs, xss[j]? = some xs → ∃ u, w.cell? (a.add j) = some u ∧ EndsB w w.heap.size u xs := by
   intro k;induction k with
   | zero => intro _; exact ⟨[], rfl, fun j x hx => by simp at hx⟩
   | succ k ih =>
    intro hk;obtain ⟨xss, h1, h3⟩ := ih (by omega);obtain ⟨cs', hcells, htr⟩ := hi k (by omega);rw [show Tryz.prog.cellsOf 116 = 1 by kernel_rfl] at hcells;obtain ⟨v, xs, rfl, hv⟩ := ends_of_trod htr;obtain ⟨_, _, hat⟩ := World.cells?_some hcells;have hcell : w.cell? (a.add k) = some v := by
     have h0 := hat 0 (by omega);have e0 : (a.add k).add 0 = a.add k := by unfold Addr.add; simp
     rw [Nat.mul_one, e0] at h0;simpa using h0
    refine ⟨xss ++ [xs], by simp [h1], fun j u hu => ?_⟩;by_cases hj : j < xss.length
    · rw [List.getElem?_append_left hj] at hu;exact h3 j u hu
    ·
     rw [List.getElem?_append_right (by omega)] at hu;obtain rfl : j = k := by have := (aB.1 hu).1;simp at this;omega
     rw [h1, Nat.sub_self] at hu;obtain rfl : xs = u := by simpa using hu
     exact ⟨v, hcell, hv⟩
  obtain ⟨xss, h1, h3⟩ := each len (Nat.le_refl _);refine ⟨_, xss, rfl, some a, cap, by rw [h1], by rw [h1]; exact hl, hm, fun hn => ⟨a, rfl, ?_, h3⟩⟩;obtain ⟨u, h0, -⟩ := h3 0 (xss[0]) (aC hn);have := World.block_lt_of_cell? _ _ h0;rwa [block_add] at this
end
end Go.Proofs.YtjklbjmdgiddcaaGreat
