/-
  From the reading of an argument (a list of acts) to what the walks ask of memory. No condition.
-/
import Derived.Test.YtjklbjmdgiddcaaGreatEArgsActG
namespace Go.Proofs.YtjklbjmdgiddcaaGreat
open Go.RowKit Go.ChangeShapes Go.WideShapes Go.Deep
set_option linter.all false
section
variable {H : Type} {enc : TypeId × Value → H} {w : World} {base : Nat} {spare : Nat → Bool} {held : Bool}
set_option maxRecDepth 100000 in
theorem act_of_trod {fuel : Nat} {cs : List Value} {x : DataW H × List MemPlace} (h : DataW.trod enc Tryz.prog w base spare held fuel 86 cs = some x) :
    ∃ a : Acts, cs = [.int .i64 a.kind, .int .i64 a.node, .int .i64 a.port, .int .i64 a.at_] := by
  obtain ⟨ys, n, _, _, hl, hlen, hg⟩ := DataW.trod_struct Tryz.underlying86 h;have h2 : cs.length = 4 := hl.trans (by kernel_rfl)
  match cs, h2 with
  | [c0, c1, c2, c3], _ =>
    match ys, hlen with
    | [y0, y1, y2, y3], _ =>
      have s1 : Tryz.prog.cellsOf 3 = 1 := by kernel_rfl
      have g0 : DataW.trod enc Tryz.prog w base spare held n 3 [c0] = some y0 := by simpa [s1] using hg 0 _ rfl
      have g1 : DataW.trod enc Tryz.prog w base spare held n 3 [c1] = some y1 := by simpa [s1] using hg 1 _ rfl
      have g2 : DataW.trod enc Tryz.prog w base spare held n 3 [c2] = some y2 := by simpa [s1] using hg 2 _ rfl
      have g3 : DataW.trod enc Tryz.prog w base spare held n 3 [c3] = some y3 := by simpa [s1] using hg 3 _ rfl
      obtain ⟨p0, e0, -, -⟩ := DataW.trod_int Tryz.underlying3 g0;obtain ⟨p1, e1, -, -⟩ := DataW.trod_int Tryz.underlying3 g1;obtain ⟨p2, e2, -, -⟩ := DataW.trod_int Tryz.underlying3 g2;obtain ⟨p3, e3, -, -⟩ := DataW.trod_int Tryz.underlying3 g3;simp only [List.cons.injEq, and_true] at e0 e1 e2 e3;subst e0 e1 e2 e3;exact ⟨⟨p0, p1, p2, p3⟩, rfl⟩
set_option maxRecDepth 100000 in
theorem acts_of_trod {fuel : Nat} {cs : List Value} {x : DataW H × List MemPlace} (h : DataW.trod enc Tryz.prog w base spare held fuel 33 cs = some x) :
  ∃ v ys, cs = [v] ∧ ActsB w (· < w.heap.size) v ys := by
 rcases open_slice Tryz.underlying33 h with ⟨rfl, _⟩ | ⟨a, len, cap, m, n, D, Pl, rfl, _, hl, hm, hmm, _, hi⟩
 · exact ⟨_, [], rfl, none, 0, rfl, Nat.le_refl _, Nat.zero_le _, fun h => absurd h (by simp)⟩
 ·
  have hml : len ≤ m := by rw [hmm]; split <;> omega
  have each : ∀ k, k ≤ len → ∃ xs : List Acts, xs.length = k ∧
    ∀ j x, xs[j]? = some x → w.cell? (a.add (j * 4 + 0)) = some (.int .i64 x.kind) ∧ w.cell? (a.add (j * 4 + 1)) = some (.int .i64 x.node) ∧ w.cell? (a.add (j * 4 + 2)) = some (.int .i64 x.port) ∧ w.cell? (a.add (j * 4 + 3)) = some (.int .i64 x.at_) := by
   intro k;induction k with
   | zero => intro _; exact ⟨[], rfl, fun j x hx => by simp at hx⟩
   | succ k ih =>
    intro hk;obtain ⟨xs, h1, h3⟩ := ih (by omega);obtain ⟨cs', hcells, htr⟩ := hi k (by omega);rw [show Tryz.prog.cellsOf 86 = 4 by kernel_rfl] at hcells;obtain ⟨it, rfl⟩ := act_of_trod htr;obtain ⟨_, _, hat⟩ := World.cells?_some hcells;refine ⟨xs ++ [it], by simp [h1], ?_⟩
    ·
     intro j x hx;by_cases hj : j < xs.length
     · rw [List.getElem?_append_left hj] at hx;exact h3 j x hx
     ·
      rw [List.getElem?_append_right (by omega)] at hx;obtain rfl : j = k := by have := (List.getElem?_eq_some_iff.1 hx).1;simp at this;omega
      rw [h1, Nat.sub_self] at hx;obtain rfl : it = x := by simpa using hx
      rw [← Go.Deep.add_add, hat 0 (by omega), ← Go.Deep.add_add, hat 1 (by omega), ← Go.Deep.add_add, hat 2 (by omega), ← Go.Deep.add_add, hat 3 (by omega)];exact ⟨rfl, rfl, rfl, rfl⟩
  obtain ⟨xs, h1, h3⟩ := each len (Nat.le_refl _);refine ⟨_, xs, rfl, some a, cap, by rw [h1], by rw [h1]; exact hl, hm, fun hn => ?_⟩;have hc0 := (h3 0 (xs[0]) (List.getElem?_eq_getElem hn)).1;have hlt := World.block_lt_of_cell? _ _ hc0;rw [block_add] at hlt;obtain ⟨b, o, sp⟩ := a;have e0 : (⟨b, o, sp⟩ : Addr).add (0 * 4 + 0) = ⟨b, o, sp⟩ := by unfold Addr.add; simp
  rw [e0] at hc0;have hsp : sp = none := by
   cases sp with
   | none => rfl
   | some q =>
    unfold World.cell? at hc0;split at hc0 <;> simp at hc0
  subst hsp;refine ⟨b, o, rfl, hlt, fun k x hx => ?_⟩;have e1 : ∀ j, (⟨b, o, none⟩ : Addr).add (k * 4 + j) = ⟨b, o + k * 4 + j, none⟩ := fun j => by unfold Addr.add; split <;> simp_all; omega
  have := h3 k x hx;rw [e1 0, e1 1, e1 2, e1 3] at this;exact this
end
end Go.Proofs.YtjklbjmdgiddcaaGreat
