/-
  Ranks that show that walks lead upwards or go around: waRanked, waAbove and ranksOk, for every good walk problem.
-/
import Derived.Test.YtlmdebjbjbadlaaDoorRows
import Derived.Test.YtlmdebjbjbadlaaDoorKit
import Derived.Test.YtlmdebjbjbadlaaDoorMem
import Derived.Test.YtlmdebjbjbadlaaDoorArgs
import Derived.Test.YtlmdebjbjbadlaaDoorLists
import Derived.Test.YtlmdebjbjbadlaaDoorWithin
import Derived.Test.YtlmdebjbjbadlaaDoorGood
import Derived.Test.YtlmdebjbjbadlaaDoorArcs
import Derived.WalkKit
import Derived.WalkSpells
import Derived.WalkLawsBesides
import Derived.Lib.Hide
import Derived.Deep.QuietTactic
import Derived.BigQuiet
namespace Go.Proofs.YtlmdebjbjbadlaaDoor
open Go.RowKit
set_option linter.unusedVariables false

def rankOk (r : List Int) : Prop := r.length = 3 ∧ allB r 0 1000 = true
def ShapeTo (rs : List (List Int)) (k : Nat) : Prop := ∀ i r, i < k → rs[i]? = some r → rankOk r
theorem ShapeTo.next {rs : List (List Int)} {k : Nat} {r : List Int} (h : ShapeTo rs k) (hr : rs[k]? = some r) (h1 : r.length = 3) (h2 : allB r 0 1000 = true) : ShapeTo rs (k + 1) := by
  intro i x hi hx
  by_cases e : i = k
  · subst e; rw [hr] at hx; cases hx; exact ⟨h1, h2⟩
  · exact h i x (by omega) hx
def upR (r s : List Int) : Prop := r.getD 0 0 < s.getD 0 0
def aroundR (r s : List Int) : Prop := r.getD 0 0 = s.getD 0 0 ∧ r.getD 1 0 = s.getD 1 0 ∧ 2 ≤ r.getD 1 0 ∧ Int.tmod (s.getD 2 0 - r.getD 2 0 - 1) (r.getD 1 0) = 0
def arcR (ar : Bool) (rs : List (List Int)) (x y : Nat) : Prop := upR (rs.getD x []) (rs.getD y []) ∨ (ar = true ∧ aroundR (rs.getD x []) (rs.getD y []))
def ArcsTo (ar : Bool) (rs xss : List (List Int)) (k : Nat) : Prop := ∀ i (x y : Nat), i < k → xss[i]? = some [(x : Int), (y : Int)] → arcR ar rs x y
theorem ArcsTo.next {ar : Bool} {rs xss : List (List Int)} {k x y : Nat} (h : ArcsTo ar rs xss k) (hx : xss[k]? = some [(x : Int), (y : Int)]) (ha : arcR ar rs x y) : ArcsTo ar rs xss (k + 1) := by
  intro i x' y' hi hx'
  by_cases e : i = k
  · subst e
    rw [hx] at hx'
    simp at hx'
    obtain ⟨e1, e2⟩ := hx'
    obtain rfl : x = x' := by omega
    obtain rfl : y = y' := by omega
    exact ha
  · exact h i x' y' (by omega) hx'
def RanksP (ar : Bool) (n : Nat) (xss rs : List (List Int)) : Prop := rs.length = n ∧ ShapeTo rs rs.length ∧ ArcsTo ar rs xss xss.length
theorem RanksP.above (n : Nat) (xss rs : List (List Int)) : RanksP false n xss rs ↔ RanksP true n xss rs ∧ ArcsTo false rs xss xss.length := by
  constructor
  · rintro ⟨h1, h2, h3⟩
    refine ⟨⟨h1, h2, fun i x y hi hx => ?_⟩, h3⟩
    rcases h3 i x y hi hx with h | ⟨h, _⟩
    · exact .inl h
    · cases h
  · rintro ⟨⟨h1, h2, _⟩, h3⟩; exact ⟨h1, h2, h3⟩
theorem triple {r : List Int} (h : r.length = 3) : ∃ a b c : Int, r = [a, b, c] := by
  match r, h with
  | [a, b, c], _ => exact ⟨a, b, c, rfl⟩
theorem triple_cells {w : World} {B : Nat} {u : Value} {a b c : Int} (h : IntsR w B u [a, b, c]) :
    ∃ ad c', u = .slice (some ad) 3 c' ∧ 3 ≤ c' ∧ c' ≤ maxLen ∧ ad.block < B ∧ w.cell? ad = some (.int .i64 a) ∧ w.cell? ⟨ad.block, ad.off + 1, none⟩ = some (.int .i64 b) ∧ w.cell? ⟨ad.block, ad.off + 2, none⟩ = some (.int .i64 c) := by
  obtain ⟨A, c', rfl, h1, h2, h3⟩ := h.open_
  obtain ⟨ad, rfl, hb, hc⟩ := h3 (by simp)
  have k0 := hc 0 _ rfl
  have k1 := hc 1 _ rfl
  have k2 := hc 2 _ rfl
  have e0 : ad.add 0 = ad := by unfold Addr.add; simp
  have e1 : ad.add 1 = ⟨ad.block, ad.off + 1, none⟩ := by unfold Addr.add; simp
  have e2 : ad.add 2 = ⟨ad.block, ad.off + 2, none⟩ := by unfold Addr.add; simp
  rw [e0] at k0; rw [e1] at k1; rw [e2] at k2
  exact ⟨ad, c', rfl, h1, h2, hb, k0, k1, k2⟩
theorem pair_cells {w : World} {B : Nat} {u : Value} {a b : Int} (h : IntsR w B u [a, b]) :
    ∃ ad c', u = .slice (some ad) 2 c' ∧ 2 ≤ c' ∧ c' ≤ maxLen ∧ ad.block < B ∧ w.cell? ad = some (.int .i64 a) ∧ w.cell? ⟨ad.block, ad.off + 1, none⟩ = some (.int .i64 b) := by
  obtain ⟨A, c', rfl, h1, h2, h3⟩ := h.open_
  obtain ⟨ad, rfl, hb, hc⟩ := h3 (by simp)
  have k0 := hc 0 _ rfl
  have k1 := hc 1 _ rfl
  have e0 : ad.add 0 = ad := by unfold Addr.add; simp
  have e1 : ad.add 1 = ⟨ad.block, ad.off + 1, none⟩ := by unfold Addr.add; simp
  rw [e0] at k0; rw [e1] at k1
  exact ⟨ad, c', rfl, h1, h2, hb, k0, k1⟩
theorem getD_of {rs : List (List Int)} {x : Nat} {r : List Int} (h : rs[x]? = some r) : rs.getD x [] = r := by simp [List.getD, h]
def ShRel (rs : List (List Int)) (w : World) (i : Value) (wr : World) : Prop := ∃ k : Nat, k ≤ rs.length ∧ i = .int .i64 k ∧ ShapeTo rs k ∧ Below w.heap.size w wr
def ArRel (ar : Bool) (rs xss : List (List Int)) (w : World) (i : Value) (wr : World) : Prop := ∃ k m : Nat, k ≤ xss.length ∧ i = .int .i64 k ∧ ArcsTo ar rs xss k ∧ wr = w.drewN m
theorem drew2 (w : World) (a b : Nat) : (w.drewN a).drewN b = w.drewN (a + b) := by simp
theorem drew3 (w : World) (a b c : Nat) : ((w.drewN a).drewN b).drewN c = w.drewN (a + b + c) := by simp
theorem drew4 (w : World) (a b c d : Nat) : (((w.drewN a).drewN b).drewN c).drewN d = w.drewN (a + b + c + d) := by simp
def ShRel0 (rs : List (List Int)) (w w0 : World) (i : Value) (wr : World) : Prop := w0 = wr ∧ ShRel rs w i wr
end Go.Proofs.YtlmdebjbjbadlaaDoor
