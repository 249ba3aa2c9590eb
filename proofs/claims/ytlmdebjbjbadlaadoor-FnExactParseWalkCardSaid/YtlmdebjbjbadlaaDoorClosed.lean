/-
  Closed walks, loops and greatest common divisors in the program: isClosedFrom, loopOf, numbersTo, gcd.
-/
import Derived.Test.YtlmdebjbjbadlaaDoorRows
import Derived.Test.YtlmdebjbjbadlaaDoorKit
import Derived.Test.YtlmdebjbjbadlaaDoorMem
import Derived.Test.YtlmdebjbjbadlaaDoorArgs
import Derived.Test.YtlmdebjbjbadlaaDoorWithin
import Derived.Test.YtlmdebjbjbadlaaDoorGood
import Derived.Test.YtlmdebjbjbadlaaDoorArcs
import Derived.Test.YtlmdebjbjbadlaaDoorAfter
import Derived.WalkKit
import Derived.WalkSpells
import Derived.WalkLawsBesides
import Derived.Lib.Hide
import Derived.Deep.QuietTactic
import Derived.BigQuiet
namespace Go.Proofs.YtlmdebjbjbadlaaDoor
open Go.RowKit
set_option linter.unusedVariables false

def closedP (n : Nat) (xss : List (List Int)) (l : List Int) (a : Int) : Prop :=
  inB l.length 2 200 = true ∧ allB l 0 ((n : Int) - 1) = true ∧ l[0]? = some a ∧ l[l.length - 1]? = some a ∧ walkP xss l
theorem closedP_1 {n : Nat} {xss : List (List Int)} {l : List Int} {a : Int} (h : inB l.length 2 200 = false) : propB (closedP n xss l a) = false := propB_f (fun k => by have := k.1; rw [h] at this; cases this)
theorem closedP_2 {n : Nat} {xss : List (List Int)} {l : List Int} {a : Int} (h : allB l 0 ((n : Int) - 1) = false) : propB (closedP n xss l a) = false := propB_f (fun k => by have := k.2.1; rw [h] at this; cases this)
theorem closedP_3 {n : Nat} {xss : List (List Int)} {l : List Int} {a x : Int} (hx : l[0]? = some x) (h : x ≠ a) : propB (closedP n xss l a) = false := propB_f (fun k => by have := k.2.2.1; rw [hx] at this; cases this; exact h rfl)
theorem closedP_4 {n : Nat} {xss : List (List Int)} {l : List Int} {a x : Int} (hx : l[l.length - 1]? = some x) (h : x ≠ a) : propB (closedP n xss l a) = false := propB_f (fun k => by have := k.2.2.2.1; rw [hx] at this; cases this; exact h rfl)
theorem closedP_5 {n : Nat} {xss : List (List Int)} {l : List Int} {a : Int} (h1 : inB l.length 2 200 = true) (h2 : allB l 0 ((n : Int) - 1) = true) (h3 : l[0]? = some a) (h4 : l[l.length - 1]? = some a) : propB (closedP n xss l a) = propB (walkP xss l) :=
  propB_congr ⟨fun h => h.2.2.2.2, fun h => ⟨h1, h2, h3, h4, h⟩⟩
/-! ### Loops -/
def numsL (n : Nat) : List Int := (List.range n).map fun (i : Nat) => (i : Int)
theorem numsL_len (n : Nat) : (numsL n).length = n := by simp [numsL]
theorem numsL_at {n k : Nat} (h : k < n) : (numsL n)[k]? = some (k : Int) := by simp [numsL, h]
def NumRel (n : Nat) (w : World) (i : Value) (wr : World) : Prop := ∃ k : Nat, k ≤ n ∧ i = .int .i64 k ∧ wr = w.alloc (.cells (rowOf (((numsL n).take k).map intV) n (.int .i64 0)) 3)
/-- The least label with an arc to itself, or -1. -/
def LoopIs (n : Nat) (xss : List (List Int)) (i : Int) : Prop :=
  (i = -1 ∧ ∀ a, a < n → ¬ hasArc xss a a) ∨ ∃ a : Nat, a < n ∧ i = a ∧ hasArc xss a a ∧ ∀ b, b < a → ¬ hasArc xss b b
def LoopRel (n : Nat) (xss : List (List Int)) (w : World) (i : Value) (wr : World) : Prop := ∃ k : Nat, k ≤ n ∧ i = .int .i64 k ∧ (∀ b, b < k → ¬ hasArc xss b b) ∧ Below w.heap.size w wr
def LoopPost (n : Nat) (xss : List (List Int)) (w : World) (e : Ending) (w' : World) : Prop := ∃ i : Int, e = .returned (.int .i64 i) ∧ LoopIs n xss i ∧ Below w.heap.size w w'
/-! ### Greatest common divisors -/
def gcdL (xs : List Nat) : Nat := xs.foldl Nat.gcd 0
theorem gcdL_snoc (xs : List Nat) (x : Nat) : gcdL (xs ++ [x]) = Nat.gcd (gcdL xs) x := by simp [gcdL]
theorem gcdL_le : ∀ (xs : List Nat) (M d : Nat), d ≤ M → (∀ x ∈ xs, x ≤ M) → xs.foldl Nat.gcd d ≤ M
  | [], _, _, h, _ => h
  | x :: xs, M, d, h, hx => by
    refine gcdL_le xs M (Nat.gcd d x) ?_ (fun y hy => hx y (by simp [hy]))
    by_cases e : d = 0
    · subst e; simp; exact hx x (by simp)
    · exact Nat.le_trans (Nat.le_of_dvd (by omega) (Nat.gcd_dvd_left d x)) h
def GcdRel (xs : List Nat) (w : World) (d i : Value) (wr : World) : Prop := ∃ k m : Nat, k ≤ xs.length ∧ i = .int .i64 k ∧ d = .int .i64 (gcdL (xs.take k) : Int) ∧ wr = w.drewN m
def InGcd (g : Nat) (w : World) (d n : Value) (wr : World) : Prop := ∃ a b m : Nat, a ≤ 1000000000 ∧ b ≤ 1000000000 ∧ d = .int .i64 (a : Int) ∧ n = .int .i64 (b : Int) ∧ Nat.gcd a b = g ∧ wr = w.drewN m
end Go.Proofs.YtlmdebjbjbadlaaDoor
