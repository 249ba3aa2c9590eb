/-
  The program's sets of followers (after), as bits, for every good walk problem.
-/
import Derived.Test.YtlmdebjbjbadlaaDoorRows
import Derived.Test.YtlmdebjbjbadlaaDoorKit
import Derived.Test.YtlmdebjbjbadlaaDoorMem
import Derived.Test.YtlmdebjbjbadlaaDoorArgs
import Derived.Test.YtlmdebjbjbadlaaDoorGood
import Derived.Test.YtlmdebjbjbadlaaDoorArcs
import Derived.WalkKit
import Derived.WalkSpells
import Derived.WalkLawsBesides
import Derived.Lib.Hide
import Derived.Deep.QuietTactic
import Derived.BigQuiet
import Derived.Laws.BitsAllLaws
import Derived.Laws.BitsLemmas
namespace Go.Proofs.YtlmdebjbjbadlaaDoor
open Go.RowKit
set_option linter.unusedVariables false

theorem ofInt_i64 (a : Nat) (ha : a < 9223372036854775808) : (BitVec.ofInt 64 (a : Int)).toNat = a := by
  rw [BitVec.ofInt_natCast, BitVec.toNat_ofNat]; exact Nat.mod_eq_of_lt (by omega)
theorem i64_or_nat (a b : Nat) (ha : a < 9223372036854775808) (hb : b < 9223372036854775808) : bits .or .i64 (a : Int) (b : Int) = ((a ||| b : Nat) : Int) := by
  have hx : a ||| b < 2 ^ 63 := Nat.or_lt_two_pow (by omega) (by omega)
  show IntKind.i64.wrap ((BitVec.ofInt 64 (a : Int) ||| BitVec.ofInt 64 (b : Int)).toNat : Int) = _
  rw [BitVec.toNat_or, ofInt_i64 a ha, ofInt_i64 b hb, IntKind.wrap_i64]
  omega
theorem i64_and_nat (a b : Nat) (ha : a < 9223372036854775808) (hb : b < 9223372036854775808) : bits .and .i64 (a : Int) (b : Int) = ((a &&& b : Nat) : Int) := by
  have hx : a &&& b < 2 ^ 63 := Nat.and_lt_two_pow _ (by omega)
  show IntKind.i64.wrap ((BitVec.ofInt 64 (a : Int) &&& BitVec.ofInt 64 (b : Int)).toNat : Int) = _
  rw [BitVec.toNat_and, ofInt_i64 a ha, ofInt_i64 b hb, IntKind.wrap_i64]
  omega
theorem pow_small {y : Nat} (h : y ≤ 11) : (2 : Nat) ^ y ≤ 2048 := by
  have : (2 : Nat) ^ y ≤ 2 ^ 11 := Nat.pow_le_pow_right (by omega) h
  omega
theorem or_pow (q y : Nat) (hq : q < 4096) (hy : y ≤ 11) : bits .or .i64 (q : Int) (wrap64 (2 ^ y)) = ((q ||| 2 ^ y : Nat) : Int) := by
  have h := pow_small hy
  have e : (2 : Int) ^ y = ((2 ^ y : Nat) : Int) := by push_cast; rfl
  rw [e]
  generalize (2 : Nat) ^ y = m at *
  rw [IntWalk.wrap64_in _ (by omega), i64_or_nat _ _ (by omega) (by omega)]
/-- What after keeps: the row of masks. -/
def AfterRel (n : Nat) (xss : List (List Int)) (w : World) (g : Nat) (i : Value) (wr : World) : Prop :=
  ∃ k : Nat, k ≤ xss.length ∧ i = .int .i64 k ∧ wr.heap[g]? = some (.cells ((maskL n (xss.take k)).map intV).toArray 3 (0, 0)) ∧ Below g w wr
theorem bit_and (q y : Nat) (hq : q < 4096) (hy : y ≤ 11) : bits .and .i64 ((q : Int) / 2 ^ y) 1 = if q.testBit y then 1 else 0 := by
  have e : (q : Int) / 2 ^ y = ((q >>> y : Nat) : Int) := by rw [Nat.shiftRight_eq_div_pow]; push_cast; rfl
  have h2 : q >>> y ≤ q := by rw [Nat.shiftRight_eq_div_pow]; exact Nat.div_le_self _ _
  rw [e, show (1 : Int) = ((1 : Nat) : Int) from rfl, i64_and_nat _ _ (by omega) (by omega), bit_of]
  split <;> rfl
theorem bit_t {q y : Nat} (hq : q < 4096) (hy : y ≤ 11) (h : q.testBit y = true) : bits .and .i64 ((q : Int) / 2 ^ y) 1 = 1 := by rw [bit_and q y hq hy, if_pos h]
theorem bit_f {q y : Nat} (hq : q < 4096) (hy : y ≤ 11) (h : ¬ q.testBit y = true) : bits .and .i64 ((q : Int) / 2 ^ y) 1 = 0 := by rw [bit_and q y hq hy, if_neg h]
/-- The labels are a walk: each two neighbours are an arc. -/
def walkP (xss : List (List Int)) (l : List Int) : Prop := ∀ i a b, l[i]? = some a → l[i + 1]? = some b → [a, b] ∈ xss
def WalkTo (xss : List (List Int)) (l : List Int) (k : Nat) : Prop := ∀ i a b, i + 1 < k → l[i]? = some a → l[i + 1]? = some b → [a, b] ∈ xss
theorem WalkTo.next {xss : List (List Int)} {l : List Int} {k : Nat} {a b : Int} (h : WalkTo xss l k) (hk : 1 ≤ k) (ha : l[k - 1]? = some a) (hb : l[k]? = some b) (hab : [a, b] ∈ xss) : WalkTo xss l (k + 1) := by
  intro i x y hi hx hy
  by_cases e : i + 1 = k
  · obtain rfl : i = k - 1 := by omega
    rw [ha] at hx; cases hx
    rw [show k - 1 + 1 = k by omega, hb] at hy; cases hy
    exact hab
  · exact h i x y (by omega) hx hy
theorem WalkTo.all {xss : List (List Int)} {l : List Int} {k : Nat} (h : WalkTo xss l k) (hk : l.length ≤ k) : walkP xss l := by
  intro i a b ha hb
  exact h i a b (by have := (List.getElem?_eq_some_iff.1 hb).1; omega) ha hb
def IsWalkRel (xss : List (List Int)) (l : List Int) (w : World) (i : Value) (wr : World) : Prop :=
  ∃ k m : Nat, 1 ≤ k ∧ k ≤ max l.length 1 ∧ i = .int .i64 k ∧ WalkTo xss l k ∧ wr = w.drewN m
end Go.Proofs.YtlmdebjbjbadlaaDoor
