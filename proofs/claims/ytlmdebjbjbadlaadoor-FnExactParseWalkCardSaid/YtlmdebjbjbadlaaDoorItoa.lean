/-
  Numbers and lists of numbers as texts in the program: strconv.Itoa, joinNumbers (strings.Join). The table of powers of ten that strconv reads is a premise.
-/
import Derived.Test.YtlmdebjbjbadlaaDoorRows
import Derived.Test.YtlmdebjbjbadlaaDoorKit
import Derived.Test.YtlmdebjbjbadlaaDoorMem
import Derived.Test.YtlmdebjbjbadlaaDoorOwn
import Derived.Test.YtlmdebjbjbadlaaDoorPlain
import Derived.Test.YtlmdebjbjbadlaaDoorTexts
import Derived.Test.YtlmdebjbjbadlaaDoorShelf
import Derived.WalkKit
import Derived.WalkSpells
import Derived.WalkLawsBesides
import Derived.WalkSmall
import Derived.Lib.Hide
import Derived.Lib.ItoaNum
import Derived.Lib.ItoaMem
import Derived.Lib.Join
import Derived.Lib.LaidTab
import Derived.Stop.LaidErr
import Derived.Sort.Grow
namespace Go.Proofs.YtlmdebjbjbadlaaDoor
open Go.RowKit
set_option linter.unusedVariables false

/-- strconv's table of the powers of ten. -/
def Pow10 (w : World) : Prop := Lib.TabIs Tryd.prog w "internal/strconv.uint64pow10" .u64 Lib.pow10Tab
theorem gPow10 : Tryd.prog.globalNamed "internal/strconv.uint64pow10" = some 5 := by kernel_rfl
theorem Pow10.below {w w' : World} (h : Pow10 w) (hb : Below w.heap.size w w') : Pow10 w' := by
  unfold Pow10 Lib.TabIs at *
  refine var?_below hb gPow10 ?_ h
  unfold World.var? at h
  rw [gPow10] at h
  rcases Nat.lt_or_ge 5 w.heap.size with h' | h'
  · exact h'
  · simp [Array.getElem?_eq_none h'] at h
theorem laid_drop {P : Program} {W : World} : ∀ (k : Nat) (l : List (String × DataW Unit)), laidMet P l W → laidMet P (l.drop k) W
  | 0, _, h => h
  | _ + 1, [], h => h
  | k + 1, _ :: l, h => laid_drop k l (laidMet.tail h)
theorem pow10_of_laid {W : World} {l r : List (String × DataW Unit)} (k : Nat) (hl : l.drop k = ("internal/strconv.uint64pow10", Lib.tabData .u64 Lib.pow10Tab) :: r) (h : laidMet Tryd.prog l W) : Pow10 W := by
  have h1 := laid_drop k l h
  rw [hl] at h1
  exact Lib.tabIs_of_head gPow10 (t := 105) (e := 79) (n := 20) (by kernel_rfl) Tryd.underlying105 Tryd.underlying79 (by kernel_rfl) (by kernel_rfl) h1
theorem below_grow1 (w : World) (k : Nat) (os : Array Obj) : Below w.heap.size w (Sort.grow (w.drewN k) os) := by
  refine ⟨rfl, rfl, rfl, ?_, fun j hj => ?_⟩
  · simp [Sort.grow]
  · show ((w.drewN k).heap ++ os)[j]? = _
    rw [Array.getElem?_append_left (by simpa using hj)]
    rfl
theorem impl_Itoa (x : Int) (w : World) (h0 : 0 ≤ x) (h1 : x ≤ 1000000000) (hp : Pow10 w) :
    Calls Tryd.prog 24 #[.int .i64 x] w fun e w' => e = .returned (strV (numT x)) ∧ Below w.heap.size w w' := by
  refine (Tryd.strconv_Itoa x (by omega) (by omega) w hp).mono ?_
  rintro e w' ⟨rfl, k, os, rfl⟩
  refine ⟨?_, below_grow1 _ _ _⟩
  have : Lib.itoa x = numT x := by
    unfold numT Lib.itoa
    rw [if_neg (by omega)]
  rw [this]
  rfl

theorem joinL_eq (sep : List UInt8) : ∀ l : List (List UInt8), Lib.join l sep = joinL sep l
  | [] => rfl
  | [x] => Lib.join_one x sep
  | x :: y :: r => by
    rw [Lib.join_cons, joinL, ← joinL_eq sep (y :: r), Lib.join_cons]
    simp [Lib.joinTail]
theorem map_data (ls : List (List UInt8)) : ((ls.map fun l => (⟨l.toArray⟩ : ByteArray)).map (·.data.toList)) = ls := by
  induction ls with
  | nil => rfl
  | cons x l ih => rw [List.map_cons, List.map_cons, ih]
/-- strings.Join over a row of the call's own. -/
theorem own_reads {w : World} {base : Nat} {e : TypeId} {v : Value} {n : Nat} {vs : List Value} (h : w.ownsRow base e 1 v n vs) : SlR w w.heap.size v vs := by
  obtain ⟨bs, h1, _, _⟩ := OwnRow.of_owns h
  exact h1.reads h1.lt
def NumsRel (xs : List Int) (w : World) (v i : Value) (wr : World) : Prop :=
  ∃ k : Nat, k ≤ xs.length ∧ i = .int .i64 k ∧ wr.ownsRow w.heap.size 9 1 v k (((xs.take k).map numT).map strV) ∧ Below w.heap.size w wr
theorem strInfo' : (Tryd.prog.info? 9).map (fun i => (i.zero, i.size, i.bytes)) = some (some (.string ByteArray.empty), 1, 16) := by kernel_rfl
end Go.Proofs.YtlmdebjbjbadlaaDoor
