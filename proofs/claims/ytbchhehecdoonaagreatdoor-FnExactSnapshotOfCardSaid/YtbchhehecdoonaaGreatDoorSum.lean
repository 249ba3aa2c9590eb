/-
  The check sum of a string: what the program's CheckSumOf and the reference's srSum return is one plain function, for every string of at most 1000000000000 bytes.
-/
import Derived.Test.YtbchhehecdoonaaGreatDoorRows
import Derived.Test.YtbchhehecdoonaaGreatDoorKit
import Derived.WalkKit
import Derived.WalkSpells
import Derived.WalkLawsBesides
import Derived.Lib.ConvBytes
import Derived.Lib.Hide
namespace Go.Proofs.YtbchhehecdoonaaGreatDoor
open Go.ChangeShapes Go.WideShapes Go.ChangeAt Go.RowKit
set_option linter.unusedVariables false

def sumStep (k : Int) (b : UInt8) : Int := (163 * k + (b.toNat : Int) + 1) % 99991
def sumOf (l : List UInt8) : Int := l.foldl sumStep 5
theorem sumStep_bd (k : Int) (b : UInt8) : 0 ≤ sumStep k b ∧ sumStep k b < 99991 := by unfold sumStep; omega
theorem sumOf_bd (l : List UInt8) : 0 ≤ sumOf l ∧ sumOf l < 99991 := by
  unfold sumOf
  have h : ∀ (l : List UInt8) (k : Int), 0 ≤ k → k < 99991 → 0 ≤ l.foldl sumStep k ∧ l.foldl sumStep k < 99991 := by
    intro l
    induction l with
    | nil => intro k a b; exact ⟨a, b⟩
    | cons x l ih => intro k _ _; exact ih _ (sumStep_bd k x).1 (sumStep_bd k x).2
  exact h l 5 (by omega) (by omega)
theorem sumOf_snoc (l : List UInt8) (b : UInt8) : sumOf (l ++ [b]) = sumStep (sumOf l) b := by simp [sumOf]
theorem take_snoc (s : ByteArray) (k : Nat) (h : k < s.size) : s.data.toList.take (k + 1) = s.data.toList.take k ++ [s[k]] := by
  rw [List.take_succ_eq_append_getElem (by simpa using h)]; rfl

set_option maxRecDepth 100000 in
theorem spec_sum (s : ByteArray) (w : World) (hs : s.size ≤ 1000000000000) :
    Calls Tryz.prog 75 #[.string s] w fun e w' => e = .returned (.int .i64 (sumOf s.data.toList)) ∧ w = w' := by
  go_enter Tryz.func75, Tryz.ntmps75
  go_wp2
  go_loop [3, 4] (fun n i => ∃ k : Nat, k ≤ s.size ∧ i = .int .i64 k ∧ n = .int .i64 (sumOf (s.data.toList.take k))) (fun _ i => s.size - (intOf i).toNat)
  case atStart => exact ⟨0, Nat.zero_le _, rfl, rfl⟩
  case round =>
    obtain ⟨k, hk, rfl, rfl⟩ := hrel
    have hd := sumOf_bd (s.data.toList.take k)
    by_cases hlt : k < s.size
    · have HS := Lib.hid (show sumOf (s.data.toList.take (k+1)) = sumStep (sumOf (s.data.toList.take k)) s[k] by rw [take_snoc s k hlt, sumOf_snoc])
      generalize sumOf (s.data.toList.take k) = q at *
      have hb : (s[k].toNat : Int) < 256 := by have := s[k].toNat_lt; omega
      go_wp2
      go_round
      case rel => exact ⟨k + 1, by omega, by go_num, by rw [HS.out]; unfold sumStep; go_num⟩
      case measure => simp [intOf]; omega
    · go_wp2
      go_ret
      exact ⟨ret_int (by rw [List.take_of_length_le (by simp; omega)]), rfl⟩

set_option maxRecDepth 100000 in
theorem impl_sum (s : ByteArray) (w : World) (hs : s.size ≤ 1000000000000) :
    Calls Tryz.prog 80 #[.string s] w fun e w' => e = .returned (.int .i64 (sumOf s.data.toList)) ∧ Below w.heap.size w w' := by
  have hconv := Lib.run_convert_string_bytes (P := Tryz.prog) w 9 95 5 s Tryz.underlying9 Tryz.underlying95 Tryz.underlying5
  have hcells := Lib.hid (Lib.bytesWorld_cell w 5 s)
  have hbelow : Below w.heap.size w (Lib.bytesWorld w 5 s) := ⟨rfl, rfl, rfl, by rw [Lib.bytesWorld_size]; omega, fun k hk => Lib.bytesWorld_at_old w 5 s k hk⟩
  generalize Lib.bytesWorld w 5 s = w1 at *
  generalize grownCap w s.size 0 5 = cap at *
  go_enter Tryz.func80, Tryz.ntmps80
  go_wp2
  go_loop [3, 9] (fun n i => ∃ k : Nat, k ≤ s.size ∧ i = .int .i64 k ∧ n = .int .i64 (sumOf (s.data.toList.take k))) (fun _ i => s.size - (intOf i).toNat)
  case atStart => exact ⟨0, Nat.zero_le _, rfl, rfl⟩
  case round =>
    obtain ⟨k, hk, rfl, rfl⟩ := hrel
    have hd := sumOf_bd (s.data.toList.take k)
    by_cases hlt : k < s.size
    · have HS := Lib.hid (show sumOf (s.data.toList.take (k+1)) = sumStep (sumOf (s.data.toList.take k)) s[k] by rw [take_snoc s k hlt, sumOf_snoc])
      have hcell : w1.cell? ⟨w.heap.size, k, none⟩ = some (.int .u8 (s[k].toNat : Int)) := by
        rw [hcells.out k hlt]; congr 3; simp [List.getD, hlt]; rfl
      generalize sumOf (s.data.toList.take k) = q at *
      have hb : (s[k].toNat : Int) < 256 := by have := s[k].toNat_lt; omega
      generalize s[k] = sk at *
      go_wp2
      go_round
      case rel => exact ⟨k + 1, by omega, by go_num, by rw [HS.out]; unfold sumStep; go_num⟩
      case measure => simp [intOf]; omega
    · go_wp2
      go_ret
      exact ⟨ret_int (by rw [List.take_of_length_le (by simp; omega)]), hbelow⟩

end Go.Proofs.YtbchhehecdoonaaGreatDoor
