/-
  Plain facts on strings cut at a byte. No program in sight, no condition.
-/
import Derived.Lib.Split
import Derived.Lib.SplitLaws
import Derived.Lib.IndexBytes
import Derived.Lib.Strings
namespace Go.Proofs.YtlmdebjbjbadlaaGreatDoor
open Go
set_option linter.unusedVariables false
/-- A string's value out of its bytes. -/
def strV (l : List UInt8) : Value := .string ⟨l.toArray⟩
/-- The parts: what is left, and the part that has begun. -/
def spl (b : UInt8) : List UInt8 → List UInt8 → List (List UInt8)
  | [], cur => [cur]
  | c :: l, cur => if c = b then cur :: spl b l [] else spl b l (cur ++ [c])
theorem spl_cons (b c : UInt8) (l cur : List UInt8) : spl b (c :: l) cur = if c = b then cur :: spl b l [] else spl b l (cur ++ [c]) := rfl
theorem spl_len (b : UInt8) : ∀ (l cur : List UInt8), (spl b l cur).length = l.count b + 1
  | [], cur => rfl
  | c :: l, cur => by
    rw [spl_cons]
    by_cases h : c = b
    · rw [if_pos h]; subst h; simp [spl_len]
    · rw [if_neg h]; simp [spl_len, h]
theorem spl_none (b : UInt8) : ∀ (l cur : List UInt8), Lib.indexByte l b = -1 → spl b l cur = [cur ++ l] ∧ l.count b = 0
  | [], cur, _ => by simp [spl]
  | c :: l, cur, h => by
    unfold Lib.indexByte at h
    have hg := Lib.indexByte_ge l b
    by_cases hc : c = b
    · simp [hc] at h
    · simp only [beq_iff_eq, hc, if_false] at h
      have h' : Lib.indexByte l b = -1 := by
        split at h
        · assumption
        · omega
      obtain ⟨e, k⟩ := spl_none b l (cur ++ [c]) h'
      rw [spl_cons, if_neg hc, e]
      simp [k, hc]
theorem spl_some (b : UInt8) : ∀ (l cur : List UInt8) (i : Nat), Lib.indexByte l b = i → spl b l cur = (cur ++ l.take i) :: spl b (l.drop (i + 1)) [] ∧ l.count b = (l.drop (i + 1)).count b + 1
  | [], cur, i, h => by simp [Lib.indexByte] at h
  | c :: l, cur, i, h => by
    unfold Lib.indexByte at h
    by_cases hc : c = b
    · simp only [beq_iff_eq, hc, if_true] at h
      obtain rfl : i = 0 := by omega
      rw [spl_cons, if_pos hc]
      subst hc
      simp
    · simp only [beq_iff_eq, hc, if_false] at h
      have hg := Lib.indexByte_ge l b
      have h1 : Lib.indexByte l b ≠ -1 := by intro e; simp [e] at h
      rw [if_neg (by simpa using h1)] at h
      obtain ⟨j, hj⟩ : ∃ j : Nat, Lib.indexByte l b = j := ⟨(Lib.indexByte l b).toNat, by omega⟩
      obtain rfl : i = j + 1 := by omega
      obtain ⟨e, k⟩ := spl_some b l (cur ++ [c]) j hj
      rw [spl_cons, if_neg hc, e]
      simp [k, hc]
theorem splitK_one (b : UInt8) : ∀ (n : Nat) (l : List UInt8), l.count b = n → Lib.splitK [b] 0 n l = spl b l []
  | 0, l, h => by
    rcases Int.lt_or_le (Lib.indexByte l b) 0 with h' | h'
    · have hg := Lib.indexByte_ge l b
      have := (spl_none b l [] (by omega)).1
      simpa [Lib.splitK] using this.symm
    · have := (spl_some b l [] (Lib.indexByte l b).toNat (by omega)).2
      omega
  | n + 1, l, h => by
    rcases Int.lt_or_le (Lib.indexByte l b) 0 with h' | h'
    · have hg := Lib.indexByte_ge l b
      have := (spl_none b l [] (by omega)).2
      omega
    · obtain ⟨e, k⟩ := spl_some b l [] (Lib.indexByte l b).toNat (by omega)
      unfold Lib.splitK
      rw [Lib.index_one, if_neg (by simp; omega), e]
      simp only [List.length_cons, List.length_nil, Nat.zero_add, Nat.add_zero, List.nil_append]
      rw [splitK_one b n _ (by omega)]
theorem countB_one (s : ByteArray) (b : UInt8) : Lib.countB s ⟨#[b]⟩ = s.data.toList.count b := by
  show Lib.count s.data.toList [b] = _
  exact Lib.count_one b _
theorem map_strV (l : List ByteArray) : l.map Value.string = (l.map (·.data.toList)).map strV := by
  induction l with
  | nil => rfl
  | cons x l ih => simp [ih, strV]
theorem splitB_one (s : ByteArray) (b : UInt8) : (Lib.splitB ⟨#[b]⟩ 0 (Lib.countB s ⟨#[b]⟩) s).map Value.string = (spl b s.data.toList []).map strV := by
  rw [map_strV, Lib.splitB_data, countB_one]
  exact congrArg (List.map strV) (splitK_one b _ _ rfl)
theorem extract_strV (s : ByteArray) (f k : Nat) : Value.string (s.extract f k) = strV ((s.data.toList.take k).drop f) := by
  unfold strV
  congr 1
  apply ByteArray.ext
  apply Array.ext'
  rw [Lib.extract_data]
  show _ = List.drop f (List.take k s.data.toList)
  rw [List.drop_take]
theorem drop_at (s : ByteArray) (k : Nat) (h : k < s.size) : s.data.toList.drop k = s[k] :: s.data.toList.drop (k + 1) := by
  rw [List.drop_eq_getElem_cons (by simpa using h)]; rfl
theorem take_at (s : ByteArray) (k : Nat) (h : k < s.size) : s.data.toList.take (k + 1) = s.data.toList.take k ++ [s[k]] := by
  rw [List.take_succ_eq_append_getElem (by simpa using h)]; rfl
/-- The bytes before a last byte b. -/
theorem spl_snoc (b : UInt8) : ∀ (l cur : List UInt8), spl b (l ++ [b]) cur = spl b l cur ++ [[]]
  | [], cur => by simp [spl]
  | c :: l, cur => by
    simp only [List.cons_append]
    rw [spl_cons, spl_cons]
    by_cases h : c = b
    · rw [if_pos h, if_pos h, spl_snoc b l []]; rfl
    · rw [if_neg h, if_neg h, spl_snoc b l (cur ++ [c])]
theorem suffix_one (l : List UInt8) (b : UInt8) : Lib.hasSuffix l [b] = true ↔ ∃ r, l = r ++ [b] := by
  unfold Lib.hasSuffix
  rw [List.isSuffixOf_iff_suffix]
  constructor
  · rintro ⟨r, h⟩; exact ⟨r, h.symm⟩
  · rintro ⟨r, h⟩; exact ⟨r, h.symm⟩
theorem trim_one (r : List UInt8) (b : UInt8) : Lib.trimSuffix (r ++ [b]) [b] = r := by
  unfold Lib.trimSuffix
  rw [if_pos ((suffix_one _ _).2 ⟨r, rfl⟩)]
  simp
end Go.Proofs.YtlmdebjbjbadlaaGreatDoor
