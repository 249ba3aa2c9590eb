/-
  The program's and the reference's tests whether a text is a script return the same, for every string of at most 1048576 bytes.
-/
import Derived.Test.YtoihklgooligkaaDoorRows
import Derived.Test.YtoihklgooligkaaDoorKit
import Derived.Test.YtoihklgooligkaaDoorOwn
import Derived.Test.YtoihklgooligkaaDoorPlain
import Derived.Test.YtoihklgooligkaaDoorSplit
import Derived.Test.YtoihklgooligkaaDoorShelf
import Derived.WalkKit
import Derived.WalkSpells
import Derived.WalkLawsBesides
import Derived.Lib.Hide
import Derived.Shelf.Vars
namespace Go.Proofs.YtoihklgooligkaaDoor
open Go.RowKit

/-- internal/bytealg.MaxLen holds some number. -/
def MaxLenAt (w : World) : Prop := ∃ m : Int, w.cell? ⟨1, 0, none⟩ = some (.int .i64 m)
theorem MaxLenAt.lt {w : World} (h : MaxLenAt w) : 1 < w.heap.size := by
  obtain ⟨m, hm⟩ := h
  exact World.block_lt_of_cell? _ _ hm
theorem MaxLenAt.below {w w' : World} (h : MaxLenAt w) (hb : Below w.heap.size w w') : MaxLenAt w' := by
  have hl := h.lt
  obtain ⟨m, hm⟩ := h
  exact ⟨m, (hb.cell (p := ⟨1, 0, none⟩) hl).trans hm⟩

/-- The program's endedLines: the lines, where the text ends with a line's end. -/
theorem endedLines_no (s : ByteArray) (w : World) (hs : s.size ≤ 1048576) (h : Lib.hasSuffix s.data.toList [10] = false) :
    Calls Tryd.prog 46 #[.string s] w fun e w' => e = .returned (.tuple #[.slice none 0 0, .bool false]) ∧ w = w' := by
  go_enter Tryd.func46, Tryd.ntmps46
  go_wp2_with (go_at_call 70; refine (Tryd.strings_CutSuffix s ⟨#[10]⟩ _ (by omega)).mono ?_; rintro e w' ⟨rfl, rfl⟩)
  go_ret2
  exact ⟨rfl, rfl⟩
theorem endedLines_yes (s : ByteArray) (r : List UInt8) (w : World) (hs : s.size ≤ 1048576) (hm : MaxLenAt w) (h : s.data.toList = r ++ [10]) :
    Calls Tryd.prog 46 #[.string s] w fun e w' =>
      e = .returned (.tuple #[.slice (some ⟨w.heap.size, 0, none⟩) (r.count 10 + 1) (r.count 10 + 1), .bool true]) ∧ w' = w.alloc (.cells ((spl 10 r []).map strV).toArray 9) := by
  obtain ⟨m, hm⟩ := hm
  have h1 : Lib.hasSuffix s.data.toList [10] = true := (suffix_one _ _).2 ⟨r, h⟩
  have h2 : Lib.trimSuffix s.data.toList [10] = r := by rw [h]; exact trim_one r 10
  have hl : (ByteArray.mk r.toArray).size < 4294967281 := by
    have e : s.size = r.length + 1 := by rw [Lib.size_eq, h]; simp
    have e2 : (ByteArray.mk r.toArray).size = r.length := by rw [Lib.size_eq]
    omega
  have h3 := splitB_one ⟨r.toArray⟩ 10
  have h4 := countB_one ⟨r.toArray⟩ 10
  have H2 := Lib.hid h2; clear h2
  have H3 := Lib.hid h3; clear h3
  have H4 := Lib.hid h4; clear h4
  have H := Lib.hid h; clear h
  go_enter Tryd.func46, Tryd.ntmps46
  go_wp2_with (first
    | (go_at_call 70; refine (Tryd.strings_CutSuffix s ⟨#[10]⟩ _ (by omega)).mono ?_; rintro e w' ⟨rfl, rfl⟩; rw [show Lib.trimSuffix s.data.toList (ByteArray.mk #[10]).data.toList = r from H2.out])
    | (go_at_call 71; refine (Tryd.strings_Split ⟨r.toArray⟩ ⟨#[10]⟩ m _ hl hm (by decide)).mono ?_; rintro e w' ⟨rfl, rfl⟩; rw [H3.out, H4.out]))
  go_ret2
  exact ⟨rfl, rfl⟩

def scriptL (n : Nat) (L : List UInt8) : Bool := decide (n ≤ 3000 ∧ (L = [] ∨ L.getLast? = some 10 ∧ L.count 10 ≤ 50))
def isScriptB (s : ByteArray) : Bool := scriptL s.size s.data.toList
theorem scriptL_long {n : Nat} {L : List UInt8} (h : ¬ n ≤ 3000) : scriptL n L = false := by simp [scriptL, h]
theorem scriptL_nil {n : Nat} (h : n ≤ 3000) : scriptL n [] = true := by simp [scriptL, h]
theorem scriptL_yes {n : Nat} {r : List UInt8} (h : n ≤ 3000) : scriptL n (r ++ [10]) = decide (((r.count 10 : Nat) : Int) + 1 ≤ 50) := by
  simp [scriptL, h]; omega
theorem scriptL_no {n : Nat} {L : List UInt8} (h1 : L ≠ []) (h : ¬ ∃ r, L = r ++ [10]) : scriptL n L = false := by
  have : L.getLast? ≠ some 10 := fun e => by
    obtain ⟨r, hr⟩ := List.getLast?_eq_some_iff.1 e
    exact h ⟨r, hr⟩
  simp [scriptL, h1, this]
theorem notEmpty {s : ByteArray} (h : s.data.toList ≠ []) : s.toList.isEmpty = false := by
  rw [Lib.toList_data]
  cases hh : s.data.toList with
  | nil => exact absurd hh h
  | cons => rfl
theorem impl_scriptLines (s : ByteArray) (w : World) (hs : s.size ≤ 1048576) (hm : MaxLenAt w) :
    Calls Tryd.prog 25 #[.string s] w fun e w' => (∃ v, e = .returned (.tuple #[v, .bool (isScriptB s)])) ∧ Below w.heap.size w w' := by
  by_cases h1 : s.size ≤ 3000
  · by_cases h2 : s.data.toList = []
    · have H := Lib.hid (show isScriptB s = true by unfold isScriptB; rw [h2]; exact scriptL_nil h1)
      obtain ⟨⟨l⟩⟩ := s
      obtain rfl : l = [] := h2
      go_enter Tryd.func25, Tryd.ntmps25
      go_wp2
      go_ret2
      exact ⟨⟨_, by rw [H.out]; rfl⟩, Below.refl _ _⟩
    · have he := notEmpty h2
      by_cases h3 : Lib.hasSuffix s.data.toList [10] = true
      · obtain ⟨r, hr⟩ := (suffix_one _ _).1 h3
        have H := Lib.hid (show isScriptB s = decide (((r.count 10 : Nat) : Int) + 1 ≤ 50) by unfold isScriptB; rw [hr]; exact scriptL_yes h1)
        clear h3
        have HR := Lib.hid hr; clear hr
        go_enter Tryd.func25, Tryd.ntmps25
        go_wp2_with (go_at_call 46; refine (endedLines_yes s r _ hs hm HR.out).mono ?_; rintro e w' ⟨rfl, rfl⟩)
        go_ret2
        exact ⟨⟨_, by rw [H.out]; rfl⟩, bl_alloc (Below.refl _ _) _⟩
      · have h4 : Lib.hasSuffix s.data.toList [10] = false := by simpa using h3
        have H := Lib.hid (show isScriptB s = false from scriptL_no h2 (fun ⟨r, hr⟩ => h3 ((suffix_one _ _).2 ⟨r, hr⟩)))
        clear h3
        have H4 := Lib.hid h4; clear h4
        go_enter Tryd.func25, Tryd.ntmps25
        go_wp2_with (go_at_call 46; refine (endedLines_no s _ hs H4.out).mono ?_; rintro e w' ⟨rfl, rfl⟩)
        go_ret2
        exact ⟨⟨_, by rw [H.out]; rfl⟩, Below.refl _ _⟩
  · have H := Lib.hid (show isScriptB s = false from scriptL_long h1)
    go_enter Tryd.func25, Tryd.ntmps25
    go_wp2
    go_ret2
    exact ⟨⟨_, by rw [H.out]; rfl⟩, Below.refl _ _⟩

theorem spec_scLines (s : ByteArray) (w : World) (hs : s.size ≤ 1048576) :
    Calls Tryd.prog 24 #[.string s] w fun e w' => (∃ v, e = .returned (.tuple #[v, .bool (isScriptB s)])) ∧ Below w.heap.size w w' := by
  by_cases h1 : s.size ≤ 3000
  · by_cases h2 : s.data.toList = []
    · have H := Lib.hid (show isScriptB s = true by unfold isScriptB; rw [h2]; exact scriptL_nil h1)
      obtain ⟨⟨l⟩⟩ := s
      obtain rfl : l = [] := h2
      go_enter Tryd.func24, Tryd.ntmps24
      go_wp2_with fail
      refine (l1Split_row _ 10 _ (by omega)).mono ?_
      rintro e w' ⟨N, g, cap, -, hN, rfl, h5, h6, h7, h8, hown, hb⟩
      obtain rfl : N = 1 := hN
      unfold maxLen at h6
      go_wp2
      go_ret2
      exact ⟨⟨_, by rw [H.out]; rfl⟩, hb⟩
    · have he := notEmpty h2
      have hpos : 0 < s.size := by rw [Lib.size_eq]; exact List.length_pos_iff.2 h2
      by_cases h3 : ∃ r, s.data.toList = r ++ [10]
      · obtain ⟨r, hr⟩ := h3
        have H := Lib.hid (show isScriptB s = decide (((r.count 10 : Nat) : Int) + 1 ≤ 50) by unfold isScriptB; rw [hr]; exact scriptL_yes h1)
        have hlast : s[s.size - 1] = 10 := by
          have e : s.size - 1 = r.length := by rw [Lib.size_eq, hr]; simp
          have : s.data.toList[s.size - 1]? = some 10 := by rw [hr, e]; simp
          rw [List.getElem?_eq_some_iff] at this
          obtain ⟨_, h⟩ := this
          exact h
        have hcnt := Lib.hid (show s.data.toList.count 10 = r.count 10 + 1 by rw [hr]; simp)
        clear hr
        go_enter Tryd.func24, Tryd.ntmps24
        go_wp2_with fail
        refine (l1Split_row _ 10 _ (by omega)).mono ?_
        rintro e w' ⟨N, g, cap, -, hN, rfl, h5, h6, h7, h8, hown, hb⟩
        rw [hcnt.out] at hN
        generalize r.count 10 = q at *
        obtain rfl : N = q + 2 := hN
        unfold maxLen at h6
        go_wp2
        go_ret2
        have e : decide ((q : Int) + 1 ≤ 50) = decide ((q : Int) + 2 - 1 ≤ 50) := by
          have : ((q : Int) + 1 ≤ 50) ↔ ((q : Int) + 2 - 1 ≤ 50) := by omega
          simp only [this]
        exact ⟨⟨_, ret2b (by rw [H.out, e])⟩, hb⟩
      · have H := Lib.hid (show isScriptB s = false from scriptL_no h2 h3)
        have hlast : ((s[s.size - 1].toNat : Int) == 10) = false := by
          rw [beq_eq_false_iff_ne]
          intro e
          apply h3
          have e' : s[s.size - 1] = 10 := by apply UInt8.toNat_inj.1; simpa using (by omega : s[s.size - 1].toNat = 10)
          refine ⟨s.data.toList.take (s.size - 1), ?_⟩
          have hz := Lib.size_eq s
          have := take_at s (s.size - 1) (by omega)
          rw [e', List.take_of_length_le (by omega)] at this
          exact this
        have hlast' : ((s[s.size - 1].toNat : Int) != 10) = true := by rw [bne, hlast]; rfl
        clear h3
        go_enter Tryd.func24, Tryd.ntmps24
        go_wp2_with fail
        go_ret2
        exact ⟨⟨_, by rw [H.out]; rfl⟩, Below.refl _ _⟩
  · have H := Lib.hid (show isScriptB s = false from scriptL_long h1)
    go_enter Tryd.func24, Tryd.ntmps24
    go_wp2
    go_ret2
    exact ⟨⟨_, by rw [H.out]; rfl⟩, Below.refl _ _⟩
theorem spec_IsScript (s : ByteArray) (w : World) (hs : s.size ≤ 1048576) :
    Calls Tryd.prog 7 #[.string s] w fun e w' => e = .returned (.bool (isScriptB s)) ∧ Below w.heap.size w w' := by
  go_enter Tryd.func7, Tryd.ntmps7
  go_wp2_with (go_at_call 24; refine (spec_scLines s _ hs).mono ?_; rintro e w' ⟨⟨v, rfl⟩, hb⟩)
  go_ret
  exact ⟨rfl, hb⟩
theorem impl_IsScript (s : ByteArray) (w : World) (hs : s.size ≤ 1048576) (hm : MaxLenAt w) :
    Calls Tryd.prog 8 #[.string s] w fun e w' => e = .returned (.bool (isScriptB s)) ∧ Below w.heap.size w w' := by
  go_enter Tryd.func8, Tryd.ntmps8
  go_wp2_with (go_at_call 25; refine (impl_scriptLines s _ hs hm).mono ?_; rintro e w' ⟨⟨v, rfl⟩, hb⟩)
  go_ret
  exact ⟨rfl, hb⟩
theorem law_IsScript (s : ByteArray) (w : World) (hs : s.size ≤ maxLen) (hm : MaxLenAt w) :
    Calls Tryd.prog 3 #[.string s] w fun e w' => e = .returned (.bool true) ∧ Below w.heap.size w w' := by
  unfold maxLen at hs
  by_cases h : s.size ≤ 1048576
  · go_enter Tryd.func3, Tryd.ntmps3
    go_wp2_with fail
    refine (spec_IsScript s _ h).mono ?_
    rintro e w1 ⟨rfl, hb1⟩
    go_wp2_with fail
    refine (impl_IsScript s _ h (hm.below hb1)).mono ?_
    rintro e w2 ⟨rfl, hb2⟩
    go_wp2_with fail
    go_ret
    exact ⟨rfl, bl_trans hb1 hb2⟩
  · go_enter Tryd.func3, Tryd.ntmps3
    go_wp2_with fail
    go_ret
    exact ⟨rfl, Below.refl _ _⟩
end Go.Proofs.YtoihklgooligkaaDoor
