/-
  Names: what the reference's srName and the program's isName return is one plain function, for every string.
-/
import Derived.Test.YtlmdebjbjbadlaaDoorRows
import Derived.Test.YtlmdebjbjbadlaaDoorKit
import Derived.Test.YtlmdebjbjbadlaaDoorBasic
import Derived.Test.YtlmdebjbjbadlaaDoorPlain
import Derived.Shelf.Strings.SlTrimAscii
import Derived.WalkKit
import Derived.WalkSpells
import Derived.WalkLawsBesides
import Derived.Lib.Hide
namespace Go.Proofs.YtlmdebjbjbadlaaDoor
open Go.RowKit
set_option linter.unusedVariables false
set_option linter.unusedSimpArgs false

def isLt (b : UInt8) : Bool := decide (97 ≤ b.toNat ∧ b.toNat ≤ 122)
def isDg (b : UInt8) : Bool := decide (48 ≤ b.toNat ∧ b.toNat ≤ 57)
def okAt (j : Nat) (b : UInt8) : Prop := (97 ≤ b.toNat ∧ b.toNat ≤ 122) ∨ (0 < j ∧ 48 ≤ b.toNat ∧ b.toNat ≤ 57)
def nameP (l : List UInt8) : Prop := (∀ j b, l[j]? = some b → okAt j b) ∧ 1 ≤ l.length ∧ l.length ≤ 8
noncomputable def nameB (l : List UInt8) : Bool := propB (nameP l)
def NameTo (l : List UInt8) (k : Nat) : Prop := ∀ j b, j < k → l[j]? = some b → okAt j b
theorem NameTo.next {l : List UInt8} {k : Nat} {b : UInt8} (h : NameTo l k) (hb : l[k]? = some b) (ho : okAt k b) : NameTo l (k + 1) := by
  intro j c hj hc
  rcases Nat.lt_or_ge j k with h1 | h1
  · exact h j c h1 hc
  · obtain rfl : j = k := by omega
    rw [hb] at hc
    obtain rfl : b = c := by simpa using hc
    exact ho
theorem nameB_no {l : List UInt8} {k : Nat} {b : UInt8} (hb : l[k]? = some b) (ho : ¬ okAt k b) : nameB l = false := propB_f fun h => ho (h.1 k b hb)
theorem nameB_end {l : List UInt8} {k : Nat} (h : NameTo l k) (hk : l.length ≤ k) : nameB l = inB l.length 1 8 := by
  have : nameP l ↔ ((1 : Int) ≤ l.length ∧ (l.length : Int) ≤ 8) :=
    ⟨fun h => ⟨by have := h.2.1; omega, by have := h.2.2; omega⟩, fun h' => ⟨fun j b hb => h j b (by have := (List.getElem?_eq_some_iff.1 hb).1; omega) hb, by omega, by omega⟩⟩
  unfold nameB inB
  by_cases hp : nameP l
  · rw [propB_t hp, decide_eq_true (this.1 hp)]
  · rw [propB_f hp, decide_eq_false (fun h => hp (this.2 h))]
theorem at_of (s : ByteArray) (k : Nat) (h : k < s.size) : s.data.toList[k]? = some s[k] := by
  rw [List.getElem?_eq_getElem (by simpa using h)]; rfl

/-! ### The program's: a trimmed string is empty -/
def alnum : List UInt8 := [97, 98, 99, 100, 101, 102, 103, 104, 105, 106, 107, 108, 109, 110, 111, 112, 113, 114, 115, 116, 117, 118, 119, 120, 121, 122, 48, 49, 50, 51, 52, 53, 54, 55, 56, 57]
set_option maxRecDepth 100000 in
theorem alnum_iff (b : UInt8) : alnum.contains b = true ↔ (97 ≤ b.toNat ∧ b.toNat ≤ 122) ∨ (48 ≤ b.toNat ∧ b.toNat ≤ 57) := by
  have h : ∀ n : Fin 256, (alnum.contains (UInt8.ofNat n.val) = true) ↔ ((97 ≤ n.val ∧ n.val ≤ 122) ∨ (48 ≤ n.val ∧ n.val ≤ 57)) := by decide
  have := h ⟨b.toNat, b.toNat_lt⟩
  simpa using this
theorem dropWhile_nil {α : Type} (p : α → Bool) : ∀ l : List α, l.dropWhile p = [] ↔ ∀ x ∈ l, p x = true
  | [] => by simp
  | a :: l => by
    by_cases h : p a = true
    · simp [List.dropWhile_cons, h, dropWhile_nil p l]
    · simp [List.dropWhile_cons, h]
theorem trim_nil (l cs : List UInt8) : Lib.trimS l cs = [] ↔ ∀ b ∈ l, cs.contains b = true := by
  unfold Lib.trimS Lib.trimLeftS Lib.trimRightS
  constructor
  · intro h
    rw [dropWhile_nil] at h
    have h2 : l.reverse.dropWhile (cs.contains ·) = [] := by
      cases hd : l.reverse.dropWhile (cs.contains ·) with
      | nil => rfl
      | cons x r =>
        have h3 := h x (by rw [hd]; simp)
        have h4 := List.head?_dropWhile_not (cs.contains ·) l.reverse
        rw [hd] at h4
        simp only [List.head?_cons] at h4
        rw [h3] at h4
        cases h4
    rw [dropWhile_nil] at h2
    intro b hb
    exact h2 b (by simpa using hb)
  · intro h
    have : l.reverse.dropWhile (cs.contains ·) = [] := (dropWhile_nil _ _).2 fun x hx => h x (by simpa using hx)
    rw [this]
    rfl
theorem nameP_iff (b : UInt8) (t : List UInt8) (hl : t.length ≤ 7) : nameP (b :: t) ↔ (97 ≤ b.toNat ∧ b.toNat ≤ 122) ∧ Lib.trimS (b :: t) alnum = [] := by
  rw [trim_nil]
  constructor
  · intro h
    have h0 := h.1 0 b rfl
    refine ⟨?_, fun c hc => ?_⟩
    · rcases h0 with h0 | h0
      · exact h0
      · omega
    · obtain ⟨j, hj⟩ := List.mem_iff_getElem?.1 hc
      rw [alnum_iff]
      rcases h.1 j c hj with h1 | h1
      · exact .inl h1
      · exact .inr h1.2
  · rintro ⟨h1, h2⟩
    refine ⟨fun j c hj => ?_, by simp, by simp; omega⟩
    match j, hj with
    | 0, hj =>
      obtain rfl : b = c := by simpa using hj
      exact .inl h1
    | j + 1, hj =>
      have := (alnum_iff c).1 (h2 c (List.mem_of_getElem? hj))
      rcases this with h | h
      · exact .inl h
      · exact .inr ⟨by omega, h⟩
theorem isEmpty_of {t : ByteArray} {l : List UInt8} (h : t = ⟨l.toArray⟩) (hl : l = []) : t.toList.isEmpty = true := by
  subst h; subst hl; rw [Lib.toList_data]; rfl
theorem notEmpty_of {t : ByteArray} {l : List UInt8} (h : t = ⟨l.toArray⟩) (hl : l ≠ []) : t.toList.isEmpty = false := by
  subst h
  rw [Lib.toList_data]
  cases l with
  | nil => exact absurd rfl hl
  | cons => rfl
end Go.Proofs.YtlmdebjbjbadlaaDoor
