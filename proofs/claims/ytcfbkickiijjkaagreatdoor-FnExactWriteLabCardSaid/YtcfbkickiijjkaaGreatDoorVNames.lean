/-
  Names: what the reference's srName and the program's isName return is one plain function, for every string.
-/
import Derived.Test.YtcfbkickiijjkaaGreatDoorVShelf2
import Derived.Shelf.Strings.SlTrimAscii
namespace Go.Proofs.YtcfbkickiijjkaaGreatDoor
open Go.RowKit
set_option linter.all false
def okAt (j : Nat) (b : UInt8) : Prop := (97 ≤ b.toNat ∧ b.toNat ≤ 122) ∨ (0 < j ∧ 48 ≤ b.toNat ∧ b.toNat ≤ 57)
def nameP (l : List UInt8) : Prop := (∀ j b, l[j]? = some b → okAt j b) ∧ 1 ≤ l.length ∧ l.length ≤ 8
noncomputable def nameB (l : List UInt8) : Bool := propB (nameP l)
def NameTo (l : List UInt8) (k : Nat) : Prop := ∀ j b, j < k → l[j]? = some b → okAt j b
theorem NameTo.next {l : List UInt8} {k : Nat} {b : UInt8} (h : NameTo l k) (hb : l[k]? = some b) (ho : okAt k b) : NameTo l (k + 1) := by
  intro j c hj hc
  rcases Nat.lt_or_ge j k with h1 | h1
  · exact h j c h1 hc
  · obtain rfl : j = k := by omega
    rw [hb] at hc
    obtain rfl : b = c := by simpa using hc
    exact ho
theorem nameB_no {l : List UInt8} {k : Nat} {b : UInt8} (hb : l[k]? = some b) (ho : ¬ okAt k b) : nameB l = false := propB_f fun h => ho (h.1 k b hb)
theorem nameB_end {l : List UInt8} {k : Nat} (h : NameTo l k) (hk : l.length ≤ k) : nameB l = inB l.length 1 8 := by
  have : nameP l ↔ ((1 : Int) ≤ l.length ∧ (l.length : Int) ≤ 8) :=
    ⟨fun h => ⟨by have := h.2.1; omega, by have := h.2.2; omega⟩, fun h' => ⟨fun j b hb => h j b (by have := (List.getElem?_eq_some_iff.1 hb).1; omega) hb, by omega, by omega⟩⟩
  unfold nameB inB
  by_cases hp : nameP l
  · rw [propB_t hp, decide_eq_true (this.1 hp)]
  · rw [propB_f hp, decide_eq_false (fun h => hp (this.2 h))]
theorem at_of (s : ByteArray) (k : Nat) (h : k < s.size) : s.data.toList[k]? = some s[k] := by
  rw [List.getElem?_eq_getElem (by simpa using h)]; rfl
set_option maxRecDepth 100000 in
theorem spec_srName (s : ByteArray) (w : World) (hs : s.size ≤ maxLen) :
  Calls Tryz.prog 91 #[.string s] w fun e w' => e = .returned (.bool (nameB s.data.toList)) ∧ w = w' := by
 unfold maxLen at hs
 go_enter Tryz.func91, Tryz.ntmps91
 go_wp2
 go_loop [3] (fun i => ∃ k : Nat, k ≤ s.size ∧ i = .int .i64 k ∧ NameTo s.data.toList k) (fun i => s.size - (intOf i).toNat)
 case atStart => exact ⟨0, Nat.zero_le _, rfl, fun j b hj => by omega⟩
 case round =>
  obtain ⟨k, hk, rfl, hto⟩ := hrel
  have HT := Lib.hid hto; clear hto
  by_cases hlt : k < s.size
  ·
   have HG := Lib.hid (at_of s k hlt)
   have HN := Lib.hid (fun (h : okAt k s[k]) => HT.out.next HG.out h)
   have HF := Lib.hid (fun (h : ¬ okAt k s[k]) => nameB_no HG.out h)
   have hb : (s[k].toNat : Int) < 256 := by have := s[k].toNat_lt; omega
   unfold okAt at HN HF
   clear HG
   by_cases c1 : (97 : Int) ≤ s[k].toNat
   ·
    by_cases c2 : (s[k].toNat : Int) ≤ 122
    ·
     go_wp2
     go_round
     case rel => exact ⟨k + 1, by omega, by go_num, HN.out (Or.inl ⟨by omega, by omega⟩)⟩
     case measure => simp [intOf]; omega
    ·
     have H := Lib.hid (HF.out (by omega))
     by_cases c3 : k = 0
     ·
      subst c3
      go_wp2
      go_ret
      exact ⟨ret_bool H.out.symm, rfl⟩
     ·
      have c3' : ((k : Int) == 0) = false := by rw [beq_eq_false_iff_ne]; omega
      have C3 := Lib.hid c3; clear c3
      go_wp2
      go_ret
      exact ⟨ret_bool H.out.symm, rfl⟩
   ·
    by_cases c3 : k = 0
    ·
     have H := Lib.hid (HF.out (by omega))
     subst c3
     go_wp2
     go_ret
     exact ⟨ret_bool H.out.symm, rfl⟩
    ·
     have c3' : ((k : Int) == 0) = false := by rw [beq_eq_false_iff_ne]; omega
     have C3 := Lib.hid c3; clear c3
     by_cases c4 : (48 : Int) ≤ s[k].toNat
     ·
      by_cases c5 : (s[k].toNat : Int) ≤ 57
      ·
       go_wp2
       go_round
       case rel => exact ⟨k + 1, by omega, by go_num, HN.out (Or.inr ⟨by have := C3.out; omega, by omega, by omega⟩)⟩
       case measure => simp [intOf]; omega
      ·
       have H := Lib.hid (HF.out (by omega))
       go_wp2
       go_ret
       exact ⟨ret_bool H.out.symm, rfl⟩
     ·
      have H := Lib.hid (HF.out (by omega))
      go_wp2
      go_ret
      exact ⟨ret_bool H.out.symm, rfl⟩
  ·
   have H := Lib.hid (nameB_end HT.out (by rw [← Lib.size_eq]; omega))
   go_wp2_with (go_at_call 25; refine (spec_l1In _ _ _ _).mono ?_; rintro e w' ⟨rfl, rfl⟩)
   go_ret
   exact ⟨ret_bool (by rw [H.out, ← Lib.size_eq]), rfl⟩
/-! ### The program's: a trimmed string is empty -/
def alnum : List UInt8 := [97, 98, 99, 100, 101, 102, 103, 104, 105, 106, 107, 108, 109, 110, 111, 112, 113, 114, 115, 116, 117, 118, 119, 120, 121, 122, 48, 49, 50, 51, 52, 53, 54, 55, 56, 57]
set_option maxRecDepth 100000 in
theorem alnum_iff (b : UInt8) : alnum.contains b = true ↔ (97 ≤ b.toNat ∧ b.toNat ≤ 122) ∨ (48 ≤ b.toNat ∧ b.toNat ≤ 57) := by
  have h : ∀ n : Fin 256, (alnum.contains (UInt8.ofNat n.val) = true) ↔ ((97 ≤ n.val ∧ n.val ≤ 122) ∨ (48 ≤ n.val ∧ n.val ≤ 57)) := by decide
  have := h ⟨b.toNat, b.toNat_lt⟩
  simpa using this
theorem dropWhile_nil {α : Type} (p : α → Bool) : ∀ l : List α, l.dropWhile p = [] ↔ ∀ x ∈ l, p x = true
  | [] => by simp
  | a :: l => by
    by_cases h : p a = true
    · simp [List.dropWhile_cons, h, dropWhile_nil p l]
    · simp [List.dropWhile_cons, h]
theorem trim_nil (l cs : List UInt8) : Lib.trimS l cs = [] ↔ ∀ b ∈ l, cs.contains b = true := by
  unfold Lib.trimS Lib.trimLeftS Lib.trimRightS
  constructor
  · intro h
    rw [dropWhile_nil] at h
    have h2 : l.reverse.dropWhile (cs.contains ·) = [] := by
      cases hd : l.reverse.dropWhile (cs.contains ·) with
      | nil => rfl
      | cons x r =>
        have h3 := h x (by rw [hd]; simp)
        have h4 := List.head?_dropWhile_not (cs.contains ·) l.reverse
        rw [hd] at h4
        simp only [List.head?_cons] at h4
        rw [h3] at h4
        cases h4
    rw [dropWhile_nil] at h2
    intro b hb
    exact h2 b (by simpa using hb)
  · intro h
    have : l.reverse.dropWhile (cs.contains ·) = [] := (dropWhile_nil _ _).2 fun x hx => h x (by simpa using hx)
    rw [this]
    rfl
theorem nameP_iff (b : UInt8) (t : List UInt8) (hl : t.length ≤ 7) : nameP (b :: t) ↔ (97 ≤ b.toNat ∧ b.toNat ≤ 122) ∧ Lib.trimS (b :: t) alnum = [] := by
  rw [trim_nil]
  constructor
  · intro h
    have h0 := h.1 0 b rfl
    refine ⟨?_, fun c hc => ?_⟩
    · rcases h0 with h0 | h0
      · exact h0
      · omega
    · obtain ⟨j, hj⟩ := List.mem_iff_getElem?.1 hc
      rw [alnum_iff]
      rcases h.1 j c hj with h1 | h1
      · exact .inl h1
      · exact .inr h1.2
  · rintro ⟨h1, h2⟩
    refine ⟨fun j c hj => ?_, by simp, by simp; omega⟩
    match j, hj with
    | 0, hj =>
      obtain rfl : b = c := by simpa using hj
      exact .inl h1
    | j + 1, hj =>
      have := (alnum_iff c).1 (h2 c (List.mem_of_getElem? hj))
      rcases this with h | h
      · exact .inl h
      · exact .inr ⟨by omega, h⟩
theorem trim_call (s : ByteArray) (w : World) (hs : s.size ≤ 9223372036854775807) :
    Calls Tryz.prog 123 #[.string s, .string ⟨alnum.toArray⟩] w fun e w' => e = .returned (.string ⟨(Lib.trimS s.data.toList alnum).toArray⟩) ∧ Below w.heap.size w w' :=
  Any.strings_Trim_laid Tryz.lays160 (by kernel_rfl) s ⟨alnum.toArray⟩ w hs (by decide) (ascii_of_all (by decide))
theorem isEmpty_of {t : ByteArray} {l : List UInt8} (h : t = ⟨l.toArray⟩) (hl : l = []) : t.toList.isEmpty = true := by
  subst h; subst hl; rw [Lib.toList_data]; rfl
theorem notEmpty_of {t : ByteArray} {l : List UInt8} (h : t = ⟨l.toArray⟩) (hl : l ≠ []) : t.toList.isEmpty = false := by
  subst h
  rw [Lib.toList_data]
  cases l with
  | nil => exact absurd rfl hl
  | cons => rfl
set_option maxRecDepth 100000 in
theorem impl_isName (s : ByteArray) (w : World) (hs : s.size ≤ maxLen) :
  Calls Tryz.prog 100 #[.string s] w fun e w' => e = .returned (.bool (nameB s.data.toList)) ∧ Below w.heap.size w w' := by
 unfold maxLen at hs
 by_cases h : (1 : Int) ≤ s.size ∧ (s.size : Int) ≤ 8
 ·
  have hin := inB_t h
  obtain ⟨b, t, hbt⟩ : ∃ b t, s.data.toList = b :: t := by
   cases hl : s.data.toList with
   | nil => have := Lib.size_eq s; rw [hl] at this; have : s.size = 0 := this; omega
   | cons b t => exact ⟨b, t, rfl⟩
  have hlt : 0 < s.size := by omega
  have hb : s[0] = b := by have := at_of s 0 hlt; rw [hbt] at this; simpa using this.symm
  have htl : t.length ≤ 7 := by have := Lib.size_eq s; rw [hbt, List.length_cons] at this; omega
  have HN := Lib.hid (nameP_iff b t htl)
  rw [← hbt, ← hb] at HN
  clear hb hbt htl
  by_cases c1 : (97 : Int) ≤ s[0].toNat
  ·
   by_cases c2 : (s[0].toNat : Int) ≤ 122
   ·
    have HT := Lib.hid (fun W => trim_call s W (by omega))
    unfold alnum at HT
    go_enter Tryz.func100, Tryz.ntmps100
    go_wp2_with (go_at_call 78; refine (impl_within _ _ _ _).mono ?_; rintro e w' ⟨rfl, rfl⟩; rw [hin])
    refine (HT.out w).mono ?_
    rintro e w1 ⟨rfl, hb1⟩
    obtain ⟨u, hu⟩ : ∃ u : ByteArray, u = ⟨(Lib.trimS s.data.toList alnum).toArray⟩ := ⟨_, rfl⟩
    have HU := Lib.hid hu
    unfold alnum at hu
    rw [← hu]
    clear hu
    by_cases c3 : Lib.trimS s.data.toList alnum = []
    ·
     have H := Lib.hid (show nameB s.data.toList = true from propB_t (HN.out.2 ⟨⟨by omega, by omega⟩, c3⟩))
     have he := isEmpty_of HU.out c3
     clear c3
     go_wp2_with fail
     go_ret
     exact ⟨ret_bool H.out.symm, hb1⟩
    ·
     have H := Lib.hid (show nameB s.data.toList = false from propB_f (fun h => c3 (HN.out.1 h).2))
     have he := notEmpty_of HU.out c3
     clear c3
     go_wp2_with fail
     go_ret
     exact ⟨ret_bool H.out.symm, hb1⟩
   ·
    have H := Lib.hid (show nameB s.data.toList = false from propB_f (fun h => by have := (HN.out.1 h).1; omega))
    go_enter Tryz.func100, Tryz.ntmps100
    go_wp2_with (go_at_call 78; refine (impl_within _ _ _ _).mono ?_; rintro e w' ⟨rfl, rfl⟩; rw [hin])
    go_ret
    exact ⟨ret_bool H.out.symm, Below.refl _ _⟩
  ·
   have H := Lib.hid (show nameB s.data.toList = false from propB_f (fun h => by have := (HN.out.1 h).1; omega))
   go_enter Tryz.func100, Tryz.ntmps100
   go_wp2_with (go_at_call 78; refine (impl_within _ _ _ _).mono ?_; rintro e w' ⟨rfl, rfl⟩; rw [hin])
   go_ret
   exact ⟨ret_bool H.out.symm, Below.refl _ _⟩
 ·
  have hin := inB_f h
  have H := Lib.hid (show nameB s.data.toList = false from propB_f (fun k => h (by have := k.2; rw [← Lib.size_eq] at this; omega)))
  go_enter Tryz.func100, Tryz.ntmps100
  go_wp2_with (go_at_call 78; refine (impl_within _ _ _ _).mono ?_; rintro e w' ⟨rfl, rfl⟩; rw [hin])
  go_ret
  exact ⟨ret_bool H.out.symm, Below.refl _ _⟩
end Go.Proofs.YtcfbkickiijjkaaGreatDoor
