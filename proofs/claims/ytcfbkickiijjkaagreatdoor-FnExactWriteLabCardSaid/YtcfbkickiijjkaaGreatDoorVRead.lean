/-
  Numbers that are read: the reference's l1Read and the program's readNumber return the number of a canonical numeral of at most six digits, and nothing else.
-/
import Derived.Test.YtcfbkickiijjkaaGreatDoorVNames
import Derived.Test.YtcfbkickiijjkaaGreatDoorVShelf3
import Derived.Lib.AtoiTie
import Derived.Lib.ConvBytes
import Derived.Lib.AtoiBound
namespace Go.Proofs.YtcfbkickiijjkaaGreatDoor
open Go.RowKit
set_option linter.all false
def dgt (b : UInt8) : Prop := 48 ≤ b.toNat ∧ b.toNat ≤ 57
def valD (l : List UInt8) : Nat := l.foldl (fun n b => 10 * n + (b.toNat - 48)) 0
theorem valD_snoc (l : List UInt8) (b : UInt8) : valD (l ++ [b]) = 10 * valD l + (b.toNat - 48) := by simp [valD]
def canD (l : List UInt8) : Prop := l ≠ [] ∧ (∀ b ∈ l, dgt b) ∧ (l.head? = some 48 → l.length ≤ 1)
def canP (l : List UInt8) : Prop := canD l ∧ l.length ≤ 6
theorem snoc_cases (l : List UInt8) (h : l ≠ []) : ∃ r b, l = r ++ [b] := ⟨l.dropLast, l.getLast h, (List.dropLast_concat_getLast h).symm⟩
theorem ofNat_dgt {b : UInt8} (h : dgt b) : UInt8.ofNat (48 + (b.toNat - 48)) = b := by
  unfold dgt at h
  rw [show 48 + (b.toNat - 48) = b.toNat by omega]
  simp
theorem valD_pos : ∀ (n : Nat) (l : List UInt8), l.length = n → (∀ b ∈ l, dgt b) → l ≠ [] → l.head? ≠ some 48 → 1 ≤ valD l
  | n, l, hn, hd, hne, hh => by
    obtain ⟨r, b, rfl⟩ := snoc_cases l hne
    rw [valD_snoc]
    by_cases hr : r = []
    · subst hr
      have h1 := hd b (by simp)
      unfold dgt at h1
      have : b.toNat ≠ 48 := fun e => hh (by simp; exact UInt8.toNat_inj.1 (by simpa using e))
      simp [valD]
      omega
    · have := valD_pos r.length r rfl (fun c hc => hd c (by simp [hc])) hr (by
        intro e
        apply hh
        rw [List.head?_append, e]; rfl)
      omega
termination_by n => n
decreasing_by simp at hn; omega
theorem dec_val : ∀ (n : Nat) (l : List UInt8), l.length = n → canD l → Lib.decDigits (valD l) = l
  | n, l, hn, hc => by
    obtain ⟨r, b, rfl⟩ := snoc_cases l hc.1
    have hb := hc.2.1 b (by simp)
    rw [valD_snoc]
    by_cases hr : r = []
    · subst hr
      have hb' := hb
      unfold dgt at hb'
      show Lib.decDigits (10 * 0 + (b.toNat - 48)) = [b]
      rw [dec_small (by omega), Nat.mul_zero, Nat.zero_add, ofNat_dgt hb]
    · have hd : ∀ c ∈ r, dgt c := fun c h => hc.2.1 c (by simp [h])
      have hh : r.head? ≠ some 48 := fun e => by
        have := hc.2.2 (by rw [List.head?_append, e]; rfl)
        simp at this
        exact hr (by simpa using this)
      have hp := valD_pos r.length r rfl hd hr hh
      have hb' := hb
      unfold dgt at hb'
      rw [dec_big (by omega), show (10 * valD r + (b.toNat - 48)) / 10 = valD r by omega, show (10 * valD r + (b.toNat - 48)) % 10 = b.toNat - 48 by omega, ofNat_dgt hb,
        dec_val r.length r rfl ⟨hr, hd, fun e => absurd e hh⟩]
termination_by n => n
decreasing_by simp at hn; omega
theorem val_dec : ∀ (f n : Nat), n < f → canD (Lib.decDigits n) ∧ valD (Lib.decDigits n) = n
  | 0, n, h => by omega
  | f + 1, n, h => by
    by_cases h10 : n < 10
    · rw [dec_small h10]
      have e : (UInt8.ofNat (48 + n)).toNat = 48 + n := by simp; omega
      refine ⟨⟨by simp, fun b hb => ?_, fun _ => by simp⟩, ?_⟩
      · obtain rfl : b = UInt8.ofNat (48 + n) := by simpa using hb
        unfold dgt
        omega
      · simp [valD]; omega
    · rw [dec_big h10]
      obtain ⟨⟨h1, h2, h3⟩, h4⟩ := val_dec f (n / 10) (by omega)
      have e : (UInt8.ofNat (48 + n % 10)).toNat = 48 + n % 10 := by simp; omega
      refine ⟨⟨by simp, fun b hb => ?_, fun e' => ?_⟩, ?_⟩
      · rcases List.mem_append.1 hb with h | h
        · exact h2 b h
        · obtain rfl : b = UInt8.ofNat (48 + n % 10) := by simpa using h
          unfold dgt
          omega
      · exfalso
        cases hl : Lib.decDigits (n / 10) with
        | nil => exact h1 hl
        | cons c t =>
          rw [hl] at e' h3 h4
          have ec : c = 48 := by simpa using e'
          subst ec
          have ht : t = [] := by have := h3 rfl; simpa using this
          subst ht
          have : valD [48] = 0 := by decide
          omega
      · rw [valD_snoc, h4, e]; omega
theorem can_of_dec {n : Nat} {l : List UInt8} (h : Lib.decDigits n = l) : canD l ∧ valD l = n := by
  rw [← h]; exact val_dec (n + 1) n (by omega)
theorem valD_lt : ∀ (n : Nat) (l : List UInt8), l.length = n → (∀ b ∈ l, dgt b) → valD l < 10 ^ n
  | 0, l, hn, _ => by
    have : l = [] := List.eq_nil_of_length_eq_zero hn
    subst this
    simp [valD]
  | n + 1, l, hn, hd => by
    obtain ⟨r, b, rfl⟩ := snoc_cases l (fun e => by subst e; simp at hn)
    have h1 := valD_lt n r (by simpa using hn) (fun c hc => hd c (by simp [hc]))
    have h2 := hd b (by simp)
    unfold dgt at h2
    rw [valD_snoc, Nat.pow_succ]
    omega
noncomputable def canB (l : List UInt8) : Bool := propB (canP l)
noncomputable def rdI (l : List UInt8) : Int := if canB l = true then (valD l : Int) else -1
theorem rdI_t {l : List UInt8} (h : canP l) : rdI l = valD l := by unfold rdI canB; rw [propB_t h]; rfl
theorem rdI_f {l : List UInt8} (h : ¬ canP l) : rdI l = -1 := by unfold rdI canB; rw [propB_f h]; rfl
theorem canP.lt {l : List UInt8} (h : canP l) : valD l < 1000000 := by
  have h1 := valD_lt l.length l rfl h.1.2.1
  have h2 : 10 ^ l.length ≤ 10 ^ 6 := Nat.pow_le_pow_right (by omega) h.2
  have : (10 : Nat) ^ 6 = 1000000 := by decide
  omega
theorem rdI_bd (l : List UInt8) : -1 ≤ rdI l ∧ rdI l < 1000000 := by
  by_cases h : canP l
  · rw [rdI_t h]; have := h.lt; omega
  · rw [rdI_f h]; omega
theorem rdI_pos {l : List UInt8} (h : 0 ≤ rdI l) : canP l ∧ rdI l = valD l := by
  by_cases hc : canP l
  · exact ⟨hc, rdI_t hc⟩
  · rw [rdI_f hc] at h; omega
theorem numT_rd {l : List UInt8} (h : canP l) : numT (rdI l) = l := by
  rw [rdI_t h]
  unfold numT
  rw [Int.toNat_natCast]
  exact dec_val l.length l rfl h.1
def DgTo (l : List UInt8) (k : Nat) : Prop := ∀ j b, j < k → l[j]? = some b → dgt b
theorem DgTo.next {l : List UInt8} {k : Nat} {b : UInt8} (h : DgTo l k) (hb : l[k]? = some b) (ho : dgt b) : DgTo l (k + 1) := by
  intro j c hj hc
  rcases Nat.lt_or_ge j k with h1 | h1
  · exact h j c h1 hc
  · obtain rfl : j = k := by omega
    rw [hb] at hc
    obtain rfl : b = c := by simpa using hc
    exact ho
theorem DgTo.take {l : List UInt8} {k : Nat} (h : DgTo l k) : ∀ b ∈ l.take k, dgt b := by
  intro b hb
  obtain ⟨j, hj⟩ := List.mem_iff_getElem?.1 hb
  rw [List.getElem?_take] at hj
  split at hj
  · exact h j b (by assumption) hj
  · cases hj
set_option maxRecDepth 100000 in
theorem spec_l1Read (s : ByteArray) (w : World) (hs : s.size ≤ maxLen) :
  Calls Tryz.prog 74 #[.string s] w fun e w' => e = .returned (.int .i64 (rdI s.data.toList)) ∧ w = w' := by
 unfold maxLen at hs
 have hsz := Lib.size_eq s
 by_cases h : (1 : Int) ≤ s.size ∧ (s.size : Int) ≤ 6
 ·
  have hin := inB_t h
  have hlt0 : 0 < s.size := by omega
  have h00 := at_of s 0 hlt0
  have hne : s.data.toList ≠ [] := fun e => by
   have : s.size = 0 := by rw [hsz, e]; rfl
   omega
  have HC := Lib.hid (show ¬ (s[0].toNat = 48 ∧ 1 < s.size) → (∀ b ∈ s.data.toList, dgt b) → canP s.data.toList from fun h1 h2 => ⟨⟨hne, h2, fun e => by
   have e0 : s.data.toList[0]? = some 48 := by rw [← List.head?_eq_getElem?]; exact e
   rw [h00] at e0
   have e1 : s[0] = 48 := by simpa using e0
   rw [e1] at h1
   rw [← hsz]
   have : ¬ (1 < s.size) := fun h => h1 ⟨rfl, h⟩
   omega⟩, by omega⟩)
  clear hne
  have HN1 := Lib.hid (show s[0].toNat = 48 ∧ 1 < s.size → ¬ canP s.data.toList from fun h1 h2 => by
   have := h2.1.2.2 (by rw [List.head?_eq_getElem?, h00]; congr 1; exact UInt8.toNat_inj.1 (by simpa using h1.1))
   omega)
  clear h00
  have HSZ := Lib.hid hsz; clear hsz
  by_cases c0 : (s[0].toNat : Int) = 48
  ·
   have c0' : ((s[0].toNat : Int) == 48) = true := by rw [beq_iff_eq]; exact c0
   by_cases c1 : 1 < s.size
   ·
    have H := Lib.hid (rdI_f (HN1.out ⟨by omega, c1⟩))
    clear c0
    go_enter Tryz.func74, Tryz.ntmps74
    go_wp2_with (go_at_call 25; refine (spec_l1In _ _ _ _).mono ?_; rintro e w' ⟨rfl, rfl⟩; rw [hin])
    go_ret
    exact ⟨ret_int H.out.symm, rfl⟩
   ·
    have HCC := Lib.hid (HC.out (fun h => c1 h.2))
    clear c0
    go_enter Tryz.func74, Tryz.ntmps74
    go_wp2_with (go_at_call 25; refine (spec_l1In _ _ _ _).mono ?_; rintro e w' ⟨rfl, rfl⟩; rw [hin])
    go_loop [3, 4] (fun n i => ∃ k : Nat, k ≤ s.size ∧ i = .int .i64 k ∧ DgTo s.data.toList k ∧ n = .int .i64 (valD (s.data.toList.take k))) (fun _ i => s.size - (intOf i).toNat)
    case atStart => exact ⟨0, Nat.zero_le _, rfl, (fun j b hj => by omega), rfl⟩
    case round =>
     obtain ⟨k, hk, rfl, hdg, rfl⟩ := hrel
     have HD := Lib.hid hdg; clear hdg
     by_cases hlt : k < s.size
     ·
      have HG := Lib.hid (at_of s k hlt)
      have hv := valD_lt (s.data.toList.take k).length _ rfl HD.out.take
      have hv6 : 10 ^ (s.data.toList.take k).length ≤ 10 ^ 6 := Nat.pow_le_pow_right (by omega) (by rw [List.length_take, ← HSZ.out]; omega)
      have h6 : (10 : Nat) ^ 6 = 1000000 := by decide
      have HV := Lib.hid (show valD (s.data.toList.take (k + 1)) = 10 * valD (s.data.toList.take k) + (s[k].toNat - 48) by rw [take_at s k hlt, valD_snoc])
      have hvv : valD (s.data.toList.take k) < 1000000 := by omega
      clear hv hv6 h6
      generalize valD (s.data.toList.take k) = q at *
      have hb : (s[k].toNat : Int) < 256 := by have := s[k].toNat_lt; omega
      by_cases c2 : (48 : Int) ≤ s[k].toNat
      ·
       by_cases c3 : (s[k].toNat : Int) ≤ 57
       ·
        have HX := Lib.hid (HD.out.next HG.out (show dgt s[k] from ⟨by omega, by omega⟩))
        go_wp2
        go_round
        case rel => exact ⟨k + 1, by omega, by go_num, HX.out, by rw [HV.out]; go_num⟩
        case measure => simp [intOf]; omega
       ·
        have H := Lib.hid (rdI_f (show ¬ canP s.data.toList from fun hc => by have := hc.1.2.1 s[k] (List.mem_of_getElem? HG.out); unfold dgt at this; omega))
        go_wp2
        go_ret
        exact ⟨ret_int H.out.symm, rfl⟩
      ·
       have H := Lib.hid (rdI_f (show ¬ canP s.data.toList from fun hc => by have := hc.1.2.1 s[k] (List.mem_of_getElem? HG.out); unfold dgt at this; omega))
       go_wp2
       go_ret
       exact ⟨ret_int H.out.symm, rfl⟩
     ·
      have e : s.data.toList.take k = s.data.toList := List.take_of_length_le (by rw [← HSZ.out]; omega)
      have hall := HD.out.take
      rw [e] at hall
      have H := Lib.hid (rdI_t (HCC.out hall))
      rw [e]
      clear e hall
      go_wp2
      go_ret
      exact ⟨ret_int H.out.symm, rfl⟩
  ·
   have c0' : ((s[0].toNat : Int) == 48) = false := by rw [beq_eq_false_iff_ne]; exact c0
   have HCC := Lib.hid (HC.out (fun h => c0 (by omega)))
   clear c0
   go_enter Tryz.func74, Tryz.ntmps74
   go_wp2_with (go_at_call 25; refine (spec_l1In _ _ _ _).mono ?_; rintro e w' ⟨rfl, rfl⟩; rw [hin])
   go_loop [3, 4] (fun n i => ∃ k : Nat, k ≤ s.size ∧ i = .int .i64 k ∧ DgTo s.data.toList k ∧ n = .int .i64 (valD (s.data.toList.take k))) (fun _ i => s.size - (intOf i).toNat)
   case atStart => exact ⟨0, Nat.zero_le _, rfl, (fun j b hj => by omega), rfl⟩
   case round =>
    obtain ⟨k, hk, rfl, hdg, rfl⟩ := hrel
    have HD := Lib.hid hdg; clear hdg
    by_cases hlt : k < s.size
    ·
     have HG := Lib.hid (at_of s k hlt)
     have hv := valD_lt (s.data.toList.take k).length _ rfl HD.out.take
     have hv6 : 10 ^ (s.data.toList.take k).length ≤ 10 ^ 6 := Nat.pow_le_pow_right (by omega) (by rw [List.length_take, ← HSZ.out]; omega)
     have h6 : (10 : Nat) ^ 6 = 1000000 := by decide
     have HV := Lib.hid (show valD (s.data.toList.take (k + 1)) = 10 * valD (s.data.toList.take k) + (s[k].toNat - 48) by rw [take_at s k hlt, valD_snoc])
     have hvv : valD (s.data.toList.take k) < 1000000 := by omega
     clear hv hv6 h6
     generalize valD (s.data.toList.take k) = q at *
     have hb : (s[k].toNat : Int) < 256 := by have := s[k].toNat_lt; omega
     by_cases c2 : (48 : Int) ≤ s[k].toNat
     ·
      by_cases c3 : (s[k].toNat : Int) ≤ 57
      ·
       have HX := Lib.hid (HD.out.next HG.out (show dgt s[k] from ⟨by omega, by omega⟩))
       go_wp2
       go_round
       case rel => exact ⟨k + 1, by omega, by go_num, HX.out, by rw [HV.out]; go_num⟩
       case measure => simp [intOf]; omega
      ·
       have H := Lib.hid (rdI_f (show ¬ canP s.data.toList from fun hc => by have := hc.1.2.1 s[k] (List.mem_of_getElem? HG.out); unfold dgt at this; omega))
       go_wp2
       go_ret
       exact ⟨ret_int H.out.symm, rfl⟩
     ·
      have H := Lib.hid (rdI_f (show ¬ canP s.data.toList from fun hc => by have := hc.1.2.1 s[k] (List.mem_of_getElem? HG.out); unfold dgt at this; omega))
      go_wp2
      go_ret
      exact ⟨ret_int H.out.symm, rfl⟩
    ·
     have e : s.data.toList.take k = s.data.toList := List.take_of_length_le (by rw [← HSZ.out]; omega)
     have hall := HD.out.take
     rw [e] at hall
     have H := Lib.hid (rdI_t (HCC.out hall))
     rw [e]
     clear e hall
     go_wp2
     go_ret
     exact ⟨ret_int H.out.symm, rfl⟩
 ·
  have hin := inB_f h
  have H := Lib.hid (rdI_f (show ¬ canP s.data.toList from fun hc => h (by
   have h1 := hc.2
   have h2 : 0 < s.data.toList.length := List.length_pos_iff.2 hc.1.1
   omega)))
  clear hsz
  go_enter Tryz.func74, Tryz.ntmps74
  go_wp2_with (go_at_call 25; refine (spec_l1In _ _ _ _).mono ?_; rintro e w' ⟨rfl, rfl⟩; rw [hin])
  go_ret
  exact ⟨ret_int H.out.symm, rfl⟩
/-! ### The program's -/
theorem digitVal_dgt {b : UInt8} (h : dgt b) : Lib.digitVal b = some (b.toNat - 48) := by
  unfold Lib.digitVal
  exact if_pos h
theorem decFrom_val : ∀ (l : List UInt8) (acc : Nat), (∀ b ∈ l, dgt b) → Lib.decFrom acc l = some (l.foldl (fun n b => 10 * n + (b.toNat - 48)) acc)
  | [], _, _ => rfl
  | b :: r, acc, h => by
    rw [Lib.decFrom, digitVal_dgt (h b (by simp))]
    simp only [List.foldl_cons]
    rw [decFrom_val r _ (fun c hc => h c (by simp [hc])), Nat.mul_comm acc 10]
theorem atoi_can {l : List UInt8} (h : canD l) : Lib.atoi l = some (valD l : Int) := by
  cases l with
  | nil => exact absurd rfl h.1
  | cons b r =>
    have hb := h.2.1 b (by simp)
    unfold dgt at hb
    have e1 : (b == 45) = false := by rw [beq_eq_false_iff_ne]; intro e; subst e; simp at hb
    have e2 : (b == 43) = false := by rw [beq_eq_false_iff_ne]; intro e; subst e; simp at hb
    unfold Lib.atoi
    simp only [e1, e2, Bool.false_eq_true, if_false]
    unfold Lib.decNat
    simp only [List.isEmpty_cons, Bool.false_eq_true, if_false]
    rw [decFrom_val _ 0 h.2.1]
    rfl
def ErrAt (w : World) : Prop := ∃ ev, w.cell? ⟨2, 0, none⟩ = some ev ∧ (ev = .nilIface ∨ ∃ te pe, ev = .iface te pe)
theorem ErrAt.below {w w' : World} (h : ErrAt w) (hb : Below w.heap.size w w') : ErrAt w' := by
  obtain ⟨ev, h1, h2⟩ := h
  have hl := World.block_lt_of_cell? _ _ h1
  exact ⟨ev, (hb.cell (p := ⟨2, 0, none⟩) hl).trans h1, h2⟩
theorem atoi_ok (s : ByteArray) (n : Int) (w : World) (hl : s.size ≤ 18) (h : Lib.atoi s.data.toList = some n) :
    Calls Tryz.prog 114 #[.string s] w fun e w' => e = .returned (.tuple #[.int .i64 n, .nilIface]) ∧ Below w.heap.size w w' := by
  refine (Tryz.strconv_Atoi s n hl h w).mono ?_
  rintro e w' ⟨rfl, t, rfl⟩
  exact ⟨rfl, rfl, rfl, rfl, by rw [Lib.bytesWorld_size]; omega, fun k hk => Lib.bytesWorld_at_old w _ t k hk⟩
theorem atoi_bad (s : ByteArray) (w : World) (hl : s.size ≤ 18) (h : Lib.atoi s.data.toList = none) (he : ErrAt w) :
    Calls Tryz.prog 114 #[.string s] w fun e w' => (∃ t p, e = .returned (.tuple #[.int .i64 0, .iface t p])) ∧ Below w.heap.size w w' := by
  obtain ⟨ev, h1, h2⟩ := he
  have ha : Lib.atoiAll s.data.toList = Lib.NumEnd.syntax := by rw [Lib.atoiAll_short _ (by rw [← Lib.size_eq]; exact hl), h]; rfl
  refine (Tryz.strconv_Atoi_syntax s (by omega) ha ev w h1 h2).mono ?_
  rintro e w' ⟨N, rfl, -, -, hb⟩
  exact ⟨⟨_, _, rfl⟩, hb⟩
theorem itoa_call (n : Int) (w : World) (h0 : 0 ≤ n) (h1 : n ≤ 1000000000000000000) (hp : Pow10 w) :
    Calls Tryz.prog 68 #[.int .i64 n] w fun e w' => e = .returned (.string ⟨(Lib.decDigits n.toNat).toArray⟩) ∧ Below w.heap.size w w' := by
  refine (Tryz.strconv_Itoa n (by omega) (by omega) w hp).mono ?_
  rintro e w' ⟨rfl, k, os, rfl⟩
  refine ⟨?_, below_grow1 w k os⟩
  obtain ⟨m, rfl⟩ := Int.eq_ofNat_of_zero_le h0
  rw [Lib.itoa_nonneg, Int.toNat_natCast]
noncomputable def rdV (l : List UInt8) : Int := if canB l = true then (valD l : Int) else 0
theorem eq_bytes_t {t s : ByteArray} {l : List UInt8} (h : t = ⟨l.toArray⟩) (he : l = s.data.toList) : (t.toList == s.toList) = true := by
  rw [beq_iff_eq, Lib.toList_data, Lib.toList_data, h, ← he]
theorem eq_bytes_f {t s : ByteArray} {l : List UInt8} (h : t = ⟨l.toArray⟩) (he : l ≠ s.data.toList) : (t.toList == s.toList) = false := by
  rw [beq_eq_false_iff_ne, Lib.toList_data, Lib.toList_data, h]
  exact fun e => he (by simpa using e)
theorem impl_readNumber (s : ByteArray) (w : World) (hs : s.size ≤ maxLen) (hp : Pow10 w) (he : ErrAt w) :
  Calls Tryz.prog 80 #[.string s] w fun e w' => e = .returned (.tuple #[.int .i64 (rdV s.data.toList), .bool (canB s.data.toList)]) ∧ Below w.heap.size w w' := by
 unfold maxLen at hs
 have HSZ := Lib.hid (Lib.size_eq s)
 have HP := Lib.hid hp; clear hp
 have HE := Lib.hid he; clear he
 have HV := Lib.hid (show rdV s.data.toList = if canB s.data.toList = true then (valD s.data.toList : Int) else 0 from rfl)
 by_cases hc : canP s.data.toList
 ·
  have hl := hc.2
  have hl1 : 0 < s.data.toList.length := List.length_pos_iff.2 hc.1.1
  rw [← HSZ.out] at hl hl1
  have hq := hc.lt
  have H1 := Lib.hid (show canB s.data.toList = true from propB_t hc)
  have H2 := Lib.hid (show rdV s.data.toList = valD s.data.toList by rw [HV.out, H1.out]; rfl)
  have JA := Lib.hid (fun W => atoi_ok s (valD s.data.toList : Int) W (by omega) (atoi_can hc.1))
  have HD := Lib.hid (dec_val _ _ rfl hc.1)
  clear hc
  generalize valD s.data.toList = q at *
  have JI := Lib.hid (fun W (h : Below w.heap.size w W) => itoa_call (q : Int) W (by omega) (by omega) (HP.out.below h))
  obtain ⟨t, ht⟩ : ∃ t : ByteArray, t = ⟨(Lib.decDigits ((q : Int)).toNat).toArray⟩ := ⟨_, rfl⟩
  rw [← ht] at JI
  have hcmp := eq_bytes_t (s := s) ht (by rw [Int.toNat_natCast]; exact HD.out)
  clear ht
  go_enter Tryz.func80, Tryz.ntmps80
  go_wp2_with fail
  refine (JA.out w).mono ?_
  rintro e w1 ⟨rfl, hb1⟩
  go_wp2_with fail
  refine (JI.out w1 hb1).mono ?_
  rintro e w2 ⟨rfl, hb2⟩
  go_wp2_with fail
  go_ret2
  exact ⟨by rw [H1.out, H2.out]; rfl, bl_trans hb1 hb2⟩
 ·
  have H1 := Lib.hid (show canB s.data.toList = false from propB_f hc)
  have H2 := Lib.hid (show rdV s.data.toList = 0 by rw [HV.out, H1.out]; rfl)
  by_cases h1 : 1 ≤ s.size
  ·
   by_cases h6 : s.size ≤ 6
   ·
    cases ha : Lib.atoi s.data.toList with
    | none =>
     have JA := Lib.hid (fun W (h : Below w.heap.size w W) => atoi_bad s W (by omega) ha (HE.out.below h))
     clear hc ha
     go_enter Tryz.func80, Tryz.ntmps80
     go_wp2_with fail
     refine (JA.out w (Below.refl _ _)).mono ?_
     rintro e w1 ⟨⟨t, p, rfl⟩, hb1⟩
     go_wp2_with fail
     go_ret2
     exact ⟨by rw [H1.out, H2.out]; rfl, hb1⟩
    | some n =>
     have JA := Lib.hid (fun W => atoi_ok s n W (by omega) ha)
     have hbd := Lib.atoi_bound ha (by rw [← HSZ.out]; omega)
     clear ha
     by_cases h0 : 0 ≤ n
     ·
      have hne : Lib.decDigits n.toNat ≠ s.data.toList := fun e => hc ⟨(can_of_dec e).1, by rw [← HSZ.out]; exact h6⟩
      have JI := Lib.hid (fun W (h : Below w.heap.size w W) => itoa_call n W h0 (by omega) (HP.out.below h))
      obtain ⟨t, ht⟩ : ∃ t : ByteArray, t = ⟨(Lib.decDigits n.toNat).toArray⟩ := ⟨_, rfl⟩
      rw [← ht] at JI
      have hcmp := eq_bytes_f (s := s) ht hne
      clear ht hne hc
      go_enter Tryz.func80, Tryz.ntmps80
      go_wp2_with fail
      refine (JA.out w).mono ?_
      rintro e w1 ⟨rfl, hb1⟩
      go_wp2_with fail
      refine (JI.out w1 hb1).mono ?_
      rintro e w2 ⟨rfl, hb2⟩
      go_wp2_with fail
      go_ret2
      exact ⟨by rw [H1.out, H2.out]; rfl, bl_trans hb1 hb2⟩
     ·
      clear hc
      go_enter Tryz.func80, Tryz.ntmps80
      go_wp2_with fail
      refine (JA.out w).mono ?_
      rintro e w1 ⟨rfl, hb1⟩
      go_wp2_with fail
      go_ret2
      exact ⟨by rw [H1.out, H2.out]; rfl, hb1⟩
   ·
    clear hc
    go_enter Tryz.func80, Tryz.ntmps80
    go_wp2_with fail
    go_ret2
    exact ⟨by rw [H1.out, H2.out]; rfl, Below.refl _ _⟩
  ·
   clear hc
   go_enter Tryz.func80, Tryz.ntmps80
   go_wp2_with fail
   go_ret2
   exact ⟨by rw [H1.out, H2.out]; rfl, Below.refl _ _⟩
end Go.Proofs.YtcfbkickiijjkaaGreatDoor
