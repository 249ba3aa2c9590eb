/-
  Numbers and lists of numbers as texts: the reference's l1Num, srJoin.
-/
import Derived.Test.YtlmdebjbjbadlaaGreatDoorRows
import Derived.Test.YtlmdebjbjbadlaaGreatDoorKit
import Derived.Test.YtlmdebjbjbadlaaGreatDoorMem
import Derived.Test.YtlmdebjbjbadlaaGreatDoorPlain
import Derived.WalkKit
import Derived.WalkSpells
import Derived.WalkLawsBesides
import Derived.Lib.Hide
import Derived.Lib.ItoaNum
import Derived.Lib.SmallJoins
import Derived.Laws.BytesString
import Derived.Laws.IdiomStrings
import Derived.Deep.RegionWith
import Derived.IntWalk
namespace Go.Proofs.YtlmdebjbjbadlaaGreatDoor
open Go.RowKit
set_option linter.unusedVariables false

/-- string([]byte{x}): one byte. -/
theorem conv_at (W : World) (g : Nat) (x : Int) (h0 : 0 ≤ x) (h1 : x < 256) (hc : W.cell? ⟨g, 0, none⟩ = some (.int .u8 x)) :
    (convert 113 9 (.slice (some ⟨g, 0, none⟩) 1 1)).run Tryz.prog W = .ok (strV [UInt8.ofNat x.toNat]) W := by
  refine run_convert_bytes_back (P := Tryz.prog) W 113 9 5 ⟨g, 0, none⟩ 1 [UInt8.ofNat x.toNat] Tryz.underlying113 Tryz.underlying5 Tryz.underlying9 ?_
  intro j hj
  obtain rfl : j = 0 := by simpa using hj
  have : ((UInt8.ofNat x.toNat).toNat : Int) = x := by
    rw [UInt8.toNat_ofNat']
    omega
  show W.cell? ⟨g, 0, none⟩ = some (Value.int .u8 ((UInt8.ofNat x.toNat).toNat : Int))
  rw [this, hc]
theorem conv1 (W : World) (x : Int) (h0 : 0 ≤ x) (h1 : x < 256) :
    (convert 113 9 (.slice (some ⟨W.heap.size, 0, none⟩) 1 1)).run Tryz.prog (W.alloc (.cells #[.int .u8 x] 5)) = .ok (strV [UInt8.ofNat x.toNat]) (W.alloc (.cells #[.int .u8 x] 5)) :=
  conv_at _ _ x h0 h1 (by rw [World.cell?_alloc_at _ _ _ _ rfl]; rfl)
theorem cat_vv (a b : List UInt8) (h : a.length + b.length ≤ 1000000000000000) (W : World) : (binOp .add 9 (strV a) (strV b)).run Tryz.prog W = .ok (strV (a ++ b)) W := by
  unfold strV
  have h1 : (ByteArray.mk a.toArray).size = a.length := by rw [Lib.size_eq]
  have h2 : (ByteArray.mk b.toArray).size = b.length := by rw [Lib.size_eq]
  rw [binOp_string_add, run_string_add_sum _ _ _ (by omega), ByteArray.mk_append_mk]
theorem cat_cv (s : ByteArray) (b : List UInt8) (h : s.size + b.length ≤ 1000000000000000) (W : World) : (binOp .add 9 (.string s) (strV b)).run Tryz.prog W = .ok (strV (s.data.toList ++ b)) W :=
  cat_vv s.data.toList b (by rw [Lib.size_eq] at h; exact h) W
theorem cat_vc (a : List UInt8) (s : ByteArray) (h : a.length + s.size ≤ 1000000000000000) (W : World) : (binOp .add 9 (strV a) (.string s)).run Tryz.prog W = .ok (strV (a ++ s.data.toList)) W :=
  cat_vv a s.data.toList (by rw [Lib.size_eq] at h; exact h) W
theorem dec_len : ∀ (f n : Nat), n < f → (Lib.decDigits n).length ≤ n + 1
  | 0, n, h => by omega
  | f + 1, n, h => by
    rw [Lib.decDigits]
    split
    · simp
    · have := dec_len f (n / 10) (by omega)
      simp
      omega
theorem dec_small {n : Nat} (h : n < 10) : Lib.decDigits n = [UInt8.ofNat (48 + n)] := Lib.decDigits_one h
theorem dec_big {n : Nat} (h : ¬ n < 10) : Lib.decDigits n = Lib.decDigits (n / 10) ++ [UInt8.ofNat (48 + n % 10)] := by rw [Lib.decDigits, dif_neg h]
set_option maxRecDepth 100000 in
theorem l1Num_any (f : Nat) : ∀ (x : Int) (w : World), 0 ≤ x → x < f → x ≤ 1000000000 →
    Calls Tryz.prog 101 #[.int .i64 x] w fun e w' => e = .returned (strV (Lib.decDigits x.toNat)) ∧ Below w.heap.size w w' := by
  induction f with
  | zero => intro x w h0 h; omega
  | succ f ih =>
    intro x w h0 hf hn
    have IH := Lib.hid ih; clear ih
    by_cases h : x < 10
    · have H1 := Lib.hid (dec_small (n := x.toNat) (by omega))
      have hcv := fun W => conv1 W (48 + x) (by omega) (by omega)
      have H2 := Lib.hid (show (48 + x).toNat = 48 + x.toNat by omega)
      go_enter Tryz.func101, Tryz.ntmps101
      go_wp2_with fail
      go_ret
      exact ⟨ret_val (by rw [H1.out, ← H2.out]; rfl), bl_alloc (Below.refl _ _) _⟩
    · have H1 := Lib.hid (dec_big (n := x.toNat) (by omega))
      have hcv := fun W g => conv_at W g (48 + x % 10) (by omega) (by omega)
      go_enter Tryz.func101, Tryz.ntmps101
      go_wp2_with fail
      have hx1 : 0 ≤ x / 10 := by omega
      have hx2 : x / 10 < f := by omega
      have hx3 : x / 10 ≤ 1000000000 := by omega
      have hl := dec_len ((x / 10).toNat + 1) (x / 10).toNat (by omega)
      have H2 := Lib.hid (show (48 + x % 10).toNat = 48 + x.toNat % 10 by omega)
      have H3 := Lib.hid (show (x / 10).toNat = x.toNat / 10 by omega)
      have hcat := fun W => cat_vv (Lib.decDigits (x / 10).toNat) [UInt8.ofNat (48 + x % 10).toNat] (by simp; omega) W
      have C := Lib.hid (fun W => IH.out (x / 10) W hx1 hx2 hx3)
      clear IH hl
      have e1 : IntKind.i64.wrap (x / 10) = x / 10 := IntWalk.i64_in _ (by omega)
      have e3 : IntKind.i64.wrap (48 + x % 10) = 48 + x % 10 := IntWalk.i64_in _ (by omega)
      have e4 : IntKind.u8.wrap (48 + x % 10) = 48 + x % 10 := IntWalk.u8_in _ (by omega)
      have e0 : x.tdiv 10 = x / 10 := Int.tdiv_eq_ediv_of_nonneg h0
      have e2 : x.tmod 10 = x % 10 := Int.tmod_eq_emod_of_nonneg h0
      clear h0 hf hn h hx1 hx2 hx3
      go_region_with (go_at_call 101; refine (C.out _).mono ?_; rintro e w1 ⟨rfl, hb1⟩; have hx := @Below.cell _ _ _ hb1 ⟨w.heap.size, 0, none⟩)
      all_goals
        go_wp2_with fail
        go_ret
        exact ⟨ret_val (by rw [H1.out, ← H2.out, ← H3.out]; rfl), by first | exact bl_alloc (bl_trans (Below.refl _ _).drew hb1) _ | exact bl_trans (bl_alloc (Below.refl _ _).drew _) hb1 | exact bl_trans (bl_alloc (Below.refl _ _) _).drew hb1⟩
/-- Texts joined by a separator; a list of numbers as a text. -/
def joinL (sep : List UInt8) : List (List UInt8) → List UInt8
  | [] => []
  | [x] => x
  | x :: y :: r => x ++ (sep ++ joinL sep (y :: r))
theorem joinL_snoc (sep x : List UInt8) : ∀ l : List (List UInt8), l ≠ [] → joinL sep (l ++ [x]) = joinL sep l ++ (sep ++ x)
  | [], h => absurd rfl h
  | [y], _ => rfl
  | y :: z :: r, _ => by
    have := joinL_snoc sep x (z :: r) (by simp)
    simp only [List.cons_append] at this ⊢
    simp only [joinL, this, List.append_assoc]
theorem joinL_len (sep : List UInt8) (M : Nat) : ∀ l : List (List UInt8), (∀ x ∈ l, x.length ≤ M) → (joinL sep l).length ≤ l.length * (M + sep.length)
  | [], _ => by simp [joinL]
  | [x], h => by have := h x (by simp); simp [joinL]; omega
  | x :: y :: r, h => by
    have h1 := joinL_len sep M (y :: r) (fun z hz => h z (by simp at hz ⊢; right; exact hz))
    have h2 := h x (by simp)
    simp only [joinL, List.length_append]
    have e : (x :: y :: r).length * (M + sep.length) = (y :: r).length * (M + sep.length) + (M + sep.length) := by simp [Nat.succ_mul]
    omega
def numT (x : Int) : List UInt8 := Lib.decDigits x.toNat
def numsT (sep : List UInt8) (xs : List Int) : List UInt8 := joinL sep (xs.map numT)
theorem numT_len {x : Int} {M : Nat} (h0 : 0 ≤ x) (h : x ≤ M) : (numT x).length ≤ M + 1 := by
  have := dec_len (x.toNat + 1) x.toNat (by omega)
  unfold numT
  omega
theorem numsT_len {sep : List UInt8} {xs : List Int} {M : Nat} (h : ∀ x ∈ xs, 0 ≤ x ∧ x ≤ M) : (numsT sep xs).length ≤ xs.length * (M + 1 + sep.length) := by
  have := joinL_len sep (M + 1) (xs.map numT) (by
    intro l hl
    obtain ⟨x, hx, rfl⟩ := List.mem_map.1 hl
    exact numT_len (h x hx).1 (h x hx).2)
  simpa [numsT] using this
theorem numsT_take (sep : List UInt8) (xs : List Int) (k : Nat) (x : Int) (h : xs[k]? = some x) : numsT sep (xs.take (k + 1)) = if k = 0 then numT x else numsT sep (xs.take k) ++ (sep ++ numT x) := by
  obtain ⟨hk, rfl⟩ := List.getElem?_eq_some_iff.1 h
  unfold numsT
  rw [List.take_succ_eq_append_getElem hk, List.map_append]
  by_cases e : k = 0
  · subst e; simp [joinL]
  · rw [if_neg e]
    refine joinL_snoc sep _ _ ?_
    intro h0
    have : ((xs.take k).map numT).length = 0 := by rw [h0]; rfl
    rw [List.length_map, List.length_take] at this
    omega
theorem spec_l1Num (x : Int) (w : World) (h0 : 0 ≤ x) (h1 : x ≤ 1000000000) :
    Calls Tryz.prog 101 #[.int .i64 x] w fun e w' => e = .returned (strV (numT x)) ∧ Below w.heap.size w w' := l1Num_any (x.toNat + 1) x w h0 (by omega) h1
def JoinRel (sep : List UInt8) (xs : List Int) (w : World) (o i : Value) (wr : World) : Prop :=
  ∃ k : Nat, k ≤ xs.length ∧ i = .int .i64 k ∧ o = strV (numsT sep (xs.take k)) ∧ Below w.heap.size w wr
theorem srJoin_any (v : Value) (xs : List Int) (s : ByteArray) (w : World) (h : IntsR w w.heap.size v xs) (hx : ∀ x ∈ xs, 0 ≤ x ∧ x ≤ 1000000) (hn : xs.length ≤ 1000) (hs : s.size ≤ 10) :
    Calls Tryz.prog 102 #[v, .string s] w fun e w' => e = .returned (strV (numsT s.data.toList xs)) ∧ Below w.heap.size w w' := by
  obtain ⟨A, c, rfl, h1, h2, h3⟩ := h.open_
  unfold maxLen at h2
  clear h
  have H3 := Lib.hid h3; clear h3
  have HX := Lib.hid hx; clear hx
  have hsl : s.data.toList.length ≤ 10 := by rw [← Lib.size_eq]; exact hs
  go_enter Tryz.func102, Tryz.ntmps102
  go_wp2_with fail
  go_loopw [5, 6, 7, 10] (fun o _ _ i wr => JoinRel s.data.toList xs w o i wr) (fun _ _ _ i _ => xs.length - (intOf i).toNat)
  case atStart => exact ⟨0, Nat.zero_le _, rfl, rfl, Below.refl _ _⟩
  case round =>
    obtain ⟨k, hk, rfl, rfl, hbl⟩ := hrel
    by_cases hlt : k < xs.length
    · obtain ⟨x, hx⟩ : ∃ x, xs[k]? = some x := ⟨xs[k], List.getElem?_eq_getElem hlt⟩
      obtain ⟨ad, rfl, hb, hc⟩ := H3.out (by omega)
      have hcell : wr.cell? (ad.add k) = some (.int .i64 x) := (hbl.cell (p := ad.add k) (by rw [block_add]; exact hb)).trans (hc k x hx)
      clear hc
      have HN := Lib.hid (numsT_take s.data.toList xs k x hx)
      have bx := HX.out x (List.mem_of_getElem? hx)
      have hl1 : (numT x).length ≤ 1000001 := numT_len bx.1 bx.2
      have hl2 : (numsT s.data.toList (xs.take k)).length ≤ 1000 * 1000011 := by
        refine Nat.le_trans (numsT_len (M := 1000000) (fun y hy => HX.out y (List.mem_of_mem_take hy))) ?_
        have e1 : (xs.take k).length ≤ 1000 := by simp; omega
        exact Nat.mul_le_mul e1 (by omega)
      clear hx
      generalize hcur : numsT s.data.toList (xs.take k) = cur at *
      have HC := Lib.hid hcur; clear hcur
      by_cases e : k = 0
      · have t3 : ¬ (0 : Int) < (k : Int) := by omega
        have c2 := fun W => cat_vv cur (numT x) (by omega) W
        have H1 := Lib.hid (show numsT s.data.toList (xs.take (k + 1)) = numT x by rw [HN.out, if_pos e])
        have H0 := Lib.hid (show cur = [] by rw [← HC.out, e]; rfl)
        clear e
        go_wp2_with (go_at_call 101; refine (spec_l1Num x _ bx.1 (by omega)).mono ?_; rintro e w1 ⟨rfl, hb1⟩)
        go_roundw
        case rel => exact ⟨k + 1, by omega, by go_num, by rw [H1.out, H0.out]; rfl, bl_trans hbl hb1⟩
        case measure => simp [intOf]; omega
      · have t3 : (0 : Int) < (k : Int) := by omega
        have c1 := fun W => cat_vc cur s (by omega) W
        have c2 := fun W => cat_vv (cur ++ s.data.toList) (numT x) (by rw [List.length_append]; omega) W
        have H1 := Lib.hid (show numsT s.data.toList (xs.take (k + 1)) = cur ++ s.data.toList ++ numT x by rw [HN.out, if_neg e, List.append_assoc])
        clear e
        go_wp2_with (go_at_call 101; refine (spec_l1Num x _ bx.1 (by omega)).mono ?_; rintro e w1 ⟨rfl, hb1⟩)
        go_roundw
        case rel => exact ⟨k + 1, by omega, by go_num, by rw [H1.out, List.append_assoc], bl_trans hbl hb1⟩
        case measure => simp [intOf]; omega
    · have e1 : xs.take k = xs := List.take_of_length_le (by omega)
      rw [e1]
      clear e1
      go_wp2_with fail
      go_ret
      exact ⟨rfl, hbl⟩
end Go.Proofs.YtlmdebjbjbadlaaGreatDoor
