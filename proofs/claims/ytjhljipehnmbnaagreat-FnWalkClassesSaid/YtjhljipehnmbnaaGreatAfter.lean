/-
  The program's sets of followers (after), as bits, for every good walk problem.
-/
import Derived.Test.YtjhljipehnmbnaaGreatRows
import Derived.Test.YtjhljipehnmbnaaGreatKit
import Derived.Test.YtjhljipehnmbnaaGreatMem
import Derived.Test.YtjhljipehnmbnaaGreatArgs
import Derived.Test.YtjhljipehnmbnaaGreatGood
import Derived.Test.YtjhljipehnmbnaaGreatSmallA
import Derived.WalkKit
import Derived.WalkSpells
import Derived.WalkLawsBesides
import Derived.Lib.Hide
import Derived.Deep.QuietTactic
import Derived.BigQuiet
import Derived.Laws.BitsAllLaws
import Derived.Laws.BitsLemmas
namespace Go.Proofs.YtjhljipehnmbnaaGreat
open Go.RowKit
set_option linter.unusedVariables false

theorem ofInt_i64 (a : Nat) (ha : a < 9223372036854775808) : (BitVec.ofInt 64 (a : Int)).toNat = a := by
  rw [BitVec.ofInt_natCast, BitVec.toNat_ofNat]; exact Nat.mod_eq_of_lt (by omega)
theorem i64_or_nat (a b : Nat) (ha : a < 9223372036854775808) (hb : b < 9223372036854775808) : bits .or .i64 (a : Int) (b : Int) = ((a ||| b : Nat) : Int) := by
  have hx : a ||| b < 2 ^ 63 := Nat.or_lt_two_pow (by omega) (by omega)
  show IntKind.i64.wrap ((BitVec.ofInt 64 (a : Int) ||| BitVec.ofInt 64 (b : Int)).toNat : Int) = _
  rw [BitVec.toNat_or, ofInt_i64 a ha, ofInt_i64 b hb, IntKind.wrap_i64]
  omega
theorem i64_and_nat (a b : Nat) (ha : a < 9223372036854775808) (hb : b < 9223372036854775808) : bits .and .i64 (a : Int) (b : Int) = ((a &&& b : Nat) : Int) := by
  have hx : a &&& b < 2 ^ 63 := Nat.and_lt_two_pow _ (by omega)
  show IntKind.i64.wrap ((BitVec.ofInt 64 (a : Int) &&& BitVec.ofInt 64 (b : Int)).toNat : Int) = _
  rw [BitVec.toNat_and, ofInt_i64 a ha, ofInt_i64 b hb, IntKind.wrap_i64]
  omega
theorem pow_small {y : Nat} (h : y ≤ 11) : (2 : Nat) ^ y ≤ 2048 := by
  have : (2 : Nat) ^ y ≤ 2 ^ 11 := Nat.pow_le_pow_right (by omega) h
  omega
theorem or_pow (q y : Nat) (hq : q < 4096) (hy : y ≤ 11) : bits .or .i64 (q : Int) (wrap64 (2 ^ y)) = ((q ||| 2 ^ y : Nat) : Int) := by
  have h := pow_small hy
  have e : (2 : Int) ^ y = ((2 ^ y : Nat) : Int) := by push_cast; rfl
  rw [e]
  generalize (2 : Nat) ^ y = m at *
  rw [IntWalk.wrap64_in _ (by omega), i64_or_nat _ _ (by omega) (by omega)]
/-- What after keeps: the row of masks. -/
def AfterRel (n : Nat) (xss : List (List Int)) (w : World) (g : Nat) (i : Value) (wr : World) : Prop :=
  ∃ k : Nat, k ≤ xss.length ∧ i = .int .i64 k ∧ wr.heap[g]? = some (.cells ((maskL n (xss.take k)).map intV).toArray 3 (0, 0)) ∧ Below g w wr
theorem impl_after (n : Nat) (v : Value) (xss : List (List Int)) (w : World) (h : RowsR w w.heap.size v xss) (hg : Good n xss) :
    Calls Tryz.prog 46 #[.agg #[.int .i64 (n : Int), v]] w fun e w' => ∃ v', e = .returned v' ∧ OwnInts w' 3 v' (maskL n xss) [w.heap.size + 1] ∧ Below w.heap.size w w' := by
  have hn : (1 : Int) ≤ n ∧ (n : Int) ≤ 12 := by have := hg.1; unfold inB at this; simpa using this
  have HS := Lib.hid hg.small
  have HG := Lib.hid hg.2
  obtain ⟨A, c, rfl, h1, h2, h3⟩ := h.open_
  unfold maxLen at h2
  clear h hg
  have H3 := Lib.hid h3; clear h3
  have hmk := fun W => run_make1 (P := Tryz.prog) 28 3 (.int .i64 0) 8 Tryz.underlying28 intInfo rfl n (by omega) (by omega) W
  go_enter Tryz.func46, Tryz.ntmps46
  go_wp2_with fail
  clear hmk
  go_loopw [5, 12] (fun _ i wr => AfterRel n xss (w.alloc (.cells #[.int .i64 (n : Int), .slice A xss.length c] 26)) (w.heap.size + 1) i wr) (fun _ i _ => xss.length - (intOf i).toNat)
  case atStart =>
    refine ⟨0, Nat.zero_le _, rfl, ?_, ?_⟩
    · have e1 : (w.alloc (.cells #[.int .i64 (n : Int), .slice A xss.length c] 26)).heap.size = w.heap.size + 1 := by simp
      rw [← e1, heap_alloc_new]
      rw [List.take_zero, maskL_nil]
      simp [rowOf, intV]
    · exact (Below.refl _ _).alloc (by simp) _
  case round =>
    obtain ⟨k, hk, rfl, hblk, hbl⟩ := hrel
    have hbl0 : Below w.heap.size w wr := (bl_alloc (Below.refl w.heap.size w) _).trans (hbl.mono (by omega))
    have HB := Lib.hid hblk; clear hblk
    by_cases hlt : k < xss.length
    · obtain ⟨xs, hx⟩ : ∃ x, xss[k]? = some x := ⟨xss[k], List.getElem?_eq_getElem hlt⟩
      obtain ⟨x, y, rfl, hx1, hy1⟩ := small_pair (HS.out xs (List.mem_of_getElem? hx))
      obtain ⟨ad, rfl, hb, hc⟩ := H3.out (by omega)
      obtain ⟨u, hu, hr⟩ := hc k _ hx
      have hcell : wr.cell? (ad.add k) = some u := (hbl0.cell (p := ad.add k) (by rw [block_add]; exact hb)).trans hu
      obtain ⟨A1, c1, rfl, g1, g2, g3⟩ := (hr.below hbl0).open_
      obtain ⟨ad1, rfl, hb1, hc1⟩ := g3 (by simp)
      have k0 := hc1 0 _ rfl
      have k1 := hc1 1 _ rfl
      have e0 : ad1.add 0 = ad1 := by unfold Addr.add; simp
      have e1 : ad1.add 1 = ⟨ad1.block, ad1.off + 1, none⟩ := by unfold Addr.add; simp
      rw [e0] at k0
      rw [e1] at k1
      clear hc hr hu g3 hc1 e0 e1
      have hxy : x < n ∧ y < n := by
        obtain ⟨xs', e, _, h4, _⟩ := HG.out k hlt
        rw [hx] at e; cases e
        have h5 := allB_iff.1 h4
        have h6 := h5 x (by simp)
        have h7 := h5 y (by simp)
        omega
      obtain ⟨hxn, hyn⟩ := hxy
      have hm : wr.cell? ⟨w.heap.size + 1, x, none⟩ = some (.int .i64 ((mask (xss.take k) x : Nat) : Int)) := by
        rw [cell_of_row wr _ x _ _ (0, 0) HB.out]
        simp [maskL, hxn, intV]
      have hfz : wr.frozen? ⟨w.heap.size + 1, x, none⟩ = false := by simp [World.frozen?, HB.out]
      have hml := mask_lt (HS.out.take k) x
      have HN := Lib.hid (show maskL n (xss.take (k + 1)) = (maskL n (xss.take k)).set x ((mask (xss.take k) x ||| 2 ^ y : Nat) : Int) by
        obtain ⟨hk', e⟩ := List.getElem?_eq_some_iff.1 hx
        rw [List.take_succ_eq_append_getElem hk', e, maskL_snoc hxn])
      clear hx
      generalize mask (xss.take k) x = q at *
      go_wp2_with fail
      go_region
      go_wp2_with fail
      go_roundw
      case rel =>
        refine ⟨k + 1, by omega, by go_num, ?_, ?_⟩
        · show (wr.setCell _ _).heap[w.heap.size + 1]? = _
          rw [heap_set_same HB.out, or_pow q y hml hy1, HN.out, List.map_set, List.setIfInBounds_toArray]
          rfl
        · exact (hbl.setCell (Nat.le_refl _) _).drew
      case measure => simp [intOf]; omega
    · have e1 : xss.take k = xss := List.take_of_length_le (by omega)
      have HB' := Lib.hid (show wr.heap[w.heap.size + 1]? = some (.cells ((maskL n xss).map intV).toArray 3 (0, 0)) by rw [HB.out, e1])
      clear e1
      go_wp2_with fail
      go_ret
      refine ⟨_, rfl, ⟨.inr ⟨w.heap.size + 1, n, _, ?_, ?_, ?_, HB'.out, ?_, ?_, rfl⟩, ?_⟩, hbl0⟩
      · rw [List.length_map, maskL_len]; rfl
      · rw [List.length_map, maskL_len]; exact Nat.le_refl _
      · unfold maxLen; omega
      · simp [maskL_len]
      · rw [List.take_of_length_le (by simp)]
      · intro x hx
        obtain ⟨a, _, rfl⟩ := List.mem_map.1 hx
        have := mask_lt HS.out a
        unfold I64
        omega
theorem bit_and (q y : Nat) (hq : q < 4096) (hy : y ≤ 11) : bits .and .i64 ((q : Int) / 2 ^ y) 1 = if q.testBit y then 1 else 0 := by
  have e : (q : Int) / 2 ^ y = ((q >>> y : Nat) : Int) := by rw [Nat.shiftRight_eq_div_pow]; push_cast; rfl
  have h2 : q >>> y ≤ q := by rw [Nat.shiftRight_eq_div_pow]; exact Nat.div_le_self _ _
  rw [e, show (1 : Int) = ((1 : Nat) : Int) from rfl, i64_and_nat _ _ (by omega) (by omega), bit_of]
  split <;> rfl
theorem bit_t {q y : Nat} (hq : q < 4096) (hy : y ≤ 11) (h : q.testBit y = true) : bits .and .i64 ((q : Int) / 2 ^ y) 1 = 1 := by rw [bit_and q y hq hy, if_pos h]
theorem bit_f {q y : Nat} (hq : q < 4096) (hy : y ≤ 11) (h : ¬ q.testBit y = true) : bits .and .i64 ((q : Int) / 2 ^ y) 1 = 0 := by rw [bit_and q y hq hy, if_neg h]
/-- The labels are a walk: each two neighbours are an arc. -/
def walkP (xss : List (List Int)) (l : List Int) : Prop := ∀ i a b, l[i]? = some a → l[i + 1]? = some b → [a, b] ∈ xss
def WalkTo (xss : List (List Int)) (l : List Int) (k : Nat) : Prop := ∀ i a b, i + 1 < k → l[i]? = some a → l[i + 1]? = some b → [a, b] ∈ xss
theorem WalkTo.next {xss : List (List Int)} {l : List Int} {k : Nat} {a b : Int} (h : WalkTo xss l k) (hk : 1 ≤ k) (ha : l[k - 1]? = some a) (hb : l[k]? = some b) (hab : [a, b] ∈ xss) : WalkTo xss l (k + 1) := by
  intro i x y hi hx hy
  by_cases e : i + 1 = k
  · obtain rfl : i = k - 1 := by omega
    rw [ha] at hx; cases hx
    rw [show k - 1 + 1 = k by omega, hb] at hy; cases hy
    exact hab
  · exact h i x y (by omega) hx hy
theorem WalkTo.all {xss : List (List Int)} {l : List Int} {k : Nat} (h : WalkTo xss l k) (hk : l.length ≤ k) : walkP xss l := by
  intro i a b ha hb
  exact h i a b (by have := (List.getElem?_eq_some_iff.1 hb).1; omega) ha hb
def IsWalkRel (xss : List (List Int)) (l : List Int) (w : World) (i : Value) (wr : World) : Prop :=
  ∃ k m : Nat, 1 ≤ k ∧ k ≤ max l.length 1 ∧ i = .int .i64 k ∧ WalkTo xss l k ∧ wr = w.drewN m
theorem impl_isWalk (n : Nat) (v u : Value) (xss : List (List Int)) (l : List Int) (w : World) (h : RowsR w w.heap.size v xss) (hu : IntsR w w.heap.size u l) (hg : Good n xss) (hl : allB l 0 (n - 1) = true) :
    Calls Tryz.prog 87 #[.agg #[.int .i64 (n : Int), v], u] w fun e w' => e = .returned (.bool (propB (walkP xss l))) ∧ Below w.heap.size w w' := by
  have HH := Lib.hid h; clear h
  have HL := Lib.hid (allB_iff.1 hl); clear hl
  have HG := Lib.hid hg; clear hg
  obtain ⟨A, c, rfl, h1, h2, h3⟩ := hu.open_
  unfold maxLen at h2
  clear hu
  have H3 := Lib.hid h3; clear h3
  go_enter Tryz.func87, Tryz.ntmps87
  go_wp2_with fail
  refine (impl_after n v xss _ ((HH.out.below (bl_alloc (Below.refl _ _) _)).more (by simp)) HG.out).mono ?_
  rintro e w1 ⟨v', rfl, ho, hb1⟩
  have hb01 := bl_trans (bl_alloc (Below.refl w.heap.size w) _) hb1
  obtain ⟨A', c', rfl, g1, g2, g3⟩ := (ho.reads (B := w1.heap.size) ho.1.lt).open_
  rw [maskL_len] at g1 g3 ⊢
  have G3 := Lib.hid g3; clear g3 ho
  go_wp2_with fail
  go_loopw [6] (fun i wr => IsWalkRel xss l w1 i wr) (fun i _ => l.length - (intOf i).toNat)
  case atStart => exact ⟨1, 0, Nat.le_refl _, by omega, rfl, fun i _ _ h => absurd h (by omega), rfl⟩
  case round =>
    obtain ⟨k, m, hk1, hk, rfl, hup, rfl⟩ := hrel
    have HU := Lib.hid hup; clear hup
    have hn12 : (n : Int) ≤ 12 := by have := HG.out.1; unfold inB at this; simp at this; omega
    by_cases hlt : k < l.length
    · obtain ⟨x, hx⟩ : ∃ x, l[k - 1]? = some x := ⟨l[k - 1], List.getElem?_eq_getElem (by omega)⟩
      obtain ⟨y, hy⟩ : ∃ y, l[k]? = some y := ⟨l[k], List.getElem?_eq_getElem hlt⟩
      have bx := HL.out x (List.mem_of_getElem? hx)
      have by_ := HL.out y (List.mem_of_getElem? hy)
      obtain ⟨x, rfl⟩ := Int.eq_ofNat_of_zero_le bx.1
      obtain ⟨y, rfl⟩ := Int.eq_ofNat_of_zero_le by_.1
      obtain ⟨ad, rfl, hb, hc⟩ := H3.out (by omega)
      obtain ⟨ad', rfl, hb', hc'⟩ := G3.out (by omega)
      have k1 : w1.cell? (ad.add (k - 1)) = some (.int .i64 x) := (hb01.cell (p := ad.add (k - 1)) (by rw [block_add]; exact hb)).trans (hc (k - 1) _ hx)
      have k2 : w1.cell? (ad.add k) = some (.int .i64 y) := (hb01.cell (p := ad.add k) (by rw [block_add]; exact hb)).trans (hc k _ hy)
      have k3 := hc' x _ (maskL_at (n := n) (xss := xss) (by omega))
      have hq := mask_lt HG.out.small x
      have HM := Lib.hid (mask_bit HG.out.small x y)
      have GX := Lib.hid hx
      have GY := Lib.hid hy
      clear hc hc' hx hy
      generalize mask xss x = q at *
      by_cases ht : q.testBit y = true
      · have hbit := bit_t hq (by omega) ht
        have HA := Lib.hid (HM.out.1 ht)
        clear ht
        go_wp2_with fail
        go_quiet (fail)
        go_wp2_with fail
        go_roundw
        case rel => exact ⟨k + 1, m + nq, by omega, by omega, by go_num, HU.out.next hk1 GX.out GY.out HA.out, by simp⟩
        case measure => simp [intOf]; omega
      · have hbit := bit_f hq (by omega) ht
        have HA := Lib.hid (fun h => ht (HM.out.2 h))
        clear ht
        go_wp2_with fail
        go_quiet (fail)
        go_wp2_with fail
        go_ret
        refine ⟨ret_bool (propB_f (fun h => HA.out (h (k - 1) _ _ GX.out (by rw [show k - 1 + 1 = k by omega]; exact GY.out)))).symm, ?_⟩
        first | exact bl_drewN (bl_drewN hb01 _) _ | exact bl_drewN hb01 _
    · go_wp2_with fail
      go_ret
      exact ⟨ret_bool (propB_t (HU.out.all (by omega))).symm, bl_drewN hb01 _⟩
end Go.Proofs.YtjhljipehnmbnaaGreat
