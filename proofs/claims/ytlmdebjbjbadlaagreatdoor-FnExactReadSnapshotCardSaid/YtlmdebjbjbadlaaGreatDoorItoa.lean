/-
  Numbers and lists of numbers as texts in the program: strconv.Itoa, joinNumbers (strings.Join). The table of powers of ten that strconv reads is a premise.
-/
import Derived.Test.YtlmdebjbjbadlaaGreatDoorRows
import Derived.Test.YtlmdebjbjbadlaaGreatDoorKit
import Derived.Test.YtlmdebjbjbadlaaGreatDoorMem
import Derived.Test.YtlmdebjbjbadlaaGreatDoorOwn
import Derived.Test.YtlmdebjbjbadlaaGreatDoorPlain
import Derived.Test.YtlmdebjbjbadlaaGreatDoorTexts
import Derived.Test.YtlmdebjbjbadlaaGreatDoorShelf
import Derived.WalkKit
import Derived.WalkSpells
import Derived.WalkLawsBesides
import Derived.WalkSmall
import Derived.Lib.Hide
import Derived.Lib.ItoaNum
import Derived.Lib.ItoaMem
import Derived.Lib.Join
import Derived.Lib.LaidTab
import Derived.Stop.LaidErr
import Derived.Sort.Grow
namespace Go.Proofs.YtlmdebjbjbadlaaGreatDoor
open Go.RowKit
set_option linter.unusedVariables false

/-- strconv's table of the powers of ten. -/
def Pow10 (w : World) : Prop := Lib.TabIs Tryz.prog w "internal/strconv.uint64pow10" .u64 Lib.pow10Tab
theorem gPow10 : Tryz.prog.globalNamed "internal/strconv.uint64pow10" = some 5 := by kernel_rfl
theorem Pow10.below {w w' : World} (h : Pow10 w) (hb : Below w.heap.size w w') : Pow10 w' := by
  unfold Pow10 Lib.TabIs at *
  refine var?_below hb gPow10 ?_ h
  unfold World.var? at h
  rw [gPow10] at h
  rcases Nat.lt_or_ge 5 w.heap.size with h' | h'
  · exact h'
  · simp [Array.getElem?_eq_none h'] at h
theorem laid_drop {P : Program} {W : World} : ∀ (k : Nat) (l : List (String × DataW Unit)), laidMet P l W → laidMet P (l.drop k) W
  | 0, _, h => h
  | _ + 1, [], h => h
  | k + 1, _ :: l, h => laid_drop k l (laidMet.tail h)
theorem pow10_of_laid {W : World} {l r : List (String × DataW Unit)} (k : Nat) (hl : l.drop k = ("internal/strconv.uint64pow10", Lib.tabData .u64 Lib.pow10Tab) :: r) (h : laidMet Tryz.prog l W) : Pow10 W := by
  have h1 := laid_drop k l h
  rw [hl] at h1
  exact Lib.tabIs_of_head gPow10 (t := 189) (e := 166) (n := 20) (by kernel_rfl) Tryz.underlying189 Tryz.underlying166 (by kernel_rfl) (by kernel_rfl) h1
theorem below_grow1 (w : World) (k : Nat) (os : Array Obj) : Below w.heap.size w (Sort.grow (w.drewN k) os) := by
  refine ⟨rfl, rfl, rfl, ?_, fun j hj => ?_⟩
  · simp [Sort.grow]
  · show ((w.drewN k).heap ++ os)[j]? = _
    rw [Array.getElem?_append_left (by simpa using hj)]
    rfl
theorem impl_Itoa (x : Int) (w : World) (h0 : 0 ≤ x) (h1 : x ≤ 1000000000) (hp : Pow10 w) :
    Calls Tryz.prog 89 #[.int .i64 x] w fun e w' => e = .returned (strV (numT x)) ∧ Below w.heap.size w w' := by
  refine (Tryz.strconv_Itoa x (by omega) (by omega) w hp).mono ?_
  rintro e w' ⟨rfl, k, os, rfl⟩
  refine ⟨?_, below_grow1 _ _ _⟩
  have : Lib.itoa x = numT x := by
    unfold numT Lib.itoa
    rw [if_neg (by omega)]
  rw [this]
  rfl

theorem joinL_eq (sep : List UInt8) : ∀ l : List (List UInt8), Lib.join l sep = joinL sep l
  | [] => rfl
  | [x] => Lib.join_one x sep
  | x :: y :: r => by
    rw [Lib.join_cons, joinL, ← joinL_eq sep (y :: r), Lib.join_cons]
    simp [Lib.joinTail]
theorem map_data (ls : List (List UInt8)) : ((ls.map fun l => (⟨l.toArray⟩ : ByteArray)).map (·.data.toList)) = ls := by
  induction ls with
  | nil => rfl
  | cons x l ih => rw [List.map_cons, List.map_cons, ih]
/-- strings.Join over a row of the call's own. -/
theorem join_own (v : Value) (ls : List (List UInt8)) (s : ByteArray) (w : World) (B : Nat) (h : SlR w w.heap.size v (ls.map strV)) (hn : ls.length ≤ 2000000) (hl : (joinL s.data.toList ls).length ≤ 100000000000000) :
    Calls Tryz.prog 121 #[v, .string s] w fun e w' => e = .returned (strV (joinL s.data.toList ls)) ∧ Below w.heap.size w w' := by
  obtain ⟨A, c, rfl, h1, h2, h3⟩ := h
  rw [List.length_map] at h1 h3 ⊢
  by_cases hz : ls.length = 0
  · obtain rfl : ls = [] := List.eq_nil_of_length_eq_zero hz
    refine (Tryz.strings_Join_none A c s w).mono ?_
    rintro e w' ⟨rfl, rfl⟩
    exact ⟨rfl, Below.refl _ _⟩
  · obtain ⟨ad, rfl, hb, hc⟩ := h3 (by omega)
    have hspot : ad.spot = none := by
      have h0 : (ls.map strV)[0]? = some ((ls.map strV)[0]'(by rw [List.length_map]; omega)) := List.getElem?_eq_getElem _
      have h1 := hc 0 _ h0
      have e0 : ad.add 0 = ad := by unfold Addr.add; simp
      rw [e0] at h1
      unfold World.cell? at h1
      split at h1
      · split at h1
        · cases h1
        · rename_i hs; simpa using hs
      · cases h1
    obtain ⟨b, o, sp⟩ := ad
    simp only at hspot hb
    subst hspot
    have hadd : ∀ j, (⟨b, o, none⟩ : Addr).add j = ⟨b, o + j, none⟩ := by intro j; unfold Addr.add; split <;> simp_all
    have hj := Tryz.strings_Join b o c (ls.map fun l => ⟨l.toArray⟩) s w (by
      intro j x hx
      rw [← hadd]
      refine hc j _ ?_
      rw [List.getElem?_map] at hx ⊢
      cases hls : ls[j]? with
      | none => rw [hls] at hx; cases hx
      | some l => rw [hls] at hx; simp at hx ⊢; rw [← hx]; rfl) hb (by simp; omega) (by simpa using h1) (by
      rw [map_data, joinL_eq]; omega)
    rw [List.length_map, map_data, joinL_eq] at hj
    refine hj.mono ?_
    rintro e w' ⟨rfl, hb'⟩
    exact ⟨rfl, hb'⟩
theorem own_reads {w : World} {base : Nat} {e : TypeId} {v : Value} {n : Nat} {vs : List Value} (h : w.ownsRow base e 1 v n vs) : SlR w w.heap.size v vs := by
  obtain ⟨bs, h1, _, _⟩ := OwnRow.of_owns h
  exact h1.reads h1.lt
def NumsRel (xs : List Int) (w : World) (v i : Value) (wr : World) : Prop :=
  ∃ k : Nat, k ≤ xs.length ∧ i = .int .i64 k ∧ wr.ownsRow w.heap.size 9 1 v k (((xs.take k).map numT).map strV) ∧ Below w.heap.size w wr
theorem strInfo' : (Tryz.prog.info? 9).map (fun i => (i.zero, i.size, i.bytes)) = some (some (.string ByteArray.empty), 1, 16) := by kernel_rfl
theorem impl_joinNumbers (v : Value) (xs : List Int) (s : ByteArray) (w : World) (h : IntsR w w.heap.size v xs) (hx : ∀ x ∈ xs, 0 ≤ x ∧ x ≤ 1000000) (hn : xs.length ≤ 1000) (hs : s.size ≤ 10) (hp : Pow10 w) :
    Calls Tryz.prog 120 #[v, .string s] w fun e w' => e = .returned (strV (numsT s.data.toList xs)) ∧ Below w.heap.size w w' := by
  obtain ⟨A, c, rfl, h1, h2, h3⟩ := h.open_
  unfold maxLen at h2
  clear h
  have H3 := Lib.hid h3; clear h3
  have HX := Lib.hid hx; clear hx
  have hsl : s.data.toList.length ≤ 10 := by rw [← Lib.size_eq]; exact hs
  go_enter Tryz.func120, Tryz.ntmps120
  go_wp2_with fail
  go_loopw [5, 7, 10] (fun v _ i wr => NumsRel xs w v i wr) (fun _ _ i _ => xs.length - (intOf i).toNat)
  case atStart => exact ⟨0, Nat.zero_le _, rfl, World.ownsRow_nil _ _ _ _, Below.refl _ _⟩
  case round =>
    obtain ⟨k, hk, rfl, hown, hbl⟩ := hrel
    by_cases hlt : k < xs.length
    · obtain ⟨x, hx⟩ : ∃ x, xs[k]? = some x := ⟨xs[k], List.getElem?_eq_getElem hlt⟩
      obtain ⟨ad, rfl, hb, hc⟩ := H3.out (by omega)
      have hcell : wr.cell? (ad.add k) = some (.int .i64 x) := (hbl.cell (p := ad.add k) (by rw [block_add]; exact hb)).trans (hc k x hx)
      clear hc
      have bx := HX.out x (List.mem_of_getElem? hx)
      have HN := Lib.hid (show ((xs.take (k + 1)).map numT).map strV = ((xs.take k).map numT).map strV ++ [strV (numT x)] by
        obtain ⟨hk', rfl⟩ := List.getElem?_eq_some_iff.1 hx
        rw [List.take_succ_eq_append_getElem hk', List.map_append, List.map_append]; rfl)
      clear hx
      go_wp2_with fail
      refine (impl_Itoa x _ bx.1 (by omega) (hp.below hbl)).mono ?_
      rintro e w1 ⟨rfl, hb1⟩
      rw [show strV (numT x) = Value.string ⟨(numT x).toArray⟩ from rfl]
      have hown1 : w1.ownsRow w.heap.size 9 1 u5 k (((xs.take k).map numT).map strV) := hown.kept (row := none) ⟨hb1.os, hb1.tape, hb1.output, hb1.size, fun j hj _ => hb1.block j hj⟩ (by cases h : Value.ownBlock u5 <;> simp)
      have hbl1 := bl_trans hbl hb1
      go_wp2_with ((at_builtin; refine wpList_append1 w1 rfl (.tmp 14) (.tmp 17) 56 rfl w.heap.size 9 _ 16 Tryz.underlying56 strInfo' rfl _ _ _ rfl _ rfl rfl hown1 (by unfold maxLen; omega) (by omega) hbl1.size ?_; intro v' w' hown' hbl' hgr' hlt' hob'))
      go_roundw
      case rel => exact ⟨k + 1, by omega, by go_num, by rw [HN.out]; exact hown', hbl1.trans hbl'⟩
      case measure => simp [intOf]; omega
    · have e1 : xs.take k = xs := List.take_of_length_le (by omega)
      rw [e1] at hown
      have hrd := own_reads hown
      have hlen := Lib.hid (show (joinL s.data.toList (xs.map numT)).length ≤ 100000000000000 by
        have := numsT_len (sep := s.data.toList) (xs := xs) (M := 1000000) (fun x hx => HX.out x hx)
        unfold numsT at this
        have h3 : xs.length * (1000000 + 1 + s.data.toList.length) ≤ 1000 * 1000011 := Nat.mul_le_mul hn (by omega)
        omega)
      go_wp2_with (go_at_call 121; refine (join_own _ (xs.map numT) s _ 0 hrd (by simp; omega) hlen.out).mono ?_; rintro e w1 ⟨rfl, hb1⟩)
      go_ret
      exact ⟨rfl, bl_trans hbl hb1⟩
end Go.Proofs.YtlmdebjbjbadlaaGreatDoor
