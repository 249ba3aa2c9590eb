/-
  The text of a walk problem: the program's walkText and the reference's srWalk are one plain function, for every problem that is good and has at most 1048576 arcs.
-/
import Derived.Test.YtlmdebjbjbadlaaGreatDoorRows
import Derived.Test.YtlmdebjbjbadlaaGreatDoorKit
import Derived.Test.YtlmdebjbjbadlaaGreatDoorMem
import Derived.Test.YtlmdebjbjbadlaaGreatDoorOwn
import Derived.Test.YtlmdebjbjbadlaaGreatDoorPlain
import Derived.Test.YtlmdebjbjbadlaaGreatDoorTexts
import Derived.Test.YtlmdebjbjbadlaaGreatDoorItoa
import Derived.Test.YtlmdebjbjbadlaaGreatDoorGood
import Derived.WalkKit
import Derived.WalkSpells
import Derived.WalkLawsBesides
import Derived.Lib.Hide
namespace Go.Proofs.YtlmdebjbjbadlaaGreatDoor
open Go.RowKit
set_option linter.unusedVariables false

def arcsT (xss : List (List Int)) : List UInt8 := (xss.map fun a => 32 :: numsT [45] a).flatten
def walkT (n : Int) (xss : List (List Int)) : List UInt8 := [119, 97, 108, 107, 32] ++ numT n ++ arcsT xss
theorem arcsT_take (xss : List (List Int)) (k : Nat) (xs : List Int) (h : xss[k]? = some xs) : arcsT (xss.take (k + 1)) = arcsT (xss.take k) ++ 32 :: numsT [45] xs := by
  obtain ⟨hk, rfl⟩ := List.getElem?_eq_some_iff.1 h
  unfold arcsT
  rw [List.take_succ_eq_append_getElem hk, List.map_append, List.flatten_append]
  simp
/-- The arcs' numbers are small. -/
def SmallArcs (xss : List (List Int)) : Prop := ∀ xs ∈ xss, xs.length = 2 ∧ ∀ x ∈ xs, 0 ≤ x ∧ x ≤ 11
theorem Good.small {n : Int} {xss : List (List Int)} (h : Good n xss) : SmallArcs xss := by
  intro xs hxs
  obtain ⟨k, hk⟩ := List.mem_iff_getElem?.1 hxs
  obtain ⟨xs', e, h1, h2, _⟩ := h.2 k (List.getElem?_eq_some_iff.1 hk).1
  rw [hk] at e; cases e
  refine ⟨h1, fun x hx => ?_⟩
  have h3 := allB_iff.1 h2 x hx
  have h4 : 1 ≤ n ∧ n ≤ 12 := by have := h.1; unfold inB at this; simpa using this
  omega
theorem SmallArcs.len {xss : List (List Int)} (h : SmallArcs xss) : ∀ xs ∈ xss, (numsT [45] xs).length ≤ 26 := by
  intro xs hxs
  obtain ⟨h1, h2⟩ := h xs hxs
  have := numsT_len (sep := [45]) (xs := xs) (M := 11) h2
  rw [h1] at this
  simpa using this
theorem arcsT_len : ∀ (xss : List (List Int)), SmallArcs xss → (arcsT xss).length ≤ xss.length * 27
  | [], _ => by simp [arcsT]
  | xs :: r, h => by
    have h1 := arcsT_len r (fun x hx => h x (by simp [hx]))
    have h2 := h.len xs (by simp)
    have e : arcsT (xs :: r) = 32 :: numsT [45] xs ++ arcsT r := by simp [arcsT]
    rw [e]
    simp only [List.length_append, List.length_cons]
    omega
theorem SmallArcs.take {xss : List (List Int)} (h : SmallArcs xss) (k : Nat) : SmallArcs (xss.take k) := fun x hx => h x (List.mem_of_mem_take hx)
def WtRel (n : Int) (xss : List (List Int)) (w : World) (o i : Value) (wr : World) : Prop :=
  ∃ k : Nat, k ≤ xss.length ∧ i = .int .i64 k ∧ o = strV (walkT n (xss.take k)) ∧ Below w.heap.size w wr
theorem spec_srWalk (n : Int) (v : Value) (xss : List (List Int)) (w : World) (h : RowsR w w.heap.size v xss) (hg : Good n xss) (hl : xss.length ≤ 1048576) :
    Calls Tryz.prog 117 #[.agg #[.int .i64 n, v]] w fun e w' => e = .returned (strV (walkT n xss)) ∧ Below w.heap.size w w' := by
  have hn : 1 ≤ n ∧ n ≤ 12 := by have := hg.1; unfold inB at this; simpa using this
  have HS := Lib.hid hg.small
  obtain ⟨A, c, rfl, h1, h2, h3⟩ := h.open_
  unfold maxLen at h2
  clear h hg
  have H3 := Lib.hid h3; clear h3
  have hl0 : (numT n).length ≤ 13 := numT_len (by omega) (M := 12) (by omega)
  have c0 := fun W => cat_cv ⟨#[119, 97, 108, 107, 32]⟩ (numT n) (by have : (ByteArray.mk #[119, 97, 108, 107, 32]).size = 5 := rfl; omega) W
  go_enter Tryz.func117, Tryz.ntmps117
  go_wp2_with fail
  refine (spec_l1Num n _ (by omega) (by omega)).mono ?_
  rintro e w1 ⟨rfl, hb1⟩
  obtain ⟨hc1, hf1⟩ := bx w.heap.size hb1 (by simp)
  have hb01 := bl_trans (bl_alloc (Below.refl w.heap.size w) (.cells #[.int .i64 n, .slice A xss.length c] 31)) hb1
  go_wp2_with fail
  clear c0 hc1 hf1 hb1
  go_loopw [3, 5, 13] (fun o _ i wr => WtRel n xss w o i wr) (fun _ _ i _ => xss.length - (intOf i).toNat)
  case atStart => exact ⟨0, Nat.zero_le _, rfl, by simp [walkT, arcsT], hb01⟩
  case round =>
    obtain ⟨k, hk, rfl, rfl, hbl⟩ := hrel
    by_cases hlt : k < xss.length
    · obtain ⟨xs, hx⟩ : ∃ x, xss[k]? = some x := ⟨xss[k], List.getElem?_eq_getElem hlt⟩
      obtain ⟨ad, rfl, hb, hc⟩ := H3.out (by omega)
      obtain ⟨u, hu, hr⟩ := hc k xs hx
      have hcell : wr.cell? (ad.add k) = some u := (hbl.cell (p := ad.add k) (by rw [block_add]; exact hb)).trans hu
      have hr' : IntsR wr wr.heap.size u xs := (hr.below hbl).more hbl.size
      clear hc hr hu
      have HR := Lib.hid hr'; clear hr'
      have hm := List.mem_of_getElem? hx
      have hs1 := HS.out xs hm
      have hs2 := HS.out.len xs hm
      have hs3 := arcsT_len (xss.take k) (HS.out.take k)
      have HN := Lib.hid (show walkT n (xss.take (k + 1)) = walkT n (xss.take k) ++ 32 :: numsT [45] xs by
        unfold walkT; rw [arcsT_take xss k xs hx]; simp only [List.append_assoc])
      have hs4 : (walkT n (xss.take k)).length ≤ 100000000 := by
        have : (xss.take k).length ≤ 1048576 := by simp; omega
        unfold walkT
        simp only [List.length_append, List.length_cons, List.length_nil]
        omega
      have hs5 : ∀ x ∈ xs, 0 ≤ x ∧ x ≤ 1000000 := fun x hx => by have := hs1.2 x hx; omega
      have HS5 := Lib.hid hs5
      have hs6 : xs.length ≤ 1000 := by have := hs1.1; omega
      clear hx hm hs1 hs5 hs3
      generalize walkT n (xss.take k) = cur at *
      have c1 := fun W => cat_cv ⟨#[32]⟩ (numsT [45] xs) (by have : (ByteArray.mk #[32]).size = 1 := rfl; omega) W
      have c2 := fun W => cat_vv cur (32 :: numsT [45] xs) (by rw [List.length_cons]; omega) W
      go_wp2_with (go_at_call 102; refine (srJoin_any _ xs ⟨#[45]⟩ _ HR.out HS5.out hs6 (by decide)).mono ?_; rintro e w1 ⟨rfl, hb1⟩)
      go_roundw
      case rel => exact ⟨k + 1, by omega, by go_num, by rw [HN.out], bl_trans hbl hb1⟩
      case measure => simp [intOf]; omega
    · have e1 : xss.take k = xss := List.take_of_length_le (by omega)
      rw [e1]
      clear e1
      go_wp2_with fail
      go_ret
      exact ⟨rfl, hbl⟩

theorem walkT_join (n : Int) (xss : List (List Int)) : joinL [32] ([119, 97, 108, 107] :: numT n :: xss.map (numsT [45])) = walkT n xss := by
  rw [← joinL_eq, Lib.join_cons]
  unfold Lib.joinTail walkT arcsT
  simp [List.map_map, Function.comp_def]
def WordsRel (n : Int) (xss : List (List Int)) (w : World) (v i : Value) (wr : World) : Prop :=
  ∃ k : Nat, k ≤ xss.length ∧ i = .int .i64 k ∧ wr.ownsRow w.heap.size 9 1 v (k + 2) (([119, 97, 108, 107] :: numT n :: (xss.take k).map (numsT [45])).map strV) ∧ Below w.heap.size w wr
theorem impl_walkText (n : Int) (v : Value) (xss : List (List Int)) (w : World) (h : RowsR w w.heap.size v xss) (hg : Good n xss) (hl : xss.length ≤ 1048576) (hp : Pow10 w) :
    Calls Tryz.prog 82 #[.agg #[.int .i64 n, v]] w fun e w' => e = .returned (strV (walkT n xss)) ∧ Below w.heap.size w w' := by
  have hn : 1 ≤ n ∧ n ≤ 12 := by have := hg.1; unfold inB at this; simpa using this
  have HS := Lib.hid hg.small
  obtain ⟨A, c, rfl, h1, h2, h3⟩ := h.open_
  unfold maxLen at h2
  clear h hg
  have H3 := Lib.hid h3; clear h3
  have hl0 : (numT n).length ≤ 13 := numT_len (by omega) (M := 12) (by omega)
  go_enter Tryz.func82, Tryz.ntmps82
  go_wp2_with fail
  have hb00 := bl_alloc (Below.refl w.heap.size w) (.cells #[.int .i64 n, .slice A xss.length c] 31)
  refine (impl_Itoa n _ (by omega) (by omega) (hp.below hb00)).mono ?_
  rintro e w1 ⟨rfl, hb1⟩
  rw [show strV (numT n) = Value.string ⟨(numT n).toArray⟩ from rfl]
  obtain ⟨hc1, hf1⟩ := bx w.heap.size hb1 (by simp)
  have hb01 := bl_trans hb00 hb1
  have hgt : w.heap.size < w1.heap.size := by have := hb1.size; simp at this; omega
  go_wp2_with fail
  clear hc1 hf1
  go_loopw [3, 5, 13] (fun v _ i wr => WordsRel n xss w v i wr) (fun _ _ i _ => xss.length - (intOf i).toNat)
  case atStart =>
    refine ⟨0, Nat.zero_le _, rfl, ⟨by simp, .inr ⟨w1.heap.size, 2, _, rfl, by omega, heap_alloc_new w1 _, by omega, by unfold maxLen; omega, rfl, rfl⟩⟩, bl_alloc hb01 _⟩
  case round =>
    obtain ⟨k, hk, rfl, hown, hbl⟩ := hrel
    by_cases hlt : k < xss.length
    · obtain ⟨xs, hx⟩ : ∃ x, xss[k]? = some x := ⟨xss[k], List.getElem?_eq_getElem hlt⟩
      obtain ⟨ad, rfl, hb, hc⟩ := H3.out (by omega)
      obtain ⟨u, hu, hr⟩ := hc k xs hx
      have hcell : wr.cell? (ad.add k) = some u := (hbl.cell (p := ad.add k) (by rw [block_add]; exact hb)).trans hu
      have hr' : IntsR wr wr.heap.size u xs := (hr.below hbl).more hbl.size
      clear hc hr hu
      have HR := Lib.hid hr'; clear hr'
      have hm := List.mem_of_getElem? hx
      have hs1 := HS.out xs hm
      have hs5 : ∀ x ∈ xs, 0 ≤ x ∧ x ≤ 1000000 := fun x hx => by have := hs1.2 x hx; omega
      have HS5 := Lib.hid hs5
      have hs6 : xs.length ≤ 1000 := by have := hs1.1; omega
      have HN := Lib.hid (show ([119, 97, 108, 107] :: numT n :: (xss.take (k + 1)).map (numsT [45])).map strV = ([119, 97, 108, 107] :: numT n :: (xss.take k).map (numsT [45])).map strV ++ [strV (numsT [45] xs)] by
        obtain ⟨hk', rfl⟩ := List.getElem?_eq_some_iff.1 hx
        rw [List.take_succ_eq_append_getElem hk', List.map_append]
        simp)
      clear hx hm hs1 hs5
      go_wp2_with fail
      refine (impl_joinNumbers _ xs ⟨#[45]⟩ _ HR.out HS5.out hs6 (by decide) (hp.below hbl)).mono ?_
      rintro e w2 ⟨rfl, hb2⟩
      rw [show strV (numsT (ByteArray.mk #[45]).data.toList xs) = Value.string ⟨(numsT [45] xs).toArray⟩ from rfl]
      have hown1 : w2.ownsRow w.heap.size 9 1 u3 (k + 2) (([119, 97, 108, 107] :: numT n :: (xss.take k).map (numsT [45])).map strV) := hown.kept (row := none) ⟨hb2.os, hb2.tape, hb2.output, hb2.size, fun j hj _ => hb2.block j hj⟩ (by cases h : Value.ownBlock u3 <;> simp)
      have hbl1 := bl_trans hbl hb2
      go_wp2_with ((at_builtin; refine wpList_append1 w2 rfl (.tmp 17) (.tmp 20) 56 rfl w.heap.size 9 _ 16 Tryz.underlying56 strInfo' rfl _ _ _ rfl _ rfl rfl hown1 (by unfold maxLen; omega) (by omega) hbl1.size ?_; intro v' w' hown' hbl' hgr' hlt' hob'))
      go_roundw
      case rel => exact ⟨k + 1, by omega, by go_num, by rw [HN.out]; exact hown', hbl1.trans hbl'⟩
      case measure => simp [intOf]; omega
    · have e1 : xss.take k = xss := List.take_of_length_le (by omega)
      rw [e1] at hown
      have hrd := own_reads hown
      have hlen := Lib.hid (show (joinL [32] ([119, 97, 108, 107] :: numT n :: xss.map (numsT [45]))).length ≤ 100000000000000 by
        have := arcsT_len xss HS.out
        rw [walkT_join]
        unfold walkT
        simp only [List.length_append, List.length_cons, List.length_nil]
        omega)
      have HJ := Lib.hid (walkT_join n xss)
      go_wp2_with fail
      refine (join_own _ ([119, 97, 108, 107] :: numT n :: xss.map (numsT [45])) ⟨#[32]⟩ _ 0 hrd (by simp; omega) hlen.out).mono ?_
      rintro e w1 ⟨rfl, hb1⟩
      rw [show joinL (ByteArray.mk #[32]).data.toList ([119, 97, 108, 107] :: numT n :: xss.map (numsT [45])) = walkT n xss from HJ.out]
      go_wp2_with fail
      go_ret
      exact ⟨rfl, bl_trans hbl hb1⟩
/-- What WalkText returns. -/
noncomputable def walkR (n : Int) (xss : List (List Int)) : List UInt8 := if goodB n xss = true then walkT n xss else []
end Go.Proofs.YtlmdebjbjbadlaaGreatDoor
