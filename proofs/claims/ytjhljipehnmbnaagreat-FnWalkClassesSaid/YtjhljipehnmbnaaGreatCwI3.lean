/-
  Walk problems, the program's side: distances from a label.
-/
import Derived.Test.YtjhljipehnmbnaaGreatCwIX
namespace Go.Proofs.YtjhljipehnmbnaaGreat
open Go.RowKit
set_option linter.unusedVariables false
set_option linter.unusedSimpArgs false
theorem gb_tr {w w1 w2 : World} {r : Option Nat} (h : w.grownBy w1 r) (k : w1.grownBy w2 r) : w.grownBy w2 r :=
  ⟨k.os.trans h.os, k.tape.trans h.tape, k.output.trans h.output, Nat.le_trans h.size k.size, fun j hj hne => (k.block j (Nat.lt_of_lt_of_le hj h.size) hne).trans (h.block j hj hne)⟩
theorem gb_below {w w' : World} {r : Option Nat} (h : Below w.heap.size w w') : w.grownBy w' r := ⟨h.os, h.tape, h.output, h.size, fun j hj _ => h.block j hj⟩
theorem gb_set {w w' : World} {g i : Nat} {v : Value} (h : w.grownBy w' (some g)) : w.grownBy (w'.setCell ⟨g, i, none⟩ v) (some g) :=
  gb_tr h ⟨rfl, rfl, rfl, by rw [size_setCell]; exact Nat.le_refl _, fun k hk hne => Below.heap_setCell _ _ _ _ (fun e => hne (by simp at e; rw [e]))⟩
theorem gb_b {w w' : World} {g B : Nat} (h : w.grownBy w' (some g)) (h1 : B ≤ g) (h2 : B ≤ w.heap.size) : Below B w w' := (Below.refl B w).grown h h2 fun k hk => by cases hk; exact h1
theorem gb_cell {w w' : World} {g : Nat} (h : w.grownBy w' (some g)) {b o : Nat} {v : Value} (hc : w.cell? ⟨b, o, none⟩ = some v) (hne : b ≠ g) : w'.cell? ⟨b, o, none⟩ = some v :=
  (h.cell_far ⟨b, o, none⟩ (World.block_lt_of_cell? _ _ hc) (fun e => hne (Option.some.inj e))).trans hc
/-- The least length of a walk, below k, or -1. -/
noncomputable def dTo (xss : List (List Int)) (a : Nat) : Nat → Nat → Int
  | 0, _ => -1
  | k + 1, b => if propB (dTo xss a k b < 0 ∧ wk (hasArc xss) k a b) = true then (k : Int) else dTo xss a k b
theorem dTo_bd (xss : List (List Int)) (a b : Nat) : ∀ k, -1 ≤ dTo xss a k b ∧ dTo xss a k b < k
  | 0 => by simp [dTo]
  | k + 1 => by
    have := dTo_bd xss a b k
    rw [dTo]
    split <;> omega
theorem dTo_new {xss : List (List Int)} {a k b : Nat} (h : dTo xss a k b < 0) (hw : wk (hasArc xss) k a b) : dTo xss a (k + 1) b = k := by rw [dTo, if_pos (propB_t ⟨h, hw⟩)]
theorem dTo_old {xss : List (List Int)} {a k b : Nat} (h : ¬ (dTo xss a k b < 0 ∧ wk (hasArc xss) k a b)) : dTo xss a (k + 1) b = dTo xss a k b := by rw [dTo, if_neg (by rw [propB_iff]; exact h)]
theorem dTo_walk {xss : List (List Int)} {a b : Nat} : ∀ {k : Nat}, 0 ≤ dTo xss a k b → wk (hasArc xss) (dTo xss a k b).toNat a b
  | 0, h => by simp [dTo] at h
  | k + 1, h => by
    by_cases e : dTo xss a k b < 0 ∧ wk (hasArc xss) k a b
    · rw [dTo_new e.1 e.2]; exact e.2
    · rw [dTo_old e] at h ⊢
      exact dTo_walk h
theorem dTo_some {xss : List (List Int)} {a b : Nat} : ∀ {k i : Nat}, i < k → wk (hasArc xss) i a b → 0 ≤ dTo xss a k b
  | 0, _, h, _ => absurd h (by omega)
  | k + 1, i, h, hw => by
    by_cases e : dTo xss a k b < 0
    · by_cases q : i = k
      · subst q
        rw [dTo_new e hw]; omega
      · have := dTo_some (show i < k by omega) hw
        omega
    · rw [dTo_old (fun q => e q.1)]; omega
theorem dTo_self {xss : List (List Int)} {a : Nat} : ∀ k, dTo xss a (k + 1) a = 0
  | 0 => dTo_new (by simp [dTo]) rfl
  | k + 1 => by rw [dTo_old (by rw [dTo_self k]; omega), dTo_self k]
noncomputable def dL (n : Nat) (xss : List (List Int)) (a k : Nat) : List Int := (List.range n).map (dTo xss a k)
theorem dL_len (n : Nat) (xss : List (List Int)) (a k : Nat) : (dL n xss a k).length = n := by simp [dL]
theorem dL_at {n : Nat} {xss : List (List Int)} {a k b : Nat} (h : b < n) : (dL n xss a k)[b]? = some (dTo xss a k b) := by simp [dL, h]
theorem dL_zero (n : Nat) (xss : List (List Int)) (a : Nat) : dL n xss a 0 = List.replicate n (-1) := by
  unfold dL
  rw [List.eq_replicate_iff]
  refine ⟨by simp, fun x hx => ?_⟩
  obtain ⟨b, _, rfl⟩ := List.mem_map.1 hx
  rfl
theorem dL_64 (n : Nat) (xss : List (List Int)) (a k : Nat) (hk : k ≤ 1000) : ∀ x ∈ dL n xss a k, I64 x := fun x hx => by
  obtain ⟨b, _, rfl⟩ := List.mem_map.1 hx
  have := dTo_bd xss a b k
  unfold I64
  omega
/-- In the midst of a round: the labels of l have been seen. -/
noncomputable def mixL (n : Nat) (xss : List (List Int)) (a k : Nat) (l : List Nat) : List Int := (List.range n).map fun x => if l.contains x = true then dTo xss a (k + 1) x else dTo xss a k x
theorem mix_nil (n : Nat) (xss : List (List Int)) (a k : Nat) : mixL n xss a k [] = dL n xss a k := by simp [mixL, dL]
theorem mix_len (n : Nat) (xss : List (List Int)) (a k : Nat) (l : List Nat) : (mixL n xss a k l).length = n := by simp [mixL]
theorem mix_at {n : Nat} {xss : List (List Int)} {a k b : Nat} {l : List Nat} (h : b < n) (hl : b ∉ l) : (mixL n xss a k l)[b]? = some (dTo xss a k b) := by
  simp [mixL, h, hl]
theorem mix_set {n : Nat} {xss : List (List Int)} {a k b : Nat} {l : List Nat} (h : b < n) : mixL n xss a k (l ++ [b]) = (mixL n xss a k l).set b (dTo xss a (k + 1) b) := by
  apply List.ext_getElem?
  intro x
  rw [List.getElem?_set]
  by_cases e : b = x
  · subst e
    rw [if_pos rfl, if_pos (by rw [mix_len]; exact h)]
    simp [mixL, h]
  · rw [if_neg e]
    by_cases hx : x < n
    · simp [mixL, hx, Ne.symm e]
    · rw [List.getElem?_eq_none (by rw [mix_len]; omega), List.getElem?_eq_none (by rw [mix_len]; omega)]
theorem mix_same {n : Nat} {xss : List (List Int)} {a k b : Nat} {l : List Nat} (h : b < n) (hl : b ∉ l) (he : dTo xss a (k + 1) b = dTo xss a k b) : mixL n xss a k (l ++ [b]) = mixL n xss a k l := by
  rw [mix_set h, he]
  apply List.ext_getElem?
  intro x
  rw [List.getElem?_set]
  split
  · rename_i e; subst e
    rw [mix_at h hl, if_pos (by rw [mix_len]; exact h)]
  · rfl
theorem mix_all {n : Nat} {xss : List (List Int)} (hg : Good n xss) (a k : Nat) : mixL n xss a k (bl (rset xss a k) 12) = dL n xss a (k + 1) := by
  unfold mixL dL
  refine List.map_congr_left fun x hx => ?_
  have hxn := List.mem_range.1 hx
  have hn := good_n hg
  split
  · rfl
  · rename_i e
    rw [dTo_old]
    rintro ⟨_, h⟩
    apply e
    rw [List.contains_iff_mem]
    unfold rset
    rw [bl_set]
    exact mem_lsP.2 ⟨by omega, h⟩
def DsRel (n : Nat) (xss : List (List Int)) (a : Nat) (w3 : World) (g : Nat) (i : Value) (wr : World) : Prop :=
  ∃ k : Nat, k ≤ n + 1 ∧ i = .int .i64 k ∧ NumsAt wr g (dL n xss a k) ∧ w3.grownBy wr (some g)
def DiRel (n : Nat) (xss : List (List Int)) (a k : Nat) (l : List Nat) (w3 : World) (g : Nat) (i : Value) (wr : World) : Prop :=
  ∃ j : Nat, j ≤ l.length ∧ i = .int .i64 j ∧ NumsAt wr g (mixL n xss a k (l.take j)) ∧ w3.grownBy wr (some g)
def DsPost (n : Nat) (xss : List (List Int)) (a : Nat) (w : World) (e : Ending) (w' : World) : Prop :=
  ∃ g, e = .returned (.slice (some ⟨g, 0, none⟩) n n) ∧ w.heap.size ≤ g ∧ NumsAt w' g (dL n xss a (n + 1)) ∧ Below w.heap.size w w'
set_option maxHeartbeats 1000000 in
theorem impl_distancesIn (n : Nat) (v : Value) (xss : List (List Int)) (a : Nat) (w : World) (h : RowsR w w.heap.size v xss) (hg : Good n xss) (ha : a < n) (hv : ∃ A m c, v = .slice A m c) :
    Calls Tryz.prog 53 #[.agg #[.int .i64 (n : Int), v], .int .i64 (a : Int)] w (DsPost n xss a w) := by
  have hn := good_n hg
  have HH := Lib.hid h; clear h
  have HG := Lib.hid hg; clear hg
  obtain ⟨w0, hw0⟩ : ∃ z, z = w.alloc (.cells #[.int .i64 (n : Int), v] 26) := ⟨_, rfl⟩
  have hb0 : Below w.heap.size w w0 := by rw [hw0]; exact bl_alloc (Below.refl _ _) _
  have hz0 : w0.heap.size = w.heap.size + 1 := by rw [hw0]; simp
  have HB0 := Lib.hid (show w0.heap[w.heap.size]? = some (.cells #[.int .i64 (n : Int), v] 26 (0, 0)) by rw [hw0]; exact heap_alloc_new _ _)
  have HW0 := Lib.hid hw0
  clear hw0
  obtain ⟨w1, hw1⟩ : ∃ z, z = w0.alloc (.cells #[.int .i64 (-1)] 3) := ⟨_, rfl⟩
  have hb1 : Below w0.heap.size w0 w1 := by rw [hw1]; exact bl_alloc (Below.refl _ _) _
  have hz1 : w1.heap.size = w.heap.size + 2 := by rw [hw1]; simp; omega
  have HN1 := Lib.hid (show NumsAt w1 (w.heap.size + 1) [-1] by rw [hw1, ← hz0]; exact heap_alloc_new _ _)
  have HW1 := Lib.hid hw1
  clear hw1
  have HB1 := bk HB0 hb1 (by omega)
  have HZ1 := Lib.hid hz1
  have hzz : w.heap.size + 2 ≤ w1.heap.size := by omega
  have hb01 := hb0.trans (hb1.mono (by omega))
  clear hz1 hz0 HB0 hb0 hb1
  have b0 := (cells2 HB1).1
  have b1 := (cells2 HB1).2.1
  go_enter Tryz.func53, Tryz.ntmps53
  go_wp2_with fail
  rw [← HW0.out, ← HW1.out]
  refine (impl_Repeat (-1) n (w.heap.size + 1) w1 HN1.out (by omega) (by omega)).mono ?_
  rintro e w2 ⟨rfl, hN2, hb2⟩
  have HN2 := Lib.hid hN2
  have HB2 := bk HB1 hb2 (by omega)
  have hg2 := hN2.lt
  have hb02 := hb01.trans (hb2.mono (by omega))
  obtain ⟨g, hg⟩ : ∃ g, g = w1.heap.size := ⟨_, rfl⟩
  rw [← hg] at HN2 hg2 ⊢
  have hgw : w.heap.size < g := by omega
  clear b0 b1 hN2 hg
  obtain ⟨b0, b1, bf⟩ := cells2 HB2
  go_wp2_with fail
  refine (impl_reached n v xss a n w2 ((HH.out.below hb02).more hb02.size) HG.out ha (by omega) hv).mono ?_
  rintro e w3 ⟨u, rfl, hown, hb3⟩
  clear b0 b1 bf
  have hr := own_intsR hown (rsetL_64 xss a (n + 1))
  obtain ⟨g3, cap3, cur3, rfl, hg3, -⟩ := own_one hown
  obtain ⟨A2, c2, e2, q1, q2, q3⟩ := hr.open_
  rw [natsI_len, rsetL_len] at e2 q1 q3
  cases e2
  obtain ⟨ad, ead, hbd, hc⟩ := q3 (by omega)
  cases ead
  have Q3 := Lib.hid hc
  clear q3 hr hown hc
  have HN3 := Lib.hid (HN2.out.keep (hb3.block _ hg2))
  have hb03 := hb02.trans (hb3.mono (by omega))
  have hz3 := hb3.size
  clear HN2
  have hst : DsRel n xss a w3 g (.int .i64 0) w3 := ⟨0, by omega, rfl, by rw [dL_zero]; exact HN3.out, World.grownBy.refl _ _⟩
  have HST := Lib.hid hst
  clear hst HN3
  go_wp2_with fail
  go_loopw [20] (fun i wr => DsRel n xss a w3 g i wr) (fun i _ => (n + 1) - (intOf i).toNat)
  case atStart => exact HST.out
  case round =>
    clear HST
    obtain ⟨k, hk, rfl, hnum, hgr⟩ := hrel
    have HN := Lib.hid hnum
    have hgl := hnum.lt
    have hz4 := hgr.size
    by_cases hlt : k < n + 1
    · have hcell := gb_cell hgr (by rw [← addr0]; exact Q3.out k _ (natsI_at (rsetL_at hlt))) (by omega)
      have hrl := rset_lt xss a k
      have hB12 := Lib.hid (rset_bl HG.out (k := k) ha)
      have HMA := Lib.hid (mix_all HG.out a k)
      have HRB := Lib.hid (show ∀ x ∈ bl (rset xss a k) 12, wk (hasArc xss) k a x from fun x hx => by
        unfold rset at hx
        rw [bl_set] at hx
        exact (mem_lsP.1 hx).2)
      have HND := Lib.hid (show (bl (rset xss a k) 12).Nodup from List.nodup_range.filter _)
      obtain ⟨R, hR⟩ : ∃ R, R = rset xss a k := ⟨_, rfl⟩
      rw [← hR] at hcell hrl HMA hB12 HRB HND
      clear hR hnum
      go_wp2_with fail
      refine (impl_labelsIn R wr hrl).mono ?_
      rintro e w4 ⟨u, rfl, hl, hb4⟩
      have hr2 := own_intsR hl (bl_64 R)
      have hun := hl.lt
      obtain ⟨A3, c3, rfl, r1, r2, r3⟩ := hr2.open_
      rw [natsI_len] at r1 r3 ⊢
      have R3 := Lib.hid r3
      have HUN := Lib.hid hun
      clear r3 hr2 hl hun
      have hl12 : (bl R 12).length ≤ 12 := lsTo_len _ 12
      have HN4 := Lib.hid (HN.out.keep (hb4.block _ hgl))
      have hgr4 := gb_tr hgr (gb_below hb4)
      have hz5 := hb4.size
      clear HN
      obtain ⟨L, hL⟩ : ∃ L, L = bl R 12 := ⟨_, rfl⟩
      rw [← hL] at r1 R3 hB12 hl12 HMA HRB HND ⊢
      clear hL
      have hst : DiRel n xss a k L w4 g (.int .i64 0) w4 := ⟨0, by omega, rfl, by rw [List.take_zero, mix_nil]; exact HN4.out, World.grownBy.refl _ _⟩
      have HST := Lib.hid hst
      clear hst HN4
      go_wp2_with fail
      go_loopw [28] (fun i wr => DiRel n xss a k L w4 g i wr) (fun i _ => L.length - (intOf i).toNat)
      case atStart => exact HST.out
      case round =>
        clear HST
        obtain ⟨j, hj, rfl, hnum, hgr5⟩ := hrel
        have HN5 := Lib.hid hnum
        clear hnum
        by_cases hlj : j < L.length
        · obtain ⟨x, hx⟩ : ∃ x, L[j]? = some x := ⟨L[j], List.getElem?_eq_getElem hlj⟩
          obtain ⟨ad3, rfl, hbd3, hc3⟩ := R3.out (by omega)
          have hne : ad3.block ≠ g := by
            have := (HUN.out ad3.block rfl).1
            omega
          have hcx := (hgr5.cell_far (ad3.add j) (by rw [block_add]; exact hbd3) (fun e => hne (by rw [block_add] at e; exact Option.some.inj e))).trans (hc3 j _ (natsI_at hx))
          have hxn := hB12.out x (List.mem_of_getElem? hx)
          have hnot : x ∉ L.take j := by
            obtain ⟨hk', rfl⟩ := List.getElem?_eq_some_iff.1 hx
            intro hm
            have hnd := HND.out
            rw [← List.take_append_drop j L, List.nodup_append] at hnd
            exact hnd.2.2 _ hm L[j] (by rw [List.drop_eq_getElem_cons hlj]; exact List.mem_cons_self) rfl
          have hTK : L.take (j + 1) = L.take j ++ [x] := by
            obtain ⟨hk', rfl⟩ := List.getElem?_eq_some_iff.1 hx
            exact List.take_succ_eq_append_getElem hk'
          have hcn := HN5.out.cell (mix_at (k := k) (xss := xss) (a := a) hxn hnot)
          have hfz := HN5.out.frozen x
          have hbd := dTo_bd xss a x k
          by_cases hd : dTo xss a k x < 0
          · have HE := Lib.hid (show mixL n xss a k (L.take (j + 1)) = (mixL n xss a k (L.take j)).set x (k : Int) by rw [hTK, mix_set hxn, dTo_new hd (HRB.out x (List.mem_of_getElem? hx))])
            clear hc3 hx hTK hnot
            generalize dTo xss a k x = dd at *
            go_wp2_with fail
            go_roundw
            case rel => exact ⟨j + 1, by omega, by go_num, by rw [HE.out]; exact HN5.out.set x k, gb_set hgr5⟩
            case measure => simp [intOf]; omega
          · have HE := Lib.hid (show mixL n xss a k (L.take (j + 1)) = mixL n xss a k (L.take j) by rw [hTK, mix_same hxn hnot (dTo_old fun q => hd q.1)])
            clear hc3 hx hTK hnot
            generalize dTo xss a k x = dd at *
            go_wp2_with fail
            go_roundw
            case rel => exact ⟨j + 1, by omega, by go_num, by rw [HE.out]; exact HN5.out, hgr5⟩
            case measure => simp [intOf]; omega
        · have e1 : L.take j = L := List.take_of_length_le (by omega)
          rw [e1, HMA.out] at HN5
          clear e1
          go_wp2_with fail
          go_roundw
          case rel => exact ⟨k + 1, by omega, by go_num, HN5.out, gb_tr hgr4 hgr5⟩
          case measure => simp [intOf]; omega
    · obtain rfl : k = n + 1 := by omega
      clear hnum
      have hb := hb03.trans (gb_b hgr (by omega) (by omega))
      go_wp2_with fail
      go_ret
      exact ⟨g, rfl, by omega, HN.out, hb⟩
end Go.Proofs.YtjhljipehnmbnaaGreat
