/-
  Walk problems, the program's side: the labels that walks of any length reach, and distances.
-/
import Derived.Test.YtldbljflppjanaaCwI1
namespace Go.Proofs.Ytldbljflppjanaa
open Go.RowKit
set_option linter.unusedVariables false
set_option linter.unusedSimpArgs false
theorem addr0 (g j : Nat) : (⟨g, 0, none⟩ : Addr).add j = ⟨g, j, none⟩ := by unfold Addr.add; split <;> simp_all
/-- A row of n numbers: f up to a, then z. -/
def FillTo (n a : Nat) (f : Nat → Int) (z : Int) (d : List Int) : Prop := d.length = n ∧ (∀ x, x < a → x < n → d[x]? = some (f x)) ∧ ∀ x, a ≤ x → x < n → d[x]? = some z
theorem FillTo.start (n : Nat) (f : Nat → Int) (z : Int) : FillTo n 0 f z (List.replicate n z) := ⟨by simp, fun _ h => absurd h (by omega), fun x _ h => by simp [h]⟩
theorem FillTo.next {n a : Nat} {f : Nat → Int} {z : Int} {d : List Int} (h : FillTo n a f z d) (ha : a < n) : FillTo n (a + 1) f z (d.set a (f a)) := by
  refine ⟨by rw [List.length_set]; exact h.1, fun x h1 h2 => ?_, fun x h1 h2 => ?_⟩
  · rw [List.getElem?_set]
    split
    · rename_i e; subst e; rw [if_pos (by rw [h.1]; exact ha)]
    · exact h.2.1 x (by omega) h2
  · rw [List.getElem?_set, if_neg (by omega)]
    exact h.2.2 x (by omega) h2
theorem FillTo.all {n a : Nat} {f : Nat → Int} {z : Int} {d : List Int} (h : FillTo n a f z d) (ha : n ≤ a) : d = (List.range n).map f := by
  apply List.ext_getElem?
  intro x
  by_cases hx : x < n
  · rw [h.2.1 x (by omega) hx]; simp [hx]
  · rw [List.getElem?_eq_none (by rw [h.1]; omega), List.getElem?_eq_none (by simp; omega)]
theorem FillTo.at_ {n a : Nat} {f : Nat → Int} {z y : Int} {d : List Int} (h : FillTo n a f z d) (ha : a < n) : (d.set a y)[a]? = some y := by
  rw [List.getElem?_set, if_pos rfl, if_pos (by rw [h.1]; exact ha)]
/-- The labels that walks from a lead to. -/
noncomputable def closN (n : Nat) (xss : List (List Int)) (a : Nat) : Nat := bitSet fun b => ∃ k, k ≤ n ∧ wk (hasArc xss) k a b
noncomputable def closL (n : Nat) (xss : List (List Int)) : List Int := (List.range n).map fun a => (closN n xss a : Int)
theorem closN_lt (n : Nat) (xss : List (List Int)) (a : Nat) : closN n xss a < 4096 := bitSet_lt _
theorem closL_len (n : Nat) (xss : List (List Int)) : (closL n xss).length = n := by simp [closL]
theorem closL_at {n : Nat} {xss : List (List Int)} {a : Nat} (h : a < n) : (closL n xss)[a]? = some (closN n xss a : Int) := by simp [closL, h]
theorem closL_64 (n : Nat) (xss : List (List Int)) : ∀ x ∈ closL n xss, I64 x := fun x hx => by
  obtain ⟨a, _, rfl⟩ := List.mem_map.1 hx
  have := closN_lt n xss a
  unfold I64
  omega
def orN (l : List Nat) : Nat := l.foldl (fun m x => m ||| x) 0
theorem orN_snoc (l : List Nat) (x : Nat) : orN (l ++ [x]) = orN l ||| x := by simp [orN]
theorem or_bit (b : Nat) : ∀ (l : List Nat) (m : Nat), (l.foldl (fun m x => m ||| x) m).testBit b = true ↔ m.testBit b = true ∨ ∃ x ∈ l, x.testBit b = true
  | [], m => by simp
  | x :: l, m => by
    rw [List.foldl_cons, or_bit b l, Nat.testBit_or, Bool.or_eq_true, or_assoc]
    constructor
    · rintro (h | h | ⟨c, h1, h2⟩)
      · exact .inl h
      · exact .inr ⟨x, by simp, h⟩
      · exact .inr ⟨c, by simp [h1], h2⟩
    · rintro (h | ⟨c, h1, h2⟩)
      · exact .inl h
      · rcases List.mem_cons.1 h1 with rfl | h1
        · exact .inr (.inl h2)
        · exact .inr (.inr ⟨c, h1, h2⟩)
theorem orN_lt {l : List Nat} (h : ∀ x ∈ l, x < 4096) : orN l < 4096 := by
  refine Nat.lt_pow_two_of_testBit (n := 12) _ fun i hi => ?_
  rw [Bool.eq_false_iff]
  intro k
  rcases (or_bit i l 0).1 k with k | ⟨c, h1, k⟩
  · simp at k
  · rw [Nat.testBit_lt_two_pow (Nat.lt_of_lt_of_le (h c h1) (Nat.pow_le_pow_right (n := 2) (i := 12) (by omega) hi))] at k
    cases k
theorem orN_clos (n : Nat) (xss : List (List Int)) (a : Nat) : orN (rsetL xss a (n + 1)) = closN n xss a := by
  refine bitSet_eq fun b => ?_
  unfold orN
  rw [or_bit]
  constructor
  · rintro (h | ⟨x, h1, h2⟩)
    · simp at h
    · obtain ⟨k, hk, rfl⟩ := List.mem_map.1 h1
      have h3 := bitSet_bit.1 h2
      exact ⟨h3.1, k, by have := List.mem_range.1 hk; omega, h3.2⟩
  · rintro ⟨h, k, h1, h2⟩
    exact .inr ⟨rset xss a k, List.mem_map.2 ⟨k, List.mem_range.2 (by omega), rfl⟩, bitSet_bit.2 ⟨h, h2⟩⟩
def ClRel (n : Nat) (xss : List (List Int)) (w : World) (g : Nat) (i : Value) (wr : World) : Prop :=
  ∃ (a : Nat) (d : List Int), a ≤ n ∧ i = .int .i64 a ∧ FillTo n a (fun x => (closN n xss x : Int)) 0 d ∧ NumsAt wr g d ∧ Below g w wr
def CiRel (n : Nat) (d : List Int) (a : Nat) (l : List Nat) (w : World) (g : Nat) (i : Value) (wr : World) : Prop :=
  ∃ j : Nat, j ≤ l.length ∧ i = .int .i64 j ∧ NumsAt wr g (d.set a (orN (l.take j))) ∧ Below g w wr ∧ ∀ b, b ≠ g → wr.heap[b]? = w.heap[b]?
def ClPost (n : Nat) (xss : List (List Int)) (w : World) (e : Ending) (w' : World) : Prop :=
  ∃ g, e = .returned (.slice (some ⟨g, 0, none⟩) n n) ∧ w.heap.size ≤ g ∧ NumsAt w' g (closL n xss) ∧ Below w.heap.size w w'
set_option maxHeartbeats 1000000 in
theorem impl_closure (n : Nat) (v : Value) (xss : List (List Int)) (w : World) (h : RowsR w w.heap.size v xss) (hg : Good n xss) (hv : ∃ A m c, v = .slice A m c) :
    Calls Try.prog 53 #[.agg #[.int .i64 (n : Int), v]] w (ClPost n xss w) := by
  have hn := good_n hg
  have HH := Lib.hid h; clear h
  have HG := Lib.hid hg; clear hg
  have hmk := fun W => run_make1 (P := Try.prog) 26 3 (.int .i64 0) 8 Try.underlying26 intInfo rfl n (by omega) (by omega) W
  obtain ⟨w0, hw0⟩ : ∃ z, z = w.alloc (.cells #[.int .i64 (n : Int), v] 31) := ⟨_, rfl⟩
  have hb0 : Below w.heap.size w w0 := by rw [hw0]; exact bl_alloc (Below.refl _ _) _
  have hz0 : w0.heap.size = w.heap.size + 1 := by rw [hw0]; simp
  have HB0 := Lib.hid (show w0.heap[w.heap.size]? = some (.cells #[.int .i64 (n : Int), v] 31 (0, 0)) by rw [hw0]; exact heap_alloc_new _ _)
  have HW0 := Lib.hid hw0
  clear hw0
  go_enter Try.func53, Try.ntmps53
  go_wp2_with fail
  clear hmk
  rw [← HW0.out]
  obtain ⟨w1, hw1⟩ : ∃ z, z = w0.alloc (.cells (rowOf [] n (.int .i64 0)) 3) := ⟨_, rfl⟩
  have hb1 : Below (w.heap.size + 1) w0 w1 := by rw [hw1, ← hz0]; exact bl_alloc (Below.refl _ _) _
  have hN0 : NumsAt w1 (w.heap.size + 1) (List.replicate n 0) := by
    unfold NumsAt
    rw [hw1, ← hz0, heap_alloc_new]
    simp [rowOf, intV]
  rw [← hw1]
  clear hw1
  have hst : ClRel n xss w1 (w.heap.size + 1) (.int .i64 0) w1 := ⟨0, _, Nat.zero_le _, rfl, FillTo.start _ _ _, hN0, Below.refl _ _⟩
  have HST := Lib.hid hst
  have HB1 := bk HB0 hb1 (by omega)
  have hb01 := hb0.trans (hb1.mono (by omega))
  clear hst hN0 HB0 hb1 hb0 hz0
  go_loopw [12] (fun i wr => ClRel n xss w1 (w.heap.size + 1) i wr) (fun i _ => n - (intOf i).toNat)
  case atStart => exact HST.out
  case round =>
    clear HST
    obtain ⟨a, d, ha, rfl, hfill, hnum, hbl⟩ := hrel
    have HF := Lib.hid hfill
    have HN := Lib.hid hnum
    have hgl := hnum.lt
    have hb02 := hb01.trans (hbl.mono (by omega))
    have HBr := bk HB1 hbl (by omega)
    clear hfill hnum
    by_cases hlt : a < n
    · obtain ⟨b0, b1, bf⟩ := cells2 HBr
      go_wp2_with fail
      refine (impl_reached n v xss a n wr ((HH.out.below hb02).more hb02.size) HG.out hlt (by omega) hv).mono ?_
      rintro e w3 ⟨u, rfl, hown, hb3⟩
      clear b0 b1 bf
      have hr := own_intsR hown (rsetL_64 xss a (n + 1))
      obtain ⟨g3, cap3, cur3, rfl, hg3, -⟩ := own_one hown
      obtain ⟨A2, c2, e2, q1, q2, q3⟩ := hr.open_
      rw [natsI_len, rsetL_len] at e2 q1 q3
      cases e2
      obtain ⟨ad, ead, hbd, hc⟩ := q3 (by omega)
      cases ead
      have Q3 := Lib.hid hc
      clear q3 hr hown hc
      have HN3 := Lib.hid (HN.out.keep (hb3.block _ hgl))
      have hbl3 := hbl.trans (hb3.mono (by omega))
      have hsz3 := hb3.size
      have HOC := Lib.hid (orN_clos n xss a)
      clear HN
      go_wp2_with fail
      have hc0 : CiRel n d a (rsetL xss a (n + 1)) w3 (w.heap.size + 1) (.int .i64 0) w3 := ⟨0, Nat.zero_le _, rfl, by
        have e : d.set a ((orN ((rsetL xss a (n + 1)).take 0) : Nat) : Int) = d := by
          apply List.ext_getElem?
          intro x
          rw [List.getElem?_set]
          split
          · rename_i e; subst e
            rw [HF.out.2.2 a (Nat.le_refl _) hlt, if_pos (by rw [HF.out.1]; exact hlt)]
            rfl
          · rfl
        rw [e]; exact HN3.out, Below.refl _ _, fun _ _ => rfl⟩
      have HC0 := Lib.hid hc0
      clear hc0 HN3
      go_loopw [21] (fun i wr => CiRel n d a (rsetL xss a (n + 1)) w3 (w.heap.size + 1) i wr) (fun i _ => (n + 1) - (intOf i).toNat)
      case atStart => exact HC0.out
      case round =>
        clear HC0
        obtain ⟨j, hj, rfl, hnum, hbl4, hkb⟩ := hrel
        rw [rsetL_len] at hj
        have HN4 := Lib.hid hnum
        have HK := Lib.hid hkb
        clear hnum hkb
        have hbl5 := hbl3.trans hbl4
        by_cases hlj : j < n + 1
        · have hcell := (World.cell?_of_block (a := (⟨g3, 0, none⟩ : Addr).add j) (HK.out _ (by rw [block_add]; show g3 ≠ _; omega))).trans (Q3.out j _ (natsI_at (rsetL_at hlj)))
          rw [addr0] at hcell
          have hcn := HN4.out.cell (HF.out.at_ hlt)
          have hfz := HN4.out.frozen a
          have hrl := rset_lt xss a j
          have hol := orN_lt (l := (rsetL xss a (n + 1)).take j) fun x hx => by
            obtain ⟨k, _, rfl⟩ := List.mem_map.1 (List.mem_of_mem_take hx)
            exact rset_lt _ _ _
          have hor := i64_or_nat (orN ((rsetL xss a (n + 1)).take j)) (rset xss a j) (by omega) (by omega)
          have HS := Lib.hid (show orN ((rsetL xss a (n + 1)).take (j + 1)) = orN ((rsetL xss a (n + 1)).take j) ||| rset xss a j by
            obtain ⟨hk', e⟩ := List.getElem?_eq_some_iff.1 (rsetL_at (xss := xss) (a := a) hlj)
            rw [List.take_succ_eq_append_getElem hk', orN_snoc, e])
          generalize orN ((rsetL xss a (n + 1)).take j) = q at *
          generalize rset xss a j = q2 at *
          go_wp2_with fail
          go_roundw
          case rel =>
            refine ⟨j + 1, by rw [rsetL_len]; omega, by go_num, ?_, hbl4.setCell (by show w.heap.size + 1 ≤ w.heap.size + 1; omega) _, fun b hb => ?_⟩
            · have h := HN4.out.set a ((q ||| q2 : Nat) : Int)
              rw [List.set_set] at h
              rw [HS.out]
              exact h
            · rw [Below.heap_setCell _ _ _ _ (by simpa using hb)]
              exact HK.out b hb
          case measure => simp [intOf]; omega
        · have e1 : (rsetL xss a (n + 1)).take j = rsetL xss a (n + 1) := List.take_of_length_le (by rw [rsetL_len]; omega)
          rw [e1, HOC.out] at HN4
          clear e1
          go_wp2_with fail
          go_roundw
          case rel => exact ⟨a + 1, _, by omega, by go_num, HF.out.next hlt, HN4.out, hbl5⟩
          case measure => simp [intOf]; omega
    · obtain rfl : a = n := by omega
      have HNF := Lib.hid (show NumsAt wr (w.heap.size + 1) (closL a xss) by
        have h := HN.out
        rw [HF.out.all (Nat.le_refl _)] at h
        exact h)
      go_wp2_with fail
      go_ret
      exact ⟨_, rfl, by omega, HNF.out, hb02⟩
end Go.Proofs.Ytldbljflppjanaa
