/-
  Walk problems, the program's side: the labels of a set, sets of labels, and the labels that walks of each length reach.
-/
import Derived.Test.YtldbljflppjanaaCwLib
import Derived.Test.YtldbljflppjanaaPlainCw
import Derived.Test.YtldbljflppjanaaAfter
namespace Go.Proofs.Ytldbljflppjanaa
open Go.RowKit
set_option linter.unusedVariables false
set_option linter.unusedSimpArgs false
theorem shr_eq (m k : Nat) : (m : Int) / 2 ^ k = ((m / 2 ^ k : Nat) : Int) := by push_cast; rfl
theorem shr_zero {m k : Nat} (h : m < 2 ^ k) : ((m : Int) / 2 ^ k != 0) = false := by rw [shr_eq, Nat.div_eq_of_lt h]; rfl
theorem shr_some {m k : Nat} (h : ¬ m < 2 ^ k) : ((m : Int) / 2 ^ k != 0) = true := by
  rw [shr_eq]
  have : 0 < m / 2 ^ k := Nat.div_pos (by omega) (Nat.two_pow_pos k)
  rw [bne_iff_ne]
  omega
/-- The labels of a set that are bits. -/
noncomputable def bl (m : Nat) (k : Nat) : List Nat := lsTo (fun b => m.testBit b = true) k
theorem bl_t {m k : Nat} (h : m.testBit k = true) : bl m (k + 1) = bl m k ++ [k] := lsTo_t h
theorem bl_f {m k : Nat} (h : ¬ m.testBit k = true) : bl m (k + 1) = bl m k := lsTo_f h
theorem bl_all {m k : Nat} (h : k ≤ 12) (hm : m < 2 ^ k) : bl m k = bl m 12 :=
  (lsTo_stop 12 h fun b h1 _ h3 => by rw [Nat.testBit_lt_two_pow (Nat.lt_of_lt_of_le hm (Nat.pow_le_pow_right (by omega) h1))] at h3; cases h3).symm
theorem bl_set (p : Nat → Prop) : bl (bitSet p) 12 = lsP p := lsP_set p
def LbRel (m : Nat) (w : World) (v i : Value) (wr : World) : Prop := ∃ k : Nat, k ≤ 12 ∧ i = .int .i64 k ∧ wr.ownsRow w.heap.size 3 1 v (bl m k).length ((natsI (bl m k)).map intV) ∧ Below w.heap.size w wr
def LbPost (m : Nat) (w : World) (e : Ending) (w' : World) : Prop := ∃ v, e = .returned v ∧ w'.ownsRow w.heap.size 3 1 v (bl m 12).length ((natsI (bl m 12)).map intV) ∧ Below w.heap.size w w'
theorem impl_labelsIn (m : Nat) (w : World) (hm : m < 4096) : Calls Try.prog 52 #[.int .i64 (m : Int)] w (LbPost m w) := by
  have hm' : (m : Int) < 4096 := by omega
  go_enter Try.func52, Try.ntmps52
  go_wp2_with fail
  go_loopw [3, 4] (fun v i wr => LbRel m w v i wr) (fun _ i _ => 13 - (intOf i).toNat)
  case atStart => exact ⟨0, Nat.zero_le _, rfl, World.ownsRow_nil _ _ _ _, Below.refl _ _⟩
  case round =>
    obtain ⟨k, hk, rfl, hown, hbl⟩ := hrel
    have hll : (bl m k).length ≤ k := lsTo_len _ k
    have HO := Lib.hid hown
    have hsz := hbl.size
    clear hown
    by_cases hz : m < 2 ^ k
    · have t0 := shr_zero hz
      have HL := Lib.hid (bl_all hk hz)
      clear hz
      go_wp2_with fail
      go_ret
      exact ⟨_, rfl, by rw [← HL.out]; exact HO.out, hbl⟩
    · have hk2 : k < 12 := by
        rcases Nat.lt_or_ge k 12 with h | h
        · exact h
        · have : 2 ^ 12 ≤ 2 ^ k := Nat.pow_le_pow_right (by omega) h
          omega
      have t0 := shr_some hz
      clear hz
      by_cases ht : m.testBit k = true
      · have hbit := bit_t hm (by omega) ht
        have HE := Lib.hid (bl_t ht)
        clear ht
        go_wp2_with ((at_builtin; refine wpList_append1 wr rfl (.tmp 16) (.tmp 18) 26 rfl w.heap.size 3 _ 8 Try.underlying26 intInfo rfl _ _ _ rfl _ rfl rfl HO.out (by unfold maxLen; omega) (by omega) hsz ?_; intro v' w' hown' hbl' hgr' hlt' hob'))
        go_roundw
        case rel => exact ⟨k + 1, by omega, by go_num, by rw [HE.out, List.length_append, natsI_snoc, List.map_append]; exact hown', hbl.trans hbl'⟩
        case measure => simp [intOf]; omega
      · have hbit := bit_f hm (by omega) ht
        have HE := Lib.hid (bl_f ht)
        clear ht
        go_wp2_with fail
        go_roundw
        case rel => exact ⟨k + 1, by omega, by go_num, by rw [HE.out]; exact HO.out, hbl⟩
        case measure => simp [intOf]; omega
/-- The set of a list's labels. -/
def setN (l : List Nat) : Nat := l.foldl (fun m b => m ||| 2 ^ b) 0
theorem setN_snoc (l : List Nat) (x : Nat) : setN (l ++ [x]) = setN l ||| 2 ^ x := by simp [setN]
theorem setN_lt {l : List Nat} (h : ∀ x ∈ l, x ≤ 11) : setN l < 4096 := by
  refine Nat.lt_pow_two_of_testBit (n := 12) _ fun i hi => ?_
  rw [Bool.eq_false_iff]
  intro k
  rcases (foldl_bit i l 0).1 k with k | k
  · simp at k
  · have := h i k
    omega
def SetRel (l : List Nat) (w : World) (s i : Value) (wr : World) : Prop := w = wr ∧ ∃ k : Nat, k ≤ l.length ∧ i = .int .i64 k ∧ s = .int .i64 (setN (l.take k) : Int)
theorem impl_setOf (v : Value) (l : List Nat) (w : World) (h : IntsR w w.heap.size v (natsI l)) (hl : ∀ x ∈ l, x ≤ 11) : Calls Try.prog 54 #[v] w fun e w' => e = .returned (.int .i64 (setN l : Int)) ∧ w = w' := by
  obtain ⟨A, c, rfl, h1, h2, h3⟩ := h.open_
  unfold maxLen at h2
  rw [natsI_len] at h1 h3 ⊢
  clear h
  have H3 := Lib.hid h3; clear h3
  have HL := Lib.hid hl; clear hl
  go_enter Try.func54, Try.ntmps54
  go_wp2_with fail
  go_loopw [3, 8] (fun s i wr => SetRel l w s i wr) (fun _ i _ => l.length - (intOf i).toNat)
  case atStart => exact ⟨rfl, 0, Nat.zero_le _, rfl, rfl⟩
  case round =>
    obtain ⟨rfl, k, hk, rfl, rfl⟩ := hrel
    by_cases hlt : k < l.length
    · obtain ⟨x, hx⟩ : ∃ x, l[k]? = some x := ⟨l[k], List.getElem?_eq_getElem hlt⟩
      obtain ⟨ad, rfl, hb, hc⟩ := H3.out (by omega)
      have hcell := hc k _ (natsI_at hx)
      have hx11 := HL.out x (List.mem_of_getElem? hx)
      have hq := setN_lt (l := l.take k) fun y hy => HL.out y (List.mem_of_mem_take hy)
      have HN := Lib.hid (show setN (l.take (k + 1)) = setN (l.take k) ||| 2 ^ x by
        obtain ⟨hk', rfl⟩ := List.getElem?_eq_some_iff.1 hx
        rw [List.take_succ_eq_append_getElem hk', setN_snoc])
      clear hc hx
      generalize setN (l.take k) = q at *
      go_wp2_with fail
      go_roundw
      case rel => exact ⟨rfl, k + 1, by omega, by go_num, by rw [HN.out, or_pow q x hq hx11]⟩
      case measure => simp [intOf]; omega
    · have e1 : l.take k = l := List.take_of_length_le (by omega)
      rw [e1]
      go_wp2_with fail
      go_ret
      exact ⟨rfl, rfl⟩
/-! ### The labels that walks reach -/
/-- The labels at the end of walks of k arcs from a. -/
noncomputable def rset (xss : List (List Int)) (a k : Nat) : Nat := bitSet (wk (hasArc xss) k a)
theorem rset_lt (xss : List (List Int)) (a k : Nat) : rset xss a k < 4096 := bitSet_lt _
noncomputable def rsetL (xss : List (List Int)) (a m : Nat) : List Nat := (List.range m).map (rset xss a)
theorem rsetL_len (xss : List (List Int)) (a m : Nat) : (rsetL xss a m).length = m := by simp [rsetL]
theorem rsetL_snoc (xss : List (List Int)) (a m : Nat) : rsetL xss a (m + 1) = rsetL xss a m ++ [rset xss a m] := by simp [rsetL, List.range_succ]
theorem rsetL_at {xss : List (List Int)} {a m k : Nat} (h : k < m) : (rsetL xss a m)[k]? = some (rset xss a k) := by simp [rsetL, h]
theorem rset_zero {a : Nat} (xss : List (List Int)) (h : a ≤ 11) : 2 ^ a = rset xss a 0 := by
  refine bitSet_eq fun b => ?_
  rw [Nat.testBit_two_pow, decide_eq_true_eq]
  show a = b ↔ b < 12 ∧ a = b
  constructor
  · intro h; exact ⟨by omega, h⟩
  · exact fun h => h.2
def nextN (xss : List (List Int)) (l : List Nat) : Nat := l.foldl (fun m c => m ||| mask xss c) 0
theorem nextN_lt {xss : List (List Int)} (hs : SmallArcs xss) (l : List Nat) : nextN xss l < 4096 := by
  refine Nat.lt_pow_two_of_testBit (n := 12) _ fun i hi => ?_
  rw [Bool.eq_false_iff]
  intro k
  rcases (next_bit hs l 0).1 k with k | ⟨c, _, k⟩
  · simp at k
  · have := (mask_bit hs c i).2 k
    rw [Nat.testBit_lt_two_pow (Nat.lt_of_lt_of_le (mask_lt hs c) (Nat.pow_le_pow_right (n := 2) (i := 12) (by omega) hi))] at this
    cases this
theorem nextN_snoc (xss : List (List Int)) (l : List Nat) (x : Nat) : nextN xss (l ++ [x]) = nextN xss l ||| mask xss x := by simp [nextN]
theorem rset_next {n : Nat} {xss : List (List Int)} (hg : Good n xss) (a k : Nat) : nextN xss (bl (rset xss a k) 12) = rset xss a (k + 1) := by
  unfold rset
  rw [bl_set]
  refine bitSet_eq fun b => ?_
  unfold nextN
  rw [next_bit hg.small]
  have hn := good_n hg
  constructor
  · rintro (h | ⟨c, h1, h2⟩)
    · simp at h
    · have := (arc_lt hg h2).2
      exact ⟨by omega, c, (mem_lsP.1 h1).2, h2⟩
  · rintro ⟨_, c, h1, h2⟩
    have := (arc_lt hg h2).1
    exact .inr ⟨c, mem_lsP.2 ⟨by omega, h1⟩, h2⟩
theorem wk_lt {n : Nat} {xss : List (List Int)} (hg : Good n xss) {a b k : Nat} (ha : a < n) (h : wk (hasArc xss) k a b) : b < n := by
  match k, h with
  | 0, h => cases (show a = b from h); exact ha
  | k + 1, ⟨c, _, h⟩ => exact (arc_lt hg h).2
theorem rset_bl {n : Nat} {xss : List (List Int)} (hg : Good n xss) {a k : Nat} (ha : a < n) : ∀ x ∈ bl (rset xss a k) 12, x < n := fun x hx => by
  unfold rset at hx
  rw [bl_set] at hx
  exact wk_lt hg ha (mem_lsP.1 hx).2
def RdRel (xss : List (List Int)) (a m : Nat) (w1 : World) (v i : Value) (wr : World) : Prop :=
  ∃ k : Nat, k ≤ m ∧ i = .int .i64 k ∧ wr.ownsRow w1.heap.size 3 1 v (k + 1) ((natsI (rsetL xss a (k + 1))).map intV) ∧ Below w1.heap.size w1 wr
def RnRel (xss : List (List Int)) (l : List Nat) (w1 : World) (s i : Value) (wr : World) : Prop :=
  w1 = wr ∧ ∃ k : Nat, k ≤ l.length ∧ i = .int .i64 k ∧ s = .int .i64 (nextN xss (l.take k) : Int)
def RdPost (xss : List (List Int)) (a m : Nat) (w : World) (e : Ending) (w' : World) : Prop :=
  ∃ v, e = .returned v ∧ w'.ownsRow w.heap.size 3 1 v (m + 1) ((natsI (rsetL xss a (m + 1))).map intV) ∧ Below w.heap.size w w'
theorem natsI_64 {l : List Nat} (h : ∀ x ∈ l, x < 4096) : ∀ x ∈ natsI l, I64 x := by
  intro x hx
  obtain ⟨y, hy, rfl⟩ := List.mem_map.1 hx
  have := h y hy
  unfold I64
  omega
theorem rsetL_64 (xss : List (List Int)) (a m : Nat) : ∀ x ∈ natsI (rsetL xss a m), I64 x := natsI_64 fun x hx => by
  obtain ⟨k, _, rfl⟩ := List.mem_map.1 hx
  exact rset_lt _ _ _
theorem bl_12 (m : Nat) : ∀ x ∈ bl m 12, x ≤ 11 := fun x hx => by
  have := (mem_lsTo.1 hx).1
  omega
theorem bl_64 (m : Nat) : ∀ x ∈ natsI (bl m 12), I64 x := natsI_64 fun x hx => by
  have := bl_12 m x hx
  omega
theorem base_own {w : World} {base B n : Nat} {e : TypeId} {v : Value} {vs : List Value} (h : w.ownsRow base e 1 v n vs) (hB : B ≤ base) : w.ownsRow B e 1 v n vs := by
  refine ⟨h.1, ?_⟩
  rcases h.2 with h2 | ⟨g, cap, cur, h1, h2, h3⟩
  · exact .inl h2
  · exact .inr ⟨g, cap, cur, h1, by omega, h3⟩
set_option maxHeartbeats 1000000 in
theorem impl_reached (n : Nat) (v : Value) (xss : List (List Int)) (a m : Nat) (w : World) (h : RowsR w w.heap.size v xss) (hg : Good n xss) (ha : a < n) (hm : m ≤ 1000) (hv : ∃ A m c, v = .slice A m c) :
    Calls Try.prog 51 #[.agg #[.int .i64 (n : Int), v], .int .i64 (a : Int), .int .i64 (m : Int)] w (RdPost xss a m w) := by
  have hn := good_n hg
  have HH := Lib.hid h; clear h
  have HG := Lib.hid hg; clear hg
  go_enter Try.func51, Try.ntmps51
  go_wp2_with fail
  refine (impl_after n v xss _ ((HH.out.below (bl_alloc (Below.refl _ _) _)).more (by simp)) HG.out).mono ?_
  rintro e w1 ⟨v', rfl, ho, hb1⟩
  have hb01 := bl_trans (bl_alloc (Below.refl w.heap.size w) _) hb1
  have hsz1 := hb01.size
  obtain ⟨A', c', rfl, g1, g2, g3⟩ := (ho.reads (B := w1.heap.size) ho.1.lt).open_
  rw [maskL_len] at g1 g3 ⊢
  have G3 := Lib.hid g3; clear g3 ho
  have hp := or_pow 0 a (by omega) (by omega)
  have e2 : wrap64 (2 ^ a) = ((2 ^ a : Nat) : Int) := by
    have h := pow_small (show a ≤ 11 by omega)
    have e : (2 : Int) ^ a = ((2 ^ a : Nat) : Int) := by push_cast; rfl
    rw [e]
    generalize (2 : Nat) ^ a = q at *
    exact IntWalk.wrap64_in _ (by omega)
  have E0 := Lib.hid (show ((2 ^ a : Nat) : Int) = (rset xss a 0 : Int) by rw [← rset_zero xss (by omega)])
  clear hp
  go_wp2_with fail
  rw [e2, show (2 : Int) ^ a = ((2 ^ a : Nat) : Int) by push_cast; rfl, E0.out]
  obtain ⟨w2, hw2⟩ : ∃ z, z = w1.alloc (.cells #[.int .i64 (rset xss a 0 : Int)] 3) := ⟨_, rfl⟩
  have hst : RdRel xss a m w1 (.slice (some ⟨w1.heap.size, 0, none⟩) 1 1) (.int .i64 0) w2 := ⟨0, Nat.zero_le _, rfl, by rw [hw2]; exact ownA3 (heap_alloc_new _ _) (Nat.le_refl _), by rw [hw2]; exact bl_alloc (Below.refl _ _) _⟩
  rw [← hw2]
  clear hw2 e2
  have HST := Lib.hid hst; clear hst
  go_loopw [8, 19] (fun v i wr => RdRel xss a m w1 v i wr) (fun _ i _ => m - (intOf i).toNat)
  case atStart => exact HST.out
  case round =>
    clear HST
    obtain ⟨k, hk, rfl, hown, hbl⟩ := hrel
    have HO := Lib.hid hown
    have hsz := hbl.size
    obtain ⟨Ao, co, rfl⟩ := own_sl hown
    have hb02 := hb01.trans (hbl.mono hsz1)
    by_cases hlt : k < m
    · have hr := own_intsR hown (rsetL_64 xss a (k + 1))
      obtain ⟨A2, c2, e2, q1, q2, q3⟩ := hr.open_
      rw [natsI_len, rsetL_len] at e2 q1 q3
      cases e2
      obtain ⟨ad, rfl, hbd, hc⟩ := q3 (by omega)
      have hcell := hc k _ (natsI_at (rsetL_at (Nat.lt_succ_self k)))
      clear hc q3 hr hown
      have hrl := rset_lt xss a k
      have HNX := Lib.hid (rset_next HG.out a k)
      have hB12 := Lib.hid (rset_bl HG.out (k := k) ha)
      have HSN := Lib.hid (rsetL_snoc xss a (k + 1))
      obtain ⟨R, hR⟩ : ∃ R, R = rset xss a k := ⟨_, rfl⟩
      rw [← hR] at hcell hrl HNX hB12
      clear hR
      go_wp2_with fail
      refine (impl_labelsIn R wr hrl).mono ?_
      rintro e w3 ⟨u, rfl, hl, hb3⟩
      have hr2 := own_intsR hl (bl_64 R)
      obtain ⟨A3, c3, rfl, r1, r2, r3⟩ := hr2.open_
      rw [natsI_len] at r1 r3 ⊢
      have R3 := Lib.hid r3
      clear r3 hr2 hl
      have hl12 : (bl R 12).length ≤ 12 := lsTo_len _ 12
      have HO3 := Lib.hid (own_keep4 HO.out hb3.size fun b _ hb => hb3.block b hb)
      have hbl3 := hbl.trans (hb3.mono hsz)
      clear HO
      obtain ⟨L, hL⟩ : ∃ L, L = bl R 12 := ⟨_, rfl⟩
      rw [← hL] at r1 R3 hB12 hl12 HNX ⊢
      clear hL
      have hsz3 := hbl3.size
      go_wp2_with fail
      go_loopw [10, 28] (fun s i wr => RnRel xss L w3 s i wr) (fun _ i _ => L.length - (intOf i).toNat)
      case atStart => exact ⟨rfl, 0, Nat.zero_le _, rfl, rfl⟩
      case round =>
        obtain ⟨rfl, j, hj, rfl, rfl⟩ := hrel
        by_cases hlj : j < L.length
        · obtain ⟨x, hx⟩ : ∃ x, L[j]? = some x := ⟨L[j], List.getElem?_eq_getElem hlj⟩
          obtain ⟨ad3, rfl, hbd3, hc3⟩ := R3.out (by omega)
          have hcx := hc3 j _ (natsI_at hx)
          have hxn := hB12.out x (List.mem_of_getElem? hx)
          have hq := nextN_lt HG.out.small (L.take j)
          have hmk := mask_lt HG.out.small x
          have HN := Lib.hid (show nextN xss (L.take (j + 1)) = nextN xss (L.take j) ||| mask xss x by
            obtain ⟨hk', rfl⟩ := List.getElem?_eq_some_iff.1 hx
            rw [List.take_succ_eq_append_getElem hk', nextN_snoc])
          obtain ⟨adm, rfl, hbm, hcm⟩ := G3.out (by omega)
          have hcellm : w3.cell? (adm.add x) = some (.int .i64 (mask xss x : Int)) := ((hbl3.cell (p := adm.add x) (by rw [block_add]; exact hbm))).trans (hcm x _ (maskL_at hxn))
          have hor := i64_or_nat (nextN xss (L.take j)) (mask xss x) (by omega) (by omega)
          clear hc3 hcm hx
          generalize nextN xss (L.take j) = q at *
          generalize mask xss x = q2 at *
          go_wp2_with fail
          go_roundw
          case rel => exact ⟨rfl, j + 1, by omega, by go_num, by rw [HN.out]⟩
          case measure => simp [intOf]; omega
        · have e1 : L.take j = L := List.take_of_length_le (by omega)
          rw [e1, HNX.out]
          clear e1
          go_wp2_with ((at_builtin; refine wpList_append1 w3 rfl (.tmp 39) (.tmp 41) 26 rfl w1.heap.size 3 _ 8 Try.underlying26 intInfo rfl _ _ _ rfl _ rfl rfl HO3.out (by unfold maxLen; omega) (by omega) hsz3 ?_; intro v' w' hown' hbl' hgr' hlt' hob'))
          go_roundw
          case rel => exact ⟨k + 1, by omega, by go_num, by rw [HSN.out, natsI_snoc, List.map_append]; exact hown', hbl3.trans hbl'⟩
          case measure => simp [intOf]; omega
    · obtain rfl : k = m := by omega
      clear hown
      go_wp2_with fail
      go_ret
      exact ⟨_, rfl, base_own HO.out hsz1, hb02⟩
end Go.Proofs.Ytldbljflppjanaa
