/-
  Walk problems, the program's side: the labels of a set, sets of labels, and the labels that walks of each length reach.
  Walk problems, the program's side: the labels that walks of any length reach, and distances.
-/
import Derived.Test.YtjhljipehnmbnaaGreatCwLib
import Derived.Test.YtjhljipehnmbnaaGreatPlainCw
import Derived.Test.YtjhljipehnmbnaaGreatAfter
namespace Go.Proofs.YtjhljipehnmbnaaGreat
section
open Go.RowKit
set_option linter.unusedVariables false
set_option linter.unusedSimpArgs false
theorem shr_eq (m k : Nat) : (m : Int) / 2 ^ k = ((m / 2 ^ k : Nat) : Int) := by push_cast; rfl
theorem shr_zero {m k : Nat} (h : m < 2 ^ k) : ((m : Int) / 2 ^ k != 0) = false := by rw [shr_eq, Nat.div_eq_of_lt h]; rfl
theorem shr_some {m k : Nat} (h : ¬ m < 2 ^ k) : ((m : Int) / 2 ^ k != 0) = true := by
  rw [shr_eq]
  have : 0 < m / 2 ^ k := Nat.div_pos (by omega) (Nat.two_pow_pos k)
  rw [bne_iff_ne]
  omega
/-- The labels of a set that are bits. -/
noncomputable def bl (m : Nat) (k : Nat) : List Nat := lsTo (fun b => m.testBit b = true) k
theorem bl_t {m k : Nat} (h : m.testBit k = true) : bl m (k + 1) = bl m k ++ [k] := lsTo_t h
theorem bl_f {m k : Nat} (h : ¬ m.testBit k = true) : bl m (k + 1) = bl m k := lsTo_f h
theorem bl_all {m k : Nat} (h : k ≤ 12) (hm : m < 2 ^ k) : bl m k = bl m 12 :=
  (lsTo_stop 12 h fun b h1 _ h3 => by rw [Nat.testBit_lt_two_pow (Nat.lt_of_lt_of_le hm (Nat.pow_le_pow_right (by omega) h1))] at h3; cases h3).symm
theorem bl_set (p : Nat → Prop) : bl (bitSet p) 12 = lsP p := lsP_set p
def LbRel (m : Nat) (w : World) (v i : Value) (wr : World) : Prop := ∃ k : Nat, k ≤ 12 ∧ i = .int .i64 k ∧ wr.ownsRow w.heap.size 3 1 v (bl m k).length ((natsI (bl m k)).map intV) ∧ Below w.heap.size w wr
def LbPost (m : Nat) (w : World) (e : Ending) (w' : World) : Prop := ∃ v, e = .returned v ∧ w'.ownsRow w.heap.size 3 1 v (bl m 12).length ((natsI (bl m 12)).map intV) ∧ Below w.heap.size w w'
theorem impl_labelsIn (m : Nat) (w : World) (hm : m < 4096) : Calls Tryz.prog 49 #[.int .i64 (m : Int)] w (LbPost m w) := by
  have hm' : (m : Int) < 4096 := by omega
  go_enter Tryz.func49, Tryz.ntmps49
  go_wp2_with fail
  go_loopw [3, 4] (fun v i wr => LbRel m w v i wr) (fun _ i _ => 13 - (intOf i).toNat)
  case atStart => exact ⟨0, Nat.zero_le _, rfl, World.ownsRow_nil _ _ _ _, Below.refl _ _⟩
  case round =>
    obtain ⟨k, hk, rfl, hown, hbl⟩ := hrel
    have hll : (bl m k).length ≤ k := lsTo_len _ k
    have HO := Lib.hid hown
    have hsz := hbl.size
    clear hown
    by_cases hz : m < 2 ^ k
    · have t0 := shr_zero hz
      have HL := Lib.hid (bl_all hk hz)
      clear hz
      go_wp2_with fail
      go_ret
      exact ⟨_, rfl, by rw [← HL.out]; exact HO.out, hbl⟩
    · have hk2 : k < 12 := by
        rcases Nat.lt_or_ge k 12 with h | h
        · exact h
        · have : 2 ^ 12 ≤ 2 ^ k := Nat.pow_le_pow_right (by omega) h
          omega
      have t0 := shr_some hz
      clear hz
      by_cases ht : m.testBit k = true
      · have hbit := bit_t hm (by omega) ht
        have HE := Lib.hid (bl_t ht)
        clear ht
        go_wp2_with ((at_builtin; refine wpList_append1 wr rfl (.tmp 16) (.tmp 18) 28 rfl w.heap.size 3 _ 8 Tryz.underlying28 intInfo rfl _ _ _ rfl _ rfl rfl HO.out (by unfold maxLen; omega) (by omega) hsz ?_; intro v' w' hown' hbl' hgr' hlt' hob'))
        go_roundw
        case rel => exact ⟨k + 1, by omega, by go_num, by rw [HE.out, List.length_append, natsI_snoc, List.map_append]; exact hown', hbl.trans hbl'⟩
        case measure => simp [intOf]; omega
      · have hbit := bit_f hm (by omega) ht
        have HE := Lib.hid (bl_f ht)
        clear ht
        go_wp2_with fail
        go_roundw
        case rel => exact ⟨k + 1, by omega, by go_num, by rw [HE.out]; exact HO.out, hbl⟩
        case measure => simp [intOf]; omega
/-- The set of a list's labels. -/
def setN (l : List Nat) : Nat := l.foldl (fun m b => m ||| 2 ^ b) 0
theorem setN_snoc (l : List Nat) (x : Nat) : setN (l ++ [x]) = setN l ||| 2 ^ x := by simp [setN]
theorem setN_lt {l : List Nat} (h : ∀ x ∈ l, x ≤ 11) : setN l < 4096 := by
  refine Nat.lt_pow_two_of_testBit (n := 12) _ fun i hi => ?_
  rw [Bool.eq_false_iff]
  intro k
  rcases (foldl_bit i l 0).1 k with k | k
  · simp at k
  · have := h i k
    omega
def SetRel (l : List Nat) (w : World) (s i : Value) (wr : World) : Prop := w = wr ∧ ∃ k : Nat, k ≤ l.length ∧ i = .int .i64 k ∧ s = .int .i64 (setN (l.take k) : Int)
theorem impl_setOf (v : Value) (l : List Nat) (w : World) (h : IntsR w w.heap.size v (natsI l)) (hl : ∀ x ∈ l, x ≤ 11) : Calls Tryz.prog 51 #[v] w fun e w' => e = .returned (.int .i64 (setN l : Int)) ∧ w = w' := by
  obtain ⟨A, c, rfl, h1, h2, h3⟩ := h.open_
  unfold maxLen at h2
  rw [natsI_len] at h1 h3 ⊢
  clear h
  have H3 := Lib.hid h3; clear h3
  have HL := Lib.hid hl; clear hl
  go_enter Tryz.func51, Tryz.ntmps51
  go_wp2_with fail
  go_loopw [3, 8] (fun s i wr => SetRel l w s i wr) (fun _ i _ => l.length - (intOf i).toNat)
  case atStart => exact ⟨rfl, 0, Nat.zero_le _, rfl, rfl⟩
  case round =>
    obtain ⟨rfl, k, hk, rfl, rfl⟩ := hrel
    by_cases hlt : k < l.length
    · obtain ⟨x, hx⟩ : ∃ x, l[k]? = some x := ⟨l[k], List.getElem?_eq_getElem hlt⟩
      obtain ⟨ad, rfl, hb, hc⟩ := H3.out (by omega)
      have hcell := hc k _ (natsI_at hx)
      have hx11 := HL.out x (List.mem_of_getElem? hx)
      have hq := setN_lt (l := l.take k) fun y hy => HL.out y (List.mem_of_mem_take hy)
      have HN := Lib.hid (show setN (l.take (k + 1)) = setN (l.take k) ||| 2 ^ x by
        obtain ⟨hk', rfl⟩ := List.getElem?_eq_some_iff.1 hx
        rw [List.take_succ_eq_append_getElem hk', setN_snoc])
      clear hc hx
      generalize setN (l.take k) = q at *
      go_wp2_with fail
      go_roundw
      case rel => exact ⟨rfl, k + 1, by omega, by go_num, by rw [HN.out, or_pow q x hq hx11]⟩
      case measure => simp [intOf]; omega
    · have e1 : l.take k = l := List.take_of_length_le (by omega)
      rw [e1]
      go_wp2_with fail
      go_ret
      exact ⟨rfl, rfl⟩
/-! ### The labels that walks reach -/
/-- The labels at the end of walks of k arcs from a. -/
noncomputable def rset (xss : List (List Int)) (a k : Nat) : Nat := bitSet (wk (hasArc xss) k a)
theorem rset_lt (xss : List (List Int)) (a k : Nat) : rset xss a k < 4096 := bitSet_lt _
noncomputable def rsetL (xss : List (List Int)) (a m : Nat) : List Nat := (List.range m).map (rset xss a)
theorem rsetL_len (xss : List (List Int)) (a m : Nat) : (rsetL xss a m).length = m := by simp [rsetL]
theorem rsetL_snoc (xss : List (List Int)) (a m : Nat) : rsetL xss a (m + 1) = rsetL xss a m ++ [rset xss a m] := by simp [rsetL, List.range_succ]
theorem rsetL_at {xss : List (List Int)} {a m k : Nat} (h : k < m) : (rsetL xss a m)[k]? = some (rset xss a k) := by simp [rsetL, h]
theorem rset_zero {a : Nat} (xss : List (List Int)) (h : a ≤ 11) : 2 ^ a = rset xss a 0 := by
  refine bitSet_eq fun b => ?_
  rw [Nat.testBit_two_pow, decide_eq_true_eq]
  show a = b ↔ b < 12 ∧ a = b
  constructor
  · intro h; exact ⟨by omega, h⟩
  · exact fun h => h.2
def nextN (xss : List (List Int)) (l : List Nat) : Nat := l.foldl (fun m c => m ||| mask xss c) 0
theorem nextN_lt {xss : List (List Int)} (hs : SmallArcs xss) (l : List Nat) : nextN xss l < 4096 := by
  refine Nat.lt_pow_two_of_testBit (n := 12) _ fun i hi => ?_
  rw [Bool.eq_false_iff]
  intro k
  rcases (next_bit hs l 0).1 k with k | ⟨c, _, k⟩
  · simp at k
  · have := (mask_bit hs c i).2 k
    rw [Nat.testBit_lt_two_pow (Nat.lt_of_lt_of_le (mask_lt hs c) (Nat.pow_le_pow_right (n := 2) (i := 12) (by omega) hi))] at this
    cases this
theorem nextN_snoc (xss : List (List Int)) (l : List Nat) (x : Nat) : nextN xss (l ++ [x]) = nextN xss l ||| mask xss x := by simp [nextN]
theorem rset_next {n : Nat} {xss : List (List Int)} (hg : Good n xss) (a k : Nat) : nextN xss (bl (rset xss a k) 12) = rset xss a (k + 1) := by
  unfold rset
  rw [bl_set]
  refine bitSet_eq fun b => ?_
  unfold nextN
  rw [next_bit hg.small]
  have hn := good_n hg
  constructor
  · rintro (h | ⟨c, h1, h2⟩)
    · simp at h
    · have := (arc_lt hg h2).2
      exact ⟨by omega, c, (mem_lsP.1 h1).2, h2⟩
  · rintro ⟨_, c, h1, h2⟩
    have := (arc_lt hg h2).1
    exact .inr ⟨c, mem_lsP.2 ⟨by omega, h1⟩, h2⟩
theorem wk_lt {n : Nat} {xss : List (List Int)} (hg : Good n xss) {a b k : Nat} (ha : a < n) (h : wk (hasArc xss) k a b) : b < n := by
  match k, h with
  | 0, h => cases (show a = b from h); exact ha
  | k + 1, ⟨c, _, h⟩ => exact (arc_lt hg h).2
theorem rset_bl {n : Nat} {xss : List (List Int)} (hg : Good n xss) {a k : Nat} (ha : a < n) : ∀ x ∈ bl (rset xss a k) 12, x < n := fun x hx => by
  unfold rset at hx
  rw [bl_set] at hx
  exact wk_lt hg ha (mem_lsP.1 hx).2
def RdRel (xss : List (List Int)) (a m : Nat) (w1 : World) (v i : Value) (wr : World) : Prop :=
  ∃ k : Nat, k ≤ m ∧ i = .int .i64 k ∧ wr.ownsRow w1.heap.size 3 1 v (k + 1) ((natsI (rsetL xss a (k + 1))).map intV) ∧ Below w1.heap.size w1 wr
def RnRel (xss : List (List Int)) (l : List Nat) (w1 : World) (s i : Value) (wr : World) : Prop :=
  w1 = wr ∧ ∃ k : Nat, k ≤ l.length ∧ i = .int .i64 k ∧ s = .int .i64 (nextN xss (l.take k) : Int)
def RdPost (xss : List (List Int)) (a m : Nat) (w : World) (e : Ending) (w' : World) : Prop :=
  ∃ v, e = .returned v ∧ w'.ownsRow w.heap.size 3 1 v (m + 1) ((natsI (rsetL xss a (m + 1))).map intV) ∧ Below w.heap.size w w'
theorem natsI_64 {l : List Nat} (h : ∀ x ∈ l, x < 4096) : ∀ x ∈ natsI l, I64 x := by
  intro x hx
  obtain ⟨y, hy, rfl⟩ := List.mem_map.1 hx
  have := h y hy
  unfold I64
  omega
theorem rsetL_64 (xss : List (List Int)) (a m : Nat) : ∀ x ∈ natsI (rsetL xss a m), I64 x := natsI_64 fun x hx => by
  obtain ⟨k, _, rfl⟩ := List.mem_map.1 hx
  exact rset_lt _ _ _
theorem bl_12 (m : Nat) : ∀ x ∈ bl m 12, x ≤ 11 := fun x hx => by
  have := (mem_lsTo.1 hx).1
  omega
theorem bl_64 (m : Nat) : ∀ x ∈ natsI (bl m 12), I64 x := natsI_64 fun x hx => by
  have := bl_12 m x hx
  omega
theorem base_own {w : World} {base B n : Nat} {e : TypeId} {v : Value} {vs : List Value} (h : w.ownsRow base e 1 v n vs) (hB : B ≤ base) : w.ownsRow B e 1 v n vs := by
  refine ⟨h.1, ?_⟩
  rcases h.2 with h2 | ⟨g, cap, cur, h1, h2, h3⟩
  · exact .inl h2
  · exact .inr ⟨g, cap, cur, h1, by omega, h3⟩
set_option maxHeartbeats 1000000 in
theorem impl_reached (n : Nat) (v : Value) (xss : List (List Int)) (a m : Nat) (w : World) (h : RowsR w w.heap.size v xss) (hg : Good n xss) (ha : a < n) (hm : m ≤ 1000) (hv : ∃ A m c, v = .slice A m c) :
    Calls Tryz.prog 48 #[.agg #[.int .i64 (n : Int), v], .int .i64 (a : Int), .int .i64 (m : Int)] w (RdPost xss a m w) := by
  have hn := good_n hg
  have HH := Lib.hid h; clear h
  have HG := Lib.hid hg; clear hg
  go_enter Tryz.func48, Tryz.ntmps48
  go_wp2_with fail
  refine (impl_after n v xss _ ((HH.out.below (bl_alloc (Below.refl _ _) _)).more (by simp)) HG.out).mono ?_
  rintro e w1 ⟨v', rfl, ho, hb1⟩
  have hb01 := bl_trans (bl_alloc (Below.refl w.heap.size w) _) hb1
  have hsz1 := hb01.size
  obtain ⟨A', c', rfl, g1, g2, g3⟩ := (ho.reads (B := w1.heap.size) ho.1.lt).open_
  rw [maskL_len] at g1 g3 ⊢
  have G3 := Lib.hid g3; clear g3 ho
  have hp := or_pow 0 a (by omega) (by omega)
  have e2 : wrap64 (2 ^ a) = ((2 ^ a : Nat) : Int) := by
    have h := pow_small (show a ≤ 11 by omega)
    have e : (2 : Int) ^ a = ((2 ^ a : Nat) : Int) := by push_cast; rfl
    rw [e]
    generalize (2 : Nat) ^ a = q at *
    exact IntWalk.wrap64_in _ (by omega)
  have E0 := Lib.hid (show ((2 ^ a : Nat) : Int) = (rset xss a 0 : Int) by rw [← rset_zero xss (by omega)])
  clear hp
  go_wp2_with fail
  rw [e2, show (2 : Int) ^ a = ((2 ^ a : Nat) : Int) by push_cast; rfl, E0.out]
  obtain ⟨w2, hw2⟩ : ∃ z, z = w1.alloc (.cells #[.int .i64 (rset xss a 0 : Int)] 3) := ⟨_, rfl⟩
  have hst : RdRel xss a m w1 (.slice (some ⟨w1.heap.size, 0, none⟩) 1 1) (.int .i64 0) w2 := ⟨0, Nat.zero_le _, rfl, by rw [hw2]; exact ownA3 (heap_alloc_new _ _) (Nat.le_refl _), by rw [hw2]; exact bl_alloc (Below.refl _ _) _⟩
  rw [← hw2]
  clear hw2 e2
  have HST := Lib.hid hst; clear hst
  go_loopw [8, 19] (fun v i wr => RdRel xss a m w1 v i wr) (fun _ i _ => m - (intOf i).toNat)
  case atStart => exact HST.out
  case round =>
    clear HST
    obtain ⟨k, hk, rfl, hown, hbl⟩ := hrel
    have HO := Lib.hid hown
    have hsz := hbl.size
    obtain ⟨Ao, co, rfl⟩ := own_sl hown
    have hb02 := hb01.trans (hbl.mono hsz1)
    by_cases hlt : k < m
    · have hr := own_intsR hown (rsetL_64 xss a (k + 1))
      obtain ⟨A2, c2, e2, q1, q2, q3⟩ := hr.open_
      rw [natsI_len, rsetL_len] at e2 q1 q3
      cases e2
      obtain ⟨ad, rfl, hbd, hc⟩ := q3 (by omega)
      have hcell := hc k _ (natsI_at (rsetL_at (Nat.lt_succ_self k)))
      clear hc q3 hr hown
      have hrl := rset_lt xss a k
      have HNX := Lib.hid (rset_next HG.out a k)
      have hB12 := Lib.hid (rset_bl HG.out (k := k) ha)
      have HSN := Lib.hid (rsetL_snoc xss a (k + 1))
      obtain ⟨R, hR⟩ : ∃ R, R = rset xss a k := ⟨_, rfl⟩
      rw [← hR] at hcell hrl HNX hB12
      clear hR
      go_wp2_with fail
      refine (impl_labelsIn R wr hrl).mono ?_
      rintro e w3 ⟨u, rfl, hl, hb3⟩
      have hr2 := own_intsR hl (bl_64 R)
      obtain ⟨A3, c3, rfl, r1, r2, r3⟩ := hr2.open_
      rw [natsI_len] at r1 r3 ⊢
      have R3 := Lib.hid r3
      clear r3 hr2 hl
      have hl12 : (bl R 12).length ≤ 12 := lsTo_len _ 12
      have HO3 := Lib.hid (own_keep4 HO.out hb3.size fun b _ hb => hb3.block b hb)
      have hbl3 := hbl.trans (hb3.mono hsz)
      clear HO
      obtain ⟨L, hL⟩ : ∃ L, L = bl R 12 := ⟨_, rfl⟩
      rw [← hL] at r1 R3 hB12 hl12 HNX ⊢
      clear hL
      have hsz3 := hbl3.size
      go_wp2_with fail
      go_loopw [10, 28] (fun s i wr => RnRel xss L w3 s i wr) (fun _ i _ => L.length - (intOf i).toNat)
      case atStart => exact ⟨rfl, 0, Nat.zero_le _, rfl, rfl⟩
      case round =>
        obtain ⟨rfl, j, hj, rfl, rfl⟩ := hrel
        by_cases hlj : j < L.length
        · obtain ⟨x, hx⟩ : ∃ x, L[j]? = some x := ⟨L[j], List.getElem?_eq_getElem hlj⟩
          obtain ⟨ad3, rfl, hbd3, hc3⟩ := R3.out (by omega)
          have hcx := hc3 j _ (natsI_at hx)
          have hxn := hB12.out x (List.mem_of_getElem? hx)
          have hq := nextN_lt HG.out.small (L.take j)
          have hmk := mask_lt HG.out.small x
          have HN := Lib.hid (show nextN xss (L.take (j + 1)) = nextN xss (L.take j) ||| mask xss x by
            obtain ⟨hk', rfl⟩ := List.getElem?_eq_some_iff.1 hx
            rw [List.take_succ_eq_append_getElem hk', nextN_snoc])
          obtain ⟨adm, rfl, hbm, hcm⟩ := G3.out (by omega)
          have hcellm : w3.cell? (adm.add x) = some (.int .i64 (mask xss x : Int)) := ((hbl3.cell (p := adm.add x) (by rw [block_add]; exact hbm))).trans (hcm x _ (maskL_at hxn))
          have hor := i64_or_nat (nextN xss (L.take j)) (mask xss x) (by omega) (by omega)
          clear hc3 hcm hx
          generalize nextN xss (L.take j) = q at *
          generalize mask xss x = q2 at *
          go_wp2_with fail
          go_roundw
          case rel => exact ⟨rfl, j + 1, by omega, by go_num, by rw [HN.out]⟩
          case measure => simp [intOf]; omega
        · have e1 : L.take j = L := List.take_of_length_le (by omega)
          rw [e1, HNX.out]
          clear e1
          go_wp2_with ((at_builtin; refine wpList_append1 w3 rfl (.tmp 39) (.tmp 41) 28 rfl w1.heap.size 3 _ 8 Tryz.underlying28 intInfo rfl _ _ _ rfl _ rfl rfl HO3.out (by unfold maxLen; omega) (by omega) hsz3 ?_; intro v' w' hown' hbl' hgr' hlt' hob'))
          go_roundw
          case rel => exact ⟨k + 1, by omega, by go_num, by rw [HSN.out, natsI_snoc, List.map_append]; exact hown', hbl3.trans hbl'⟩
          case measure => simp [intOf]; omega
    · obtain rfl : k = m := by omega
      clear hown
      go_wp2_with fail
      go_ret
      exact ⟨_, rfl, base_own HO.out hsz1, hb02⟩
end
section
open Go.RowKit
set_option linter.unusedVariables false
set_option linter.unusedSimpArgs false
theorem addr0 (g j : Nat) : (⟨g, 0, none⟩ : Addr).add j = ⟨g, j, none⟩ := by unfold Addr.add; split <;> simp_all
/-- A row of n numbers: f up to a, then z. -/
def FillTo (n a : Nat) (f : Nat → Int) (z : Int) (d : List Int) : Prop := d.length = n ∧ (∀ x, x < a → x < n → d[x]? = some (f x)) ∧ ∀ x, a ≤ x → x < n → d[x]? = some z
theorem FillTo.start (n : Nat) (f : Nat → Int) (z : Int) : FillTo n 0 f z (List.replicate n z) := ⟨by simp, fun _ h => absurd h (by omega), fun x _ h => by simp [h]⟩
theorem FillTo.next {n a : Nat} {f : Nat → Int} {z : Int} {d : List Int} (h : FillTo n a f z d) (ha : a < n) : FillTo n (a + 1) f z (d.set a (f a)) := by
  refine ⟨by rw [List.length_set]; exact h.1, fun x h1 h2 => ?_, fun x h1 h2 => ?_⟩
  · rw [List.getElem?_set]
    split
    · rename_i e; subst e; rw [if_pos (by rw [h.1]; exact ha)]
    · exact h.2.1 x (by omega) h2
  · rw [List.getElem?_set, if_neg (by omega)]
    exact h.2.2 x (by omega) h2
theorem FillTo.all {n a : Nat} {f : Nat → Int} {z : Int} {d : List Int} (h : FillTo n a f z d) (ha : n ≤ a) : d = (List.range n).map f := by
  apply List.ext_getElem?
  intro x
  by_cases hx : x < n
  · rw [h.2.1 x (by omega) hx]; simp [hx]
  · rw [List.getElem?_eq_none (by rw [h.1]; omega), List.getElem?_eq_none (by simp; omega)]
theorem FillTo.at_ {n a : Nat} {f : Nat → Int} {z y : Int} {d : List Int} (h : FillTo n a f z d) (ha : a < n) : (d.set a y)[a]? = some y := by
  rw [List.getElem?_set, if_pos rfl, if_pos (by rw [h.1]; exact ha)]
/-- The labels that walks from a lead to. -/
noncomputable def closN (n : Nat) (xss : List (List Int)) (a : Nat) : Nat := bitSet fun b => ∃ k, k ≤ n ∧ wk (hasArc xss) k a b
noncomputable def closL (n : Nat) (xss : List (List Int)) : List Int := (List.range n).map fun a => (closN n xss a : Int)
theorem closN_lt (n : Nat) (xss : List (List Int)) (a : Nat) : closN n xss a < 4096 := bitSet_lt _
theorem closL_len (n : Nat) (xss : List (List Int)) : (closL n xss).length = n := by simp [closL]
theorem closL_at {n : Nat} {xss : List (List Int)} {a : Nat} (h : a < n) : (closL n xss)[a]? = some (closN n xss a : Int) := by simp [closL, h]
theorem closL_64 (n : Nat) (xss : List (List Int)) : ∀ x ∈ closL n xss, I64 x := fun x hx => by
  obtain ⟨a, _, rfl⟩ := List.mem_map.1 hx
  have := closN_lt n xss a
  unfold I64
  omega
def orN (l : List Nat) : Nat := l.foldl (fun m x => m ||| x) 0
theorem orN_snoc (l : List Nat) (x : Nat) : orN (l ++ [x]) = orN l ||| x := by simp [orN]
theorem or_bit (b : Nat) : ∀ (l : List Nat) (m : Nat), (l.foldl (fun m x => m ||| x) m).testBit b = true ↔ m.testBit b = true ∨ ∃ x ∈ l, x.testBit b = true
  | [], m => by simp
  | x :: l, m => by
    rw [List.foldl_cons, or_bit b l, Nat.testBit_or, Bool.or_eq_true, or_assoc]
    constructor
    · rintro (h | h | ⟨c, h1, h2⟩)
      · exact .inl h
      · exact .inr ⟨x, by simp, h⟩
      · exact .inr ⟨c, by simp [h1], h2⟩
    · rintro (h | ⟨c, h1, h2⟩)
      · exact .inl h
      · rcases List.mem_cons.1 h1 with rfl | h1
        · exact .inr (.inl h2)
        · exact .inr (.inr ⟨c, h1, h2⟩)
theorem orN_lt {l : List Nat} (h : ∀ x ∈ l, x < 4096) : orN l < 4096 := by
  refine Nat.lt_pow_two_of_testBit (n := 12) _ fun i hi => ?_
  rw [Bool.eq_false_iff]
  intro k
  rcases (or_bit i l 0).1 k with k | ⟨c, h1, k⟩
  · simp at k
  · rw [Nat.testBit_lt_two_pow (Nat.lt_of_lt_of_le (h c h1) (Nat.pow_le_pow_right (n := 2) (i := 12) (by omega) hi))] at k
    cases k
theorem orN_clos (n : Nat) (xss : List (List Int)) (a : Nat) : orN (rsetL xss a (n + 1)) = closN n xss a := by
  refine bitSet_eq fun b => ?_
  unfold orN
  rw [or_bit]
  constructor
  · rintro (h | ⟨x, h1, h2⟩)
    · simp at h
    · obtain ⟨k, hk, rfl⟩ := List.mem_map.1 h1
      have h3 := bitSet_bit.1 h2
      exact ⟨h3.1, k, by have := List.mem_range.1 hk; omega, h3.2⟩
  · rintro ⟨h, k, h1, h2⟩
    exact .inr ⟨rset xss a k, List.mem_map.2 ⟨k, List.mem_range.2 (by omega), rfl⟩, bitSet_bit.2 ⟨h, h2⟩⟩
def ClRel (n : Nat) (xss : List (List Int)) (w : World) (g : Nat) (i : Value) (wr : World) : Prop :=
  ∃ (a : Nat) (d : List Int), a ≤ n ∧ i = .int .i64 a ∧ FillTo n a (fun x => (closN n xss x : Int)) 0 d ∧ NumsAt wr g d ∧ Below g w wr
def CiRel (n : Nat) (d : List Int) (a : Nat) (l : List Nat) (w : World) (g : Nat) (i : Value) (wr : World) : Prop :=
  ∃ j : Nat, j ≤ l.length ∧ i = .int .i64 j ∧ NumsAt wr g (d.set a (orN (l.take j))) ∧ Below g w wr ∧ ∀ b, b ≠ g → wr.heap[b]? = w.heap[b]?
def ClPost (n : Nat) (xss : List (List Int)) (w : World) (e : Ending) (w' : World) : Prop :=
  ∃ g, e = .returned (.slice (some ⟨g, 0, none⟩) n n) ∧ w.heap.size ≤ g ∧ NumsAt w' g (closL n xss) ∧ Below w.heap.size w w'
set_option maxHeartbeats 1000000 in
theorem impl_closure (n : Nat) (v : Value) (xss : List (List Int)) (w : World) (h : RowsR w w.heap.size v xss) (hg : Good n xss) (hv : ∃ A m c, v = .slice A m c) :
    Calls Tryz.prog 50 #[.agg #[.int .i64 (n : Int), v]] w (ClPost n xss w) := by
  have hn := good_n hg
  have HH := Lib.hid h; clear h
  have HG := Lib.hid hg; clear hg
  have hmk := fun W => run_make1 (P := Tryz.prog) 28 3 (.int .i64 0) 8 Tryz.underlying28 intInfo rfl n (by omega) (by omega) W
  obtain ⟨w0, hw0⟩ : ∃ z, z = w.alloc (.cells #[.int .i64 (n : Int), v] 26) := ⟨_, rfl⟩
  have hb0 : Below w.heap.size w w0 := by rw [hw0]; exact bl_alloc (Below.refl _ _) _
  have hz0 : w0.heap.size = w.heap.size + 1 := by rw [hw0]; simp
  have HB0 := Lib.hid (show w0.heap[w.heap.size]? = some (.cells #[.int .i64 (n : Int), v] 26 (0, 0)) by rw [hw0]; exact heap_alloc_new _ _)
  have HW0 := Lib.hid hw0
  clear hw0
  go_enter Tryz.func50, Tryz.ntmps50
  go_wp2_with fail
  clear hmk
  rw [← HW0.out]
  obtain ⟨w1, hw1⟩ : ∃ z, z = w0.alloc (.cells (rowOf [] n (.int .i64 0)) 3) := ⟨_, rfl⟩
  have hb1 : Below (w.heap.size + 1) w0 w1 := by rw [hw1, ← hz0]; exact bl_alloc (Below.refl _ _) _
  have hN0 : NumsAt w1 (w.heap.size + 1) (List.replicate n 0) := by
    unfold NumsAt
    rw [hw1, ← hz0, heap_alloc_new]
    simp [rowOf, intV]
  rw [← hw1]
  clear hw1
  have hst : ClRel n xss w1 (w.heap.size + 1) (.int .i64 0) w1 := ⟨0, _, Nat.zero_le _, rfl, FillTo.start _ _ _, hN0, Below.refl _ _⟩
  have HST := Lib.hid hst
  have HB1 := bk HB0 hb1 (by omega)
  have hb01 := hb0.trans (hb1.mono (by omega))
  clear hst hN0 HB0 hb1 hb0 hz0
  go_loopw [12] (fun i wr => ClRel n xss w1 (w.heap.size + 1) i wr) (fun i _ => n - (intOf i).toNat)
  case atStart => exact HST.out
  case round =>
    clear HST
    obtain ⟨a, d, ha, rfl, hfill, hnum, hbl⟩ := hrel
    have HF := Lib.hid hfill
    have HN := Lib.hid hnum
    have hgl := hnum.lt
    have hb02 := hb01.trans (hbl.mono (by omega))
    have HBr := bk HB1 hbl (by omega)
    clear hfill hnum
    by_cases hlt : a < n
    · obtain ⟨b0, b1, bf⟩ := cells2 HBr
      go_wp2_with fail
      refine (impl_reached n v xss a n wr ((HH.out.below hb02).more hb02.size) HG.out hlt (by omega) hv).mono ?_
      rintro e w3 ⟨u, rfl, hown, hb3⟩
      clear b0 b1 bf
      have hr := own_intsR hown (rsetL_64 xss a (n + 1))
      obtain ⟨g3, cap3, cur3, rfl, hg3, -⟩ := own_one hown
      obtain ⟨A2, c2, e2, q1, q2, q3⟩ := hr.open_
      rw [natsI_len, rsetL_len] at e2 q1 q3
      cases e2
      obtain ⟨ad, ead, hbd, hc⟩ := q3 (by omega)
      cases ead
      have Q3 := Lib.hid hc
      clear q3 hr hown hc
      have HN3 := Lib.hid (HN.out.keep (hb3.block _ hgl))
      have hbl3 := hbl.trans (hb3.mono (by omega))
      have hsz3 := hb3.size
      have HOC := Lib.hid (orN_clos n xss a)
      clear HN
      go_wp2_with fail
      have hc0 : CiRel n d a (rsetL xss a (n + 1)) w3 (w.heap.size + 1) (.int .i64 0) w3 := ⟨0, Nat.zero_le _, rfl, by
        have e : d.set a ((orN ((rsetL xss a (n + 1)).take 0) : Nat) : Int) = d := by
          apply List.ext_getElem?
          intro x
          rw [List.getElem?_set]
          split
          · rename_i e; subst e
            rw [HF.out.2.2 a (Nat.le_refl _) hlt, if_pos (by rw [HF.out.1]; exact hlt)]
            rfl
          · rfl
        rw [e]; exact HN3.out, Below.refl _ _, fun _ _ => rfl⟩
      have HC0 := Lib.hid hc0
      clear hc0 HN3
      go_loopw [21] (fun i wr => CiRel n d a (rsetL xss a (n + 1)) w3 (w.heap.size + 1) i wr) (fun i _ => (n + 1) - (intOf i).toNat)
      case atStart => exact HC0.out
      case round =>
        clear HC0
        obtain ⟨j, hj, rfl, hnum, hbl4, hkb⟩ := hrel
        rw [rsetL_len] at hj
        have HN4 := Lib.hid hnum
        have HK := Lib.hid hkb
        clear hnum hkb
        have hbl5 := hbl3.trans hbl4
        by_cases hlj : j < n + 1
        · have hcell := (World.cell?_of_block (a := (⟨g3, 0, none⟩ : Addr).add j) (HK.out _ (by rw [block_add]; show g3 ≠ _; omega))).trans (Q3.out j _ (natsI_at (rsetL_at hlj)))
          rw [addr0] at hcell
          have hcn := HN4.out.cell (HF.out.at_ hlt)
          have hfz := HN4.out.frozen a
          have hrl := rset_lt xss a j
          have hol := orN_lt (l := (rsetL xss a (n + 1)).take j) fun x hx => by
            obtain ⟨k, _, rfl⟩ := List.mem_map.1 (List.mem_of_mem_take hx)
            exact rset_lt _ _ _
          have hor := i64_or_nat (orN ((rsetL xss a (n + 1)).take j)) (rset xss a j) (by omega) (by omega)
          have HS := Lib.hid (show orN ((rsetL xss a (n + 1)).take (j + 1)) = orN ((rsetL xss a (n + 1)).take j) ||| rset xss a j by
            obtain ⟨hk', e⟩ := List.getElem?_eq_some_iff.1 (rsetL_at (xss := xss) (a := a) hlj)
            rw [List.take_succ_eq_append_getElem hk', orN_snoc, e])
          generalize orN ((rsetL xss a (n + 1)).take j) = q at *
          generalize rset xss a j = q2 at *
          go_wp2_with fail
          go_roundw
          case rel =>
            refine ⟨j + 1, by rw [rsetL_len]; omega, by go_num, ?_, hbl4.setCell (by show w.heap.size + 1 ≤ w.heap.size + 1; omega) _, fun b hb => ?_⟩
            · have h := HN4.out.set a ((q ||| q2 : Nat) : Int)
              rw [List.set_set] at h
              rw [HS.out]
              exact h
            · rw [Below.heap_setCell _ _ _ _ (by simpa using hb)]
              exact HK.out b hb
          case measure => simp [intOf]; omega
        · have e1 : (rsetL xss a (n + 1)).take j = rsetL xss a (n + 1) := List.take_of_length_le (by rw [rsetL_len]; omega)
          rw [e1, HOC.out] at HN4
          clear e1
          go_wp2_with fail
          go_roundw
          case rel => exact ⟨a + 1, _, by omega, by go_num, HF.out.next hlt, HN4.out, hbl5⟩
          case measure => simp [intOf]; omega
    · obtain rfl : a = n := by omega
      have HNF := Lib.hid (show NumsAt wr (w.heap.size + 1) (closL a xss) by
        have h := HN.out
        rw [HF.out.all (Nat.le_refl _)] at h
        exact h)
      go_wp2_with fail
      go_ret
      exact ⟨_, rfl, by omega, HNF.out, hb02⟩
end
end Go.Proofs.YtjhljipehnmbnaaGreat
