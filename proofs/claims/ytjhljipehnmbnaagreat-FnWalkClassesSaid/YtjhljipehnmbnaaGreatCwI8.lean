/-
  Walk problems, the program's side: the first walk of a length between two labels.
-/
import Derived.Test.YtjhljipehnmbnaaGreatCwIY
import Derived.Test.YtjhljipehnmbnaaGreatPlainLex
namespace Go.Proofs.YtjhljipehnmbnaaGreat
open Go.RowKit
set_option linter.unusedVariables false
set_option linter.unusedSimpArgs false
def BfR (n : Nat) (xss : List (List Int)) (w : World) (g : Nat) (i : Value) (wr : World) : Prop :=
  ∃ k : Nat, k ≤ xss.length ∧ i = .int .i64 k ∧ NumsAt wr g (maskL n (revA (xss.take k))) ∧ Below g w wr
def LfRel (xss : List (List Int)) (b m : Nat) (w1 : World) (v i : Value) (wr : World) : Prop :=
  ∃ k : Nat, k ≤ m ∧ i = .int .i64 k ∧ wr.ownsRow w1.heap.size 3 1 v (k + 1) ((natsI (rsetL (revA xss) b (k + 1))).map intV) ∧ Below w1.heap.size w1 wr
def WoRel (xss : List (List Int)) (a b m : Nat) (w3 : World) (v kv : Value) (wr : World) : Prop :=
  ∃ (j : Nat) (z : Int), j ≤ m ∧ z = (m : Int) - 1 - j ∧ kv = .int .i64 z ∧ wr.ownsRow w3.heap.size 3 1 v (j + 1) ((natsI ((lexW xss b m a).take (j + 1))).map intV) ∧ Below w3.heap.size w3 wr
def WbPost (xss : List (List Int)) (a b m : Nat) (w : World) (e : Ending) (w' : World) : Prop :=
  ∃ v, e = .returned v ∧ w'.ownsRow w.heap.size 3 1 v (wbL xss a b m).length ((natsI (wbL xss a b m)).map intV) ∧ (¬ wk (hasArc xss) m a b → v = .slice none 0 0) ∧ Below w.heap.size w w'
set_option maxRecDepth 100000 in
set_option maxHeartbeats 2000000 in
theorem impl_walkBetween (n : Nat) (v : Value) (xss : List (List Int)) (a b m : Nat) (w : World) (h : RowsR w w.heap.size v xss) (hg : Good n xss) (ha : a < n) (hb : b < n) (hm : m ≤ 1000) :
    Calls Tryz.prog 24 #[.agg #[.int .i64 (n : Int), v], .int .i64 (a : Int), .int .i64 (b : Int), .int .i64 (m : Int)] w (WbPost xss a b m w) := by
  have hn := good_n hg
  have HH := Lib.hid h
  obtain ⟨Av, cv, rfl, h1, h2, h3⟩ := h.open_
  unfold maxLen at h2
  have H3 := Lib.hid h3
  have HS := Lib.hid hg.small
  have HG := Lib.hid hg
  clear h h3 hg
  have hmk := fun W => run_make1 (P := Tryz.prog) 28 3 (.int .i64 0) 8 Tryz.underlying28 intInfo rfl n (by omega) (by omega) W
  obtain ⟨w0, hw0⟩ : ∃ z, z = w.alloc (.cells #[.int .i64 (n : Int), .slice Av xss.length cv] 26) := ⟨_, rfl⟩
  have hb0 : Below w.heap.size w w0 := by rw [hw0]; exact bl_alloc (Below.refl _ _) _
  have hz0 : w0.heap.size = w.heap.size + 1 := by rw [hw0]; simp
  have HB0 := Lib.hid (show w0.heap[w.heap.size]? = some (.cells #[.int .i64 (n : Int), .slice Av xss.length cv] 26 (0, 0)) by rw [hw0]; exact heap_alloc_new _ _)
  have HW0 := Lib.hid hw0
  clear hw0
  go_enter Tryz.func24, Tryz.ntmps24
  go_wp2_with fail
  clear hmk
  rw [← HW0.out]
  obtain ⟨w1, hw1⟩ : ∃ z, z = w0.alloc (.cells (rowOf [] n (.int .i64 0)) 3) := ⟨_, rfl⟩
  have hb1 : Below (w.heap.size + 1) w0 w1 := by rw [hw1, ← hz0]; exact bl_alloc (Below.refl _ _) _
  have hN0 : NumsAt w1 (w.heap.size + 1) (maskL n (revA (xss.take 0))) := by
    unfold NumsAt
    rw [hw1, ← hz0, heap_alloc_new, List.take_zero, show revA [] = [] from rfl, maskL_nil]
    simp [rowOf, intV]
  have HN0 := Lib.hid hN0
  rw [← hw1]
  clear hw1 hN0
  have HB1 := bk HB0 hb1 (by omega)
  have hb01 := hb0.trans (hb1.mono (by omega))
  have hst : BfR n xss w1 (w.heap.size + 1) (.int .i64 0) w1 := ⟨0, Nat.zero_le _, rfl, HN0.out, Below.refl _ _⟩
  have HST := Lib.hid hst
  clear hst HN0 HB0 hb1 hb0 hz0
  go_loopw [26] (fun i wr => BfR n xss w1 (w.heap.size + 1) i wr) (fun i _ => xss.length - (intOf i).toNat)
  case atStart => exact HST.out
  case round =>
    clear HST
    obtain ⟨k, hk, rfl, hnum, hbl⟩ := hrel
    have HN := Lib.hid hnum
    have hgl := hnum.lt
    have hb0r := hb01.trans (hbl.mono (by omega))
    clear hnum
    by_cases hlt : k < xss.length
    · obtain ⟨xs, hx⟩ : ∃ x, xss[k]? = some x := ⟨xss[k], List.getElem?_eq_getElem hlt⟩
      obtain ⟨x, y, rfl, hx1, hy1⟩ := small_pair (HS.out xs (List.mem_of_getElem? hx))
      have hxy : x < n ∧ y < n := arc_lt HG.out (List.mem_of_getElem? hx)
      obtain ⟨hxn, hyn⟩ := hxy
      obtain ⟨ad, rfl, hbd, hc⟩ := H3.out (by omega)
      obtain ⟨q, hq, hrq⟩ := hc k _ hx
      have hcell : wr.cell? (ad.add k) = some q := (hb0r.cell (p := ad.add k) (by rw [block_add]; exact hbd)).trans hq
      obtain ⟨A1, c1, rfl, g1, g2, g3⟩ := (hrq.below hb0r).open_
      obtain ⟨ad1, rfl, hb1, hc1⟩ := g3 (by simp)
      have k0 := hc1 0 _ rfl
      have k1 := hc1 1 _ rfl
      have e0 : ad1.add 0 = ad1 := by unfold Addr.add; simp
      have e1 : ad1.add 1 = ⟨ad1.block, ad1.off + 1, none⟩ := by unfold Addr.add; simp
      rw [e0] at k0
      rw [e1] at k1
      have hcn := HN.out.cell (maskL_at (xss := revA (xss.take k)) hyn)
      have hfz := HN.out.frozen y
      have hml := mask_lt (revA_small (HS.out.take k)) y
      have HE := Lib.hid (show maskL n (revA (xss.take (k + 1))) = (maskL n (revA (xss.take k))).set y ((mask (revA (xss.take k)) y ||| 2 ^ x : Nat) : Int) by
        obtain ⟨hk', e⟩ := List.getElem?_eq_some_iff.1 hx
        rw [List.take_succ_eq_append_getElem hk', e, revA_snoc, maskL_snoc hyn])
      clear hc hrq hq g3 hc1 e0 e1 hx
      generalize mask (revA (xss.take k)) y = q at *
      go_wp2_with fail
      go_region
      all_goals
        go_wp2_with fail
        go_roundw
        case rel =>
          refine ⟨k + 1, by omega, by go_num, ?_, (hbl.setCell (Nat.le_refl _) _).drew⟩
          rw [HE.out]
          have h := HN.out.set y ((q ||| 2 ^ x : Nat) : Int)
          rw [or_pow q x hml hx1]
          exact h
        case measure => simp [intOf]; omega
    · have e1 : xss.take k = xss := List.take_of_length_le (by omega)
      rw [e1] at HN
      clear e1
      have e2 : wrap64 (2 ^ b) = ((2 ^ b : Nat) : Int) := by
        have h := pow_small (show b ≤ 11 by omega)
        have e : (2 : Int) ^ b = ((2 ^ b : Nat) : Int) := by push_cast; rfl
        rw [e]
        generalize (2 : Nat) ^ b = q at *
        exact IntWalk.wrap64_in _ (by omega)
      have E0 := Lib.hid (show ((2 ^ b : Nat) : Int) = (rset (revA xss) b 0 : Int) by rw [← rset_zero (revA xss) (by omega)])
      obtain ⟨wl, hwl⟩ : ∃ z, z = wr := ⟨_, rfl⟩
      subst hwl
      have HBl := bk HB1 hbl (by omega)
      go_wp2_with fail
      rw [e2, show (2 : Int) ^ b = ((2 ^ b : Nat) : Int) by push_cast; rfl, E0.out]
      obtain ⟨w2, hw2⟩ : ∃ z, z = wl.alloc (.cells #[.int .i64 (rset (revA xss) b 0 : Int)] 3) := ⟨_, rfl⟩
      have hst : LfRel xss b m wl (.slice (some ⟨wl.heap.size, 0, none⟩) 1 1) (.int .i64 0) w2 := ⟨0, Nat.zero_le _, rfl, by rw [hw2]; exact ownA3 (heap_alloc_new _ _) (Nat.le_refl _), by rw [hw2]; exact bl_alloc (Below.refl _ _) _⟩
      rw [← hw2]
      clear hw2 e2
      have HST := Lib.hid hst; clear hst
      go_loopw [12, 47] (fun v i wr => LfRel xss b m wl v i wr) (fun _ i _ => m - (intOf i).toNat)
      case atStart => exact HST.out
      case round =>
        clear HST
        obtain ⟨k, hk, rfl, hown, hbl2⟩ := hrel
        have HO := Lib.hid hown
        have hsz := hbl2.size
        obtain ⟨Ao, co, rfl⟩ := own_sl hown
        by_cases hlt : k < m
        · have hr := own_intsR hown (rsetL_64 (revA xss) b (k + 1))
          obtain ⟨A2, c2, e2, q1, q2, q3⟩ := hr.open_
          rw [natsI_len, rsetL_len] at e2 q1 q3
          cases e2
          obtain ⟨ad, rfl, hbd, hc⟩ := q3 (by omega)
          have hcell := hc k _ (natsI_at (rsetL_at (Nat.lt_succ_self k)))
          clear hc q3 hr hown
          have hrl := rset_lt (revA xss) b k
          have HNX := Lib.hid (rset_next_rev HG.out b k)
          have HSN := Lib.hid (rsetL_snoc (revA xss) b (k + 1))
          have hB12 := Lib.hid (rset_bl_rev HG.out (k := k) hb)
          obtain ⟨R, hR⟩ : ∃ R, R = rset (revA xss) b k := ⟨_, rfl⟩
          rw [← hR] at hcell hrl HNX hB12
          clear hR
          go_wp2_with fail
          refine (impl_labelsIn R wr hrl).mono ?_
          rintro e w3 ⟨u, rfl, hl, hb3⟩
          have hr2 := own_intsR hl (bl_64 R)
          obtain ⟨A3, c3, rfl, r1, r2, r3⟩ := hr2.open_
          rw [natsI_len] at r1 r3 ⊢
          have R3 := Lib.hid r3
          clear r3 hr2 hl
          have hl12 : (bl R 12).length ≤ 12 := lsTo_len _ 12
          have HO3 := Lib.hid (own_keep4 HO.out hb3.size fun b _ hb => hb3.block b hb)
          have hbl3 := hbl2.trans (hb3.mono hsz)
          clear HO
          obtain ⟨L, hL⟩ : ∃ L, L = bl R 12 := ⟨_, rfl⟩
          rw [← hL] at r1 R3 hB12 hl12 HNX ⊢
          clear hL
          have hsz3 := hbl3.size
          go_wp2_with fail
          go_loopw [14, 56] (fun s i wr => RnRel (revA xss) L w3 s i wr) (fun _ i _ => L.length - (intOf i).toNat)
          case atStart => exact ⟨rfl, 0, Nat.zero_le _, rfl, rfl⟩
          case round =>
            obtain ⟨rfl, j, hj, rfl, rfl⟩ := hrel
            by_cases hlj : j < L.length
            · obtain ⟨x, hx⟩ : ∃ x, L[j]? = some x := ⟨L[j], List.getElem?_eq_getElem hlj⟩
              obtain ⟨ad3, rfl, hbd3, hc3⟩ := R3.out (by omega)
              have hcx := hc3 j _ (natsI_at hx)
              have hxn := hB12.out x (List.mem_of_getElem? hx)
              have hq := nextN_lt (revA_small HG.out.small) (L.take j)
              have hmk := mask_lt (revA_small HG.out.small) x
              have HN5 := Lib.hid (show nextN (revA xss) (L.take (j + 1)) = nextN (revA xss) (L.take j) ||| mask (revA xss) x by
                obtain ⟨hk', rfl⟩ := List.getElem?_eq_some_iff.1 hx
                rw [List.take_succ_eq_append_getElem hk', nextN_snoc])
              have hcellm := (hbl3.cell (p := ⟨w.heap.size + 1, x, none⟩) hgl).trans (HN.out.cell (maskL_at (xss := revA xss) hxn))
              have hor := i64_or_nat (nextN (revA xss) (L.take j)) (mask (revA xss) x) (by omega) (by omega)
              clear hc3 hx
              generalize nextN (revA xss) (L.take j) = q at *
              generalize mask (revA xss) x = q2 at *
              go_wp2_with fail
              go_roundw
              case rel => exact ⟨rfl, j + 1, by omega, by go_num, by rw [HN5.out]⟩
              case measure => simp [intOf]; omega
            · have e1 : L.take j = L := List.take_of_length_le (by omega)
              rw [e1, HNX.out]
              clear e1
              go_wp2_with ((at_builtin; refine wpList_append1 w3 rfl (.tmp 67) (.tmp 69) 28 rfl wl.heap.size 3 _ 8 Tryz.underlying28 intInfo rfl _ _ _ rfl _ rfl rfl HO3.out (by unfold maxLen; omega) (by omega) hsz3 ?_; intro v' w' hown' hbl' hgr' hlt' hob'))
              go_roundw
              case rel => exact ⟨k + 1, by omega, by go_num, by rw [HSN.out, natsI_snoc, List.map_append]; exact hown', hbl3.trans hbl'⟩
              case measure => simp [intOf]; omega
        · obtain rfl : k = m := by omega
          obtain ⟨w4, hw4⟩ : ∃ z, z = wr := ⟨_, rfl⟩
          subst hw4
          have hr := own_intsR hown (rsetL_64 (revA xss) b (k + 1))
          obtain ⟨A2, c2, e2, q1, q2, q3⟩ := hr.open_
          rw [natsI_len, rsetL_len] at e2 q1 q3
          cases e2
          obtain ⟨ad, rfl, hbd, hc⟩ := q3 (by omega)
          have HC := Lib.hid hc
          have hcell := hc k _ (natsI_at (rsetL_at (Nat.lt_succ_self k)))
          clear hc q3 hr hown
          have hrl := rset_lt (revA xss) b k
          have hb04 := hb0r.trans (hbl2.mono (by omega))
          have HRA := Lib.hid (show (rset (revA xss) b k).testBit a = true ↔ wk (hasArc xss) k a b by
            rw [rset_rev, bitSet_bit]
            exact ⟨fun h => h.2, fun h => ⟨by omega, h⟩⟩)
          by_cases ht : (rset (revA xss) b k).testBit a = true
          · have hbit := bit_t hrl (by omega) ht
            have HW := Lib.hid (HRA.out.1 ht)
            clear ht
            have HB4 := bk HBl hbl2 (by omega)
            generalize rset (revA xss) b k = q at *
            obtain ⟨b0, b1, bf⟩ := cells2 HB4
            go_wp2_with fail
            refine (impl_after n _ xss w4 ((HH.out.below hb04).more hb04.size) HG.out).mono ?_
            rintro e w5 ⟨va, rfl, ho, hb5⟩
            have hb05 := bl_trans hb04 hb5
            have hz5 := hb5.size
            obtain ⟨Aa, ca, rfl, g1, g2, g3⟩ := (ho.reads (B := w5.heap.size) ho.1.lt).open_
            rw [maskL_len] at g1 g3 ⊢
            obtain ⟨aa, rfl, hba, hca⟩ := g3 (by omega)
            have HCA := Lib.hid hca
            clear g3 ho hca b0 b1 bf
            go_wp2_with fail
            obtain ⟨w6, hw6⟩ : ∃ z, z = w5.alloc (.cells #[.int .i64 (a : Int)] 3) := ⟨_, rfl⟩
            have hst : WoRel xss a b k w5 (.slice (some ⟨w5.heap.size, 0, none⟩) 1 1) (.int .i64 ((k : Int) - 1)) w6 := ⟨0, _, Nat.zero_le _, by simp, rfl, by
              have e : (lexW xss b k a).take (0 + 1) = [a] := by
                cases k with
                | zero => rfl
                | succ k => rw [lexW]; rfl
              rw [e, hw6]; exact ownA3 (heap_alloc_new _ _) (Nat.le_refl _), by rw [hw6]; exact bl_alloc (Below.refl _ _) _⟩
            rw [← hw6]
            clear hw6
            have HST := Lib.hid hst; clear hst
            go_loopw [18, 19] (fun v kv wr => WoRel xss a b k w5 v kv wr) (fun _ kv _ => (intOf kv + 1).toNat)
            case atStart => exact HST.out
            case round =>
              clear HST
              obtain ⟨j, z, hj, hz, rfl, hown, hbl6⟩ := hrel
              have HO := Lib.hid hown
              have hsz6 := hbl6.size
              have hb06 := hb05.trans (hbl6.mono hb05.size)
              by_cases hlt : j < k
              · obtain ⟨i, rfl⟩ := Int.eq_ofNat_of_zero_le (show 0 ≤ z by omega)
                have hi : i = k - 1 - j := by omega
                obtain ⟨x, hx⟩ : ∃ x, (lexW xss b k a)[j]? = some x := ⟨_, List.getElem?_eq_getElem (by rw [lex_len]; omega)⟩
                obtain ⟨hx1, hx2⟩ := lex_next HG.out HW.out hx
                replace hx2 := hx2 hlt
                rw [← hi] at hx2
                have hxn := wk_lt_rev HG.out hb hx1
                have hoh := (onL_head HG.out (show wk (hasArc xss) (i + 1) x b by rw [show i + 1 = k - j by omega]; exact hx1)).1
                have HM := Lib.hid (onL_bits HG.out b i x)
                have HTK := Lib.hid (show (lexW xss b k a).take (j + 1 + 1) = (lexW xss b k a).take (j + 1) ++ [stepN xss b i x] by
                  obtain ⟨hk', e⟩ := List.getElem?_eq_some_iff.1 hx2
                  rw [List.take_succ_eq_append_getElem hk', e])
                have hlx := lex_lt HG.out hb HW.out
                have hr := own_intsR hown (nats64 (M := 12) (fun y hy => by have := hlx y (List.mem_of_mem_take hy); omega) (by omega))
                obtain ⟨go, co, cur, rfl, hgo, -⟩ := own_one hown
                obtain ⟨A2, c2, e2, q1, q2, q3⟩ := hr.open_
                rw [natsI_len, List.length_take, lex_len, Nat.min_eq_left (by omega)] at e2 q1 q3
                cases e2
                obtain ⟨ad2, ead, hbd2, hc2⟩ := q3 (by omega)
                cases ead
                have kc := hc2 j _ (natsI_at (l := (lexW xss b k a).take (j + 1)) (x := x) (by rw [List.getElem?_take_of_lt (by omega)]; exact hx))
                rw [addr0] at kc
                have km := (hbl6.cell (p := aa.add x) (by rw [block_add]; exact hba)).trans (HCA.out x _ (maskL_at hxn))
                have kl := ((hb5.trans (hbl6.mono hz5)).cell (p := ad.add i) (by rw [block_add]; exact hbd)).trans (HC.out i _ (natsI_at (rsetL_at (show i < k + 1 by omega))))
                have hm1 := mask_lt HG.out.small x
                have hm2 := rset_lt (revA xss) b i
                have hand := i64_and_nat (mask xss x) (rset (revA xss) b i) (by omega) (by omega)
                have hMl : mask xss x &&& rset (revA xss) b i < 4096 := by rw [HM.out]; exact bitSet_lt _
                have HBM := Lib.hid (show bl (mask xss x &&& rset (revA xss) b i) 12 = onL xss b i x by rw [HM.out, bl_set]; rfl)
                have hstl : stepN xss b i x ≤ 11 := by have := (mem_lsP.1 (List.mem_of_getElem? hoh)).1; omega
                have HOH := Lib.hid hoh
                have f1 : IntKind.i64.wrap (j : Int) = (j : Int) := IntWalk.i64_in _ (by omega)
                have f2 : (j : Int) < (j : Int) + 1 := by omega
                have f3 : (i : Int) < (k : Int) + 1 := by omega
                have f4 : (x : Int) < (n : Int) := by omega
                have HI := Lib.hid hi
                clear hc2 q3 hr hx hx1 hx2 hown HM hoh hlx hz hi
                generalize mask xss x = m1 at *
                generalize rset (revA xss) b i = m2 at *
                generalize stepN xss b i x = st at *
                go_wp2_with fail
                refine wp_region_held_drew (S := fun w' => w'.cell? (aa.add x) = some (.int .i64 (m1 : Int)) ∧ w'.cell? (ad.add i) = some (.int .i64 (m2 : Int))) (by kernel_rfl) ?_ (fun hHeld => ?_)
                · go_keep
                refine tk 0 90 rfl rfl ?_
                try simp only [Act.put, pu]
                refine tk 1 91 rfl rfl ?_
                try simp only [Act.put, pu]
                refine tk 2 92 rfl rfl ?_
                try simp only [Act.put, pu]
                refine tk 3 93 rfl rfl ?_
                try simp only [Act.put, pu]
                refine tk 4 94 rfl rfl ?_
                try simp only [Act.put, pu]
                refine tk 5 95 rfl rfl ?_
                try simp only [Act.put, pu]
                refine tk 6 96 rfl rfl ?_
                try simp only [Act.put, pu]
                refine tk 10 100 rfl rfl ?_
                try simp only [Act.put, pu]
                refine tk 11 101 rfl rfl ?_
                try simp only [Act.put, pu]
                refine tk 12 102 rfl rfl ?_
                try simp only [Act.put, pu]
                refine tk 13 103 rfl rfl ?_
                try simp only [Act.put, pu]
                refine wpAnyH_ready (rs := [7]) (by kernel_rfl) (by simp) ?_
                refine AllReadyH.cons rfl (fun K hK => ?_) AllReadyH.nil
                go_simp
                refine hK.out _ _ ?_ (fun hHeld => ?_)
                · go_keep
                clear hK K
                try simp only [Act.put, pu]
                refine tk 8 98 rfl rfl ?_
                try simp only [Act.put, pu]
                refine tk 9 99 rfl rfl ?_
                try simp only [Act.put, pu]
                refine tk 14 104 rfl rfl ?_
                try simp only [Act.put, pu]
                refine wpAnyH_ready (rs := [15]) (by kernel_rfl) (by simp) ?_
                refine AllReadyH.cons rfl (fun K hK => ?_) AllReadyH.nil
                go_simp
                go_at_call 49
                refine (impl_labelsIn (m1 &&& m2) wr.drew hMl).mono ?_
                rintro e w7 ⟨u, rfl, hl, hb7'⟩
                have hb7 : Below wr.heap.size wr w7 := (Below.refl _ _).drew.trans hb7'
                clear hb7'
                have hr7 := own_intsR hl (bl_64 (m1 &&& m2))
                obtain ⟨A7, c7, rfl, r1, r2, r3⟩ := hr7.open_
                rw [HBM.out] at r1 r3 hl ⊢
                have hl0 : 0 < (onL xss b i x).length := (List.getElem?_eq_some_iff.1 HOH.out).1
                rw [natsI_len] at r1 r3 ⊢
                obtain ⟨ad7, rfl, hbd7, hc7⟩ := r3 hl0
                have k7 : w7.cell? ad7 = some (.int .i64 (st : Int)) := by
                  have := hc7 0 _ (natsI_at HOH.out)
                  rwa [show ad7.add 0 = ad7 from by unfold Addr.add; simp] at this
                replace km := (hb7.cell (p := aa.add x) (by rw [block_add]; omega)).trans km
                replace kl := (hb7.cell (p := ad.add i) (by rw [block_add]; omega)).trans kl
                have HO7 := Lib.hid (own_keep4 HO.out hb7.size fun b _ hb => hb7.block b hb)
                have hbl7 := hbl6.trans (hb7.mono hsz6)
                have hz7 := hb7.size
                clear r3 hr7 hl hc7 kc
                refine hK.out _ _ ?_ (fun hHeld => ?_)
                · go_keep
                clear hK K
                try simp only [Act.put, pu]
                refine tk 16 106 rfl rfl ?_
                try simp only [Act.put, pu]
                refine wpAnyH_ready (rs := [17]) (by kernel_rfl) (by simp) ?_
                refine AllReadyH.cons rfl (fun K hK => ?_) AllReadyH.nil
                go_simp
                refine hK.out _ _ ?_ (fun hHeld => ?_)
                · go_keep
                clear hK K
                try simp only [Act.put, pu]
                refine wpAnyH_ready (rs := [18]) (by kernel_rfl) (by simp) ?_
                refine AllReadyH.cons rfl (fun K hK => ?_) AllReadyH.nil
                go_simp
                have c0 := Lib.cell?_alloc_some (.cells #[.int .i64 (st : Int)] 3) km
                have c1 := Lib.cell?_alloc_some (.cells #[.int .i64 (st : Int)] 3) kl
                refine hK.out _ _ ?_ (fun hHeld => ?_)
                · go_keep
                clear hK K
                try simp only [Act.put, pu]
                refine wpAnyH_ready (rs := [19]) (by kernel_rfl) (by simp) ?_
                refine AllReadyH.cons rfl (fun K hK => ?_) AllReadyH.nil
                rw [if_pos (by rfl)]
                refine oper_append1 w7 (.tmp 90) (.tmp 108) 28 rfl w5.heap.size 3 _ 8 Tryz.underlying28 intInfo rfl _ _ _ rfl _ rfl rfl HO7.out (by unfold maxLen; omega) (by omega) (by omega) ?_
                intro v8 w8 hown8 hbl8 hgr8 hlt8 hob8
                replace km := (hbl8.cell (p := aa.add x) (by rw [block_add]; omega)).trans km
                replace kl := (hbl8.cell (p := ad.add i) (by rw [block_add]; omega)).trans kl
                have HO8 := Lib.hid hown8
                have hbl9 := hbl7.trans hbl8
                obtain ⟨A8, c8, rfl⟩ := own_sl hown8
                clear hown8 hgr8 hob8 c0 c1
                refine hK.out _ _ ?_ (fun hHeld => ?_)
                · go_keep
                clear hK K
                try simp only [Act.put, pu]
                refine tk 20 18 rfl rfl ?_
                try simp only [Act.put, pu]
                refine wpAnyH_done (by kernel_rfl) ?_ _
                go_wp2_with fail
                go_roundw
                case rel => exact ⟨j + 1, (i : Int) - 1, by omega, by have := HI.out; omega, rfl, by rw [HTK.out, natsI_snoc, List.map_append]; exact HO8.out, hbl9⟩
                case measure => (try simp [intOf]); (try omega)
              · obtain rfl : j = k := by omega
                obtain rfl : z = -1 := by omega
                have HF := Lib.hid (show (lexW xss b j a).take (j + 1) = lexW xss b j a from List.take_of_length_le (by rw [lex_len]; exact Nat.le_refl _))
                obtain ⟨A8, c8, rfl⟩ := own_sl hown
                clear hown
                go_wp2_with fail
                go_ret
                refine ⟨_, rfl, ?_, fun h => absurd HW.out h, hb06⟩
                have h := HO.out
                rw [HF.out] at h
                rw [wb_t HW.out, lex_len]
                exact base_own h hb05.size
          · have hbit := bit_f hrl (by omega) ht
            have HW := Lib.hid (fun h => ht (HRA.out.2 h))
            clear ht
            generalize rset (revA xss) b k = q at *
            go_wp2_with fail
            go_ret
            exact ⟨_, rfl, by rw [wb_f HW.out]; exact World.ownsRow_nil _ _ _ _, fun _ => rfl, hb04⟩
end Go.Proofs.YtjhljipehnmbnaaGreat
