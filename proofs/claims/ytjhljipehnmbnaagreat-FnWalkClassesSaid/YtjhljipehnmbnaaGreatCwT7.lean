/-
  Walk problems, the reference's side: flexibility and class.
  Walk problems, the reference's side: the first walk of a length.
-/
import Derived.Test.YtjhljipehnmbnaaGreatCwS6
import Derived.Test.YtjhljipehnmbnaaGreatPlainCert2
import Derived.Test.YtjhljipehnmbnaaGreatCwI8
namespace Go.Proofs.YtjhljipehnmbnaaGreat
section
open Go.RowKit
set_option linter.unusedVariables false
set_option linter.unusedSimpArgs false
theorem wkB_loop (xss : List (List Int)) (a k : Nat) : wkB xss k a a = loopB xss a k := rfl
theorem flex_down {n : Nat} {xss : List (List Int)} (hg : Good n xss) {a : Nat} (h : a ∈ flexL n xss) : flexN xss a 288 = downB (loopB xss a) (n * n + 1) := by
  have hn := good_n hg
  have hnn : n * n ≤ 12 * 12 := Nat.mul_le_mul hn.2 hn.2
  unfold flexN
  obtain ⟨_, r, h1, h2, h3⟩ := mem_lsP.1 h
  refine down_eq _ _ _ (by omega) fun k hk _ => propB_t ?_
  have hp := perA_per hg r
  rw [h3] at hp
  exact flex_all (fun x y => arc_lt hg) h1.1 h2 (dF_pot hg r) hp k (by omega)
def SdRel (xss : List (List Int)) (a m : Nat) (w1 : World) (kv : Value) (wr : World) : Prop :=
  w1 = wr ∧ ∃ k : Nat, k ≤ m ∧ kv = .int .i64 k ∧ flexN xss a 288 = downB (loopB xss a) k
set_option maxRecDepth 100000 in
theorem spec_waFlexibility (n : Nat) (v : Value) (xss : List (List Int)) (a : Nat) (w : World) (h : RowsR w w.heap.size v xss) (hg : Good n xss) (ha : a < n) (hf : a ∈ flexL n xss) :
    Calls Tryz.prog 58 #[.agg #[.int .i64 (n : Int), v], .int .i64 (a : Int)] w fun e w' => e = .returned (.int .i64 (flexN xss a 288 : Int)) ∧ Below w.heap.size w w' := by
  have hn := good_n hg
  have HH := Lib.hid h; clear h
  have HG := Lib.hid hg; clear hg
  have hfx := flex_down HG.out hf
  have hnn : n * n ≤ 12 * 12 := Nat.mul_le_mul hn.2 hn.2
  obtain ⟨m, hm⟩ : ∃ m : Nat, m = n * n + 1 := ⟨_, rfl⟩
  rw [← hm] at hfx
  have hw1 : IntKind.i64.wrap ((n : Int) * (n : Int)) = (n : Int) * (n : Int) := IntWalk.i64_in _ (by
    have : (n : Int) * (n : Int) = ((n * n : Nat) : Int) := by push_cast; rfl
    omega)
  have hw2 : IntKind.i64.wrap ((n : Int) * (n : Int) + 1) = (m : Int) := by
    have : (n : Int) * (n : Int) + 1 = (m : Int) := by rw [hm]; push_cast; rfl
    rw [this]
    exact IntWalk.i64_in _ (by omega)
  have hm1 : m ≤ 145 := by omega
  have hmp : 1 ≤ m := by omega
  have hwm : IntKind.i64.wrap ((m : Int) + 1 - 1) = (m : Int) := by rw [show (m : Int) + 1 - 1 = m by omega]; exact IntWalk.i64_in _ (by omega)
  have HFX := Lib.hid hfx
  clear hf hfx hm hnn
  go_enter Tryz.func58, Tryz.ntmps58
  go_wp2_with fail
  refine (spec_waPowers n m v xss _ ((HH.out.below (bl_alloc (Below.refl _ _) _)).more (by simp)) HG.out (by omega)).mono ?_
  rintro e w1 ⟨pv, rfl, hpw, hb1⟩
  have hb01 := bl_trans (bl_alloc (Below.refl w.heap.size w) _) hb1
  have HPW := Lib.hid hpw
  obtain ⟨gp, cp, -, rfl, gp1, gp2, gp3, gp4, -, -⟩ := hpw.at_ (i := 0) (by omega)
  clear hpw hw1 hw2
  go_wp2_with fail
  go_loopw [6] (fun kv wr => SdRel xss a m w1 kv wr) (fun kv _ => (intOf kv).toNat)
  case atStart => exact ⟨rfl, m, Nat.le_refl _, rfl, HFX.out⟩
  case round =>
    obtain ⟨rfl, k, hk, rfl, hfx⟩ := hrel
    have HF := Lib.hid hfx
    clear hfx HFX
    rcases Nat.eq_zero_or_pos k with h0 | h0
    · subst h0
      go_wp2_with fail
      go_ret
      exact ⟨ret_int (by rw [HF.out]; rfl), hb01⟩
    · obtain ⟨gp', cp', u, e, -, -, -, -, kcu, hR⟩ := HPW.out.at_ (i := k) (by omega)
      cases e
      obtain ⟨gm, cm, rfl, m1, m2, m3, m4⟩ := hR
      obtain ⟨gr, cr, r1, r2, r3, r4, r5⟩ := m4 a ha
      have r6 := r5 a ha
      have hk0 : (0 : Int) < (k : Int) := by omega
      have HR := Lib.hid (wkB_loop xss a k)
      clear m4 r5
      cases hb : wkB xss k a a with
      | true =>
        rw [hb] at r6
        have HE := Lib.hid (show downB (loopB xss a) k = downB (loopB xss a) (k - 1) by
          obtain ⟨j, rfl⟩ : ∃ j, k = j + 1 := ⟨k - 1, by omega⟩
          rw [downB, if_pos (by rw [← HR.out]; exact hb)]
          rfl)
        clear hb
        go_wp2_with fail
        go_roundw
        case rel => exact ⟨rfl, k - 1, by omega, by go_num, by rw [HF.out, HE.out]⟩
        case measure => simp [intOf]; omega
      | false =>
        rw [hb] at r6
        have HE := Lib.hid (show downB (loopB xss a) k = k + 1 by
          obtain ⟨j, rfl⟩ : ∃ j, k = j + 1 := ⟨k - 1, by omega⟩
          rw [downB, if_neg (by rw [← HR.out, hb]; simp)])
        clear hb
        go_wp2_with fail
        go_ret
        exact ⟨ret_int (by rw [HF.out, HE.out]; push_cast; rfl), hb01⟩
set_option maxRecDepth 100000 in
theorem spec_waClass (n : Nat) (v : Value) (xss : List (List Int)) (w : World) (h : RowsR w w.heap.size v xss) (hg : Good n xss) :
    Calls Tryz.prog 30 #[.agg #[.int .i64 (n : Int), v]] w fun e w' => e = .returned (.int .i64 (classN n xss : Int)) ∧ Below w.heap.size w w' := by
  have HH := Lib.hid h; clear h
  have HG := Lib.hid hg; clear hg
  have hrl := roots_len xss n
  have hn := good_n HG.out
  obtain ⟨w0, hw0⟩ : ∃ z, z = w.alloc (.cells #[.int .i64 (n : Int), v] 26) := ⟨_, rfl⟩
  have hb0 : Below w.heap.size w w0 := by rw [hw0]; exact bl_alloc (Below.refl _ _) _
  have hz0 : w0.heap.size = w.heap.size + 1 := by rw [hw0]; simp
  have HB0 := Lib.hid (show w0.heap[w.heap.size]? = some (.cells #[.int .i64 (n : Int), v] 26 (0, 0)) by rw [hw0]; exact heap_alloc_new _ _)
  have HW0 := Lib.hid hw0
  have hzz : w.heap.size < w0.heap.size := by omega
  clear hw0 hz0
  obtain ⟨b0, b1, bf⟩ := cells2 HB0
  go_enter Tryz.func30, Tryz.ntmps30
  go_wp2_with fail
  rw [← HW0.out]
  refine (spec_waLoop n v xss w0 ((HH.out.below hb0).more hb0.size) HG.out).mono ?_
  rintro e w1 ⟨i, rfl, hla, hb1⟩
  have HB1 := bk HB0 hb1 (by omega)
  have hb01 := bl_trans hb0 hb1
  have hz1 := hb1.size
  have HI := Lib.hid (show (0 ≤ i ↔ ∃ a, a < n ∧ hasArc xss a a) by
    rcases hla with ⟨rfl, h1⟩ | ⟨k, a, rfl, h1, _⟩
    · exact ⟨fun h => by omega, fun ⟨a, _, h⟩ => absurd h (h1 a)⟩
    · have hx : hasArc xss a a := List.mem_of_getElem? h1
      exact ⟨fun _ => ⟨a, (arc_lt HG.out hx).1, hx⟩, fun _ => by omega⟩)
  clear hla b0 b1 bf
  by_cases hi : 0 ≤ i
  · have HC := Lib.hid (show classN n xss = 3 by unfold classN; rw [if_pos (propB_t (HI.out.1 hi))])
    go_wp2_with fail
    go_ret
    exact ⟨ret_int (by rw [HC.out]; rfl), hb01⟩
  · have HNL := Lib.hid (show propB (∃ a, a < n ∧ hasArc xss a a) = false from propB_f fun h => hi (HI.out.2 h))
    obtain ⟨b0, b1, bf⟩ := cells2 HB1
    go_wp2_with fail
    refine (spec_waFlexible n v xss w1 ((HH.out.below hb01).more hb01.size) HG.out).mono ?_
    rintro e w2 ⟨u, rfl, ⟨A2, m2, c2, rfl⟩, hu, hb2⟩
    have HB2 := bk HB1 hb2 (by omega)
    have hb02 := bl_trans hb01 hb2
    have hz2 := hb2.size
    obtain ⟨A3, c3, e3, -, -, -⟩ := hu.open_
    rw [natsI_len] at e3
    cases e3
    clear hu b0 b1 bf
    by_cases hfl : 0 < (flexL n xss).length
    · have HC := Lib.hid (show classN n xss = 2 by unfold classN; rw [HNL.out, if_neg (by simp), if_pos hfl])
      go_wp2_with fail
      go_ret
      exact ⟨ret_int (by rw [HC.out]; rfl), hb02⟩
    · obtain ⟨b0, b1, bf⟩ := cells2 HB2
      go_wp2_with fail
      refine (spec_waParts n v xss w2 ((HH.out.below hb02).more hb02.size) HG.out).mono ?_
      rintro e w3 ⟨lv, rfl, hlv, hb3⟩
      obtain ⟨Al, cl, rfl⟩ := hlv.sl
      have hb03 := bl_trans hb02 hb3
      clear hlv b0 b1 bf
      by_cases hrt : 0 < (roots xss n).length
      · have HC := Lib.hid (show classN n xss = 1 by unfold classN; rw [HNL.out, if_neg (by simp), if_neg hfl, if_pos hrt])
        go_wp2_with fail
        go_ret
        exact ⟨ret_int (by rw [HC.out]; rfl), hb03⟩
      · have HC := Lib.hid (show classN n xss = 0 by unfold classN; rw [HNL.out, if_neg (by simp), if_neg hfl, if_neg hrt])
        go_wp2_with fail
        go_ret
        exact ⟨ret_int (by rw [HC.out]; rfl), hb03⟩
end
section
open Go.RowKit
set_option linter.unusedVariables false
set_option linter.unusedSimpArgs false
def WsPost (xss : List (List Int)) (a b m : Nat) (w : World) (e : Ending) (w' : World) : Prop :=
  ∃ v ok, e = .returned (.tuple #[v, .bool ok]) ∧ w'.ownsRow w.heap.size 3 1 v (wbL xss a b m).length ((natsI (wbL xss a b m)).map intV) ∧ (¬ wk (hasArc xss) m a b → v = .slice none 0 0) ∧ Below w.heap.size w w'
def WiRel (v0 : Value) (s : Nat) (w : World) (v i : Value) (wr : World) : Prop := w = wr ∧ v = v0 ∧ ∃ c : Nat, c ≤ s ∧ i = .int .i64 c
theorem onL_min {xss : List (List Int)} {b i a c : Nat} (hc : c < stepN xss b i a) (hl : c ≤ 11) (hn : (onL xss b i a)[0]? = some (stepN xss b i a)) : ¬ (hasArc xss a c ∧ wk (hasArc xss) i c b) := by
  intro h
  have hm : c ∈ onL xss b i a := mem_lsP.2 ⟨by omega, h⟩
  have hpw : (onL xss b i a).Pairwise (· < ·) := lsP_pw _
  cases hlx : onL xss b i a with
  | nil => rw [hlx] at hm; cases hm
  | cons x t =>
    rw [hlx] at hm hpw hn
    have hx : x = stepN xss b i a := by simpa using hn
    rcases List.mem_cons.1 hm with rfl | h
    · omega
    · have := (List.pairwise_cons.1 hpw).1 c h
      omega
set_option maxRecDepth 100000 in
set_option maxHeartbeats 2000000 in
theorem spec_waBetween (n : Nat) (v : Value) (xss : List (List Int)) (a b m : Nat) (w : World) (h : RowsR w w.heap.size v xss) (hg : Good n xss) (ha : a < n) (hb : b < n) (hm : m ≤ 999) :
    Calls Tryz.prog 59 #[.agg #[.int .i64 (n : Int), v], .int .i64 (a : Int), .int .i64 (b : Int), .int .i64 (m : Int)] w (WsPost xss a b m w) := by
  have hn := good_n hg
  have HH := Lib.hid h; clear h
  have HG := Lib.hid hg; clear hg
  obtain ⟨w0, hw0⟩ : ∃ z, z = w.alloc (.cells #[.int .i64 (n : Int), v] 26) := ⟨_, rfl⟩
  have hb0 : Below w.heap.size w w0 := by rw [hw0]; exact bl_alloc (Below.refl _ _) _
  have hz0 : w0.heap.size = w.heap.size + 1 := by rw [hw0]; simp
  have HB0 := Lib.hid (show w0.heap[w.heap.size]? = some (.cells #[.int .i64 (n : Int), v] 26 (0, 0)) by rw [hw0]; exact heap_alloc_new _ _)
  have HW0 := Lib.hid hw0
  have hzz : w.heap.size < w0.heap.size := by omega
  clear hw0 hz0
  obtain ⟨b0, b1, bf⟩ := cells2 HB0
  go_enter Tryz.func59, Tryz.ntmps59
  go_wp2_with fail
  rw [← HW0.out]
  refine (spec_waPowers n m v xss w0 ((HH.out.below hb0).more hb0.size) HG.out (by omega)).mono ?_
  rintro e w1 ⟨pv, rfl, hpw, hb1⟩
  have HB1 := bk HB0 hb1 (by omega)
  have hb01 := bl_trans hb0 hb1
  have hz1 := hb1.size
  have HPW := Lib.hid hpw
  obtain ⟨gp, cp, u, rfl, gp1, gp2, gp3, gp4, kcu, hR⟩ := hpw.at_ (i := m) (by omega)
  obtain ⟨gm, cm, rfl, m1, m2, m3, m4⟩ := hR
  obtain ⟨gr, cr, r1, r2, r3, r4, r5⟩ := m4 a ha
  have r6 := r5 b hb
  clear hpw b0 b1 bf m4 r5
  cases hwb : wkB xss m a b with
  | false =>
    rw [hwb] at r6
    have HW := Lib.hid (show ¬ wk (hasArc xss) m a b from fun h => by rw [show wkB xss m a b = true from propB_t h] at hwb; cases hwb)
    clear hwb
    go_wp2_with fail
    go_ret2
    exact ⟨_, _, rfl, by rw [wb_f HW.out]; exact World.ownsRow_nil _ _ _ _, fun _ => rfl, hb01⟩
  | true =>
    rw [hwb] at r6
    have HW := Lib.hid (show wk (hasArc xss) m a b from propB_iff.1 hwb)
    clear hwb
    obtain ⟨b0, b1, bf⟩ := cells2 HB1
    go_wp2_with fail
    refine (spec_waMayO n v xss w1 ((HH.out.below hb01).more hb01.size) HG.out).mono ?_
    rintro e w2 ⟨vm, gs, rfl, hgs, hown, hb2⟩
    have HB2 := bk HB1 hb2 (by omega)
    have hb02 := bl_trans hb01 hb2
    have hz2 := hb2.size
    have HPW2 := Lib.hid (HPW.out.up hb2)
    have hrd := hown.reads (by omega)
    rw [hgs] at hrd
    obtain ⟨am, cm2, rfl, n1, n2, n3⟩ := hrd
    have HM3 := Lib.hid n3
    clear hown n3 b0 b1 bf kcu r1 r6 HPW
    go_wp2_with fail
    obtain ⟨w3, hw3⟩ : ∃ z, z = w2.alloc (.cells #[.int .i64 (a : Int)] 3) := ⟨_, rfl⟩
    have hst : WoRel xss a b m w2 (.slice (some ⟨w2.heap.size, 0, none⟩) 1 1) (.int .i64 ((m : Int) - 1)) w3 := ⟨0, _, Nat.zero_le _, by simp, rfl, by
      have e : (lexW xss b m a).take (0 + 1) = [a] := by
        cases m with
        | zero => rfl
        | succ k => rw [lexW]; rfl
      rw [e, hw3]; exact ownA3 (heap_alloc_new _ _) (Nat.le_refl _), by rw [hw3]; exact bl_alloc (Below.refl _ _) _⟩
    rw [← hw3]
    clear hw3
    have HST := Lib.hid hst; clear hst
    go_loopw [12, 13] (fun v kv wr => WoRel xss a b m w2 v kv wr) (fun _ kv _ => (intOf kv + 1).toNat)
    case atStart => exact HST.out
    case round =>
      clear HST
      obtain ⟨j, z, hj, hz, rfl, hown, hbl⟩ := hrel
      have HO := Lib.hid hown
      have hszr := hbl.size
      have hb0r := bl_trans hb02 hbl
      by_cases hlt : j < m
      · obtain ⟨i, rfl⟩ := Int.eq_ofNat_of_zero_le (show 0 ≤ z by omega)
        have hi : i = m - 1 - j := by omega
        obtain ⟨x, hx⟩ : ∃ x, (lexW xss b m a)[j]? = some x := ⟨_, List.getElem?_eq_getElem (by rw [lex_len]; omega)⟩
        obtain ⟨hx1, hx2⟩ := lex_next HG.out HW.out hx
        replace hx2 := hx2 hlt
        rw [← hi] at hx2
        have hxn := wk_lt_rev HG.out hb hx1
        have hoh := onL_head HG.out (show wk (hasArc xss) (i + 1) x b by rw [show i + 1 = m - j by omega]; exact hx1)
        have HTK := Lib.hid (show (lexW xss b m a).take (j + 1 + 1) = (lexW xss b m a).take (j + 1) ++ [stepN xss b i x] by
          obtain ⟨hk', e⟩ := List.getElem?_eq_some_iff.1 hx2
          rw [List.take_succ_eq_append_getElem hk', e])
        have hlx := lex_lt HG.out hb HW.out
        have hr := own_intsR hown (nats64 (M := 12) (fun y hy => by have := hlx y (List.mem_of_mem_take hy); omega) (by omega))
        obtain ⟨go, co, cur, rfl, hgo, -⟩ := own_one hown
        obtain ⟨A2, c2, e2, q1, q2, q3⟩ := hr.open_
        rw [natsI_len, List.length_take, lex_len, Nat.min_eq_left (by omega)] at e2 q1 q3
        cases e2
        obtain ⟨ad2, ead, hbd2, hc2⟩ := q3 (by omega)
        cases ead
        have kc := hc2 j _ (natsI_at (l := (lexW xss b m a).take (j + 1)) (x := x) (by rw [List.getElem?_take_of_lt (by omega)]; exact hx))
        rw [addr0] at kc
        obtain ⟨ax, cx, x1, x2, x3, x4⟩ := HM3.out x hxn
        replace x1 := (hbl.cell (p := am.add x) (by rw [block_add]; exact n2)).trans x1
        have HX4 := Lib.hid fun c hc => (hbl.cell (p := ax.add c) (by rw [block_add]; exact x3)).trans (x4 c hc)
        obtain ⟨gp', cp', u, e, -, -, -, -, kcu, hR⟩ := (HPW2.out.up hbl).at_ (i := i) (by omega)
        cases e
        obtain ⟨gi, ci, rfl, i1, i2, i3, i4⟩ := hR
        have HI4 := Lib.hid i4
        have hstn : stepN xss b i x < n := by have := (arc_lt HG.out hoh.2.1).2; exact this
        have HOH := Lib.hid hoh
        have HMN := Lib.hid (fun c (hc : c < stepN xss b i x) => onL_min hc (by omega) hoh.1)
        have f1 : IntKind.i64.wrap ((j : Int) + 1 - 1) = (j : Int) := by rw [show (j : Int) + 1 - 1 = (j : Int) by omega]; exact IntWalk.i64_in _ (by omega)
        have f2 : (j : Int) < (j : Int) + 1 := by omega
        have f3 : (i : Int) < (m : Int) + 1 := by omega
        have f4 : (x : Int) < (n : Int) := by omega
        have HI := Lib.hid hi
        have hi0 : i ≤ 1000 := by omega
        clear hc2 q3 hr hx hx1 hx2 hown hoh hlx hz hi x4 i4
        obtain ⟨wq, hwq⟩ : ∃ z, z = wr := ⟨_, rfl⟩
        subst hwq
        have HBr := bk HB2 hbl (by omega)
        obtain ⟨b0, b1, bf⟩ := cells2 HBr
        go_wp2_with fail
        go_loopw [12, 14] (fun v' i' wr => WiRel (.slice (some ⟨go, 0, none⟩) (j + 1) co) (stepN xss b i x) wq v' i' wr) (fun _ i' _ => (stepN xss b i x + 1) - (intOf i').toNat)
        case atStart => exact ⟨rfl, rfl, 0, Nat.zero_le _, rfl⟩
        case round =>
          obtain ⟨rfl, rfl, c, hc, rfl⟩ := hrel
          have hcn : c < n := by omega
          have k1 := HX4.out c hcn
          obtain ⟨gq, cq, y1, y2, y3, y4, y5⟩ := HI4.out c hcn
          have y6 := y5 b hb
          clear y5
          by_cases hcs : c < stepN xss b i x
          · have hno := HMN.out c hcs
            cases hm1 : mayF xss x c with
            | false =>
              rw [hm1] at k1
              clear hm1 hno
              go_wp2_with fail
              go_roundw
              case rel => exact ⟨rfl, rfl, c + 1, by omega, by go_num⟩
              case measure => simp [intOf]; omega
            | true =>
              have hm2 : wkB xss i c b = false := propB_f fun h => hno ⟨propB_iff.1 hm1, h⟩
              rw [hm1] at k1
              rw [hm2] at y6
              clear hm1 hm2 hno
              go_wp2_with fail
              go_roundw
              case rel => exact ⟨rfl, rfl, c + 1, by omega, by go_num⟩
              case measure => simp [intOf]; omega
          · obtain rfl : c = stepN xss b i x := by omega
            rw [show mayF xss x (stepN xss b i x) = true from propB_t HOH.out.2.1] at k1
            rw [show wkB xss i (stepN xss b i x) b = true from propB_t HOH.out.2.2] at y6
            generalize stepN xss b i x = st at *
            go_wp2_with (at_builtin; refine wpList_append1 wq rfl (.tmp 69) (.tmp 71) 28 rfl w2.heap.size 3 _ 8 Tryz.underlying28 intInfo rfl _ _ _ rfl _ rfl rfl HO.out (by unfold maxLen; omega) (by omega) (by omega) ?_; intro v' w' hown' hbl' hgr' hlt' hob'; have HO' := Lib.hid hown'; have hblq := hbl.trans hbl'; obtain ⟨A8, c8, rfl⟩ := own_sl hown'; clear hown' hgr' hob')
            go_roundw
            case rel => exact ⟨j + 1, (i : Int) - 1, by omega, by have := HI.out; omega, rfl, by rw [HTK.out, natsI_snoc, List.map_append]; exact HO'.out, hblq⟩
            case measure => (try simp [intOf]); (try omega)
      · obtain rfl : j = m := by omega
        obtain rfl : z = -1 := by omega
        have HF := Lib.hid (show (lexW xss b j a).take (j + 1) = lexW xss b j a from List.take_of_length_le (by rw [lex_len]; exact Nat.le_refl _))
        obtain ⟨A8, c8, rfl⟩ := own_sl hown
        clear hown
        go_wp2_with fail
        go_ret2
        refine ⟨_, _, rfl, ?_, fun h => absurd HW.out h, hb0r⟩
        have h := HO.out
        rw [HF.out] at h
        rw [wb_t HW.out, lex_len]
        exact base_own h hb02.size
end
end Go.Proofs.YtjhljipehnmbnaaGreat
