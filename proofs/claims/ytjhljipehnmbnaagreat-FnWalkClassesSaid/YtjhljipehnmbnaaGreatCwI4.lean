/-
  Walk problems, the program's side: the period of a component.
-/
import Derived.Test.YtjhljipehnmbnaaGreatCwI3
import Derived.Test.YtjhljipehnmbnaaGreatPlainPer
namespace Go.Proofs.YtjhljipehnmbnaaGreat
open Go.RowKit
set_option linter.unusedVariables false
set_option linter.unusedSimpArgs false
/-- The distances as depths. -/
noncomputable def dF (n : Nat) (xss : List (List Int)) (a b : Nat) : Nat := (dTo xss a (n + 1) b).toNat
theorem dF_le (n : Nat) (xss : List (List Int)) (a b : Nat) : dF n xss a b ≤ n := by
  have := dTo_bd xss a b (n + 1)
  unfold dF
  omega
theorem dF_some {n : Nat} {xss : List (List Int)} (hg : Good n xss) {a b : Nat} (h : mates (hasArc xss) a b) : dTo xss a (n + 1) b = (dF n xss a b : Int) := by
  obtain ⟨k, _, hk⟩ := h.1
  obtain ⟨j, _, h2, h3⟩ := wk_short (fun x y => arc_lt hg) (rc_lt (fun x y => arc_lt hg) h.1).1 hk
  have := dTo_some (k := n + 1) (show j < n + 1 by omega) h3
  unfold dF
  omega
theorem dF_pot {n : Nat} {xss : List (List Int)} (hg : Good n xss) (a : Nat) : Pot (hasArc xss) a (dF n xss a) := by
  refine ⟨by unfold dF; rw [dTo_self]; rfl, fun b hb => ?_⟩
  have h := dF_some hg hb
  have h2 := dTo_walk (xss := xss) (a := a) (b := b) (k := n + 1) (by omega)
  unfold dF
  exact h2
/-- The period of a's component. -/
noncomputable def perA (n : Nat) (xss : List (List Int)) (a : Nat) : Nat := perN xss (mates (hasArc xss) a) (dF n xss a)
theorem perA_le (n : Nat) (xss : List (List Int)) (a : Nat) : perA n xss a ≤ n + 1 := per_le fun x _ => dF_le n xss a x
theorem perA_per {n : Nat} {xss : List (List Int)} (hg : Good n xss) (a : Nat) : Per (hasArc xss) a (dF n xss a) (perA n xss a) := perN_per hg a _
theorem perA_pos {n : Nat} {xss : List (List Int)} (hg : Good n xss) {a : Nat} (h : mates (hasArc xss) a a) : 0 < perA n xss a := per_pos h (dF_pot hg a) (perA_per hg a)
def PoRel (n : Nat) (xss : List (List Int)) (a : Nat) (w2 : World) (d i : Value) (wr : World) : Prop :=
  ∃ k : Nat, k ≤ xss.length ∧ i = .int .i64 k ∧ d = .int .i64 (perN (xss.take k) (mates (hasArc xss) a) (dF n xss a) : Int) ∧ Below w2.heap.size w2 wr
theorem abs_max (x : Int) : max x (-x) = (x.natAbs : Int) := by omega
theorem ints2 {w : World} {g : Nat} {x y : Int} {t : TypeId} (h : w.heap[g]? = some (.cells #[.int .i64 x, .int .i64 y] t (0, 0))) (hx : I64 x) (hy : I64 y) : IntsR w w.heap.size (.slice (some ⟨g, 0, none⟩) 2 2) [x, y] :=
  ints_row (xs := [x, y]) h (by unfold maxLen; simp) (by intro z hz; simp at hz; rcases hz with rfl | rfl <;> assumption) (by
    rcases Nat.lt_or_ge g w.heap.size with h' | h'
    · exact h'
    · rw [Array.getElem?_eq_none h'] at h; cases h)
set_option maxHeartbeats 1000000 in
theorem impl_periodOf (n : Nat) (v u : Value) (xss : List (List Int)) (a : Nat) (w : World) (h : RowsR w w.heap.size v xss) (hg : Good n xss) (hr : isRoot xss a) (hu : IntsR w w.heap.size u (natsI (compL xss a))) (hv : ∃ A m c, v = .slice A m c) :
    Calls Tryz.prog 52 #[.agg #[.int .i64 (n : Int), v], u] w fun e w' => e = .returned (.int .i64 (perA n xss a : Int)) ∧ Below w.heap.size w w' := by
  have hn := good_n hg
  have han := (rc_lt (fun x y => arc_lt hg) hr.1.1).1
  have hrh := root_head hg hr
  have hcl : 0 < (compL xss a).length := (List.getElem?_eq_some_iff.1 hrh).1
  have HU := Lib.hid hu
  obtain ⟨Au, cu, rfl, u1, u2, u3⟩ := hu.open_
  unfold maxLen at u2
  rw [natsI_len] at u1 u3 HU ⊢
  obtain ⟨au, rfl, hub, huc⟩ := u3 hcl
  have c0 : w.cell? au = some (.int .i64 (a : Int)) := by
    have := huc 0 _ (natsI_at hrh)
    rwa [show au.add 0 = au from by unfold Addr.add; simp] at this
  have HH := Lib.hid h
  obtain ⟨Av, cv, rfl, h1, h2, h3⟩ := h.open_
  unfold maxLen at h2
  have H3 := Lib.hid h3
  have HS := Lib.hid hg.small
  have HG := Lib.hid hg
  clear h h3 hg
  have HMC := Lib.hid (fun x => mem_comp (b := x) (a := a) HG.out)
  have HDS := Lib.hid (fun x => dF_some (b := x) (a := a) HG.out)
  clear hrh huc u3 hu
  obtain ⟨w0, hw0⟩ : ∃ z, z = w.alloc (.cells #[.int .i64 (n : Int), .slice Av xss.length cv] 26) := ⟨_, rfl⟩
  have hb0 : Below w.heap.size w w0 := by rw [hw0]; exact bl_alloc (Below.refl _ _) _
  have hz0 : w0.heap.size = w.heap.size + 1 := by rw [hw0]; simp
  have HB0 := Lib.hid (show w0.heap[w.heap.size]? = some (.cells #[.int .i64 (n : Int), .slice Av xss.length cv] 26 (0, 0)) by rw [hw0]; exact heap_alloc_new _ _)
  have HW0 := Lib.hid hw0
  have hzz : w.heap.size + 1 ≤ w0.heap.size := by omega
  clear hw0 hz0
  obtain ⟨b0, b1, bf⟩ := cells2 HB0
  replace c0 := (hb0.cell hub).trans c0
  go_enter Tryz.func52, Tryz.ntmps52
  go_wp2_with fail
  rw [← HW0.out]
  refine wp_region_held_drew (S := fun w' => w'.cell? ⟨w.heap.size, 0, none⟩ = some (.int .i64 (n : Int)) ∧ w'.cell? ⟨w.heap.size, 1, none⟩ = some (.slice Av xss.length cv) ∧ w'.cell? au = some (.int .i64 (a : Int))) (by kernel_rfl) ?_ (fun hHeld => ?_)
  · go_keep
  refine tk 0 10 rfl rfl ?_
  try simp only [Act.put, pu]
  refine tk 1 11 rfl rfl ?_
  try simp only [Act.put, pu]
  refine tk 2 12 rfl rfl ?_
  try simp only [Act.put, pu]
  refine tk 3 13 rfl rfl ?_
  try simp only [Act.put, pu]
  refine tr 4 rfl (by kernel_rfl) (fun K hK => ?_)
  go_simp
  go_at_call 53
  refine (impl_distancesIn n _ xss a w0.drew ((HH.out.below (hb0.drew)).more (hb0.drew).size) HG.out han hv).mono ?_
  rintro e w2 ⟨g, rfl, hg2, hnum, hb2'⟩
  have hb2 : Below w0.heap.size w0 w2 := (Below.refl _ _).drew.trans hb2'
  clear hb2'
  have HN2 := Lib.hid hnum
  have HB2 := bk HB0 hb2 (by omega)
  have hb02 := hb0.trans (hb2.mono (by omega))
  replace c0 := (hb2.cell (by have := hb0.size; omega)).trans c0
  clear b0 b1 bf
  obtain ⟨b0, b1, bf⟩ := cells2 HB2
  refine hK.out _ _ ?_ (fun hHeld => ?_)
  · go_keep
  clear hK K
  try simp only [Act.put, pu]
  refine tk 5 5 rfl rfl ?_
  try simp only [Act.put, pu]
  refine wpAnyH_done (by kernel_rfl) ?_ _
  clear hHeld
  have hg2l := HN2.out.lt
  have hst : PoRel n xss a w2 (.int .i64 0) (.int .i64 0) w2 := ⟨0, Nat.zero_le _, rfl, by rw [List.take_zero, per_nil]; rfl, Below.refl _ _⟩
  have HST := Lib.hid hst
  clear hst hnum
  go_wp2_with fail
  clear b0 b1 bf c0
  go_loopw [6, 18] (fun d i wr => PoRel n xss a w2 d i wr) (fun _ i _ => xss.length - (intOf i).toNat)
  case atStart => exact HST.out
  case round =>
    clear HST
    obtain ⟨k, hk, rfl, rfl, hbl⟩ := hrel
    have hb03 := hb02.trans (hbl.mono (by have := hb02.size; omega))
    have hpl : perN (xss.take k) (mates (hasArc xss) a) (dF n xss a) ≤ n + 1 := per_le fun x _ => dF_le n xss a x
    by_cases hlt : k < xss.length
    · obtain ⟨xs, hx⟩ : ∃ x, xss[k]? = some x := ⟨xss[k], List.getElem?_eq_getElem hlt⟩
      obtain ⟨x, y, rfl, hx1, hy1⟩ := small_pair (HS.out xs (List.mem_of_getElem? hx))
      have hxy : x < n ∧ y < n := arc_lt HG.out (List.mem_of_getElem? hx)
      obtain ⟨hxn, hyn⟩ := hxy
      obtain ⟨ad, rfl, hb, hc⟩ := H3.out (by omega)
      obtain ⟨q, hq, hrq⟩ := hc k _ hx
      have hcell : wr.cell? (ad.add k) = some q := (hb03.cell (p := ad.add k) (by rw [block_add]; exact hb)).trans hq
      obtain ⟨A1, c1, rfl, g1, g2, g3⟩ := (hrq.below hb03).open_
      obtain ⟨ad1, rfl, hb1, hc1⟩ := g3 (by simp)
      have k0 := hc1 0 _ rfl
      have k1 := hc1 1 _ rfl
      have e0 : ad1.add 0 = ad1 := by unfold Addr.add; simp
      have e1 : ad1.add 1 = ⟨ad1.block, ad1.off + 1, none⟩ := by unfold Addr.add; simp
      rw [e0] at k0
      rw [e1] at k1
      have HUr := Lib.hid ((HU.out.below hb03).more hb03.size)
      have HTK : xss.take (k + 1) = xss.take k ++ [[(x : Int), (y : Int)]] := by
        obtain ⟨hk', e⟩ := List.getElem?_eq_some_iff.1 hx
        rw [List.take_succ_eq_append_getElem hk', e]
      clear hc hrq hq g3 hc1 e0 e1 hx
      by_cases hcx : x ∈ compL xss a
      · have tx : (x : Int) ∈ natsI (compL xss a) := natsI_mem.2 hcx
        by_cases hcy : y ∈ compL xss a
        · have ty : (y : Int) ∈ natsI (compL xss a) := natsI_mem.2 hcy
          have hmx := (HMC.out x).1 hcx
          have hmy := (HMC.out y).1 hcy
          have HE := Lib.hid (show perN (xss.take (k + 1)) (mates (hasArc xss) a) (dF n xss a) = Nat.gcd (perN (xss.take k) (mates (hasArc xss) a) (dF n xss a)) (dft (dF n xss a) x y).natAbs by rw [HTK]; exact per_in ⟨hmx, hmy⟩)
          have hdx := HN2.out.cell (dL_at (xss := xss) (a := a) (k := n + 1) hxn)
          have hdy := HN2.out.cell (dL_at (xss := xss) (a := a) (k := n + 1) hyn)
          rw [HDS.out x hmx] at hdx
          rw [HDS.out y hmy] at hdy
          replace hdx := (hbl.cell (p := ⟨g, x, none⟩) hg2l).trans hdx
          replace hdy := (hbl.cell (p := ⟨g, y, none⟩) hg2l).trans hdy
          have hfx := dF_le n xss a x
          have hfy := dF_le n xss a y
          unfold dft at HE
          clear hcx hcy hmx hmy HTK
          generalize dF n xss a x = fx at *
          generalize dF n xss a y = fy at *
          generalize perN (xss.take k) (mates (hasArc xss) a) (dF n xss a) = d at *
          go_wp2_with (go_at_call 77; refine (impl_Contains _ _ _ _ HUr.out).mono ?_; rintro e w' ⟨rfl, rfl⟩)
          go_region
          go_wp2_with fail
          rw [abs_max]
          obtain ⟨M, hM⟩ : ∃ M, M = ((fx : Int) + 1 - fy).natAbs := ⟨_, rfl⟩
          have hMl : M ≤ 20 := by omega
          rw [← hM] at HE ⊢
          clear hM
          obtain ⟨w4, hw4⟩ : ∃ z, z = (wr.alloc (.cells #[.int .i64 (d : Int), .int .i64 (M : Int)] 3)).drew := ⟨_, rfl⟩
          have hh : w4.heap[wr.heap.size]? = some (.cells #[.int .i64 (d : Int), .int .i64 (M : Int)] 3 (0, 0)) := by rw [hw4]; exact heap_alloc_new _ _
          have hb4 : Below wr.heap.size wr w4 := by rw [hw4]; exact (bl_alloc (Below.refl _ _) _).drew
          rw [← hw4]
          refine (impl_gcd _ [d, M] w4 (ints2 (x := (d : Int)) (y := (M : Int)) hh (by unfold I64; omega) (by unfold I64; omega)) (by intro z hz; simp at hz; omega)).mono ?_
          rintro e w5 ⟨rfl, n5, rfl⟩
          rw [show gcdL [d, M] = Nat.gcd d M by simp [gcdL]]
          have hbl5 := bl_drewN (hbl.trans ((bl_alloc (Below.refl wr.heap.size wr) (.cells #[.int .i64 (d : Int), .int .i64 (M : Int)] 3)).mono hbl.size)) (1 + n5)
          go_wp2_with fail
          go_roundw
          case rel => exact ⟨k + 1, by omega, by go_num, by rw [HE.out], hbl5⟩
          case measure => simp [intOf]; omega
        · have ty : ¬ (y : Int) ∈ natsI (compL xss a) := fun h => hcy (natsI_mem.1 h)
          have HE := Lib.hid (show perN (xss.take (k + 1)) (mates (hasArc xss) a) (dF n xss a) = perN (xss.take k) (mates (hasArc xss) a) (dF n xss a) by rw [HTK]; exact per_out fun h => hcy ((HMC.out y).2 h.2))
          clear hcx hcy HTK
          go_wp2_with (go_at_call 77; refine (impl_Contains _ _ _ _ HUr.out).mono ?_; rintro e w' ⟨rfl, rfl⟩)
          go_roundw
          case rel => exact ⟨k + 1, by omega, by go_num, by rw [HE.out], hbl⟩
          case measure => simp [intOf]; omega
      · have tx : ¬ (x : Int) ∈ natsI (compL xss a) := fun h => hcx (natsI_mem.1 h)
        have HE := Lib.hid (show perN (xss.take (k + 1)) (mates (hasArc xss) a) (dF n xss a) = perN (xss.take k) (mates (hasArc xss) a) (dF n xss a) by rw [HTK]; exact per_out fun h => hcx ((HMC.out x).2 h.1))
        clear hcx HTK
        go_wp2_with (go_at_call 77; refine (impl_Contains _ _ _ _ HUr.out).mono ?_; rintro e w' ⟨rfl, rfl⟩)
        go_roundw
        case rel => exact ⟨k + 1, by omega, by go_num, by rw [HE.out], hbl⟩
        case measure => simp [intOf]; omega
    · have e1 : xss.take k = xss := List.take_of_length_le (by omega)
      rw [e1]
      clear e1
      go_wp2_with fail
      go_ret
      exact ⟨rfl, hb03⟩
end Go.Proofs.YtjhljipehnmbnaaGreat
