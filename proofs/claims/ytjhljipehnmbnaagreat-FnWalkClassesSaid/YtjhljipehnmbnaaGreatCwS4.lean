/-
  Walk problems, the reference's side: depths of the labels of a component.
-/
import Derived.Test.YtjhljipehnmbnaaGreatCwS3
import Derived.Test.YtjhljipehnmbnaaGreatPlainPer
import Derived.Test.YtjhljipehnmbnaaGreatCwIX
namespace Go.Proofs.YtjhljipehnmbnaaGreat
open Go.RowKit
set_option linter.unusedVariables false
set_option linter.unusedSimpArgs false
def dneg (d : List Int) : Nat := d.countP (· < 0)
theorem dneg_set : ∀ {d : List Int} {j : Nat} {x y : Int}, d[j]? = some x → x < 0 → 0 ≤ y → dneg (d.set j y) + 1 = dneg d
  | [], j, x, y, h, _, _ => by simp at h
  | z :: d, 0, x, y, h, hx, hy => by
    simp at h
    subst h
    unfold dneg
    rw [List.set_cons_zero, List.countP_cons_of_neg (by simp; omega), List.countP_cons_of_pos (by simpa using hx)]
  | z :: d, j + 1, x, y, h, hx, hy => by
    have ih := dneg_set (d := d) (j := j) (by simpa using h) hx hy
    unfold dneg at *
    rw [List.set_cons_succ, List.countP_cons, List.countP_cons]
    omega
theorem dneg_rep (n : Nat) : dneg (List.replicate n (-1)) = n := by
  unfold dneg
  rw [List.countP_replicate]
  simp
def dnegAt (w : World) (g : Nat) : Nat := match w.heap[g]? with | some (.cells c _ _) => dneg (c.toList.map intOf) | _ => 0
theorem dnegAt_eq {w : World} {g : Nat} {d : List Int} (h : NumsAt w g d) : dnegAt w g = dneg d := by
  unfold dnegAt
  rw [show w.heap[g]? = _ from h]
  simp only [List.map_map]
  congr 1
  conv => rhs; rw [← List.map_id d]
  exact List.map_congr_left fun x _ => rfl
def b2n (v : Value) : Nat := match v with | .bool true => 1 | _ => 0
/-- Depths as far as they are known. -/
structure DOk (n : Nat) (xss : List (List Int)) (r : Nat) (d : List Int) : Prop where
  len : d.length = n
  root : d[r]? = some 0
  all : ∀ (b : Nat) (x : Int), d[b]? = some x → -1 ≤ x ∧ x + dneg d + 1 ≤ n ∧ (0 ≤ x → mates (hasArc xss) r b ∧ wk (hasArc xss) x.toNat r b)
theorem DOk.start {n : Nat} {xss : List (List Int)} {r : Nat} (hr : r < n) (hm : mates (hasArc xss) r r) : DOk n xss r ((List.replicate n (-1)).set r 0) := by
  have hd := dneg_set (d := List.replicate n (-1)) (j := r) (x := -1) (y := 0) (by simp [hr]) (by omega) (by omega)
  rw [dneg_rep] at hd
  refine ⟨by simp, by simp [hr], fun b x hx => ?_⟩
  rw [List.getElem?_set] at hx
  split at hx
  · rename_i e
    subst e
    rw [if_pos (by simpa using hr)] at hx
    cases hx
    exact ⟨by omega, by omega, fun _ => ⟨hm, rfl⟩⟩
  · rw [List.getElem?_replicate] at hx
    split at hx
    · cases hx
      exact ⟨by omega, by omega, fun h => by omega⟩
    · cases hx
theorem DOk.next {n : Nat} {xss : List (List Int)} {r x y : Nat} {d : List Int} {dx dy : Int} (h : DOk n xss r d) (hxy : hasArc xss x y) (hx : d[x]? = some dx) (hy : d[y]? = some dy) (hx0 : 0 ≤ dx) (hy0 : dy < 0) (hm : mates (hasArc xss) r y) : DOk n xss r (d.set y (dx + 1)) := by
  have hd := dneg_set (y := dx + 1) hy hy0 (by omega)
  obtain ⟨a1, a2, a3⟩ := h.all x dx hx
  refine ⟨by rw [List.length_set]; exact h.len, ?_, fun b z hz => ?_⟩
  · rw [List.getElem?_set]
    split
    · rename_i e; subst e
      rw [h.root] at hy
      cases hy
      omega
    · exact h.root
  · rw [List.getElem?_set] at hz
    split at hz
    · rename_i e
      subst e
      split at hz
      · cases hz
        exact ⟨by omega, by omega, fun _ => ⟨hm, by
          rw [show (dx + 1).toNat = dx.toNat + 1 by omega]
          exact ⟨x, (a3 hx0).2, hxy⟩⟩⟩
      · cases hz
    · obtain ⟨b1, b2, b3⟩ := h.all b z hz
      exact ⟨b1, by omega, b3⟩
def Stuck (xss : List (List Int)) (r : Nat) (d : List Int) : Prop := ∀ (x y : Nat) (dx dy : Int), hasArc xss x y → d[x]? = some dx → d[y]? = some dy → 0 ≤ dx → dy < 0 → ¬ mates (hasArc xss) r y
theorem stuck_all {n : Nat} {xss : List (List Int)} (hg : Good n xss) {r : Nat} {d : List Int} (h : DOk n xss r d) (hs : Stuck xss r d) (hr : mates (hasArc xss) r r) : ∀ k b, wk (hasArc xss) k r b → mates (hasArc xss) r b → ∃ z, d[b]? = some z ∧ 0 ≤ z
  | 0, b, hw, _ => by
    cases (show r = b from hw)
    exact ⟨0, h.root, by omega⟩
  | k + 1, b, ⟨c, h1, h2⟩, hb => by
    have hc := mates_step hb h2 h1 hr
    obtain ⟨z, hz, hz0⟩ := stuck_all hg h hs hr k c h1 hc
    have hbn := (arc_lt hg h2).2
    obtain ⟨y, hy⟩ : ∃ y, d[b]? = some y := ⟨_, List.getElem?_eq_getElem (by rw [h.len]; exact hbn)⟩
    refine ⟨y, hy, ?_⟩
    rcases Int.lt_or_le y 0 with q | q
    · exact absurd hb (hs c b z y h2 hz hy hz0 q)
    · exact q
/-- The depths as numbers. -/
def dNat (d : List Int) (b : Nat) : Nat := (d.getD b 0).toNat
theorem dok_pot {n : Nat} {xss : List (List Int)} (hg : Good n xss) {r : Nat} {d : List Int} (h : DOk n xss r d) (hs : Stuck xss r d) (hr : mates (hasArc xss) r r) : Pot (hasArc xss) r (dNat d) ∧ ∀ b, mates (hasArc xss) r b → d[b]? = some (dNat d b : Int) ∧ dNat d b ≤ n := by
  have key : ∀ b, mates (hasArc xss) r b → d[b]? = some (dNat d b : Int) ∧ dNat d b ≤ n ∧ wk (hasArc xss) (dNat d b) r b := by
    intro b hb
    obtain ⟨k, _, hk⟩ := hb.1
    obtain ⟨z, hz, hz0⟩ := stuck_all hg h hs hr k b hk hb
    obtain ⟨a1, a2, a3⟩ := h.all b z hz
    have e : dNat d b = z.toNat := by unfold dNat; rw [List.getD_eq_getElem?_getD, hz]; rfl
    rw [e]
    exact ⟨by rw [hz]; congr 1; omega, by omega, (a3 hz0).2⟩
  refine ⟨⟨?_, fun b hb => (key b hb).2.2⟩, fun b hb => ⟨(key b hb).1, (key b hb).2.1⟩⟩
  unfold dNat
  rw [List.getD_eq_getElem?_getD, h.root]
  rfl
def DfRel (n : Nat) (w1 : World) (g : Nat) (i : Value) (wr : World) : Prop :=
  ∃ (a : Nat) (d : List Int), a ≤ n ∧ i = .int .i64 a ∧ FillTo n a (fun _ => -1) 0 d ∧ NumsAt wr g d ∧ Below g w1 wr
def DoRel (n : Nat) (xss : List (List Int)) (r : Nat) (w2 : World) (g : Nat) (ag : Value) (wr : World) : Prop :=
  ∃ (d : List Int) (b : Bool), ag = .bool b ∧ NumsAt wr g d ∧ DOk n xss r d ∧ (b = false → Stuck xss r d) ∧ Below g w2 wr
def DiR (n : Nat) (xss : List (List Int)) (r : Nat) (d0 : List Int) (w2 : World) (g : Nat) (ag i : Value) (wr : World) : Prop :=
  ∃ (k : Nat) (d : List Int) (b : Bool), k ≤ xss.length ∧ i = .int .i64 k ∧ ag = .bool b ∧ NumsAt wr g d ∧ DOk n xss r d ∧ dneg d ≤ dneg d0 ∧ (b = true → dneg d < dneg d0) ∧
    (b = false → d = d0 ∧ ∀ (i x y : Nat) (dx dy : Int), i < k → xss[i]? = some [(x : Int), (y : Int)] → d[x]? = some dx → d[y]? = some dy → 0 ≤ dx → dy < 0 → ¬ mates (hasArc xss) r y) ∧ Below g w2 wr
def DpPost (n : Nat) (xss : List (List Int)) (r : Nat) (w : World) (e : Ending) (w' : World) : Prop :=
  ∃ g d, e = .returned (.slice (some ⟨g, 0, none⟩) n n) ∧ w.heap.size ≤ g ∧ NumsAt w' g d ∧ d.length = n ∧ Pot (hasArc xss) r (dNat d) ∧ (∀ b, mates (hasArc xss) r b → d[b]? = some (dNat d b : Int) ∧ dNat d b ≤ n) ∧ Below w.heap.size w w'
set_option maxRecDepth 100000 in
set_option maxHeartbeats 2000000 in
theorem spec_waDepths (n : Nat) (v u : Value) (xss : List (List Int)) (r : Nat) (w : World) (h : RowsR w w.heap.size v xss) (hg : Good n xss) (hr : isRoot xss r) (hu : IntsR w w.heap.size u (natsI (compL xss r))) :
    Calls Tryz.prog 84 #[.agg #[.int .i64 (n : Int), v], u] w (DpPost n xss r w) := by
  have hn := good_n hg
  have hrn := (rc_lt (fun x y => arc_lt hg) hr.1.1).1
  have hrh := root_head hg hr
  have hcl : 0 < (compL xss r).length := (List.getElem?_eq_some_iff.1 hrh).1
  have HU := Lib.hid hu
  obtain ⟨Au, cu, rfl, u1, u2, u3⟩ := hu.open_
  unfold maxLen at u2
  rw [natsI_len] at u1 u3 HU ⊢
  obtain ⟨au, rfl, hub, huc⟩ := u3 hcl
  have c0 : w.cell? au = some (.int .i64 (r : Int)) := by
    have := huc 0 _ (natsI_at hrh)
    rwa [show au.add 0 = au from by unfold Addr.add; simp] at this
  have HH := Lib.hid h
  obtain ⟨Av, cv, rfl, h1, h2, h3⟩ := h.open_
  unfold maxLen at h2
  have H3 := Lib.hid h3
  have HS := Lib.hid hg.small
  have HG := Lib.hid hg
  have HR := Lib.hid hr
  have HMC := Lib.hid (fun x => mem_comp (b := x) (a := r) HG.out)
  clear h h3 hg hrh huc u3 hu hr
  have hmk := fun W => run_make1 (P := Tryz.prog) 28 3 (.int .i64 0) 8 Tryz.underlying28 intInfo rfl n (by omega) (by omega) W
  obtain ⟨w0, hw0⟩ : ∃ z, z = w.alloc (.cells #[.int .i64 (n : Int), .slice Av xss.length cv] 26) := ⟨_, rfl⟩
  have hb0 : Below w.heap.size w w0 := by rw [hw0]; exact bl_alloc (Below.refl _ _) _
  have hz0 : w0.heap.size = w.heap.size + 1 := by rw [hw0]; simp
  have HB0 := Lib.hid (show w0.heap[w.heap.size]? = some (.cells #[.int .i64 (n : Int), .slice Av xss.length cv] 26 (0, 0)) by rw [hw0]; exact heap_alloc_new _ _)
  have HW0 := Lib.hid hw0
  clear hw0
  go_enter Tryz.func84, Tryz.ntmps84
  go_wp2_with fail
  clear hmk
  rw [← HW0.out]
  obtain ⟨w1, hw1⟩ : ∃ z, z = w0.alloc (.cells (rowOf [] n (.int .i64 0)) 3) := ⟨_, rfl⟩
  have hb1 : Below (w.heap.size + 1) w0 w1 := by rw [hw1, ← hz0]; exact bl_alloc (Below.refl _ _) _
  have hN0 : NumsAt w1 (w.heap.size + 1) (List.replicate n 0) := by
    unfold NumsAt
    rw [hw1, ← hz0, heap_alloc_new]
    simp [rowOf, intV]
  rw [← hw1]
  clear hw1
  have hst : DfRel n w1 (w.heap.size + 1) (.int .i64 0) w1 := ⟨0, _, Nat.zero_le _, rfl, FillTo.start _ _ _, hN0, Below.refl _ _⟩
  have HST := Lib.hid hst
  have HB1 := bk HB0 hb1 (by omega)
  have hb01 := hb0.trans (hb1.mono (by omega))
  clear hst hN0 HB0 hb1 hb0 hz0
  go_loopw [15] (fun i wr => DfRel n w1 (w.heap.size + 1) i wr) (fun i _ => n - (intOf i).toNat)
  case atStart => exact HST.out
  case round =>
    clear HST
    obtain ⟨a, d, ha, rfl, hfill, hnum, hbl⟩ := hrel
    have HF := Lib.hid hfill
    have HN := Lib.hid hnum
    have hb02 := hb01.trans (hbl.mono (by omega))
    clear hfill hnum
    by_cases hlt : a < n
    · have kc := HN.out.cell (HF.out.2.2 a (Nat.le_refl _) hlt)
      have kf := HN.out.frozen a
      go_wp2_with fail
      go_roundw
      case rel => exact ⟨a + 1, _, by omega, by go_num, HF.out.next hlt, HN.out.set a (-1), hbl.setCell (Nat.le_refl _) _⟩
      case measure => simp [intOf]; omega
    · have hd := HF.out.all (show n ≤ a by omega)
      have hd2 : d = List.replicate n (-1) := by
        rw [hd, List.eq_replicate_iff]
        exact ⟨by simp, fun b hb => by obtain ⟨_, _, rfl⟩ := List.mem_map.1 hb; rfl⟩
      subst hd2
      clear hd HF
      have kc := (hb02.cell hub).trans c0
      have kr := HN.out.cell (i := r) (x := -1) (by simp [hrn])
      have kf := HN.out.frozen r
      have hn2 := HN.out.set r 0
      have hb2 := hbl.setCell (p := ⟨w.heap.size + 1, r, none⟩) (Nat.le_refl _) (.int .i64 0)
      have HOK := Lib.hid (DOk.start (n := n) (xss := xss) hrn HR.out.1)
      have HN2 := Lib.hid hn2
      go_wp2_with fail
      obtain ⟨w2, hw2⟩ : ∃ z, z = wr.setCell ⟨w.heap.size + 1, r, none⟩ (.int .i64 0) := ⟨_, rfl⟩
      rw [← hw2] at hb2 HN2 ⊢
      clear hw2 hn2 kc kr kf
      have hb3 := hb01.trans (hb2.mono (by omega))
      have HB2 := bk HB1 hb2 (by omega)
      have hst : DoRel n xss r w2 (w.heap.size + 1) (.bool true) w2 := ⟨_, true, rfl, HN2.out, HOK.out, (fun h => by cases h), Below.refl _ _⟩
      have HST := Lib.hid hst
      clear hst HOK HN2 HN hbl hb02
      go_loopw [7] (fun ag wr => DoRel n xss r w2 (w.heap.size + 1) ag wr) (fun ag wr => 2 * dnegAt wr (w.heap.size + 1) + b2n ag)
      case atStart => exact HST.out
      case round =>
        clear HST
        obtain ⟨d, b, rfl, hnum, hok, hstk, hbl⟩ := hrel
        have HN := Lib.hid hnum
        have HOK := Lib.hid hok
        have hb4 := hb3.trans (hbl.mono (by omega))
        have hdn := dnegAt_eq hnum
        cases b with
        | false =>
          have HSK := Lib.hid (hstk rfl)
          clear hstk hnum hok hdn
          go_wp2_with fail
          go_ret
          obtain ⟨p1, p2⟩ := dok_pot HG.out HOK.out HSK.out HR.out.1
          exact ⟨_, d, rfl, by omega, HN.out, HOK.out.len, p1, p2, hb4⟩
        | true =>
          obtain ⟨wq, hwq⟩ : ∃ z, z = wr := ⟨_, rfl⟩
          subst hwq
          have HDN := Lib.hid hdn
          have HB3 := bk HB2 hbl (by omega)
          obtain ⟨b0, b1, bf⟩ := cells2 HB3
          have hst : DiR n xss r d wq (w.heap.size + 1) (.bool false) (.int .i64 0) wq := ⟨0, d, false, Nat.zero_le _, rfl, rfl, HN.out, HOK.out, Nat.le_refl _, (fun h => by cases h), fun _ => ⟨rfl, fun i _ _ _ _ h => absurd h (by omega)⟩, Below.refl _ _⟩
          have HST := Lib.hid hst
          clear hst hstk hnum hok hdn
          go_wp2_with fail
          clear b0 b1 bf
          go_loopw [7, 31] (fun ag i wr => DiR n xss r d wq (w.heap.size + 1) ag i wr) (fun _ i _ => xss.length - (intOf i).toNat)
          case atStart => exact HST.out
          case round =>
            clear HST
            obtain ⟨k, d', ag, hk, rfl, rfl, hnum, hok, hle, hlt2, hsame, hbl2⟩ := hrel
            have HN' := Lib.hid hnum
            have HOK' := Lib.hid hok
            have HLT2 := Lib.hid hlt2
            have HSM := Lib.hid hsame
            have hb5 := hb4.trans (hbl2.mono (by omega))
            clear hnum hok hlt2 hsame
            by_cases hlt : k < xss.length
            · obtain ⟨xs, hx⟩ : ∃ x, xss[k]? = some x := ⟨xss[k], List.getElem?_eq_getElem hlt⟩
              obtain ⟨x, y, rfl, hx1, hy1⟩ := small_pair (HS.out xs (List.mem_of_getElem? hx))
              have hxy : hasArc xss x y := List.mem_of_getElem? hx
              obtain ⟨hxn, hyn⟩ := arc_lt HG.out hxy
              have HXY := Lib.hid hxy
              have HX := Lib.hid hx
              obtain ⟨ad, rfl, hbd, hc⟩ := H3.out (by omega)
              obtain ⟨q, hq, hrq⟩ := hc k _ hx
              have hcell : wr.cell? (ad.add k) = some q := (hb5.cell (p := ad.add k) (by rw [block_add]; exact hbd)).trans hq
              obtain ⟨A1, c1, rfl, g1, g2, g3⟩ := (hrq.below hb5).open_
              obtain ⟨ad1, rfl, hb1, hc1⟩ := g3 (by simp)
              have k0 := hc1 0 _ rfl
              have k1 := hc1 1 _ rfl
              have e0 : ad1.add 0 = ad1 := by unfold Addr.add; simp
              have e1 : ad1.add 1 = ⟨ad1.block, ad1.off + 1, none⟩ := by unfold Addr.add; simp
              rw [e0] at k0
              rw [e1] at k1
              obtain ⟨dx, hdx⟩ : ∃ z, d'[x]? = some z := ⟨_, List.getElem?_eq_getElem (by rw [HOK'.out.len]; exact hxn)⟩
              obtain ⟨dy, hdy⟩ : ∃ z, d'[y]? = some z := ⟨_, List.getElem?_eq_getElem (by rw [HOK'.out.len]; exact hyn)⟩
              have kx := HN'.out.cell hdx
              have ky := HN'.out.cell hdy
              have kf := HN'.out.frozen y
              have HDX := Lib.hid hdx
              have HDY := Lib.hid hdy
              have hdb := HOK'.out.all x dx hdx
              have HUr := Lib.hid ((HU.out.below hb5).more hb5.size)
              obtain ⟨hd1, hd2, -⟩ := hdb
              clear hc hrq hq g3 hc1 e0 e1 hx hxy hdx hdy
              have skip : (0 ≤ dx → dy < 0 → ¬ mates (hasArc xss) r y) → DiR n xss r d wq (w.heap.size + 1) (.bool ag) (.int .i64 ((k : Int) + 1)) wr := fun hno =>
                ⟨k + 1, d', ag, by omega, by push_cast; rfl, rfl, HN'.out, HOK'.out, hle, HLT2.out, fun h => ⟨(HSM.out h).1, fun i x' y' dx' dy' hi he h1 h2 h3 h4 => by
                  by_cases e : i = k
                  · subst e
                    rw [HX.out] at he
                    simp at he
                    obtain ⟨q1, q2⟩ := he
                    have q1 : x = x' := by omega
                    have q2 : y = y' := by omega
                    subst q1 q2
                    rw [HDX.out] at h1
                    rw [HDY.out] at h2
                    cases h1
                    cases h2
                    exact hno h3 h4
                  · exact (HSM.out h).2 i x' y' dx' dy' (by omega) he h1 h2 h3 h4⟩, hbl2⟩
              have HSKIP := Lib.hid skip
              clear skip
              by_cases hx0 : 0 ≤ dx
              · by_cases hy0 : dy < 0
                · cases hp : hasB (natsI (compL xss r)) (y : Int) with
                  | true =>
                    have hmy := (HMC.out y).1 (natsI_mem.1 (propB_iff.1 hp))
                    have HNX := Lib.hid (HOK'.out.next HXY.out HDX.out HDY.out hx0 hy0 hmy)
                    have hdec := dneg_set (y := dx + 1) HDY.out hy0 (by omega)
                    have HDC := Lib.hid hdec
                    clear hmy hdec
                    go_wp2_with (go_at_call 85; refine (spec_l1Has _ _ _ _ HUr.out).mono ?_; rintro e w' ⟨rfl, rfl⟩; rw [hp])
                    go_region
                    all_goals
                      go_wp2_with fail
                      go_roundw
                      case rel => exact ⟨k + 1, _, true, by omega, by go_num, rfl, HN'.out.set y (dx + 1), HNX.out, by have := HDC.out; omega, fun _ => by have := HDC.out; omega, (fun h => by cases h), (hbl2.setCell (Nat.le_refl _) _).drew⟩
                      case measure => simp [intOf]; omega
                  | false =>
                    have hnp : ¬ mates (hasArc xss) r y := fun h => by
                      have := propB_t (natsI_mem.2 ((HMC.out y).2 h))
                      unfold hasB at hp
                      rw [hp] at this
                      cases this
                    have HSK := Lib.hid (HSKIP.out fun _ _ => hnp)
                    clear hnp
                    go_wp2_with (go_at_call 85; refine (spec_l1Has _ _ _ _ HUr.out).mono ?_; rintro e w' ⟨rfl, rfl⟩; rw [hp])
                    go_roundw
                    case rel => exact HSK.out
                    case measure => simp [intOf]; omega
                · have HSK := Lib.hid (HSKIP.out fun _ h => absurd h hy0)
                  go_wp2_with fail
                  go_roundw
                  case rel => exact HSK.out
                  case measure => simp [intOf]; omega
              · have HSK := Lib.hid (HSKIP.out fun h => absurd h hx0)
                go_wp2_with fail
                go_roundw
                case rel => exact HSK.out
                case measure => simp [intOf]; omega
            · have hdn' := dnegAt_eq HN'.out
              have hm : 2 * dnegAt wr (w.heap.size + 1) + b2n (.bool ag) < 2 * dnegAt wq (w.heap.size + 1) + b2n (.bool true) := by
                rw [hdn', HDN.out]
                cases ag with
                | true => have := HLT2.out rfl; simp [b2n]; omega
                | false => simp [b2n]; omega
              have HM := Lib.hid hm
              have HSK := Lib.hid (show ag = false → Stuck xss r d' from fun h x y dx dy hxy h1 h2 h3 h4 => by
                obtain ⟨i, hi⟩ := List.mem_iff_getElem?.1 (show [(x : Int), (y : Int)] ∈ xss from hxy)
                exact (HSM.out h).2 i x y dx dy (by have := (List.getElem?_eq_some_iff.1 hi).1; omega) hi h1 h2 h3 h4)
              clear hm hdn'
              go_wp2_with fail
              go_roundw
              case rel => exact ⟨d', ag, rfl, HN'.out, HOK'.out, HSK.out, hbl.trans hbl2⟩
              case measure => exact HM.out
end Go.Proofs.YtjhljipehnmbnaaGreat
