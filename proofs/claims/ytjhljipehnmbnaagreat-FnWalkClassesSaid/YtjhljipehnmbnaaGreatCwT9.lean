/-
  Counting what is not reached; a row of rows of numbers one of whose rows is replaced. No program in sight, no condition.
  Walk problems, the reference's side: the ranks, periods and residues of labels.
-/
import Derived.Test.YtjhljipehnmbnaaGreatCwIA
import Derived.Test.YtjhljipehnmbnaaGreatCwT7
namespace Go.Proofs.YtjhljipehnmbnaaGreat
section
open Go.RowKit
set_option linter.unusedVariables false
theorem gb_at {w w' : World} {g : Nat} (h : w.grownBy w' (some g)) {p : Addr} {v : Value} (hc : w.cell? p = some v) (hne : p.block ≠ g) : w'.cell? p = some v :=
  (h.cell_far p (World.block_lt_of_cell? _ _ hc) (fun e => hne (Option.some.inj e))).trans hc
theorem split_len {p q : Nat → Prop} : ∀ n, (∀ c, c < n → (p c ↔ ¬ q c)) → (lsTo p n).length + (lsTo q n).length = n
  | 0, _ => rfl
  | n + 1, h => by
    have ih := split_len n fun c hc => h c (by omega)
    have h1 := h n (Nat.lt_succ_self n)
    by_cases hq : q n
    · rw [lsTo_t hq, lsTo_f (fun hp => h1.1 hp hq), List.length_append, List.length_singleton]; omega
    · rw [lsTo_f hq, lsTo_t (h1.2 hq), List.length_append, List.length_singleton]; omega
/-- Another label that is not reached. -/
def unP (xss : List (List Int)) (a c : Nat) : Prop := a ≠ c ∧ ¬ rc (hasArc xss) a c
theorem rk_count {n : Nat} {xss : List (List Int)} (hg : Good n xss) {a : Nat} (ha : a < n) : (lsTo (unP xss a) n).length = rkN n xss a := by
  have hn := good_n hg
  unfold rkN closN
  rw [bl_set, ← lsTo_all hn.2 fun b h1 h2 ⟨k, _, h3⟩ => by
    have := wk_lt hg ha h3
    omega]
  have := split_len (p := unP xss a) (q := fun b => ∃ k, k ≤ n ∧ wk (hasArc xss) k a b) n fun c hc => by
    unfold unP
    constructor
    · rintro ⟨h1, h2⟩ ⟨k, _, h3⟩
      rcases Nat.eq_zero_or_pos k with rfl | h0
      · exact h1 h3
      · exact h2 ⟨k, h0, h3⟩
    · intro h
      refine ⟨fun e => h ⟨0, Nat.zero_le _, e⟩, fun h2 => ?_⟩
      obtain ⟨j, _, h4, h5⟩ := rc_short (fun x y => arc_lt hg) h2
      exact h ⟨j, h4, h5⟩
  omega
theorem row_next {n : Nat} {xss : List (List Int)} {D : List Nat} {x p q : Nat} (hp : perA n xss (rootN xss x) = p) (hq : dF n xss (rootN xss x) x % p = q) :
    iRow 3 (fR n xss (D ++ [x]) x) = #[.int .i64 (fR n xss D x 0), .int .i64 (p : Int), .int .i64 (q : Int)] := by
  have h := fun b hb => fR_next (D := D) hp hq x b hb
  unfold iRow
  rw [show List.range 3 = [0, 1, 2] from rfl]
  simp only [List.map_cons, List.map_nil]
  rw [← h 0 (by omega), ← h 1 (by omega), ← h 2 (by omega)]
  simp
theorem off_next {n : Nat} {xss : List (List Int)} {D : List Nat} {x p q : Nat} (hp : perA n xss (rootN xss x) = p) (hq : dF n xss (rootN xss x) x % p = q) {a b : Nat} (ha : a ≠ x) (hb : b < 3) : fR n xss D a b = fR n xss (D ++ [x]) a b := by
  rw [← fR_next (D := D) hp hq a b hb]
  simp [ha]
theorem OwnMI.frozen {w : World} {base go n c m : Nat} {gs : List Nat} {f : Nat → Nat → Int} (h : OwnMI w base (.slice (some ⟨go, 0, none⟩) n c) m gs f) (o : Nat) : w.frozen? ⟨go, o, none⟩ = false := by
  rcases h.row.2 with ⟨e', _⟩ | ⟨g', cap, cur, e', _, hh, _⟩
  · cases e'
  · cases e'
    exact frozen_of_row _ _ o _ _ hh
theorem OwnMI.replace {w w1 : World} {base go n c m x P : Nat} {gs : List Nat} {f f' : Nat → Nat → Int} (h : OwnMI w base (.slice (some ⟨go, 0, none⟩) n c) m gs f) (hgs : gs.length = n) (hx : x < n) (hb : Below w.heap.size w w1) (hP : w.heap.size ≤ P) (hB : base ≤ w.heap.size) (hP1 : P < w1.heap.size)
    (hnew : w1.heap[P]? = some (Obj.cells (iRow m (f' x)) 3 (0, 0))) (hf : ∀ a, a < n → a ≠ x → ∀ b, b < m → f a b = f' a b) :
    OwnMI (w1.setCell ⟨go, x, none⟩ (rowV m P)) base (.slice (some ⟨go, 0, none⟩) n c) m (gs.set x P) f' := by
  subst hgs
  have hgo := (h.row.lt go rfl).2
  have hr := ((own_keep4 h.row hb.size fun b _ hl => hb.block b hl).stored x (rowV m P)).1
  refine ⟨by rw [List.length_set, List.map_set]; exact hr, ?_, fun g hg => ?_, fun a g hg => ?_⟩
  · have hPn : P ∉ gs := fun hm => by have := h.lt hm; omega
    unfold List.Nodup
    rw [List.pairwise_iff_getElem]
    intro i j hi hj hij
    rw [List.length_set] at hi hj
    rw [List.getElem_set, List.getElem_set]
    have hnd := (List.pairwise_iff_getElem.1 h.nodup) i j hi hj hij
    split
    · rw [if_neg (by omega)]
      exact fun e => hPn (e ▸ List.getElem_mem hj)
    · split
      · exact fun e => hPn (e ▸ List.getElem_mem hi)
      · exact hnd
  · rcases List.mem_or_eq_of_mem_set hg with hg | rfl
    · exact h.ge g hg
    · omega
  · rw [List.getElem?_set] at hg
    split at hg
    · rename_i e
      subst e
      cases hg
      rw [Below.heap_setCell _ _ _ _ (by simp; omega)]
      exact hnew
    · rename_i e
      have hl := (List.getElem?_eq_some_iff.1 hg).1
      have hne : g ≠ go := fun e2 => h.far (List.mem_of_getElem? hg) (by rw [e2]; rfl)
      rw [Below.heap_setCell _ _ _ _ (by simpa using hne), hb.block g (h.lt (List.mem_of_getElem? hg)), h.blk a g hg]
      unfold iRow
      rw [List.map_congr_left fun b hb => by rw [hf a hl (fun e2 => e e2.symm) b (List.mem_range.1 hb)]]
end
section
open Go.RowKit
set_option linter.unusedVariables false
set_option linter.unusedSimpArgs false
def UnRel (xss : List (List Int)) (n a : Nat) (w : World) (s i : Value) (wr : World) : Prop :=
  w = wr ∧ ∃ c : Nat, c ≤ n ∧ i = .int .i64 c ∧ s = .int .i64 ((lsTo (unP xss a) c).length : Int)
def T2Rel (n : Nat) (xss : List (List Int)) (base go capo : Nat) (w2 : World) (i : Value) (wr : World) : Prop :=
  ∃ (k : Nat) (gs : List Nat), k ≤ (roots xss n).length ∧ i = .int .i64 k ∧ gs.length = n ∧ OwnMI wr base (.slice (some ⟨go, 0, none⟩) n capo) 3 gs (fR n xss (catL xss ((roots xss n).take k))) ∧ w2.grownBy wr (some go)
def T3Rel (n : Nat) (xss : List (List Int)) (base go capo : Nat) (D K : List Nat) (w3 : World) (i : Value) (wr : World) : Prop :=
  ∃ (j : Nat) (gs : List Nat), j ≤ K.length ∧ i = .int .i64 j ∧ gs.length = n ∧ OwnMI wr base (.slice (some ⟨go, 0, none⟩) n capo) 3 gs (fR n xss (D ++ K.take j)) ∧ w3.grownBy wr (some go)
set_option maxRecDepth 100000 in
set_option maxHeartbeats 4000000 in
theorem spec_waRanks (n : Nat) (v : Value) (xss : List (List Int)) (w : World) (h : RowsR w w.heap.size v xss) (hg : Good n xss) :
    Calls Tryz.prog 61 #[.agg #[.int .i64 (n : Int), v]] w (RkPost n xss w) := by
  have hn := good_n hg
  have HH := Lib.hid h; clear h
  have HG := Lib.hid hg; clear hg
  have hrl := roots_len xss n
  obtain ⟨w0, hw0⟩ : ∃ z, z = w.alloc (.cells #[.int .i64 (n : Int), v] 26) := ⟨_, rfl⟩
  have hb0 : Below w.heap.size w w0 := by rw [hw0]; exact bl_alloc (Below.refl _ _) _
  have hz0 : w0.heap.size = w.heap.size + 1 := by rw [hw0]; simp
  have HB0 := Lib.hid (show w0.heap[w.heap.size]? = some (.cells #[.int .i64 (n : Int), v] 26 (0, 0)) by rw [hw0]; exact heap_alloc_new _ _)
  have HW0 := Lib.hid hw0
  have hzz : w.heap.size < w0.heap.size := by omega
  clear hw0 hz0
  obtain ⟨b0, b1, bf⟩ := cells2 HB0
  go_enter Tryz.func61, Tryz.ntmps61
  go_wp2_with fail
  rw [← HW0.out]
  refine (spec_waReach n v xss w0 ((HH.out.below hb0).more hb0.size) HG.out).mono ?_
  rintro e w1 ⟨vm, gm, rfl, hgm, hown, hb1⟩
  have HB1 := bk HB0 hb1 (by omega)
  have hb01 := bl_trans hb0 hb1
  have hz1 := hb1.size
  have hrd := hown.reads (by omega)
  rw [hgm] at hrd
  obtain ⟨am, cm2, rfl, n1, n2, n3⟩ := hrd
  have HM3 := Lib.hid n3
  clear hown n3 b0 b1 bf
  have hst : R1Rel n xss w1 (.slice none 0 0) (.int .i64 0) w1 := ⟨0, [], Nat.zero_le _, rfl, rfl, ⟨World.ownsRow_nil _ _ _ _, List.nodup_nil, (fun _ h => by cases h), (fun _ _ h => by simp at h)⟩, Below.refl _ _⟩
  have HST := Lib.hid hst
  clear hst
  obtain ⟨b0, b1, bf⟩ := cells2 HB1
  go_wp2_with fail
  clear b0 b1 bf
  go_loopw [4, 5] (fun v i wr => R1Rel n xss w1 v i wr) (fun _ i _ => n - (intOf i).toNat)
  case atStart => exact HST.out
  case round =>
    clear HST
    obtain ⟨k, gs, hk, rfl, hgs, hown, hbl⟩ := hrel
    have HO := Lib.hid hown
    have hsz := hbl.size
    have HBr := bk HB1 hbl (by omega)
    have hb0r := bl_trans hb01 hbl
    obtain ⟨Ao, co, eo⟩ := own_sl hown.row
    rw [hgs] at eo
    subst eo
    by_cases hlt : k < n
    · obtain ⟨ax, cx, x1, x2, x3, x4⟩ := HM3.out k hlt
      replace x1 := (hbl.cell (p := am.add k) (by rw [block_add]; exact n2)).trans x1
      have HX4 := Lib.hid fun c hc => (hbl.cell (p := ax.add c) (by rw [block_add]; exact x3)).trans (x4 c hc)
      clear x4 hown
      obtain ⟨wq, hwq⟩ : ∃ z, z = wr := ⟨_, rfl⟩
      subst hwq
      obtain ⟨b0, b1, bf⟩ := cells2 HBr
      go_wp2_with fail
      go_loopw [6, 7] (fun s i wr => UnRel xss n k wq s i wr) (fun _ i _ => n - (intOf i).toNat)
      case atStart => exact ⟨rfl, 0, Nat.zero_le _, rfl, rfl⟩
      case round =>
        obtain ⟨rfl, c, hc, rfl, rfl⟩ := hrel
        have hul := lsTo_len (unP xss k) c
        by_cases hlc : c < n
        · by_cases hkc : k = c
          · have HU := Lib.hid (congrArg List.length (lsTo_f (p := unP xss k) (k := c) (fun h => h.1 hkc)))
            generalize (lsTo (unP xss k) c).length = q at *
            have hkc' : (k : Int) = (c : Int) := by omega
            go_wp2_with fail
            go_roundw
            case rel => exact ⟨rfl, c + 1, by omega, by go_num, by rw [HU.out]⟩
            case measure => simp [intOf]; omega
          · have kc := HX4.out c hlc
            have hkc' : ¬ ((k : Int) = (c : Int)) := by omega
            have hkc2 : ¬ (k = c) := hkc
            cases hrb : rcB xss k c with
            | true =>
              have HU := Lib.hid (congrArg List.length (lsTo_f (p := unP xss k) (k := c) (fun h => h.2 (propB_iff.1 hrb))))
              rw [hrb] at kc
              clear hrb
              generalize (lsTo (unP xss k) c).length = q at *
              go_wp2_with fail
              go_roundw
              case rel => exact ⟨rfl, c + 1, by omega, by go_num, by rw [HU.out]⟩
              case measure => simp [intOf]; omega
            | false =>
              have HU := Lib.hid (show (lsTo (unP xss k) (c + 1)).length = (lsTo (unP xss k) c).length + 1 by
                rw [lsTo_t (p := unP xss k) (k := c) ⟨hkc, fun h => by rw [show rcB xss k c = true from propB_t h] at hrb; cases hrb⟩, List.length_append]; rfl)
              rw [hrb] at kc
              clear hrb
              generalize (lsTo (unP xss k) c).length = q at *
              go_wp2_with fail
              go_roundw
              case rel => exact ⟨rfl, c + 1, by omega, by go_num, by rw [HU.out]; go_num⟩
              case measure => simp [intOf]; omega
        · obtain rfl : c = n := by omega
          have HRK := Lib.hid (rk_count HG.out hlt)
          have HI3 := Lib.hid (iRow3 c xss k)
          rw [HRK.out] at hul ⊢
          obtain ⟨w4, hw4⟩ : ∃ z, z = wq.alloc (.cells #[.int .i64 (rkN c xss k : Int), .int .i64 0, .int .i64 0] 3) := ⟨_, rfl⟩
          have hnew : w4.heap[wq.heap.size]? = some (.cells (iRow 3 (fR c xss [] gs.length)) 3 (0, 0)) := by rw [hw4, hgs, HI3.out]; exact heap_alloc_new _ _
          have hb4 : Below wq.heap.size wq w4 := by rw [hw4]; exact bl_alloc (Below.refl _ _) _
          have hz4 : wq.heap.size < w4.heap.size := by rw [hw4]; simp
          have hw4s : w4.heap.size = wq.heap.size + 1 := by rw [hw4]; simp
          have HO4 := Lib.hid (own_keep4 HO.out.row hb4.size fun b _ hl => hb4.block b hl)
          rw [hgs] at HO4
          have HNW := Lib.hid hnew
          have HW4 := Lib.hid hw4
          clear hnew hw4
          go_wp2_with (at_builtin; rw [← HW4.out]; refine wpList_append1 w4 rfl (.tmp 41) (.tmp 44) 24 rfl w1.heap.size 28 _ 24 Tryz.underlying24 sliceInfo rfl _ _ _ rfl _ rfl (by rw [hw4s]; rfl) HO4.out (by unfold maxLen; omega) (by omega) (by omega) ?_; intro v6 w6 hown6 hbl6 hgr6 hlt6 hob6; have HP := Lib.hid (HO.out.push (g := wq.heap.size) hb4 (Nat.le_refl _) hz4 HNW.out (by rw [hgs]; exact hown6) hgr6 hsz); have hbl7 := (hbl.trans (hb4.mono hsz)).trans hbl6; clear hown6 hgr6 hob6)
          go_roundw
          case rel => exact ⟨k + 1, gs ++ [wq.heap.size], by omega, by go_num, by rw [List.length_append, hgs]; rfl, HP.out, hbl7⟩
          case measure => simp [intOf]; omega
    · obtain rfl : k = n := by omega
      obtain ⟨wa, hwa⟩ : ∃ z, z = wr := ⟨_, rfl⟩
      subst hwa
      obtain ⟨b0, b1, bf⟩ := cells2 HBr
      go_wp2_with fail
      refine (spec_waParts k v xss wa ((HH.out.below hb0r).more hb0r.size) HG.out).mono ?_
      rintro e w2 ⟨lv, rfl, hlv, hb2⟩
      have HL := Lib.hid hlv
      obtain ⟨Al, cl, rfl⟩ := hlv.sl
      have HOU := Lib.hid (HO.out.up hb2)
      have hb02 := bl_trans hb0r hb2
      have hz2 := hb2.size
      obtain ⟨go, capo, ego, go1, go2, go3, go4⟩ := own_some HOU.out.row (by omega)
      rw [hgs] at go1 ego
      cases ego
      have hgoa : go < wa.heap.size := by
        obtain ⟨go', capo', e', _, _, _, h4⟩ := own_some HO.out.row (by omega)
        cases e'
        exact h4
      have hst : T2Rel k xss w1.heap.size go co w2 (.int .i64 0) w2 := ⟨0, gs, Nat.zero_le _, rfl, hgs, HOU.out, gb_below (Below.refl _ _)⟩
      have HST := Lib.hid hst
      clear hlv hst hown b0 b1 bf
      go_wp2_with fail
      go_loopw [49] (fun i wr => T2Rel k xss w1.heap.size go co w2 i wr) (fun i _ => (roots xss k).length - (intOf i).toNat)
      case atStart => exact HST.out
      case round =>
        clear HST
        obtain ⟨i, gs, hi, rfl, hgs, hown, hgr⟩ := hrel
        have HO2 := Lib.hid hown
        have HGR := Lib.hid hgr
        have hsz2 := hgr.size
        clear hown hgr
        by_cases hli : i < (roots xss k).length
        · obtain ⟨r, hr⟩ : ∃ r, (roots xss k)[i]? = some r := ⟨_, List.getElem?_eq_getElem hli⟩
          obtain ⟨gl, cl', x, y, z, e1, hglb, hgl, -, -, kx, ky, kz, hR⟩ := HL.out.at_ hli
          cases e1
          obtain ⟨hIx, rfl, hIz, hBx, hBz⟩ := hR r hr
          obtain ⟨Ax, cx, rfl, x1, x2, x3⟩ := hIx.open_
          obtain ⟨Az, cz, rfl, z1, z2, z3⟩ := hIz.open_
          have hrz : (natsI (resL k xss r)).length = (compL xss r).length := by rw [natsI_len]; simp [resL]
          rw [natsI_len] at x1 x3 kx hBx
          rw [hrz] at z1 z3 kz hBz
          have hroot : isRoot xss r := (mem_lsTo.1 (List.mem_of_getElem? hr)).2
          have hrc := root_head HG.out hroot
          have hcl0 : 0 < (compL xss r).length := (List.getElem?_eq_some_iff.1 hrc).1
          have hcl12 : (compL xss r).length ≤ 12 := lsP_len _
          obtain ⟨ad, rfl, had, hcx⟩ := x3 hcl0
          obtain ⟨az, rfl, haz, hcz⟩ := z3 hcl0
          have hadb := hBx ad _ _ rfl
          have hazb := hBz az _ _ rfl
          have HCX := Lib.hid hcx
          have HCZ := Lib.hid hcz
          have HTK := Lib.hid (show (roots xss k).take (i + 1) = (roots xss k).take i ++ [r] by
            obtain ⟨hk', rfl⟩ := List.getElem?_eq_some_iff.1 hr
            exact List.take_succ_eq_append_getElem hk')
          replace kx := gb_cell HGR.out kx (by omega)
          replace ky := gb_cell HGR.out ky (by omega)
          replace kz := gb_cell HGR.out kz (by omega)
          have hpl := perA_le k xss r
          have HRE := Lib.hid (fun x => rootN_eq (a := x) HG.out hroot)
          have HCM := Lib.hid (fun x => mem_comp (b := x) (a := r) HG.out)
          obtain ⟨wq, hwq⟩ : ∃ z, z = wr := ⟨_, rfl⟩
          subst hwq
          obtain ⟨wb, hwb⟩ : ∃ z, z = wq.alloc (.cells #[.slice (some ad) (compL xss r).length cx, .int .i64 (perA k xss r : Int), .slice (some az) (compL xss r).length cz] 79) := ⟨_, rfl⟩
          have hbb : Below wq.heap.size wq wb := by rw [hwb]; exact bl_alloc (Below.refl _ _) _
          have hbz : wb.heap.size = wq.heap.size + 1 := by rw [hwb]; simp
          have HBX := Lib.hid (show wb.heap[wq.heap.size]? = some (.cells #[.slice (some ad) (compL xss r).length cx, .int .i64 (perA k xss r : Int), .slice (some az) (compL xss r).length cz] 79 (0, 0)) by rw [hwb]; exact heap_alloc_new _ _)
          have HWB := Lib.hid hwb
          have hst : T3Rel k xss w1.heap.size go co (catL xss ((roots xss k).take i)) (compL xss r) wb (.int .i64 0) wb := ⟨0, gs, Nat.zero_le _, rfl, hgs, by rw [List.take_zero, List.append_nil]; exact HO2.out.up hbb, gb_below (Below.refl _ _)⟩
          have HST := Lib.hid hst
          clear hIx hIz hR x3 z3 hr hroot hrc hst hwb hcx hcz hBx hBz
          go_wp2_with fail
          rw [← HWB.out]
          clear kx ky kz
          go_loopw [56] (fun i' wr => T3Rel k xss w1.heap.size go co (catL xss ((roots xss k).take i)) (compL xss r) wb i' wr) (fun i' _ => (compL xss r).length - (intOf i').toNat)
          case atStart => exact HST.out
          case round =>
            clear HST
            obtain ⟨j, gs, hj, rfl, hgs, hown, hgr⟩ := hrel
            have HO4 := Lib.hid hown
            have HG4 := Lib.hid hgr
            have hsz4 := hgr.size
            clear hown hgr
            by_cases hlj : j < (compL xss r).length
            · obtain ⟨x, hx⟩ : ∃ x, (compL xss r)[j]? = some x := ⟨_, List.getElem?_eq_getElem hlj⟩
              have hxm := (HCM.out x).1 (List.mem_of_getElem? hx)
              have hxn := comp_lt HG.out (List.mem_of_getElem? hx)
              obtain ⟨gx, hgx⟩ : ∃ gx, gs[x]? = some gx := ⟨gs[x]'(by omega), List.getElem?_eq_getElem (by omega)⟩
              have kcx := gb_at HG4.out ((hbb.cell (p := ad.add j) (by rw [block_add]; omega)).trans (gb_at HGR.out (HCX.out j _ (natsI_at hx)) (by rw [block_add]; omega))) (by rw [block_add]; omega)
              have kcz := gb_at HG4.out ((hbb.cell (p := az.add j) (by rw [block_add]; omega)).trans (gb_at HGR.out (HCZ.out j _ (natsI_at (x := dF k xss r x % perA k xss r) (by unfold resL; rw [List.getElem?_map, hx]; rfl))) (by rw [block_add]; omega))) (by rw [block_add]; omega)
              have krow := HO4.out.row.cells (g := go) rfl x _ (by rw [List.getElem?_map, hgx]; rfl)
              rw [addr0] at krow
              unfold rowV at krow
              have hblk := HO4.out.blk x gx hgx
              have k0 : wr.cell? ⟨gx, 0, none⟩ = some (.int .i64 (fR k xss (catL xss ((roots xss k).take i) ++ (compL xss r).take j) x 0)) := by rw [cell_of_row wr gx 0 _ _ (0, 0) hblk]; exact iRow_at (by omega)
              have HBY := Lib.hid ((grN HG4.out (b := wq.heap.size) (by omega) (by omega)).trans HBX.out)
              obtain ⟨z0, z1', z2', zf⟩ := cells3 HBY
              have hRT := HRE.out x hxm
              have HRN := Lib.hid (row_next (n := k) (D := catL xss ((roots xss k).take i) ++ (compL xss r).take j) (x := x) (p := perA k xss r) (q := dF k xss r x % perA k xss r) (by rw [hRT]) (by rw [hRT]))
              have HON := Lib.hid (fun a b (ha : a ≠ x) (hb : b < 3) => off_next (n := k) (xss := xss) (D := catL xss ((roots xss k).take i) ++ (compL xss r).take j) (x := x) (p := perA k xss r) (q := dF k xss r x % perA k xss r) (by rw [hRT]) (by rw [hRT]) (a := a) (b := b) ha hb)
              have HTJ := Lib.hid (show (compL xss r).take (j + 1) = (compL xss r).take j ++ [x] by
                obtain ⟨hk', rfl⟩ := List.getElem?_eq_some_iff.1 hx
                exact List.take_succ_eq_append_getElem hk')
              have hfz : ∀ o, wr.frozen? ⟨go, o, none⟩ = false := by
                obtain ⟨h1, h2⟩ := HO4.out.row
                rcases h2 with ⟨e', _⟩ | ⟨g', cap, cur, e', _, hh, _⟩
                · cases e'
                · cases e'
                  exact fun o => frozen_of_row _ _ o _ _ hh
              have hgxl := HO4.out.lt (List.mem_of_getElem? hgx)
              have hgxn : gx ≠ go := fun e => HO4.out.far (List.mem_of_getElem? hgx) (by rw [e]; rfl)
              clear hx hgx hxm hblk hRT
              have hxi : (x : Int) < (k : Int) := by omega
              generalize dF k xss r x % perA k xss r = dq at *
              generalize fR k xss (catL xss ((roots xss k).take i) ++ (compL xss r).take j) x 0 = f0 at *
              have hk0r := k0
              have hz1r := z1'
              have hz2r := z2'
              have hkzr := kcz
              go_wp2_with fail
              refine wp_region_held_drew (S := fun w' => w'.cell? ⟨gx, 0, none⟩ = some (.int .i64 f0) ∧ w'.cell? ⟨wq.heap.size, 1, none⟩ = some (.int .i64 (perA k xss r : Int)) ∧ w'.cell? ⟨wq.heap.size, 2, none⟩ = some (.slice (some az) (compL xss r).length cz) ∧ w'.cell? (az.add j) = some (.int .i64 (dq : Int))) (by kernel_rfl) ?_ (fun hHeld => ?_)
              · go_keep
              refine tk 0 61 rfl rfl ?_
              try simp only [Act.put, pu]
              refine tk 1 62 rfl rfl ?_
              try simp only [Act.put, pu]
              refine tk 2 63 rfl rfl ?_
              try simp only [Act.put, pu]
              refine tk 3 64 rfl rfl ?_
              try simp only [Act.put, pu]
              refine tk 4 65 rfl rfl ?_
              try simp only [Act.put, pu]
              refine tk 8 69 rfl rfl ?_
              try simp only [Act.put, pu]
              refine tk 9 70 rfl rfl ?_
              try simp only [Act.put, pu]
              refine tk 10 71 rfl rfl ?_
              try simp only [Act.put, pu]
              refine tk 11 72 rfl rfl ?_
              try simp only [Act.put, pu]
              refine tk 12 73 rfl rfl ?_
              try simp only [Act.put, pu]
              refine tk 13 74 rfl rfl ?_
              try simp only [Act.put, pu]
              refine tk 14 75 rfl rfl ?_
              try simp only [Act.put, pu]
              refine wpAnyH_ready (rs := [5]) (by kernel_rfl) (by simp) ?_
              refine AllReadyH.cons rfl (fun K hK => ?_) AllReadyH.nil
              go_simp
              refine hK.out _ _ ?_ (fun hHeld => ?_)
              · go_keep
              clear hK K
              try simp only [Act.put, pu]
              refine tk 6 67 rfl rfl ?_
              try simp only [Act.put, pu]
              refine tk 7 68 rfl rfl ?_
              try simp only [Act.put, pu]
              refine wpAnyH_ready (rs := [15]) (by kernel_rfl) (by simp) ?_
              refine AllReadyH.cons rfl (fun K hK => ?_) AllReadyH.nil
              go_simp
              obtain ⟨wC, hwC⟩ : ∃ z, z = (wr.alloc (.cells #[.int .i64 f0, .int .i64 (perA k xss r : Int), .int .i64 (dq : Int)] 3)).drew := ⟨_, rfl⟩
              have hbC : Below wr.heap.size wr wC := by rw [hwC]; exact (bl_alloc (Below.refl _ _) _).drew
              have hzC : wC.heap.size = wr.heap.size + 1 := by rw [hwC]; simp
              have HNC := Lib.hid (show wC.heap[wr.heap.size]? = some (.cells (iRow 3 (fR k xss (catL xss ((roots xss k).take i) ++ (compL xss r).take j ++ [x]) x)) 3 (0, 0)) by rw [hwC, HRN.out]; exact heap_alloc_new wr _)
              rw [← hwC]
              clear hwC
              have hgol : go < wr.heap.size := by omega
              have hfC := (HO4.out.up hbC).frozen x
              replace krow := (hbC.cell (p := ⟨go, x, none⟩) hgol).trans krow
              replace k0 := (hbC.cell (p := ⟨gx, 0, none⟩) hgxl).trans k0
              replace z1' := (hbC.cell (p := ⟨wq.heap.size, 1, none⟩) (by show wq.heap.size < _; omega)).trans z1'
              replace z2' := (hbC.cell (p := ⟨wq.heap.size, 2, none⟩) (by show wq.heap.size < _; omega)).trans z2'
              replace kcz := (hbC.cell (p := az.add j) (by rw [block_add]; omega)).trans kcz
              clear z0 zf kcx
              refine hK.out _ _ ?_ (fun hHeld => ?_)
              · go_keep
              clear hK K
              try simp only [Act.put, pu]
              refine tk 16 77 rfl rfl ?_
              try simp only [Act.put, pu]
              refine wpAnyH_ready (rs := [17]) (by kernel_rfl) (by simp) ?_
              refine AllReadyH.cons rfl (fun K hK => ?_) AllReadyH.nil
              go_simp
              obtain ⟨wD, hwD⟩ : ∃ z, z = wC.setCell ⟨go, x, none⟩ (.slice (some ⟨wr.heap.size, 0, none⟩) 3 3) := ⟨_, rfl⟩
              have HOD := Lib.hid (show OwnMI wD w1.heap.size (.slice (some ⟨go, 0, none⟩) k co) 3 (gs.set x wr.heap.size) (fR k xss (catL xss ((roots xss k).take i) ++ (compL xss r).take j ++ [x])) by
                rw [hwD]
                exact HO4.out.replace hgs hxn hbC (Nat.le_refl _) (by omega) (by omega) HNC.out fun a _ ha b hb => HON.out a b ha hb)
              have HGD := Lib.hid (show wr.grownBy wD (some go) by rw [hwD]; exact gb_set (gb_below hbC))
              rw [← hwD]
              clear hwD
              replace k0 := gb_cell HGD.out (show wr.cell? ⟨gx, 0, none⟩ = some (.int .i64 f0) from hk0r) hgxn
              replace z1' := gb_cell HGD.out hz1r (by omega)
              replace z2' := gb_cell HGD.out hz2r (by omega)
              replace kcz := gb_at HGD.out hkzr (by rw [block_add]; omega)
              clear krow hfC
              refine hK.out _ _ ?_ (fun hHeld => ?_)
              · go_keep
              clear hK K
              try simp only [Act.put, pu]
              refine wpAnyH_done (by kernel_rfl) ?_ _
              go_wp2_with fail
              go_roundw
              case rel => exact ⟨j + 1, gs.set x wr.heap.size, by omega, by go_num, by rw [List.length_set]; exact hgs, by rw [HTJ.out, ← List.append_assoc]; exact HOD.out, grownT HG4.out HGD.out⟩
              case measure => simp [intOf]; omega
            · have e1 : (compL xss r).take j = compL xss r := List.take_of_length_le (by omega)
              rw [e1] at HO4
              clear e1
              have hgf := grownT (gq_step HGR.out hbb (by omega)) HG4.out
              go_wp2_with fail
              go_roundw
              case rel => exact ⟨i + 1, gs, by omega, by go_num, hgs, by rw [HTK.out, cat_snoc]; exact HO4.out, hgf⟩
              case measure => simp [intOf]; omega
        · have e1 : (roots xss k).take i = roots xss k := List.take_of_length_le (by omega)
          rw [e1] at HO2
          obtain ⟨bs, hr1, hr2, hr3⟩ := HO2.out.rows (by omega) fun a _ b _ => by have := fR_bd k xss (catL xss (roots xss k)) a b; unfold I64; omega
          rw [hgs] at hr1
          have HR1 := Lib.hid hr1
          have HR2 := Lib.hid hr2
          have HR3 := Lib.hid hr3
          have hbf := hb02.trans (gb_b HGR.out (B := w.heap.size) (by omega) (by omega))
          clear hr1 hr2 hr3 e1
          go_wp2_with fail
          go_ret
          refine ⟨_, bs, rfl, ?_, HR2.out, fun b hb => ⟨by have := (HR3.out b hb).1; have := hb01.size; omega, (HR3.out b hb).2⟩, hbf⟩
          exact HR1.out
end
end Go.Proofs.YtjhljipehnmbnaaGreat
