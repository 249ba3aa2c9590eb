/-
  The reference's certificate of a walk problem.
  The reference's certificate of a walk problem, for every problem, valid or not.
-/
import Derived.Test.YtjhljipehnmbnaaGreatCwT9
import Derived.Test.YtjhljipehnmbnaaGreatCwTI
namespace Go.Proofs.YtjhljipehnmbnaaGreat
section
open Go.RowKit
set_option linter.unusedVariables false
set_option linter.unusedSimpArgs false
theorem ord_head {ys xs : List Int} (h : ordL ys xs < 0) (hy : ys.length = 2) (hx : xs.length = 2) : ys.headD 0 ≤ xs.headD 0 := by
  match ys, xs, hy, hx with
  | [y0, y1], [x0, x1], _, _ =>
    unfold ordL at h
    show y0 ≤ x0
    split at h
    · omega
    · split at h
      · omega
      · omega
theorem heads_le {n : Int} {xss : List (List Int)} (hg : Good n xss) {k : Nat} {ys : List Int} (hk : xss[k]? = some ys) : ∀ d {xs : List Int}, xss[k + d]? = some xs → ys.headD 0 ≤ xs.headD 0
  | 0, xs, h => by
    rw [Nat.add_zero, hk] at h
    cases h
    exact Int.le_refl _
  | d + 1, xs, h => by
    have hl := (List.getElem?_eq_some_iff.1 h).1
    obtain ⟨xs', e, h1, _, h2⟩ := hg.2 (k + (d + 1)) hl
    rw [h] at e; cases e
    obtain ⟨zs, hz, ho⟩ := h2 (by omega)
    rw [show k + (d + 1) - 1 = k + d by omega] at hz
    obtain ⟨zs', e, h3, _, _⟩ := hg.2 (k + d) (by omega)
    rw [hz] at e; cases e
    exact Int.le_trans (heads_le hg hk d hz) (ord_head ho h3 h1)
theorem loop_first {n : Int} {xss : List (List Int)} (hg : Good n xss) {k a : Nat} (hk : xss[k]? = some [(a : Int), (a : Int)]) (hno : ∀ j (b : Nat), j < k → xss[j]? ≠ some [(b : Int), (b : Int)]) : ∀ b, b < a → ¬ hasArc xss b b := by
  intro b hb h
  obtain ⟨j, hj⟩ := List.mem_iff_getElem?.1 h
  rcases Nat.lt_or_ge j k with q | q
  · exact hno j b q hj
  · obtain ⟨d, rfl⟩ : ∃ d, j = k + d := ⟨j - k, by omega⟩
    have := heads_le hg hk d hj
    simp at this
    omega
/-- What a certificate is, as one value. -/
def CqP (cl lb : Int) (F S : List Int) (R : List (List Int)) (w : World) (e : Ending) (w' : World) : Prop :=
  ∃ vf vs vr bf bs br, e = .returned (certVw cl lb vf vs vr) ∧ OwnInts w' 3 vf F bf ∧ OwnInts w' 3 vs S bs ∧ OwnRows w' 28 3 vr R br ∧ (bf ++ bs ++ br).Nodup ∧ (∀ x ∈ bf ++ bs ++ br, w.heap.size ≤ x ∧ x < w'.heap.size) ∧ Below w.heap.size w w'
theorem cq_none (w w' : World) (cl lb : Int) (hb : Below w.heap.size w w') : CqP cl lb [] [] [] w (.returned (certVw cl lb (.slice none 0 0) (.slice none 0 0) (.slice none 0 0))) w' :=
  ⟨_, _, _, [], [], [], rfl, ints_nil0 _ _, ints_nil0 _ _, rows_nil0 _ _ _, List.nodup_nil, (fun _ h => by cases h), hb⟩
def CkRel (n : Nat) (v : Value) (xss : List (List Int)) (r k0 : Nat) (w w3 w6 : World) (i : Value) (wr : World) : Prop :=
  ∃ (j : Nat) (vf : Value), 1 ≤ j ∧ j ≤ k0 + 1 ∧ i = .int .i64 j ∧ wr.heap[w.heap.size]? = some (.cells #[.int .i64 (n : Int), v] 26 (0, 0)) ∧
    wr.heap[w.heap.size + 1]? = some (.cells #[.int .i64 0, .int .i64 0, .slice none 0 0, .slice none 0 0, .slice none 0 0] 30 (0, 0)) ∧
    wr.heap[w3.heap.size]? = some (.cells #[.int .i64 1, .int .i64 (r : Int), vf, .slice none 0 0, .slice none 0 0] 30 (0, 0)) ∧
    (j ≤ k0 → vf = .slice none 0 0) ∧ (j = k0 + 1 → wr.ownsRow w6.heap.size 3 1 vf (wbL xss r r k0).length ((natsI (wbL xss r r k0)).map intV)) ∧ Below w.heap.size w wr ∧ w6.heap.size ≤ wr.heap.size
set_option maxRecDepth 100000 in
set_option maxHeartbeats 4000000 in
theorem spec_waCertify (n : Nat) (v : Value) (xss : List (List Int)) (w : World) (h : RowsR w w.heap.size v xss) (hg : Good n xss) :
    Calls Tryz.prog 29 #[.agg #[.int .i64 (n : Int), v]] w (CqP (classN n xss) (cwLb n xss) (natsI (cwF n xss)) (natsI (cwS n xss)) (cwR n xss) w) := by
  have hn := good_n hg
  have HH := Lib.hid h; clear h
  have HG := Lib.hid hg; clear hg
  obtain ⟨w0, hw0⟩ : ∃ z, z = w.alloc (.cells #[.int .i64 (n : Int), v] 26) := ⟨_, rfl⟩
  have hb0 : Below w.heap.size w w0 := by rw [hw0]; exact bl_alloc (Below.refl _ _) _
  have hz0 : w0.heap.size = w.heap.size + 1 := by rw [hw0]; simp
  have HB0 := Lib.hid (show w0.heap[w.heap.size]? = some (.cells #[.int .i64 (n : Int), v] 26 (0, 0)) by rw [hw0]; exact heap_alloc_new _ _)
  have HW0 := Lib.hid hw0
  obtain ⟨w1, hw1, hb1, HT1, hz1, HS1⟩ := box5 w0 (.int .i64 0) (.int .i64 0) (.slice none 0 0) (.slice none 0 0) (.slice none 0 0) 30
  have HW1 := Lib.hid hw1
  rw [hz0] at HT1
  have hzz : w.heap.size + 1 < w1.heap.size := by omega
  have HB1 := bk HB0 hb1 (by omega)
  have hb01 := bl_trans hb0 hb1
  clear hw0 hz0 hw1 HS1 hz1
  obtain ⟨b0, b1, bf⟩ := cells2 HB1
  go_enter Tryz.func29, Tryz.ntmps29
  go_wp2_with fail
  rw [← HW0.out, ← HW1.out]
  refine (spec_waClass n v xss w1 ((HH.out.below hb01).more hb01.size) HG.out).mono ?_
  rintro e w3 ⟨rfl, hb3⟩
  have hb03 := bl_trans hb01 hb3
  have HB3 := bk HB1 hb3 (by omega)
  have HT3 := bk HT1 hb3 (by omega)
  have hz3 := hb3.size
  clear b0 b1 bf
  obtain ⟨b0, b1, bf⟩ := cells2 HB3
  have HLB := Lib.hid (show cwLb n xss = _ from rfl)
  rcases class_cases n xss with ⟨hc, a, ha, haa⟩ | ⟨hc, hfl⟩ | ⟨hc, hrt⟩ | hc
  · have HC := Lib.hid hc
    rw [hc]
    clear hc HLB
    obtain ⟨w4, hw4, hb4, HK, hz4, HS4⟩ := box5 w3 (.int .i64 3) (.int .i64 0) (.slice none 0 0) (.slice none 0 0) (.slice none 0 0) 30
    have HW4 := Lib.hid hw4
    have HB := bk HB3 hb4 (by omega)
    have HT := bk HT3 hb4 (by omega)
    have hB := bl_trans hb03 hb4
    clear b0 b1 bf HB3 HT3 HS4
    obtain ⟨b0, b1, -⟩ := cells2 HB
    obtain ⟨⟨g0, g1, g2⟩, ⟨g3, g4⟩, gf⟩ := cells5 HK
    obtain ⟨⟨t0, t1, t2⟩, ⟨t3, t4⟩, tf⟩ := cells5 HT
    rw [hw4] at b0 b1 g0 g1 g2 g3 g4
    clear hw4 t0 t1 t2 t3 t4 tf gf
    go_wp2_with fail
    rw [← HW4.out]
    refine (spec_waLoop n v xss w4 ((HH.out.below hB).more hB.size) HG.out).mono ?_
    rintro e w5 ⟨i, rfl, hi, hb5⟩
    have hzhb5 := hb5.size
    replace HB := bk HB hb5 (by omega)
    replace HT := bk HT hb5 (by omega)
    replace HK := bk HK hb5 (by omega)
    replace hB := bl_trans hB hb5
    clear b0 b1 g0 g1 g2 g3 g4
    try clear gf t0 t1 t2 t3 t4 tf
    try clear B0 B1 G0 G1 G2 G3 G4 GF T0 T1 T2 T3 T4 TF
    obtain ⟨b0, b1, -⟩ := cells2 HB
    obtain ⟨⟨g0, g1, g2⟩, ⟨g3, g4⟩, gf⟩ := cells5 HK
    obtain ⟨⟨t0, t1, t2⟩, ⟨t3, t4⟩, tf⟩ := cells5 HT
    rcases hi with ⟨rfl, hno⟩ | ⟨k, l, rfl, hkl, hno⟩
    · exact absurd haa (hno a)
    · have hll : hasArc xss l l := List.mem_of_getElem? hkl
      have hlb : cwLb n xss = l := by unfold cwLb; rw [if_pos HC.out]; exact loop_head HG.out hll (loop_first HG.out hkl hno)
      have HF := Lib.hid (show cwF n xss = [] by unfold cwF; rw [HC.out]; rfl)
      have HSS := Lib.hid (show cwS n xss = [] by unfold cwS; rw [HC.out]; rfl)
      have HR := Lib.hid (show cwR n xss = [] by unfold cwR; rw [HC.out]; rfl)
      have HL := Lib.hid hlb
      clear hlb hll hno hkl haa
      obtain ⟨w6, hw6, hkw6, grw6⟩ := set1 HK.out 1 (.int .i64 (l : Int))
      have HW6 := Lib.hid hw6
      have hsw6 : w6.heap.size = w5.heap.size := by rw [hw6]; exact size_setCell _ _ _
      replace HB := Lib.hid ((grw6.block w.heap.size (by omega) (fun e => by injection e; omega)).trans HB.out)
      replace HT := Lib.hid ((grw6.block (w.heap.size + 1) (by omega) (fun e => by injection e; omega)).trans HT.out)
      replace HK := Lib.hid hkw6
      simp only [List.setIfInBounds_toArray, List.set_cons_zero, List.set_cons_succ] at HK
      replace hB := hB.grown grw6 hB.size (fun k hk => by cases hk; omega)
      clear hkw6
      obtain ⟨B0, B1, -⟩ := cells2 HB
      obtain ⟨⟨G0, G1, G2⟩, ⟨G3, G4⟩, Gf⟩ := cells5 HK
      obtain ⟨⟨T0, T1, T2⟩, ⟨T3, T4⟩, Tf⟩ := cells5 HT
      rw [hw6] at B0 B1 G0 G1 G2 G3 G4 T0 T1 T2 T3 T4
      clear Gf Tf
      have GF : ∀ i, (w5.setCell ⟨w3.heap.size, 1, none⟩ (.int .i64 (l : Int))).frozen? ⟨w3.heap.size, i, none⟩ = false := by rw [← hw6]; exact fun i => frozen_of_row _ _ i _ _ HK.out
      have TF : ∀ i, (w5.setCell ⟨w3.heap.size, 1, none⟩ (.int .i64 (l : Int))).frozen? ⟨w.heap.size + 1, i, none⟩ = false := by rw [← hw6]; exact fun i => frozen_of_row _ _ i _ _ HT.out
      clear hw6
      go_wp2_with fail
      rw [← HW6.out]
      obtain ⟨we, hwe, HE, hge⟩ := set5 HT (.int .i64 3) (.int .i64 (l:Int)) (.slice none 0 0) (.slice none 0 0) (.slice none 0 0)
      rw [← hwe]
      clear hwe
      obtain ⟨⟨z0, z1, z2⟩, ⟨z3, z4⟩, -⟩ := cells5 HE
      have hBe := hB.grown hge hB.size (fun k hk => by cases hk; omega)
      refine bodyPost_ret (v := certVw 3 (l:Int) (.slice none 0 0) (.slice none 0 0) (.slice none 0 0)) (by simp [results, Tryz.results29, go_sem, z0, z1, z2, z3, z4]) rfl ?_
      rw [HC.out, HL.out, HF.out, HSS.out, HR.out]
      exact cq_none w we 3 l hBe
  · have HC := Lib.hid hc
    have HH0 := Lib.hid (headD_at hfl)
    have HM0 := Lib.hid (mem_headD hfl)
    have HLB2 := Lib.hid (show cwLb n xss = (flexL n xss).headD 0 by unfold cwLb; rw [hc]; rfl)
    rw [hc]
    clear hc HLB
    obtain ⟨w4, hw4, hb4, HK, hz4, HS4⟩ := box5 w3 (.int .i64 2) (.int .i64 0) (.slice none 0 0) (.slice none 0 0) (.slice none 0 0) 30
    have HW4 := Lib.hid hw4
    have HB := bk HB3 hb4 (by omega)
    have HT := bk HT3 hb4 (by omega)
    have hB := bl_trans hb03 hb4
    clear b0 b1 bf HB3 HT3 HS4
    obtain ⟨b0, b1, -⟩ := cells2 HB
    obtain ⟨⟨g0, g1, g2⟩, ⟨g3, g4⟩, gf⟩ := cells5 HK
    obtain ⟨⟨t0, t1, t2⟩, ⟨t3, t4⟩, tf⟩ := cells5 HT
    rw [hw4] at b0 b1 g0 g1 g2 g3 g4
    clear hw4 t0 t1 t2 t3 t4 tf gf
    go_wp2_with fail
    rw [← HW4.out]
    refine (spec_waFlexible n v xss w4 ((HH.out.below hB).more hB.size) HG.out).mono ?_
    rintro e w5 ⟨u, rfl, -, hu, hb5⟩
    obtain ⟨Au, cu, rfl, u1, u2, u3⟩ := hu.open_
    rw [natsI_len] at u1 u3 ⊢
    obtain ⟨au, rfl, hub, huc⟩ := u3 hfl
    have kc := huc 0 _ (natsI_at HH0.out)
    rw [show au.add 0 = au from by unfold Addr.add; simp] at kc
    have hln := flex_lt HG.out HM0.out
    have hlf := HM0.out
    obtain ⟨l, hl⟩ : ∃ l, l = (flexL n xss).headD 0 := ⟨_, rfl⟩
    rw [← hl] at kc hln HLB2 hlf
    have HLF := Lib.hid hlf
    clear hl hu u3 huc HH0 HM0 hlf
    have hzhb5 := hb5.size
    replace HB := bk HB hb5 (by omega)
    replace HT := bk HT hb5 (by omega)
    replace HK := bk HK hb5 (by omega)
    replace hB := bl_trans hB hb5
    clear b0 b1 g0 g1 g2 g3 g4
    try clear gf t0 t1 t2 t3 t4 tf
    try clear B0 B1 G0 G1 G2 G3 G4 GF T0 T1 T2 T3 T4 TF
    obtain ⟨b0, b1, -⟩ := cells2 HB
    obtain ⟨⟨g0, g1, g2⟩, ⟨g3, g4⟩, gf⟩ := cells5 HK
    obtain ⟨⟨t0, t1, t2⟩, ⟨t3, t4⟩, tf⟩ := cells5 HT
    obtain ⟨w6, hw6, hkw6, grw6⟩ := set1 HK.out 1 (.int .i64 (l : Int))
    have HW6 := Lib.hid hw6
    have hsw6 : w6.heap.size = w5.heap.size := by rw [hw6]; exact size_setCell _ _ _
    replace HB := Lib.hid ((grw6.block w.heap.size (by omega) (fun e => by injection e; omega)).trans HB.out)
    replace HT := Lib.hid ((grw6.block (w.heap.size + 1) (by omega) (fun e => by injection e; omega)).trans HT.out)
    replace HK := Lib.hid hkw6
    simp only [List.setIfInBounds_toArray, List.set_cons_zero, List.set_cons_succ] at HK
    replace hB := hB.grown grw6 hB.size (fun k hk => by cases hk; omega)
    clear hkw6
    obtain ⟨B0, B1, -⟩ := cells2 HB
    obtain ⟨⟨G0, G1, G2⟩, ⟨G3, G4⟩, Gf⟩ := cells5 HK
    obtain ⟨⟨T0, T1, T2⟩, ⟨T3, T4⟩, Tf⟩ := cells5 HT
    rw [hw6] at B0 B1 G0 G1 G2 G3 G4 T0 T1 T2 T3 T4
    clear Gf Tf
    have GF : ∀ i, (w5.setCell ⟨w3.heap.size, 1, none⟩ (.int .i64 (l : Int))).frozen? ⟨w3.heap.size, i, none⟩ = false := by rw [← hw6]; exact fun i => frozen_of_row _ _ i _ _ HK.out
    have TF : ∀ i, (w5.setCell ⟨w3.heap.size, 1, none⟩ (.int .i64 (l : Int))).frozen? ⟨w.heap.size + 1, i, none⟩ = false := by rw [← hw6]; exact fun i => frozen_of_row _ _ i _ _ HT.out
    clear hw6
    go_wp2_with fail
    rw [← HW6.out]
    clear kc
    refine (spec_waFlexibility n v xss l w6 ((HH.out.below hB).more hB.size) HG.out hln HLF.out).mono ?_
    rintro e w7 ⟨rfl, hb7⟩
    have hzhb7 := hb7.size
    replace HB := bk HB hb7 (by omega)
    replace HT := bk HT hb7 (by omega)
    replace HK := bk HK hb7 (by omega)
    replace hB := bl_trans hB hb7
    clear b0 b1 g0 g1 g2 g3 g4
    try clear gf t0 t1 t2 t3 t4 tf
    try clear B0 B1 G0 G1 G2 G3 G4 GF T0 T1 T2 T3 T4 TF
    obtain ⟨b0, b1, -⟩ := cells2 HB
    obtain ⟨⟨g0, g1, g2⟩, ⟨g3, g4⟩, gf⟩ := cells5 HK
    obtain ⟨⟨t0, t1, t2⟩, ⟨t3, t4⟩, tf⟩ := cells5 HT
    have hkl : flexN xss l 288 ≤ 289 := down_le _ _
    have HF := Lib.hid (show cwF n xss = wbL xss l l (flexN xss l 288) by unfold cwF; rw [if_pos HC.out, HLB2.out])
    have HSS := Lib.hid (show cwS n xss = wbL xss l l (flexN xss l 288 + 1) by unfold cwS; rw [if_pos HC.out, HLB2.out])
    have HR := Lib.hid (show cwR n xss = [] by unfold cwR; rw [HC.out]; rfl)
    have HL1 := Lib.hid (fun k => wb_lt (a := l) (k := k) HG.out hln)
    generalize flexN xss l 288 = k at *
    go_wp2_with fail
    refine (spec_waBetween n v xss l l k w7 ((HH.out.below hB).more hB.size) HG.out hln hln (by omega)).mono ?_
    rintro e w8 ⟨vf, okf, rfl, hof, -, hb8⟩
    obtain ⟨bf, hf1, hf2, hf3⟩ := own_ints_of hof fun x hx => by have := HL1.out k x hx; omega
    have hf3' : ∀ b ∈ bf, w7.heap.size ≤ b ∧ b < w8.heap.size := hf3
    obtain ⟨Af, mf, cf, rfl⟩ := hf1.1.isSlice
    have HF1 := Lib.hid hf1
    have HF2 := Lib.hid hf2
    have HF3 := Lib.hid hf3'
    have hzhb8 := hb8.size
    replace HB := bk HB hb8 (by omega)
    replace HT := bk HT hb8 (by omega)
    replace HK := bk HK hb8 (by omega)
    replace hB := bl_trans hB hb8
    clear b0 b1 g0 g1 g2 g3 g4
    try clear gf t0 t1 t2 t3 t4 tf
    try clear B0 B1 G0 G1 G2 G3 G4 GF T0 T1 T2 T3 T4 TF
    obtain ⟨b0, b1, -⟩ := cells2 HB
    obtain ⟨⟨g0, g1, g2⟩, ⟨g3, g4⟩, gf⟩ := cells5 HK
    obtain ⟨⟨t0, t1, t2⟩, ⟨t3, t4⟩, tf⟩ := cells5 HT
    clear hof hf1 hf2 hf3 hf3'
    obtain ⟨wA, hwA, hkwA, grwA⟩ := set1 HK.out 2 (.slice Af mf cf)
    have HWA := Lib.hid hwA
    have hswA : wA.heap.size = w8.heap.size := by rw [hwA]; exact size_setCell _ _ _
    replace HB := Lib.hid ((grwA.block w.heap.size (by omega) (fun e => by injection e; omega)).trans HB.out)
    replace HT := Lib.hid ((grwA.block (w.heap.size + 1) (by omega) (fun e => by injection e; omega)).trans HT.out)
    replace HK := Lib.hid hkwA
    simp only [List.setIfInBounds_toArray, List.set_cons_zero, List.set_cons_succ] at HK
    replace hB := hB.grown grwA hB.size (fun k hk => by cases hk; omega)
    clear hkwA
    obtain ⟨B0, B1, -⟩ := cells2 HB
    obtain ⟨⟨G0, G1, G2⟩, ⟨G3, G4⟩, Gf⟩ := cells5 HK
    obtain ⟨⟨T0, T1, T2⟩, ⟨T3, T4⟩, Tf⟩ := cells5 HT
    rw [hwA] at B0 B1 G0 G1 G2 G3 G4 T0 T1 T2 T3 T4
    clear Gf Tf
    have GF : ∀ i, (w8.setCell ⟨w3.heap.size, 2, none⟩ (.slice Af mf cf)).frozen? ⟨w3.heap.size, i, none⟩ = false := by rw [← hwA]; exact fun i => frozen_of_row _ _ i _ _ HK.out
    have TF : ∀ i, (w8.setCell ⟨w3.heap.size, 2, none⟩ (.slice Af mf cf)).frozen? ⟨w.heap.size + 1, i, none⟩ = false := by rw [← hwA]; exact fun i => frozen_of_row _ _ i _ _ HT.out
    clear hwA
    go_wp2_with fail
    rw [← HWA.out]
    have hkw : IntKind.i64.wrap ((k : Int) + 1) = ((k + 1 : Nat) : Int) := by rw [IntWalk.i64_in _ (by omega)]; push_cast; rfl
    refine (spec_waBetween n v xss l l (k + 1) wA ((HH.out.below hB).more hB.size) HG.out hln hln (by omega)).mono ?_
    rintro e w9 ⟨vs, oks, rfl, hos, -, hb9⟩
    obtain ⟨bs, hs1, hs2, hs3⟩ := own_ints_of hos fun x hx => by have := HL1.out (k + 1) x hx; omega
    obtain ⟨As, ms, cs, rfl⟩ := hs1.1.isSlice
    have HS1 := Lib.hid hs1
    have HS2 := Lib.hid hs2
    have HS3 := Lib.hid hs3
    replace HF1 := Lib.hid (HF1.out.keep fun b hb => (hb9.block b (by have := (HF3.out b hb).2; omega)).trans (gr_ne grwA (HF3.out b hb).2 (by have := (HF3.out b hb).1; omega)))
    have hzhb9 := hb9.size
    replace HB := bk HB hb9 (by omega)
    replace HT := bk HT hb9 (by omega)
    replace HK := bk HK hb9 (by omega)
    replace hB := bl_trans hB hb9
    clear b0 b1 g0 g1 g2 g3 g4
    try clear gf t0 t1 t2 t3 t4 tf
    try clear B0 B1 G0 G1 G2 G3 G4 GF T0 T1 T2 T3 T4 TF
    obtain ⟨b0, b1, -⟩ := cells2 HB
    obtain ⟨⟨g0, g1, g2⟩, ⟨g3, g4⟩, gf⟩ := cells5 HK
    obtain ⟨⟨t0, t1, t2⟩, ⟨t3, t4⟩, tf⟩ := cells5 HT
    clear hos hs1 hs2 hs3
    obtain ⟨wB, hwB, hkwB, grwB⟩ := set1 HK.out 3 (.slice As ms cs)
    have HWB := Lib.hid hwB
    have hswB : wB.heap.size = w9.heap.size := by rw [hwB]; exact size_setCell _ _ _
    replace HB := Lib.hid ((grwB.block w.heap.size (by omega) (fun e => by injection e; omega)).trans HB.out)
    replace HT := Lib.hid ((grwB.block (w.heap.size + 1) (by omega) (fun e => by injection e; omega)).trans HT.out)
    replace HK := Lib.hid hkwB
    simp only [List.setIfInBounds_toArray, List.set_cons_zero, List.set_cons_succ] at HK
    replace hB := hB.grown grwB hB.size (fun k hk => by cases hk; omega)
    clear hkwB
    obtain ⟨B0, B1, -⟩ := cells2 HB
    obtain ⟨⟨G0, G1, G2⟩, ⟨G3, G4⟩, Gf⟩ := cells5 HK
    obtain ⟨⟨T0, T1, T2⟩, ⟨T3, T4⟩, Tf⟩ := cells5 HT
    rw [hwB] at B0 B1 G0 G1 G2 G3 G4 T0 T1 T2 T3 T4
    clear Gf Tf
    have GF : ∀ i, (w9.setCell ⟨w3.heap.size, 3, none⟩ (.slice As ms cs)).frozen? ⟨w3.heap.size, i, none⟩ = false := by rw [← hwB]; exact fun i => frozen_of_row _ _ i _ _ HK.out
    have TF : ∀ i, (w9.setCell ⟨w3.heap.size, 3, none⟩ (.slice As ms cs)).frozen? ⟨w.heap.size + 1, i, none⟩ = false := by rw [← hwB]; exact fun i => frozen_of_row _ _ i _ _ HT.out
    clear hwB
    go_wp2_with fail
    rw [← HWB.out]
    obtain ⟨we, hwe, HE, hge⟩ := set5 HT (.int .i64 2) (.int .i64 (l:Int)) (.slice Af mf cf) (.slice As ms cs) (.slice none 0 0)
    rw [← hwe]
    clear hwe
    obtain ⟨⟨z0, z1, z2⟩, ⟨z3, z4⟩, -⟩ := cells5 HE
    have hBe := hB.grown hge hB.size (fun k hk => by cases hk; omega)
    refine bodyPost_ret (v := certVw 2 (l:Int) (.slice Af mf cf) (.slice As ms cs) (.slice none 0 0)) (by simp [results, Tryz.results29, go_sem, z0, z1, z2, z3, z4]) rfl ?_
    have hkp : ∀ b, w7.heap.size ≤ b → b < w9.heap.size → we.heap[b]? = w9.heap[b]? := fun b h1 h2 => (gr_ne hge (by omega) (by omega)).trans (gr_ne grwB (by omega) (by omega))
    have hsz := hge.size
    rw [HC.out, HLB2.out, HF.out, HSS.out, HR.out]
    refine ⟨_, _, _, bf, bs, [], rfl, HF1.out.keep fun b hb => hkp b (HF3.out b hb).1 (by have := (HF3.out b hb).2; omega), HS1.out.keep fun b hb => hkp b (by have := (HS3.out b hb).1; omega) (HS3.out b hb).2, rows_nil0 _ _ _, ?_, ?_, hBe⟩
    · rw [List.append_nil, List.nodup_append]
      exact ⟨HF2.out, HS2.out, fun x hx y hy e => by have := (HF3.out x hx).2; have := (HS3.out y hy).1; omega⟩
    · intro x hx
      rw [List.append_nil] at hx
      rcases List.mem_append.1 hx with hx | hx
      · have := HF3.out x hx; omega
      · have := HS3.out x hx; omega
  · have HC := Lib.hid hc
    have hr0 := headD_at hrt
    have hroot : isRoot xss ((roots xss n).headD 0) := (mem_lsTo.1 (mem_headD hrt)).2
    have HLB2 := Lib.hid (show cwLb n xss = (roots xss n).headD 0 by unfold cwLb; rw [hc]; rfl)
    obtain ⟨r, hr⟩ : ∃ r, r = (roots xss n).headD 0 := ⟨_, rfl⟩
    rw [← hr] at HLB2 hr0 hroot
    have hrc := root_head HG.out hroot
    have hrn := root_lt HG.out hroot
    obtain ⟨k0, hsh, hk0⟩ := short_of HG.out hroot.1
    have HSH := Lib.hid hsh
    have HSK := Lib.hid (shortK_eq hsh)
    have hcl0 : 0 < (compL xss r).length := (List.getElem?_eq_some_iff.1 hrc).1
    rw [hc]
    clear hc HLB hroot hsh hr
    obtain ⟨w4, hw4, hb4, HK, hz4, HS4⟩ := box5 w3 (.int .i64 1) (.int .i64 0) (.slice none 0 0) (.slice none 0 0) (.slice none 0 0) 30
    have HW4 := Lib.hid hw4
    have HB := bk HB3 hb4 (by omega)
    have HT := bk HT3 hb4 (by omega)
    have hB := bl_trans hb03 hb4
    clear b0 b1 bf HB3 HT3 HS4
    obtain ⟨b0, b1, -⟩ := cells2 HB
    obtain ⟨⟨g0, g1, g2⟩, ⟨g3, g4⟩, gf⟩ := cells5 HK
    obtain ⟨⟨t0, t1, t2⟩, ⟨t3, t4⟩, tf⟩ := cells5 HT
    rw [hw4] at b0 b1 g0 g1 g2 g3 g4
    clear hw4 t0 t1 t2 t3 t4 tf gf
    go_wp2_with fail
    rw [← HW4.out]
    refine (spec_waParts n v xss w4 ((HH.out.below hB).more hB.size) HG.out).mono ?_
    rintro e w5 ⟨lv, rfl, hlv, hb5⟩
    obtain ⟨gl, cl, x, y, z, rfl, q1, q2, q3, q4, kx, ky, kz, hR⟩ := hlv.at_ (i := 0) hrt
    have hIu := (hR r hr0).1
    obtain ⟨Au, cu, rfl, u1, u2, u3⟩ := hIu.open_
    rw [natsI_len] at u1 u3 kx
    obtain ⟨au, rfl, hub, huc⟩ := u3 hcl0
    have ku0 := huc 0 _ (natsI_at hrc)
    rw [show au.add 0 = au from by unfold Addr.add; simp] at ku0
    rw [Nat.zero_mul] at kx
    clear u3 huc hIu hR hlv hrc hr0 ky kz
    have hzhb5 := hb5.size
    replace HB := bk HB hb5 (by omega)
    replace HT := bk HT hb5 (by omega)
    replace HK := bk HK hb5 (by omega)
    replace hB := bl_trans hB hb5
    clear b0 b1 g0 g1 g2 g3 g4
    try clear gf t0 t1 t2 t3 t4 tf
    try clear B0 B1 G0 G1 G2 G3 G4 GF T0 T1 T2 T3 T4 TF
    obtain ⟨b0, b1, -⟩ := cells2 HB
    obtain ⟨⟨g0, g1, g2⟩, ⟨g3, g4⟩, gf⟩ := cells5 HK
    obtain ⟨⟨t0, t1, t2⟩, ⟨t3, t4⟩, tf⟩ := cells5 HT
    obtain ⟨w6, hw6, hkw6, grw6⟩ := set1 HK.out 1 (.int .i64 (r : Int))
    have HW6 := Lib.hid hw6
    have hsw6 : w6.heap.size = w5.heap.size := by rw [hw6]; exact size_setCell _ _ _
    replace HB := Lib.hid ((grw6.block w.heap.size (by omega) (fun e => by injection e; omega)).trans HB.out)
    replace HT := Lib.hid ((grw6.block (w.heap.size + 1) (by omega) (fun e => by injection e; omega)).trans HT.out)
    replace HK := Lib.hid hkw6
    simp only [List.setIfInBounds_toArray, List.set_cons_zero, List.set_cons_succ] at HK
    replace hB := hB.grown grw6 hB.size (fun k hk => by cases hk; omega)
    clear hkw6
    obtain ⟨B0, B1, -⟩ := cells2 HB
    obtain ⟨⟨G0, G1, G2⟩, ⟨G3, G4⟩, Gf⟩ := cells5 HK
    obtain ⟨⟨T0, T1, T2⟩, ⟨T3, T4⟩, Tf⟩ := cells5 HT
    rw [hw6] at B0 B1 G0 G1 G2 G3 G4 T0 T1 T2 T3 T4
    clear Gf Tf
    have GF : ∀ i, (w5.setCell ⟨w3.heap.size, 1, none⟩ (.int .i64 (r : Int))).frozen? ⟨w3.heap.size, i, none⟩ = false := by rw [← hw6]; exact fun i => frozen_of_row _ _ i _ _ HK.out
    have TF : ∀ i, (w5.setCell ⟨w3.heap.size, 1, none⟩ (.int .i64 (r : Int))).frozen? ⟨w.heap.size + 1, i, none⟩ = false := by rw [← hw6]; exact fun i => frozen_of_row _ _ i _ _ HT.out
    clear hw6
    go_wp2_with fail
    rw [← HW6.out]
    clear kx ku0
    have HF := Lib.hid (show cwF n xss = wbL xss r r k0 by unfold cwF; rw [HC.out, HLB2.out, HSK.out]; rfl)
    have HSS := Lib.hid (show cwS n xss = [] by unfold cwS; rw [HC.out]; rfl)
    have HR := Lib.hid (show cwR n xss = rksL n xss by unfold cwR; rw [if_pos (.inr HC.out)])
    have HL1 := Lib.hid (fun k => wb_lt (a := r) (k := k) HG.out hrn)
    have h10 : 1 ≤ k0 := HSH.out.1
    have hst : CkRel n v xss r k0 w w3 w6 (.int .i64 1) w6 := ⟨1, _, Nat.le_refl _, by omega, rfl, HB.out, HT.out, HK.out, fun _ => rfl, fun h => by omega, hB, Nat.le_refl _⟩
    have HST := Lib.hid hst
    clear hst
    clear b0 b1 g0 g1 g2 g3 g4 gf t0 t1 t2 t3 t4 tf
    try clear B0 B1 G0 G1 G2 G3 G4 GF T0 T1 T2 T3 T4 TF
    obtain ⟨b0, b1, -⟩ := cells2 HB
    obtain ⟨⟨g0, g1, g2⟩, ⟨g3, g4⟩, gf⟩ := cells5 HK
    obtain ⟨⟨t0, t1, t2⟩, ⟨t3, t4⟩, tf⟩ := cells5 HT
    clear b0 b1 g0 g1 g2 g3 g4 gf t0 t1 t2 t3 t4 tf
    have hz56 : w3.heap.size < w6.heap.size := by omega
    clear HB HK HT hB
    go_loopw [5] (fun i wr => CkRel n v xss r k0 w w3 w6 i wr) (fun i _ => k0 + 2 - (intOf i).toNat)
    case atStart => exact HST.out
    case round =>
      clear HST
      obtain ⟨j, vf, hj1, hj2, rfl, hB', hT', hK', hnil, hown, hB, hszr⟩ := hrel
      have HB := Lib.hid hB'
      have HT := Lib.hid hT'
      have HK := Lib.hid hK'
      clear hB' hT' hK'
      obtain ⟨b0, b1, -⟩ := cells2 HB
      obtain ⟨⟨g0, g1, g2⟩, ⟨g3, g4⟩, gf⟩ := cells5 HK
      by_cases hjk : j ≤ k0
      · obtain rfl := hnil hjk
        clear hnil hown
        go_wp2_with fail
        refine (spec_waBetween n v xss r r j wr ((HH.out.below hB).more hB.size) HG.out hrn hrn (by omega)).mono ?_
        rintro e w8 ⟨vf, okf, rfl, hof, hnof, hb8⟩
        obtain ⟨Af, cf, rfl⟩ := own_sl hof
        have hz8 := hb8.size
        have HOF := Lib.hid hof
        have HNF := Lib.hid (show j < k0 → (Value.slice Af (wbL xss r r j).length cf) = .slice none 0 0 from fun h => hnof (HSH.out.2.2 j hj1 h))
        replace HB := bk HB hb8 (by omega)
        replace HT := bk HT hb8 (by omega)
        replace HK := bk HK hb8 (by omega)
        replace hB := bl_trans hB hb8
        clear b0 b1 g0 g1 g2 g3 g4 gf hof hnof
        obtain ⟨b0, b1, -⟩ := cells2 HB
        obtain ⟨⟨g0, g1, g2⟩, ⟨g3, g4⟩, gf⟩ := cells5 HK
        obtain ⟨wA, hwA, hkA, grwA⟩ := set1 HK.out 2 (.slice Af (wbL xss r r j).length cf)
        have HWA := Lib.hid hwA
        simp only [List.setIfInBounds_toArray, List.set_cons_zero, List.set_cons_succ] at hkA
        have HKA := Lib.hid hkA
        have HBA := Lib.hid ((grwA.block w.heap.size (by omega) (fun e => by injection e; omega)).trans HB.out)
        have HTA := Lib.hid ((grwA.block (w.heap.size + 1) (by omega) (fun e => by injection e; omega)).trans HT.out)
        have hBA := hB.grown grwA hB.size (fun k hk => by cases hk; omega)
        have HOA := Lib.hid (own_keep4 HOF.out grwA.size fun b h1 h2 => gr_ne grwA h2 (by omega))
        have hszA := grwA.size
        clear hwA hkA
        go_wp2_with fail
        rw [← HWA.out]
        go_roundw
        case rel => exact ⟨j + 1, _, by omega, by omega, by go_num, HBA.out, HTA.out, HKA.out, fun h => HNF.out (by omega), fun h => by
          obtain rfl : j = k0 := by omega
          exact base_own HOA.out hszr, hBA, by omega⟩
        case measure => simp [intOf]; omega
      · obtain rfl : j = k0 + 1 := by omega
        have hof := hown rfl
        have hlen : (wbL xss r r k0).length = k0 + 1 := by rw [wb_t HSH.out.2.1, lex_len]
        obtain ⟨bf, hf1, hf2, hf3⟩ := own_ints_of hof fun x hx => by have := HL1.out k0 x hx; omega
        obtain ⟨Af, cf, rfl⟩ := own_sl hof
        have HF1 := Lib.hid hf1
        have HF2 := Lib.hid hf2
        have HF3 := Lib.hid hf3
        clear hnil hown hof hf1 hf2 hf3
        rw [hlen] at g2
        rw [hlen] at HK
        go_wp2_with fail
        refine (spec_waRanks n v xss wr ((HH.out.below hB).more hB.size) HG.out).mono ?_
        rintro e w9 ⟨vs, bs, rfl, hs1, hs2, hs3, hb9⟩
        obtain ⟨As, ms, cs, rfl⟩ := hs1.isSlice
        have HS1 := Lib.hid hs1
        have HS2 := Lib.hid hs2
        have HS3 := Lib.hid hs3
        replace HF1 := Lib.hid (HF1.out.keep fun b hb => hb9.block b (HF3.out b hb).2)
        clear hs1 hs2 hs3
        have hzhb9 := hb9.size
        replace HB := bk HB hb9 (by omega)
        replace HT := bk HT hb9 (by omega)
        replace HK := bk HK hb9 (by omega)
        replace hB := bl_trans hB hb9
        clear b0 b1 g0 g1 g2 g3 g4
        try clear gf t0 t1 t2 t3 t4 tf
        try clear B0 B1 G0 G1 G2 G3 G4 GF T0 T1 T2 T3 T4 TF
        obtain ⟨b0, b1, -⟩ := cells2 HB
        obtain ⟨⟨g0, g1, g2⟩, ⟨g3, g4⟩, gf⟩ := cells5 HK
        obtain ⟨⟨t0, t1, t2⟩, ⟨t3, t4⟩, tf⟩ := cells5 HT
        obtain ⟨wB, hwB, hkwB, grwB⟩ := set1 HK.out 4 (.slice As ms cs)
        have HWB := Lib.hid hwB
        have hswB : wB.heap.size = w9.heap.size := by rw [hwB]; exact size_setCell _ _ _
        replace HB := Lib.hid ((grwB.block w.heap.size (by omega) (fun e => by injection e; omega)).trans HB.out)
        replace HT := Lib.hid ((grwB.block (w.heap.size + 1) (by omega) (fun e => by injection e; omega)).trans HT.out)
        replace HK := Lib.hid hkwB
        simp only [List.setIfInBounds_toArray, List.set_cons_zero, List.set_cons_succ] at HK
        replace hB := hB.grown grwB hB.size (fun k hk => by cases hk; omega)
        clear hkwB
        obtain ⟨B0, B1, -⟩ := cells2 HB
        obtain ⟨⟨G0, G1, G2⟩, ⟨G3, G4⟩, Gf⟩ := cells5 HK
        obtain ⟨⟨T0, T1, T2⟩, ⟨T3, T4⟩, Tf⟩ := cells5 HT
        rw [hwB] at B0 B1 G0 G1 G2 G3 G4 T0 T1 T2 T3 T4
        clear Gf Tf
        have GF : ∀ i, (w9.setCell ⟨w3.heap.size, 4, none⟩ (.slice As ms cs)).frozen? ⟨w3.heap.size, i, none⟩ = false := by rw [← hwB]; exact fun i => frozen_of_row _ _ i _ _ HK.out
        have TF : ∀ i, (w9.setCell ⟨w3.heap.size, 4, none⟩ (.slice As ms cs)).frozen? ⟨w.heap.size + 1, i, none⟩ = false := by rw [← hwB]; exact fun i => frozen_of_row _ _ i _ _ HT.out
        clear hwB
        go_wp2_with fail
        rw [← HWB.out]
        obtain ⟨we, hwe, HE, hge⟩ := set5 HT (.int .i64 1) (.int .i64 (r:Int)) (.slice Af (k0+1) cf) (.slice none 0 0) (.slice As ms cs)
        rw [← hwe]
        clear hwe
        obtain ⟨⟨z0, z1, z2⟩, ⟨z3, z4⟩, -⟩ := cells5 HE
        have hBe := hB.grown hge hB.size (fun k hk => by cases hk; omega)
        refine bodyPost_ret (v := certVw 1 (r:Int) (.slice Af (k0+1) cf) (.slice none 0 0) (.slice As ms cs)) (by simp [results, Tryz.results29, go_sem, z0, z1, z2, z3, z4]) rfl ?_
        have hkp : ∀ b, w6.heap.size ≤ b → b < w9.heap.size → we.heap[b]? = w9.heap[b]? := fun b h1 h2 => (gr_ne hge (by omega) (by omega)).trans (gr_ne grwB (by omega) (by omega))
        have hsz := hge.size
        rw [hlen] at HF1
        rw [HC.out, HLB2.out, HF.out, HSS.out, HR.out]
        refine ⟨_, _, _, bf, [], bs, rfl, HF1.out.keep fun b hb => hkp b (HF3.out b hb).1 (by have := (HF3.out b hb).2; omega), ints_nil0 _ _, HS1.out.keep fun b hb => hkp b (by have := (HS3.out b hb).1; omega) (HS3.out b hb).2, ?_, ?_, hBe⟩
        · rw [List.append_nil, List.nodup_append]
          exact ⟨HF2.out, HS2.out, fun x hx y hy e => by have := (HF3.out x hx).2; have := (HS3.out y hy).1; omega⟩
        · intro x hx
          rw [List.append_nil] at hx
          rcases List.mem_append.1 hx with hx | hx
          · have := HF3.out x hx; omega
          · have := HS3.out x hx; omega
  · have HC := Lib.hid hc
    have HLB2 := Lib.hid (show cwLb n xss = 0 by unfold cwLb; rw [hc]; rfl)
    have HF := Lib.hid (show cwF n xss = [] by unfold cwF; rw [hc]; rfl)
    have HSS := Lib.hid (show cwS n xss = [] by unfold cwS; rw [hc]; rfl)
    have HR := Lib.hid (show cwR n xss = rksL n xss by unfold cwR; rw [if_pos (.inl hc)])
    rw [hc]
    clear hc HLB
    obtain ⟨w4, hw4, hb4, HK, hz4, HS4⟩ := box5 w3 (.int .i64 0) (.int .i64 0) (.slice none 0 0) (.slice none 0 0) (.slice none 0 0) 30
    have HW4 := Lib.hid hw4
    have HB := bk HB3 hb4 (by omega)
    have HT := bk HT3 hb4 (by omega)
    have hB := bl_trans hb03 hb4
    clear b0 b1 bf HB3 HT3 HS4
    obtain ⟨b0, b1, -⟩ := cells2 HB
    obtain ⟨⟨g0, g1, g2⟩, ⟨g3, g4⟩, gf⟩ := cells5 HK
    obtain ⟨⟨t0, t1, t2⟩, ⟨t3, t4⟩, tf⟩ := cells5 HT
    rw [hw4] at b0 b1 g0 g1 g2 g3 g4
    clear hw4 t0 t1 t2 t3 t4 tf gf
    go_wp2_with fail
    rw [← HW4.out]
    refine (spec_waRanks n v xss w4 ((HH.out.below hB).more hB.size) HG.out).mono ?_
    rintro e w5 ⟨vs, bs, rfl, hs1, hs2, hs3, hb5⟩
    obtain ⟨As, ms, cs, rfl⟩ := hs1.isSlice
    have HS1 := Lib.hid hs1
    have HS2 := Lib.hid hs2
    have HS3 := Lib.hid hs3
    clear hs1 hs2 hs3
    have hzhb5 := hb5.size
    replace HB := bk HB hb5 (by omega)
    replace HT := bk HT hb5 (by omega)
    replace HK := bk HK hb5 (by omega)
    replace hB := bl_trans hB hb5
    clear b0 b1 g0 g1 g2 g3 g4
    try clear gf t0 t1 t2 t3 t4 tf
    try clear B0 B1 G0 G1 G2 G3 G4 GF T0 T1 T2 T3 T4 TF
    obtain ⟨b0, b1, -⟩ := cells2 HB
    obtain ⟨⟨g0, g1, g2⟩, ⟨g3, g4⟩, gf⟩ := cells5 HK
    obtain ⟨⟨t0, t1, t2⟩, ⟨t3, t4⟩, tf⟩ := cells5 HT
    obtain ⟨w6, hw6, hkw6, grw6⟩ := set1 HK.out 4 (.slice As ms cs)
    have HW6 := Lib.hid hw6
    have hsw6 : w6.heap.size = w5.heap.size := by rw [hw6]; exact size_setCell _ _ _
    replace HB := Lib.hid ((grw6.block w.heap.size (by omega) (fun e => by injection e; omega)).trans HB.out)
    replace HT := Lib.hid ((grw6.block (w.heap.size + 1) (by omega) (fun e => by injection e; omega)).trans HT.out)
    replace HK := Lib.hid hkw6
    simp only [List.setIfInBounds_toArray, List.set_cons_zero, List.set_cons_succ] at HK
    replace hB := hB.grown grw6 hB.size (fun k hk => by cases hk; omega)
    clear hkw6
    obtain ⟨B0, B1, -⟩ := cells2 HB
    obtain ⟨⟨G0, G1, G2⟩, ⟨G3, G4⟩, Gf⟩ := cells5 HK
    obtain ⟨⟨T0, T1, T2⟩, ⟨T3, T4⟩, Tf⟩ := cells5 HT
    rw [hw6] at B0 B1 G0 G1 G2 G3 G4 T0 T1 T2 T3 T4
    clear Gf Tf
    have GF : ∀ i, (w5.setCell ⟨w3.heap.size, 4, none⟩ (.slice As ms cs)).frozen? ⟨w3.heap.size, i, none⟩ = false := by rw [← hw6]; exact fun i => frozen_of_row _ _ i _ _ HK.out
    have TF : ∀ i, (w5.setCell ⟨w3.heap.size, 4, none⟩ (.slice As ms cs)).frozen? ⟨w.heap.size + 1, i, none⟩ = false := by rw [← hw6]; exact fun i => frozen_of_row _ _ i _ _ HT.out
    clear hw6
    go_wp2_with fail
    rw [← HW6.out]
    obtain ⟨we, hwe, HE, hge⟩ := set5 HT (.int .i64 0) (.int .i64 0) (.slice none 0 0) (.slice none 0 0) (.slice As ms cs)
    rw [← hwe]
    clear hwe
    obtain ⟨⟨z0, z1, z2⟩, ⟨z3, z4⟩, -⟩ := cells5 HE
    have hBe := hB.grown hge hB.size (fun k hk => by cases hk; omega)
    refine bodyPost_ret (v := certVw 0 0 (.slice none 0 0) (.slice none 0 0) (.slice As ms cs)) (by simp [results, Tryz.results29, go_sem, z0, z1, z2, z3, z4]) rfl ?_
    have hkp : ∀ b, w4.heap.size ≤ b → b < w5.heap.size → we.heap[b]? = w5.heap[b]? := fun b h1 h2 => (gr_ne hge (by omega) (by omega)).trans (gr_ne grw6 (by omega) (by omega))
    have hsz := hge.size
    rw [HC.out, HLB2.out, HF.out, HSS.out, HR.out]
    refine ⟨_, _, _, [], [], bs, rfl, ints_nil0 _ _, ints_nil0 _ _, HS1.out.keep fun b hb => hkp b (HS3.out b hb).1 (HS3.out b hb).2, HS2.out, ?_, hBe⟩
    intro x hx
    have := HS3.out x hx
    omega
end
section
open Go.RowKit
set_option linter.unusedVariables false
set_option linter.unusedSimpArgs false
set_option maxRecDepth 100000 in
theorem spec_CertifyWalk (n : Int) (v : Value) (xss : List (List Int)) (w : World) (h : RowsR w w.heap.size v xss) :
    Calls Tryz.prog 7 #[.agg #[.int .i64 n, v]] w (CeP n xss w) := by
  have HH := Lib.hid h
  clear h
  obtain ⟨w0, hw0⟩ : ∃ z, z = w.alloc (.cells #[.int .i64 n, v] 26) := ⟨_, rfl⟩
  have hb0 : Below w.heap.size w w0 := by rw [hw0]; exact bl_alloc (Below.refl _ _) _
  have hz0 : w0.heap.size = w.heap.size + 1 := by rw [hw0]; simp
  have HB0 := Lib.hid (show w0.heap[w.heap.size]? = some (.cells #[.int .i64 n, v] 26 (0, 0)) by rw [hw0]; exact heap_alloc_new _ _)
  have HW0 := Lib.hid hw0
  obtain ⟨w1, hw1, hb1, HT1, hz1, HS1⟩ := box5 w0 (.int .i64 0) (.int .i64 0) (.slice none 0 0) (.slice none 0 0) (.slice none 0 0) 30
  have HW1 := Lib.hid hw1
  rw [hz0] at HT1
  have hzz : w.heap.size + 1 < w1.heap.size := by omega
  have HB1 := bk HB0 hb1 (by omega)
  have hb01 := bl_trans hb0 hb1
  clear hw0 hz0 hw1 HS1 hz1
  obtain ⟨b0, b1, bf⟩ := cells2 HB1
  go_enter Tryz.func7, Tryz.ntmps7
  go_wp2_with fail
  rw [← HW0.out, ← HW1.out]
  refine (spec_waGood n v xss w1 ((HH.out.below hb01).more hb01.size)).mono ?_
  rintro e w2 ⟨rfl, hb2⟩
  have HB2 := bk HB1 hb2 (by omega)
  have HT2 := bk HT1 hb2 (by omega)
  have hB := bl_trans hb01 hb2
  have hz2 := hb2.size
  clear b0 b1 bf
  by_cases hg : Good n xss
  · rw [goodB_t hg]
    have h1 : 1 ≤ n ∧ n ≤ 12 := by have := hg.1; unfold inB at this; simpa using this
    obtain ⟨m, rfl⟩ := Int.eq_ofNat_of_zero_le (show 0 ≤ n by omega)
    have HC := Lib.hid (ceP_t hg)
    have HG := Lib.hid hg
    clear hg
    obtain ⟨b0, b1, bf⟩ := cells2 HB2
    go_wp2_with fail
    refine (spec_waCertify m v xss w2 ((HH.out.below hB).more hB.size) HG.out).mono ?_
    rintro e w3 ⟨vf, vs, vr, bf', bs, br, rfl, h1, h2, h3, h4, h5, hb3⟩
    have HT3 := bk HT2 hb3 (by omega)
    have hB3 := bl_trans hB hb3
    have hz3 := hb3.size
    obtain ⟨Af, mf, cf, rfl⟩ := h1.1.isSlice
    obtain ⟨As, ms, cs, rfl⟩ := h2.1.isSlice
    obtain ⟨Ar, mr, cr, rfl⟩ := h3.isSlice
    have H1 := Lib.hid h1
    have H2 := Lib.hid h2
    have H3 := Lib.hid h3
    have H4 := Lib.hid h4
    have H5 := Lib.hid h5
    clear h1 h2 h3 h4 h5 b0 b1 bf
    obtain ⟨⟨t0, t1, t2⟩, ⟨t3, t4⟩, tf⟩ := cells5 HT3
    obtain ⟨cl, hcl⟩ : ∃ c : Int, c = (classN m xss : Int) := ⟨_, rfl⟩
    obtain ⟨lb, hlb⟩ : ∃ c : Int, c = (cwLb m xss : Int) := ⟨_, rfl⟩
    have HCL := Lib.hid hcl
    have HLB := Lib.hid hlb
    rw [← hcl, ← hlb]
    clear hcl hlb
    go_wp2_with fail
    obtain ⟨we, hwe, HE, hge⟩ := set5 HT3 (.int .i64 cl) (.int .i64 lb) (.slice Af mf cf) (.slice As ms cs) (.slice Ar mr cr)
    rw [← hwe]
    clear hwe
    obtain ⟨⟨z0, z1, z2⟩, ⟨z3, z4⟩, -⟩ := cells5 HE
    have hBe := hB3.grown hge hB3.size (fun k hk => by cases hk; omega)
    refine bodyPost_ret (v := .tuple #[certVw cl lb (.slice Af mf cf) (.slice As ms cs) (.slice Ar mr cr), .bool true]) (by simp [results, Tryz.results7, go_sem, z0, z1, z2, z3, z4]) rfl ?_
    rw [HC.out, ← HCL.out, ← HLB.out]
    have hkp : ∀ b, w2.heap.size ≤ b → b < w3.heap.size → we.heap[b]? = w3.heap[b]? := fun b h1 h2 => gr_ne hge h2 (by omega)
    have hsz := hge.size
    have h5 := H5.out
    refine ⟨_, _, _, bf', bs, br, rfl, H1.out.keep fun b hb => ?_, H2.out.keep fun b hb => ?_, H3.out.keep fun b hb => ?_, H4.out, fun x hx => ?_, hBe⟩
    · have := h5 b (by simp [hb]); exact hkp b this.1 this.2
    · have := h5 b (by simp [hb]); exact hkp b this.1 this.2
    · have := h5 b (by simp [hb]); exact hkp b this.1 this.2
    · have := h5 x hx; omega
  · rw [goodB_f hg]
    have HC := Lib.hid (ceP_f hg)
    clear hg
    obtain ⟨⟨t0, t1, t2⟩, ⟨t3, t4⟩, tf⟩ := cells5 HT2
    go_wp2_with fail
    obtain ⟨we, hwe, HE, hge⟩ := set5 HT2 (.int .i64 0) (.int .i64 0) (.slice none 0 0) (.slice none 0 0) (.slice none 0 0)
    rw [← hwe]
    clear hwe
    obtain ⟨⟨z0, z1, z2⟩, ⟨z3, z4⟩, -⟩ := cells5 HE
    have hBe := hB.grown hge hB.size (fun k hk => by cases hk; omega)
    refine bodyPost_ret (v := .tuple #[certVw 0 0 (.slice none 0 0) (.slice none 0 0) (.slice none 0 0), .bool false]) (by simp [results, Tryz.results7, go_sem, z0, z1, z2, z3, z4]) rfl ?_
    rw [HC.out]
    exact cw_none w we 0 0 false hBe
end
end Go.Proofs.YtjhljipehnmbnaaGreat
