/-
  The program's certificate of a walk problem, for every problem.
  The program's certificate of a walk problem, for every problem, valid or not.
-/
import Derived.Test.YtjhljipehnmbnaaGreatCwIA
import Derived.Test.YtjhljipehnmbnaaGreatPlainCert2
import Derived.Test.YtjhljipehnmbnaaGreatCwBox
namespace Go.Proofs.YtjhljipehnmbnaaGreat
section
open Go.RowKit
set_option linter.unusedVariables false
set_option linter.unusedSimpArgs false
abbrev certVw (cl lb : Int) (vf vs vr : Value) : Value := .agg #[.int .i64 cl, .int .i64 lb, vf, vs, vr]
/-- What a certificate is: its numbers and lists, in blocks of their own. -/
def CwP (cl lb : Int) (F S : List Int) (R : List (List Int)) (ok : Bool) (w : World) (e : Ending) (w' : World) : Prop :=
  ∃ vf vs vr bf bs br, e = .returned (.tuple #[certVw cl lb vf vs vr, .bool ok]) ∧ OwnInts w' 3 vf F bf ∧ OwnInts w' 3 vs S bs ∧ OwnRows w' 28 3 vr R br ∧ (bf ++ bs ++ br).Nodup ∧ (∀ x ∈ bf ++ bs ++ br, w.heap.size ≤ x ∧ x < w'.heap.size) ∧ Below w.heap.size w w'
theorem ints_nil0 (w : World) (e : TypeId) : OwnInts w e (.slice none 0 0) [] [] := ⟨.inl ⟨rfl, rfl, none, 0, rfl, Nat.zero_le _⟩, fun _ h => by cases h⟩
theorem rows_nil0 (w : World) (es e : TypeId) : OwnRows w es e (.slice none 0 0) [] [] := ⟨[], [], [], .inl ⟨rfl, rfl, none, 0, rfl, Nat.zero_le _⟩, rfl, rfl⟩
theorem cw_none (w w' : World) (cl lb : Int) (ok : Bool) (hb : Below w.heap.size w w') : CwP cl lb [] [] [] ok w (.returned (.tuple #[certVw cl lb (.slice none 0 0) (.slice none 0 0) (.slice none 0 0), .bool ok])) w' :=
  ⟨_, _, _, [], [], [], rfl, ints_nil0 _ _, ints_nil0 _ _, rows_nil0 _ _ _, List.nodup_nil, (fun _ h => by cases h), hb⟩
theorem own_ints_of {w : World} {base n : Nat} {v : Value} {l : List Nat} (h : w.ownsRow base 3 1 v n ((natsI l).map intV)) (hl : ∀ x ∈ l, x ≤ 1000) : ∃ bs, OwnInts w 3 v (natsI l) bs ∧ bs.Nodup ∧ ∀ b ∈ bs, base ≤ b ∧ b < w.heap.size := by
  obtain ⟨bs, h1, h2, h3⟩ := OwnRow.of_owns h
  exact ⟨bs, ⟨h1, nats64 hl (by omega)⟩, h3, fun b hb => ⟨h2 b hb, h1.lt b hb⟩⟩
theorem gr_ne {w w' : World} {g b : Nat} (h : w.grownBy w' (some g)) (hb : b < w.heap.size) (hne : b ≠ g) : w'.heap[b]? = w.heap[b]? := h.block b hb (fun e => hne (Option.some.inj e))
set_option maxRecDepth 100000 in
set_option maxHeartbeats 2000000 in
theorem impl_certify (n : Nat) (v : Value) (xss : List (List Int)) (w : World) (h : RowsR w w.heap.size v xss) (hg : Good n xss) (hv : ∃ A m c, v = .slice A m c) :
    Calls Tryz.prog 6 #[.agg #[.int .i64 (n : Int), v]] w (CwP (classN n xss) (cwLb n xss) (natsI (cwF n xss)) (natsI (cwS n xss)) (cwR n xss) true w) := by
  have hn := good_n hg
  have HH := Lib.hid h; clear h
  have HG := Lib.hid hg; clear hg
  have hgt : goodB n xss = true := goodB_t HG.out
  obtain ⟨w0, hw0⟩ : ∃ z, z = w.alloc (.cells #[.int .i64 (n : Int), v] 26) := ⟨_, rfl⟩
  have hb0 : Below w.heap.size w w0 := by rw [hw0]; exact bl_alloc (Below.refl _ _) _
  have hz0 : w0.heap.size = w.heap.size + 1 := by rw [hw0]; simp
  have HB0 := Lib.hid (show w0.heap[w.heap.size]? = some (.cells #[.int .i64 (n : Int), v] 26 (0, 0)) by rw [hw0]; exact heap_alloc_new _ _)
  have HW0 := Lib.hid hw0
  obtain ⟨w1, hw1, hb1, HT1, hz1, HS1⟩ := box5 w0 (.int .i64 0) (.int .i64 0) (.slice none 0 0) (.slice none 0 0) (.slice none 0 0) 30
  have HW1 := Lib.hid hw1
  rw [hz0] at HT1
  have hzz : w.heap.size + 1 < w1.heap.size := by omega
  have HB1 := bk HB0 hb1 (by omega)
  have hb01 := bl_trans hb0 hb1
  clear hw0 hz0 hw1 HS1 hz1
  obtain ⟨b0, b1, bf⟩ := cells2 HB1
  go_enter Tryz.func6, Tryz.ntmps6
  go_wp2_with fail
  rw [← HW0.out, ← HW1.out]
  refine (impl_IsWalkProblem n v xss w1 ((HH.out.below hb01).more hb01.size)).mono ?_
  rintro e w2 ⟨rfl, hb2⟩
  rw [hgt]
  have hb02 := bl_trans hb01 hb2
  have HB2 := bk HB1 hb2 (by omega)
  have HT2 := bk HT1 hb2 (by omega)
  have hz2 := hb2.size
  clear b0 b1 bf hgt
  obtain ⟨b0, b1, bf⟩ := cells2 HB2
  go_wp2_with fail
  refine (impl_classOf n v xss w2 ((HH.out.below hb02).more hb02.size) HG.out hv).mono ?_
  rintro e w3 ⟨rfl, hb3⟩
  have hb03 := bl_trans hb02 hb3
  have HB3 := bk HB2 hb3 (by omega)
  have HT3 := bk HT2 hb3 (by omega)
  have hz3 := hb3.size
  clear b0 b1 bf
  obtain ⟨b0, b1, bf⟩ := cells2 HB3
  have HLB := Lib.hid (show cwLb n xss = _ from rfl)
  rcases class_cases n xss with ⟨hc, a, ha, haa⟩ | ⟨hc, hfl⟩ | ⟨hc, hrt⟩ | hc
  · have HC := Lib.hid hc
    rw [hc]
    clear hc HLB
    obtain ⟨w4, hw4, hb4, HK, hz4, HS4⟩ := box5 w3 (.int .i64 3) (.int .i64 0) (.slice none 0 0) (.slice none 0 0) (.slice none 0 0) 30
    have HW4 := Lib.hid hw4
    have HB := bk HB3 hb4 (by omega)
    have HT := bk HT3 hb4 (by omega)
    have hB := bl_trans hb03 hb4
    clear b0 b1 bf HB3 HT3 HS4
    obtain ⟨b0, b1, -⟩ := cells2 HB
    obtain ⟨⟨g0, g1, g2⟩, ⟨g3, g4⟩, gf⟩ := cells5 HK
    obtain ⟨⟨t0, t1, t2⟩, ⟨t3, t4⟩, tf⟩ := cells5 HT
    rw [hw4] at b0 b1 g0 g1 g2 g3 g4
    clear hw4 t0 t1 t2 t3 t4 tf gf
    go_wp2_with fail
    rw [← HW4.out]
    refine (impl_loopOf n v xss w4 ((HH.out.below hB).more hB.size) HG.out hv).mono ?_
    rintro e w5 ⟨i, rfl, hi, hb5⟩
    have hzhb5 := hb5.size
    replace HB := bk HB hb5 (by omega)
    replace HT := bk HT hb5 (by omega)
    replace HK := bk HK hb5 (by omega)
    replace hB := bl_trans hB hb5
    clear b0 b1 g0 g1 g2 g3 g4
    try clear gf t0 t1 t2 t3 t4 tf
    try clear B0 B1 G0 G1 G2 G3 G4 GF T0 T1 T2 T3 T4 TF
    obtain ⟨b0, b1, -⟩ := cells2 HB
    obtain ⟨⟨g0, g1, g2⟩, ⟨g3, g4⟩, gf⟩ := cells5 HK
    obtain ⟨⟨t0, t1, t2⟩, ⟨t3, t4⟩, tf⟩ := cells5 HT
    rcases hi with ⟨rfl, hno⟩ | ⟨l, hl, rfl, hll, hmin⟩
    · exact absurd haa (hno a ha)
    · have hlb : cwLb n xss = l := by unfold cwLb; rw [if_pos HC.out]; exact loop_head HG.out hll hmin
      have HF := Lib.hid (show cwF n xss = [] by unfold cwF; rw [HC.out]; rfl)
      have HSS := Lib.hid (show cwS n xss = [] by unfold cwS; rw [HC.out]; rfl)
      have HR := Lib.hid (show cwR n xss = [] by unfold cwR; rw [HC.out]; rfl)
      have HL := Lib.hid hlb
      clear hlb hll hmin haa
      obtain ⟨w6, hw6, hkw6, grw6⟩ := set1 HK.out 1 (.int .i64 (l : Int))
      have HW6 := Lib.hid hw6
      have hsw6 : w6.heap.size = w5.heap.size := by rw [hw6]; exact size_setCell _ _ _
      replace HB := Lib.hid ((grw6.block w.heap.size (by omega) (fun e => by injection e; omega)).trans HB.out)
      replace HT := Lib.hid ((grw6.block (w.heap.size + 1) (by omega) (fun e => by injection e; omega)).trans HT.out)
      replace HK := Lib.hid hkw6
      simp only [List.setIfInBounds_toArray, List.set_cons_zero, List.set_cons_succ] at HK
      replace hB := hB.grown grw6 hB.size (fun k hk => by cases hk; omega)
      clear hkw6
      obtain ⟨B0, B1, -⟩ := cells2 HB
      obtain ⟨⟨G0, G1, G2⟩, ⟨G3, G4⟩, Gf⟩ := cells5 HK
      obtain ⟨⟨T0, T1, T2⟩, ⟨T3, T4⟩, Tf⟩ := cells5 HT
      rw [hw6] at B0 B1 G0 G1 G2 G3 G4 T0 T1 T2 T3 T4
      clear Gf Tf
      have GF : ∀ i, (w5.setCell ⟨w3.heap.size, 1, none⟩ (.int .i64 (l : Int))).frozen? ⟨w3.heap.size, i, none⟩ = false := by rw [← hw6]; exact fun i => frozen_of_row _ _ i _ _ HK.out
      have TF : ∀ i, (w5.setCell ⟨w3.heap.size, 1, none⟩ (.int .i64 (l : Int))).frozen? ⟨w.heap.size + 1, i, none⟩ = false := by rw [← hw6]; exact fun i => frozen_of_row _ _ i _ _ HT.out
      clear hw6
      go_wp2_with fail
      rw [← HW6.out]
      obtain ⟨we, hwe, HE, hge⟩ := set5 HT (.int .i64 3) (.int .i64 (l:Int)) (.slice none 0 0) (.slice none 0 0) (.slice none 0 0)
      rw [← hwe]
      clear hwe
      obtain ⟨⟨z0, z1, z2⟩, ⟨z3, z4⟩, -⟩ := cells5 HE
      have hBe := hB.grown hge hB.size (fun k hk => by cases hk; omega)
      refine bodyPost_ret (v := .tuple #[certVw 3 (l:Int) (.slice none 0 0) (.slice none 0 0) (.slice none 0 0), .bool true]) (by simp [results, Tryz.results6, go_sem, z0, z1, z2, z3, z4]) rfl ?_
      rw [HC.out, HL.out, HF.out, HSS.out, HR.out]
      exact cw_none w we 3 l true hBe
  · have HC := Lib.hid hc
    have HH0 := Lib.hid (headD_at hfl)
    have HM0 := Lib.hid (mem_headD hfl)
    have HLB2 := Lib.hid (show cwLb n xss = (flexL n xss).headD 0 by unfold cwLb; rw [hc]; rfl)
    rw [hc]
    clear hc HLB
    obtain ⟨w4, hw4, hb4, HK, hz4, HS4⟩ := box5 w3 (.int .i64 2) (.int .i64 0) (.slice none 0 0) (.slice none 0 0) (.slice none 0 0) 30
    have HW4 := Lib.hid hw4
    have HB := bk HB3 hb4 (by omega)
    have HT := bk HT3 hb4 (by omega)
    have hB := bl_trans hb03 hb4
    clear b0 b1 bf HB3 HT3 HS4
    obtain ⟨b0, b1, -⟩ := cells2 HB
    obtain ⟨⟨g0, g1, g2⟩, ⟨g3, g4⟩, gf⟩ := cells5 HK
    obtain ⟨⟨t0, t1, t2⟩, ⟨t3, t4⟩, tf⟩ := cells5 HT
    rw [hw4] at b0 b1 g0 g1 g2 g3 g4
    clear hw4 t0 t1 t2 t3 t4 tf gf
    go_wp2_with fail
    rw [← HW4.out]
    refine (impl_flexibleLabels n v xss w4 ((HH.out.below hB).more hB.size) HG.out hv).mono ?_
    rintro e w5 ⟨u, rfl, hown, hb5⟩
    obtain ⟨gu, cu, rfl, u1, u2, u3, u4⟩ := own_some hown hfl
    have kc := hown.cells (g := gu) rfl 0 (.int .i64 ((flexL n xss).headD 0 : Int)) (by rw [List.getElem?_map, natsI_at HH0.out]; rfl)
    rw [addr0] at kc
    have hln := flex_lt HG.out HM0.out
    obtain ⟨l, hl⟩ : ∃ l, l = (flexL n xss).headD 0 := ⟨_, rfl⟩
    rw [← hl] at kc hln HLB2
    clear hl hown HH0 HM0
    have hzhb5 := hb5.size
    replace HB := bk HB hb5 (by omega)
    replace HT := bk HT hb5 (by omega)
    replace HK := bk HK hb5 (by omega)
    replace hB := bl_trans hB hb5
    clear b0 b1 g0 g1 g2 g3 g4
    try clear gf t0 t1 t2 t3 t4 tf
    try clear B0 B1 G0 G1 G2 G3 G4 GF T0 T1 T2 T3 T4 TF
    obtain ⟨b0, b1, -⟩ := cells2 HB
    obtain ⟨⟨g0, g1, g2⟩, ⟨g3, g4⟩, gf⟩ := cells5 HK
    obtain ⟨⟨t0, t1, t2⟩, ⟨t3, t4⟩, tf⟩ := cells5 HT
    obtain ⟨w6, hw6, hkw6, grw6⟩ := set1 HK.out 1 (.int .i64 (l : Int))
    have HW6 := Lib.hid hw6
    have hsw6 : w6.heap.size = w5.heap.size := by rw [hw6]; exact size_setCell _ _ _
    replace HB := Lib.hid ((grw6.block w.heap.size (by omega) (fun e => by injection e; omega)).trans HB.out)
    replace HT := Lib.hid ((grw6.block (w.heap.size + 1) (by omega) (fun e => by injection e; omega)).trans HT.out)
    replace HK := Lib.hid hkw6
    simp only [List.setIfInBounds_toArray, List.set_cons_zero, List.set_cons_succ] at HK
    replace hB := hB.grown grw6 hB.size (fun k hk => by cases hk; omega)
    clear hkw6
    obtain ⟨B0, B1, -⟩ := cells2 HB
    obtain ⟨⟨G0, G1, G2⟩, ⟨G3, G4⟩, Gf⟩ := cells5 HK
    obtain ⟨⟨T0, T1, T2⟩, ⟨T3, T4⟩, Tf⟩ := cells5 HT
    rw [hw6] at B0 B1 G0 G1 G2 G3 G4 T0 T1 T2 T3 T4
    clear Gf Tf
    have GF : ∀ i, (w5.setCell ⟨w3.heap.size, 1, none⟩ (.int .i64 (l : Int))).frozen? ⟨w3.heap.size, i, none⟩ = false := by rw [← hw6]; exact fun i => frozen_of_row _ _ i _ _ HK.out
    have TF : ∀ i, (w5.setCell ⟨w3.heap.size, 1, none⟩ (.int .i64 (l : Int))).frozen? ⟨w.heap.size + 1, i, none⟩ = false := by rw [← hw6]; exact fun i => frozen_of_row _ _ i _ _ HT.out
    clear hw6
    go_wp2_with fail
    rw [← HW6.out]
    clear kc
    refine (impl_flexibilityOf n v xss l w6 ((HH.out.below hB).more hB.size) HG.out hln hv).mono ?_
    rintro e w7 ⟨rfl, hb7⟩
    have hzhb7 := hb7.size
    replace HB := bk HB hb7 (by omega)
    replace HT := bk HT hb7 (by omega)
    replace HK := bk HK hb7 (by omega)
    replace hB := bl_trans hB hb7
    clear b0 b1 g0 g1 g2 g3 g4
    try clear gf t0 t1 t2 t3 t4 tf
    try clear B0 B1 G0 G1 G2 G3 G4 GF T0 T1 T2 T3 T4 TF
    obtain ⟨b0, b1, -⟩ := cells2 HB
    obtain ⟨⟨g0, g1, g2⟩, ⟨g3, g4⟩, gf⟩ := cells5 HK
    obtain ⟨⟨t0, t1, t2⟩, ⟨t3, t4⟩, tf⟩ := cells5 HT
    have hkl : flexN xss l 288 ≤ 289 := down_le _ _
    have HF := Lib.hid (show cwF n xss = wbL xss l l (flexN xss l 288) by unfold cwF; rw [if_pos HC.out, HLB2.out])
    have HSS := Lib.hid (show cwS n xss = wbL xss l l (flexN xss l 288 + 1) by unfold cwS; rw [if_pos HC.out, HLB2.out])
    have HR := Lib.hid (show cwR n xss = [] by unfold cwR; rw [HC.out]; rfl)
    have HL1 := Lib.hid (fun k => wb_lt (a := l) (k := k) HG.out hln)
    generalize flexN xss l 288 = k at *
    go_wp2_with fail
    refine wp_region_held_drew (S := fun w' => w'.cell? ⟨w.heap.size, 0, none⟩ = some (.int .i64 (n : Int)) ∧ w'.cell? ⟨w.heap.size, 1, none⟩ = some v ∧ w'.cell? ⟨w3.heap.size, 1, none⟩ = some (.int .i64 (l : Int))) (by kernel_rfl) ?_ (fun hHeld => ?_)
    · go_keep
    refine tk 0 36 rfl rfl ?_
    try simp only [Act.put, pu]
    refine tk 1 37 rfl rfl ?_
    try simp only [Act.put, pu]
    refine tk 2 38 rfl rfl ?_
    try simp only [Act.put, pu]
    refine tk 3 39 rfl rfl ?_
    try simp only [Act.put, pu]
    refine tk 4 40 rfl rfl ?_
    try simp only [Act.put, pu]
    refine tk 5 41 rfl rfl ?_
    try simp only [Act.put, pu]
    refine tk 7 43 rfl rfl ?_
    try simp only [Act.put, pu]
    refine tk 8 44 rfl rfl ?_
    try simp only [Act.put, pu]
    refine tk 9 45 rfl rfl ?_
    try simp only [Act.put, pu]
    refine tk 10 46 rfl rfl ?_
    try simp only [Act.put, pu]
    refine tk 11 47 rfl rfl ?_
    try simp only [Act.put, pu]
    refine tk 12 48 rfl rfl ?_
    try simp only [Act.put, pu]
    refine tk 13 49 rfl rfl ?_
    try simp only [Act.put, pu]
    refine wpAnyH_ready (rs := [6]) (by kernel_rfl) (by simp) ?_
    refine AllReadyH.cons rfl (fun K hK => ?_) AllReadyH.nil
    go_simp
    go_at_call 24
    refine (impl_walkBetween n v xss l l k w7.drew ((HH.out.below hB.drew).more hB.drew.size) HG.out hln hln (by omega)).mono ?_
    rintro e w8 ⟨vf, rfl, hof, -, hb8'⟩
    have hb8 : Below w7.heap.size w7 w8 := (Below.refl _ _).drew.trans hb8'
    clear hb8'
    obtain ⟨bf, hf1, hf2, hf3⟩ := own_ints_of hof fun x hx => by have := HL1.out k x hx; omega
    have hf3' : ∀ b ∈ bf, w7.heap.size ≤ b ∧ b < w8.heap.size := hf3
    obtain ⟨Af, mf, cf, rfl⟩ := hf1.1.isSlice
    have HF1 := Lib.hid hf1
    have HF2 := Lib.hid hf2
    have HF3 := Lib.hid hf3'
    have hzhb8 := hb8.size
    replace HB := bk HB hb8 (by omega)
    replace HT := bk HT hb8 (by omega)
    replace HK := bk HK hb8 (by omega)
    replace hB := bl_trans hB hb8
    clear b0 b1 g0 g1 g2 g3 g4
    try clear gf t0 t1 t2 t3 t4 tf
    try clear B0 B1 G0 G1 G2 G3 G4 GF T0 T1 T2 T3 T4 TF
    obtain ⟨b0, b1, -⟩ := cells2 HB
    obtain ⟨⟨g0, g1, g2⟩, ⟨g3, g4⟩, gf⟩ := cells5 HK
    obtain ⟨⟨t0, t1, t2⟩, ⟨t3, t4⟩, tf⟩ := cells5 HT
    clear hof hf1 hf2 hf3 hf3'
    refine hK.out _ _ ?_ (fun hHeld => ?_)
    · go_keep
    clear hK K
    try simp only [Act.put, pu]
    refine tk 15 51 rfl rfl ?_
    try simp only [Act.put, pu]
    refine wpAnyH_ready (rs := [14]) (by kernel_rfl) (by simp) ?_
    refine AllReadyH.cons rfl (fun K hK => ?_) AllReadyH.nil
    go_simp
    go_at_call 24
    rw [show IntKind.i64.wrap ((k : Int) + 1) = ((k + 1 : Nat) : Int) by rw [IntWalk.i64_in _ (by omega)]; push_cast; rfl]
    refine (impl_walkBetween n v xss l l (k + 1) w8 ((HH.out.below hB).more hB.size) HG.out hln hln (by omega)).mono ?_
    rintro e w9 ⟨vs, rfl, hos, -, hb9⟩
    obtain ⟨bs, hs1, hs2, hs3⟩ := own_ints_of hos fun x hx => by have := HL1.out (k + 1) x hx; omega
    obtain ⟨As, ms, cs, rfl⟩ := hs1.1.isSlice
    have HS1 := Lib.hid hs1
    have HS2 := Lib.hid hs2
    have HS3 := Lib.hid hs3
    replace HF1 := Lib.hid (HF1.out.keep fun b hb => hb9.block b (HF3.out b hb).2)
    have hzhb9 := hb9.size
    replace HB := bk HB hb9 (by omega)
    replace HT := bk HT hb9 (by omega)
    replace HK := bk HK hb9 (by omega)
    replace hB := bl_trans hB hb9
    clear b0 b1 g0 g1 g2 g3 g4
    try clear gf t0 t1 t2 t3 t4 tf
    try clear B0 B1 G0 G1 G2 G3 G4 GF T0 T1 T2 T3 T4 TF
    obtain ⟨b0, b1, -⟩ := cells2 HB
    obtain ⟨⟨g0, g1, g2⟩, ⟨g3, g4⟩, gf⟩ := cells5 HK
    obtain ⟨⟨t0, t1, t2⟩, ⟨t3, t4⟩, tf⟩ := cells5 HT
    clear hos hs1 hs2 hs3
    refine hK.out _ _ ?_ (fun hHeld => ?_)
    · go_keep
    clear hK K
    try simp only [Act.put, pu]
    refine wpAnyH_ready (rs := [16]) (by kernel_rfl) (by simp) ?_
    refine AllReadyH.cons rfl (fun K hK => ?_) AllReadyH.nil
    go_simp
    obtain ⟨wA, hwA, hkwA, grwA⟩ := set1 HK.out 2 (.slice Af mf cf)
    rw [← hwA]
    have hswA : wA.heap.size = w9.heap.size := by rw [hwA]; exact size_setCell _ _ _
    replace HB := Lib.hid ((grwA.block w.heap.size (by omega) (fun e => by injection e; omega)).trans HB.out)
    replace HT := Lib.hid ((grwA.block (w.heap.size + 1) (by omega) (fun e => by injection e; omega)).trans HT.out)
    replace HK := Lib.hid hkwA
    simp only [List.setIfInBounds_toArray, List.set_cons_zero, List.set_cons_succ] at HK
    replace hB := hB.grown grwA hB.size (fun k hk => by cases hk; omega)
    clear hkwA hwA
    clear b0 b1 g0 g1 g2 g3 g4
    try clear gf t0 t1 t2 t3 t4 tf
    try clear B0 B1 G0 G1 G2 G3 G4 Gf Tf GF T0 T1 T2 T3 T4 TF
    obtain ⟨b0, b1, -⟩ := cells2 HB
    obtain ⟨⟨g0, g1, g2⟩, ⟨g3, g4⟩, gf⟩ := cells5 HK
    obtain ⟨⟨t0, t1, t2⟩, ⟨t3, t4⟩, tf⟩ := cells5 HT
    refine hK.out _ _ ?_ (fun hHeld => ?_)
    · go_keep
    clear hK K
    try simp only [Act.put, pu]
    refine tk 17 52 rfl rfl ?_
    try simp only [Act.put, pu]
    refine wpAnyH_ready (rs := [18]) (by kernel_rfl) (by simp) ?_
    refine AllReadyH.cons rfl (fun K hK => ?_) AllReadyH.nil
    go_simp
    obtain ⟨wB, hwB, hkwB, grwB⟩ := set1 HK.out 3 (.slice As ms cs)
    rw [← hwB]
    have hswB : wB.heap.size = wA.heap.size := by rw [hwB]; exact size_setCell _ _ _
    replace HB := Lib.hid ((grwB.block w.heap.size (by omega) (fun e => by injection e; omega)).trans HB.out)
    replace HT := Lib.hid ((grwB.block (w.heap.size + 1) (by omega) (fun e => by injection e; omega)).trans HT.out)
    replace HK := Lib.hid hkwB
    simp only [List.setIfInBounds_toArray, List.set_cons_zero, List.set_cons_succ] at HK
    replace hB := hB.grown grwB hB.size (fun k hk => by cases hk; omega)
    clear hkwB hwB
    clear b0 b1 g0 g1 g2 g3 g4
    try clear gf t0 t1 t2 t3 t4 tf
    try clear B0 B1 G0 G1 G2 G3 G4 Gf Tf GF T0 T1 T2 T3 T4 TF
    obtain ⟨b0, b1, -⟩ := cells2 HB
    obtain ⟨⟨g0, g1, g2⟩, ⟨g3, g4⟩, gf⟩ := cells5 HK
    obtain ⟨⟨t0, t1, t2⟩, ⟨t3, t4⟩, tf⟩ := cells5 HT
    refine hK.out _ _ ?_ (fun hHeld => ?_)
    · go_keep
    clear hK K
    try simp only [Act.put, pu]
    refine wpAnyH_done (by kernel_rfl) ?_ _
    go_wp2_with fail
    obtain ⟨we, hwe, HE, hge⟩ := set5 HT (.int .i64 2) (.int .i64 (l:Int)) (.slice Af mf cf) (.slice As ms cs) (.slice none 0 0)
    rw [← hwe]
    clear hwe
    obtain ⟨⟨z0, z1, z2⟩, ⟨z3, z4⟩, -⟩ := cells5 HE
    have hBe := hB.grown hge hB.size (fun k hk => by cases hk; omega)
    refine bodyPost_ret (v := .tuple #[certVw 2 (l:Int) (.slice Af mf cf) (.slice As ms cs) (.slice none 0 0), .bool true]) (by simp [results, Tryz.results6, go_sem, z0, z1, z2, z3, z4]) rfl ?_
    have hkp : ∀ b, w7.heap.size ≤ b → b < w9.heap.size → we.heap[b]? = w9.heap[b]? := fun b h1 h2 => (gr_ne hge (by omega) (by omega)).trans ((gr_ne grwB (by omega) (by omega)).trans (gr_ne grwA (by omega) (by omega)))
    have hsz := hge.size
    rw [HC.out, HLB2.out, HF.out, HSS.out, HR.out]
    refine ⟨_, _, _, bf, bs, [], rfl, HF1.out.keep fun b hb => hkp b (HF3.out b hb).1 (by have := (HF3.out b hb).2; omega), HS1.out.keep fun b hb => hkp b (by have := (HS3.out b hb).1; omega) (HS3.out b hb).2, rows_nil0 _ _ _, ?_, ?_, hBe⟩
    · rw [List.append_nil, List.nodup_append]
      exact ⟨HF2.out, HS2.out, fun x hx y hy e => by have := (HF3.out x hx).2; have := (HS3.out y hy).1; omega⟩
    · intro x hx
      rw [List.append_nil] at hx
      rcases List.mem_append.1 hx with hx | hx
      · have := HF3.out x hx; omega
      · have := HS3.out x hx; omega
  · have HC := Lib.hid hc
    have hr0 := headD_at hrt
    have hroot : isRoot xss ((roots xss n).headD 0) := (mem_lsTo.1 (mem_headD hrt)).2
    have HLB2 := Lib.hid (show cwLb n xss = (roots xss n).headD 0 by unfold cwLb; rw [hc]; rfl)
    obtain ⟨r, hr⟩ : ∃ r, r = (roots xss n).headD 0 := ⟨_, rfl⟩
    rw [← hr] at HLB2 hr0 hroot
    have hrc := root_head HG.out hroot
    have hrn := root_lt HG.out hroot
    obtain ⟨k0, hsh, hk0⟩ := short_of HG.out hroot.1
    have HSH := Lib.hid hsh
    have HSK := Lib.hid (shortK_eq hsh)
    have hcl0 : 0 < (compL xss r).length := (List.getElem?_eq_some_iff.1 hrc).1
    rw [hc]
    clear hc HLB hroot hsh hr
    obtain ⟨w4, hw4, hb4, HK, hz4, HS4⟩ := box5 w3 (.int .i64 1) (.int .i64 0) (.slice none 0 0) (.slice none 0 0) (.slice none 0 0) 30
    have HW4 := Lib.hid hw4
    have HB := bk HB3 hb4 (by omega)
    have HT := bk HT3 hb4 (by omega)
    have hB := bl_trans hb03 hb4
    clear b0 b1 bf HB3 HT3 HS4
    obtain ⟨b0, b1, -⟩ := cells2 HB
    obtain ⟨⟨g0, g1, g2⟩, ⟨g3, g4⟩, gf⟩ := cells5 HK
    obtain ⟨⟨t0, t1, t2⟩, ⟨t3, t4⟩, tf⟩ := cells5 HT
    rw [hw4] at b0 b1 g0 g1 g2 g3 g4
    clear hw4 t0 t1 t2 t3 t4 tf gf
    go_wp2_with fail
    rw [← HW4.out]
    refine (impl_walkComponents n v xss w4 ((HH.out.below hB).more hB.size) HG.out hv).mono ?_
    rintro e w5 ⟨lv, pv, rfl, hlv, hpv, hb5⟩
    obtain ⟨gl, cl, u, rfl, q1, q2, q3, q4, kcu, hR⟩ := hlv.at_ (i := 0) hrt
    have hIu := (hR r hr0).1
    obtain ⟨Au, cu, rfl, u1, u2, u3⟩ := hIu.open_
    rw [natsI_len] at u1 u3 kcu
    obtain ⟨au, rfl, hub, huc⟩ := u3 hcl0
    have ku0 := huc 0 _ (natsI_at hrc)
    rw [show au.add 0 = au from by unfold Addr.add; simp] at ku0
    obtain ⟨Ap, cp, rfl⟩ := own_sl hpv
    clear u3 huc hIu hR hlv hpv hrc hr0
    have hzhb5 := hb5.size
    replace HB := bk HB hb5 (by omega)
    replace HT := bk HT hb5 (by omega)
    replace HK := bk HK hb5 (by omega)
    replace hB := bl_trans hB hb5
    clear b0 b1 g0 g1 g2 g3 g4
    try clear gf t0 t1 t2 t3 t4 tf
    try clear B0 B1 G0 G1 G2 G3 G4 GF T0 T1 T2 T3 T4 TF
    obtain ⟨b0, b1, -⟩ := cells2 HB
    obtain ⟨⟨g0, g1, g2⟩, ⟨g3, g4⟩, gf⟩ := cells5 HK
    obtain ⟨⟨t0, t1, t2⟩, ⟨t3, t4⟩, tf⟩ := cells5 HT
    obtain ⟨w6, hw6, hkw6, grw6⟩ := set1 HK.out 1 (.int .i64 (r : Int))
    have HW6 := Lib.hid hw6
    have hsw6 : w6.heap.size = w5.heap.size := by rw [hw6]; exact size_setCell _ _ _
    replace HB := Lib.hid ((grw6.block w.heap.size (by omega) (fun e => by injection e; omega)).trans HB.out)
    replace HT := Lib.hid ((grw6.block (w.heap.size + 1) (by omega) (fun e => by injection e; omega)).trans HT.out)
    replace HK := Lib.hid hkw6
    simp only [List.setIfInBounds_toArray, List.set_cons_zero, List.set_cons_succ] at HK
    replace hB := hB.grown grw6 hB.size (fun k hk => by cases hk; omega)
    clear hkw6
    obtain ⟨B0, B1, -⟩ := cells2 HB
    obtain ⟨⟨G0, G1, G2⟩, ⟨G3, G4⟩, Gf⟩ := cells5 HK
    obtain ⟨⟨T0, T1, T2⟩, ⟨T3, T4⟩, Tf⟩ := cells5 HT
    rw [hw6] at B0 B1 G0 G1 G2 G3 G4 T0 T1 T2 T3 T4
    clear Gf Tf
    have GF : ∀ i, (w5.setCell ⟨w3.heap.size, 1, none⟩ (.int .i64 (r : Int))).frozen? ⟨w3.heap.size, i, none⟩ = false := by rw [← hw6]; exact fun i => frozen_of_row _ _ i _ _ HK.out
    have TF : ∀ i, (w5.setCell ⟨w3.heap.size, 1, none⟩ (.int .i64 (r : Int))).frozen? ⟨w.heap.size + 1, i, none⟩ = false := by rw [← hw6]; exact fun i => frozen_of_row _ _ i _ _ HT.out
    clear hw6
    go_wp2_with fail
    rw [← HW6.out]
    clear kcu ku0
    clear b0 b1 g0 g1 g2 g3 g4 gf t0 t1 t2 t3 t4 tf
    try clear B0 B1 G0 G1 G2 G3 G4 GF T0 T1 T2 T3 T4 TF
    obtain ⟨b0, b1, -⟩ := cells2 HB
    obtain ⟨⟨g0, g1, g2⟩, ⟨g3, g4⟩, gf⟩ := cells5 HK
    obtain ⟨⟨t0, t1, t2⟩, ⟨t3, t4⟩, tf⟩ := cells5 HT
    have HF := Lib.hid (show cwF n xss = wbL xss r r k0 by unfold cwF; rw [HC.out, HLB2.out, HSK.out]; rfl)
    have HSS := Lib.hid (show cwS n xss = [] by unfold cwS; rw [HC.out]; rfl)
    have HR := Lib.hid (show cwR n xss = rksL n xss by unfold cwR; rw [if_pos (.inr HC.out)])
    have HL1 := Lib.hid (fun k => wb_lt (a := r) (k := k) HG.out hrn)
    refine wp_region_held_drew (S := fun w' => w'.cell? ⟨w.heap.size, 0, none⟩ = some (.int .i64 (n : Int)) ∧ w'.cell? ⟨w.heap.size, 1, none⟩ = some v ∧ w'.cell? ⟨w3.heap.size, 1, none⟩ = some (.int .i64 (r : Int))) (by kernel_rfl) ?_ (fun hHeld => ?_)
    · go_keep
    refine tk 0 66 rfl rfl ?_
    try simp only [Act.put, pu]
    refine tk 1 67 rfl rfl ?_
    try simp only [Act.put, pu]
    refine tk 2 68 rfl rfl ?_
    try simp only [Act.put, pu]
    refine tk 4 70 rfl rfl ?_
    try simp only [Act.put, pu]
    refine wpAnyH_ready (rs := [3]) (by kernel_rfl) (by simp) ?_
    refine AllReadyH.cons rfl (fun K hK => ?_) AllReadyH.nil
    go_simp
    go_at_call 26
    refine (impl_shortestClosed n v xss r k0 w6.drew ((HH.out.below hB.drew).more hB.drew.size) HG.out hrn HSH.out hk0).mono ?_
    rintro e w8 ⟨vf, rfl, hof, hb8'⟩
    have hb8 : Below w6.heap.size w6 w8 := (Below.refl _ _).drew.trans hb8'
    clear hb8'
    obtain ⟨bf, hf1, hf2, hf3⟩ := own_ints_of hof fun x hx => by have := HL1.out k0 x hx; omega
    have hf3' : ∀ b ∈ bf, w6.heap.size ≤ b ∧ b < w8.heap.size := hf3
    obtain ⟨Af, mf, cf, rfl⟩ := hf1.1.isSlice
    have HF1 := Lib.hid hf1
    have HF2 := Lib.hid hf2
    have HF3 := Lib.hid hf3'
    have hzhb8 := hb8.size
    replace HB := bk HB hb8 (by omega)
    replace HT := bk HT hb8 (by omega)
    replace HK := bk HK hb8 (by omega)
    replace hB := bl_trans hB hb8
    clear b0 b1 g0 g1 g2 g3 g4
    try clear gf t0 t1 t2 t3 t4 tf
    try clear B0 B1 G0 G1 G2 G3 G4 GF T0 T1 T2 T3 T4 TF
    obtain ⟨b0, b1, -⟩ := cells2 HB
    obtain ⟨⟨g0, g1, g2⟩, ⟨g3, g4⟩, gf⟩ := cells5 HK
    obtain ⟨⟨t0, t1, t2⟩, ⟨t3, t4⟩, tf⟩ := cells5 HT
    clear hof hf1 hf2 hf3 hf3'
    refine hK.out _ _ ?_ (fun hHeld => ?_)
    · go_keep
    clear hK K
    try simp only [Act.put, pu]
    refine tk 6 72 rfl rfl ?_
    try simp only [Act.put, pu]
    refine wpAnyH_ready (rs := [5]) (by kernel_rfl) (by simp) ?_
    refine AllReadyH.cons rfl (fun K hK => ?_) AllReadyH.nil
    go_simp
    go_at_call 27
    refine (impl_ranks n v xss w8 ((HH.out.below hB).more hB.size) HG.out hv).mono ?_
    rintro e w9 ⟨vs, bs, rfl, hs1, hs2, hs3, hb9⟩
    obtain ⟨As, ms, cs, rfl⟩ := hs1.isSlice
    have HS1 := Lib.hid hs1
    have HS2 := Lib.hid hs2
    have HS3 := Lib.hid hs3
    replace HF1 := Lib.hid (HF1.out.keep fun b hb => hb9.block b (HF3.out b hb).2)
    have hzhb9 := hb9.size
    replace HB := bk HB hb9 (by omega)
    replace HT := bk HT hb9 (by omega)
    replace HK := bk HK hb9 (by omega)
    replace hB := bl_trans hB hb9
    clear b0 b1 g0 g1 g2 g3 g4
    try clear gf t0 t1 t2 t3 t4 tf
    try clear B0 B1 G0 G1 G2 G3 G4 GF T0 T1 T2 T3 T4 TF
    obtain ⟨b0, b1, -⟩ := cells2 HB
    obtain ⟨⟨g0, g1, g2⟩, ⟨g3, g4⟩, gf⟩ := cells5 HK
    obtain ⟨⟨t0, t1, t2⟩, ⟨t3, t4⟩, tf⟩ := cells5 HT
    clear hs1 hs2 hs3
    refine hK.out _ _ ?_ (fun hHeld => ?_)
    · go_keep
    clear hK K
    try simp only [Act.put, pu]
    refine wpAnyH_ready (rs := [7]) (by kernel_rfl) (by simp) ?_
    refine AllReadyH.cons rfl (fun K hK => ?_) AllReadyH.nil
    go_simp
    obtain ⟨wA, hwA, hkwA, grwA⟩ := set1 HK.out 2 (.slice Af mf cf)
    rw [← hwA]
    have hswA : wA.heap.size = w9.heap.size := by rw [hwA]; exact size_setCell _ _ _
    replace HB := Lib.hid ((grwA.block w.heap.size (by omega) (fun e => by injection e; omega)).trans HB.out)
    replace HT := Lib.hid ((grwA.block (w.heap.size + 1) (by omega) (fun e => by injection e; omega)).trans HT.out)
    replace HK := Lib.hid hkwA
    simp only [List.setIfInBounds_toArray, List.set_cons_zero, List.set_cons_succ] at HK
    replace hB := hB.grown grwA hB.size (fun k hk => by cases hk; omega)
    clear hkwA hwA
    clear b0 b1 g0 g1 g2 g3 g4
    try clear gf t0 t1 t2 t3 t4 tf
    try clear B0 B1 G0 G1 G2 G3 G4 Gf Tf GF T0 T1 T2 T3 T4 TF
    obtain ⟨b0, b1, -⟩ := cells2 HB
    obtain ⟨⟨g0, g1, g2⟩, ⟨g3, g4⟩, gf⟩ := cells5 HK
    obtain ⟨⟨t0, t1, t2⟩, ⟨t3, t4⟩, tf⟩ := cells5 HT
    refine hK.out _ _ ?_ (fun hHeld => ?_)
    · go_keep
    clear hK K
    try simp only [Act.put, pu]
    refine tk 8 73 rfl rfl ?_
    try simp only [Act.put, pu]
    refine wpAnyH_ready (rs := [9]) (by kernel_rfl) (by simp) ?_
    refine AllReadyH.cons rfl (fun K hK => ?_) AllReadyH.nil
    go_simp
    obtain ⟨wB, hwB, hkwB, grwB⟩ := set1 HK.out 4 (.slice As ms cs)
    rw [← hwB]
    have hswB : wB.heap.size = wA.heap.size := by rw [hwB]; exact size_setCell _ _ _
    replace HB := Lib.hid ((grwB.block w.heap.size (by omega) (fun e => by injection e; omega)).trans HB.out)
    replace HT := Lib.hid ((grwB.block (w.heap.size + 1) (by omega) (fun e => by injection e; omega)).trans HT.out)
    replace HK := Lib.hid hkwB
    simp only [List.setIfInBounds_toArray, List.set_cons_zero, List.set_cons_succ] at HK
    replace hB := hB.grown grwB hB.size (fun k hk => by cases hk; omega)
    clear hkwB hwB
    clear b0 b1 g0 g1 g2 g3 g4
    try clear gf t0 t1 t2 t3 t4 tf
    try clear B0 B1 G0 G1 G2 G3 G4 Gf Tf GF T0 T1 T2 T3 T4 TF
    obtain ⟨b0, b1, -⟩ := cells2 HB
    obtain ⟨⟨g0, g1, g2⟩, ⟨g3, g4⟩, gf⟩ := cells5 HK
    obtain ⟨⟨t0, t1, t2⟩, ⟨t3, t4⟩, tf⟩ := cells5 HT
    refine hK.out _ _ ?_ (fun hHeld => ?_)
    · go_keep
    clear hK K
    try simp only [Act.put, pu]
    refine wpAnyH_done (by kernel_rfl) ?_ _
    go_wp2_with fail
    obtain ⟨we, hwe, HE, hge⟩ := set5 HT (.int .i64 1) (.int .i64 (r:Int)) (.slice Af mf cf) (.slice none 0 0) (.slice As ms cs)
    rw [← hwe]
    clear hwe
    obtain ⟨⟨z0, z1, z2⟩, ⟨z3, z4⟩, -⟩ := cells5 HE
    have hBe := hB.grown hge hB.size (fun k hk => by cases hk; omega)
    refine bodyPost_ret (v := .tuple #[certVw 1 (r:Int) (.slice Af mf cf) (.slice none 0 0) (.slice As ms cs), .bool true]) (by simp [results, Tryz.results6, go_sem, z0, z1, z2, z3, z4]) rfl ?_
    have hkp : ∀ b, w6.heap.size ≤ b → b < w9.heap.size → we.heap[b]? = w9.heap[b]? := fun b h1 h2 => (gr_ne hge (by omega) (by omega)).trans ((gr_ne grwB (by omega) (by omega)).trans (gr_ne grwA (by omega) (by omega)))
    have hsz := hge.size
    rw [HC.out, HLB2.out, HF.out, HSS.out, HR.out]
    refine ⟨_, _, _, bf, [], bs, rfl, HF1.out.keep fun b hb => hkp b (HF3.out b hb).1 (by have := (HF3.out b hb).2; omega), ints_nil0 _ _, HS1.out.keep fun b hb => hkp b (by have := (HS3.out b hb).1; omega) (HS3.out b hb).2, ?_, ?_, hBe⟩
    · rw [List.append_nil, List.nodup_append]
      exact ⟨HF2.out, HS2.out, fun x hx y hy e => by have := (HF3.out x hx).2; have := (HS3.out y hy).1; omega⟩
    · intro x hx
      rw [List.append_nil] at hx
      rcases List.mem_append.1 hx with hx | hx
      · have := HF3.out x hx; omega
      · have := HS3.out x hx; omega
  · have HC := Lib.hid hc
    have HLB2 := Lib.hid (show cwLb n xss = 0 by unfold cwLb; rw [hc]; rfl)
    have HF := Lib.hid (show cwF n xss = [] by unfold cwF; rw [hc]; rfl)
    have HSS := Lib.hid (show cwS n xss = [] by unfold cwS; rw [hc]; rfl)
    have HR := Lib.hid (show cwR n xss = rksL n xss by unfold cwR; rw [if_pos (.inl hc)])
    rw [hc]
    clear hc HLB
    obtain ⟨w4, hw4, hb4, HK, hz4, HS4⟩ := box5 w3 (.int .i64 0) (.int .i64 0) (.slice none 0 0) (.slice none 0 0) (.slice none 0 0) 30
    have HW4 := Lib.hid hw4
    have HB := bk HB3 hb4 (by omega)
    have HT := bk HT3 hb4 (by omega)
    have hB := bl_trans hb03 hb4
    clear b0 b1 bf HB3 HT3 HS4
    obtain ⟨b0, b1, -⟩ := cells2 HB
    obtain ⟨⟨g0, g1, g2⟩, ⟨g3, g4⟩, gf⟩ := cells5 HK
    obtain ⟨⟨t0, t1, t2⟩, ⟨t3, t4⟩, tf⟩ := cells5 HT
    rw [hw4] at b0 b1 g0 g1 g2 g3 g4
    clear hw4 t0 t1 t2 t3 t4 tf gf
    go_wp2_with fail
    rw [← HW4.out]
    refine (impl_ranks n v xss w4 ((HH.out.below hB).more hB.size) HG.out hv).mono ?_
    rintro e w5 ⟨vs, bs, rfl, hs1, hs2, hs3, hb5⟩
    obtain ⟨As, ms, cs, rfl⟩ := hs1.isSlice
    have HS1 := Lib.hid hs1
    have HS2 := Lib.hid hs2
    have HS3 := Lib.hid hs3
    clear hs1 hs2 hs3
    have hzhb5 := hb5.size
    replace HB := bk HB hb5 (by omega)
    replace HT := bk HT hb5 (by omega)
    replace HK := bk HK hb5 (by omega)
    replace hB := bl_trans hB hb5
    clear b0 b1 g0 g1 g2 g3 g4
    try clear gf t0 t1 t2 t3 t4 tf
    try clear B0 B1 G0 G1 G2 G3 G4 GF T0 T1 T2 T3 T4 TF
    obtain ⟨b0, b1, -⟩ := cells2 HB
    obtain ⟨⟨g0, g1, g2⟩, ⟨g3, g4⟩, gf⟩ := cells5 HK
    obtain ⟨⟨t0, t1, t2⟩, ⟨t3, t4⟩, tf⟩ := cells5 HT
    obtain ⟨w6, hw6, hkw6, grw6⟩ := set1 HK.out 4 (.slice As ms cs)
    have HW6 := Lib.hid hw6
    have hsw6 : w6.heap.size = w5.heap.size := by rw [hw6]; exact size_setCell _ _ _
    replace HB := Lib.hid ((grw6.block w.heap.size (by omega) (fun e => by injection e; omega)).trans HB.out)
    replace HT := Lib.hid ((grw6.block (w.heap.size + 1) (by omega) (fun e => by injection e; omega)).trans HT.out)
    replace HK := Lib.hid hkw6
    simp only [List.setIfInBounds_toArray, List.set_cons_zero, List.set_cons_succ] at HK
    replace hB := hB.grown grw6 hB.size (fun k hk => by cases hk; omega)
    clear hkw6
    obtain ⟨B0, B1, -⟩ := cells2 HB
    obtain ⟨⟨G0, G1, G2⟩, ⟨G3, G4⟩, Gf⟩ := cells5 HK
    obtain ⟨⟨T0, T1, T2⟩, ⟨T3, T4⟩, Tf⟩ := cells5 HT
    rw [hw6] at B0 B1 G0 G1 G2 G3 G4 T0 T1 T2 T3 T4
    clear Gf Tf
    have GF : ∀ i, (w5.setCell ⟨w3.heap.size, 4, none⟩ (.slice As ms cs)).frozen? ⟨w3.heap.size, i, none⟩ = false := by rw [← hw6]; exact fun i => frozen_of_row _ _ i _ _ HK.out
    have TF : ∀ i, (w5.setCell ⟨w3.heap.size, 4, none⟩ (.slice As ms cs)).frozen? ⟨w.heap.size + 1, i, none⟩ = false := by rw [← hw6]; exact fun i => frozen_of_row _ _ i _ _ HT.out
    clear hw6
    go_wp2_with fail
    rw [← HW6.out]
    obtain ⟨we, hwe, HE, hge⟩ := set5 HT (.int .i64 0) (.int .i64 0) (.slice none 0 0) (.slice none 0 0) (.slice As ms cs)
    rw [← hwe]
    clear hwe
    obtain ⟨⟨z0, z1, z2⟩, ⟨z3, z4⟩, -⟩ := cells5 HE
    have hBe := hB.grown hge hB.size (fun k hk => by cases hk; omega)
    refine bodyPost_ret (v := .tuple #[certVw 0 0 (.slice none 0 0) (.slice none 0 0) (.slice As ms cs), .bool true]) (by simp [results, Tryz.results6, go_sem, z0, z1, z2, z3, z4]) rfl ?_
    have hkp : ∀ b, w4.heap.size ≤ b → b < w5.heap.size → we.heap[b]? = w5.heap[b]? := fun b h1 h2 => (gr_ne hge (by omega) (by omega)).trans (gr_ne grw6 (by omega) (by omega))
    have hsz := hge.size
    rw [HC.out, HLB2.out, HF.out, HSS.out, HR.out]
    refine ⟨_, _, _, [], [], bs, rfl, ints_nil0 _ _, ints_nil0 _ _, HS1.out.keep fun b hb => hkp b (HS3.out b hb).1 (HS3.out b hb).2, HS2.out, ?_, hBe⟩
    intro x hx
    have := HS3.out x hx
    omega
end
section
open Go.RowKit
set_option linter.unusedVariables false
set_option linter.unusedSimpArgs false
/-- The certificate's parts, for valid problems and others. -/
noncomputable def ceCl (n : Int) (xss : List (List Int)) : Int := if goodB n xss = true then (classN n.toNat xss : Int) else 0
noncomputable def ceLb (n : Int) (xss : List (List Int)) : Int := if goodB n xss = true then (cwLb n.toNat xss : Int) else 0
noncomputable def ceF (n : Int) (xss : List (List Int)) : List Int := if goodB n xss = true then natsI (cwF n.toNat xss) else []
noncomputable def ceS (n : Int) (xss : List (List Int)) : List Int := if goodB n xss = true then natsI (cwS n.toNat xss) else []
noncomputable def ceR (n : Int) (xss : List (List Int)) : List (List Int) := if goodB n xss = true then cwR n.toNat xss else []
def CeP (n : Int) (xss : List (List Int)) : World → Ending → World → Prop := CwP (ceCl n xss) (ceLb n xss) (ceF n xss) (ceS n xss) (ceR n xss) (goodB n xss)
theorem ceP_t {n : Nat} {xss : List (List Int)} (hg : Good n xss) : CeP n xss = CwP (classN n xss) (cwLb n xss) (natsI (cwF n xss)) (natsI (cwS n xss)) (cwR n xss) true := by
  unfold CeP ceCl ceLb ceF ceS ceR
  rw [goodB_t hg]
  simp only [if_true, Int.toNat_natCast]
theorem ceP_f {n : Int} {xss : List (List Int)} (hg : ¬ Good n xss) : CeP n xss = CwP 0 0 [] [] [] false := by
  unfold CeP ceCl ceLb ceF ceS ceR
  rw [goodB_f hg]
  rfl
theorem impl_CertifyWalk (n : Int) (v : Value) (xss : List (List Int)) (w : World) (h : RowsR w w.heap.size v xss) (hv : ∃ A m c, v = .slice A m c) :
    Calls Tryz.prog 6 #[.agg #[.int .i64 n, v]] w (CeP n xss w) := by
  by_cases hg : Good n xss
  · have h1 : 1 ≤ n ∧ n ≤ 12 := by have := hg.1; unfold inB at this; simpa using this
    obtain ⟨m, rfl⟩ := Int.eq_ofNat_of_zero_le (show 0 ≤ n by omega)
    rw [ceP_t hg]
    exact impl_certify m v xss w h hg hv
  · rw [ceP_f hg]
    have hgf := goodB_f hg
    have HH := Lib.hid h
    clear h hg
    obtain ⟨w0, hw0⟩ : ∃ z, z = w.alloc (.cells #[.int .i64 n, v] 26) := ⟨_, rfl⟩
    have hb0 : Below w.heap.size w w0 := by rw [hw0]; exact bl_alloc (Below.refl _ _) _
    have hz0 : w0.heap.size = w.heap.size + 1 := by rw [hw0]; simp
    have HB0 := Lib.hid (show w0.heap[w.heap.size]? = some (.cells #[.int .i64 n, v] 26 (0, 0)) by rw [hw0]; exact heap_alloc_new _ _)
    have HW0 := Lib.hid hw0
    obtain ⟨w1, hw1, hb1, HT1, hz1, HS1⟩ := box5 w0 (.int .i64 0) (.int .i64 0) (.slice none 0 0) (.slice none 0 0) (.slice none 0 0) 30
    have HW1 := Lib.hid hw1
    rw [hz0] at HT1
    have hzz : w.heap.size + 1 < w1.heap.size := by omega
    have HB1 := bk HB0 hb1 (by omega)
    have hb01 := bl_trans hb0 hb1
    clear hw0 hz0 hw1 HS1 hz1
    obtain ⟨b0, b1, bf⟩ := cells2 HB1
    go_enter Tryz.func6, Tryz.ntmps6
    go_wp2_with fail
    rw [← HW0.out, ← HW1.out]
    refine (impl_IsWalkProblem n v xss w1 ((HH.out.below hb01).more hb01.size)).mono ?_
    rintro e w2 ⟨rfl, hb2⟩
    rw [hgf]
    have HT2 := bk HT1 hb2 (by omega)
    have hB := bl_trans hb01 hb2
    have hz2 := hb2.size
    obtain ⟨⟨t0, t1, t2⟩, ⟨t3, t4⟩, tf⟩ := cells5 HT2
    clear b0 b1 bf hgf
    go_wp2_with fail
    obtain ⟨we, hwe, HE, hge⟩ := set5 HT2 (.int .i64 0) (.int .i64 0) (.slice none 0 0) (.slice none 0 0) (.slice none 0 0)
    rw [← hwe]
    clear hwe
    obtain ⟨⟨z0, z1, z2⟩, ⟨z3, z4⟩, -⟩ := cells5 HE
    have hBe := hB.grown hge hB.size (fun k hk => by cases hk; omega)
    refine bodyPost_ret (v := .tuple #[certVw 0 0 (.slice none 0 0) (.slice none 0 0) (.slice none 0 0), .bool false]) (by simp [results, Tryz.results6, go_sem, z0, z1, z2, z3, z4]) rfl ?_
    exact cw_none w we 0 0 false hBe
end
end Go.Proofs.YtjhljipehnmbnaaGreat
