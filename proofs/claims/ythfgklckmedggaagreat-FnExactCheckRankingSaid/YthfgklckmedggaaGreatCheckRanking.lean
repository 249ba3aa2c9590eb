/-
  Proved: the law FnExactCheckRanking returns true for every network, rule, daemon and list, and leaves the network and the list as they were. No condition. (The frame at the end is after the kit's proof-skeleton.mjs.)
-/
import Derived.Test.YthfgklckmedggaaGreatRows
import Derived.Test.YthfgklckmedggaaGreatNetCrI
import Derived.Test.YthfgklckmedggaaGreatArgsN
import Derived.Test.YthfgklckmedggaaGreatOpenNet
import Derived.ProofKit
import Derived.OpenShut
import Derived.ShutString
import Derived.Lib.SmallJoins
namespace Go.Proofs.YthfgklckmedggaaGreat.fnExactCheckRanking
open Go.ChangeShapes Go.WideShapes Go.ChangeAt Go.RowKit Go.Joins
set_option linter.unusedVariables false
set_option linter.unusedSimpArgs false
theorem es_le {n : Net} (h : szNet n ≤ 1048576) : n.es.length ≤ 2000000 ∧ n.ids.length ≤ 2000000 := by
  unfold szNet szEnds at h
  omega
theorem ints_new {w w' : World} {v : Value} {B : Nat} {W : World} (ss : List Int) (h : w' = w.alloc (.cells (ss.map intV).toArray 3)) (hl : ss.length ≤ 1048576) (hi : IntsR W B v ss) : IntsR w' w'.heap.size (.slice (some ⟨w.heap.size, 0, none⟩) ss.length ss.length) ss := by
  have H : w'.heap[w.heap.size]? = some (.cells (ss.map intV).toArray 3 (0, 0)) := by rw [h]; exact heap_alloc_new w _
  exact ints_row H (by unfold maxLen; omega) hi.2 (by rw [h]; simp)
set_option maxRecDepth 100000 in
set_option maxHeartbeats 1000000 in
theorem law_walk (ve vi vn vs : Value) (n : Net) (r d : Int) (ss : List Int) (w : World) (h : NetR w w.heap.size ve vi vn n) (hss : IntsR w w.heap.size vs ss) :
    Calls Tryz.prog 5 #[.agg #[ve, vi, vn], .int .i64 r, .int .i64 d, vs] w fun e w' => e = .returned (.bool true) ∧ Below w.heap.size w w' := by
  obtain ⟨⟨A0, m0, c0, rfl⟩, ⟨A1, m1, c1, rfl⟩, A2, m2, c2, rfl⟩ := h.slices
  have HI := Lib.hid hss
  obtain ⟨As, cs, rfl, -, -, -⟩ := hss.open_
  clear hss
  obtain ⟨w0, hw0, hB, HD, hz0, HS0⟩ := box3 w (.slice A0 m0 c0) (.slice A1 m1 c1) (.slice A2 m2 c2) 25
  have HN := Lib.hid (h.up hB); clear h
  replace HI := Lib.hid ((HI.out.below hB).more hB.size)
  have HW0 := Lib.hid hw0; clear hw0
  obtain ⟨q0, q1, q2, qf⟩ := cells3 HD
  by_cases hl : 1048576 < ss.length
  · have hl' : ((ss.length : Nat) : Int) > 1048576 := by omega
    go_enter Tryz.func5, Tryz.ntmps5
    go_wp2_with fail
    go_ret
    exact ⟨rfl, by rw [← HW0.out]; exact hB⟩
  replace hl : ss.length ≤ 1048576 := by omega
  by_cases hs : szNet n ≤ 1048576
  · skip
    have hz : 0 ≤ szR 1048576 (szNet n) := by unfold szR; split <;> omega
    obtain ⟨hes1, hes2⟩ := es_le hs
    go_enter Tryz.func5, Tryz.ntmps5
    go_wp2_with fail
    rw [← HW0.out]
    refine (sz_Net _ _ _ n 1048576 w0 HN.out (by omega) (by omega)).mono ?_
    rintro e w1 ⟨rfl, hb1⟩
    have hzhb1 := hb1.size
    clear q0 q1 q2 qf
    replace HD := bk HD hb1
    replace HN := Lib.hid (HN.out.up hb1)
    replace HI := Lib.hid ((HI.out.below hb1).more hb1.size)
    replace hB := bl_trans hB hb1
    obtain ⟨q0, q1, q2, qf⟩ := cells3 HD
    generalize szR 1048576 (szNet n) = left at *
    go_wp2_with fail
    refine (to_Net _ _ _ n w1 HN.out hs).mono ?_
    rintro e w2 ⟨xe, xi, xn, rfl, hx, hb2⟩
    obtain ⟨⟨A3, m3, c3, rfl⟩, ⟨A4, m4, c4, rfl⟩, A5, m5, c5, rfl⟩ := hx.slices
    have HX := Lib.hid hx; clear hx
    have hzhb2 := hb2.size
    clear q0 q1 q2 qf
    replace HD := bk HD hb2
    replace HN := Lib.hid (HN.out.up hb2)
    replace HI := Lib.hid ((HI.out.below hb2).more hb2.size)
    replace hB := bl_trans hB hb2
    obtain ⟨q0, q1, q2, qf⟩ := cells3 HD
    go_wp2_with fail
    refine (to_IntS _ ss w2 HI.out hl).mono ?_
    rintro e w3 ⟨rfl, hw3⟩
    have hb3 : Below w2.heap.size w2 w3 := by rw [hw3]; exact bl_alloc (Below.refl _ _) _
    have HJ := Lib.hid (ints_new ss hw3 hl HI.out); clear hw3
    have hzhb3 := hb3.size
    clear q0 q1 q2 qf
    replace HD := bk HD hb3
    replace HN := Lib.hid (HN.out.up hb3)
    replace HX := Lib.hid (HX.out.up hb3)
    replace HI := Lib.hid ((HI.out.below hb3).more hb3.size)
    replace hB := bl_trans hB hb3
    obtain ⟨q0, q1, q2, qf⟩ := cells3 HD
    go_wp2_with fail
    refine (spec_CheckRanking _ _ _ _ n r d ss w3 HX.out HJ.out hes1 hl).mono ?_
    rintro e w4 ⟨rfl, hb4⟩
    clear HX
    clear HJ
    have hzhb4 := hb4.size
    clear q0 q1 q2 qf
    replace HD := bk HD hb4
    replace HN := Lib.hid (HN.out.up hb4)
    replace HI := Lib.hid ((HI.out.below hb4).more hb4.size)
    replace hB := bl_trans hB hb4
    obtain ⟨q0, q1, q2, qf⟩ := cells3 HD
    go_wp2_with fail
    refine (to_Net _ _ _ n w4 HN.out hs).mono ?_
    rintro e w5 ⟨xe, xi, xn, rfl, hx, hb5⟩
    obtain ⟨⟨A6, m6, c6, rfl⟩, ⟨A7, m7, c7, rfl⟩, A8, m8, c8, rfl⟩ := hx.slices
    have HX := Lib.hid hx; clear hx
    have hzhb5 := hb5.size
    clear q0 q1 q2 qf
    replace HD := bk HD hb5
    replace HN := Lib.hid (HN.out.up hb5)
    replace HI := Lib.hid ((HI.out.below hb5).more hb5.size)
    replace hB := bl_trans hB hb5
    obtain ⟨q0, q1, q2, qf⟩ := cells3 HD
    obtain ⟨w6, hw6, hb6, HE, hz6, HS6⟩ := box3 w5 (.slice A6 m6 c6) (.slice A7 m7 c7) (.slice A8 m8 c8) 31
    have HW6 := Lib.hid hw6; clear hw6
    go_wp2_with fail
    rw [← HW6.out]
    have hzhb6 := hb6.size
    clear q0 q1 q2 qf
    replace HD := bk HD hb6
    replace HN := Lib.hid (HN.out.up hb6)
    replace HX := Lib.hid (HX.out.up hb6)
    replace HI := Lib.hid ((HI.out.below hb6).more hb6.size)
    replace hB := bl_trans hB hb6
    obtain ⟨q0, q1, q2, qf⟩ := cells3 HD
    obtain ⟨p0, p1, p2, pf⟩ := cells3 HE
    refine (to_IntS _ ss w6 HI.out hl).mono ?_
    rintro e w7 ⟨rfl, hw7⟩
    have hb7 : Below w6.heap.size w6 w7 := by rw [hw7]; exact bl_alloc (Below.refl _ _) _
    have HJ := Lib.hid (ints_new ss hw7 hl HI.out); clear hw7
    have hzhb7 := hb7.size
    clear q0 q1 q2 qf
    replace HD := bk HD hb7
    clear p0 p1 p2 pf
    replace HE := bk HE hb7
    replace HN := Lib.hid (HN.out.up hb7)
    replace HX := Lib.hid (HX.out.up hb7)
    replace HI := Lib.hid ((HI.out.below hb7).more hb7.size)
    replace hB := bl_trans hB hb7
    obtain ⟨q0, q1, q2, qf⟩ := cells3 HD
    obtain ⟨p0, p1, p2, pf⟩ := cells3 HE
    go_wp2_with fail
    refine (impl_CheckRanking _ _ _ _ n r d ss w7 HX.out HJ.out hes1 hes2 hl).mono ?_
    rintro e w8 ⟨rfl, hb8⟩
    have hzhb8 := hb8.size
    clear q0 q1 q2 qf
    replace HD := bk HD hb8
    clear p0 p1 p2 pf
    replace HE := bk HE hb8
    replace HN := Lib.hid (HN.out.up hb8)
    replace HX := Lib.hid (HX.out.up hb8)
    replace HI := Lib.hid ((HI.out.below hb8).more hb8.size)
    replace HJ := Lib.hid ((HJ.out.below hb8).more hb8.size)
    replace hB := bl_trans hB hb8
    obtain ⟨q0, q1, q2, qf⟩ := cells3 HD
    obtain ⟨p0, p1, p2, pf⟩ := cells3 HE
    generalize chB n r d ss = V0 at *
    generalize dmB n r d = V1 at *
    go_wp2_with fail
    refine wp_region_held_drew (S := fun w' => w'.cell? ⟨w.heap.size, 0, none⟩ = some (.slice A0 m0 c0) ∧ w'.cell? ⟨w.heap.size, 1, none⟩ = some (.slice A1 m1 c1) ∧ w'.cell? ⟨w.heap.size, 2, none⟩ = some (.slice A2 m2 c2) ∧ w'.cell? ⟨w5.heap.size, 0, none⟩ = some (.slice A6 m6 c6) ∧ w'.cell? ⟨w5.heap.size, 1, none⟩ = some (.slice A7 m7 c7) ∧ w'.cell? ⟨w5.heap.size, 2, none⟩ = some (.slice A8 m8 c8)) (by kernel_rfl) ?_ (fun hHeld => ?_)
    · go_keep
    refine tk 0 54 rfl rfl ?_
    try simp only [Act.put, pu]
    refine tk 1 55 rfl rfl ?_
    try simp only [Act.put, pu]
    refine tr 2 rfl (by kernel_rfl) (fun K hK => ?_)
    go_simp
    go_at_call 11
    refine (to_Net _ _ _ n w8.drew (HN.out.up (Below.refl _ _).drew) hs).mono ?_
    rintro e w9 ⟨xe, xi, xn, rfl, hx, hb9'⟩
    have hb9 : Below w8.heap.size w8 w9 := (Below.refl _ _).drew.trans hb9'
    clear hb9'
    obtain ⟨⟨A9, m9, c9, rfl⟩, ⟨A10, m10, c10, rfl⟩, A11, m11, c11, rfl⟩ := hx.slices
    have HY := Lib.hid hx; clear hx
    have hzhb9 := hb9.size
    clear q0 q1 q2 qf
    replace HD := bk HD hb9
    clear p0 p1 p2 pf
    replace HE := bk HE hb9
    replace HX := Lib.hid (HX.out.up hb9)
    replace HI := Lib.hid ((HI.out.below hb9).more hb9.size)
    replace HJ := Lib.hid ((HJ.out.below hb9).more hb9.size)
    replace hB := bl_trans hB hb9
    obtain ⟨q0, q1, q2, qf⟩ := cells3 HD
    obtain ⟨p0, p1, p2, pf⟩ := cells3 HE
    refine hK.out _ _ ?_ (fun hHeld => ?_)
    · go_keep
    clear hK K
    try simp only [Act.put, pu]
    refine tr 3 rfl (by kernel_rfl) (fun K hK => ?_)
    go_simp
    go_at_call 13
    refine (eq_Net _ _ _ _ _ _ n w9 HX.out HY.out).mono ?_
    rintro e w10 ⟨rfl, hb10⟩
    have hzhb10 := hb10.size
    clear q0 q1 q2 qf
    replace HD := bk HD hb10
    clear p0 p1 p2 pf
    replace HE := bk HE hb10
    replace HI := Lib.hid ((HI.out.below hb10).more hb10.size)
    replace HJ := Lib.hid ((HJ.out.below hb10).more hb10.size)
    replace hB := bl_trans hB hb10
    obtain ⟨q0, q1, q2, qf⟩ := cells3 HD
    obtain ⟨p0, p1, p2, pf⟩ := cells3 HE
    refine hK.out _ _ ?_ (fun hHeld => ?_)
    · go_keep
    clear hK K
    try simp only [Act.put, pu]
    refine tk 4 58 rfl rfl ?_
    try simp only [Act.put, pu]
    refine wpAnyH_done (by kernel_rfl) ?_ _
    go_wp2_with fail
    refine (to_IntS _ ss w10 HI.out hl).mono ?_
    rintro e w11 ⟨rfl, hw11⟩
    have hb11 : Below w10.heap.size w10 w11 := by rw [hw11]; exact bl_alloc (Below.refl _ _) _
    have HK := Lib.hid (ints_new ss hw11 hl HI.out); clear hw11
    have hzhb11 := hb11.size
    clear q0 q1 q2 qf
    replace HD := bk HD hb11
    replace HJ := Lib.hid ((HJ.out.below hb11).more hb11.size)
    replace hB := bl_trans hB hb11
    obtain ⟨q0, q1, q2, qf⟩ := cells3 HD
    go_wp2_with fail
    refine (eq_IntS _ _ ss w11 HJ.out HK.out).mono ?_
    rintro e w12 ⟨rfl, a12, hw12⟩
    have hb12 : Below w11.heap.size w11 w12 := by rw [hw12]; exact bl_drewN (Below.refl _ _) _
    clear hw12
    replace hB := bl_trans hB hb12
    go_wp2_with fail
    go_ret
    exact ⟨rfl, hB⟩
  · have hz : szR 1048576 (szNet n) < 0 := by unfold szR; split <;> omega
    go_enter Tryz.func5, Tryz.ntmps5
    go_wp2_with fail
    rw [← HW0.out]
    refine (sz_Net _ _ _ n 1048576 w0 HN.out (by omega) (by omega)).mono ?_
    rintro e w1 ⟨rfl, hb1⟩
    generalize szR 1048576 (szNet n) = left at *
    go_wp2_with fail
    go_ret
    exact ⟨rfl, bl_trans hB hb1⟩
theorem laidOut : laidOutB Tryz.prog = true := by kernel_rfl
theorem own : ownKnob Tryz.prog.godebug = none := by kernel_rfl
set_option maxRecDepth 100000 in
theorem lifted (os : Os) (started : os.Started) (H : Type) (enc : TypeId × Value → H) :
    ReturnsInHanded {} Tryz.checked os 5 .any (Rows.fnExactCheckRankingSpec.pre6 enc Tryz.prog Tryz.f5 Rows.fnExactCheckRankingRow.domain false) (Rows.fnExactCheckRankingSpec.post enc Tryz.prog Tryz.f5 false true false false) := by
  refine returnsInHanded_of_change (C := Tryz.checked) own started (by kernel_rfl) Tryz.func5
    (ChangeSpec.witness6 (enc := enc) (C := Tryz.checked) false ⟨#[], #[.agg #[.slice none 0 0, .slice none 0 0, .slice none 0 0], .int .i64 0, .int .i64 0, .slice none 0 0], []⟩ 8 (by kernel_rfl) (by kernel_rfl) (by kernel_rfl) (by kernel_rfl)) ?_
  intro W base args ds gs before hval0 hW hcnd _
  have hval : ∀ (j : Nat) t v, Tryz.f5.params[j]? = some t → args[j]? = some v → Value.okWide Tryz.prog W .any base t v := hval0
  have hW' := hW
  obtain ⟨p, q, hA0, hV, rfl, hfz, hnd⟩ := hW
  have hA : DataW.TrodAll enc Tryz.prog W 0 (fun _ => true) true Tryz.f5.params.toList args.toList ds p := hA0
  rw [Tryz.params5] at hA hval
  obtain ⟨v0, vs0, d0, ds0, p0, q0, hargs, rfl, rfl, h0, r0⟩ := trodAll_cons hA
  obtain ⟨v1, vs1, d1, ds1, p1, q1, rfl, rfl, rfl, h1, r1⟩ := trodAll_cons r0
  obtain ⟨v2, vs2, d2, ds2, p2, q2, rfl, rfl, rfl, h2, r2⟩ := trodAll_cons r1
  obtain ⟨v3, vs3, d3, ds3, p3, q3, rfl, rfl, rfl, h3, r3⟩ := trodAll_cons r2
  obtain ⟨rfl, rfl, rfl⟩ := trodAll_nil r3
  obtain rfl : args = #[v0, v1, v2, v3] := by cases args; simp_all
  obtain ⟨rfl, rfl⟩ := trodVars_none hV
  obtain ⟨c0, c1, c2, y0, y1, y2, n, rfl, rfl, -, hy0, hy1, hy2⟩ := open_agg3 Tryz.underlying25 (by kernel_rfl) (by kernel_rfl) (hval 0 25 v0 rfl rfl) h0
  obtain ⟨u0, ess, e0, he⟩ := endss_of_trod hy0
  obtain ⟨u1, ids, e1, hi⟩ := ints_of_trod Tryz.underlying23 Tryz.underlying3 (by kernel_rfl) hy1
  obtain ⟨u2, ins, e2, hn⟩ := ints_of_trod Tryz.underlying23 Tryz.underlying3 (by kernel_rfl) hy2
  simp only [List.cons.injEq, and_true] at e0 e1 e2
  subst e0 e1 e2
  obtain ⟨r, rfl, rfl, -, wq1⟩ := open_int Tryz.underlying3 (hval 1 3 v1 rfl rfl) h1
  obtain ⟨d, rfl, rfl, -, wq2⟩ := open_int Tryz.underlying3 (hval 2 3 v2 rfl rfl) h2
  obtain ⟨a9, l9, k9, rfl⟩ := okWide_slice Tryz.underlying23 (hval 3 23 v3 rfl rfl)
  obtain ⟨fu, hf9⟩ := h3
  obtain ⟨u3, ss, e3, hss⟩ := ints_of_trod Tryz.underlying23 Tryz.underlying3 (by kernel_rfl) hf9
  obtain rfl : Value.slice a9 l9 k9 = u3 := (List.cons.inj e3).1
  refine (law_walk c0 c1 c2 _ ⟨ess, ids, ins⟩ r d ss W ⟨he, hi, hn⟩ hss).mono fun e W' ⟨he, hg⟩ => ?_
  subst he
  exact ⟨_, rfl, post_law laidOut (by kernel_rfl) rfl (by kernel_rfl) Tryz.underlying4 rfl hW' hg⟩

theorem over : Rows.fnExactCheckRankingRow.holds Tryz.pinned (OpenSpec.ofChange Rows.fnExactCheckRankingSpec) :=
  OpenClaim.holds_of_wide 5 Tryz.f5 rfl rfl rfl rfl rfl rfl rfl ⟨rfl, rfl, rfl, rfl, rfl⟩ rfl rfl rfl rfl rfl (by kernel_rfl) Tryz.func5 (by kernel_rfl)
    (of_decide_eq_true (by kernel_rfl)) (by unfold Func.isWrapper; first | (rw [if_pos (by decide +kernel)]; kernel_rfl) | (rw [if_neg (by decide +kernel)]; exact ⟨rfl, rfl⟩))
    (fun os started H enc _ => lifted os started H enc)

/-- The statement. -/
theorem proved : Rows.FnExactCheckRankingSaid :=
  over
#print axioms proved
end Go.Proofs.YthfgklckmedggaaGreat.fnExactCheckRanking
