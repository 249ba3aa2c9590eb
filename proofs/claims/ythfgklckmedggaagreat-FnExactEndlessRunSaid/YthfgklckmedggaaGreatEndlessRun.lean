/-
  Proved: the law FnExactEndlessRun returns true for every network, rule and daemon, and leaves the network as it was. No condition. (The frame at the end is after the kit's proof-skeleton.mjs.)
-/
import Derived.Test.YthfgklckmedggaaGreatRows
import Derived.Test.YthfgklckmedggaaGreatArgsN
import Derived.Test.YthfgklckmedggaaGreatNetEnI
import Derived.Test.YthfgklckmedggaaGreatOpenNet
import Derived.ProofKit
import Derived.OpenShut
import Derived.ShutString
import Derived.Lib.SmallJoins
namespace Go.Proofs.YthfgklckmedggaaGreat.fnExactEndlessRun
open Go.ChangeShapes Go.WideShapes Go.ChangeAt Go.RowKit Go.Joins
set_option linter.unusedVariables false
set_option linter.unusedSimpArgs false
theorem es_le {n : Net} (h : szNet n ≤ 1048576) : n.es.length ≤ 2000000 ∧ n.ids.length ≤ 2000000 := by
  unfold szNet szEnds at h
  omega
theorem ro_len (n : Net) (r d : Int) (h : szNet n ≤ 1048576) : (enL n r d).length ≤ 2000000 := by
  have := (enL_bd n r d).1
  omega
set_option maxRecDepth 100000 in
set_option maxHeartbeats 1000000 in
theorem law_walk (ve vi vn : Value) (n : Net) (r d : Int) (w : World) (h : NetR w w.heap.size ve vi vn n) :
    Calls Tryz.prog 8 #[.agg #[ve, vi, vn], .int .i64 r, .int .i64 d] w fun e w' => e = .returned (.bool true) ∧ Below w.heap.size w w' := by
  obtain ⟨⟨A0, m0, c0, rfl⟩, ⟨A1, m1, c1, rfl⟩, A2, m2, c2, rfl⟩ := h.slices
  obtain ⟨w0, hw0, hB, HD, hz0, HS0⟩ := box3 w (.slice A0 m0 c0) (.slice A1 m1 c1) (.slice A2 m2 c2) 25
  have HN0 := Lib.hid h
  have HN := Lib.hid (h.up hB); clear h
  have HW0 := Lib.hid hw0; clear hw0
  obtain ⟨q0, q1, q2, qf⟩ := cells3 HD
  by_cases hs : szNet n ≤ 1048576
  · skip
    have hz : 0 ≤ szR 1048576 (szNet n) := by unfold szR; split <;> omega
    obtain ⟨hes1, hes2⟩ := es_le hs
    have HL := Lib.hid (ro_len n r d hs)
    go_enter Tryz.func8, Tryz.ntmps8
    go_wp2_with fail
    rw [← HW0.out]
    refine (sz_Net _ _ _ n 1048576 w0 HN.out (by omega) (by omega)).mono ?_
    rintro e w1 ⟨rfl, hb1⟩
    have hzhb1 := hb1.size
    clear q0 q1 q2 qf
    replace HD := bk HD hb1 (by omega)
    replace hB := hB.trans (hb1.mono (by omega))
    replace HN := Lib.hid (HN0.out.up hB)
    obtain ⟨q0, q1, q2, qf⟩ := cells3 HD
    generalize szR 1048576 (szNet n) = left at *
    go_wp2_with fail
    refine (to_Net _ _ _ n w1 HN.out hs).mono ?_
    rintro e w2 ⟨xe, xi, xn, rfl, hx, hb2⟩
    obtain ⟨⟨A3, m3, c3, rfl⟩, ⟨A4, m4, c4, rfl⟩, A5, m5, c5, rfl⟩ := hx.slices
    have HX := Lib.hid hx; clear hx
    have hzhb2 := hb2.size
    clear q0 q1 q2 qf
    replace HD := bk HD hb2 (by omega)
    replace hB := hB.trans (hb2.mono (by omega))
    replace HN := Lib.hid (HN0.out.up hB)
    obtain ⟨q0, q1, q2, qf⟩ := cells3 HD
    go_wp2_with fail
    refine (spec_EndlessRun _ _ _ n r d w2 HX.out hes1).mono ?_
    rintro e w3 ⟨s, rfl, ⟨As, ms, cs, rfl⟩, hss, hb3⟩
    clear HX
    have hzhb3 := hb3.size
    clear q0 q1 q2 qf
    replace HD := bk HD hb3 (by omega)
    replace hB := hB.trans (hb3.mono (by omega))
    replace HN := Lib.hid (HN0.out.up hB)
    obtain ⟨q0, q1, q2, qf⟩ := cells3 HD
    have HS3 := Lib.hid hss; clear hss
    have hB3 := Below.refl w3.heap.size w3
    go_wp2_with fail
    refine (to_NetW _ _ _ n w3 HN.out hs).mono ?_
    rintro e w4 ⟨xe, xi, xn, rfl, hx, hb4, g0, hg0, hg1, hnw⟩
    obtain ⟨⟨A6, m6, c6, rfl⟩, ⟨A7, m7, c7, rfl⟩, A8, m8, c8, rfl⟩ := hx.slices
    have HX := Lib.hid hx; clear hx
    have HM := Lib.hid hnw; clear hnw
    have hzhb4 := hb4.size
    clear q0 q1 q2 qf
    replace HD := bk HD hb4 (by omega)
    replace hB := hB.trans (hb4.mono (by omega))
    replace HN := Lib.hid (HN0.out.up hB)
    replace hB3 := hB3.trans (hb4.mono (by omega))
    obtain ⟨q0, q1, q2, qf⟩ := cells3 HD
    obtain ⟨hi, hhi⟩ : ∃ z, z = w4.heap.size := ⟨_, rfl⟩
    rw [← hhi] at HM
    have hhl : hi ≤ w4.heap.size := by omega
    have hhl2 : w4.heap.size ≤ hi := by omega
    clear hhi
    obtain ⟨w5, hw5, hb5, HE, hz5, HS5⟩ := box3 w4 (.slice A6 m6 c6) (.slice A7 m7 c7) (.slice A8 m8 c8) 31
    have HW5 := Lib.hid hw5; clear hw5
    go_wp2_with fail
    rw [← HW5.out]
    replace HM := Lib.hid (HM.out.up hhl hb5)
    have hzhb5 := hb5.size
    clear q0 q1 q2 qf
    replace HD := bk HD hb5 (by omega)
    replace hB := hB.trans (hb5.mono (by omega))
    replace HN := Lib.hid (HN0.out.up hB)
    replace HX := Lib.hid (HX.out.up hb5)
    replace hB3 := hB3.trans (hb5.mono (by omega))
    obtain ⟨q0, q1, q2, qf⟩ := cells3 HD
    obtain ⟨p0, p1, p2, pf⟩ := cells3 HE
    refine (impl_EndlessRun _ _ _ n r d w5 HX.out hes1 hes2).mono ?_
    rintro e w6 ⟨u, rfl, ⟨Au, mu, cu, rfl⟩, hu, ho, hb6⟩
    replace HM := Lib.hid (HM.out.up (by omega) hb6)
    have hzhb6 := hb6.size
    clear q0 q1 q2 qf
    replace HD := bk HD hb6 (by omega)
    clear p0 p1 p2 pf
    replace HE := bk HE hb6 (by omega)
    replace hB := hB.trans (hb6.mono (by omega))
    replace HN := Lib.hid (HN0.out.up hB)
    replace HX := Lib.hid (HX.out.up hb6)
    replace hB3 := hB3.trans (hb6.mono (by omega))
    obtain ⟨q0, q1, q2, qf⟩ := cells3 HD
    obtain ⟨p0, p1, p2, pf⟩ := cells3 HE
    have HU := Lib.hid hu; clear hu
    have HO := Lib.hid ho; clear ho
    have hzu : w5.heap.size ≤ w6.heap.size := by omega
    obtain ⟨xs, hxs⟩ : ∃ z, z = enL n r d := ⟨_, rfl⟩
    obtain ⟨V, hV⟩ : ∃ z, z = enB n r d := ⟨_, rfl⟩
    rw [← hxs] at HU HO HS3 HL
    rw [← hV]
    have HXS := Lib.hid hxs.symm; clear hxs
    have HV := Lib.hid hV.symm; clear hV
    go_wp2_with fail
    refine (eq_IntS _ _ xs w6 HU.out ((HS3.out.below hB3).more hB3.size)).mono ?_
    rintro e w7 ⟨rfl, a7, hw7⟩
    have hb7 : Below w6.heap.size w6 w7 := by rw [hw7]; exact bl_drewN (Below.refl _ _) _
    clear hw7
    replace HM := Lib.hid (HM.out.up (by omega) hb7)
    replace HO := Lib.hid (kept_below HO.out hb7)
    have hzhb7 := hb7.size
    clear q0 q1 q2 qf
    replace HD := bk HD hb7 (by omega)
    clear p0 p1 p2 pf
    replace HE := bk HE hb7 (by omega)
    replace hB := hB.trans (hb7.mono (by omega))
    replace HN := Lib.hid (HN0.out.up hB)
    replace HX := Lib.hid (HX.out.up hb7)
    replace hB3 := hB3.trans (hb7.mono (by omega))
    obtain ⟨q0, q1, q2, qf⟩ := cells3 HD
    obtain ⟨p0, p1, p2, pf⟩ := cells3 HE
    go_wp2_with fail
    refine wp_region_held_drew (S := fun w' => w'.cell? ⟨w.heap.size, 0, none⟩ = some (.slice A0 m0 c0) ∧ w'.cell? ⟨w.heap.size, 1, none⟩ = some (.slice A1 m1 c1) ∧ w'.cell? ⟨w.heap.size, 2, none⟩ = some (.slice A2 m2 c2) ∧ w'.cell? ⟨w4.heap.size, 0, none⟩ = some (.slice A6 m6 c6) ∧ w'.cell? ⟨w4.heap.size, 1, none⟩ = some (.slice A7 m7 c7) ∧ w'.cell? ⟨w4.heap.size, 2, none⟩ = some (.slice A8 m8 c8)) (by kernel_rfl) ?_ (fun hHeld => ?_)
    · go_keep
    refine tk 0 49 rfl rfl ?_
    try simp only [Act.put, pu]
    refine tk 1 50 rfl rfl ?_
    try simp only [Act.put, pu]
    refine tr 2 rfl (by kernel_rfl) (fun K hK => ?_)
    go_simp
    go_at_call 11
    refine (to_Net _ _ _ n w7.drew (HN.out.up (Below.refl _ _).drew) hs).mono ?_
    rintro e w8 ⟨xe, xi, xn, rfl, hx, hb8'⟩
    have hb8 : Below w7.heap.size w7 w8 := (Below.refl _ _).drew.trans hb8'
    clear hb8'
    obtain ⟨⟨A9, m9, c9, rfl⟩, ⟨A10, m10, c10, rfl⟩, A11, m11, c11, rfl⟩ := hx.slices
    have HY := Lib.hid hx; clear hx
    replace HM := Lib.hid (HM.out.up (by omega) hb8)
    replace HO := Lib.hid (kept_below HO.out hb8)
    have hzhb8 := hb8.size
    clear q0 q1 q2 qf
    replace HD := bk HD hb8 (by omega)
    clear p0 p1 p2 pf
    replace HE := bk HE hb8 (by omega)
    replace hB := hB.trans (hb8.mono (by omega))
    replace HN := Lib.hid (HN0.out.up hB)
    replace HX := Lib.hid (HX.out.up hb8)
    replace hB3 := hB3.trans (hb8.mono (by omega))
    obtain ⟨q0, q1, q2, qf⟩ := cells3 HD
    obtain ⟨p0, p1, p2, pf⟩ := cells3 HE
    refine hK.out _ _ ?_ (fun hHeld => ?_)
    · go_keep
    clear hK K
    try simp only [Act.put, pu]
    refine tr 3 rfl (by kernel_rfl) (fun K hK => ?_)
    go_simp
    go_at_call 13
    refine (eq_Net _ _ _ _ _ _ n w8 HX.out HY.out).mono ?_
    rintro e w9 ⟨rfl, hb9⟩
    clear HY
    replace HM := Lib.hid (HM.out.up (by omega) hb9)
    replace HO := Lib.hid (kept_below HO.out hb9)
    have hzhb9 := hb9.size
    clear q0 q1 q2 qf
    replace HD := bk HD hb9 (by omega)
    clear p0 p1 p2 pf
    replace HE := bk HE hb9 (by omega)
    replace hB := hB.trans (hb9.mono (by omega))
    replace HN := Lib.hid (HN0.out.up hB)
    replace HX := Lib.hid (HX.out.up hb9)
    replace hB3 := hB3.trans (hb9.mono (by omega))
    obtain ⟨q0, q1, q2, qf⟩ := cells3 HD
    obtain ⟨p0, p1, p2, pf⟩ := cells3 HE
    refine hK.out _ _ ?_ (fun hHeld => ?_)
    · go_keep
    clear hK K
    try simp only [Act.put, pu]
    refine tk 4 53 rfl rfl ?_
    try simp only [Act.put, pu]
    refine wpAnyH_done (by kernel_rfl) ?_ _
    go_wp2_with fail
    refine (mark_Net _ _ _ n g0 hi 1 w9 HM.out (by omega) hs (by omega) (by omega) (by omega)).mono ?_
    rintro e w10 ⟨⟨k1, rfl, hk1⟩, hmk⟩
    have hb10 := hmk.below
    replace HO := Lib.hid (own_keep4 HO.out hb10.size fun b h1 h2 => hmk.off b h2 (by omega))
    clear HM HX hmk p0 p1 p2 pf HE
    have hzhb10 := hb10.size
    clear q0 q1 q2 qf
    replace HD := bk HD hb10 (by omega)
    replace hB := hB.trans (hb10.mono (by omega))
    replace HN := Lib.hid (HN0.out.up hB)
    replace hB3 := hB3.trans (hb10.mono (by omega))
    obtain ⟨q0, q1, q2, qf⟩ := cells3 HD
    have HU10 := Lib.hid (own_intsR HO.out HU.out.2)
    go_wp2_with fail
    refine (eq_IntS _ _ xs w10 HU10.out ((HS3.out.below hB3).more hB3.size)).mono ?_
    rintro e w11 ⟨rfl, a11, hw11⟩
    have hb11 : Below w10.heap.size w10 w11 := by rw [hw11]; exact bl_drewN (Below.refl _ _) _
    clear hw11
    replace HO := Lib.hid (kept_below HO.out hb11)
    have hzhb11 := hb11.size
    clear q0 q1 q2 qf
    replace HD := bk HD hb11 (by omega)
    replace hB := hB.trans (hb11.mono (by omega))
    replace HN := Lib.hid (HN0.out.up hB)
    replace hB3 := hB3.trans (hb11.mono (by omega))
    obtain ⟨q0, q1, q2, qf⟩ := cells3 HD
    obtain ⟨bs, hr1, hr3, hr2⟩ := OwnRow.of_owns HO.out
    have HOI := Lib.hid (show OwnInts w11 3 (.slice Au mu cu) xs bs from ⟨hr1, HU.out.2⟩)
    have hlt := hr1.lt
    have HBL := Lib.hid (And.intro hr3 hlt); clear hr1 hr2 hr3 hlt
    go_wp2_with fail
    refine (mark_IntS _ xs bs 1 w11 HOI.out (by omega) (by have := HL.out; omega)).mono ?_
    rintro e w12 ⟨rfl, ho12, hsb⟩
    have hb12 : Below w5.heap.size w11 w12 := hsb.below fun b hb => (HBL.out.1 b hb)
    have hsz12 := hsb.size
    have HI12 := Lib.hid (ho12.reads (B := w12.heap.size) fun b hb => by have := HBL.out.2 b hb; omega)
    have HSZ := Lib.hid hsz12; clear hsz12 hsb ho12
    have hzhb12 := hb12.size
    clear q0 q1 q2 qf
    replace HD := bk HD hb12 (by omega)
    replace hB := hB.trans (hb12.mono (by omega))
    replace HN := Lib.hid (HN0.out.up hB)
    replace hB3 := hB3.trans (hb12.mono (by omega))
    obtain ⟨q0, q1, q2, qf⟩ := cells3 HD
    have hl := HL.out
    go_wp2_with fail
    refine (held_IntS _ xs.length 1 w12 HI12.out (by omega) (by omega)).mono ?_
    rintro e w13 ⟨rfl, rfl⟩
    go_wp2_with fail
    refine (to_Net _ _ _ n w12 HN.out hs).mono ?_
    rintro e w14 ⟨xe, xi, xn, rfl, hx, hb14⟩
    obtain ⟨⟨A12, m12, c12, rfl⟩, ⟨A13, m13, c13, rfl⟩, A14, m14, c14, rfl⟩ := hx.slices
    have HX := Lib.hid hx; clear hx
    replace HI12 := Lib.hid ((HI12.out.below hb14).more hb14.size)
    have hzhb14 := hb14.size
    clear q0 q1 q2 qf
    replace HD := bk HD hb14 (by omega)
    replace hB := hB.trans (hb14.mono (by omega))
    replace HN := Lib.hid (HN0.out.up hB)
    replace hB3 := hB3.trans (hb14.mono (by omega))
    obtain ⟨q0, q1, q2, qf⟩ := cells3 HD
    go_wp2_with fail
    refine (impl_EndlessRun _ _ _ n r d w14 HX.out hes1 hes2).mono ?_
    rintro e w15 ⟨u2, rfl, ⟨Av, mv, cv, rfl⟩, hu2, -, hb15⟩
    clear HX
    replace HI12 := Lib.hid ((HI12.out.below hb15).more hb15.size)
    have hzhb15 := hb15.size
    clear q0 q1 q2 qf
    replace HD := bk HD hb15 (by omega)
    replace hB := hB.trans (hb15.mono (by omega))
    replace HN := Lib.hid (HN0.out.up hB)
    replace hB3 := hB3.trans (hb15.mono (by omega))
    obtain ⟨q0, q1, q2, qf⟩ := cells3 HD
    have HU2 := Lib.hid hu2; clear hu2
    rw [HXS.out] at HU2
    rw [HV.out]
    go_wp2_with fail
    refine (eq_IntS _ _ xs w15 HU2.out ((HS3.out.below hB3).more hB3.size)).mono ?_
    rintro e w16 ⟨rfl, a16, hw16⟩
    have hb16 : Below w15.heap.size w15 w16 := by rw [hw16]; exact bl_drewN (Below.refl _ _) _
    clear hw16
    replace HI12 := Lib.hid ((HI12.out.below hb16).more hb16.size)
    have hzhb16 := hb16.size
    clear q0 q1 q2 qf
    replace HD := bk HD hb16 (by omega)
    replace hB := hB.trans (hb16.mono (by omega))
    replace HN := Lib.hid (HN0.out.up hB)
    replace hB3 := hB3.trans (hb16.mono (by omega))
    obtain ⟨q0, q1, q2, qf⟩ := cells3 HD
    go_wp2_with fail
    refine (held_IntS _ xs.length 1 w16 HI12.out (by omega) (by omega)).mono ?_
    rintro e w17 ⟨rfl, rfl⟩
    go_wp2_with fail
    go_ret
    exact ⟨rfl, hB⟩
  · have hz : szR 1048576 (szNet n) < 0 := by unfold szR; split <;> omega
    go_enter Tryz.func8, Tryz.ntmps8
    go_wp2_with fail
    rw [← HW0.out]
    refine (sz_Net _ _ _ n 1048576 w0 HN.out (by omega) (by omega)).mono ?_
    rintro e w1 ⟨rfl, hb1⟩
    generalize szR 1048576 (szNet n) = left at *
    go_wp2_with fail
    go_ret
    exact ⟨rfl, bl_trans hB hb1⟩
theorem laidOut : laidOutB Tryz.prog = true := by kernel_rfl
theorem own : ownKnob Tryz.prog.godebug = none := by kernel_rfl
set_option maxRecDepth 100000 in
theorem lifted (os : Os) (started : os.Started) (H : Type) (enc : TypeId × Value → H) :
    ReturnsInHanded {} Tryz.checked os 8 .any (Rows.fnExactEndlessRunSpec.pre6 enc Tryz.prog Tryz.f8 Rows.fnExactEndlessRunRow.domain false) (Rows.fnExactEndlessRunSpec.post enc Tryz.prog Tryz.f8 false true false false) := by
  refine returnsInHanded_of_change (C := Tryz.checked) own started (by kernel_rfl) Tryz.func8
    (ChangeSpec.witness6 (enc := enc) (C := Tryz.checked) false ⟨#[], #[.agg #[.slice none 0 0, .slice none 0 0, .slice none 0 0], .int .i64 0, .int .i64 0], []⟩ 8 (by kernel_rfl) (by kernel_rfl) (by kernel_rfl) (by kernel_rfl)) ?_
  intro W base args ds gs before hval0 hW hcnd _
  have hval : ∀ (j : Nat) t v, Tryz.f8.params[j]? = some t → args[j]? = some v → Value.okWide Tryz.prog W .any base t v := hval0
  have hW' := hW
  obtain ⟨p, q, hA0, hV, rfl, hfz, hnd⟩ := hW
  have hA : DataW.TrodAll enc Tryz.prog W 0 (fun _ => true) true Tryz.f8.params.toList args.toList ds p := hA0
  rw [Tryz.params8] at hA hval
  obtain ⟨v0, vs0, d0, ds0, p0, q0, hargs, rfl, rfl, h0, r0⟩ := trodAll_cons hA
  obtain ⟨v1, vs1, d1, ds1, p1, q1, rfl, rfl, rfl, h1, r1⟩ := trodAll_cons r0
  obtain ⟨v2, vs2, d2, ds2, p2, q2, rfl, rfl, rfl, h2, r2⟩ := trodAll_cons r1
  obtain ⟨rfl, rfl, rfl⟩ := trodAll_nil r2
  obtain rfl : args = #[v0, v1, v2] := by cases args; simp_all
  obtain ⟨rfl, rfl⟩ := trodVars_none hV
  obtain ⟨c0, c1, c2, y0, y1, y2, n, rfl, rfl, -, hy0, hy1, hy2⟩ := open_agg3 Tryz.underlying25 (by kernel_rfl) (by kernel_rfl) (hval 0 25 v0 rfl rfl) h0
  obtain ⟨u0, ess, e0, he⟩ := endss_of_trod hy0
  obtain ⟨u1, ids, e1, hi⟩ := ints_of_trod Tryz.underlying23 Tryz.underlying3 (by kernel_rfl) hy1
  obtain ⟨u2, ins, e2, hn⟩ := ints_of_trod Tryz.underlying23 Tryz.underlying3 (by kernel_rfl) hy2
  simp only [List.cons.injEq, and_true] at e0 e1 e2
  subst e0 e1 e2
  obtain ⟨r, rfl, rfl, -, wr⟩ := open_int Tryz.underlying3 (hval 1 3 v1 rfl rfl) h1
  obtain ⟨d, rfl, rfl, -, wd⟩ := open_int Tryz.underlying3 (hval 2 3 v2 rfl rfl) h2
  refine (law_walk c0 c1 c2 ⟨ess, ids, ins⟩ r d W ⟨he, hi, hn⟩).mono fun e W' ⟨he, hg⟩ => ?_
  subst he
  exact ⟨_, rfl, post_law laidOut (by kernel_rfl) rfl (by kernel_rfl) Tryz.underlying4 rfl hW' hg⟩

theorem over : Rows.fnExactEndlessRunRow.holds Tryz.pinned (OpenSpec.ofChange Rows.fnExactEndlessRunSpec) :=
  OpenClaim.holds_of_wide 8 Tryz.f8 rfl rfl rfl rfl rfl rfl rfl ⟨rfl, rfl, rfl, rfl, rfl⟩ rfl rfl rfl rfl rfl (by kernel_rfl) Tryz.func8 (by kernel_rfl)
    (of_decide_eq_true (by kernel_rfl)) (by unfold Func.isWrapper; first | (rw [if_pos (by decide +kernel)]; kernel_rfl) | (rw [if_neg (by decide +kernel)]; exact ⟨rfl, rfl⟩))
    (fun os started H enc _ => lifted os started H enc)

/-- The statement. -/
theorem proved : Rows.FnExactEndlessRunSaid :=
  over
#print axioms proved
end Go.Proofs.YthfgklckmedggaaGreat.fnExactEndlessRun
