/-
  Networks, the program's side: what a daemon is; which rules run on a network; how many states each node has.
-/
import Derived.Test.YtfhecpkhifdnbaaGreatNetRing
namespace Go.Proofs.YtfhecpkhifdnbaaGreat
open Go.RowKit
set_option linter.unusedVariables false
set_option linter.unusedSimpArgs false
theorem impl_isDaemon1 (ve vi vn : Value) (n : Net) (w : World) (h : NetR w w.heap.size ve vi vn n) :
    Calls Tryz.prog 98 #[.agg #[ve, vi, vn], .int .i64 1] w fun e w' => e = .returned (.bool true) ∧ Below w.heap.size w w' := by
  have hin : inB 1 1 3 = true := inB_t (by omega)
  obtain ⟨⟨A0, m0, c0, rfl⟩, ⟨A1, m1, c1, rfl⟩, A2, m2, c2, rfl⟩ := h.slices
  obtain ⟨w0, hw0, hB, HD, hz0, HS0⟩ := box3 w (.slice A0 m0 c0) (.slice A1 m1 c1) (.slice A2 m2 c2) 31
  have HN0 := Lib.hid h; have HN := Lib.hid (h.up hB); clear h
  have HW0 := Lib.hid hw0; clear hw0
  obtain ⟨q0, q1, q2, qf⟩ := cells3 HD
  go_enter Tryz.func98, Tryz.ntmps98
  go_wp2_with (go_at_call 75; refine (impl_within _ _ _ _).mono ?_; rintro e w' ⟨rfl, rfl⟩)
  rw [← HW0.out]
  go_ret
  exact ⟨rfl, hB⟩
theorem impl_ruleRuns (ve vi vn : Value) (n : Net) (r : Int) (w : World) (h : NetR w w.heap.size ve vi vn n) (hp : netP n) :
    Calls Tryz.prog 160 #[.agg #[ve, vi, vn], .int .i64 r] w fun e w' => e = .returned (.bool (runsB n r)) ∧ Below w.heap.size w w' := by
  have HP := Lib.hid hp; clear hp
  have HE := Lib.hid (runs_eq n r)
  obtain ⟨⟨A0, m0, c0, rfl⟩, ⟨A1, m1, c1, rfl⟩, A2, m2, c2, rfl⟩ := h.slices
  obtain ⟨w0, hw0, hB, HD, hz0, HS0⟩ := box3 w (.slice A0 m0 c0) (.slice A1 m1 c1) (.slice A2 m2 c2) 31
  have HN0 := Lib.hid h; have HN := Lib.hid (h.up hB); clear h
  have HW0 := Lib.hid hw0; clear hw0
  obtain ⟨q0, q1, q2, qf⟩ := cells3 HD
  go_enter Tryz.func160, Tryz.ntmps160
  go_wp2_with fail
  rw [← HW0.out]
  refine (impl_hasStubsOrLoops _ _ _ n w0 HN.out HP.out).mono ?_
  rintro e w1 ⟨rfl, hb1⟩
  have hzhb1 := hb1.size
  clear q0 q1 q2 qf
  replace HD := bk HD hb1
  replace HN := Lib.hid (HN.out.up hb1)
  replace hB := bl_trans hB hb1
  obtain ⟨q0, q1, q2, qf⟩ := cells3 HD
  cases h1 : plainB n with
  | false =>
    have HF := Lib.hid (show runsB n r = false by rw [HE.out, h1]; rfl)
    go_wp2_with fail
    go_ret
    exact ⟨ret_bool HF.out.symm, hB⟩
  | true =>
    by_cases h5 : r = 5
    · subst h5
      have HF := Lib.hid (show runsB n 5 = ringB n by rw [HE.out, h1]; simp)
      go_wp2_with fail
      refine (impl_isTokenRing _ _ _ n w1 HN.out HP.out).mono ?_
      rintro e w2 ⟨rfl, hb2⟩
      have hzhb2 := hb2.size
      clear q0 q1 q2 qf
      replace HD := bk HD hb2
      replace HN := Lib.hid (HN.out.up hb2)
      replace hB := bl_trans hB hb2
      obtain ⟨q0, q1, q2, qf⟩ := cells3 HD
      go_wp2_with fail
      go_ret
      exact ⟨ret_bool HF.out.symm, hB⟩
    · have HF := Lib.hid (show runsB n r = true by rw [HE.out, h1, decide_eq_true h5]; rfl)
      have hq : (r != 5) = true := by rw [bne_iff_ne]; exact h5
      clear h5
      go_wp2_with fail
      go_ret
      exact ⟨ret_bool HF.out.symm, hB⟩
theorem impl_ruleOk (ve vi vn : Value) (n : Net) (r : Int) (w : World) (h : NetR w w.heap.size ve vi vn n) (hz : n.es.length ≤ 2000000) (hzi : n.ids.length ≤ 2000000) :
    Calls Tryz.prog 97 #[.agg #[ve, vi, vn], .int .i64 r] w fun e w' => e = .returned (.bool (askB n r)) ∧ Below w.heap.size w w' := by
  have HE := Lib.hid (ask_eq n r)
  obtain ⟨⟨A0, m0, c0, rfl⟩, ⟨A1, m1, c1, rfl⟩, A2, m2, c2, rfl⟩ := h.slices
  obtain ⟨w0, hw0, hB, HD, hz0, HS0⟩ := box3 w (.slice A0 m0 c0) (.slice A1 m1 c1) (.slice A2 m2 c2) 31
  have HN0 := Lib.hid h; have HN := Lib.hid (h.up hB); clear h
  have HW0 := Lib.hid hw0; clear hw0
  obtain ⟨q0, q1, q2, qf⟩ := cells3 HD
  go_enter Tryz.func97, Tryz.ntmps97
  go_wp2_with fail
  rw [← HW0.out]
  refine (impl_IsNetwork _ _ _ n w0 HN.out hz hzi).mono ?_
  rintro e w1 ⟨rfl, hb1⟩
  have hzhb1 := hb1.size
  clear q0 q1 q2 qf
  replace HD := bk HD hb1
  replace HN := Lib.hid (HN.out.up hb1)
  replace hB := bl_trans hB hb1
  obtain ⟨q0, q1, q2, qf⟩ := cells3 HD
  cases h1 : netB n with
  | false =>
    have HF := Lib.hid (show askB n r = false by rw [HE.out, h1]; rfl)
    go_wp2_with fail
    go_ret
    exact ⟨ret_bool HF.out.symm, hB⟩
  | true =>
    have HP := Lib.hid (show netP n from propB_iff.1 h1)
    go_wp2_with fail
    refine (impl_isRule r w1).mono ?_
    rintro e w2 ⟨rfl, rfl⟩
    cases h2 : inB r 1 5 with
    | false =>
      have HF := Lib.hid (show askB n r = false by rw [HE.out, h1, h2]; rfl)
      go_wp2_with fail
      go_ret
      exact ⟨ret_bool HF.out.symm, hB⟩
    | true =>
      have HF := Lib.hid (show askB n r = runsB n r by rw [HE.out, h1, h2]; rfl)
      go_wp2_with fail
      refine (impl_ruleRuns _ _ _ n r w1 HN.out HP.out).mono ?_
      rintro e w2 ⟨rfl, hb2⟩
      have hzhb2 := hb2.size
      clear q0 q1 q2 qf
      replace HD := bk HD hb2
      replace HN := Lib.hid (HN.out.up hb2)
      replace hB := bl_trans hB hb2
      obtain ⟨q0, q1, q2, qf⟩ := cells3 HD
      go_wp2_with fail
      go_ret
      exact ⟨ret_bool HF.out.symm, hB⟩
end Go.Proofs.YtfhecpkhifdnbaaGreat
