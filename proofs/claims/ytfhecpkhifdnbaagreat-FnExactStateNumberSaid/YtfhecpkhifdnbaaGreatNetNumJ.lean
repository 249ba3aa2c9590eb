/-
  Networks, the program's side: StateNumber.
-/
import Derived.Test.YtfhecpkhifdnbaaGreatNetNumI
namespace Go.Proofs.YtfhecpkhifdnbaaGreat
open Go.RowKit
set_option linter.unusedVariables false
set_option linter.unusedSimpArgs false
theorem nm_cv {n : Net} {r : Int} {ss : List Int} (h : cvB n r = true) : nmB n r ss = sitB n r ss := by unfold nmB; rw [h, Bool.true_and]
set_option maxRecDepth 100000 in
theorem impl_StateNumber (ve vi vn vs : Value) (n : Net) (r : Int) (ss : List Int) (w : World) (h : NetR w w.heap.size ve vi vn n) (hs : IntsR w w.heap.size vs ss) (hz : n.es.length ≤ 2000000) (hzi : n.ids.length ≤ 2000000) :
    Calls Tryz.prog 16 #[.agg #[ve, vi, vn], .int .i64 r, vs] w fun e w' => e = .returned (.tuple #[.int .i64 (nmN n r ss), .bool (nmB n r ss)]) ∧ Below w.heap.size w w' := by
  have HSS := Lib.hid hs
  obtain ⟨As, cs, rfl, -, hcm, hsc⟩ := hs.open_
  clear hs hcm hsc
  obtain ⟨⟨A0, m0, c0, rfl⟩, ⟨A1, m1, c1, rfl⟩, A2, m2, c2, rfl⟩ := h.slices
  obtain ⟨w0, hw0, hB, HD, hz0, HS0⟩ := box3 w (.slice A0 m0 c0) (.slice A1 m1 c1) (.slice A2 m2 c2) 31
  have HN0 := Lib.hid h; have HN := Lib.hid (h.up hB); clear h
  have HW0 := Lib.hid hw0; clear hw0
  obtain ⟨q0, q1, q2, qf⟩ := cells3 HD
  go_enter Tryz.func16, Tryz.ntmps16
  go_wp2_with fail
  rw [← HW0.out]
  refine (impl_newExplorer _ _ _ n r w0 HN.out hz hzi).mono ?_
  rintro e w1 ⟨hb1, hx⟩
  have hzhb1 := hb1.size
  clear q0 q1 q2 qf
  replace HD := bk HD hb1
  replace HN := Lib.hid (HN.out.up hb1)
  replace hB := bl_trans hB hb1
  obtain ⟨q0, q1, q2, qf⟩ := cells3 HD
  rcases hx with ⟨h1, rfl⟩ | ⟨h1, G, rfl, A', m', c', a, b, hE, hG, hU⟩
  · have HF := Lib.hid (show nmB n r ss = false by unfold nmB; rw [cv_no h1]; rfl)
    go_wp2_with fail
    go_ret2
    exact ⟨ret_pair (nm_f HF.out).symm HF.out.symm, hB⟩
  · have HC := Lib.hid (cv_pos h1)
    have g5 : w1.cell? ⟨G, 5, none⟩ = some (.slice A' m' c') := cell_of_row _ _ 5 _ _ (0, 0) hE
    have HU := Lib.hid hU; clear hU
    have hGl := cell_ltL g5
    cases h2 : decide (0 < sitG (cnts n r) 1) with
    | false =>
      have HF := Lib.hid (show nmB n r ss = false by unfold nmB; rw [HC.out, h2]; rfl)
      go_wp2_with fail
      go_ret2
      exact ⟨ret_pair (nm_f HF.out).symm HF.out.symm, hB⟩
    | true =>
      have HCV := Lib.hid (show cvB n r = true by rw [HC.out, h2])
      have HSI := Lib.hid ((HSS.out.below hB).more hB.size)
      clear hE HC
      go_wp2_with fail
      refine (impl_situationOk _ _ _ _ n r ss w1 HN.out HSI.out hz hzi).mono ?_
      rintro e w2 ⟨rfl, hb2⟩
      replace g5 := (hb2.cell (p := ⟨G, 5, none⟩) hGl).trans g5
      have hG2 : G < w2.heap.size := by have := hb2.size; omega
      replace HU := Lib.hid ((HU.out.below hb2).more hb2.size)
      replace HSI := Lib.hid ((HSI.out.below hb2).more hb2.size)
      have hzhb2 := hb2.size
      clear q0 q1 q2 qf
      replace HD := bk HD hb2
      replace HN := Lib.hid (HN.out.up hb2)
      replace hB := bl_trans hB hb2
      obtain ⟨q0, q1, q2, qf⟩ := cells3 HD
      cases h3 : sitB n r ss with
      | false =>
        have HF := Lib.hid (show nmB n r ss = false by rw [nm_cv HCV.out, h3])
        go_wp2_with fail
        go_ret2
        exact ⟨ret_pair (nm_f HF.out).symm HF.out.symm, hB⟩
      | true =>
        have HT := Lib.hid (show nmB n r ss = true by rw [nm_cv HCV.out, h3])
        go_wp2_with fail
        refine (impl_number G A' As m' c' _ cs (cnts n r) ss w2 hG2 g5 HU.out HSI.out (few_of HCV.out).1 (sitB_sts h3)).mono ?_
        rintro e w3 ⟨rfl, hb3⟩
        go_wp2_with fail
        go_ret2
        exact ⟨ret_pair (nm_t HT.out).symm HT.out.symm, bl_trans hB hb3⟩
end Go.Proofs.YtfhecpkhifdnbaaGreat
