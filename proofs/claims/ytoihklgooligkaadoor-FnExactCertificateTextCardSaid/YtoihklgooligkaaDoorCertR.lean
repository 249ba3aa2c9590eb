/-
  What CertificateText returns, on both sides.
-/
import Derived.Test.YtoihklgooligkaaDoorRows
import Derived.Test.YtoihklgooligkaaDoorKit
import Derived.Test.YtoihklgooligkaaDoorMem
import Derived.Test.YtoihklgooligkaaDoorBasic
import Derived.Test.YtoihklgooligkaaDoorArgs
import Derived.Test.YtoihklgooligkaaDoorLists
import Derived.Test.YtoihklgooligkaaDoorWithin
import Derived.Test.YtoihklgooligkaaDoorGood
import Derived.Test.YtoihklgooligkaaDoorArcs
import Derived.Test.YtoihklgooligkaaDoorAfter
import Derived.Test.YtoihklgooligkaaDoorClosed
import Derived.Test.YtoihklgooligkaaDoorMay
import Derived.Test.YtoihklgooligkaaDoorSpecWalk
import Derived.Test.YtoihklgooligkaaDoorRanks
import Derived.Test.YtoihklgooligkaaDoorAbove
import Derived.Test.YtoihklgooligkaaDoorRanksImpl
import Derived.Test.YtoihklgooligkaaDoorCert
import Derived.Test.YtoihklgooligkaaDoorCertImpl
import Derived.Test.YtoihklgooligkaaDoorCertTexts
import Derived.Test.YtoihklgooligkaaDoorCertSpec
import Derived.Test.YtoihklgooligkaaDoorCertImplText
import Derived.Test.YtoihklgooligkaaDoorItoa
import Derived.WalkKit
import Derived.WalkSpells
import Derived.WalkLawsBesides
import Derived.Lib.Hide
import Derived.Deep.QuietTactic
import Derived.BigQuiet
import Derived.Deep.RegionHeld3
namespace Go.Proofs.YtoihklgooligkaaDoor
open Go.RowKit
set_option linter.unusedVariables false
set_option linter.unusedSimpArgs false

noncomputable def cOk (n : Int) (xss : List (List Int)) (cl lb : Int) (f s : List Int) (rs : List (List Int)) : Bool := propB (Good n xss ∧ certP n.toNat xss cl lb f s rs)
noncomputable def cTx (n : Int) (xss : List (List Int)) (cl lb : Int) (f s : List Int) (rs : List (List Int)) : List UInt8 := if cOk n xss cl lb f s rs = true then certT cl lb f s rs else []
theorem RowsR.isSlice {w : World} {B : Nat} {v : Value} {xss : List (List Int)} (h : RowsR w B v xss) : ∃ A m c, v = .slice A m c := by
  obtain ⟨A, c, e, _⟩ := h.open_
  exact ⟨A, _, c, e⟩
theorem spec_CertificateText (n : Int) (v vf vs vr : Value) (xss : List (List Int)) (cl lb : Int) (f s : List Int) (rs : List (List Int)) (w : World) (h : RowsR w w.heap.size v xss) (hf : IntsR w w.heap.size vf f) (hs : IntsR w w.heap.size vs s) (hr : RowsR w w.heap.size vr rs)
    (hlen : f.length ≤ 1000000000 ∧ s.length ≤ 1000000000 ∧ rs.length ≤ 1000000000) (hlb : I64 lb) :
    Calls Tryd.prog 15 #[.agg #[.int .i64 n, v], .agg #[.int .i64 cl, .int .i64 lb, vf, vs, vr]] w fun e w' => e = .returned (.tuple #[strV (cTx n xss cl lb f s rs), .bool (cOk n xss cl lb f s rs)]) ∧ Below w.heap.size w w' := by
  have HV := Lib.hid h.isSlice
  have HH := Lib.hid h; clear h
  have HF := Lib.hid hf; clear hf
  have HS := Lib.hid hs; clear hs
  have HR := Lib.hid hr; clear hr
  have hb0 := bl_alloc (bl_alloc (Below.refl w.heap.size w) (.cells #[.int .i64 n, v] 29)) (.cells #[.int .i64 cl, .int .i64 lb, vf, vs, vr] 38)
  have hbx : Boxes ((w.alloc (.cells #[.int .i64 n, v] 29)).alloc (.cells #[.int .i64 cl, .int .i64 lb, vf, vs, vr] 38)) w.heap.size (.int .i64 n) v (.int .i64 cl) (.int .i64 lb) vf vs vr := by
    refine ⟨?_, ?_, ?_, ?_, ?_, ?_, ?_⟩
    · rw [World.cell?_alloc_lt _ _ _ (show w.heap.size < _ by simp), World.cell?_alloc_at _ _ _ _ rfl]; rfl
    · rw [World.cell?_alloc_lt _ _ _ (show w.heap.size < _ by simp), World.cell?_alloc_at _ _ _ _ rfl]; rfl
    all_goals
      rw [World.cell?_alloc_at _ _ _ _ (show w.heap.size + 1 = _ by simp)]; rfl
  have hsz : w.heap.size + 1 < ((w.alloc (.cells #[.int .i64 n, v] 29)).alloc (.cells #[.int .i64 cl, .int .i64 lb, vf, vs, vr] 38)).heap.size := by simp
  have HB := Lib.hid hbx; clear hbx
  have HZ := Lib.hid hsz; clear hsz
  go_enter Tryd.func15, Tryd.ntmps15
  go_wp2_with fail
  generalize (w.alloc (.cells #[.int .i64 n, v] 29)).alloc (.cells #[.int .i64 cl, .int .i64 lb, vf, vs, vr] 38) = w0 at *
  refine (spec_waGood n v xss w0 ((HH.out.below hb0).more hb0.size)).mono ?_
  rintro e w1 ⟨rfl, hb1⟩
  have hB1 := bl_trans hb0 hb1
  have HX1 := Lib.hid (HB.out.below hb1 HZ.out)
  have HZ1 := Lib.hid (Nat.lt_of_lt_of_le HZ.out hb1.size)
  obtain ⟨p0, p1, c0, c1, c2, c3, c4⟩ := HX1.out
  cases q : goodB n xss with
  | false =>
    have H1 := Lib.hid (show cOk n xss cl lb f s rs = false from propB_f (fun h => by rw [goodB_t h.1] at q; cases q))
    have H2 := Lib.hid (show cTx n xss cl lb f s rs = [] by unfold cTx; rw [H1.out]; rfl)
    go_wp2_with fail
    go_ret2
    exact ⟨by rw [H2.out, H1.out]; rfl, hB1⟩
  | true =>
    have HG := Lib.hid (goodB_iff.1 q); clear q
    obtain ⟨n, rfl⟩ := Int.eq_ofNat_of_zero_le (show 0 ≤ n by have := HG.out.1; unfold inB at this; simp at this; omega)
    go_wp2_with fail
    refine (spec_waCheck n v vf vs vr xss cl lb f s rs w1 ((HH.out.below hB1).more hB1.size) ((HF.out.below hB1).more hB1.size) ((HS.out.below hB1).more hB1.size) ((HR.out.below hB1).more hB1.size) HG.out hlen hlb).mono ?_
    rintro e w2 ⟨rfl, hb2⟩
    have hB2 := bl_trans hB1 hb2
    obtain ⟨x0, x1, z0, z1, z2, z3, z4⟩ := HX1.out.below hb2 HZ1.out
    cases q2 : propB (certP n xss cl lb f s rs) with
    | false =>
      have H1 := Lib.hid (show cOk n xss cl lb f s rs = false from propB_f (fun h => propB_ff q2 h.2))
      have H2 := Lib.hid (show cTx n xss cl lb f s rs = [] by unfold cTx; rw [H1.out]; rfl)
      go_wp2_with fail
      go_ret2
      exact ⟨by rw [H2.out, H1.out]; rfl, hB2⟩
    | true =>
      have H1 := Lib.hid (show cOk n xss cl lb f s rs = true from propB_t ⟨HG.out, propB_iff.1 q2⟩)
      have H2 := Lib.hid (show cTx n xss cl lb f s rs = certT cl lb f s rs by unfold cTx; rw [H1.out]; rfl)
      have HC := Lib.hid (certP.small HG.out (propB_iff.1 q2)); clear q2
      go_wp2_with fail
      refine (spec_srCertificate vf vs vr cl lb f s rs w2 ((HF.out.below hB2).more hB2.size) ((HS.out.below hB2).more hB2.size) ((HR.out.below hB2).more hB2.size) HC.out).mono ?_
      rintro e w3 ⟨rfl, hb3⟩
      go_wp2_with fail
      go_ret2
      exact ⟨by rw [H2.out, H1.out]; rfl, bl_trans hB2 hb3⟩
theorem impl_CertificateText (n : Int) (v vf vs vr : Value) (xss : List (List Int)) (cl lb : Int) (f s : List Int) (rs : List (List Int)) (w : World) (h : RowsR w w.heap.size v xss) (hf : IntsR w w.heap.size vf f) (hs : IntsR w w.heap.size vs s) (hr : RowsR w w.heap.size vr rs)
    (hlen : f.length ≤ 1000000000 ∧ s.length ≤ 1000000000 ∧ rs.length ≤ 1000000000) (hlb : I64 lb) (hp : Pow10 w) :
    Calls Tryd.prog 17 #[.agg #[.int .i64 n, v], .agg #[.int .i64 cl, .int .i64 lb, vf, vs, vr]] w fun e w' => e = .returned (.tuple #[strV (cTx n xss cl lb f s rs), .bool (cOk n xss cl lb f s rs)]) ∧ Below w.heap.size w w' := by
  have HV := Lib.hid h.isSlice
  have HH := Lib.hid h; clear h
  have HF := Lib.hid hf; clear hf
  have HS := Lib.hid hs; clear hs
  have HR := Lib.hid hr; clear hr
  have hb0 := bl_alloc (bl_alloc (Below.refl w.heap.size w) (.cells #[.int .i64 n, v] 29)) (.cells #[.int .i64 cl, .int .i64 lb, vf, vs, vr] 38)
  have hbx : Boxes ((w.alloc (.cells #[.int .i64 n, v] 29)).alloc (.cells #[.int .i64 cl, .int .i64 lb, vf, vs, vr] 38)) w.heap.size (.int .i64 n) v (.int .i64 cl) (.int .i64 lb) vf vs vr := by
    refine ⟨?_, ?_, ?_, ?_, ?_, ?_, ?_⟩
    · rw [World.cell?_alloc_lt _ _ _ (show w.heap.size < _ by simp), World.cell?_alloc_at _ _ _ _ rfl]; rfl
    · rw [World.cell?_alloc_lt _ _ _ (show w.heap.size < _ by simp), World.cell?_alloc_at _ _ _ _ rfl]; rfl
    all_goals
      rw [World.cell?_alloc_at _ _ _ _ (show w.heap.size + 1 = _ by simp)]; rfl
  have hsz : w.heap.size + 1 < ((w.alloc (.cells #[.int .i64 n, v] 29)).alloc (.cells #[.int .i64 cl, .int .i64 lb, vf, vs, vr] 38)).heap.size := by simp
  have HB := Lib.hid hbx; clear hbx
  have HZ := Lib.hid hsz; clear hsz
  go_enter Tryd.func17, Tryd.ntmps17
  go_wp2_with fail
  generalize (w.alloc (.cells #[.int .i64 n, v] 29)).alloc (.cells #[.int .i64 cl, .int .i64 lb, vf, vs, vr] 38) = w0 at *
  refine (impl_IsWalkProblem n v xss w0 ((HH.out.below hb0).more hb0.size)).mono ?_
  rintro e w1 ⟨rfl, hb1⟩
  have hB1 := bl_trans hb0 hb1
  have HX1 := Lib.hid (HB.out.below hb1 HZ.out)
  have HZ1 := Lib.hid (Nat.lt_of_lt_of_le HZ.out hb1.size)
  obtain ⟨p0, p1, c0, c1, c2, c3, c4⟩ := HX1.out
  cases q : goodB n xss with
  | false =>
    have H1 := Lib.hid (show cOk n xss cl lb f s rs = false from propB_f (fun h => by rw [goodB_t h.1] at q; cases q))
    have H2 := Lib.hid (show cTx n xss cl lb f s rs = [] by unfold cTx; rw [H1.out]; rfl)
    go_wp2_with fail
    go_ret2
    exact ⟨by rw [H2.out, H1.out]; rfl, hB1⟩
  | true =>
    have HG := Lib.hid (goodB_iff.1 q); clear q
    obtain ⟨n, rfl⟩ := Int.eq_ofNat_of_zero_le (show 0 ≤ n by have := HG.out.1; unfold inB at this; simp at this; omega)
    go_wp2_with fail
    refine (impl_isCertificate n v vf vs vr xss cl lb f s rs w1 ((HH.out.below hB1).more hB1.size) ((HF.out.below hB1).more hB1.size) ((HS.out.below hB1).more hB1.size) ((HR.out.below hB1).more hB1.size) HG.out HV.out hlen hlb).mono ?_
    rintro e w2 ⟨rfl, hb2⟩
    have hB2 := bl_trans hB1 hb2
    obtain ⟨x0, x1, z0, z1, z2, z3, z4⟩ := HX1.out.below hb2 HZ1.out
    cases q2 : propB (certP n xss cl lb f s rs) with
    | false =>
      have H1 := Lib.hid (show cOk n xss cl lb f s rs = false from propB_f (fun h => propB_ff q2 h.2))
      have H2 := Lib.hid (show cTx n xss cl lb f s rs = [] by unfold cTx; rw [H1.out]; rfl)
      go_wp2_with fail
      go_ret2
      exact ⟨by rw [H2.out, H1.out]; rfl, hB2⟩
    | true =>
      have H1 := Lib.hid (show cOk n xss cl lb f s rs = true from propB_t ⟨HG.out, propB_iff.1 q2⟩)
      have H2 := Lib.hid (show cTx n xss cl lb f s rs = certT cl lb f s rs by unfold cTx; rw [H1.out]; rfl)
      have HC := Lib.hid (certP.small HG.out (propB_iff.1 q2)); clear q2
      go_wp2_with fail
      refine (impl_certificateText vf vs vr cl lb f s rs w2 ((HF.out.below hB2).more hB2.size) ((HS.out.below hB2).more hB2.size) ((HR.out.below hB2).more hB2.size) HC.out (hp.below hB2)).mono ?_
      rintro e w3 ⟨rfl, hb3⟩
      go_wp2_with fail
      go_ret2
      exact ⟨by rw [H2.out, H1.out]; rfl, bl_trans hB2 hb3⟩
end Go.Proofs.YtoihklgooligkaaDoor
