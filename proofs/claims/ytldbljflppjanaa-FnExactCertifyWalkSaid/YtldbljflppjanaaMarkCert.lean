/-
  The laws' own functions that write into a certificate's memory and read it again: markWalkCertificate, heldWalkCertificate.
-/
import Derived.Test.YtldbljflppjanaaRows
import Derived.Test.YtldbljflppjanaaKit
import Derived.Test.YtldbljflppjanaaMem
import Derived.Test.YtldbljflppjanaaArgs
import Derived.Test.YtldbljflppjanaaArgsCert
import Derived.Test.YtldbljflppjanaaMark
import Derived.WalkKit
import Derived.WalkSpells
import Derived.WalkLawsBesides
import Derived.Lib.Hide
namespace Go.Proofs.Ytldbljflppjanaa
open Go.RowKit
set_option linter.unusedVariables false
set_option linter.unusedSimpArgs false

theorem mark_Cert (cl lb : Int) (vf vs vr : Value) (f s : List Int) (rs : List (List Int)) (bf bs br : List Nat) (k : Int) (w : World) (hf : OwnInts w 3 vf f bf) (hs : OwnInts w 3 vs s bs) (hr : OwnRows w 26 3 vr rs br)
    (hn : (bf ++ bs ++ br).Nodup) (hlt : ∀ b ∈ bf ++ bs ++ br, b < w.heap.size) (h0 : 0 ≤ k) (h1 : k + f.length + s.length + lens rs ≤ 1000000000000) :
    Calls Try.prog 11 #[certV cl lb vf vs vr, .int .i64 k] w fun e w' => e = .returned (.int .i64 (k + f.length + s.length + lens rs)) ∧ OwnInts w' 3 vf (seqI k f.length) bf ∧ OwnInts w' 3 vs (seqI (k + f.length) s.length) bs ∧
      OwnRows w' 26 3 vr (seqSS (k + f.length + s.length) rs) br ∧ Kept (bf ++ bs ++ br) w w' := by
  have hb0 := bl_alloc (Below.refl w.heap.size w) (.cells #[.int .i64 cl, .int .i64 lb, vf, vs, vr] 28)
  have c3 : (w.alloc (.cells #[.int .i64 cl, .int .i64 lb, vf, vs, vr] 28)).cell? ⟨w.heap.size, 3, none⟩ = some vs := by rw [World.cell?_alloc_at _ _ _ _ rfl]; rfl
  have c4 : (w.alloc (.cells #[.int .i64 cl, .int .i64 lb, vf, vs, vr] 28)).cell? ⟨w.heap.size, 4, none⟩ = some vr := by rw [World.cell?_alloc_at _ _ _ _ rfl]; rfl
  have HF := Lib.hid (hf.keep (w' := w.alloc (.cells #[.int .i64 cl, .int .i64 lb, vf, vs, vr] 28)) fun b hb => hb0.block b (hlt b (by simp [hb])))
  have HS := Lib.hid (hs.keep (w' := w.alloc (.cells #[.int .i64 cl, .int .i64 lb, vf, vs, vr] 28)) fun b hb => hb0.block b (hlt b (by simp [hb])))
  have HR := Lib.hid (hr.keep (w' := w.alloc (.cells #[.int .i64 cl, .int .i64 lb, vf, vs, vr] 28)) fun b hb => hb0.block b (hlt b (by simp [hb])))
  clear hf hs hr
  have C3 := Lib.hid c3; clear c3
  have C4 := Lib.hid c4; clear c4
  rw [List.nodup_append, List.nodup_append] at hn
  obtain ⟨⟨n1, n2, n3⟩, n4, n5⟩ := hn
  have HLT := Lib.hid hlt; clear hlt
  go_enter Try.func11, Try.ntmps11
  go_wp2_with fail
  generalize w.alloc (.cells #[.int .i64 cl, .int .i64 lb, vf, vs, vr] 28) = w0 at *
  refine (mark_IntS vf f bf k w0 HF.out h0 (by omega)).mono ?_
  rintro e w1 ⟨rfl, ho1, hs1⟩
  have HO1 := Lib.hid ho1; clear ho1
  have d3 := (cell_same (w := w0) (w' := w1) ⟨w.heap.size, 3, none⟩ (hs1.block _ fun h => by have := HLT.out w.heap.size (by simp [h]); omega)).trans C3.out
  have d4 := (cell_same (w := w0) (w' := w1) ⟨w.heap.size, 4, none⟩ (hs1.block _ fun h => by have := HLT.out w.heap.size (by simp [h]); omega)).trans C4.out
  have HS1 := Lib.hid (HS.out.keep (w' := w1) fun b hb => hs1.block b fun h => n3 b h b hb rfl)
  have HR1 := Lib.hid (HR.out.keep (w' := w1) fun b hb => hs1.block b fun h => n5 b (by simp [h]) b hb rfl)
  go_wp2_with fail
  refine (mark_IntS vs s bs (k + f.length) w1 HS1.out (by omega) (by omega)).mono ?_
  rintro e w2 ⟨rfl, ho2, hs2⟩
  have HO2 := Lib.hid ho2; clear ho2
  have HO12 := Lib.hid (HO1.out.keep (w' := w2) fun b hb => hs2.block b fun h => n3 b hb b h rfl)
  have HR2 := Lib.hid (HR1.out.keep (w' := w2) fun b hb => hs2.block b fun h => n5 b (by simp [h]) b hb rfl)
  have e4 := (cell_same (w := w1) (w' := w2) ⟨w.heap.size, 4, none⟩ (hs2.block _ fun h => by have := HLT.out w.heap.size (by simp [h]); omega)).trans d4
  go_wp2_with fail
  refine (mark_IntSS vr rs br (k + f.length + s.length) w2 HR2.out n4 (by omega) (by omega)).mono ?_
  rintro e w3 ⟨rfl, ho3, hs3⟩
  have HO3 := Lib.hid ho3; clear ho3
  have HO13 := Lib.hid (HO12.out.keep (w' := w3) fun b hb => hs3.block b fun h => n5 b (by simp [hb]) b h rfl)
  have HO23 := Lib.hid (HO2.out.keep (w' := w3) fun b hb => hs3.block b fun h => n5 b (by simp [hb]) b h rfl)
  go_wp2_with fail
  go_ret
  refine ⟨rfl, HO13.out, HO23.out, HO3.out, ⟨?_, ?_, ?_, ?_, fun b hb hnb => ?_⟩⟩
  · exact (hs3.os.trans (hs2.os.trans hs1.os)).trans hb0.os
  · exact (hs3.tape.trans (hs2.tape.trans hs1.tape)).trans hb0.tape
  · exact (hs3.output.trans (hs2.output.trans hs1.output)).trans hb0.output
  · rw [hs3.size, hs2.size, hs1.size]; exact hb0.size
  · rw [hs3.block b (fun h => hnb (by simp [h])), hs2.block b (fun h => hnb (by simp [h])), hs1.block b (fun h => hnb (by simp [h]))]
    exact hb0.block b hb
theorem held_Cert (cl lb : Int) (vf vs vr : Value) (f s : List Int) (rs : List (List Int)) (k : Int) (w : World) (hf : IntsR w w.heap.size vf (seqI k f.length)) (hs : IntsR w w.heap.size vs (seqI (k + f.length) s.length)) (hr : RowsR w w.heap.size vr (seqSS (k + f.length + s.length) rs))
    (h0 : 0 ≤ k) (h1 : k + f.length + s.length + lens rs ≤ 1000000000000) :
    Calls Try.prog 12 #[certV cl lb vf vs vr, .int .i64 k] w fun e w' => e = .returned (.int .i64 (k + f.length + s.length + lens rs)) ∧ Below w.heap.size w w' := by
  have hb0 := bl_alloc (Below.refl w.heap.size w) (.cells #[.int .i64 cl, .int .i64 lb, vf, vs, vr] 28)
  have HF := Lib.hid hf; clear hf
  have HS := Lib.hid hs; clear hs
  have HR := Lib.hid hr; clear hr
  have c3 : (w.alloc (.cells #[.int .i64 cl, .int .i64 lb, vf, vs, vr] 28)).cell? ⟨w.heap.size, 3, none⟩ = some vs := by rw [World.cell?_alloc_at _ _ _ _ rfl]; rfl
  have c4 : (w.alloc (.cells #[.int .i64 cl, .int .i64 lb, vf, vs, vr] 28)).cell? ⟨w.heap.size, 4, none⟩ = some vr := by rw [World.cell?_alloc_at _ _ _ _ rfl]; rfl
  have C3 := Lib.hid c3; clear c3
  have C4 := Lib.hid c4; clear c4
  go_enter Try.func12, Try.ntmps12
  go_wp2_with fail
  generalize w.alloc (.cells #[.int .i64 cl, .int .i64 lb, vf, vs, vr] 28) = w0 at *
  have d3 := C3.out
  have d4 := C4.out
  refine (held_IntS vf f.length k w0 ((HF.out.below hb0).more hb0.size) h0 (by omega)).mono ?_
  rintro e w1 ⟨rfl, hw⟩
  subst hw
  go_wp2_with fail
  refine (held_IntS vs s.length (k + f.length) w0 ((HS.out.below hb0).more hb0.size) (by omega) (by omega)).mono ?_
  rintro e w1 ⟨rfl, hw⟩
  subst hw
  go_wp2_with fail
  refine (held_IntSS vr rs (k + f.length + s.length) w0 ((HR.out.below hb0).more hb0.size) (by omega) (by omega)).mono ?_
  rintro e w1 ⟨rfl, hw⟩
  subst hw
  go_wp2_with fail
  go_ret
  exact ⟨rfl, hb0⟩
end Go.Proofs.Ytldbljflppjanaa
