/-
  The laws' own functions that write into a certificate's memory and read it again: markWalkCertificate, heldWalkCertificate.
  The laws' marks of an item and of an entry: each number of what is the call's own is written, and read again.
  The laws' own functions over entries: szLabEntry, toLabEntry, eqLabEntry.
-/
import Derived.Test.YtgibnlfgjnpckaaGreatDoorRows
import Derived.Test.YtgibnlfgjnpckaaGreatDoorKit
import Derived.Test.YtgibnlfgjnpckaaGreatDoorMem
import Derived.Test.YtgibnlfgjnpckaaGreatDoorArgs
import Derived.Test.YtgibnlfgjnpckaaGreatDoorArgsCert
import Derived.Test.YtgibnlfgjnpckaaGreatDoorMark
import Derived.WalkKit
import Derived.WalkSpells
import Derived.WalkLawsBesides
import Derived.Lib.Hide
import Derived.Test.YtgibnlfgjnpckaaGreatDoorOwn
import Derived.Test.YtgibnlfgjnpckaaGreatDoorBasic
import Derived.Test.YtgibnlfgjnpckaaGreatDoorArgsWalk
import Derived.Test.YtgibnlfgjnpckaaGreatDoorGood
import Derived.Test.YtgibnlfgjnpckaaGreatDoorCert
import Derived.Test.YtgibnlfgjnpckaaGreatDoorItem
import Derived.Test.YtgibnlfgjnpckaaGreatDoorArgsItem
import Derived.Test.YtgibnlfgjnpckaaGreatDoorEntry
import Derived.Test.YtgibnlfgjnpckaaGreatDoorReadLists
import Derived.Test.YtgibnlfgjnpckaaGreatDoorReadWalk
import Derived.Test.YtgibnlfgjnpckaaGreatDoorRead
import Derived.Test.YtgibnlfgjnpckaaGreatDoorPlain
import Derived.Test.YtgibnlfgjnpckaaGreatDoorPlainWalk
import Derived.Test.YtgibnlfgjnpckaaGreatDoorParseImpl
import Derived.Test.YtgibnlfgjnpckaaGreatDoorParseSpec
import Derived.Test.YtgibnlfgjnpckaaGreatDoorParseCertSpec
import Derived.Laws.Rows
namespace Go.Proofs.YtgibnlfgjnpckaaGreatDoor
section
open Go.RowKit
set_option linter.unusedVariables false
set_option linter.unusedSimpArgs false

theorem mark_Cert (cl lb : Int) (vf vs vr : Value) (f s : List Int) (rs : List (List Int)) (bf bs br : List Nat) (k : Int) (w : World) (hf : OwnInts w 3 vf f bf) (hs : OwnInts w 3 vs s bs) (hr : OwnRows w 26 3 vr rs br)
    (hn : (bf ++ bs ++ br).Nodup) (hlt : ∀ b ∈ bf ++ bs ++ br, b < w.heap.size) (h0 : 0 ≤ k) (h1 : k + f.length + s.length + lens rs ≤ 1000000000000) :
    Calls Tryz.prog 29 #[certV cl lb vf vs vr, .int .i64 k] w fun e w' => e = .returned (.int .i64 (k + f.length + s.length + lens rs)) ∧ OwnInts w' 3 vf (seqI k f.length) bf ∧ OwnInts w' 3 vs (seqI (k + f.length) s.length) bs ∧
      OwnRows w' 26 3 vr (seqSS (k + f.length + s.length) rs) br ∧ Kept (bf ++ bs ++ br) w w' := by
  have hb0 := bl_alloc (Below.refl w.heap.size w) (.cells #[.int .i64 cl, .int .i64 lb, vf, vs, vr] 40)
  have c3 : (w.alloc (.cells #[.int .i64 cl, .int .i64 lb, vf, vs, vr] 40)).cell? ⟨w.heap.size, 3, none⟩ = some vs := by rw [World.cell?_alloc_at _ _ _ _ rfl]; rfl
  have c4 : (w.alloc (.cells #[.int .i64 cl, .int .i64 lb, vf, vs, vr] 40)).cell? ⟨w.heap.size, 4, none⟩ = some vr := by rw [World.cell?_alloc_at _ _ _ _ rfl]; rfl
  have HF := Lib.hid (hf.keep (w' := w.alloc (.cells #[.int .i64 cl, .int .i64 lb, vf, vs, vr] 40)) fun b hb => hb0.block b (hlt b (by simp [hb])))
  have HS := Lib.hid (hs.keep (w' := w.alloc (.cells #[.int .i64 cl, .int .i64 lb, vf, vs, vr] 40)) fun b hb => hb0.block b (hlt b (by simp [hb])))
  have HR := Lib.hid (hr.keep (w' := w.alloc (.cells #[.int .i64 cl, .int .i64 lb, vf, vs, vr] 40)) fun b hb => hb0.block b (hlt b (by simp [hb])))
  clear hf hs hr
  have C3 := Lib.hid c3; clear c3
  have C4 := Lib.hid c4; clear c4
  rw [List.nodup_append, List.nodup_append] at hn
  obtain ⟨⟨n1, n2, n3⟩, n4, n5⟩ := hn
  have HLT := Lib.hid hlt; clear hlt
  go_enter Tryz.func29, Tryz.ntmps29
  go_wp2_with fail
  generalize w.alloc (.cells #[.int .i64 cl, .int .i64 lb, vf, vs, vr] 40) = w0 at *
  refine (mark_IntS vf f bf k w0 HF.out h0 (by omega)).mono ?_
  rintro e w1 ⟨rfl, ho1, hs1⟩
  have HO1 := Lib.hid ho1; clear ho1
  have d3 := (cell_same (w := w0) (w' := w1) ⟨w.heap.size, 3, none⟩ (hs1.block _ fun h => by have := HLT.out w.heap.size (by simp [h]); omega)).trans C3.out
  have d4 := (cell_same (w := w0) (w' := w1) ⟨w.heap.size, 4, none⟩ (hs1.block _ fun h => by have := HLT.out w.heap.size (by simp [h]); omega)).trans C4.out
  have HS1 := Lib.hid (HS.out.keep (w' := w1) fun b hb => hs1.block b fun h => n3 b h b hb rfl)
  have HR1 := Lib.hid (HR.out.keep (w' := w1) fun b hb => hs1.block b fun h => n5 b (by simp [h]) b hb rfl)
  go_wp2_with fail
  refine (mark_IntS vs s bs (k + f.length) w1 HS1.out (by omega) (by omega)).mono ?_
  rintro e w2 ⟨rfl, ho2, hs2⟩
  have HO2 := Lib.hid ho2; clear ho2
  have HO12 := Lib.hid (HO1.out.keep (w' := w2) fun b hb => hs2.block b fun h => n3 b hb b h rfl)
  have HR2 := Lib.hid (HR1.out.keep (w' := w2) fun b hb => hs2.block b fun h => n5 b (by simp [h]) b hb rfl)
  have e4 := (cell_same (w := w1) (w' := w2) ⟨w.heap.size, 4, none⟩ (hs2.block _ fun h => by have := HLT.out w.heap.size (by simp [h]); omega)).trans d4
  go_wp2_with fail
  refine (mark_IntSS vr rs br (k + f.length + s.length) w2 HR2.out n4 (by omega) (by omega)).mono ?_
  rintro e w3 ⟨rfl, ho3, hs3⟩
  have HO3 := Lib.hid ho3; clear ho3
  have HO13 := Lib.hid (HO12.out.keep (w' := w3) fun b hb => hs3.block b fun h => n5 b (by simp [hb]) b h rfl)
  have HO23 := Lib.hid (HO2.out.keep (w' := w3) fun b hb => hs3.block b fun h => n5 b (by simp [hb]) b h rfl)
  go_wp2_with fail
  go_ret
  refine ⟨rfl, HO13.out, HO23.out, HO3.out, ⟨?_, ?_, ?_, ?_, fun b hb hnb => ?_⟩⟩
  · exact (hs3.os.trans (hs2.os.trans hs1.os)).trans hb0.os
  · exact (hs3.tape.trans (hs2.tape.trans hs1.tape)).trans hb0.tape
  · exact (hs3.output.trans (hs2.output.trans hs1.output)).trans hb0.output
  · rw [hs3.size, hs2.size, hs1.size]; exact hb0.size
  · rw [hs3.block b (fun h => hnb (by simp [h])), hs2.block b (fun h => hnb (by simp [h])), hs1.block b (fun h => hnb (by simp [h]))]
    exact hb0.block b hb
theorem held_Cert (cl lb : Int) (vf vs vr : Value) (f s : List Int) (rs : List (List Int)) (k : Int) (w : World) (hf : IntsR w w.heap.size vf (seqI k f.length)) (hs : IntsR w w.heap.size vs (seqI (k + f.length) s.length)) (hr : RowsR w w.heap.size vr (seqSS (k + f.length + s.length) rs))
    (h0 : 0 ≤ k) (h1 : k + f.length + s.length + lens rs ≤ 1000000000000) :
    Calls Tryz.prog 30 #[certV cl lb vf vs vr, .int .i64 k] w fun e w' => e = .returned (.int .i64 (k + f.length + s.length + lens rs)) ∧ Below w.heap.size w w' := by
  have hb0 := bl_alloc (Below.refl w.heap.size w) (.cells #[.int .i64 cl, .int .i64 lb, vf, vs, vr] 40)
  have HF := Lib.hid hf; clear hf
  have HS := Lib.hid hs; clear hs
  have HR := Lib.hid hr; clear hr
  have c3 : (w.alloc (.cells #[.int .i64 cl, .int .i64 lb, vf, vs, vr] 40)).cell? ⟨w.heap.size, 3, none⟩ = some vs := by rw [World.cell?_alloc_at _ _ _ _ rfl]; rfl
  have c4 : (w.alloc (.cells #[.int .i64 cl, .int .i64 lb, vf, vs, vr] 40)).cell? ⟨w.heap.size, 4, none⟩ = some vr := by rw [World.cell?_alloc_at _ _ _ _ rfl]; rfl
  have C3 := Lib.hid c3; clear c3
  have C4 := Lib.hid c4; clear c4
  go_enter Tryz.func30, Tryz.ntmps30
  go_wp2_with fail
  generalize w.alloc (.cells #[.int .i64 cl, .int .i64 lb, vf, vs, vr] 40) = w0 at *
  have d3 := C3.out
  have d4 := C4.out
  refine (held_IntS vf f.length k w0 ((HF.out.below hb0).more hb0.size) h0 (by omega)).mono ?_
  rintro e w1 ⟨rfl, hw⟩
  subst hw
  go_wp2_with fail
  refine (held_IntS vs s.length (k + f.length) w0 ((HS.out.below hb0).more hb0.size) (by omega) (by omega)).mono ?_
  rintro e w1 ⟨rfl, hw⟩
  subst hw
  go_wp2_with fail
  refine (held_IntSS vr rs (k + f.length + s.length) w0 ((HR.out.below hb0).more hb0.size) (by omega) (by omega)).mono ?_
  rintro e w1 ⟨rfl, hw⟩
  subst hw
  go_wp2_with fail
  go_ret
  exact ⟨rfl, hb0⟩
end
section
open Go.RowKit
set_option linter.unusedVariables false
set_option linter.unusedSimpArgs false

theorem Kept.mono {bs bs' : List Nat} {w w' : World} (h : Kept bs w w') (hs : ∀ x ∈ bs, x ∈ bs') : Kept bs' w w' :=
  ⟨h.os, h.tape, h.output, h.size, fun k hk hn => h.block k hk fun hm => hn (hs k hm)⟩
def markI (k : Int) (x : Item) : Item :=
  { x with xss := seqSS k x.xss, f := seqI (k + lens x.xss) x.f.length, s := seqI (k + lens x.xss + x.f.length) x.s.length, rs := seqSS (k + lens x.xss + x.f.length + x.s.length) x.rs }
def endM (k : Int) (x : Item) : Int := k + lens x.xss + x.f.length + x.s.length + lens x.rs
set_option maxRecDepth 100000 in
theorem mark_Item (x : Item) (va vf vs vr : Value) (bs : List Nat) (k : Int) (w : World) (ho : OwnItem w x va vf vs vr bs) (hn : bs.Nodup) (hlt : ∀ b ∈ bs, b < w.heap.size) (h0 : 0 ≤ k) (h1 : endM k x ≤ 1000000000000) :
    Calls Tryz.prog 57 #[itemV x va vf vs vr, .int .i64 k] w fun e w' => e = .returned (.int .i64 (endM k x)) ∧ OwnItem w' (markI k x) va vf vs vr bs ∧ Kept bs w w' := by
  obtain ⟨ba, bf, bz, br, oa, of, oz, or, rfl⟩ := ho
  unfold endM at h1 ⊢
  have hb0 := bl_alloc (Below.refl w.heap.size w) (.cells #[.string x.nm, .int .i64 x.n, va, .int .i64 x.cl, .int .i64 x.lb, vf, vs, vr] 42)
  have HX := Lib.hid (heap_alloc_new w (.cells #[.string x.nm, .int .i64 x.n, va, .int .i64 x.cl, .int .i64 x.lb, vf, vs, vr] 42))
  have OA := Lib.hid (oa.keep (w' := w.alloc (.cells #[.string x.nm, .int .i64 x.n, va, .int .i64 x.cl, .int .i64 x.lb, vf, vs, vr] 42)) fun b hb => hb0.block b (hlt b (by simp [hb])))
  have OF := Lib.hid (of.keep (w' := w.alloc (.cells #[.string x.nm, .int .i64 x.n, va, .int .i64 x.cl, .int .i64 x.lb, vf, vs, vr] 42)) fun b hb => hb0.block b (hlt b (by simp [hb])))
  have OZ := Lib.hid (oz.keep (w' := w.alloc (.cells #[.string x.nm, .int .i64 x.n, va, .int .i64 x.cl, .int .i64 x.lb, vf, vs, vr] 42)) fun b hb => hb0.block b (hlt b (by simp [hb])))
  have OR := Lib.hid (or.keep (w' := w.alloc (.cells #[.string x.nm, .int .i64 x.n, va, .int .i64 x.cl, .int .i64 x.lb, vf, vs, vr] 42)) fun b hb => hb0.block b (hlt b (by simp [hb])))
  have HK0 := Lib.hid ((Kept.refl (ba ++ (bf ++ bz ++ br)) w).step hb0)
  have HS0 := Lib.hid (show w.heap.size < (w.alloc (.cells #[.string x.nm, .int .i64 x.n, va, .int .i64 x.cl, .int .i64 x.lb, vf, vs, vr] 42)).heap.size by simp)
  clear oa of oz or
  obtain ⟨n1, n2, n3⟩ := List.nodup_append.1 hn
  have HLT := Lib.hid hlt; clear hlt
  go_enter Tryz.func57, Tryz.ntmps57
  go_wp2_with fail
  generalize w.alloc (.cells #[.string x.nm, .int .i64 x.n, va, .int .i64 x.cl, .int .i64 x.lb, vf, vs, vr] 42) = w0 at *
  have hs0 := HS0.out
  refine (mark_Walk x.n va x.xss ba k w0 OA.out n1 (fun b hb => by have := HLT.out b (by simp [hb]); omega) h0 (by omega)).mono ?_
  rintro e w1 ⟨rfl, oa1, hk1⟩
  have hz1 := hk1.size
  have OA1 := Lib.hid oa1; clear oa1
  have OF1 := Lib.hid (OF.out.keep (w' := w1) fun b hb => hk1.block b (by have := HLT.out b (by simp [hb]); omega) fun h => n3 b h b (by simp [hb]) rfl)
  have OZ1 := Lib.hid (OZ.out.keep (w' := w1) fun b hb => hk1.block b (by have := HLT.out b (by simp [hb]); omega) fun h => n3 b h b (by simp [hb]) rfl)
  have OR1 := Lib.hid (OR.out.keep (w' := w1) fun b hb => hk1.block b (by have := HLT.out b (by simp [hb]); omega) fun h => n3 b h b (by simp [hb]) rfl)
  have HX1 := Lib.hid ((hk1.block w.heap.size (by omega) (fun h => by have := HLT.out _ (show w.heap.size ∈ ba ++ (bf ++ bz ++ br) by simp [h]); omega)).trans HX.out)
  have x0 : w1.cell? ⟨w.heap.size, 0, none⟩ = some (.string x.nm) := cell_of_row _ _ 0 _ _ (0, 0) HX1.out
  have x1 : w1.cell? ⟨w.heap.size, 1, none⟩ = some (.int .i64 x.n) := cell_of_row _ _ 1 _ _ (0, 0) HX1.out
  have x2 : w1.cell? ⟨w.heap.size, 2, none⟩ = some va := cell_of_row _ _ 2 _ _ (0, 0) HX1.out
  have x3 : w1.cell? ⟨w.heap.size, 3, none⟩ = some (.int .i64 x.cl) := cell_of_row _ _ 3 _ _ (0, 0) HX1.out
  have x4 : w1.cell? ⟨w.heap.size, 4, none⟩ = some (.int .i64 x.lb) := cell_of_row _ _ 4 _ _ (0, 0) HX1.out
  have x5 : w1.cell? ⟨w.heap.size, 5, none⟩ = some vf := cell_of_row _ _ 5 _ _ (0, 0) HX1.out
  have x6 : w1.cell? ⟨w.heap.size, 6, none⟩ = some vs := cell_of_row _ _ 6 _ _ (0, 0) HX1.out
  have x7 : w1.cell? ⟨w.heap.size, 7, none⟩ = some vr := cell_of_row _ _ 7 _ _ (0, 0) HX1.out
  have HK1 := Lib.hid hk1; clear hk1
  go_wp2_with fail
  refine (mark_Cert x.cl x.lb vf vs vr x.f x.s x.rs bf bz br (k + lens x.xss) w1 OF1.out OZ1.out OR1.out n2 (fun b hb => by have := HLT.out b (List.mem_append.2 (.inr hb)); omega) (by omega) (by omega)).mono ?_
  rintro e w2 ⟨rfl, of2, oz2, or2, hk2⟩
  have OF2 := Lib.hid of2; clear of2
  have OZ2 := Lib.hid oz2; clear oz2
  have OR2 := Lib.hid or2; clear or2
  have OA2 := Lib.hid (OA1.out.keep (w' := w2) fun b hb => hk2.block b (by have := HLT.out b (by simp [hb]); omega) fun h => n3 b hb b h rfl)
  have HK2 := Lib.hid hk2; clear hk2
  go_wp2_with fail
  go_ret
  refine ⟨rfl, ⟨ba, bf, bz, br, OA2.out, OF2.out, OZ2.out, OR2.out, rfl⟩, ?_⟩
  exact (HK0.out.trans (HK1.out.mono fun y hy => by simp [hy])).trans (HK2.out.mono fun y hy => List.mem_append.2 (.inr hy))
set_option maxRecDepth 100000 in
theorem held_Item (x : Item) (va vf vs vr : Value) (k : Int) (w : World) (h : ItemR w w.heap.size (markI k x) va vf vs vr) (h0 : 0 ≤ k) (h1 : endM k x ≤ 1000000000000) :
    Calls Tryz.prog 75 #[itemV x va vf vs vr, .int .i64 k] w fun e w' => e = .returned (.int .i64 (endM k x)) ∧ Below w.heap.size w w' := by
  unfold endM at h1 ⊢
  have hb0 := bl_alloc (Below.refl w.heap.size w) (.cells #[.string x.nm, .int .i64 x.n, va, .int .i64 x.cl, .int .i64 x.lb, vf, vs, vr] 42)
  have HX := Lib.hid (heap_alloc_new w (.cells #[.string x.nm, .int .i64 x.n, va, .int .i64 x.cl, .int .i64 x.lb, vf, vs, vr] 42))
  have HS0 := Lib.hid (show w.heap.size < (w.alloc (.cells #[.string x.nm, .int .i64 x.n, va, .int .i64 x.cl, .int .i64 x.lb, vf, vs, vr] 42)).heap.size by simp)
  have HH := Lib.hid h; clear h
  go_enter Tryz.func75, Tryz.ntmps75
  go_wp2_with fail
  generalize w.alloc (.cells #[.string x.nm, .int .i64 x.n, va, .int .i64 x.cl, .int .i64 x.lb, vf, vs, vr] 42) = w0 at *
  have hs0 := HS0.out
  refine (held_Walk x.n va x.xss k w0 (HH.out.up hb0).a h0 (by omega)).mono ?_
  rintro e w1 ⟨rfl, hb1⟩
  have hB1 := bl_trans hb0 hb1
  have hz1 := hb1.size
  have HX1 := Lib.hid ((hb1.block w.heap.size (by omega)).trans HX.out)
  have x0 : w1.cell? ⟨w.heap.size, 0, none⟩ = some (.string x.nm) := cell_of_row _ _ 0 _ _ (0, 0) HX1.out
  have x1 : w1.cell? ⟨w.heap.size, 1, none⟩ = some (.int .i64 x.n) := cell_of_row _ _ 1 _ _ (0, 0) HX1.out
  have x2 : w1.cell? ⟨w.heap.size, 2, none⟩ = some va := cell_of_row _ _ 2 _ _ (0, 0) HX1.out
  have x3 : w1.cell? ⟨w.heap.size, 3, none⟩ = some (.int .i64 x.cl) := cell_of_row _ _ 3 _ _ (0, 0) HX1.out
  have x4 : w1.cell? ⟨w.heap.size, 4, none⟩ = some (.int .i64 x.lb) := cell_of_row _ _ 4 _ _ (0, 0) HX1.out
  have x5 : w1.cell? ⟨w.heap.size, 5, none⟩ = some vf := cell_of_row _ _ 5 _ _ (0, 0) HX1.out
  have x6 : w1.cell? ⟨w.heap.size, 6, none⟩ = some vs := cell_of_row _ _ 6 _ _ (0, 0) HX1.out
  have x7 : w1.cell? ⟨w.heap.size, 7, none⟩ = some vr := cell_of_row _ _ 7 _ _ (0, 0) HX1.out
  have hd1 : ¬ (k + (lens x.xss : Int) < 0) := by omega
  go_wp2_with fail
  have HI := HH.out.up hB1
  refine (held_Cert x.cl x.lb vf vs vr x.f x.s x.rs (k + lens x.xss) w1 HI.f HI.s HI.r (by omega) (by omega)).mono ?_
  rintro e w2 ⟨rfl, hb2⟩
  have hd2 : ¬ (k + (lens x.xss : Int) + x.f.length + x.s.length + lens x.rs < 0) := by omega
  go_wp2_with fail
  go_ret
  exact ⟨rfl, bl_trans hB1 hb2⟩
set_option maxRecDepth 100000 in
theorem mark_Entry (en : Entry) (va vf vs vr : Value) (bs : List Nat) (k : Int) (w : World) (ho : OwnItem w en.it va vf vs vr bs) (hn : bs.Nodup) (hlt : ∀ b ∈ bs, b < w.heap.size) (h0 : 0 ≤ k) (h1 : endM k en.it ≤ 1000000000000) :
    Calls Tryz.prog 20 #[entryV en va vf vs vr, .int .i64 k] w fun e w' => e = .returned (.int .i64 (endM k en.it)) ∧ OwnItem w' (markI k en.it) va vf vs vr bs ∧ Kept bs w w' := by
  have hb0 := bl_alloc (Below.refl w.heap.size w) (.cells #[.int .i64 en.kd, .string en.nm, .string en.tn, .string en.it.nm, .int .i64 en.it.n, va, .int .i64 en.it.cl, .int .i64 en.it.lb, vf, vs, vr] 44)
  have OI := Lib.hid (ho.keep (w' := w.alloc (.cells #[.int .i64 en.kd, .string en.nm, .string en.tn, .string en.it.nm, .int .i64 en.it.n, va, .int .i64 en.it.cl, .int .i64 en.it.lb, vf, vs, vr] 44)) fun b hb => hb0.block b (hlt b hb))
  have HK0 := Lib.hid ((Kept.refl bs w).step hb0)
  have HS0 := Lib.hid (show w.heap.size < (w.alloc (.cells #[.int .i64 en.kd, .string en.nm, .string en.tn, .string en.it.nm, .int .i64 en.it.n, va, .int .i64 en.it.cl, .int .i64 en.it.lb, vf, vs, vr] 44)).heap.size by simp)
  clear ho
  go_enter Tryz.func20, Tryz.ntmps20
  go_wp2_with fail
  generalize w.alloc (.cells #[.int .i64 en.kd, .string en.nm, .string en.tn, .string en.it.nm, .int .i64 en.it.n, va, .int .i64 en.it.cl, .int .i64 en.it.lb, vf, vs, vr] 44) = w0 at *
  have hs0 := HS0.out
  refine (mark_Item en.it va vf vs vr bs k w0 OI.out hn (fun b hb => by have := hlt b hb; omega) h0 h1).mono ?_
  rintro e w1 ⟨rfl, oi1, hk1⟩
  have OI1 := Lib.hid oi1; clear oi1
  have HK1 := Lib.hid hk1; clear hk1
  go_wp2_with fail
  go_ret
  exact ⟨rfl, OI1.out, HK0.out.trans HK1.out⟩
set_option maxRecDepth 100000 in
theorem held_Entry (en : Entry) (va vf vs vr : Value) (k : Int) (w : World) (h : ItemR w w.heap.size (markI k en.it) va vf vs vr) (h0 : 0 ≤ k) (h1 : endM k en.it ≤ 1000000000000) :
    Calls Tryz.prog 33 #[entryV en va vf vs vr, .int .i64 k] w fun e w' => e = .returned (.int .i64 (endM k en.it)) ∧ Below w.heap.size w w' := by
  have hb0 := bl_alloc (Below.refl w.heap.size w) (.cells #[.int .i64 en.kd, .string en.nm, .string en.tn, .string en.it.nm, .int .i64 en.it.n, va, .int .i64 en.it.cl, .int .i64 en.it.lb, vf, vs, vr] 44)
  have HH := Lib.hid (h.up hb0); clear h
  have hM : ¬ (endM k en.it < 0) := by unfold endM; omega
  go_enter Tryz.func33, Tryz.ntmps33
  go_wp2_with fail
  generalize w.alloc (.cells #[.int .i64 en.kd, .string en.nm, .string en.tn, .string en.it.nm, .int .i64 en.it.n, va, .int .i64 en.it.cl, .int .i64 en.it.lb, vf, vs, vr] 44) = w0 at *
  refine (held_Item en.it va vf vs vr k w0 HH.out h0 h1).mono ?_
  rintro e w1 ⟨rfl, hb1⟩
  go_wp2_with fail
  go_ret
  exact ⟨rfl, bl_trans hb0 hb1⟩
end
section
open Go.RowKit
set_option linter.unusedVariables false
set_option linter.unusedSimpArgs false

theorem sz_Entry (en : Entry) (va vf vs vr : Value) (left : Int) (w : World) (h : ItemR w w.heap.size en.it va vf vs vr) (h1 : en.nm.size ≤ maxLen) (h2 : en.tn.size ≤ maxLen) (h3 : en.it.nm.size ≤ maxLen) (hl : 0 ≤ left) (hl' : left ≤ 1048576) :
    Calls Tryz.prog 12 #[entryV en va vf vs vr, .int .i64 left] w fun e w' => e = .returned (.int .i64 (szR left (szEntry en))) ∧ Below w.heap.size w w' := by
  unfold maxLen at h1 h2
  have HH := Lib.hid h; clear h
  have HS := Lib.hid (show szEntry en = en.nm.size + en.tn.size + szItem en.it from rfl)
  obtain ⟨kd, nm, tn, ⟨inm, n, xss, cl, lb, f, s, rs⟩⟩ := en
  dsimp only at *
  generalize szEntry ⟨kd, nm, tn, ⟨inm, n, xss, cl, lb, f, s, rs⟩⟩ = N at *
  have hb0 := bl_alloc (Below.refl w.heap.size w) (.cells #[.int .i64 kd, .string nm, .string tn, .string inm, .int .i64 n, va, .int .i64 cl, .int .i64 lb, vf, vs, vr] 32)
  have HB := Lib.hid (Box11.new w 32 (.int .i64 kd) (.string nm) (.string tn) (.string inm) (.int .i64 n) va (.int .i64 cl) (.int .i64 lb) vf vs vr)
  by_cases q0 : (nm.size : Int) ≤ left
  · by_cases q1 : (tn.size : Int) ≤ left - nm.size
    · go_enter Tryz.func12, Tryz.ntmps12
      go_wp2_with fail
      generalize w.alloc (.cells #[.int .i64 kd, .string nm, .string tn, .string inm, .int .i64 n, va, .int .i64 cl, .int .i64 lb, vf, vs, vr] 32) = w0 at *
      refine (sz_Item ⟨inm, n, xss, cl, lb, f, s, rs⟩ va vf vs vr (left - nm.size - tn.size) w0 (HH.out.up hb0) h3 (by omega) (by omega)).mono ?_
      rintro e w1 ⟨rfl, hb1⟩
      have hB1 := bl_trans hb0 hb1
      have E1 := Lib.hid (show szR (left - nm.size - tn.size) (szItem ⟨inm, n, xss, cl, lb, f, s, rs⟩) = szR left N by rw [HS.out, Nat.add_assoc, ← szR_add (m := nm.size) q0, ← szR_add (m := tn.size) q1])
      rw [E1.out]
      have hz := szR_le (left := left) (n := N) hl
      by_cases q3 : szR left N < 0
      · have H := Lib.hid (show szR left N = -1 from szR_m1 q3)
        go_wp2_with fail
        go_ret
        exact ⟨ret_int H.out.symm, hB1⟩
      · go_wp2_with fail
        go_ret
        exact ⟨rfl, hB1⟩
    · have H := Lib.hid (show szR left N = -1 by rw [HS.out]; unfold szR; rw [if_neg (by omega)])
      go_enter Tryz.func12, Tryz.ntmps12
      go_wp2_with fail
      go_ret
      exact ⟨ret_int H.out.symm, hb0⟩
  · have H := Lib.hid (show szR left N = -1 by rw [HS.out]; unfold szR; rw [if_neg (by omega)])
    go_enter Tryz.func12, Tryz.ntmps12
    go_wp2_with fail
    go_ret
    exact ⟨ret_int H.out.symm, hb0⟩

theorem eq_Entry (en : Entry) (va vf vs vr va' vf' vs' vr' : Value) (w : World) (h : ItemR w w.heap.size en.it va vf vs vr) (h' : ItemR w w.heap.size en.it va' vf' vs' vr') :
    Calls Tryz.prog 18 #[entryV en va vf vs vr, entryV en va' vf' vs' vr'] w fun e w' => e = .returned (.bool true) ∧ Below w.heap.size w w' := by
  have HH := Lib.hid h; clear h
  have HH' := Lib.hid h'; clear h'
  obtain ⟨kd, nm, tn, ⟨inm, n, xss, cl, lb, f, s, rs⟩⟩ := en
  dsimp only at *
  have hb0 := bl_alloc (bl_alloc (Below.refl w.heap.size w) (.cells #[.int .i64 kd, .string nm, .string tn, .string inm, .int .i64 n, va, .int .i64 cl, .int .i64 lb, vf, vs, vr] 44)) (.cells #[.int .i64 kd, .string nm, .string tn, .string inm, .int .i64 n, va', .int .i64 cl, .int .i64 lb, vf', vs', vr'] 44)
  have hq : (nm.toList == nm.toList) = true := by simp
  have hq2 : (tn.toList == tn.toList) = true := by simp
  go_enter Tryz.func18, Tryz.ntmps18
  go_wp2_with fail
  generalize (w.alloc (.cells #[.int .i64 kd, .string nm, .string tn, .string inm, .int .i64 n, va, .int .i64 cl, .int .i64 lb, vf, vs, vr] 44)).alloc (.cells #[.int .i64 kd, .string nm, .string tn, .string inm, .int .i64 n, va', .int .i64 cl, .int .i64 lb, vf', vs', vr'] 44) = w0 at *
  refine (eq_Item ⟨inm, n, xss, cl, lb, f, s, rs⟩ va vf vs vr va' vf' vs' vr' w0 (HH.out.up hb0) (HH'.out.up hb0)).mono ?_
  rintro e w1 ⟨rfl, hb1⟩
  go_wp2_with fail
  go_ret
  exact ⟨rfl, bl_trans hb0 hb1⟩

theorem to_Entry (en : Entry) (va vf vs vr : Value) (w : World) (h : ItemR w w.heap.size en.it va vf vs vr) (hz : szEntry en ≤ 1048576) :
    Calls Tryz.prog 15 #[entryV en va vf vs vr] w fun e w' => ∃ va' vf' vs' vr' bs, e = .returned (entryV en va' vf' vs' vr') ∧ OwnItem w' en.it va' vf' vs' vr' bs ∧ bs.Nodup ∧ (∀ b ∈ bs, w.heap.size ≤ b ∧ b < w'.heap.size) ∧ Below w.heap.size w w' := by
  have HH := Lib.hid h; clear h
  have hz1 : szItem en.it ≤ 1048576 := by unfold szEntry at hz; omega
  obtain ⟨kd, nm, tn, ⟨inm, n, xss, cl, lb, f, s, rs⟩⟩ := en
  dsimp only at *
  have HZ := Lib.hid hz; clear hz
  go_enter Tryz.func15, Tryz.ntmps15
  go_wp2_with fail
  refine (to_Item ⟨inm, n, xss, cl, lb, f, s, rs⟩ va vf vs vr _ ((HH.out.below (by repeat (first | exact Below.refl _ _ | refine bl_alloc ?_ _ | refine Below.setCell ?_ (by simp <;> omega) _))).more (by simp; omega)) hz1).mono ?_
  rintro e w1 ⟨va1, vf1, vs1, vr1, b1, rfl, ho1, hn1, hbs1, hb1⟩
  obtain ⟨A1, m1, k1, rfl⟩ := (ho1.reads (B := w1.heap.size) (fun b hb => (hbs1 b hb).2)).a.isSlice'
  obtain ⟨A2, m2, k2, rfl⟩ := (ho1.reads (B := w1.heap.size) (fun b hb => (hbs1 b hb).2)).f.isSlice
  obtain ⟨A3, m3, k3, rfl⟩ := (ho1.reads (B := w1.heap.size) (fun b hb => (hbs1 b hb).2)).s.isSlice
  obtain ⟨A4, m4, k4, rfl⟩ := (ho1.reads (B := w1.heap.size) (fun b hb => (hbs1 b hb).2)).r.isSlice'
  obtain ⟨hc1, hf1⟩ := bx (w.heap.size + 1) hb1 (by simp)
  obtain ⟨hc2, hf2⟩ := bx (w.heap.size + 1 + 1) hb1 (by simp)
  have hs1 := hb1.size
  simp at hs1 hbs1
  have hall1 := bl_trans (show Below w.heap.size w _ by repeat (first | exact Below.refl _ _ | refine bl_alloc ?_ _ | refine Below.setCell ?_ (by simp <;> omega) _)) hb1
  have HO := Lib.hid ho1; clear ho1
  have HN := Lib.hid hn1; clear hn1
  have HBS := Lib.hid hbs1; clear hbs1
  go_wp2_with fail
  refine bodyPost_ret (v := entryV ⟨kd, nm, tn, ⟨inm, n, xss, cl, lb, f, s, rs⟩⟩ (.slice A1 m1 k1) (.slice A2 m2 k2) (.slice A3 m3 k3) (.slice A4 m4 k4)) (by simp [results, Tryz.results15, go_sem, hc1]) rfl ⟨_, _, _, _, _, rfl, ?_, HN.out, ?_, ?_⟩
  · refine HO.out.keep fun b hb => ?_
    have := HBS.out b hb
    repeat rw [Below.heap_setCell _ _ _ _ (by simp; omega)]
  · intro b hb
    have := HBS.out b hb
    simp only [size_setCell]
    omega
  · iterate 19 (refine Below.setCell ?_ (by simp <;> omega) _)
    exact hall1
end
end Go.Proofs.YtgibnlfgjnpckaaGreatDoor
