/-
  The reference's srReadCertificate.
-/
import Derived.Test.YtcfbkickiijjkaaGreatDoorVParseCertImpl
import Derived.Test.YtcfbkickiijjkaaGreatDoorVParseSpec
import Derived.Deep.DeepCutAuto
import Derived.Deep.CutBlock
namespace Go.Proofs.YtcfbkickiijjkaaGreatDoor
open Go.RowKit
set_option linter.all false
def clsTo (p : List UInt8) : Nat → Int
  | 0 => 0
  | 1 => 0
  | 2 => if p = wGlobal then 1 else 0
  | 3 => if p = wStar then 2 else if p = wGlobal then 1 else 0
  | _ + 4 => clsI p
theorem cls_t0 {p : List UInt8} : clsTo p 1 = 0 := rfl
theorem cls_f0 {p : List UInt8} : clsTo p 1 = clsTo p 0 := rfl
theorem cls_t1 {p : List UInt8} (h : (wGlobal == p) = true) : clsTo p 2 = 1 := by have e : p = wGlobal := (LawfulBEq.eq_of_beq h).symm; unfold clsTo; rw [if_pos e]
theorem cls_f1 {p : List UInt8} (h : (wGlobal == p) = false) : clsTo p 2 = clsTo p 1 := by
  have e : ¬ p = wGlobal := fun e => by rw [e] at h; simp at h
  unfold clsTo; rw [if_neg e]
theorem cls_t2 {p : List UInt8} (h : (wStar == p) = true) : clsTo p 3 = 2 := by have e : p = wStar := (LawfulBEq.eq_of_beq h).symm; unfold clsTo; rw [if_pos e]
theorem cls_f2 {p : List UInt8} (h : (wStar == p) = false) : clsTo p 3 = clsTo p 2 := by
  have e : ¬ p = wStar := fun e => by rw [e] at h; simp at h
  unfold clsTo; rw [if_neg e]
theorem cls_t3 {p : List UInt8} (h : (wConstant == p) = true) : clsTo p 4 = 3 := by have e : p = wConstant := (LawfulBEq.eq_of_beq h).symm; unfold clsTo clsI; rw [if_pos e]
theorem cls_f3 {p : List UInt8} (h : (wConstant == p) = false) : clsTo p 4 = clsTo p 3 := by
  have e : ¬ p = wConstant := fun e => by rw [e] at h; simp at h
  unfold clsTo clsI; rw [if_neg e]
def ClRel (p : List UInt8) (b : Nat) (w : World) (i : Value) (wr : World) : Prop :=
  ∃ k : Nat, k ≤ 4 ∧ i = .int .i64 k ∧ BoxC wr b (.int .i64 (clsTo p k)) (.int .i64 0) (.slice none 0 0) (.slice none 0 0) (.slice none 0 0) ∧ Kept [b] w wr
theorem BoxC.set0 {w : World} {b : Nat} {x0 x1 x2 x3 x4 : Value} (h : BoxC w b x0 x1 x2 x3 x4) (u : Value) : BoxC (w.setCell ⟨b, 0, none⟩ u) b u x1 x2 x3 x4 := by
  obtain ⟨h0, h1, h2, h3, h4, f0, f1, f2, f3, f4⟩ := h
  have e1 : ∀ i, (w.setCell ⟨b, 0, none⟩ u).frozen? ⟨b, i, none⟩ = w.frozen? ⟨b, i, none⟩ := fun i => by go_simp
  refine ⟨?_, ?_, ?_, ?_, ?_, (e1 _).trans f0, (e1 _).trans f1, (e1 _).trans f2, (e1 _).trans f3, (e1 _).trans f4⟩ <;> go_simp
theorem tail1 {w : World} {B : Nat} {ad : Addr} {n c : Nat} {u0 : Value} {vs : List Value} (h : SlR w B (.slice (some ad) n c) (u0 :: vs)) : SlR w B (.slice (some ⟨ad.block, ad.off + 1, none⟩) vs.length (c - 1)) vs := by
  obtain ⟨A, c', e, h1, h2, h3⟩ := h
  simp only [Value.slice.injEq] at e
  obtain ⟨e1, _, e3⟩ := e
  subst e3
  obtain ⟨ad', e', hb, hc⟩ := h3 (by simp)
  rw [← e1] at e'
  obtain rfl : ad = ad' := by simpa using e'
  simp only [List.length_cons] at h1
  refine ⟨_, c - 1, rfl, by omega, by omega, fun _ => ⟨_, rfl, hb, fun j u hu => ?_⟩⟩
  have := hc (j + 1) u (by simpa using hu)
  have e2 : ad.add (j + 1) = (⟨ad.block, ad.off + 1, none⟩ : Addr).add j := by
    rw [add_lit]
    unfold Addr.add
    rw [if_neg (by omega)]
    simp only [Addr.mk.injEq, true_and, and_true]; omega
  rwa [e2] at this
def StC (w2 : World) (b : Nat) (cl lb : Int) (r : List (List UInt8)) (F S : List Int) (v8 : Value) (wc : World) : Prop :=
  ∃ vf vs bf bs, SlR w2 b v8 (r.map strV) ∧ BoxC wc b (.int .i64 cl) (.int .i64 lb) vf vs (.slice none 0 0) ∧ OwnInts wc 3 vf F bf ∧ OwnInts wc 3 vs S bs ∧
    (bf ++ bs).Nodup ∧ (∀ x ∈ bf ++ bs, b < x ∧ x < wc.heap.size) ∧ Kept [b] w2 wc
def RkRel (rest : List (List UInt8)) (b : Nat) (cl lb : Int) (vf vs : Value) (w : World) (i : Value) (wr : World) : Prop :=
  ∃ (k : Nat) (v : Value), k ≤ rest.length ∧ i = .int .i64 k ∧ RowsSt w.heap.size wr v ((rest.take k).map (numsR 46)) ∧ BoxC wr b (.int .i64 cl) (.int .i64 lb) vf vs v ∧ Kept [b] w wr
set_option maxRecDepth 100000 in
set_option maxHeartbeats 1000000 in
theorem spec_srReadCertificate (n : Nat) (v : Value) (xss : List (List Int)) (s : ByteArray) (p0 : List UInt8) (t : List (List UInt8)) (w : World) (h : RowsR w w.heap.size v xss) (hg : Good n xss) (hs : s.size ≤ 1048576) (hspl : spl 32 s.data.toList [] = p0 :: t) :
  Calls Tryz.prog 135 #[.agg #[.int .i64 (n : Int), v], .string s] w fun e w' => PcPost n xss p0 t w e w' := by
 obtain ⟨Aw, mw, cw, rfl⟩ := h.isSlice'
 have HW := Lib.hid h; clear h
 have hsz := Lib.size_eq s
 have HL := Lib.hid (show ∀ p ∈ p0 :: t, p.length ≤ 1048576 from fun p hp => by rw [← hspl] at hp; have := spl_part 32 _ _ p hp; simp only [List.length_nil] at this; omega)
 have hcnt : t.length + 1 ≤ 1048577 := by
  have h1 := spl_len 32 s.data.toList []
  have h2 := List.count_le_length (a := 32) (l := s.data.toList)
  rw [hspl, List.length_cons] at h1
  omega
 have HSP := Lib.hid hspl; clear hspl hsz
 have HG := Lib.hid hg; clear hg
 have hb0 := bl_alloc (bl_alloc (Below.refl w.heap.size w) (.cells #[.int .i64 (n : Int), .slice Aw mw cw] 50)) (.cells #[.int .i64 0, .int .i64 0, .slice none 0 0, .slice none 0 0, .slice none 0 0] 51)
 have HZ0 := Lib.hid (show w.heap.size + 1 < ((w.alloc (.cells #[.int .i64 (n : Int), .slice Aw mw cw] 50)).alloc (.cells #[.int .i64 0, .int .i64 0, .slice none 0 0, .slice none 0 0, .slice none 0 0] 51)).heap.size by simp)
 have p00 : ((w.alloc (.cells #[.int .i64 (n : Int), .slice Aw mw cw] 50)).alloc (.cells #[.int .i64 0, .int .i64 0, .slice none 0 0, .slice none 0 0, .slice none 0 0] 51)).cell? ⟨w.heap.size, 0, none⟩ = some (.int .i64 (n : Int)) := by go_simp
 have p01 : ((w.alloc (.cells #[.int .i64 (n : Int), .slice Aw mw cw] 50)).alloc (.cells #[.int .i64 0, .int .i64 0, .slice none 0 0, .slice none 0 0, .slice none 0 0] 51)).cell? ⟨w.heap.size, 1, none⟩ = some (.slice Aw mw cw) := by go_simp
 have HB0 := Lib.hid (BoxC.new (w.alloc (.cells #[.int .i64 (n : Int), .slice Aw mw cw] 50)) 51 (.int .i64 0) (.int .i64 0) (.slice none 0 0) (.slice none 0 0) (.slice none 0 0))
 rw [show (w.alloc (.cells #[.int .i64 (n : Int), .slice Aw mw cw] 50)).heap.size = w.heap.size + 1 by simp] at HB0
 have P0 := Lib.hid p00; clear p00
 have P1 := Lib.hid p01; clear p01
 go_enter Tryz.func135, Tryz.ntmps135
 go_wp2_with fail
 generalize (w.alloc (.cells #[.int .i64 (n : Int), .slice Aw mw cw] 50)).alloc (.cells #[.int .i64 0, .int .i64 0, .slice none 0 0, .slice none 0 0, .slice none 0 0] 51) = w0 at *
 refine (l1Split_any s 32 w0 hs).mono ?_
 rintro e w1 ⟨v1, rfl, hown, hb1⟩
 have hsl := own_reads hown
 clear hown
 rw [HSP.out] at hsl
 obtain ⟨A, c, rfl, g1, g2, g3⟩ := hsl.open1
 have HSL := Lib.hid hsl; clear hsl
 simp only [List.length_map, List.length_cons] at g1 g3 HSL ⊢
 obtain ⟨ad, rfl, hb, hc⟩ := g3 (by omega)
 have q0 : w1.cell? ad = some (.string ⟨p0.toArray⟩) := by
  have h0 : w1.cell? (ad.add 0) = some (strV p0) := hc 0 _ rfl
  have e : ad.add 0 = ad := by unfold Addr.add; simp
  rw [e] at h0
  exact h0
 have HQ0 := Lib.hid q0; clear q0
 clear hc g3
 unfold maxLen at g2
 have hb2 := bl_alloc (Below.refl w1.heap.size w1) (.cells #[.int .i64 0, .int .i64 0, .slice none 0 0, .slice none 0 0, .slice none 0 0] 51)
 have HX2 := Lib.hid (BoxC.new w1 51 (.int .i64 0) (.int .i64 0) (.slice none 0 0) (.slice none 0 0) (.slice none 0 0))
 have HS2 := Lib.hid (show (w1.alloc (.cells #[.int .i64 0, .int .i64 0, .slice none 0 0, .slice none 0 0, .slice none 0 0] 51)).heap.size = w1.heap.size + 1 by simp)
 go_upto_region 3 with fail
 generalize w1.alloc (.cells #[.int .i64 0, .int .i64 0, .slice none 0 0, .slice none 0 0, .slice none 0 0] 51) = w2 at *
 have hz0 := HZ0.out
 have hz1 := hb1.size
 have hz2 : w1.heap.size < w2.heap.size := by rw [HS2.out]; omega
 have HSL2 := Lib.hid (HSL.out.below hb2)
 go_cut [8] (fun s8 wx => w2 = wx ∧ SlR w2 w1.heap.size s8 (t.map strV))
 case first =>
  by_cases c1 : c = 1
  ·
   subst c1
   have ht : t = [] := List.eq_nil_of_length_eq_zero (by omega)
   subst ht
   simp only [List.length_nil] at *
   go_wp2_with fail
   go_meet
   exact ⟨rfl, tail0 _ _ _⟩
  ·
   go_wp2_with fail
   go_meet
   exact ⟨rfl, by have h := tail1 HSL2.out; rwa [List.length_map] at h⟩
 case rest =>
  obtain ⟨rfl, hs8⟩ := hcut
  obtain ⟨A8, c8, rfl, _, _, _⟩ := id hs8
  have HS8 := Lib.hid hs8; clear hs8 HSL
  simp only [List.length_map]
  have HX3 := Lib.hid (HX2.out.below (bl_alloc (Below.refl w2.heap.size w2) (.cells #[.string ⟨#[110, 101, 118, 101, 114]⟩, .string ⟨#[103, 108, 111, 98, 97, 108]⟩, .string ⟨#[115, 116, 97, 114]⟩, .string ⟨#[99, 111, 110, 115, 116, 97, 110, 116]⟩] 9)) hz2)
  have hb3 := bl_alloc (Below.refl w2.heap.size w2) (.cells #[.string ⟨#[110, 101, 118, 101, 114]⟩, .string ⟨#[103, 108, 111, 98, 97, 108]⟩, .string ⟨#[115, 116, 97, 114]⟩, .string ⟨#[99, 111, 110, 115, 116, 97, 110, 116]⟩] 9)
  have HS3 := Lib.hid (show (w2.alloc (.cells #[.string ⟨#[110, 101, 118, 101, 114]⟩, .string ⟨#[103, 108, 111, 98, 97, 108]⟩, .string ⟨#[115, 116, 97, 114]⟩, .string ⟨#[99, 111, 110, 115, 116, 97, 110, 116]⟩] 9)).heap.size = w2.heap.size + 1 by simp)
  have HC3 := Lib.hid (show (w2.alloc (.cells #[.string ⟨#[110, 101, 118, 101, 114]⟩, .string ⟨#[103, 108, 111, 98, 97, 108]⟩, .string ⟨#[115, 116, 97, 114]⟩, .string ⟨#[99, 111, 110, 115, 116, 97, 110, 116]⟩] 9)).heap[w2.heap.size]? = some (.cells #[.string ⟨#[110, 101, 118, 101, 114]⟩, .string ⟨#[103, 108, 111, 98, 97, 108]⟩, .string ⟨#[115, 116, 97, 114]⟩, .string ⟨#[99, 111, 110, 115, 116, 97, 110, 116]⟩] 9 (0, 0)) from heap_alloc_new _ _)
  go_wp2_with fail
  generalize w2.alloc (.cells #[.string ⟨#[110, 101, 118, 101, 114]⟩, .string ⟨#[103, 108, 111, 98, 97, 108]⟩, .string ⟨#[115, 116, 97, 114]⟩, .string ⟨#[99, 111, 110, 115, 116, 97, 110, 116]⟩] 9) = w3 at *
  have hz3 : w2.heap.size < w3.heap.size := by rw [HS3.out]; omega
  have HQ3 := Lib.hid (((hb2.cell (p := ad) hb).trans HQ0.out))
  replace HQ3 := Lib.hid ((hb3.cell (p := ad) (by omega)).trans HQ3.out)
  go_loopw [20] (fun i wr => ClRel p0 w1.heap.size w3 i wr) (fun i _ => 4 - (intOf i).toNat)
  case atStart => exact ⟨0, by omega, rfl, HX3.out, Kept.refl _ _⟩
  case round =>
   obtain ⟨k, hk, rfl, hbx, hkp⟩ := hrel
   have HBX := Lib.hid hbx; clear hbx
   have HKP := Lib.hid hkp; clear hkp
   have hzr := HKP.out.size
   have hq := ((HKP.out.lowb (by omega)).cell (p := ad) hb).trans HQ3.out
   have hblk := (HKP.out.block w2.heap.size (by omega) (by simp; omega)).trans HC3.out
   have hcell : ∀ j, wr.cell? ⟨w2.heap.size, j, none⟩ = (#[.string ⟨#[110, 101, 118, 101, 114]⟩, .string ⟨#[103, 108, 111, 98, 97, 108]⟩, .string ⟨#[115, 116, 97, 114]⟩, .string ⟨#[99, 111, 110, 115, 116, 97, 110, 116]⟩] : Array Value)[j]? := fun j => cell_of_row wr _ j _ _ (0, 0) hblk
   have HCL := Lib.hid hcell; clear hcell hblk
   obtain ⟨f0, f1, f2, f3, f4, ff0, ff1, ff2, ff3, ff4⟩ := HBX.out
   rcases (show k = 0 ∨ k = 1 ∨ k = 2 ∨ k = 3 ∨ k = 4 by omega) with rfl | rfl | rfl | rfl | rfl
   ·
    have hd := HCL.out 0
    simp only [List.getElem?_toArray, List.getElem?_cons_zero, List.getElem?_cons_succ] at hd
    cases q : ([110, 101, 118, 101, 114] == p0) with
    | true =>
     go_wp2_with fail
     go_roundw
     case rel => exact ⟨1, by omega, rfl, by rw [cls_t0]; exact HBX.out.set0 _, HKP.out.set _ (by simp) _⟩
     case measure => simp [intOf]
    | false =>
     go_wp2_with fail
     go_roundw
     case rel => exact ⟨1, by omega, rfl, by rw [cls_f0]; exact HBX.out, HKP.out⟩
     case measure => simp [intOf]
   ·
    have hd := HCL.out 1
    simp only [List.getElem?_toArray, List.getElem?_cons_zero, List.getElem?_cons_succ] at hd
    cases q : ([103, 108, 111, 98, 97, 108] == p0) with
    | true =>
     go_wp2_with fail
     go_roundw
     case rel => exact ⟨2, by omega, rfl, by rw [cls_t1 q]; exact HBX.out.set0 _, HKP.out.set _ (by simp) _⟩
     case measure => simp [intOf]
    | false =>
     go_wp2_with fail
     go_roundw
     case rel => exact ⟨2, by omega, rfl, by rw [cls_f1 q]; exact HBX.out, HKP.out⟩
     case measure => simp [intOf]
   ·
    have hd := HCL.out 2
    simp only [List.getElem?_toArray, List.getElem?_cons_zero, List.getElem?_cons_succ] at hd
    cases q : ([115, 116, 97, 114] == p0) with
    | true =>
     go_wp2_with fail
     go_roundw
     case rel => exact ⟨3, by omega, rfl, by rw [cls_t2 q]; exact HBX.out.set0 _, HKP.out.set _ (by simp) _⟩
     case measure => simp [intOf]
    | false =>
     go_wp2_with fail
     go_roundw
     case rel => exact ⟨3, by omega, rfl, by rw [cls_f2 q]; exact HBX.out, HKP.out⟩
     case measure => simp [intOf]
   ·
    have hd := HCL.out 3
    simp only [List.getElem?_toArray, List.getElem?_cons_zero, List.getElem?_cons_succ] at hd
    cases q : ([99, 111, 110, 115, 116, 97, 110, 116] == p0) with
    | true =>
     go_wp2_with fail
     go_roundw
     case rel => exact ⟨4, by omega, rfl, by rw [cls_t3 q]; exact HBX.out.set0 _, HKP.out.set _ (by simp) _⟩
     case measure => simp [intOf]
    | false =>
     go_wp2_with fail
     go_roundw
     case rel => exact ⟨4, by omega, rfl, by rw [cls_f3 q]; exact HBX.out, HKP.out⟩
     case measure => simp [intOf]
   ·
    clear HCL f0 f1 f2 f3 f4 ff0 ff1 ff2 ff3 ff4
    have hb4 := HBX.out
    rw [show clsTo p0 4 = clsI p0 from rfl] at hb4
    have HPC := Lib.hid (show pcP n xss p0 t ↔ (clsI p0 ≠ 0 → t ≠ []) ∧ certP n xss (clsI p0) (scLb (clsI p0) t) (scF (clsI p0) t) (scS (clsI p0) t) (scR (clsI p0) t) ∧ certT (clsI p0) (scLb (clsI p0) t) (scF (clsI p0) t) (scS (clsI p0) t) (scR (clsI p0) t) = s.data.toList from
     ⟨fun h => (sc_iff HG.out HSP.out).2 ⟨h.2.1.1, h.2.1.2, h.2.2⟩, fun h => by obtain ⟨a, b, c⟩ := (sc_iff HG.out HSP.out).1 h; exact ⟨HG.out, ⟨a, b⟩, c⟩⟩)
    have HC4 := Lib.hid (cls_cases p0)
    obtain ⟨cl, hcl⟩ : ∃ cl, clsI p0 = cl := ⟨_, rfl⟩
    rw [hcl] at hb4 HPC HC4
    have HCL := Lib.hid hcl; clear hcl HBX
    have HBX := Lib.hid hb4; clear hb4 hq
    have HKP2 := Lib.hid (((Kept.refl [w1.heap.size] w2).step hb3).trans HKP.out)
    obtain ⟨f0, f1, f2, f3, f4, ff0, ff1, ff2, ff3, ff4⟩ := HBX.out
    have hBr : Below w.heap.size w wr := ((hb0.trans (hb1.mono (by omega))).trans (hb2.mono (by omega))).trans ((HKP2.out.lowb hz2).mono (by omega))
    go_upto_if 35 with fail
    go_cut [8] (fun s8 wx => (cl ≠ 0 → t ≠ []) ∧ StC w2 w1.heap.size cl (scLb cl t) (t.drop (if cl = 0 then 0 else 1)) [] [] s8 wx)
    case first =>
     rcases HC4.out with rfl | rfl | rfl | rfl
     ·
      go_wp2_with fail
      go_meet
      exact ⟨fun h => absurd rfl h, .slice none 0 0, .slice none 0 0, [], [], by have h := HS8.out; simpa using h, HBX.out, own_none _ _, own_none _ _, List.nodup_nil, (fun _ h => by cases h), HKP2.out⟩
     ·
      rcases (show t = [] ∨ ∃ p1 r, t = p1 :: r by cases t <;> simp) with rfl | ⟨p1, r, rfl⟩
      ·
       obtain ⟨y0, y1, y2, y3, y4, yf0, yf1, yf2, yf3, yf4⟩ := (HB0.out.below ((hb1.trans (hb2.mono hz1)).trans ((HKP2.out.lowb hz2).mono hz1)) hz0)
       have hno : ¬ pcP n xss p0 [] := fun k => (HPC.out.1 k).1 (by decide) rfl
       simp only [List.length_nil] at *
       go_wp2_with fail
       refine bodyPost_ret (v := .tuple #[certV 0 0 (.slice none 0 0) (.slice none 0 0) (.slice none 0 0), .bool false]) (by simp [results, Tryz.results135, go_sem, y0, y1, y2, y3, y4]) rfl (pc_none hno ?_)
       iterate 5 (refine Below.setCell ?_ (by simp) _)
       exact hBr
      ·
       have hd : decide ((r.length : Int) + 1 + 1 < 2) = false := decide_eq_false (by omega)
       have hpl := HL.out p1 (by simp)
       have JR := Lib.hid (fun W => show Calls Tryz.prog 74 #[.string ⟨p1.toArray⟩] W fun e w' => e = .returned (.int .i64 (rdI p1)) ∧ W = w' from spec_l1Read ⟨p1.toArray⟩ W (by rw [Lib.size_eq]; show p1.length ≤ _; unfold maxLen; omega))
       obtain ⟨q1, _⟩ := HSL2.out.at_ (j := 1) (u := strV p1) rfl
       replace q1 : w2.cell? ⟨ad.block, ad.off + 1, none⟩ = some (.string ⟨p1.toArray⟩) := q1
       replace q1 := ((HKP2.out.lowb hz2).cell (p := ⟨ad.block, ad.off + 1, none⟩) hb).trans q1
       simp only [List.length_cons] at *
       go_wp2_with fail
       refine (JR.out wr).mono ?_
       rintro e w4 ⟨rfl, hw4⟩
       subst hw4
       by_cases c2 : c = 2
       ·
        subst c2
        obtain rfl : r = [] := List.eq_nil_of_length_eq_zero (by omega)
        simp only [List.length_nil] at *
        go_wp2_with fail
        go_meet
        exact ⟨fun _ => by simp, .slice none 0 0, .slice none 0 0, [], [], tail0 _ _ _, HBX.out.set1 _, own_none _ _, own_none _ _, List.nodup_nil, (fun _ h => by cases h), HKP2.out.set _ (by simp) _⟩
       ·
        go_wp2_with fail
        go_meet
        exact ⟨fun _ => by simp, .slice none 0 0, .slice none 0 0, [], [], (by have h := tail2 HSL2.out; rw [List.length_map] at h; exact h), HBX.out.set1 _, own_none _ _, own_none _ _, List.nodup_nil, (fun _ h => by cases h), HKP2.out.set _ (by simp) _⟩
     ·
      rcases (show t = [] ∨ ∃ p1 r, t = p1 :: r by cases t <;> simp) with rfl | ⟨p1, r, rfl⟩
      ·
       obtain ⟨y0, y1, y2, y3, y4, yf0, yf1, yf2, yf3, yf4⟩ := (HB0.out.below ((hb1.trans (hb2.mono hz1)).trans ((HKP2.out.lowb hz2).mono hz1)) hz0)
       have hno : ¬ pcP n xss p0 [] := fun k => (HPC.out.1 k).1 (by decide) rfl
       simp only [List.length_nil] at *
       go_wp2_with fail
       refine bodyPost_ret (v := .tuple #[certV 0 0 (.slice none 0 0) (.slice none 0 0) (.slice none 0 0), .bool false]) (by simp [results, Tryz.results135, go_sem, y0, y1, y2, y3, y4]) rfl (pc_none hno ?_)
       iterate 5 (refine Below.setCell ?_ (by simp) _)
       exact hBr
      ·
       have hd : decide ((r.length : Int) + 1 + 1 < 2) = false := decide_eq_false (by omega)
       have hpl := HL.out p1 (by simp)
       have JR := Lib.hid (fun W => show Calls Tryz.prog 74 #[.string ⟨p1.toArray⟩] W fun e w' => e = .returned (.int .i64 (rdI p1)) ∧ W = w' from spec_l1Read ⟨p1.toArray⟩ W (by rw [Lib.size_eq]; show p1.length ≤ _; unfold maxLen; omega))
       obtain ⟨q1, _⟩ := HSL2.out.at_ (j := 1) (u := strV p1) rfl
       replace q1 : w2.cell? ⟨ad.block, ad.off + 1, none⟩ = some (.string ⟨p1.toArray⟩) := q1
       replace q1 := ((HKP2.out.lowb hz2).cell (p := ⟨ad.block, ad.off + 1, none⟩) hb).trans q1
       simp only [List.length_cons] at *
       go_wp2_with fail
       refine (JR.out wr).mono ?_
       rintro e w4 ⟨rfl, hw4⟩
       subst hw4
       by_cases c2 : c = 2
       ·
        subst c2
        obtain rfl : r = [] := List.eq_nil_of_length_eq_zero (by omega)
        simp only [List.length_nil] at *
        go_wp2_with fail
        go_meet
        exact ⟨fun _ => by simp, .slice none 0 0, .slice none 0 0, [], [], tail0 _ _ _, HBX.out.set1 _, own_none _ _, own_none _ _, List.nodup_nil, (fun _ h => by cases h), HKP2.out.set _ (by simp) _⟩
       ·
        go_wp2_with fail
        go_meet
        exact ⟨fun _ => by simp, .slice none 0 0, .slice none 0 0, [], [], (by have h := tail2 HSL2.out; rw [List.length_map] at h; exact h), HBX.out.set1 _, own_none _ _, own_none _ _, List.nodup_nil, (fun _ h => by cases h), HKP2.out.set _ (by simp) _⟩
     ·
      rcases (show t = [] ∨ ∃ p1 r, t = p1 :: r by cases t <;> simp) with rfl | ⟨p1, r, rfl⟩
      ·
       obtain ⟨y0, y1, y2, y3, y4, yf0, yf1, yf2, yf3, yf4⟩ := (HB0.out.below ((hb1.trans (hb2.mono hz1)).trans ((HKP2.out.lowb hz2).mono hz1)) hz0)
       have hno : ¬ pcP n xss p0 [] := fun k => (HPC.out.1 k).1 (by decide) rfl
       simp only [List.length_nil] at *
       go_wp2_with fail
       refine bodyPost_ret (v := .tuple #[certV 0 0 (.slice none 0 0) (.slice none 0 0) (.slice none 0 0), .bool false]) (by simp [results, Tryz.results135, go_sem, y0, y1, y2, y3, y4]) rfl (pc_none hno ?_)
       iterate 5 (refine Below.setCell ?_ (by simp) _)
       exact hBr
      ·
       have hd : decide ((r.length : Int) + 1 + 1 < 2) = false := decide_eq_false (by omega)
       have hpl := HL.out p1 (by simp)
       have JR := Lib.hid (fun W => show Calls Tryz.prog 74 #[.string ⟨p1.toArray⟩] W fun e w' => e = .returned (.int .i64 (rdI p1)) ∧ W = w' from spec_l1Read ⟨p1.toArray⟩ W (by rw [Lib.size_eq]; show p1.length ≤ _; unfold maxLen; omega))
       obtain ⟨q1, _⟩ := HSL2.out.at_ (j := 1) (u := strV p1) rfl
       replace q1 : w2.cell? ⟨ad.block, ad.off + 1, none⟩ = some (.string ⟨p1.toArray⟩) := q1
       replace q1 := ((HKP2.out.lowb hz2).cell (p := ⟨ad.block, ad.off + 1, none⟩) hb).trans q1
       simp only [List.length_cons] at *
       go_wp2_with fail
       refine (JR.out wr).mono ?_
       rintro e w4 ⟨rfl, hw4⟩
       subst hw4
       by_cases c2 : c = 2
       ·
        subst c2
        obtain rfl : r = [] := List.eq_nil_of_length_eq_zero (by omega)
        simp only [List.length_nil] at *
        go_wp2_with fail
        go_meet
        exact ⟨fun _ => by simp, .slice none 0 0, .slice none 0 0, [], [], tail0 _ _ _, HBX.out.set1 _, own_none _ _, own_none _ _, List.nodup_nil, (fun _ h => by cases h), HKP2.out.set _ (by simp) _⟩
       ·
        go_wp2_with fail
        go_meet
        exact ⟨fun _ => by simp, .slice none 0 0, .slice none 0 0, [], [], (by have h := tail2 HSL2.out; rw [List.length_map] at h; exact h), HBX.out.set1 _, own_none _ _, own_none _ _, List.nodup_nil, (fun _ h => by cases h), HKP2.out.set _ (by simp) _⟩
    case rest =>
     obtain ⟨htn, vf, vs, bf, bs, hs8, hbx, hof, hos, hnd, hrg, hkp⟩ := hcut
     obtain ⟨w5, rfl⟩ : ∃ x, x = wc := ⟨_, rfl⟩
     clear f0 f1 f2 f3 f4 ff0 ff1 ff2 ff3 ff4 HBX HKP2 HKP hBr HS8 HSL2 HQ3 HC3 HX3 hzr
     clear hb3 HS3 hz3 HX2
     clear wr
     obtain ⟨A9, c9, rfl, _, _, _⟩ := id hs8
     obtain ⟨Af, mf, cf, rfl⟩ := hof.1.isSlice
     obtain ⟨As, ms, cs, rfl⟩ := hos.1.isSlice
     have HTN := Lib.hid htn; clear htn
     have HS8 := Lib.hid hs8; clear hs8
     have HBX := Lib.hid hbx; clear hbx
     have HOF := Lib.hid hof; clear hof
     have HOS := Lib.hid hos; clear hos
     have HRG := Lib.hid hrg; clear hrg
     have HKP := Lib.hid hkp; clear hkp
     have hzc := HKP.out.size
     simp only [List.length_map]
     obtain ⟨r9, hr9⟩ : ∃ r, r = t.drop (if cl = 0 then 0 else 1) := ⟨_, rfl⟩
     rw [← hr9] at HS8 ⊢
     have HR9 := Lib.hid hr9; clear hr9
     have hc9 : c9 ≤ 9223372036854775807 ∧ r9.length ≤ c9 := by
      obtain ⟨_, _, e, h1, h2, _⟩ := HS8.out
      simp only [Value.slice.injEq] at e
      rw [e.2.2]
      unfold maxLen at h2
      rw [List.length_map] at h1
      omega
     obtain ⟨f0, f1, f2, f3, f4, ff0, ff1, ff2, ff3, ff4⟩ := HBX.out
     obtain ⟨B, hB⟩ : ∃ B, B = decide ((cl = 1 ∨ cl = 2) ∧ 0 < r9.length) := ⟨_, rfl⟩
     have HB := Lib.hid hB; clear hB
     obtain ⟨L, hL⟩ : ∃ L, L = r9.length := ⟨_, rfl⟩
     rw [← hL] at HB hc9 ⊢
     have HLL := Lib.hid hL; clear hL
     go_upto_region 15 with fail
     go_cut [8, 59] (fun s8 s59 wx => w5 = wx ∧ s8 = .slice A9 L c9 ∧ s59 = .bool B)
     case first =>
      rcases HC4.out with rfl | rfl | rfl | rfl
      ·
       go_wp2_with fail
       go_meet
       exact ⟨rfl, rfl, by rw [HB.out]; simp⟩
      ·
       cases L with
       | zero => 
        go_wp2_with fail
        go_meet
        exact ⟨rfl, rfl, by rw [HB.out]; simp⟩
       | succ L =>
        have hd : decide ((L : Int) + 1 > 0) = true := decide_eq_true (by omega)
        go_wp2_with fail
        go_meet
        exact ⟨rfl, rfl, by rw [HB.out]; simp⟩
      ·
       cases L with
       | zero => 
        go_wp2_with fail
        go_meet
        exact ⟨rfl, rfl, by rw [HB.out]; simp⟩
       | succ L =>
        have hd : decide ((L : Int) + 1 > 0) = true := decide_eq_true (by omega)
        go_wp2_with fail
        go_meet
        exact ⟨rfl, rfl, by rw [HB.out]; simp⟩
      ·
       go_wp2_with fail
       go_meet
       exact ⟨rfl, rfl, by rw [HB.out]; simp⟩
     case rest =>
      obtain ⟨rfl, rfl, rfl⟩ := hcut
      go_upto_if 59 with fail
      go_cut [8] (fun s8 wx => StC w2 w1.heap.size cl (scLb cl t) (t.drop (if cl = 0 then 0 else if cl = 3 then 1 else 2)) (scF cl t) [] s8 wx)
      case first =>
       by_cases hBt : (cl = 1 ∨ cl = 2) ∧ 0 < L
       ·
        have hb59 : B = true := by rw [HB.out]; exact decide_eq_true hBt
        subst hb59
        obtain ⟨p1, p2, r, ht3⟩ : ∃ p1 p2 r, t = p1 :: p2 :: r := by
         have hc0 : ¬ cl = 0 := by omega
         have h1 := HR9.out
         rw [if_neg hc0] at h1
         have h2 : 0 < (t.drop 1).length := by rw [← h1, ← HLL.out]; exact hBt.2
         match t, h2 with
         | p1 :: p2 :: r, _ => exact ⟨_, _, _, rfl⟩
        subst ht3
        have hcl12 := hBt.1
        have e9 : r9 = p2 :: r := by have h := HR9.out; rw [if_neg (by omega)] at h; exact h
        subst e9
        have hL2 : L = r.length + 1 := by rw [HLL.out]; rfl
        have SF := Lib.hid (show scF cl (p1 :: p2 :: r) = numsR 45 p2 by unfold scF; rw [if_pos ⟨hcl12, by simp⟩]; rfl)
        have DR := Lib.hid (show (p1 :: p2 :: r).drop (if cl = 0 then 0 else if cl = 3 then 1 else 2) = r by rw [if_neg (by omega), if_neg (by omega)]; rfl)
        clear hBt HB
        subst hL2
        have hsl8 := HS8.out
        obtain ⟨ad9, rfl⟩ : ∃ ad, A9 = some ad := by
         obtain ⟨_, _, e, _, _, h3⟩ := hsl8
         obtain ⟨ad, e2, _⟩ := h3 (by simp)
         simp only [Value.slice.injEq] at e
         exact ⟨ad, e.1.trans e2⟩
        obtain ⟨qa, qb⟩ := SlR.at_ (j := 0) (u := strV p2) hsl8 rfl
        rw [add_zero'] at qa
        replace qa : w2.cell? ad9 = some (.string ⟨p2.toArray⟩) := qa
        replace qa := ((HKP.out.lowb hz2).cell (p := ad9) qb).trans qa
        have hpl2 := HL.out p2 (by simp)
        have JS := Lib.hid (fun W => spec_srList ⟨p2.toArray⟩ 45 W (by rw [Lib.size_eq]; exact hpl2))
        clear hsl8
        go_wp2_with fail
        refine (JS.out _).mono ?_
        rintro e w4 ⟨u, b1, rfl, ho, hn, hr, hb4⟩
        obtain ⟨Au, mu, cu, rfl⟩ := ho.1.isSlice
        have HBX4 := Lib.hid (HBX.out.below hb4 (show w1.heap.size < w5.heap.size by omega))
        have hz4 := hb4.size
        have HOS4 := Lib.hid (HOS.out.keep fun b hb => hb4.block b (by have := HRG.out b (by simp [hb]); omega))
        have hrgs : ∀ x ∈ bs, w1.heap.size < x ∧ x < w5.heap.size := fun x hx => HRG.out x (by simp [hx])
        have HRS := Lib.hid hrgs; clear hrgs
        have HO4 := Lib.hid ho; clear ho
        have HR4 := Lib.hid hr; clear hr
        have HND4 := Lib.hid (show (b1 ++ bs).Nodup from by
         refine List.nodup_append.2 ⟨hn, (List.nodup_append.1 hnd).2.1, fun a ha b hb e => ?_⟩
         have h1 := HR4.out a ha
         have h2 := HRS.out b hb
         omega)
        have HKP4 := Lib.hid (HKP.out.step (hb4.mono hzc))
        obtain ⟨u0, u1, u2, u3, u4, uf0, uf1, uf2, uf3, uf4⟩ := HBX4.out
        have hfin : ∀ (vt : Value) (wx : World), SlR w2 w1.heap.size vt (r.map strV) → wx = w4.setCell ⟨w1.heap.size, 2, none⟩ (.slice Au mu cu) → StC w2 w1.heap.size cl (scLb cl (p1 :: p2 :: r)) ((p1 :: p2 :: r).drop (if cl = 0 then 0 else if cl = 3 then 1 else 2)) (scF cl (p1 :: p2 :: r)) [] vt wx := by
         intro vt wx hv e
         subst e
         rw [SF.out, DR.out]
         refine ⟨.slice Au mu cu, .slice As ms cs, b1, bs, hv, HBX4.out.set2 _, HO4.out.set_far _ (fun x hx => by have := HR4.out x hx; show w1.heap.size < x; omega) _, HOS4.out.set_far _ (fun x hx => by have := HRS.out x hx; show w1.heap.size < x; omega) _, HND4.out, ?_, HKP4.out.set _ (by simp) _⟩
         intro x hx
         rw [size_setCell]
         rcases List.mem_append.1 hx with h | h
         ·
          have := HR4.out x h; omega
         ·
          have := HRS.out x h; omega
        have HFIN := Lib.hid hfin; clear hfin
        have hsl9 := HS8.out
        by_cases c1 : c9 = 1
        ·
         subst c1
         obtain rfl : r = [] := List.eq_nil_of_length_eq_zero (by omega)
         clear hsl9
         simp only [List.length_nil] at *
         go_wp2_with fail
         go_meet
         exact HFIN.out _ _ (tail0 _ _ _) rfl
        ·
         have HT9 := Lib.hid (tail1 hsl9); clear hsl9
         rw [List.length_map] at HT9
         go_wp2_with fail
         go_meet
         exact HFIN.out _ _ HT9.out rfl
       ·
        have hb59 : B = false := by rw [HB.out]; exact decide_eq_false hBt
        subst hb59
        have ht9 : t.drop (if cl = 0 then 0 else if cl = 3 then 1 else 2) = r9 ∧ scF cl t = [] := by
         rw [HR9.out]
         rcases HC4.out with rfl | rfl | rfl | rfl
         ·
          exact ⟨rfl, rfl⟩
         ·
          have h0 : (t.drop 1).length = 0 := by have h1 := HR9.out; rw [if_neg (by decide)] at h1; rw [← h1, ← HLL.out]; omega
          rw [List.length_drop] at h0
          refine ⟨?_, by unfold scF; rw [if_neg (fun h => by omega)]⟩
          show t.drop 2 = t.drop 1
          rw [List.drop_eq_nil_of_le (by omega), List.drop_eq_nil_of_le (by omega)]
         ·
          have h0 : (t.drop 1).length = 0 := by have h1 := HR9.out; rw [if_neg (by decide)] at h1; rw [← h1, ← HLL.out]; omega
          rw [List.length_drop] at h0
          refine ⟨?_, by unfold scF; rw [if_neg (fun h => by omega)]⟩
          show t.drop 2 = t.drop 1
          rw [List.drop_eq_nil_of_le (by omega), List.drop_eq_nil_of_le (by omega)]
         ·
          exact ⟨rfl, rfl⟩
        have HT9 := Lib.hid ht9; clear ht9 hBt HB
        have hst : StC w2 w1.heap.size cl (scLb cl t) (t.drop (if cl = 0 then 0 else if cl = 3 then 1 else 2)) (scF cl t) [] (.slice A9 L c9) w5 := by
         rw [HT9.out.1, HT9.out.2]
         exact ⟨.slice Af mf cf, .slice As ms cs, bf, bs, by have h := HS8.out; rw [List.length_map, ← HLL.out] at h; exact h, HBX.out, HOF.out, HOS.out, hnd, HRG.out, HKP.out⟩
        have HST := Lib.hid hst; clear hst
        go_wp2_with fail
        go_meet
        exact HST.out
      case rest =>
       obtain ⟨vf2, vs2, bf2, bs2, hs7, hbx2, hof2, hos2, hnd2, hrg2, hkp2⟩ := hcut
       obtain ⟨w6, rfl⟩ : ∃ x, x = wc := ⟨_, rfl⟩
       clear f0 f1 f2 f3 f4 ff0 ff1 ff2 ff3 ff4 HBX HOF HOS HRG HKP hzc hc9 HB HLL HR9 HS8 hnd
       clear w5
       obtain ⟨A7, c7, rfl, _, _, _⟩ := id hs7
       obtain ⟨Af, mf, cf, rfl⟩ := hof2.1.isSlice
       obtain ⟨As, ms, cs, rfl⟩ := hos2.1.isSlice
       have HS7 := Lib.hid hs7; clear hs7
       have HBX := Lib.hid hbx2; clear hbx2
       have HOF := Lib.hid hof2; clear hof2
       have HOS := Lib.hid hos2; clear hos2
       have HRG := Lib.hid hrg2; clear hrg2
       have HKP := Lib.hid hkp2; clear hkp2
       have hzc := HKP.out.size
       simp only [List.length_map]
       obtain ⟨r7, hr7⟩ : ∃ r, r = t.drop (if cl = 0 then 0 else if cl = 3 then 1 else 2) := ⟨_, rfl⟩
       rw [← hr7] at HS7 ⊢
       have HR7 := Lib.hid hr7; clear hr7
       have hc7 : c7 ≤ 9223372036854775807 ∧ r7.length ≤ c7 := by
        obtain ⟨_, _, e, h1, h2, _⟩ := HS7.out
        simp only [Value.slice.injEq] at e
        rw [e.2.2]
        unfold maxLen at h2
        rw [List.length_map] at h1
        omega
       obtain ⟨f0, f1, f2, f3, f4, ff0, ff1, ff2, ff3, ff4⟩ := HBX.out
       obtain ⟨B, hB⟩ : ∃ B, B = decide (cl = 2 ∧ 0 < r7.length) := ⟨_, rfl⟩
       have HB := Lib.hid hB; clear hB
       obtain ⟨L, hL⟩ : ∃ L, L = r7.length := ⟨_, rfl⟩
       rw [← hL] at HB hc7 ⊢
       have HLL := Lib.hid hL; clear hL
       go_upto_region 18 with fail
       go_cut [8, 74] (fun s8 s74 wx => w6 = wx ∧ s8 = .slice A7 L c7 ∧ s74 = .bool B)
       case first =>
        rcases HC4.out with rfl | rfl | rfl | rfl
        ·
         go_wp2_with fail
         go_meet
         exact ⟨rfl, rfl, by rw [HB.out]; simp⟩
        ·
         go_wp2_with fail
         go_meet
         exact ⟨rfl, rfl, by rw [HB.out]; simp⟩
        ·
         cases L with
         | zero =>
          go_wp2_with fail
          go_meet
          exact ⟨rfl, rfl, by rw [HB.out]; simp⟩
         | succ L =>
          have hd : decide ((L : Int) + 1 > 0) = true := decide_eq_true (by omega)
          go_wp2_with fail
          go_meet
          exact ⟨rfl, rfl, by rw [HB.out]; simp⟩
        ·
         go_wp2_with fail
         go_meet
         exact ⟨rfl, rfl, by rw [HB.out]; simp⟩
       case rest =>
        obtain ⟨rfl, rfl, rfl⟩ := hcut
        go_upto_if 74 with fail
        go_cut [8] (fun s8 wx => StC w2 w1.heap.size cl (scLb cl t) (t.drop (mC cl)) (scF cl t) (scS cl t) s8 wx)
        case first =>
         by_cases hBt : cl = 2 ∧ 0 < L
         ·
          have hb59 : B = true := by rw [HB.out]; exact decide_eq_true hBt
          subst hb59
          obtain ⟨rfl, hL0⟩ := hBt
          obtain ⟨p1, p2, p3, r, ht3⟩ : ∃ p1 p2 p3 r, t = p1 :: p2 :: p3 :: r := by
           have h1 : r7 = t.drop 2 := HR7.out
           have h2 : 0 < (t.drop 2).length := by rw [← h1, ← HLL.out]; exact hL0
           match t, h2 with
           | p1 :: p2 :: p3 :: r, _ => exact ⟨_, _, _, _, rfl⟩
          subst ht3
          have e9 : r7 = p3 :: r := HR7.out
          subst e9
          have hL2 : L = r.length + 1 := by rw [HLL.out]; rfl
          have SF := Lib.hid (show scS 2 (p1 :: p2 :: p3 :: r) = numsR 45 p3 by unfold scS; rw [if_pos ⟨rfl, by simp⟩]; rfl)
          have DR := Lib.hid (show (p1 :: p2 :: p3 :: r).drop (mC 2) = r from rfl)
          clear HB
          subst hL2
          have hsl8 := HS7.out
          obtain ⟨ad9, rfl⟩ : ∃ ad, A7 = some ad := by
           obtain ⟨_, _, e, _, _, h3⟩ := hsl8
           obtain ⟨ad, e2, _⟩ := h3 (by simp)
           simp only [Value.slice.injEq] at e
           exact ⟨ad, e.1.trans e2⟩
          obtain ⟨qa, qb⟩ := SlR.at_ (j := 0) (u := strV p3) hsl8 rfl
          rw [add_zero'] at qa
          replace qa : w2.cell? ad9 = some (.string ⟨p3.toArray⟩) := qa
          replace qa := ((HKP.out.lowb hz2).cell (p := ad9) qb).trans qa
          have hpl2 := HL.out p3 (by simp)
          have JS := Lib.hid (fun W => spec_srList ⟨p3.toArray⟩ 45 W (by rw [Lib.size_eq]; exact hpl2))
          clear hsl8
          go_wp2_with fail
          refine (JS.out _).mono ?_
          rintro e w4 ⟨u, b1, rfl, ho, hn, hr, hb4⟩
          obtain ⟨Au, mu, cu, rfl⟩ := ho.1.isSlice
          have HBX4 := Lib.hid (HBX.out.below hb4 (show w1.heap.size < w6.heap.size by omega))
          have hz4 := hb4.size
          have HOF4 := Lib.hid (HOF.out.keep fun b hb => hb4.block b (by have := HRG.out b (by simp [hb]); omega))
          have hrgs : ∀ x ∈ bf2, w1.heap.size < x ∧ x < w6.heap.size := fun x hx => HRG.out x (by simp [hx])
          have HRS := Lib.hid hrgs; clear hrgs
          have HO4 := Lib.hid ho; clear ho
          have HR4 := Lib.hid hr; clear hr
          have HND4 := Lib.hid (show (bf2 ++ b1).Nodup from by
           refine List.nodup_append.2 ⟨(List.nodup_append.1 hnd2).1, hn, fun a ha b hb e => ?_⟩
           have h1 := HRS.out a ha
           have h2 := HR4.out b hb
           omega)
          have HKP4 := Lib.hid (HKP.out.step (hb4.mono hzc))
          obtain ⟨u0, u1, u2, u3, u4, uf0, uf1, uf2, uf3, uf4⟩ := HBX4.out
          have hfin : ∀ (vt : Value) (wx : World), SlR w2 w1.heap.size vt (r.map strV) → wx = w4.setCell ⟨w1.heap.size, 3, none⟩ (.slice Au mu cu) → StC w2 w1.heap.size 2 (scLb 2 (p1 :: p2 :: p3 :: r)) ((p1 :: p2 :: p3 :: r).drop (mC 2)) (scF 2 (p1 :: p2 :: p3 :: r)) (scS 2 (p1 :: p2 :: p3 :: r)) vt wx := by
           intro vt wx hv e
           subst e
           rw [SF.out, DR.out]
           refine ⟨.slice Af mf cf, .slice Au mu cu, bf2, b1, hv, HBX4.out.set3 _, HOF4.out.set_far _ (fun x hx => by have := HRS.out x hx; show w1.heap.size < x; omega) _, HO4.out.set_far _ (fun x hx => by have := HR4.out x hx; show w1.heap.size < x; omega) _, HND4.out, ?_, HKP4.out.set _ (by simp) _⟩
           intro x hx
           rw [size_setCell]
           rcases List.mem_append.1 hx with h | h
           ·
            have := HRS.out x h; omega
           ·
            have := HR4.out x h; omega
          have HFIN := Lib.hid hfin; clear hfin
          have hsl9 := HS7.out
          by_cases c1 : c7 = 1
          ·
           subst c1
           obtain rfl : r = [] := List.eq_nil_of_length_eq_zero (by omega)
           clear hsl9
           simp only [List.length_nil] at *
           go_wp2_with fail
           go_meet
           exact HFIN.out _ _ (tail0 _ _ _) rfl
          ·
           have HT9 := Lib.hid (tail1 hsl9); clear hsl9
           rw [List.length_map] at HT9
           go_wp2_with fail
           go_meet
           exact HFIN.out _ _ HT9.out rfl
         ·
          have hb59 : B = false := by rw [HB.out]; exact decide_eq_false hBt
          subst hb59
          have ht9 : t.drop (mC cl) = r7 ∧ scS cl t = [] := by
           rw [HR7.out]
           rcases HC4.out with rfl | rfl | rfl | rfl
           ·
            exact ⟨rfl, by unfold scS; rw [if_neg (fun h => by omega)]⟩
           ·
            exact ⟨rfl, by unfold scS; rw [if_neg (fun h => by omega)]⟩
           ·
            have h0 : (t.drop 2).length = 0 := by have h1 : r7 = t.drop 2 := HR7.out; rw [← h1, ← HLL.out]; omega
            rw [List.length_drop] at h0
            refine ⟨?_, by unfold scS; rw [if_neg (fun h => by omega)]⟩
            show t.drop 3 = t.drop 2
            rw [List.drop_eq_nil_of_le (by omega), List.drop_eq_nil_of_le (by omega)]
           ·
            exact ⟨rfl, by unfold scS; rw [if_neg (fun h => by omega)]⟩
          have HT9 := Lib.hid ht9; clear ht9 hBt HB
          have hst : StC w2 w1.heap.size cl (scLb cl t) (t.drop (mC cl)) (scF cl t) (scS cl t) (.slice A7 L c7) w6 := by
           rw [HT9.out.1, HT9.out.2]
           exact ⟨.slice Af mf cf, .slice As ms cs, bf2, bs2, by have h := HS7.out; rw [List.length_map, ← HLL.out] at h; exact h, HBX.out, HOF.out, HOS.out, hnd2, HRG.out, HKP.out⟩
          have HST := Lib.hid hst; clear hst
          go_wp2_with fail
          go_meet
          exact HST.out
        case rest =>
         obtain ⟨vf3, vs3, bf, bs, hs6, hbx3, hof3, hos3, hnd, hrg3, hkp3⟩ := hcut
         obtain ⟨w7, rfl⟩ : ∃ x, x = wc := ⟨_, rfl⟩
         clear f0 f1 f2 f3 f4 ff0 ff1 ff2 ff3 ff4 HBX HOF HOS HRG HKP hzc hc7 HB HLL HR7 HS7 hnd2
         clear w6
         obtain ⟨A6, c6, rfl, _, _, _⟩ := id hs6
         obtain ⟨Af, mf, cf, rfl⟩ := hof3.1.isSlice
         obtain ⟨As, ms, cs, rfl⟩ := hos3.1.isSlice
         have HS6 := Lib.hid hs6; clear hs6
         have HBX7 := Lib.hid hbx3; clear hbx3
         have HOF := Lib.hid hof3; clear hof3
         have HOS := Lib.hid hos3; clear hos3
         have HRG := Lib.hid hrg3; clear hrg3
         have HKP := Lib.hid hkp3; clear hkp3
         have hzc := HKP.out.size
         simp only [List.length_map]
         have HRN := Lib.hid (show scR cl t = (t.drop (mC cl)).map (numsR 46) from rfl)
         have HLR := Lib.hid (show ∀ p ∈ t.drop (mC cl), p.length ≤ 1048576 from fun p hp => HL.out p (by simp [List.mem_of_mem_drop hp]))
         have hlr : (t.drop (mC cl)).length ≤ 1048577 := by rw [List.length_drop]; omega
         have hlens := sc_lens (cl := cl) (t := t) (fun p hp => HL.out p (by simp [hp])) (by omega)
         have HLB := Lib.hid (I64_scLb cl t)
         generalize t.drop (mC cl) = rest at *
         generalize hlb' : scLb cl t = lb at *
         generalize hf' : scF cl t = F at *
         generalize hs' : scS cl t = S at *
         have E1 := Lib.hid hlb'; clear hlb'
         have E2 := Lib.hid hf'; clear hf'
         have E3 := Lib.hid hs'; clear hs'
         go_wp2_with fail
         go_loopw [84] (fun i wr => RkRel rest w1.heap.size cl lb (.slice Af mf cf) (.slice As ms cs) w7 i wr) (fun i _ => rest.length - (intOf i).toNat)
         case atStart => exact ⟨0, .slice none 0 0, Nat.zero_le _, rfl, RowsSt.nil _ _, HBX7.out, Kept.refl _ _⟩
         case round =>
          obtain ⟨k, v, hk, rfl, hst, hbx, hkp⟩ := hrel
          have HS := Lib.hid hst; clear hst
          have HBX := Lib.hid hbx; clear hbx
          have HKR := Lib.hid hkp; clear hkp
          have hzr := HKR.out.size
          obtain ⟨Av, mv, cv, rfl⟩ := HS.out.isSlice
          obtain ⟨f0, f1, f2, f3, f4, ff0, ff1, ff2, ff3, ff4⟩ := HBX.out
          by_cases hlt : k < rest.length
          ·
           obtain ⟨p, hp⟩ : ∃ p, rest[k]? = some p := ⟨rest[k], List.getElem?_eq_getElem hlt⟩
           have hs6 := HS6.out
           obtain ⟨ad6, rfl⟩ : ∃ ad, A6 = some ad := by
            obtain ⟨_, _, e, _, _, h3⟩ := hs6
            obtain ⟨ad, e2, _⟩ := h3 (by rw [List.length_map]; omega)
            simp only [Value.slice.injEq] at e
            exact ⟨ad, e.1.trans e2⟩
           obtain ⟨hcell, hb'⟩ := SlR.at_ (j := k) (u := strV p) hs6 (by rw [List.getElem?_map, hp]; rfl)
           replace hcell : w2.cell? (ad6.add k) = some (.string ⟨p.toArray⟩) := hcell
           replace hcell := ((((HKP.out.trans HKR.out).lowb hz2).cell (p := ad6.add k) (by rw [block_add]; exact hb'))).trans hcell
           clear hs6
           have HN := Lib.hid (take_nums 46 rest k p hp)
           have hpl' := HLR.out p (List.mem_of_getElem? hp)
           have J := Lib.hid (fun W => show Calls Tryz.prog 173 #[.string ⟨p.toArray⟩, .int .u8 46] W fun e w' => ∃ v bs, e = .returned v ∧ OwnInts w' 3 v (numsR 46 p) bs ∧ bs.Nodup ∧ (∀ x ∈ bs, W.heap.size ≤ x ∧ x < w'.heap.size) ∧ Below W.heap.size W w' from spec_srList ⟨p.toArray⟩ 46 W (by rw [Lib.size_eq]; show p.length ≤ _; omega))
           clear hp
           have hbr : w1.heap.size < wr.heap.size := by omega
           go_wp2_with fail
           refine wp_region_held_drew (S := fun _ => True) (by kernel_rfl) trivial (fun hHeld => ?_)
           refine tk 0 88 rfl rfl ?_ (hS := trivial)
           try simp only [pu]
           refine tk 2 90 rfl rfl ?_ (hS := trivial)
           try simp only [pu]
           refine take_ready2 1 3 rfl rfl (by kernel_rfl) (fun K hK => ?_) (fun K hK => ?_)
           ·
            go_simp
            refine hK.out _ _ trivial (fun hHeld => ?_)
            clear hK K
            try simp only [pu]
            refine take_ready 3 rfl (by kernel_rfl) (fun K hK => ?_)
            go_simp
            (go_at_call 173; refine (J.out _).mono ?_; rintro e w4 ⟨u, b1, rfl, ho, hn, hr, hb4⟩; have hB14 := ((Below.refl wr.heap.size wr).drew).trans hb4; have HBx4 := Lib.hid (HBX.out.below hB14 hbr); obtain ⟨t0, t1, t2, t3, t4, tf0, tf1, tf2, tf3, tf4⟩ := HBx4.out; obtain ⟨A1, m1, c1', rfl⟩ := ho.1.isSlice)
            refine hK.out _ _ trivial (fun hHeld => ?_)
            clear hK K
            try simp only [pu]
            refine take_ready 4 rfl (by kernel_rfl) (fun K hK => ?_)
            go_simp
            refine hK.out _ _ trivial (fun hHeld => ?_)
            clear hK K
            try simp only [pu]
            obtain ⟨vs, hown1, hstep⟩ := HS.out.step hzr hB14 ho hn (fun b hb => by have := hr b hb; exact ⟨by simpa using this.1, this.2⟩)
            have HST := Lib.hid hstep; clear hstep ho hn hr
            have hlen : ((rest.take k).map (numsR 46)).length = k := by simp; omega
            rw [hlen] at hown1 HST
            clear hlen
            have hz4 := hB14.size
            refine take_ready 5 rfl (by kernel_rfl) (fun K hK => ?_)
            rw [if_pos (by rfl)]
            refine oper_append1 w4 (.tmp 89) (.tmp 92) 38 rfl w7.heap.size 41 _ 24 Tryz.underlying38 sliceInfo rfl _ _ _ rfl _ rfl rfl hown1 (by unfold maxLen; omega) (by omega) (by omega) ?_
            intro v' w5 hown' hbl' hgr' hlt' hob'
            have HBx5 := Lib.hid (HBx4.out.below hbl' (by omega))
            obtain ⟨a0, a1, a2, a3, a4, af0, af1, af2, af3, af4⟩ := HBx5.out
            have HST5 := Lib.hid (HST.out _ _ hown' hgr' hob')
            obtain ⟨A5, m5, c5, rfl⟩ := HST5.out.isSlice
            clear hown' hgr' hob' hown1
            refine hK.out _ _ trivial (fun hHeld => ?_)
            clear hK K
            try simp only [pu]
            refine take_ready 6 rfl (by kernel_rfl) (fun K hK => ?_)
            go_simp
            refine hK.out _ _ trivial (fun hHeld => ?_)
            clear hK K
            try simp only [pu]
            refine take_ready 7 rfl (by kernel_rfl) (fun K hK => ?_)
            go_simp
            refine hK.out _ _ trivial (fun hHeld => ?_)
            clear hK K
            try simp only [pu]
            refine wpAnyH_done (by kernel_rfl) ?_ _
            go_wp2_with fail
            go_roundw
            case rel =>
             (repeat apply Exists.intro)
             refine ⟨⟨k + 1, .slice A5 m5 c5, by omega, by go_num, ?_, ?_, ?_⟩, rfl⟩
             ·
              rw [HN.out]
              exact HST5.out.setCell _ (by show w1.heap.size < w7.heap.size; omega) _
             ·
              exact HBx5.out.set4 _
             ·
              exact ((HKR.out.step (hB14.mono hzr)).step hbl').set _ (by simp) _
            case measure => simp [intOf]; omega
           ·
            go_simp
            (go_at_call 173; refine (J.out _).mono ?_; rintro e w4 ⟨u, b1, rfl, ho, hn, hr, hb4⟩; have hB14 := ((Below.refl wr.heap.size wr).drew).trans hb4; have HBx4 := Lib.hid (HBX.out.below hB14 hbr); obtain ⟨t0, t1, t2, t3, t4, tf0, tf1, tf2, tf3, tf4⟩ := HBx4.out; obtain ⟨A1, m1, c1', rfl⟩ := ho.1.isSlice)
            refine hK.out _ _ trivial (fun hHeld => ?_)
            clear hK K
            try simp only [pu]
            refine take_ready2 1 4 rfl rfl (by kernel_rfl) (fun K hK => ?_) (fun K hK => ?_)
            ·
             go_simp
             refine hK.out _ _ trivial (fun hHeld => ?_)
             clear hK K
             try simp only [pu]
             refine take_ready 4 rfl (by kernel_rfl) (fun K hK => ?_)
             go_simp
             refine hK.out _ _ trivial (fun hHeld => ?_)
             clear hK K
             try simp only [pu]
             obtain ⟨vs, hown1, hstep⟩ := HS.out.step hzr hB14 ho hn (fun b hb => by have := hr b hb; exact ⟨by simpa using this.1, this.2⟩)
             have HST := Lib.hid hstep; clear hstep ho hn hr
             have hlen : ((rest.take k).map (numsR 46)).length = k := by simp; omega
             rw [hlen] at hown1 HST
             clear hlen
             have hz4 := hB14.size
             refine take_ready 5 rfl (by kernel_rfl) (fun K hK => ?_)
             rw [if_pos (by rfl)]
             refine oper_append1 w4 (.tmp 89) (.tmp 92) 38 rfl w7.heap.size 41 _ 24 Tryz.underlying38 sliceInfo rfl _ _ _ rfl _ rfl rfl hown1 (by unfold maxLen; omega) (by omega) (by omega) ?_
             intro v' w5 hown' hbl' hgr' hlt' hob'
             have HBx5 := Lib.hid (HBx4.out.below hbl' (by omega))
             obtain ⟨a0, a1, a2, a3, a4, af0, af1, af2, af3, af4⟩ := HBx5.out
             have HST5 := Lib.hid (HST.out _ _ hown' hgr' hob')
             obtain ⟨A5, m5, c5, rfl⟩ := HST5.out.isSlice
             clear hown' hgr' hob' hown1
             refine hK.out _ _ trivial (fun hHeld => ?_)
             clear hK K
             try simp only [pu]
             refine take_ready 6 rfl (by kernel_rfl) (fun K hK => ?_)
             go_simp
             refine hK.out _ _ trivial (fun hHeld => ?_)
             clear hK K
             try simp only [pu]
             refine take_ready 7 rfl (by kernel_rfl) (fun K hK => ?_)
             go_simp
             refine hK.out _ _ trivial (fun hHeld => ?_)
             clear hK K
             try simp only [pu]
             refine wpAnyH_done (by kernel_rfl) ?_ _
             go_wp2_with fail
             go_roundw
             case rel =>
              (repeat apply Exists.intro)
              refine ⟨⟨k + 1, .slice A5 m5 c5, by omega, by go_num, ?_, ?_, ?_⟩, rfl⟩
              ·
               rw [HN.out]
               exact HST5.out.setCell _ (by show w1.heap.size < w7.heap.size; omega) _
              ·
               exact HBx5.out.set4 _
              ·
               exact ((HKR.out.step (hB14.mono hzr)).step hbl').set _ (by simp) _
             case measure => simp [intOf]; omega
            ·
             go_simp
             have t9 := (World.cell?_alloc_lt w4 (.cells #[.slice A1 m1 c1'] 41) ⟨w1.heap.size, 4, none⟩ (World.block_lt_of_cell? _ _ t4)).trans t4
             refine hK.out _ _ trivial (fun hHeld => ?_)
             clear hK K
             try simp only [pu]
             refine take_ready 1 rfl (by kernel_rfl) (fun K hK => ?_)
             go_simp
             refine hK.out _ _ trivial (fun hHeld => ?_)
             clear hK K
             try simp only [pu]
             obtain ⟨vs, hown1, hstep⟩ := HS.out.step hzr hB14 ho hn (fun b hb => by have := hr b hb; exact ⟨by simpa using this.1, this.2⟩)
             have HST := Lib.hid hstep; clear hstep ho hn hr
             have hlen : ((rest.take k).map (numsR 46)).length = k := by simp; omega
             rw [hlen] at hown1 HST
             clear hlen
             have hz4 := hB14.size
             refine take_ready 5 rfl (by kernel_rfl) (fun K hK => ?_)
             rw [if_pos (by rfl)]
             refine oper_append1 w4 (.tmp 89) (.tmp 92) 38 rfl w7.heap.size 41 _ 24 Tryz.underlying38 sliceInfo rfl _ _ _ rfl _ rfl rfl hown1 (by unfold maxLen; omega) (by omega) (by omega) ?_
             intro v' w5 hown' hbl' hgr' hlt' hob'
             have HBx5 := Lib.hid (HBx4.out.below hbl' (by omega))
             obtain ⟨a0, a1, a2, a3, a4, af0, af1, af2, af3, af4⟩ := HBx5.out
             have HST5 := Lib.hid (HST.out _ _ hown' hgr' hob')
             obtain ⟨A5, m5, c5, rfl⟩ := HST5.out.isSlice
             clear hown' hgr' hob' hown1
             refine hK.out _ _ trivial (fun hHeld => ?_)
             clear hK K
             try simp only [pu]
             refine take_ready 6 rfl (by kernel_rfl) (fun K hK => ?_)
             go_simp
             refine hK.out _ _ trivial (fun hHeld => ?_)
             clear hK K
             try simp only [pu]
             refine take_ready 7 rfl (by kernel_rfl) (fun K hK => ?_)
             go_simp
             refine hK.out _ _ trivial (fun hHeld => ?_)
             clear hK K
             try simp only [pu]
             refine wpAnyH_done (by kernel_rfl) ?_ _
             go_wp2_with fail
             go_roundw
             case rel =>
              (repeat apply Exists.intro)
              refine ⟨⟨k + 1, .slice A5 m5 c5, by omega, by go_num, ?_, ?_, ?_⟩, rfl⟩
              ·
               rw [HN.out]
               exact HST5.out.setCell _ (by show w1.heap.size < w7.heap.size; omega) _
              ·
               exact HBx5.out.set4 _
              ·
               exact ((HKR.out.step (hB14.mono hzr)).step hbl').set _ (by simp) _
             case measure => simp [intOf]; omega
          ·
           have e1 : rest.take k = rest := List.take_of_length_le (by omega)
           have hst := HS.out
           rw [e1] at hst
           obtain ⟨br, ho, hn, hr⟩ := hst.fin
           rw [← HRN.out] at ho
           have HO := Lib.hid ho; clear ho hst e1
           have HR := Lib.hid hr; clear hr
           generalize hr' : scR cl t = R at *
           have E4 := Lib.hid hr'; clear hr'
           have hB0r := (hb1.trans (hb2.mono hz1)).trans (((HKP.out.trans HKR.out).lowb hz2).mono hz1)
           have hBr : Below w.heap.size w wr := hb0.trans (hB0r.mono (by omega))
           have HBr := Lib.hid (HB0.out.below hB0r hz0)
           have pr0 := (hB0r.cell (p := ⟨w.heap.size, 0, none⟩) (show w.heap.size < w0.heap.size by omega)).trans P0.out
           have pr1 := (hB0r.cell (p := ⟨w.heap.size, 1, none⟩) (show w.heap.size < w0.heap.size by omega)).trans P1.out
           have HFr := Lib.hid (HOF.out.keep fun b hb => HKR.out.block b (by have := HRG.out b (by simp [hb]); omega) (by have := HRG.out b (by simp [hb]); simp; omega))
           have HSr := Lib.hid (HOS.out.keep fun b hb => HKR.out.block b (by have := HRG.out b (by simp [hb]); omega) (by have := HRG.out b (by simp [hb]); simp; omega))
           have RF := Lib.hid (show IntsR wr wr.heap.size (.slice Af mf cf) F from HFr.out.reads (fun b hb => by have := HRG.out b (by simp [hb]); omega))
           have RS := Lib.hid (show IntsR wr wr.heap.size (.slice As ms cs) S from HSr.out.reads (fun b hb => by have := HRG.out b (by simp [hb]); omega))
           have RR := Lib.hid (show RowsR wr wr.heap.size (.slice Av mv cv) R from HO.out.reads (fun b hb => (HR.out b hb).2))
           go_wp2_with fail
           refine (spec_waCheck n _ _ _ _ xss cl lb F S R wr ((HW.out.below hBr).more hBr.size) RF.out RS.out RR.out HG.out hlens HLB.out).mono ?_
           rintro e w8 ⟨rfl, hb8⟩
           have hB8 := bl_trans hBr hb8
           have hz8 := hb8.size
           have HX8 := Lib.hid (HBX.out.below hb8 (show w1.heap.size < wr.heap.size by omega))
           have HB8 := Lib.hid (HBr.out.below hb8 (show w.heap.size + 1 < wr.heap.size by omega))
           obtain ⟨c0, c1, c2, c3, c4, cf0, cf1, cf2, cf3, cf4⟩ := HX8.out
           obtain ⟨d0, d1, d2, d3, d4, df0, df1, df2, df3, df4⟩ := HB8.out
           cases q2 : propB (certP n xss cl lb F S R) with
           | false =>
            have hno : ¬ pcP n xss p0 t := fun k => propB_ff q2 (HPC.out.1 k).2.1
            clear HPC
            go_wp2_with fail
            refine bodyPost_ret (v := .tuple #[certV 0 0 (.slice none 0 0) (.slice none 0 0) (.slice none 0 0), .bool false]) (by simp [results, Tryz.results135, go_sem, d0, d1, d2, d3, d4]) rfl (pc_none hno ?_)
            iterate 5 (refine Below.setCell ?_ (by simp) _)
            exact hB8
           | true =>
            have HCP := Lib.hid (propB_iff.1 q2); clear q2
            have HSM := Lib.hid (certP.small HG.out HCP.out)
            obtain ⟨T, hT⟩ : ∃ T, T = certT cl lb F S R := ⟨_, rfl⟩
            have JT := Lib.hid (show Calls Tryz.prog 96 #[.agg #[.int .i64 cl, .int .i64 lb, .slice Af mf cf, .slice As ms cs, .slice Av mv cv]] w8 fun e w' => e = .returned (.string ⟨T.toArray⟩) ∧ Below w8.heap.size w8 w' by
             rw [hT]
             exact spec_srCertificate _ _ _ cl lb F S R w8 ((RF.out.below hb8).more hz8) ((RS.out.below hb8).more hz8) ((RR.out.below hb8).more hz8) HSM.out)
            have HTT := Lib.hid hT; clear hT
            go_wp2_with fail
            refine JT.out.mono ?_
            rintro e w9 ⟨rfl, hb9⟩
            have hB9 := bl_trans hB8 hb9
            have hz9 := hb9.size
            have HX9 := Lib.hid (HX8.out.below hb9 (show w1.heap.size < w8.heap.size by omega))
            have HB9 := Lib.hid (HB8.out.below hb9 (show w.heap.size + 1 < w8.heap.size by omega))
            obtain ⟨x0, x1, x2, x3, x4, xf0, xf1, xf2, xf3, xf4⟩ := HX9.out
            obtain ⟨z0, z1, z2, z3, z4, zf0, zf1, zf2, zf3, zf4⟩ := HB9.out
            by_cases q7 : T = s.data.toList
            ·
             have EB := Lib.hid (show pcB n xss p0 t = true from propB_t (HPC.out.2 ⟨HTN.out, HCP.out, by rw [← HTT.out]; exact q7⟩))
             have k1 : (T == s.toList) = true := by rw [Lib.toList_data, q7]; simp
             have k2 : (T == s.data.toList) = true := by rw [q7]; simp
             clear q7 HPC
             go_wp2_with fail
             refine bodyPost_ret (v := .tuple #[certV cl lb (.slice Af mf cf) (.slice As ms cs) (.slice Av mv cv), .bool true]) (by simp [results, Tryz.results135, go_sem, z0, z1, z2, z3, z4]) rfl ?_
             unfold PcPost
             rw [EB.out, HCL.out]
             simp only [if_true]
             rw [E1.out, E2.out, E3.out, E4.out]
             have hkeep : ∀ b, b < wr.heap.size → w.heap.size + 1 < b → (((((w9.setCell ⟨w.heap.size + 1, 0, none⟩ (.int .i64 cl)).setCell ⟨w.heap.size + 1, 1, none⟩ (.int .i64 lb)).setCell ⟨w.heap.size + 1, 2, none⟩ (.slice Af mf cf)).setCell ⟨w.heap.size + 1, 3, none⟩ (.slice As ms cs)).setCell ⟨w.heap.size + 1, 4, none⟩ (.slice Av mv cv)).heap[b]? = wr.heap[b]? := fun b hb hb2 => by
              iterate 5 rw [Below.heap_setCell _ _ _ _ (by simp; omega)]
              rw [hb9.block b (by omega), hb8.block b hb]
             refine ⟨_, _, _, bf, bs, br, rfl, ?_, ?_, ?_, ?_, ?_, ?_⟩
             ·
              exact HFr.out.keep fun b hb => hkeep b (by have := HRG.out b (by simp [hb]); omega) (by have := HRG.out b (by simp [hb]); omega)
             ·
              exact HSr.out.keep fun b hb => hkeep b (by have := HRG.out b (by simp [hb]); omega) (by have := HRG.out b (by simp [hb]); omega)
             ·
              exact HO.out.keep fun b hb => hkeep b (HR.out b hb).2 (by have := HR.out b hb; omega)
             ·
              refine List.nodup_append.2 ⟨hnd, hn, fun a ha b hb e => ?_⟩
              have h1 := HRG.out a ha
              have h2 := HR.out b hb
              omega
             ·
              intro x hx
              simp only [size_setCell]
              rcases List.mem_append.1 hx with h | h
              ·
               have := HRG.out x h; omega
              ·
               have := HR.out x h; omega
             ·
              iterate 5 (refine Below.setCell ?_ (by simp) _)
              exact hB9
            ·
             have hno : ¬ pcP n xss p0 t := fun k => q7 (by rw [HTT.out]; exact (HPC.out.1 k).2.2)
             have k1 : (T == s.toList) = false := by rw [Lib.toList_data, beq_eq_false_iff_ne]; exact q7
             have k2 : (T == s.data.toList) = false := by rw [beq_eq_false_iff_ne]; exact q7
             clear q7 HPC
             go_wp2_with fail
             refine bodyPost_ret (v := .tuple #[certV 0 0 (.slice none 0 0) (.slice none 0 0) (.slice none 0 0), .bool false]) (by simp [results, Tryz.results135, go_sem, z0, z1, z2, z3, z4]) rfl (pc_none hno ?_)
             iterate 5 (refine Below.setCell ?_ (by simp) _)
             exact hB9
end Go.Proofs.YtcfbkickiijjkaaGreatDoor
