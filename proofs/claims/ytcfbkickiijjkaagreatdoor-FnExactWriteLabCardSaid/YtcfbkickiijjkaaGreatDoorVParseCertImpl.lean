/-
  What ParseCertificate returns, and the program's ParseCertificate.
-/
import Derived.Test.YtcfbkickiijjkaaGreatDoorVItem
import Derived.Test.YtcfbkickiijjkaaGreatDoorVCertReadAll
namespace Go.Proofs.YtcfbkickiijjkaaGreatDoor
open Go.RowKit
set_option linter.all false
def pcP (n : Int) (xss : List (List Int)) (p0 : List UInt8) (t : List (List UInt8)) : Prop :=
  Good n xss ∧ (isCls p0 = true ∧ strictC (clsI p0) t) ∧ certP n.toNat xss (clsI p0) (scLb (clsI p0) t) (scF (clsI p0) t) (scS (clsI p0) t) (scR (clsI p0) t)
noncomputable def pcB (n : Int) (xss : List (List Int)) (p0 : List UInt8) (t : List (List UInt8)) : Bool := propB (pcP n xss p0 t)
def PcPost (n : Int) (xss : List (List Int)) (p0 : List UInt8) (t : List (List UInt8)) (w : World) (e : Ending) (w' : World) : Prop :=
  ∃ vf vs vr bf bs br, e = .returned (.tuple #[certV (if pcB n xss p0 t = true then clsI p0 else 0) (if pcB n xss p0 t = true then scLb (clsI p0) t else 0) vf vs vr, .bool (pcB n xss p0 t)]) ∧
    OwnInts w' 3 vf (if pcB n xss p0 t = true then scF (clsI p0) t else []) bf ∧ OwnInts w' 3 vs (if pcB n xss p0 t = true then scS (clsI p0) t else []) bs ∧
    OwnRows w' 41 3 vr (if pcB n xss p0 t = true then scR (clsI p0) t else []) br ∧ (bf ++ bs ++ br).Nodup ∧ (∀ x ∈ bf ++ bs ++ br, w.heap.size ≤ x ∧ x < w'.heap.size) ∧ Below w.heap.size w w'
theorem pc_none {n : Int} {xss : List (List Int)} {p0 : List UInt8} {t : List (List UInt8)} {w w' : World} (h : ¬ pcP n xss p0 t) (hb : Below w.heap.size w w') :
    PcPost n xss p0 t w (.returned (.tuple #[certV 0 0 (.slice none 0 0) (.slice none 0 0) (.slice none 0 0), .bool false])) w' := by
  have e : pcB n xss p0 t = false := propB_f h
  unfold PcPost
  rw [e]
  exact ⟨_, _, _, [], [], [], rfl, own_none _ _, own_none _ _, rows_none _ _ _, List.nodup_nil, (fun _ h => by cases h), hb⟩
theorem sc_lens {cl : Int} {t : List (List UInt8)} (h : ∀ p ∈ t, p.length ≤ 1048576) (ht : t.length ≤ 1048577) : (scF cl t).length ≤ 1000000000 ∧ (scS cl t).length ≤ 1000000000 ∧ (scR cl t).length ≤ 1000000000 := by
  have one : ∀ j, j < t.length → (numsR 45 (t.getD j [])).length ≤ 1000000000 := fun j hj => by
    have hm : t.getD j [] ∈ t := by simp [List.getD, hj]
    have h1 := h _ hm
    unfold numsR
    rw [List.length_map, spl_len]
    have := List.count_le_length (a := 45) (l := t.getD j [])
    omega
  refine ⟨?_, ?_, ?_⟩
  · unfold scF; split
    · exact one 1 (by omega)
    · simp
  · unfold scS; split
    · exact one 2 (by omega)
    · simp
  · unfold scR; rw [List.length_map, List.length_drop]; omega
theorem I64_scLb (cl : Int) (t : List (List UInt8)) : I64 (scLb cl t) := by
  unfold scLb; split
  · unfold I64; omega
  · exact I64_rd _
set_option maxRecDepth 100000 in
set_option maxHeartbeats 1000000 in
theorem impl_ParseCertificate (n : Int) (v : Value) (xss : List (List Int)) (s : ByteArray) (p0 : List UInt8) (t : List (List UInt8)) (w : World) (h : RowsR w w.heap.size v xss) (hs : s.size ≤ 1048576) (hspl : spl 32 s.data.toList [] = p0 :: t) (hm : MaxAt w) (hp : Pow10 w) (he : ErrAt w) :
  Calls Tryz.prog 143 #[.agg #[.int .i64 n, v], .string s] w fun e w' => PcPost n xss p0 t w e w' := by
 obtain ⟨Aw, mw, cw, rfl⟩ := h.isSlice'
 have HW := Lib.hid h; clear h
 have HP := Lib.hid hp; clear hp
 have HE := Lib.hid he; clear he
 have HM := Lib.hid hm; clear hm
 have hsz := Lib.size_eq s
 have HL := Lib.hid (show ∀ p ∈ p0 :: t, p.length ≤ 1048576 from fun p hp => by rw [← hspl] at hp; have := spl_part 32 _ _ p hp; simp only [List.length_nil] at this; omega)
 have hcnt : t.length + 1 ≤ 1048577 := by
  have h1 := spl_len 32 s.data.toList []
  have h2 := List.count_le_length (a := 32) (l := s.data.toList)
  rw [hspl, List.length_cons] at h1
  omega
 have HSP := Lib.hid hspl; clear hspl hsz
 have hb0 := bl_alloc (bl_alloc (Below.refl w.heap.size w) (.cells #[.int .i64 n, .slice Aw mw cw] 50)) (.cells #[.int .i64 0, .int .i64 0, .slice none 0 0, .slice none 0 0, .slice none 0 0] 51)
 have p00 : ((w.alloc (.cells #[.int .i64 n, .slice Aw mw cw] 50)).alloc (.cells #[.int .i64 0, .int .i64 0, .slice none 0 0, .slice none 0 0, .slice none 0 0] 51)).cell? ⟨w.heap.size, 0, none⟩ = some (.int .i64 n) := by
  rw [World.cell?_alloc_lt _ _ _ (show w.heap.size < _ by simp), World.cell?_alloc_at _ _ _ _ rfl]; rfl
 have p01 : ((w.alloc (.cells #[.int .i64 n, .slice Aw mw cw] 50)).alloc (.cells #[.int .i64 0, .int .i64 0, .slice none 0 0, .slice none 0 0, .slice none 0 0] 51)).cell? ⟨w.heap.size, 1, none⟩ = some (.slice Aw mw cw) := by
  rw [World.cell?_alloc_lt _ _ _ (show w.heap.size < _ by simp), World.cell?_alloc_at _ _ _ _ rfl]; rfl
 have HB0 := Lib.hid (BoxC.new (w.alloc (.cells #[.int .i64 n, .slice Aw mw cw] 50)) 51 (.int .i64 0) (.int .i64 0) (.slice none 0 0) (.slice none 0 0) (.slice none 0 0))
 rw [show (w.alloc (.cells #[.int .i64 n, .slice Aw mw cw] 50)).heap.size = w.heap.size + 1 by simp] at HB0
 have HZ0 := Lib.hid (show w.heap.size + 1 < ((w.alloc (.cells #[.int .i64 n, .slice Aw mw cw] 50)).alloc (.cells #[.int .i64 0, .int .i64 0, .slice none 0 0, .slice none 0 0, .slice none 0 0] 51)).heap.size by simp)
 have P0 := Lib.hid p00; clear p00
 have P1 := Lib.hid p01; clear p01
 go_enter Tryz.func143, Tryz.ntmps143
 go_wp2_with fail
 generalize (w.alloc (.cells #[.int .i64 n, .slice Aw mw cw] 50)).alloc (.cells #[.int .i64 0, .int .i64 0, .slice none 0 0, .slice none 0 0, .slice none 0 0] 51) = w0 at *
 refine (split_call s 32 w0 hs (HM.out.below hb0)).mono ?_
 rintro e w1 ⟨v1, rfl, hsl, hb1⟩
 have hB1 := bl_trans hb0 hb1
 rw [HSP.out] at hsl
 have HSL := Lib.hid hsl; clear hsl
 go_wp2_with fail
 refine (impl_readCertificate v1 p0 t w1 HSL.out hcnt HL.out (HM.out.below hB1) (HP.out.below hB1) (HE.out.below hB1)).mono ?_
 rintro e w2 ⟨cl, lb, vf, vs, vr, f, sc, rs, bf, bs, br, rfl, hlb, hof, hos, hor, hnd, hrg, hb2, hval⟩
 have hB2 := bl_trans hB1 hb2
 obtain ⟨Af, mf, cf, rfl⟩ := hof.1.isSlice
 obtain ⟨As, ms, cs, rfl⟩ := hos.1.isSlice
 obtain ⟨Ar, mr, cr, rfl⟩ := hor.isSlice
 have HOF := Lib.hid hof; clear hof
 have HOS := Lib.hid hos; clear hos
 have HOR := Lib.hid hor; clear hor
 have HRG := Lib.hid hrg; clear hrg
 have HV := Lib.hid hval; clear hval
 have hz0 := HZ0.out
 have hz1 := hb1.size
 have hz2 := hb2.size
 have hb02 := hb1.trans (hb2.mono hb1.size)
 have hb3 := bl_alloc (Below.refl w2.heap.size w2) (.cells #[.int .i64 cl, .int .i64 lb, .slice Af mf cf, .slice As ms cs, .slice Ar mr cr] 51)
 have HX3 := Lib.hid (BoxC.new w2 51 (.int .i64 cl) (.int .i64 lb) (.slice Af mf cf) (.slice As ms cs) (.slice Ar mr cr))
 have HS3 := Lib.hid (show (w2.alloc (.cells #[.int .i64 cl, .int .i64 lb, .slice Af mf cf, .slice As ms cs, .slice Ar mr cr] 51)).heap.size = w2.heap.size + 1 by simp)
 have hb03 := hb02.trans (hb3.mono (by omega))
 have HB3 := Lib.hid (HB0.out.below hb03 hz0)
 have p30 := (hb03.cell (p := ⟨w.heap.size, 0, none⟩) (show w.heap.size < w0.heap.size by omega)).trans P0.out
 have p31 := (hb03.cell (p := ⟨w.heap.size, 1, none⟩) (show w.heap.size < w0.heap.size by omega)).trans P1.out
 have hB3 := bl_trans hB2 hb3
 obtain ⟨y0, y1, y2, y3, y4, yf0, yf1, yf2, yf3, yf4⟩ := HB3.out
 by_cases hst : isCls p0 = true ∧ strictC (clsI p0) t
 ·
  rw [propB_t hst]
  obtain ⟨rfl, rfl, rfl, rfl, rfl⟩ := HV.out hst
  have HST := Lib.hid hst; clear hst
  have hlen := sc_lens (cl := clsI p0) (t := t) (fun p hp => HL.out p (by simp [hp])) (by omega)
  have HLB := Lib.hid (I64_scLb (clsI p0) t)
  have PCV := Lib.hid (show pcP n xss p0 t ↔ Good n xss ∧ (isCls p0 = true ∧ strictC (clsI p0) t) ∧ certP n.toNat xss (clsI p0) (scLb (clsI p0) t) (scF (clsI p0) t) (scS (clsI p0) t) (scR (clsI p0) t) from Iff.rfl)
  generalize hcl : clsI p0 = cl at *
  have HCL := Lib.hid hcl; clear hcl
  generalize hlb' : scLb cl t = lb at *
  generalize hf' : scF cl t = f at *
  generalize hs' : scS cl t = sc at *
  generalize hr' : scR cl t = rs at *
  have E1 := Lib.hid hlb'; clear hlb'
  have E2 := Lib.hid hf'; clear hf'
  have E3 := Lib.hid hs'; clear hs'
  have E4 := Lib.hid hr'; clear hr'
  go_wp2_with fail
  generalize w2.alloc (.cells #[.int .i64 cl, .int .i64 lb, .slice Af mf cf, .slice As ms cs, .slice Ar mr cr] 51) = w3 at *
  refine (impl_IsWalkProblem n _ xss w3 ((HW.out.below hB3).more hB3.size)).mono ?_
  rintro e w4 ⟨rfl, hb4⟩
  have hB4 := bl_trans hB3 hb4
  have hz3 := HS3.out
  have hz4 := hb4.size
  have hb04 := hb03.trans (hb4.mono (by omega))
  have HX4 := Lib.hid (HX3.out.below hb4 (show w2.heap.size < w3.heap.size by omega))
  have HB4 := Lib.hid (HB0.out.below hb04 hz0)
  have p40 := (hb04.cell (p := ⟨w.heap.size, 0, none⟩) (show w.heap.size < w0.heap.size by omega)).trans P0.out
  have p41 := (hb04.cell (p := ⟨w.heap.size, 1, none⟩) (show w.heap.size < w0.heap.size by omega)).trans P1.out
  obtain ⟨a0, a1, a2, a3, a4, af0, af1, af2, af3, af4⟩ := HX4.out
  obtain ⟨b0, b1, b2, b3, b4, bf0, bf1, bf2, bf3, bf4⟩ := HB4.out
  cases q : goodB n xss with
  | false =>
   have hno : ¬ pcP n xss p0 t := fun k => by rw [goodB_t k.1] at q; cases q
   go_wp2_with fail
   refine bodyPost_ret (v := .tuple #[certV 0 0 (.slice none 0 0) (.slice none 0 0) (.slice none 0 0), .bool false]) (by simp [results, Tryz.results143, go_sem, b0, b1, b2, b3, b4]) rfl (pc_none hno ?_)
   iterate 5 (refine Below.setCell ?_ (by simp) _)
   exact hB4
  | true =>
   have HG := Lib.hid (goodB_iff.1 q); clear q
   obtain ⟨n, rfl⟩ := Int.eq_ofNat_of_zero_le (show 0 ≤ n by have := HG.out.1; unfold inB at this; simp at this; omega)
   have RF := Lib.hid (show IntsR w4 w4.heap.size (.slice Af mf cf) f from ((((HOF.out.reads (B := w2.heap.size) (fun b hb => (HRG.out b (by simp [hb])).2)).below hb3).below (hb4.mono (by omega))).more (by omega)))
   have RS := Lib.hid (show IntsR w4 w4.heap.size (.slice As ms cs) sc from ((((HOS.out.reads (B := w2.heap.size) (fun b hb => (HRG.out b (by simp [hb])).2)).below hb3).below (hb4.mono (by omega))).more (by omega)))
   have RR := Lib.hid (show RowsR w4 w4.heap.size (.slice Ar mr cr) rs from ((((HOR.out.reads (B := w2.heap.size) (fun b hb => (HRG.out b (by simp [hb])).2)).below hb3).below (hb4.mono (by omega))).more (by omega)))
   go_wp2_with fail
   refine (impl_isCertificate n _ _ _ _ xss cl lb f sc rs w4 ((HW.out.below hB4).more hB4.size) RF.out RS.out RR.out HG.out ⟨_, _, _, rfl⟩ hlen HLB.out).mono ?_
   rintro e w5 ⟨rfl, hb5⟩
   have hB5 := bl_trans hB4 hb5
   have hz5 := hb5.size
   have hb05 := hb04.trans (hb5.mono (by omega))
   have HX5 := Lib.hid (HX4.out.below hb5 (show w2.heap.size < w4.heap.size by omega))
   have HB5 := Lib.hid (HB0.out.below hb05 hz0)
   obtain ⟨c0, c1, c2, c3, c4, cf0, cf1, cf2, cf3, cf4⟩ := HX5.out
   obtain ⟨d0, d1, d2, d3, d4, df0, df1, df2, df3, df4⟩ := HB5.out
   cases q2 : propB (certP n xss cl lb f sc rs) with
   | false =>
    have hno : ¬ pcP n xss p0 t := fun k => propB_ff q2 (PCV.out.1 k).2.2
    go_wp2_with fail
    refine bodyPost_ret (v := .tuple #[certV 0 0 (.slice none 0 0) (.slice none 0 0) (.slice none 0 0), .bool false]) (by simp [results, Tryz.results143, go_sem, d0, d1, d2, d3, d4]) rfl (pc_none hno ?_)
    iterate 5 (refine Below.setCell ?_ (by simp) _)
    exact hB5
   | true =>
    have EB := Lib.hid (show pcB n xss p0 t = true from propB_t (PCV.out.2 ⟨HG.out, HST.out, propB_iff.1 q2⟩))
    clear q2
    go_wp2_with fail
    refine bodyPost_ret (v := .tuple #[certV cl lb (.slice Af mf cf) (.slice As ms cs) (.slice Ar mr cr), .bool true]) (by simp [results, Tryz.results143, go_sem, d0, d1, d2, d3, d4]) rfl ?_
    unfold PcPost
    rw [EB.out, HCL.out]
    simp only [if_true]
    rw [E1.out, E2.out, E3.out, E4.out]
    refine ⟨_, _, _, bf, bs, br, rfl, ?_, ?_, ?_, hnd, ?_, ?_⟩
    ·
     refine HOF.out.keep fun b hb => ?_
     have := HRG.out b (by simp [hb])
     iterate 5 rw [Below.heap_setCell _ _ _ _ (by simp; omega)]
     rw [hb5.block b (by omega), hb4.block b (by omega), hb3.block b this.2]
    ·
     refine HOS.out.keep fun b hb => ?_
     have := HRG.out b (by simp [hb])
     iterate 5 rw [Below.heap_setCell _ _ _ _ (by simp; omega)]
     rw [hb5.block b (by omega), hb4.block b (by omega), hb3.block b this.2]
    ·
     refine HOR.out.keep fun b hb => ?_
     have := HRG.out b (by simp [hb])
     iterate 5 rw [Below.heap_setCell _ _ _ _ (by simp; omega)]
     rw [hb5.block b (by omega), hb4.block b (by omega), hb3.block b this.2]
    ·
     intro x hx
     have := HRG.out x hx
     simp only [size_setCell]
     omega
    ·
     iterate 5 (refine Below.setCell ?_ (by simp) _)
     exact hB5
 ·
  rw [propB_f hst]
  have HNS := Lib.hid hst; clear hst
  have hno : ¬ pcP n xss p0 t := fun k => HNS.out k.2.1
  go_wp2_with fail
  refine bodyPost_ret (v := .tuple #[certV 0 0 (.slice none 0 0) (.slice none 0 0) (.slice none 0 0), .bool false]) (by simp [results, Tryz.results143, go_sem, y0, y1, y2, y3, y4]) rfl (pc_none hno ?_)
  iterate 5 (refine Below.setCell ?_ (by simp) _)
  exact hB3
end Go.Proofs.YtcfbkickiijjkaaGreatDoor
