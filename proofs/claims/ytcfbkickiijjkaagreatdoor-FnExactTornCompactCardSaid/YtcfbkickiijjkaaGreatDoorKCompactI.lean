/-
  CompactLab and TornCompact of the program.
-/
import Derived.Test.YtcfbkickiijjkaaGreatDoorKZ
import Derived.Test.YtcfbkickiijjkaaGreatDoorKCompact
namespace Go.Proofs.YtcfbkickiijjkaaGreatDoor
open Go.RowKit
set_option linter.unusedVariables false
set_option linter.unusedSimpArgs false
def wsT (ns : List UInt8) (k : Int) : ByteArray := if k < 0 then ⟨ns.toArray⟩ else ⟨(ns.take k.toNat).toArray⟩
set_option maxRecDepth 100000 in
set_option maxHeartbeats 1000000 in
theorem impl_withSnapshot (a b lg : ByteArray) (k : Int) (w : World) (ha : a.size ≤ 1048576) (hb : b.size ≤ 1048576) (hl : lg.size ≤ 1048576) (hm : MaxAt w) (hp : Pow10 w) (he : ErrAt w) :
  Calls Tryz.prog 27 #[disk a b lg, .int .i64 k] w fun e w' => e = .returned (.tuple #[diskV (dOf (nxB a.data.toList b.data.toList lg.data.toList && decide (k ≤ (nxS a.data.toList b.data.toList lg.data.toList).length)) (fSc a.data.toList b.data.toList lg.data.toList) a b lg (wsT (nxS a.data.toList b.data.toList lg.data.toList) k)), .bool (nxB a.data.toList b.data.toList lg.data.toList && decide (k ≤ (nxS a.data.toList b.data.toList lg.data.toList).length))]) ∧ Below w.heap.size w w' := by
 have HM := Lib.hid hm; clear hm
 have HP := Lib.hid hp; clear hp
 have HE := Lib.hid he; clear he
 have J := Lib.hid (fun (W : World) (hW : Below w.heap.size w W) => impl_recoverLab a b lg W ha hb hl (HM.out.below hW) (HP.out.below hW) (HE.out.below hW))
 unfold RviPost at J
 have hG := fGn_bd a.data.toList b.data.toList lg.data.toList
 have hnl := nxS_len a.data.toList b.data.toList lg.data.toList
 have HST := Lib.hid (And.intro (fX_items a.data.toList b.data.toList lg.data.toList) (fX_store a.data.toList b.data.toList lg.data.toList))
 have HB := Lib.hid (show nxB a.data.toList b.data.toList lg.data.toList = (rvOk a.data.toList b.data.toList lg.data.toList && decide (fGn a.data.toList b.data.toList lg.data.toList ≠ 100000)) from rfl)
 have HT := Lib.hid (fun h => nx_t (a := a.data.toList) (b := b.data.toList) (l := lg.data.toList) h)
 generalize nxB a.data.toList b.data.toList lg.data.toList = nb at *
 generalize nxS a.data.toList b.data.toList lg.data.toList = ns at *
 generalize fX a.data.toList b.data.toList lg.data.toList = X at *
 generalize fGn a.data.toList b.data.toList lg.data.toList = G at *
 generalize fNn a.data.toList b.data.toList lg.data.toList = N at *
 generalize fBy a.data.toList b.data.toList lg.data.toList = Bt at *
 generalize fSc a.data.toList b.data.toList lg.data.toList = S at *
 generalize rvOk a.data.toList b.data.toList lg.data.toList = ok at *
 have HDF := Lib.hid (fun h => dOf_f (ok := nb && decide (k ≤ (ns.length : Int))) (sc := S) (a := a) (b := b) (z := lg) (t := wsT ns k) h)
 have HDT := Lib.hid (fun h => dOf_t (ok := nb && decide (k ≤ (ns.length : Int))) (sc := S) (a := a) (b := b) (z := lg) (t := wsT ns k) h)
 generalize diskV (dOf (nb && decide (k ≤ (ns.length : Int))) S a b lg (wsT ns k)) = R at *
 obtain ⟨rb, hrb⟩ : ∃ x, x = (nb && decide (k ≤ (ns.length : Int))) := ⟨_, rfl⟩
 rw [← hrb] at HDF HDT
 rw [← hrb]
 have HRB := Lib.hid hrb; clear hrb
 obtain ⟨w0, hw0, hb0, HD0, hs0⟩ := lay3 w (.string a) (.string b) (.string lg) 25
 obtain ⟨w1, hw1, hb1, HZ0, hs1⟩ := lay3 w0 (.string ⟨#[]⟩) (.string ⟨#[]⟩) (.string ⟨#[]⟩) 25
 have hB := bl_trans hb0 hb1
 replace HD0 := bk HD0 hb1
 rw [hs0] at HZ0
 have HW0 := Lib.hid hw0; clear hw0
 have HW1 := Lib.hid hw1; clear hw1
 have hlt1 : w.heap.size + 1 < w1.heap.size := by omega
 clear hs0 hs1 hb0 hb1
 go_enter Tryz.func27, Tryz.ntmps27
 go_wp2_with fail
 rw [← HW0.out, ← HW1.out]
 refine (J.out w1 hB).mono ?_
 rintro e w2 ⟨v, bs, rfl, ho, hn, hr, hb2⟩
 have hz2 := hb2.size
 replace hB := bl_trans hB hb2
 replace HD0 := bk HD0 hb2
 replace HZ0 := bk HZ0 hb2
 obtain ⟨Av, mv, cv, rfl⟩ := ho.isSlice
 obtain ⟨w3, hw3, hb3, HX0, hs3⟩ := lay5 w2 (.slice Av mv cv) (.int .i64 G) (.int .i64 (N : Int)) (.int .i64 (Bt : Int)) (.bool S) 68
 have Ov := Lib.hid ((ho.reads (B := w2.heap.size) (fun x hx => (hr x hx).2)).up hb3)
 replace hB := bl_trans hB hb3
 replace HD0 := bk HD0 hb3
 replace HZ0 := bk HZ0 hb3
 have hlt3 : w2.heap.size < w3.heap.size := by omega
 clear ho hn hr hs3
 obtain ⟨z0, z1, z2, zf⟩ := cells3 HZ0
 obtain ⟨x0, x1, x2, x3, x4, xf⟩ := cells5 HX0
 have HW3 := Lib.hid hw3
 rw [hw3] at z0 z1 z2 zf x0 x1 x2 x3 x4 xf
 clear hw3
 cases ok with
 | false =>
  have HN := Lib.hid (show rb = false by rw [HRB.out, HB.out]; rfl)
  obtain ⟨y0, y1, y2, yf⟩ := cells3 HZ0
  go_wp2_with fail
  rw [← HW3.out]
  refine bodyPost_ret (v := .tuple #[disk ⟨#[]⟩ ⟨#[]⟩ ⟨#[]⟩, .bool false]) (by simp [results, Tryz.results27, go_sem, y0, y1, y2]) rfl ⟨ret_disk (HDF.out HN.out).symm HN.out.symm, ?_⟩
  iterate 3 (refine Below.setCell ?_ (by simp <;> omega) _)
  exact hB
 | true =>
  by_cases hg : G = 100000
  ·
   subst hg
   have HN := Lib.hid (show rb = false by rw [HRB.out, HB.out]; rfl)
   obtain ⟨y0, y1, y2, yf⟩ := cells3 HZ0
   go_wp2_with fail
   rw [← HW3.out]
   refine bodyPost_ret (v := .tuple #[disk ⟨#[]⟩ ⟨#[]⟩ ⟨#[]⟩, .bool false]) (by simp [results, Tryz.results27, go_sem, y0, y1, y2]) rfl ⟨ret_disk (HDF.out HN.out).symm HN.out.symm, ?_⟩
   iterate 3 (refine Below.setCell ?_ (by simp <;> omega) _)
   exact hB
  ·
   have HNB := Lib.hid (show nb = true by rw [HB.out]; simp [hg])
   have kq : (G == 100000) = false := by simpa using hg
   have hg1 : 0 ≤ G + 1 ∧ G + 1 ≤ 100000 := by omega
   have hwr : IntKind.i64.wrap (G + 1) = G + 1 := wr64 (by omega) (by omega)
   clear hg
   go_wp2_with fail
   rw [← HW3.out]
   clear z0 z1 z2 zf x0 x1 x2 x3 x4 xf
   refine (impl_snapshotOf _ X (G + 1) w3 Ov.out HST.out.1 HST.out.2 hg1.1 hg1.2 (HP.out.below hB)).mono ?_
   rintro e w4 ⟨rfl, hb4⟩
   have hz4 := hb4.size
   replace hB := bl_trans hB hb4
   replace HX0 := bk HX0 hb4
   replace HD0 := bk HD0 hb4
   replace HZ0 := bk HZ0 hb4
   rw [← HT.out HNB.out]
   obtain ⟨T, hT⟩ : ∃ T : ByteArray, T = ⟨ns.toArray⟩ := ⟨_, rfl⟩
   have hTs : T.size = ns.length := by rw [hT, Lib.size_eq]
   have HTS := Lib.hid hTs
   have HTE := Lib.hid hT
   have hT' : strV ns = .string T := by rw [hT]; rfl
   rw [hT']
   rw [← hTs] at hnl
   clear hT hTs hT'
   obtain ⟨d0, d1, d2, df⟩ := cells3 HD0
   obtain ⟨x0, x1, x2, x3, x4, xf⟩ := cells5 HX0
   obtain ⟨y0, y1, y2, yf⟩ := cells3 HZ0
   by_cases hk : k > (T.size : Int)
   ·
    have HN := Lib.hid (show rb = false by rw [HRB.out, decide_eq_false (by rw [← HTS.out]; omega), Bool.and_false])
    clear d0 d1 d2 df x0 x1 x2 x3 x4 xf
    go_wp2_with fail
    refine bodyPost_ret (v := .tuple #[disk ⟨#[]⟩ ⟨#[]⟩ ⟨#[]⟩, .bool false]) (by simp [results, Tryz.results27, go_sem, y0, y1, y2]) rfl ⟨ret_disk (HDF.out HN.out).symm HN.out.symm, ?_⟩
    iterate 3 (refine Below.setCell ?_ (by simp <;> omega) _)
    exact hB
   ·
    have HRT := Lib.hid (show rb = true by rw [HRB.out, HNB.out, decide_eq_true (by rw [← HTS.out]; omega)]; rfl)
    have HR := Lib.hid (HDT.out HRT.out)
    clear HDF HDT
    by_cases hk0 : k < 0
    ·
     have HU := Lib.hid (show wsT ns k = T by unfold wsT; rw [if_pos hk0]; exact HTE.out.symm)
     cases S with
     | true =>
      go_wp2_with fail
      refine bodyPost_ret (v := .tuple #[disk T b lg, .bool true]) (by simp [results, Tryz.results27, go_sem, y0, y1, y2]) rfl ⟨ret_disk (by rw [HR.out, HU.out]; rfl) HRT.out.symm, ?_⟩
      iterate 4 (refine Below.setCell ?_ (by simp <;> omega) _)
      exact hB
     | false =>
      go_wp2_with fail
      refine bodyPost_ret (v := .tuple #[disk a T lg, .bool true]) (by simp [results, Tryz.results27, go_sem, y0, y1, y2]) rfl ⟨ret_disk (by rw [HR.out, HU.out]; rfl) HRT.out.symm, ?_⟩
      iterate 4 (refine Below.setCell ?_ (by simp <;> omega) _)
      exact hB
    ·
     obtain ⟨kn, rfl⟩ : ∃ kn : Nat, k = kn := ⟨k.toNat, by omega⟩
     have HU := Lib.hid (show wsT ns (kn : Int) = T.extract 0 kn by
      have h := extract_strV T 0 kn
      rw [List.drop_zero, show T.data.toList = ns by rw [HTE.out]] at h
      unfold wsT
      rw [if_neg hk0, Int.toNat_natCast]
      exact (Value.string.inj h).symm)
     cases S with
     | true =>
      go_wp2_with fail
      refine bodyPost_ret (v := .tuple #[disk (T.extract 0 kn) b lg, .bool true]) (by simp [results, Tryz.results27, go_sem, y0, y1, y2]) rfl ⟨ret_disk (by rw [HR.out, HU.out]; rfl) HRT.out.symm, ?_⟩
      iterate 4 (refine Below.setCell ?_ (by simp <;> omega) _)
      exact hB
     | false =>
      go_wp2_with fail
      refine bodyPost_ret (v := .tuple #[disk a (T.extract 0 kn) lg, .bool true]) (by simp [results, Tryz.results27, go_sem, y0, y1, y2]) rfl ⟨ret_disk (by rw [HR.out, HU.out]; rfl) HRT.out.symm, ?_⟩
      iterate 4 (refine Below.setCell ?_ (by simp <;> omega) _)
      exact hB
set_option maxRecDepth 100000 in
theorem impl_CompactLab (a b lg : ByteArray) (w : World) (ha : a.size ≤ 1048576) (hb : b.size ≤ 1048576) (hl : lg.size ≤ 1048576) (hm : MaxAt w) (hp : Pow10 w) (he : ErrAt w) :
  Calls Tryz.prog 13 #[disk a b lg] w fun e w' => e = .returned (.tuple #[diskV (dOf (nxB a.data.toList b.data.toList lg.data.toList) (fSc a.data.toList b.data.toList lg.data.toList) a b ⟨#[]⟩ ⟨(nxS a.data.toList b.data.toList lg.data.toList).toArray⟩), .bool (nxB a.data.toList b.data.toList lg.data.toList)]) ∧ Below w.heap.size w w' := by
 have HM := Lib.hid hm; clear hm
 have HP := Lib.hid hp; clear hp
 have HE := Lib.hid he; clear he
 have J := Lib.hid (fun (W : World) (hW : Below w.heap.size w W) => impl_withSnapshot a b lg (-1) W ha hb hl (HM.out.below hW) (HP.out.below hW) (HE.out.below hW))
 generalize nxB a.data.toList b.data.toList lg.data.toList = nb at *
 generalize nxS a.data.toList b.data.toList lg.data.toList = ns at *
 generalize fSc a.data.toList b.data.toList lg.data.toList = S at *
 rw [show (nb && decide ((-1 : Int) ≤ (ns.length : Int))) = nb by rw [decide_eq_true (by omega), Bool.and_true], show wsT ns (-1) = ⟨ns.toArray⟩ from rfl] at J
 obtain ⟨p, q, r, h1, h2⟩ : ∃ p q r : ByteArray, diskV (dOf nb S a b lg ⟨ns.toArray⟩) = disk p q r ∧ diskV (dOf nb S a b ⟨#[]⟩ ⟨ns.toArray⟩) = disk p q ⟨#[]⟩ := by
  cases nb with
  | true => exact ⟨_, _, lg, dOf_t rfl, dOf_t rfl⟩
  | false => exact ⟨⟨#[]⟩, ⟨#[]⟩, ⟨#[]⟩, dOf_f rfl, dOf_f rfl⟩
 rw [h1] at J
 rw [h2]
 clear h1 h2
 obtain ⟨w0, hw0, hb0, HD0, hs0⟩ := lay3 w (.string a) (.string b) (.string lg) 25
 obtain ⟨w1, hw1, hb1, HZ0, hs1⟩ := lay3 w0 (.string ⟨#[]⟩) (.string ⟨#[]⟩) (.string ⟨#[]⟩) 25
 have hB := bl_trans hb0 hb1
 rw [hs0] at HZ0
 have HW0 := Lib.hid hw0; clear hw0
 have HW1 := Lib.hid hw1; clear hw1
 have hlt1 : w.heap.size + 1 < w1.heap.size := by omega
 clear hs0 hs1 hb0 hb1
 go_enter Tryz.func13, Tryz.ntmps13
 go_wp2_with fail
 rw [← HW0.out, ← HW1.out]
 refine (J.out w1 hB).mono ?_
 rintro e w2 ⟨rfl, hb2⟩
 have hz2 := hb2.size
 replace hB := bl_trans hB hb2
 replace HZ0 := bk HZ0 hb2
 obtain ⟨w3, hw3, hb3, HO0, hs3⟩ := lay3 w2 (.string p) (.string q) (.string ⟨#[]⟩) 25
 replace hB := bl_trans hB hb3
 replace HZ0 := bk HZ0 hb3
 have hlt3 : w2.heap.size < w3.heap.size := by omega
 clear hs3
 obtain ⟨z0, z1, z2, zf⟩ := cells3 HZ0
 obtain ⟨y0, y1, y2, yf⟩ := cells3 HZ0
 obtain ⟨o0, o1, o2, of⟩ := cells3 HO0
 have HW3 := Lib.hid hw3
 rw [hw3] at z0 z1 z2 zf o0 o1 o2 of
 clear hw3
 go_wp2_with fail
 rw [← HW3.out]
 refine bodyPost_ret (v := .tuple #[disk p q ⟨#[]⟩, .bool nb]) (by simp [results, Tryz.results13, go_sem, y0, y1, y2]) rfl ⟨rfl, ?_⟩
 iterate 3 (refine Below.setCell ?_ (by simp <;> omega) _)
 exact hB
set_option maxRecDepth 100000 in
theorem impl_TornCompact (a b lg : ByteArray) (k : Int) (w : World) (ha : a.size ≤ 1048576) (hb : b.size ≤ 1048576) (hl : lg.size ≤ 1048576) (hm : MaxAt w) (hp : Pow10 w) (he : ErrAt w) :
  Calls Tryz.prog 10 #[disk a b lg, .int .i64 k] w fun e w' => e = .returned (.tuple #[diskV (dOf (nxB a.data.toList b.data.toList lg.data.toList && inB k 0 (nxS a.data.toList b.data.toList lg.data.toList).length) (fSc a.data.toList b.data.toList lg.data.toList) a b lg ⟨((nxS a.data.toList b.data.toList lg.data.toList).take k.toNat).toArray⟩), .bool (nxB a.data.toList b.data.toList lg.data.toList && inB k 0 (nxS a.data.toList b.data.toList lg.data.toList).length)]) ∧ Below w.heap.size w w' := by
 have HM := Lib.hid hm; clear hm
 have HP := Lib.hid hp; clear hp
 have HE := Lib.hid he; clear he
 have J := Lib.hid (fun (W : World) (hW : Below w.heap.size w W) => impl_withSnapshot a b lg k W ha hb hl (HM.out.below hW) (HP.out.below hW) (HE.out.below hW))
 generalize nxB a.data.toList b.data.toList lg.data.toList = nb at *
 generalize nxS a.data.toList b.data.toList lg.data.toList = ns at *
 generalize fSc a.data.toList b.data.toList lg.data.toList = S at *
 obtain ⟨w0, hw0, hb0, HD0, hs0⟩ := lay3 w (.string a) (.string b) (.string lg) 25
 obtain ⟨w1, hw1, hb1, HZ0, hs1⟩ := lay3 w0 (.string ⟨#[]⟩) (.string ⟨#[]⟩) (.string ⟨#[]⟩) 25
 have hB := bl_trans hb0 hb1
 replace HD0 := bk HD0 hb1
 rw [hs0] at HZ0
 have HW0 := Lib.hid hw0
 have HW1 := Lib.hid hw1
 have hlt1 : w.heap.size + 1 < w1.heap.size := by omega
 clear hs0 hs1 hb0 hb1
 by_cases hk : k < 0
 ·
  have HN := Lib.hid (show (nb && inB k 0 (ns.length : Int)) = false by rw [inB_f (by omega), Bool.and_false])
  have HR := Lib.hid (dOf_f (sc := S) (a := a) (b := b) (z := lg) (t := ⟨(ns.take k.toNat).toArray⟩) HN.out)
  rw [HN.out] at HR
  rw [HN.out, HR.out]
  obtain ⟨y0, y1, y2, yf⟩ := cells3 HZ0
  obtain ⟨z0, z1, z2, zf⟩ := cells3 HZ0
  rw [hw1, hw0] at z0 z1 z2 zf
  clear hw0 hw1
  go_enter Tryz.func10, Tryz.ntmps10
  go_wp2_with fail
  rw [← HW0.out, ← HW1.out]
  refine bodyPost_ret (v := .tuple #[disk ⟨#[]⟩ ⟨#[]⟩ ⟨#[]⟩, .bool false]) (by simp [results, Tryz.results10, go_sem, y0, y1, y2]) rfl ⟨rfl, hB⟩
 ·
  have e1 : inB k 0 (ns.length : Int) = decide (k ≤ (ns.length : Int)) := by
   by_cases h : k ≤ (ns.length : Int)
   ·
    rw [inB_t (by omega), decide_eq_true h]
   ·
    rw [inB_f (by omega), decide_eq_false h]
  have e2 : wsT ns k = ⟨(ns.take k.toNat).toArray⟩ := if_neg hk
  rw [← e1, e2] at J
  clear e1 e2 hw0 hw1
  generalize (nb && inB k 0 (ns.length : Int)) = rb at *
  generalize dOf rb S a b lg ⟨(ns.take k.toNat).toArray⟩ = R at *
  obtain ⟨R1, R2, R3⟩ := R
  unfold diskV at J
  unfold diskV
  dsimp only at J ⊢
  go_enter Tryz.func10, Tryz.ntmps10
  go_wp2_with fail
  rw [← HW0.out, ← HW1.out]
  refine (J.out w1 hB).mono ?_
  rintro e w2 ⟨rfl, hb2⟩
  have hz2 := hb2.size
  replace hB := bl_trans hB hb2
  replace HZ0 := bk HZ0 hb2
  obtain ⟨y0, y1, y2, yf⟩ := cells3 HZ0
  go_wp2_with fail
  refine bodyPost_ret (v := .tuple #[disk R1 R2 R3, .bool rb]) (by simp [results, Tryz.results10, go_sem, y0, y1, y2]) rfl ⟨rfl, ?_⟩
  iterate 3 (refine Below.setCell ?_ (by simp <;> omega) _)
  exact hB
end Go.Proofs.YtcfbkickiijjkaaGreatDoor
