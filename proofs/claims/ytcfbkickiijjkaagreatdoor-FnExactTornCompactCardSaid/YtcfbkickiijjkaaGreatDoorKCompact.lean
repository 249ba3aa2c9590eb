/-
  CompactLab and TornCompact of the program and of the reference: the next snapshot, in the other area.
-/
import Derived.Test.YtcfbkickiijjkaaGreatDoorKZ
import Derived.Test.YtcfbkickiijjkaaGreatDoorKRecoverTop
namespace Go.Proofs.YtcfbkickiijjkaaGreatDoor
open Go.RowKit
set_option linter.unusedVariables false
set_option linter.unusedSimpArgs false
theorem lay3 (w : World) (a b c : Value) (t : TypeId) : ∃ w0, w0 = w.alloc (.cells #[a, b, c] t) ∧ Below w.heap.size w w0 ∧ Hid (w0.heap[w.heap.size]? = some (.cells #[a, b, c] t (0, 0))) ∧ w0.heap.size = w.heap.size + 1 :=
  ⟨_, rfl, bl_alloc (Below.refl _ _) _, Lib.hid (heap_alloc_new w _), by simp⟩
theorem lay5 (w : World) (a b c d e : Value) (t : TypeId) : ∃ w0, w0 = w.alloc (.cells #[a, b, c, d, e] t) ∧ Below w.heap.size w w0 ∧ Hid (w0.heap[w.heap.size]? = some (.cells #[a, b, c, d, e] t (0, 0))) ∧ w0.heap.size = w.heap.size + 1 :=
  ⟨_, rfl, bl_alloc (Below.refl _ _) _, Lib.hid (heap_alloc_new w _), by simp⟩
theorem wr64 {x : Int} (h1 : -9223372036854775808 ≤ x) (h2 : x ≤ 9223372036854775807) : IntKind.i64.wrap x = x := IntWalk.i64_in _ ⟨h1, h2⟩
noncomputable def nxB (a b l : List UInt8) : Bool := rvOk a b l && decide (fGn a b l ≠ 100000)
noncomputable def nxS (a b l : List UInt8) : List UInt8 := if nxB a b l = true then snapT (fGn a b l + 1) (fX a b l) else []
theorem nx_f {a b l : List UInt8} (h : nxB a b l = false) : nxS a b l = [] := if_neg (by rw [h]; simp)
theorem nx_t {a b l : List UInt8} (h : nxB a b l = true) : nxS a b l = snapT (fGn a b l + 1) (fX a b l) := if_pos h
theorem fGn_bd (a b l : List UInt8) : 0 ≤ fGn a b l ∧ fGn a b l ≤ 100000 := by
  unfold fGn
  split
  · rename_i h
    exact (rv_start h).2
  · omega
theorem fX_items (a b l : List UInt8) : ItemsOk (fX a b l) := storeP.okI fun x hx => by
  obtain ⟨j, hj⟩ := List.mem_iff_getElem?.1 hx
  exact storeP.item (fX_store a b l) hj
theorem nxS_len (a b l : List UInt8) : (nxS a b l).length ≤ 1000000000 := by
  unfold nxS
  split
  · rename_i h
    have hs := fX_store a b l
    have hg := fGn_bd a b l
    have h1 : fGn a b l ≠ 100000 := by
      unfold nxB at h
      rw [Bool.and_eq_true, decide_eq_true_eq] at h
      exact h.2
    have h2 := snapBody_len (g := fGn a b l + 1) (xs := fX a b l) (fX a b l).length (by omega) (by omega) hs.2 (hs.put_len (fX_items a b l))
    have h3 := sumOf_bd (snapBody (fGn a b l + 1) (fX a b l) (fX a b l).length)
    have h4 := numT_len (M := 100000) h3.1 (by omega)
    unfold snapT
    simp only [List.length_append, List.length_cons, List.length_nil]
    omega
  · simp
def SnPost (a b l : List UInt8) (w : World) (e : Ending) (w' : World) : Prop :=
  ∃ v g sc n bt, e = .returned (.tuple #[strV (nxS a b l), .agg #[v, .int .i64 g, .bool sc, .int .i64 n, .int .i64 bt], .bool (nxB a b l)]) ∧ (nxB a b l = true → sc = fSc a b l) ∧ (∃ A m c, v = .slice A m c) ∧ Below w.heap.size w w'
set_option maxRecDepth 100000 in
set_option maxHeartbeats 1000000 in
theorem spec_srNext (a b lg : ByteArray) (w : World) (ha : a.size ≤ 1048576) (hb : b.size ≤ 1048576) (hl : lg.size ≤ 1048576) :
  Calls Tryz.prog 24 #[.agg #[.string a, .string b, .string lg]] w (SnPost a.data.toList b.data.toList lg.data.toList w) := by
 have J := Lib.hid (fun (W : World) => spec_srRecover a b lg W ha hb hl)
 unfold RvsPost at J
 have hG := fGn_bd a.data.toList b.data.toList lg.data.toList
 have HST := Lib.hid (And.intro (fX_items a.data.toList b.data.toList lg.data.toList) (fX_store a.data.toList b.data.toList lg.data.toList))
 have HB := Lib.hid (show nxB a.data.toList b.data.toList lg.data.toList = (rvOk a.data.toList b.data.toList lg.data.toList && decide (fGn a.data.toList b.data.toList lg.data.toList ≠ 100000)) from rfl)
 have HF := Lib.hid (fun h => nx_f (a := a.data.toList) (b := b.data.toList) (l := lg.data.toList) h)
 have HT := Lib.hid (fun h => nx_t (a := a.data.toList) (b := b.data.toList) (l := lg.data.toList) h)
 unfold SnPost
 generalize nxB a.data.toList b.data.toList lg.data.toList = nb at *
 generalize nxS a.data.toList b.data.toList lg.data.toList = ns at *
 generalize fX a.data.toList b.data.toList lg.data.toList = X at *
 generalize fGn a.data.toList b.data.toList lg.data.toList = G at *
 generalize fNn a.data.toList b.data.toList lg.data.toList = N at *
 generalize fBy a.data.toList b.data.toList lg.data.toList = Bt at *
 generalize fSc a.data.toList b.data.toList lg.data.toList = S at *
 generalize rvOk a.data.toList b.data.toList lg.data.toList = ok at *
 obtain ⟨w0, hw0, hb0, HD0, hs0⟩ := lay3 w (.string a) (.string b) (.string lg) 25
 obtain ⟨w1, hw1, hb1, HZ0, hs1⟩ := lay5 w0 (.slice none 0 0) (.int .i64 0) (.bool false) (.int .i64 0) (.int .i64 0) 60
 have hB := bl_trans hb0 hb1
 replace HD0 := bk HD0 hb1
 rw [hs0] at HZ0
 have HW0 := Lib.hid hw0; clear hw0
 have HW1 := Lib.hid hw1; clear hw1
 have hlt1 : w.heap.size + 1 < w1.heap.size := by omega
 clear hs0 hs1 hb0 hb1
 go_enter Tryz.func24, Tryz.ntmps24
 go_wp2_with fail
 rw [← HW0.out, ← HW1.out]
 refine (J.out w1).mono ?_
 rintro e w2 ⟨v, bs, rfl, ho, hn, hr, hb2⟩
 have hz2 := hb2.size
 replace hB := bl_trans hB hb2
 replace HD0 := bk HD0 hb2
 replace HZ0 := bk HZ0 hb2
 obtain ⟨Av, mv, cv, rfl⟩ := ho.isSlice
 obtain ⟨w3, hw3, hb3, HX0, hs3⟩ := lay5 w2 (.slice Av mv cv) (.int .i64 G) (.bool S) (.int .i64 (N : Int)) (.int .i64 (Bt : Int)) 60
 have Ov := Lib.hid ((ho.reads (B := w2.heap.size) (fun x hx => (hr x hx).2)).up hb3)
 replace hB := bl_trans hB hb3
 replace HD0 := bk HD0 hb3
 replace HZ0 := bk HZ0 hb3
 have hlt3 : w2.heap.size < w3.heap.size := by omega
 clear ho hn hr hs3
 obtain ⟨z0, z1, z2, z3, z4, zf⟩ := cells5 HZ0
 obtain ⟨x0, x1, x2, x3, x4, xf⟩ := cells5 HX0
 have HW3 := Lib.hid hw3
 rw [hw3] at z0 z1 z2 z3 z4 zf x0 x1 x2 x3 x4 xf
 clear hw3
 cases ok with
 | false =>
  have HN := Lib.hid (show nb = false by rw [HB.out]; rfl)
  obtain ⟨y0, y1, y2, y3, y4, yf⟩ := cells5 HZ0
  go_wp2_with fail
  rw [← HW3.out]
  refine bodyPost_ret (v := .tuple #[.string ⟨#[]⟩, .agg #[.slice none 0 0, .int .i64 0, .bool false, .int .i64 0, .int .i64 0], .bool false]) (by simp [results, Tryz.results24, go_sem, y0, y1, y2, y3, y4]) rfl ⟨.slice none 0 0, 0, false, 0, 0, by rw [HF.out HN.out, HN.out]; first | done | rfl, (fun h => by rw [HN.out] at h; cases h), ⟨_, _, _, rfl⟩, ?_⟩
  iterate 5 (refine Below.setCell ?_ (by simp <;> omega) _)
  exact hB
 | true =>
  by_cases hg : G = 100000
  ·
   subst hg
   have HN := Lib.hid (show nb = false by rw [HB.out]; rfl)
   obtain ⟨y0, y1, y2, y3, y4, yf⟩ := cells5 HZ0
   go_wp2_with fail
   rw [← HW3.out]
   refine bodyPost_ret (v := .tuple #[.string ⟨#[]⟩, .agg #[.slice none 0 0, .int .i64 0, .bool false, .int .i64 0, .int .i64 0], .bool false]) (by simp [results, Tryz.results24, go_sem, y0, y1, y2, y3, y4]) rfl ⟨.slice none 0 0, 0, false, 0, 0, by rw [HF.out HN.out, HN.out]; first | done | rfl, (fun h => by rw [HN.out] at h; cases h), ⟨_, _, _, rfl⟩, ?_⟩
   iterate 5 (refine Below.setCell ?_ (by simp <;> omega) _)
   exact hB
  ·
   have HN := Lib.hid (show nb = true by rw [HB.out]; simp [hg])
   have kq : (G == 100000) = false := by simpa using hg
   have hg1 : 0 ≤ G + 1 ∧ G + 1 ≤ 100000 := by omega
   have hwr : IntKind.i64.wrap (G + 1) = G + 1 := wr64 (by omega) (by omega)
   clear hg
   go_wp2_with fail
   rw [← HW3.out]
   clear z0 z1 z2 z3 z4 zf x0 x1 x2 x3 x4 xf
   obtain ⟨x0, x1, x2, x3, x4, xf⟩ := cells5 HX0
   refine wp_region_held_drew (S := fun w' => w'.cell? ⟨w2.heap.size, 0, none⟩ = some (.slice Av mv cv) ∧ w'.cell? ⟨w2.heap.size, 1, none⟩ = some (.int .i64 G) ∧ w'.cell? ⟨w2.heap.size, 2, none⟩ = some (.bool S) ∧ w'.cell? ⟨w2.heap.size, 3, none⟩ = some (.int .i64 (N : Int)) ∧ w'.cell? ⟨w2.heap.size, 4, none⟩ = some (.int .i64 (Bt : Int))) (by kernel_rfl) ?_ (fun hHeld => ?_)
   ·
    go_keep
   refine tk 0 20 rfl rfl ?_
   try simp only [Act.put, pu]
   refine tk 1 21 rfl rfl ?_
   try simp only [Act.put, pu]
   refine tk 2 22 rfl rfl ?_
   try simp only [Act.put, pu]
   refine tk 3 23 rfl rfl ?_
   try simp only [Act.put, pu]
   refine tk 4 24 rfl rfl ?_
   try simp only [Act.put, pu]
   refine tk 6 26 rfl rfl ?_
   try simp only [Act.put, pu]
   refine take_ready 5 rfl (by kernel_rfl) (fun K hK => ?_)
   go_simp
   go_at_call 42
   have hd : Below w3.heap.size w3 w3.drew := (Below.refl _ _).drew
   refine (spec_srSnapshot _ X (G + 1) w3.drew (Ov.out.below hd) HST.out.1 HST.out.2 hg1.1 hg1.2).mono ?_
   rintro e w4 ⟨rfl, hb4'⟩
   have hb4 : Below w3.heap.size w3 w4 := hd.trans hb4'
   have hz4 := hb4.size
   replace hB := bl_trans hB hb4
   replace HX0 := bk HX0 hb4
   replace HZ0 := bk HZ0 hb4
   clear x0 x1 x2 x3 x4 xf hd hb4'
   obtain ⟨x0, x1, x2, x3, x4, xf⟩ := cells5 HX0
   obtain ⟨y0, y1, y2, y3, y4, yf⟩ := cells5 HZ0
   refine hK.out _ _ ?_ (fun hHeld => ?_)
   ·
    go_keep
   clear hK K
   try simp only [Act.put, pu]
   refine tk 7 2 rfl rfl ?_
   try simp only [Act.put, pu]
   refine take_ready 8 rfl (by kernel_rfl) (fun K hK => ?_)
   go_simp
   refine hK.out _ _ ?_ (fun hHeld => ?_)
   ·
    refine ⟨?_, ?_, ?_, ?_, ?_⟩ <;> (refine (World.cell?_of_block ?_).trans (by assumption); iterate 5 rw [Below.heap_setCell _ _ _ _ (by simp; omega)])
   clear hK K
   try simp only [Act.put, pu]
   refine tk 9 4 rfl rfl ?_
   try simp only [Act.put, pu]
   refine wpAnyH_done (by kernel_rfl) ?_ _
   go_wp2_with fail
   refine bodyPost_ret (v := .tuple #[strV (snapT (G + 1) X), .agg #[.slice Av mv cv, .int .i64 G, .bool S, .int .i64 (N : Int), .int .i64 (Bt : Int)], .bool true]) (by simp [results, Tryz.results24, go_sem, y0, y1, y2, y3, y4]) rfl ⟨.slice Av mv cv, G, S, N, Bt, by rw [HT.out HN.out, HN.out], fun _ => rfl, ⟨_, _, _, rfl⟩, ?_⟩
   iterate 5 (refine Below.setCell ?_ (by simp <;> omega) _)
   exact hB
def dOf (ok sc : Bool) (a b z t : ByteArray) : ByteArray × ByteArray × ByteArray := if ok = true then (if sc = true then t else a, if sc = true then b else t, z) else (⟨#[]⟩, ⟨#[]⟩, ⟨#[]⟩)
abbrev diskV (d : ByteArray × ByteArray × ByteArray) : Value := disk d.1 d.2.1 d.2.2
theorem dOf_f {ok sc : Bool} {a b z t : ByteArray} (h : ok = false) : diskV (dOf ok sc a b z t) = disk ⟨#[]⟩ ⟨#[]⟩ ⟨#[]⟩ := by unfold dOf; rw [h]; rfl
theorem dOf_t {ok sc : Bool} {a b z t : ByteArray} (h : ok = true) : diskV (dOf ok sc a b z t) = disk (if sc = true then t else a) (if sc = true then b else t) z := by unfold dOf; rw [h]; rfl
theorem spec_srPut (a b lg : ByteArray) (A : Option Addr) (m c : Nat) (g n bt : Int) (sc : Bool) (x : ByteArray) (w : World) :
    Calls Tryz.prog 26 #[.agg #[.string a, .string b, .string lg], .agg #[.slice A m c, .int .i64 g, .bool sc, .int .i64 n, .int .i64 bt], .string x] w fun e w' => e = .returned (disk (if sc = true then x else a) (if sc = true then b else x) lg) ∧ Below w.heap.size w w' := by
  cases sc with
  | true =>
    go_enter Tryz.func26, Tryz.ntmps26
    go_wp2
    refine bodyPost_ret (v := disk x b lg) (by simp [results, Tryz.results26, go_sem]) rfl ⟨rfl, ?_⟩
    repeat (first | exact Below.refl _ _ | refine Below.drew ?_ | refine bl_alloc ?_ _ | refine Below.setCell ?_ (by simp <;> omega) _)
  | false =>
    go_enter Tryz.func26, Tryz.ntmps26
    go_wp2
    refine bodyPost_ret (v := disk a x lg) (by simp [results, Tryz.results26, go_sem]) rfl ⟨rfl, ?_⟩
    repeat (first | exact Below.refl _ _ | refine Below.drew ?_ | refine bl_alloc ?_ _ | refine Below.setCell ?_ (by simp <;> omega) _)
theorem ret_disk {v v' : Value} {a b : Bool} (h : v = v') (h' : a = b) : Ending.returned (.tuple #[v, .bool a]) = .returned (.tuple #[v', .bool b]) := by rw [h, h']
set_option maxRecDepth 100000 in
theorem spec_CompactLab (a b lg : ByteArray) (w : World) (ha : a.size ≤ 1048576) (hb : b.size ≤ 1048576) (hl : lg.size ≤ 1048576) :
  Calls Tryz.prog 12 #[disk a b lg] w fun e w' => e = .returned (.tuple #[diskV (dOf (nxB a.data.toList b.data.toList lg.data.toList) (fSc a.data.toList b.data.toList lg.data.toList) a b ⟨#[]⟩ ⟨(nxS a.data.toList b.data.toList lg.data.toList).toArray⟩), .bool (nxB a.data.toList b.data.toList lg.data.toList)]) ∧ Below w.heap.size w w' := by
 have J := Lib.hid (fun (W : World) => spec_srNext a b lg W ha hb hl)
 unfold SnPost at J
 generalize nxB a.data.toList b.data.toList lg.data.toList = nb at *
 generalize nxS a.data.toList b.data.toList lg.data.toList = ns at *
 generalize fSc a.data.toList b.data.toList lg.data.toList = S at *
 unfold strV at J
 generalize ByteArray.mk ns.toArray = T at *
 have HDF := Lib.hid (fun h => dOf_f (ok := nb) (sc := S) (a := a) (b := b) (z := ⟨#[]⟩) (t := T) h)
 have HDT := Lib.hid (fun h => dOf_t (ok := nb) (sc := S) (a := a) (b := b) (z := ⟨#[]⟩) (t := T) h)
 generalize diskV (dOf nb S a b ⟨#[]⟩ T) = R at *
 obtain ⟨w0, hw0, hb0, HD0, hs0⟩ := lay3 w (.string a) (.string b) (.string lg) 25
 obtain ⟨w1, hw1, hb1, HZ0, hs1⟩ := lay3 w0 (.string ⟨#[]⟩) (.string ⟨#[]⟩) (.string ⟨#[]⟩) 25
 have hB := bl_trans hb0 hb1
 replace HD0 := bk HD0 hb1
 rw [hs0] at HZ0
 have HW0 := Lib.hid hw0; clear hw0
 have HW1 := Lib.hid hw1; clear hw1
 have hlt1 : w.heap.size + 1 < w1.heap.size := by omega
 clear hs0 hs1 hb0 hb1
 go_enter Tryz.func12, Tryz.ntmps12
 go_wp2_with fail
 rw [← HW0.out, ← HW1.out]
 refine (J.out w1).mono ?_
 rintro e w2 ⟨v, g, sc, n, bt, rfl, hsc, ⟨Av, mv, cv, rfl⟩, hb2⟩
 have hz2 := hb2.size
 replace hB := bl_trans hB hb2
 replace HD0 := bk HD0 hb2
 replace HZ0 := bk HZ0 hb2
 obtain ⟨w3, hw3, hb3, HX0, hs3⟩ := lay5 w2 (.slice Av mv cv) (.int .i64 g) (.bool sc) (.int .i64 n) (.int .i64 bt) 60
 replace hB := bl_trans hB hb3
 replace HD0 := bk HD0 hb3
 replace HZ0 := bk HZ0 hb3
 have hlt3 : w2.heap.size < w3.heap.size := by omega
 clear hs3
 obtain ⟨z0, z1, z2, zf⟩ := cells3 HZ0
 obtain ⟨d0, d1, d2, df⟩ := cells3 HD0
 obtain ⟨x0, x1, x2, x3, x4, xf⟩ := cells5 HX0
 have HW3 := Lib.hid hw3
 cases nb with
 | false =>
  clear d0 d1 d2 df x0 x1 x2 x3 x4 xf
  obtain ⟨y0, y1, y2, yf⟩ := cells3 HZ0
  rw [hw3] at z0 z1 z2 zf
  clear hw3
  go_wp2_with fail
  rw [← HW3.out]
  refine bodyPost_ret (v := .tuple #[disk ⟨#[]⟩ ⟨#[]⟩ ⟨#[]⟩, .bool false]) (by simp [results, Tryz.results12, go_sem, y0, y1, y2]) rfl ⟨ret_disk (HDF.out (by first | rfl | trivial)).symm rfl, ?_⟩
  iterate 3 (refine Below.setCell ?_ (by simp <;> omega) _)
  exact hB
 | true =>
  obtain rfl := hsc rfl
  have HR := Lib.hid (HDT.out rfl)
  clear HDF HDT
  rw [hw3] at d0 d1 d2 df x0 x1 x2 x3 x4 xf z0 z1 z2 zf
  clear hw3
  go_wp2_with fail
  rw [← HW3.out]
  refine (spec_srPut a b lg Av mv cv g n bt sc T w3).mono ?_
  rintro e w4 ⟨rfl, hb4⟩
  have hz4 := hb4.size
  replace hB := bl_trans hB hb4
  replace HZ0 := bk HZ0 hb4
  generalize (if sc = true then T else a) = p at *
  generalize (if sc = true then b else T) = q at *
  clear z0 z1 z2 zf d0 d1 d2 df x0 x1 x2 x3 x4 xf
  obtain ⟨y0, y1, y2, yf⟩ := cells3 HZ0
  obtain ⟨w5, hw5, hb5, HO0, hs5⟩ := lay3 w4 (.string p) (.string q) (.string ⟨#[]⟩) 25
  replace hB := bl_trans hB hb5
  replace HZ0 := bk HZ0 hb5
  have hlt5 : w4.heap.size < w5.heap.size := by omega
  clear hs5
  obtain ⟨z0, z1, z2, zf⟩ := cells3 HZ0
  obtain ⟨o0, o1, o2, of⟩ := cells3 HO0
  have HW5 := Lib.hid hw5
  rw [hw5] at z0 z1 z2 zf o0 o1 o2 of
  clear hw5
  go_wp2_with fail
  rw [← HW5.out]
  obtain ⟨y0, y1, y2, yf⟩ := cells3 HZ0
  refine bodyPost_ret (v := .tuple #[disk p q ⟨#[]⟩, .bool true]) (by simp [results, Tryz.results12, go_sem, y0, y1, y2]) rfl ⟨ret_disk HR.out.symm rfl, ?_⟩
  iterate 3 (refine Below.setCell ?_ (by simp <;> omega) _)
  exact hB
set_option maxRecDepth 100000 in
theorem spec_TornCompact (a b lg : ByteArray) (k : Int) (w : World) (ha : a.size ≤ 1048576) (hb : b.size ≤ 1048576) (hl : lg.size ≤ 1048576) :
  Calls Tryz.prog 8 #[disk a b lg, .int .i64 k] w fun e w' => e = .returned (.tuple #[diskV (dOf (nxB a.data.toList b.data.toList lg.data.toList && inB k 0 (nxS a.data.toList b.data.toList lg.data.toList).length) (fSc a.data.toList b.data.toList lg.data.toList) a b lg ⟨((nxS a.data.toList b.data.toList lg.data.toList).take k.toNat).toArray⟩), .bool (nxB a.data.toList b.data.toList lg.data.toList && inB k 0 (nxS a.data.toList b.data.toList lg.data.toList).length)]) ∧ Below w.heap.size w w' := by
 have J := Lib.hid (fun (W : World) => spec_srNext a b lg W ha hb hl)
 unfold SnPost at J
 have hnl := nxS_len a.data.toList b.data.toList lg.data.toList
 generalize nxB a.data.toList b.data.toList lg.data.toList = nb at *
 generalize nxS a.data.toList b.data.toList lg.data.toList = ns at *
 generalize fSc a.data.toList b.data.toList lg.data.toList = S at *
 have HDF := Lib.hid (fun h => dOf_f (ok := nb && inB k 0 ns.length) (sc := S) (a := a) (b := b) (z := lg) (t := ⟨(ns.take k.toNat).toArray⟩) h)
 have HDT := Lib.hid (fun h => dOf_t (ok := nb && inB k 0 ns.length) (sc := S) (a := a) (b := b) (z := lg) (t := ⟨(ns.take k.toNat).toArray⟩) h)
 generalize diskV (dOf (nb && inB k 0 ns.length) S a b lg ⟨(ns.take k.toNat).toArray⟩) = R at *
 obtain ⟨w0, hw0, hb0, HD0, hs0⟩ := lay3 w (.string a) (.string b) (.string lg) 25
 obtain ⟨w1, hw1, hb1, HZ0, hs1⟩ := lay3 w0 (.string ⟨#[]⟩) (.string ⟨#[]⟩) (.string ⟨#[]⟩) 25
 have hB := bl_trans hb0 hb1
 replace HD0 := bk HD0 hb1
 rw [hs0] at HZ0
 have HW0 := Lib.hid hw0; clear hw0
 have HW1 := Lib.hid hw1; clear hw1
 have hlt1 : w.heap.size + 1 < w1.heap.size := by omega
 clear hs0 hs1 hb0 hb1
 go_enter Tryz.func8, Tryz.ntmps8
 go_wp2_with fail
 rw [← HW0.out, ← HW1.out]
 refine (J.out w1).mono ?_
 rintro e w2 ⟨v, g, sc, n, bt, rfl, hsc, ⟨Av, mv, cv, rfl⟩, hb2⟩
 have hz2 := hb2.size
 replace hB := bl_trans hB hb2
 replace HD0 := bk HD0 hb2
 replace HZ0 := bk HZ0 hb2
 obtain ⟨w3, hw3, hb3, HX0, hs3⟩ := lay5 w2 (.slice Av mv cv) (.int .i64 g) (.bool sc) (.int .i64 n) (.int .i64 bt) 60
 replace hB := bl_trans hB hb3
 replace HD0 := bk HD0 hb3
 replace HZ0 := bk HZ0 hb3
 have hlt3 : w2.heap.size < w3.heap.size := by omega
 clear hs3
 have HW3 := Lib.hid hw3
 obtain ⟨T, hT⟩ : ∃ T : ByteArray, T = ⟨ns.toArray⟩ := ⟨_, rfl⟩
 have hTs : T.size = ns.length := by rw [hT, Lib.size_eq]
 have HTS := Lib.hid hTs
 have HTE := Lib.hid hT
 have hT' : strV ns = .string T := by rw [hT]; rfl
 rw [hT']
 rw [← hTs] at hnl
 clear hT hTs hT'
 cases nb with
 | false =>
  obtain ⟨z0, z1, z2, zf⟩ := cells3 HZ0
  obtain ⟨y0, y1, y2, yf⟩ := cells3 HZ0
  rw [hw3] at z0 z1 z2 zf
  clear hw3
  go_wp2_with fail
  rw [← HW3.out]
  refine bodyPost_ret (v := .tuple #[disk ⟨#[]⟩ ⟨#[]⟩ ⟨#[]⟩, .bool false]) (by simp [results, Tryz.results8, go_sem, y0, y1, y2]) rfl ⟨ret_disk (HDF.out (by first | rfl | trivial)).symm rfl, ?_⟩
  iterate 3 (refine Below.setCell ?_ (by simp <;> omega) _)
  exact hB
 | true =>
  obtain rfl := hsc rfl
  cases hk : inB k 0 (ns.length : Int) with
  | false =>
   have HN := Lib.hid (show (true && inB k 0 (ns.length : Int)) = false by rw [hk]; rfl)
   have hk2 : inB k 0 (T.size : Int) = false := by rw [HTS.out]; exact hk
   clear hk
   obtain ⟨z0, z1, z2, zf⟩ := cells3 HZ0
   obtain ⟨y0, y1, y2, yf⟩ := cells3 HZ0
   rw [hw3] at z0 z1 z2 zf
   clear hw3
   go_wp2_with (go_at_call 25; refine (spec_l1In _ _ _ _).mono ?_; rintro e w' ⟨rfl, rfl⟩)
   rw [← HW3.out]
   refine bodyPost_ret (v := .tuple #[disk ⟨#[]⟩ ⟨#[]⟩ ⟨#[]⟩, .bool false]) (by simp [results, Tryz.results8, go_sem, y0, y1, y2]) rfl ⟨ret_disk (HDF.out (by first | rfl | trivial | exact HN.out)).symm HN.out.symm, ?_⟩
   iterate 3 (refine Below.setCell ?_ (by simp <;> omega) _)
   exact hB
  | true =>
   have hk0 : 0 ≤ k ∧ k ≤ (T.size : Int) := by rw [HTS.out]; unfold inB at hk; have := of_decide_eq_true hk; omega
   have HN := Lib.hid (show (true && inB k 0 (ns.length : Int)) = true by rw [hk]; rfl)
   have hk2 : inB k 0 (T.size : Int) = true := by rw [HTS.out]; exact hk
   have HR := Lib.hid (HDT.out (by first | rfl | trivial | exact HN.out))
   clear hk HDF HDT
   obtain ⟨kn, rfl⟩ : ∃ kn : Nat, k = kn := ⟨k.toNat, by omega⟩
   have HEX := Lib.hid (show T.extract 0 kn = ⟨(ns.take (kn : Int).toNat).toArray⟩ by
    have h := extract_strV T 0 kn
    rw [List.drop_zero, show T.data.toList = ns by rw [HTE.out]] at h
    rw [Int.toNat_natCast]
    exact Value.string.inj h)
   go_wp2_with (go_at_call 25; refine (spec_l1In _ _ _ _).mono ?_; rintro e w' ⟨rfl, rfl⟩)
   rw [← HW3.out]
   clear hw3
   obtain ⟨d0, d1, d2, df⟩ := cells3 HD0
   obtain ⟨x0, x1, x2, x3, x4, xf⟩ := cells5 HX0
   refine wp_region_held_drew (S := fun w' => w'.cell? ⟨w.heap.size, 0, none⟩ = some (.string a) ∧ w'.cell? ⟨w.heap.size, 1, none⟩ = some (.string b) ∧ w'.cell? ⟨w.heap.size, 2, none⟩ = some (.string lg) ∧ w'.cell? ⟨w2.heap.size, 0, none⟩ = some (.slice Av mv cv) ∧ w'.cell? ⟨w2.heap.size, 1, none⟩ = some (.int .i64 g) ∧ w'.cell? ⟨w2.heap.size, 2, none⟩ = some (.bool sc) ∧ w'.cell? ⟨w2.heap.size, 3, none⟩ = some (.int .i64 n) ∧ w'.cell? ⟨w2.heap.size, 4, none⟩ = some (.int .i64 bt)) (by kernel_rfl) ?_ (fun hHeld => ?_)
   ·
    go_keep
   refine tk 0 25 rfl rfl ?_
   try simp only [Act.put, pu]
   refine tk 1 26 rfl rfl ?_
   try simp only [Act.put, pu]
   refine tk 2 27 rfl rfl ?_
   try simp only [Act.put, pu]
   refine tk 3 28 rfl rfl ?_
   try simp only [Act.put, pu]
   refine tk 4 29 rfl rfl ?_
   try simp only [Act.put, pu]
   refine take_ready 5 rfl (by kernel_rfl) (fun K hK => ?_)
   go_simp
   go_at_call 26
   refine (spec_srPut a b lg Av mv cv g n bt sc _ w3.drew).mono ?_
   rintro e w4 ⟨rfl, hb4'⟩
   have hb4 : Below w3.heap.size w3 w4 := (show Below w3.heap.size w3 w3.drew from (Below.refl _ _).drew).trans hb4'
   have hz4 := hb4.size
   replace hB := bl_trans hB hb4
   replace HX0 := bk HX0 hb4
   replace HD0 := bk HD0 hb4
   replace HZ0 := bk HZ0 hb4
   rw [HEX.out]
   have HR2 := Lib.hid HR.out; clear HR
   generalize ByteArray.mk (ns.take (kn : Int).toNat).toArray = U at *
   generalize (if sc = true then U else a) = p at *
   generalize (if sc = true then b else U) = q at *
   clear d0 d1 d2 df x0 x1 x2 x3 x4 xf hb4'
   obtain ⟨d0, d1, d2, df⟩ := cells3 HD0
   obtain ⟨x0, x1, x2, x3, x4, xf⟩ := cells5 HX0
   obtain ⟨y0, y1, y2, yf⟩ := cells3 HZ0
   refine hK.out _ _ ?_ (fun hHeld => ?_)
   ·
    go_keep
   clear hK K
   try simp only [Act.put, pu]
   refine take_ready 6 rfl (by kernel_rfl) (fun K hK => ?_)
   go_simp
   refine hK.out _ _ ?_ (fun hHeld => ?_)
   ·
    refine ⟨?_, ?_, ?_, ?_, ?_, ?_, ?_, ?_⟩ <;> (refine (World.cell?_of_block ?_).trans (by assumption); iterate 3 rw [Below.heap_setCell _ _ _ _ (by simp <;> omega)])
   clear hK K
   try simp only [Act.put, pu]
   refine tk 7 5 rfl rfl ?_
   try simp only [Act.put, pu]
   refine wpAnyH_done (by kernel_rfl) ?_ _
   go_wp2_with fail
   refine bodyPost_ret (v := .tuple #[disk p q lg, .bool true]) (by simp [results, Tryz.results8, go_sem, y0, y1, y2]) rfl ⟨ret_disk HR2.out.symm HN.out.symm, ?_⟩
   iterate 3 (refine Below.setCell ?_ (by simp <;> omega) _)
   exact hB
end Go.Proofs.YtcfbkickiijjkaaGreatDoor
