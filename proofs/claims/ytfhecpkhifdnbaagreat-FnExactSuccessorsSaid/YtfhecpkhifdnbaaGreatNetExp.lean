/-
  Networks, the program's side: an explorer of a rule's situations; how many there are.
-/
import Derived.Test.YtfhecpkhifdnbaaGreatNetCnts
namespace Go.Proofs.YtfhecpkhifdnbaaGreat
open Go.RowKit
set_option linter.unusedVariables false
set_option linter.unusedSimpArgs false
/-- What newExplorer hands back: nothing where the rule does not run; else an explorer in a block of its own. -/
def ExAt (w w' : World) (ve vi vn : Value) (n : Net) (r : Int) (G : Nat) : Prop := ∃ A m c a b, w'.heap[G]? = some (.cells #[ve, vi, vn, .int .i64 r, .int .i64 1, .slice A m c, .int .i64 (sitG (cnts n r) 1), a, b] 104 (0, 0)) ∧ w.heap.size ≤ G ∧ IntsR w' w'.heap.size (.slice A m c) (cnts n r)
def ExPost (ve vi vn : Value) (n : Net) (r : Int) (w : World) (e : Ending) (w' : World) : Prop :=
  Below w.heap.size w w' ∧ ((askB n r = false ∧ e = .returned (.tuple #[.pointer none, .bool false])) ∨
    (askB n r = true ∧ ∃ G, e = .returned (.tuple #[.pointer (some ⟨G, 0, none⟩), .bool (decide (0 < sitG (cnts n r) 1))]) ∧ ExAt w w' ve vi vn n r G))
set_option maxRecDepth 100000 in
theorem impl_newExplorer (ve vi vn : Value) (n : Net) (r : Int) (w : World) (h : NetR w w.heap.size ve vi vn n) (hz : n.es.length ≤ 2000000) (hzi : n.ids.length ≤ 2000000) :
    Calls Tryz.prog 52 #[.agg #[ve, vi, vn], .int .i64 r, .int .i64 1] w (ExPost ve vi vn n r w) := by
  obtain ⟨⟨A0, m0, c0, rfl⟩, ⟨A1, m1, c1, rfl⟩, A2, m2, c2, rfl⟩ := h.slices
  obtain ⟨w0, hw0, hB, HD, hz0, HS0⟩ := box3 w (.slice A0 m0 c0) (.slice A1 m1 c1) (.slice A2 m2 c2) 31
  have HN0 := Lib.hid h; have HN := Lib.hid (h.up hB); clear h
  have HW0 := Lib.hid hw0; clear hw0
  obtain ⟨q0, q1, q2, qf⟩ := cells3 HD
  go_enter Tryz.func52, Tryz.ntmps52
  go_wp2_with fail
  rw [← HW0.out]
  refine (impl_ruleOk _ _ _ n r w0 HN.out hz hzi).mono ?_
  rintro e w1 ⟨rfl, hb1⟩
  have hzhb1 := hb1.size
  clear q0 q1 q2 qf
  replace HD := bk HD hb1
  replace HN := Lib.hid (HN.out.up hb1)
  replace hB := bl_trans hB hb1
  obtain ⟨q0, q1, q2, qf⟩ := cells3 HD
  cases h1 : askB n r with
  | false =>
    go_wp2_with fail
    go_ret2
    exact ⟨hB, .inl ⟨h1, rfl⟩⟩
  | true =>
    have HP := Lib.hid (askB_net h1)
    have HC := Lib.hid (cnts_bd HP.out r)
    go_wp2_with fail
    refine (impl_isDaemon1 _ _ _ n w1 HN.out).mono ?_
    rintro e w2 ⟨rfl, hb2⟩
    have hzhb2 := hb2.size
    clear q0 q1 q2 qf
    replace HD := bk HD hb2
    replace HN := Lib.hid (HN.out.up hb2)
    replace hB := bl_trans hB hb2
    obtain ⟨q0, q1, q2, qf⟩ := cells3 HD
    go_wp2_with fail
    refine wp_region_held_drew (S := fun w' => w'.cell? ⟨w.heap.size, 0, none⟩ = some (.slice A0 m0 c0) ∧ w'.cell? ⟨w.heap.size, 1, none⟩ = some (.slice A1 m1 c1) ∧ w'.cell? ⟨w.heap.size, 2, none⟩ = some (.slice A2 m2 c2)) (by kernel_rfl) ?_ (fun hHeld => ?_)
    · go_keep
    refine tk 0 19 rfl rfl ?_
    try simp only [Act.put, pu]
    refine tk 1 20 rfl rfl ?_
    try simp only [Act.put, pu]
    refine tk 2 21 rfl rfl ?_
    try simp only [Act.put, pu]
    refine tk 3 22 rfl rfl ?_
    try simp only [Act.put, pu]
    refine tk 4 23 rfl rfl ?_
    try simp only [Act.put, pu]
    refine tr 5 rfl (by kernel_rfl) (fun K hK => ?_)
    go_simp
    go_at_call 99
    refine (impl_stateCounts _ _ _ n r w2.drew (HN.out.up (Below.refl _ _).drew) HP.out).mono ?_
    rintro e w3 ⟨u, rfl, ⟨A', m', c', rfl⟩, hu, hb3'⟩
    have hb3 : Below w2.heap.size w2 w3 := (Below.refl _ _).drew.trans hb3'
    clear hb3'
    have HU := Lib.hid hu; clear hu
    have hzhb3 := hb3.size
    clear q0 q1 q2 qf
    replace HD := bk HD hb3
    replace HN := Lib.hid (HN.out.up hb3)
    replace hB := bl_trans hB hb3
    obtain ⟨q0, q1, q2, qf⟩ := cells3 HD
    refine hK.out _ _ ?_ (fun hHeld => ?_)
    · go_keep
    clear hK K
    try simp only [Act.put, pu]
    refine tk 6 25 rfl rfl ?_
    try simp only [Act.put, pu]
    refine tr 7 rfl (by kernel_rfl) (fun K hK => ?_)
    go_simp
    obtain ⟨w4, hw4⟩ : ∃ z, z = w3.alloc (.cells #[.slice A0 m0 c0, .slice A1 m1 c1, .slice A2 m2 c2, .int .i64 r, .int .i64 1, .slice A' m' c', .int .i64 0, .slice none 0 0, .slice none 0 0] 104) := ⟨_, rfl⟩
    rw [← hw4]
    have hE : w4.heap[w3.heap.size]? = some (.cells #[.slice A0 m0 c0, .slice A1 m1 c1, .slice A2 m2 c2, .int .i64 r, .int .i64 1, .slice A' m' c', .int .i64 0, .slice none 0 0, .slice none 0 0] 104 (0, 0)) := by rw [hw4]; exact heap_alloc_new w3 _
    have hb4 : Below w3.heap.size w3 w4 := by rw [hw4]; exact bl_alloc (Below.refl _ _) _
    have hz34 : w3.heap.size < w4.heap.size := by rw [hw4]; simp
    have hGl : w.heap.size ≤ w3.heap.size := by omega
    clear hw4
    have HU4 := Lib.hid (IntsR.more (HU.out.below hb4) hb4.size)
    have hzhb4 := hb4.size
    clear q0 q1 q2 qf
    replace HD := bk HD hb4
    replace HN := Lib.hid (HN.out.up hb4)
    replace hB := bl_trans hB hb4
    obtain ⟨q0, q1, q2, qf⟩ := cells3 HD
    have g5 : w4.cell? ⟨w3.heap.size, 5, none⟩ = some (.slice A' m' c') := cell_of_row _ _ 5 _ _ (0, 0) hE
    have g6 : w4.cell? ⟨w3.heap.size, 6, none⟩ = some (.int .i64 0) := cell_of_row _ _ 6 _ _ (0, 0) hE
    have gf : ∀ i, w4.frozen? ⟨w3.heap.size, i, none⟩ = false := fun i => frozen_of_row _ _ i _ _ hE
    have HE := Lib.hid hE; clear hE
    refine hK.out _ _ ?_ (fun hHeld => ?_)
    · go_keep
    clear hK K
    try simp only [Act.put, pu]
    refine tk 8 8 rfl rfl ?_
    try simp only [Act.put, pu]
    refine wpAnyH_done (by kernel_rfl) ?_ _
    go_wp2_with fail
    refine (impl_situationCount _ (cnts n r) w4 HU4.out HC.out).mono ?_
    rintro e w5 ⟨rfl, rfl⟩
    obtain ⟨T, hT⟩ : ∃ z, z = sitG (cnts n r) 1 := ⟨_, rfl⟩
    rw [← hT]
    have HT := Lib.hid hT; clear hT
    obtain ⟨w5, hw5⟩ : ∃ z, z = w4.setCell ⟨w3.heap.size, 6, none⟩ (.int .i64 T) := ⟨_, rfl⟩
    obtain ⟨hB5, hk5, HE5, hz5, hz5'⟩ := setB hB hGl HE.out hw5
    have hb35 : Below w3.heap.size w3 w5 := by rw [hw5]; exact hb4.setCell (Nat.le_refl _) _
    have HU5 := Lib.hid (IntsR.more (HU.out.below hb35) hb35.size); clear HU hb35
    have HW5 := Lib.hid hw5; clear hw5
    have g6' : w5.cell? ⟨w3.heap.size, 6, none⟩ = some (.int .i64 T) := cell_of_row _ _ 6 _ _ (0, 0) HE5.out
    go_wp2_with fail
    rw [← HW5.out]
    clear g5 g6 gf q0 q1 q2 qf
    refine wp_region_held_drew (S := fun w' => w'.cell? ⟨w3.heap.size, 6, none⟩ = some (.int .i64 T)) (by kernel_rfl) ?_ (fun hHeld => ?_)
    · exact g6'
    refine tk 0 35 rfl rfl ?_
    try simp only [Act.put, pu]
    refine tk 1 36 rfl rfl ?_
    try simp only [Act.put, pu]
    refine tk 2 37 rfl rfl ?_
    try simp only [Act.put, pu]
    refine tk 3 38 rfl rfl ?_
    try simp only [Act.put, pu]
    refine tk 4 39 rfl rfl ?_
    try simp only [Act.put, pu]
    refine tk 5 40 rfl rfl ?_
    try simp only [Act.put, pu]
    refine tk 6 6 rfl rfl ?_
    try simp only [Act.put, pu]
    refine tk 7 7 rfl rfl ?_
    try simp only [Act.put, pu]
    refine wpAnyH_done (by kernel_rfl) ?_ _
    go_wp2_with fail
    go_ret2
    refine ⟨hB5.drew, .inr ⟨h1, w3.heap.size, by rw [← HT.out]; rfl, A', m', c', _, _, by rw [← HT.out]; exact HE5.out, hGl, HU5.out⟩⟩
theorem sit_eq {n : Net} {r : Int} (h : askB n r = true) : sitG (cnts n r) 1 = if capd (cnts n r) ≤ 3000 then capd (cnts n r) else 0 :=
  sit_cap (fun x hx => (cnts_bd (askB_net h) r x hx).1) (by omega) (by omega)
theorem cv_pos {n : Net} {r : Int} (h : askB n r = true) : cvB n r = decide (0 < sitG (cnts n r) 1) := by
  have hb := capd_bd fun x hx => (cnts_bd (askB_net h) r x hx).1
  rw [sit_eq h]
  unfold cvB
  rw [h]
  by_cases hc : capd (cnts n r) ≤ 3000
  · rw [if_pos hc, decide_eq_true hc, decide_eq_true (by omega)]
    rfl
  · rw [if_neg hc, decide_eq_false hc]
    rfl
theorem cv_no {n : Net} {r : Int} (h : askB n r = false) : cvB n r = false := by
  unfold cvB
  rw [h]
  rfl
theorem ct_sit {n : Net} {r : Int} (h : cvB n r = true) : ctN n r = sitG (cnts n r) 1 := by
  rw [ctN_t h]
  have ha : askB n r = true := by
    unfold cvB at h
    exact (Bool.and_eq_true_iff.1 h).1
  have hc : capd (cnts n r) ≤ 3000 := by
    unfold cvB at h
    exact of_decide_eq_true (Bool.and_eq_true_iff.1 h).2
  rw [sit_eq ha, if_pos hc]
end Go.Proofs.YtfhecpkhifdnbaaGreat
