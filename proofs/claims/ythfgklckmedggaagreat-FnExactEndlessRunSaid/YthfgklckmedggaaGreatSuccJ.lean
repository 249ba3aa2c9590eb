/-
  Networks, the program's side: an explorer of a rule's situations under a daemon.
  Successors of a situation, the program's side: Successors.
-/
import Derived.Test.YthfgklckmedggaaGreatImplB
import Derived.Test.YthfgklckmedggaaGreatNetSuccI
namespace Go.Proofs.YthfgklckmedggaaGreat
section
open Go.RowKit
set_option linter.unusedVariables false
set_option linter.unusedSimpArgs false
def dB (n : Net) (d : Int) : Bool := inB d 1 3 && (d != 3 || decide (n.es.length ≤ 6))
theorem impl_isDaemon (ve vi vn : Value) (n : Net) (d : Int) (w : World) (h : NetR w w.heap.size ve vi vn n) :
    Calls Tryz.prog 90 #[.agg #[ve, vi, vn], .int .i64 d] w fun e w' => e = .returned (.bool (dB n d)) ∧ Below w.heap.size w w' := by
  have HE := Lib.hid (show dB n d = (inB d 1 3 && (d != 3 || decide (n.es.length ≤ 6))) from rfl)
  obtain ⟨⟨A0, m0, c0, rfl⟩, ⟨A1, m1, c1, rfl⟩, A2, m2, c2, rfl⟩ := h.slices
  obtain ⟨w0, hw0, hB, HD, hz0, HS0⟩ := box3 w (.slice A0 m0 c0) (.slice A1 m1 c1) (.slice A2 m2 c2) 31
  have HN0 := Lib.hid h; have HN := Lib.hid (h.up hB); clear h
  have HW0 := Lib.hid hw0; clear hw0
  obtain ⟨q0, q1, q2, qf⟩ := cells3 HD
  obtain ⟨hm0, -, -⟩ := HN.out.e.len_slice
  subst hm0
  rw [HW0.out] at q0
  have J := fun W => Lib.hid (impl_within d 1 3 W)
  cases h2 : inB d 1 3 with
  | false =>
    rw [h2] at J
    have HF := Lib.hid (show false = dB n d by rw [HE.out, h2]; rfl)
    go_enter Tryz.func90, Tryz.ntmps90
    go_wp2_with (go_at_call 65; refine (J _).out.mono ?_; rintro e w' ⟨rfl, rfl⟩)
    rw [← HW0.out]
    go_ret
    exact ⟨ret_bool HF.out, hB⟩
  | true =>
    rw [h2] at J
    cases h3 : (d != 3) with
    | true =>
      have HF := Lib.hid (show true = dB n d by rw [HE.out, h2, h3]; rfl)
      go_enter Tryz.func90, Tryz.ntmps90
      go_wp2_with (go_at_call 65; refine (J _).out.mono ?_; rintro e w' ⟨rfl, rfl⟩)
      rw [← HW0.out]
      go_ret
      exact ⟨ret_bool HF.out, hB⟩
    | false =>
      have HF := Lib.hid (show decide ((n.es.length : Int) ≤ 6) = dB n d by
        rw [HE.out, h2, h3]
        simp only [Bool.true_and, Bool.false_or]
        by_cases hc : n.es.length ≤ 6
        · rw [decide_eq_true hc, decide_eq_true (by omega)]
        · rw [decide_eq_false hc, decide_eq_false (by omega)])
      by_cases hc : (n.es.length : Int) ≤ 6
      · rw [decide_eq_true hc] at HF
        go_enter Tryz.func90, Tryz.ntmps90
        go_wp2_with (go_at_call 65; refine (J _).out.mono ?_; rintro e w' ⟨rfl, rfl⟩)
        rw [← HW0.out]
        go_ret
        exact ⟨ret_bool HF.out, hB⟩
      · go_enter Tryz.func90, Tryz.ntmps90
        go_wp2_with (go_at_call 65; refine (J _).out.mono ?_; rintro e w' ⟨rfl, rfl⟩)
        rw [← HW0.out]
        go_ret
        exact ⟨ret_bool HF.out, hB⟩
/-- What newExplorer hands back: nothing where the rule does not run; else an explorer in a block of its own. -/
def ExAtG (w w' : World) (ve vi vn : Value) (n : Net) (r d : Int) (G : Nat) : Prop := ∃ A m c, w'.heap[G]? = some (.cells #[ve, vi, vn, .int .i64 r, .int .i64 d, .slice A m c, .int .i64 (sitG (cnts n r) 1), .slice none 0 0, .slice none 0 0] 78 (0, 0)) ∧ w.heap.size ≤ G ∧ IntsR w' G (.slice A m c) (cnts n r)
def ExPostG (ve vi vn : Value) (n : Net) (r d : Int) (w : World) (e : Ending) (w' : World) : Prop :=
  Below w.heap.size w w' ∧ (((askB n r && dB n d) = false ∧ e = .returned (.tuple #[.pointer none, .bool false])) ∨
    ((askB n r && dB n d) = true ∧ ∃ G, e = .returned (.tuple #[.pointer (some ⟨G, 0, none⟩), .bool (decide (0 < sitG (cnts n r) 1))]) ∧ ExAtG w w' ve vi vn n r d G))
set_option maxRecDepth 100000 in
theorem impl_newExplorerG (ve vi vn : Value) (n : Net) (r d : Int) (w : World) (h : NetR w w.heap.size ve vi vn n) (hz : n.es.length ≤ 2000000) (hzi : n.ids.length ≤ 2000000) :
    Calls Tryz.prog 60 #[.agg #[ve, vi, vn], .int .i64 r, .int .i64 d] w (ExPostG ve vi vn n r d w) := by
  obtain ⟨⟨A0, m0, c0, rfl⟩, ⟨A1, m1, c1, rfl⟩, A2, m2, c2, rfl⟩ := h.slices
  obtain ⟨w0, hw0, hB, HD, hz0, HS0⟩ := box3 w (.slice A0 m0 c0) (.slice A1 m1 c1) (.slice A2 m2 c2) 31
  have HN0 := Lib.hid h; have HN := Lib.hid (h.up hB); clear h
  have HW0 := Lib.hid hw0; clear hw0
  obtain ⟨q0, q1, q2, qf⟩ := cells3 HD
  go_enter Tryz.func60, Tryz.ntmps60
  go_wp2_with fail
  rw [← HW0.out]
  refine (impl_ruleOk _ _ _ n r w0 HN.out hz hzi).mono ?_
  rintro e w1 ⟨rfl, hb1⟩
  have hzhb1 := hb1.size
  clear q0 q1 q2 qf
  replace HD := bk HD hb1
  replace HN := Lib.hid (HN.out.up hb1)
  replace hB := bl_trans hB hb1
  obtain ⟨q0, q1, q2, qf⟩ := cells3 HD
  cases h1 : askB n r with
  | false =>
    go_wp2_with fail
    go_ret2
    exact ⟨hB, .inl ⟨by rw [h1]; rfl, rfl⟩⟩
  | true =>
    have HP := Lib.hid (askB_net h1)
    have HC := Lib.hid (cnts_bd HP.out r)
    go_wp2_with fail
    refine (impl_isDaemon _ _ _ n d w1 HN.out).mono ?_
    rintro e w2 ⟨rfl, hb2⟩
    have hzhb2 := hb2.size
    clear q0 q1 q2 qf
    replace HD := bk HD hb2
    replace HN := Lib.hid (HN.out.up hb2)
    replace hB := bl_trans hB hb2
    obtain ⟨q0, q1, q2, qf⟩ := cells3 HD
    cases h2 : dB n d with
    | false =>
      go_wp2_with fail
      go_ret2
      exact ⟨hB, .inl ⟨by rw [h1, h2]; rfl, rfl⟩⟩
    | true =>
      go_wp2_with fail
      refine wp_region_held_drew (S := fun w' => w'.cell? ⟨w.heap.size, 0, none⟩ = some (.slice A0 m0 c0) ∧ w'.cell? ⟨w.heap.size, 1, none⟩ = some (.slice A1 m1 c1) ∧ w'.cell? ⟨w.heap.size, 2, none⟩ = some (.slice A2 m2 c2)) (by kernel_rfl) ?_ (fun hHeld => ?_)
      · go_keep
      refine tk 0 19 rfl rfl ?_
      try simp only [Act.put, pu]
      refine tk 1 20 rfl rfl ?_
      try simp only [Act.put, pu]
      refine tk 2 21 rfl rfl ?_
      try simp only [Act.put, pu]
      refine tk 3 22 rfl rfl ?_
      try simp only [Act.put, pu]
      refine tk 4 23 rfl rfl ?_
      try simp only [Act.put, pu]
      refine tr 5 rfl (by kernel_rfl) (fun K hK => ?_)
      go_simp
      go_at_call 91
      refine (impl_stateCounts _ _ _ n r w2.drew (HN.out.up (Below.refl _ _).drew) HP.out).mono ?_
      rintro e w3 ⟨u, rfl, ⟨A', m', c', rfl⟩, hu, hb3'⟩
      have hb3 : Below w2.heap.size w2 w3 := (Below.refl _ _).drew.trans hb3'
      clear hb3'
      have HU := Lib.hid hu; clear hu
      have hzhb3 := hb3.size
      clear q0 q1 q2 qf
      replace HD := bk HD hb3
      replace HN := Lib.hid (HN.out.up hb3)
      replace hB := bl_trans hB hb3
      obtain ⟨q0, q1, q2, qf⟩ := cells3 HD
      refine hK.out _ _ ?_ (fun hHeld => ?_)
      · go_keep
      clear hK K
      try simp only [Act.put, pu]
      refine tk 6 25 rfl rfl ?_
      try simp only [Act.put, pu]
      refine tr 7 rfl (by kernel_rfl) (fun K hK => ?_)
      go_simp
      obtain ⟨w4, hw4⟩ : ∃ z, z = w3.alloc (.cells #[.slice A0 m0 c0, .slice A1 m1 c1, .slice A2 m2 c2, .int .i64 r, .int .i64 d, .slice A' m' c', .int .i64 0, .slice none 0 0, .slice none 0 0] 78) := ⟨_, rfl⟩
      rw [← hw4]
      have hE : w4.heap[w3.heap.size]? = some (.cells #[.slice A0 m0 c0, .slice A1 m1 c1, .slice A2 m2 c2, .int .i64 r, .int .i64 d, .slice A' m' c', .int .i64 0, .slice none 0 0, .slice none 0 0] 78 (0, 0)) := by rw [hw4]; exact heap_alloc_new w3 _
      have hb4 : Below w3.heap.size w3 w4 := by rw [hw4]; exact bl_alloc (Below.refl _ _) _
      have hz34 : w3.heap.size < w4.heap.size := by rw [hw4]; simp
      have hGl : w.heap.size ≤ w3.heap.size := by omega
      clear hw4
      have HU4 := Lib.hid (IntsR.more (HU.out.below hb4) hb4.size)
      have hzhb4 := hb4.size
      clear q0 q1 q2 qf
      replace HD := bk HD hb4
      replace HN := Lib.hid (HN.out.up hb4)
      replace hB := bl_trans hB hb4
      obtain ⟨q0, q1, q2, qf⟩ := cells3 HD
      have g5 : w4.cell? ⟨w3.heap.size, 5, none⟩ = some (.slice A' m' c') := cell_of_row _ _ 5 _ _ (0, 0) hE
      have g6 : w4.cell? ⟨w3.heap.size, 6, none⟩ = some (.int .i64 0) := cell_of_row _ _ 6 _ _ (0, 0) hE
      have gf : ∀ i, w4.frozen? ⟨w3.heap.size, i, none⟩ = false := fun i => frozen_of_row _ _ i _ _ hE
      have HE := Lib.hid hE; clear hE
      refine hK.out _ _ ?_ (fun hHeld => ?_)
      · go_keep
      clear hK K
      try simp only [Act.put, pu]
      refine tk 8 8 rfl rfl ?_
      try simp only [Act.put, pu]
      refine wpAnyH_done (by kernel_rfl) ?_ _
      go_wp2_with fail
      refine (impl_situationCount _ (cnts n r) w4 HU4.out HC.out).mono ?_
      rintro e w5 ⟨rfl, rfl⟩
      obtain ⟨T, hT⟩ : ∃ z, z = sitG (cnts n r) 1 := ⟨_, rfl⟩
      rw [← hT]
      have HT := Lib.hid hT; clear hT
      obtain ⟨w5, hw5⟩ : ∃ z, z = w4.setCell ⟨w3.heap.size, 6, none⟩ (.int .i64 T) := ⟨_, rfl⟩
      obtain ⟨hB5, hk5, HE5, hz5, hz5'⟩ := setB hB hGl HE.out hw5
      have hb35 : Below w3.heap.size w3 w5 := by rw [hw5]; exact hb4.setCell (Nat.le_refl _) _
      have HU5 := Lib.hid (HU.out.below hb35); clear HU hb35
      have HW5 := Lib.hid hw5; clear hw5
      have g6' : w5.cell? ⟨w3.heap.size, 6, none⟩ = some (.int .i64 T) := cell_of_row _ _ 6 _ _ (0, 0) HE5.out
      go_wp2_with fail
      rw [← HW5.out]
      clear g5 g6 gf q0 q1 q2 qf
      refine wp_region_held_drew (S := fun w' => w'.cell? ⟨w3.heap.size, 6, none⟩ = some (.int .i64 T)) (by kernel_rfl) ?_ (fun hHeld => ?_)
      · exact g6'
      refine tk 0 35 rfl rfl ?_
      try simp only [Act.put, pu]
      refine tk 1 36 rfl rfl ?_
      try simp only [Act.put, pu]
      refine tk 2 37 rfl rfl ?_
      try simp only [Act.put, pu]
      refine tk 3 38 rfl rfl ?_
      try simp only [Act.put, pu]
      refine tk 4 39 rfl rfl ?_
      try simp only [Act.put, pu]
      refine tk 5 40 rfl rfl ?_
      try simp only [Act.put, pu]
      refine tk 6 6 rfl rfl ?_
      try simp only [Act.put, pu]
      refine tk 7 7 rfl rfl ?_
      try simp only [Act.put, pu]
      refine wpAnyH_done (by kernel_rfl) ?_ _
      go_wp2_with fail
      go_ret2
      refine ⟨hB5.drew, .inr ⟨by rw [h1, h2]; rfl, w3.heap.size, by rw [← HT.out]; rfl, A', m', c', by rw [← HT.out]; exact HE5.out, hGl, HU5.out⟩⟩
def ExAtD (w w' : World) (ve vi vn : Value) (n : Net) (r d : Int) (G : Nat) : Prop := ∃ A m c a b, w'.heap[G]? = some (.cells #[ve, vi, vn, .int .i64 r, .int .i64 d, .slice A m c, .int .i64 (sitG (cnts n r) 1), a, b] 78 (0, 0)) ∧ w.heap.size ≤ G ∧ IntsR w' w'.heap.size (.slice A m c) (cnts n r)
def ExPostD (ve vi vn : Value) (n : Net) (r d : Int) (w : World) (e : Ending) (w' : World) : Prop :=
  Below w.heap.size w w' ∧ (((askB n r && dB n d) = false ∧ e = .returned (.tuple #[.pointer none, .bool false])) ∨
    ((askB n r && dB n d) = true ∧ ∃ G, e = .returned (.tuple #[.pointer (some ⟨G, 0, none⟩), .bool (decide (0 < sitG (cnts n r) 1))]) ∧ ExAtD w w' ve vi vn n r d G))
theorem impl_newExplorerD (ve vi vn : Value) (n : Net) (r d : Int) (w : World) (h : NetR w w.heap.size ve vi vn n) (hz : n.es.length ≤ 2000000) (hzi : n.ids.length ≤ 2000000) :
    Calls Tryz.prog 60 #[.agg #[ve, vi, vn], .int .i64 r, .int .i64 d] w (ExPostD ve vi vn n r d w) := by
  refine (impl_newExplorerG ve vi vn n r d w h hz hzi).mono ?_
  rintro e w' ⟨hb, hx⟩
  refine ⟨hb, hx.elim .inl fun ⟨h1, G, he, A, m, c, hE, hG, hU⟩ => .inr ⟨h1, G, he, A, m, c, _, _, hE, hG, hU.more ?_⟩⟩
  have := (Array.getElem?_eq_some_iff.1 hE).1
  omega
end
section
open Go.RowKit
set_option linter.unusedVariables false
set_option linter.unusedSimpArgs false
theorem dm_no {n : Net} {r d : Int} (h : (askB n r && dB n d) = false) : dmB n r d = false := by
  cases ha : askB n r with
  | false =>
    have := cv_no ha
    unfold dmB
    rw [this]; rfl
  | true =>
    rw [ha, Bool.true_and] at h
    show (cvB n r && dB n d) = false
    rw [h, Bool.and_false]
theorem dm_pos {n : Net} {r d : Int} (h : (askB n r && dB n d) = true) : dmB n r d = decide (0 < sitG (cnts n r) 1) := by
  rw [Bool.and_eq_true] at h
  show (cvB n r && dB n d) = _
  rw [h.2, Bool.and_true]
  exact cv_pos h.1
theorem sc_cv {n : Net} {r d x : Int} (h : dmB n r d = true) : scB n r d x = inB x 0 (sitG (cnts n r) 1 - 1) := by
  have hcv := (dm_cv h).1
  unfold scB
  rw [h, ← ct_sit hcv, ctN_t hcv]
  rfl
def SuPost (n : Net) (r d x : Int) (w : World) (e : Ending) (w' : World) : Prop :=
  ∃ u, e = .returned (.tuple #[u, .bool (scB n r d x)]) ∧ (∃ A m c, u = .slice A m c) ∧ IntsR w' w'.heap.size u (scL n r d x) ∧ w'.ownsRow w.heap.size 3 1 u (scL n r d x).length ((scL n r d x).map intV) ∧ Below w.heap.size w w'
end
end Go.Proofs.YthfgklckmedggaaGreat
