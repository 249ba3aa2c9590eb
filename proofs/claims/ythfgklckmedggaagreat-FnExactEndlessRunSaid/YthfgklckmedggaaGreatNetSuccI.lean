/-
  Successors of a situation, the program's side: successors of the explorer.
-/
import Derived.Test.YthfgklckmedggaaGreatNetAdd
import Derived.Test.YthfgklckmedggaaGreatImplB
import Derived.Test.YthfgklckmedggaaGreatNetSuccS
namespace Go.Proofs.YthfgklckmedggaaGreat
open Go.RowKit
set_option linter.unusedVariables false
set_option linter.unusedSimpArgs false
theorem filter_eq_range {p : Nat → Bool} {n : Nat} (h : ∀ k, k < n → p k = true) : (List.range n).filter p = List.range n := List.filter_eq_self.2 fun k hk => h k (List.mem_range.1 hk)
theorem map_getD (en : List Int) : (List.range en.length).map (fun k => en.getD k 0) = en := by
  apply List.ext_getElem
  · simp
  · intro i h1 h2
    simp [List.getElem?_eq_getElem h2]
theorem pick_all (en : List Int) : pick en (2 ^ en.length - 1) = en := by
  unfold pick pickTo
  rw [filter_eq_range fun k hk => by rw [Nat.testBit_two_pow_sub_one]; exact decide_eq_true hk]
  exact map_getD en
theorem pick_one {en : List Int} {k : Nat} {x : Int} (hx : en[k]? = some x) : pick en (2 ^ k) = [x] := by
  have hk := (List.getElem?_eq_some_iff.1 hx).1
  have h : ∀ j, pickTo en (2 ^ k) j = if k < j then [x] else [] := by
    intro j
    induction j with
    | zero => rfl
    | succ j ih =>
      rw [pickTo_succ, ih, Nat.testBit_two_pow]
      by_cases e : k = j
      · subst e
        rw [if_neg (by omega), decide_eq_true rfl, if_pos rfl, if_pos (by omega), List.getD_eq_getElem?_getD, hx]
        rfl
      · rw [decide_eq_false e]
        by_cases h2 : k < j
        · rw [if_pos h2, if_pos (show k < j + 1 by omega)]; rfl
        · rw [if_neg h2, if_neg (show ¬ k < j + 1 by omega)]; rfl
  unfold pick
  rw [h, if_pos hk]
theorem ints_blk {w : World} {B g m c : Nat} {xs : List Int} (h : IntsR w B (.slice (some ⟨g, 0, none⟩) m c) xs) : g < B ∨ xs.length = 0 := by
  obtain ⟨hm, -, -, hx⟩ := h.some_
  by_cases h0 : xs.length = 0
  · exact .inr h0
  · obtain ⟨ad, e, hb, -⟩ := hx (by omega)
    have e' := Option.some.inj e
    subst e'
    exact .inl hb
theorem ints_far {w w' : World} {g P m c : Nat} {xs : List Int} (hs : ∀ q : Addr, P ≠ q.block → w'.cell? q = w.cell? q) (hP : P ≠ g ∨ m = 0) (h : IntsR w w.heap.size (.slice (some ⟨g, 0, none⟩) m c) xs) : IntsR w' w.heap.size (.slice (some ⟨g, 0, none⟩) m c) xs := by
  obtain ⟨A, c', e, h1, h2, h3⟩ := h.1
  cases e
  rw [List.length_map] at hP
  refine ⟨⟨some ⟨g, 0, none⟩, c, rfl, h1, h2, fun hn => ?_⟩, h.2⟩
  obtain ⟨ad, e, hb, hc⟩ := h3 hn
  refine ⟨ad, e, hb, fun j u hj => ?_⟩
  have e' := Option.some.inj e
  subst e'
  rw [List.length_map] at hn
  rw [hs _ (by rw [block_add]; rcases hP with h | h; exact h; omega)]
  exact hc j u hj
theorem u64_in (n : Int) (h : 0 ≤ n ∧ n ≤ 18446744073709551615) : IntKind.u64.wrap n = n := by
  exact IntWalk.u64_in n h
theorem u64_pow {k : Nat} (hk : k ≤ 40) : IntKind.u64.wrap ((2 : Int) ^ k) = ((2 ^ k : Nat) : Int) := by
  have h1 : (2 : Int) ^ k = ((2 ^ k : Nat) : Int) := by rw [Int.natCast_pow]; rfl
  have h2 : 2 ^ k ≤ 2 ^ 40 := Nat.pow_le_pow_right (by omega) hk
  rw [h1]
  clear h1
  generalize 2 ^ k = K at h2 ⊢
  exact u64_in _ (by omega)
theorem u64_sub {N : Nat} (h1 : 1 ≤ N) (h2 : N < 2 ^ 41) : IntKind.u64.wrap ((N : Int) - 1) = ((N - 1 : Nat) : Int) := by
  rw [show (N : Int) - 1 = ((N - 1 : Nat) : Int) by omega]
  exact u64_in _ (by omega)
theorem u64_add {N : Nat} (h2 : N < 2 ^ 41) : IntKind.u64.wrap ((N : Int) + 1) = ((N + 1 : Nat) : Int) := by
  rw [show (N : Int) + 1 = ((N + 1 : Nat) : Int) by omega]
  exact u64_in _ (by omega)
theorem own_some2 {w : World} {base n : Nat} {e : TypeId} {v : Value} {vs : List Value} (h : w.ownsRow base e 1 v n vs) (hn : 0 < n) : ∃ g c, v = .slice (some ⟨g, 0, none⟩) n c := by
  rcases h.2 with ⟨_, h0⟩ | ⟨g, cap, cur, rfl, -⟩
  · omega
  · exact ⟨g, cap, rfl⟩
def OneRel (n : Net) (r : Int) (ss en : List Int) (P7 : Nat) (w : World) (i : Value) (wr : World) : Prop :=
  ∃ k : Nat, k ≤ en.length ∧ i = .int .i64 k ∧ OutAt P7 ((en.take k).map fun v => numM n r ss [v]) wr ∧ Below P7 w wr
def ManyRel (n : Net) (r : Int) (ss en : List Int) (N P7 : Nat) (w : World) (sv : Value) (wr : World) : Prop :=
  ∃ M m : Nat, M = m + 1 ∧ M ≤ N ∧ sv = .int .u64 (M : Int) ∧ OutAt P7 ((setsTo en m).map (numM n r ss)) wr ∧ Below P7 w wr
set_option maxRecDepth 100000 in
set_option maxHeartbeats 4000000 in
theorem impl_successors (G : Nat) (A0 A1 A2 Ac : Option Addr) (m0 c0 m1 c1 m2 c2 mc cc : Nat) (n : Net) (r d x : Int) (w : World) (h : NetR w w.heap.size (.slice A0 m0 c0) (.slice A1 m1 c1) (.slice A2 m2 c2) n) (g0 : w.cell? ⟨G, 0, none⟩ = some (.slice A0 m0 c0)) (g1 : w.cell? ⟨G, 1, none⟩ = some (.slice A1 m1 c1)) (g2 : w.cell? ⟨G, 2, none⟩ = some (.slice A2 m2 c2))
    (g3 : w.cell? ⟨G, 3, none⟩ = some (.int .i64 r)) (g4 : w.cell? ⟨G, 4, none⟩ = some (.int .i64 d)) (g5 : w.cell? ⟨G, 5, none⟩ = some (.slice Ac mc cc)) (hc : IntsR w w.heap.size (.slice Ac mc cc) (cnts n r)) (hcv : cvB n r = true) (hd6 : d ≠ 1 → d ≠ 2 → n.es.length ≤ 6) (hx0 : 0 ≤ x) (hx1 : x ≤ 3000) :
    Calls Tryz.prog 94 #[.pointer (some ⟨G, 0, none⟩), .int .i64 x] w fun e w' => ∃ u, e = .returned u ∧ (∃ A m c, u = .slice A m c) ∧ IntsR w' w'.heap.size u (nextN n r d x) ∧ w'.ownsRow w.heap.size 3 1 u (nextN n r d x).length ((nextN n r d x).map intV) ∧ Below w.heap.size w w' := by
  have ha : askP n r := by
    unfold cvB at hcv
    rw [Bool.and_eq_true] at hcv
    exact propB_iff.1 hcv.1
  have hfew := (few_of hcv).1
  have hS := stsS_ok (x := x) (fun k hk => (hfew.1 k hk).1) hx0
  have h40 := ha.1.1
  have hslen : (stsS (cnts n r) x).length = n.es.length := by rw [stsS_len, cnts_len]
  have hel : (enS n r (stsS (cnts n r) x)).length ≤ n.es.length := by rw [← hslen]; exact enS_len _ _ _
  replace hslen : n.es.length ≤ (stsS (cnts n r) x).length ∧ (stsS (cnts n r) x).length ≤ n.es.length := by omega
  have hGl : G < w.heap.size := World.block_lt_of_cell? _ _ g0
  have HA := Lib.hid ha
  have HFW := Lib.hid hfew
  have HS := Lib.hid hS; clear ha hfew hS
  have HD6 := Lib.hid hd6; clear hd6
  have HCI := Lib.hid hc; clear hc
  have HN := Lib.hid h; clear h
  have HNX := Lib.hid (show nextN n r d x = ((setsS (enS n r (stsS (cnts n r) x)) d).map (numM n r (stsS (cnts n r) x))).foldl putS [] from rfl)
  have HOK := Lib.hid (fun set (hm : set ∈ setsS (enS n r (stsS (cnts n r) x)) d) => set_ok hm)
  have HEM := Lib.hid (fun v (hm : v ∈ enS n r (stsS (cnts n r) x)) => enS_mem hm)
  obtain ⟨w0, hw0, hb0, HBX, hz0, HS0⟩ := box1 w (.pointer (some ⟨G, 0, none⟩)) 54
  have HW0 := Lib.hid hw0; clear hw0
  have gg5 := (hb0.cell (p := ⟨G, 5, none⟩) hGl).trans g5
  go_enter Tryz.func94, Tryz.ntmps94
  go_wp2_with fail
  rw [← HW0.out]
  refine (impl_states G Ac mc cc (cnts n r) x w0 gg5 ((HCI.out.below hb0).more hb0.size) HFW.out hx0 hx1).mono ?_
  rintro e w1 ⟨u, rfl, ⟨As, ms, cs, rfl⟩, hu, -, hb1⟩
  generalize stsS (cnts n r) x = ss at *
  obtain ⟨hms, -, -, hsd⟩ := hu.some_
  subst hms
  obtain ⟨sd, rfl, -, -⟩ := hsd (by omega)
  have HST := Lib.hid hu; clear hu hsd gg5
  obtain ⟨w2, hw2, hb2, HBS, hz2, HS2⟩ := box1 w1 (.slice (some sd) ss.length cs) 23
  have HW2 := Lib.hid hw2; clear hw2
  have hB2 := bl_trans (bl_trans hb0 hb1) hb2
  have hz01 := hb1.size
  have a0 := (hB2.cell (p := ⟨G, 0, none⟩) hGl).trans g0
  have a1 := (hB2.cell (p := ⟨G, 1, none⟩) hGl).trans g1
  have a2 := (hB2.cell (p := ⟨G, 2, none⟩) hGl).trans g2
  have a3 := (hB2.cell (p := ⟨G, 3, none⟩) hGl).trans g3
  have k2 : w2.cell? ⟨w.heap.size, 0, none⟩ = some (.pointer (some ⟨G, 0, none⟩)) := ((bl_trans hb1 hb2).cell (p := ⟨w.heap.size, 0, none⟩) (by show w.heap.size < w0.heap.size; omega)).trans (cell_of_row _ _ 0 _ _ (0, 0) HBX.out)
  have k5 : w2.cell? ⟨w1.heap.size, 0, none⟩ = some (.slice (some sd) ss.length cs) := cell_of_row _ _ 0 _ _ (0, 0) HBS.out
  go_wp2_with fail
  rw [← HW2.out]
  have hzw := hB2.size
  have HEN2 := Lib.hid (HN.out.up hB2)
  have HST2 := Lib.hid ((HST.out.below hb2).more hb2.size)
  refine wp_region_held_drew (S := fun w' => w'.cell? ⟨w.heap.size, 0, none⟩ = some (.pointer (some ⟨G, 0, none⟩)) ∧ w'.cell? ⟨G, 0, none⟩ = some (.slice A0 m0 c0) ∧ w'.cell? ⟨G, 1, none⟩ = some (.slice A1 m1 c1) ∧ w'.cell? ⟨G, 2, none⟩ = some (.slice A2 m2 c2) ∧ w'.cell? ⟨G, 3, none⟩ = some (.int .i64 r) ∧ w'.cell? ⟨w1.heap.size, 0, none⟩ = some (.slice (some sd) ss.length cs)) (by kernel_rfl) ?_ (fun hHeld => ?_)
  · go_keep
  refine tk 0 15 rfl rfl ?_
  try simp only [Act.put, pu]
  refine tk 1 16 rfl rfl ?_
  try simp only [Act.put, pu]
  refine tk 2 17 rfl rfl ?_
  try simp only [Act.put, pu]
  refine tk 3 18 rfl rfl ?_
  try simp only [Act.put, pu]
  refine tk 4 19 rfl rfl ?_
  try simp only [Act.put, pu]
  refine tk 5 20 rfl rfl ?_
  try simp only [Act.put, pu]
  refine tk 6 21 rfl rfl ?_
  try simp only [Act.put, pu]
  refine tk 7 22 rfl rfl ?_
  try simp only [Act.put, pu]
  refine tk 8 23 rfl rfl ?_
  try simp only [Act.put, pu]
  refine wpAnyH_ready (rs := [9, 10]) (by kernel_rfl) (by simp) ?_
  refine AllReadyH.cons rfl (fun K hK => ?_) (AllReadyH.cons rfl (fun K hK => ?_) AllReadyH.nil)
  · go_simp
    go_at_call 117
    refine (impl_enabledNodes _ _ _ _ n r ss w2.drew (HEN2.out.up (Below.refl _ _).drew) HA.out ((HST2.out.below (Below.refl _ _).drew).more (Nat.le_refl _)) HS.out).mono ?_
    rintro e w3 ⟨u3, rfl, ⟨g6, c6, rfl, hg6⟩, hu3, hb3'⟩
    have hb3 : Below w2.heap.size w2 w3 := (Below.refl _ _).drew.trans hb3'
    clear hb3'
    replace hg6 : w2.heap.size ≤ g6 := hg6
    have hz3 := hb3.size
    replace a0 := (hb3.cell (p := ⟨G, 0, none⟩) (by show G < w2.heap.size; omega)).trans a0
    replace a1 := (hb3.cell (p := ⟨G, 1, none⟩) (by show G < w2.heap.size; omega)).trans a1
    replace a2 := (hb3.cell (p := ⟨G, 2, none⟩) (by show G < w2.heap.size; omega)).trans a2
    replace a3 := (hb3.cell (p := ⟨G, 3, none⟩) (by show G < w2.heap.size; omega)).trans a3
    replace k2 := (hb3.cell (p := ⟨w.heap.size, 0, none⟩) (by show w.heap.size < w2.heap.size; omega)).trans k2
    replace k5 := (hb3.cell (p := ⟨w1.heap.size, 0, none⟩) (by show w1.heap.size < w2.heap.size; omega)).trans k5
    refine hK.out _ _ ?_ (fun hHeld => ?_)
    · go_keep
    clear hK K
    try simp only [Act.put, pu]
    refine wpAnyH_ready (rs := [10]) (by kernel_rfl) (by simp) ?_
    refine AllReadyH.cons rfl (fun K hK => ?_) AllReadyH.nil
    go_simp
    obtain ⟨w4, hw4, hb4, HB6, hz4, HS4⟩ := box1 w3 (.slice none 0 0) 23
    rw [← hw4]
    have HEN4 := Lib.hid (hu3.below hb4 |>.more hb4.size)
    have q6 : w4.cell? ⟨w3.heap.size, 0, none⟩ = some (.slice none 0 0) := cell_of_row _ _ 0 _ _ (0, 0) HB6.out
    have f6 : w4.frozen? ⟨w3.heap.size, 0, none⟩ = false := frozen_of_row _ _ 0 _ _ HB6.out
    have hg6l : g6 < w3.heap.size ∨ (enS n r ss).length = 0 := ints_blk hu3
    have hb24 := hb3.trans (hb4.mono hz3)
    replace a0 := (hb4.cell (p := ⟨G, 0, none⟩) (by show G < w3.heap.size; omega)).trans a0
    replace a1 := (hb4.cell (p := ⟨G, 1, none⟩) (by show G < w3.heap.size; omega)).trans a1
    replace a2 := (hb4.cell (p := ⟨G, 2, none⟩) (by show G < w3.heap.size; omega)).trans a2
    replace a3 := (hb4.cell (p := ⟨G, 3, none⟩) (by show G < w3.heap.size; omega)).trans a3
    replace k2 := (hb4.cell (p := ⟨w.heap.size, 0, none⟩) (by show w.heap.size < w3.heap.size; omega)).trans k2
    replace k5 := (hb4.cell (p := ⟨w1.heap.size, 0, none⟩) (by show w1.heap.size < w3.heap.size; omega)).trans k5
    clear hu3 hw4 HB6
    obtain ⟨P6, hP6⟩ : ∃ z, z = w3.heap.size := ⟨_, rfl⟩
    rw [← hP6] at q6 f6 ⊢
    have hp6 : w2.heap.size ≤ P6 ∧ P6 < w4.heap.size ∧ (P6 ≠ g6 ∨ (enS n r ss).length = 0) := by omega
    clear hP6 hg6l
    have n0 : P6 ≠ G := by omega
    have n1 : P6 ≠ w.heap.size := by omega
    have n2 : P6 ≠ w1.heap.size := by omega
    refine hK.out _ _ ?_ (fun hHeld => ?_)
    · go_keep
    clear hK K
    try simp only [Act.put, pu]
    refine wpAnyH_ready (rs := [11]) (by kernel_rfl) (by simp) ?_
    refine AllReadyH.cons rfl (fun K hK => ?_) AllReadyH.nil
    go_simp
    refine hK.out _ _ ?_ (fun hHeld => ?_)
    · go_keep
    clear hK K
    try simp only [Act.put, pu]
    refine wpAnyH_done (by kernel_rfl) ?_ _
    obtain ⟨w5, hw5⟩ : ∃ z, z = w4.setCell ⟨P6, 0, none⟩ (.slice (some ⟨g6, 0, none⟩) (enS n r ss).length c6) := ⟨_, rfl⟩
    rw [← hw5]
    have hs5 : ∀ q : Addr, P6 ≠ q.block → w5.cell? q = w4.cell? q := fun q hq => by rw [hw5]; exact World.cell?_setCell_far _ _ _ _ hq
    have q6' : w5.cell? ⟨P6, 0, none⟩ = some (.slice (some ⟨g6, 0, none⟩) (enS n r ss).length c6) := by rw [hw5]; exact World.cell?_setCell_same' _ _ _ (by rw [q6]; rfl)
    have hz5 : w5.heap.size = w4.heap.size := by rw [hw5]; exact size_setCell _ _ _
    have hb25 : Below w2.heap.size w2 w5 := by rw [hw5]; exact hb24.setCell (p := ⟨P6, 0, none⟩) hp6.1 _
    have HEN5 := Lib.hid (ints_far hs5 hp6.2.2 HEN4.out)
    replace a0 := (hs5 ⟨G, 0, none⟩ n0).trans a0
    replace a1 := (hs5 ⟨G, 1, none⟩ n0).trans a1
    replace a2 := (hs5 ⟨G, 2, none⟩ n0).trans a2
    replace a3 := (hs5 ⟨G, 3, none⟩ n0).trans a3
    replace k2 := (hs5 ⟨w.heap.size, 0, none⟩ n1).trans k2
    replace k5 := (hs5 ⟨w1.heap.size, 0, none⟩ n2).trans k5
    have hBw5 := hB2.trans (hb25.mono hzw)
    have a5 := (hBw5.cell (p := ⟨G, 5, none⟩) hGl).trans g5
    have a4 := (hBw5.cell (p := ⟨G, 4, none⟩) hGl).trans g4
    obtain ⟨w6, hw6, hb6, HB7, hz6, HS6⟩ := box1 w5 (.slice none 0 0) 23
    have hz25 := hb25.size
    have HSU : Hid (SuAt w.heap.size w1.heap.size P6 w5.heap.size G A0 A1 A2 Ac m0 c0 m1 c1 m2 c2 mc cc c6 cs ⟨g6, 0, none⟩ sd n r ss (enS n r ss) w6) := Lib.hid
      ⟨(HEN2.out.up hb25).below hb6, (hb6.cell (p := ⟨G, 0, none⟩) (by show G < w5.heap.size; omega)).trans a0, (hb6.cell (p := ⟨G, 1, none⟩) (by show G < w5.heap.size; omega)).trans a1, (hb6.cell (p := ⟨G, 2, none⟩) (by show G < w5.heap.size; omega)).trans a2,
        (hb6.cell (p := ⟨G, 3, none⟩) (by show G < w5.heap.size; omega)).trans a3, (hb6.cell (p := ⟨G, 5, none⟩) (by show G < w5.heap.size; omega)).trans a5, ((HCI.out.below hBw5).more hBw5.size).below hb6, ((HST2.out.below hb25).more hb25.size).below hb6, (by rw [hz5] at hb6 ⊢; exact HEN5.out.below hb6),
        (hb6.cell (p := ⟨w.heap.size, 0, none⟩) (by show w.heap.size < w5.heap.size; omega)).trans k2, (hb6.cell (p := ⟨w1.heap.size, 0, none⟩) (by show w1.heap.size < w5.heap.size; omega)).trans k5, (hb6.cell (p := ⟨P6, 0, none⟩) (by show P6 < w5.heap.size; omega)).trans q6', by omega⟩
    have HOUT : Hid (OutAt w5.heap.size [] w6) := Lib.hid ⟨.slice none 0 0, cell_of_row _ _ 0 _ _ (0, 0) HB7.out, frozen_of_row _ _ 0 _ _ HB7.out, World.ownsRow_nil _ _ _ _⟩
    have HB6 := Lib.hid (hBw5.trans (hb6.mono (by omega)))
    have b2 := HSU.out.p2
    have b4 := (hb6.cell (p := ⟨G, 4, none⟩) (by show G < w5.heap.size; omega)).trans a4
    have b6 := HSU.out.p6
    have c2' := b2
    have c4' := b4
    have c6' := b6
    rw [hw6] at c2' c4' c6'
    have HW6 := Lib.hid hw6
    have HCL := fun outs m W hW ho hol hm => Lib.hid (closure_add w.heap.size w1.heap.size P6 w5.heap.size G A0 A1 A2 Ac m0 c0 m1 c1 m2 c2 mc cc c6 cs ⟨g6, 0, none⟩ sd n r ss (enS n r ss) outs m W (HSU.out.up hW) ho HA.out HFW.out HS.out HEM.out (by omega) hol hm)
    have hz25' : w.heap.size ≤ w5.heap.size := by omega
    clear hw6 hw5 hs5 q6 q6' f6 a0 a1 a2 a3 a4 a5 k2 k5 hz5 hp6 hg6 n0 n1 n2
    generalize enS n r ss = en at *
    have hu1 : IntKind.u64.wrap ((2 : Int) ^ en.length) = ((2 ^ en.length : Nat) : Int) := u64_pow (by omega)
    have hN41 : 2 ^ en.length < 2 ^ 41 := Nat.pow_lt_pow_right (by omega) (by omega)
    have hN1 : 1 ≤ 2 ^ en.length := Nat.one_le_two_pow
    have hu2 : IntKind.u64.wrap (((2 ^ en.length : Nat) : Int) - 1) = ((2 ^ en.length - 1 : Nat) : Int) := u64_sub hN1 hN41
    by_cases he : en = []
    · have HE := Lib.hid (show nextN n r d x = [] by rw [HNX.out, he]; unfold setsS; rw [if_pos rfl]; rfl)
      have kall : (((2 ^ en.length - 1 : Nat) : Int) == 0) = true := by rw [he]; rfl
      clear he HCL
      generalize 2 ^ en.length = N at *
      go_wp2_with fail
      go_ret
      exact ⟨_, rfl, ⟨_, _, _, rfl⟩, by rw [HE.out]; exact ints_nil _ _, by rw [HE.out]; exact World.ownsRow_nil _ _ _ _, by rw [← HW6.out]; exact HB6.out⟩
    have hpos : 0 < en.length := List.length_pos_iff.2 he
    have hN2 : 1 < 2 ^ en.length := Nat.one_lt_two_pow (by omega)
    have kall : (((2 ^ en.length - 1 : Nat) : Int) == 0) = false := by rw [beq_eq_false_iff_ne]; omega
    have HPN := Lib.hid (pick_all en)
    have HI64 := Lib.hid (show ∀ z ∈ nextN n r d x, I64 z from fun z hz => by
      have h1 := nextN_bd HA.out HFW.out hx0 z hz
      have h2 := HFW.out.2.1
      unfold I64
      omega)
    by_cases hd2 : d = 2
    · subst hd2
      have HLN := Lib.hid (show [numM n r ss en].foldl putS [] = nextN n r 2 x by rw [HNX.out]; unfold setsS; rw [if_neg he, if_pos rfl]; rfl)
      have HLP := Lib.hid (show 0 < [numM n r ss en].length by simp)
      have HLL := Lib.hid (show [numM n r ss en].length ≤ 1000 by simp)
      have J := HCL [] (2 ^ en.length - 1) w6 (Below.refl _ _) HOUT.out (by simp) (by omega)
      rw [HPN.out] at J
      clear HCL he
      generalize 2 ^ en.length = N at *
      go_wp2_with fail
      rw [← HW6.out]
      refine J.out.mono ?_
      rintro e w7 ⟨⟨vv, rfl⟩, HO', hb7⟩
      rw [List.nil_append] at HO'
      have HO := Lib.hid HO'; clear HO' J
      generalize [numM n r ss en] = L at *
      obtain ⟨uo, o7, o7f, oown⟩ := HO.out
      obtain ⟨gu, cu, rfl⟩ := own_some2 oown HLP.out
      have HOW := Lib.hid oown; clear oown
      go_wp2_with fail
      refine (impl_SortOwn _ L (w5.heap.size + 1) w7 HOW.out (by simp) (by have := HLL.out; omega)).mono ?_
      rintro e w8 ⟨rfl, ⟨ys, hperm, hsort, oown8⟩, hb8⟩
      have o8 := (hb8.cell (p := ⟨w5.heap.size, 0, none⟩) (Nat.lt_succ_self _)).trans o7
      have HPS := Lib.hid (And.intro hperm hsort); clear hperm hsort
      have HO8 := Lib.hid oown8; clear oown8 o7 o7f
      go_wp2_with fail
      refine (impl_CompactOwn _ ys (w5.heap.size + 1) w8 HO8.out (by simp) (by have := HLL.out; rw [HPS.out.1.length_eq]; omega)).mono ?_
      rintro e w9 ⟨u9, rfl, own9, hb9⟩
      rw [(puts_compact HPS.out.1 HPS.out.2).trans HLN.out] at own9
      obtain ⟨A9, c9, rfl⟩ := own_sl own9
      have HO9 := Lib.hid own9; clear own9
      go_wp2_with fail
      go_ret
      have hz6' := HB6.out.size
      exact ⟨_, rfl, ⟨_, _, _, rfl⟩, own_intsR HO9.out HI64.out, own_mono HO9.out (by omega), HB6.out.trans ((hb7.mono (by omega)).trans ((hb8.mono (by omega)).trans (hb9.mono (by omega))))⟩
    have kd2 : (d == 2) = false := by simpa using hd2
    by_cases hd1 : d = 1
    · subst hd1
      have HLN := Lib.hid (show (en.map fun v => numM n r ss [v]).foldl putS [] = nextN n r 1 x by rw [HNX.out]; unfold setsS; rw [if_neg he, if_neg hd2, if_pos rfl, List.map_map]; rfl)
      have HLP := Lib.hid (show 0 < (en.map fun v => numM n r ss [v]).length by rw [List.length_map]; omega)
      have HLL := Lib.hid (show (en.map fun v => numM n r ss [v]).length ≤ 1000 by rw [List.length_map]; omega)
      clear he
      generalize 2 ^ en.length = N at *
      go_wp2_with fail
      rw [← HW6.out]
      go_loopw [10, 58] (fun _ i wr => OneRel n r ss en w5.heap.size w6 i wr) (fun _ i _ => en.length - (intOf i).toNat)
      case atStart => exact ⟨0, Nat.zero_le _, rfl, HOUT.out, Below.refl _ _⟩
      case round =>
        obtain ⟨k, hk, rfl, hok, hbl⟩ := hrel
        have HO := Lib.hid hok; clear hok
        by_cases hlt : k < en.length
        · obtain ⟨v, hv⟩ : ∃ v, en[k]? = some v := ⟨_, List.getElem?_eq_getElem hlt⟩
          have hw1 : IntKind.u64.wrap ((2 : Int) ^ k) = ((2 ^ k : Nat) : Int) := u64_pow (by omega)
          have hk41 : 2 ^ k < 2 ^ 41 := Nat.pow_lt_pow_right (by omega) (by omega)
          have J := HCL ((en.take k).map fun v => numM n r ss [v]) (2 ^ k) wr hbl HO.out (by rw [List.length_map, List.length_take]; omega) hk41
          rw [pick_one hv] at J
          have HT := Lib.hid (show (en.take (k + 1)).map (fun v => numM n r ss [v]) = (en.take k).map (fun v => numM n r ss [v]) ++ [numM n r ss [v]] by rw [take_snoc hv, List.map_append]; rfl)
          clear hv
          generalize 2 ^ k = K2 at *
          go_wp2_with fail
          refine J.out.mono ?_
          rintro e w7 ⟨⟨vv, rfl⟩, HO', hb7⟩
          go_wp2_with fail
          go_roundw
          case rel => exact ⟨k + 1, by omega, by go_num, by rw [HT.out]; exact HO', hbl.trans hb7⟩
          case measure => simp [intOf]; omega
        · obtain rfl : k = en.length := by omega
          rw [List.take_length] at HO
          clear HCL
          generalize (en.map fun v => numM n r ss [v]) = L at *
          obtain ⟨uo, o7, o7f, oown⟩ := HO.out
          obtain ⟨gu, cu, rfl⟩ := own_some2 oown HLP.out
          have HOW := Lib.hid oown; clear oown
          go_wp2_with fail
          refine (impl_SortOwn _ L (w5.heap.size + 1) wr HOW.out (by simp) (by have := HLL.out; omega)).mono ?_
          rintro e w8 ⟨rfl, ⟨ys, hperm, hsort, oown8⟩, hb8⟩
          have o8 := (hb8.cell (p := ⟨w5.heap.size, 0, none⟩) (Nat.lt_succ_self _)).trans o7
          have HPS := Lib.hid (And.intro hperm hsort); clear hperm hsort
          have HO8 := Lib.hid oown8; clear oown8 o7 o7f
          go_wp2_with fail
          refine (impl_CompactOwn _ ys (w5.heap.size + 1) w8 HO8.out (by simp) (by have := HLL.out; rw [HPS.out.1.length_eq]; omega)).mono ?_
          rintro e w9 ⟨u9, rfl, own9, hb9⟩
          rw [(puts_compact HPS.out.1 HPS.out.2).trans HLN.out] at own9
          obtain ⟨A9, c9, rfl⟩ := own_sl own9
          have HO9 := Lib.hid own9; clear own9
          go_wp2_with fail
          go_ret
          have hz6' := HB6.out.size
          exact ⟨_, rfl, ⟨_, _, _, rfl⟩, own_intsR HO9.out HI64.out, own_mono HO9.out (by omega), HB6.out.trans ((hbl.mono (by omega)).trans ((hb8.mono (by omega)).trans (hb9.mono (by omega))))⟩
    have kd1 : (d == 1) = false := by simpa using hd1
    have hl6 : en.length ≤ 6 := by have := HD6.out hd1 hd2; omega
    have HLN := Lib.hid (show ((setsTo en (2 ^ en.length - 1)).map (numM n r ss)).foldl putS [] = nextN n r d x by rw [HNX.out]; unfold setsS setsTo; rw [if_neg he, if_neg hd2, if_neg hd1])
    have hNl : 2 ^ en.length ≤ 64 := Nat.le_trans (Nat.pow_le_pow_right (by omega) hl6) (by omega)
    have hsl : ∀ m, ((setsTo en m).map (numM n r ss)).length = m := fun m => by unfold setsTo; rw [List.length_map, List.length_map, List.length_range]
    have HLP := Lib.hid (show 0 < ((setsTo en (2 ^ en.length - 1)).map (numM n r ss)).length by rw [hsl]; omega)
    have HLL := Lib.hid (show ((setsTo en (2 ^ en.length - 1)).map (numM n r ss)).length ≤ 1000 by rw [hsl]; omega)
    have HSL := Lib.hid hsl; clear hsl
    clear he
    generalize 2 ^ en.length = N at *
    go_wp2_with fail
    rw [← HW6.out]
    go_loopw [11] (fun sv wr => ManyRel n r ss en N w5.heap.size w6 sv wr) (fun sv _ => N - (intOf sv).toNat)
    case atStart => exact ⟨1, 0, rfl, by omega, rfl, HOUT.out, Below.refl _ _⟩
    case round =>
      obtain ⟨M, m, hMm, hMN, rfl, hok, hbl⟩ := hrel
      have HO := Lib.hid hok; clear hok
      have hM1 : 1 ≤ M := by omega
      by_cases hlt : M ≤ N - 1
      · have hltI : (M : Int) ≤ ((N - 1 : Nat) : Int) := by omega
        have J := HCL ((setsTo en m).map (numM n r ss)) M wr hbl HO.out (by rw [HSL.out]; omega) (by omega)
        have HT := Lib.hid (show (setsTo en (m + 1)).map (numM n r ss) = (setsTo en m).map (numM n r ss) ++ [numM n r ss (pick en M)] by
          unfold setsTo
          rw [List.range_succ, List.map_append, List.map_append, hMm]
          rfl)
        have hwM : IntKind.u64.wrap ((M : Int) + 1) = ((M + 1 : Nat) : Int) := u64_add (by omega)
        have HMM := Lib.hid hMm; clear hMm
        go_wp2_with fail
        refine J.out.mono ?_
        rintro e w7 ⟨⟨vv, rfl⟩, HO', hb7⟩
        go_wp2_with fail
        go_roundw
        case rel => exact ⟨M + 1, m + 1, by rw [HMM.out], by omega, by simp, by rw [HT.out]; exact HO', hbl.trans hb7⟩
        case measure => simp [intOf]; omega
      · have hltI : ¬ (M : Int) ≤ ((N - 1 : Nat) : Int) := by omega
        have hm : m = N - 1 := by omega
        rw [hm] at HO
        clear HCL hMm hm
        generalize ((setsTo en (N - 1)).map (numM n r ss)) = L at *
        obtain ⟨uo, o7, o7f, oown⟩ := HO.out
        obtain ⟨gu, cu, rfl⟩ := own_some2 oown HLP.out
        have HOW := Lib.hid oown; clear oown
        go_wp2_with fail
        refine (impl_SortOwn _ L (w5.heap.size + 1) wr HOW.out (by simp) (by have := HLL.out; omega)).mono ?_
        rintro e w8 ⟨rfl, ⟨ys, hperm, hsort, oown8⟩, hb8⟩
        have o8 := (hb8.cell (p := ⟨w5.heap.size, 0, none⟩) (Nat.lt_succ_self _)).trans o7
        have HPS := Lib.hid (And.intro hperm hsort); clear hperm hsort
        have HO8 := Lib.hid oown8; clear oown8 o7 o7f
        go_wp2_with fail
        refine (impl_CompactOwn _ ys (w5.heap.size + 1) w8 HO8.out (by simp) (by have := HLL.out; rw [HPS.out.1.length_eq]; omega)).mono ?_
        rintro e w9 ⟨u9, rfl, own9, hb9⟩
        rw [(puts_compact HPS.out.1 HPS.out.2).trans HLN.out] at own9
        obtain ⟨A9, c9, rfl⟩ := own_sl own9
        have HO9 := Lib.hid own9; clear own9
        go_wp2_with fail
        go_ret
        have hz6' := HB6.out.size
        exact ⟨_, rfl, ⟨_, _, _, rfl⟩, own_intsR HO9.out HI64.out, own_mono HO9.out (by omega), HB6.out.trans ((hbl.mono (by omega)).trans ((hb8.mono (by omega)).trans (hb9.mono (by omega))))⟩
  · go_simp
    obtain ⟨w3, hw3, hb3, HB6, hz3', HS3⟩ := box1 w2 (.slice none 0 0) 23
    rw [← hw3]
    have hz3 := hb3.size
    clear hw3
    replace a0 := (hb3.cell (p := ⟨G, 0, none⟩) (by show G < w2.heap.size; omega)).trans a0
    replace a1 := (hb3.cell (p := ⟨G, 1, none⟩) (by show G < w2.heap.size; omega)).trans a1
    replace a2 := (hb3.cell (p := ⟨G, 2, none⟩) (by show G < w2.heap.size; omega)).trans a2
    replace a3 := (hb3.cell (p := ⟨G, 3, none⟩) (by show G < w2.heap.size; omega)).trans a3
    replace k2 := (hb3.cell (p := ⟨w.heap.size, 0, none⟩) (by show w.heap.size < w2.heap.size; omega)).trans k2
    replace k5 := (hb3.cell (p := ⟨w1.heap.size, 0, none⟩) (by show w1.heap.size < w2.heap.size; omega)).trans k5
    refine hK.out _ _ ?_ (fun hHeld => ?_)
    · go_keep
    clear hK K
    try simp only [Act.put, pu]
    refine wpAnyH_ready (rs := [9]) (by kernel_rfl) (by simp) ?_
    refine AllReadyH.cons rfl (fun K hK => ?_) AllReadyH.nil
    go_simp
    go_at_call 117
    refine (impl_enabledNodes _ _ _ _ n r ss w3.drew ((HEN2.out.up hb3).up (Below.refl _ _).drew) HA.out ((((HST2.out.below hb3).more hb3.size).below (Below.refl _ _).drew).more (Nat.le_refl _)) HS.out).mono ?_
    rintro e w4 ⟨u3, rfl, ⟨g6, c6, rfl, hg6⟩, hu3, hb4'⟩
    have hb4 : Below w3.heap.size w3 w4 := (Below.refl _ _).drew.trans hb4'
    clear hb4'
    replace hg6 : w3.heap.size ≤ g6 := hg6
    have hz4 := hb4.size
    have HEN4 := Lib.hid hu3
    have q6 : w4.cell? ⟨w2.heap.size, 0, none⟩ = some (.slice none 0 0) := (hb4.cell (p := ⟨w2.heap.size, 0, none⟩) (by show w2.heap.size < w3.heap.size; omega)).trans (cell_of_row _ _ 0 _ _ (0, 0) HB6.out)
    have f6 : w4.frozen? ⟨w2.heap.size, 0, none⟩ = false := (hb4.frozen (p := ⟨w2.heap.size, 0, none⟩) (by show w2.heap.size < w3.heap.size; omega)).trans (frozen_of_row _ _ 0 _ _ HB6.out)
    have hb24 := hb3.trans (hb4.mono hz3)
    replace a0 := (hb4.cell (p := ⟨G, 0, none⟩) (by show G < w3.heap.size; omega)).trans a0
    replace a1 := (hb4.cell (p := ⟨G, 1, none⟩) (by show G < w3.heap.size; omega)).trans a1
    replace a2 := (hb4.cell (p := ⟨G, 2, none⟩) (by show G < w3.heap.size; omega)).trans a2
    replace a3 := (hb4.cell (p := ⟨G, 3, none⟩) (by show G < w3.heap.size; omega)).trans a3
    replace k2 := (hb4.cell (p := ⟨w.heap.size, 0, none⟩) (by show w.heap.size < w3.heap.size; omega)).trans k2
    replace k5 := (hb4.cell (p := ⟨w1.heap.size, 0, none⟩) (by show w1.heap.size < w3.heap.size; omega)).trans k5
    clear hu3 HB6
    obtain ⟨P6, hP6⟩ : ∃ z, z = w2.heap.size := ⟨_, rfl⟩
    rw [← hP6] at q6 f6 ⊢
    have hp6 : w2.heap.size ≤ P6 ∧ P6 < w4.heap.size ∧ (P6 ≠ g6 ∨ (enS n r ss).length = 0) := by omega
    clear hP6
    have n0 : P6 ≠ G := by omega
    have n1 : P6 ≠ w.heap.size := by omega
    have n2 : P6 ≠ w1.heap.size := by omega
    refine hK.out _ _ ?_ (fun hHeld => ?_)
    · go_keep
    clear hK K
    try simp only [Act.put, pu]
    refine wpAnyH_ready (rs := [11]) (by kernel_rfl) (by simp) ?_
    refine AllReadyH.cons rfl (fun K hK => ?_) AllReadyH.nil
    go_simp
    refine hK.out _ _ ?_ (fun hHeld => ?_)
    · go_keep
    clear hK K
    try simp only [Act.put, pu]
    refine wpAnyH_done (by kernel_rfl) ?_ _
    obtain ⟨w5, hw5⟩ : ∃ z, z = w4.setCell ⟨P6, 0, none⟩ (.slice (some ⟨g6, 0, none⟩) (enS n r ss).length c6) := ⟨_, rfl⟩
    rw [← hw5]
    have hs5 : ∀ q : Addr, P6 ≠ q.block → w5.cell? q = w4.cell? q := fun q hq => by rw [hw5]; exact World.cell?_setCell_far _ _ _ _ hq
    have q6' : w5.cell? ⟨P6, 0, none⟩ = some (.slice (some ⟨g6, 0, none⟩) (enS n r ss).length c6) := by rw [hw5]; exact World.cell?_setCell_same' _ _ _ (by rw [q6]; rfl)
    have hz5 : w5.heap.size = w4.heap.size := by rw [hw5]; exact size_setCell _ _ _
    have hb25 : Below w2.heap.size w2 w5 := by rw [hw5]; exact hb24.setCell (p := ⟨P6, 0, none⟩) hp6.1 _
    have HEN5 := Lib.hid (ints_far hs5 hp6.2.2 HEN4.out)
    replace a0 := (hs5 ⟨G, 0, none⟩ n0).trans a0
    replace a1 := (hs5 ⟨G, 1, none⟩ n0).trans a1
    replace a2 := (hs5 ⟨G, 2, none⟩ n0).trans a2
    replace a3 := (hs5 ⟨G, 3, none⟩ n0).trans a3
    replace k2 := (hs5 ⟨w.heap.size, 0, none⟩ n1).trans k2
    replace k5 := (hs5 ⟨w1.heap.size, 0, none⟩ n2).trans k5
    have hBw5 := hB2.trans (hb25.mono hzw)
    have a5 := (hBw5.cell (p := ⟨G, 5, none⟩) hGl).trans g5
    have a4 := (hBw5.cell (p := ⟨G, 4, none⟩) hGl).trans g4
    obtain ⟨w6, hw6, hb6, HB7, hz6, HS6⟩ := box1 w5 (.slice none 0 0) 23
    have hz25 := hb25.size
    have HSU : Hid (SuAt w.heap.size w1.heap.size P6 w5.heap.size G A0 A1 A2 Ac m0 c0 m1 c1 m2 c2 mc cc c6 cs ⟨g6, 0, none⟩ sd n r ss (enS n r ss) w6) := Lib.hid
      ⟨(HEN2.out.up hb25).below hb6, (hb6.cell (p := ⟨G, 0, none⟩) (by show G < w5.heap.size; omega)).trans a0, (hb6.cell (p := ⟨G, 1, none⟩) (by show G < w5.heap.size; omega)).trans a1, (hb6.cell (p := ⟨G, 2, none⟩) (by show G < w5.heap.size; omega)).trans a2,
        (hb6.cell (p := ⟨G, 3, none⟩) (by show G < w5.heap.size; omega)).trans a3, (hb6.cell (p := ⟨G, 5, none⟩) (by show G < w5.heap.size; omega)).trans a5, ((HCI.out.below hBw5).more hBw5.size).below hb6, ((HST2.out.below hb25).more hb25.size).below hb6, (by rw [hz5] at hb6 ⊢; exact HEN5.out.below hb6),
        (hb6.cell (p := ⟨w.heap.size, 0, none⟩) (by show w.heap.size < w5.heap.size; omega)).trans k2, (hb6.cell (p := ⟨w1.heap.size, 0, none⟩) (by show w1.heap.size < w5.heap.size; omega)).trans k5, (hb6.cell (p := ⟨P6, 0, none⟩) (by show P6 < w5.heap.size; omega)).trans q6', by omega⟩
    have HOUT : Hid (OutAt w5.heap.size [] w6) := Lib.hid ⟨.slice none 0 0, cell_of_row _ _ 0 _ _ (0, 0) HB7.out, frozen_of_row _ _ 0 _ _ HB7.out, World.ownsRow_nil _ _ _ _⟩
    have HB6 := Lib.hid (hBw5.trans (hb6.mono (by omega)))
    have b2 := HSU.out.p2
    have b4 := (hb6.cell (p := ⟨G, 4, none⟩) (by show G < w5.heap.size; omega)).trans a4
    have b6 := HSU.out.p6
    have c2' := b2
    have c4' := b4
    have c6' := b6
    rw [hw6] at c2' c4' c6'
    have HW6 := Lib.hid hw6
    have HCL := fun outs m W hW ho hol hm => Lib.hid (closure_add w.heap.size w1.heap.size P6 w5.heap.size G A0 A1 A2 Ac m0 c0 m1 c1 m2 c2 mc cc c6 cs ⟨g6, 0, none⟩ sd n r ss (enS n r ss) outs m W (HSU.out.up hW) ho HA.out HFW.out HS.out HEM.out (by omega) hol hm)
    have hz25' : w.heap.size ≤ w5.heap.size := by omega
    clear hw6 hw5 hs5 q6 q6' f6 a0 a1 a2 a3 a4 a5 k2 k5 hz5 hp6 hg6 n0 n1 n2
    generalize enS n r ss = en at *
    have hu1 : IntKind.u64.wrap ((2 : Int) ^ en.length) = ((2 ^ en.length : Nat) : Int) := u64_pow (by omega)
    have hN41 : 2 ^ en.length < 2 ^ 41 := Nat.pow_lt_pow_right (by omega) (by omega)
    have hN1 : 1 ≤ 2 ^ en.length := Nat.one_le_two_pow
    have hu2 : IntKind.u64.wrap (((2 ^ en.length : Nat) : Int) - 1) = ((2 ^ en.length - 1 : Nat) : Int) := u64_sub hN1 hN41
    by_cases he : en = []
    · have HE := Lib.hid (show nextN n r d x = [] by rw [HNX.out, he]; unfold setsS; rw [if_pos rfl]; rfl)
      have kall : (((2 ^ en.length - 1 : Nat) : Int) == 0) = true := by rw [he]; rfl
      clear he HCL
      generalize 2 ^ en.length = N at *
      go_wp2_with fail
      go_ret
      exact ⟨_, rfl, ⟨_, _, _, rfl⟩, by rw [HE.out]; exact ints_nil _ _, by rw [HE.out]; exact World.ownsRow_nil _ _ _ _, by rw [← HW6.out]; exact HB6.out⟩
    have hpos : 0 < en.length := List.length_pos_iff.2 he
    have hN2 : 1 < 2 ^ en.length := Nat.one_lt_two_pow (by omega)
    have kall : (((2 ^ en.length - 1 : Nat) : Int) == 0) = false := by rw [beq_eq_false_iff_ne]; omega
    have HPN := Lib.hid (pick_all en)
    have HI64 := Lib.hid (show ∀ z ∈ nextN n r d x, I64 z from fun z hz => by
      have h1 := nextN_bd HA.out HFW.out hx0 z hz
      have h2 := HFW.out.2.1
      unfold I64
      omega)
    by_cases hd2 : d = 2
    · subst hd2
      have HLN := Lib.hid (show [numM n r ss en].foldl putS [] = nextN n r 2 x by rw [HNX.out]; unfold setsS; rw [if_neg he, if_pos rfl]; rfl)
      have HLP := Lib.hid (show 0 < [numM n r ss en].length by simp)
      have HLL := Lib.hid (show [numM n r ss en].length ≤ 1000 by simp)
      have J := HCL [] (2 ^ en.length - 1) w6 (Below.refl _ _) HOUT.out (by simp) (by omega)
      rw [HPN.out] at J
      clear HCL he
      generalize 2 ^ en.length = N at *
      go_wp2_with fail
      rw [← HW6.out]
      refine J.out.mono ?_
      rintro e w7 ⟨⟨vv, rfl⟩, HO', hb7⟩
      rw [List.nil_append] at HO'
      have HO := Lib.hid HO'; clear HO' J
      generalize [numM n r ss en] = L at *
      obtain ⟨uo, o7, o7f, oown⟩ := HO.out
      obtain ⟨gu, cu, rfl⟩ := own_some2 oown HLP.out
      have HOW := Lib.hid oown; clear oown
      go_wp2_with fail
      refine (impl_SortOwn _ L (w5.heap.size + 1) w7 HOW.out (by simp) (by have := HLL.out; omega)).mono ?_
      rintro e w8 ⟨rfl, ⟨ys, hperm, hsort, oown8⟩, hb8⟩
      have o8 := (hb8.cell (p := ⟨w5.heap.size, 0, none⟩) (Nat.lt_succ_self _)).trans o7
      have HPS := Lib.hid (And.intro hperm hsort); clear hperm hsort
      have HO8 := Lib.hid oown8; clear oown8 o7 o7f
      go_wp2_with fail
      refine (impl_CompactOwn _ ys (w5.heap.size + 1) w8 HO8.out (by simp) (by have := HLL.out; rw [HPS.out.1.length_eq]; omega)).mono ?_
      rintro e w9 ⟨u9, rfl, own9, hb9⟩
      rw [(puts_compact HPS.out.1 HPS.out.2).trans HLN.out] at own9
      obtain ⟨A9, c9, rfl⟩ := own_sl own9
      have HO9 := Lib.hid own9; clear own9
      go_wp2_with fail
      go_ret
      have hz6' := HB6.out.size
      exact ⟨_, rfl, ⟨_, _, _, rfl⟩, own_intsR HO9.out HI64.out, own_mono HO9.out (by omega), HB6.out.trans ((hb7.mono (by omega)).trans ((hb8.mono (by omega)).trans (hb9.mono (by omega))))⟩
    have kd2 : (d == 2) = false := by simpa using hd2
    by_cases hd1 : d = 1
    · subst hd1
      have HLN := Lib.hid (show (en.map fun v => numM n r ss [v]).foldl putS [] = nextN n r 1 x by rw [HNX.out]; unfold setsS; rw [if_neg he, if_neg hd2, if_pos rfl, List.map_map]; rfl)
      have HLP := Lib.hid (show 0 < (en.map fun v => numM n r ss [v]).length by rw [List.length_map]; omega)
      have HLL := Lib.hid (show (en.map fun v => numM n r ss [v]).length ≤ 1000 by rw [List.length_map]; omega)
      clear he
      generalize 2 ^ en.length = N at *
      go_wp2_with fail
      rw [← HW6.out]
      go_loopw [10, 58] (fun _ i wr => OneRel n r ss en w5.heap.size w6 i wr) (fun _ i _ => en.length - (intOf i).toNat)
      case atStart => exact ⟨0, Nat.zero_le _, rfl, HOUT.out, Below.refl _ _⟩
      case round =>
        obtain ⟨k, hk, rfl, hok, hbl⟩ := hrel
        have HO := Lib.hid hok; clear hok
        by_cases hlt : k < en.length
        · obtain ⟨v, hv⟩ : ∃ v, en[k]? = some v := ⟨_, List.getElem?_eq_getElem hlt⟩
          have hw1 : IntKind.u64.wrap ((2 : Int) ^ k) = ((2 ^ k : Nat) : Int) := u64_pow (by omega)
          have hk41 : 2 ^ k < 2 ^ 41 := Nat.pow_lt_pow_right (by omega) (by omega)
          have J := HCL ((en.take k).map fun v => numM n r ss [v]) (2 ^ k) wr hbl HO.out (by rw [List.length_map, List.length_take]; omega) hk41
          rw [pick_one hv] at J
          have HT := Lib.hid (show (en.take (k + 1)).map (fun v => numM n r ss [v]) = (en.take k).map (fun v => numM n r ss [v]) ++ [numM n r ss [v]] by rw [take_snoc hv, List.map_append]; rfl)
          clear hv
          generalize 2 ^ k = K2 at *
          go_wp2_with fail
          refine J.out.mono ?_
          rintro e w7 ⟨⟨vv, rfl⟩, HO', hb7⟩
          go_wp2_with fail
          go_roundw
          case rel => exact ⟨k + 1, by omega, by go_num, by rw [HT.out]; exact HO', hbl.trans hb7⟩
          case measure => simp [intOf]; omega
        · obtain rfl : k = en.length := by omega
          rw [List.take_length] at HO
          clear HCL
          generalize (en.map fun v => numM n r ss [v]) = L at *
          obtain ⟨uo, o7, o7f, oown⟩ := HO.out
          obtain ⟨gu, cu, rfl⟩ := own_some2 oown HLP.out
          have HOW := Lib.hid oown; clear oown
          go_wp2_with fail
          refine (impl_SortOwn _ L (w5.heap.size + 1) wr HOW.out (by simp) (by have := HLL.out; omega)).mono ?_
          rintro e w8 ⟨rfl, ⟨ys, hperm, hsort, oown8⟩, hb8⟩
          have o8 := (hb8.cell (p := ⟨w5.heap.size, 0, none⟩) (Nat.lt_succ_self _)).trans o7
          have HPS := Lib.hid (And.intro hperm hsort); clear hperm hsort
          have HO8 := Lib.hid oown8; clear oown8 o7 o7f
          go_wp2_with fail
          refine (impl_CompactOwn _ ys (w5.heap.size + 1) w8 HO8.out (by simp) (by have := HLL.out; rw [HPS.out.1.length_eq]; omega)).mono ?_
          rintro e w9 ⟨u9, rfl, own9, hb9⟩
          rw [(puts_compact HPS.out.1 HPS.out.2).trans HLN.out] at own9
          obtain ⟨A9, c9, rfl⟩ := own_sl own9
          have HO9 := Lib.hid own9; clear own9
          go_wp2_with fail
          go_ret
          have hz6' := HB6.out.size
          exact ⟨_, rfl, ⟨_, _, _, rfl⟩, own_intsR HO9.out HI64.out, own_mono HO9.out (by omega), HB6.out.trans ((hbl.mono (by omega)).trans ((hb8.mono (by omega)).trans (hb9.mono (by omega))))⟩
    have kd1 : (d == 1) = false := by simpa using hd1
    have hl6 : en.length ≤ 6 := by have := HD6.out hd1 hd2; omega
    have HLN := Lib.hid (show ((setsTo en (2 ^ en.length - 1)).map (numM n r ss)).foldl putS [] = nextN n r d x by rw [HNX.out]; unfold setsS setsTo; rw [if_neg he, if_neg hd2, if_neg hd1])
    have hNl : 2 ^ en.length ≤ 64 := Nat.le_trans (Nat.pow_le_pow_right (by omega) hl6) (by omega)
    have hsl : ∀ m, ((setsTo en m).map (numM n r ss)).length = m := fun m => by unfold setsTo; rw [List.length_map, List.length_map, List.length_range]
    have HLP := Lib.hid (show 0 < ((setsTo en (2 ^ en.length - 1)).map (numM n r ss)).length by rw [hsl]; omega)
    have HLL := Lib.hid (show ((setsTo en (2 ^ en.length - 1)).map (numM n r ss)).length ≤ 1000 by rw [hsl]; omega)
    have HSL := Lib.hid hsl; clear hsl
    clear he
    generalize 2 ^ en.length = N at *
    go_wp2_with fail
    rw [← HW6.out]
    go_loopw [11] (fun sv wr => ManyRel n r ss en N w5.heap.size w6 sv wr) (fun sv _ => N - (intOf sv).toNat)
    case atStart => exact ⟨1, 0, rfl, by omega, rfl, HOUT.out, Below.refl _ _⟩
    case round =>
      obtain ⟨M, m, hMm, hMN, rfl, hok, hbl⟩ := hrel
      have HO := Lib.hid hok; clear hok
      have hM1 : 1 ≤ M := by omega
      by_cases hlt : M ≤ N - 1
      · have hltI : (M : Int) ≤ ((N - 1 : Nat) : Int) := by omega
        have J := HCL ((setsTo en m).map (numM n r ss)) M wr hbl HO.out (by rw [HSL.out]; omega) (by omega)
        have HT := Lib.hid (show (setsTo en (m + 1)).map (numM n r ss) = (setsTo en m).map (numM n r ss) ++ [numM n r ss (pick en M)] by
          unfold setsTo
          rw [List.range_succ, List.map_append, List.map_append, hMm]
          rfl)
        have hwM : IntKind.u64.wrap ((M : Int) + 1) = ((M + 1 : Nat) : Int) := u64_add (by omega)
        have HMM := Lib.hid hMm; clear hMm
        go_wp2_with fail
        refine J.out.mono ?_
        rintro e w7 ⟨⟨vv, rfl⟩, HO', hb7⟩
        go_wp2_with fail
        go_roundw
        case rel => exact ⟨M + 1, m + 1, by rw [HMM.out], by omega, by simp, by rw [HT.out]; exact HO', hbl.trans hb7⟩
        case measure => simp [intOf]; omega
      · have hltI : ¬ (M : Int) ≤ ((N - 1 : Nat) : Int) := by omega
        have hm : m = N - 1 := by omega
        rw [hm] at HO
        clear HCL hMm hm
        generalize ((setsTo en (N - 1)).map (numM n r ss)) = L at *
        obtain ⟨uo, o7, o7f, oown⟩ := HO.out
        obtain ⟨gu, cu, rfl⟩ := own_some2 oown HLP.out
        have HOW := Lib.hid oown; clear oown
        go_wp2_with fail
        refine (impl_SortOwn _ L (w5.heap.size + 1) wr HOW.out (by simp) (by have := HLL.out; omega)).mono ?_
        rintro e w8 ⟨rfl, ⟨ys, hperm, hsort, oown8⟩, hb8⟩
        have o8 := (hb8.cell (p := ⟨w5.heap.size, 0, none⟩) (Nat.lt_succ_self _)).trans o7
        have HPS := Lib.hid (And.intro hperm hsort); clear hperm hsort
        have HO8 := Lib.hid oown8; clear oown8 o7 o7f
        go_wp2_with fail
        refine (impl_CompactOwn _ ys (w5.heap.size + 1) w8 HO8.out (by simp) (by have := HLL.out; rw [HPS.out.1.length_eq]; omega)).mono ?_
        rintro e w9 ⟨u9, rfl, own9, hb9⟩
        rw [(puts_compact HPS.out.1 HPS.out.2).trans HLN.out] at own9
        obtain ⟨A9, c9, rfl⟩ := own_sl own9
        have HO9 := Lib.hid own9; clear own9
        go_wp2_with fail
        go_ret
        have hz6' := HB6.out.size
        exact ⟨_, rfl, ⟨_, _, _, rfl⟩, own_intsR HO9.out HI64.out, own_mono HO9.out (by omega), HB6.out.trans ((hbl.mono (by omega)).trans ((hb8.mono (by omega)).trans (hb9.mono (by omega))))⟩
end Go.Proofs.YthfgklckmedggaaGreat
