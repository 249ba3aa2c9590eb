/-
  Rankings that are given, the program's side: isRanking, CheckRanking.
-/
import Derived.Test.YthfgklckmedggaaGreatNetAllJ
import Derived.Test.YthfgklckmedggaaGreatNetCrS
namespace Go.Proofs.YthfgklckmedggaaGreat
open Go.RowKit
set_option linter.unusedVariables false
set_option linter.unusedSimpArgs false
def negP (r : Int) : Bool := decide (r < 0)
theorem closure_r1 (r : Int) (w : World) :
    Calls Tryz.prog 68 #[.int .i64 r] w fun e w' => e = .returned (.bool (negP r)) ∧ Below w.heap.size w w' := by
  have HN := Lib.hid (show negP r = decide (r < 0) from rfl)
  by_cases h : r < 0
  · go_enter Tryz.func68, Tryz.ntmps68
    go_wp2_with fail
    go_ret
    exact ⟨ret_bool (by rw [HN.out, decide_eq_true h]), Below.refl _ _⟩
  · go_enter Tryz.func68, Tryz.ntmps68
    go_wp2_with fail
    go_ret
    exact ⟨ret_bool (by rw [HN.out, decide_eq_false (show ¬ r < 0 by omega)]), Below.refl _ _⟩
def notLess (dd : List Bool) (ss : List Int) (v s : Int) : Bool := badP dd s && decide (v ≤ ss.getD s.toNat 0)
set_option maxRecDepth 100000 in
set_option maxHeartbeats 1000000 in
theorem closure_r2 (P1 P2 P3 G T : Nat) (lv nv : Value) (As : Option Addr) (cs : Nat) (N : List (List Int)) (dd : List Bool) (ss : List Int) (k : Nat) (v s : Int) (w : World) (hx : Xd w G T lv nv N dd) (p1 : w.cell? ⟨P1, 0, none⟩ = some (.pointer (some ⟨G, 0, none⟩))) (p2 : w.cell? ⟨P2, 0, none⟩ = some (.slice As ss.length cs)) (p3 : w.cell? ⟨P3, 0, none⟩ = some (.int .i64 (k : Int)))
    (hI : IntsR w w.heap.size (.slice As ss.length cs) ss) (hl : ss.length = T) (hv : ss[k]? = some v) (hs : 0 ≤ s ∧ s < T) :
    Calls Tryz.prog 69 #[.int .i64 s, .pointer (some ⟨P1, 0, none⟩), .pointer (some ⟨P2, 0, none⟩), .pointer (some ⟨P3, 0, none⟩)] w fun e w' => e = .returned (.bool (notLess dd ss v s)) ∧ Below w.heap.size w w' := by
  have hdT := hx.ok.d
  have hT3 := hx.ok.t
  obtain ⟨A9, c9, rfl, hc9, hcm9, hrow9⟩ := hx.b.open_
  obtain ⟨A', c', e, hcs, hcsm, hrs⟩ := hI.open_
  cases e
  unfold maxLen at hcm9 hcsm
  have a7 := hx.c7
  obtain ⟨sn, rfl⟩ : ∃ sn : Nat, s = sn := ⟨s.toNat, by omega⟩
  have hsl : sn < dd.length := by omega
  obtain ⟨b, hb⟩ : ∃ b, dd[sn]? = some b := ⟨_, List.getElem?_eq_getElem hsl⟩
  have hkl := (List.getElem?_eq_some_iff.1 hv).1
  obtain ⟨z, hz⟩ : ∃ z, ss[sn]? = some z := ⟨_, List.getElem?_eq_getElem (by omega)⟩
  obtain ⟨a9, rfl, hab9, hr9⟩ := hrow9 (by omega)
  obtain ⟨az, rfl, has, hrs⟩ := hrs (by omega)
  have hcb := hr9 sn b hb
  have hcz := hrs sn z hz
  have hcv := hrs k v hv
  have HF := Lib.hid (show (!b && decide (v ≤ z)) = notLess dd ss v (sn : Int) by unfold notLess badP; rw [Int.toNat_natCast, getDa hb, List.getD_eq_getElem?_getD, hz]; rfl)
  have hdl : dd.length ≤ 3000 := by omega
  have hsl2 : sn < ss.length := by omega
  have hsl3 : ss.length ≤ 3000 := by omega
  clear hx hrow9 hr9 hb hdT hrs hz hv hI hl
  go_enter Tryz.func69, Tryz.ntmps69
  go_wp2_with fail
  cases b with
  | true =>
    refine wp_region_held_drew (S := fun w' => w'.cell? ⟨P1, 0, none⟩ = some (.pointer (some ⟨G, 0, none⟩)) ∧ w'.cell? ⟨G, 7, none⟩ = some (.slice (some a9) dd.length c9) ∧ w'.cell? (a9.add sn) = some (.bool true)) (by kernel_rfl) ?_ (fun hHeld => ?_)
    · go_keep
    refine tk 0 6 rfl rfl ?_
    try simp only [Act.put, pu]
    refine tk 1 7 rfl rfl ?_
    try simp only [Act.put, pu]
    refine tk 2 8 rfl rfl ?_
    try simp only [Act.put, pu]
    refine tk 3 9 rfl rfl ?_
    try simp only [Act.put, pu]
    refine tk 4 10 rfl rfl ?_
    try simp only [Act.put, pu]
    refine tk 5 11 rfl rfl ?_
    try simp only [Act.put, pu]
    refine tk 6 12 rfl rfl ?_
    try simp only [Act.put, pu]
    refine tk 7 13 rfl rfl ?_
    try simp only [Act.put, pu]
    refine tk 8 14 rfl rfl ?_
    try simp only [Act.put, pu]
    refine tn 9 15 rfl rfl ?_
    try simp only [Act.put, pu]
    refine tn 10 16 rfl rfl ?_
    try simp only [Act.put, pu]
    refine tn 11 17 rfl rfl ?_
    try simp only [Act.put, pu]
    refine tn 12 18 rfl rfl ?_
    try simp only [Act.put, pu]
    refine tn 13 19 rfl rfl ?_
    try simp only [Act.put, pu]
    refine tn 14 20 rfl rfl ?_
    try simp only [Act.put, pu]
    refine tn 15 21 rfl rfl ?_
    try simp only [Act.put, pu]
    refine tn 16 22 rfl rfl ?_
    try simp only [Act.put, pu]
    refine tn 17 23 rfl rfl ?_
    try simp only [Act.put, pu]
    refine tk 18 24 rfl rfl ?_
    try simp only [Act.put, pu]
    refine tk 19 5 rfl rfl ?_
    try simp only [Act.put, pu]
    refine wpAnyH_done (by kernel_rfl) ?_ _
    go_wp2_with fail
    go_ret
    exact ⟨ret_bool HF.out, (Below.refl _ _).drew⟩
  | false =>
    by_cases hzv : v ≤ z
    · rw [decide_eq_true hzv] at HF
      refine wp_region_held_drew (S := fun w' => w'.cell? ⟨P1, 0, none⟩ = some (.pointer (some ⟨G, 0, none⟩)) ∧ w'.cell? ⟨G, 7, none⟩ = some (.slice (some a9) dd.length c9) ∧ w'.cell? (a9.add sn) = some (.bool false) ∧ w'.cell? ⟨P2, 0, none⟩ = some (.slice (some az) ss.length cs) ∧ w'.cell? ⟨P3, 0, none⟩ = some (.int .i64 (k : Int)) ∧ w'.cell? (az.add sn) = some (.int .i64 z) ∧ w'.cell? (az.add k) = some (.int .i64 v)) (by kernel_rfl) ?_ (fun hHeld => ?_)
      · go_keep
      refine tk 0 6 rfl rfl ?_
      try simp only [Act.put, pu]
      refine tk 1 7 rfl rfl ?_
      try simp only [Act.put, pu]
      refine tk 2 8 rfl rfl ?_
      try simp only [Act.put, pu]
      refine tk 3 9 rfl rfl ?_
      try simp only [Act.put, pu]
      refine tk 4 10 rfl rfl ?_
      try simp only [Act.put, pu]
      refine tk 5 11 rfl rfl ?_
      try simp only [Act.put, pu]
      refine tk 6 12 rfl rfl ?_
      try simp only [Act.put, pu]
      refine tk 7 13 rfl rfl ?_
      try simp only [Act.put, pu]
      refine tk 8 14 rfl rfl ?_
      try simp only [Act.put, pu]
      refine tk 9 15 rfl rfl ?_
      try simp only [Act.put, pu]
      refine tk 10 16 rfl rfl ?_
      try simp only [Act.put, pu]
      refine tk 11 17 rfl rfl ?_
      try simp only [Act.put, pu]
      refine tk 12 18 rfl rfl ?_
      try simp only [Act.put, pu]
      refine tk 13 19 rfl rfl ?_
      try simp only [Act.put, pu]
      refine tk 14 20 rfl rfl ?_
      try simp only [Act.put, pu]
      refine tk 15 21 rfl rfl ?_
      try simp only [Act.put, pu]
      refine tk 16 22 rfl rfl ?_
      try simp only [Act.put, pu]
      refine tk 17 23 rfl rfl ?_
      try simp only [Act.put, pu]
      refine tk 18 24 rfl rfl ?_
      try simp only [Act.put, pu]
      refine tk 19 5 rfl rfl ?_
      try simp only [Act.put, pu]
      refine wpAnyH_done (by kernel_rfl) ?_ _
      go_wp2_with fail
      go_ret
      exact ⟨ret_bool HF.out, (Below.refl _ _).drew⟩
    · rw [decide_eq_false hzv] at HF
      refine wp_region_held_drew (S := fun w' => w'.cell? ⟨P1, 0, none⟩ = some (.pointer (some ⟨G, 0, none⟩)) ∧ w'.cell? ⟨G, 7, none⟩ = some (.slice (some a9) dd.length c9) ∧ w'.cell? (a9.add sn) = some (.bool false) ∧ w'.cell? ⟨P2, 0, none⟩ = some (.slice (some az) ss.length cs) ∧ w'.cell? ⟨P3, 0, none⟩ = some (.int .i64 (k : Int)) ∧ w'.cell? (az.add sn) = some (.int .i64 z) ∧ w'.cell? (az.add k) = some (.int .i64 v)) (by kernel_rfl) ?_ (fun hHeld => ?_)
      · go_keep
      refine tk 0 6 rfl rfl ?_
      try simp only [Act.put, pu]
      refine tk 1 7 rfl rfl ?_
      try simp only [Act.put, pu]
      refine tk 2 8 rfl rfl ?_
      try simp only [Act.put, pu]
      refine tk 3 9 rfl rfl ?_
      try simp only [Act.put, pu]
      refine tk 4 10 rfl rfl ?_
      try simp only [Act.put, pu]
      refine tk 5 11 rfl rfl ?_
      try simp only [Act.put, pu]
      refine tk 6 12 rfl rfl ?_
      try simp only [Act.put, pu]
      refine tk 7 13 rfl rfl ?_
      try simp only [Act.put, pu]
      refine tk 8 14 rfl rfl ?_
      try simp only [Act.put, pu]
      refine tk 9 15 rfl rfl ?_
      try simp only [Act.put, pu]
      refine tk 10 16 rfl rfl ?_
      try simp only [Act.put, pu]
      refine tk 11 17 rfl rfl ?_
      try simp only [Act.put, pu]
      refine tk 12 18 rfl rfl ?_
      try simp only [Act.put, pu]
      refine tk 13 19 rfl rfl ?_
      try simp only [Act.put, pu]
      refine tk 14 20 rfl rfl ?_
      try simp only [Act.put, pu]
      refine tk 15 21 rfl rfl ?_
      try simp only [Act.put, pu]
      refine tk 16 22 rfl rfl ?_
      try simp only [Act.put, pu]
      refine tk 17 23 rfl rfl ?_
      try simp only [Act.put, pu]
      refine tk 18 24 rfl rfl ?_
      try simp only [Act.put, pu]
      refine tk 19 5 rfl rfl ?_
      try simp only [Act.put, pu]
      refine wpAnyH_done (by kernel_rfl) ?_ _
      go_wp2_with fail
      go_ret
      exact ⟨ret_bool HF.out, (Below.refl _ _).drew⟩
def CiRow (N : List (List Int)) (dd : List Bool) (ss : List Int) (k : Nat) : Prop := ∀ j, j < k → rowAt N dd ss j
def IrRel (N : List (List Int)) (dd : List Bool) (ss : List Int) (w : World) (i : Value) (wr : World) : Prop := Below w.heap.size w wr ∧ ∃ k : Nat, k ≤ N.length ∧ i = .int .i64 k ∧ CiRow N dd ss k
theorem CiRow.next {N : List (List Int)} {dd : List Bool} {ss l : List Int} {k : Nat} (h : CiRow N dd ss k) (hl : N[k]? = some l) (hk : dd.getD k false = false → l ≠ [] ∧ ∀ y ∈ l, dd.getD y.toNat false = false → ss.getD y.toNat 0 < ss.getD k 0) : CiRow N dd ss (k + 1) := fun j hj => by
  rcases Nat.lt_or_ge j k with h1 | h1
  · exact h j h1
  · obtain rfl : j = k := by omega
    intro m hm hd
    obtain rfl := Option.some.inj (hl.symm.trans hm)
    exact hk hd
theorem cr_neg_any {N : List (List Int)} {dd : List Bool} {T : Nat} {ss : List Int} (hl : ss.length = T) (h : ss.any negP = true) : crB N dd T ss = false := by
  obtain ⟨r, hr, hn⟩ := List.any_eq_true.1 h
  obtain ⟨k, hk⟩ := List.mem_iff_getElem?.1 hr
  have hkl := (List.getElem?_eq_some_iff.1 hk).1
  refine cr_neg (k := k) (by omega) ?_
  rw [List.getD_eq_getElem?_getD, hk]
  exact of_decide_eq_true hn
theorem cr_all {N : List (List Int)} {dd : List Bool} {T : Nat} {ss : List Int} (hl : ss.length = T) (hN : N.length = T) (h : ss.any negP = false) (hc : closedB N dd = true) (hr : CiRow N dd ss N.length) : crB N dd T ss = true :=
  cr_t (fun k hk => ⟨by
    have hkl : k < ss.length := by omega
    rw [List.any_eq_false] at h
    have := h ss[k] (List.getElem_mem hkl)
    rw [List.getD_eq_getElem?_getD, List.getElem?_eq_getElem hkl]
    unfold negP at this
    have := of_decide_eq_false (Bool.not_eq_true _ ▸ this)
    simpa using this, hr k (by omega)⟩) hl hc
theorem notLess_f {dd : List Bool} {ss l : List Int} {v : Int} (h : l.any (notLess dd ss v) = false) : ∀ y ∈ l, dd.getD y.toNat false = false → ss.getD y.toNat 0 < v := fun y hy hd => by
  rw [List.any_eq_false] at h
  have := h y hy
  unfold notLess badP at this
  rw [hd] at this
  simpa using this
theorem notLess_t {dd : List Bool} {ss l : List Int} {v : Int} (h : l.any (notLess dd ss v) = true) : ∃ y ∈ l, dd.getD y.toNat false = false ∧ v ≤ ss.getD y.toNat 0 := by
  obtain ⟨y, hy, h1⟩ := List.any_eq_true.1 h
  unfold notLess badP at h1
  rw [Bool.and_eq_true] at h1
  exact ⟨y, hy, by simpa using h1.1, of_decide_eq_true h1.2⟩
set_option maxRecDepth 100000 in
set_option maxHeartbeats 2000000 in
theorem impl_isRanking (G T : Nat) (lv nv vs : Value) (N : List (List Int)) (dd : List Bool) (ss : List Int) (w : World) (hx : Xd w G T lv nv N dd) (hss : IntsR w w.heap.size vs ss) (hl : ss.length ≤ 1048576) :
    Calls Tryz.prog 42 #[.pointer (some ⟨G, 0, none⟩), vs] w fun e w' => e = .returned (.bool (crB N dd T ss)) ∧ Below w.heap.size w w' := by
  have HI := Lib.hid hss
  obtain ⟨As, cs, rfl, hcs, hcsm, hrs⟩ := hss.open_
  unfold maxLen at hcsm
  clear hss hrs
  have hT3 := hx.ok.t
  obtain ⟨w1, hw1, hb1, HB1, hz1, HS1⟩ := box1 w (.pointer (some ⟨G, 0, none⟩)) 54
  obtain ⟨w2, hw2, hb2, HB2, hz2, HS2⟩ := box1 w1 (.slice As ss.length cs) 23
  have hB := bl_trans hb1 hb2
  have p1 : w2.cell? ⟨w.heap.size, 0, none⟩ = some (.pointer (some ⟨G, 0, none⟩)) := (hb2.cell (p := ⟨w.heap.size, 0, none⟩) hz1).trans (cell_of_row _ _ 0 _ _ (0, 0) HB1.out)
  have p2 : w2.cell? ⟨w1.heap.size, 0, none⟩ = some (.slice As ss.length cs) := cell_of_row _ _ 0 _ _ (0, 0) HB2.out
  have hX2 := hx.up hB
  have a6 := hX2.c6
  replace HI := Lib.hid ((HI.out.below hB).more hB.size)
  have HW := Lib.hid (show w2 = (w.alloc (.cells #[.pointer (some ⟨G, 0, none⟩)] 54)).alloc (.cells #[.slice As ss.length cs] 23) by rw [hw2, hw1])
  have HX := Lib.hid hX2
  have HPP := Lib.hid (And.intro p1 p2)
  obtain ⟨P2, hP2⟩ : ∃ z, z = w1.heap.size := ⟨_, rfl⟩
  have HS12 := Lib.hid (show w.heap.size + 1 = P2 by rw [hP2, HS1.out])
  rw [← hP2] at p2 HPP hz2
  have hP2w : w.heap.size < P2 := by rw [← HS12.out]; omega
  clear hx hX2 hw1 hw2 hP2 HB1 HB2 hb1 hb2 HS1 HS2 hz1
  have J1 := fun W (hW : Below w2.heap.size w2 W) => Lib.hid (contains_ints 68 #[] (enters_of Tryz.func68 (by kernel_rfl) rfl) negP _ ss W ((HI.out.below hW).more hW.size) (by omega) W.heap.size (Nat.le_refl _) (fun W' y hy hb => closure_r1 y W'))
  have hGl := HX.out.lt
  by_cases hlen : ss.length = T
  · have hle : (((ss.length : Nat) : Int) != ((T : Nat) : Int)) = false := by rw [hlen]; simp
    have HLEN := Lib.hid hlen
    clear hlen
    cases ha : ss.any negP with
    | true =>
      rw [ha] at J1
      have HF := Lib.hid (cr_neg_any (N := N) (dd := dd) HLEN.out ha).symm
      clear ha
      go_enter Tryz.func42, Tryz.ntmps42
      go_wp2_with fail
      rw [HS12.out, ← HW.out]
      refine wp_region_held_drew (S := fun w' => w'.cell? ⟨P2, 0, none⟩ = some (.slice As ss.length cs) ∧ w'.cell? ⟨w.heap.size, 0, none⟩ = some (.pointer (some ⟨G, 0, none⟩)) ∧ w'.cell? ⟨G, 6, none⟩ = some (.int .i64 (T : Int))) (by kernel_rfl) ?_ (fun hHeld => ?_)
      · go_keep
      refine tk 0 7 rfl rfl ?_
      try simp only [Act.put, pu]
      refine tk 1 8 rfl rfl ?_
      try simp only [Act.put, pu]
      refine tk 2 9 rfl rfl ?_
      try simp only [Act.put, pu]
      refine tk 3 10 rfl rfl ?_
      try simp only [Act.put, pu]
      refine tk 4 11 rfl rfl ?_
      try simp only [Act.put, pu]
      refine tk 5 12 rfl rfl ?_
      try simp only [Act.put, pu]
      refine tk 6 13 rfl rfl ?_
      try simp only [Act.put, pu]
      refine tk 7 14 rfl rfl ?_
      try simp only [Act.put, pu]
      refine tk 8 15 rfl rfl ?_
      try simp only [Act.put, pu]
      refine tr 9 rfl (by kernel_rfl) (fun K hK => ?_)
      go_simp
      go_at_call 62
      refine (J1 w2.drew (Below.refl _ _).drew).out.mono ?_
      rintro e w5 ⟨rfl, hb5'⟩
      have hb5 : Below w2.heap.size w2 w5 := (Below.refl _ _).drew.trans hb5'
      clear hb5'
      have hz5 := hb5.size
      replace p1 := (hb5.cell (p := ⟨w.heap.size, 0, none⟩) (by show w.heap.size < w2.heap.size; omega)).trans p1
      replace p2 := (hb5.cell (p := ⟨P2, 0, none⟩) (by show P2 < w2.heap.size; omega)).trans p2
      replace a6 := (hb5.cell (p := ⟨G, 6, none⟩) (by show G < w2.heap.size; omega)).trans a6
      refine hK.out _ _ ?_ (fun hHeld => ?_)
      · go_keep
      clear hK K
      try simp only [Act.put, pu]
      refine tk 10 17 rfl rfl ?_
      try simp only [Act.put, pu]
      refine tk 11 18 rfl rfl ?_
      try simp only [Act.put, pu]
      refine tn 12 19 rfl rfl ?_
      try simp only [Act.put, pu]
      refine tn 13 20 rfl rfl ?_
      try simp only [Act.put, pu]
      refine tn 14 21 rfl rfl ?_
      try simp only [Act.put, pu]
      refine tk 15 22 rfl rfl ?_
      try simp only [Act.put, pu]
      refine wpAnyH_done (by kernel_rfl) ?_ _
      go_wp2_with fail
      go_ret
      exact ⟨ret_bool HF.out, bl_trans hB hb5⟩
    | false =>
      rw [ha] at J1
      have HA := Lib.hid ha
      clear ha
      cases hc : closedB N dd with
      | false =>
        have HF := Lib.hid (cr_closed (N := N) (d := dd) (T := T) (rk := ss) hc).symm
        go_enter Tryz.func42, Tryz.ntmps42
        go_wp2_with fail
        rw [HS12.out, ← HW.out]
        refine wp_region_held_drew (S := fun w' => w'.cell? ⟨P2, 0, none⟩ = some (.slice As ss.length cs) ∧ w'.cell? ⟨w.heap.size, 0, none⟩ = some (.pointer (some ⟨G, 0, none⟩)) ∧ w'.cell? ⟨G, 6, none⟩ = some (.int .i64 (T : Int))) (by kernel_rfl) ?_ (fun hHeld => ?_)
        · go_keep
        refine tk 0 7 rfl rfl ?_
        try simp only [Act.put, pu]
        refine tk 1 8 rfl rfl ?_
        try simp only [Act.put, pu]
        refine tk 2 9 rfl rfl ?_
        try simp only [Act.put, pu]
        refine tk 3 10 rfl rfl ?_
        try simp only [Act.put, pu]
        refine tk 4 11 rfl rfl ?_
        try simp only [Act.put, pu]
        refine tk 5 12 rfl rfl ?_
        try simp only [Act.put, pu]
        refine tk 6 13 rfl rfl ?_
        try simp only [Act.put, pu]
        refine tk 7 14 rfl rfl ?_
        try simp only [Act.put, pu]
        refine tk 8 15 rfl rfl ?_
        try simp only [Act.put, pu]
        refine tr 9 rfl (by kernel_rfl) (fun K hK => ?_)
        go_simp
        go_at_call 62
        refine (J1 w2.drew (Below.refl _ _).drew).out.mono ?_
        rintro e w5 ⟨rfl, hb5'⟩
        have hb5 : Below w2.heap.size w2 w5 := (Below.refl _ _).drew.trans hb5'
        clear hb5'
        have hz5 := hb5.size
        replace p1 := (hb5.cell (p := ⟨w.heap.size, 0, none⟩) (by show w.heap.size < w2.heap.size; omega)).trans p1
        replace p2 := (hb5.cell (p := ⟨P2, 0, none⟩) (by show P2 < w2.heap.size; omega)).trans p2
        replace a6 := (hb5.cell (p := ⟨G, 6, none⟩) (by show G < w2.heap.size; omega)).trans a6
        refine hK.out _ _ ?_ (fun hHeld => ?_)
        · go_keep
        clear hK K
        try simp only [Act.put, pu]
        refine tk 10 17 rfl rfl ?_
        try simp only [Act.put, pu]
        refine tk 11 18 rfl rfl ?_
        try simp only [Act.put, pu]
        refine tk 12 19 rfl rfl ?_
        try simp only [Act.put, pu]
        refine tr 13 rfl (by kernel_rfl) (fun K hK => ?_)
        go_simp
        go_at_call 36
        refine (impl_closed G T _ _ N dd w5 (HX.out.up hb5)).mono ?_
        rintro e w6 ⟨rfl, hb6⟩
        rw [hc]
        have hB6 := bl_trans hb5 hb6
        replace p1 := (hb6.cell (p := ⟨w.heap.size, 0, none⟩) (by show w.heap.size < w5.heap.size; omega)).trans p1
        replace p2 := (hb6.cell (p := ⟨P2, 0, none⟩) (by show P2 < w5.heap.size; omega)).trans p2
        replace a6 := (hb6.cell (p := ⟨G, 6, none⟩) (by show G < w5.heap.size; omega)).trans a6
        refine hK.out _ _ ?_ (fun hHeld => ?_)
        · go_keep
        clear hK K
        try simp only [Act.put, pu]
        refine tk 14 21 rfl rfl ?_
        try simp only [Act.put, pu]
        refine tk 15 22 rfl rfl ?_
        try simp only [Act.put, pu]
        refine wpAnyH_done (by kernel_rfl) ?_ _
        go_wp2_with fail
        go_ret
        exact ⟨ret_bool HF.out, bl_trans hB hB6⟩
      | true =>
        have HCL := Lib.hid hc
        go_enter Tryz.func42, Tryz.ntmps42
        go_wp2_with fail
        rw [HS12.out, ← HW.out]
        refine wp_region_held_drew (S := fun w' => w'.cell? ⟨P2, 0, none⟩ = some (.slice As ss.length cs) ∧ w'.cell? ⟨w.heap.size, 0, none⟩ = some (.pointer (some ⟨G, 0, none⟩)) ∧ w'.cell? ⟨G, 6, none⟩ = some (.int .i64 (T : Int))) (by kernel_rfl) ?_ (fun hHeld => ?_)
        · go_keep
        refine tk 0 7 rfl rfl ?_
        try simp only [Act.put, pu]
        refine tk 1 8 rfl rfl ?_
        try simp only [Act.put, pu]
        refine tk 2 9 rfl rfl ?_
        try simp only [Act.put, pu]
        refine tk 3 10 rfl rfl ?_
        try simp only [Act.put, pu]
        refine tk 4 11 rfl rfl ?_
        try simp only [Act.put, pu]
        refine tk 5 12 rfl rfl ?_
        try simp only [Act.put, pu]
        refine tk 6 13 rfl rfl ?_
        try simp only [Act.put, pu]
        refine tk 7 14 rfl rfl ?_
        try simp only [Act.put, pu]
        refine tk 8 15 rfl rfl ?_
        try simp only [Act.put, pu]
        refine tr 9 rfl (by kernel_rfl) (fun K hK => ?_)
        go_simp
        go_at_call 62
        refine (J1 w2.drew (Below.refl _ _).drew).out.mono ?_
        rintro e w5 ⟨rfl, hb5'⟩
        have hb5 : Below w2.heap.size w2 w5 := (Below.refl _ _).drew.trans hb5'
        clear hb5'
        have hz5 := hb5.size
        replace p1 := (hb5.cell (p := ⟨w.heap.size, 0, none⟩) (by show w.heap.size < w2.heap.size; omega)).trans p1
        replace p2 := (hb5.cell (p := ⟨P2, 0, none⟩) (by show P2 < w2.heap.size; omega)).trans p2
        replace a6 := (hb5.cell (p := ⟨G, 6, none⟩) (by show G < w2.heap.size; omega)).trans a6
        refine hK.out _ _ ?_ (fun hHeld => ?_)
        · go_keep
        clear hK K
        try simp only [Act.put, pu]
        refine tk 10 17 rfl rfl ?_
        try simp only [Act.put, pu]
        refine tk 11 18 rfl rfl ?_
        try simp only [Act.put, pu]
        refine tk 12 19 rfl rfl ?_
        try simp only [Act.put, pu]
        refine tr 13 rfl (by kernel_rfl) (fun K hK => ?_)
        go_simp
        go_at_call 36
        refine (impl_closed G T _ _ N dd w5 (HX.out.up hb5)).mono ?_
        rintro e w6 ⟨rfl, hb6⟩
        rw [hc]
        have hB6 := bl_trans hb5 hb6
        replace p1 := (hb6.cell (p := ⟨w.heap.size, 0, none⟩) (by show w.heap.size < w5.heap.size; omega)).trans p1
        replace p2 := (hb6.cell (p := ⟨P2, 0, none⟩) (by show P2 < w5.heap.size; omega)).trans p2
        replace a6 := (hb6.cell (p := ⟨G, 6, none⟩) (by show G < w5.heap.size; omega)).trans a6
        refine hK.out _ _ ?_ (fun hHeld => ?_)
        · go_keep
        clear hK K
        try simp only [Act.put, pu]
        refine tk 14 21 rfl rfl ?_
        try simp only [Act.put, pu]
        refine tk 15 22 rfl rfl ?_
        try simp only [Act.put, pu]
        refine wpAnyH_done (by kernel_rfl) ?_ _
        clear hc J1
        have HX6 := Lib.hid (HX.out.up hB6)
        have hnT := HX6.out.ok.n
        have hdT : N.length ≤ dd.length ∧ dd.length ≤ N.length := by have := HX6.out.ok.d; omega
        have hNT : N.length ≤ T ∧ T ≤ N.length := by omega
        have hsT : ss.length ≤ T ∧ T ≤ ss.length := by have := HLEN.out; omega
        have HNT := Lib.hid hnT; clear hnT
        obtain ⟨A8, c8, rfl, hc8, hcm, hrow⟩ := HX6.out.n.open_
        obtain ⟨A9, c9, rfl, hc9, hcm9, hrow9⟩ := HX6.out.b.open_
        have HROW := Lib.hid hrow; clear hrow
        have HROW9 := Lib.hid hrow9; clear hrow9
        unfold maxLen at hcm hcm9
        have a8 := HX6.out.c8
        have H7 := Lib.hid HX6.out.c7
        have HI6 := Lib.hid ((HI.out.below hB6).more hB6.size)
        have hz6 := hB6.size
        have HP1 := Lib.hid p1
        have HP2 := Lib.hid p2
        go_wp2_with fail
        clear a8 a6 p1 p2 hle
        go_loopw [5, 6, 28] (fun _ _ i wr => IrRel N dd ss w6 i wr) (fun _ _ i _ => N.length - (intOf i).toNat)
        case atStart => exact ⟨Below.refl _ _, 0, Nat.zero_le _, rfl, fun _ h => by omega⟩
        case round =>
          obtain ⟨hbl, k, hk, rfl, hto⟩ := hrel
          have HTO := Lib.hid hto; clear hto
          have hz6r := hbl.size
          by_cases hlt : k < N.length
          · obtain ⟨l, hl⟩ : ∃ l, N[k]? = some l := ⟨_, List.getElem?_eq_getElem hlt⟩
            obtain ⟨ad, rfl, hab, hrow⟩ := HROW.out (by omega)
            obtain ⟨u, hcu, hru⟩ := hrow k l hl
            obtain ⟨A5, c5, rfl, -, hcm5, -⟩ := hru.open_
            unfold maxLen at hcm5
            obtain ⟨hl3, hly⟩ := HX6.out.ok.r l (List.mem_of_getElem? hl)
            have hcr := (hbl.cell (p := ad.add k) (by rw [block_add]; exact hab)).trans hcu
            obtain ⟨b, hb⟩ : ∃ b, dd[k]? = some b := ⟨_, List.getElem?_eq_getElem (by omega)⟩
            obtain ⟨a9, rfl, hab9, hr9⟩ := HROW9.out (by omega)
            obtain ⟨v, hv⟩ : ∃ v, ss[k]? = some v := ⟨_, List.getElem?_eq_getElem (by omega)⟩
            obtain ⟨w7, hw7⟩ : ∃ z, z = wr.alloc (.cells #[.int .i64 (k : Int)] 3) := ⟨_, rfl⟩
            have HB7 := Lib.hid (show w7.heap[wr.heap.size]? = some (.cells #[.int .i64 (k : Int)] 3 (0, 0)) by rw [hw7]; exact heap_alloc_new wr _)
            have hb7 : Below wr.heap.size wr w7 := by rw [hw7]; exact bl_alloc (Below.refl _ _) _
            have hz7 : wr.heap.size < w7.heap.size := by rw [hw7]; simp
            have hb67 := bl_trans hbl hb7
            have p1 := (hb67.cell (p := ⟨w.heap.size, 0, none⟩) (by show w.heap.size < w6.heap.size; omega)).trans HP1.out
            have p2 := (hb67.cell (p := ⟨P2, 0, none⟩) (by show P2 < w6.heap.size; omega)).trans HP2.out
            have p3 : w7.cell? ⟨wr.heap.size, 0, none⟩ = some (.int .i64 (k : Int)) := cell_of_row _ _ 0 _ _ (0, 0) HB7.out
            have k7 := (hb67.cell (p := ⟨G, 7, none⟩) HX6.out.lt).trans H7.out
            have kb := (hb67.cell (p := a9.add k) (by rw [block_add]; exact hab9)).trans (hr9 k b hb)
            have HW7 := Lib.hid hw7
            have HL := Lib.hid hl
            have HLY := Lib.hid hly
            have HD := Lib.hid (show dd.getD k false = b from getDa hb)
            have HV := Lib.hid (show ss.getD k 0 = v by rw [List.getD_eq_getElem?_getD, hv]; rfl)
            have HVV := Lib.hid hv
            have HRU := Lib.hid ((hru.below hb67).more hb67.size)
            have HX7 := Lib.hid (HX6.out.up hb67)
            have HI7 := Lib.hid ((HI6.out.below hb67).more hb67.size)
            have hkd : k < dd.length := by omega
            clear hl hrow hru hr9 hb hcu hly hv hw7
            go_wp2_with fail
            rw [← HW7.out]
            clear hcr
            cases b with
            | true =>
              have HH := Lib.hid (HTO.out.next HL.out fun h => by rw [HD.out] at h; cases h)
              refine wp_region_held_drew (S := fun w' => w'.cell? ⟨w.heap.size, 0, none⟩ = some (.pointer (some ⟨G, 0, none⟩)) ∧ w'.cell? ⟨G, 7, none⟩ = some (.slice (some a9) dd.length c9) ∧ w'.cell? ⟨wr.heap.size, 0, none⟩ = some (.int .i64 (k : Int)) ∧ w'.cell? (a9.add k) = some (.bool true)) (by kernel_rfl) ?_ (fun hHeld => ?_)
              · go_keep
              refine tk 0 33 rfl rfl ?_
              try simp only [Act.put, pu]
              refine tk 1 34 rfl rfl ?_
              try simp only [Act.put, pu]
              refine tk 2 35 rfl rfl ?_
              try simp only [Act.put, pu]
              refine tk 3 36 rfl rfl ?_
              try simp only [Act.put, pu]
              refine tk 4 37 rfl rfl ?_
              try simp only [Act.put, pu]
              refine tk 5 38 rfl rfl ?_
              try simp only [Act.put, pu]
              refine tk 6 39 rfl rfl ?_
              try simp only [Act.put, pu]
              refine wpAnyH_done (by kernel_rfl) ?_ _
              go_wp2_with fail
              go_roundw
              case rel => exact ⟨(bl_trans hbl hb7).drew, k + 1, by omega, by go_num, HH.out⟩
              case measure => simp [intOf]; omega
            | false =>
              by_cases hl0 : l.length = 0
              · have HF := Lib.hid (cr_stuck (T := T) (rk := ss) (by omega) HL.out HD.out (List.eq_nil_of_length_eq_zero hl0)).symm
                refine wp_region_held_drew (S := fun w' => w'.cell? ⟨w.heap.size, 0, none⟩ = some (.pointer (some ⟨G, 0, none⟩)) ∧ w'.cell? ⟨G, 7, none⟩ = some (.slice (some a9) dd.length c9) ∧ w'.cell? ⟨wr.heap.size, 0, none⟩ = some (.int .i64 (k : Int)) ∧ w'.cell? (a9.add k) = some (.bool false)) (by kernel_rfl) ?_ (fun hHeld => ?_)
                · go_keep
                refine tk 0 33 rfl rfl ?_
                try simp only [Act.put, pu]
                refine tk 1 34 rfl rfl ?_
                try simp only [Act.put, pu]
                refine tk 2 35 rfl rfl ?_
                try simp only [Act.put, pu]
                refine tk 3 36 rfl rfl ?_
                try simp only [Act.put, pu]
                refine tk 4 37 rfl rfl ?_
                try simp only [Act.put, pu]
                refine tk 5 38 rfl rfl ?_
                try simp only [Act.put, pu]
                refine tk 6 39 rfl rfl ?_
                try simp only [Act.put, pu]
                refine wpAnyH_done (by kernel_rfl) ?_ _
                go_wp2_with fail
                go_ret
                exact ⟨ret_bool HF.out, (bl_trans hB (bl_trans hB6 hb67)).drew⟩
              · have hlz : (((l.length : Nat) : Int) == 0) = false := by rw [beq_eq_false_iff_ne]; omega
                have J2 := fun W (hW : Below w7.heap.size w7 W) => Lib.hid (contains_ints 69 #[.pointer (some ⟨w.heap.size, 0, none⟩), .pointer (some ⟨P2, 0, none⟩), .pointer (some ⟨wr.heap.size, 0, none⟩)] (enters_of Tryz.func69 (by kernel_rfl) rfl) (notLess dd ss v) _ l W ((HRU.out.below hW).more hW.size) (by omega) W.heap.size (Nat.le_refl _) (fun W' y hy hb => by
                  have hy := HLY.out y hy
                  have hb := bl_trans hW hb
                  exact closure_r2 w.heap.size P2 wr.heap.size G T _ _ As cs N dd ss k v y W' (HX7.out.up hb) ((hb.cell (p := ⟨w.heap.size, 0, none⟩) (by show w.heap.size < w7.heap.size; omega)).trans p1) ((hb.cell (p := ⟨P2, 0, none⟩) (by show P2 < w7.heap.size; omega)).trans p2) ((hb.cell (p := ⟨wr.heap.size, 0, none⟩) hz7).trans p3) ((HI7.out.below hb).more hb.size) HLEN.out HVV.out hy))
                refine wp_region_held_drew (S := fun w' => w'.cell? ⟨w.heap.size, 0, none⟩ = some (.pointer (some ⟨G, 0, none⟩)) ∧ w'.cell? ⟨G, 7, none⟩ = some (.slice (some a9) dd.length c9) ∧ w'.cell? ⟨wr.heap.size, 0, none⟩ = some (.int .i64 (k : Int)) ∧ w'.cell? (a9.add k) = some (.bool false)) (by kernel_rfl) ?_ (fun hHeld => ?_)
                · go_keep
                refine tk 0 33 rfl rfl ?_
                try simp only [Act.put, pu]
                refine tk 1 34 rfl rfl ?_
                try simp only [Act.put, pu]
                refine tk 2 35 rfl rfl ?_
                try simp only [Act.put, pu]
                refine tk 3 36 rfl rfl ?_
                try simp only [Act.put, pu]
                refine tk 4 37 rfl rfl ?_
                try simp only [Act.put, pu]
                refine tk 5 38 rfl rfl ?_
                try simp only [Act.put, pu]
                refine tk 6 39 rfl rfl ?_
                try simp only [Act.put, pu]
                refine wpAnyH_done (by kernel_rfl) ?_ _
                have J3 := J2 _ (Below.refl _ _).drew
                clear J2
                cases hq : l.any (notLess dd ss v) with
                | true =>
                  rw [hq] at J3
                  obtain ⟨y, hy, hdy, hvy⟩ := notLess_t hq
                  have HF := Lib.hid (cr_bad (T := T) (rk := ss) (by omega) HL.out HD.out hy hdy (by rw [HV.out]; exact hvy)).symm
                  clear hq hy hdy hvy
                  go_wp2_with fail
                  refine J3.out.mono ?_
                  rintro e w8 ⟨rfl, hb8⟩
                  go_wp2_with fail
                  go_ret
                  exact ⟨ret_bool HF.out, bl_trans (bl_trans hB (bl_trans hB6 hb67)) ((Below.refl _ _).drew.trans hb8)⟩
                | false =>
                  rw [hq] at J3
                  have HH := Lib.hid (HTO.out.next HL.out fun _ => ⟨fun h => hl0 (by rw [h]; rfl), fun y hy hdy => by rw [HV.out]; exact notLess_f hq y hy hdy⟩)
                  clear hq
                  go_wp2_with fail
                  refine J3.out.mono ?_
                  rintro e w8 ⟨rfl, hb8⟩
                  go_wp2_with fail
                  go_roundw
                  case rel => exact ⟨bl_trans hb67 ((Below.refl _ _).drew.trans hb8), k + 1, by omega, by go_num, HH.out⟩
                  case measure => simp [intOf]; omega
          · obtain rfl : k = N.length := by omega
            have HF := Lib.hid (cr_all (T := T) HLEN.out HNT.out HA.out HCL.out HTO.out).symm
            go_wp2_with fail
            go_ret
            exact ⟨ret_bool HF.out, bl_trans hB (bl_trans hB6 hbl)⟩
  · have hle : (((ss.length : Nat) : Int) != ((T : Nat) : Int)) = true := by rw [bne_iff_ne]; omega
    have HF := Lib.hid (cr_len (N := N) (d := dd) hlen).symm
    go_enter Tryz.func42, Tryz.ntmps42
    go_wp2_with fail
    rw [HS12.out, ← HW.out]
    refine wp_region_held_drew (S := fun w' => w'.cell? ⟨P2, 0, none⟩ = some (.slice As ss.length cs) ∧ w'.cell? ⟨w.heap.size, 0, none⟩ = some (.pointer (some ⟨G, 0, none⟩)) ∧ w'.cell? ⟨G, 6, none⟩ = some (.int .i64 (T : Int))) (by kernel_rfl) ?_ (fun hHeld => ?_)
    · go_keep
    refine tk 0 7 rfl rfl ?_
    try simp only [Act.put, pu]
    refine tk 1 8 rfl rfl ?_
    try simp only [Act.put, pu]
    refine tk 2 9 rfl rfl ?_
    try simp only [Act.put, pu]
    refine tk 3 10 rfl rfl ?_
    try simp only [Act.put, pu]
    refine tk 4 11 rfl rfl ?_
    try simp only [Act.put, pu]
    refine tk 5 12 rfl rfl ?_
    try simp only [Act.put, pu]
    refine tk 6 13 rfl rfl ?_
    try simp only [Act.put, pu]
    refine tk 7 14 rfl rfl ?_
    try simp only [Act.put, pu]
    refine tn 8 15 rfl rfl ?_
    try simp only [Act.put, pu]
    refine tn 9 16 rfl rfl ?_
    try simp only [Act.put, pu]
    refine tk 10 17 rfl rfl ?_
    try simp only [Act.put, pu]
    refine tk 11 18 rfl rfl ?_
    try simp only [Act.put, pu]
    refine tn 12 19 rfl rfl ?_
    try simp only [Act.put, pu]
    refine tn 13 20 rfl rfl ?_
    try simp only [Act.put, pu]
    refine tn 14 21 rfl rfl ?_
    try simp only [Act.put, pu]
    refine tk 15 22 rfl rfl ?_
    try simp only [Act.put, pu]
    refine wpAnyH_done (by kernel_rfl) ?_ _
    go_wp2_with fail
    go_ret
    exact ⟨ret_bool HF.out, hB.drew⟩
set_option maxRecDepth 100000 in
theorem impl_CheckRanking (ve vi vn vs : Value) (n : Net) (r d : Int) (ss : List Int) (w : World) (h : NetR w w.heap.size ve vi vn n) (hss : IntsR w w.heap.size vs ss) (hz : n.es.length ≤ 2000000) (hzi : n.ids.length ≤ 2000000) (hl : ss.length ≤ 1048576) :
    Calls Tryz.prog 19 #[.agg #[ve, vi, vn], .int .i64 r, .int .i64 d, vs] w fun e w' => e = .returned (.tuple #[.bool (chB n r d ss), .bool (dmB n r d)]) ∧ Below w.heap.size w w' := by
  have HI := Lib.hid hss
  obtain ⟨As, cs, rfl, -, -, -⟩ := hss.open_
  clear hss
  obtain ⟨⟨A0, m0, c0, rfl⟩, ⟨A1, m1, c1, rfl⟩, A2, m2, c2, rfl⟩ := h.slices
  obtain ⟨w0, hw0, hB, HD, hz0, HS0⟩ := box3 w (.slice A0 m0 c0) (.slice A1 m1 c1) (.slice A2 m2 c2) 31
  have HN0 := Lib.hid h; have HN := Lib.hid (h.up hB); clear h
  have HW0 := Lib.hid hw0; clear hw0
  obtain ⟨q0, q1, q2, qf⟩ := cells3 HD
  replace HI := Lib.hid ((HI.out.below hB).more hB.size)
  go_enter Tryz.func19, Tryz.ntmps19
  go_wp2_with fail
  rw [← HW0.out]
  refine (impl_explored _ _ _ n r d w0 HN.out hz hzi).mono ?_
  rintro e w1 ⟨hb1, hx⟩
  have hzhb1 := hb1.size
  clear q0 q1 q2 qf
  replace HD := bk HD hb1
  replace HN := Lib.hid (HN.out.up hb1)
  replace hB := bl_trans hB hb1
  obtain ⟨q0, q1, q2, qf⟩ := cells3 HD
  replace HI := Lib.hid ((HI.out.below hb1).more hb1.size)
  rcases hx with ⟨h1, p, rfl⟩ | ⟨h1, G, T, lv, nv, hT, rfl, hX⟩
  · have HQ := Lib.hid h1
    have HF := Lib.hid (show chB n r d ss = false by unfold chB; rw [h1]; rfl)
    go_wp2_with fail
    go_ret2
    exact ⟨ret2bb HF.out.symm HQ.out.symm, hB⟩
  · have HQ := Lib.hid h1
    have HF := Lib.hid (show chB n r d ss = crB (nxL n r d T) (legL n r T) T ss by unfold chB; rw [h1, hT]; rfl)
    have HX := Lib.hid hX
    clear hX hT
    go_wp2_with fail
    refine (impl_isRanking G T lv nv _ _ _ ss w1 HX.out HI.out hl).mono ?_
    rintro e w2 ⟨rfl, hb2⟩
    go_wp2_with fail
    go_ret2
    exact ⟨ret2bb HF.out.symm HQ.out.symm, bl_trans hB hb2⟩
end Go.Proofs.YthfgklckmedggaaGreat
