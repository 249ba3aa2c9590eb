/-
  The draws ssPick, ssMoves, ssNet: a rule, a number of moves, a network on which a rule mostly runs. Condition: at most 10 nodes are asked for.
-/
import Derived.Test.YtdghoienjegffaaGreatQDrawPlace
import Derived.Test.YtdghoienjegffaaGreatQDrawRen
namespace Go.Proofs.YtdghoienjegffaaGreat
open Go.RowKit
set_option linter.all false
set_option maxRecDepth 100000 in
set_option maxHeartbeats 4000000 in
theorem cur_ssPick (P m : Nat) (cv : Value) (w : World) (h : CurR w P cv m) (hm : m ≤ 1000000000) :
    Calls Tryz.prog 48 #[.pointer (some ⟨P, 0, none⟩)] w fun e w' => ∃ x : Int, e = .returned (.int .i64 x) ∧ (0 ≤ x ∧ x ≤ 6) ∧ CurR w' P cv (m + 2) ∧ w.grownBy w' (some P) := by
  have H := Lib.hid h
  have hP := h.lt
  clear h
  obtain ⟨w1, hw1⟩ : ∃ z, z = w.alloc (.cells #[.int .i64 1, .int .i64 2, .int .i64 3, .int .i64 4, .int .i64 5, .int .i64 1, .int .i64 2, .int .i64 3, .int .i64 4, .int .i64 5, .int .i64 1, .int .i64 2, .int .i64 3, .int .i64 4, .int .i64 5, .int .i64 0, .int .i64 6] 3) := ⟨_, rfl⟩
  have HW1 := Lib.hid hw1
  have hb1 : Below w.heap.size w w1 := by rw [hw1]; exact bl_alloc (Below.refl _ _) _
  have HL1 := Lib.hid (show w1.heap[w.heap.size]? = some (.cells (([1, 2, 3, 4, 5, 1, 2, 3, 4, 5, 1, 2, 3, 4, 5, 0, 6] : List Int).map intV).toArray 3 (0, 0)) by rw [hw1]; exact heap_alloc_new _ _)
  clear hw1
  go_enter Tryz.func48, Tryz.ntmps48
  go_wp2_with fail
  rw [← HW1.out]
  refine (cur_among P m cv w.heap.size [1, 2, 3, 4, 5, 1, 2, 3, 4, 5, 1, 2, 3, 4, 5, 0, 6] w1 (H.out.below hb1 hP) (by omega) HL1.out (by omega) (by simp) (by simp)).mono ?_
  rintro e w2 ⟨x, rfl, hx, hc2, hg2⟩
  have hx6 : 0 ≤ x ∧ x ≤ 6 := by simp at hx; omega
  have HC2 := Lib.hid hc2
  have HG2 := Lib.hid (grownT (grown_belowN hb1 (some P)) hg2)
  clear hx hc2 hg2
  go_wp2_with fail
  go_ret
  exact ⟨x, rfl, hx6, HC2.out, HG2.out⟩
set_option maxRecDepth 100000 in
set_option maxHeartbeats 4000000 in
theorem cur_ssMoves (P m : Nat) (cv : Value) (w : World) (h : CurR w P cv m) (hm : m ≤ 1000000000000000000) :
    Calls Tryz.prog 23 #[.pointer (some ⟨P, 0, none⟩)] w fun e w' => ∃ x : Int, e = .returned (.int .i64 x) ∧ (-1 ≤ x ∧ x ≤ 2001) ∧ CurR w' P cv (m + 2) ∧ w.grownBy w' (some P) := by
  have H := Lib.hid h
  have hP := h.lt
  clear h
  obtain ⟨w1, hw1⟩ : ∃ z, z = w.alloc (.cells #[.int .i64 0, .int .i64 1, .int .i64 2, .int .i64 5, .int .i64 10, .int .i64 100, .int .i64 300, .int .i64 2000, .int .i64 2001, .int .i64 (-1)] 3) := ⟨_, rfl⟩
  have HW1 := Lib.hid hw1
  have hb1 : Below w.heap.size w w1 := by rw [hw1]; exact bl_alloc (Below.refl _ _) _
  have HL1 := Lib.hid (show w1.heap[w.heap.size]? = some (.cells (([0, 1, 2, 5, 10, 100, 300, 2000, 2001, -1] : List Int).map intV).toArray 3 (0, 0)) by rw [hw1]; exact heap_alloc_new _ _)
  clear hw1
  go_enter Tryz.func23, Tryz.ntmps23
  go_wp2_with fail
  rw [← HW1.out]
  refine (cur_among P m cv w.heap.size [0, 1, 2, 5, 10, 100, 300, 2000, 2001, -1] w1 (H.out.below hb1 hP) (by omega) HL1.out (by omega) (by simp) (by simp)).mono ?_
  rintro e w2 ⟨x, rfl, hx, hc2, hg2⟩
  have hx6 : -1 ≤ x ∧ x ≤ 2001 := by simp at hx; omega
  have HC2 := Lib.hid hc2
  have HG2 := Lib.hid (grownT (grown_belowN hb1 (some P)) hg2)
  clear hx hc2 hg2
  go_wp2_with fail
  go_ret
  exact ⟨x, rfl, hx6, HC2.out, HG2.out⟩
theorem NAt.zeroIns {w wr : World} {P PB PR base m k : Nat} {cv : Value} {Q Q' : Net → Prop} (h : NAt w P PB PR base cv m Q wr) (hk : k ≤ 1000) (hQ : ∀ n, Q n → Q' { n with ins := List.replicate k 0 }) (hbs : base ≤ wr.heap.size) :
    NAt w P PB PR base cv m Q' ((wr.setCell ⟨PB, 2, none⟩ (.slice (some ⟨wr.heap.size, 0, none⟩) k k)).alloc (.cells (rowOf [] k (.int .i64 0)) 3)) := by
  obtain ⟨n, val, h1, h2⟩ := h.net
  have hB := h.hB
  have hne := h.hne
  have ho := own_madeN wr 3 k (.int .i64 0) (by unfold maxLen; omega)
  rw [← World.setCell_alloc_past _ _ _ _ h2.lt]
  refine h.step ⟨_, _, hQ n h1, h2.newIns (xs := List.replicate k 0) (World.grownBy_alloc wr _ none) (own_mono (by rw [List.length_replicate, List.map_replicate]; exact ho) hbs) (.inr ⟨_, rfl, Nat.le_refl _⟩)⟩ ((Kp.below (bl_alloc (Below.refl _ _) _) hbs (heap_ltN h.res)).trans (Kp.cell (by omega) (by omega) _ _))
structure InN (N : Nat) (n : Net) : Prop where
  fit : FitN n 200 10
  len : n.es.length = N
  ins : n.ins.length = N
theorem InN.zero {N : Nat} {n : Net} (h : FitN n 200 10) (hl : n.es.length = N) (hN : N ≤ 200) : InN N { n with ins := List.replicate N 0 } := ⟨h.withIns (by rw [List.length_replicate]; exact hN) (fun x hx => by rw [List.eq_of_mem_replicate hx]; exact ⟨by omega, by omega⟩), hl, List.length_replicate⟩
theorem InN.set {N : Nat} {n : Net} (h : InN N n) (k : Nat) : InN N { n with ins := n.ins.set k 1 } := ⟨h.fit.setIn k ⟨by omega, by omega⟩, h.len, by show (n.ins.set k 1).length = N; rw [List.length_set]; exact h.ins⟩
def StRel (w : World) (P PB PR base : Nat) (cv : Value) (m N : Nat) (i : Value) (wr : World) : Prop := ∃ k : Nat, k ≤ 3 ∧ i = .int .i64 (k : Int) ∧ NAt w P PB PR base cv (m + 2 * (3 - k)) (InN N) wr
set_option maxRecDepth 100000 in
set_option maxHeartbeats 4000000 in
theorem cur_ssNet (P m most : Nat) (r : Int) (cv : Value) (w : World) (h : CurR w P cv m) (hm : m ≤ 1000) (h1 : 2 ≤ most) (h2 : most ≤ 10) :
    Calls Tryz.prog 49 #[.pointer (some ⟨P, 0, none⟩), .int .i64 r, .int .i64 (most : Int)] w (DrawnN w P cv (m + 300000000000000000) w.heap.size fun n => FitN n 200 10) := by
  have H := Lib.hid h
  have hP := h.lt
  clear h
  obtain ⟨w1, hw1, hb1, HQ, hz1, HS1⟩ := box3 w (.slice none 0 0) (.slice none 0 0) (.slice none 0 0) 27
  obtain ⟨PR, hPR⟩ : ∃ z, z = w.heap.size := ⟨_, rfl⟩
  have HPR := Lib.hid hPR
  have hPRl : w.heap.size ≤ PR ∧ PR ≤ w.heap.size := by omega
  rw [← hPR] at HQ
  have HW1 := Lib.hid hw1
  have hP1 : P < w1.heap.size := by omega
  have hPR1 : PR < w1.heap.size := by omega
  clear hw1 hPR
  go_enter Tryz.func49, Tryz.ntmps49
  go_wp2_with fail
  rw [← HW1.out, ← HPR.out]
  refine (cur_one P m cv _ w1 (H.out.below hb1 hP) (by omega)).mono ?_
  rintro e w2 ⟨b, rfl, hc2, hg2⟩
  have hB2 : Bp w1.heap.size P w1 w2 := Bp.grown hg2 (Nat.le_refl _)
  have HQ2 := Lib.hid ((hg2.block PR (by omega) (fun e => by have e' : PR = P := Option.some.inj e; omega)).trans HQ.out)
  have HC2 := Lib.hid hc2
  have hz2 := hg2.size
  clear hc2 hg2
  cases b with
  | true =>
    go_wp2_with fail
    refine (cur_place P (m + 2) most cv w2 HC2.out (by omega) (by omega) h2).mono ?_
    rintro e w8 ⟨n8, val8, rfl, hQ8, hk8, hc8, hb8⟩
    replace hk8 := OwnN.mono hk8 (show w1.heap.size ≤ w2.heap.size by omega)
    replace hb8 := hb8.mono (show w1.heap.size ≤ w2.heap.size by omega)
    obtain ⟨Z0, l0, ez0⟩ := own_slN (hk8.own .e trivial)
    obtain ⟨Z1, y1, ez1⟩ := own_slN (hk8.own .i trivial)
    obtain ⟨Z2, y2, ez2⟩ := own_slN (hk8.own .n trivial)
    have HEZ := Lib.hid (And.intro ez0 (And.intro ez1 ez2))
    rw [ez0, ez1, ez2]
    clear ez0 ez1 ez2
    generalize (rowN n8 val8 .e).len = s0 at HEZ ⊢
    generalize (rowN n8 val8 .i).len = s1 at HEZ ⊢
    generalize (rowN n8 val8 .n).len = s2 at HEZ ⊢
    have HRZ := Lib.hid ((hb8.block PR (by omega) (by omega)).trans HQ2.out)
    obtain ⟨p0, p1, p2, pf⟩ := cells3 HRZ
    obtain ⟨we, hwe, HE, hge'⟩ := set3 HRZ (.slice Z0 s0 l0) (.slice Z1 s1 y1) (.slice Z2 s2 y2)
    have HWE := Lib.hid hwe
    have hz8 := hb8.size
    have hKz := OwnN.mono (NetK.past hk8 HRZ.out no_tyN_net hge') (show w.heap.size ≤ w1.heap.size by omega)
    have hCz : CurR we P cv (m + 300000000000000000) := hc8.keep (by omega) fun b hb' => hge'.block b (by omega) (fun e => by have e' : b = PR := Option.some.inj e; omega)
    have hBz : Bp w.heap.size P w we := (Bp.below hb1).trans (((hB2.trans hb8).mono (by omega)).trans (Bp.other hge' (by omega) hPRl.1))
    have HFZ := Lib.hid (And.intro hKz (And.intro hCz hBz))
    have HQ8 := Lib.hid (show FitN n8 200 10 from hQ8)
    clear hwe hge' hKz hCz hBz hk8 hc8 hb8 hQ8
    go_wp2_with fail
    rw [← HWE.out]
    obtain ⟨z0, z1, z2, -⟩ := cells3 HE
    exact bodyPost_ret (v := .agg #[.slice Z0 s0 l0, .slice Z1 s1 y1, .slice Z2 s2 y2]) (by simp [results, Tryz.results49, go_sem, z0, z1, z2]) rfl ⟨n8, val8, by rw [HEZ.out.1, HEZ.out.2.1, HEZ.out.2.2], HQ8.out, HFZ.out.1, HFZ.out.2.1, HFZ.out.2.2⟩
  | false =>
    by_cases hr : r = 5
    · subst hr
      have hws : IntKind.i64.wrap ((most : Int) - 1) = ((most - 1 : Nat) : Int) := by rw [IntWalk.i64_in _ (by omega)]; omega
      go_wp2_with fail
      refine (spec_l1Most _ _ _).mono ?_
      rintro e w' ⟨rfl, rfl⟩
      obtain ⟨mm, hmm, hmm1⟩ : ∃ q : Int, (if ((most - 1 : Nat) : Int) > 1 then ((most - 1 : Nat) : Int) else 1) = q ∧ 1 ≤ q ∧ q ≤ 10 := ⟨_, rfl, by split <;> omega⟩
      rw [hmm]
      clear hmm
      go_wp2_with fail
      refine (cur_pick P (m + 2) cv _ w2 HC2.out (by omega)).mono ?_
      rintro e w3 ⟨x, rfl, hx, hc3, hg3⟩
      have hx9 : x ≤ 9 := by omega
      have hwr : IntKind.i64.wrap (2 + (x : Int)) = ((2 + x : Nat) : Int) := by rw [IntWalk.i64_in _ (by omega)]; omega
      have hB3 : Bp w1.heap.size P w1 w3 := hB2.trans (Bp.grown hg3 (by omega))
      have HQ3 := Lib.hid ((hg3.block PR (by omega) (fun e => by have e' : PR = P := Option.some.inj e; omega)).trans HQ2.out)
      have HC3 := Lib.hid hc3
      have hz3 := hg3.size
      obtain ⟨K, hK⟩ : ∃ z, z = 2 + x := ⟨_, rfl⟩
      rw [← hK] at hwr
      have hK12 : 2 ≤ K ∧ K ≤ 11 := by omega
      clear hx hc3 hg3 hK hws
      go_wp2_with fail
      refine (spec_buCycle K w3 (by omega) (by omega)).mono ?_
      rintro e w4 ⟨n4, val4, rfl, hcy4, hk4, hb4⟩
      obtain ⟨ge, ce, x0⟩ := own_slN (hk4.own .e trivial)
      obtain ⟨C1, k1, x1⟩ := own_slN (hk4.own .i trivial)
      obtain ⟨C2, k2, x2⟩ := own_slN (hk4.own .n trivial)
      have HV := Lib.hid (And.intro x0 (And.intro x1 x2))
      rw [x0, x1, x2]
      clear x0 x1 x2
      generalize (rowN n4 val4 .e).len = n0 at HV ⊢
      generalize (rowN n4 val4 .i).len = n1 at HV ⊢
      generalize (rowN n4 val4 .n).len = n2 at HV ⊢
      obtain ⟨w5, hw5, hb5, HB, hz5, HS5⟩ := box3 w4 (.slice ge n0 ce) (.slice C1 n1 k1) (.slice C2 n2 k2) 27
      obtain ⟨PB, hPB⟩ : ∃ z, z = w4.heap.size := ⟨_, rfl⟩
      have HPB := Lib.hid hPB
      have hz4 := hb4.size
      have hPBl : w4.heap.size ≤ PB := by omega
      rw [← hPB] at HB hz5
      have HW5 := Lib.hid hw5
      have hb35 := bl_trans hb4 hb5
      have HN5 := Lib.hid (show NetB w5 w1.heap.size val4 n4 PB from NetB.of (OwnN.mono (hk4.up hb5) (by omega)) (by rw [HV.out.1, HV.out.2.1, HV.out.2.2]; exact HB.out))
      have H5 := Lib.hid (show NAt w1 P PB PR w1.heap.size cv (m + 4) (fun n => n = n4) w5 from ⟨HC3.out.below (hb35.mono (by omega : w1.heap.size ≤ w3.heap.size)) hP1, ⟨n4, val4, rfl, HN5.out⟩, (hb35.block PR (by omega)).trans HQ3.out, hB3.trans (Bp.below (hb35.mono (by omega))), hP1, by omega, by omega, by omega⟩)
      have HCY := Lib.hid hcy4
      have hn0 : n0 = K := by
        have h3 := HN5.out.k.own .e trivial
        rw [HV.out.1] at h3
        have h4 : n0 = n4.es.length := by
          rcases h3.2 with ⟨e1, e2⟩ | ⟨g, cap, cur, e1, _⟩
          · have e3 := (Value.slice.inj e1).2.1; rw [e3]; exact e2.symm
          · exact (Value.slice.inj e1).2.1
        rw [h4]; exact hcy4.len
      subst hn0
      have hPBr : PB < w5.heap.size := HN5.out.lt
      have hbs5 : w1.heap.size ≤ w5.heap.size := H5.out.bp.size
      obtain ⟨q0, q1, q2, qf⟩ := cells3 HB
      have eq0 := q0
      have eq1 := q1
      have eq2 := q2
      rw [hw5, hPB] at eq0 eq1 eq2
      clear hw5 hPB hk4 hb4 hb5 hcy4 hwr
      go_wp2_with fail
      rw [← HW5.out, ← HPB.out]
      clear eq0 eq1 eq2
      refine till_region (S := fun w' => w'.cell? ⟨PB, 0, none⟩ = some (.slice ge n0 ce) ∧ w'.cell? ⟨PB, 1, none⟩ = some (.slice C1 n1 k1) ∧ w'.cell? ⟨PB, 2, none⟩ = some (.slice C2 n2 k2)) (st := 7) (by kernel_rfl) ⟨q0, q1, q2⟩ (fun hHeld => ?_)
      refine utk 0 24 ?_
      refine utf 1 25 ?_
      refine utf 2 26 ?_
      refine utk 3 27 ?_
      refine utf 4 28 ?_
      refine ur 5 rfl (by kernel_rfl) (fun K hK => ?_)
      go_simp
      go_at_call 85
      refine (cur_perm P _ cv n0 w5.drew (H5.out.cur.below (Below.refl w1.heap.size w5).drew hP1) (by omega) (by omega)).mono ?_
      rintro e w6 ⟨u, xs, rfl, ho6, hp6, hc6, hg6'⟩
      have hg6 : w5.grownBy w6 (some P) := ⟨hg6'.os, hg6'.tape, hg6'.output, hg6'.size, hg6'.block⟩
      have H6 := Lib.hid (H5.out.draw hc6 hg6 hbs5)
      have HN6 := Lib.hid (HN5.out.drawn hg6 hP1 (by omega))
      have HB6 := Lib.hid ((hg6.block PB hPBr (fun e => (by omega : PB ≠ P) (Option.some.inj e))).trans HB.out)
      have hz6 := hg6.size
      obtain ⟨Au, cu, rfl⟩ := own_slN ho6
      have HO6 := Lib.hid ho6
      have HP6 := Lib.hid hp6
      clear q0 q1 q2 qf ho6 hp6 hc6 hg6 hg6'
      obtain ⟨q0, q1, q2, qf⟩ := cells3 HB6
      refine hK.out (fun _ => ⟨q0, q1, q2⟩) ?_
      clear hK K
      try simp only [Act.put, pu]
      refine ur 6 rfl (by kernel_rfl) (fun K hK => ?_)
      go_simp
      go_at_call 84
      have hC := spec_neRenumber _ _ _ (.slice Au n0 cu) n4 n0 xs w6 (HN6.out.k.reads (HCY.out.fit (by omega)).i64) HCY.out (by omega) (by omega) (own_intsR HO6.out fun x hx => by
        obtain ⟨i, hi⟩ := List.getElem?_of_mem hx
        obtain ⟨p, rfl, hp⟩ := HP6.out.2 i x hi
        exact ⟨by omega, by omega⟩) HP6.out
      rw [HV.out.1, HV.out.2.1, HV.out.2.2] at hC
      refine hC.mono ?_
      clear hC
      rintro e w7 ⟨n7, val7, rfl, hcy7, hk7, hb7⟩
      obtain ⟨E0, f0, x0⟩ := own_slN (hk7.own .e trivial)
      obtain ⟨E1, f1, x1⟩ := own_slN (hk7.own .i trivial)
      obtain ⟨E2, f2, x2⟩ := own_slN (hk7.own .n trivial)
      have HE7 := Lib.hid (And.intro x0 (And.intro x1 x2))
      rw [x0, x1, x2]
      clear x0 x1 x2
      generalize (rowN n7 val7 .e).len = j0 at HE7 ⊢
      generalize (rowN n7 val7 .i).len = j1 at HE7 ⊢
      generalize (rowN n7 val7 .n).len = j2 at HE7 ⊢
      have H7 := Lib.hid (H6.out.up hb7 (by omega))
      have HB7 := Lib.hid ((hb7.block PB (heap_ltN HB6.out)).trans HB6.out)
      have HK7 := Lib.hid (OwnN.mono hk7 (by omega : w1.heap.size ≤ w6.heap.size))
      have HCY7 := Lib.hid hcy7
      have hz7 := hb7.size
      clear q0 q1 q2 qf hk7 hb7 hcy7
      obtain ⟨q0, q1, q2, qf⟩ := cells3 HB7
      refine hK.out (fun _ => ⟨q0, q1, q2⟩) ?_
      clear hK K
      try simp only [Act.put, pu]
      refine ur 7 rfl (by kernel_rfl) (fun K hK => ?_)
      go_simp
      obtain ⟨w9, hw9⟩ : ∃ z, z = (((w7.setCell ⟨PB, 0, none⟩ (.slice E0 j0 f0)).setCell ⟨PB, 1, none⟩ (.slice E1 j1 f1)).setCell ⟨PB, 2, none⟩ (.slice E2 j2 f2)) := ⟨_, rfl⟩
      rw [← hw9]
      have H9 := Lib.hid (H7.out.put (Q' := fun n => CycN n n0) HK7.out HCY7.out (by omega) HE7.out.1 HE7.out.2.1 HE7.out.2.2)
      rw [← hw9] at H9
      clear hw9 q0 q1 q2 qf
      refine hK.out (fun h' => till_no h' (by kernel_rfl)) ?_
      clear hK K
      try simp only [Act.put, pu]
      refine wpTill_done (by kernel_rfl) ?_ _
      have hm2 := fun W => run_make1 (P := Tryz.prog) 25 3 (.int .i64 0) 8 Tryz.underlying25 intInfo rfl n0 (by omega) (by omega) W
      obtain ⟨n9, val9, hQ9, hnb9⟩ := H9.out.net
      obtain ⟨g9, c9, ek9, -, -, -, -⟩ := hnb9.k.outer (by rw [hQ9.len]; omega)
      rw [hQ9.len] at ek9
      have q0 : w9.cell? ⟨PB, 0, none⟩ = some (.slice (some ⟨g9, 0, none⟩) n0 c9) := by rw [cell_of_row _ _ 0 _ _ (0, 0) hnb9.box, ← ek9]; rfl
      obtain ⟨-, -, q2, qf⟩ := cells3 (Lib.hid hnb9.box)
      have hPB9 : PB < w9.heap.size := hnb9.lt
      have hbs9 : w1.heap.size ≤ w9.heap.size := H9.out.bp.size
      clear hQ9 hnb9 ek9
      go_wp2_with fail
      have HA := Lib.hid (H9.out.zeroIns (k := n0) (Q' := InN n0) (by omega) (fun n hn => InN.zero ((hn.fit (by omega)).more (by omega) (by omega)) hn.len (by omega)) hbs9)
      obtain ⟨wa, hwa⟩ : ∃ z, z = (w9.setCell ⟨PB, 2, none⟩ (.slice (some ⟨w9.heap.size, 0, none⟩) n0 n0)).alloc (.cells (rowOf [] n0 (.int .i64 0)) 3) := ⟨_, rfl⟩
      rw [← hwa] at HA ⊢
      clear hwa q0 q2 qf hm2
      obtain ⟨n', val', hQ', hnb'⟩ := HA.out.net
      obtain ⟨gn, cn, ekn, -, -, hgn1, hgn2⟩ := hnb'.k.insSlice (by rw [hQ'.ins]; omega)
      rw [hQ'.ins] at ekn
      have q2 : wa.cell? ⟨PB, 2, none⟩ = some (.slice (some ⟨gn, 0, none⟩) n0 cn) := by rw [cell_of_row _ _ 2 _ _ (0, 0) hnb'.box, ← ekn]; rfl
      have hPBw : PB < wa.heap.size := hnb'.lt
      have hbsw : w1.heap.size ≤ wa.heap.size := HA.out.bp.size
      have HQ' := Lib.hid hQ'
      have HNB' := Lib.hid hnb'
      have HEN := Lib.hid ekn
      clear hQ' hnb' ekn
      refine till_region (S := fun w' => w'.cell? ⟨PB, 2, none⟩ = some (.slice (some ⟨gn, 0, none⟩) n0 cn)) (st := 8) (by kernel_rfl) q2 (fun hHeld => ?_)
      refine utf 0 36 ?_
      refine utk 1 37 ?_
      refine utf 2 38 ?_
      refine utf 3 39 ?_
      refine utk 4 40 ?_
      refine utf 5 41 ?_
      refine ur 6 rfl (by kernel_rfl) (fun K hK => ?_)
      go_simp
      go_at_call 40
      refine (cur_pick P _ cv _ wa.drew (HA.out.cur.below (Below.refl w1.heap.size wa).drew hP1) (by omega)).mono ?_
      rintro e w8 ⟨xp, rfl, hxp, hc8, hg8'⟩
      have hxN : xp < n0 := by omega
      have hg8 : wa.grownBy w8 (some P) := ⟨hg8'.os, hg8'.tape, hg8'.output, hg8'.size, hg8'.block⟩
      have H8 := Lib.hid (HA.out.draw hc8 hg8 hbsw)
      have HN8 := Lib.hid (HNB'.out.drawn hg8 hP1 (by omega))
      have q2 := (World.cell?_of_block (a := ⟨PB, 2, none⟩) (hg8.block PB hPBw (fun e => (by omega : PB ≠ P) (Option.some.inj e)))).trans q2
      have hon : w8.ownsRow w1.heap.size 3 1 (val' .n) n'.ins.length (n'.ins.map intV) := HN8.out.k.own .n trivial
      rw [HEN.out, HQ'.out.ins] at hon
      obtain ⟨y0, hy0⟩ : ∃ y, n'.ins[xp]? = some y := ⟨_, List.getElem?_eq_getElem (by rw [HQ'.out.ins]; exact hxN)⟩
      have ci := own_cellI hon hxN hy0
      have fi := own_thaw hon xp
      have hz8 := hg8.size
      clear hxp hc8 hg8 hg8' hon hy0
      refine hK.out (fun _ => q2) ?_
      clear hK K
      try simp only [Act.put, pu]
      refine utf 7 43 ?_
      refine ur 8 rfl (by kernel_rfl) (fun K hK => ?_)
      go_simp
      obtain ⟨wp, hwp⟩ : ∃ z, z = w8.setCell ⟨gn, xp, none⟩ (.int .i64 1) := ⟨_, rfl⟩
      rw [← hwp]
      have Hp := Lib.hid (show NAt w1 P PB PR w1.heap.size cv _ (InN n0) wp by
        have h1 := HN8.out.apart H8.out.res .n trivial gn (by rw [HEN.out]; rfl)
        rw [hwp]
        exact H8.out.step ⟨_, _, HQ'.out.set xp, HN8.out.setIn (by rw [HEN.out, HQ'.out.ins]) xp 1⟩ (Kp.cell h1.1 h1.2 _ _))
      clear hwp q2 ci fi
      refine hK.out (fun h' => till_no h' (by kernel_rfl)) ?_
      clear hK K
      try simp only [Act.put, pu]
      refine wpTill_done (by kernel_rfl) ?_ _
      obtain ⟨nz, valz, hQz, hnz⟩ := Hp.out.net
      obtain ⟨Z0, l0, ez0⟩ := own_slN (hnz.k.own .e trivial)
      obtain ⟨Z1, l1, ez1⟩ := own_slN (hnz.k.own .i trivial)
      obtain ⟨Z2, l2, ez2⟩ := own_slN (hnz.k.own .n trivial)
      have hbz := hnz.box
      rw [ez0, ez1, ez2] at hbz
      have HEZ := Lib.hid (And.intro ez0 (And.intro ez1 ez2))
      have HNZ := Lib.hid hnz.k
      have HQZ := Lib.hid hQz
      clear ez0 ez1 ez2 hnz hQz
      generalize (rowN nz valz .e).len = s0 at HEZ hbz
      generalize (rowN nz valz .i).len = s1 at HEZ hbz
      generalize (rowN nz valz .n).len = s2 at HEZ hbz
      have HRZ := Lib.hid Hp.out.res
      obtain ⟨b0, b1, b2, bf⟩ := cells3 (Lib.hid hbz)
      obtain ⟨p0, p1, p2, pf⟩ := cells3 HRZ
      obtain ⟨we, hwe, HE, hge⟩ := set3 HRZ (.slice Z0 s0 l0) (.slice Z1 s1 l1) (.slice Z2 s2 l2)
      have HWE := Lib.hid hwe
      clear hwe hbz
      go_wp2_with fail
      rw [← HWE.out]
      obtain ⟨z0, z1, z2, -⟩ := cells3 HE
      have hKz := NetK.past HNZ.out HRZ.out no_tyN_net hge
      have hCz : CurR we P cv _ := Hp.out.cur.keep (show _ ≤ m + 300000000000000000 from by omega) fun b hb' => hge.block b (by have := Hp.out.cur.lt; omega) (fun e => by have e' : b = PR := Option.some.inj e; have := Hp.out.hP; omega)
      have hBz : Bp w.heap.size P w we := (Bp.below hb1).trans ((Hp.out.bp.mono (by omega)).trans (Bp.other hge (by have := Hp.out.bp.size; omega) hPRl.1))
      exact bodyPost_ret (v := .agg #[.slice Z0 s0 l0, .slice Z1 s1 l1, .slice Z2 s2 l2]) (by simp [results, Tryz.results49, go_sem, z0, z1, z2]) rfl ⟨nz, valz, by rw [HEZ.out.1, HEZ.out.2.1, HEZ.out.2.2], HQZ.out.fit, OwnN.mono hKz (show w.heap.size ≤ w1.heap.size by omega), hCz, hBz⟩
    · have hrf : (r = 5) = False := eq_false hr
      go_wp2_with fail
      refine (cur_simple P (m + 2) most cv w2 HC2.out (by omega) (by omega) (by omega)).mono ?_
      rintro e w4 ⟨n4, val4, rfl, ⟨N, hN1, hN2, hQ4⟩, hk4, hc4, hb4⟩
      obtain ⟨ge, ce, x0⟩ := own_slN (hk4.own .e trivial)
      obtain ⟨C1, k1, x1⟩ := own_slN (hk4.own .i trivial)
      obtain ⟨C2, k2, x2⟩ := own_slN (hk4.own .n trivial)
      have HV := Lib.hid (And.intro x0 (And.intro x1 x2))
      rw [x0, x1, x2]
      clear x0 x1 x2
      generalize (rowN n4 val4 .e).len = n0 at HV ⊢
      generalize (rowN n4 val4 .i).len = n1 at HV ⊢
      generalize (rowN n4 val4 .n).len = n2 at HV ⊢
      obtain ⟨w5, hw5, hb5, HB, hz5, HS5⟩ := box3 w4 (.slice ge n0 ce) (.slice C1 n1 k1) (.slice C2 n2 k2) 27
      obtain ⟨PB, hPB⟩ : ∃ z, z = w4.heap.size := ⟨_, rfl⟩
      have HPB := Lib.hid hPB
      have hz4 := hb4.size
      have hPBl : w4.heap.size ≤ PB := by omega
      rw [← hPB] at HB hz5
      have HW5 := Lib.hid hw5
      have H5 := Lib.hid (show NAt w1 P PB PR w1.heap.size cv (m + 2 + 144115188075955872) (fun n => ∃ N, 1 ≤ N ∧ N ≤ most ∧ MadeN n N 5) w5 from ⟨hc4.below (hb5.mono (by omega : w1.heap.size ≤ w4.heap.size)) hP1, ⟨n4, val4, ⟨N, hN1, hN2, hQ4⟩, NetB.of (OwnN.mono (hk4.up hb5) (by omega)) (by rw [HV.out.1, HV.out.2.1, HV.out.2.2]; exact HB.out)⟩, (hb5.block PR (by omega)).trans ((hb4.block PR (by omega) (by omega)).trans HQ2.out), (hB2.trans (hb4.mono (by omega))).trans (Bp.below (hb5.mono (by omega))), hP1, by omega, by omega, by omega⟩)
      obtain ⟨q0, q1, q2, qf⟩ := cells3 HB
      have eq0 := q0
      have eq1 := q1
      have eq2 := q2
      rw [hw5, hPB] at eq0 eq1 eq2
      clear hw5 hPB hk4 hb4 hb5 hc4 hQ4 q0 q1 q2 qf hN1 hN2
      go_wp2_with fail
      rw [← HW5.out, ← HPB.out]
      clear eq0 eq1 eq2
      refine (cur_one P _ cv _ w5 H5.out.cur (by omega)).mono ?_
      rintro e w6 ⟨b, rfl, hc6, hg6⟩
      have hPPB : PB ≠ P := by omega
      have HB6 := Lib.hid ((hg6.block PB (heap_ltN HB.out) (fun e => hPPB (Option.some.inj e))).trans HB.out)
      have H6 := Lib.hid (H5.out.draw hc6 hg6 H5.out.bp.size)
      have hz6 := hg6.size
      clear hc6 hg6
      cases b with
      | true =>
        obtain ⟨q0, q1, q2, qf⟩ := cells3 HB6
        go_wp2_with fail
        refine (cur_tree P _ most cv w6 H6.out.cur (by omega) (by omega) (by omega)).mono ?_
        rintro e w7 ⟨n7, val7, rfl, ⟨N', hN1', hN2', hQ7⟩, hk7, hc7, hb7⟩
        obtain ⟨E0, f0, x0⟩ := own_slN (hk7.own .e trivial)
        obtain ⟨E1, f1, x1⟩ := own_slN (hk7.own .i trivial)
        obtain ⟨E2, f2, x2⟩ := own_slN (hk7.own .n trivial)
        have HE7 := Lib.hid (And.intro x0 (And.intro x1 x2))
        rw [x0, x1, x2]
        clear x0 x1 x2
        generalize (rowN n7 val7 .e).len = j0 at HE7 ⊢
        generalize (rowN n7 val7 .i).len = j1 at HE7 ⊢
        generalize (rowN n7 val7 .n).len = j2 at HE7 ⊢
        have hg7 := hb7.grows
        have hbs6 : w1.heap.size ≤ w6.heap.size := H6.out.bp.size
        have H7 := Lib.hid (H6.out.draw hc7 hg7 hbs6)
        have HB7 := Lib.hid ((hg7.block PB (heap_ltN HB6.out) (fun e => hPPB (Option.some.inj e))).trans HB6.out)
        have hz7 := hg7.size
        have H9 := Lib.hid ((H7.out.put (Q' := fun n => ∃ N, 1 ≤ N ∧ N ≤ most ∧ MadeN n N 5) (OwnN.mono hk7 hbs6) ⟨N', hN1', hN2', hQ7.more (by omega)⟩ (by omega) HE7.out.1 HE7.out.2.1 HE7.out.2.2).more (m' := m + 290000000000000000) (by omega) fun _ h => h)
        obtain ⟨w9, hw9⟩ : ∃ z, z = (((w7.setCell ⟨PB, 0, none⟩ (.slice E0 j0 f0)).setCell ⟨PB, 1, none⟩ (.slice E1 j1 f1)).setCell ⟨PB, 2, none⟩ (.slice E2 j2 f2)) := ⟨_, rfl⟩
        rw [← hw9] at H9
        have HW9 := Lib.hid hw9
        clear hk7 hc7 hb7 hg7 hw9 hQ7 q0 q1 q2 qf
        obtain ⟨q0, q1, q2, qf⟩ := cells3 HB7
        go_upto_region 12 with fail
        rw [← HW9.out]
        clear q0 q1 q2 qf
        obtain ⟨n9, val9, ⟨N, hN1, hN2, hQ9⟩, hnb9⟩ := H9.out.net
        obtain ⟨g9, c9, ek9, -, -, -, -⟩ := hnb9.k.outer (by rw [hQ9.len]; omega)
        rw [hQ9.len] at ek9
        have q0 : w9.cell? ⟨PB, 0, none⟩ = some (.slice (some ⟨g9, 0, none⟩) N c9) := by rw [cell_of_row _ _ 0 _ _ (0, 0) hnb9.box, ← ek9]; rfl
        obtain ⟨-, -, q2, qf⟩ := cells3 (Lib.hid hnb9.box)
        have hPB9 : PB < w9.heap.size := hnb9.lt
        have hbs9 : w1.heap.size ≤ w9.heap.size := H9.out.bp.size
        have HN9 := Lib.hid (show NAt w1 P PB PR w1.heap.size cv (m + 290000000000000000) (fun n => MadeN n N 5) w9 from ⟨H9.out.cur, ⟨n9, val9, hQ9, hnb9⟩, H9.out.res, H9.out.bp, hP1, H9.out.hB, H9.out.hR, H9.out.hne⟩)
        have hm2 := fun W => run_make1 (P := Tryz.prog) 25 3 (.int .i64 0) 8 Tryz.underlying25 intInfo rfl N (by omega) (by omega) W
        clear hQ9 hnb9 ek9
        go_wp2_with fail
        have HA := Lib.hid (HN9.out.zeroIns (k := N) (Q' := InN N) (by omega) (fun n hn => InN.zero ((hn.fit (K := 200) (by omega) (by omega) (by omega)).more (by omega) (by omega)) hn.len (by omega)) hbs9)
        obtain ⟨wa, hwa⟩ : ∃ z, z = (w9.setCell ⟨PB, 2, none⟩ (.slice (some ⟨w9.heap.size, 0, none⟩) N N)).alloc (.cells (rowOf [] N (.int .i64 0)) 3) := ⟨_, rfl⟩
        rw [← hwa] at HA ⊢
        have hbsa : w1.heap.size ≤ wa.heap.size := HA.out.bp.size
        clear hwa q0 q2 qf hm2
        refine (cur_pick P _ cv _ wa HA.out.cur (by omega)).mono ?_
        rintro e wk ⟨xk, rfl, hxk, hck, hgk⟩
        have hxk3 : xk ≤ 3 := by omega
        have HK := Lib.hid (HA.out.draw hck hgk hbsa)
        clear hxk hck hgk
        go_wp2_with fail
        go_loopw [9] (fun i wr => StRel w1 P PB PR w1.heap.size cv (m + 290000000000000002) N i wr) (fun i _ => (intOf i).toNat)
        case atStart => exact ⟨xk, hxk3, rfl, HK.out.more (by omega) fun _ h => h⟩
        case round =>
          obtain ⟨k, hk3, rfl, hat⟩ := hrel
          have HR := Lib.hid hat
          clear hat
          by_cases h0 : 0 < k
          · have hk0 : ((k : Int) > 0) = True := eq_true (by omega)
            have hwrk : IntKind.i64.wrap ((k : Int) - 1) = ((k - 1 : Nat) : Int) := by rw [IntWalk.i64_in _ (by omega)]; omega
            go_wp2_with fail
            obtain ⟨n', val', hQ', hnb'⟩ := HR.out.net
            obtain ⟨gn, cn, ekn, -, -, hgn1, hgn2⟩ := hnb'.k.insSlice (by rw [hQ'.ins]; omega)
            rw [hQ'.ins] at ekn
            have q2 : wr.cell? ⟨PB, 2, none⟩ = some (.slice (some ⟨gn, 0, none⟩) N cn) := by rw [cell_of_row _ _ 2 _ _ (0, 0) hnb'.box, ← ekn]; rfl
            have hPBw : PB < wr.heap.size := hnb'.lt
            have hbsw : w1.heap.size ≤ wr.heap.size := HR.out.bp.size
            have HQ' := Lib.hid hQ'
            have HNB' := Lib.hid hnb'
            have HEN := Lib.hid ekn
            clear hQ' hnb' ekn
            refine till_region (S := fun w' => w'.cell? ⟨PB, 2, none⟩ = some (.slice (some ⟨gn, 0, none⟩) N cn)) (st := 8) (by kernel_rfl) q2 (fun hHeld => ?_)
            refine utf 0 64 ?_
            refine utk 1 65 ?_
            refine utf 2 66 ?_
            refine utf 3 67 ?_
            refine utk 4 68 ?_
            refine utf 5 69 ?_
            refine ur 6 rfl (by kernel_rfl) (fun K hK => ?_)
            go_simp
            go_at_call 40
            refine (cur_pick P _ cv _ wr.drew (HR.out.cur.below (Below.refl w1.heap.size wr).drew hP1) (by omega)).mono ?_
            rintro e w8 ⟨xp, rfl, hxp, hc8, hg8'⟩
            have hxN : xp < N := by omega
            have hg8 : wr.grownBy w8 (some P) := ⟨hg8'.os, hg8'.tape, hg8'.output, hg8'.size, hg8'.block⟩
            have H8 := Lib.hid (HR.out.draw hc8 hg8 hbsw)
            have HN8 := Lib.hid (HNB'.out.drawn hg8 hP1 (by omega))
            have q2 := (World.cell?_of_block (a := ⟨PB, 2, none⟩) (hg8.block PB hPBw (fun e => (by omega : PB ≠ P) (Option.some.inj e)))).trans q2
            have hon : w8.ownsRow w1.heap.size 3 1 (val' .n) n'.ins.length (n'.ins.map intV) := HN8.out.k.own .n trivial
            rw [HEN.out, HQ'.out.ins] at hon
            obtain ⟨y0, hy0⟩ : ∃ y, n'.ins[xp]? = some y := ⟨_, List.getElem?_eq_getElem (by rw [HQ'.out.ins]; exact hxN)⟩
            have ci := own_cellI hon hxN hy0
            have fi := own_thaw hon xp
            have hz8 := hg8.size
            clear hxp hc8 hg8 hg8' hon hy0
            refine hK.out (fun _ => q2) ?_
            clear hK K
            try simp only [Act.put, pu]
            refine utf 7 71 ?_
            refine ur 8 rfl (by kernel_rfl) (fun K hK => ?_)
            go_simp
            obtain ⟨wp, hwp⟩ : ∃ z, z = w8.setCell ⟨gn, xp, none⟩ (.int .i64 1) := ⟨_, rfl⟩
            rw [← hwp]
            have Hp := Lib.hid (show NAt w1 P PB PR w1.heap.size cv _ (InN N) wp by
              have h1 := HN8.out.apart H8.out.res .n trivial gn (by rw [HEN.out]; rfl)
              rw [hwp]
              exact H8.out.step ⟨_, _, HQ'.out.set xp, HN8.out.setIn (by rw [HEN.out, HQ'.out.ins]) xp 1⟩ (Kp.cell h1.1 h1.2 _ _))
            clear hwp q2 ci fi
            refine hK.out (fun h' => till_no h' (by kernel_rfl)) ?_
            clear hK K
            try simp only [Act.put, pu]
            refine wpTill_done (by kernel_rfl) ?_ _
            go_wp2_with fail
            go_roundw
            case rel => exact ⟨k - 1, by omega, by go_num, Hp.out.more (by omega) fun _ h => h⟩
            case measure => simp [intOf]; omega
          · obtain rfl : k = 0 := by omega
            obtain ⟨nz, valz, hQz, hnz⟩ := HR.out.net
            obtain ⟨Z0, l0, ez0⟩ := own_slN (hnz.k.own .e trivial)
            obtain ⟨Z1, l1, ez1⟩ := own_slN (hnz.k.own .i trivial)
            obtain ⟨Z2, l2, ez2⟩ := own_slN (hnz.k.own .n trivial)
            have hbz := hnz.box
            rw [ez0, ez1, ez2] at hbz
            have HEZ := Lib.hid (And.intro ez0 (And.intro ez1 ez2))
            have HNZ := Lib.hid hnz.k
            have HQZ := Lib.hid hQz
            clear ez0 ez1 ez2 hnz hQz
            generalize (rowN nz valz .e).len = s0 at HEZ hbz
            generalize (rowN nz valz .i).len = s1 at HEZ hbz
            generalize (rowN nz valz .n).len = s2 at HEZ hbz
            have HRZ := Lib.hid HR.out.res
            obtain ⟨b0, b1, b2, bf⟩ := cells3 (Lib.hid hbz)
            obtain ⟨p0, p1, p2, pf⟩ := cells3 HRZ
            obtain ⟨we, hwe, HE, hge⟩ := set3 HRZ (.slice Z0 s0 l0) (.slice Z1 s1 l1) (.slice Z2 s2 l2)
            have HWE := Lib.hid hwe
            clear hwe hbz
            go_wp2_with fail
            rw [← HWE.out]
            obtain ⟨z0, z1, z2, -⟩ := cells3 HE
            have hKz := NetK.past HNZ.out HRZ.out no_tyN_net hge
            have hCz : CurR we P cv _ := HR.out.cur.keep (show _ ≤ m + 300000000000000000 from by omega) fun b hb' => hge.block b (by have := HR.out.cur.lt; omega) (fun e => by have e' : b = PR := Option.some.inj e; have := HR.out.hP; omega)
            have hBz : Bp w.heap.size P w we := (Bp.below hb1).trans ((HR.out.bp.mono (by omega)).trans (Bp.other hge (by have := HR.out.bp.size; omega) hPRl.1))
            exact bodyPost_ret (v := .agg #[.slice Z0 s0 l0, .slice Z1 s1 l1, .slice Z2 s2 l2]) (by simp [results, Tryz.results49, go_sem, z0, z1, z2]) rfl ⟨nz, valz, by rw [HEZ.out.1, HEZ.out.2.1, HEZ.out.2.2], HQZ.out.fit, OwnN.mono hKz (show w.heap.size ≤ w1.heap.size by omega), hCz, hBz⟩
      | false =>
        have H9 := Lib.hid (H6.out.more (m' := m + 290000000000000000) (by omega) fun _ h => h)
        go_upto_region 12 with fail
        obtain ⟨n9, val9, ⟨N, hN1, hN2, hQ9⟩, hnb9⟩ := H9.out.net
        obtain ⟨g9, c9, ek9, -, -, -, -⟩ := hnb9.k.outer (by rw [hQ9.len]; omega)
        rw [hQ9.len] at ek9
        have q0 : w6.cell? ⟨PB, 0, none⟩ = some (.slice (some ⟨g9, 0, none⟩) N c9) := by rw [cell_of_row _ _ 0 _ _ (0, 0) hnb9.box, ← ek9]; rfl
        obtain ⟨-, -, q2, qf⟩ := cells3 (Lib.hid hnb9.box)
        have hPB9 : PB < w6.heap.size := hnb9.lt
        have hbs9 : w1.heap.size ≤ w6.heap.size := H9.out.bp.size
        have HN9 := Lib.hid (show NAt w1 P PB PR w1.heap.size cv (m + 290000000000000000) (fun n => MadeN n N 5) w6 from ⟨H9.out.cur, ⟨n9, val9, hQ9, hnb9⟩, H9.out.res, H9.out.bp, hP1, H9.out.hB, H9.out.hR, H9.out.hne⟩)
        have hm2 := fun W => run_make1 (P := Tryz.prog) 25 3 (.int .i64 0) 8 Tryz.underlying25 intInfo rfl N (by omega) (by omega) W
        clear hQ9 hnb9 ek9
        go_wp2_with fail
        have HA := Lib.hid (HN9.out.zeroIns (k := N) (Q' := InN N) (by omega) (fun n hn => InN.zero ((hn.fit (K := 200) (by omega) (by omega) (by omega)).more (by omega) (by omega)) hn.len (by omega)) hbs9)
        obtain ⟨wa, hwa⟩ : ∃ z, z = (w6.setCell ⟨PB, 2, none⟩ (.slice (some ⟨w6.heap.size, 0, none⟩) N N)).alloc (.cells (rowOf [] N (.int .i64 0)) 3) := ⟨_, rfl⟩
        rw [← hwa] at HA ⊢
        have hbsa : w1.heap.size ≤ wa.heap.size := HA.out.bp.size
        clear hwa q0 q2 qf hm2
        refine (cur_pick P _ cv _ wa HA.out.cur (by omega)).mono ?_
        rintro e wk ⟨xk, rfl, hxk, hck, hgk⟩
        have hxk3 : xk ≤ 3 := by omega
        have HK := Lib.hid (HA.out.draw hck hgk hbsa)
        clear hxk hck hgk
        go_wp2_with fail
        go_loopw [9] (fun i wr => StRel w1 P PB PR w1.heap.size cv (m + 290000000000000002) N i wr) (fun i _ => (intOf i).toNat)
        case atStart => exact ⟨xk, hxk3, rfl, HK.out.more (by omega) fun _ h => h⟩
        case round =>
          obtain ⟨k, hk3, rfl, hat⟩ := hrel
          have HR := Lib.hid hat
          clear hat
          by_cases h0 : 0 < k
          · have hk0 : ((k : Int) > 0) = True := eq_true (by omega)
            have hwrk : IntKind.i64.wrap ((k : Int) - 1) = ((k - 1 : Nat) : Int) := by rw [IntWalk.i64_in _ (by omega)]; omega
            go_wp2_with fail
            obtain ⟨n', val', hQ', hnb'⟩ := HR.out.net
            obtain ⟨gn, cn, ekn, -, -, hgn1, hgn2⟩ := hnb'.k.insSlice (by rw [hQ'.ins]; omega)
            rw [hQ'.ins] at ekn
            have q2 : wr.cell? ⟨PB, 2, none⟩ = some (.slice (some ⟨gn, 0, none⟩) N cn) := by rw [cell_of_row _ _ 2 _ _ (0, 0) hnb'.box, ← ekn]; rfl
            have hPBw : PB < wr.heap.size := hnb'.lt
            have hbsw : w1.heap.size ≤ wr.heap.size := HR.out.bp.size
            have HQ' := Lib.hid hQ'
            have HNB' := Lib.hid hnb'
            have HEN := Lib.hid ekn
            clear hQ' hnb' ekn
            refine till_region (S := fun w' => w'.cell? ⟨PB, 2, none⟩ = some (.slice (some ⟨gn, 0, none⟩) N cn)) (st := 8) (by kernel_rfl) q2 (fun hHeld => ?_)
            refine utf 0 64 ?_
            refine utk 1 65 ?_
            refine utf 2 66 ?_
            refine utf 3 67 ?_
            refine utk 4 68 ?_
            refine utf 5 69 ?_
            refine ur 6 rfl (by kernel_rfl) (fun K hK => ?_)
            go_simp
            go_at_call 40
            refine (cur_pick P _ cv _ wr.drew (HR.out.cur.below (Below.refl w1.heap.size wr).drew hP1) (by omega)).mono ?_
            rintro e w8 ⟨xp, rfl, hxp, hc8, hg8'⟩
            have hxN : xp < N := by omega
            have hg8 : wr.grownBy w8 (some P) := ⟨hg8'.os, hg8'.tape, hg8'.output, hg8'.size, hg8'.block⟩
            have H8 := Lib.hid (HR.out.draw hc8 hg8 hbsw)
            have HN8 := Lib.hid (HNB'.out.drawn hg8 hP1 (by omega))
            have q2 := (World.cell?_of_block (a := ⟨PB, 2, none⟩) (hg8.block PB hPBw (fun e => (by omega : PB ≠ P) (Option.some.inj e)))).trans q2
            have hon : w8.ownsRow w1.heap.size 3 1 (val' .n) n'.ins.length (n'.ins.map intV) := HN8.out.k.own .n trivial
            rw [HEN.out, HQ'.out.ins] at hon
            obtain ⟨y0, hy0⟩ : ∃ y, n'.ins[xp]? = some y := ⟨_, List.getElem?_eq_getElem (by rw [HQ'.out.ins]; exact hxN)⟩
            have ci := own_cellI hon hxN hy0
            have fi := own_thaw hon xp
            have hz8 := hg8.size
            clear hxp hc8 hg8 hg8' hon hy0
            refine hK.out (fun _ => q2) ?_
            clear hK K
            try simp only [Act.put, pu]
            refine utf 7 71 ?_
            refine ur 8 rfl (by kernel_rfl) (fun K hK => ?_)
            go_simp
            obtain ⟨wp, hwp⟩ : ∃ z, z = w8.setCell ⟨gn, xp, none⟩ (.int .i64 1) := ⟨_, rfl⟩
            rw [← hwp]
            have Hp := Lib.hid (show NAt w1 P PB PR w1.heap.size cv _ (InN N) wp by
              have h1 := HN8.out.apart H8.out.res .n trivial gn (by rw [HEN.out]; rfl)
              rw [hwp]
              exact H8.out.step ⟨_, _, HQ'.out.set xp, HN8.out.setIn (by rw [HEN.out, HQ'.out.ins]) xp 1⟩ (Kp.cell h1.1 h1.2 _ _))
            clear hwp q2 ci fi
            refine hK.out (fun h' => till_no h' (by kernel_rfl)) ?_
            clear hK K
            try simp only [Act.put, pu]
            refine wpTill_done (by kernel_rfl) ?_ _
            go_wp2_with fail
            go_roundw
            case rel => exact ⟨k - 1, by omega, by go_num, Hp.out.more (by omega) fun _ h => h⟩
            case measure => simp [intOf]; omega
          · obtain rfl : k = 0 := by omega
            obtain ⟨nz, valz, hQz, hnz⟩ := HR.out.net
            obtain ⟨Z0, l0, ez0⟩ := own_slN (hnz.k.own .e trivial)
            obtain ⟨Z1, l1, ez1⟩ := own_slN (hnz.k.own .i trivial)
            obtain ⟨Z2, l2, ez2⟩ := own_slN (hnz.k.own .n trivial)
            have hbz := hnz.box
            rw [ez0, ez1, ez2] at hbz
            have HEZ := Lib.hid (And.intro ez0 (And.intro ez1 ez2))
            have HNZ := Lib.hid hnz.k
            have HQZ := Lib.hid hQz
            clear ez0 ez1 ez2 hnz hQz
            generalize (rowN nz valz .e).len = s0 at HEZ hbz
            generalize (rowN nz valz .i).len = s1 at HEZ hbz
            generalize (rowN nz valz .n).len = s2 at HEZ hbz
            have HRZ := Lib.hid HR.out.res
            obtain ⟨b0, b1, b2, bf⟩ := cells3 (Lib.hid hbz)
            obtain ⟨p0, p1, p2, pf⟩ := cells3 HRZ
            obtain ⟨we, hwe, HE, hge⟩ := set3 HRZ (.slice Z0 s0 l0) (.slice Z1 s1 l1) (.slice Z2 s2 l2)
            have HWE := Lib.hid hwe
            clear hwe hbz
            go_wp2_with fail
            rw [← HWE.out]
            obtain ⟨z0, z1, z2, -⟩ := cells3 HE
            have hKz := NetK.past HNZ.out HRZ.out no_tyN_net hge
            have hCz : CurR we P cv _ := HR.out.cur.keep (show _ ≤ m + 300000000000000000 from by omega) fun b hb' => hge.block b (by have := HR.out.cur.lt; omega) (fun e => by have e' : b = PR := Option.some.inj e; have := HR.out.hP; omega)
            have hBz : Bp w.heap.size P w we := (Bp.below hb1).trans ((HR.out.bp.mono (by omega)).trans (Bp.other hge (by have := HR.out.bp.size; omega) hPRl.1))
            exact bodyPost_ret (v := .agg #[.slice Z0 s0 l0, .slice Z1 s1 l1, .slice Z2 s2 l2]) (by simp [results, Tryz.results49, go_sem, z0, z1, z2]) rfl ⟨nz, valz, by rw [HEZ.out.1, HEZ.out.2.1, HEZ.out.2.2], HQZ.out.fit, OwnN.mono hKz (show w.heap.size ≤ w1.heap.size by omega), hCz, hBz⟩
end Go.Proofs.YtdghoienjegffaaGreat
