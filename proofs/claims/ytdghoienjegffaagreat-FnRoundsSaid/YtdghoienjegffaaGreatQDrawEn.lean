/-
  The draws DrawEnabledNodes and DrawRunTogether: a network, a rule, states, a number of rounds. Condition: at most 2^20 bytes.
-/
import Derived.Test.YtdghoienjegffaaGreatQDrawSome
namespace Go.Proofs.YtdghoienjegffaaGreat
open Go.RowKit
set_option linter.all false
structure DrEn (w : World) (val : NKey → Value) (n : Net) (r : Int) (u : Value) (xs : List Int) (w' : World) : Prop where
  net : NetK w' w.heap.size val n
  fit : FitN n 200 10
  rule : 0 ≤ r ∧ r ≤ 6
  own : w'.ownsRow w.heap.size 3 1 u xs.length (xs.map intV)
  len : xs.length ≤ 300
  i64 : ∀ x ∈ xs, I64 x
  bl : Below w.heap.size w w'
theorem cur_new {w : World} {v : Value} (h : BytesR w w.heap.size v) : CurR (w.alloc (.cells #[v, .int .i64 0, .int .u64 0] 51)) w.heap.size v 0 :=
  ⟨h.keep fun b hb => heap_alloc_old w _ hb, 0, 0, Nat.le_refl _, by omega, heap_alloc_new w _⟩
set_option maxRecDepth 100000 in
set_option maxHeartbeats 4000000 in
theorem spec_DrawEnabledNodes (v : Value) (w : World) (h : BytesR w w.heap.size v) :
  Calls Tryz.prog 22 #[v] w fun e w' => ∃ val n r u xs, e = .returned (.tuple #[.agg #[val .e, val .i, val .n], .int .i64 r, u]) ∧ (∃ A m c, u = .slice A m c) ∧ DrEn w val n r u xs w' := by
 obtain ⟨Ab, nb, cb, rfl⟩ : ∃ A n c, v = .slice A n c := by obtain ⟨A, n, c, e, -⟩ := h; exact ⟨A, n, c, e⟩
 have HBY := Lib.hid h
 clear h
 obtain ⟨w1, hw1, hb1, HQ, hz1, HS1⟩ := box3 w (.slice none 0 0) (.slice none 0 0) (.slice none 0 0) 27
 obtain ⟨PR, hPR⟩ : ∃ z, z = w.heap.size := ⟨_, rfl⟩
 have HPR := Lib.hid hPR
 have hPRl : w.heap.size ≤ PR ∧ PR ≤ w.heap.size := by omega
 rw [← hPR] at HQ hz1
 have hcur := cur_new ((HBY.out.keep fun b hb => hb1.block b hb).more (show w.heap.size ≤ w1.heap.size by omega))
 obtain ⟨w2, hw2⟩ : ∃ z, z = w1.alloc (.cells #[.slice Ab nb cb, .int .i64 0, .int .u64 0] 51) := ⟨_, rfl⟩
 obtain ⟨P, hP⟩ : ∃ z, z = w1.heap.size := ⟨_, rfl⟩
 have hb2 : Below w1.heap.size w1 w2 := by rw [hw2]; exact bl_alloc (Below.refl _ _) _
 have HP := Lib.hid (show w.heap.size + 1 = P by rw [hP, HS1.out])
 have HP' := Lib.hid (show PR + 1 = P by rw [hPR]; exact HP.out)
 have hPl : PR < P ∧ w1.heap.size ≤ P ∧ P ≤ w1.heap.size := by omega
 rw [← hw2, ← hP] at hcur
 have H2 := Lib.hid hcur
 have HQ2 := bk HQ hb2
 have HW := Lib.hid (show w2 = (w.alloc (.cells #[.slice none 0 0, .slice none 0 0, .slice none 0 0] 27)).alloc (.cells #[.slice Ab nb cb, .int .i64 0, .int .u64 0] 51) by rw [hw2, hw1])
 have HB2 := Lib.hid (bl_trans hb1 hb2)
 have hz2 := hb2.size
 have hP2 := H2.out.lt
 clear hw1 hw2 hP hPR hcur hb1 hb2
 go_enter Tryz.func22, Tryz.ntmps22
 go_wp2_with fail
 rw [← HPR.out, HP'.out, ← HW.out]
 refine (cur_ssPick P 0 _ w2 H2.out (by omega)).mono ?_
 rintro e w3 ⟨r, rfl, hr, hc3, hg3⟩
 have H3 := Lib.hid hc3
 have HG3 := Lib.hid hg3
 have HQ3 := Lib.hid ((hg3.block PR (heap_ltN HQ2.out) (fun e => by have e' : PR = P := Option.some.inj e; omega)).trans HQ2.out)
 have hz3 := hg3.size
 clear hc3 hg3
 go_wp2_with fail
 refine (cur_ssNet P (0 + 2) 7 r _ w3 H3.out (by omega) (by omega) (by omega)).mono ?_
 rintro e w4 ⟨n, val, rfl, hF, hk4, hc4, hb4⟩
 obtain ⟨ge, ce, x0⟩ := own_slN (hk4.own .e trivial)
 obtain ⟨C1, k1, x1⟩ := own_slN (hk4.own .i trivial)
 obtain ⟨C2, k2, x2⟩ := own_slN (hk4.own .n trivial)
 have HV := Lib.hid (And.intro x0 (And.intro x1 x2))
 rw [x0, x1, x2]
 clear x0 x1 x2
 generalize (rowN n val .e).len = n0 at HV ⊢
 generalize (rowN n val .i).len = n1 at HV ⊢
 generalize (rowN n val .n).len = n2 at HV ⊢
 obtain ⟨w5, hw5, hb5, HB, hz5, HS5⟩ := box3 w4 (.slice ge n0 ce) (.slice C1 n1 k1) (.slice C2 n2 k2) 27
 obtain ⟨PB, hPB⟩ : ∃ z, z = w4.heap.size := ⟨_, rfl⟩
 have HPB := Lib.hid hPB
 have hz4 := hb4.size
 have hPBl : w4.heap.size ≤ PB := by omega
 rw [← hPB] at HB hz5
 have HW5 := Lib.hid hw5
 have H5 := Lib.hid (hc4.below (hb5.mono (by omega : w3.heap.size ≤ w4.heap.size)) (by omega))
 have HK5 := Lib.hid (hk4.up hb5)
 have HF5 := Lib.hid hF
 have HQ5 := Lib.hid ((hb5.block PR (by have := heap_ltN HQ3.out; omega)).trans ((hb4.block PR (heap_ltN HQ3.out) (by omega)).trans HQ3.out))
 have HG5 := Lib.hid (show w2.grownBy w5 (some P) from grownT HG3.out (grownT hb4.grows (grown_belowN hb5 _)))
 have hz5' := hb5.size
 obtain ⟨q0, q1, q2, qf⟩ := cells3 HB
 have eq0 := q0
 have eq1 := q1
 have eq2 := q2
 rw [hw5, hPB] at eq0 eq1 eq2
 clear hw5 hPB hk4 hc4 hb4 hb5 hF
 go_wp2_with fail
 rw [← HW5.out, ← HPB.out]
 clear eq0 eq1 eq2
 refine till_region (S := fun w' => w'.cell? ⟨PB, 0, none⟩ = some (.slice ge n0 ce) ∧ w'.cell? ⟨PB, 1, none⟩ = some (.slice C1 n1 k1) ∧ w'.cell? ⟨PB, 2, none⟩ = some (.slice C2 n2 k2)) (st := 8) (by kernel_rfl) ⟨q0, q1, q2⟩ (fun hHeld => ?_)
 refine utk 0 16 ?_
 refine utf 1 17 ?_
 refine utf 2 18 ?_
 refine utk 3 19 ?_
 refine utf 4 20 ?_
 refine ur 5 rfl (by kernel_rfl) (fun K hK => ?_)
 go_simp
 go_at_call 59
 have hC := cur_ssSome P _ w3.heap.size r _ val n w5.drew (H5.out.below (Below.refl _ _).drew (by omega)) (by omega) (HK5.out.up (Below.refl _ _).drew) (by omega) (by show w3.heap.size ≤ w5.heap.size; omega) HF5.out
 rw [HV.out.1, HV.out.2.1, HV.out.2.2] at hC
 refine hC.mono ?_
 clear hC
 rintro e w6 ⟨u, xs, rfl, ho6, hl6, hi6, hc6, hg6'⟩
 have hg6 : w5.grownBy w6 (some P) := ⟨hg6'.os, hg6'.tape, hg6'.output, hg6'.size, hg6'.block⟩
 obtain ⟨nu, hnu⟩ : ∃ z, z = xs.length := ⟨_, rfl⟩
 obtain ⟨Au, cu, rfl⟩ := own_slN ho6
 rw [← hnu]
 have HNU := Lib.hid hnu
 have HO6 := Lib.hid (show w6.ownsRow w5.heap.size 3 1 (.slice Au xs.length cu) xs.length (xs.map intV) from ho6)
 have HX6 := Lib.hid (And.intro hl6 hi6)
 have HK6 := Lib.hid (OwnN.apart HK5.out hg6 fun j hj e => by have := ((HK5.out.own j hj).lt P e).1; omega)
 have HQ6 := Lib.hid ((hg6.block PR (heap_ltN HQ5.out) (fun e => by have e' : PR = P := Option.some.inj e; omega)).trans HQ5.out)
 have HB6 := Lib.hid ((hg6.block PB (heap_ltN HB.out) (fun e => by have e' : PB = P := Option.some.inj e; omega)).trans HB.out)
 have HG6 := Lib.hid (grownT HG5.out hg6)
 have hz6 := hg6.size
 clear q0 q1 q2 qf hc6 hg6 hg6' ho6 hl6 hi6 hnu
 obtain ⟨q0, q1, q2, qf⟩ := cells3 HB6
 obtain ⟨p0, p1, p2, pf⟩ := cells3 HQ6
 refine hK.out (fun _ => ⟨q0, q1, q2⟩) ?_
 clear hK K
 try simp only [Act.put, pu]
 refine ur 6 rfl (by kernel_rfl) (fun K hK => ?_)
 go_simp
 obtain ⟨we, hwe, HE, hge⟩ := set3 HQ6 (.slice ge n0 ce) (.slice C1 n1 k1) (.slice C2 n2 k2)
 rw [← hwe]
 have HFZ := Lib.hid (show DrEn w val n r (.slice Au nu cu) xs we from ⟨OwnN.mono (NetK.past HK6.out HQ6.out no_tyN_net hge) (by omega), HF5.out, hr, by rw [HNU.out]; exact own_setN (own_mono HO6.out (by omega)) hge (fun e => by have := (HO6.out.lt PR e).1; omega), HX6.out.1, HX6.out.2, Below.grown (Below.grown HB2.out HG6.out (by omega) (fun k hk => by have e := Option.some.inj (show some P = some k from hk); omega)) hge (by omega) (fun k hk => by have e := Option.some.inj (show some PR = some k from hk); omega)⟩)
 have HBe := Lib.hid ((hge.block PB (heap_ltN HB6.out) (fun e => by have e' : PB = PR := Option.some.inj e; omega)).trans HB6.out)
 clear hwe hge q0 q1 q2 qf p0 p1 p2 pf
 obtain ⟨q0, q1, q2, qf⟩ := cells3 HBe
 refine hK.out (fun _ => ⟨q0, q1, q2⟩) ?_
 clear hK K
 try simp only [Act.put, pu]
 refine ur 7 rfl (by kernel_rfl) (fun K hK => ?_)
 go_simp
 refine hK.out (fun _ => ⟨q0, q1, q2⟩) ?_
 clear hK K
 try simp only [Act.put, pu]
 refine ur 8 rfl (by kernel_rfl) (fun K hK => ?_)
 go_simp
 clear q0 q1 q2 qf
 refine hK.out (fun h' => till_no h' (by kernel_rfl)) ?_
 clear hK K
 try simp only [Act.put, pu]
 refine wpTill_done (by kernel_rfl) ?_ _
 go_wp2_with fail
 obtain ⟨z0, z1, z2, -⟩ := cells3 HE
 exact bodyPost_ret (v := .tuple #[.agg #[.slice ge n0 ce, .slice C1 n1 k1, .slice C2 n2 k2], .int .i64 r, .slice Au nu cu]) (by simp [results, Tryz.results22, go_sem, z0, z1, z2]) rfl ⟨val, n, r, _, xs, by rw [HV.out.1, HV.out.2.1, HV.out.2.2], ⟨_, _, _, rfl⟩, HFZ.out⟩
end Go.Proofs.YtdghoienjegffaaGreat
