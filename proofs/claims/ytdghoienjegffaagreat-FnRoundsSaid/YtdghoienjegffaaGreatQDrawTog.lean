/-
  The draws DrawRunTogether and DrawMoveSet. Condition: at most 2^20 bytes.
-/
import Derived.Test.YtdghoienjegffaaGreatQDrawEn
namespace Go.Proofs.YtdghoienjegffaaGreat
open Go.RowKit
set_option linter.all false
def BytesC (w : World) (B : Nat) (v : Value) : Prop := BytesR w B v ∧ ∃ A n c, v = .slice A n c ∧ n ≤ c
theorem bytes_half {w : World} {B n c : Nat} {Ab : Option Addr} (h : BytesR w B (.slice Ab n c)) (hc : n ≤ c) :
    ∃ v', (∀ W, (Instr.slice 22 (.slice Ab n c) (some (.int .i64 ((n : Int) / 2))) none none).run Tryz.prog W = .ok v' W) ∧ BytesR w B v' ∧ ∃ A' n' c', v' = .slice A' n' c' := by
  obtain ⟨k, hk⟩ : ∃ k, k = n / 2 := ⟨_, rfl⟩
  have e : (n : Int) / 2 = (k : Int) := by omega
  obtain ⟨Aa, hA⟩ : ∃ z : Option Addr, z = if c = k then Ab else Ab.map (·.add k) := ⟨_, rfl⟩
  have hrun : ∀ W, (Instr.slice 22 (.slice Ab n c) (some (.int .i64 ((n : Int) / 2))) none none).run Tryz.prog W = .ok (.slice Aa (n - k) (c - k)) W := fun W => by
    rw [e, Go.run_slice_l (w := W) 22 Ab n c (by kernel_rfl) .i64 (k : Int) (by omega) (by omega)]
    rw [show ((sizeOf (Tryz.prog.elem 22)).run Tryz.prog W) = .ok 1 W by kernel_rfl, hA]
    simp [Result.andThen, sliced]
  refine ⟨_, hrun, ?_, _, _, _, rfl⟩
  obtain ⟨A', n', c', e1, h1, h2⟩ := h
  obtain ⟨rfl, rfl, rfl⟩ := Value.slice.inj e1
  refine ⟨_, _, _, rfl, by omega, fun hn => ?_⟩
  obtain ⟨ad, rfl, hb, hcell⟩ := h2 (by omega)
  refine ⟨ad.add k, by rw [hA, if_neg (by omega)]; rfl, by rw [block_add]; exact hb, fun j hj => ?_⟩
  obtain ⟨x, hx, hx2⟩ := hcell (k + j) (by omega)
  exact ⟨x, hx, by rw [Addr.add_add]; exact hx2⟩
set_option maxRecDepth 100000 in
set_option maxHeartbeats 4000000 in
theorem spec_DrawRunTogether (v : Value) (w : World) (h : BytesC w w.heap.size v) :
  Calls Tryz.prog 6 #[v] w fun e w' => ∃ val n r u xs x, e = .returned (.tuple #[.agg #[val .e, val .i, val .n], .int .i64 r, u, .int .i64 x]) ∧ (∃ A m c, u = .slice A m c) ∧ DrEn w val n r u xs w' ∧ -1 ≤ x ∧ x ≤ 2001 := by
 obtain ⟨hby, Ab, nb, cb, rfl, hnc⟩ := h
 have HBY := Lib.hid hby
 clear hby
 obtain ⟨w1, hw1, hb1, HQ, hz1, HS1⟩ := box3 w (.slice none 0 0) (.slice none 0 0) (.slice none 0 0) 27
 obtain ⟨PR, hPR⟩ : ∃ z, z = w.heap.size := ⟨_, rfl⟩
 have HPR := Lib.hid hPR
 have hPRl : w.heap.size ≤ PR ∧ PR ≤ w.heap.size := by omega
 rw [← hPR] at HQ hz1
 have hcur := cur_new ((HBY.out.keep fun b hb => hb1.block b hb).more (show w.heap.size ≤ w1.heap.size by omega))
 obtain ⟨w2, hw2⟩ : ∃ z, z = w1.alloc (.cells #[.slice Ab nb cb, .int .i64 0, .int .u64 0] 51) := ⟨_, rfl⟩
 obtain ⟨P, hP⟩ : ∃ z, z = w1.heap.size := ⟨_, rfl⟩
 have hb2 : Below w1.heap.size w1 w2 := by rw [hw2]; exact bl_alloc (Below.refl _ _) _
 have HP := Lib.hid (show w.heap.size + 1 = P by rw [hP, HS1.out])
 have HP' := Lib.hid (show PR + 1 = P by rw [hPR]; exact HP.out)
 have hPl : PR < P ∧ w1.heap.size ≤ P ∧ P ≤ w1.heap.size := by omega
 rw [← hw2, ← hP] at hcur
 have H2 := Lib.hid hcur
 have HQ2 := bk HQ hb2
 have HW := Lib.hid (show w2 = (w.alloc (.cells #[.slice none 0 0, .slice none 0 0, .slice none 0 0] 27)).alloc (.cells #[.slice Ab nb cb, .int .i64 0, .int .u64 0] 51) by rw [hw2, hw1])
 have HB2 := Lib.hid (bl_trans hb1 hb2)
 have hz2 := hb2.size
 have hP2 := H2.out.lt
 obtain ⟨vh, hsl, hbh, Ah, nh, ch, rfl⟩ := bytes_half ((HBY.out.keep fun b hb => HB2.out.block b hb).more (show w.heap.size ≤ w2.heap.size by omega)) hnc
 have hsa : ∀ W, (Instr.sliceAt 22 (.slice Ab nb cb) (some (.int .i64 ((nb : Int) / 2))) none none).run Tryz.prog W = .ok (.slice Ah nh ch) W := fun W => (Go.run_sliceAt_slice (P := Tryz.prog) (w := W) 22 _ _ _ _ (by kernel_rfl)).trans (hsl W)
 have HBH := Lib.hid hbh
 have hnb : nb ≤ 1048576 := by obtain ⟨A', n', c', e1, h1, -⟩ := HBY.out; obtain ⟨-, rfl, -⟩ := Value.slice.inj e1; exact h1
 have hq : ((nb : Int)).tdiv 2 = (nb : Int) / 2 := by rw [Int.tdiv_eq_ediv_of_nonneg (by omega)]
 clear hw1 hw2 hP hPR hcur hb1 hb2 hbh
 go_enter Tryz.func6, Tryz.ntmps6
 go_wp2_with fail
 rw [← HPR.out, HP'.out, ← HW.out]
 clear hsl hsa hq
 refine (spec_DrawEnabledNodes _ w2 HBH.out).mono ?_
 rintro e w3 ⟨val, n, r, u, xs, rfl, ⟨Au, nu, cu, rfl⟩, hde⟩
 have hk3 := hde.net
 obtain ⟨ge, ce, x0⟩ := own_slN (hk3.own .e trivial)
 obtain ⟨C1, k1, x1⟩ := own_slN (hk3.own .i trivial)
 obtain ⟨C2, k2, x2⟩ := own_slN (hk3.own .n trivial)
 have HV := Lib.hid (And.intro x0 (And.intro x1 x2))
 rw [x0, x1, x2]
 clear x0 x1 x2
 generalize (rowN n val .e).len = n0 at HV ⊢
 generalize (rowN n val .i).len = n1 at HV ⊢
 generalize (rowN n val .n).len = n2 at HV ⊢
 have HDE := Lib.hid hde
 obtain ⟨w4, hw4, hb4, HB, hz4, HS4⟩ := box3 w3 (.slice ge n0 ce) (.slice C1 n1 k1) (.slice C2 n2 k2) 27
 obtain ⟨PB, hPB⟩ : ∃ z, z = w3.heap.size := ⟨_, rfl⟩
 have HPB := Lib.hid hPB
 have hz3 := hde.bl.size
 have hPBl : w3.heap.size ≤ PB := by omega
 rw [← hPB] at HB hz4
 have HW4 := Lib.hid hw4
 have hb24 := bl_trans hde.bl hb4
 have H4 := Lib.hid (H2.out.below hb24 hP2)
 have HQ4 := bk HQ2 hb24
 have HK4 := Lib.hid (hde.net.up hb4)
 have HO4 := Lib.hid (own_upN hde.own hb4)
 have hz4' := hb4.size
 have HB4 := Lib.hid (bl_trans HB2.out hb24)
 obtain ⟨q0, q1, q2, qf⟩ := cells3 HB
 have eq0 := q0
 have eq1 := q1
 have eq2 := q2
 rw [hw4, hPB] at eq0 eq1 eq2
 clear hw4 hPB hk3 hde hb4 hb24
 go_wp2_with fail
 rw [← HW4.out, ← HPB.out]
 clear eq0 eq1 eq2
 refine till_region (S := fun w' => w'.cell? ⟨PB, 0, none⟩ = some (.slice ge n0 ce) ∧ w'.cell? ⟨PB, 1, none⟩ = some (.slice C1 n1 k1) ∧ w'.cell? ⟨PB, 2, none⟩ = some (.slice C2 n2 k2)) (st := 8) (by kernel_rfl) ⟨q0, q1, q2⟩ (fun hHeld => ?_)
 refine utk 0 23 ?_
 refine utf 1 24 ?_
 refine utf 2 25 ?_
 refine utf 3 26 ?_
 refine ur 4 rfl (by kernel_rfl) (fun K hK => ?_)
 go_simp
 go_at_call 23
 refine (cur_ssMoves P _ _ w4.drew (H4.out.below (Below.refl _ _).drew (by omega)) (by omega)).mono ?_
 rintro e w6 ⟨x, rfl, hx, hc6, hg6'⟩
 have hg6 : w4.grownBy w6 (some P) := ⟨hg6'.os, hg6'.tape, hg6'.output, hg6'.size, hg6'.block⟩
 have HK6 := Lib.hid (OwnN.apart HK4.out hg6 fun j hj e => by have := ((HK4.out.own j hj).lt P e).1; omega)
 have HO6 := Lib.hid (own_upP HO4.out hg6 hP2)
 have HQ6 := Lib.hid ((hg6.block PR (heap_ltN HQ4.out) (fun e => by have e' : PR = P := Option.some.inj e; omega)).trans HQ4.out)
 have HB6 := Lib.hid ((hg6.block PB (heap_ltN HB.out) (fun e => by have e' : PB = P := Option.some.inj e; omega)).trans HB.out)
 have HG6 := Lib.hid (Below.grown HB4.out hg6 (by omega) (fun k hk => by have e := Option.some.inj (show some P = some k from hk); omega))
 have hz6 := hg6.size
 clear q0 q1 q2 qf hc6 hg6 hg6'
 obtain ⟨q0, q1, q2, qf⟩ := cells3 HB6
 obtain ⟨p0, p1, p2, pf⟩ := cells3 HQ6
 refine hK.out (fun _ => ⟨q0, q1, q2⟩) ?_
 clear hK K
 try simp only [Act.put, pu]
 refine ur 5 rfl (by kernel_rfl) (fun K hK => ?_)
 go_simp
 obtain ⟨we, hwe, HE, hge⟩ := set3 HQ6 (.slice ge n0 ce) (.slice C1 n1 k1) (.slice C2 n2 k2)
 rw [← hwe]
 have HFZ := Lib.hid (show DrEn w val n r (.slice Au nu cu) xs we from ⟨OwnN.mono (NetK.past HK6.out HQ6.out no_tyN_net hge) (by omega), HDE.out.fit, HDE.out.rule, own_setN (own_mono HO6.out (show w.heap.size ≤ w2.heap.size by omega)) hge (fun e => by have := (HO6.out.lt PR e).1; omega), HDE.out.len, HDE.out.i64, Below.grown HG6.out hge (by omega) (fun k hk => by have e := Option.some.inj (show some PR = some k from hk); omega)⟩)
 have HBe := Lib.hid ((hge.block PB (heap_ltN HB6.out) (fun e => by have e' : PB = PR := Option.some.inj e; omega)).trans HB6.out)
 clear hwe q0 q1 q2 qf p0 p1 p2 pf
 obtain ⟨q0, q1, q2, qf⟩ := cells3 HBe
 refine hK.out (fun _ => ⟨q0, q1, q2⟩) ?_
 clear hK K
 try simp only [Act.put, pu]
 refine ur 6 rfl (by kernel_rfl) (fun K hK => ?_)
 go_simp
 refine hK.out (fun _ => ⟨q0, q1, q2⟩) ?_
 clear hK K
 try simp only [Act.put, pu]
 refine ur 7 rfl (by kernel_rfl) (fun K hK => ?_)
 go_simp
 refine hK.out (fun _ => ⟨q0, q1, q2⟩) ?_
 clear hK K
 try simp only [Act.put, pu]
 refine ur 8 rfl (by kernel_rfl) (fun K hK => ?_)
 go_simp
 clear q0 q1 q2 qf
 refine hK.out (fun h' => till_no h' (by kernel_rfl)) ?_
 clear hK K
 try simp only [Act.put, pu]
 refine wpTill_done (by kernel_rfl) ?_ _
 go_wp2_with fail
 obtain ⟨z0, z1, z2, -⟩ := cells3 HE
 exact bodyPost_ret (v := .tuple #[.agg #[.slice ge n0 ce, .slice C1 n1 k1, .slice C2 n2 k2], .int .i64 r, .slice Au nu cu, .int .i64 x]) (by simp [results, Tryz.results6, go_sem, z0, z1, z2]) rfl ⟨val, n, r, _, xs, x, by rw [HV.out.1, HV.out.2.1, HV.out.2.2], ⟨_, _, _, rfl⟩, HFZ.out, hx.1, hx.2⟩
end Go.Proofs.YtdghoienjegffaaGreat
