/-
  The states at the start: the reference's maStart, the program's startStates. No condition but that the machine runs on the network.
-/
import Derived.Test.YtehkcodbcnhhoaaGreatEPlainStart
import Derived.Test.YtehkcodbcnhhoaaGreatESyOwnB
namespace Go.Proofs.YtehkcodbcnhhoaaGreat
open Go.RowKit
set_option linter.all false
def StRel (m : Mach) (n : Net) (w : World) (u i : Value) (wr : World) : Prop :=
  ∃ k : Nat, k ≤ n.es.length ∧ i = .int .i64 k ∧ wr.ownsRow w.heap.size 3 1 u k ((startK m n k).map intV) ∧ Below w.heap.size w wr
set_option maxRecDepth 100000 in
set_option maxHeartbeats 4000000 in
theorem spec_maStart (vs ve vc vo : Value) (m : Mach) (ne ni nn : Value) (n : Net) (w : World) (hm : MachR w w.heap.size vs ve vc vo m) (hn : NetR w w.heap.size ne ni nn n) (hg : fitP m n) :
  Calls Tryz.prog 53 #[machV vs ve vc vo m, .agg #[ne, ni, nn]] w fun e w' => ∃ v, e = .returned v ∧ w'.ownsRow w.heap.size 3 1 v n.es.length ((startS m n).map intV) ∧ Below w.heap.size w w' := by
 unfold machV
 have h40 := hg.2.1.1.2
 have HG := Lib.hid hg
 obtain ⟨A0, c0, rfl, hc0, hM0, hr0⟩ := hm.s.open_
 obtain ⟨-, ⟨A1, m1, c1, rfl⟩, ⟨A2, m2, c2, rfl⟩, A3, m3, c3, rfl⟩ := hm.slices
 have hne := hn.e
 obtain ⟨A4, c4, rfl, hc4, hM4, hr4⟩ := hne
 obtain ⟨A6, c6, rfl, hc6, hM6, hr6⟩ := hn.n.open_
 obtain ⟨-, ⟨A5, m5, c5, rfl⟩, -⟩ := hn.slices
 unfold maxLen at hM0 hM4 hM6
 have HR0 := Lib.hid hr0
 have HR4 := Lib.hid hr4
 have HR6 := Lib.hid hr6
 clear hr0 hr4 hr6 hg
 obtain ⟨w0, hw0, hb0, HM, hz0, HS0⟩ := box7 w (.int .i64 m.deg) (.int .i64 m.st) (.int .i64 m.msg) (.slice A0 m.start.length c0) (.slice A1 m1 c1) (.slice A2 m2 c2) (.slice A3 m3 c3) 39
 obtain ⟨w1, hw1, hb1, HD, hz1, HS1⟩ := box3 w0 (.slice A4 n.es.length c4) (.slice A5 m5 c5) (.slice A6 n.ins.length c6) 43
 replace HM := bk HM hb1
 have hB : Below w.heap.size w w1 := bl_trans (hb0) hb1
 have HW := Lib.hid (show w1 = (w.alloc (.cells #[.int .i64 m.deg, .int .i64 m.st, .int .i64 m.msg, .slice A0 m.start.length c0, .slice A1 m1 c1, .slice A2 m2 c2, .slice A3 m3 c3] 39)).alloc (.cells #[.slice A4 n.es.length c4, .slice A5 m5 c5, .slice A6 n.ins.length c6] 43) by rw [hw1, hw0])
 obtain ⟨P1, hP1⟩ : ∃ z, z = w0.heap.size := ⟨_, rfl⟩
 have HP1 := Lib.hid (show w.heap.size + 1 = P1 by rw [hP1, HS0.out])
 have hPl1 : w.heap.size < P1 := by rw [← HP1.out]; omega
 rw [← hP1] at HD hz1
 obtain ⟨⟨g0, g1, g2⟩, ⟨g3, g4, g5, g6⟩, gf⟩ := cells7 HM
 obtain ⟨q0, q1, q2, qf⟩ := cells3 HD
 have eg0 := g0
 have eg1 := g1
 have eg2 := g2
 have eg3 := g3
 have eg4 := g4
 have eg5 := g5
 have eg6 := g6
 have eq0 := q0
 have eq1 := q1
 have eq2 := q2
 rw [HW.out] at eg0 eg1 eg2 eg3 eg4 eg5 eg6 eq0 eq1 eq2
 rw [← HP1.out] at eq0 eq1 eq2
 have hzb0 : w.heap.size < w1.heap.size := by omega
 have hzb1 : P1 < w1.heap.size := by omega
 have HR := Lib.hid (hm.up hB)
 have HN := Lib.hid (hn.up hB)
 clear hw1 hw0 hP1
 go_enter Tryz.func53, Tryz.ntmps53
 go_wp2_with fail
 rw [HP1.out, ← HW.out]
 clear eg0 eg1 eg2 eg3 eg4 eg5 eg6 eq0 eq1 eq2
 have HB := Lib.hid hB
 go_loopw [5, 11] (fun u i wr => StRel m n w1 u i wr) (fun _ i _ => n.es.length - (intOf i).toNat)
 case atStart => exact ⟨0, Nat.zero_le _, rfl, World.ownsRow_nil _ _ _ _, Below.refl _ _⟩
 case round =>
  obtain ⟨k, hk, rfl, ho, hbl⟩ := hrel
  have hsz := hbl.size
  obtain ⟨Au, cu, rfl⟩ := own_sl1 ho
  have hBr := bl_trans HB.out hbl
  have HMr := bk HM hbl
  have HDr := bk HD hbl
  clear g0 g1 g2 g3 g4 g5 g6 gf q0 q1 q2 qf hB
  obtain ⟨⟨g0, g1, g2⟩, ⟨g3, g4, g5, g6⟩, gf⟩ := cells7 HMr
  obtain ⟨q0, q1, q2, qf⟩ := cells3 HDr
  have HO := Lib.hid ho
  clear ho
  by_cases hlt : k < n.es.length
  ·
   obtain ⟨l, i, r, hl, hi, hi0, hr, hx, hx0, hxs⟩ := startAt_ok HG.out hlt
   obtain ⟨i, rfl⟩ : ∃ q : Nat, i = q := ⟨i.toNat, by omega⟩
   rw [Int.toNat_natCast] at hx
   have hll := (List.getElem?_eq_some_iff.1 hr).1
   have hir := (List.getElem?_eq_some_iff.1 hx).1
   have hki := (List.getElem?_eq_some_iff.1 hi).1
   obtain ⟨ad4, rfl, ha4, hrow4⟩ := HR4.out (by omega)
   obtain ⟨u4, hu4, hz4⟩ := hrow4 k l hl
   obtain ⟨B4, d4, rfl, hd4, hD4, -, -⟩ := hz4
   obtain ⟨ad0, rfl, ha0, hrow0⟩ := HR0.out (by omega)
   obtain ⟨u0, hu0, hz0'⟩ := hrow0 l.length r hr
   obtain ⟨Br, dr, rfl, -, -, hrr⟩ := hz0'.open_
   obtain ⟨adr, rfl, har, hrowr⟩ := hrr (by omega)
   obtain ⟨ad6, rfl, ha6, hrow6⟩ := HR6.out (by omega)
   have c4k := (hBr.cell (p := ad4.add k) (by rw [block_add]; exact ha4)).trans hu4
   have x0 := (hBr.cell (p := ad0.add l.length) (by rw [block_add]; exact ha0)).trans hu0
   have x1 := (hBr.cell (p := adr.add i) (by rw [block_add]; exact har)).trans (hrowr i _ hx)
   have x2 := (hBr.cell (p := ad6.add k) (by rw [block_add]; exact ha6)).trans (hrow6 k _ hi)
   have hE := startK_succ m n k
   obtain ⟨X, hX⟩ : ∃ X, X = startAt m n k := ⟨_, rfl⟩
   rw [← hX] at x1 hE
   have HE := Lib.hid hE
   have i1 : (k : Int) < (n.ins.length : Int) := by omega
   have i2 : (l.length : Int) < (m.start.length : Int) := by omega
   have i3 : (i : Int) < (r.length : Int) := by omega
   clear hE hX hu4 hu0 hrow4 hrow0 hrr hrowr hrow6 hx hr hl hi hx0 hxs hz0'
   go_wp2_with fail
   refine wp_region_held_drew (S := fun w' => w'.cell? ⟨w.heap.size, 3, none⟩ = some (.slice (some ad0) m.start.length c0) ∧ w'.cell? ⟨P1, 2, none⟩ = some (.slice (some ad6) n.ins.length c6) ∧ w'.cell? (ad0.add l.length) = some (.slice (some adr) r.length dr) ∧ w'.cell? (adr.add i) = some (.int .i64 X) ∧ w'.cell? (ad6.add k) = some (.int .i64 (i : Int))) (by kernel_rfl) ?_ (fun hHeld => ?_)
   ·
    go_keep
   refine stk 0 16 ?_
   refine stk 1 17 ?_
   refine stk 2 18 ?_
   refine stk 3 19 ?_
   refine stk 4 20 ?_
   refine stk 5 21 ?_
   refine stk 6 22 ?_
   refine stk 7 23 ?_
   refine stk 8 24 ?_
   refine stk 9 25 ?_
   refine stk 10 26 ?_
   refine stk 11 27 ?_
   refine stk 12 28 ?_
   refine stk 13 29 ?_
   refine wpAnyH_ready (rs := [14]) (by kernel_rfl) (by simp) ?_
   refine AllReadyH.cons rfl (fun K hK => ?_) AllReadyH.nil
   go_simp
   obtain ⟨w4, hw4⟩ : ∃ z, z = wr.drew := ⟨_, rfl⟩
   have hb4 : Below wr.heap.size wr w4 := by rw [hw4]; exact (Below.refl _ _).drew
   have hz4 : w4.heap.size = wr.heap.size := by rw [hw4]; rfl
   rw [show (wr.alloc (.cells #[.int .i64 X] 3)).drew = w4.alloc (.cells #[.int .i64 X] 3) by rw [hw4]; rfl, ← hz4]
   have HO4 := Lib.hid (own_up HO.out hb4)
   clear hw4
   replace g3 := (hb4.cell (p := ⟨w.heap.size, 3, none⟩) (by show w.heap.size < _; omega)).trans g3
   replace q2 := (hb4.cell (p := ⟨P1, 2, none⟩) (by show P1 < _; omega)).trans q2
   replace x0 := (hb4.cell (p := ad0.add l.length) (by rw [block_add]; omega)).trans x0
   replace x1 := (hb4.cell (p := adr.add i) (by rw [block_add]; omega)).trans x1
   replace x2 := (hb4.cell (p := ad6.add k) (by rw [block_add]; omega)).trans x2
   have s1 := Lib.cell?_alloc_some (.cells #[.int .i64 X] 3) g3
   have s2 := Lib.cell?_alloc_some (.cells #[.int .i64 X] 3) q2
   have s3 := Lib.cell?_alloc_some (.cells #[.int .i64 X] 3) x0
   have s4 := Lib.cell?_alloc_some (.cells #[.int .i64 X] 3) x1
   have s5 := Lib.cell?_alloc_some (.cells #[.int .i64 X] 3) x2
   refine hK.out _ _ ?_ (fun hHeld => ?_)
   ·
    go_keep
   clear hK K
   try simp only [Act.put, pu]
   refine wpAnyH_ready (rs := [15]) (by kernel_rfl) (by simp) ?_
   refine AllReadyH.cons rfl (fun K hK => ?_) AllReadyH.nil
   rw [if_pos (by rfl)]
   refine oper_append1 w4 (.tmp 16) (.tmp 30) 24 rfl w1.heap.size 3 _ 8 Tryz.underlying24 intInfo rfl _ _ _ rfl _ rfl rfl HO4.out (by unfold maxLen; omega) (by omega) (by omega) ?_
   intro v6 w6 hown6 hbl6 hgr6 hlt6 hob6
   have hne : ∀ b : Nat, b < w1.heap.size → w6.heap[b]? = w4.heap[b]? := fun b hb => hbl6.block b hb
   have hb06 := hbl6
   replace g3 := (hbl6.cell (p := ⟨w.heap.size, 3, none⟩) (by show w.heap.size < _; omega)).trans g3
   replace q2 := (hbl6.cell (p := ⟨P1, 2, none⟩) (by show P1 < _; omega)).trans q2
   replace x0 := (hbl6.cell (p := ad0.add l.length) (by rw [block_add]; omega)).trans x0
   replace x1 := (hbl6.cell (p := adr.add i) (by rw [block_add]; omega)).trans x1
   replace x2 := (hbl6.cell (p := ad6.add k) (by rw [block_add]; omega)).trans x2
   have HF := Lib.hid (show w6.ownsRow w1.heap.size 3 1 v6 (k + 1) ((startK m n (k + 1)).map intV) by rw [HE.out, List.map_append]; exact hown6)
   have HFB := Lib.hid ((hbl.trans (hb4.mono hsz)).trans hbl6)
   clear s1 s2 s3 s4 s5 hown6 hgr6 hob6 hne hb06 hbl6
   refine hK.out _ _ ?_ (fun hHeld => ?_)
   ·
    go_keep
   clear hK K
   try simp only [Act.put, pu]
   refine stk 16 5 ?_
   refine wpAnyH_done (by kernel_rfl) ?_ _
   go_wp2_with fail
   go_roundw
   case rel => exact ⟨k + 1, by omega, by go_num, HF.out, HFB.out⟩
   case measure => simp [intOf]; omega
  ·
   obtain rfl : k = n.es.length := by omega
   go_wp2_with fail
   go_ret
   exact ⟨_, rfl, own_mono HO.out (by omega), hBr⟩
set_option maxRecDepth 100000 in
set_option maxHeartbeats 4000000 in
theorem impl_startStates (vs ve vc vo : Value) (m : Mach) (ne ni nn : Value) (n : Net) (w : World) (hm : MachR w w.heap.size vs ve vc vo m) (hn : NetR w w.heap.size ne ni nn n) (hg : fitP m n) :
  Calls Tryz.prog 61 #[machV vs ve vc vo m, .agg #[ne, ni, nn]] w fun e w' => ∃ v, e = .returned v ∧ w'.ownsRow w.heap.size 3 1 v n.es.length ((startS m n).map intV) ∧ Below w.heap.size w w' := by
 unfold machV
 have h40 := hg.2.1.1.2
 have HG := Lib.hid hg
 obtain ⟨A0, c0, rfl, hc0, hM0, hr0⟩ := hm.s.open_
 obtain ⟨-, ⟨A1, m1, c1, rfl⟩, ⟨A2, m2, c2, rfl⟩, A3, m3, c3, rfl⟩ := hm.slices
 have hne := hn.e
 obtain ⟨A4, c4, rfl, hc4, hM4, hr4⟩ := hne
 obtain ⟨A6, c6, rfl, hc6, hM6, hr6⟩ := hn.n.open_
 obtain ⟨-, ⟨A5, m5, c5, rfl⟩, -⟩ := hn.slices
 unfold maxLen at hM0 hM4 hM6
 have HR0 := Lib.hid hr0
 have HR4 := Lib.hid hr4
 have HR6 := Lib.hid hr6
 clear hr0 hr4 hr6 hg
 obtain ⟨w0, hw0, hb0, HM, hz0, HS0⟩ := box7 w (.int .i64 m.deg) (.int .i64 m.st) (.int .i64 m.msg) (.slice A0 m.start.length c0) (.slice A1 m1 c1) (.slice A2 m2 c2) (.slice A3 m3 c3) 39
 obtain ⟨w1, hw1, hb1, HD, hz1, HS1⟩ := box3 w0 (.slice A4 n.es.length c4) (.slice A5 m5 c5) (.slice A6 n.ins.length c6) 43
 replace HM := bk HM hb1
 have hB : Below w.heap.size w w1 := bl_trans (hb0) hb1
 have HW := Lib.hid (show w1 = (w.alloc (.cells #[.int .i64 m.deg, .int .i64 m.st, .int .i64 m.msg, .slice A0 m.start.length c0, .slice A1 m1 c1, .slice A2 m2 c2, .slice A3 m3 c3] 39)).alloc (.cells #[.slice A4 n.es.length c4, .slice A5 m5 c5, .slice A6 n.ins.length c6] 43) by rw [hw1, hw0])
 obtain ⟨P1, hP1⟩ : ∃ z, z = w0.heap.size := ⟨_, rfl⟩
 have HP1 := Lib.hid (show w.heap.size + 1 = P1 by rw [hP1, HS0.out])
 have hPl1 : w.heap.size < P1 := by rw [← HP1.out]; omega
 rw [← hP1] at HD hz1
 obtain ⟨⟨g0, g1, g2⟩, ⟨g3, g4, g5, g6⟩, gf⟩ := cells7 HM
 obtain ⟨q0, q1, q2, qf⟩ := cells3 HD
 have eg0 := g0
 have eg1 := g1
 have eg2 := g2
 have eg3 := g3
 have eg4 := g4
 have eg5 := g5
 have eg6 := g6
 have eq0 := q0
 have eq1 := q1
 have eq2 := q2
 rw [HW.out] at eg0 eg1 eg2 eg3 eg4 eg5 eg6 eq0 eq1 eq2
 rw [← HP1.out] at eq0 eq1 eq2
 have hzb0 : w.heap.size < w1.heap.size := by omega
 have hzb1 : P1 < w1.heap.size := by omega
 have HR := Lib.hid (hm.up hB)
 have HN := Lib.hid (hn.up hB)
 clear hw1 hw0 hP1
 go_enter Tryz.func61, Tryz.ntmps61
 go_wp2_with fail
 rw [HP1.out, ← HW.out]
 clear eg0 eg1 eg2 eg3 eg4 eg5 eg6 eq0 eq1 eq2
 have HB := Lib.hid hB
 go_loopw [5, 11] (fun u i wr => StRel m n w1 u i wr) (fun _ i _ => n.es.length - (intOf i).toNat)
 case atStart => exact ⟨0, Nat.zero_le _, rfl, World.ownsRow_nil _ _ _ _, Below.refl _ _⟩
 case round =>
  obtain ⟨k, hk, rfl, ho, hbl⟩ := hrel
  have hsz := hbl.size
  obtain ⟨Au, cu, rfl⟩ := own_sl1 ho
  have hBr := bl_trans HB.out hbl
  have HMr := bk HM hbl
  have HDr := bk HD hbl
  clear g0 g1 g2 g3 g4 g5 g6 gf q0 q1 q2 qf hB
  obtain ⟨⟨g0, g1, g2⟩, ⟨g3, g4, g5, g6⟩, gf⟩ := cells7 HMr
  obtain ⟨q0, q1, q2, qf⟩ := cells3 HDr
  have HO := Lib.hid ho
  clear ho
  by_cases hlt : k < n.es.length
  ·
   obtain ⟨l, i, r, hl, hi, hi0, hr, hx, hx0, hxs⟩ := startAt_ok HG.out hlt
   obtain ⟨i, rfl⟩ : ∃ q : Nat, i = q := ⟨i.toNat, by omega⟩
   rw [Int.toNat_natCast] at hx
   have hll := (List.getElem?_eq_some_iff.1 hr).1
   have hir := (List.getElem?_eq_some_iff.1 hx).1
   have hki := (List.getElem?_eq_some_iff.1 hi).1
   obtain ⟨ad4, rfl, ha4, hrow4⟩ := HR4.out (by omega)
   obtain ⟨u4, hu4, hz4⟩ := hrow4 k l hl
   obtain ⟨B4, d4, rfl, hd4, hD4, -, -⟩ := hz4
   obtain ⟨ad0, rfl, ha0, hrow0⟩ := HR0.out (by omega)
   obtain ⟨u0, hu0, hz0'⟩ := hrow0 l.length r hr
   obtain ⟨Br, dr, rfl, -, -, hrr⟩ := hz0'.open_
   obtain ⟨adr, rfl, har, hrowr⟩ := hrr (by omega)
   obtain ⟨ad6, rfl, ha6, hrow6⟩ := HR6.out (by omega)
   have c4k := (hBr.cell (p := ad4.add k) (by rw [block_add]; exact ha4)).trans hu4
   have x0 := (hBr.cell (p := ad0.add l.length) (by rw [block_add]; exact ha0)).trans hu0
   have x1 := (hBr.cell (p := adr.add i) (by rw [block_add]; exact har)).trans (hrowr i _ hx)
   have x2 := (hBr.cell (p := ad6.add k) (by rw [block_add]; exact ha6)).trans (hrow6 k _ hi)
   have hE := startK_succ m n k
   obtain ⟨X, hX⟩ : ∃ X, X = startAt m n k := ⟨_, rfl⟩
   rw [← hX] at x1 hE
   have HE := Lib.hid hE
   have i1 : (k : Int) < (n.ins.length : Int) := by omega
   have i2 : (l.length : Int) < (m.start.length : Int) := by omega
   have i3 : (i : Int) < (r.length : Int) := by omega
   clear hE hX hu4 hu0 hrow4 hrow0 hrr hrowr hrow6 hx hr hl hi hx0 hxs hz0'
   go_wp2_with fail
   refine wp_region_held_drew (S := fun w' => w'.cell? ⟨w.heap.size, 3, none⟩ = some (.slice (some ad0) m.start.length c0) ∧ w'.cell? ⟨P1, 2, none⟩ = some (.slice (some ad6) n.ins.length c6) ∧ w'.cell? (ad0.add l.length) = some (.slice (some adr) r.length dr) ∧ w'.cell? (adr.add i) = some (.int .i64 X) ∧ w'.cell? (ad6.add k) = some (.int .i64 (i : Int))) (by kernel_rfl) ?_ (fun hHeld => ?_)
   ·
    go_keep
   refine stk 0 16 ?_
   refine stk 1 17 ?_
   refine stk 2 18 ?_
   refine stk 3 19 ?_
   refine stk 4 20 ?_
   refine stk 5 21 ?_
   refine stk 6 22 ?_
   refine stk 7 23 ?_
   refine stk 8 24 ?_
   refine stk 9 25 ?_
   refine stk 10 26 ?_
   refine stk 11 27 ?_
   refine stk 12 28 ?_
   refine stk 13 29 ?_
   refine wpAnyH_ready (rs := [14]) (by kernel_rfl) (by simp) ?_
   refine AllReadyH.cons rfl (fun K hK => ?_) AllReadyH.nil
   go_simp
   obtain ⟨w4, hw4⟩ : ∃ z, z = wr.drew := ⟨_, rfl⟩
   have hb4 : Below wr.heap.size wr w4 := by rw [hw4]; exact (Below.refl _ _).drew
   have hz4 : w4.heap.size = wr.heap.size := by rw [hw4]; rfl
   rw [show (wr.alloc (.cells #[.int .i64 X] 3)).drew = w4.alloc (.cells #[.int .i64 X] 3) by rw [hw4]; rfl, ← hz4]
   have HO4 := Lib.hid (own_up HO.out hb4)
   clear hw4
   replace g3 := (hb4.cell (p := ⟨w.heap.size, 3, none⟩) (by show w.heap.size < _; omega)).trans g3
   replace q2 := (hb4.cell (p := ⟨P1, 2, none⟩) (by show P1 < _; omega)).trans q2
   replace x0 := (hb4.cell (p := ad0.add l.length) (by rw [block_add]; omega)).trans x0
   replace x1 := (hb4.cell (p := adr.add i) (by rw [block_add]; omega)).trans x1
   replace x2 := (hb4.cell (p := ad6.add k) (by rw [block_add]; omega)).trans x2
   have s1 := Lib.cell?_alloc_some (.cells #[.int .i64 X] 3) g3
   have s2 := Lib.cell?_alloc_some (.cells #[.int .i64 X] 3) q2
   have s3 := Lib.cell?_alloc_some (.cells #[.int .i64 X] 3) x0
   have s4 := Lib.cell?_alloc_some (.cells #[.int .i64 X] 3) x1
   have s5 := Lib.cell?_alloc_some (.cells #[.int .i64 X] 3) x2
   refine hK.out _ _ ?_ (fun hHeld => ?_)
   ·
    go_keep
   clear hK K
   try simp only [Act.put, pu]
   refine wpAnyH_ready (rs := [15]) (by kernel_rfl) (by simp) ?_
   refine AllReadyH.cons rfl (fun K hK => ?_) AllReadyH.nil
   rw [if_pos (by rfl)]
   refine oper_append1 w4 (.tmp 16) (.tmp 30) 24 rfl w1.heap.size 3 _ 8 Tryz.underlying24 intInfo rfl _ _ _ rfl _ rfl rfl HO4.out (by unfold maxLen; omega) (by omega) (by omega) ?_
   intro v6 w6 hown6 hbl6 hgr6 hlt6 hob6
   have hne : ∀ b : Nat, b < w1.heap.size → w6.heap[b]? = w4.heap[b]? := fun b hb => hbl6.block b hb
   have hb06 := hbl6
   replace g3 := (hbl6.cell (p := ⟨w.heap.size, 3, none⟩) (by show w.heap.size < _; omega)).trans g3
   replace q2 := (hbl6.cell (p := ⟨P1, 2, none⟩) (by show P1 < _; omega)).trans q2
   replace x0 := (hbl6.cell (p := ad0.add l.length) (by rw [block_add]; omega)).trans x0
   replace x1 := (hbl6.cell (p := adr.add i) (by rw [block_add]; omega)).trans x1
   replace x2 := (hbl6.cell (p := ad6.add k) (by rw [block_add]; omega)).trans x2
   have HF := Lib.hid (show w6.ownsRow w1.heap.size 3 1 v6 (k + 1) ((startK m n (k + 1)).map intV) by rw [HE.out, List.map_append]; exact hown6)
   have HFB := Lib.hid ((hbl.trans (hb4.mono hsz)).trans hbl6)
   clear s1 s2 s3 s4 s5 hown6 hgr6 hob6 hne hb06 hbl6
   refine hK.out _ _ ?_ (fun hHeld => ?_)
   ·
    go_keep
   clear hK K
   try simp only [Act.put, pu]
   refine stk 16 5 ?_
   refine wpAnyH_done (by kernel_rfl) ?_ _
   go_wp2_with fail
   go_roundw
   case rel => exact ⟨k + 1, by omega, by go_num, HF.out, HFB.out⟩
   case measure => simp [intOf]; omega
  ·
   obtain rfl : k = n.es.length := by omega
   go_wp2_with fail
   go_ret
   exact ⟨_, rfl, own_mono HO.out (by omega), hBr⟩
end Go.Proofs.YtehkcodbcnhhoaaGreat
