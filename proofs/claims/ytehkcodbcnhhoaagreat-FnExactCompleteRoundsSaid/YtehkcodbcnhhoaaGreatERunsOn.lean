/-
  Machines on networks, the program's side: IsMachine, runsOn, fits, statesOk.
-/
import Derived.Test.YtehkcodbcnhhoaaGreatEIsMachA
import Derived.Test.YtehkcodbcnhhoaaGreatESyShp
namespace Go.Proofs.YtehkcodbcnhhoaaGreat
open Go.RowKit
set_option linter.all false
set_option maxRecDepth 100000 in
set_option maxHeartbeats 2000000 in
theorem impl_IsMachine (vs ve vc vo : Value) (m : Mach) (w : World) (hm : MachR w w.heap.size vs ve vc vo m) :
  Calls Tryz.prog 58 #[machV vs ve vc vo m] w fun e w' => e = .returned (.bool (maB m)) ∧ Below w.heap.size w w' := by
 have HG := Lib.hid (isMachine_on vs ve vc vo m w hm)
 unfold machV
 have hs := hm.s.open_
 have he := hm.e.open_
 have hc := hm.c
 have ho := hm.o.open_
 obtain ⟨A0, c0, rfl, hc0, hm0, -⟩ := hs
 obtain ⟨A1, c1, rfl, hc1, hm1, -⟩ := he
 obtain ⟨A2, c2, rfl, hc2, hm2, -, -⟩ := hc
 obtain ⟨A3, c3, rfl, hc3, hm3, -⟩ := ho
 unfold maxLen at hm0 hm1 hm2 hm3
 obtain ⟨w0, hw0, hb0, HM, hz0, HS0⟩ := box7 w (.int .i64 m.deg) (.int .i64 m.st) (.int .i64 m.msg) (.slice A0 m.start.length c0) (.slice A1 m.send.length c1) (.slice A2 m.cls.length c2) (.slice A3 m.out.length c3) 39
 have hB : Below w.heap.size w w0 := hb0
 have HW := Lib.hid (show w0 = w.alloc (.cells #[.int .i64 m.deg, .int .i64 m.st, .int .i64 m.msg, .slice A0 m.start.length c0, .slice A1 m.send.length c1, .slice A2 m.cls.length c2, .slice A3 m.out.length c3] 39) by rw [hw0])
 obtain ⟨⟨g0, g1, g2⟩, ⟨g3, g4, g5, g6⟩, gf⟩ := cells7 HM
 have eg0 := g0
 have eg1 := g1
 have eg2 := g2
 have eg3 := g3
 have eg4 := g4
 have eg5 := g5
 have eg6 := g6
 rw [HW.out] at eg0 eg1 eg2 eg3 eg4 eg5 eg6
 have hzb0 : w.heap.size < w0.heap.size := by omega
 have HR := Lib.hid (hm.up hB)
 clear hw0
 cases k1 : inB m.deg 0 6 with
 | false =>
  have HF := Lib.hid (maB_f fun hp => inBf k1 hp.1.1).symm
  go_enter Tryz.func58, Tryz.ntmps58
  go_wp2_with (go_at_call 31; refine (impl_within _ _ _ _).mono ?_; rintro e w' ⟨rfl, rfl⟩)
  go_ret
  exact ⟨ret_bool HF.out, by rw [← HW.out]; exact hB⟩
 | true =>
  cases k2 : inB m.st 1 12 with
  | false =>
   have HF := Lib.hid (maB_f fun hp => inBf k2 hp.1.2.1).symm
   go_enter Tryz.func58, Tryz.ntmps58
   go_wp2_with (go_at_call 31; refine (impl_within _ _ _ _).mono ?_; rintro e w' ⟨rfl, rfl⟩)
   go_ret
   exact ⟨ret_bool HF.out, by rw [← HW.out]; exact hB⟩
  | true =>
   cases k3 : inB m.msg 1 6 with
   | false =>
    have HF := Lib.hid (maB_f fun hp => inBf k3 hp.1.2.2).symm
    go_enter Tryz.func58, Tryz.ntmps58
    go_wp2_with (go_at_call 31; refine (impl_within _ _ _ _).mono ?_; rintro e w' ⟨rfl, rfl⟩)
    go_ret
    exact ⟨ret_bool HF.out, by rw [← HW.out]; exact hB⟩
   | true =>
    have b1 := inBt k1
    have b2 := inBt k2
    have b3 := inBt k3
    by_cases k4 : (m.start.length : Int) = m.deg + 1
    ·
     have n4 : (((m.start.length : Nat) : Int) == m.deg + 1) = true := by rw [beq_iff_eq]; exact k4
     by_cases k6 : (m.send.length : Int) = m.st
     ·
      have n6 : (((m.send.length : Nat) : Int) == m.st) = true := by rw [beq_iff_eq]; exact k6
      by_cases k8 : (m.out.length : Int) = m.st
      ·
       have n8 : (((m.out.length : Nat) : Int) == m.st) = true := by rw [beq_iff_eq]; exact k8
       by_cases k7 : m.cls.length ≤ 60
       ·
        exact HG.out b1 b2 b3 k4 k6 k7 k8
       ·
        have HF := Lib.hid (maB_f fun hp => k7 hp.2.1.2.2.2).symm
        go_enter Tryz.func58, Tryz.ntmps58
        go_wp2_with (go_at_call 31; refine (impl_within _ _ _ _).mono ?_; rintro e w' ⟨rfl, rfl⟩)
        go_ret
        exact ⟨ret_bool HF.out, by rw [← HW.out]; exact hB⟩
      ·
       have n8 : (((m.out.length : Nat) : Int) == m.st) = false := by rw [beq_eq_false_iff_ne]; exact k8
       have HF := Lib.hid (maB_f fun hp => k8 hp.2.1.2.2.1).symm
       go_enter Tryz.func58, Tryz.ntmps58
       go_wp2_with (go_at_call 31; refine (impl_within _ _ _ _).mono ?_; rintro e w' ⟨rfl, rfl⟩)
       go_ret
       exact ⟨ret_bool HF.out, by rw [← HW.out]; exact hB⟩
     ·
      have n6 : (((m.send.length : Nat) : Int) == m.st) = false := by rw [beq_eq_false_iff_ne]; exact k6
      have HF := Lib.hid (maB_f fun hp => k6 hp.2.1.2.1).symm
      go_enter Tryz.func58, Tryz.ntmps58
      go_wp2_with (go_at_call 31; refine (impl_within _ _ _ _).mono ?_; rintro e w' ⟨rfl, rfl⟩)
      go_ret
      exact ⟨ret_bool HF.out, by rw [← HW.out]; exact hB⟩
    ·
     have n4 : (((m.start.length : Nat) : Int) == m.deg + 1) = false := by rw [beq_eq_false_iff_ne]; exact k4
     have HF := Lib.hid (maB_f fun hp => k4 hp.2.1.1).symm
     go_enter Tryz.func58, Tryz.ntmps58
     go_wp2_with (go_at_call 31; refine (impl_within _ _ _ _).mono ?_; rintro e w' ⟨rfl, rfl⟩)
     go_ret
     exact ⟨ret_bool HF.out, by rw [← HW.out]; exact hB⟩
def RoRel (m : Mach) (n : Net) (w : World) (i : Value) (wr : World) : Prop := Below w.heap.size w wr ∧ ∃ k : Nat, k ≤ n.es.length ∧ i = .int .i64 k ∧ (∀ l ∈ n.es.take k, (l.length : Int) ≤ m.deg) ∧ ∀ x ∈ n.ins.take k, x < first m
set_option maxRecDepth 100000 in
set_option maxHeartbeats 2000000 in
theorem impl_runsOn (vs ve vc vo : Value) (m : Mach) (ne ni nn : Value) (n : Net) (w : World) (hm : MachR w w.heap.size vs ve vc vo m) (hn : NetR w w.heap.size ne ni nn n) (hp : maP m) (hq : netP n) :
  Calls Tryz.prog 60 #[machV vs ve vc vo m, .agg #[ne, ni, nn]] w fun e w' => e = .returned (.bool (onB m n)) ∧ Below w.heap.size w w' := by
 unfold machV
 have b1 := hp.1.1
 have k4 := hp.2.1.1
 have HLI := Lib.hid hq.2.2.1
 have h40 := hq.1
 have hp0 : 0 < m.start.length := by omega
 clear k4 hp hq
 obtain ⟨A0, c0, rfl, hc0, hm0, hr0⟩ := hm.s.open_
 obtain ⟨A1, m1, c1, rfl⟩ := hm.e.isSlice1
 obtain ⟨A2, m2, c2, rfl⟩ := hm.c.isSlice
 obtain ⟨A3, m3, c3, rfl⟩ := hm.o.isSlice
 have hne := hn.e
 have hni := hn.n.open_
 obtain ⟨A4, c4, rfl, hc4, hM4, hr4⟩ := hne
 obtain ⟨A6, c6, rfl, hc6, hM6, hr6⟩ := hni
 obtain ⟨-, ⟨A5, m5, c5, rfl⟩, -⟩ := hn.slices
 unfold maxLen at hm0 hM4 hM6
 obtain ⟨l0, hl0⟩ : ∃ l, m.start[0]? = some l := ⟨_, List.getElem?_eq_getElem hp0⟩
 obtain ⟨ad, rfl, hab, hrow⟩ := hr0 hp0
 obtain ⟨u, hcu, hru⟩ := hrow 0 l0 hl0
 have ea : ad.add 0 = ad := by unfold Addr.add; simp
 rw [ea] at hcu
 obtain ⟨A7, c7, rfl, hc7, hm7, -⟩ := hru.open_
 unfold maxLen at hm7
 have HFI := Lib.hid (show first m = l0.length by unfold first; rw [List.getD_eq_getElem?_getD, hl0]; rfl)
 have HC0 := Lib.hid hcu
 have HR4 := Lib.hid hr4
 have HR6 := Lib.hid hr6
 clear hrow hru hr0 hcu hl0 hr4 hr6
 obtain ⟨w0, hw0, hb0, HM, hz0, HS0⟩ := box7 w (.int .i64 m.deg) (.int .i64 m.st) (.int .i64 m.msg) (.slice (some ad) m.start.length c0) (.slice A1 m1 c1) (.slice A2 m2 c2) (.slice A3 m3 c3) 39
 obtain ⟨w1, hw1, hb1, HD, hz1, HS1⟩ := box3 w0 (.slice A4 n.es.length c4) (.slice A5 m5 c5) (.slice A6 n.ins.length c6) 43
 replace HM := bk HM hb1
 have hB : Below w.heap.size w w1 := bl_trans (hb0) hb1
 have HW := Lib.hid (show w1 = (w.alloc (.cells #[.int .i64 m.deg, .int .i64 m.st, .int .i64 m.msg, .slice (some ad) m.start.length c0, .slice A1 m1 c1, .slice A2 m2 c2, .slice A3 m3 c3] 39)).alloc (.cells #[.slice A4 n.es.length c4, .slice A5 m5 c5, .slice A6 n.ins.length c6] 43) by rw [hw1, hw0])
 obtain ⟨P1, hP1⟩ : ∃ z, z = w0.heap.size := ⟨_, rfl⟩
 have HP1 := Lib.hid (show w.heap.size + 1 = P1 by rw [hP1, HS0.out])
 have hPl1 : w.heap.size < P1 := by rw [← HP1.out]; omega
 rw [← hP1] at HD hz1
 obtain ⟨⟨g0, g1, g2⟩, ⟨g3, g4, g5, g6⟩, gf⟩ := cells7 HM
 obtain ⟨q0, q1, q2, qf⟩ := cells3 HD
 have eg0 := g0
 have eg1 := g1
 have eg2 := g2
 have eg3 := g3
 have eg4 := g4
 have eg5 := g5
 have eg6 := g6
 have eq0 := q0
 have eq1 := q1
 have eq2 := q2
 rw [HW.out] at eg0 eg1 eg2 eg3 eg4 eg5 eg6 eq0 eq1 eq2
 rw [← HP1.out] at eq0 eq1 eq2
 have hzb0 : w.heap.size < w1.heap.size := by omega
 have hzb1 : P1 < w1.heap.size := by omega
 have HR := Lib.hid (hm.up hB)
 have HN := Lib.hid (hn.up hB)
 clear hw1 hw0 hP1
 clear HR HN
 go_enter Tryz.func60, Tryz.ntmps60
 go_wp2_with fail
 rw [HP1.out, ← HW.out]
 clear eg0 eg1 eg2 eg3 eg4 eg5 eg6 eq0 eq1 eq2
 go_loopw [10] (fun i wr => RoRel m n w1 i wr) (fun i _ => n.es.length - (intOf i).toNat)
 case atStart => exact ⟨Below.refl _ _, 0, Nat.zero_le _, rfl, by simp, by simp⟩
 case round =>
  obtain ⟨hbr, k, hk, rfl, hup, hui⟩ := hrel
  have HU := Lib.hid hup; clear hup
  have HI := Lib.hid hui; clear hui
  have hzhbr := hbr.size
  clear g0 g1 g2 g3 g4 g5 g6 gf q0 q1 q2 qf
  replace HM := bk HM hbr
  replace HD := bk HD hbr
  replace hB := bl_trans hB hbr
  obtain ⟨⟨g0, g1, g2⟩, ⟨g3, g4, g5, g6⟩, gf⟩ := cells7 HM
  obtain ⟨q0, q1, q2, qf⟩ := cells3 HD
  by_cases hlt : k < n.es.length
  ·
   obtain ⟨l, hl⟩ : ∃ y, n.es[k]? = some y := ⟨_, List.getElem?_eq_getElem hlt⟩
   have hki : k < n.ins.length := by rw [HLI.out]; exact hlt
   obtain ⟨y, hy⟩ : ∃ y, n.ins[k]? = some y := ⟨_, List.getElem?_eq_getElem hki⟩
   obtain ⟨ad4, rfl, ha4, hrow4⟩ := HR4.out (by omega)
   obtain ⟨ad6, rfl, ha6, hrow6⟩ := HR6.out (by omega)
   obtain ⟨u4, hu4, hz4⟩ := hrow4 k l hl
   obtain ⟨B4, d4, rfl, hd4, hD4, -, -⟩ := hz4
   unfold maxLen at hD4
   have hc4' := (hB.cell (p := ad4.add k) (by rw [block_add]; exact ha4)).trans hu4
   have hc6' := (hB.cell (p := ad6.add k) (by rw [block_add]; exact ha6)).trans (hrow6 k y hy)
   have hcr := (hB.cell (p := ad) hab).trans HC0.out
   have HL := Lib.hid hl
   have HY := Lib.hid hy
   clear hrow4 hrow6 hu4 hl hy
   by_cases t1 : (l.length : Int) ≤ m.deg
   ·
    have t1a : decide (m.deg < (l.length : Int)) = false := decide_eq_false (by omega)
    have t1b : ((l.length : Int) > m.deg) = False := eq_false (by omega)
    by_cases t2 : y < (l0.length : Int)
    ·
     have t2a : decide ((l0.length : Int) ≤ y) = false := decide_eq_false (by omega)
     have t2b : (y ≥ (l0.length : Int)) = False := eq_false (by omega)
     go_wp2_with fail
     refine wp_region_held_drew (S := fun w' => w'.cell? ⟨w.heap.size, 0, none⟩ = some (.int .i64 m.deg) ∧ w'.cell? ⟨w.heap.size, 3, none⟩ = some (.slice (some ad) m.start.length c0) ∧ w'.cell? ad = some (.slice A7 l0.length c7) ∧ w'.cell? ⟨P1, 2, none⟩ = some (.slice (some ad6) n.ins.length c6) ∧ w'.cell? (ad6.add k) = some (.int .i64 y)) (by kernel_rfl) ?_ (fun hHeld => ?_)
     ·
      go_keep
     refine stk 0 15 ?_
     refine stk 1 16 ?_
     refine stk 2 17 ?_
     refine stk 3 18 ?_
     refine stk 4 19 ?_
     refine stk 5 20 ?_
     refine stk 6 21 ?_
     refine stk 7 22 ?_
     refine stk 8 23 ?_
     refine stk 9 24 ?_
     refine stk 10 25 ?_
     refine stk 11 26 ?_
     refine stk 12 27 ?_
     refine stk 13 28 ?_
     refine stk 14 29 ?_
     refine stk 15 30 ?_
     refine stk 16 31 ?_
     refine stk 17 32 ?_
     refine wpAnyH_done (by kernel_rfl) ?_ _
     go_wp2_with fail
     go_roundw
     case rel => exact ⟨hbr.drew, k + 1, by omega, by go_num, take_next HU.out HL.out t1, take_next HI.out HY.out (by rw [HFI.out]; exact t2)⟩
     case measure => simp [intOf]; omega
    ·
     have t2a : decide ((l0.length : Int) ≤ y) = true := decide_eq_true (by omega)
     have t2b : (y ≥ (l0.length : Int)) = True := eq_true (by omega)
     have HF := Lib.hid (show onB m n = false from propB_f fun hp => t2 (by rw [← HFI.out]; exact hp.2 y (List.mem_of_getElem? HY.out))).symm
     go_wp2_with fail
     refine wp_region_held_drew (S := fun w' => w'.cell? ⟨w.heap.size, 0, none⟩ = some (.int .i64 m.deg) ∧ w'.cell? ⟨w.heap.size, 3, none⟩ = some (.slice (some ad) m.start.length c0) ∧ w'.cell? ad = some (.slice A7 l0.length c7) ∧ w'.cell? ⟨P1, 2, none⟩ = some (.slice (some ad6) n.ins.length c6) ∧ w'.cell? (ad6.add k) = some (.int .i64 y)) (by kernel_rfl) ?_ (fun hHeld => ?_)
     ·
      go_keep
     refine stk 0 15 ?_
     refine stk 1 16 ?_
     refine stk 2 17 ?_
     refine stk 3 18 ?_
     refine stk 4 19 ?_
     refine stk 5 20 ?_
     refine stk 6 21 ?_
     refine stk 7 22 ?_
     refine stk 8 23 ?_
     refine stk 9 24 ?_
     refine stk 10 25 ?_
     refine stk 11 26 ?_
     refine stk 12 27 ?_
     refine stk 13 28 ?_
     refine stk 14 29 ?_
     refine stk 15 30 ?_
     refine stk 16 31 ?_
     refine stk 17 32 ?_
     refine wpAnyH_done (by kernel_rfl) ?_ _
     go_wp2_with fail
     go_ret
     exact ⟨ret_bool HF.out, hB.drew⟩
   ·
    have t1a : decide (m.deg < (l.length : Int)) = true := decide_eq_true (by omega)
    have t1b : ((l.length : Int) > m.deg) = True := eq_true (by omega)
    have HF := Lib.hid (show onB m n = false from propB_f fun hp => t1 (hp.1 l (List.mem_of_getElem? HL.out))).symm
    go_wp2_with fail
    refine wp_region_held_drew (S := fun w' => w'.cell? ⟨w.heap.size, 0, none⟩ = some (.int .i64 m.deg) ∧ w'.cell? ⟨w.heap.size, 3, none⟩ = some (.slice (some ad) m.start.length c0) ∧ w'.cell? ad = some (.slice A7 l0.length c7) ∧ w'.cell? ⟨P1, 2, none⟩ = some (.slice (some ad6) n.ins.length c6) ∧ w'.cell? (ad6.add k) = some (.int .i64 y)) (by kernel_rfl) ?_ (fun hHeld => ?_)
    ·
     go_keep
    refine stk 0 15 ?_
    refine stk 1 16 ?_
    refine stk 2 17 ?_
    refine stk 3 18 ?_
    refine stk 4 19 ?_
    refine stk 5 20 ?_
    refine stn 6 21 ?_
    refine stn 7 22 ?_
    refine stn 8 23 ?_
    refine stn 9 24 ?_
    refine stn 10 25 ?_
    refine stn 11 26 ?_
    refine stn 12 27 ?_
    refine stn 13 28 ?_
    refine stn 14 29 ?_
    refine stn 15 30 ?_
    refine stn 16 31 ?_
    refine stk 17 32 ?_
    refine wpAnyH_done (by kernel_rfl) ?_ _
    go_wp2_with fail
    go_ret
    exact ⟨ret_bool HF.out, hB.drew⟩
  ·
   have HF := Lib.hid (show onB m n = true from propB_t ⟨take_all HU.out (by omega), take_all HI.out (by rw [HLI.out]; omega)⟩).symm
   go_wp2_with fail
   go_ret
   exact ⟨ret_bool HF.out, hB⟩
set_option maxRecDepth 100000 in
set_option maxHeartbeats 2000000 in
theorem impl_fits (vs ve vc vo : Value) (m : Mach) (ne ni nn : Value) (n : Net) (w : World) (hm : MachR w w.heap.size vs ve vc vo m) (hn : NetR w w.heap.size ne ni nn n) (hz : n.es.length ≤ 2000000) (hzi : n.ids.length ≤ 2000000) :
  Calls Tryz.prog 30 #[machV vs ve vc vo m, .agg #[ne, ni, nn]] w fun e w' => e = .returned (.bool (fitB m n)) ∧ Below w.heap.size w w' := by
 unfold machV
 obtain ⟨⟨A0, m0, c0, rfl⟩, ⟨A1, m1, c1, rfl⟩, ⟨A2, m2, c2, rfl⟩, A3, m3, c3, rfl⟩ := hm.slices
 obtain ⟨⟨A4, m4, c4, rfl⟩, ⟨A5, m5, c5, rfl⟩, A6, m6, c6, rfl⟩ := hn.slices
 obtain ⟨w0, hw0, hb0, HM, hz0, HS0⟩ := box7 w (.int .i64 m.deg) (.int .i64 m.st) (.int .i64 m.msg) (.slice A0 m0 c0) (.slice A1 m1 c1) (.slice A2 m2 c2) (.slice A3 m3 c3) 39
 obtain ⟨w1, hw1, hb1, HD, hz1, HS1⟩ := box3 w0 (.slice A4 m4 c4) (.slice A5 m5 c5) (.slice A6 m6 c6) 43
 replace HM := bk HM hb1
 have hB : Below w.heap.size w w1 := bl_trans (hb0) hb1
 have HW := Lib.hid (show w1 = (w.alloc (.cells #[.int .i64 m.deg, .int .i64 m.st, .int .i64 m.msg, .slice A0 m0 c0, .slice A1 m1 c1, .slice A2 m2 c2, .slice A3 m3 c3] 39)).alloc (.cells #[.slice A4 m4 c4, .slice A5 m5 c5, .slice A6 m6 c6] 43) by rw [hw1, hw0])
 obtain ⟨P1, hP1⟩ : ∃ z, z = w0.heap.size := ⟨_, rfl⟩
 have HP1 := Lib.hid (show w.heap.size + 1 = P1 by rw [hP1, HS0.out])
 have hPl1 : w.heap.size < P1 := by rw [← HP1.out]; omega
 rw [← hP1] at HD hz1
 obtain ⟨⟨g0, g1, g2⟩, ⟨g3, g4, g5, g6⟩, gf⟩ := cells7 HM
 obtain ⟨q0, q1, q2, qf⟩ := cells3 HD
 have eg0 := g0
 have eg1 := g1
 have eg2 := g2
 have eg3 := g3
 have eg4 := g4
 have eg5 := g5
 have eg6 := g6
 have eq0 := q0
 have eq1 := q1
 have eq2 := q2
 rw [HW.out] at eg0 eg1 eg2 eg3 eg4 eg5 eg6 eq0 eq1 eq2
 rw [← HP1.out] at eq0 eq1 eq2
 have hzb0 : w.heap.size < w1.heap.size := by omega
 have hzb1 : P1 < w1.heap.size := by omega
 have HR := Lib.hid (hm.up hB)
 have HN := Lib.hid (hn.up hB)
 clear hw1 hw0 hP1
 have HG := Lib.hid (impl_IsMachine _ _ _ _ m w1 HR.out)
 cases j1 : maB m with
 | false =>
  have HF := Lib.hid (fit_f1 (n := n) j1).symm
  go_enter Tryz.func30, Tryz.ntmps30
  go_wp2_with fail
  rw [HP1.out, ← HW.out]
  clear eg0 eg1 eg2 eg3 eg4 eg5 eg6 eq0 eq1 eq2
  refine HG.out.mono ?_
  rintro e w5 ⟨rfl, hb5⟩
  rw [j1]
  go_wp2_with fail
  go_ret
  exact ⟨ret_bool HF.out, bl_trans hB hb5⟩
 | true =>
  have HF1 := Lib.hid j1
  cases j2 : netB n with
  | false =>
   have HF := Lib.hid (fit_f2 (m := m) j2).symm
   go_enter Tryz.func30, Tryz.ntmps30
   go_wp2_with fail
   rw [HP1.out, ← HW.out]
   clear eg0 eg1 eg2 eg3 eg4 eg5 eg6 eq0 eq1 eq2
   refine HG.out.mono ?_
   rintro e w5 ⟨rfl, hb5⟩
   rw [j1]
   have hzhb5 := hb5.size
   clear g0 g1 g2 g3 g4 g5 g6 gf
   replace HM := bk HM hb5
   replace HR := Lib.hid (HR.out.up hb5)
   obtain ⟨⟨g0, g1, g2⟩, ⟨g3, g4, g5, g6⟩, gf⟩ := cells7 HM
   have hzhb5 := hb5.size
   clear q0 q1 q2 qf
   replace HD := bk HD hb5
   replace HN := Lib.hid (HN.out.up hb5)
   replace hB := bl_trans hB hb5
   obtain ⟨q0, q1, q2, qf⟩ := cells3 HD
   go_wp2_with fail
   refine (impl_IsNetwork _ _ _ n w5 HN.out hz hzi).mono ?_
   rintro e w6 ⟨rfl, hb6⟩
   rw [j2]
   go_wp2_with fail
   go_ret
   exact ⟨ret_bool HF.out, bl_trans hB hb6⟩
  | true =>
   have HF := Lib.hid (fit_eq (propB_iff.1 j1) (propB_iff.1 j2)).symm
   have HF2 := Lib.hid j2
   go_enter Tryz.func30, Tryz.ntmps30
   go_wp2_with fail
   rw [HP1.out, ← HW.out]
   clear eg0 eg1 eg2 eg3 eg4 eg5 eg6 eq0 eq1 eq2
   refine HG.out.mono ?_
   rintro e w5 ⟨rfl, hb5⟩
   rw [j1]
   have hzhb5 := hb5.size
   clear g0 g1 g2 g3 g4 g5 g6 gf
   replace HM := bk HM hb5
   replace HR := Lib.hid (HR.out.up hb5)
   obtain ⟨⟨g0, g1, g2⟩, ⟨g3, g4, g5, g6⟩, gf⟩ := cells7 HM
   have hzhb5 := hb5.size
   clear q0 q1 q2 qf
   replace HD := bk HD hb5
   replace HN := Lib.hid (HN.out.up hb5)
   replace hB := bl_trans hB hb5
   obtain ⟨q0, q1, q2, qf⟩ := cells3 HD
   go_wp2_with fail
   refine (impl_IsNetwork _ _ _ n w5 HN.out hz hzi).mono ?_
   rintro e w6 ⟨rfl, hb6⟩
   rw [j2]
   have hzhb6 := hb6.size
   clear g0 g1 g2 g3 g4 g5 g6 gf
   replace HM := bk HM hb6
   replace HR := Lib.hid (HR.out.up hb6)
   obtain ⟨⟨g0, g1, g2⟩, ⟨g3, g4, g5, g6⟩, gf⟩ := cells7 HM
   have hzhb6 := hb6.size
   clear q0 q1 q2 qf
   replace HD := bk HD hb6
   replace HN := Lib.hid (HN.out.up hb6)
   replace hB := bl_trans hB hb6
   obtain ⟨q0, q1, q2, qf⟩ := cells3 HD
   go_wp2_with fail
   refine (impl_runsOn _ _ _ _ m _ _ _ n w6 HR.out HN.out (propB_iff.1 HF1.out) (propB_iff.1 HF2.out)).mono ?_
   rintro e w7 ⟨rfl, hb7⟩
   go_wp2_with fail
   go_ret
   exact ⟨ret_bool HF.out, bl_trans hB hb7⟩
end Go.Proofs.YtehkcodbcnhhoaaGreat
