/-
  Small lemmas and contracts that the texts of this claim share. No condition.
-/
import Derived.Test.YtjklbjmdgiddcaaGreatGIsMachA
import Derived.Test.YtjklbjmdgiddcaaGreatGSyShpG
namespace Go.Proofs.YtjklbjmdgiddcaaGreat
open Go.RowKit
set_option linter.all false
set_option maxRecDepth 100000 in
set_option maxHeartbeats 2000000 in
theorem impl_IsMachine (vs ve vc vo : Value) (m : Mach) (w : World) (hm : MachR w w.heap.size vs ve vc vo m) :
  Calls Tryz.prog 104 #[machV vs ve vc vo m] w fun e w' => e = .returned (.bool (maB m)) ∧ Below w.heap.size w w' := by
 have HG := aA (isMachine_on vs ve vc vo m w hm);unfold machV;have hs := hm.s.open_;have he := hm.e.open_;have hc := hm.c;have ho := hm.o.open_;obtain ⟨A0, c0, rfl, hc0, hm0, -⟩ := hs;obtain ⟨A1, c1, rfl, hc1, hm1, -⟩ := he;obtain ⟨A2, c2, rfl, hc2, hm2, -, -⟩ := hc;obtain ⟨A3, c3, rfl, hc3, hm3, -⟩ := ho;unfold maxLen at hm0 hm1 hm2 hm3;obtain ⟨w0, hw0, hb0, HM, hz0, HS0⟩ := box7 w (.int .i64 m.deg) (.int .i64 m.st) (.int .i64 m.msg) (.slice A0 m.start.length c0) (.slice A1 m.send.length c1) (.slice A2 m.cls.length c2) (.slice A3 m.out.length c3) 46;have hB : Below w.heap.size w w0 := hb0;have HW := aA (show w0 = w.alloc (.cells #[.int .i64 m.deg, .int .i64 m.st, .int .i64 m.msg, .slice A0 m.start.length c0, .slice A1 m.send.length c1, .slice A2 m.cls.length c2, .slice A3 m.out.length c3] 46) by rw [hw0]);obtain ⟨⟨g0, g1, g2⟩, ⟨g3, g4, g5, g6⟩, gf⟩ := cells7 HM;have eg0 := g0;have eg1 := g1;have eg2 := g2;have eg3 := g3;have eg4 := g4;have eg5 := g5;have eg6 := g6;rw [HW.out] at eg0 eg1 eg2 eg3 eg4 eg5 eg6;have hzb0 : w.heap.size < w0.heap.size := by omega
 have HR := aA (hm.up hB);clear hw0;cases k1 : inB m.deg 0 6 with
 | false =>
  have HF := aA (maB_f fun hp => inBf k1 hp.1.1).symm;go_enter Tryz.func104, Tryz.ntmps104;go_wp2_with (go_at_call 94; refine (impl_within _ _ _ _).mono ?_; rintro e w' ⟨rfl, rfl⟩)
  go_ret;exact ⟨ret_bool HF.out, by rw [← HW.out]; exact hB⟩
 | true =>
  cases k2 : inB m.st 1 12 with
  | false =>
   have HF := aA (maB_f fun hp => inBf k2 hp.1.2.1).symm;go_enter Tryz.func104, Tryz.ntmps104;go_wp2_with (go_at_call 94; refine (impl_within _ _ _ _).mono ?_; rintro e w' ⟨rfl, rfl⟩)
   go_ret;exact ⟨ret_bool HF.out, by rw [← HW.out]; exact hB⟩
  | true =>
   cases k3 : inB m.msg 1 6 with
   | false =>
    have HF := aA (maB_f fun hp => inBf k3 hp.1.2.2).symm;go_enter Tryz.func104, Tryz.ntmps104;go_wp2_with (go_at_call 94; refine (impl_within _ _ _ _).mono ?_; rintro e w' ⟨rfl, rfl⟩)
    go_ret;exact ⟨ret_bool HF.out, by rw [← HW.out]; exact hB⟩
   | true =>
    have b1 := inBt k1;have b2 := inBt k2;have b3 := inBt k3;by_cases k4 : (m.start.length : Int) = m.deg + 1
    ·
     have n4 : (((m.start.length : Nat) : Int) == m.deg + 1) = true := by rw [beq_iff_eq]; exact k4
     by_cases k6 : (m.send.length : Int) = m.st
     ·
      have n6 : (((m.send.length : Nat) : Int) == m.st) = true := by rw [beq_iff_eq]; exact k6
      by_cases k8 : (m.out.length : Int) = m.st
      ·
       have n8 : (((m.out.length : Nat) : Int) == m.st) = true := by rw [beq_iff_eq]; exact k8
       by_cases k7 : m.cls.length ≤ 60
       · exact HG.out b1 b2 b3 k4 k6 k7 k8
       ·
        have HF := aA (maB_f fun hp => k7 hp.2.1.2.2.2).symm;go_enter Tryz.func104, Tryz.ntmps104;go_wp2_with (go_at_call 94; refine (impl_within _ _ _ _).mono ?_; rintro e w' ⟨rfl, rfl⟩)
        go_ret;exact ⟨ret_bool HF.out, by rw [← HW.out]; exact hB⟩
      ·
       have n8 : (((m.out.length : Nat) : Int) == m.st) = false := by rw [beq_eq_false_iff_ne]; exact k8
       have HF := aA (maB_f fun hp => k8 hp.2.1.2.2.1).symm;go_enter Tryz.func104, Tryz.ntmps104;go_wp2_with (go_at_call 94; refine (impl_within _ _ _ _).mono ?_; rintro e w' ⟨rfl, rfl⟩)
       go_ret;exact ⟨ret_bool HF.out, by rw [← HW.out]; exact hB⟩
     ·
      have n6 : (((m.send.length : Nat) : Int) == m.st) = false := by rw [beq_eq_false_iff_ne]; exact k6
      have HF := aA (maB_f fun hp => k6 hp.2.1.2.1).symm;go_enter Tryz.func104, Tryz.ntmps104;go_wp2_with (go_at_call 94; refine (impl_within _ _ _ _).mono ?_; rintro e w' ⟨rfl, rfl⟩)
      go_ret;exact ⟨ret_bool HF.out, by rw [← HW.out]; exact hB⟩
    ·
     have n4 : (((m.start.length : Nat) : Int) == m.deg + 1) = false := by rw [beq_eq_false_iff_ne]; exact k4
     have HF := aA (maB_f fun hp => k4 hp.2.1.1).symm;go_enter Tryz.func104, Tryz.ntmps104;go_wp2_with (go_at_call 94; refine (impl_within _ _ _ _).mono ?_; rintro e w' ⟨rfl, rfl⟩)
     go_ret;exact ⟨ret_bool HF.out, by rw [← HW.out]; exact hB⟩
def RoRel (m : Mach) (n : Net) (w : World) (i : Value) (wr : World) : Prop := Below w.heap.size w wr ∧ ∃ k : Nat, k ≤ n.es.length ∧ i = .int .i64 k ∧ (∀ l ∈ n.es.take k, (l.length : Int) ≤ m.deg) ∧ ∀ x ∈ n.ins.take k, x < first m
set_option maxRecDepth 100000 in
set_option maxHeartbeats 2000000 in
theorem impl_runsOn (vs ve vc vo : Value) (m : Mach) (ne ni nn : Value) (n : Net) (w : World) (hm : MachR w w.heap.size vs ve vc vo m) (hn : NetR w w.heap.size ne ni nn n) (hp : maP m) (hq : netP n) :
  Calls Tryz.prog 106 #[machV vs ve vc vo m, .agg #[ne, ni, nn]] w fun e w' => e = .returned (.bool (onB m n)) ∧ Below w.heap.size w w' := by
 unfold machV;have b1 := hp.1.1;have k4 := hp.2.1.1;have HLI := aA hq.2.2.1;have h40 := hq.1;have hp0 : 0 < m.start.length := by omega
 clear k4 hp hq;obtain ⟨A0, c0, rfl, hc0, hm0, hr0⟩ := hm.s.open_;obtain ⟨A1, m1, c1, rfl⟩ := hm.e.isSlice1;obtain ⟨A2, m2, c2, rfl⟩ := hm.c.isSlice;obtain ⟨A3, m3, c3, rfl⟩ := hm.o.isSlice;have hne := hn.e;have hni := hn.n.open_;obtain ⟨A4, c4, rfl, hc4, hM4, hr4⟩ := hne;obtain ⟨A6, c6, rfl, hc6, hM6, hr6⟩ := hni;obtain ⟨-, ⟨A5, m5, c5, rfl⟩, -⟩ := hn.slices;unfold maxLen at hm0 hM4 hM6;obtain ⟨l0, hl0⟩ : ∃ l, m.start[0]? = some l := ⟨_, aC hp0⟩
 obtain ⟨ad, rfl, hab, hrow⟩ := hr0 hp0;obtain ⟨u, hcu, hru⟩ := hrow 0 l0 hl0;have ea : ad.add 0 = ad := by unfold Addr.add; simp
 rw [ea] at hcu;obtain ⟨A7, c7, rfl, hc7, hm7, -⟩ := hru.open_;unfold maxLen at hm7;have HFI := aA (show first m = l0.length by unfold first; rw [aG, hl0]; rfl);have HC0 := aA hcu;have HR4 := aA hr4;have HR6 := aA hr6;clear hrow hru hr0 hcu hl0 hr4 hr6;obtain ⟨w0, hw0, hb0, HM, hz0, HS0⟩ := box7 w (.int .i64 m.deg) (.int .i64 m.st) (.int .i64 m.msg) (.slice (some ad) m.start.length c0) (.slice A1 m1 c1) (.slice A2 m2 c2) (.slice A3 m3 c3) 46;obtain ⟨w1, hw1, hb1, HD, hz1, HS1⟩ := box3 w0 (.slice A4 n.es.length c4) (.slice A5 m5 c5) (.slice A6 n.ins.length c6) 50;replace HM := bk HM hb1;have hB : Below w.heap.size w w1 := bl_trans (hb0) hb1;have HW := aA (show w1 = (w.alloc (.cells #[.int .i64 m.deg, .int .i64 m.st, .int .i64 m.msg, .slice (some ad) m.start.length c0, .slice A1 m1 c1, .slice A2 m2 c2, .slice A3 m3 c3] 46)).alloc (.cells #[.slice A4 n.es.length c4, .slice A5 m5 c5, .slice A6 n.ins.length c6] 50) by rw [hw1, hw0]);obtain ⟨P1, hP1⟩ : ∃ z, z = w0.heap.size := ⟨_, rfl⟩
 have HP1 := aA (show w.heap.size + 1 = P1 by rw [hP1, HS0.out]);have hPl1 : w.heap.size < P1 := by rw [← HP1.out]; omega
 rw [← hP1] at HD hz1;obtain ⟨⟨g0, g1, g2⟩, ⟨g3, g4, g5, g6⟩, gf⟩ := cells7 HM;obtain ⟨q0, q1, q2, qf⟩ := cells3 HD;have eg0 := g0;have eg1 := g1;have eg2 := g2;have eg3 := g3;have eg4 := g4;have eg5 := g5;have eg6 := g6;have eq0 := q0;have eq1 := q1;have eq2 := q2;rw [HW.out] at eg0 eg1 eg2 eg3 eg4 eg5 eg6 eq0 eq1 eq2;rw [← HP1.out] at eq0 eq1 eq2;have hzb0 : w.heap.size < w1.heap.size := by omega
 have hzb1 : P1 < w1.heap.size := by omega
 have HR := aA (hm.up hB);have HN := aA (hn.up hB);clear hw1 hw0 hP1;clear HR HN;go_enter Tryz.func106, Tryz.ntmps106;go_wp2_with fail;rw [HP1.out, ← HW.out];clear eg0 eg1 eg2 eg3 eg4 eg5 eg6 eq0 eq1 eq2;go_loopw [10] (fun i wr => RoRel m n w1 i wr) (fun i _ => n.es.length - (intOf i).toNat)
 case atStart => exact ⟨Below.refl _ _, 0, Nat.zero_le _, rfl, by simp, by simp⟩
 case round =>
  obtain ⟨hbr, k, hk, rfl, hup, hui⟩ := hrel;have HU := aA hup; clear hup;have HI := aA hui; clear hui;have hzhbr := hbr.size;clear g0 g1 g2 g3 g4 g5 g6 gf q0 q1 q2 qf;replace HM := bk HM hbr;replace HD := bk HD hbr;replace hB := bl_trans hB hbr;obtain ⟨⟨g0, g1, g2⟩, ⟨g3, g4, g5, g6⟩, gf⟩ := cells7 HM;obtain ⟨q0, q1, q2, qf⟩ := cells3 HD;by_cases hlt : k < n.es.length
  ·
   obtain ⟨l, hl⟩ : ∃ y, n.es[k]? = some y := ⟨_, aC hlt⟩
   have hki : k < n.ins.length := by rw [HLI.out]; exact hlt
   obtain ⟨y, hy⟩ : ∃ y, n.ins[k]? = some y := ⟨_, aC hki⟩
   obtain ⟨ad4, rfl, ha4, hrow4⟩ := HR4.out (by omega);obtain ⟨ad6, rfl, ha6, hrow6⟩ := HR6.out (by omega);obtain ⟨u4, hu4, hz4⟩ := hrow4 k l hl;obtain ⟨B4, d4, rfl, hd4, hD4, -, -⟩ := hz4;unfold maxLen at hD4;have hc4' := (hB.cell (p := ad4.add k) (by rw [block_add]; exact ha4)).trans hu4;have hc6' := (hB.cell (p := ad6.add k) (by rw [block_add]; exact ha6)).trans (hrow6 k y hy);have hcr := (hB.cell (p := ad) hab).trans HC0.out;have HL := aA hl;have HY := aA hy;clear hrow4 hrow6 hu4 hl hy;by_cases t1 : (l.length : Int) ≤ m.deg
   ·
    have t1a : decide (m.deg < (l.length : Int)) = false := decide_eq_false (by omega);have t1b : ((l.length : Int) > m.deg) = False := eq_false (by omega);by_cases t2 : y < (l0.length : Int)
    ·
     have t2a : decide ((l0.length : Int) ≤ y) = false := decide_eq_false (by omega);have t2b : (y ≥ (l0.length : Int)) = False := eq_false (by omega);go_wp2_with fail;refine aH (S := fun w' => w'.cell? ⟨w.heap.size, 0, none⟩ = some (.int .i64 m.deg) ∧ w'.cell? ⟨w.heap.size, 3, none⟩ = some (.slice (some ad) m.start.length c0) ∧ w'.cell? ad = some (.slice A7 l0.length c7) ∧ w'.cell? ⟨P1, 2, none⟩ = some (.slice (some ad6) n.ins.length c6) ∧ w'.cell? (ad6.add k) = some (.int .i64 y)) (by kernel_rfl) ?_ (fun hHeld => ?_)
     · go_keep
     refine stk 0 15 ?_;refine stk 1 16 ?_;refine stk 2 17 ?_;refine stk 3 18 ?_;refine stk 4 19 ?_;refine stk 5 20 ?_;refine stk 6 21 ?_;refine stk 7 22 ?_;refine stk 8 23 ?_;refine stk 9 24 ?_;refine stk 10 25 ?_;refine stk 11 26 ?_;refine stk 12 27 ?_;refine stk 13 28 ?_;refine stk 14 29 ?_;refine stk 15 30 ?_;refine stk 16 31 ?_;refine stk 17 32 ?_;refine aK (by kernel_rfl) ?_ _;go_wp2_with fail;go_roundw
     case rel => exact ⟨hbr.drew, k + 1, by omega, by go_num, take_next HU.out HL.out t1, take_next HI.out HY.out (by rw [HFI.out]; exact t2)⟩
     case measure => simp [intOf]; omega
    ·
     have t2a : decide ((l0.length : Int) ≤ y) = true := decide_eq_true (by omega);have t2b : (y ≥ (l0.length : Int)) = True := eq_true (by omega);have HF := aA (show onB m n = false from propB_f fun hp => t2 (by rw [← HFI.out]; exact hp.2 y (aN HY.out))).symm;go_wp2_with fail;refine aH (S := fun w' => w'.cell? ⟨w.heap.size, 0, none⟩ = some (.int .i64 m.deg) ∧ w'.cell? ⟨w.heap.size, 3, none⟩ = some (.slice (some ad) m.start.length c0) ∧ w'.cell? ad = some (.slice A7 l0.length c7) ∧ w'.cell? ⟨P1, 2, none⟩ = some (.slice (some ad6) n.ins.length c6) ∧ w'.cell? (ad6.add k) = some (.int .i64 y)) (by kernel_rfl) ?_ (fun hHeld => ?_)
     · go_keep
     refine stk 0 15 ?_;refine stk 1 16 ?_;refine stk 2 17 ?_;refine stk 3 18 ?_;refine stk 4 19 ?_;refine stk 5 20 ?_;refine stk 6 21 ?_;refine stk 7 22 ?_;refine stk 8 23 ?_;refine stk 9 24 ?_;refine stk 10 25 ?_;refine stk 11 26 ?_;refine stk 12 27 ?_;refine stk 13 28 ?_;refine stk 14 29 ?_;refine stk 15 30 ?_;refine stk 16 31 ?_;refine stk 17 32 ?_;refine aK (by kernel_rfl) ?_ _;go_wp2_with fail;go_ret;exact ⟨ret_bool HF.out, hB.drew⟩
   ·
    have t1a : decide (m.deg < (l.length : Int)) = true := decide_eq_true (by omega);have t1b : ((l.length : Int) > m.deg) = True := eq_true (by omega);have HF := aA (show onB m n = false from propB_f fun hp => t1 (hp.1 l (aN HL.out))).symm;go_wp2_with fail;refine aH (S := fun w' => w'.cell? ⟨w.heap.size, 0, none⟩ = some (.int .i64 m.deg) ∧ w'.cell? ⟨w.heap.size, 3, none⟩ = some (.slice (some ad) m.start.length c0) ∧ w'.cell? ad = some (.slice A7 l0.length c7) ∧ w'.cell? ⟨P1, 2, none⟩ = some (.slice (some ad6) n.ins.length c6) ∧ w'.cell? (ad6.add k) = some (.int .i64 y)) (by kernel_rfl) ?_ (fun hHeld => ?_)
    · go_keep
    refine stk 0 15 ?_;refine stk 1 16 ?_;refine stk 2 17 ?_;refine stk 3 18 ?_;refine stk 4 19 ?_;refine stk 5 20 ?_;refine stn 6 21 ?_;refine stn 7 22 ?_;refine stn 8 23 ?_;refine stn 9 24 ?_;refine stn 10 25 ?_;refine stn 11 26 ?_;refine stn 12 27 ?_;refine stn 13 28 ?_;refine stn 14 29 ?_;refine stn 15 30 ?_;refine stn 16 31 ?_;refine stk 17 32 ?_;refine aK (by kernel_rfl) ?_ _;go_wp2_with fail;go_ret;exact ⟨ret_bool HF.out, hB.drew⟩
  · have HF := aA (show onB m n = true from propB_t ⟨take_all HU.out (by omega), take_all HI.out (by rw [HLI.out]; omega)⟩).symm;go_wp2_with fail;go_ret;exact ⟨ret_bool HF.out, hB⟩
set_option maxRecDepth 100000 in
set_option maxHeartbeats 2000000 in
theorem impl_fits (vs ve vc vo : Value) (m : Mach) (ne ni nn : Value) (n : Net) (w : World) (hm : MachR w w.heap.size vs ve vc vo m) (hn : NetR w w.heap.size ne ni nn n) (hz : n.es.length ≤ 2000000) (hzi : n.ids.length ≤ 2000000) :
  Calls Tryz.prog 80 #[machV vs ve vc vo m, .agg #[ne, ni, nn]] w fun e w' => e = .returned (.bool (fitB m n)) ∧ Below w.heap.size w w' := by
 unfold machV;obtain ⟨⟨A0, m0, c0, rfl⟩, ⟨A1, m1, c1, rfl⟩, ⟨A2, m2, c2, rfl⟩, A3, m3, c3, rfl⟩ := hm.slices;obtain ⟨⟨A4, m4, c4, rfl⟩, ⟨A5, m5, c5, rfl⟩, A6, m6, c6, rfl⟩ := hn.slices;obtain ⟨w0, hw0, hb0, HM, hz0, HS0⟩ := box7 w (.int .i64 m.deg) (.int .i64 m.st) (.int .i64 m.msg) (.slice A0 m0 c0) (.slice A1 m1 c1) (.slice A2 m2 c2) (.slice A3 m3 c3) 46;obtain ⟨w1, hw1, hb1, HD, hz1, HS1⟩ := box3 w0 (.slice A4 m4 c4) (.slice A5 m5 c5) (.slice A6 m6 c6) 50;replace HM := bk HM hb1;have hB : Below w.heap.size w w1 := bl_trans (hb0) hb1;have HW := aA (show w1 = (w.alloc (.cells #[.int .i64 m.deg, .int .i64 m.st, .int .i64 m.msg, .slice A0 m0 c0, .slice A1 m1 c1, .slice A2 m2 c2, .slice A3 m3 c3] 46)).alloc (.cells #[.slice A4 m4 c4, .slice A5 m5 c5, .slice A6 m6 c6] 50) by rw [hw1, hw0]);obtain ⟨P1, hP1⟩ : ∃ z, z = w0.heap.size := ⟨_, rfl⟩
 have HP1 := aA (show w.heap.size + 1 = P1 by rw [hP1, HS0.out]);have hPl1 : w.heap.size < P1 := by rw [← HP1.out]; omega
 rw [← hP1] at HD hz1;obtain ⟨⟨g0, g1, g2⟩, ⟨g3, g4, g5, g6⟩, gf⟩ := cells7 HM;obtain ⟨q0, q1, q2, qf⟩ := cells3 HD;have eg0 := g0;have eg1 := g1;have eg2 := g2;have eg3 := g3;have eg4 := g4;have eg5 := g5;have eg6 := g6;have eq0 := q0;have eq1 := q1;have eq2 := q2;rw [HW.out] at eg0 eg1 eg2 eg3 eg4 eg5 eg6 eq0 eq1 eq2;rw [← HP1.out] at eq0 eq1 eq2;have hzb0 : w.heap.size < w1.heap.size := by omega
 have hzb1 : P1 < w1.heap.size := by omega
 have HR := aA (hm.up hB);have HN := aA (hn.up hB);clear hw1 hw0 hP1;have HG := aA (impl_IsMachine _ _ _ _ m w1 HR.out);cases j1 : maB m with
 | false =>
  have HF := aA (fit_f1 (n := n) j1).symm;go_enter Tryz.func80, Tryz.ntmps80;go_wp2_with fail;rw [HP1.out, ← HW.out];clear eg0 eg1 eg2 eg3 eg4 eg5 eg6 eq0 eq1 eq2;refine HG.out.mono ?_;rintro e w5 ⟨rfl, hb5⟩;rw [j1];go_wp2_with fail;go_ret;exact ⟨ret_bool HF.out, bl_trans hB hb5⟩
 | true =>
  have HF1 := aA j1;cases j2 : netB n with
  | false =>
   have HF := aA (fit_f2 (m := m) j2).symm;go_enter Tryz.func80, Tryz.ntmps80;go_wp2_with fail;rw [HP1.out, ← HW.out];clear eg0 eg1 eg2 eg3 eg4 eg5 eg6 eq0 eq1 eq2;refine HG.out.mono ?_;rintro e w5 ⟨rfl, hb5⟩;rw [j1];have hzhb5 := hb5.size;clear g0 g1 g2 g3 g4 g5 g6 gf;replace HM := bk HM hb5;replace HR := aA (HR.out.up hb5);obtain ⟨⟨g0, g1, g2⟩, ⟨g3, g4, g5, g6⟩, gf⟩ := cells7 HM;have hzhb5 := hb5.size;clear q0 q1 q2 qf;replace HD := bk HD hb5;replace HN := aA (HN.out.up hb5);replace hB := bl_trans hB hb5;obtain ⟨q0, q1, q2, qf⟩ := cells3 HD;go_wp2_with fail;refine (impl_IsNetwork _ _ _ n w5 HN.out hz hzi).mono ?_;rintro e w6 ⟨rfl, hb6⟩;rw [j2];go_wp2_with fail;go_ret;exact ⟨ret_bool HF.out, bl_trans hB hb6⟩
  | true =>
   have HF := aA (fit_eq (propB_iff.1 j1) (propB_iff.1 j2)).symm;have HF2 := aA j2;go_enter Tryz.func80, Tryz.ntmps80;go_wp2_with fail;rw [HP1.out, ← HW.out];clear eg0 eg1 eg2 eg3 eg4 eg5 eg6 eq0 eq1 eq2;refine HG.out.mono ?_;rintro e w5 ⟨rfl, hb5⟩;rw [j1];have hzhb5 := hb5.size;clear g0 g1 g2 g3 g4 g5 g6 gf;replace HM := bk HM hb5;replace HR := aA (HR.out.up hb5);obtain ⟨⟨g0, g1, g2⟩, ⟨g3, g4, g5, g6⟩, gf⟩ := cells7 HM;have hzhb5 := hb5.size;clear q0 q1 q2 qf;replace HD := bk HD hb5;replace HN := aA (HN.out.up hb5);replace hB := bl_trans hB hb5;obtain ⟨q0, q1, q2, qf⟩ := cells3 HD;go_wp2_with fail;refine (impl_IsNetwork _ _ _ n w5 HN.out hz hzi).mono ?_;rintro e w6 ⟨rfl, hb6⟩;rw [j2];have hzhb6 := hb6.size;clear g0 g1 g2 g3 g4 g5 g6 gf;replace HM := bk HM hb6;replace HR := aA (HR.out.up hb6);obtain ⟨⟨g0, g1, g2⟩, ⟨g3, g4, g5, g6⟩, gf⟩ := cells7 HM;have hzhb6 := hb6.size;clear q0 q1 q2 qf;replace HD := bk HD hb6;replace HN := aA (HN.out.up hb6);replace hB := bl_trans hB hb6;obtain ⟨q0, q1, q2, qf⟩ := cells3 HD;go_wp2_with fail;refine (impl_runsOn _ _ _ _ m _ _ _ n w6 HR.out HN.out (propB_iff.1 HF1.out) (propB_iff.1 HF2.out)).mono ?_;rintro e w7 ⟨rfl, hb7⟩;go_wp2_with fail;go_ret;exact ⟨ret_bool HF.out, bl_trans hB hb7⟩
set_option maxRecDepth 100000 in
theorem impl_statesOk (vs ve vc vo : Value) (m : Mach) (ne ni nn : Value) (n : Net) (v : Value) (xs : List Int) (w : World) (hm : MachR w w.heap.size vs ve vc vo m) (hn : NetR w w.heap.size ne ni nn n) (hx : IntsR w w.heap.size v xs) (hs : 0 ≤ m.st ∧ m.st ≤ 1000) :
  Calls Tryz.prog 108 #[machV vs ve vc vo m, .agg #[ne, ni, nn], v] w fun e w' => e = .returned (.bool (mrB xs n.es.length m.st)) ∧ Below w.heap.size w w' := by
 unfold machV;obtain ⟨⟨A0, m0, c0, rfl⟩, ⟨A1, m1, c1, rfl⟩, ⟨A2, m2, c2, rfl⟩, A3, m3, c3, rfl⟩ := hm.slices;have hne := hn.e;obtain ⟨A4, c4, rfl, hc4, hM4, -⟩ := hne;obtain ⟨-, ⟨A5, m5, c5, rfl⟩, A6, m6, c6, rfl⟩ := hn.slices;have hxo := hx.open_;obtain ⟨A7, c7, rfl, hc7, hM7, -⟩ := hxo;unfold maxLen at hM4 hM7;have HXX := aA hx;clear hx;obtain ⟨w0, hw0, hb0, HM, hz0, HS0⟩ := box7 w (.int .i64 m.deg) (.int .i64 m.st) (.int .i64 m.msg) (.slice A0 m0 c0) (.slice A1 m1 c1) (.slice A2 m2 c2) (.slice A3 m3 c3) 46;obtain ⟨w1, hw1, hb1, HD, hz1, HS1⟩ := box3 w0 (.slice A4 n.es.length c4) (.slice A5 m5 c5) (.slice A6 m6 c6) 50;replace HM := bk HM hb1;have hB : Below w.heap.size w w1 := bl_trans (hb0) hb1;have HW := aA (show w1 = (w.alloc (.cells #[.int .i64 m.deg, .int .i64 m.st, .int .i64 m.msg, .slice A0 m0 c0, .slice A1 m1 c1, .slice A2 m2 c2, .slice A3 m3 c3] 46)).alloc (.cells #[.slice A4 n.es.length c4, .slice A5 m5 c5, .slice A6 m6 c6] 50) by rw [hw1, hw0]);obtain ⟨P1, hP1⟩ : ∃ z, z = w0.heap.size := ⟨_, rfl⟩
 have HP1 := aA (show w.heap.size + 1 = P1 by rw [hP1, HS0.out]);have hPl1 : w.heap.size < P1 := by rw [← HP1.out]; omega
 rw [← hP1] at HD hz1;obtain ⟨⟨g0, g1, g2⟩, ⟨g3, g4, g5, g6⟩, gf⟩ := cells7 HM;obtain ⟨q0, q1, q2, qf⟩ := cells3 HD;have eg0 := g0;have eg1 := g1;have eg2 := g2;have eg3 := g3;have eg4 := g4;have eg5 := g5;have eg6 := g6;have eq0 := q0;have eq1 := q1;have eq2 := q2;rw [HW.out] at eg0 eg1 eg2 eg3 eg4 eg5 eg6 eq0 eq1 eq2;rw [← HP1.out] at eq0 eq1 eq2;have hzb0 : w.heap.size < w1.heap.size := by omega
 have hzb1 : P1 < w1.heap.size := by omega
 have HR := aA (hm.up hB);have HN := aA (hn.up hB);clear hw1 hw0 hP1;by_cases t1 : xs.length = n.es.length
 ·
  have r1 : (((xs.length : Nat) : Int) == ((n.es.length : Nat) : Int)) = true := by rw [t1]; simp
  have HT1 := aA t1
  have HF := aA (show allB xs 0 (m.st - 1) = mrB xs n.es.length m.st by
   cases q : allB xs 0 (m.st - 1) with
   | true => exact (mrB_t (by omega) q).symm
   | false => exact (mrB_all q).symm)
  clear t1;go_enter Tryz.func108, Tryz.ntmps108;go_wp2_with fail;rw [HP1.out, ← HW.out];clear eg0 eg1 eg2 eg3 eg4 eg5 eg6 eq0 eq1 eq2
  (try rw [show IntKind.i64.wrap (m.st - 1) = m.st - 1 from aL _ (by omega)])
  refine (impl_allWithin _ xs _ _ w1 ((HXX.out.below hB).more hB.size)).mono ?_;rintro e w5 ⟨rfl, hb5⟩;go_wp2_with fail;go_ret;exact ⟨ret_bool HF.out, bl_trans hB hb5⟩
 ·
  have r1 : (((xs.length : Nat) : Int) == ((n.es.length : Nat) : Int)) = false := by rw [beq_eq_false_iff_ne]; omega
  have HF := aA (mrB_len (l := xs) (many := n.es.length) (most := m.st) (by omega)).symm;go_enter Tryz.func108, Tryz.ntmps108;go_wp2_with fail;go_ret;exact ⟨ret_bool HF.out, by rw [← HW.out]; exact hB⟩
end Go.Proofs.YtjklbjmdgiddcaaGreat
namespace Go.Proofs.YtjklbjmdgiddcaaGreat
open Go.RowKit
set_option linter.all false
def badB (m : Mach) (e : Int × Int) : Bool := !(inB e.1 0 40 && inB e.2 0 (m.msg - 1))
theorem badB_f {m : Mach} {e : Int × Int} (h : badB m e = false) : letOk m e := by unfold badB at h;rw [Bool.not_eq_false', Bool.and_eq_true] at h;exact ⟨inBt h.1, inBt h.2⟩
theorem badB_t {m : Mach} {e : Int × Int} (h : badB m e = true) : ¬ letOk m e := fun hp => by unfold badB at h;rw [inB_t hp.1, inB_t hp.2] at h;cases h
theorem closure_slots (m : Mach) (e : Int × Int) (G : Nat) (w : World) (hG : G < w.heap.size) (hc : w.cell? ⟨G, 2, none⟩ = some (.int .i64 m.msg)) (hg : 1 ≤ m.msg ∧ m.msg ≤ 6) :
    Calls Tryz.prog 131 #[.agg #[.int .i64 e.1, .int .i64 e.2], .pointer (some ⟨G, 0, none⟩)] w fun e' w' => e' = .returned (.bool (badB m e)) ∧ Below w.heap.size w w' := by
  obtain ⟨wv, hwv, hb, HK, hzv, HSV⟩ := box2 w (.int .i64 e.1) (.int .i64 e.2) 129;have HWV := aA hwv;obtain ⟨z0, z1, zf⟩ := cells2 HK;have z2 := (hb.cell (p := ⟨G, 2, none⟩) hG).trans hc;rw [hwv] at z0 z1 z2;clear hwv hc;cases q1 : inB e.1 0 40 with
  | false =>
    have HF := aA (show true = badB m e by unfold badB; rw [q1]; rfl);go_enter Tryz.func131, Tryz.ntmps131;go_wp2_with (go_at_call 94; (try rw [show IntKind.i64.wrap (m.msg - 1) = m.msg - 1 from aL _ (by omega)]); refine (impl_within _ _ _ _).mono ?_; rintro e w' ⟨rfl, rfl⟩)
    go_ret;exact ⟨ret_bool HF.out, by rw [← HWV.out]; exact hb⟩
  | true =>
    have HF := aA (show (!inB e.2 0 (m.msg - 1)) = badB m e by unfold badB; rw [q1]; rfl);go_enter Tryz.func131, Tryz.ntmps131;go_wp2_with (go_at_call 94; (try rw [show IntKind.i64.wrap (m.msg - 1) = m.msg - 1 from aL _ (by omega)]); refine (impl_within _ _ _ _).mono ?_; rintro e w' ⟨rfl, rfl⟩)
    go_ret;exact ⟨ret_bool HF.out, by rw [← HWV.out]; exact hb⟩
def LxIdx (m : Mach) (ls : Ends) (w : World) (e : Ending) (w' : World) : Prop := ∃ i : Int, e = .returned (.int .i64 i) ∧ -1 ≤ i ∧ i ≤ ls.length ∧ (decide (0 ≤ i) = false → ∀ e ∈ ls, letOk m e) ∧ (decide (0 ≤ i) = true → ¬ ∀ e ∈ ls, letOk m e) ∧ Below w.heap.size w w'
set_option maxRecDepth 100000 in
theorem index_lets (m : Mach) (v : Value) (ls : Ends) (G : Nat) (w : World) (h : EndsR w (· < w.heap.size) v ls) (hl : ls.length ≤ 12) (hG : G < w.heap.size) (hc : w.cell? ⟨G, 2, none⟩ = some (.int .i64 m.msg)) (hg : 1 ≤ m.msg ∧ m.msg ≤ 6) :
  Calls Tryz.prog 141 #[v, .func (.func 131) #[] #[.pointer (some ⟨G, 0, none⟩)]] w (LxIdx m ls w) := by
 obtain ⟨Bl, dl, rfl, hdl, hDl, hil, hrl⟩ := h;unfold maxLen at hDl;have HC := aA hc;have HRL := aA hrl;clear hc hrl;go_enter Tryz.func141, Tryz.ntmps141;go_wp2_with fail;go_loopw [8, 5] (fun i _ wr => SylRel m ls w i wr) (fun i _ _ => ls.length - (intOf i).toNat)
 case atStart => exact ⟨Below.refl _ _, 0, Nat.zero_le _, rfl, by simp⟩
 case round =>
  obtain ⟨hb, k, hk, rfl, hup⟩ := hrel;have HU := aA hup; clear hup;have hz := hb.size;by_cases hlt : k < ls.length
  ·
   obtain ⟨x, hx⟩ : ∃ x, ls[k]? = some x := ⟨_, aC hlt⟩
   obtain ⟨bl, ol, rfl, hbl, hrowl⟩ := HRL.out (by omega);obtain ⟨p0, p1⟩ := hrowl k x hx;replace p0 := (hb.cell (p := ⟨bl, ol + k * 2, none⟩) hbl).trans p0;replace p1 := (hb.cell (p := ⟨bl, ol + k * 2 + 1, none⟩) hbl).trans p1;have J := aA (closure_slots m x G wr (by omega) ((hb.cell (p := ⟨G, 2, none⟩) hG).trans HC.out) hg);have HX := aA hx;clear hx hrowl;cases q : badB m x with
   | true =>
    rw [q] at J;have HQ := aA (show ¬ ∀ e ∈ ls, letOk m e from fun h => badB_t q (h x (aN HX.out)));go_wp2_with fail;refine J.out.mono ?_;rintro e w' ⟨rfl, hb'⟩;go_wp2_with fail;go_ret;exact ⟨k, rfl, by omega, by omega, fun h => absurd h (by simp), fun _ => HQ.out, bl_trans hb hb'⟩
   | false =>
    rw [q] at J;have HQ := aA (badB_f q);go_wp2_with fail;refine J.out.mono ?_;rintro e w' ⟨rfl, hb'⟩;go_wp2_with fail;go_roundw
    case rel => exact ⟨bl_trans hb hb', k + 1, by omega, by go_num, take_next HU.out HX.out HQ.out⟩
    case measure => simp [intOf]; omega
  · have HF := aA (take_all HU.out (by omega));go_wp2_with fail;go_ret;exact ⟨-1, rfl, by omega, by omega, fun _ => HF.out, fun h => absurd h (by decide), hb⟩
noncomputable def letsB (m : Mach) (ls : Ends) : Bool := propB (∀ e ∈ ls, letOk m e)
theorem contains_lets (m : Mach) (v : Value) (ls : Ends) (G : Nat) (w : World) (h : EndsR w (· < w.heap.size) v ls) (hl : ls.length ≤ 12) (hG : G < w.heap.size) (hc : w.cell? ⟨G, 2, none⟩ = some (.int .i64 m.msg)) (hg : 1 ≤ m.msg ∧ m.msg ≤ 6) :
    Calls Tryz.prog 130 #[v, .func (.func 131) #[] #[.pointer (some ⟨G, 0, none⟩)]] w fun e w' => e = .returned (.bool (!letsB m ls)) ∧ Below w.heap.size w w' := by
  have J := aA (index_lets m v ls G w h hl hG hc hg);clear h hc;go_enter Tryz.func130, Tryz.ntmps130;go_wp2_with fail;refine J.out.mono ?_;rintro e w' ⟨i, rfl, h1, h2, h3, h4, hb⟩
  have HI := aA (show decide (0 ≤ i) = !letsB m ls by
    cases q : decide (0 ≤ i) with
    | true => rw [show letsB m ls = false from propB_f (h4 q)]; rfl
    | false => rw [show letsB m ls = true from propB_t (h3 q)]; rfl)
  clear h3 h4;go_wp2_with fail;go_ret;exact ⟨ret_bool HI.out, hb⟩
noncomputable def slB (m : Mach) (p : Nat) (s : List Int) (f : List Ends) : Bool := propB (slotP m p s f)
set_option maxRecDepth 100000 in
set_option maxHeartbeats 2000000 in
theorem impl_slotsOk (vs ve vc vo : Value) (m : Mach) (p : Nat) (v8 v9 : Value) (s : List Int) (f : List Ends) (w : World) (hm : MachR w w.heap.size vs ve vc vo m) (h8 : IntsR w w.heap.size v8 s) (h9 : EndssR w (· < w.heap.size) v9 f) (hg : 1 ≤ m.msg ∧ m.msg ≤ 6) :
  Calls Tryz.prog 109 #[machV vs ve vc vo m, .int .i64 p, v8, v9] w fun e w' => e = .returned (.bool (slB m p s f)) ∧ Below w.heap.size w w' := by
 unfold machV;obtain ⟨⟨A0, m0, c0, rfl⟩, ⟨A1, m1, c1, rfl⟩, ⟨A2, m2, c2, rfl⟩, A3, m3, c3, rfl⟩ := hm.slices;have h8o := h8.open_;obtain ⟨B8, d8, rfl, hd8, hD8, -⟩ := h8o;obtain ⟨B9, d9, rfl, hd9, hD9, hrf⟩ := h9;unfold maxLen at hD8 hD9;have H8 := aA h8;have HRF := aA hrf;clear h8 hrf;obtain ⟨w0, hw0, hb0, HM, hz0, HS0⟩ := box7 w (.int .i64 m.deg) (.int .i64 m.st) (.int .i64 m.msg) (.slice A0 m0 c0) (.slice A1 m1 c1) (.slice A2 m2 c2) (.slice A3 m3 c3) 46;have hB : Below w.heap.size w w0 := hb0;have HW := aA (show w0 = w.alloc (.cells #[.int .i64 m.deg, .int .i64 m.st, .int .i64 m.msg, .slice A0 m0 c0, .slice A1 m1 c1, .slice A2 m2 c2, .slice A3 m3 c3] 46) by rw [hw0]);obtain ⟨⟨g0, g1, g2⟩, ⟨g3, g4, g5, g6⟩, gf⟩ := cells7 HM;have eg0 := g0;have eg1 := g1;have eg2 := g2;have eg3 := g3;have eg4 := g4;have eg5 := g5;have eg6 := g6;rw [HW.out] at eg0 eg1 eg2 eg3 eg4 eg5 eg6;have hzb0 : w.heap.size < w0.heap.size := by omega
 have HR := aA (hm.up hB);clear hw0;clear HR;by_cases t1 : s.length = p
 ·
  have s1 : (((s.length : Nat) : Int) != ((p : Nat) : Int)) = false := by rw [t1]; simp
  have HS1 := aA t1;clear t1;by_cases t2 : f.length = p
  ·
   have s2 : (((f.length : Nat) : Int) != ((p : Nat) : Int)) = false := by rw [t2]; simp
   have HS2 := aA t2;clear t2;cases q : allB s (-1) (m.msg - 1) with
   | false =>
    have HF := aA (show slB m p s f = false from propB_f fun hp => by rw [allB_iff.2 hp.2.2.1] at q; cases q).symm;go_enter Tryz.func109, Tryz.ntmps109;go_wp2_with fail;rw [← HW.out];clear eg0 eg1 eg2 eg3 eg4 eg5 eg6
    (try rw [show IntKind.i64.wrap (m.msg - 1) = m.msg - 1 from aL _ (by omega)])
    refine (impl_allWithin _ s _ _ w0 ((H8.out.below hB).more hB.size)).mono ?_;rintro e w5 ⟨rfl, hb5⟩;rw [q];have hzhb5 := hb5.size;clear g0 g1 g2 g3 g4 g5 g6 gf;replace HM := bk HM hb5;replace hB := bl_trans hB hb5;obtain ⟨⟨g0, g1, g2⟩, ⟨g3, g4, g5, g6⟩, gf⟩ := cells7 HM;go_wp2_with fail;go_ret;exact ⟨ret_bool HF.out, hB⟩
   | true =>
    have HQ := aA q;go_enter Tryz.func109, Tryz.ntmps109;go_wp2_with fail;rw [← HW.out];clear eg0 eg1 eg2 eg3 eg4 eg5 eg6
    (try rw [show IntKind.i64.wrap (m.msg - 1) = m.msg - 1 from aL _ (by omega)])
    refine (impl_allWithin _ s _ _ w0 ((H8.out.below hB).more hB.size)).mono ?_;rintro e w5 ⟨rfl, hb5⟩;rw [q];have hzhb5 := hb5.size;clear g0 g1 g2 g3 g4 g5 g6 gf;replace HM := bk HM hb5;replace hB := bl_trans hB hb5;obtain ⟨⟨g0, g1, g2⟩, ⟨g3, g4, g5, g6⟩, gf⟩ := cells7 HM;go_wp2_with fail;obtain ⟨wq, rfl⟩ : ∃ z, z = w5 := ⟨_, rfl⟩
    go_loopw [31] (fun i wr' => SyfRel m f wq i wr') (fun i _ => f.length - (intOf i).toNat)
    case atStart => exact ⟨Below.refl _ _, 0, Nat.zero_le _, rfl, by simp⟩
    case round =>
     obtain ⟨hb2, j, hj, rfl, hup⟩ := hrel;have HU2 := aA hup; clear hup;have hzhb2 := hb2.size;clear g0 g1 g2 g3 g4 g5 g6 gf;replace HM := bk HM hb2;replace hB := bl_trans hB hb2;obtain ⟨⟨g0, g1, g2⟩, ⟨g3, g4, g5, g6⟩, gf⟩ := cells7 HM;by_cases hlt2 : j < f.length
     ·
      obtain ⟨ls, hls⟩ : ∃ y, f[j]? = some y := ⟨_, aC hlt2⟩
      obtain ⟨adf, rfl, haf, hrowf⟩ := HRF.out (by omega);obtain ⟨ul, hul, hzl⟩ := hrowf j ls hls;have HZL := aA ((EndsR.below hzl hB).more hB.size);obtain ⟨Bl, dl, rfl, hdl, hDl, hil, hrl⟩ := hzl;unfold maxLen at hDl;have hcl := (hB.cell (p := adf.add j) (by rw [block_add]; exact haf)).trans hul;have HLS := aA hls;clear hrl hul hls hrowf;by_cases t3 : ls.length ≤ 12
      ·
       have J := aA (contains_lets m _ ls w.heap.size wr HZL.out t3 (by omega) g2 hg);cases q3 : letsB m ls with
       | false =>
        rw [q3] at J;have HF := aA (show slB m p s f = false from propB_f fun hp => by rw [show letsB m ls = true from propB_t (hp.2.2.2 ls (aN HLS.out)).2] at q3; cases q3).symm;go_wp2_with fail;refine J.out.mono ?_;rintro e w6 ⟨rfl, hb6⟩;go_wp2_with fail;go_ret;exact ⟨ret_bool HF.out, bl_trans hB hb6⟩
       | true =>
        rw [q3] at J;have HLP := aA (show letP m ls from ⟨t3, propB_iff.1 q3⟩);go_wp2_with fail;refine J.out.mono ?_;rintro e w6 ⟨rfl, hb6⟩;go_wp2_with fail;go_roundw
        case rel => exact ⟨bl_trans hb2 hb6, j + 1, by omega, by go_num, take_next HU2.out HLS.out HLP.out⟩
        case measure => simp [intOf]; omega
      · have HF := aA (show slB m p s f = false from propB_f fun hp => t3 (hp.2.2.2 ls (aN HLS.out)).1).symm;go_wp2_with fail;go_ret;exact ⟨ret_bool HF.out, hB⟩
     · have HF := aA (show slB m p s f = true from propB_t ⟨HS1.out, HS2.out, allB_iff.1 HQ.out, take_all HU2.out (by omega)⟩).symm;go_wp2_with fail;go_ret;exact ⟨ret_bool HF.out, hB⟩
  ·
   have s2 : (((f.length : Nat) : Int) != ((p : Nat) : Int)) = true := by rw [bne_iff_ne]; omega
   have HF := aA (show slB m p s f = false from propB_f fun hp => t2 hp.2.1).symm;go_enter Tryz.func109, Tryz.ntmps109;go_wp2_with fail;go_ret;exact ⟨ret_bool HF.out, by rw [← HW.out]; exact hB⟩
 ·
  have s1 : (((s.length : Nat) : Int) != ((p : Nat) : Int)) = true := by rw [bne_iff_ne]; omega
  have HF := aA (show slB m p s f = false from propB_f fun hp => t1 hp.1).symm;go_enter Tryz.func109, Tryz.ntmps109;go_wp2_with fail;go_ret;exact ⟨ret_bool HF.out, by rw [← HW.out]; exact hB⟩
end Go.Proofs.YtjklbjmdgiddcaaGreat
