/-
  Machines, the program's side: hasState, IsMachine.
-/
import Derived.Test.YtjklbjmdgiddcaaGreatGMaSG
namespace Go.Proofs.YtjklbjmdgiddcaaGreat
open Go.RowKit
set_option linter.all false
theorem impl_hasState (vs ve vc vo : Value) (m : Mach) (s : Int) (w : World) (hm : MachR w w.heap.size vs ve vc vo m) (hs : 0 ≤ m.st ∧ m.st ≤ 1000) :
    Calls Tryz.prog 125 #[machV vs ve vc vo m, .int .i64 s] w fun e w' => e = .returned (.bool (inB s 0 (m.st - 1))) ∧ Below w.heap.size w w' := by
  unfold machV;obtain ⟨⟨A0, m0, c0, rfl⟩, ⟨A1, m1, c1, rfl⟩, ⟨A2, m2, c2, rfl⟩, A3, m3, c3, rfl⟩ := hm.slices;obtain ⟨w0, hw0, hb0, HM, hz0, HS0⟩ := box7 w (.int .i64 m.deg) (.int .i64 m.st) (.int .i64 m.msg) (.slice A0 m0 c0) (.slice A1 m1 c1) (.slice A2 m2 c2) (.slice A3 m3 c3) 46;have hB : Below w.heap.size w w0 := hb0;have HW := aA (show w0 = w.alloc (.cells #[.int .i64 m.deg, .int .i64 m.st, .int .i64 m.msg, .slice A0 m0 c0, .slice A1 m1 c1, .slice A2 m2 c2, .slice A3 m3 c3] 46) by rw [hw0]);obtain ⟨⟨g0, g1, g2⟩, ⟨g3, g4, g5, g6⟩, gf⟩ := cells7 HM;have eg0 := g0;have eg1 := g1;have eg2 := g2;have eg3 := g3;have eg4 := g4;have eg5 := g5;have eg6 := g6;rw [HW.out] at eg0 eg1 eg2 eg3 eg4 eg5 eg6;have hzb0 : w.heap.size < w0.heap.size := by omega
  have HR := aA (hm.up hB);clear hw0;go_enter Tryz.func125, Tryz.ntmps125;go_wp2_with (go_at_call 94; (try rw [show IntKind.i64.wrap (m.st - 1) = m.st - 1 from aL _ (by omega)]); refine (impl_within _ _ _ _).mono ?_; rintro e w' ⟨rfl, rfl⟩)
  go_ret;exact ⟨rfl, by rw [← HW.out]; exact hB⟩
def IgsRel (m : Mach) (w : World) (i : Value) (wr : World) : Prop := Below w.heap.size w wr ∧ ∃ k : Nat, k ≤ m.start.length ∧ i = .int .i64 k ∧ (∀ l ∈ m.start.take k, rowP l (first m) m.st) ∧ (0 < k → 1 ≤ first m ∧ first m ≤ 10)
set_option maxRecDepth 100000 in
set_option maxHeartbeats 4000000 in
theorem isMachine_on (vs ve vc vo : Value) (m : Mach) (w : World) (hm : MachR w w.heap.size vs ve vc vo m) (b1 : 0 ≤ m.deg ∧ m.deg ≤ 6) (b2 : 1 ≤ m.st ∧ m.st ≤ 12) (b3 : 1 ≤ m.msg ∧ m.msg ≤ 6)
  (k4 : (m.start.length : Int) = m.deg + 1) (k6 : (m.send.length : Int) = m.st) (k7 : m.cls.length ≤ 60) (k8 : (m.out.length : Int) = m.st) :
  Calls Tryz.prog 104 #[machV vs ve vc vo m] w fun e w' => e = .returned (.bool (maB m)) ∧ Below w.heap.size w w' := by
 unfold machV
 have HALL := aA (show (1 ≤ first m ∧ first m ≤ 10) → (∀ l ∈ m.start, rowP l (first m) m.st) → (∀ l ∈ m.send, rowP l m.deg m.msg) → (∀ c ∈ m.cls, clP m c) → maB m = allB m.out (-1) 9 from fun b5 x y z => by
  cases k9 : allB m.out (-1) 9 with
  | true => exact propB_t ⟨⟨b1, b2, b3⟩, ⟨k4, k6, k8, k7⟩, b5, x, y, z, allB_iff.1 k9⟩
  | false =>
   exact propB_f fun hp => by
    rw [allB_iff.2 hp.2.2.2.2.2.2] at k9
    cases k9)
 have hs := hm.s.open_;have he := hm.e.open_;have hc := hm.c;have ho := hm.o.isSlice;obtain ⟨A0, c0, rfl, hc0, hm0, hr0⟩ := hs;obtain ⟨A1, c1, rfl, hc1, hm1, hr1⟩ := he;obtain ⟨A2, c2, rfl, hc2, hm2, -, hr2⟩ := hc;have hoo := hm.o.open_;obtain ⟨A3, c3, rfl, hc3, hm3, -⟩ := hoo;clear ho;unfold maxLen at hm0 hm1 hm2 hm3;have HR0 := aA hr0;have HR1 := aA hr1;have HR2 := aA hr2;have HO := aA hm.o;have HM0 := aA hm;clear hr0 hr1 hr2;obtain ⟨w0, hw0, hb0, HM, hz0, HS0⟩ := box7 w (.int .i64 m.deg) (.int .i64 m.st) (.int .i64 m.msg) (.slice A0 m.start.length c0) (.slice A1 m.send.length c1) (.slice A2 m.cls.length c2) (.slice A3 m.out.length c3) 46;have hB : Below w.heap.size w w0 := hb0;have HW := aA (show w0 = w.alloc (.cells #[.int .i64 m.deg, .int .i64 m.st, .int .i64 m.msg, .slice A0 m.start.length c0, .slice A1 m.send.length c1, .slice A2 m.cls.length c2, .slice A3 m.out.length c3] 46) by rw [hw0]);obtain ⟨⟨g0, g1, g2⟩, ⟨g3, g4, g5, g6⟩, gf⟩ := cells7 HM;have eg0 := g0;have eg1 := g1;have eg2 := g2;have eg3 := g3;have eg4 := g4;have eg5 := g5;have eg6 := g6;rw [HW.out] at eg0 eg1 eg2 eg3 eg4 eg5 eg6;have hzb0 : w.heap.size < w0.heap.size := by omega
 have HR := aA (hm.up hB);clear hw0;have k1 : inB m.deg 0 6 = true := inB_t b1;have k2 : inB m.st 1 12 = true := inB_t b2;have k3 : inB m.msg 1 6 = true := inB_t b3;have n4 : (((m.start.length : Nat) : Int) == m.deg + 1) = true := by rw [beq_iff_eq]; exact k4
 have hp0 : 0 < m.start.length := by omega
 have n0 : (0 : Int) < m.deg + 1 := by omega
 obtain ⟨l0, hl0⟩ : ∃ l, m.start[0]? = some l := ⟨_, aC hp0⟩
 obtain ⟨ad, rfl, hab, hrow⟩ := HR0.out hp0;obtain ⟨u, hcu, hru⟩ := hrow 0 l0 hl0;have ea : ad.add 0 = ad := by unfold Addr.add; simp
 rw [ea] at hcu;obtain ⟨A5, c5, rfl, hc5, hm5, -⟩ := hru.open_;have HC0 := aA hcu;unfold maxLen at hm5;have HFI := aA (show first m = l0.length by unfold first; rw [aG, hl0]; rfl);have n6 : (((m.send.length : Nat) : Int) == m.st) = true := by rw [beq_iff_eq]; exact k6
 have n8 : (((m.out.length : Nat) : Int) == m.st) = true := by rw [beq_iff_eq]; exact k8
 clear hl0 hcu hru hrow HR hm;go_enter Tryz.func104, Tryz.ntmps104;go_wp2_with (go_at_call 94; refine (impl_within _ _ _ _).mono ?_; rintro e w' ⟨rfl, rfl⟩)
 rw [← HW.out];clear eg0 eg1 eg2 eg3 eg4 eg5 eg6;go_loopw [57] (fun i wr => IgsRel m w0 i wr) (fun i _ => m.start.length - (intOf i).toNat)
 case atStart => exact ⟨Below.refl _ _, 0, Nat.zero_le _, rfl, by simp, fun h => absurd h (by omega)⟩
 case round =>
  obtain ⟨hb1, k, hk, rfl, hup, hfk⟩ := hrel;have HU := aA hup; clear hup;have HFK := aA hfk; clear hfk;have hzhb1 := hb1.size;clear g0 g1 g2 g3 g4 g5 g6 gf;replace HM := bk HM hb1;replace hB := bl_trans hB hb1;obtain ⟨⟨g0, g1, g2⟩, ⟨g3, g4, g5, g6⟩, gf⟩ := cells7 HM;by_cases hlt : k < m.start.length
  ·
   obtain ⟨l, hl⟩ : ∃ l, m.start[k]? = some l := ⟨_, aC hlt⟩
   obtain ⟨ad', e, hab', hrow'⟩ := HR0.out hp0;cases e;obtain ⟨u, hcu, hru⟩ := hrow' k l hl;have hcell := (hB.cell (p := ad.add k) (by rw [block_add]; exact hab)).trans hcu;have hcr := (hB.cell (p := ad) hab).trans HC0.out;have HRK := aA ((hru.below hB).more hB.size);obtain ⟨A9, c9, rfl, hc9, hm9, -⟩ := hru.open_;unfold maxLen at hm9;have HL := aA hl; clear hl hru hcu hrow';have HNO := aA (fun hf : ¬ (rowP l (first m) m.st ∧ 1 ≤ first m ∧ first m ≤ 10) => maB_f fun hp => hf ⟨hp.2.2.2.1 l (aN HL.out), hp.2.2.1⟩);by_cases t1 : l.length = l0.length
   ·
    have r1 : (((l.length : Nat) : Int) != ((l0.length : Nat) : Int)) = false := by rw [t1]; simp
    have HT1 := aA t1;clear t1;cases q1 : inB (l.length : Int) 1 10 with
    | false =>
     have HF := aA (HNO.out fun hp => inBf q1 (by rw [HT1.out, ← HFI.out]; exact hp.2)).symm;go_wp2_with (go_at_call 94; refine (impl_within _ _ _ _).mono ?_; rintro e w' ⟨rfl, rfl⟩)
     go_ret;exact ⟨ret_bool HF.out, hB⟩
    | true =>
     have HFB := aA (show 1 ≤ first m ∧ first m ≤ 10 by rw [HFI.out, ← HT1.out]; exact inBt q1);cases q2 : allB l 0 (m.st - 1) with
     | false =>
      have HF := aA (HNO.out fun hp => by rw [allB_iff.2 hp.1.2] at q2; cases q2).symm;go_wp2_with (first | (go_at_call 94; refine (impl_within _ _ _ _).mono ?_; rintro e w' ⟨rfl, rfl⟩) | (go_at_call 107; (try rw [show IntKind.i64.wrap (m.st - 1) = m.st - 1 from aL _ (by omega)]); refine (impl_allWithin _ l _ _ wr HRK.out).mono ?_; rintro e w5 ⟨rfl, hb5⟩; rw [q2]))
      go_ret;exact ⟨ret_bool HF.out, bl_trans hB hb5⟩
     | true =>
      have HOK := aA (show rowP l (first m) m.st from ⟨by rw [HT1.out, ← HFI.out], allB_iff.1 q2⟩);go_wp2_with (first | (go_at_call 94; refine (impl_within _ _ _ _).mono ?_; rintro e w' ⟨rfl, rfl⟩) | (go_at_call 107; (try rw [show IntKind.i64.wrap (m.st - 1) = m.st - 1 from aL _ (by omega)]); refine (impl_allWithin _ l _ _ wr HRK.out).mono ?_; rintro e w5 ⟨rfl, hb5⟩; rw [q2]))
      go_roundw
      case rel => exact ⟨bl_trans hb1 hb5, k + 1, by omega, by go_num, take_next HU.out HL.out HOK.out, fun _ => HFB.out⟩
      case measure => simp [intOf]; omega
   ·
    have r1 : (((l.length : Nat) : Int) != ((l0.length : Nat) : Int)) = true := by rw [bne_iff_ne]; omega
    have HF := aA (HNO.out fun hp => t1 (by have := hp.1.1; rw [HFI.out] at this; omega)).symm;go_wp2_with (go_at_call 94; refine (impl_within _ _ _ _).mono ?_; rintro e w' ⟨rfl, rfl⟩)
    go_ret;exact ⟨ret_bool HF.out, hB⟩
  ·
   have HS := aA (take_all HU.out (by omega)); clear HU;have HFB := aA (HFK.out (by omega)); clear HFK;go_wp2_with fail;obtain ⟨wq, rfl⟩ : ∃ z, z = wr := ⟨_, rfl⟩
   go_loopw [87] (fun i wr' => MgeRel m wq i wr') (fun i _ => m.send.length - (intOf i).toNat)
   case atStart => exact ⟨Below.refl _ _, 0, Nat.zero_le _, rfl, by simp⟩
   case round =>
    obtain ⟨hb2, j, hj, rfl, hup⟩ := hrel;have HU := aA hup; clear hup;have hzhb2 := hb2.size;clear g0 g1 g2 g3 g4 g5 g6 gf;replace HM := bk HM hb2;replace hB := bl_trans hB hb2;obtain ⟨⟨g0, g1, g2⟩, ⟨g3, g4, g5, g6⟩, gf⟩ := cells7 HM;by_cases hlt2 : j < m.send.length
    ·
     obtain ⟨l, hl⟩ : ∃ l, m.send[j]? = some l := ⟨_, aC hlt2⟩
     obtain ⟨ad1, rfl, hab1, hrow1⟩ := HR1.out (by omega);obtain ⟨u, hcu, hru⟩ := hrow1 j l hl;have hcell := (hB.cell (p := ad1.add j) (by rw [block_add]; exact hab1)).trans hcu;have HRK := aA ((hru.below hB).more hB.size);obtain ⟨A9, c9, rfl, hc9, hm9, -⟩ := hru.open_;unfold maxLen at hm9;have HL := aA hl; clear hl hru hcu hrow1;have HNO := aA (fun hf : ¬ rowP l m.deg m.msg => maB_f fun hp => hf (hp.2.2.2.2.1 l (aN HL.out)));by_cases t1 : (l.length : Int) = m.deg
     ·
      have r1 : (((l.length : Nat) : Int) == m.deg) = true := by rw [beq_iff_eq]; exact t1
      have r2 : (((l.length : Nat) : Int) != m.deg) = false := by rw [t1]; simp
      have HT1 := aA t1;clear t1;cases q2 : allB l 0 (m.msg - 1) with
      | false =>
       have HF := aA (HNO.out fun hp => by rw [allB_iff.2 hp.2] at q2; cases q2).symm;go_wp2_with (go_at_call 107; (try rw [show IntKind.i64.wrap (m.msg - 1) = m.msg - 1 from aL _ (by omega)]); refine (impl_allWithin _ l _ _ wr HRK.out).mono ?_; rintro e w5 ⟨rfl, hb5⟩; rw [q2])
       go_ret;exact ⟨ret_bool HF.out, bl_trans hB hb5⟩
      | true =>
       have HOK := aA (show rowP l m.deg m.msg from ⟨HT1.out, allB_iff.1 q2⟩);go_wp2_with (go_at_call 107; (try rw [show IntKind.i64.wrap (m.msg - 1) = m.msg - 1 from aL _ (by omega)]); refine (impl_allWithin _ l _ _ wr HRK.out).mono ?_; rintro e w5 ⟨rfl, hb5⟩; rw [q2])
       go_roundw
       case rel => exact ⟨bl_trans hb2 hb5, j + 1, by omega, by go_num, take_next HU.out HL.out HOK.out⟩
       case measure => simp [intOf]; omega
     ·
      have r1 : (((l.length : Nat) : Int) == m.deg) = false := by rw [beq_eq_false_iff_ne]; exact t1
      have r2 : (((l.length : Nat) : Int) != m.deg) = true := by rw [bne_iff_ne]; exact t1
      have HF := aA (HNO.out fun hp => t1 hp.1).symm;go_wp2_with fail;go_ret;exact ⟨ret_bool HF.out, hB⟩
    ·
     have HE := aA (take_all HU.out (by omega)); clear HU;go_wp2_with fail;obtain ⟨wp, rfl⟩ : ∃ z, z = wr := ⟨_, rfl⟩
     go_loopw [108] (fun i wr' => MgcRel m wp i wr') (fun i _ => m.cls.length - (intOf i).toNat)
     case atStart => exact ⟨Below.refl _ _, 0, Nat.zero_le _, rfl, by simp⟩
     case round =>
      obtain ⟨hb3, n, hn, rfl, hup⟩ := hrel;have HU := aA hup; clear hup;have hzhb3 := hb3.size;clear g0 g1 g2 g3 g4 g5 g6 gf;replace HM := bk HM hb3;replace hB := bl_trans hB hb3;obtain ⟨⟨g0, g1, g2⟩, ⟨g3, g4, g5, g6⟩, gf⟩ := cells7 HM;by_cases hlt3 : n < m.cls.length
      ·
       obtain ⟨c, hc⟩ : ∃ l, m.cls[n]? = some l := ⟨_, aC hlt3⟩
       obtain ⟨cb, co, rfl, hcb, hrow2⟩ := HR2.out (by omega);obtain ⟨p0, ⟨u, p1, hru⟩, p2⟩ := hrow2 n c hc;have p0' := (hB.cell (p := ⟨cb, co + n * 3, none⟩) hcb).trans p0;have p1' := (hB.cell (p := ⟨cb, co + n * 3 + 1, none⟩) hcb).trans p1;have p2' := (hB.cell (p := ⟨cb, co + n * 3 + 2, none⟩) hcb).trans p2;have HRK0 := aA hru;obtain ⟨A7, c7, rfl, hc7, hm7, -⟩ := hru.open_;unfold maxLen at hm7;obtain ⟨wv, hwv, hb4, HK, hzv, HSV⟩ := box3 wr (.int .i64 c.1) (.slice A7 c.2.1.length c7) (.int .i64 c.2.2) 123;have HWV := aA hwv;have hzr : w.heap.size < wr.heap.size := by omega
       obtain ⟨z0, z1, z2, zf⟩ := cells3 HK;have z3 := z0;have z4 := z1;have z5 := z2;have s0 := (hb4.cell (p := ⟨w.heap.size, 0, none⟩) hzr).trans g0;have s1 := (hb4.cell (p := ⟨w.heap.size, 1, none⟩) hzr).trans g1;have s2 := (hb4.cell (p := ⟨w.heap.size, 2, none⟩) hzr).trans g2;have s3 := (hb4.cell (p := ⟨w.heap.size, 3, none⟩) hzr).trans g3;have s4 := (hb4.cell (p := ⟨w.heap.size, 4, none⟩) hzr).trans g4;have s5 := (hb4.cell (p := ⟨w.heap.size, 5, none⟩) hzr).trans g5;have s6 := (hb4.cell (p := ⟨w.heap.size, 6, none⟩) hzr).trans g6;rw [hwv] at s0 s1 s2 s3 s4 s5 s6;rw [hwv] at z3 z4 z5;have HL := aA hc; clear hc hru p0 p1 p2 hrow2 hwv;have HNO := aA (fun hf : ¬ clP m c => maB_f fun hp => hf (hp.2.2.2.2.2.1 c (aN HL.out)));have HMV := aA (HM0.out.up (bl_trans hB hb4));replace HM := bk HM hb4;replace hB := bl_trans hB hb4;have hzz : w.heap.size < wv.heap.size := by omega
       cases q1 : inB c.1 0 (m.st - 1) with
       | false =>
        have HF := aA (HNO.out (clB_no1 q1)).symm;go_wp2_with fail;rw [← HWV.out];clear z3 z4 z5 s0 s1 s2 s3 s4 s5 s6 g0 g1 g2 g3 g4 g5 g6 gf;obtain ⟨⟨g0, g1, g2⟩, ⟨g3, g4, g5, g6⟩, gf⟩ := cells7 HM;refine (impl_hasState _ _ _ _ m _ wv HMV.out (by omega)).mono ?_;rintro e w5 ⟨rfl, hb5⟩;rw [q1];have hzhb5 := hb5.size;clear g0 g1 g2 g3 g4 g5 g6 gf;replace HM := bk HM hb5;replace hB := bl_trans hB hb5;obtain ⟨⟨g0, g1, g2⟩, ⟨g3, g4, g5, g6⟩, gf⟩ := cells7 HM;replace HK := bk HK hb5;clear z0 z1 z2 zf;obtain ⟨z0, z1, z2, zf⟩ := cells3 HK;replace HMV := aA (HMV.out.up hb5);go_wp2_with fail;go_ret;exact ⟨ret_bool HF.out, hB⟩
       | true =>
        have HQ1 := aA (inBt q1);cases q2 : inB c.2.2 0 (m.st - 1) with
        | false =>
         have HF := aA (HNO.out (clB_no2 q2)).symm;go_wp2_with fail;rw [← HWV.out];clear z3 z4 z5 s0 s1 s2 s3 s4 s5 s6 g0 g1 g2 g3 g4 g5 g6 gf;obtain ⟨⟨g0, g1, g2⟩, ⟨g3, g4, g5, g6⟩, gf⟩ := cells7 HM;refine (impl_hasState _ _ _ _ m _ wv HMV.out (by omega)).mono ?_;rintro e w5 ⟨rfl, hb5⟩;rw [q1];have hzhb5 := hb5.size;clear g0 g1 g2 g3 g4 g5 g6 gf;replace HM := bk HM hb5;replace hB := bl_trans hB hb5;obtain ⟨⟨g0, g1, g2⟩, ⟨g3, g4, g5, g6⟩, gf⟩ := cells7 HM;replace HK := bk HK hb5;clear z0 z1 z2 zf;obtain ⟨z0, z1, z2, zf⟩ := cells3 HK;replace HMV := aA (HMV.out.up hb5);go_wp2_with fail;refine (impl_hasState _ _ _ _ m _ w5 HMV.out (by omega)).mono ?_;rintro e w6 ⟨rfl, hb6⟩;rw [q2];have hzhb6 := hb6.size;clear g0 g1 g2 g3 g4 g5 g6 gf;replace HM := bk HM hb6;replace hB := bl_trans hB hb6;obtain ⟨⟨g0, g1, g2⟩, ⟨g3, g4, g5, g6⟩, gf⟩ := cells7 HM;replace HK := bk HK hb6;clear z0 z1 z2 zf;obtain ⟨z0, z1, z2, zf⟩ := cells3 HK;replace HMV := aA (HMV.out.up hb6);go_wp2_with fail;go_ret;exact ⟨ret_bool HF.out, hB⟩
        | true =>
         have HQ2 := aA (inBt q2);by_cases q3 : (c.2.1.length : Int) ≤ m.deg
         ·
          cases q4 : allB c.2.1 (-1) (m.msg - 1) with
          | false =>
           have HF := aA (HNO.out (clB_no4 q4)).symm;go_wp2_with fail;rw [← HWV.out];clear z3 z4 z5 s0 s1 s2 s3 s4 s5 s6 g0 g1 g2 g3 g4 g5 g6 gf;obtain ⟨⟨g0, g1, g2⟩, ⟨g3, g4, g5, g6⟩, gf⟩ := cells7 HM;refine (impl_hasState _ _ _ _ m _ wv HMV.out (by omega)).mono ?_;rintro e w5 ⟨rfl, hb5⟩;rw [q1];have hzhb5 := hb5.size;clear g0 g1 g2 g3 g4 g5 g6 gf;replace HM := bk HM hb5;replace hB := bl_trans hB hb5;obtain ⟨⟨g0, g1, g2⟩, ⟨g3, g4, g5, g6⟩, gf⟩ := cells7 HM;replace HK := bk HK hb5;clear z0 z1 z2 zf;obtain ⟨z0, z1, z2, zf⟩ := cells3 HK;replace HMV := aA (HMV.out.up hb5);go_wp2_with fail;refine (impl_hasState _ _ _ _ m _ w5 HMV.out (by omega)).mono ?_;rintro e w6 ⟨rfl, hb6⟩;rw [q2];have hzhb6 := hb6.size;clear g0 g1 g2 g3 g4 g5 g6 gf;replace HM := bk HM hb6;replace hB := bl_trans hB hb6;obtain ⟨⟨g0, g1, g2⟩, ⟨g3, g4, g5, g6⟩, gf⟩ := cells7 HM;replace HK := bk HK hb6;clear z0 z1 z2 zf;obtain ⟨z0, z1, z2, zf⟩ := cells3 HK;replace HMV := aA (HMV.out.up hb6);go_wp2_with fail
           (try rw [show IntKind.i64.wrap (m.msg - 1) = m.msg - 1 from aL _ (by omega)])
           refine (impl_allWithin _ c.2.1 _ _ w6 ((HRK0.out.below hB).more hB.size)).mono ?_;rintro e w7 ⟨rfl, hb7⟩;rw [q4];go_wp2_with fail;go_ret;exact ⟨ret_bool HF.out, bl_trans hB hb7⟩
          | true =>
           have HCP := aA (show clP m c from ⟨HQ1.out, HQ2.out, q3, allB_iff.1 q4⟩);go_wp2_with fail;rw [← HWV.out];clear z3 z4 z5 s0 s1 s2 s3 s4 s5 s6 g0 g1 g2 g3 g4 g5 g6 gf;obtain ⟨⟨g0, g1, g2⟩, ⟨g3, g4, g5, g6⟩, gf⟩ := cells7 HM;refine (impl_hasState _ _ _ _ m _ wv HMV.out (by omega)).mono ?_;rintro e w5 ⟨rfl, hb5⟩;rw [q1];have hzhb5 := hb5.size;clear g0 g1 g2 g3 g4 g5 g6 gf;replace HM := bk HM hb5;replace hB := bl_trans hB hb5;obtain ⟨⟨g0, g1, g2⟩, ⟨g3, g4, g5, g6⟩, gf⟩ := cells7 HM;replace HK := bk HK hb5;clear z0 z1 z2 zf;obtain ⟨z0, z1, z2, zf⟩ := cells3 HK;replace HMV := aA (HMV.out.up hb5);go_wp2_with fail;refine (impl_hasState _ _ _ _ m _ w5 HMV.out (by omega)).mono ?_;rintro e w6 ⟨rfl, hb6⟩;rw [q2];have hzhb6 := hb6.size;clear g0 g1 g2 g3 g4 g5 g6 gf;replace HM := bk HM hb6;replace hB := bl_trans hB hb6;obtain ⟨⟨g0, g1, g2⟩, ⟨g3, g4, g5, g6⟩, gf⟩ := cells7 HM;replace HK := bk HK hb6;clear z0 z1 z2 zf;obtain ⟨z0, z1, z2, zf⟩ := cells3 HK;replace HMV := aA (HMV.out.up hb6);go_wp2_with fail
           (try rw [show IntKind.i64.wrap (m.msg - 1) = m.msg - 1 from aL _ (by omega)])
           refine (impl_allWithin _ c.2.1 _ _ w6 ((HRK0.out.below hB).more hB.size)).mono ?_;rintro e w7 ⟨rfl, hb7⟩;rw [q4];go_wp2_with fail;go_roundw
           case rel => exact ⟨bl_trans (bl_trans (bl_trans hb3 hb4) (bl_trans hb5 hb6)) hb7, n + 1, by omega, by go_num, take_next HU.out HL.out HCP.out⟩
           case measure => simp [intOf]; omega
         · have HF := aA (HNO.out fun hp => q3 hp.2.2.1).symm;go_wp2_with fail;rw [← HWV.out];clear z3 z4 z5 s0 s1 s2 s3 s4 s5 s6 g0 g1 g2 g3 g4 g5 g6 gf;obtain ⟨⟨g0, g1, g2⟩, ⟨g3, g4, g5, g6⟩, gf⟩ := cells7 HM;refine (impl_hasState _ _ _ _ m _ wv HMV.out (by omega)).mono ?_;rintro e w5 ⟨rfl, hb5⟩;rw [q1];have hzhb5 := hb5.size;clear g0 g1 g2 g3 g4 g5 g6 gf;replace HM := bk HM hb5;replace hB := bl_trans hB hb5;obtain ⟨⟨g0, g1, g2⟩, ⟨g3, g4, g5, g6⟩, gf⟩ := cells7 HM;replace HK := bk HK hb5;clear z0 z1 z2 zf;obtain ⟨z0, z1, z2, zf⟩ := cells3 HK;replace HMV := aA (HMV.out.up hb5);go_wp2_with fail;refine (impl_hasState _ _ _ _ m _ w5 HMV.out (by omega)).mono ?_;rintro e w6 ⟨rfl, hb6⟩;rw [q2];have hzhb6 := hb6.size;clear g0 g1 g2 g3 g4 g5 g6 gf;replace HM := bk HM hb6;replace hB := bl_trans hB hb6;obtain ⟨⟨g0, g1, g2⟩, ⟨g3, g4, g5, g6⟩, gf⟩ := cells7 HM;replace HK := bk HK hb6;clear z0 z1 z2 zf;obtain ⟨z0, z1, z2, zf⟩ := cells3 HK;replace HMV := aA (HMV.out.up hb6);go_wp2_with fail;go_ret;exact ⟨ret_bool HF.out, hB⟩
      · have HZ := aA (HALL.out HFB.out HS.out HE.out (take_all HU.out (by omega))).symm;go_wp2_with fail;refine (impl_allWithin _ m.out _ _ wr ((HO.out.below hB).more hB.size)).mono ?_;rintro e w5 ⟨rfl, hb5⟩;go_wp2_with fail;go_ret;exact ⟨ret_bool HZ.out, bl_trans hB hb5⟩
end Go.Proofs.YtjklbjmdgiddcaaGreat
