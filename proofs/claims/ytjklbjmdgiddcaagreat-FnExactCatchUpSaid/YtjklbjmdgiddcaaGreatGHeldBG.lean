/-
  Small lemmas and contracts that the texts of this claim share. No condition.
-/
import Derived.Test.YtjklbjmdgiddcaaGreatGHeldA
import Derived.Test.YtjklbjmdgiddcaaGreatGMaySpecG
namespace Go.Proofs.YtjklbjmdgiddcaaGreat
open Go.RowKit
set_option linter.all false
theorem FrK.of_below {K : Key → Prop} {val : Key → Value} {w w' : World} (h : Below w.heap.size w w') : FrK K val w w' := ⟨h.os, h.tape, h.output, h.size, fun b hb _ => h.block b hb⟩
theorem total_flat_le (s : Key → Nat) (L : Nat → List Key) (c : Nat) : ∀ n : Nat, (∀ j, j < n → total s (L j) ≤ c) → total s ((List.range n).flatMap L) ≤ n * c
  | 0, _ => by simp [total]
  | n + 1, h => by rw [flatMap_succ, total_append, Nat.succ_mul];have h1 := total_flat_le s L c n (fun j hj => h j (by omega));have h2 := h n (by omega);omega
theorem total_one (s : Key → Nat) (i : Key) : total s [i] = s i := by simp [total]
theorem total_small {x : Asy} (h : SmallA x) : total (szA x) (ordA x) ≤ 20000 := by
  have h1 := h.r;have h2 := h.b;have h3 := h.n;have h4 := h.s;have h5 := h.f;have a1 : total (szA x) (slO x) ≤ x.slots.length * 6 := total_flat_le _ _ 6 _ fun j hj => by rw [total_one];show (slotsAt x j).length ≤ 6;rw [slotsAt_eq (aC hj)];exact h.sl _ (List.getElem_mem hj)
  have a2 : total (szA x) (leO x) ≤ x.flight.length * (6 * 24) := total_flat_le _ _ _ _ fun k hk => by
    have hp := portsAt_eq (aC hk);have hm := List.getElem_mem hk;have b1 := h.fr _ hm;have b2 : total (szA x) ((List.range (portsAt x k).length).flatMap fun p => [Key.le k p]) ≤ (portsAt x k).length * 24 := total_flat_le _ _ 24 _ fun p hpl => by
      rw [total_one];show (lettersAt x k p).length * 2 ≤ 24;have hpl' : p < (x.flight[k]).length := by rw [hp] at hpl; exact hpl
      rw [lettersAt_eq (aC hk) (aC hpl')];have := h.le _ hm _ (List.getElem_mem hpl');omega
    rw [hp] at b2;rw [hp];omega
  unfold ordA;rw [total_append, total_append, total_append, total_append, total_one, total_one, total_one];show x.rounds.length + (x.before.length + (x.now.length + (total (szA x) (slO x) + total (szA x) (leO x)))) ≤ 20000;omega
section
variable {base : Nat} {val : Key → Value} {x : Asy}
set_option maxRecDepth 100000 in
set_option maxHeartbeats 400000 in
theorem mark_AsyK (k : Int) (w : World) (h : AsyK w base val x) (hbase : base ≤ w.heap.size) (h0 : 0 ≤ k) (h1 : k + (total (szA x) (ordA x) : Int) ≤ 1000000000000) :
  Calls Tryz.prog 22 #[.agg #[val .r, val .b, val .n, val .s, val .f], .int .i64 k] w fun e w' => e = .returned (.int .i64 (k + (total (szA x) (ordA x) : Int))) ∧ OwnK w' base (keyOf x) val (markAll (szA x) (ordA x) k (rowK x val)) ∧ FrK (keyOf x) val w w' := by
 have hno : ∀ i, keyOf x i → (val i).ownBlock ≠ some w.heap.size := fun i hi e => by have := ((h.own i hi).lt _ e).2; omega
 obtain ⟨D0, K0, ev0⟩ := own_sl1 (h.own .r trivial);have HV0 := aA ev0;generalize (rowK x val .r).len = N0 at HV0;clear ev0;obtain ⟨D1, K1, ev1⟩ := own_sl1 (h.own .b trivial);have HV1 := aA ev1;generalize (rowK x val .b).len = N1 at HV1;clear ev1;obtain ⟨D2, K2, ev2⟩ := own_sl1 (h.own .n trivial);have HV2 := aA ev2;generalize (rowK x val .n).len = N2 at HV2;clear ev2;obtain ⟨D3, K3, ev3⟩ := own_sl1 (h.own .s trivial);have HV3 := aA ev3;generalize (rowK x val .s).len = N3 at HV3;clear ev3;obtain ⟨D4, K4, ev4⟩ := own_sl1 (h.own .f trivial);have HV4 := aA ev4;generalize (rowK x val .f).len = N4 at HV4;clear ev4;rw [show Value.agg #[val .r, val .b, val .n, val .s, val .f] = .agg #[.slice D0 N0 K0, .slice D1 N1 K1, .slice D2 N2 K2, .slice D3 N3 K3, .slice D4 N4 K4] by rw [HV0.out, HV1.out, HV2.out, HV3.out, HV4.out]];obtain ⟨w0, hw0, hb0, HB, hz0, HS0⟩ := box5 w (.slice D0 N0 K0) (.slice D1 N1 K1) (.slice D2 N2 K2) (.slice D3 N3 K3) (.slice D4 N4 K4) 40;have HW0 := aA hw0;obtain ⟨⟨y0, y1, y2⟩, ⟨y3, y4⟩, yf⟩ := cells5 HB;have ey0 := y0;have ey1 := y1;have ey2 := y2;have ey3 := y3;have ey4 := y4;rw [hw0] at ey0 ey1 ey2 ey3 ey4;clear hw0;obtain ⟨t0, ht0⟩ : ∃ z, z = total (szA x) [.r] := ⟨_, rfl⟩
 obtain ⟨t1, ht1⟩ : ∃ z, z = total (szA x) [.b] := ⟨_, rfl⟩
 obtain ⟨t2, ht2⟩ : ∃ z, z = total (szA x) [.n] := ⟨_, rfl⟩
 obtain ⟨t3, ht3⟩ : ∃ z, z = total (szA x) (slO x) := ⟨_, rfl⟩
 obtain ⟨t4, ht4⟩ : ∃ z, z = total (szA x) (leO x) := ⟨_, rfl⟩
 have hT : total (szA x) (ordA x) = t0 + (t1 + (t2 + (t3 + t4))) := by unfold ordA;rw [total_append, total_append, total_append, total_append, ht0, ht1, ht2, ht3, ht4]
 rw [hT] at h1 ⊢;have HT0 := aA ht0;have HT1 := aA ht1;have HT2 := aA ht2;have HT3 := aA ht3;have HT4 := aA ht4;have HK0 := aA (show OwnK w0 base (keyOf x) val (rowK x val) from AsyK.up h hb0);have HL0 := aA (Like.refl (rowK x val));have hBB : Below base w w0 := hb0.mono hbase;have HFF := aA (show FrK (keyOf x) val w w0 from FrK.of_below hb0);clear h hT ht0 ht1 ht2 ht3 ht4;go_enter Tryz.func22, Tryz.ntmps22;go_wp2_with fail;rw [← HW0.out];clear ey0 ey1 ey2 ey3 ey4;have hle0 : k + (total (szA x) [.r] : Int) ≤ 1000000000000 := by rw [← HT0.out]; omega
 have J0 := mark_r1 (base := base) (val := val) (x := x) (rowK x val) (k) w0 HK0.out HL0.out (by omega) hle0;rw [← HT0.out, HV0.out] at J0;have HJ0 := aA J0;clear J0 hle0;refine HJ0.out.mono ?_;rintro e w1 ⟨rfl, hk, hf⟩;have HK1 := aA hk;have HL1 := aA (markAll_like (szA x) [.r] (k) (rowK x val) HL0.out (fun i hi => by rw [List.mem_singleton.1 hi]; exact fun h => h));replace hBB : Below base w w1 := hBB.trans (hf.below HK0.out (by have := hBB.size; omega));replace HFF := aA (HFF.out.trans hf);replace HB := aA ((hf.block w.heap.size (by have := hBB.size; omega) hno).trans HB.out);replace hz0 : w.heap.size < w1.heap.size := aF hz0 hf.size;clear hk hf y0 y1 y2 y3 y4 yf;obtain ⟨⟨y0, y1, y2⟩, ⟨y3, y4⟩, yf⟩ := cells5 HB;go_wp2_with fail;have hle1 : k + (t0 : Int) + (total (szA x) [.b] : Int) ≤ 1000000000000 := by rw [← HT1.out]; omega
 have J1 := mark_b1 (base := base) (val := val) (x := x) (markAll (szA x) [.r] (k) (rowK x val)) (k + (t0 : Int)) w1 HK1.out HL1.out (by omega) hle1;rw [← HT1.out, HV1.out] at J1;have HJ1 := aA J1;clear J1 hle1;refine HJ1.out.mono ?_;rintro e w2 ⟨rfl, hk, hf⟩;have HK2 := aA hk;have HL2 := aA (markAll_like (szA x) [.b] (k + (t0 : Int)) (markAll (szA x) [.r] (k) (rowK x val)) HL1.out (fun i hi => by rw [List.mem_singleton.1 hi]; exact fun h => h));replace hBB : Below base w w2 := hBB.trans (hf.below HK1.out (by have := hBB.size; omega));replace HFF := aA (HFF.out.trans hf);replace HB := aA ((hf.block w.heap.size (by have := hBB.size; omega) hno).trans HB.out);replace hz0 : w.heap.size < w2.heap.size := aF hz0 hf.size;clear hk hf y0 y1 y2 y3 y4 yf;obtain ⟨⟨y0, y1, y2⟩, ⟨y3, y4⟩, yf⟩ := cells5 HB;go_wp2_with fail;have hle2 : k + (t0 : Int) + (t1 : Int) + (total (szA x) [.n] : Int) ≤ 1000000000000 := by rw [← HT2.out]; omega
 have J2 := mark_n1 (base := base) (val := val) (x := x) (markAll (szA x) [.b] (k + (t0 : Int)) (markAll (szA x) [.r] (k) (rowK x val))) (k + (t0 : Int) + (t1 : Int)) w2 HK2.out HL2.out (by omega) hle2;rw [← HT2.out, HV2.out] at J2;have HJ2 := aA J2;clear J2 hle2;refine HJ2.out.mono ?_;rintro e w3 ⟨rfl, hk, hf⟩;have HK3 := aA hk;have HL3 := aA (markAll_like (szA x) [.n] (k + (t0 : Int) + (t1 : Int)) (markAll (szA x) [.b] (k + (t0 : Int)) (markAll (szA x) [.r] (k) (rowK x val))) HL2.out (fun i hi => by rw [List.mem_singleton.1 hi]; exact fun h => h));replace hBB : Below base w w3 := hBB.trans (hf.below HK2.out (by have := hBB.size; omega));replace HFF := aA (HFF.out.trans hf);replace HB := aA ((hf.block w.heap.size (by have := hBB.size; omega) hno).trans HB.out);replace hz0 : w.heap.size < w3.heap.size := aF hz0 hf.size;clear hk hf y0 y1 y2 y3 y4 yf;obtain ⟨⟨y0, y1, y2⟩, ⟨y3, y4⟩, yf⟩ := cells5 HB;go_wp2_with fail;have hle3 : k + (t0 : Int) + (t1 : Int) + (t2 : Int) + (total (szA x) (slO x) : Int) ≤ 1000000000000 := by rw [← HT3.out]; omega
 have J3 := mark_sl (base := base) (val := val) (x := x) (markAll (szA x) [.n] (k + (t0 : Int) + (t1 : Int)) (markAll (szA x) [.b] (k + (t0 : Int)) (markAll (szA x) [.r] (k) (rowK x val)))) (k + (t0 : Int) + (t1 : Int) + (t2 : Int)) w3 HK3.out HL3.out (by omega) hle3;rw [← HT3.out, HV3.out] at J3;have HJ3 := aA J3;clear J3 hle3;refine HJ3.out.mono ?_;rintro e w4 ⟨rfl, hk, hf⟩;have HK4 := aA hk;have HL4 := aA (markAll_like (szA x) (slO x) (k + (t0 : Int) + (t1 : Int) + (t2 : Int)) (markAll (szA x) [.n] (k + (t0 : Int) + (t1 : Int)) (markAll (szA x) [.b] (k + (t0 : Int)) (markAll (szA x) [.r] (k) (rowK x val)))) HL3.out (noTop_sl x));replace hBB : Below base w w4 := hBB.trans (hf.below HK3.out (by have := hBB.size; omega));replace HFF := aA (HFF.out.trans hf);replace HB := aA ((hf.block w.heap.size (by have := hBB.size; omega) hno).trans HB.out);replace hz0 : w.heap.size < w4.heap.size := aF hz0 hf.size;clear hk hf y0 y1 y2 y3 y4 yf;obtain ⟨⟨y0, y1, y2⟩, ⟨y3, y4⟩, yf⟩ := cells5 HB;go_wp2_with fail;have hle4 : k + (t0 : Int) + (t1 : Int) + (t2 : Int) + (t3 : Int) + (total (szA x) (leO x) : Int) ≤ 1000000000000 := by rw [← HT4.out]; omega
 have J4 := mark_f (base := base) (val := val) (x := x) (markAll (szA x) (slO x) (k + (t0 : Int) + (t1 : Int) + (t2 : Int)) (markAll (szA x) [.n] (k + (t0 : Int) + (t1 : Int)) (markAll (szA x) [.b] (k + (t0 : Int)) (markAll (szA x) [.r] (k) (rowK x val))))) (k + (t0 : Int) + (t1 : Int) + (t2 : Int) + (t3 : Int)) w4 HK4.out HL4.out (by omega) hle4;rw [← HT4.out, HV4.out] at J4;have HJ4 := aA J4;clear J4 hle4;refine HJ4.out.mono ?_;rintro e w5 ⟨rfl, hk, hf⟩;have HK5 := aA hk;have HL5 := aA (markAll_like (szA x) (leO x) (k + (t0 : Int) + (t1 : Int) + (t2 : Int) + (t3 : Int)) (markAll (szA x) (slO x) (k + (t0 : Int) + (t1 : Int) + (t2 : Int)) (markAll (szA x) [.n] (k + (t0 : Int) + (t1 : Int)) (markAll (szA x) [.b] (k + (t0 : Int)) (markAll (szA x) [.r] (k) (rowK x val))))) HL4.out (noTop_le x));replace hBB : Below base w w5 := hBB.trans (hf.below HK4.out (by have := hBB.size; omega));replace HFF := aA (HFF.out.trans hf);replace HB := aA ((hf.block w.heap.size (by have := hBB.size; omega) hno).trans HB.out);replace hz0 : w.heap.size < w5.heap.size := aF hz0 hf.size;clear hk hf y0 y1 y2 y3 y4 yf;obtain ⟨⟨y0, y1, y2⟩, ⟨y3, y4⟩, yf⟩ := cells5 HB;go_wp2_with fail;go_ret;refine ⟨by show Ending.returned (Value.int .i64 (k + (t0 : Int) + (t1 : Int) + (t2 : Int) + (t3 : Int) + (t4 : Int))) = _; rw [show k + (t0 : Int) + (t1 : Int) + (t2 : Int) + (t3 : Int) + (t4 : Int) = k + ((t0 + (t1 + (t2 + (t3 + t4))) : Nat) : Int) by omega], ?_, HFF.out⟩;have hfin := HK5.out;unfold ordA;rw [markAll_append, markAll_append, markAll_append, markAll_append, ← HT0.out, ← HT1.out, ← HT2.out, ← HT3.out];exact hfin
set_option maxRecDepth 100000 in
set_option maxHeartbeats 400000 in
theorem held_AsyK (R : Key → RowD) (k : Int) (w : World) (h : OwnK w base (keyOf x) val R) (hl : Like R (rowK x val)) (hh : HeldAll (szA x) (ordA x) k R) (h0 : 0 ≤ k) (h1 : k + (total (szA x) (ordA x) : Int) ≤ 1000000000000) :
  Calls Tryz.prog 25 #[.agg #[val .r, val .b, val .n, val .s, val .f], .int .i64 k] w fun e w' => e = .returned (.int .i64 (k + (total (szA x) (ordA x) : Int))) ∧ Below w.heap.size w w' := by
 have hno : ∀ i, keyOf x i → (val i).ownBlock ≠ some w.heap.size := fun i hi e => by have := ((h.own i hi).lt _ e).2; omega
 obtain ⟨D0, K0, ev0⟩ := own_sl1 (h.own .r trivial);have HV0 := aA ev0;generalize (R .r).len = N0 at HV0;clear ev0;obtain ⟨D1, K1, ev1⟩ := own_sl1 (h.own .b trivial);have HV1 := aA ev1;generalize (R .b).len = N1 at HV1;clear ev1;obtain ⟨D2, K2, ev2⟩ := own_sl1 (h.own .n trivial);have HV2 := aA ev2;generalize (R .n).len = N2 at HV2;clear ev2;obtain ⟨D3, K3, ev3⟩ := own_sl1 (h.own .s trivial);have HV3 := aA ev3;generalize (R .s).len = N3 at HV3;clear ev3;obtain ⟨D4, K4, ev4⟩ := own_sl1 (h.own .f trivial);have HV4 := aA ev4;generalize (R .f).len = N4 at HV4;clear ev4;rw [show Value.agg #[val .r, val .b, val .n, val .s, val .f] = .agg #[.slice D0 N0 K0, .slice D1 N1 K1, .slice D2 N2 K2, .slice D3 N3 K3, .slice D4 N4 K4] by rw [HV0.out, HV1.out, HV2.out, HV3.out, HV4.out]];obtain ⟨w0, hw0, hb0, HB, hz0, HS0⟩ := box5 w (.slice D0 N0 K0) (.slice D1 N1 K1) (.slice D2 N2 K2) (.slice D3 N3 K3) (.slice D4 N4 K4) 40;have HW0 := aA hw0;obtain ⟨⟨y0, y1, y2⟩, ⟨y3, y4⟩, yf⟩ := cells5 HB;have ey0 := y0;have ey1 := y1;have ey2 := y2;have ey3 := y3;have ey4 := y4;rw [hw0] at ey0 ey1 ey2 ey3 ey4;clear hw0;obtain ⟨t0, ht0⟩ : ∃ z, z = total (szA x) [.r] := ⟨_, rfl⟩
 obtain ⟨t1, ht1⟩ : ∃ z, z = total (szA x) [.b] := ⟨_, rfl⟩
 obtain ⟨t2, ht2⟩ : ∃ z, z = total (szA x) [.n] := ⟨_, rfl⟩
 obtain ⟨t3, ht3⟩ : ∃ z, z = total (szA x) (slO x) := ⟨_, rfl⟩
 obtain ⟨t4, ht4⟩ : ∃ z, z = total (szA x) (leO x) := ⟨_, rfl⟩
 have hT : total (szA x) (ordA x) = t0 + (t1 + (t2 + (t3 + t4))) := by unfold ordA;rw [total_append, total_append, total_append, total_append, ht0, ht1, ht2, ht3, ht4]
 rw [hT] at h1 ⊢;have HT0 := aA ht0;have HT1 := aA ht1;have HT2 := aA ht2;have HT3 := aA ht3;have HT4 := aA ht4;obtain ⟨g0, hh⟩ := HeldAll.split (szA x) _ R [.r] k hh;rw [← ht0] at hh;obtain ⟨g1, hh⟩ := HeldAll.split (szA x) _ R [.b] _ hh;rw [← ht1] at hh;obtain ⟨g2, hh⟩ := HeldAll.split (szA x) _ R [.n] _ hh;rw [← ht2] at hh;obtain ⟨g3, g4⟩ := HeldAll.split (szA x) _ R (slO x) _ hh;rw [← ht3] at g4;have HG0 := aA g0;have HG1 := aA g1;have HG2 := aA g2;have HG3 := aA g3;have HG4 := aA g4;have HL := aA hl;have HK0 := aA (OwnK.keep h (grown_below hb0));have hBB : Below w.heap.size w w0 := hb0;have hp1 : 0 ≤ k + (t0 : Int) := by omega
 have hp2 : 0 ≤ k + (t0 : Int) + (t1 : Int) := by omega
 have hp3 : 0 ≤ k + (t0 : Int) + (t1 : Int) + (t2 : Int) := by omega
 have hp4 : 0 ≤ k + (t0 : Int) + (t1 : Int) + (t2 : Int) + (t3 : Int) := by omega
 have hp5 : 0 ≤ k + (t0 : Int) + (t1 : Int) + (t2 : Int) + (t3 : Int) + (t4 : Int) := by omega
 clear h hT hl hh g0 g1 g2 g3 g4 ht0 ht1 ht2 ht3 ht4;go_enter Tryz.func25, Tryz.ntmps25;go_wp2_with fail;rw [← HW0.out];clear ey0 ey1 ey2 ey3 ey4;have hle0 : k + (total (szA x) [.r] : Int) ≤ 1000000000000 := by rw [← HT0.out]; omega
 have J0 := held_r1 (base := base) (val := val) (x := x) R (k) w0 HK0.out HL.out HG0.out (by omega) hle0;rw [← HT0.out, HV0.out] at J0;have HJ0 := aA J0;clear J0 hle0;refine HJ0.out.mono ?_;rintro e w1 ⟨rfl, hb⟩;have HK1 := aA (HK0.out.keep (grown_below hb));replace HB := bk HB hb;replace hBB : Below w.heap.size w w1 := bl_trans hBB hb;replace hz0 : w.heap.size < w1.heap.size := aF hz0 hb.size;clear hb y0 y1 y2 y3 y4 yf;obtain ⟨⟨y0, y1, y2⟩, ⟨y3, y4⟩, yf⟩ := cells5 HB;go_wp2_with fail;have hle1 : k + (t0 : Int) + (total (szA x) [.b] : Int) ≤ 1000000000000 := by rw [← HT1.out]; omega
 have J1 := held_b1 (base := base) (val := val) (x := x) R (k + (t0 : Int)) w1 HK1.out HL.out HG1.out (by omega) hle1;rw [← HT1.out, HV1.out] at J1;have HJ1 := aA J1;clear J1 hle1;refine HJ1.out.mono ?_;rintro e w2 ⟨rfl, hb⟩;have HK2 := aA (HK1.out.keep (grown_below hb));replace HB := bk HB hb;replace hBB : Below w.heap.size w w2 := bl_trans hBB hb;replace hz0 : w.heap.size < w2.heap.size := aF hz0 hb.size;clear hb y0 y1 y2 y3 y4 yf;obtain ⟨⟨y0, y1, y2⟩, ⟨y3, y4⟩, yf⟩ := cells5 HB;go_wp2_with fail;have hle2 : k + (t0 : Int) + (t1 : Int) + (total (szA x) [.n] : Int) ≤ 1000000000000 := by rw [← HT2.out]; omega
 have J2 := held_n1 (base := base) (val := val) (x := x) R (k + (t0 : Int) + (t1 : Int)) w2 HK2.out HL.out HG2.out (by omega) hle2;rw [← HT2.out, HV2.out] at J2;have HJ2 := aA J2;clear J2 hle2;refine HJ2.out.mono ?_;rintro e w3 ⟨rfl, hb⟩;have HK3 := aA (HK2.out.keep (grown_below hb));replace HB := bk HB hb;replace hBB : Below w.heap.size w w3 := bl_trans hBB hb;replace hz0 : w.heap.size < w3.heap.size := aF hz0 hb.size;clear hb y0 y1 y2 y3 y4 yf;obtain ⟨⟨y0, y1, y2⟩, ⟨y3, y4⟩, yf⟩ := cells5 HB;go_wp2_with fail;have hle3 : k + (t0 : Int) + (t1 : Int) + (t2 : Int) + (total (szA x) (slO x) : Int) ≤ 1000000000000 := by rw [← HT3.out]; omega
 have J3 := held_sl (base := base) (val := val) (x := x) R (k + (t0 : Int) + (t1 : Int) + (t2 : Int)) w3 HK3.out HL.out HG3.out (by omega) hle3;rw [← HT3.out, HV3.out] at J3;have HJ3 := aA J3;clear J3 hle3;refine HJ3.out.mono ?_;rintro e w4 ⟨rfl, hb⟩;have HK4 := aA (HK3.out.keep (grown_below hb));replace HB := bk HB hb;replace hBB : Below w.heap.size w w4 := bl_trans hBB hb;replace hz0 : w.heap.size < w4.heap.size := aF hz0 hb.size;clear hb y0 y1 y2 y3 y4 yf;obtain ⟨⟨y0, y1, y2⟩, ⟨y3, y4⟩, yf⟩ := cells5 HB;go_wp2_with fail;have hle4 : k + (t0 : Int) + (t1 : Int) + (t2 : Int) + (t3 : Int) + (total (szA x) (leO x) : Int) ≤ 1000000000000 := by rw [← HT4.out]; omega
 have J4 := held_f (base := base) (val := val) (x := x) R (k + (t0 : Int) + (t1 : Int) + (t2 : Int) + (t3 : Int)) w4 HK4.out HL.out HG4.out (by omega) hle4;rw [← HT4.out, HV4.out] at J4;have HJ4 := aA J4;clear J4 hle4;refine HJ4.out.mono ?_;rintro e w5 ⟨rfl, hb⟩;have HK5 := aA (HK4.out.keep (grown_below hb));replace HB := bk HB hb;replace hBB : Below w.heap.size w w5 := bl_trans hBB hb;replace hz0 : w.heap.size < w5.heap.size := aF hz0 hb.size;clear hb y0 y1 y2 y3 y4 yf;obtain ⟨⟨y0, y1, y2⟩, ⟨y3, y4⟩, yf⟩ := cells5 HB;go_wp2_with fail;go_ret;exact ⟨by show Ending.returned (Value.int .i64 (k + (t0 : Int) + (t1 : Int) + (t2 : Int) + (t3 : Int) + (t4 : Int))) = _; rw [show k + (t0 : Int) + (t1 : Int) + (t2 : Int) + (t3 : Int) + (t4 : Int) = k + ((t0 + (t1 + (t2 + (t3 + t4))) : Nat) : Int) by omega], hBB⟩
end
end Go.Proofs.YtjklbjmdgiddcaaGreat
namespace Go.Proofs.YtjklbjmdgiddcaaGreat
open Go.RowKit
set_option linter.all false
def emA : Asy := ⟨[], [], [], [], []⟩
theorem emA_key {j : Key} (h : keyOf emA j) : j = .r ∨ j = .b ∨ j = .n ∨ j = .s ∨ j = .f := by
  cases j with
  | sl k => exact absurd (show k < 0 from h) (by omega)
  | fr k => exact absurd (show k < 0 from h) (by omega)
  | le k p => exact absurd (show k < 0 from h.1) (by omega)
  | _ => simp
theorem nilAsyK (w : World) (base : Nat) : AsyK w base (fun _ => nilV) emA := by refine ⟨fun i hi => ?_, fun i j hi hj hne => .inl rfl⟩;rcases emA_key hi with rfl | rfl | rfl | rfl | rfl <;> exact World.ownsRow_nil _ _ _ _
section
variable {w w' : World} {base P : Nat} {val : Key → Value} {y : Asy}
theorem AsyB.off (h : AsyB w base val y P) (hP : base ≤ P) (hs : w.heap.size ≤ w'.heap.size) (hk : ∀ b : Nat, base ≤ b → b < w.heap.size → w'.heap[b]? = w.heap[b]?) : AsyB w' base val y P :=
  ⟨⟨fun i hi => own_keep4 (h.k.own i hi) hs hk, h.k.sep⟩, h.ne, (hk P hP h.lt).trans h.box⟩
theorem AsyB.below (h : AsyB w base val y P) (hb : Below w.heap.size w w') : AsyB w' base val y P := h.up hb
end
def BoxR (w : World) (base P : Nat) (v0 v1 v2 v3 v4 : Value) (y : Asy) : Prop := ∃ val : Key → Value, v0 = val .r ∧ v1 = val .b ∧ v2 = val .n ∧ v3 = val .s ∧ v4 = val .f ∧ AsyB w base val y P
theorem BoxR.of {w : World} {base b0 P : Nat} {v0 v1 v2 v3 v4 : Value} {val : Key → Value} {y : Asy} (h0 : v0 = val .r) (h1 : v1 = val .b) (h2 : v2 = val .n) (h3 : v3 = val .s) (h4 : v4 = val .f) (hk : AsyK w b0 val y) (hb : base ≤ b0) (hne : ∀ j, keyOf y j → (val j).ownBlock ≠ some P)
    (hbx : w.heap[P]? = some (.cells #[v0, v1, v2, v3, v4] 40 (0, 0))) : BoxR w base P v0 v1 v2 v3 v4 y := ⟨val, h0, h1, h2, h3, h4, OwnK.mono hk hb, hne, by rw [hbx, h0, h1, h2, h3, h4]⟩
theorem noTop_ord (x : Asy) : ∀ i ∈ ordA x, ¬ isTop i := fun i hi => by
  unfold ordA at hi;simp only [List.mem_append, List.mem_singleton] at hi;rcases hi with h | h | h | h | h
  · rw [h]; exact fun h => h
  · rw [h]; exact fun h => h
  · rw [h]; exact fun h => h
  · exact noTop_sl x i h
  · exact noTop_le x i h
end Go.Proofs.YtjklbjmdgiddcaaGreat
namespace Go.Proofs.YtjklbjmdgiddcaaGreat
open Go.RowKit
set_option linter.all false
section
variable {m : Mach} {n : Net} {x : Asy} {ys : List Acts}
end
theorem box_atP (W : World) (a b c d e : Value) (t : TypeId) : ∃ P w0, W.heap.size = P ∧ w0 = W.alloc (.cells #[a, b, c, d, e] t) ∧ Below W.heap.size W w0 ∧ Hid (w0.heap[P]? = some (.cells #[a, b, c, d, e] t (0, 0))) ∧ P < w0.heap.size := by obtain ⟨w0, h1, h2, h3, h4, -⟩ := box5 W a b c d e t;exact ⟨_, w0, rfl, h1, h2, h3, h4⟩
end Go.Proofs.YtjklbjmdgiddcaaGreat
