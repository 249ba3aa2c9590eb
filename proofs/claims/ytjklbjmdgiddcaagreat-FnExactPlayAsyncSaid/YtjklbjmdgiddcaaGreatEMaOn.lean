/-
  Machines on networks, the reference's side: maOn, maAsked.
-/
import Derived.Test.YtjklbjmdgiddcaaGreatEMaSG
namespace Go.Proofs.YtjklbjmdgiddcaaGreat
open Go.RowKit
set_option linter.all false
theorem box5 (w : World) (a b c d e : Value) (t : TypeId) : ∃ w0, w0 = w.alloc (.cells #[a, b, c, d, e] t) ∧ Below w.heap.size w w0 ∧ Hid (w0.heap[w.heap.size]? = some (.cells #[a, b, c, d, e] t (0, 0))) ∧ w.heap.size < w0.heap.size ∧ Hid (w0.heap.size = w.heap.size + 1) :=
  ⟨_, rfl, bl_alloc (Below.refl _ _) _, Lib.hid (heap_alloc_new w _), by simp, Lib.hid (by simp)⟩
theorem cells5 {w : World} {b : Nat} {v0 v1 v2 v3 v4 : Value} {t : TypeId} (H : Hid (w.heap[b]? = some (.cells #[v0, v1, v2, v3, v4] t (0, 0)))) :
    (w.cell? ⟨b, 0, none⟩ = some v0 ∧ w.cell? ⟨b, 1, none⟩ = some v1 ∧ w.cell? ⟨b, 2, none⟩ = some v2) ∧ (w.cell? ⟨b, 3, none⟩ = some v3 ∧ w.cell? ⟨b, 4, none⟩ = some v4) ∧ ∀ i, w.frozen? ⟨b, i, none⟩ = false :=
  ⟨⟨cell_of_row _ _ 0 _ _ (0, 0) H.out, cell_of_row _ _ 1 _ _ (0, 0) H.out, cell_of_row _ _ 2 _ _ (0, 0) H.out⟩, ⟨cell_of_row _ _ 3 _ _ (0, 0) H.out, cell_of_row _ _ 4 _ _ (0, 0) H.out⟩, fun i => frozen_of_row _ _ i _ _ H.out⟩
noncomputable def onB (m : Mach) (n : Net) : Bool := propB (onP m n)
theorem on_deg {m : Mach} {n : Net} : allB (degs n) 0 m.deg = true ↔ ∀ l ∈ n.es, (l.length : Int) ≤ m.deg := by
  rw [allB_iff];unfold degs;constructor
  · intro h l hl
    exact (h _ (List.mem_map.2 ⟨l, hl, rfl⟩)).2
  · intro h x hx
    obtain ⟨l, hl, rfl⟩ := List.mem_map.1 hx;exact ⟨by omega, h l hl⟩
theorem on_f1 {m : Mach} {n : Net} (h : allB (degs n) 0 m.deg = false) : onB m n = false := propB_f fun hp => by rw [on_deg.2 hp.1] at h;cases h
theorem on_eq {m : Mach} {n : Net} (hq : netP n) (h : allB (degs n) 0 m.deg = true) : onB m n = allB n.ins 0 (first m - 1) := by
  cases g : allB n.ins 0 (first m - 1) with
  | true => exact propB_t ⟨on_deg.1 h, fun x hx => by have := (allB_iff.1 g x hx).2; omega⟩
  | false =>
    exact propB_f fun hp => by rw [allB_iff.2 fun x hx => ⟨(hq.2.2.2.1 x hx).1, by have := hp.2 x hx; omega⟩] at g;cases g
theorem fit_f1 {m : Mach} {n : Net} (h : maB m = false) : fitB m n = false := propB_f fun hp => by rw [show maB m = true from propB_t hp.1] at h;cases h
theorem fit_f2 {m : Mach} {n : Net} (h : netB n = false) : fitB m n = false := propB_f fun hp => by rw [show netB n = true from propB_t hp.2.1] at h;cases h
theorem fit_eq {m : Mach} {n : Net} (h : maP m) (h' : netP n) : fitB m n = onB m n := propB_congr ⟨fun x => x.2.2, fun x => ⟨h, h', x⟩⟩
set_option maxRecDepth 100000 in
set_option maxHeartbeats 2000000 in
theorem spec_maOn (vs ve vc vo : Value) (m : Mach) (ne ni nn : Value) (n : Net) (w : World) (hm : MachR w w.heap.size vs ve vc vo m) (hn : NetR w w.heap.size ne ni nn n) (hp : maP m) (hq : netP n) :
  Calls Tryz.prog 98 #[machV vs ve vc vo m, .agg #[ne, ni, nn]] w fun e w' => e = .returned (.bool (onB m n)) ∧ Below w.heap.size w w' := by
 unfold machV;have b1 := hp.1.1;have b5 := hp.2.2.1;have k4 := hp.2.1.1;have HQ := Lib.hid hq;have hp0 : 0 < m.start.length := by omega
 have n0 : (0 : Int) < m.start.length := by omega
 clear k4 hp hq;obtain ⟨A0, c0, rfl, hc0, hm0, hr0⟩ := hm.s.open_;obtain ⟨A1, m1, c1, rfl⟩ := hm.e.isSlice1;obtain ⟨A2, m2, c2, rfl⟩ := hm.c.isSlice;obtain ⟨A3, m3, c3, rfl⟩ := hm.o.isSlice;obtain ⟨⟨A4, m4, c4, rfl⟩, ⟨A5, m5, c5, rfl⟩, A6, m6, c6, rfl⟩ := hn.slices;unfold maxLen at hm0;obtain ⟨l0, hl0⟩ : ∃ l, m.start[0]? = some l := ⟨_, List.getElem?_eq_getElem hp0⟩
 obtain ⟨ad, rfl, hab, hrow⟩ := hr0 hp0;obtain ⟨u, hcu, hru⟩ := hrow 0 l0 hl0;have ea : ad.add 0 = ad := by unfold Addr.add; simp
 rw [ea] at hcu;obtain ⟨A7, c7, rfl, hc7, hm7, -⟩ := hru.open_;unfold maxLen at hm7;have HFI := Lib.hid (show first m = l0.length by unfold first; rw [List.getD_eq_getElem?_getD, hl0]; rfl);clear hrow hru hr0;obtain ⟨w0, hw0, hb0, HM, hz0, HS0⟩ := box7 w (.int .i64 m.deg) (.int .i64 m.st) (.int .i64 m.msg) (.slice (some ad) m.start.length c0) (.slice A1 m1 c1) (.slice A2 m2 c2) (.slice A3 m3 c3) 46;obtain ⟨w1, hw1, hb1, HD, hz1, HS1⟩ := box3 w0 (.slice A4 m4 c4) (.slice A5 m5 c5) (.slice A6 m6 c6) 50;replace HM := bk HM hb1;have hB : Below w.heap.size w w1 := bl_trans (hb0) hb1;have HW := Lib.hid (show w1 = (w.alloc (.cells #[.int .i64 m.deg, .int .i64 m.st, .int .i64 m.msg, .slice (some ad) m.start.length c0, .slice A1 m1 c1, .slice A2 m2 c2, .slice A3 m3 c3] 46)).alloc (.cells #[.slice A4 m4 c4, .slice A5 m5 c5, .slice A6 m6 c6] 50) by rw [hw1, hw0]);obtain ⟨P1, hP1⟩ : ∃ z, z = w0.heap.size := ⟨_, rfl⟩
 have HP1 := Lib.hid (show w.heap.size + 1 = P1 by rw [hP1, HS0.out]);have hPl1 : w.heap.size < P1 := by rw [← HP1.out]; omega
 rw [← hP1] at HD hz1;obtain ⟨⟨g0, g1, g2⟩, ⟨g3, g4, g5, g6⟩, gf⟩ := cells7 HM;obtain ⟨q0, q1, q2, qf⟩ := cells3 HD;have eg0 := g0;have eg1 := g1;have eg2 := g2;have eg3 := g3;have eg4 := g4;have eg5 := g5;have eg6 := g6;have eq0 := q0;have eq1 := q1;have eq2 := q2;rw [HW.out] at eg0 eg1 eg2 eg3 eg4 eg5 eg6 eq0 eq1 eq2;rw [← HP1.out] at eq0 eq1 eq2;have HR := Lib.hid (hm.up hB);have HN := Lib.hid (hn.up hB);clear hw1 hw0 hP1;have hcr := (hB.cell (p := ad) hab).trans hcu;have h10 : (l0.length : Int) ≤ 10 ∧ 1 ≤ (l0.length : Int) := by rw [← HFI.out]; omega
 cases g : allB (degs n) 0 m.deg with
 | false =>
  have HF := Lib.hid (on_f1 g).symm;go_enter Tryz.func98, Tryz.ntmps98;go_wp2_with fail;rw [HP1.out, ← HW.out];clear eg0 eg1 eg2 eg3 eg4 eg5 eg6 eq0 eq1 eq2;refine wp_region_held_drew (S := fun w' => w'.cell? ⟨w.heap.size, 0, none⟩ = some (.int .i64 m.deg) ∧ w'.cell? ⟨w.heap.size, 3, none⟩ = some (.slice (some ad) m.start.length c0) ∧ w'.cell? ad = some (.slice A7 l0.length c7) ∧ w'.cell? ⟨P1, 0, none⟩ = some (.slice A4 m4 c4) ∧ w'.cell? ⟨P1, 1, none⟩ = some (.slice A5 m5 c5) ∧ w'.cell? ⟨P1, 2, none⟩ = some (.slice A6 m6 c6)) (by kernel_rfl) ?_ (fun hHeld => ?_)
  · go_keep
  refine stk 0 5 ?_;refine stk 2 7 ?_;refine stk 3 8 ?_;refine tr 1 rfl (by kernel_rfl) (fun K hK => ?_);go_simp;go_at_call 121;refine (spec_neDegrees _ _ _ n w1.drew (HN.out.up (Below.refl _ _).drew) HQ.out).mono ?_;rintro e w5 ⟨u, rfl, ⟨Au, mu, cu, rfl⟩, hu, hb5'⟩;have hb5 : Below w1.heap.size w1 w5 := (Below.refl _ _).drew.trans hb5';clear hb5';have HU := Lib.hid hu;clear hu;have hzhb5 := hb5.size;clear g0 g1 g2 g3 g4 g5 g6 gf;replace HM := bk HM hb5;replace HR := Lib.hid (HR.out.up hb5);obtain ⟨⟨g0, g1, g2⟩, ⟨g3, g4, g5, g6⟩, gf⟩ := cells7 HM;have hzhb5 := hb5.size;clear q0 q1 q2 qf;replace HD := bk HD hb5;replace HN := Lib.hid (HN.out.up hb5);replace hB := bl_trans hB hb5;obtain ⟨q0, q1, q2, qf⟩ := cells3 HD;replace hcr := (hB.cell (p := ad) hab).trans hcu;refine hK.out _ _ ?_ (fun hHeld => ?_)
  · go_keep
  clear hK K
  try simp only [Act.put, pu]
  refine tr 4 rfl (by kernel_rfl) (fun K hK => ?_);go_simp;go_at_call 72;refine (spec_l1All _ (degs n) _ _ w5 HU.out).mono ?_;rintro e w' ⟨rfl, rfl⟩;rw [g];refine hK.out _ _ ?_ (fun hHeld => ?_)
  · go_keep
  clear hK K
  try simp only [Act.put, pu]
  refine stk 5 10 ?_;refine stn 6 11 ?_;refine stn 7 12 ?_;refine stn 8 13 ?_;refine stn 9 14 ?_;refine stn 10 15 ?_;refine stn 11 16 ?_;refine stn 12 17 ?_;refine stn 13 18 ?_;refine stn 14 19 ?_;refine stk 15 20 ?_;refine stk 16 4 ?_;refine wpAnyH_done (by kernel_rfl) ?_ _;go_wp2_with fail;go_ret;exact ⟨ret_bool HF.out, hB⟩
 | true =>
  have HF := Lib.hid (on_eq HQ.out g).symm;go_enter Tryz.func98, Tryz.ntmps98;go_wp2_with fail;rw [HP1.out, ← HW.out];clear eg0 eg1 eg2 eg3 eg4 eg5 eg6 eq0 eq1 eq2;refine wp_region_held_drew (S := fun w' => w'.cell? ⟨w.heap.size, 0, none⟩ = some (.int .i64 m.deg) ∧ w'.cell? ⟨w.heap.size, 3, none⟩ = some (.slice (some ad) m.start.length c0) ∧ w'.cell? ad = some (.slice A7 l0.length c7) ∧ w'.cell? ⟨P1, 0, none⟩ = some (.slice A4 m4 c4) ∧ w'.cell? ⟨P1, 1, none⟩ = some (.slice A5 m5 c5) ∧ w'.cell? ⟨P1, 2, none⟩ = some (.slice A6 m6 c6)) (by kernel_rfl) ?_ (fun hHeld => ?_)
  · go_keep
  refine stk 0 5 ?_;refine stk 2 7 ?_;refine stk 3 8 ?_;refine tr 1 rfl (by kernel_rfl) (fun K hK => ?_);go_simp;go_at_call 121;refine (spec_neDegrees _ _ _ n w1.drew (HN.out.up (Below.refl _ _).drew) HQ.out).mono ?_;rintro e w5 ⟨u, rfl, ⟨Au, mu, cu, rfl⟩, hu, hb5'⟩;have hb5 : Below w1.heap.size w1 w5 := (Below.refl _ _).drew.trans hb5';clear hb5';have HU := Lib.hid hu;clear hu;have hzhb5 := hb5.size;clear g0 g1 g2 g3 g4 g5 g6 gf;replace HM := bk HM hb5;replace HR := Lib.hid (HR.out.up hb5);obtain ⟨⟨g0, g1, g2⟩, ⟨g3, g4, g5, g6⟩, gf⟩ := cells7 HM;have hzhb5 := hb5.size;clear q0 q1 q2 qf;replace HD := bk HD hb5;replace HN := Lib.hid (HN.out.up hb5);replace hB := bl_trans hB hb5;obtain ⟨q0, q1, q2, qf⟩ := cells3 HD;replace hcr := (hB.cell (p := ad) hab).trans hcu;refine hK.out _ _ ?_ (fun hHeld => ?_)
  · go_keep
  clear hK K
  try simp only [Act.put, pu]
  refine tr 4 rfl (by kernel_rfl) (fun K hK => ?_);go_simp;go_at_call 72;refine (spec_l1All _ (degs n) _ _ w5 HU.out).mono ?_;rintro e w' ⟨rfl, rfl⟩;rw [g];refine hK.out _ _ ?_ (fun hHeld => ?_)
  · go_keep
  clear hK K
  try simp only [Act.put, pu]
  refine stk 5 10 ?_;refine stk 6 11 ?_;refine stk 7 12 ?_;refine stk 8 13 ?_;refine stk 9 14 ?_;refine stk 10 15 ?_;refine stk 11 16 ?_;refine stk 12 17 ?_;refine stk 13 18 ?_;refine tr 14 rfl (by kernel_rfl) (fun K hK => ?_);go_simp;go_at_call 72;rw [show IntKind.i64.wrap ((l0.length : Int) - 1) = (l0.length : Int) - 1 from IntWalk.i64_in _ (by omega)];refine (spec_l1All _ n.ins _ _ w5 HN.out.n).mono ?_;rintro e w' ⟨rfl, rfl⟩;refine hK.out _ _ ?_ (fun hHeld => ?_)
  · go_keep
  clear hK K
  try simp only [Act.put, pu]
  refine stk 15 20 ?_;refine stk 16 4 ?_;refine wpAnyH_done (by kernel_rfl) ?_ _;go_wp2_with fail;go_ret;exact ⟨ret_bool (by rw [← HF.out, HFI.out]), hB⟩
set_option maxRecDepth 100000 in
set_option maxHeartbeats 2000000 in
theorem spec_maAsked (vs ve vc vo : Value) (m : Mach) (ne ni nn : Value) (n : Net) (w : World) (hm : MachR w w.heap.size vs ve vc vo m) (hn : NetR w w.heap.size ne ni nn n) (hz : n.es.length ≤ 2000000) :
  Calls Tryz.prog 71 #[machV vs ve vc vo m, .agg #[ne, ni, nn]] w fun e w' => e = .returned (.bool (fitB m n)) ∧ Below w.heap.size w w' := by
 unfold machV;obtain ⟨⟨A0, m0, c0, rfl⟩, ⟨A1, m1, c1, rfl⟩, ⟨A2, m2, c2, rfl⟩, A3, m3, c3, rfl⟩ := hm.slices;obtain ⟨⟨A4, m4, c4, rfl⟩, ⟨A5, m5, c5, rfl⟩, A6, m6, c6, rfl⟩ := hn.slices;obtain ⟨w0, hw0, hb0, HM, hz0, HS0⟩ := box7 w (.int .i64 m.deg) (.int .i64 m.st) (.int .i64 m.msg) (.slice A0 m0 c0) (.slice A1 m1 c1) (.slice A2 m2 c2) (.slice A3 m3 c3) 46;obtain ⟨w1, hw1, hb1, HD, hz1, HS1⟩ := box3 w0 (.slice A4 m4 c4) (.slice A5 m5 c5) (.slice A6 m6 c6) 50;replace HM := bk HM hb1;have hB : Below w.heap.size w w1 := bl_trans (hb0) hb1;have HW := Lib.hid (show w1 = (w.alloc (.cells #[.int .i64 m.deg, .int .i64 m.st, .int .i64 m.msg, .slice A0 m0 c0, .slice A1 m1 c1, .slice A2 m2 c2, .slice A3 m3 c3] 46)).alloc (.cells #[.slice A4 m4 c4, .slice A5 m5 c5, .slice A6 m6 c6] 50) by rw [hw1, hw0]);obtain ⟨P1, hP1⟩ : ∃ z, z = w0.heap.size := ⟨_, rfl⟩
 have HP1 := Lib.hid (show w.heap.size + 1 = P1 by rw [hP1, HS0.out]);have hPl1 : w.heap.size < P1 := by rw [← HP1.out]; omega
 rw [← hP1] at HD hz1;obtain ⟨⟨g0, g1, g2⟩, ⟨g3, g4, g5, g6⟩, gf⟩ := cells7 HM;obtain ⟨q0, q1, q2, qf⟩ := cells3 HD;have eg0 := g0;have eg1 := g1;have eg2 := g2;have eg3 := g3;have eg4 := g4;have eg5 := g5;have eg6 := g6;have eq0 := q0;have eq1 := q1;have eq2 := q2;rw [HW.out] at eg0 eg1 eg2 eg3 eg4 eg5 eg6 eq0 eq1 eq2;rw [← HP1.out] at eq0 eq1 eq2;have HR := Lib.hid (hm.up hB);have HN := Lib.hid (hn.up hB);clear hw1 hw0 hP1;have HG := Lib.hid (spec_maGood _ _ _ _ m w1 HR.out);cases j1 : maB m with
 | false =>
  have HF := Lib.hid (fit_f1 (n := n) j1).symm;go_enter Tryz.func71, Tryz.ntmps71;go_wp2_with fail;rw [HP1.out, ← HW.out];clear eg0 eg1 eg2 eg3 eg4 eg5 eg6 eq0 eq1 eq2;refine HG.out.mono ?_;rintro e w5 ⟨rfl, hb5⟩;rw [j1];go_wp2_with fail;go_ret;exact ⟨ret_bool HF.out, bl_trans hB hb5⟩
 | true =>
  have HF1 := Lib.hid j1;cases j2 : netB n with
  | false =>
   have HF := Lib.hid (fit_f2 (m := m) j2).symm;go_enter Tryz.func71, Tryz.ntmps71;go_wp2_with fail;rw [HP1.out, ← HW.out];clear eg0 eg1 eg2 eg3 eg4 eg5 eg6 eq0 eq1 eq2;refine HG.out.mono ?_;rintro e w5 ⟨rfl, hb5⟩;rw [j1];have hzhb5 := hb5.size;clear g0 g1 g2 g3 g4 g5 g6 gf;replace HM := bk HM hb5;replace HR := Lib.hid (HR.out.up hb5);obtain ⟨⟨g0, g1, g2⟩, ⟨g3, g4, g5, g6⟩, gf⟩ := cells7 HM;have hzhb5 := hb5.size;clear q0 q1 q2 qf;replace HD := bk HD hb5;replace HN := Lib.hid (HN.out.up hb5);replace hB := bl_trans hB hb5;obtain ⟨q0, q1, q2, qf⟩ := cells3 HD;go_wp2_with fail;refine (spec_neGood _ _ _ n w5 HN.out hz).mono ?_;rintro e w6 ⟨rfl, hb6⟩;rw [j2];go_wp2_with fail;go_ret;exact ⟨ret_bool HF.out, bl_trans hB hb6⟩
  | true =>
   have HF := Lib.hid (fit_eq (propB_iff.1 j1) (propB_iff.1 j2)).symm;have HF2 := Lib.hid j2;go_enter Tryz.func71, Tryz.ntmps71;go_wp2_with fail;rw [HP1.out, ← HW.out];clear eg0 eg1 eg2 eg3 eg4 eg5 eg6 eq0 eq1 eq2;refine HG.out.mono ?_;rintro e w5 ⟨rfl, hb5⟩;rw [j1];have hzhb5 := hb5.size;clear g0 g1 g2 g3 g4 g5 g6 gf;replace HM := bk HM hb5;replace HR := Lib.hid (HR.out.up hb5);obtain ⟨⟨g0, g1, g2⟩, ⟨g3, g4, g5, g6⟩, gf⟩ := cells7 HM;have hzhb5 := hb5.size;clear q0 q1 q2 qf;replace HD := bk HD hb5;replace HN := Lib.hid (HN.out.up hb5);replace hB := bl_trans hB hb5;obtain ⟨q0, q1, q2, qf⟩ := cells3 HD;go_wp2_with fail;refine (spec_neGood _ _ _ n w5 HN.out hz).mono ?_;rintro e w6 ⟨rfl, hb6⟩;rw [j2];have hzhb6 := hb6.size;clear g0 g1 g2 g3 g4 g5 g6 gf;replace HM := bk HM hb6;replace HR := Lib.hid (HR.out.up hb6);obtain ⟨⟨g0, g1, g2⟩, ⟨g3, g4, g5, g6⟩, gf⟩ := cells7 HM;have hzhb6 := hb6.size;clear q0 q1 q2 qf;replace HD := bk HD hb6;replace HN := Lib.hid (HN.out.up hb6);replace hB := bl_trans hB hb6;obtain ⟨q0, q1, q2, qf⟩ := cells3 HD;go_wp2_with fail;refine (spec_maOn _ _ _ _ m _ _ _ n w6 HR.out HN.out (propB_iff.1 HF1.out) (propB_iff.1 HF2.out)).mono ?_;rintro e w7 ⟨rfl, hb7⟩;go_wp2_with fail;go_ret;exact ⟨ret_bool HF.out, bl_trans hB hb7⟩
end Go.Proofs.YtjklbjmdgiddcaaGreat
