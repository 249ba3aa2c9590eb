/-
  Certificates of walk problems: the program's isCertificate, for every good walk problem.
-/
import Derived.Test.YtcfbkickiijjkaaGreatDoorVCert
namespace Go.Proofs.YtcfbkickiijjkaaGreatDoor
open Go.RowKit
set_option linter.all false
theorem Good.arc_lt {n : Nat} {xss : List (List Int)} (h : Good n xss) {a b : Nat} (ha : hasArc xss a b) : a < n ∧ b < n := by
  obtain ⟨i, hi⟩ := List.mem_iff_getElem?.1 ha
  obtain ⟨xs', e, _, h4, _⟩ := h.2 i (List.getElem?_eq_some_iff.1 hi).1
  rw [hi] at e; cases e
  have h5 := allB_iff.1 h4
  have h6 := h5 a (by simp)
  have h7 := h5 b (by simp)
  omega
theorem IntsR.one (W : World) (b : Nat) (hb : W.heap.size = b) (x : Int) (hx : I64 x) : IntsR (W.alloc (.cells #[.int .i64 x] 3)) (W.alloc (.cells #[.int .i64 x] 3)).heap.size (.slice (some ⟨b, 0, none⟩) 1 1) [x] := by
  subst hb
  have ho : OwnInts (W.alloc (.cells #[.int .i64 x] 3)) 3 (.slice (some ⟨W.heap.size, 0, none⟩) 1 1) [x] [W.heap.size] :=
    ⟨.inr ⟨W.heap.size, 1, #[.int .i64 x], rfl, Nat.le_refl _, by unfold maxLen; omega, heap_alloc_new _ _, rfl, rfl, rfl⟩, by intro y hy; simp at hy; subst hy; exact hx⟩
  exact ho.reads ho.1.lt
theorem IntsR.two (W : World) (x y : Int) (hx : I64 x) (hy : I64 y) : IntsR (W.alloc (.cells #[.int .i64 x, .int .i64 y] 3)) (W.alloc (.cells #[.int .i64 x, .int .i64 y] 3)).heap.size (.slice (some ⟨W.heap.size, 0, none⟩) 2 2) [x, y] := by
  have ho : OwnInts (W.alloc (.cells #[.int .i64 x, .int .i64 y] 3)) 3 (.slice (some ⟨W.heap.size, 0, none⟩) 2 2) [x, y] [W.heap.size] :=
    ⟨.inr ⟨W.heap.size, 2, #[.int .i64 x, .int .i64 y], rfl, Nat.le_refl _, by unfold maxLen; omega, heap_alloc_new _ _, rfl, rfl, rfl⟩, by intro z hz; simp at hz; rcases hz with rfl | rfl <;> assumption⟩
  exact ho.reads ho.1.lt
theorem allB_one (x lo hi : Int) : allB [x] lo hi = inB x lo hi := by simp [allB]
set_option maxRecDepth 100000 in
set_option maxHeartbeats 2000000 in
theorem impl_isCertificate (n : Nat) (v vf vs vr : Value) (xss : List (List Int)) (cl lb : Int) (f s : List Int) (rs : List (List Int)) (w : World) (h : RowsR w w.heap.size v xss) (hf : IntsR w w.heap.size vf f) (hs : IntsR w w.heap.size vs s) (hr : RowsR w w.heap.size vr rs) (hg : Good n xss) (hv : ∃ A m c, v = .slice A m c)
  (hlen : f.length ≤ 1000000000 ∧ s.length ≤ 1000000000 ∧ rs.length ≤ 1000000000) (hlb : I64 lb) :
  Calls Tryz.prog 122 #[.agg #[.int .i64 (n : Int), v], .agg #[.int .i64 cl, .int .i64 lb, vf, vs, vr]] w fun e w' => e = .returned (.bool (propB (certP n xss cl lb f s rs))) ∧ Below w.heap.size w w' := by
 have hn : (1 : Int) ≤ n ∧ (n : Int) ≤ 12 := by have := hg.1; unfold inB at this; simpa using this
 have HH := Lib.hid h; clear h
 have HV := Lib.hid hv; clear hv
 have HF := Lib.hid hf
 have HS := Lib.hid hs
 have HR := Lib.hid hr
 have HG := Lib.hid hg; clear hg
 obtain ⟨Af, cf, rfl, f1, f2, f3⟩ := hf.open_
 obtain ⟨As, cs, rfl, s1, s2, s3⟩ := hs.open_
 obtain ⟨Ar, cr, rfl, r1, r2, r3⟩ := hr.open_
 clear f3 s3 r3 hf hs hr
 unfold maxLen at f2 s2 r2
 obtain ⟨l1, l2, l3⟩ := hlen
 unfold I64 at hlb
 have hb0 := bl_alloc (bl_alloc (Below.refl w.heap.size w) (.cells #[.int .i64 (n : Int), v] 50)) (.cells #[.int .i64 cl, .int .i64 lb, .slice Af f.length cf, .slice As s.length cs, .slice Ar rs.length cr] 51)
 have hbx : Boxes ((w.alloc (.cells #[.int .i64 (n : Int), v] 50)).alloc (.cells #[.int .i64 cl, .int .i64 lb, .slice Af f.length cf, .slice As s.length cs, .slice Ar rs.length cr] 51)) w.heap.size (.int .i64 (n : Int)) v (.int .i64 cl) (.int .i64 lb) (.slice Af f.length cf) (.slice As s.length cs) (.slice Ar rs.length cr) := by
  refine ⟨?_, ?_, ?_, ?_, ?_, ?_, ?_⟩
  ·
   rw [World.cell?_alloc_lt _ _ _ (show w.heap.size < _ by simp), World.cell?_alloc_at _ _ _ _ rfl]; rfl
  ·
   rw [World.cell?_alloc_lt _ _ _ (show w.heap.size < _ by simp), World.cell?_alloc_at _ _ _ _ rfl]; rfl
  all_goals
   rw [World.cell?_alloc_at _ _ _ _ (show w.heap.size + 1 = _ by simp)]; rfl
 have hsz : ((w.alloc (.cells #[.int .i64 (n : Int), v] 50)).alloc (.cells #[.int .i64 cl, .int .i64 lb, .slice Af f.length cf, .slice As s.length cs, .slice Ar rs.length cr] 51)).heap.size = w.heap.size + 2 := by simp
 have HB := Lib.hid hbx; clear hbx
 have HZ := Lib.hid hsz; clear hsz
 go_enter Tryz.func122, Tryz.ntmps122
 go_wp2_with fail
 generalize (w.alloc (.cells #[.int .i64 (n : Int), v] 50)).alloc (.cells #[.int .i64 cl, .int .i64 lb, .slice Af f.length cf, .slice As s.length cs, .slice Ar rs.length cr] 51) = w0 at *
 have h1 := IntsR.one w0 (w.heap.size + 1 + 1) HZ.out lb (by unfold I64; omega)
 have HL := Lib.hid h1; clear h1
 have hba := bl_alloc hb0 (.cells #[.int .i64 lb] 3)
 refine (impl_hasLabels (n : Int) v _ [lb] _ HL.out (by omega) (by omega)).mono ?_
 rintro e w1 ⟨rfl, hb_w1⟩
 rw [allB_one]
 have hbw1 := bl_trans hba hb_w1
 have HXw1 := Lib.hid ((HB.out.below ((Below.refl w0.heap.size w0).alloc (Nat.le_refl _) (.cells #[.int .i64 lb] 3)) (by have := HZ.out; omega)).below hb_w1 (by have := HZ.out; simp; omega))
 have HZw1 := Lib.hid (show w.heap.size + 2 ≤ w1.heap.size by
  have h3 : (w0.alloc (.cells #[.int .i64 lb] 3)).heap.size = w0.heap.size + 1 := by simp
  have := hb_w1.size; have := HZ.out; omega)
 obtain ⟨p0, p1, c0, c1, c2, c3, c4⟩ := HXw1.out
 by_cases e3 : cl = 3
 ·
  subst e3
  have HP := Lib.hid (certP_3 n xss lb f s rs)
  cases q1 : inB lb 0 ((n : Int) - 1) with
  | false =>
   go_wp2_with fail
   go_quiet (fail)
   go_wp2_with fail
   go_ret
   exact ⟨ret_bool (propB_f (fun h => by have := (HP.out.1 h).1; rw [q1] at this; cases this)).symm, bl_drewN hbw1 _⟩
  | true =>
   have hq : 0 ≤ lb ∧ lb ≤ (n : Int) - 1 := by unfold inB at q1; simpa using q1
   obtain ⟨a, rfl⟩ := Int.eq_ofNat_of_zero_le hq.1
   have han : a < n := by omega
   have HQ1 := Lib.hid q1; clear q1
   have ha1 : (0 : Int) ≤ (a : Int) := by omega
   have ha2 : (a : Int) < (n : Int) := by omega
   have hm := mask_lt HG.out.small a
   have HMB := Lib.hid (mask_bit HG.out.small a a)
   have e1 : IntKind.i64.wrap ((f.length : Int) + (s.length : Int)) = (f.length : Int) + (s.length : Int) := IntWalk.i64_in _ (by omega)
   have e2 : IntKind.i64.wrap ((f.length : Int) + (s.length : Int) + (rs.length : Int)) = (f.length : Int) + (s.length : Int) + (rs.length : Int) := IntWalk.i64_in _ (by omega)
   have HM := Lib.hid (fun (W : World) (hW : Below w1.heap.size w1 W) => impl_after n v xss W ((HH.out.below (bl_trans hbw1 hW)).more (by have := hW.size; have := hbw1.size; omega)) HG.out)
   by_cases ht : (mask xss a).testBit a = true
   ·
    have hbit := bit_t hm (by omega) ht
    have HA := Lib.hid (HMB.out.1 ht); clear ht
    by_cases q2 : f.length + s.length + rs.length = 0
    ·
     have t0 : ((f.length : Int) + (s.length : Int) + (rs.length : Int) == 0) = true := by rw [beq_iff_eq]; omega
     have HQ2 := Lib.hid q2; clear q2
     go_wp2_with fail
     refine wp_region_held_drew (S := (fun w' => w'.cell? ⟨w.heap.size, 0, none⟩ = some (.int .i64 (n : Int)) ∧ w'.cell? ⟨w.heap.size, 1, none⟩ = some v ∧ w'.cell? ⟨w.heap.size + 1, 1, none⟩ = some (.int .i64 (a : Int)) ∧ w'.cell? ⟨w.heap.size + 1, 2, none⟩ = some (.slice Af f.length cf) ∧ w'.cell? ⟨w.heap.size + 1, 3, none⟩ = some (.slice As s.length cs) ∧ w'.cell? ⟨w.heap.size + 1, 4, none⟩ = some (.slice Ar rs.length cr))) (by kernel_rfl) ?_ (fun hHeld => ?_)
     ·
      go_keep
     refine tk 0 15 rfl rfl ?_
     try simp only [pu]
     refine tk 1 16 rfl rfl ?_
     try simp only [pu]
     refine tk 2 17 rfl rfl ?_
     try simp only [pu]
     refine tk 4 19 rfl rfl ?_
     try simp only [pu]
     refine tk 5 20 rfl rfl ?_
     try simp only [pu]
     refine tk 8 23 rfl rfl ?_
     try simp only [pu]
     refine tk 9 24 rfl rfl ?_
     try simp only [pu]
     refine take_ready 3 rfl (by kernel_rfl) (fun K hK => ?_)
     go_simp
     (go_at_call 154; refine (HM.out _ (by first | exact (Below.refl _ _).drew | exact Below.refl _ _)).mono ?_; rintro e w2 ⟨v', rfl, ho, hb2⟩; obtain ⟨A', c', rfl, g1, g2, g3⟩ := (ho.reads (B := w2.heap.size) ho.1.lt).open_; rw [maskL_len] at g1 g3 ⊢; obtain ⟨ad', rfl, hb', hc'⟩ := g3 (by omega); have k3 := hc' a _ (maskL_at (n := n) (xss := xss) (by omega)); clear hc' ho; obtain ⟨z0, z1, z2, z3, z4, z5, z6⟩ := (HXw1.out.below (Below.refl _ _).drew (show w.heap.size + 1 < w1.heap.size by have := HZw1.out; omega)).below hb2 (show w.heap.size + 1 < w1.drew.heap.size by show _ < w1.heap.size; have := HZw1.out; omega))
     refine hK.out _ _ ?_ (fun hHeld => ?_)
     ·
      go_keep
     clear hK K
     try simp only [pu]
     refine tk 6 21 rfl rfl ?_
     try simp only [pu]
     refine take_ready 7 rfl (by kernel_rfl) (fun K hK => ?_)
     go_simp
     refine hK.out _ _ ?_ (fun hHeld => ?_)
     ·
      go_keep
     clear hK K
     try simp only [pu]
     refine tk 10 25 rfl rfl ?_
     try simp only [pu]
     refine tk 11 26 rfl rfl ?_
     try simp only [pu]
     refine tk 12 27 rfl rfl ?_
     try simp only [pu]
     refine tk 13 28 rfl rfl ?_
     try simp only [pu]
     refine tk 14 29 rfl rfl ?_
     try simp only [pu]
     refine tk 15 30 rfl rfl ?_
     try simp only [pu]
     refine tk 16 31 rfl rfl ?_
     try simp only [pu]
     refine tk 17 32 rfl rfl ?_
     try simp only [pu]
     refine tk 18 33 rfl rfl ?_
     try simp only [pu]
     refine tk 19 34 rfl rfl ?_
     try simp only [pu]
     refine tk 20 35 rfl rfl ?_
     try simp only [pu]
     refine tk 21 36 rfl rfl ?_
     try simp only [pu]
     refine tk 22 37 rfl rfl ?_
     try simp only [pu]
     refine tk 23 38 rfl rfl ?_
     try simp only [pu]
     refine tk 24 39 rfl rfl ?_
     try simp only [pu]
     refine tk 25 40 rfl rfl ?_
     try simp only [pu]
     refine tk 26 41 rfl rfl ?_
     try simp only [pu]
     refine tk 27 42 rfl rfl ?_
     try simp only [pu]
     refine tk 28 4 rfl rfl ?_
     try simp only [pu]
     refine wpAnyH_done (by kernel_rfl) ?_ _
     all_goals
      go_wp2_with fail
      go_ret
      exact ⟨ret_bool (propB_t (HP.out.2 ⟨HQ1.out, HQ2.out, HA.out⟩)).symm, bl_trans hbw1.drew hb2⟩
    ·
     have t0 : ((f.length : Int) + (s.length : Int) + (rs.length : Int) == 0) = false := by rw [beq_eq_false_iff_ne]; omega
     have HQ2 := Lib.hid q2; clear q2
     go_wp2_with fail
     refine wp_region_held_drew (S := (fun w' => w'.cell? ⟨w.heap.size, 0, none⟩ = some (.int .i64 (n : Int)) ∧ w'.cell? ⟨w.heap.size, 1, none⟩ = some v ∧ w'.cell? ⟨w.heap.size + 1, 1, none⟩ = some (.int .i64 (a : Int)) ∧ w'.cell? ⟨w.heap.size + 1, 2, none⟩ = some (.slice Af f.length cf) ∧ w'.cell? ⟨w.heap.size + 1, 3, none⟩ = some (.slice As s.length cs) ∧ w'.cell? ⟨w.heap.size + 1, 4, none⟩ = some (.slice Ar rs.length cr))) (by kernel_rfl) ?_ (fun hHeld => ?_)
     ·
      go_keep
     refine tk 0 15 rfl rfl ?_
     try simp only [pu]
     refine tk 1 16 rfl rfl ?_
     try simp only [pu]
     refine tk 2 17 rfl rfl ?_
     try simp only [pu]
     refine tk 4 19 rfl rfl ?_
     try simp only [pu]
     refine tk 5 20 rfl rfl ?_
     try simp only [pu]
     refine tk 8 23 rfl rfl ?_
     try simp only [pu]
     refine tk 9 24 rfl rfl ?_
     try simp only [pu]
     refine take_ready 3 rfl (by kernel_rfl) (fun K hK => ?_)
     go_simp
     (go_at_call 154; refine (HM.out _ (by first | exact (Below.refl _ _).drew | exact Below.refl _ _)).mono ?_; rintro e w2 ⟨v', rfl, ho, hb2⟩; obtain ⟨A', c', rfl, g1, g2, g3⟩ := (ho.reads (B := w2.heap.size) ho.1.lt).open_; rw [maskL_len] at g1 g3 ⊢; obtain ⟨ad', rfl, hb', hc'⟩ := g3 (by omega); have k3 := hc' a _ (maskL_at (n := n) (xss := xss) (by omega)); clear hc' ho; obtain ⟨z0, z1, z2, z3, z4, z5, z6⟩ := (HXw1.out.below (Below.refl _ _).drew (show w.heap.size + 1 < w1.heap.size by have := HZw1.out; omega)).below hb2 (show w.heap.size + 1 < w1.drew.heap.size by show _ < w1.heap.size; have := HZw1.out; omega))
     refine hK.out _ _ ?_ (fun hHeld => ?_)
     ·
      go_keep
     clear hK K
     try simp only [pu]
     refine tk 6 21 rfl rfl ?_
     try simp only [pu]
     refine take_ready 7 rfl (by kernel_rfl) (fun K hK => ?_)
     go_simp
     refine hK.out _ _ ?_ (fun hHeld => ?_)
     ·
      go_keep
     clear hK K
     try simp only [pu]
     refine tk 10 25 rfl rfl ?_
     try simp only [pu]
     refine tk 11 26 rfl rfl ?_
     try simp only [pu]
     refine tk 12 27 rfl rfl ?_
     try simp only [pu]
     refine tk 13 28 rfl rfl ?_
     try simp only [pu]
     refine tk 14 29 rfl rfl ?_
     try simp only [pu]
     refine tk 15 30 rfl rfl ?_
     try simp only [pu]
     refine tk 16 31 rfl rfl ?_
     try simp only [pu]
     refine tk 17 32 rfl rfl ?_
     try simp only [pu]
     refine tk 18 33 rfl rfl ?_
     try simp only [pu]
     refine tk 19 34 rfl rfl ?_
     try simp only [pu]
     refine tk 20 35 rfl rfl ?_
     try simp only [pu]
     refine tk 21 36 rfl rfl ?_
     try simp only [pu]
     refine tk 22 37 rfl rfl ?_
     try simp only [pu]
     refine tk 23 38 rfl rfl ?_
     try simp only [pu]
     refine tk 24 39 rfl rfl ?_
     try simp only [pu]
     refine tk 25 40 rfl rfl ?_
     try simp only [pu]
     refine tk 26 41 rfl rfl ?_
     try simp only [pu]
     refine tk 27 42 rfl rfl ?_
     try simp only [pu]
     refine tk 28 4 rfl rfl ?_
     try simp only [pu]
     refine wpAnyH_done (by kernel_rfl) ?_ _
     all_goals
      go_wp2_with fail
      go_ret
      exact ⟨ret_bool (propB_f (fun h => HQ2.out (HP.out.1 h).2.1)).symm, bl_trans hbw1.drew hb2⟩
   ·
    have hbit := bit_f hm (by omega) ht
    have HA := Lib.hid (show ¬ hasArc xss a a from fun h => ht (HMB.out.2 h)); clear ht
    go_wp2_with fail
    refine wp_region_held_drew (S := (fun w' => w'.cell? ⟨w.heap.size, 0, none⟩ = some (.int .i64 (n : Int)) ∧ w'.cell? ⟨w.heap.size, 1, none⟩ = some v ∧ w'.cell? ⟨w.heap.size + 1, 1, none⟩ = some (.int .i64 (a : Int)) ∧ w'.cell? ⟨w.heap.size + 1, 2, none⟩ = some (.slice Af f.length cf) ∧ w'.cell? ⟨w.heap.size + 1, 3, none⟩ = some (.slice As s.length cs) ∧ w'.cell? ⟨w.heap.size + 1, 4, none⟩ = some (.slice Ar rs.length cr))) (by kernel_rfl) ?_ (fun hHeld => ?_)
    ·
     go_keep
    refine tk 0 15 rfl rfl ?_
    try simp only [pu]
    refine tk 1 16 rfl rfl ?_
    try simp only [pu]
    refine tk 2 17 rfl rfl ?_
    try simp only [pu]
    refine tk 4 19 rfl rfl ?_
    try simp only [pu]
    refine tk 5 20 rfl rfl ?_
    try simp only [pu]
    refine tk 8 23 rfl rfl ?_
    try simp only [pu]
    refine tk 9 24 rfl rfl ?_
    try simp only [pu]
    refine take_ready 3 rfl (by kernel_rfl) (fun K hK => ?_)
    go_simp
    (go_at_call 154; refine (HM.out _ (by first | exact (Below.refl _ _).drew | exact Below.refl _ _)).mono ?_; rintro e w2 ⟨v', rfl, ho, hb2⟩; obtain ⟨A', c', rfl, g1, g2, g3⟩ := (ho.reads (B := w2.heap.size) ho.1.lt).open_; rw [maskL_len] at g1 g3 ⊢; obtain ⟨ad', rfl, hb', hc'⟩ := g3 (by omega); have k3 := hc' a _ (maskL_at (n := n) (xss := xss) (by omega)); clear hc' ho; obtain ⟨z0, z1, z2, z3, z4, z5, z6⟩ := (HXw1.out.below (Below.refl _ _).drew (show w.heap.size + 1 < w1.heap.size by have := HZw1.out; omega)).below hb2 (show w.heap.size + 1 < w1.drew.heap.size by show _ < w1.heap.size; have := HZw1.out; omega))
    refine hK.out _ _ ?_ (fun hHeld => ?_)
    ·
     go_keep
    clear hK K
    try simp only [pu]
    refine tk 6 21 rfl rfl ?_
    try simp only [pu]
    refine take_ready 7 rfl (by kernel_rfl) (fun K hK => ?_)
    go_simp
    refine hK.out _ _ ?_ (fun hHeld => ?_)
    ·
     go_keep
    clear hK K
    try simp only [pu]
    refine tk 10 25 rfl rfl ?_
    try simp only [pu]
    refine tk 11 26 rfl rfl ?_
    try simp only [pu]
    refine tk 12 27 rfl rfl ?_
    try simp only [pu]
    refine tk 13 28 rfl rfl ?_
    try simp only [pu]
    refine tk 14 29 rfl rfl ?_
    try simp only [pu]
    refine tn 15 30 rfl rfl ?_
    try simp only [pu]
    refine tn 16 31 rfl rfl ?_
    try simp only [pu]
    refine tn 17 32 rfl rfl ?_
    try simp only [pu]
    refine tn 18 33 rfl rfl ?_
    try simp only [pu]
    refine tn 19 34 rfl rfl ?_
    try simp only [pu]
    refine tn 20 35 rfl rfl ?_
    try simp only [pu]
    refine tn 21 36 rfl rfl ?_
    try simp only [pu]
    refine tn 22 37 rfl rfl ?_
    try simp only [pu]
    refine tn 23 38 rfl rfl ?_
    try simp only [pu]
    refine tn 24 39 rfl rfl ?_
    try simp only [pu]
    refine tn 25 40 rfl rfl ?_
    try simp only [pu]
    refine tn 26 41 rfl rfl ?_
    try simp only [pu]
    refine tk 27 42 rfl rfl ?_
    try simp only [pu]
    refine tk 28 4 rfl rfl ?_
    try simp only [pu]
    refine wpAnyH_done (by kernel_rfl) ?_ _
    all_goals
     go_wp2_with fail
     go_ret
     exact ⟨ret_bool (propB_f (fun h => HA.out (HP.out.1 h).2.2)).symm, bl_trans hbw1.drew hb2⟩
 ·
  by_cases e2 : cl = 2
  ·
   subst e2
   have HP := Lib.hid (certP_2 n xss lb f s rs)
   cases q1 : inB lb 0 ((n : Int) - 1) with
   | false =>
    go_wp2_with fail
    go_ret
    exact ⟨ret_bool (propB_f (fun h => by have := (HP.out.1 h).1; rw [q1] at this; cases this)).symm, hbw1⟩
   | true =>
    have HQ1 := Lib.hid q1; clear q1
    go_wp2_with fail
    refine (impl_loopOf n v xss w1 ((HH.out.below hbw1).more hbw1.size) HG.out HV.out).mono ?_
    rintro e u1 ⟨i, rfl, hi, hb_u1⟩
    have hbu1 := bl_trans hbw1 hb_u1
    have HXu1 := Lib.hid (HXw1.out.below hb_u1 (by have := HZw1.out; omega))
    have HZu1 := Lib.hid (show w.heap.size + 2 ≤ u1.heap.size by have := hb_u1.size; have := HZw1.out; omega)
    obtain ⟨yu10, yu11, yu12, yu13, yu14, yu15, yu16⟩ := HXu1.out
    by_cases q3 : i < 0
    ·
     have HN := Lib.hid (show ∀ a, ¬ hasArc xss a a from by
      rcases hi with ⟨_, h⟩ | ⟨a, _, e, _⟩
      ·
       exact fun a ha => h a (HG.out.arc_lt ha).1 ha
      ·
       omega)
     have t1 : decide (i < 0) = true := decide_eq_true q3
     by_cases q2 : rs.length = 0
     ·
      have t0 : ((rs.length : Int) == 0) = true := by rw [beq_iff_eq]; omega
      have HQ2 := Lib.hid q2; clear q2
      go_wp2_with fail
      refine (impl_isClosedFrom n v _ xss f lb u1 ((HH.out.below hbu1).more hbu1.size) ((HF.out.below hbu1).more hbu1.size) HG.out).mono ?_
      rintro e u2 ⟨rfl, hb_u2⟩
      have hbu2 := bl_trans hbu1 hb_u2
      have HXu2 := Lib.hid (HXu1.out.below hb_u2 (by have := HZu1.out; omega))
      have HZu2 := Lib.hid (show w.heap.size + 2 ≤ u2.heap.size by have := hb_u2.size; have := HZu1.out; omega)
      obtain ⟨yu20, yu21, yu22, yu23, yu24, yu25, yu26⟩ := HXu2.out
      cases q4 : propB (closedP n xss f lb) with
      | false =>
       go_wp2_with fail
       go_ret
       exact ⟨ret_bool (propB_f (fun h => propB_ff q4 (HP.out.1 h).2.2.2.1)).symm, hbu2⟩
      | true =>
       go_wp2_with fail
       refine (impl_isClosedFrom n v _ xss s lb u2 ((HH.out.below hbu2).more hbu2.size) ((HS.out.below hbu2).more hbu2.size) HG.out).mono ?_
       rintro e u3 ⟨rfl, hb_u3⟩
       have hbu3 := bl_trans hbu2 hb_u3
       have HXu3 := Lib.hid (HXu2.out.below hb_u3 (by have := HZu2.out; omega))
       have HZu3 := Lib.hid (show w.heap.size + 2 ≤ u3.heap.size by have := hb_u3.size; have := HZu2.out; omega)
       obtain ⟨yu30, yu31, yu32, yu33, yu34, yu35, yu36⟩ := HXu3.out
       cases q5 : propB (closedP n xss s lb) with
       | false =>
        go_wp2_with fail
        go_ret
        exact ⟨ret_bool (propB_f (fun h => propB_ff q5 (HP.out.1 h).2.2.2.2.1)).symm, hbu3⟩
       | true =>
        have o1 : (2 : Int) ≤ f.length ∧ (f.length : Int) ≤ 200 := by have := (propB_iff.1 q4).1; unfold inB at this; simpa using this
        have o2 : (2 : Int) ≤ s.length ∧ (s.length : Int) ≤ 200 := by have := (propB_iff.1 q5).1; unfold inB at this; simpa using this
        have x1 : (f.length : Int) - 1 = ((f.length - 1 : Nat) : Int) := by omega
        have x2 : (s.length : Int) - 1 = ((s.length - 1 : Nat) : Int) := by omega
        have X1 := Lib.hid x1; clear x1
        have X2 := Lib.hid x2; clear x2
        go_wp2_with fail
        have HV2 := Lib.hid (IntsR.two u3 ((f.length : Int) - 1) ((s.length : Int) - 1) (by unfold I64; omega) (by unfold I64; omega))
        rw [show [(f.length : Int) - 1, (s.length : Int) - 1] = [f.length - 1, s.length - 1].map (fun (x : Nat) => (x : Int)) by rw [X1.out, X2.out]; rfl] at HV2
        refine (impl_gcd _ [f.length - 1, s.length - 1] _ HV2.out (by intro x hx; simp at hx; omega)).mono ?_
        rintro e w' ⟨rfl, m, rfl⟩
        have hg2 : gcdL [f.length - 1, s.length - 1] = Nat.gcd (f.length - 1) (s.length - 1) := by simp [gcdL]
        rw [hg2]
        clear hg2
        by_cases q6 : Nat.gcd (f.length - 1) (s.length - 1) = 1
        ·
         have t6 : ((Nat.gcd (f.length - 1) (s.length - 1) : Int) == 1) = true := by rw [q6]; rfl
         have HQ6 := Lib.hid q6; clear q6
         go_wp2_with fail
         go_ret
         exact ⟨ret_bool (propB_t (HP.out.2 ⟨HQ1.out, HQ2.out, HN.out, propB_iff.1 q4, propB_iff.1 q5, HQ6.out⟩)).symm, bl_drewN (bl_alloc hbu3 _) _⟩
        ·
         have t6 : ((Nat.gcd (f.length - 1) (s.length - 1) : Int) == 1) = false := by rw [beq_eq_false_iff_ne]; omega
         have HQ6 := Lib.hid q6; clear q6
         go_wp2_with fail
         go_ret
         exact ⟨ret_bool (propB_f (fun h => HQ6.out (HP.out.1 h).2.2.2.2.2)).symm, bl_drewN (bl_alloc hbu3 _) _⟩
     ·
      have t0 : ((rs.length : Int) == 0) = false := by rw [beq_eq_false_iff_ne]; omega
      have HQ2 := Lib.hid q2; clear q2
      go_wp2_with fail
      go_ret
      exact ⟨ret_bool (propB_f (fun h => HQ2.out (HP.out.1 h).2.1)).symm, hbu1⟩
    ·
     have HN := Lib.hid (show ∃ a, hasArc xss a a from by
      rcases hi with ⟨e, h⟩ | ⟨a, _, e, h, _⟩
      ·
       omega
      ·
       exact ⟨a, h⟩)
     have t1 : decide (i < 0) = false := decide_eq_false q3
     go_wp2_with fail
     go_ret
     exact ⟨ret_bool (propB_f (fun h => by obtain ⟨a, ha⟩ := HN.out; exact (HP.out.1 h).2.2.1 a ha)).symm, hbu1⟩
  ·
   by_cases e1 : cl = 1
   ·
    subst e1
    have HP := Lib.hid (certP_1 n xss lb f s rs)
    cases q1 : inB lb 0 ((n : Int) - 1) with
    | false =>
     go_wp2_with fail
     go_ret
     exact ⟨ret_bool (propB_f (fun h => by have := (HP.out.1 h).1; rw [q1] at this; cases this)).symm, hbw1⟩
    | true =>
     have HQ1 := Lib.hid q1; clear q1
     by_cases q2 : s.length = 0
     ·
      have t0 : ((s.length : Int) == 0) = true := by rw [beq_iff_eq]; omega
      have HQ2 := Lib.hid q2; clear q2
      go_wp2_with fail
      refine (impl_isClosedFrom n v _ xss f lb w1 ((HH.out.below hbw1).more hbw1.size) ((HF.out.below hbw1).more hbw1.size) HG.out).mono ?_
      rintro e u2 ⟨rfl, hb_u2⟩
      have hbu2 := bl_trans hbw1 hb_u2
      have HXu2 := Lib.hid (HXw1.out.below hb_u2 (by have := HZw1.out; omega))
      have HZu2 := Lib.hid (show w.heap.size + 2 ≤ u2.heap.size by have := hb_u2.size; have := HZw1.out; omega)
      obtain ⟨yu20, yu21, yu22, yu23, yu24, yu25, yu26⟩ := HXu2.out
      cases q4 : propB (closedP n xss f lb) with
      | false =>
       go_wp2_with fail
       go_ret
       exact ⟨ret_bool (propB_f (fun h => propB_ff q4 (HP.out.1 h).2.2.1)).symm, hbu2⟩
      | true =>
       go_wp2_with fail
       refine (impl_ranksOk n v _ xss rs u2 true ((HH.out.below hbu2).more hbu2.size) ((HR.out.below hbu2).more hbu2.size) HG.out).mono ?_
       rintro e u3 ⟨rfl, hb_u3⟩
       have hbu3 := bl_trans hbu2 hb_u3
       have HXu3 := Lib.hid (HXu2.out.below hb_u3 (by have := HZu2.out; omega))
       have HZu3 := Lib.hid (show w.heap.size + 2 ≤ u3.heap.size by have := hb_u3.size; have := HZu2.out; omega)
       obtain ⟨yu30, yu31, yu32, yu33, yu34, yu35, yu36⟩ := HXu3.out
       cases q5 : propB (RanksP true n xss rs) with
       | false =>
        go_wp2_with fail
        go_ret
        exact ⟨ret_bool (propB_f (fun h => propB_ff q5 (HP.out.1 h).2.2.2)).symm, hbu3⟩
       | true =>
        go_wp2_with fail
        go_ret
        exact ⟨ret_bool (propB_t (HP.out.2 ⟨HQ1.out, HQ2.out, propB_iff.1 q4, propB_iff.1 q5⟩)).symm, hbu3⟩
     ·
      have t0 : ((s.length : Int) == 0) = false := by rw [beq_eq_false_iff_ne]; omega
      have HQ2 := Lib.hid q2; clear q2
      go_wp2_with fail
      go_ret
      exact ⟨ret_bool (propB_f (fun h => HQ2.out (HP.out.1 h).2.1)).symm, hbw1⟩
   ·
    by_cases e0 : cl = 0
    ·
     subst e0
     have HP := Lib.hid (certP_0 n xss lb f s rs)
     by_cases q1 : lb = 0
     ·
      have t1 : (lb == 0) = true := by rw [beq_iff_eq]; exact q1
      have HQ1 := Lib.hid q1; clear q1
      by_cases q2 : f.length + s.length = 0
      ·
       have t0 : ((f.length : Int) + (s.length : Int) == 0) = true := by rw [beq_iff_eq]; omega
       have HQ2 := Lib.hid q2; clear q2
       go_wp2_with fail
       refine (impl_ranksOk n v _ xss rs w1 false ((HH.out.below hbw1).more hbw1.size) ((HR.out.below hbw1).more hbw1.size) HG.out).mono ?_
       rintro e u2 ⟨rfl, hb_u2⟩
       have hbu2 := bl_trans hbw1 hb_u2
       have HXu2 := Lib.hid (HXw1.out.below hb_u2 (by have := HZw1.out; omega))
       have HZu2 := Lib.hid (show w.heap.size + 2 ≤ u2.heap.size by have := hb_u2.size; have := HZw1.out; omega)
       obtain ⟨yu20, yu21, yu22, yu23, yu24, yu25, yu26⟩ := HXu2.out
       cases q5 : propB (RanksP false n xss rs) with
       | false =>
        go_wp2_with fail
        go_ret
        exact ⟨ret_bool (propB_f (fun h => propB_ff q5 (HP.out.1 h).2.2)).symm, hbu2⟩
       | true =>
        go_wp2_with fail
        go_ret
        exact ⟨ret_bool (propB_t (HP.out.2 ⟨HQ1.out, HQ2.out, propB_iff.1 q5⟩)).symm, hbu2⟩
      ·
       have t0 : ((f.length : Int) + (s.length : Int) == 0) = false := by rw [beq_eq_false_iff_ne]; omega
       have HQ2 := Lib.hid q2; clear q2
       go_wp2_with fail
       go_ret
       exact ⟨ret_bool (propB_f (fun h => HQ2.out (HP.out.1 h).2.1)).symm, hbw1⟩
     ·
      have t1 : (lb == 0) = false := by rw [beq_eq_false_iff_ne]; exact q1
      have HQ1 := Lib.hid q1; clear q1
      go_wp2_with fail
      go_ret
      exact ⟨ret_bool (propB_f (fun h => HQ1.out (HP.out.1 h).1)).symm, hbw1⟩
    ·
     have d3 : (cl == 3) = false := by rw [beq_eq_false_iff_ne]; exact e3
     have d2 : (cl == 2) = false := by rw [beq_eq_false_iff_ne]; exact e2
     have d1 : (cl == 1) = false := by rw [beq_eq_false_iff_ne]; exact e1
     have d0 : (cl == 0) = false := by rw [beq_eq_false_iff_ne]; exact e0
     have HE := Lib.hid (And.intro e3 (And.intro e2 (And.intro e1 e0))); clear e3 e2 e1 e0
     go_wp2_with fail
     go_ret
     exact ⟨ret_bool (propB_f (fun h => by unfold certP at h; have := HE.out; omega)).symm, hbw1⟩
end Go.Proofs.YtcfbkickiijjkaaGreatDoor
