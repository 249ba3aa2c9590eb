/-
  The reference's texts of certificates: srCertificate.
-/
import Derived.Test.YtcfbkickiijjkaaGreatDoorVCertTexts
namespace Go.Proofs.YtcfbkickiijjkaaGreatDoor
open Go.RowKit
set_option linter.all false
set_option maxRecDepth 100000 in
set_option maxHeartbeats 2000000 in
theorem spec_srCertificate (vf vs vr : Value) (cl lb : Int) (f s : List Int) (rs : List (List Int)) (w : World) (hf : IntsR w w.heap.size vf f) (hs : IntsR w w.heap.size vs s) (hr : RowsR w w.heap.size vr rs) (hc : CertS cl lb f s rs) :
  Calls Tryz.prog 96 #[.agg #[.int .i64 cl, .int .i64 lb, vf, vs, vr]] w fun e w' => e = .returned (strV (certT cl lb f s rs)) ∧ Below w.heap.size w w' := by
 have HC := Lib.hid hc
 have hl := hc.lb
 have n1 := numT_len (M := 11) hl.1 (by omega)
 have n2 := numsT_len (sep := [45]) (M := 11) hc.f.2
 have n3 := numsT_len (sep := [45]) (M := 11) hc.s.2
 have n4 := hc.f.1
 have n5 := hc.s.1
 have n6 := hc.r.1
 simp only [List.length_cons, List.length_nil] at n2 n3
 clear hc
 have HF := Lib.hid hf
 have HS := Lib.hid hs
 obtain ⟨Af, cf, rfl, f1, f2, f3⟩ := hf.open_
 obtain ⟨As, cs, rfl, s1, s2, s3⟩ := hs.open_
 obtain ⟨Ar, cr, rfl, r1, r2, r3⟩ := hr.open_
 clear f3 s3 hf hs hr
 have R3 := Lib.hid r3; clear r3
 unfold maxLen at f2 s2 r2
 have hb0 := bl_alloc (Below.refl w.heap.size w) (.cells #[.int .i64 cl, .int .i64 lb, .slice Af f.length cf, .slice As s.length cs, .slice Ar rs.length cr] 51)
 have hbx : Box5 (w.alloc (.cells #[.int .i64 cl, .int .i64 lb, .slice Af f.length cf, .slice As s.length cs, .slice Ar rs.length cr] 51)) w.heap.size (.int .i64 cl) (.int .i64 lb) (.slice Af f.length cf) (.slice As s.length cs) (.slice Ar rs.length cr) := by
  refine ⟨?_, ?_, ?_, ?_, ?_⟩
  all_goals
   rw [World.cell?_alloc_at _ _ _ _ rfl]; rfl
 have hsz : w.heap.size < (w.alloc (.cells #[.int .i64 cl, .int .i64 lb, .slice Af f.length cf, .slice As s.length cs, .slice Ar rs.length cr] 51)).heap.size := by simp
 have HB := Lib.hid hbx; clear hbx
 have HZ := Lib.hid hsz; clear hsz
 obtain ⟨N, hN⟩ : ∃ N, N = numT lb := ⟨_, rfl⟩
 obtain ⟨F, hF⟩ : ∃ F, F = numsT [45] f := ⟨_, rfl⟩
 obtain ⟨S, hS⟩ : ∃ S, S = numsT [45] s := ⟨_, rfl⟩
 have JN := Lib.hid (fun (W : World) => show Calls Tryz.prog 58 #[.int .i64 lb] W fun e w' => e = .returned (strV N) ∧ Below W.heap.size W w' by rw [hN]; exact spec_l1Num lb W (by omega) (by omega))
 have JF := Lib.hid (fun (W : World) (h : Below w.heap.size w W) => show Calls Tryz.prog 120 #[.slice Af f.length cf, .string ⟨#[45]⟩] W fun e w' => e = .returned (strV F) ∧ Below W.heap.size W w' by
  rw [hF]; exact srJoin_any _ f ⟨#[45]⟩ W ((HF.out.below h).more h.size) (fun x hx => by have := HC.out.f.2 x hx; omega) (by omega) (by decide))
 have JS := Lib.hid (fun (W : World) (h : Below w.heap.size w W) => show Calls Tryz.prog 120 #[.slice As s.length cs, .string ⟨#[45]⟩] W fun e w' => e = .returned (strV S) ∧ Below W.heap.size W w' by
  rw [hS]; exact srJoin_any _ s ⟨#[45]⟩ W ((HS.out.below h).more h.size) (fun x hx => by have := HC.out.s.2 x hx; omega) (by omega) (by decide))
 rw [← hN] at n1
 rw [← hF] at n2
 rw [← hS] at n3
 have NN := Lib.hid hN; clear hN
 have FF := Lib.hid hF; clear hF
 have SS := Lib.hid hS; clear hS
 go_enter Tryz.func96, Tryz.ntmps96
 by_cases e3 : cl = 3
 ·
  subst e3
  obtain ⟨T1, hT1⟩ : ∃ T, T = [99, 111, 110, 115, 116, 97, 110, 116, 32] ++ N := ⟨_, rfl⟩
  have c1 : ∀ W, (binOp .add 9 (.string ⟨#[99, 111, 110, 115, 116, 97, 110, 116, 32]⟩) (strV N)).run Tryz.prog W = .ok (strV T1) W := by rw [hT1]; exact cat_cv ⟨#[99, 111, 110, 115, 116, 97, 110, 116, 32]⟩ N (by have : (ByteArray.mk #[99, 111, 110, 115, 116, 97, 110, 116, 32]).size = 9 := rfl; omega)
  have HT := Lib.hid (show T1 = certT 3 lb f s rs by rw [hT1, NN.out, HC.out.c (.inl rfl)]; simp [certT, headT, ranksT]); clear hT1
  go_wp2_with fail
  refine (JN.out _).mono ?_
  rintro e w1 ⟨rfl, hb1⟩
  go_wp2_with fail
  go_ret
  rw [← HT.out]
  exact ⟨rfl, bl_trans hb0 hb1⟩
 ·
  by_cases e2 : cl = 2
  ·
   subst e2
   obtain ⟨T1, hT1⟩ : ∃ T, T = [115, 116, 97, 114, 32] ++ N := ⟨_, rfl⟩
   have lT1 : T1.length ≤ 10000 * 1 := by rw [hT1]; simp only [List.length_append, List.length_cons, List.length_nil]; omega
   have kT1 : ∀ W, (binOp .add 9 (.string ⟨#[115, 116, 97, 114, 32]⟩) (strV N)).run Tryz.prog W = .ok (strV T1) W := by rw [hT1]; exact cat_cv ⟨#[115, 116, 97, 114, 32]⟩ N (by have : (ByteArray.mk #[115, 116, 97, 114, 32]).size = 5 := rfl; omega)
   obtain ⟨T2, hT2⟩ : ∃ T, T = T1 ++ [32] := ⟨_, rfl⟩
   have lT2 : T2.length ≤ 10000 * 2 := by rw [hT2]; simp only [List.length_append, List.length_cons, List.length_nil]; omega
   have kT2 : ∀ W, (binOp .add 9 (strV T1) (.string ⟨#[32]⟩)).run Tryz.prog W = .ok (strV T2) W := by rw [hT2]; exact cat_vc T1 ⟨#[32]⟩ (by have : (ByteArray.mk #[32]).size = 1 := rfl; omega)
   obtain ⟨T3, hT3⟩ : ∃ T, T = T2 ++ F := ⟨_, rfl⟩
   have lT3 : T3.length ≤ 10000 * 3 := by rw [hT3]; simp only [List.length_append, List.length_cons, List.length_nil]; omega
   have kT3 : ∀ W, (binOp .add 9 (strV T2) (strV F)).run Tryz.prog W = .ok (strV T3) W := by rw [hT3]; exact cat_vv T2 F (by omega)
   obtain ⟨T4, hT4⟩ : ∃ T, T = T3 ++ [32] := ⟨_, rfl⟩
   have lT4 : T4.length ≤ 10000 * 4 := by rw [hT4]; simp only [List.length_append, List.length_cons, List.length_nil]; omega
   have kT4 : ∀ W, (binOp .add 9 (strV T3) (.string ⟨#[32]⟩)).run Tryz.prog W = .ok (strV T4) W := by rw [hT4]; exact cat_vc T3 ⟨#[32]⟩ (by have : (ByteArray.mk #[32]).size = 1 := rfl; omega)
   obtain ⟨T5, hT5⟩ : ∃ T, T = T4 ++ S := ⟨_, rfl⟩
   have lT5 : T5.length ≤ 10000 * 5 := by rw [hT5]; simp only [List.length_append, List.length_cons, List.length_nil]; omega
   have kT5 : ∀ W, (binOp .add 9 (strV T4) (strV S)).run Tryz.prog W = .ok (strV T5) W := by rw [hT5]; exact cat_vv T4 S (by omega)
   have HT := Lib.hid (show T5 = certT 2 lb f s rs by rw [hT5, hT4, hT3, hT2, hT1, NN.out, FF.out, SS.out, HC.out.c (.inr rfl)]; simp [certT, headT, ranksT]); clear hT1 hT2 hT3 hT4 hT5
   obtain ⟨x0, x1, x2, x3, x4⟩ := HB.out
   go_wp2_with fail
   generalize w.alloc (.cells #[.int .i64 2, .int .i64 lb, .slice Af f.length cf, .slice As s.length cs, .slice Ar rs.length cr] 51) = w0 at *
   refine wp_region_held_drew (S := (fun w' => w'.cell? ⟨w.heap.size, 1, none⟩ = some (.int .i64 lb) ∧ w'.cell? ⟨w.heap.size, 2, none⟩ = some (.slice Af f.length cf) ∧ w'.cell? ⟨w.heap.size, 3, none⟩ = some (.slice As s.length cs))) (by kernel_rfl) ?_ (fun hHeld => ?_)
   ·
    go_keep
   refine tk 0 16 rfl rfl ?_
   try simp only [pu]
   refine tk 1 17 rfl rfl ?_
   try simp only [pu]
   refine tk 5 21 rfl rfl ?_
   try simp only [pu]
   refine tk 6 22 rfl rfl ?_
   try simp only [pu]
   refine tk 10 26 rfl rfl ?_
   try simp only [pu]
   refine tk 11 27 rfl rfl ?_
   try simp only [pu]
   refine take_ready 2 rfl (by kernel_rfl) (fun K hK => ?_)
   go_simp
   (go_at_call 58; refine (JN.out _).mono ?_; rintro e w1 ⟨rfl, hb1⟩; have hB1 := bl_trans hb0.drew hb1; have HX1 := Lib.hid ((HB.out.below (Below.refl w0.heap.size w0).drew HZ.out).below hb1 (show w.heap.size < w0.drew.heap.size from HZ.out)); have HZ1 := Lib.hid (Nat.lt_of_lt_of_le HZ.out hb1.size); obtain ⟨y0, y1, y2, y3, y4⟩ := HX1.out)
   refine hK.out _ _ ?_ (fun hHeld => ?_)
   ·
    go_keep
   clear hK K
   try simp only [pu]
   refine tk 3 19 rfl rfl ?_
   try simp only [pu]
   refine tk 4 20 rfl rfl ?_
   try simp only [pu]
   refine take_ready 7 rfl (by kernel_rfl) (fun K hK => ?_)
   go_simp
   (go_at_call 120; refine (JF.out w1 hB1).mono ?_; rintro e w2 ⟨rfl, hb2⟩; have hB2 := bl_trans hB1 hb2; have HX2 := Lib.hid (HX1.out.below hb2 HZ1.out); have HZ2 := Lib.hid (Nat.lt_of_lt_of_le HZ1.out hb2.size); obtain ⟨v0, v1, v2, v3, v4⟩ := HX2.out)
   refine hK.out _ _ ?_ (fun hHeld => ?_)
   ·
    go_keep
   clear hK K
   try simp only [pu]
   refine tk 8 24 rfl rfl ?_
   try simp only [pu]
   refine tk 9 25 rfl rfl ?_
   try simp only [pu]
   refine take_ready 12 rfl (by kernel_rfl) (fun K hK => ?_)
   go_simp
   (go_at_call 120; refine (JS.out w2 hB2).mono ?_; rintro e w3 ⟨rfl, hb3⟩; have hB3 := bl_trans hB2 hb3; have HX3 := Lib.hid (HX2.out.below hb3 HZ2.out); obtain ⟨u0, u1, u2, u3, u4⟩ := HX3.out)
   refine hK.out _ _ ?_ (fun hHeld => ?_)
   ·
    go_keep
   clear hK K
   try simp only [pu]
   refine tk 13 29 rfl rfl ?_
   try simp only [pu]
   refine tk 14 2 rfl rfl ?_
   try simp only [pu]
   refine wpAnyH_done (by kernel_rfl) ?_ _
   all_goals
    go_wp2_with fail
    go_ret
    rw [← HT.out]
    exact ⟨rfl, hB3⟩
  ·
   by_cases e1 : cl = 1
   ·
    subst e1
    obtain ⟨T1, hT1⟩ : ∃ T, T = [103, 108, 111, 98, 97, 108, 32] ++ N := ⟨_, rfl⟩
    have lT1 : T1.length ≤ 10000 * 1 := by rw [hT1]; simp only [List.length_append, List.length_cons, List.length_nil]; omega
    have kT1 : ∀ W, (binOp .add 9 (.string ⟨#[103, 108, 111, 98, 97, 108, 32]⟩) (strV N)).run Tryz.prog W = .ok (strV T1) W := by rw [hT1]; exact cat_cv ⟨#[103, 108, 111, 98, 97, 108, 32]⟩ N (by have : (ByteArray.mk #[103, 108, 111, 98, 97, 108, 32]).size = 7 := rfl; omega)
    obtain ⟨T2, hT2⟩ : ∃ T, T = T1 ++ [32] := ⟨_, rfl⟩
    have lT2 : T2.length ≤ 10000 * 2 := by rw [hT2]; simp only [List.length_append, List.length_cons, List.length_nil]; omega
    have kT2 : ∀ W, (binOp .add 9 (strV T1) (.string ⟨#[32]⟩)).run Tryz.prog W = .ok (strV T2) W := by rw [hT2]; exact cat_vc T1 ⟨#[32]⟩ (by have : (ByteArray.mk #[32]).size = 1 := rfl; omega)
    obtain ⟨T3, hT3⟩ : ∃ T, T = T2 ++ F := ⟨_, rfl⟩
    have lT3 : T3.length ≤ 10000 * 3 := by rw [hT3]; simp only [List.length_append, List.length_cons, List.length_nil]; omega
    have kT3 : ∀ W, (binOp .add 9 (strV T2) (strV F)).run Tryz.prog W = .ok (strV T3) W := by rw [hT3]; exact cat_vv T2 F (by omega)
    have HT := Lib.hid (show T3 ++ ranksT rs = certT 1 lb f s rs by rw [hT3, hT2, hT1, NN.out, FF.out]; simp [certT, headT]); clear hT1 hT2 hT3
    obtain ⟨x0, x1, x2, x3, x4⟩ := HB.out
    go_wp2_with fail
    generalize w.alloc (.cells #[.int .i64 1, .int .i64 lb, .slice Af f.length cf, .slice As s.length cs, .slice Ar rs.length cr] 51) = w0 at *
    refine wp_region_held_drew (S := (fun w' => w'.cell? ⟨w.heap.size, 1, none⟩ = some (.int .i64 lb) ∧ w'.cell? ⟨w.heap.size, 2, none⟩ = some (.slice Af f.length cf) ∧ w'.cell? ⟨w.heap.size, 3, none⟩ = some (.slice As s.length cs))) (by kernel_rfl) ?_ (fun hHeld => ?_)
    ·
     go_keep
    refine tk 0 32 rfl rfl ?_
    try simp only [pu]
    refine tk 1 33 rfl rfl ?_
    try simp only [pu]
    refine tk 5 37 rfl rfl ?_
    try simp only [pu]
    refine tk 6 38 rfl rfl ?_
    try simp only [pu]
    refine take_ready 2 rfl (by kernel_rfl) (fun K hK => ?_)
    go_simp
    (go_at_call 58; refine (JN.out _).mono ?_; rintro e w1 ⟨rfl, hb1⟩; have hB1 := bl_trans hb0.drew hb1; have HX1 := Lib.hid ((HB.out.below (Below.refl w0.heap.size w0).drew HZ.out).below hb1 (show w.heap.size < w0.drew.heap.size from HZ.out)); have HZ1 := Lib.hid (Nat.lt_of_lt_of_le HZ.out hb1.size); obtain ⟨y0, y1, y2, y3, y4⟩ := HX1.out)
    refine hK.out _ _ ?_ (fun hHeld => ?_)
    ·
     go_keep
    clear hK K
    try simp only [pu]
    refine tk 3 35 rfl rfl ?_
    try simp only [pu]
    refine tk 4 36 rfl rfl ?_
    try simp only [pu]
    refine take_ready 7 rfl (by kernel_rfl) (fun K hK => ?_)
    go_simp
    (go_at_call 120; refine (JF.out w1 hB1).mono ?_; rintro e w2 ⟨rfl, hb2⟩; have hB2 := bl_trans hB1 hb2; have HX2 := Lib.hid (HX1.out.below hb2 HZ1.out); have HZ2 := Lib.hid (Nat.lt_of_lt_of_le HZ1.out hb2.size); obtain ⟨v0, v1, v2, v3, v4⟩ := HX2.out)
    refine hK.out _ _ ?_ (fun hHeld => ?_)
    ·
     go_keep
    clear hK K
    try simp only [pu]
    refine tk 8 40 rfl rfl ?_
    try simp only [pu]
    refine tk 9 3 rfl rfl ?_
    try simp only [pu]
    refine wpAnyH_done (by kernel_rfl) ?_ _
    go_wp2_with fail
    clear kT1 kT2 kT3
    go_loopw [3, 5, 44] (fun o _ i wr => CtRel T3 rs w o i wr) (fun _ _ i _ => rs.length - (intOf i).toNat)
    case atStart => exact ⟨0, Nat.zero_le _, rfl, by simp [ranksT], hB2⟩
    case round =>
     obtain ⟨k, hk, rfl, rfl, hbl⟩ := hrel
     by_cases hlt : k < rs.length
     ·
      obtain ⟨xs, hx⟩ : ∃ x, rs[k]? = some x := ⟨rs[k], List.getElem?_eq_getElem hlt⟩
      obtain ⟨ad, rfl, hb, hc⟩ := R3.out (by omega)
      obtain ⟨u, hu, hr⟩ := hc k xs hx
      have hcell : wr.cell? (ad.add k) = some u := (hbl.cell (p := ad.add k) (by rw [block_add]; exact hb)).trans hu
      have HR := Lib.hid (show IntsR wr wr.heap.size u xs from (hr.below hbl).more hbl.size)
      clear hc hr hu
      have g1 := HC.out.r.2 xs (List.mem_of_getElem? hx)
      have g2 := numsT_len (sep := [46]) (M := 1000) g1.2
      have g3 := ranksT_len (rs.take k) (fun r hr => HC.out.r.2 r (List.mem_of_mem_take hr))
      have g4 : (rs.take k).length ≤ 12 := by rw [List.length_take]; omega
      have HN := Lib.hid (show T3 ++ ranksT (rs.take (k + 1)) = (T3 ++ ranksT (rs.take k)) ++ 32 :: numsT [46] xs by rw [ranksT_take rs k xs hx, List.append_assoc])
      have g5 : (T3 ++ ranksT (rs.take k)).length ≤ 1000000 := by rw [List.length_append]; omega
      have g6 : (numsT [46] xs).length ≤ 1000000 := by rw [g1.1] at g2; simp only [List.length_cons, List.length_nil] at g2; omega
      have G7 := Lib.hid (show ∀ x ∈ xs, 0 ≤ x ∧ x ≤ 1000000 from fun x hx => by have := g1.2 x hx; omega)
      have g8 : xs.length ≤ 1000 := by have := g1.1; omega
      clear hx g1 g2 g3 g4
      generalize T3 ++ ranksT (rs.take k) = cur at *
      have c1 := fun W => cat_cv ⟨#[32]⟩ (numsT [46] xs) (by have : (ByteArray.mk #[32]).size = 1 := rfl; omega) W
      have c2 := fun W => cat_vv cur (32 :: numsT [46] xs) (by rw [List.length_cons]; omega) W
      go_wp2_with (go_at_call 120; refine (srJoin_any _ xs ⟨#[46]⟩ _ HR.out G7.out g8 (by decide)).mono ?_; rintro e w9 ⟨rfl, hb9⟩)
      go_roundw
      case rel => exact ⟨k + 1, by omega, by go_num, by rw [HN.out], bl_trans hbl hb9⟩
      case measure => simp [intOf]; omega
     ·
      have e1 : rs.take k = rs := List.take_of_length_le (by omega)
      rw [e1]
      clear e1
      go_wp2_with fail
      go_ret
      rw [← HT.out]
      exact ⟨rfl, hbl⟩
   ·
    have d3 : (cl == 3) = false := by rw [beq_eq_false_iff_ne]; exact e3
    have d2 : (cl == 2) = false := by rw [beq_eq_false_iff_ne]; exact e2
    have d1 : (cl == 1) = false := by rw [beq_eq_false_iff_ne]; exact e1
    have HT := Lib.hid (show [110, 101, 118, 101, 114] ++ ranksT rs = certT cl lb f s rs by simp [certT, headT, e3, e2, e1])
    have lT : ([110, 101, 118, 101, 114] : List UInt8).length ≤ 10 := by simp
    obtain ⟨T0, hT0⟩ : ∃ T, T = ([110, 101, 118, 101, 114] : List UInt8) := ⟨_, rfl⟩
    have HT0 := Lib.hid hT0
    rw [← hT0] at HT lT
    clear hT0
    obtain ⟨x0, x1, x2, x3, x4⟩ := HB.out
    go_wp2_with fail
    generalize w.alloc (.cells #[.int .i64 cl, .int .i64 lb, .slice Af f.length cf, .slice As s.length cs, .slice Ar rs.length cr] 51) = w0 at *
    go_loopw [3, 5, 44] (fun o _ i wr => CtRel T0 rs w o i wr) (fun _ _ i _ => rs.length - (intOf i).toNat)
    case atStart => exact ⟨0, Nat.zero_le _, rfl, by rw [HT0.out]; simp [ranksT, strV], hb0⟩
    case round =>
     obtain ⟨k, hk, rfl, rfl, hbl⟩ := hrel
     by_cases hlt : k < rs.length
     ·
      obtain ⟨xs, hx⟩ : ∃ x, rs[k]? = some x := ⟨rs[k], List.getElem?_eq_getElem hlt⟩
      obtain ⟨ad, rfl, hb, hc⟩ := R3.out (by omega)
      obtain ⟨u, hu, hr⟩ := hc k xs hx
      have hcell : wr.cell? (ad.add k) = some u := (hbl.cell (p := ad.add k) (by rw [block_add]; exact hb)).trans hu
      have HR := Lib.hid (show IntsR wr wr.heap.size u xs from (hr.below hbl).more hbl.size)
      clear hc hr hu
      have g1 := HC.out.r.2 xs (List.mem_of_getElem? hx)
      have g2 := numsT_len (sep := [46]) (M := 1000) g1.2
      have g3 := ranksT_len (rs.take k) (fun r hr => HC.out.r.2 r (List.mem_of_mem_take hr))
      have g4 : (rs.take k).length ≤ 12 := by rw [List.length_take]; omega
      have HN := Lib.hid (show T0 ++ ranksT (rs.take (k + 1)) = (T0 ++ ranksT (rs.take k)) ++ 32 :: numsT [46] xs by rw [ranksT_take rs k xs hx, List.append_assoc])
      have g5 : (T0 ++ ranksT (rs.take k)).length ≤ 1000000 := by rw [List.length_append]; omega
      have g6 : (numsT [46] xs).length ≤ 1000000 := by rw [g1.1] at g2; simp only [List.length_cons, List.length_nil] at g2; omega
      have G7 := Lib.hid (show ∀ x ∈ xs, 0 ≤ x ∧ x ≤ 1000000 from fun x hx => by have := g1.2 x hx; omega)
      have g8 : xs.length ≤ 1000 := by have := g1.1; omega
      clear hx g1 g2 g3 g4
      generalize T0 ++ ranksT (rs.take k) = cur at *
      have c1 := fun W => cat_cv ⟨#[32]⟩ (numsT [46] xs) (by have : (ByteArray.mk #[32]).size = 1 := rfl; omega) W
      have c2 := fun W => cat_vv cur (32 :: numsT [46] xs) (by rw [List.length_cons]; omega) W
      go_wp2_with (go_at_call 120; refine (srJoin_any _ xs ⟨#[46]⟩ _ HR.out G7.out g8 (by decide)).mono ?_; rintro e w9 ⟨rfl, hb9⟩)
      go_roundw
      case rel => exact ⟨k + 1, by omega, by go_num, by rw [HN.out], bl_trans hbl hb9⟩
      case measure => simp [intOf]; omega
     ·
      have e1 : rs.take k = rs := List.take_of_length_le (by omega)
      rw [e1]
      clear e1
      go_wp2_with fail
      go_ret
      rw [← HT.out]
      exact ⟨rfl, hbl⟩
end Go.Proofs.YtcfbkickiijjkaaGreatDoor
