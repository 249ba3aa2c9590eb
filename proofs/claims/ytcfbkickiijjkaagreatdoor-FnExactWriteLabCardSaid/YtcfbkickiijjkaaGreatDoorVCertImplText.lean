/-
  The program's texts of certificates: certificateText.
-/
import Derived.Test.YtcfbkickiijjkaaGreatDoorVCertTexts
namespace Go.Proofs.YtcfbkickiijjkaaGreatDoor
open Go.RowKit
set_option linter.all false
theorem join_head (a : List UInt8) (ls : List (List UInt8)) : joinL [32] (a :: ls) = a ++ (ls.map fun l => 32 :: l).flatten := by
  rw [← joinL_eq, Lib.join_cons]
  unfold Lib.joinTail
  simp [Function.comp_def]
def headW (cl lb : Int) (f s : List Int) : List (List UInt8) :=
  if cl = 3 then [[99, 111, 110, 115, 116, 97, 110, 116], numT lb] else if cl = 2 then [[115, 116, 97, 114], numT lb, numsT [45] f, numsT [45] s] else if cl = 1 then [[103, 108, 111, 98, 97, 108], numT lb, numsT [45] f] else [[110, 101, 118, 101, 114]]
theorem headW_join (cl lb : Int) (f s : List Int) (rs : List (List Int)) : joinL [32] (headW cl lb f s ++ rs.map (numsT [46])) = certT cl lb f s rs := by
  unfold headW certT headT ranksT
  split
  · simp [join_head, List.map_map, Function.comp_def]
  · split
    · simp [join_head, List.map_map, Function.comp_def]
    · split
      · simp [join_head, List.map_map, Function.comp_def]
      · simp [join_head, List.map_map, Function.comp_def]
def CwRel (hd : List (List UInt8)) (rs : List (List Int)) (w : World) (v i : Value) (wr : World) : Prop :=
  ∃ k : Nat, k ≤ rs.length ∧ i = .int .i64 k ∧ wr.ownsRow w.heap.size 9 1 v (hd.length + k) ((hd ++ (rs.take k).map (numsT [46])).map strV) ∧ Below w.heap.size w wr
set_option maxRecDepth 100000 in
set_option maxHeartbeats 2000000 in
theorem impl_certificateText (vf vs vr : Value) (cl lb : Int) (f s : List Int) (rs : List (List Int)) (w : World) (hf : IntsR w w.heap.size vf f) (hs : IntsR w w.heap.size vs s) (hr : RowsR w w.heap.size vr rs) (hc : CertS cl lb f s rs) (hp : Pow10 w) :
  Calls Tryz.prog 109 #[.agg #[.int .i64 cl, .int .i64 lb, vf, vs, vr]] w fun e w' => e = .returned (strV (certT cl lb f s rs)) ∧ Below w.heap.size w w' := by
 have HC := Lib.hid hc
 have hl := hc.lb
 have n4 := hc.f.1
 have n5 := hc.s.1
 have n6 := hc.r.1
 clear hc
 have HP := Lib.hid hp; clear hp
 have HF := Lib.hid hf
 have HS := Lib.hid hs
 obtain ⟨Af, cf, rfl, f1, f2, f3⟩ := hf.open_
 obtain ⟨As, cs, rfl, s1, s2, s3⟩ := hs.open_
 obtain ⟨Ar, cr, rfl, r1, r2, r3⟩ := hr.open_
 clear f3 s3 hf hs hr
 have R3 := Lib.hid r3; clear r3
 unfold maxLen at f2 s2 r2
 have hb0 := bl_alloc (Below.refl w.heap.size w) (.cells #[.int .i64 cl, .int .i64 lb, .slice Af f.length cf, .slice As s.length cs, .slice Ar rs.length cr] 51)
 have hbx : Box5 (w.alloc (.cells #[.int .i64 cl, .int .i64 lb, .slice Af f.length cf, .slice As s.length cs, .slice Ar rs.length cr] 51)) w.heap.size (.int .i64 cl) (.int .i64 lb) (.slice Af f.length cf) (.slice As s.length cs) (.slice Ar rs.length cr) := by
  refine ⟨?_, ?_, ?_, ?_, ?_⟩
  all_goals
   rw [World.cell?_alloc_at _ _ _ _ rfl]; rfl
 have hsz : w.heap.size < (w.alloc (.cells #[.int .i64 cl, .int .i64 lb, .slice Af f.length cf, .slice As s.length cs, .slice Ar rs.length cr] 51)).heap.size := by simp
 have hse : (w.alloc (.cells #[.int .i64 cl, .int .i64 lb, .slice Af f.length cf, .slice As s.length cs, .slice Ar rs.length cr] 51)).heap.size = w.heap.size + 1 := by simp
 have HB := Lib.hid hbx; clear hbx
 have HZ := Lib.hid hsz; clear hsz
 have HZE := Lib.hid hse; clear hse
 obtain ⟨N, hN⟩ : ∃ N, N = numT lb := ⟨_, rfl⟩
 obtain ⟨F, hF⟩ : ∃ F, F = numsT [45] f := ⟨_, rfl⟩
 obtain ⟨S, hS⟩ : ∃ S, S = numsT [45] s := ⟨_, rfl⟩
 have JN := Lib.hid (fun (W : World) (h : Below w.heap.size w W) => show Calls Tryz.prog 68 #[.int .i64 lb] W fun e w' => e = .returned (.string ⟨N.toArray⟩) ∧ Below W.heap.size W w' by rw [hN]; exact impl_Itoa lb W (by omega) (by omega) (HP.out.below h))
 have JF := Lib.hid (fun (W : World) (h : Below w.heap.size w W) => show Calls Tryz.prog 130 #[.slice Af f.length cf, .string ⟨#[45]⟩] W fun e w' => e = .returned (.string ⟨F.toArray⟩) ∧ Below W.heap.size W w' by
  rw [hF]; exact impl_joinNumbers _ f ⟨#[45]⟩ W ((HF.out.below h).more h.size) (fun x hx => by have := HC.out.f.2 x hx; omega) (by omega) (by decide) (HP.out.below h))
 have JS := Lib.hid (fun (W : World) (h : Below w.heap.size w W) => show Calls Tryz.prog 130 #[.slice As s.length cs, .string ⟨#[45]⟩] W fun e w' => e = .returned (.string ⟨S.toArray⟩) ∧ Below W.heap.size W w' by
  rw [hS]; exact impl_joinNumbers _ s ⟨#[45]⟩ W ((HS.out.below h).more h.size) (fun x hx => by have := HC.out.s.2 x hx; omega) (by omega) (by decide) (HP.out.below h))
 have NN := Lib.hid hN; clear hN
 have FF := Lib.hid hF; clear hF
 have SS := Lib.hid hS; clear hS
 have HJ := Lib.hid (headW_join cl lb f s rs)
 have HLEN := Lib.hid (show (certT cl lb f s rs).length ≤ 1000000 by
  have h1 := headT_len HC.out
  have h2 := ranksT_len rs HC.out.r.2
  unfold certT
  rw [List.length_append]
  omega)
 go_enter Tryz.func109, Tryz.ntmps109
 by_cases e3 : cl = 3
 ·
  subst e3
  obtain ⟨x0, x1, x2, x3, x4⟩ := HB.out
  go_wp2_with fail
  generalize w.alloc (.cells #[.int .i64 3, .int .i64 lb, .slice Af f.length cf, .slice As s.length cs, .slice Ar rs.length cr] 51) = w0 at *
  refine (JN.out _ hb0).mono ?_
  rintro e w1 ⟨rfl, hb1⟩
  have hB1 := bl_trans hb0 hb1
  obtain ⟨y0, y1, y2, y3, y4⟩ := HB.out.below hb1 HZ.out
  have hzz : w.heap.size < w1.heap.size := Nat.lt_of_lt_of_le HZ.out hb1.size
  go_wp2_with fail
  obtain ⟨hd, hhd⟩ : ∃ hd : List (List UInt8), hd = headW 3 lb f s := ⟨_, rfl⟩
  have HHD := Lib.hid hhd; clear hhd
  have hdl : hd.length = 2 := by rw [HHD.out]; simp [headW]
  go_loopw [3, 5, 39] (fun v _ i wr => CwRel hd rs w v i wr) (fun _ _ i _ => rs.length - (intOf i).toNat)
  case atStart =>
   refine ⟨0, Nat.zero_le _, rfl, ⟨by simp [hdl], .inr ⟨w1.heap.size, 2, _, by rw [hdl], by omega, heap_alloc_new w1 _, by omega, by unfold maxLen; omega, ?_, ?_⟩⟩, bl_alloc hB1 _⟩
   ·
    rfl
   ·
    rw [HHD.out]; simp [headW, strV, ← NN.out, ← FF.out, ← SS.out]
  case round =>
   obtain ⟨k, hk, rfl, hown, hbl⟩ := hrel
   by_cases hlt : k < rs.length
   ·
    obtain ⟨xs, hx⟩ : ∃ x, rs[k]? = some x := ⟨rs[k], List.getElem?_eq_getElem hlt⟩
    obtain ⟨ad, rfl, hb, hc⟩ := R3.out (by omega)
    obtain ⟨u, hu, hr⟩ := hc k xs hx
    have hcell : wr.cell? (ad.add k) = some u := (hbl.cell (p := ad.add k) (by rw [block_add]; exact hb)).trans hu
    have HR := Lib.hid (show IntsR wr wr.heap.size u xs from (hr.below hbl).more hbl.size)
    clear hc hr hu
    have g1 := HC.out.r.2 xs (List.mem_of_getElem? hx)
    have G7 := Lib.hid (show ∀ x ∈ xs, 0 ≤ x ∧ x ≤ 1000000 from fun x hx => by have := g1.2 x hx; omega)
    have g8 : xs.length ≤ 1000 := by have := g1.1; omega
    have HN := Lib.hid (show (hd ++ (rs.take (k + 1)).map (numsT [46])).map strV = (hd ++ (rs.take k).map (numsT [46])).map strV ++ [strV (numsT [46] xs)] by
     obtain ⟨hk', rfl⟩ := List.getElem?_eq_some_iff.1 hx
     rw [List.take_succ_eq_append_getElem hk']
     simp only [List.map_append, List.map_cons, List.map_nil, List.append_assoc])
    clear hx g1
    go_wp2_with fail
    refine (impl_joinNumbers _ xs ⟨#[46]⟩ _ HR.out G7.out g8 (by decide) (HP.out.below hbl)).mono ?_
    rintro e w8 ⟨rfl, hb8⟩
    rw [show strV (numsT (ByteArray.mk #[46]).data.toList xs) = Value.string ⟨(numsT [46] xs).toArray⟩ from rfl]
    have hown1 : w8.ownsRow w.heap.size 9 1 u3 (hd.length + k) ((hd ++ (rs.take k).map (numsT [46])).map strV) := hown.kept (row := none) ⟨hb8.os, hb8.tape, hb8.output, hb8.size, fun j hj _ => hb8.block j hj⟩ (by cases h : Value.ownBlock u3 <;> simp)
    have hbl1 := bl_trans hbl hb8
    go_wp2_with ((at_builtin; refine wpList_append1 w8 rfl (.tmp 43) (.tmp 46) 114 rfl w.heap.size 9 _ 16 Tryz.underlying114 strInfo' rfl _ _ _ rfl _ rfl rfl hown1 (by unfold maxLen; omega) (by omega) hbl1.size ?_; intro v' w' hown' hbl' hgr' hlt' hob'))
    go_roundw
    case rel => exact ⟨k + 1, by omega, by go_num, by rw [HN.out]; exact hown', hbl1.trans hbl'⟩
    case measure => simp [intOf]; omega
   ·
    have e1 : rs.take k = rs := List.take_of_length_le (by omega)
    rw [e1] at hown
    have hrd := own_reads hown
    have HJ2 := Lib.hid (show joinL [32] (hd ++ rs.map (numsT [46])) = certT 3 lb f s rs by rw [HHD.out]; exact HJ.out)
    go_wp2_with fail
    refine (join_own _ (hd ++ rs.map (numsT [46])) ⟨#[32]⟩ _ 0 hrd (by simp; omega) (by show (joinL [32] (hd ++ rs.map (numsT [46]))).length ≤ _; rw [HJ2.out]; have := HLEN.out; omega)).mono ?_
    rintro e w9 ⟨rfl, hb9⟩
    rw [show joinL (ByteArray.mk #[32]).data.toList (hd ++ rs.map (numsT [46])) = certT 3 lb f s rs from HJ2.out]
    go_wp2_with fail
    go_ret
    exact ⟨rfl, bl_trans hbl hb9⟩
 ·
  by_cases e2 : cl = 2
  ·
   subst e2
   obtain ⟨x0, x1, x2, x3, x4⟩ := HB.out
   go_wp2_with fail
   generalize w.alloc (.cells #[.int .i64 2, .int .i64 lb, .slice Af f.length cf, .slice As s.length cs, .slice Ar rs.length cr] 51) = w0 at *
   refine wp_region_held_drew (S := (fun w' => w'.cell? ⟨w.heap.size, 1, none⟩ = some (.int .i64 lb) ∧ w'.cell? ⟨w.heap.size, 2, none⟩ = some (.slice Af f.length cf) ∧ w'.cell? ⟨w.heap.size, 3, none⟩ = some (.slice As s.length cs) ∧ w'.cell? ⟨w.heap.size, 4, none⟩ = some (.slice Ar rs.length cr))) (by kernel_rfl) ?_ (fun hHeld => ?_)
   ·
    go_keep
   refine tk 0 17 rfl rfl ?_
   try simp only [pu]
   refine tk 1 18 rfl rfl ?_
   try simp only [pu]
   refine tk 3 20 rfl rfl ?_
   try simp only [pu]
   refine tk 4 21 rfl rfl ?_
   try simp only [pu]
   refine tk 6 23 rfl rfl ?_
   try simp only [pu]
   refine tk 7 24 rfl rfl ?_
   try simp only [pu]
   refine take_ready 2 rfl (by kernel_rfl) (fun K hK => ?_)
   go_simp
   (go_at_call 68; refine (JN.out _ (show Below w.heap.size w w0.drew from hb0.drew)).mono ?_; rintro e w1 ⟨rfl, hb1⟩; have hB1 := bl_trans hb0.drew hb1; have HX1 := Lib.hid ((HB.out.below (Below.refl w0.heap.size w0).drew HZ.out).below hb1 (show w.heap.size < w0.drew.heap.size from HZ.out)); have HZ1 := Lib.hid (Nat.lt_of_lt_of_le HZ.out hb1.size); obtain ⟨y0, y1, y2, y3, y4⟩ := HX1.out)
   refine hK.out _ _ ?_ (fun hHeld => ?_)
   ·
    go_keep
   clear hK K
   try simp only [pu]
   refine take_ready 5 rfl (by kernel_rfl) (fun K hK => ?_)
   go_simp
   (go_at_call 130; refine (JF.out w1 hB1).mono ?_; rintro e w2 ⟨rfl, hb2⟩; have hB2 := bl_trans hB1 hb2; have HX2 := Lib.hid (HX1.out.below hb2 HZ1.out); have HZ2 := Lib.hid (Nat.lt_of_lt_of_le HZ1.out hb2.size); obtain ⟨v0, v1, v2, v3, v4⟩ := HX2.out)
   refine hK.out _ _ ?_ (fun hHeld => ?_)
   ·
    go_keep
   clear hK K
   try simp only [pu]
   refine take_ready 8 rfl (by kernel_rfl) (fun K hK => ?_)
   go_simp
   (go_at_call 130; refine (JS.out w2 hB2).mono ?_; rintro e w3 ⟨rfl, hb3⟩; have hB3 := bl_trans hB2 hb3; have HX3 := Lib.hid (HX2.out.below hb3 HZ2.out); obtain ⟨u0, u1, u2, u3, u4⟩ := HX3.out)
   refine hK.out _ _ ?_ (fun hHeld => ?_)
   ·
    go_keep
   clear hK K
   try simp only [pu]
   refine take_ready 9 rfl (by kernel_rfl) (fun K hK => ?_)
   go_simp
   refine hK.out _ _ ?_ (fun hHeld => ?_)
   ·
    go_keep
   clear hK K
   try simp only [pu]
   refine tk 10 3 rfl rfl ?_
   try simp only [pu]
   refine wpAnyH_done (by kernel_rfl) ?_ _
   have hzz : w.heap.size < w3.heap.size := Nat.lt_of_lt_of_le HZ2.out hb3.size
   go_wp2_with fail
   obtain ⟨hd, hhd⟩ : ∃ hd : List (List UInt8), hd = headW 2 lb f s := ⟨_, rfl⟩
   have HHD := Lib.hid hhd; clear hhd
   have hdl : hd.length = 4 := by rw [HHD.out]; simp [headW]
   go_loopw [3, 5, 39] (fun v _ i wr => CwRel hd rs w v i wr) (fun _ _ i _ => rs.length - (intOf i).toNat)
   case atStart =>
    refine ⟨0, Nat.zero_le _, rfl, ⟨by simp [hdl], .inr ⟨w3.heap.size, 4, _, by rw [hdl], by omega, heap_alloc_new w3 _, by omega, by unfold maxLen; omega, ?_, ?_⟩⟩, bl_alloc hB3 _⟩
    ·
     rfl
    ·
     rw [HHD.out]; simp [headW, strV, ← NN.out, ← FF.out, ← SS.out]
   case round =>
    obtain ⟨k, hk, rfl, hown, hbl⟩ := hrel
    by_cases hlt : k < rs.length
    ·
     obtain ⟨xs, hx⟩ : ∃ x, rs[k]? = some x := ⟨rs[k], List.getElem?_eq_getElem hlt⟩
     obtain ⟨ad, rfl, hb, hc⟩ := R3.out (by omega)
     obtain ⟨u, hu, hr⟩ := hc k xs hx
     have hcell : wr.cell? (ad.add k) = some u := (hbl.cell (p := ad.add k) (by rw [block_add]; exact hb)).trans hu
     have HR := Lib.hid (show IntsR wr wr.heap.size u xs from (hr.below hbl).more hbl.size)
     clear hc hr hu
     have g1 := HC.out.r.2 xs (List.mem_of_getElem? hx)
     have G7 := Lib.hid (show ∀ x ∈ xs, 0 ≤ x ∧ x ≤ 1000000 from fun x hx => by have := g1.2 x hx; omega)
     have g8 : xs.length ≤ 1000 := by have := g1.1; omega
     have HN := Lib.hid (show (hd ++ (rs.take (k + 1)).map (numsT [46])).map strV = (hd ++ (rs.take k).map (numsT [46])).map strV ++ [strV (numsT [46] xs)] by
      obtain ⟨hk', rfl⟩ := List.getElem?_eq_some_iff.1 hx
      rw [List.take_succ_eq_append_getElem hk']
      simp only [List.map_append, List.map_cons, List.map_nil, List.append_assoc])
     clear hx g1
     go_wp2_with fail
     refine (impl_joinNumbers _ xs ⟨#[46]⟩ _ HR.out G7.out g8 (by decide) (HP.out.below hbl)).mono ?_
     rintro e w8 ⟨rfl, hb8⟩
     rw [show strV (numsT (ByteArray.mk #[46]).data.toList xs) = Value.string ⟨(numsT [46] xs).toArray⟩ from rfl]
     have hown1 : w8.ownsRow w.heap.size 9 1 u3 (hd.length + k) ((hd ++ (rs.take k).map (numsT [46])).map strV) := hown.kept (row := none) ⟨hb8.os, hb8.tape, hb8.output, hb8.size, fun j hj _ => hb8.block j hj⟩ (by cases h : Value.ownBlock u3 <;> simp)
     have hbl1 := bl_trans hbl hb8
     go_wp2_with ((at_builtin; refine wpList_append1 w8 rfl (.tmp 43) (.tmp 46) 114 rfl w.heap.size 9 _ 16 Tryz.underlying114 strInfo' rfl _ _ _ rfl _ rfl rfl hown1 (by unfold maxLen; omega) (by omega) hbl1.size ?_; intro v' w' hown' hbl' hgr' hlt' hob'))
     go_roundw
     case rel => exact ⟨k + 1, by omega, by go_num, by rw [HN.out]; exact hown', hbl1.trans hbl'⟩
     case measure => simp [intOf]; omega
    ·
     have e1 : rs.take k = rs := List.take_of_length_le (by omega)
     rw [e1] at hown
     have hrd := own_reads hown
     have HJ2 := Lib.hid (show joinL [32] (hd ++ rs.map (numsT [46])) = certT 2 lb f s rs by rw [HHD.out]; exact HJ.out)
     go_wp2_with fail
     refine (join_own _ (hd ++ rs.map (numsT [46])) ⟨#[32]⟩ _ 0 hrd (by simp; omega) (by show (joinL [32] (hd ++ rs.map (numsT [46]))).length ≤ _; rw [HJ2.out]; have := HLEN.out; omega)).mono ?_
     rintro e w9 ⟨rfl, hb9⟩
     rw [show joinL (ByteArray.mk #[32]).data.toList (hd ++ rs.map (numsT [46])) = certT 2 lb f s rs from HJ2.out]
     go_wp2_with fail
     go_ret
     exact ⟨rfl, bl_trans hbl hb9⟩
  ·
   by_cases e1 : cl = 1
   ·
    subst e1
    obtain ⟨x0, x1, x2, x3, x4⟩ := HB.out
    go_wp2_with fail
    generalize w.alloc (.cells #[.int .i64 1, .int .i64 lb, .slice Af f.length cf, .slice As s.length cs, .slice Ar rs.length cr] 51) = w0 at *
    refine wp_region_held_drew (S := (fun w' => w'.cell? ⟨w.heap.size, 1, none⟩ = some (.int .i64 lb) ∧ w'.cell? ⟨w.heap.size, 2, none⟩ = some (.slice Af f.length cf) ∧ w'.cell? ⟨w.heap.size, 3, none⟩ = some (.slice As s.length cs) ∧ w'.cell? ⟨w.heap.size, 4, none⟩ = some (.slice Ar rs.length cr))) (by kernel_rfl) ?_ (fun hHeld => ?_)
    ·
     go_keep
    refine tk 0 29 rfl rfl ?_
    try simp only [pu]
    refine tk 1 30 rfl rfl ?_
    try simp only [pu]
    refine tk 3 32 rfl rfl ?_
    try simp only [pu]
    refine tk 4 33 rfl rfl ?_
    try simp only [pu]
    refine take_ready 2 rfl (by kernel_rfl) (fun K hK => ?_)
    go_simp
    (go_at_call 68; refine (JN.out _ (show Below w.heap.size w w0.drew from hb0.drew)).mono ?_; rintro e w1 ⟨rfl, hb1⟩; have hB1 := bl_trans hb0.drew hb1; have HX1 := Lib.hid ((HB.out.below (Below.refl w0.heap.size w0).drew HZ.out).below hb1 (show w.heap.size < w0.drew.heap.size from HZ.out)); have HZ1 := Lib.hid (Nat.lt_of_lt_of_le HZ.out hb1.size); obtain ⟨y0, y1, y2, y3, y4⟩ := HX1.out)
    refine hK.out _ _ ?_ (fun hHeld => ?_)
    ·
     go_keep
    clear hK K
    try simp only [pu]
    refine take_ready 5 rfl (by kernel_rfl) (fun K hK => ?_)
    go_simp
    (go_at_call 130; refine (JF.out w1 hB1).mono ?_; rintro e w2 ⟨rfl, hb2⟩; have hB2 := bl_trans hB1 hb2; have HX2 := Lib.hid (HX1.out.below hb2 HZ1.out); have HZ2 := Lib.hid (Nat.lt_of_lt_of_le HZ1.out hb2.size); obtain ⟨v0, v1, v2, v3, v4⟩ := HX2.out)
    refine hK.out _ _ ?_ (fun hHeld => ?_)
    ·
     go_keep
    clear hK K
    try simp only [pu]
    refine take_ready 6 rfl (by kernel_rfl) (fun K hK => ?_)
    go_simp
    refine hK.out _ _ ?_ (fun hHeld => ?_)
    ·
     go_keep
    clear hK K
    try simp only [pu]
    refine tk 7 3 rfl rfl ?_
    try simp only [pu]
    refine wpAnyH_done (by kernel_rfl) ?_ _
    have hzz : w.heap.size < w2.heap.size := HZ2.out
    go_wp2_with fail
    obtain ⟨hd, hhd⟩ : ∃ hd : List (List UInt8), hd = headW 1 lb f s := ⟨_, rfl⟩
    have HHD := Lib.hid hhd; clear hhd
    have hdl : hd.length = 3 := by rw [HHD.out]; simp [headW]
    go_loopw [3, 5, 39] (fun v _ i wr => CwRel hd rs w v i wr) (fun _ _ i _ => rs.length - (intOf i).toNat)
    case atStart =>
     refine ⟨0, Nat.zero_le _, rfl, ⟨by simp [hdl], .inr ⟨w2.heap.size, 3, _, by rw [hdl], by omega, heap_alloc_new w2 _, by omega, by unfold maxLen; omega, ?_, ?_⟩⟩, bl_alloc hB2 _⟩
     ·
      rfl
     ·
      rw [HHD.out]; simp [headW, strV, ← NN.out, ← FF.out, ← SS.out]
    case round =>
     obtain ⟨k, hk, rfl, hown, hbl⟩ := hrel
     by_cases hlt : k < rs.length
     ·
      obtain ⟨xs, hx⟩ : ∃ x, rs[k]? = some x := ⟨rs[k], List.getElem?_eq_getElem hlt⟩
      obtain ⟨ad, rfl, hb, hc⟩ := R3.out (by omega)
      obtain ⟨u, hu, hr⟩ := hc k xs hx
      have hcell : wr.cell? (ad.add k) = some u := (hbl.cell (p := ad.add k) (by rw [block_add]; exact hb)).trans hu
      have HR := Lib.hid (show IntsR wr wr.heap.size u xs from (hr.below hbl).more hbl.size)
      clear hc hr hu
      have g1 := HC.out.r.2 xs (List.mem_of_getElem? hx)
      have G7 := Lib.hid (show ∀ x ∈ xs, 0 ≤ x ∧ x ≤ 1000000 from fun x hx => by have := g1.2 x hx; omega)
      have g8 : xs.length ≤ 1000 := by have := g1.1; omega
      have HN := Lib.hid (show (hd ++ (rs.take (k + 1)).map (numsT [46])).map strV = (hd ++ (rs.take k).map (numsT [46])).map strV ++ [strV (numsT [46] xs)] by
       obtain ⟨hk', rfl⟩ := List.getElem?_eq_some_iff.1 hx
       rw [List.take_succ_eq_append_getElem hk']
       simp only [List.map_append, List.map_cons, List.map_nil, List.append_assoc])
      clear hx g1
      go_wp2_with fail
      refine (impl_joinNumbers _ xs ⟨#[46]⟩ _ HR.out G7.out g8 (by decide) (HP.out.below hbl)).mono ?_
      rintro e w8 ⟨rfl, hb8⟩
      rw [show strV (numsT (ByteArray.mk #[46]).data.toList xs) = Value.string ⟨(numsT [46] xs).toArray⟩ from rfl]
      have hown1 : w8.ownsRow w.heap.size 9 1 u3 (hd.length + k) ((hd ++ (rs.take k).map (numsT [46])).map strV) := hown.kept (row := none) ⟨hb8.os, hb8.tape, hb8.output, hb8.size, fun j hj _ => hb8.block j hj⟩ (by cases h : Value.ownBlock u3 <;> simp)
      have hbl1 := bl_trans hbl hb8
      go_wp2_with ((at_builtin; refine wpList_append1 w8 rfl (.tmp 43) (.tmp 46) 114 rfl w.heap.size 9 _ 16 Tryz.underlying114 strInfo' rfl _ _ _ rfl _ rfl rfl hown1 (by unfold maxLen; omega) (by omega) hbl1.size ?_; intro v' w' hown' hbl' hgr' hlt' hob'))
      go_roundw
      case rel => exact ⟨k + 1, by omega, by go_num, by rw [HN.out]; exact hown', hbl1.trans hbl'⟩
      case measure => simp [intOf]; omega
     ·
      have e1 : rs.take k = rs := List.take_of_length_le (by omega)
      rw [e1] at hown
      have hrd := own_reads hown
      have HJ2 := Lib.hid (show joinL [32] (hd ++ rs.map (numsT [46])) = certT 1 lb f s rs by rw [HHD.out]; exact HJ.out)
      go_wp2_with fail
      refine (join_own _ (hd ++ rs.map (numsT [46])) ⟨#[32]⟩ _ 0 hrd (by simp; omega) (by show (joinL [32] (hd ++ rs.map (numsT [46]))).length ≤ _; rw [HJ2.out]; have := HLEN.out; omega)).mono ?_
      rintro e w9 ⟨rfl, hb9⟩
      rw [show joinL (ByteArray.mk #[32]).data.toList (hd ++ rs.map (numsT [46])) = certT 1 lb f s rs from HJ2.out]
      go_wp2_with fail
      go_ret
      exact ⟨rfl, bl_trans hbl hb9⟩
   ·
    have d3 : (cl == 3) = false := by rw [beq_eq_false_iff_ne]; exact e3
    have d2 : (cl == 2) = false := by rw [beq_eq_false_iff_ne]; exact e2
    have d1 : (cl == 1) = false := by rw [beq_eq_false_iff_ne]; exact e1
    have hzz : w.heap.size < w.heap.size + 1 := by omega
    obtain ⟨x0, x1, x2, x3, x4⟩ := HB.out
    go_wp2_with fail
    generalize w.alloc (.cells #[.int .i64 cl, .int .i64 lb, .slice Af f.length cf, .slice As s.length cs, .slice Ar rs.length cr] 51) = w0 at *
    have hzz2 := HZ.out
    obtain ⟨hd, hhd⟩ : ∃ hd : List (List UInt8), hd = headW cl lb f s := ⟨_, rfl⟩
    have HHD := Lib.hid hhd; clear hhd
    have hdl : hd.length = 1 := by rw [HHD.out]; simp [headW, e3, e2, e1]
    go_loopw [3, 5, 39] (fun v _ i wr => CwRel hd rs w v i wr) (fun _ _ i _ => rs.length - (intOf i).toNat)
    case atStart =>
     refine ⟨0, Nat.zero_le _, rfl, ⟨by simp [hdl], .inr ⟨w0.heap.size, 1, _, by rw [hdl, HZE.out], by omega, heap_alloc_new w0 _, by omega, by unfold maxLen; omega, ?_, ?_⟩⟩, bl_alloc hb0 _⟩
     ·
      rfl
     ·
      rw [HHD.out]; simp [headW, e3, e2, e1, strV, ← NN.out, ← FF.out, ← SS.out]
    case round =>
     obtain ⟨k, hk, rfl, hown, hbl⟩ := hrel
     by_cases hlt : k < rs.length
     ·
      obtain ⟨xs, hx⟩ : ∃ x, rs[k]? = some x := ⟨rs[k], List.getElem?_eq_getElem hlt⟩
      obtain ⟨ad, rfl, hb, hc⟩ := R3.out (by omega)
      obtain ⟨u, hu, hr⟩ := hc k xs hx
      have hcell : wr.cell? (ad.add k) = some u := (hbl.cell (p := ad.add k) (by rw [block_add]; exact hb)).trans hu
      have HR := Lib.hid (show IntsR wr wr.heap.size u xs from (hr.below hbl).more hbl.size)
      clear hc hr hu
      have g1 := HC.out.r.2 xs (List.mem_of_getElem? hx)
      have G7 := Lib.hid (show ∀ x ∈ xs, 0 ≤ x ∧ x ≤ 1000000 from fun x hx => by have := g1.2 x hx; omega)
      have g8 : xs.length ≤ 1000 := by have := g1.1; omega
      have HN := Lib.hid (show (hd ++ (rs.take (k + 1)).map (numsT [46])).map strV = (hd ++ (rs.take k).map (numsT [46])).map strV ++ [strV (numsT [46] xs)] by
       obtain ⟨hk', rfl⟩ := List.getElem?_eq_some_iff.1 hx
       rw [List.take_succ_eq_append_getElem hk']
       simp only [List.map_append, List.map_cons, List.map_nil, List.append_assoc])
      clear hx g1
      go_wp2_with fail
      refine (impl_joinNumbers _ xs ⟨#[46]⟩ _ HR.out G7.out g8 (by decide) (HP.out.below hbl)).mono ?_
      rintro e w8 ⟨rfl, hb8⟩
      rw [show strV (numsT (ByteArray.mk #[46]).data.toList xs) = Value.string ⟨(numsT [46] xs).toArray⟩ from rfl]
      have hown1 : w8.ownsRow w.heap.size 9 1 u3 (hd.length + k) ((hd ++ (rs.take k).map (numsT [46])).map strV) := hown.kept (row := none) ⟨hb8.os, hb8.tape, hb8.output, hb8.size, fun j hj _ => hb8.block j hj⟩ (by cases h : Value.ownBlock u3 <;> simp)
      have hbl1 := bl_trans hbl hb8
      go_wp2_with ((at_builtin; refine wpList_append1 w8 rfl (.tmp 43) (.tmp 46) 114 rfl w.heap.size 9 _ 16 Tryz.underlying114 strInfo' rfl _ _ _ rfl _ rfl rfl hown1 (by unfold maxLen; omega) (by omega) hbl1.size ?_; intro v' w' hown' hbl' hgr' hlt' hob'))
      go_roundw
      case rel => exact ⟨k + 1, by omega, by go_num, by rw [HN.out]; exact hown', hbl1.trans hbl'⟩
      case measure => simp [intOf]; omega
     ·
      have e1 : rs.take k = rs := List.take_of_length_le (by omega)
      rw [e1] at hown
      have hrd := own_reads hown
      have HJ2 := Lib.hid (show joinL [32] (hd ++ rs.map (numsT [46])) = certT cl lb f s rs by rw [HHD.out]; exact HJ.out)
      go_wp2_with fail
      refine (join_own _ (hd ++ rs.map (numsT [46])) ⟨#[32]⟩ _ 0 hrd (by simp; omega) (by show (joinL [32] (hd ++ rs.map (numsT [46]))).length ≤ _; rw [HJ2.out]; have := HLEN.out; omega)).mono ?_
      rintro e w9 ⟨rfl, hb9⟩
      rw [show joinL (ByteArray.mk #[32]).data.toList (hd ++ rs.map (numsT [46])) = certT cl lb f s rs from HJ2.out]
      go_wp2_with fail
      go_ret
      exact ⟨rfl, bl_trans hbl hb9⟩
end Go.Proofs.YtcfbkickiijjkaaGreatDoor
