/-
  The program's ParseWalk.
-/
import Derived.Test.YtcfbkickiijjkaaGreatDoorVArgsCert
import Derived.Test.YtcfbkickiijjkaaGreatDoorVReadWalk
import Derived.Test.YtcfbkickiijjkaaGreatDoorVPlainWalk
namespace Go.Proofs.YtcfbkickiijjkaaGreatDoor
open Go.RowKit
set_option linter.all false
structure BoxW (w : World) (b : Nat) (x v : Value) : Prop where
  c0 : w.cell? ⟨b, 0, none⟩ = some x
  c1 : w.cell? ⟨b, 1, none⟩ = some v
  f0 : w.frozen? ⟨b, 0, none⟩ = false
  f1 : w.frozen? ⟨b, 1, none⟩ = false
theorem BoxW.below {w w' : World} {b B : Nat} {x v : Value} (h : BoxW w b x v) (hb : Below B w w') (hB : b < B) : BoxW w' b x v :=
  ⟨(hb.cell (p := ⟨b, 0, none⟩) hB).trans h.c0, (hb.cell (p := ⟨b, 1, none⟩) hB).trans h.c1, (hb.frozen (p := ⟨b, 0, none⟩) hB).trans h.f0, (hb.frozen (p := ⟨b, 1, none⟩) hB).trans h.f1⟩
theorem BoxW.new (w : World) (t : TypeId) (x v : Value) : BoxW (w.alloc (.cells #[x, v] t)) w.heap.size x v := by
  have h : (w.alloc (.cells #[x, v] t)).heap[w.heap.size]? = some (.cells #[x, v] t (0, 0)) := heap_alloc_new _ _
  refine ⟨?_, ?_, ?_, ?_⟩
  · rw [World.cell?_alloc_at _ _ _ _ rfl]; rfl
  · rw [World.cell?_alloc_at _ _ _ _ rfl]; rfl
  · unfold World.frozen?; rw [h]; rfl
  · unfold World.frozen?; rw [h]; rfl
theorem tail2 {w : World} {B : Nat} {ad : Addr} {n c : Nat} {u0 u1 : Value} {vs : List Value} (h : SlR w B (.slice (some ad) n c) (u0 :: u1 :: vs)) : SlR w B (.slice (some ⟨ad.block, ad.off + 2, none⟩) vs.length (c - 2)) vs := by
  obtain ⟨A, c', e, h1, h2, h3⟩ := h
  simp only [Value.slice.injEq] at e
  obtain ⟨e1, _, e3⟩ := e
  subst e3
  obtain ⟨ad', e', hb, hc⟩ := h3 (by simp)
  rw [← e1] at e'
  obtain rfl : ad = ad' := by simpa using e'
  simp only [List.length_cons] at h1
  refine ⟨_, c - 2, rfl, by omega, by omega, fun _ => ⟨_, rfl, hb, fun j u hu => ?_⟩⟩
  have := hc (j + 2) u (by simpa using hu)
  have e2 : ad.add (j + 2) = (⟨ad.block, ad.off + 2, none⟩ : Addr).add j := by
    unfold Addr.add
    by_cases hj : j = 0
    · subst hj; simp
    · simp [hj]; omega
  rwa [e2] at this
theorem tail0 (w : World) (B : Nat) (ad : Addr) : SlR w B (.slice (some ad) 0 0) [] := ⟨_, 0, rfl, Nat.zero_le _, Nat.zero_le _, fun h => absurd h (by simp)⟩
theorem add_zero' (a : Addr) : a.add 0 = a := by unfold Addr.add; simp
def PwPost (l : List UInt8) (w : World) (e : Ending) (w' : World) : Prop :=
  ∃ v bs, e = .returned (.tuple #[.agg #[.int .i64 (pwN l), v], .bool (pwB l)]) ∧ OwnRows w' 41 3 v (pwX l) bs ∧ bs.Nodup ∧ (∀ x ∈ bs, w.heap.size ≤ x ∧ x < w'.heap.size) ∧ Below w.heap.size w w'
set_option maxRecDepth 100000 in
set_option maxHeartbeats 1000000 in
theorem impl_ParseWalk (s : ByteArray) (w : World) (hs : s.size ≤ 1048576) (hm : MaxAt w) (hp : Pow10 w) (he : ErrAt w) :
  Calls Tryz.prog 142 #[.string s] w fun e w' => PwPost s.data.toList w e w' := by
 have hsz := Lib.size_eq s
 have HP := Lib.hid hp; clear hp
 have HE := Lib.hid he; clear he
 have HM := Lib.hid hm; clear hm
 have hb0 := bl_alloc (Below.refl w.heap.size w) (.cells #[.int .i64 0, .slice none 0 0] 50)
 have HB0 := Lib.hid (BoxW.new w 50 (.int .i64 0) (.slice none 0 0))
 have HZ0 := Lib.hid (show w.heap.size < (w.alloc (.cells #[.int .i64 0, .slice none 0 0] 50)).heap.size by simp)
 go_enter Tryz.func142, Tryz.ntmps142
 go_wp2_with fail
 generalize w.alloc (.cells #[.int .i64 0, .slice none 0 0] 50) = w0 at *
 refine (split_call s 32 w0 hs (HM.out.below hb0)).mono ?_
 rintro e w1 ⟨v, rfl, hsl, hb1⟩
 have hB1 := bl_trans hb0 hb1
 have HB1 := Lib.hid (HB0.out.below hb1 HZ0.out)
 have HZ1 := Lib.hid (Nat.lt_of_lt_of_le HZ0.out hb1.size)
 have HL := Lib.hid (show ∀ p ∈ spl 32 s.data.toList [], p.length ≤ 1048576 from fun p hp => by have := spl_part 32 _ _ p hp; simp only [List.length_nil] at this; omega)
 have hcnt : (spl 32 s.data.toList []).length ≤ 1048577 := by rw [spl_len]; have := List.count_le_length (a := 32) (l := s.data.toList); omega
 have HNE := Lib.hid (spl_ne 32 s.data.toList [])
 clear hsz
 obtain ⟨ps, hps⟩ : ∃ ps, spl 32 s.data.toList [] = ps := ⟨_, rfl⟩
 rw [hps] at hsl HL hcnt HNE
 have HPS := Lib.hid hps; clear hps
 obtain ⟨c0, c1, c2, c3⟩ := HB1.out
 obtain ⟨A, c, rfl, g1, g2, g3⟩ := hsl.open1
 have HSL := Lib.hid hsl; clear hsl
 rw [List.length_map] at g1 g3
 rw [List.length_map]
 match ps with
 | [] => exact absurd rfl HNE.out
 | [p0] =>
  obtain ⟨e1, e2, e3⟩ := pw_f (show ¬ pwP s.data.toList from fun ⟨a, r, h, _⟩ => by rw [HPS.out] at h; cases h)
  have E1 := Lib.hid e1; clear e1
  have E2 := Lib.hid e2; clear e2
  have E3 := Lib.hid e3; clear e3
  clear g3
  simp only [List.length_cons, List.length_nil] at *
  go_wp2_with fail
  refine bodyPost_ret (v := .tuple #[.agg #[.int .i64 0, .slice none 0 0], .bool false]) (by simp [results, Tryz.results142, go_sem, c0, c1]) rfl ⟨.slice none 0 0, [], by rw [E1.out, E2.out], by rw [E3.out]; exact rows_none _ _ _, List.nodup_nil, (fun _ h => by cases h), ?_⟩
  iterate 2 (refine Below.setCell ?_ (by simp) _)
  exact hB1
 | p0 :: p1 :: rest =>
  simp only [List.length_cons] at *
  obtain ⟨ad, rfl, hb, hc⟩ := g3 (by omega)
  have q0 := hc 0 _ rfl
  rw [add_zero'] at q0
  have q1 : w1.cell? ⟨ad.block, ad.off + 1, none⟩ = some (strV p1) := hc 1 _ rfl
  unfold strV at q0 q1
  clear g3 hc
  unfold maxLen at g2
  have hd : decide ((rest.length : Int) + 1 + 1 < 2) = false := decide_eq_false (by omega)
  by_cases h0 : p0 = walkW
  ·
   have k0 : (p0 == [119, 97, 108, 107]) = true := by rw [h0]; rfl
   have H0 := Lib.hid h0; clear h0
   have hpl := HL.out p1 (by simp)
   have JR := Lib.hid (impl_readNumber ⟨p1.toArray⟩ w1 (by rw [Lib.size_eq]; show p1.length ≤ _; unfold maxLen; omega) (HP.out.below hB1) (HE.out.below hB1))
   by_cases h2 : c = 2
   ·
    subst h2
    have hr0 : rest = [] := List.eq_nil_of_length_eq_zero (by omega)
    subst hr0
    simp only [List.length_nil] at *
    go_wp2_with fail
    refine JR.out.mono ?_
    rintro e w2 ⟨rfl, hb2⟩
    have hB2 := bl_trans hB1 hb2
    have HB2 := Lib.hid (HB1.out.below hb2 HZ1.out)
    have HZ2 := Lib.hid (Nat.lt_of_lt_of_le HZ1.out hb2.size)
    have HSL2 := Lib.hid (show SlR w2 w2.heap.size (.slice (some ad) 0 0) (([] : List (List UInt8)).map strV) from tail0 _ _ _)
    go_wp2_with fail
    refine (impl_splitLists _ 45 ([] : List (List UInt8)) w2 HSL2.out (by first | omega | (simp only [List.length_nil]; omega)) (fun p hp => HL.out p (by simp [hp])) (HM.out.below hB2) (HP.out.below hB2) (HE.out.below hB2)).mono ?_
    rintro e w3 ⟨v3, bs, rfl, ho, hn, hr, hb3⟩
    have hB3 := bl_trans hB2 hb3
    have HB3 := Lib.hid (HB2.out.below hb3 HZ2.out)
    have HZ3 := Lib.hid (Nat.lt_of_lt_of_le HZ2.out hb3.size)
    obtain ⟨A3, m3, k3, rfl⟩ := ho.isSlice
    have HO := Lib.hid ho; clear ho
    have HR := Lib.hid hr; clear hr
    have hb4 := bl_alloc (Below.refl w3.heap.size w3) (.cells #[.int .i64 (rdV p1), .slice A3 m3 k3] 50)
    have HX4 := Lib.hid (BoxW.new w3 50 (.int .i64 (rdV p1)) (.slice A3 m3 k3))
    have HB4 := Lib.hid (HB3.out.below hb4 HZ3.out)
    have HZ4 := Lib.hid (show w3.heap.size < (w3.alloc (.cells #[.int .i64 (rdV p1), .slice A3 m3 k3] 50)).heap.size by simp)
    have HSE := Lib.hid (show (w3.alloc (.cells #[.int .i64 (rdV p1), .slice A3 m3 k3] 50)).heap.size = w3.heap.size + 1 by simp)
    by_cases h1 : canP p1
    ·
     have q2 : canB p1 = true := propB_t h1
     have q3 : rdV p1 = rdI p1 := by rw [rdI_t h1]; unfold rdV; rw [q2]; rfl
     have H1 := Lib.hid h1; clear h1
     have Q3 := Lib.hid q3; clear q3
     rw [q2]
     clear q2
     by_cases h3 : ∀ p ∈ ([] : List (List UInt8)), numsOk 45 p
     ·
      have q4 : okLs 45 ([] : List (List UInt8)) = true := propB_t h3
      have q5 : resLs 45 ([] : List (List UInt8)) = ([] : List (List UInt8)).map (numsR 45) := by unfold resLs; rw [q4]; rfl
      have Q5 := Lib.hid q5; clear q5
      have H3 := Lib.hid h3; clear h3
      rw [q4]
      clear q4
      obtain ⟨d0, d1, d2, d3⟩ := HX4.out
      obtain ⟨b0, b1, b2, b3⟩ := HB4.out
      go_wp2_with fail
      generalize w3.alloc (.cells #[.int .i64 (rdV p1), .slice A3 m3 k3] 50) = w4 at *
      have hB4 := bl_trans hB3 hb4
      have HRW := Lib.hid (show RowsR w4 w4.heap.size (.slice A3 m3 k3) (([] : List (List UInt8)).map (numsR 45)) by
       rw [← Q5.out]
       exact ((HO.out.reads (fun b hb => (HR.out b hb).2)).below hb4).more hb4.size)
      refine (impl_IsWalkProblem (rdV p1) _ (([] : List (List UInt8)).map (numsR 45)) w4 HRW.out).mono ?_
      rintro e w5 ⟨rfl, hb5⟩
      have hB5 := bl_trans hB4 hb5
      obtain ⟨x0, x1, x2, x3⟩ := HX4.out.below hb5 HZ4.out
      obtain ⟨y0, y1, y2, y3⟩ := HB4.out.below hb5 (show w.heap.size < w4.heap.size by have := HZ3.out; have := hb4.size; omega)
      cases q6 : goodB (rdV p1) (([] : List (List UInt8)).map (numsR 45)) with
      | false =>
       obtain ⟨e1, e2, e3⟩ := pw_f (show ¬ pwP s.data.toList from fun h => by have := goodB_t (pw_of HPS.out h).2.2.2; rw [← Q3.out, q6] at this; cases this)
       have E1 := Lib.hid e1; clear e1
       have E2 := Lib.hid e2; clear e2
       have E3 := Lib.hid e3; clear e3
       clear q6
       go_wp2_with fail
       refine bodyPost_ret (v := .tuple #[.agg #[.int .i64 0, .slice none 0 0], .bool false]) (by simp [results, Tryz.results142, go_sem, y0, y1]) rfl ⟨.slice none 0 0, [], by rw [E1.out, E2.out], by rw [E3.out]; exact rows_none _ _ _, List.nodup_nil, (fun _ h => by cases h), ?_⟩
       iterate 2 (refine Below.setCell ?_ (by simp) _)
       exact hB5
      | true =>
       have HG := Lib.hid (goodB_iff.1 q6); clear q6
       obtain ⟨e1, e2, e3⟩ := pw_t HPS.out ⟨p1, ([] : List (List UInt8)), by rw [HPS.out, H0.out], H1.out, H3.out, by rw [← Q3.out]; exact HG.out⟩
       have E1 := Lib.hid e1; clear e1
       have E2 := Lib.hid e2; clear e2
       have E3 := Lib.hid e3; clear e3
       go_wp2_with fail
       refine bodyPost_ret (v := .tuple #[.agg #[.int .i64 (rdV p1), .slice A3 m3 k3], .bool true]) (by simp [results, Tryz.results142, go_sem, y0, y1]) rfl ⟨.slice A3 m3 k3, bs, by rw [E1.out, E2.out, Q3.out], ?_, hn, ?_, ?_⟩
       ·
        rw [E3.out, ← Q5.out]
        refine HO.out.keep fun b hb => ?_
        have := HR.out b hb
        have h7 := HZ2.out
        have h8 := hb4.size
        rw [Below.heap_setCell _ _ _ _ (by simp; omega), Below.heap_setCell _ _ _ _ (by simp; omega), hb5.block b (by omega), hb4.block b (by omega)]
       ·
        intro b hb
        have := HR.out b hb
        have h7 := HZ2.out
        have h8 := hb4.size
        have h9 := hb5.size
        simp only [size_setCell]
        omega
       ·
        iterate 2 (refine Below.setCell ?_ (by simp) _)
        exact hB5
     ·
      have q4 : okLs 45 ([] : List (List UInt8)) = false := propB_f h3
      obtain ⟨e1, e2, e3⟩ := pw_f (show ¬ pwP s.data.toList from fun h => h3 (pw_of HPS.out h).2.2.1)
      rw [q4]
      clear q4 h3
      obtain ⟨b0, b1, b2, b3⟩ := HB4.out
      have E1 := Lib.hid e1; clear e1
      have E2 := Lib.hid e2; clear e2
      have E3 := Lib.hid e3; clear e3
      go_wp2_with fail
      refine bodyPost_ret (v := .tuple #[.agg #[.int .i64 0, .slice none 0 0], .bool false]) (by simp [results, Tryz.results142, go_sem, b0, b1]) rfl ⟨.slice none 0 0, [], by rw [E1.out, E2.out], by rw [E3.out]; exact rows_none _ _ _, List.nodup_nil, (fun _ h => by cases h), ?_⟩
      iterate 2 (refine Below.setCell ?_ (by simp) _)
      exact bl_alloc hB3 _
    ·
     have q2 : canB p1 = false := propB_f h1
     obtain ⟨e1, e2, e3⟩ := pw_f (show ¬ pwP s.data.toList from fun h => h1 (pw_of HPS.out h).2.1)
     rw [q2]
     clear q2 h1
     obtain ⟨b0, b1, b2, b3⟩ := HB4.out
     have E1 := Lib.hid e1; clear e1
     have E2 := Lib.hid e2; clear e2
     have E3 := Lib.hid e3; clear e3
     go_wp2_with fail
     refine bodyPost_ret (v := .tuple #[.agg #[.int .i64 0, .slice none 0 0], .bool false]) (by simp [results, Tryz.results142, go_sem, b0, b1]) rfl ⟨.slice none 0 0, [], by rw [E1.out, E2.out], by rw [E3.out]; exact rows_none _ _ _, List.nodup_nil, (fun _ h => by cases h), ?_⟩
     iterate 2 (refine Below.setCell ?_ (by simp) _)
     exact bl_alloc hB3 _
   ·
    have HC2 := h2
    go_wp2_with fail
    refine JR.out.mono ?_
    rintro e w2 ⟨rfl, hb2⟩
    have hB2 := bl_trans hB1 hb2
    have HB2 := Lib.hid (HB1.out.below hb2 HZ1.out)
    have HZ2 := Lib.hid (Nat.lt_of_lt_of_le HZ1.out hb2.size)
    have HSL2 := Lib.hid (show SlR w2 w2.heap.size (.slice (some ⟨ad.block, ad.off + 2, none⟩) rest.length (c - 2)) (rest.map strV) from by have h := ((tail2 (HSL.out.below hb2)).more hb2.size); rwa [List.length_map] at h)
    go_wp2_with fail
    refine (impl_splitLists _ 45 rest w2 HSL2.out (by first | omega | (simp only [List.length_nil]; omega)) (fun p hp => HL.out p (by simp [hp])) (HM.out.below hB2) (HP.out.below hB2) (HE.out.below hB2)).mono ?_
    rintro e w3 ⟨v3, bs, rfl, ho, hn, hr, hb3⟩
    have hB3 := bl_trans hB2 hb3
    have HB3 := Lib.hid (HB2.out.below hb3 HZ2.out)
    have HZ3 := Lib.hid (Nat.lt_of_lt_of_le HZ2.out hb3.size)
    obtain ⟨A3, m3, k3, rfl⟩ := ho.isSlice
    have HO := Lib.hid ho; clear ho
    have HR := Lib.hid hr; clear hr
    have hb4 := bl_alloc (Below.refl w3.heap.size w3) (.cells #[.int .i64 (rdV p1), .slice A3 m3 k3] 50)
    have HX4 := Lib.hid (BoxW.new w3 50 (.int .i64 (rdV p1)) (.slice A3 m3 k3))
    have HB4 := Lib.hid (HB3.out.below hb4 HZ3.out)
    have HZ4 := Lib.hid (show w3.heap.size < (w3.alloc (.cells #[.int .i64 (rdV p1), .slice A3 m3 k3] 50)).heap.size by simp)
    have HSE := Lib.hid (show (w3.alloc (.cells #[.int .i64 (rdV p1), .slice A3 m3 k3] 50)).heap.size = w3.heap.size + 1 by simp)
    by_cases h1 : canP p1
    ·
     have q2 : canB p1 = true := propB_t h1
     have q3 : rdV p1 = rdI p1 := by rw [rdI_t h1]; unfold rdV; rw [q2]; rfl
     have H1 := Lib.hid h1; clear h1
     have Q3 := Lib.hid q3; clear q3
     rw [q2]
     clear q2
     by_cases h3 : ∀ p ∈ rest, numsOk 45 p
     ·
      have q4 : okLs 45 rest = true := propB_t h3
      have q5 : resLs 45 rest = rest.map (numsR 45) := by unfold resLs; rw [q4]; rfl
      have Q5 := Lib.hid q5; clear q5
      have H3 := Lib.hid h3; clear h3
      rw [q4]
      clear q4
      obtain ⟨d0, d1, d2, d3⟩ := HX4.out
      obtain ⟨b0, b1, b2, b3⟩ := HB4.out
      go_wp2_with fail
      generalize w3.alloc (.cells #[.int .i64 (rdV p1), .slice A3 m3 k3] 50) = w4 at *
      have hB4 := bl_trans hB3 hb4
      have HRW := Lib.hid (show RowsR w4 w4.heap.size (.slice A3 m3 k3) (rest.map (numsR 45)) by
       rw [← Q5.out]
       exact ((HO.out.reads (fun b hb => (HR.out b hb).2)).below hb4).more hb4.size)
      refine (impl_IsWalkProblem (rdV p1) _ (rest.map (numsR 45)) w4 HRW.out).mono ?_
      rintro e w5 ⟨rfl, hb5⟩
      have hB5 := bl_trans hB4 hb5
      obtain ⟨x0, x1, x2, x3⟩ := HX4.out.below hb5 HZ4.out
      obtain ⟨y0, y1, y2, y3⟩ := HB4.out.below hb5 (show w.heap.size < w4.heap.size by have := HZ3.out; have := hb4.size; omega)
      cases q6 : goodB (rdV p1) (rest.map (numsR 45)) with
      | false =>
       obtain ⟨e1, e2, e3⟩ := pw_f (show ¬ pwP s.data.toList from fun h => by have := goodB_t (pw_of HPS.out h).2.2.2; rw [← Q3.out, q6] at this; cases this)
       have E1 := Lib.hid e1; clear e1
       have E2 := Lib.hid e2; clear e2
       have E3 := Lib.hid e3; clear e3
       clear q6
       go_wp2_with fail
       refine bodyPost_ret (v := .tuple #[.agg #[.int .i64 0, .slice none 0 0], .bool false]) (by simp [results, Tryz.results142, go_sem, y0, y1]) rfl ⟨.slice none 0 0, [], by rw [E1.out, E2.out], by rw [E3.out]; exact rows_none _ _ _, List.nodup_nil, (fun _ h => by cases h), ?_⟩
       iterate 2 (refine Below.setCell ?_ (by simp) _)
       exact hB5
      | true =>
       have HG := Lib.hid (goodB_iff.1 q6); clear q6
       obtain ⟨e1, e2, e3⟩ := pw_t HPS.out ⟨p1, rest, by rw [HPS.out, H0.out], H1.out, H3.out, by rw [← Q3.out]; exact HG.out⟩
       have E1 := Lib.hid e1; clear e1
       have E2 := Lib.hid e2; clear e2
       have E3 := Lib.hid e3; clear e3
       go_wp2_with fail
       refine bodyPost_ret (v := .tuple #[.agg #[.int .i64 (rdV p1), .slice A3 m3 k3], .bool true]) (by simp [results, Tryz.results142, go_sem, y0, y1]) rfl ⟨.slice A3 m3 k3, bs, by rw [E1.out, E2.out, Q3.out], ?_, hn, ?_, ?_⟩
       ·
        rw [E3.out, ← Q5.out]
        refine HO.out.keep fun b hb => ?_
        have := HR.out b hb
        have h7 := HZ2.out
        have h8 := hb4.size
        rw [Below.heap_setCell _ _ _ _ (by simp; omega), Below.heap_setCell _ _ _ _ (by simp; omega), hb5.block b (by omega), hb4.block b (by omega)]
       ·
        intro b hb
        have := HR.out b hb
        have h7 := HZ2.out
        have h8 := hb4.size
        have h9 := hb5.size
        simp only [size_setCell]
        omega
       ·
        iterate 2 (refine Below.setCell ?_ (by simp) _)
        exact hB5
     ·
      have q4 : okLs 45 rest = false := propB_f h3
      obtain ⟨e1, e2, e3⟩ := pw_f (show ¬ pwP s.data.toList from fun h => h3 (pw_of HPS.out h).2.2.1)
      rw [q4]
      clear q4 h3
      obtain ⟨b0, b1, b2, b3⟩ := HB4.out
      have E1 := Lib.hid e1; clear e1
      have E2 := Lib.hid e2; clear e2
      have E3 := Lib.hid e3; clear e3
      go_wp2_with fail
      refine bodyPost_ret (v := .tuple #[.agg #[.int .i64 0, .slice none 0 0], .bool false]) (by simp [results, Tryz.results142, go_sem, b0, b1]) rfl ⟨.slice none 0 0, [], by rw [E1.out, E2.out], by rw [E3.out]; exact rows_none _ _ _, List.nodup_nil, (fun _ h => by cases h), ?_⟩
      iterate 2 (refine Below.setCell ?_ (by simp) _)
      exact bl_alloc hB3 _
    ·
     have q2 : canB p1 = false := propB_f h1
     obtain ⟨e1, e2, e3⟩ := pw_f (show ¬ pwP s.data.toList from fun h => h1 (pw_of HPS.out h).2.1)
     rw [q2]
     clear q2 h1
     obtain ⟨b0, b1, b2, b3⟩ := HB4.out
     have E1 := Lib.hid e1; clear e1
     have E2 := Lib.hid e2; clear e2
     have E3 := Lib.hid e3; clear e3
     go_wp2_with fail
     refine bodyPost_ret (v := .tuple #[.agg #[.int .i64 0, .slice none 0 0], .bool false]) (by simp [results, Tryz.results142, go_sem, b0, b1]) rfl ⟨.slice none 0 0, [], by rw [E1.out, E2.out], by rw [E3.out]; exact rows_none _ _ _, List.nodup_nil, (fun _ h => by cases h), ?_⟩
     iterate 2 (refine Below.setCell ?_ (by simp) _)
     exact bl_alloc hB3 _
  ·
   obtain ⟨e1, e2, e3⟩ := pw_f (show ¬ pwP s.data.toList from fun h => h0 (pw_of HPS.out h).1)
   have k0 : (p0 == [119, 97, 108, 107]) = false := by rw [beq_eq_false_iff_ne]; exact h0
   clear h0
   have E1 := Lib.hid e1; clear e1
   have E2 := Lib.hid e2; clear e2
   have E3 := Lib.hid e3; clear e3
   go_wp2_with fail
   refine bodyPost_ret (v := .tuple #[.agg #[.int .i64 0, .slice none 0 0], .bool false]) (by simp [results, Tryz.results142, go_sem, c0, c1]) rfl ⟨.slice none 0 0, [], by rw [E1.out, E2.out], by rw [E3.out]; exact rows_none _ _ _, List.nodup_nil, (fun _ h => by cases h), ?_⟩
   iterate 2 (refine Below.setCell ?_ (by simp) _)
   exact hB1
end Go.Proofs.YtcfbkickiijjkaaGreatDoor
