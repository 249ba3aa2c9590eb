/-
  Complete rounds: the reference's CompleteRounds, the program's CompleteRounds. No condition but that the network is not larger than memory.
-/
import Derived.Test.YtehkcodbcnhhoaaGreatEStartX
import Derived.Test.YtehkcodbcnhhoaaGreatEPlayW
import Derived.Test.YtehkcodbcnhhoaaGreatEDoRes
namespace Go.Proofs.YtehkcodbcnhhoaaGreat
open Go.RowKit
set_option linter.all false
noncomputable def rdB (m : Mach) (n : Net) (r : Int) : Bool := fitB m n && inB r 0 40
noncomputable def rdX (m : Mach) (n : Net) (r : Int) : Asy := if rdB m n r = true then roundsX m n r.toNat else emA
theorem rd_no {m : Mach} {n : Net} {r : Int} (h : rdB m n r = false) : rdX m n r = emA := by unfold rdX; rw [h]; rfl
theorem rd_yes {m : Mach} {n : Net} {r : Nat} (h : rdB m n r = true) : rdX m n r = roundsX m n r := by unfold rdX; rw [h]; rfl
theorem roundA_len {n : Net} (hq : netP n) : (roundA n).length ≤ 1000 := by
  have h1 := portActs_len hq 1 n.es.length (Nat.le_refl _)
  have h2 := portActs_len hq 2 n.es.length (Nat.le_refl _)
  have h3 := stepActs_len n.es.length
  have h4 := hq.1.2
  unfold roundA
  rw [List.length_append, List.length_append]
  omega
def RdRel (m : Mach) (n : Net) (base r P : Nat) (w : World) (i : Value) (wr : World) : Prop :=
  ∃ (d j : Nat) (val : Key → Value), d + j = r ∧ i = .int .i64 (d : Int) ∧ AsyB wr base val (roundsX m n j) P ∧ w.grownBy wr (some P)
set_option maxRecDepth 100000 in
set_option maxHeartbeats 4000000 in
theorem spec_CompleteRounds (vs ve vc vo : Value) (m : Mach) (ne ni nn : Value) (n : Net) (r : Int) (w : World) (hm : MachR w w.heap.size vs ve vc vo m) (hn : NetR w w.heap.size ne ni nn n) (hz : n.es.length ≤ 2000000) :
  Calls Tryz.prog 6 #[machV vs ve vc vo m, .agg #[ne, ni, nn], .int .i64 r] w fun e w' => ∃ val, e = .returned (.tuple #[.agg #[val .r, val .b, val .n, val .s, val .f], .bool (rdB m n r)]) ∧ AsyK w' w.heap.size val (rdX m n r) ∧ Below w.heap.size w w' := by
 unfold machV
 have HMM := Lib.hid hm
 have HNN := Lib.hid hn
 obtain ⟨⟨A0, m0, c0, rfl⟩, ⟨A1, m1, c1, rfl⟩, ⟨A2, m2, c2, rfl⟩, A3, m3, c3, rfl⟩ := hm.slices
 obtain ⟨⟨A4, m4, c4, rfl⟩, ⟨A5, m5, c5, rfl⟩, A6, m6, c6, rfl⟩ := hn.slices
 obtain ⟨w0, hw0, hb0, HM, hz0, HS0⟩ := box7 w (.int .i64 m.deg) (.int .i64 m.st) (.int .i64 m.msg) (.slice A0 m0 c0) (.slice A1 m1 c1) (.slice A2 m2 c2) (.slice A3 m3 c3) 39
 obtain ⟨w1, hw1, hb1, HD, hz1, HS1⟩ := box3 w0 (.slice A4 m4 c4) (.slice A5 m5 c5) (.slice A6 m6 c6) 43
 replace HM := bk HM hb1
 have hB : Below w.heap.size w w1 := bl_trans (hb0) hb1
 have HW := Lib.hid (show w1 = (w.alloc (.cells #[.int .i64 m.deg, .int .i64 m.st, .int .i64 m.msg, .slice A0 m0 c0, .slice A1 m1 c1, .slice A2 m2 c2, .slice A3 m3 c3] 39)).alloc (.cells #[.slice A4 m4 c4, .slice A5 m5 c5, .slice A6 m6 c6] 43) by rw [hw1, hw0])
 obtain ⟨P1, hP1⟩ : ∃ z, z = w0.heap.size := ⟨_, rfl⟩
 have HP1 := Lib.hid (show w.heap.size + 1 = P1 by rw [hP1, HS0.out])
 have hPl1 : w.heap.size < P1 := by rw [← HP1.out]; omega
 rw [← hP1] at HD hz1
 obtain ⟨⟨g0, g1, g2⟩, ⟨g3, g4, g5, g6⟩, gf⟩ := cells7 HM
 obtain ⟨q0, q1, q2, qf⟩ := cells3 HD
 have eg0 := g0
 have eg1 := g1
 have eg2 := g2
 have eg3 := g3
 have eg4 := g4
 have eg5 := g5
 have eg6 := g6
 have eq0 := q0
 have eq1 := q1
 have eq2 := q2
 rw [HW.out] at eg0 eg1 eg2 eg3 eg4 eg5 eg6 eq0 eq1 eq2
 rw [← HP1.out] at eq0 eq1 eq2
 have hzb0 : w.heap.size < w1.heap.size := by omega
 have hzb1 : P1 < w1.heap.size := by omega
 have HR := Lib.hid (hm.up hB)
 have HN := Lib.hid (hn.up hB)
 clear hw1 hw0 hP1
 obtain ⟨w2, hw2, hb2, HQ, hz2, HS2⟩ := box5 w1 nilV nilV nilV nilV nilV 34
 unfold nilV at hw2 HQ
 obtain ⟨P2, hP2⟩ : ∃ z, z = w1.heap.size := ⟨_, rfl⟩
 have HP2 := Lib.hid (show P1 + 1 = P2 by rw [hP2, HS1.out, HS0.out, ← HP1.out])
 rw [← hP2] at HQ hz2
 have HW2 := Lib.hid hw2
 have hP12 : P1 < P2 := by rw [← HP2.out]; omega
 have HM2 := bk HM hb2
 have HD2 := bk HD hb2
 clear g0 g1 g2 g3 g4 g5 g6 gf q0 q1 q2 qf
 obtain ⟨⟨g0, g1, g2⟩, ⟨g3, g4, g5, g6⟩, gf⟩ := cells7 HM2
 obtain ⟨q0, q1, q2, qf⟩ := cells3 HD2
 rw [hw2] at g0 g1 g2 g3 g4 g5 g6 q0 q1 q2
 rw [HW.out] at g0 g1 g2 g3 g4 g5 g6 q0 q1 q2
 rw [← HP1.out] at q0 q1 q2
 clear hw2 hP2
 go_enter Tryz.func6, Tryz.ntmps6
 go_wp2_with fail
 rw [HP1.out, HP2.out, ← HW.out, ← HW2.out]
 replace HM := HM2
 replace HD := HD2
 replace hB := bl_trans hB hb2
 clear g0 g1 g2 g3 g4 g5 g6 gf q0 q1 q2 qf HM2 HD2 HR HN
 have hC := spec_maAsked _ _ _ _ m _ _ _ n w2 (HMM.out.up hB) (HNN.out.up hB) hz
 unfold machV at hC
 refine hC.mono ?_
 clear hC
 rintro e w3 ⟨rfl, hb3⟩
 replace HM := bk HM hb3
 replace HD := bk HD hb3
 replace HQ := bk HQ hb3
 replace hB := bl_trans hB hb3
 have hz3 := hb3.size
 have hbad : rdB m n r = false → ∀ we, we.heap[P2]? = some (.cells #[.slice none 0 0, .slice none 0 0, .slice none 0 0, .slice none 0 0, .slice none 0 0] 34 (0, 0)) → Below w.heap.size w we →
   ∃ val : Key → Value, Ending.returned (.tuple #[.agg #[.slice none 0 0, .slice none 0 0, .slice none 0 0, .slice none 0 0, .slice none 0 0], .bool false]) = Ending.returned (.tuple #[.agg #[val .r, val .b, val .n, val .s, val .f], .bool (rdB m n r)]) ∧ AsyK we w.heap.size val (rdX m n r) ∧ Below w.heap.size w we := fun h we _ hb =>
  ⟨fun _ => nilV, by rw [h]; rfl, by rw [rd_no h]; exact nilAsyK _ _, hb⟩
 have HBAD := Lib.hid hbad
 clear hbad
 obtain ⟨⟨p0, p1, p2⟩, ⟨p3, p4⟩, pf⟩ := cells5 HQ
 cases hf : fitB m n with
 | false =>
  have hrd : rdB m n r = false := by unfold rdB; rw [hf]; rfl
  clear hf
  obtain ⟨we, hwe, HE, hge⟩ := set5 HQ (.slice none 0 0) (.slice none 0 0) (.slice none 0 0) (.slice none 0 0) (.slice none 0 0)
  have HWE := Lib.hid hwe
  have HRD := Lib.hid hrd
  clear hwe hrd
  go_wp2_with fail
  rw [← HWE.out]
  obtain ⟨⟨s0, s1, s2⟩, ⟨s3, s4⟩, -⟩ := cells5 HE
  have hBE : Below w.heap.size w we := Below.grown hB hge (by omega) (fun k hk => by have e := Option.some.inj (show some P2 = some k from hk); omega)
  exact bodyPost_ret (v := .tuple #[.agg #[.slice none 0 0, .slice none 0 0, .slice none 0 0, .slice none 0 0, .slice none 0 0], .bool false]) (by simp [results, Tryz.results6, go_sem, s0, s1, s2, s3, s4]) rfl (HBAD.out HRD.out we HE.out hBE)
 | true =>
  have HF := Lib.hid hf
  clear hf
  go_wp2_with fail
  refine (spec_l1In _ _ _ _).mono ?_
  rintro e w' ⟨rfl, rfl⟩
  cases h1 : inB r 0 40 with
  | false =>
   have hrd : rdB m n r = false := by unfold rdB; rw [h1, Bool.and_false]
   clear h1
   obtain ⟨we, hwe, HE, hge⟩ := set5 HQ (.slice none 0 0) (.slice none 0 0) (.slice none 0 0) (.slice none 0 0) (.slice none 0 0)
   have HWE := Lib.hid hwe
   have HRD := Lib.hid hrd
   clear hwe hrd
   go_wp2_with fail
   rw [← HWE.out]
   obtain ⟨⟨s0, s1, s2⟩, ⟨s3, s4⟩, -⟩ := cells5 HE
   have hBE : Below w.heap.size w we := Below.grown hB hge (by omega) (fun k hk => by have e := Option.some.inj (show some P2 = some k from hk); omega)
   exact bodyPost_ret (v := .tuple #[.agg #[.slice none 0 0, .slice none 0 0, .slice none 0 0, .slice none 0 0, .slice none 0 0], .bool false]) (by simp [results, Tryz.results6, go_sem, s0, s1, s2, s3, s4]) rfl (HBAD.out HRD.out we HE.out hBE)
  | true =>
   have HRD := Lib.hid (show rdB m n r = true by unfold rdB; rw [HF.out, h1]; rfl)
   have HI := Lib.hid h1
   clear h1
   obtain ⟨⟨g0, g1, g2⟩, ⟨g3, g4, g5, g6⟩, gf⟩ := cells7 HM
   obtain ⟨q0, q1, q2, qf⟩ := cells3 HD
   obtain ⟨q, rfl⟩ : ∃ q : Nat, r = q := ⟨r.toNat, by have := inBt HI.out; omega⟩
   have hq40 : q ≤ 40 := by have := inBt HI.out; omega
   have hfit : fitP m n := propB_iff.1 HF.out
   have HFIT := Lib.hid hfit
   go_wp2_with fail
   have hC := spec_syStart _ _ _ _ m _ _ _ n w3 (HMM.out.up hB) (HNN.out.up hB) hfit
   unfold machV at hC
   refine hC.mono ?_
   clear hC hfit g0 g1 g2 g3 g4 g5 g6 gf q0 q1 q2 qf p0 p1 p2 p3 p4 pf
   rintro e w4 ⟨v0, rfl, hk4, hb4⟩
   obtain ⟨C10, f10, er⟩ := own_sl1 (hk4.own .r trivial)
   obtain ⟨C11, f11, eb⟩ := own_sl1 (hk4.own .b trivial)
   obtain ⟨C12, f12, en⟩ := own_sl1 (hk4.own .n trivial)
   obtain ⟨C8, f8, es⟩ := own_sl1 (hk4.own .s trivial)
   obtain ⟨C9, f9, ef⟩ := own_sl1 (hk4.own .f trivial)
   have HEN := Lib.hid (And.intro er (And.intro eb (And.intro en (And.intro es ef))))
   rw [er, eb, en, es, ef]
   clear er eb en es ef
   generalize (rowK (startX m n) v0 .r).len = l10 at HEN ⊢
   generalize (rowK (startX m n) v0 .b).len = l11 at HEN ⊢
   generalize (rowK (startX m n) v0 .n).len = l12 at HEN ⊢
   generalize (rowK (startX m n) v0 .s).len = l8 at HEN ⊢
   generalize (rowK (startX m n) v0 .f).len = l9 at HEN ⊢
   have hz4 := hb4.size
   obtain ⟨w5, hw5, hb5, HX, hz5, HS5⟩ := box5 w4 (.slice C10 l10 f10) (.slice C11 l11 f11) (.slice C12 l12 f12) (.slice C8 l8 f8) (.slice C9 l9 f9) 34
   obtain ⟨P8, hP8⟩ : ∃ z, z = w4.heap.size := ⟨_, rfl⟩
   have HP8 := Lib.hid hP8
   rw [← hP8] at HX hz5
   have HW5 := Lib.hid hw5
   have HK5 := Lib.hid (show AsyB w5 w.heap.size v0 (startX m n) P8 from ⟨OwnK.mono (AsyK.up hk4 hb5) hB.size, fun j hj e => by have := ((hk4.own j hj).lt P8 e).2; omega, by rw [HEN.out.1, HEN.out.2.1, HEN.out.2.2.1, HEN.out.2.2.2.1, HEN.out.2.2.2.2]; exact HX.out⟩)
   clear hw5 hP8 hk4
   have hb35 := bl_trans hb4 hb5
   replace HM := bk HM hb35
   replace HD := bk HD hb35
   replace HQ := bk HQ hb35
   replace hB := bl_trans hB hb35
   go_wp2_with fail
   rw [← HP8.out, ← HW5.out]
   go_loopw [2] (fun i wr => RdRel m n w.heap.size q P8 w5 i wr) (fun i _ => (intOf i).toNat)
   case atStart => exact ⟨q, 0, v0, rfl, rfl, HK5.out, ⟨rfl, rfl, rfl, Nat.le_refl _, fun _ _ _ => rfl⟩⟩
   case round =>
    obtain ⟨d, j, vk, hdj, rfl, hk, hgr⟩ := hrel
    have hsz := hgr.size
    have hwP8 : w3.heap.size ≤ P8 := by rw [HP8.out]; exact hz4
    have hBr : Below w.heap.size w wr := Below.grown hB hgr (by omega) (fun k hk => by have e := Option.some.inj (show some P8 = some k from hk); omega)
    have HMr := Lib.hid ((hgr.block w.heap.size (by omega) (fun e => by have := Option.some.inj e; omega)).trans HM.out)
    have HDr := Lib.hid ((hgr.block P1 (by omega) (fun e => by have := Option.some.inj e; omega)).trans HD.out)
    have HQr := Lib.hid ((hgr.block P2 (by omega) (fun e => by have := Option.some.inj e; omega)).trans HQ.out)
    have HK := Lib.hid hk
    have hPr := hk.lt
    obtain ⟨B10, d10, er⟩ := own_sl1 (hk.k.own .r trivial)
    obtain ⟨B11, d11, eb⟩ := own_sl1 (hk.k.own .b trivial)
    obtain ⟨B12, d12, en⟩ := own_sl1 (hk.k.own .n trivial)
    obtain ⟨B8, d8, es⟩ := own_sl1 (hk.k.own .s trivial)
    obtain ⟨B9, d9, ef⟩ := own_sl1 (hk.k.own .f trivial)
    have hbx := hk.box
    have HEK := Lib.hid (And.intro er (And.intro eb (And.intro en (And.intro es ef))))
    rw [er, eb, en, es, ef] at hbx
    clear er eb en es ef
    generalize (rowK (roundsX m n j) vk .r).len = n10 at HEK hbx
    generalize (rowK (roundsX m n j) vk .b).len = n11 at HEK hbx
    generalize (rowK (roundsX m n j) vk .n).len = n12 at HEK hbx
    generalize (rowK (roundsX m n j) vk .s).len = n8 at HEK hbx
    generalize (rowK (roundsX m n j) vk .f).len = n9 at HEK hbx
    have HYr := Lib.hid hbx
    clear hk hbx
    obtain ⟨⟨y0, y1, y2⟩, ⟨y3, y4⟩, yf⟩ := cells5 HYr
    by_cases h0 : 0 < d
    ·
     obtain ⟨d', rfl⟩ : ∃ z, d = z + 1 := ⟨d - 1, by omega⟩
     have k1 : (((d' + 1 : Nat) : Int) > 0) = True := eq_true (by omega)
     obtain ⟨⟨g0, g1, g2⟩, ⟨g3, g4, g5, g6⟩, gf⟩ := cells7 HMr
     obtain ⟨q0, q1, q2, qf⟩ := cells3 HDr
     have hdw : IntKind.i64.wrap (((d' + 1 : Nat) : Int) - 1) = (d' : Int) := by rw [IntWalk.i64_in _ (by omega)]; omega
     go_wp2_with fail
     refine till_region (S := fun w' => w'.cell? ⟨w.heap.size, 0, none⟩ = some (.int .i64 m.deg) ∧ w'.cell? ⟨w.heap.size, 1, none⟩ = some (.int .i64 m.st) ∧ w'.cell? ⟨w.heap.size, 2, none⟩ = some (.int .i64 m.msg) ∧ w'.cell? ⟨w.heap.size, 3, none⟩ = some (.slice A0 m0 c0) ∧ w'.cell? ⟨w.heap.size, 4, none⟩ = some (.slice A1 m1 c1) ∧ w'.cell? ⟨w.heap.size, 5, none⟩ = some (.slice A2 m2 c2) ∧ w'.cell? ⟨w.heap.size, 6, none⟩ = some (.slice A3 m3 c3) ∧ w'.cell? ⟨P1, 0, none⟩ = some (.slice A4 m4 c4) ∧ w'.cell? ⟨P1, 1, none⟩ = some (.slice A5 m5 c5) ∧ w'.cell? ⟨P1, 2, none⟩ = some (.slice A6 m6 c6) ∧ w'.cell? ⟨P8, 0, none⟩ = some (.slice B10 n10 d10) ∧ w'.cell? ⟨P8, 1, none⟩ = some (.slice B11 n11 d11) ∧ w'.cell? ⟨P8, 2, none⟩ = some (.slice B12 n12 d12) ∧ w'.cell? ⟨P8, 3, none⟩ = some (.slice B8 n8 d8) ∧ w'.cell? ⟨P8, 4, none⟩ = some (.slice B9 n9 d9)) (st := 9) (by kernel_rfl) ⟨g0, g1, g2, g3, g4, g5, g6, q0, q1, q2, y0, y1, y2, y3, y4⟩ (fun hHeld => ?_)
     refine utk 0 27 ?_
     refine utk 1 28 ?_
     refine utk 2 29 ?_
     refine utk 3 30 ?_
     refine ur 4 rfl (by kernel_rfl) (fun K hK => ?_)
     go_simp
     go_at_call 25
     refine (spec_syActs _ _ _ n wr.drew (HNN.out.up hBr.drew) HFIT.out.2.1).mono ?_
     rintro e w6 ⟨v6, rfl, ha6, hb6'⟩
     have hb6 : Below wr.heap.size wr w6 := (Below.refl _ _).drew.trans hb6'
     have HA6 := Lib.hid ha6
     have hz6 := hb6.size
     have hB6 := bl_trans hBr hb6
     clear ha6 hb6'
     clear g0 g1 g2 g3 g4 g5 g6 gf q0 q1 q2 qf y0 y1 y2 y3 y4 yf
     have HM6 := bk HMr hb6
     have HD6 := bk HDr hb6
     have HY6 := bk HYr hb6
     have HQ6 := bk HQr hb6
     obtain ⟨⟨g0, g1, g2⟩, ⟨g3, g4, g5, g6⟩, gf⟩ := cells7 HM6
     obtain ⟨q0, q1, q2, qf⟩ := cells3 HD6
     obtain ⟨⟨y0, y1, y2⟩, ⟨y3, y4⟩, yf⟩ := cells5 HY6
     refine hK.out (fun _ => ⟨g0, g1, g2, g3, g4, g5, g6, q0, q1, q2, y0, y1, y2, y3, y4⟩) ?_
     clear hK K
     try simp only [Act.put, pu]
     refine ur 5 rfl (by kernel_rfl) (fun K hK => ?_)
     go_simp
     go_at_call 24
     have hC := spec_syPlay _ _ _ _ m _ _ _ n vk (roundsX m n j) v6 (roundA n) w.heap.size _ w6 (HMM.out.up hB6) (HNN.out.up hB6) (AsyK.up HK.out.k hb6) (by omega) HA6.out (roundA_len HFIT.out.2.1) (good_rounds HFIT.out j)
     unfold machV at hC
     rw [HEK.out.1, HEK.out.2.1, HEK.out.2.2.1, HEK.out.2.2.2.1, HEK.out.2.2.2.2] at hC
     refine hC.mono ?_
     clear hC
     rintro e w7 ⟨v7, u7, rfl, hk7, hb7⟩
     replace hk7 : AsyK w7 w.heap.size v7 (roundsX m n (j + 1)) := hk7
     have HK7 := Lib.hid hk7
     obtain ⟨G10, e10, er⟩ := own_sl1 (hk7.own .r trivial)
     obtain ⟨G11, e11, eb⟩ := own_sl1 (hk7.own .b trivial)
     obtain ⟨G12, e12, en⟩ := own_sl1 (hk7.own .n trivial)
     obtain ⟨G8, e8, es⟩ := own_sl1 (hk7.own .s trivial)
     obtain ⟨G9, e9, ef⟩ := own_sl1 (hk7.own .f trivial)
     have HEM := Lib.hid (And.intro er (And.intro eb (And.intro en (And.intro es ef))))
     rw [er, eb, en, es, ef]
     clear er eb en es ef
     generalize (rowK (roundsX m n (j + 1)) v7 .r).len = k10 at HEM ⊢
     generalize (rowK (roundsX m n (j + 1)) v7 .b).len = k11 at HEM ⊢
     generalize (rowK (roundsX m n (j + 1)) v7 .n).len = k12 at HEM ⊢
     generalize (rowK (roundsX m n (j + 1)) v7 .s).len = k8 at HEM ⊢
     generalize (rowK (roundsX m n (j + 1)) v7 .f).len = k9 at HEM ⊢
     clear hk7
     clear g0 g1 g2 g3 g4 g5 g6 gf q0 q1 q2 qf y0 y1 y2 y3 y4 yf
     have HM7 := bk HM6 hb7
     have HD7 := bk HD6 hb7
     have HY7 := bk HY6 hb7
     have HQ7 := bk HQ6 hb7
     obtain ⟨⟨g0, g1, g2⟩, ⟨g3, g4, g5, g6⟩, gf⟩ := cells7 HM7
     obtain ⟨q0, q1, q2, qf⟩ := cells3 HD7
     obtain ⟨⟨y0, y1, y2⟩, ⟨y3, y4⟩, yf⟩ := cells5 HY7
     refine hK.out (fun _ => ⟨g0, g1, g2, g3, g4, g5, g6, q0, q1, q2, y0, y1, y2, y3, y4⟩) ?_
     clear hK K
     try simp only [Act.put, pu]
     refine utf 6 26 ?_
     refine utf 7 33 ?_
     refine utf 8 34 ?_
     refine ur 9 rfl (by kernel_rfl) (fun K hK => ?_)
     go_simp
     obtain ⟨w8, hw8, HE8, hge8⟩ := set5 HY7 (.slice G10 k10 e10) (.slice G11 k11 e11) (.slice G12 k12 e12) (.slice G8 k8 e8) (.slice G9 k9 e9)
     rw [← hw8]
     clear g0 g1 g2 g3 g4 g5 g6 gf q0 q1 q2 qf y0 y1 y2 y3 y4 yf hw8
     refine hK.out (fun h' => till_no h' (by kernel_rfl)) ?_
     clear hK K
     try simp only [Act.put, pu]
     refine wpTill_done (by kernel_rfl) ?_ _
     have hG8 : w5.grownBy w8 (some P8) := grownT hgr (grownT (grown_any (grown_below (Below.trans hb6 (hb7.mono hz6)))) hge8)
     have hK8 : AsyB w8 w.heap.size v7 (roundsX m n (j + 1)) P8 := by
      refine ⟨AsyK.past HK7.out HY7.out hge8, fun i hi => AsyK.noTy HK7.out hi HY7.out no_tyK_state, ?_⟩
      rw [HEM.out.1, HEM.out.2.1, HEM.out.2.2.1, HEM.out.2.2.2.1, HEM.out.2.2.2.2]
      exact HE8.out
     have HG8 := Lib.hid hG8
     have HK8 := Lib.hid hK8
     clear hG8 hK8 hge8 hb6 hb7 hz6
     go_wp2_with fail
     go_roundw
     case rel => exact ⟨d', j + 1, v7, by omega, by go_num, HK8.out, HG8.out⟩
     case measure => simp [intOf]
    ·
     obtain rfl : d = 0 := by omega
     obtain rfl : j = q := by omega
     obtain ⟨we, hwe, HE, hge⟩ := set5 HQr (.slice B10 n10 d10) (.slice B11 n11 d11) (.slice B12 n12 d12) (.slice B8 n8 d8) (.slice B9 n9 d9)
     obtain ⟨⟨p0, p1, p2⟩, ⟨p3, p4⟩, pf⟩ := cells5 HQr
     have HWE := Lib.hid hwe
     clear hwe
     go_wp2_with fail
     rw [← HWE.out]
     obtain ⟨⟨s0, s1, s2⟩, ⟨s3, s4⟩, -⟩ := cells5 HE
     have hBE : Below w.heap.size w we := Below.grown hBr hge (by omega) (fun k hk => by have e := Option.some.inj (show some P2 = some k from hk); omega)
     have hKE : AsyK we w.heap.size vk (rdX m n j) := by
      rw [rd_yes HRD.out]
      exact AsyK.past HK.out.k HQr.out hge
     exact bodyPost_ret (v := .tuple #[.agg #[.slice B10 n10 d10, .slice B11 n11 d11, .slice B12 n12 d12, .slice B8 n8 d8, .slice B9 n9 d9], .bool true]) (by simp [results, Tryz.results6, go_sem, s0, s1, s2, s3, s4]) rfl ⟨vk, by rw [HEK.out.1, HEK.out.2.1, HEK.out.2.2.1, HEK.out.2.2.2.1, HEK.out.2.2.2.2, HRD.out], hKE, hBE⟩
def RiRel (m : Mach) (n : Net) (base q P : Nat) (w : World) (i : Value) (wr : World) : Prop :=
  ∃ (k : Nat) (val : Key → Value), k ≤ q ∧ i = .int .i64 (k : Int) ∧ AsyB wr base val (roundsX m n k) P ∧ Below w.heap.size w wr
def RjRel (m : Mach) (n : Net) (x : Asy) (base : Nat) (ys : List Acts) (v : Value) (P b0 : Nat) (w : World) (i : Value) (wr : World) : Prop :=
  ∃ (j : Nat) (val : Key → Value), j ≤ ys.length ∧ i = .int .i64 (j : Int) ∧ AsyB wr base val (runX m n x (ys.take j)) P ∧ ActsR wr b0 v ys ∧ Below w.heap.size w wr
set_option maxRecDepth 100000 in
set_option maxHeartbeats 4000000 in
theorem impl_CompleteRounds (vs ve vc vo : Value) (m : Mach) (ne ni nn : Value) (n : Net) (r : Int) (w : World) (hm : MachR w w.heap.size vs ve vc vo m) (hn : NetR w w.heap.size ne ni nn n) (hz : n.es.length ≤ 2000000) (hzi : n.ids.length ≤ 2000000) :
  Calls Tryz.prog 9 #[machV vs ve vc vo m, .agg #[ne, ni, nn], .int .i64 r] w fun e w' => ∃ val, e = .returned (.tuple #[.agg #[val .r, val .b, val .n, val .s, val .f], .bool (rdB m n r)]) ∧ AsyK w' w.heap.size val (rdX m n r) ∧ Below w.heap.size w w' := by
 unfold machV
 have HMM := Lib.hid hm
 have HNN := Lib.hid hn
 obtain ⟨⟨A0, m0, c0, rfl⟩, ⟨A1, m1, c1, rfl⟩, ⟨A2, m2, c2, rfl⟩, A3, m3, c3, rfl⟩ := hm.slices
 obtain ⟨⟨A4, m4, c4, rfl⟩, ⟨A5, m5, c5, rfl⟩, A6, m6, c6, rfl⟩ := hn.slices
 obtain ⟨w0, hw0, hb0, HM, hz0, HS0⟩ := box7 w (.int .i64 m.deg) (.int .i64 m.st) (.int .i64 m.msg) (.slice A0 m0 c0) (.slice A1 m1 c1) (.slice A2 m2 c2) (.slice A3 m3 c3) 39
 obtain ⟨w1, hw1, hb1, HD, hz1, HS1⟩ := box3 w0 (.slice A4 m4 c4) (.slice A5 m5 c5) (.slice A6 m6 c6) 43
 replace HM := bk HM hb1
 have hB : Below w.heap.size w w1 := bl_trans (hb0) hb1
 have HW := Lib.hid (show w1 = (w.alloc (.cells #[.int .i64 m.deg, .int .i64 m.st, .int .i64 m.msg, .slice A0 m0 c0, .slice A1 m1 c1, .slice A2 m2 c2, .slice A3 m3 c3] 39)).alloc (.cells #[.slice A4 m4 c4, .slice A5 m5 c5, .slice A6 m6 c6] 43) by rw [hw1, hw0])
 obtain ⟨P1, hP1⟩ : ∃ z, z = w0.heap.size := ⟨_, rfl⟩
 have HP1 := Lib.hid (show w.heap.size + 1 = P1 by rw [hP1, HS0.out])
 have hPl1 : w.heap.size < P1 := by rw [← HP1.out]; omega
 rw [← hP1] at HD hz1
 obtain ⟨⟨g0, g1, g2⟩, ⟨g3, g4, g5, g6⟩, gf⟩ := cells7 HM
 obtain ⟨q0, q1, q2, qf⟩ := cells3 HD
 have eg0 := g0
 have eg1 := g1
 have eg2 := g2
 have eg3 := g3
 have eg4 := g4
 have eg5 := g5
 have eg6 := g6
 have eq0 := q0
 have eq1 := q1
 have eq2 := q2
 rw [HW.out] at eg0 eg1 eg2 eg3 eg4 eg5 eg6 eq0 eq1 eq2
 rw [← HP1.out] at eq0 eq1 eq2
 have hzb0 : w.heap.size < w1.heap.size := by omega
 have hzb1 : P1 < w1.heap.size := by omega
 have HR := Lib.hid (hm.up hB)
 have HN := Lib.hid (hn.up hB)
 clear hw1 hw0 hP1
 obtain ⟨w2, hw2, hb2, HQ, hz2, HS2⟩ := box5 w1 nilV nilV nilV nilV nilV 34
 unfold nilV at hw2 HQ
 obtain ⟨P2, hP2⟩ : ∃ z, z = w1.heap.size := ⟨_, rfl⟩
 have HP2 := Lib.hid (show P1 + 1 = P2 by rw [hP2, HS1.out, HS0.out, ← HP1.out])
 rw [← hP2] at HQ hz2
 have HW2 := Lib.hid hw2
 have hP12 : P1 < P2 := by rw [← HP2.out]; omega
 have HM2 := bk HM hb2
 have HD2 := bk HD hb2
 clear g0 g1 g2 g3 g4 g5 g6 gf q0 q1 q2 qf
 obtain ⟨⟨g0, g1, g2⟩, ⟨g3, g4, g5, g6⟩, gf⟩ := cells7 HM2
 obtain ⟨q0, q1, q2, qf⟩ := cells3 HD2
 rw [hw2] at g0 g1 g2 g3 g4 g5 g6 q0 q1 q2
 rw [HW.out] at g0 g1 g2 g3 g4 g5 g6 q0 q1 q2
 rw [← HP1.out] at q0 q1 q2
 clear hw2 hP2
 go_enter Tryz.func9, Tryz.ntmps9
 go_wp2_with fail
 rw [HP1.out, HP2.out, ← HW.out, ← HW2.out]
 replace HM := HM2
 replace HD := HD2
 replace hB := bl_trans hB hb2
 clear g0 g1 g2 g3 g4 g5 g6 gf q0 q1 q2 qf HM2 HD2 HR HN
 have hC := impl_fits _ _ _ _ m _ _ _ n w2 (HMM.out.up hB) (HNN.out.up hB) hz hzi
 unfold machV at hC
 refine hC.mono ?_
 clear hC
 rintro e w3 ⟨rfl, hb3⟩
 replace HM := bk HM hb3
 replace HD := bk HD hb3
 replace HQ := bk HQ hb3
 replace hB := bl_trans hB hb3
 have hz3 := hb3.size
 have hbad : rdB m n r = false → ∀ we, we.heap[P2]? = some (.cells #[.slice none 0 0, .slice none 0 0, .slice none 0 0, .slice none 0 0, .slice none 0 0] 34 (0, 0)) → Below w.heap.size w we →
   ∃ val : Key → Value, Ending.returned (.tuple #[.agg #[.slice none 0 0, .slice none 0 0, .slice none 0 0, .slice none 0 0, .slice none 0 0], .bool false]) = Ending.returned (.tuple #[.agg #[val .r, val .b, val .n, val .s, val .f], .bool (rdB m n r)]) ∧ AsyK we w.heap.size val (rdX m n r) ∧ Below w.heap.size w we := fun h we _ hb =>
  ⟨fun _ => nilV, by rw [h]; rfl, by rw [rd_no h]; exact nilAsyK _ _, hb⟩
 have HBAD := Lib.hid hbad
 clear hbad
 obtain ⟨⟨p0, p1, p2⟩, ⟨p3, p4⟩, pf⟩ := cells5 HQ
 cases hf : fitB m n with
 | false =>
  have hrd : rdB m n r = false := by unfold rdB; rw [hf]; rfl
  clear hf
  obtain ⟨we, hwe, HE, hge⟩ := set5 HQ (.slice none 0 0) (.slice none 0 0) (.slice none 0 0) (.slice none 0 0) (.slice none 0 0)
  have HWE := Lib.hid hwe
  have HRD := Lib.hid hrd
  clear hwe hrd
  go_wp2_with fail
  rw [← HWE.out]
  obtain ⟨⟨s0, s1, s2⟩, ⟨s3, s4⟩, -⟩ := cells5 HE
  have hBE : Below w.heap.size w we := Below.grown hB hge (by omega) (fun k hk => by have e := Option.some.inj (show some P2 = some k from hk); omega)
  exact bodyPost_ret (v := .tuple #[.agg #[.slice none 0 0, .slice none 0 0, .slice none 0 0, .slice none 0 0, .slice none 0 0], .bool false]) (by simp [results, Tryz.results9, go_sem, s0, s1, s2, s3, s4]) rfl (HBAD.out HRD.out we HE.out hBE)
 | true =>
  have HF := Lib.hid hf
  clear hf
  go_wp2_with fail
  refine (impl_within _ _ _ _).mono ?_
  rintro e w' ⟨rfl, rfl⟩
  cases h1 : inB r 0 40 with
  | false =>
   have hrd : rdB m n r = false := by unfold rdB; rw [h1, Bool.and_false]
   clear h1
   obtain ⟨we, hwe, HE, hge⟩ := set5 HQ (.slice none 0 0) (.slice none 0 0) (.slice none 0 0) (.slice none 0 0) (.slice none 0 0)
   have HWE := Lib.hid hwe
   have HRD := Lib.hid hrd
   clear hwe hrd
   go_wp2_with fail
   rw [← HWE.out]
   obtain ⟨⟨s0, s1, s2⟩, ⟨s3, s4⟩, -⟩ := cells5 HE
   have hBE : Below w.heap.size w we := Below.grown hB hge (by omega) (fun k hk => by have e := Option.some.inj (show some P2 = some k from hk); omega)
   exact bodyPost_ret (v := .tuple #[.agg #[.slice none 0 0, .slice none 0 0, .slice none 0 0, .slice none 0 0, .slice none 0 0], .bool false]) (by simp [results, Tryz.results9, go_sem, s0, s1, s2, s3, s4]) rfl (HBAD.out HRD.out we HE.out hBE)
  | true =>
   have HRD := Lib.hid (show rdB m n r = true by unfold rdB; rw [HF.out, h1]; rfl)
   have HI := Lib.hid h1
   clear h1
   obtain ⟨⟨g0, g1, g2⟩, ⟨g3, g4, g5, g6⟩, gf⟩ := cells7 HM
   obtain ⟨q0, q1, q2, qf⟩ := cells3 HD
   obtain ⟨q, rfl⟩ : ∃ q : Nat, r = q := ⟨r.toNat, by have := inBt HI.out; omega⟩
   have hq40 : q ≤ 40 := by have := inBt HI.out; omega
   have hfit : fitP m n := propB_iff.1 HF.out
   have HFIT := Lib.hid hfit
   go_wp2_with fail
   have hC := impl_startAsync _ _ _ _ m _ _ _ n w3 (HMM.out.up hB) (HNN.out.up hB) hfit
   unfold machV at hC
   refine hC.mono ?_
   clear hC hfit g0 g1 g2 g3 g4 g5 g6 gf q0 q1 q2 qf p0 p1 p2 p3 p4 pf
   rintro e w4 ⟨v0, rfl, hk4, hb4⟩
   obtain ⟨C10, f10, er⟩ := own_sl1 (hk4.own .r trivial)
   obtain ⟨C11, f11, eb⟩ := own_sl1 (hk4.own .b trivial)
   obtain ⟨C12, f12, en⟩ := own_sl1 (hk4.own .n trivial)
   obtain ⟨C8, f8, es⟩ := own_sl1 (hk4.own .s trivial)
   obtain ⟨C9, f9, ef⟩ := own_sl1 (hk4.own .f trivial)
   have HEN := Lib.hid (And.intro er (And.intro eb (And.intro en (And.intro es ef))))
   rw [er, eb, en, es, ef]
   clear er eb en es ef
   generalize (rowK (startX m n) v0 .r).len = l10 at HEN ⊢
   generalize (rowK (startX m n) v0 .b).len = l11 at HEN ⊢
   generalize (rowK (startX m n) v0 .n).len = l12 at HEN ⊢
   generalize (rowK (startX m n) v0 .s).len = l8 at HEN ⊢
   generalize (rowK (startX m n) v0 .f).len = l9 at HEN ⊢
   have hz4 := hb4.size
   obtain ⟨w5, hw5, hb5, HX, hz5, HS5⟩ := box5 w4 (.slice C10 l10 f10) (.slice C11 l11 f11) (.slice C12 l12 f12) (.slice C8 l8 f8) (.slice C9 l9 f9) 34
   obtain ⟨P8, hP8⟩ : ∃ z, z = w4.heap.size := ⟨_, rfl⟩
   have HP8 := Lib.hid hP8
   rw [← hP8] at HX hz5
   have HW5 := Lib.hid hw5
   have HK5 := Lib.hid (show AsyB w5 w3.heap.size v0 (startX m n) P8 from ⟨AsyK.up hk4 hb5, fun j hj e => by have := ((hk4.own j hj).lt P8 e).2; omega, by rw [HEN.out.1, HEN.out.2.1, HEN.out.2.2.1, HEN.out.2.2.2.1, HEN.out.2.2.2.2]; exact HX.out⟩)
   clear hw5 hP8 hk4
   have hb35 := bl_trans hb4 hb5
   have hwP8 : w3.heap.size ≤ P8 := by rw [HP8.out]; exact hz4
   go_wp2_with fail
   rw [← HP8.out, ← HW5.out]
   go_loopw [25] (fun i wr => RiRel m n w3.heap.size q P8 w3 i wr) (fun i _ => q - (intOf i).toNat)
   case atStart => exact ⟨0, v0, Nat.zero_le _, rfl, HK5.out, hb35⟩
   case round =>
    obtain ⟨k, vk, hk, rfl, hkk, hbl⟩ := hrel
    have HK := Lib.hid hkk
    have hsz := hbl.size
    have hBr := bl_trans hB hbl
    have HMr := bk HM hbl
    have HDr := bk HD hbl
    have HQr := bk HQ hbl
    clear hkk
    by_cases hlt : k < q
    ·
     have k1 : ((k : Int) < (q : Int)) = True := eq_true (by omega)
     obtain ⟨q0, q1, q2, qf⟩ := cells3 HDr
     go_wp2_with fail
     refine (impl_roundActs _ _ _ n wr (HNN.out.up hBr) HFIT.out.2.1).mono ?_
     rintro e w6 ⟨v6, rfl, ha6, hb6⟩
     obtain ⟨Av, cv, rfl⟩ := ActsR.slice ha6
     have hlen := roundA_len HFIT.out.2.1
     have HA6 := Lib.hid ha6
     have HK6 := Lib.hid (HK.out.below hb6)
     have hbl6 := hbl.trans (hb6.mono hsz)
     clear ha6 q0 q1 q2 qf
     generalize hN : (roundA n).length = N at HA6 hlen ⊢
     have HLN := Lib.hid hN
     clear hN
     go_wp2_with fail
     go_loopw [30] (fun i wj => RjRel m n (roundsX m n k) w3.heap.size (roundA n) (.slice Av N cv) P8 wr.heap.size w3 i wj) (fun i _ => N - (intOf i).toNat)
     case atStart => exact ⟨0, vk, Nat.zero_le _, rfl, HK6.out, HA6.out, hbl6⟩
     case round =>
      obtain ⟨j, vj, hj, rfl, hkj, haj, hbj⟩ := hrel
      rw [HLN.out] at hj
      have HKJ := Lib.hid hkj
      have HAJ := Lib.hid haj
      have hszj := hbj.size
      have HMj := bk HM hbj
      have HDj := bk HD hbj
      clear hkj haj
      by_cases hlj : j < N
      ·
       obtain ⟨⟨ak, an, ap, aa⟩, hya⟩ : ∃ y, (roundA n)[j]? = some y := ⟨_, List.getElem?_eq_getElem (by rw [HLN.out]; exact hlj)⟩
       obtain ⟨gv, cv', ev, hgv, -, -, r0, r1, r2, r3⟩ := ActsR.read HAJ.out hya
       obtain ⟨rfl, rfl⟩ : Av = some ⟨gv, 0, none⟩ ∧ cv = cv' := by
        have := Value.slice.inj ev
        exact ⟨this.1, this.2.2⟩
       have k2 : ((j : Int) < (N : Int)) = True := eq_true (by omega)
       have HYA := Lib.hid hya
       clear hya ev
       obtain ⟨wa, hwa, hba, HA, hza, HSA⟩ := box4a wr (.int .i64 ak) (.int .i64 an) (.int .i64 ap) (.int .i64 aa) 69
       have HMa := bk HMj hba
       have HDa := bk HDj hba
       have hzaa := hba.size
       obtain ⟨⟨g0, g1, g2⟩, ⟨g3, g4, g5, g6⟩, gf⟩ := cells7 HMa
       obtain ⟨q0, q1, q2, qf⟩ := cells3 HDa
       rw [hwa] at g0 g1 g2 g3 g4 g5 g6 q0 q1 q2
       have HWA := Lib.hid hwa
       clear hwa gf qf
       go_wp2_with fail
       rw [← HWA.out]
       have hC := impl_play _ _ _ _ m _ _ _ n vj (runX m n (roundsX m n k) ((roundA n).take j)) w3.heap.size P8 ak an ap aa wa ((HMM.out.up hB).to (hbj.trans (hba.mono hszj)) (Nat.le_refl _)) ((HNN.out.up hB).below (hbj.trans (hba.mono hszj))) (HKJ.out.below hba) (by omega) (good_run (good_rounds HFIT.out k) _)
       unfold machV at hC
       refine hC.mono ?_
       clear hC g0 g1 g2 g3 g4 g5 g6 q0 q1 q2 r0 r1 r2 r3
       rintro e wb ⟨rfl, hbb, hfb, val', hkb⟩
       rw [← runX_snoc, ← take_snoc HYA.out] at hkb
       have HKB := Lib.hid hkb
       have HAB := Lib.hid (ActsR.frame (ActsR.up HAJ.out hba) (HKJ.out.below hba).k hfb)
       have HBB := Lib.hid ((hbj.trans (hba.mono hszj)).trans hbb)
       clear hkb hfb hbb
       go_wp2_with fail
       go_roundw
       case rel => exact ⟨j + 1, val', by rw [HLN.out]; omega, by go_num, HKB.out, HAB.out, HBB.out⟩
       case measure => simp [intOf]; omega
      ·
       obtain rfl : j = N := by omega
       have hks : AsyB wr w3.heap.size vj (roundsX m n (k + 1)) P8 := by
        have h1 := HKJ.out
        rw [← HLN.out, List.take_of_length_le (Nat.le_refl _)] at h1
        exact h1
       have HKS := Lib.hid hks
       have HBJ := Lib.hid hbj
       have k2 : ((j : Int) < (j : Int)) = False := eq_false (by omega)
       clear hks hbj
       go_wp2_with fail
       go_roundw
       case rel => exact ⟨k + 1, vj, by omega, by go_num, HKS.out, HBJ.out⟩
       case measure => simp [intOf]; omega
    ·
     obtain rfl : k = q := by omega
     have k1 : ((k : Int) < (k : Int)) = False := eq_false (by omega)
     have hk := HK.out
     obtain ⟨B10, d10, er⟩ := own_sl1 (hk.k.own .r trivial)
     obtain ⟨B11, d11, eb⟩ := own_sl1 (hk.k.own .b trivial)
     obtain ⟨B12, d12, en⟩ := own_sl1 (hk.k.own .n trivial)
     obtain ⟨B8, d8, es⟩ := own_sl1 (hk.k.own .s trivial)
     obtain ⟨B9, d9, ef⟩ := own_sl1 (hk.k.own .f trivial)
     have hbx := hk.box
     have HEK := Lib.hid (And.intro er (And.intro eb (And.intro en (And.intro es ef))))
     rw [er, eb, en, es, ef] at hbx
     clear er eb en es ef
     generalize (rowK (roundsX m n k) vk .r).len = n10 at HEK hbx
     generalize (rowK (roundsX m n k) vk .b).len = n11 at HEK hbx
     generalize (rowK (roundsX m n k) vk .n).len = n12 at HEK hbx
     generalize (rowK (roundsX m n k) vk .s).len = n8 at HEK hbx
     generalize (rowK (roundsX m n k) vk .f).len = n9 at HEK hbx
     have HYr := Lib.hid hbx
     clear hk hbx
     obtain ⟨⟨y0, y1, y2⟩, ⟨y3, y4⟩, yf⟩ := cells5 HYr
     obtain ⟨we, hwe, HE, hge⟩ := set5 HQr (.slice B10 n10 d10) (.slice B11 n11 d11) (.slice B12 n12 d12) (.slice B8 n8 d8) (.slice B9 n9 d9)
     obtain ⟨⟨p0, p1, p2⟩, ⟨p3, p4⟩, pf⟩ := cells5 HQr
     have HWE := Lib.hid hwe
     clear hwe
     go_wp2_with fail
     rw [← HWE.out]
     obtain ⟨⟨s0, s1, s2⟩, ⟨s3, s4⟩, -⟩ := cells5 HE
     have hBE : Below w.heap.size w we := Below.grown hBr hge (by omega) (fun k hk => by have e := Option.some.inj (show some P2 = some k from hk); omega)
     have hKE : AsyK we w.heap.size vk (rdX m n k) := by
      rw [rd_yes HRD.out]
      exact OwnK.mono (AsyK.past HK.out.k HQr.out hge) hB.size
     exact bodyPost_ret (v := .tuple #[.agg #[.slice B10 n10 d10, .slice B11 n11 d11, .slice B12 n12 d12, .slice B8 n8 d8, .slice B9 n9 d9], .bool true]) (by simp [results, Tryz.results9, go_sem, s0, s1, s2, s3, s4]) rfl ⟨vk, by rw [HEK.out.1, HEK.out.2.1, HEK.out.2.2.1, HEK.out.2.2.2.1, HEK.out.2.2.2.2, HRD.out], hKE, hBE⟩
end Go.Proofs.YtehkcodbcnhhoaaGreat
