/-
  Asynchronous states, the program's side: asyncOk, IsAsyncState.
-/
import Derived.Test.YtcpbbjocaimocaaGreatESOk
namespace Go.Proofs.YtcpbbjocaimocaaGreat
open Go.RowKit
set_option linter.all false
noncomputable def asB (m : Mach) (n : Net) (x : Asy) : Bool := propB (asyP m n x)
theorem as_f2 {m : Mach} {n : Net} {x : Asy} (h : x.rounds.length ≠ n.es.length) : asB m n x = false := propB_f fun hp => h (by have := hp.1.1; omega)
theorem as_f3 {m : Mach} {n : Net} {x : Asy} (h : allB x.rounds 0 40 = false) : asB m n x = false := propB_f fun hp => by
  rw [allB_iff.2 fun y hy => by have := hp.1.2 y hy; omega] at h
  cases h
theorem as_f4 {m : Mach} {n : Net} {x : Asy} (h : mrB x.before n.es.length m.st = false) : asB m n x = false := propB_f fun hp => by
  rw [show mrB x.before n.es.length m.st = true from propB_t hp.2.1] at h
  cases h
theorem as_f5 {m : Mach} {n : Net} {x : Asy} (h : mrB x.now n.es.length m.st = false) : asB m n x = false := propB_f fun hp => by
  rw [show mrB x.now n.es.length m.st = true from propB_t hp.2.2.1] at h
  cases h
theorem as_eq {m : Mach} {n : Net} {x : Asy} (h2 : x.rounds.length = n.es.length) (h3 : allB x.rounds 0 40 = true) (h4 : mrB x.before n.es.length m.st = true) (h5 : mrB x.now n.es.length m.st = true) : asB m n x = shB m n x :=
  propB_congr ⟨fun hp => ⟨hp.2.2.2.1, hp.2.2.2.2.1, fun v l s f _ => hp.2.2.2.2.2 v l s f⟩, fun hp => ⟨⟨by omega, fun y hy => by have := allB_iff.1 h3 y hy; omega⟩, propB_iff.1 h4, propB_iff.1 h5, hp.1, hp.2.1, fun v l s f hl => hp.2.2 v l s f (List.getElem?_eq_some_iff.1 hl).1 hl⟩⟩
set_option maxRecDepth 100000 in
set_option maxHeartbeats 2000000 in
theorem impl_asyncOk (vs ve vc vo : Value) (m : Mach) (ne ni nn : Value) (n : Net) (xr xb xn xs xf : Value) (x : Asy) (w : World) (hm : MachR w w.heap.size vs ve vc vo m) (hn : NetR w w.heap.size ne ni nn n) (hx : AsyR w w.heap.size xr xb xn xs xf x)
  (hst : 0 ≤ m.st ∧ m.st ≤ 1000) (hg : 1 ≤ m.msg ∧ m.msg ≤ 6) :
  Calls Tryz.prog 106 #[machV vs ve vc vo m, .agg #[ne, ni, nn], .agg #[xr, xb, xn, xs, xf]] w fun e w' => e = .returned (.bool (asB m n x)) ∧ Below w.heap.size w w' := by
 unfold machV
 obtain ⟨⟨A0, m0, c0, rfl⟩, ⟨A1, m1, c1, rfl⟩, ⟨A2, m2, c2, rfl⟩, A3, m3, c3, rfl⟩ := hm.slices
 have hne := hn.e
 have hxs := hx.s.open_
 have hxf := hx.f
 have hxr := hx.r.open_
 obtain ⟨A4, c4, rfl, hc4, hM4, hr4⟩ := hne
 obtain ⟨⟨-, -, -, -⟩, ⟨A5, m5, c5, rfl⟩, A6, m6, c6, rfl⟩ := hn.slices
 obtain ⟨A10, c10, rfl, hc10, hM10, -⟩ := hxr
 obtain ⟨-, ⟨A11, m11, c11, rfl⟩, ⟨A12, m12, c12, rfl⟩, -, -⟩ := hx.slices
 obtain ⟨A8, c8, rfl, hc8, hM8, hr8⟩ := hxs
 obtain ⟨A9, c9, rfl, hc9, hM9, hr9⟩ := hxf
 unfold maxLen at hM4 hM8 hM9 hM10
 have HR4 := Lib.hid hr4
 have HR8 := Lib.hid hr8
 have HR9 := Lib.hid hr9
 have HM0 := Lib.hid hm
 clear hr4 hr8 hr9
 obtain ⟨w0, hw0, hb0, HM, hz0, HS0⟩ := box7 w (.int .i64 m.deg) (.int .i64 m.st) (.int .i64 m.msg) (.slice A0 m0 c0) (.slice A1 m1 c1) (.slice A2 m2 c2) (.slice A3 m3 c3) 42
 obtain ⟨w1, hw1, hb1, HD, hz1, HS1⟩ := box3 w0 (.slice A4 n.es.length c4) (.slice A5 m5 c5) (.slice A6 m6 c6) 46
 replace HM := bk HM hb1
 obtain ⟨w2, hw2, hb2, HY, hz2, HS2⟩ := box5 w1 (.slice A10 x.rounds.length c10) (.slice A11 m11 c11) (.slice A12 m12 c12) (.slice A8 x.slots.length c8) (.slice A9 x.flight.length c9) 50
 replace HM := bk HM hb2
 replace HD := bk HD hb2
 have hB : Below w.heap.size w w2 := bl_trans (bl_trans (hb0) hb1) hb2
 have HW := Lib.hid (show w2 = ((w.alloc (.cells #[.int .i64 m.deg, .int .i64 m.st, .int .i64 m.msg, .slice A0 m0 c0, .slice A1 m1 c1, .slice A2 m2 c2, .slice A3 m3 c3] 42)).alloc (.cells #[.slice A4 n.es.length c4, .slice A5 m5 c5, .slice A6 m6 c6] 46)).alloc (.cells #[.slice A10 x.rounds.length c10, .slice A11 m11 c11, .slice A12 m12 c12, .slice A8 x.slots.length c8, .slice A9 x.flight.length c9] 50) by rw [hw2, hw1, hw0])
 obtain ⟨P1, hP1⟩ : ∃ z, z = w0.heap.size := ⟨_, rfl⟩
 have HP1 := Lib.hid (show w.heap.size + 1 = P1 by rw [hP1, HS0.out])
 have hPl1 : w.heap.size < P1 := by rw [← HP1.out]; omega
 rw [← hP1] at HD hz1
 obtain ⟨P2, hP2⟩ : ∃ z, z = w1.heap.size := ⟨_, rfl⟩
 have HP2 := Lib.hid (show w.heap.size + 1 + 1 = P2 by rw [hP2, HS1.out, HS0.out])
 have hPl2 : w.heap.size < P2 := by rw [← HP2.out]; omega
 rw [← hP2] at HY hz2
 obtain ⟨⟨g0, g1, g2⟩, ⟨g3, g4, g5, g6⟩, gf⟩ := cells7 HM
 obtain ⟨q0, q1, q2, qf⟩ := cells3 HD
 obtain ⟨⟨y0, y1, y2⟩, ⟨y3, y4⟩, yf⟩ := cells5 HY
 have eg0 := g0
 have eg1 := g1
 have eg2 := g2
 have eg3 := g3
 have eg4 := g4
 have eg5 := g5
 have eg6 := g6
 have eq0 := q0
 have eq1 := q1
 have eq2 := q2
 have ey0 := y0
 have ey1 := y1
 have ey2 := y2
 have ey3 := y3
 have ey4 := y4
 rw [HW.out] at eg0 eg1 eg2 eg3 eg4 eg5 eg6 eq0 eq1 eq2 ey0 ey1 ey2 ey3 ey4
 rw [← HP1.out] at eq0 eq1 eq2
 rw [← HP2.out] at ey0 ey1 ey2 ey3 ey4
 have hzb0 : w.heap.size < w2.heap.size := by omega
 have hzb1 : P1 < w2.heap.size := by omega
 have hzb2 : P2 < w2.heap.size := by omega
 have HR := Lib.hid (hm.up hB)
 have HN := Lib.hid (hn.up hB)
 have HX := Lib.hid (hx.up hB)
 clear hw2 hw1 hw0 hP1 hP2
 by_cases t1 : x.rounds.length = n.es.length
 ·
  have r1 : (((x.rounds.length : Nat) : Int) != ((n.es.length : Nat) : Int)) = false := by rw [t1]; simp
  have HT1 := Lib.hid t1
  clear t1
  cases j3 : allB x.rounds 0 40 with
  | false =>
   have HF := Lib.hid (as_f3 (m := m) (n := n) j3).symm
   go_enter Tryz.func106, Tryz.ntmps106
   go_wp2_with fail
   rw [HP2.out, HP1.out, ← HW.out]
   clear eg0 eg1 eg2 eg3 eg4 eg5 eg6 eq0 eq1 eq2 ey0 ey1 ey2 ey3 ey4
   refine (impl_allWithin _ x.rounds _ _ w2 HX.out.r).mono ?_
   rintro e w5 ⟨rfl, hb5⟩
   rw [j3]
   have hzhb5 := hb5.size
   clear g0 g1 g2 g3 g4 g5 g6 gf q0 q1 q2 qf y0 y1 y2 y3 y4 yf
   replace HM := bk HM hb5
   replace HD := bk HD hb5
   replace HY := bk HY hb5
   replace hB := bl_trans hB hb5
   obtain ⟨⟨g0, g1, g2⟩, ⟨g3, g4, g5, g6⟩, gf⟩ := cells7 HM
   obtain ⟨q0, q1, q2, qf⟩ := cells3 HD
   obtain ⟨⟨y0, y1, y2⟩, ⟨y3, y4⟩, yf⟩ := cells5 HY
   replace HR := Lib.hid (HR.out.up hb5)
   replace HN := Lib.hid (HN.out.up hb5)
   replace HX := Lib.hid (HX.out.up hb5)
   go_wp2_with fail
   go_ret
   exact ⟨ret_bool HF.out, hB⟩
  | true =>
   have HJ3 := Lib.hid j3
   cases j4 : mrB x.before n.es.length m.st with
   | false =>
    have HF := Lib.hid (as_f4 j4).symm
    go_enter Tryz.func106, Tryz.ntmps106
    go_wp2_with fail
    rw [HP2.out, HP1.out, ← HW.out]
    clear eg0 eg1 eg2 eg3 eg4 eg5 eg6 eq0 eq1 eq2 ey0 ey1 ey2 ey3 ey4
    refine (impl_allWithin _ x.rounds _ _ w2 HX.out.r).mono ?_
    rintro e w5 ⟨rfl, hb5⟩
    rw [j3]
    have hzhb5 := hb5.size
    clear g0 g1 g2 g3 g4 g5 g6 gf q0 q1 q2 qf y0 y1 y2 y3 y4 yf
    replace HM := bk HM hb5
    replace HD := bk HD hb5
    replace HY := bk HY hb5
    replace hB := bl_trans hB hb5
    obtain ⟨⟨g0, g1, g2⟩, ⟨g3, g4, g5, g6⟩, gf⟩ := cells7 HM
    obtain ⟨q0, q1, q2, qf⟩ := cells3 HD
    obtain ⟨⟨y0, y1, y2⟩, ⟨y3, y4⟩, yf⟩ := cells5 HY
    replace HR := Lib.hid (HR.out.up hb5)
    replace HN := Lib.hid (HN.out.up hb5)
    replace HX := Lib.hid (HX.out.up hb5)
    go_wp2_with fail
    refine (impl_statesOk _ _ _ _ m _ _ _ n _ x.before w5 HR.out HN.out HX.out.b hst).mono ?_
    rintro e w6 ⟨rfl, hb6⟩
    rw [j4]
    have hzhb6 := hb6.size
    clear g0 g1 g2 g3 g4 g5 g6 gf q0 q1 q2 qf y0 y1 y2 y3 y4 yf
    replace HM := bk HM hb6
    replace HD := bk HD hb6
    replace HY := bk HY hb6
    replace hB := bl_trans hB hb6
    obtain ⟨⟨g0, g1, g2⟩, ⟨g3, g4, g5, g6⟩, gf⟩ := cells7 HM
    obtain ⟨q0, q1, q2, qf⟩ := cells3 HD
    obtain ⟨⟨y0, y1, y2⟩, ⟨y3, y4⟩, yf⟩ := cells5 HY
    replace HR := Lib.hid (HR.out.up hb6)
    replace HN := Lib.hid (HN.out.up hb6)
    replace HX := Lib.hid (HX.out.up hb6)
    go_wp2_with fail
    go_ret
    exact ⟨ret_bool HF.out, hB⟩
   | true =>
    have HJ4 := Lib.hid j4
    cases j5 : mrB x.now n.es.length m.st with
    | false =>
     have HF := Lib.hid (as_f5 j5).symm
     go_enter Tryz.func106, Tryz.ntmps106
     go_wp2_with fail
     rw [HP2.out, HP1.out, ← HW.out]
     clear eg0 eg1 eg2 eg3 eg4 eg5 eg6 eq0 eq1 eq2 ey0 ey1 ey2 ey3 ey4
     refine (impl_allWithin _ x.rounds _ _ w2 HX.out.r).mono ?_
     rintro e w5 ⟨rfl, hb5⟩
     rw [j3]
     have hzhb5 := hb5.size
     clear g0 g1 g2 g3 g4 g5 g6 gf q0 q1 q2 qf y0 y1 y2 y3 y4 yf
     replace HM := bk HM hb5
     replace HD := bk HD hb5
     replace HY := bk HY hb5
     replace hB := bl_trans hB hb5
     obtain ⟨⟨g0, g1, g2⟩, ⟨g3, g4, g5, g6⟩, gf⟩ := cells7 HM
     obtain ⟨q0, q1, q2, qf⟩ := cells3 HD
     obtain ⟨⟨y0, y1, y2⟩, ⟨y3, y4⟩, yf⟩ := cells5 HY
     replace HR := Lib.hid (HR.out.up hb5)
     replace HN := Lib.hid (HN.out.up hb5)
     replace HX := Lib.hid (HX.out.up hb5)
     go_wp2_with fail
     refine (impl_statesOk _ _ _ _ m _ _ _ n _ x.before w5 HR.out HN.out HX.out.b hst).mono ?_
     rintro e w6 ⟨rfl, hb6⟩
     rw [j4]
     have hzhb6 := hb6.size
     clear g0 g1 g2 g3 g4 g5 g6 gf q0 q1 q2 qf y0 y1 y2 y3 y4 yf
     replace HM := bk HM hb6
     replace HD := bk HD hb6
     replace HY := bk HY hb6
     replace hB := bl_trans hB hb6
     obtain ⟨⟨g0, g1, g2⟩, ⟨g3, g4, g5, g6⟩, gf⟩ := cells7 HM
     obtain ⟨q0, q1, q2, qf⟩ := cells3 HD
     obtain ⟨⟨y0, y1, y2⟩, ⟨y3, y4⟩, yf⟩ := cells5 HY
     replace HR := Lib.hid (HR.out.up hb6)
     replace HN := Lib.hid (HN.out.up hb6)
     replace HX := Lib.hid (HX.out.up hb6)
     go_wp2_with fail
     refine (impl_statesOk _ _ _ _ m _ _ _ n _ x.now w6 HR.out HN.out HX.out.n hst).mono ?_
     rintro e w7 ⟨rfl, hb7⟩
     rw [j5]
     have hzhb7 := hb7.size
     clear g0 g1 g2 g3 g4 g5 g6 gf q0 q1 q2 qf y0 y1 y2 y3 y4 yf
     replace HM := bk HM hb7
     replace HD := bk HD hb7
     replace HY := bk HY hb7
     replace hB := bl_trans hB hb7
     obtain ⟨⟨g0, g1, g2⟩, ⟨g3, g4, g5, g6⟩, gf⟩ := cells7 HM
     obtain ⟨q0, q1, q2, qf⟩ := cells3 HD
     obtain ⟨⟨y0, y1, y2⟩, ⟨y3, y4⟩, yf⟩ := cells5 HY
     replace HR := Lib.hid (HR.out.up hb7)
     replace HN := Lib.hid (HN.out.up hb7)
     replace HX := Lib.hid (HX.out.up hb7)
     go_wp2_with fail
     go_ret
     exact ⟨ret_bool HF.out, hB⟩
    | true =>
     have HEQ := Lib.hid (as_eq HT1.out HJ3.out HJ4.out j5)
     have HJ5 := Lib.hid j5
     by_cases t1 : x.slots.length = n.es.length
     ·
      have r1 : (((x.slots.length : Nat) : Int) != ((n.es.length : Nat) : Int)) = false := by rw [t1]; simp
      have HT1 := Lib.hid t1
      clear t1
      by_cases t2 : x.flight.length = n.es.length
      ·
       have r2 : (((x.flight.length : Nat) : Int) != ((n.es.length : Nat) : Int)) = false := by rw [t2]; simp
       have HT2 := Lib.hid t2
       clear t2
       go_enter Tryz.func106, Tryz.ntmps106
       go_wp2_with fail
       rw [HP2.out, HP1.out, ← HW.out]
       clear eg0 eg1 eg2 eg3 eg4 eg5 eg6 eq0 eq1 eq2 ey0 ey1 ey2 ey3 ey4
       refine (impl_allWithin _ x.rounds _ _ w2 HX.out.r).mono ?_
       rintro e w5 ⟨rfl, hb5⟩
       rw [j3]
       have hzhb5 := hb5.size
       clear g0 g1 g2 g3 g4 g5 g6 gf q0 q1 q2 qf y0 y1 y2 y3 y4 yf
       replace HM := bk HM hb5
       replace HD := bk HD hb5
       replace HY := bk HY hb5
       replace hB := bl_trans hB hb5
       obtain ⟨⟨g0, g1, g2⟩, ⟨g3, g4, g5, g6⟩, gf⟩ := cells7 HM
       obtain ⟨q0, q1, q2, qf⟩ := cells3 HD
       obtain ⟨⟨y0, y1, y2⟩, ⟨y3, y4⟩, yf⟩ := cells5 HY
       replace HR := Lib.hid (HR.out.up hb5)
       replace HN := Lib.hid (HN.out.up hb5)
       replace HX := Lib.hid (HX.out.up hb5)
       go_wp2_with fail
       refine (impl_statesOk _ _ _ _ m _ _ _ n _ x.before w5 HR.out HN.out HX.out.b hst).mono ?_
       rintro e w6 ⟨rfl, hb6⟩
       rw [j4]
       have hzhb6 := hb6.size
       clear g0 g1 g2 g3 g4 g5 g6 gf q0 q1 q2 qf y0 y1 y2 y3 y4 yf
       replace HM := bk HM hb6
       replace HD := bk HD hb6
       replace HY := bk HY hb6
       replace hB := bl_trans hB hb6
       obtain ⟨⟨g0, g1, g2⟩, ⟨g3, g4, g5, g6⟩, gf⟩ := cells7 HM
       obtain ⟨q0, q1, q2, qf⟩ := cells3 HD
       obtain ⟨⟨y0, y1, y2⟩, ⟨y3, y4⟩, yf⟩ := cells5 HY
       replace HR := Lib.hid (HR.out.up hb6)
       replace HN := Lib.hid (HN.out.up hb6)
       replace HX := Lib.hid (HX.out.up hb6)
       go_wp2_with fail
       refine (impl_statesOk _ _ _ _ m _ _ _ n _ x.now w6 HR.out HN.out HX.out.n hst).mono ?_
       rintro e w7 ⟨rfl, hb7⟩
       rw [j5]
       have hzhb7 := hb7.size
       clear g0 g1 g2 g3 g4 g5 g6 gf q0 q1 q2 qf y0 y1 y2 y3 y4 yf
       replace HM := bk HM hb7
       replace HD := bk HD hb7
       replace HY := bk HY hb7
       replace hB := bl_trans hB hb7
       obtain ⟨⟨g0, g1, g2⟩, ⟨g3, g4, g5, g6⟩, gf⟩ := cells7 HM
       obtain ⟨q0, q1, q2, qf⟩ := cells3 HD
       obtain ⟨⟨y0, y1, y2⟩, ⟨y3, y4⟩, yf⟩ := cells5 HY
       replace HR := Lib.hid (HR.out.up hb7)
       replace HN := Lib.hid (HN.out.up hb7)
       replace HX := Lib.hid (HX.out.up hb7)
       clear HR HN HX
       go_wp2_with fail
       obtain ⟨wo, rfl⟩ : ∃ z, z = w7 := ⟨_, rfl⟩
       go_loopw [57] (fun i wr => SyRel m n x wo i wr) (fun i _ => n.es.length - (intOf i).toNat)
       case atStart => exact ⟨Below.refl _ _, 0, Nat.zero_le _, rfl, fun _ _ _ _ h => absurd h (by omega)⟩
       case round =>
        obtain ⟨hb1, k, hk, rfl, hup⟩ := hrel
        have HU := Lib.hid hup; clear hup
        have hzhb1 := hb1.size
        clear g0 g1 g2 g3 g4 g5 g6 gf q0 q1 q2 qf y0 y1 y2 y3 y4 yf
        replace HM := bk HM hb1
        replace HD := bk HD hb1
        replace HY := bk HY hb1
        replace hB := bl_trans hB hb1
        obtain ⟨⟨g0, g1, g2⟩, ⟨g3, g4, g5, g6⟩, gf⟩ := cells7 HM
        obtain ⟨q0, q1, q2, qf⟩ := cells3 HD
        obtain ⟨⟨y0, y1, y2⟩, ⟨y3, y4⟩, yf⟩ := cells5 HY
        by_cases hlt : k < n.es.length
        ·
         obtain ⟨l, hl⟩ : ∃ y, n.es[k]? = some y := ⟨_, List.getElem?_eq_getElem hlt⟩
         have hk8 : k < x.slots.length := by rw [HT1.out]; exact hlt
         have hk9 : k < x.flight.length := by rw [HT2.out]; exact hlt
         obtain ⟨s, hs⟩ : ∃ y, x.slots[k]? = some y := ⟨_, List.getElem?_eq_getElem hk8⟩
         obtain ⟨f, hf⟩ : ∃ y, x.flight[k]? = some y := ⟨_, List.getElem?_eq_getElem hk9⟩
         obtain ⟨ad4, rfl, ha4, hrow4⟩ := HR4.out (by omega)
         obtain ⟨ad8, rfl, ha8, hrow8⟩ := HR8.out (by omega)
         obtain ⟨ad9, rfl, ha9, hrow9⟩ := HR9.out (by omega)
         obtain ⟨u4, hu4, hz4⟩ := hrow4 k l hl
         obtain ⟨u8, hu8, hz8⟩ := hrow8 k s hs
         obtain ⟨u9, hu9, hz9⟩ := hrow9 k f hf
         have HBD : Below w.heap.size w wr.drew := hB.drew
         have HZ8 := Lib.hid ((hz8.below HBD).more HBD.size)
         have HZ9 := Lib.hid ((hz9.below HBD).more HBD.size)
         have HMD := Lib.hid (HM0.out.up HBD)
         clear HBD
         obtain ⟨B4, d4, rfl, hd4, hD4, -, -⟩ := hz4
         obtain ⟨B8, d8, rfl, hd8, hD8, -⟩ := hz8.open_
         obtain ⟨B9, d9, rfl, hd9, hD9, -⟩ := hz9
         unfold maxLen at hD4 hD8 hD9
         have hc4' := (hB.cell (p := ad4.add k) (by rw [block_add]; exact ha4)).trans hu4
         have hc8' := (hB.cell (p := ad8.add k) (by rw [block_add]; exact ha8)).trans hu8
         have hc9' := (hB.cell (p := ad9.add k) (by rw [block_add]; exact ha9)).trans hu9
         have HNO := Lib.hid (sh_no (m := m) (x := x) hl hs hf)
         have HNX := Lib.hid (HU.out.next hl hs hf)
         clear hz8 hrow4 hrow8 hrow9 hu4 hu8 hu9 hl hs hf HU
         cases q : slB m l.length s f with
         | false =>
          have HF := Lib.hid (show false = asB m n x by rw [HEQ.out, HNO.out fun hp => by rw [show slB m l.length s f = true from propB_t hp] at q; cases q])
          go_wp2_with fail
          refine wp_region_held_drew (S := fun w' => w'.cell? ⟨w.heap.size, 0, none⟩ = some (.int .i64 m.deg) ∧ w'.cell? ⟨w.heap.size, 1, none⟩ = some (.int .i64 m.st) ∧ w'.cell? ⟨w.heap.size, 2, none⟩ = some (.int .i64 m.msg) ∧ w'.cell? ⟨w.heap.size, 3, none⟩ = some (.slice A0 m0 c0) ∧ w'.cell? ⟨w.heap.size, 4, none⟩ = some (.slice A1 m1 c1) ∧ w'.cell? ⟨w.heap.size, 5, none⟩ = some (.slice A2 m2 c2) ∧ w'.cell? ⟨w.heap.size, 6, none⟩ = some (.slice A3 m3 c3) ∧ w'.cell? ⟨P2, 3, none⟩ = some (.slice (some ad8) x.slots.length c8) ∧ w'.cell? ⟨P2, 4, none⟩ = some (.slice (some ad9) x.flight.length c9) ∧ w'.cell? (ad8.add k) = some (.slice B8 s.length d8) ∧ w'.cell? (ad9.add k) = some (.slice B9 f.length d9)) (by kernel_rfl) ?_ (fun hHeld => ?_)
          ·
           go_keep
          refine stk 0 62 ?_
          refine stk 1 63 ?_
          refine stk 2 64 ?_
          refine stk 3 65 ?_
          refine stk 4 66 ?_
          refine stk 5 67 ?_
          refine stk 6 68 ?_
          refine stk 7 69 ?_
          refine stk 8 70 ?_
          refine stk 9 71 ?_
          refine stk 10 72 ?_
          refine stk 11 73 ?_
          refine stk 12 74 ?_
          refine tr 13 rfl (by kernel_rfl) (fun K hK => ?_)
          go_simp
          go_at_call 140
          refine (impl_slotsOk _ _ _ _ m l.length _ _ s f wr.drew HMD.out HZ8.out HZ9.out hg).mono ?_
          rintro e w8 ⟨rfl, hb8'⟩
          have hb8 : Below wr.heap.size wr w8 := (Below.refl _ _).drew.trans hb8'
          clear hb8'
          rw [q]
          replace g0 := (hb8.cell (p := ⟨w.heap.size, 0, none⟩) (by show w.heap.size < wr.heap.size; omega)).trans g0
          replace g1 := (hb8.cell (p := ⟨w.heap.size, 1, none⟩) (by show w.heap.size < wr.heap.size; omega)).trans g1
          replace g2 := (hb8.cell (p := ⟨w.heap.size, 2, none⟩) (by show w.heap.size < wr.heap.size; omega)).trans g2
          replace g3 := (hb8.cell (p := ⟨w.heap.size, 3, none⟩) (by show w.heap.size < wr.heap.size; omega)).trans g3
          replace g4 := (hb8.cell (p := ⟨w.heap.size, 4, none⟩) (by show w.heap.size < wr.heap.size; omega)).trans g4
          replace g5 := (hb8.cell (p := ⟨w.heap.size, 5, none⟩) (by show w.heap.size < wr.heap.size; omega)).trans g5
          replace g6 := (hb8.cell (p := ⟨w.heap.size, 6, none⟩) (by show w.heap.size < wr.heap.size; omega)).trans g6
          replace y3 := (hb8.cell (p := ⟨P2, 3, none⟩) (by show P2 < wr.heap.size; omega)).trans y3
          replace y4 := (hb8.cell (p := ⟨P2, 4, none⟩) (by show P2 < wr.heap.size; omega)).trans y4
          replace hc8' := (hb8.cell (p := ad8.add k) (by rw [block_add]; omega)).trans hc8'
          replace hc9' := (hb8.cell (p := ad9.add k) (by rw [block_add]; omega)).trans hc9'
          refine hK.out _ _ ?_ (fun hHeld => ?_)
          ·
           go_keep
          clear hK K
          try simp only [Act.put, pu]
          refine stk 14 76 ?_
          refine wpAnyH_done (by kernel_rfl) ?_ _
          go_wp2_with fail
          go_ret
          exact ⟨ret_bool HF.out, bl_trans hB hb8⟩
         | true =>
          have HSP := Lib.hid (propB_iff.1 q)
          go_wp2_with fail
          refine wp_region_held_drew (S := fun w' => w'.cell? ⟨w.heap.size, 0, none⟩ = some (.int .i64 m.deg) ∧ w'.cell? ⟨w.heap.size, 1, none⟩ = some (.int .i64 m.st) ∧ w'.cell? ⟨w.heap.size, 2, none⟩ = some (.int .i64 m.msg) ∧ w'.cell? ⟨w.heap.size, 3, none⟩ = some (.slice A0 m0 c0) ∧ w'.cell? ⟨w.heap.size, 4, none⟩ = some (.slice A1 m1 c1) ∧ w'.cell? ⟨w.heap.size, 5, none⟩ = some (.slice A2 m2 c2) ∧ w'.cell? ⟨w.heap.size, 6, none⟩ = some (.slice A3 m3 c3) ∧ w'.cell? ⟨P2, 3, none⟩ = some (.slice (some ad8) x.slots.length c8) ∧ w'.cell? ⟨P2, 4, none⟩ = some (.slice (some ad9) x.flight.length c9) ∧ w'.cell? (ad8.add k) = some (.slice B8 s.length d8) ∧ w'.cell? (ad9.add k) = some (.slice B9 f.length d9)) (by kernel_rfl) ?_ (fun hHeld => ?_)
          ·
           go_keep
          refine stk 0 62 ?_
          refine stk 1 63 ?_
          refine stk 2 64 ?_
          refine stk 3 65 ?_
          refine stk 4 66 ?_
          refine stk 5 67 ?_
          refine stk 6 68 ?_
          refine stk 7 69 ?_
          refine stk 8 70 ?_
          refine stk 9 71 ?_
          refine stk 10 72 ?_
          refine stk 11 73 ?_
          refine stk 12 74 ?_
          refine tr 13 rfl (by kernel_rfl) (fun K hK => ?_)
          go_simp
          go_at_call 140
          refine (impl_slotsOk _ _ _ _ m l.length _ _ s f wr.drew HMD.out HZ8.out HZ9.out hg).mono ?_
          rintro e w8 ⟨rfl, hb8'⟩
          have hb8 : Below wr.heap.size wr w8 := (Below.refl _ _).drew.trans hb8'
          clear hb8'
          rw [q]
          replace g0 := (hb8.cell (p := ⟨w.heap.size, 0, none⟩) (by show w.heap.size < wr.heap.size; omega)).trans g0
          replace g1 := (hb8.cell (p := ⟨w.heap.size, 1, none⟩) (by show w.heap.size < wr.heap.size; omega)).trans g1
          replace g2 := (hb8.cell (p := ⟨w.heap.size, 2, none⟩) (by show w.heap.size < wr.heap.size; omega)).trans g2
          replace g3 := (hb8.cell (p := ⟨w.heap.size, 3, none⟩) (by show w.heap.size < wr.heap.size; omega)).trans g3
          replace g4 := (hb8.cell (p := ⟨w.heap.size, 4, none⟩) (by show w.heap.size < wr.heap.size; omega)).trans g4
          replace g5 := (hb8.cell (p := ⟨w.heap.size, 5, none⟩) (by show w.heap.size < wr.heap.size; omega)).trans g5
          replace g6 := (hb8.cell (p := ⟨w.heap.size, 6, none⟩) (by show w.heap.size < wr.heap.size; omega)).trans g6
          replace y3 := (hb8.cell (p := ⟨P2, 3, none⟩) (by show P2 < wr.heap.size; omega)).trans y3
          replace y4 := (hb8.cell (p := ⟨P2, 4, none⟩) (by show P2 < wr.heap.size; omega)).trans y4
          replace hc8' := (hb8.cell (p := ad8.add k) (by rw [block_add]; omega)).trans hc8'
          replace hc9' := (hb8.cell (p := ad9.add k) (by rw [block_add]; omega)).trans hc9'
          refine hK.out _ _ ?_ (fun hHeld => ?_)
          ·
           go_keep
          clear hK K
          try simp only [Act.put, pu]
          refine stk 14 76 ?_
          refine wpAnyH_done (by kernel_rfl) ?_ _
          go_wp2_with fail
          go_roundw
          case rel => exact ⟨bl_trans hb1 hb8, k + 1, by omega, by go_num, HNX.out HSP.out⟩
          case measure => simp [intOf]; omega
        ·
         have HF := Lib.hid (show true = asB m n x by rw [HEQ.out]; exact (propB_t ⟨HT1.out, HT2.out, fun v l s f hv => HU.out v l s f (by omega)⟩).symm)
         go_wp2_with fail
         go_ret
         exact ⟨ret_bool HF.out, hB⟩
      ·
       have r2 : (((x.flight.length : Nat) : Int) != ((n.es.length : Nat) : Int)) = true := by rw [bne_iff_ne]; omega
       have HF := Lib.hid (show false = asB m n x by rw [HEQ.out]; exact (propB_f fun hp => t2 hp.2.1).symm)
       go_enter Tryz.func106, Tryz.ntmps106
       go_wp2_with fail
       rw [HP2.out, HP1.out, ← HW.out]
       clear eg0 eg1 eg2 eg3 eg4 eg5 eg6 eq0 eq1 eq2 ey0 ey1 ey2 ey3 ey4
       refine (impl_allWithin _ x.rounds _ _ w2 HX.out.r).mono ?_
       rintro e w5 ⟨rfl, hb5⟩
       rw [j3]
       have hzhb5 := hb5.size
       clear g0 g1 g2 g3 g4 g5 g6 gf q0 q1 q2 qf y0 y1 y2 y3 y4 yf
       replace HM := bk HM hb5
       replace HD := bk HD hb5
       replace HY := bk HY hb5
       replace hB := bl_trans hB hb5
       obtain ⟨⟨g0, g1, g2⟩, ⟨g3, g4, g5, g6⟩, gf⟩ := cells7 HM
       obtain ⟨q0, q1, q2, qf⟩ := cells3 HD
       obtain ⟨⟨y0, y1, y2⟩, ⟨y3, y4⟩, yf⟩ := cells5 HY
       replace HR := Lib.hid (HR.out.up hb5)
       replace HN := Lib.hid (HN.out.up hb5)
       replace HX := Lib.hid (HX.out.up hb5)
       go_wp2_with fail
       refine (impl_statesOk _ _ _ _ m _ _ _ n _ x.before w5 HR.out HN.out HX.out.b hst).mono ?_
       rintro e w6 ⟨rfl, hb6⟩
       rw [j4]
       have hzhb6 := hb6.size
       clear g0 g1 g2 g3 g4 g5 g6 gf q0 q1 q2 qf y0 y1 y2 y3 y4 yf
       replace HM := bk HM hb6
       replace HD := bk HD hb6
       replace HY := bk HY hb6
       replace hB := bl_trans hB hb6
       obtain ⟨⟨g0, g1, g2⟩, ⟨g3, g4, g5, g6⟩, gf⟩ := cells7 HM
       obtain ⟨q0, q1, q2, qf⟩ := cells3 HD
       obtain ⟨⟨y0, y1, y2⟩, ⟨y3, y4⟩, yf⟩ := cells5 HY
       replace HR := Lib.hid (HR.out.up hb6)
       replace HN := Lib.hid (HN.out.up hb6)
       replace HX := Lib.hid (HX.out.up hb6)
       go_wp2_with fail
       refine (impl_statesOk _ _ _ _ m _ _ _ n _ x.now w6 HR.out HN.out HX.out.n hst).mono ?_
       rintro e w7 ⟨rfl, hb7⟩
       rw [j5]
       have hzhb7 := hb7.size
       clear g0 g1 g2 g3 g4 g5 g6 gf q0 q1 q2 qf y0 y1 y2 y3 y4 yf
       replace HM := bk HM hb7
       replace HD := bk HD hb7
       replace HY := bk HY hb7
       replace hB := bl_trans hB hb7
       obtain ⟨⟨g0, g1, g2⟩, ⟨g3, g4, g5, g6⟩, gf⟩ := cells7 HM
       obtain ⟨q0, q1, q2, qf⟩ := cells3 HD
       obtain ⟨⟨y0, y1, y2⟩, ⟨y3, y4⟩, yf⟩ := cells5 HY
       replace HR := Lib.hid (HR.out.up hb7)
       replace HN := Lib.hid (HN.out.up hb7)
       replace HX := Lib.hid (HX.out.up hb7)
       go_wp2_with fail
       go_ret
       exact ⟨ret_bool HF.out, hB⟩
     ·
      have r1 : (((x.slots.length : Nat) : Int) != ((n.es.length : Nat) : Int)) = true := by rw [bne_iff_ne]; omega
      have HF := Lib.hid (show false = asB m n x by rw [HEQ.out]; exact (propB_f fun hp => t1 hp.1).symm)
      go_enter Tryz.func106, Tryz.ntmps106
      go_wp2_with fail
      rw [HP2.out, HP1.out, ← HW.out]
      clear eg0 eg1 eg2 eg3 eg4 eg5 eg6 eq0 eq1 eq2 ey0 ey1 ey2 ey3 ey4
      refine (impl_allWithin _ x.rounds _ _ w2 HX.out.r).mono ?_
      rintro e w5 ⟨rfl, hb5⟩
      rw [j3]
      have hzhb5 := hb5.size
      clear g0 g1 g2 g3 g4 g5 g6 gf q0 q1 q2 qf y0 y1 y2 y3 y4 yf
      replace HM := bk HM hb5
      replace HD := bk HD hb5
      replace HY := bk HY hb5
      replace hB := bl_trans hB hb5
      obtain ⟨⟨g0, g1, g2⟩, ⟨g3, g4, g5, g6⟩, gf⟩ := cells7 HM
      obtain ⟨q0, q1, q2, qf⟩ := cells3 HD
      obtain ⟨⟨y0, y1, y2⟩, ⟨y3, y4⟩, yf⟩ := cells5 HY
      replace HR := Lib.hid (HR.out.up hb5)
      replace HN := Lib.hid (HN.out.up hb5)
      replace HX := Lib.hid (HX.out.up hb5)
      go_wp2_with fail
      refine (impl_statesOk _ _ _ _ m _ _ _ n _ x.before w5 HR.out HN.out HX.out.b hst).mono ?_
      rintro e w6 ⟨rfl, hb6⟩
      rw [j4]
      have hzhb6 := hb6.size
      clear g0 g1 g2 g3 g4 g5 g6 gf q0 q1 q2 qf y0 y1 y2 y3 y4 yf
      replace HM := bk HM hb6
      replace HD := bk HD hb6
      replace HY := bk HY hb6
      replace hB := bl_trans hB hb6
      obtain ⟨⟨g0, g1, g2⟩, ⟨g3, g4, g5, g6⟩, gf⟩ := cells7 HM
      obtain ⟨q0, q1, q2, qf⟩ := cells3 HD
      obtain ⟨⟨y0, y1, y2⟩, ⟨y3, y4⟩, yf⟩ := cells5 HY
      replace HR := Lib.hid (HR.out.up hb6)
      replace HN := Lib.hid (HN.out.up hb6)
      replace HX := Lib.hid (HX.out.up hb6)
      go_wp2_with fail
      refine (impl_statesOk _ _ _ _ m _ _ _ n _ x.now w6 HR.out HN.out HX.out.n hst).mono ?_
      rintro e w7 ⟨rfl, hb7⟩
      rw [j5]
      have hzhb7 := hb7.size
      clear g0 g1 g2 g3 g4 g5 g6 gf q0 q1 q2 qf y0 y1 y2 y3 y4 yf
      replace HM := bk HM hb7
      replace HD := bk HD hb7
      replace HY := bk HY hb7
      replace hB := bl_trans hB hb7
      obtain ⟨⟨g0, g1, g2⟩, ⟨g3, g4, g5, g6⟩, gf⟩ := cells7 HM
      obtain ⟨q0, q1, q2, qf⟩ := cells3 HD
      obtain ⟨⟨y0, y1, y2⟩, ⟨y3, y4⟩, yf⟩ := cells5 HY
      replace HR := Lib.hid (HR.out.up hb7)
      replace HN := Lib.hid (HN.out.up hb7)
      replace HX := Lib.hid (HX.out.up hb7)
      go_wp2_with fail
      go_ret
      exact ⟨ret_bool HF.out, hB⟩
 ·
  have r1 : (((x.rounds.length : Nat) : Int) != ((n.es.length : Nat) : Int)) = true := by rw [bne_iff_ne]; omega
  have HF := Lib.hid (as_f2 (m := m) t1).symm
  go_enter Tryz.func106, Tryz.ntmps106
  go_wp2_with fail
  go_ret
  exact ⟨ret_bool HF.out, by rw [← HW.out]; exact hB⟩
theorem gd_as {m : Mach} {n : Net} {x : Asy} (h : fitB m n = true) : goodB m n x = asB m n x := propB_congr ⟨fun hp => hp.2, fun hp => ⟨propB_iff.1 h, hp⟩⟩
set_option maxRecDepth 100000 in
set_option maxHeartbeats 2000000 in
theorem impl_IsAsyncState (vs ve vc vo : Value) (m : Mach) (ne ni nn : Value) (n : Net) (xr xb xn xs xf : Value) (x : Asy) (w : World) (hm : MachR w w.heap.size vs ve vc vo m) (hn : NetR w w.heap.size ne ni nn n) (hx : AsyR w w.heap.size xr xb xn xs xf x)
  (hz : n.es.length ≤ 2000000) (hzi : n.ids.length ≤ 2000000) :
  Calls Tryz.prog 57 #[machV vs ve vc vo m, .agg #[ne, ni, nn], .agg #[xr, xb, xn, xs, xf]] w fun e w' => e = .returned (.bool (goodB m n x)) ∧ Below w.heap.size w w' := by
 unfold machV
 obtain ⟨⟨A0, m0, c0, rfl⟩, ⟨A1, m1, c1, rfl⟩, ⟨A2, m2, c2, rfl⟩, A3, m3, c3, rfl⟩ := hm.slices
 obtain ⟨⟨A4, m4, c4, rfl⟩, ⟨A5, m5, c5, rfl⟩, A6, m6, c6, rfl⟩ := hn.slices
 obtain ⟨⟨A10, m10, c10, rfl⟩, ⟨A11, m11, c11, rfl⟩, ⟨A12, m12, c12, rfl⟩, ⟨A8, m8, c8, rfl⟩, A9, m9, c9, rfl⟩ := hx.slices
 obtain ⟨w0, hw0, hb0, HM, hz0, HS0⟩ := box7 w (.int .i64 m.deg) (.int .i64 m.st) (.int .i64 m.msg) (.slice A0 m0 c0) (.slice A1 m1 c1) (.slice A2 m2 c2) (.slice A3 m3 c3) 42
 obtain ⟨w1, hw1, hb1, HD, hz1, HS1⟩ := box3 w0 (.slice A4 m4 c4) (.slice A5 m5 c5) (.slice A6 m6 c6) 46
 replace HM := bk HM hb1
 obtain ⟨w2, hw2, hb2, HY, hz2, HS2⟩ := box5 w1 (.slice A10 m10 c10) (.slice A11 m11 c11) (.slice A12 m12 c12) (.slice A8 m8 c8) (.slice A9 m9 c9) 50
 replace HM := bk HM hb2
 replace HD := bk HD hb2
 have hB : Below w.heap.size w w2 := bl_trans (bl_trans (hb0) hb1) hb2
 have HW := Lib.hid (show w2 = ((w.alloc (.cells #[.int .i64 m.deg, .int .i64 m.st, .int .i64 m.msg, .slice A0 m0 c0, .slice A1 m1 c1, .slice A2 m2 c2, .slice A3 m3 c3] 42)).alloc (.cells #[.slice A4 m4 c4, .slice A5 m5 c5, .slice A6 m6 c6] 46)).alloc (.cells #[.slice A10 m10 c10, .slice A11 m11 c11, .slice A12 m12 c12, .slice A8 m8 c8, .slice A9 m9 c9] 50) by rw [hw2, hw1, hw0])
 obtain ⟨P1, hP1⟩ : ∃ z, z = w0.heap.size := ⟨_, rfl⟩
 have HP1 := Lib.hid (show w.heap.size + 1 = P1 by rw [hP1, HS0.out])
 have hPl1 : w.heap.size < P1 := by rw [← HP1.out]; omega
 rw [← hP1] at HD hz1
 obtain ⟨P2, hP2⟩ : ∃ z, z = w1.heap.size := ⟨_, rfl⟩
 have HP2 := Lib.hid (show w.heap.size + 1 + 1 = P2 by rw [hP2, HS1.out, HS0.out])
 have hPl2 : w.heap.size < P2 := by rw [← HP2.out]; omega
 rw [← hP2] at HY hz2
 obtain ⟨⟨g0, g1, g2⟩, ⟨g3, g4, g5, g6⟩, gf⟩ := cells7 HM
 obtain ⟨q0, q1, q2, qf⟩ := cells3 HD
 obtain ⟨⟨y0, y1, y2⟩, ⟨y3, y4⟩, yf⟩ := cells5 HY
 have eg0 := g0
 have eg1 := g1
 have eg2 := g2
 have eg3 := g3
 have eg4 := g4
 have eg5 := g5
 have eg6 := g6
 have eq0 := q0
 have eq1 := q1
 have eq2 := q2
 have ey0 := y0
 have ey1 := y1
 have ey2 := y2
 have ey3 := y3
 have ey4 := y4
 rw [HW.out] at eg0 eg1 eg2 eg3 eg4 eg5 eg6 eq0 eq1 eq2 ey0 ey1 ey2 ey3 ey4
 rw [← HP1.out] at eq0 eq1 eq2
 rw [← HP2.out] at ey0 ey1 ey2 ey3 ey4
 have hzb0 : w.heap.size < w2.heap.size := by omega
 have hzb1 : P1 < w2.heap.size := by omega
 have hzb2 : P2 < w2.heap.size := by omega
 have HR := Lib.hid (hm.up hB)
 have HN := Lib.hid (hn.up hB)
 have HX := Lib.hid (hx.up hB)
 clear hw2 hw1 hw0 hP1 hP2
 have HG := Lib.hid (impl_fits _ _ _ _ m _ _ _ n w2 HR.out HN.out hz hzi)
 cases j1 : fitB m n with
 | false =>
  have HF := Lib.hid (gd_f1 (x := x) j1).symm
  go_enter Tryz.func57, Tryz.ntmps57
  go_wp2_with fail
  rw [HP2.out, HP1.out, ← HW.out]
  clear eg0 eg1 eg2 eg3 eg4 eg5 eg6 eq0 eq1 eq2 ey0 ey1 ey2 ey3 ey4
  refine HG.out.mono ?_
  rintro e w5 ⟨rfl, hb5⟩
  rw [j1]
  have hzhb5 := hb5.size
  clear g0 g1 g2 g3 g4 g5 g6 gf q0 q1 q2 qf y0 y1 y2 y3 y4 yf
  replace HM := bk HM hb5
  replace HD := bk HD hb5
  replace HY := bk HY hb5
  replace hB := bl_trans hB hb5
  obtain ⟨⟨g0, g1, g2⟩, ⟨g3, g4, g5, g6⟩, gf⟩ := cells7 HM
  obtain ⟨q0, q1, q2, qf⟩ := cells3 HD
  obtain ⟨⟨y0, y1, y2⟩, ⟨y3, y4⟩, yf⟩ := cells5 HY
  replace HR := Lib.hid (HR.out.up hb5)
  replace HN := Lib.hid (HN.out.up hb5)
  replace HX := Lib.hid (HX.out.up hb5)
  go_wp2_with fail
  go_ret
  exact ⟨ret_bool HF.out, hB⟩
 | true =>
  have hst : 0 ≤ m.st ∧ m.st ≤ 1000 := by have := (propB_iff.1 j1).1.1.2.1; omega
  have hms : 1 ≤ m.msg ∧ m.msg ≤ 6 := (propB_iff.1 j1).1.1.2.2
  have HF := Lib.hid (gd_as (x := x) j1).symm
  go_enter Tryz.func57, Tryz.ntmps57
  go_wp2_with fail
  rw [HP2.out, HP1.out, ← HW.out]
  clear eg0 eg1 eg2 eg3 eg4 eg5 eg6 eq0 eq1 eq2 ey0 ey1 ey2 ey3 ey4
  refine HG.out.mono ?_
  rintro e w5 ⟨rfl, hb5⟩
  rw [j1]
  have hzhb5 := hb5.size
  clear g0 g1 g2 g3 g4 g5 g6 gf q0 q1 q2 qf y0 y1 y2 y3 y4 yf
  replace HM := bk HM hb5
  replace HD := bk HD hb5
  replace HY := bk HY hb5
  replace hB := bl_trans hB hb5
  obtain ⟨⟨g0, g1, g2⟩, ⟨g3, g4, g5, g6⟩, gf⟩ := cells7 HM
  obtain ⟨q0, q1, q2, qf⟩ := cells3 HD
  obtain ⟨⟨y0, y1, y2⟩, ⟨y3, y4⟩, yf⟩ := cells5 HY
  replace HR := Lib.hid (HR.out.up hb5)
  replace HN := Lib.hid (HN.out.up hb5)
  replace HX := Lib.hid (HX.out.up hb5)
  go_wp2_with fail
  refine (impl_asyncOk _ _ _ _ m _ _ _ n _ _ _ _ _ x w5 HR.out HN.out HX.out hst hms).mono ?_
  rintro e w6 ⟨rfl, hb6⟩
  go_wp2_with fail
  go_ret
  exact ⟨ret_bool HF.out, bl_trans hB hb6⟩
end Go.Proofs.YtcpbbjocaimocaaGreat
