/-
  Proved: the law FnRounds returns true for all bytes, and leaves them as they were. No condition. (The frame at the end is after the kit's proof-skeleton.mjs.)
-/
import Derived.Test.YtdghoienjegffaaGreatQDrawMv
import Derived.Test.YtdghoienjegffaaGreatQPlainRnd
import Derived.Test.YtdghoienjegffaaGreatQSame
import Derived.Test.YtdghoienjegffaaGreatQOpen
import Derived.ShutString
import Derived.Lib.SmallJoins
namespace Go.Proofs.YtdghoienjegffaaGreat.fnRounds
open Go.ChangeShapes Go.WideShapes Go.ChangeAt Go.RowKit Go.Joins Go.Deep
set_option linter.all false
def BytesU (w : World) (v : Value) : Prop :=
  ∃ A n c, v = .slice A n c ∧ n ≤ c ∧ n ≤ 9223372036854775807 ∧ (0 < n → ∃ ad, A = some ad ∧ ad.block < w.heap.size ∧ ∀ j, j < n → ∃ x : Nat, x ≤ 255 ∧ w.cell? (ad.add j) = some (.int .u8 (x : Int)))
theorem same_b (v v' : Value) (xs : List Int) (w : World) (h : IntsR w w.heap.size v xs) (h' : IntsR w w.heap.size v' xs) :
    Calls Tryz.prog 9 #[v, v'] w fun e w' => e = .returned (.bool true) ∧ Below w.heap.size w w' :=
  (laws_sameInts v v' xs w h h').mono fun _ _ ⟨h1, k, h2⟩ => ⟨h1, by rw [h2]; exact ⟨rfl, rfl, rfl, Nat.le_refl _, fun _ _ => rfl⟩⟩
def RdsRel (n : Net) (r : Int) (xs : List Int) (w : World) (now i : Value) (wr : World) : Prop :=
  Below w.heap.size w wr ∧ ∃ k : Nat, k ≤ 3 ∧ i = .int .i64 (k : Int) ∧ (∃ A m c, now = .slice A m c) ∧ IntsR wr wr.heap.size now (roundsT n r k xs)
set_option maxRecDepth 100000 in
set_option maxHeartbeats 4000000 in
theorem walk (v u : Value) (w : World) (h : BytesU w v) (h' : BytesU w u) :
  Calls Tryz.prog 3 #[v, u] w fun e w' => e = .returned (.bool true) ∧ Below w.heap.size w w' := by
 obtain ⟨B0, n0, k0, rfl, hc0, hn0, h0⟩ := h
 obtain ⟨B1, n1, k1, rfl, hc1, hn1, h1⟩ := h'
 have hB := Below.refl w.heap.size w
 go_enter Tryz.func3, Tryz.ntmps3
 go_wp2_with fail
 refine (laws_big B0 B1 n0 k0 n1 k1 w hn0 hn1).mono ?_
 rintro e w0 ⟨b, rfl, hb, rfl⟩
 cases b with
 | true =>
  go_wp2_with fail
  go_ret
  exact ⟨rfl, hB⟩
 | false =>
  obtain ⟨hl0, hl1⟩ := hb rfl
  have Ra := Lib.hid (show BytesC w w.heap.size (.slice B0 n0 k0) from ⟨⟨_, _, _, rfl, hl0, h0⟩, _, _, _, rfl, hc0⟩)
  have Rb := Lib.hid (show BytesR w w.heap.size (.slice B1 n1 k1) from ⟨_, _, _, rfl, hl1, h1⟩)
  clear hb h0 h1 hn0 hn1 hl0 hl1 hB
  go_wp2_with fail
  refine (spec_DrawRunTogether _ w Ra.out).mono ?_
  rintro e w1 ⟨val, n, r, us, xs, x, rfl, ⟨As, ms, cs, rfl⟩, hde, hx⟩
  have hk1 := hde.net
  obtain ⟨ge, ce, x0⟩ := own_slN (hk1.own .e trivial)
  obtain ⟨C1, c1', x1⟩ := own_slN (hk1.own .i trivial)
  obtain ⟨C2, c2', x2⟩ := own_slN (hk1.own .n trivial)
  have HV := Lib.hid (And.intro x0 (And.intro x1 x2))
  rw [x0, x1, x2]
  clear x0 x1 x2
  generalize (rowN n val .e).len = m0 at HV ⊢
  generalize (rowN n val .i).len = m1 at HV ⊢
  generalize (rowN n val .n).len = m2 at HV ⊢
  have HN := Lib.hid (show NetR w1 w1.heap.size (.slice ge m0 ce) (.slice C1 m1 c1') (.slice C2 m2 c2') n by
   have h1 := hde.net.reads hde.fit.i64
   rw [HV.out.1, HV.out.2.1, HV.out.2.2] at h1
   exact h1)
  have HS := Lib.hid (own_intsR hde.own hde.i64)
  have HF := Lib.hid hde.fit
  have hxl := hde.len
  have hes := hde.fit.es
  have hids := hde.fit.ids
  have hB1 := hde.bl
  clear hk1 hde HV
  obtain ⟨w2, hw2, hb2, HD, hz2, HS2⟩ := box3 w1 (.slice ge m0 ce) (.slice C1 m1 c1') (.slice C2 m2 c2') 27
  obtain ⟨P, hP⟩ : ∃ z, z = w1.heap.size := ⟨_, rfl⟩
  have HP := Lib.hid hP
  rw [← hP] at HD hz2
  have hPl : P ≤ w1.heap.size := by omega
  have HW2 := Lib.hid hw2
  replace HN := Lib.hid (HN.out.up hb2)
  replace HS := Lib.hid (ints_upS HS.out hb2)
  have hB := bl_trans hB1 hb2
  have hz1 := hb2.size
  obtain ⟨q0, q1, q2, qf⟩ := cells3 HD
  have eq0 := q0
  have eq1 := q1
  have eq2 := q2
  rw [hw2, hP] at eq0 eq1 eq2
  clear hw2 hP hb2 hB1 q0 q1 q2 qf
  go_wp2_with fail
  rw [← HW2.out, ← HP.out]
  clear eq0 eq1 eq2
  obtain ⟨q0, q1, q2, qf⟩ := cells3 HD
  refine (impl_RunTogether _ _ _ _ n r xs x w2 HN.out HS.out (by omega) (by omega) (by omega)).mono ?_
  rintro e w3 ⟨hb3, u3, k3, ys3, rfl, ⟨A3, m3, c3, rfl⟩, hu3, ht3, hf3⟩
  have HU := Lib.hid hu3
  have hzhb3 := hb3.size
  clear q0 q1 q2 qf
  replace HD := bk HD hb3
  replace HN := Lib.hid (HN.out.up hb3)
  replace HS := Lib.hid (ints_upS HS.out hb3)
  replace hB := bl_trans hB hb3
  obtain ⟨q0, q1, q2, qf⟩ := cells3 HD
  clear hu3
  go_wp2_with fail
  refine (spec_RunTogether _ _ _ _ n r xs x w3 HN.out HS.out (by omega) (by omega)).mono ?_
  rintro e w4 ⟨hb4, u4, k4, ys4, rfl, ⟨A4, m4, c4, rfl⟩, hu4, ht4, hf4⟩
  have hsame : k3 = k4 ∧ ys3 = ys4 := by
   cases hb : togB n r xs x with
   | true => exact ⟨(ht3 hb).1.trans (ht4 hb).1.symm, (ht3 hb).2.trans (ht4 hb).2.symm⟩
   | false => exact ⟨(hf3 hb).1.trans (hf4 hb).1.symm, (hf3 hb).2.trans (hf4 hb).2.symm⟩
  obtain ⟨rfl, rfl⟩ := hsame
  replace HU := Lib.hid (ints_upS HU.out hb4)
  have HU4 := Lib.hid hu4
  have HTY := Lib.hid (fun h => (ht3 h).2)
  have hzhb4 := hb4.size
  clear q0 q1 q2 qf
  replace HD := bk HD hb4
  replace HN := Lib.hid (HN.out.up hb4)
  replace HS := Lib.hid (ints_upS HS.out hb4)
  replace hB := bl_trans hB hb4
  obtain ⟨q0, q1, q2, qf⟩ := cells3 HD
  clear hu4 ht3 ht4 hf3 hf4
  have HTS := Lib.hid (fun h : togB n r xs x = true => (tog_sit h).1)
  have HTT := Lib.hid (fun (h1 : r = 1) (h2 : togB n r xs x = true) (h3 : 100 ≤ x) => show ilB n r ys3 = true ∧ sitB n r ys3 = true by
   subst h1
   rw [HTY.out h2]
   exact tog_tree h2 h3)
  clear HTY
  generalize togB n r xs x = tb at *
  go_upto_if 75 with (first | (go_at_call 9; refine (same_b _ _ ys3 w4 HU.out HU4.out).mono ?_; rintro e w5 ⟨rfl, hb5⟩))
  replace HU := Lib.hid (ints_upS HU.out hb5)
  clear HU4
  have hzhb5 := hb5.size
  clear q0 q1 q2 qf
  replace HD := bk HD hb5
  replace HN := Lib.hid (HN.out.up hb5)
  replace HS := Lib.hid (ints_upS HS.out hb5)
  replace hB := bl_trans hB hb5
  obtain ⟨q0, q1, q2, qf⟩ := cells3 HD
  go_upto_if 76 with fail
  go_cut [11, 14] from 44 to 179 (fun _ _ wc => Below w.heap.size w wc)
  case first =>
   cases tb with
   | false =>
    clear q0 q1 q2 qf
    go_wp2_with fail
    go_meet
    case rel => exact hB
   | true =>
    have HSI := Lib.hid (HTS.out rfl)
    go_wp2_with fail
    go_loopw [15, 16, 17, 18, 19, 20, 21, 22, 23] (fun now i _ _ _ _ _ _ _ wr => RdsRel n r xs w5 now i wr) (fun _ i _ _ _ _ _ _ _ _ => 3 - (intOf i).toNat)
    case atStart => exact ⟨Below.refl _ _, 0, by omega, rfl, ⟨_, _, _, rfl⟩, HS.out⟩
    case round =>
     obtain ⟨hbr, k, hk3, rfl, ⟨An, mn, cn, rfl⟩, hnow⟩ := hrel
     have HNOW := Lib.hid hnow
     replace HU := Lib.hid (ints_upS HU.out hbr)
     have HBR := Lib.hid hbr
     have hzhbr := hbr.size
     clear q0 q1 q2 qf
     replace HD := bk HD hbr
     replace HN := Lib.hid (HN.out.up hbr)
     replace HS := Lib.hid (ints_upS HS.out hbr)
     replace hB := bl_trans hB hbr
     obtain ⟨q0, q1, q2, qf⟩ := cells3 HD
     clear hnow
     by_cases hlt : k < 3
     ·
      have HSK := Lib.hid (rounds_sit HSI.out k)
      have HTK := Lib.hid (tog_k HSI.out (show k ≤ 100 by omega))
      have HMK := Lib.hid (enS_mvs (rounds_sit HSI.out k))
      have hlk : (roundsT n r k xs).length ≤ 300 := by rw [roundsT_len]; exact hxl
      have HLE := Lib.hid (show (enS n r (roundsT n r k xs)).length ≤ 300 from Nat.le_trans (enTo_len n r (roundsT n r k xs) _) hlk)
      have hk1 : ((k : Int) < 3) = True := eq_true (by omega)
      have hk2 : decide ((k : Int) < 3) = true := decide_eq_true (by omega)
      go_wp2_with fail
      refine (impl_EnabledNodes _ _ _ _ n r (roundsT n r k xs) wr HN.out HNOW.out (by omega) (by omega)).mono ?_
      rintro e w6 ⟨hb6, uE, E, rfl, ⟨A6, m6, c6, rfl⟩, huE, hE⟩
      obtain rfl := hE HSK.out
      have HE := Lib.hid huE
      replace HNOW := Lib.hid (ints_upS HNOW.out hb6)
      have HB6 := Lib.hid hb6
      have hzhb6 := hb6.size
      clear q0 q1 q2 qf
      replace HD := bk HD hb6
      replace HN := Lib.hid (HN.out.up hb6)
      replace HS := Lib.hid (ints_upS HS.out hb6)
      replace hB := bl_trans hB hb6
      obtain ⟨q0, q1, q2, qf⟩ := cells3 HD
      rw [HSK.out]
      clear huE
      go_wp2_with fail
      refine (impl_MoveSet _ _ _ _ _ n r (roundsT n r k xs) (enS n r (roundsT n r k xs)) w6 HN.out HNOW.out HE.out (by omega) (by omega) (by omega) (by have := HLE.out; omega)).mono ?_
      rintro e w7 ⟨hb7, uM, M, rfl, ⟨A7, m7, c7, rfl⟩, huM, hM, -⟩
      obtain rfl := hM HMK.out
      have HM := Lib.hid (show IntsR w7 w7.heap.size (.slice A7 m7 c7) (roundsT n r (k + 1) xs) from huM)
      have HB7 := Lib.hid hb7
      have hzhb7 := hb7.size
      clear q0 q1 q2 qf
      replace HD := bk HD hb7
      replace HN := Lib.hid (HN.out.up hb7)
      replace HS := Lib.hid (ints_upS HS.out hb7)
      replace hB := bl_trans hB hb7
      obtain ⟨q0, q1, q2, qf⟩ := cells3 HD
      rw [HMK.out]
      clear huM hM
      go_wp2_with fail
      refine (impl_RunTogether _ _ _ _ n r xs ((k : Int) + 1) w7 HN.out HS.out (by omega) (by omega) (by omega)).mono ?_
      rintro e w8 ⟨hb8, uR, kR, zs, rfl, ⟨A8, m8, c8, rfl⟩, huR, htR, -⟩
      obtain ⟨rfl, rfl⟩ := htR HTK.out.1
      have HR := Lib.hid (show IntsR w8 w8.heap.size (.slice A8 m8 c8) (roundsT n r (k + 1) xs) by rw [← HTK.out.2.2]; exact huR)
      replace HM := Lib.hid (ints_upS HM.out hb8)
      have HB8 := Lib.hid hb8
      have hzhb8 := hb8.size
      clear q0 q1 q2 qf
      replace HD := bk HD hb8
      replace HN := Lib.hid (HN.out.up hb8)
      replace HS := Lib.hid (ints_upS HS.out hb8)
      replace hB := bl_trans hB hb8
      obtain ⟨q0, q1, q2, qf⟩ := cells3 HD
      rw [HTK.out.1]
      obtain ⟨kq, hkq⟩ : ∃ z, z = togN n r xs ((k : Int) + 1).toNat 0 := ⟨_, rfl⟩
      have hkl : kq ≤ k + 1 := by rw [hkq]; exact HTK.out.2.1
      rw [← hkq]
      have hkg : ((kq : Int) > (k : Int) + 1) = False := eq_false (by omega)
      have hkg2 : ((k : Int) + 1 < (kq : Int)) = False := eq_false (by omega)
      clear huR htR hkq
      go_wp2_with (go_at_call 9; refine (same_b _ _ (roundsT n r (k + 1) xs) w8 HR.out HM.out).mono ?_; rintro e w9 ⟨rfl, hb9⟩)
      go_roundw
      case rel => exact ⟨(((HBR.out.trans (HB6.out.mono (by omega))).trans (HB7.out.mono (by omega))).trans (HB8.out.mono (by omega))).trans (hb9.mono (by omega)), k + 1, by omega, by go_num, ⟨_, _, _, rfl⟩, ints_upS HM.out hb9⟩
      case measure => simp [intOf]; omega
     ·
      have hk1 : ((k : Int) < 3) = False := eq_false (by omega)
      have hk2 : decide ((k : Int) < 3) = false := decide_eq_false (by omega)
      by_cases hr : r = 1
      ·
       subst hr
       by_cases hx1 : 100 ≤ x
       ·
        have hx2 : (x ≥ 100) = True := eq_true hx1
        obtain ⟨hl1, hl2⟩ := HTT.out (by simp) (by simp) hx1
        have HL := Lib.hid (And.intro hl1 hl2)
        clear hl1 hl2
        go_wp2_with fail
        refine (impl_IsLegalState _ _ _ _ n 1 ys3 wr HN.out HU.out (by omega) (by omega)).mono ?_
        rintro e w6 ⟨rfl, hb6⟩
        rw [HL.out.1, HL.out.2]
        have HB := Lib.hid (bl_trans hB hb6)
        clear q0 q1 q2 qf
        go_wp2_with fail
        go_meet
        case rel => exact HB.out
       ·
        have hx2 : (x ≥ 100) = False := eq_false hx1
        clear q0 q1 q2 qf
        go_wp2_with fail
        go_meet
        case rel => exact hB
      ·
       have hr1 : (r == 1) = false := by simpa using hr
       have hr2 : (r = 1) = False := eq_false hr
       clear q0 q1 q2 qf
       go_wp2_with fail
       go_meet
       case rel => exact hB
  case rest =>
   have HBC := Lib.hid hcut
   clear HD HN HS HU HTS HTT q0 q1 q2 qf hcut
   go_wp2_with fail
   refine (spec_DrawMoveSet _ wc ⟨(Rb.out.keep fun b hb => HBC.out.block b hb).more HBC.out.size, _, _, _, rfl, hc1⟩).mono ?_
   rintro e wd ⟨val, n, r, us, xs, tv, ys, rfl, ⟨As, ms, cs, rfl⟩, ⟨At, mt, ct, rfl⟩, hde, hys, hyl⟩
   have hk1 := hde.net
   obtain ⟨ge, ce, x0⟩ := own_slN (hk1.own .e trivial)
   obtain ⟨C1, c1', x1⟩ := own_slN (hk1.own .i trivial)
   obtain ⟨C2, c2', x2⟩ := own_slN (hk1.own .n trivial)
   have HV := Lib.hid (And.intro x0 (And.intro x1 x2))
   rw [x0, x1, x2]
   clear x0 x1 x2
   generalize (rowN n val .e).len = m0 at HV ⊢
   generalize (rowN n val .i).len = m1 at HV ⊢
   generalize (rowN n val .n).len = m2 at HV ⊢
   have HN := Lib.hid (show NetR wd wd.heap.size (.slice ge m0 ce) (.slice C1 m1 c1') (.slice C2 m2 c2') n by
    have h1 := hde.net.reads hde.fit.i64
    rw [HV.out.1, HV.out.2.1, HV.out.2.2] at h1
    exact h1)
   have HS := Lib.hid (own_intsR hde.own hde.i64)
   have HT := Lib.hid hys
   have hxl := hde.len
   have hes := hde.fit.es
   have hids := hde.fit.ids
   have hB1 := bl_trans HBC.out hde.bl
   clear hk1 hde HV hys
   obtain ⟨w2, hw2, hb2, HD, hz2, HS2⟩ := box3 wd (.slice ge m0 ce) (.slice C1 m1 c1') (.slice C2 m2 c2') 27
   obtain ⟨P, hP⟩ : ∃ z, z = wd.heap.size := ⟨_, rfl⟩
   have HP := Lib.hid hP
   rw [← hP] at HD hz2
   have hPl : P ≤ wd.heap.size := by omega
   have HW2 := Lib.hid hw2
   replace HN := Lib.hid (HN.out.up hb2)
   replace HS := Lib.hid (ints_upS HS.out hb2)
   replace HT := Lib.hid (ints_upS HT.out hb2)
   have hB := bl_trans hB1 hb2
   obtain ⟨q0, q1, q2, qf⟩ := cells3 HD
   have eq0 := q0
   have eq1 := q1
   have eq2 := q2
   rw [hw2, hP] at eq0 eq1 eq2
   clear hw2 hP hb2 hB1 q0 q1 q2 qf
   go_wp2_with fail
   rw [← HW2.out, ← HP.out]
   clear eq0 eq1 eq2
   obtain ⟨q0, q1, q2, qf⟩ := cells3 HD
   refine (impl_MoveSet _ _ _ _ _ n r xs ys w2 HN.out HS.out HT.out (by omega) (by omega) (by omega) (by omega)).mono ?_
   rintro e w3 ⟨hb3, u3, M3, rfl, ⟨A3, m3, c3, rfl⟩, hu3, ht3, hf3⟩
   have HU := Lib.hid hu3
   replace HT := Lib.hid (ints_upS HT.out hb3)
   have hzhb3 := hb3.size
   clear q0 q1 q2 qf
   replace HD := bk HD hb3
   replace HN := Lib.hid (HN.out.up hb3)
   replace HS := Lib.hid (ints_upS HS.out hb3)
   replace hB := bl_trans hB hb3
   obtain ⟨q0, q1, q2, qf⟩ := cells3 HD
   clear hu3
   go_wp2_with fail
   refine (spec_MoveSet _ _ _ _ _ n r xs ys w3 HN.out HS.out HT.out (by omega) (by omega) (by omega) (by omega)).mono ?_
   rintro e w4 ⟨hb4, u4, M4, rfl, ⟨A4, m4, c4, rfl⟩, hu4, ht4, hf4⟩
   obtain rfl : M3 = M4 := by
    cases hb : mvsB n r xs ys with
    | true => exact (ht3 hb).trans (ht4 hb).symm
    | false => exact (hf3 hb).trans (hf4 hb).symm
   replace HU := Lib.hid (ints_upS HU.out hb4)
   have HU4 := Lib.hid hu4
   have hzhb4 := hb4.size
   clear q0 q1 q2 qf
   replace HD := bk HD hb4
   replace HN := Lib.hid (HN.out.up hb4)
   replace HS := Lib.hid (ints_upS HS.out hb4)
   replace hB := bl_trans hB hb4
   obtain ⟨q0, q1, q2, qf⟩ := cells3 HD
   clear hu4 ht3 ht4 hf3 hf4 q0 q1 q2 qf
   generalize mvsB n r xs ys = tb at *
   go_wp2_with (go_at_call 9; refine (same_b _ _ M3 w4 HU.out HU4.out).mono ?_; rintro e w5 ⟨rfl, hb5⟩)
   go_ret
   exact ⟨rfl, bl_trans hB hb5⟩
set_option maxRecDepth 100000 in
/-- The reading of a slice of bytes. -/
theorem bytes_of_trod {H : Type} {enc : TypeId × Value → H} {W : World} {r : Reach} {b0 : Nat} {base : Nat} {sp : Nat → Bool} {hd : Bool} {v : Value} {d : DataW H} {ps : List MemPlace} (hval : Value.okWide Tryz.prog W r b0 22 v)
  (h : DataW.Trod enc Tryz.prog W base sp hd 22 v d ps) : BytesU W v := by
 obtain ⟨a, l, c, rfl⟩ := okWide_slice Tryz.underlying22 hval
 obtain ⟨fuel, hf⟩ := h
 rcases open_ints Tryz.underlying22 Tryz.underlying5 (by kernel_rfl) hf with ⟨e, _⟩ | ⟨ad, len, cap, zs, e, _, hl, hm, hz, _, hcell, hwf⟩
 ·
  have e' : Value.slice a l c = .slice none 0 0 := (List.cons.inj (show [Value.slice a l c] = [.slice none 0 0] from e)).1
  exact ⟨none, 0, 0, e', by omega, by omega, fun h => absurd h (by omega)⟩
 ·
  have e' : Value.slice a l c = .slice (some ad) len cap := (List.cons.inj (show [Value.slice a l c] = [.slice (some ad) len cap] from e)).1
  unfold maxLen at hm
  refine ⟨some ad, len, cap, e', by omega, by omega, fun hn => ⟨ad, rfl, ?_, fun j hj => ?_⟩⟩
  ·
   have h0 := hcell 0 (by rw [hz]; split <;> omega)
   have := World.block_lt_of_cell? _ _ h0
   rwa [block_add] at this
  ·
   have hjz : j < zs.length := by rw [hz]; split <;> omega
   have h1 := hcell j hjz
   have hw := hwf (zs.getD j 0) (by rw [List.getD_eq_getElem?_getD, List.getElem?_eq_getElem hjz]; exact List.getElem_mem _)
   have h2 : 0 ≤ zs.getD j 0 ∧ zs.getD j 0 ≤ 255 := by simpa [Lit.wf, IntKind.min, IntKind.max, IntKind.signed, IntKind.bits] using hw
   refine ⟨(zs.getD j 0).toNat, by omega, ?_⟩
   rw [h1, show ((zs.getD j 0).toNat : Int) = zs.getD j 0 by omega]
theorem laidOut : laidOutB Tryz.prog = true := by kernel_rfl
theorem own : ownKnob Tryz.prog.godebug = none := by kernel_rfl
set_option maxRecDepth 100000 in
theorem lifted (os : Os) (started : os.Started) (H : Type) (enc : TypeId × Value → H) :
  ReturnsInHanded {} Tryz.checked os 3 .any (Rows.fnRoundsSpec.pre6 enc Tryz.prog Tryz.f3 Rows.fnRoundsRow.domain false) (Rows.fnRoundsSpec.post enc Tryz.prog Tryz.f3 false true false false) := by
 refine returnsInHanded_of_change (C := Tryz.checked) own started (by kernel_rfl) Tryz.func3
  (ChangeSpec.witness6 (enc := enc) (C := Tryz.checked) false ⟨#[], #[.slice none 0 0, .slice none 0 0], []⟩ 8 (by kernel_rfl) (by kernel_rfl) (by kernel_rfl) (by kernel_rfl)) ?_
 intro W base args ds gs before hval0 hW hcnd _
 have hval : ∀ (j : Nat) t v, Tryz.f3.params[j]? = some t → args[j]? = some v → Value.okWide Tryz.prog W .any base t v := hval0
 have hW' := hW
 obtain ⟨p, q, hA0, hV, rfl, hfz, hnd⟩ := hW
 have hA : DataW.TrodAll enc Tryz.prog W 0 (fun _ => true) true Tryz.f3.params.toList args.toList ds p := hA0
 rw [Tryz.params3] at hA hval
 obtain ⟨v0, vs0, d0, ds0, p0, q0, hargs, rfl, rfl, h0, r0⟩ := trodAll_cons hA
 obtain ⟨v1, vs1, d1, ds1, p1, q1, rfl, rfl, rfl, h1, r1⟩ := trodAll_cons r0
 obtain ⟨rfl, rfl, rfl⟩ := trodAll_nil r1
 obtain rfl : args = #[v0, v1] := by cases args; simp_all
 obtain ⟨rfl, rfl⟩ := trodVars_none hV
 have hb0 := bytes_of_trod (hval 0 22 v0 rfl rfl) h0
 have hb1 := bytes_of_trod (hval 1 22 v1 rfl rfl) h1
 refine (walk v0 v1 W hb0 hb1).mono fun e W' ⟨he, hg⟩ => ?_
 subst he
 exact ⟨_, rfl, post_law laidOut (by kernel_rfl) rfl (by kernel_rfl) Tryz.underlying4 rfl hW' hg⟩
theorem over : Rows.fnRoundsRow.holds Tryz.pinned (OpenSpec.ofChange Rows.fnRoundsSpec) :=
  OpenClaim.holds_of_wide 3 Tryz.f3 rfl rfl rfl rfl rfl rfl rfl ⟨rfl, rfl, rfl, rfl, rfl⟩ rfl rfl rfl rfl rfl (by kernel_rfl) Tryz.func3 (by kernel_rfl)
    (of_decide_eq_true (by kernel_rfl)) (by unfold Func.isWrapper; first | (rw [if_pos (by decide +kernel)]; kernel_rfl) | (rw [if_neg (by decide +kernel)]; exact ⟨rfl, rfl⟩))
    (fun os started H enc _ => lifted os started H enc)
theorem proved : Rows.FnRoundsSaid :=
  over
#print axioms proved
end Go.Proofs.YtdghoienjegffaaGreat.fnRounds
