/-
  Proved: the law FnExactParseCertificate returns true for every walk problem and every string, and leaves them as they were. The row's own condition: the listed tables hold what their text lays (the card ties them).
-/
import Derived.Test.YtlmdebjbjbadlaaGreatDoorRows
import Derived.Test.YtlmdebjbjbadlaaGreatDoorCards
import Derived.Test.YtlmdebjbjbadlaaGreatDoorTie
import Derived.Test.YtlmdebjbjbadlaaGreatDoorLaw
import Derived.Test.YtlmdebjbjbadlaaGreatDoorParseCertSpec
import Derived.Test.YtlmdebjbjbadlaaGreatDoorParseCertImpl
import Derived.Test.YtlmdebjbjbadlaaGreatDoorMark
import Derived.Test.YtlmdebjbjbadlaaGreatDoorStoreAll
import Derived.Test.YtlmdebjbjbadlaaGreatDoorArgsWalk
import Derived.Test.YtlmdebjbjbadlaaGreatDoorArgsCert
import Derived.Test.YtlmdebjbjbadlaaGreatDoorOpen
import Derived.ProofKit
import Derived.Shelf.Vars
import Derived.Lay
import Derived.LaidMore
import Derived.OpenShut
import Derived.ShutString
import Derived.Stop.Joined
import Derived.SevenTiedAt
import Derived.Deep.RegionHeld3
import Derived.Lib.SmallJoins
import Derived.Lib.LaidTab
namespace Go.Proofs.YtlmdebjbjbadlaaGreatDoor.fnExactParseCertificate
open Go.ChangeShapes Go.WideShapes Go.ChangeAt Go.RowKit Go.Joins Go.Deep
set_option linter.unusedVariables false

theorem iface_cell {H : Type} {enc : TypeId × Value → H} {P : Program} {w : World} {base : Nat} {sp : Nat → Bool} {held : Bool} {fuel : Nat} {t : TypeId} {ms : Array (String × TypeId)} {cs : List Value} {x : DataW H × List MemPlace} (ht : P.underlying t = some (.interface ms))
    (h : DataW.trod enc P w base sp held fuel t cs = some x) : ∃ ev, cs = [ev] ∧ (ev = .nilIface ∨ ∃ te pe, ev = .iface te pe) := by
  cases fuel with
  | zero => simp [DataW.trod] at h
  | succ n =>
    unfold DataW.trod at h
    rw [ht] at h
    split at h <;> simp_all
theorem err_of_laid {W : World} {l r : List (String × DataW Unit)} {d : DataW Unit} (k : Nat) (hl : l.drop k = ("strconv.ErrSyntax", d) :: r) (h : laidMet Tryz.prog l W) : ErrAt W := by
  have h1 := laid_drop k l h
  rw [hl] at h1
  obtain ⟨ps, ⟨g, t, cs, fuel, p, q, hg, ht, hvar, hd, _, _⟩, _⟩ := h1
  obtain rfl := Option.some.inj ((show Tryz.prog.globalNamed "strconv.ErrSyntax" = some 1 by kernel_rfl).symm.trans hg)
  obtain rfl := Option.some.inj ((show (Tryz.prog.globals[1]?).map (·.type) = some 109 by kernel_rfl).symm.trans ht)
  obtain ⟨ev, e, hev⟩ := iface_cell Tryz.underlying109 hd
  refine ⟨ev, ?_, hev⟩
  unfold World.var? at hvar
  rw [hg] at hvar
  simp only [Option.bind_some] at hvar
  unfold World.cell?
  split at hvar
  · rename_i c _ _ hh
    obtain rfl : c = cs := by simpa using hvar
    simp only [hh]
    have : c[0]? = some ev := by rw [← Array.getElem?_toList, e]; rfl
    simpa using this
  · cases hvar
theorem box_keep {w w' : World} {b : Nat} {x v : Value} (h : BoxW w b x v) (hk : w'.heap[b]? = w.heap[b]?) : BoxW w' b x v := by
  have e1 : ∀ i, w'.cell? ⟨b, i, none⟩ = w.cell? ⟨b, i, none⟩ := fun i => by unfold World.cell?; simp only [hk]
  have e2 : ∀ i, w'.frozen? ⟨b, i, none⟩ = w.frozen? ⟨b, i, none⟩ := fun i => by unfold World.frozen?; simp only [hk]
  exact ⟨(e1 0).trans h.c0, (e1 1).trans h.c1, (e2 0).trans h.f0, (e2 1).trans h.f1⟩
theorem lens_le {M : Nat} : ∀ (xss : List (List Int)), (∀ x ∈ xss, x.length ≤ M) → lens xss ≤ xss.length * M
  | [], _ => by simp [lens]
  | x :: r, h => by
    have h1 := h x (by simp)
    have h2 := lens_le r fun y hy => h y (by simp [hy])
    simp only [lens, List.length_cons, Nat.succ_mul]
    omega
theorem pc_lens (n : Int) (xss : List (List Int)) (p0 : List UInt8) (t : List (List UInt8)) : (if pcB n xss p0 t = true then scF (clsI p0) t else []).length ≤ 200 ∧ (if pcB n xss p0 t = true then scS (clsI p0) t else []).length ≤ 200 ∧ lens (if pcB n xss p0 t = true then scR (clsI p0) t else []) ≤ 36 := by
  by_cases h : pcB n xss p0 t = true
  · simp only [h, if_true]
    obtain ⟨h1, h2, h3⟩ := propB_iff.1 h
    have hn : ((n.toNat : Nat) : Int) = n := by have := h1.1; unfold inB at this; simp at this; omega
    have sm := certP.small (n := n.toNat) (by rw [hn]; exact h1) h3
    refine ⟨sm.f.1, sm.s.1, ?_⟩
    have := lens_le (M := 3) (scR (clsI p0) t) fun x hx => by have := (sm.r.2 x hx).1; omega
    have := sm.r.1
    omega
  · have h' : pcB n xss p0 t = false := by simpa using h
    simp only [h']
    simp [lens]
set_option maxRecDepth 100000 in
set_option maxHeartbeats 2000000 in
theorem walk (n : Int) (v : Value) (xss : List (List Int)) (s : ByteArray) (w : World) (h : RowsR w w.heap.size v xss) (hs : s.size ≤ maxLen) (hm : MaxAt w) (hp : Pow10 w) (he : ErrAt w) :
    Calls Tryz.prog 3 #[walkV n v, .string s] w fun e w' => e = .returned (.bool true) ∧ Below w.heap.size w w' := by
  unfold maxLen at hs
  have HP := Lib.hid hp; clear hp
  have HE := Lib.hid he; clear he
  have HM := Lib.hid hm; clear hm
  have Rp := Lib.hid h; clear h
  obtain ⟨p0, t, hspl⟩ : ∃ p0 t, spl 32 s.data.toList [] = p0 :: t := by
    cases hq : spl 32 s.data.toList [] with
    | nil => exact absurd hq (spl_ne _ _ _)
    | cons a b => exact ⟨_, _, rfl⟩
  have hb0 := bl_alloc (Below.refl w.heap.size w) (.cells #[.int .i64 n, v] 24)
  have HBa := Lib.hid (BoxW.new w 24 (.int .i64 n) v)
  have hs0 : (w.alloc (.cells #[.int .i64 n, v] 24)).heap.size = w.heap.size + 1 := by simp
  have hB := hb0
  have hz0 := hb0.size
  replace Rp := Lib.hid (Rp.out.below hb0)
  have HS0 := Lib.hid hs0; clear hs0
  have hq1 := szR_le (left := 1048576) (n := szRows xss) (by omega)
  by_cases h20 : s.size ≤ 1048576
  · have hd20 : decide ((s.size : Int) > 1048576) = false := decide_eq_false (by omega)
    have J1 := Lib.hid (fun (W : World) (u : Value) (hr : RowsR W W.heap.size u xss) => spec_ParseCertificate n u xss s p0 t W hr h20 hspl)
    have J2 := Lib.hid (fun (W : World) (u : Value) (hr : RowsR W W.heap.size u xss) (hb : Below w.heap.size w W) => impl_ParseCertificate n u xss s p0 t W hr h20 hspl (HM.out.below hb) (HP.out.below hb) (HE.out.below hb))
    obtain ⟨hl1, hl2, hl3⟩ := pc_lens n xss p0 t
    unfold PcPost at J1 J2
    clear hspl
    generalize pcB n xss p0 t = ok at *
    generalize (if ok = true then clsI p0 else 0) = cl at *
    generalize (if ok = true then scLb (clsI p0) t else 0) = lb at *
    generalize (if ok = true then scF (clsI p0) t else []) = F at *
    generalize (if ok = true then scS (clsI p0) t else []) = S at *
    generalize (if ok = true then scR (clsI p0) t else []) = R at *
    go_enter Tryz.func3, Tryz.ntmps3
    obtain ⟨ba10, ba11, ba12, ba13⟩ := HBa.out
    go_wp2_with fail
    generalize w.alloc (.cells #[.int .i64 n, v] 24) = w0 at *
    have hs0 := HS0.out
    refine (sz_Walk n v xss 1048576 w0 (Rp.out.more (show w.heap.size ≤ w0.heap.size by omega)) (by omega) (by omega)).mono ?_
    rintro e w1 ⟨rfl, hb1⟩
    have hz1 := hb1.size
    replace hB := bl_trans hB hb1
    clear ba10 ba11 ba12 ba13
    replace HBa := Lib.hid (HBa.out.below hb1 (show w.heap.size < w0.heap.size by omega))
    replace Rp := Lib.hid (Rp.out.below (hb1.mono (show w.heap.size ≤ w0.heap.size by omega)))
    obtain ⟨ba20, ba21, ba22, ba23⟩ := HBa.out
    by_cases q1 : szR 1048576 (szRows xss) < 0
    · go_wp2_with fail
      go_ret
      exact ⟨rfl, hB⟩
    · obtain ⟨k1, -⟩ := szR_pos q1
      have hs1 : szRows xss ≤ 1048576 := by omega
      clear k1
      go_wp2_with fail
      refine (to_Walk n v xss _ (Rp.out.more (show w.heap.size ≤ w1.heap.size by omega)) hs1).mono ?_
      rintro e w2 ⟨va, bsa, rfl, ho, hna, hra, hbw2⟩
      have hz2 := hbw2.size
      replace hB := bl_trans hB hbw2
      clear ba20 ba21 ba22 ba23
      replace HBa := Lib.hid (HBa.out.below hbw2 (show w.heap.size < w1.heap.size by omega))
      replace Rp := Lib.hid (Rp.out.below (hbw2.mono (show w.heap.size ≤ w1.heap.size by omega)))
      obtain ⟨ba30, ba31, ba32, ba33⟩ := HBa.out
      obtain ⟨Aa, ma, ca, rfl⟩ := ho.isSlice
      have Ra := Lib.hid (ho.reads (B := w2.heap.size) (fun b hb => (hra b hb).2)); clear ho hna hra
      go_wp2_with fail
      refine (J1.out w2 _ (Ra.out.more (show w2.heap.size ≤ w2.heap.size by omega))).mono ?_
      rintro e w3 ⟨vfw, vsw, vrw, bfw, bsw, brw, rfl, hof, hos, hor, hnw, hrgw, hbw3⟩
      have hz3 := hbw3.size
      replace hB := bl_trans hB hbw3
      clear ba30 ba31 ba32 ba33
      replace HBa := Lib.hid (HBa.out.below hbw3 (show w.heap.size < w2.heap.size by omega))
      replace Rp := Lib.hid (Rp.out.below (hbw3.mono (show w.heap.size ≤ w2.heap.size by omega)))
      replace Ra := Lib.hid (Ra.out.below (hbw3.mono (show w2.heap.size ≤ w2.heap.size by omega)))
      obtain ⟨ba40, ba41, ba42, ba43⟩ := HBa.out
      obtain ⟨Afw, mfw, cfw, rfl⟩ := hof.1.isSlice
      obtain ⟨Asw, msw, csw, rfl⟩ := hos.1.isSlice
      obtain ⟨Arw, mrw, crw, rfl⟩ := hor.isSlice
      have Rfw := Lib.hid (hof.reads (B := w3.heap.size) (fun b hb => (hrgw b (by simp [hb])).2))
      have Rsw := Lib.hid (hos.reads (B := w3.heap.size) (fun b hb => (hrgw b (by simp [hb])).2))
      have Rrw := Lib.hid (hor.reads (B := w3.heap.size) (fun b hb => (hrgw b (by simp [hb])).2))
      clear hof hos hor hnw hrgw J1
      clear Ra
      have hb4 := bl_alloc (Below.refl w3.heap.size w3) (.cells #[.int .i64 cl, .int .i64 lb, .slice Afw mfw cfw, .slice Asw msw csw, .slice Arw mrw crw] 28)
      have HBw := Lib.hid (BoxC.new w3 28 (.int .i64 cl) (.int .i64 lb) (.slice Afw mfw cfw) (.slice Asw msw csw) (.slice Arw mrw crw))
      have hs4 : (w3.alloc (.cells #[.int .i64 cl, .int .i64 lb, .slice Afw mfw cfw, .slice Asw msw csw, .slice Arw mrw crw] 28)).heap.size = w3.heap.size + 1 := by simp
      have HS4 := Lib.hid hs4; clear hs4
      have hz5 := hb4.size
      replace hB := bl_trans hB hb4
      clear ba40 ba41 ba42 ba43
      replace HBa := Lib.hid (HBa.out.below hb4 (show w.heap.size < w3.heap.size by omega))
      replace Rp := Lib.hid (Rp.out.below (hb4.mono (show w.heap.size ≤ w3.heap.size by omega)))
      replace Rfw := Lib.hid (Rfw.out.below (hb4.mono (show w3.heap.size ≤ w3.heap.size by omega)))
      replace Rsw := Lib.hid (Rsw.out.below (hb4.mono (show w3.heap.size ≤ w3.heap.size by omega)))
      replace Rrw := Lib.hid (Rrw.out.below (hb4.mono (show w3.heap.size ≤ w3.heap.size by omega)))
      obtain ⟨ba50, ba51, ba52, ba53⟩ := HBa.out
      obtain ⟨bw10, bw11, bw12, bw13, bw14, bw1f0, bw1f1, bw1f2, bw1f3, bw1f4⟩ := HBw.out
      go_wp2_with fail
      generalize w3.alloc (.cells #[.int .i64 cl, .int .i64 lb, .slice Afw mfw cfw, .slice Asw msw csw, .slice Arw mrw crw] 28) = w3s at *
      have hs4 := HS4.out
      refine (to_Walk n v xss _ (Rp.out.more (show w.heap.size ≤ w3s.heap.size by omega)) hs1).mono ?_
      rintro e w4 ⟨vx, bsx, rfl, ho, hnx, hrx, hbw4⟩
      have hz6 := hbw4.size
      replace hB := bl_trans hB hbw4
      clear ba50 ba51 ba52 ba53
      replace HBa := Lib.hid (HBa.out.below hbw4 (show w.heap.size < w3s.heap.size by omega))
      clear bw10 bw11 bw12 bw13 bw14 bw1f0 bw1f1 bw1f2 bw1f3 bw1f4
      replace HBw := Lib.hid (HBw.out.below hbw4 (show w3.heap.size < w3s.heap.size by omega))
      replace Rp := Lib.hid (Rp.out.below (hbw4.mono (show w.heap.size ≤ w3s.heap.size by omega)))
      replace Rfw := Lib.hid (Rfw.out.below (hbw4.mono (show w3.heap.size ≤ w3s.heap.size by omega)))
      replace Rsw := Lib.hid (Rsw.out.below (hbw4.mono (show w3.heap.size ≤ w3s.heap.size by omega)))
      replace Rrw := Lib.hid (Rrw.out.below (hbw4.mono (show w3.heap.size ≤ w3s.heap.size by omega)))
      obtain ⟨ba60, ba61, ba62, ba63⟩ := HBa.out
      obtain ⟨bw20, bw21, bw22, bw23, bw24, bw2f0, bw2f1, bw2f2, bw2f3, bw2f4⟩ := HBw.out
      obtain ⟨Ax, mx, cx, rfl⟩ := ho.isSlice
      have Ox := Lib.hid ho; clear ho
      have Gx := Lib.hid hrx; clear hrx
      have Rx := Lib.hid (Ox.out.reads (B := w4.heap.size) (fun b hb => (Gx.out b hb).2))
      have hb7 := bl_alloc (Below.refl w4.heap.size w4) (.cells #[.int .i64 n, .slice Ax mx cx] 31)
      have HBx := Lib.hid (BoxW.new w4 31 (.int .i64 n) (.slice Ax mx cx))
      have hs7 : (w4.alloc (.cells #[.int .i64 n, .slice Ax mx cx] 31)).heap.size = w4.heap.size + 1 := by simp
      have HS7 := Lib.hid hs7; clear hs7
      have hz8 := hb7.size
      replace hB := bl_trans hB hb7
      clear ba60 ba61 ba62 ba63
      replace HBa := Lib.hid (HBa.out.below hb7 (show w.heap.size < w4.heap.size by omega))
      clear bw20 bw21 bw22 bw23 bw24 bw2f0 bw2f1 bw2f2 bw2f3 bw2f4
      replace HBw := Lib.hid (HBw.out.below hb7 (show w3.heap.size < w4.heap.size by omega))
      replace Rp := Lib.hid (Rp.out.below (hb7.mono (show w.heap.size ≤ w4.heap.size by omega)))
      replace Rfw := Lib.hid (Rfw.out.below (hb7.mono (show w3.heap.size ≤ w4.heap.size by omega)))
      replace Rsw := Lib.hid (Rsw.out.below (hb7.mono (show w3.heap.size ≤ w4.heap.size by omega)))
      replace Rrw := Lib.hid (Rrw.out.below (hb7.mono (show w3.heap.size ≤ w4.heap.size by omega)))
      replace Rx := Lib.hid (Rx.out.below (hb7.mono (show w4.heap.size ≤ w4.heap.size by omega)))
      replace Ox := Lib.hid (Ox.out.keep fun b hb' => hb7.block b (by have := Gx.out b hb'; omega))
      obtain ⟨ba70, ba71, ba72, ba73⟩ := HBa.out
      obtain ⟨bw30, bw31, bw32, bw33, bw34, bw3f0, bw3f1, bw3f2, bw3f3, bw3f4⟩ := HBw.out
      obtain ⟨bx10, bx11, bx12, bx13⟩ := HBx.out
      go_wp2_with fail
      generalize w4.alloc (.cells #[.int .i64 n, .slice Ax mx cx] 31) = w4s at *
      have hs7 := HS7.out
      refine (J2.out w4s _ (Rx.out.more (show w4.heap.size ≤ w4s.heap.size by omega)) hB).mono ?_
      rintro e w5 ⟨vfg, vsg, vrg, bfg, bsg, brg, rfl, hof, hos, hor, hng, hrgg, hbw5⟩
      have hz9 := hbw5.size
      replace hB := bl_trans hB hbw5
      clear ba70 ba71 ba72 ba73
      replace HBa := Lib.hid (HBa.out.below hbw5 (show w.heap.size < w4s.heap.size by omega))
      clear bw30 bw31 bw32 bw33 bw34 bw3f0 bw3f1 bw3f2 bw3f3 bw3f4
      replace HBw := Lib.hid (HBw.out.below hbw5 (show w3.heap.size < w4s.heap.size by omega))
      clear bx10 bx11 bx12 bx13
      replace HBx := Lib.hid (HBx.out.below hbw5 (show w4.heap.size < w4s.heap.size by omega))
      replace Rp := Lib.hid (Rp.out.below (hbw5.mono (show w.heap.size ≤ w4s.heap.size by omega)))
      replace Rfw := Lib.hid (Rfw.out.below (hbw5.mono (show w3.heap.size ≤ w4s.heap.size by omega)))
      replace Rsw := Lib.hid (Rsw.out.below (hbw5.mono (show w3.heap.size ≤ w4s.heap.size by omega)))
      replace Rrw := Lib.hid (Rrw.out.below (hbw5.mono (show w3.heap.size ≤ w4s.heap.size by omega)))
      replace Rx := Lib.hid (Rx.out.below (hbw5.mono (show w4.heap.size ≤ w4s.heap.size by omega)))
      replace Ox := Lib.hid (Ox.out.keep fun b hb' => hbw5.block b (by have := Gx.out b hb'; omega))
      obtain ⟨ba80, ba81, ba82, ba83⟩ := HBa.out
      obtain ⟨bw40, bw41, bw42, bw43, bw44, bw4f0, bw4f1, bw4f2, bw4f3, bw4f4⟩ := HBw.out
      obtain ⟨bx20, bx21, bx22, bx23⟩ := HBx.out
      obtain ⟨Afg, mfg, cfg, rfl⟩ := hof.1.isSlice
      obtain ⟨Asg, msg, csg, rfl⟩ := hos.1.isSlice
      obtain ⟨Arg, mrg, crg, rfl⟩ := hor.isSlice
      have Of := Lib.hid hof; clear hof
      have Os := Lib.hid hos; clear hos
      have Or := Lib.hid hor; clear hor
      have Gg := Lib.hid hrgg; clear hrgg
      have hb10 := bl_alloc (Below.refl w5.heap.size w5) (.cells #[.int .i64 cl, .int .i64 lb, .slice Afg mfg cfg, .slice Asg msg csg, .slice Arg mrg crg] 28)
      have HBg := Lib.hid (BoxC.new w5 28 (.int .i64 cl) (.int .i64 lb) (.slice Afg mfg cfg) (.slice Asg msg csg) (.slice Arg mrg crg))
      have hs10 : (w5.alloc (.cells #[.int .i64 cl, .int .i64 lb, .slice Afg mfg cfg, .slice Asg msg csg, .slice Arg mrg crg] 28)).heap.size = w5.heap.size + 1 := by simp
      have HS10 := Lib.hid hs10; clear hs10
      have hz11 := hb10.size
      replace hB := bl_trans hB hb10
      clear ba80 ba81 ba82 ba83
      replace HBa := Lib.hid (HBa.out.below hb10 (show w.heap.size < w5.heap.size by omega))
      clear bw40 bw41 bw42 bw43 bw44 bw4f0 bw4f1 bw4f2 bw4f3 bw4f4
      replace HBw := Lib.hid (HBw.out.below hb10 (show w3.heap.size < w5.heap.size by omega))
      clear bx20 bx21 bx22 bx23
      replace HBx := Lib.hid (HBx.out.below hb10 (show w4.heap.size < w5.heap.size by omega))
      replace Rp := Lib.hid (Rp.out.below (hb10.mono (show w.heap.size ≤ w5.heap.size by omega)))
      replace Rfw := Lib.hid (Rfw.out.below (hb10.mono (show w3.heap.size ≤ w5.heap.size by omega)))
      replace Rsw := Lib.hid (Rsw.out.below (hb10.mono (show w3.heap.size ≤ w5.heap.size by omega)))
      replace Rrw := Lib.hid (Rrw.out.below (hb10.mono (show w3.heap.size ≤ w5.heap.size by omega)))
      replace Rx := Lib.hid (Rx.out.below (hb10.mono (show w4.heap.size ≤ w5.heap.size by omega)))
      replace Ox := Lib.hid (Ox.out.keep fun b hb' => hb10.block b (by have := Gx.out b hb'; omega))
      replace Of := Lib.hid (Of.out.keep fun b hb' => hb10.block b (by have := Gg.out b (by simp [hb']); omega))
      replace Os := Lib.hid (Os.out.keep fun b hb' => hb10.block b (by have := Gg.out b (by simp [hb']); omega))
      replace Or := Lib.hid (Or.out.keep fun b hb' => hb10.block b (by have := Gg.out b (by simp [hb']); omega))
      obtain ⟨ba90, ba91, ba92, ba93⟩ := HBa.out
      obtain ⟨bw50, bw51, bw52, bw53, bw54, bw5f0, bw5f1, bw5f2, bw5f3, bw5f4⟩ := HBw.out
      obtain ⟨bx30, bx31, bx32, bx33⟩ := HBx.out
      obtain ⟨bg10, bg11, bg12, bg13, bg14, bg1f0, bg1f1, bg1f2, bg1f3, bg1f4⟩ := HBg.out
      go_wp2_with fail
      generalize w5.alloc (.cells #[.int .i64 cl, .int .i64 lb, .slice Afg mfg cfg, .slice Asg msg csg, .slice Arg mrg crg] 28) = w5s at *
      have hs10 := HS10.out
      refine (eq_Cert cl lb _ _ _ _ _ _ F S R w5s (Of.out.reads (B := w5s.heap.size) (fun b hb' => by have := Gg.out b (by simp [hb']); omega)) (Os.out.reads (B := w5s.heap.size) (fun b hb' => by have := Gg.out b (by simp [hb']); omega)) (Or.out.reads (B := w5s.heap.size) (fun b hb' => by have := Gg.out b (by simp [hb']); omega)) (Rfw.out.more (show w3.heap.size ≤ w5s.heap.size by omega)) (Rsw.out.more (show w3.heap.size ≤ w5s.heap.size by omega)) (Rrw.out.more (show w3.heap.size ≤ w5s.heap.size by omega))).mono ?_
      rintro e w6 ⟨rfl, hbw6⟩
      have hz12 := hbw6.size
      replace hB := bl_trans hB hbw6
      clear ba90 ba91 ba92 ba93
      replace HBa := Lib.hid (HBa.out.below hbw6 (show w.heap.size < w5s.heap.size by omega))
      clear bw50 bw51 bw52 bw53 bw54 bw5f0 bw5f1 bw5f2 bw5f3 bw5f4
      replace HBw := Lib.hid (HBw.out.below hbw6 (show w3.heap.size < w5s.heap.size by omega))
      clear bx30 bx31 bx32 bx33
      replace HBx := Lib.hid (HBx.out.below hbw6 (show w4.heap.size < w5s.heap.size by omega))
      clear bg10 bg11 bg12 bg13 bg14 bg1f0 bg1f1 bg1f2 bg1f3 bg1f4
      replace HBg := Lib.hid (HBg.out.below hbw6 (show w5.heap.size < w5s.heap.size by omega))
      replace Rp := Lib.hid (Rp.out.below (hbw6.mono (show w.heap.size ≤ w5s.heap.size by omega)))
      replace Rfw := Lib.hid (Rfw.out.below (hbw6.mono (show w3.heap.size ≤ w5s.heap.size by omega)))
      replace Rsw := Lib.hid (Rsw.out.below (hbw6.mono (show w3.heap.size ≤ w5s.heap.size by omega)))
      replace Rrw := Lib.hid (Rrw.out.below (hbw6.mono (show w3.heap.size ≤ w5s.heap.size by omega)))
      replace Rx := Lib.hid (Rx.out.below (hbw6.mono (show w4.heap.size ≤ w5s.heap.size by omega)))
      replace Ox := Lib.hid (Ox.out.keep fun b hb' => hbw6.block b (by have := Gx.out b hb'; omega))
      replace Of := Lib.hid (Of.out.keep fun b hb' => hbw6.block b (by have := Gg.out b (by simp [hb']); omega))
      replace Os := Lib.hid (Os.out.keep fun b hb' => hbw6.block b (by have := Gg.out b (by simp [hb']); omega))
      replace Or := Lib.hid (Or.out.keep fun b hb' => hbw6.block b (by have := Gg.out b (by simp [hb']); omega))
      obtain ⟨ba100, ba101, ba102, ba103⟩ := HBa.out
      obtain ⟨bw60, bw61, bw62, bw63, bw64, bw6f0, bw6f1, bw6f2, bw6f3, bw6f4⟩ := HBw.out
      obtain ⟨bx40, bx41, bx42, bx43⟩ := HBx.out
      obtain ⟨bg20, bg21, bg22, bg23, bg24, bg2f0, bg2f1, bg2f2, bg2f3, bg2f4⟩ := HBg.out
      go_wp2_with fail
      refine wp_region_held_drew (S := (fun w' => w'.cell? ⟨w4.heap.size, 0, none⟩ = some (.int .i64 n) ∧ w'.cell? ⟨w4.heap.size, 1, none⟩ = some (.slice Ax mx cx) ∧ w'.cell? ⟨w.heap.size, 0, none⟩ = some (.int .i64 n) ∧ w'.cell? ⟨w.heap.size, 1, none⟩ = some v)) (by kernel_rfl) ?_ (fun hHeld => ?_)
      · go_keep
      have hz13 := (Below.refl w6.heap.size w6).drew.size
      replace hB := bl_trans hB (Below.refl w6.heap.size w6).drew
      clear ba100 ba101 ba102 ba103
      replace HBa := Lib.hid (HBa.out.below (Below.refl w6.heap.size w6).drew (show w.heap.size < w6.heap.size by omega))
      clear bw60 bw61 bw62 bw63 bw64 bw6f0 bw6f1 bw6f2 bw6f3 bw6f4
      replace HBw := Lib.hid (HBw.out.below (Below.refl w6.heap.size w6).drew (show w3.heap.size < w6.heap.size by omega))
      clear bx40 bx41 bx42 bx43
      replace HBx := Lib.hid (HBx.out.below (Below.refl w6.heap.size w6).drew (show w4.heap.size < w6.heap.size by omega))
      clear bg20 bg21 bg22 bg23 bg24 bg2f0 bg2f1 bg2f2 bg2f3 bg2f4
      replace HBg := Lib.hid (HBg.out.below (Below.refl w6.heap.size w6).drew (show w5.heap.size < w6.heap.size by omega))
      replace Rp := Lib.hid (Rp.out.below ((Below.refl w6.heap.size w6).drew.mono (show w.heap.size ≤ w6.heap.size by omega)))
      replace Rfw := Lib.hid (Rfw.out.below ((Below.refl w6.heap.size w6).drew.mono (show w3.heap.size ≤ w6.heap.size by omega)))
      replace Rsw := Lib.hid (Rsw.out.below ((Below.refl w6.heap.size w6).drew.mono (show w3.heap.size ≤ w6.heap.size by omega)))
      replace Rrw := Lib.hid (Rrw.out.below ((Below.refl w6.heap.size w6).drew.mono (show w3.heap.size ≤ w6.heap.size by omega)))
      replace Rx := Lib.hid (Rx.out.below ((Below.refl w6.heap.size w6).drew.mono (show w4.heap.size ≤ w6.heap.size by omega)))
      replace Ox := Lib.hid (Ox.out.keep fun b hb' => (Below.refl w6.heap.size w6).drew.block b (by have := Gx.out b hb'; omega))
      replace Of := Lib.hid (Of.out.keep fun b hb' => (Below.refl w6.heap.size w6).drew.block b (by have := Gg.out b (by simp [hb']); omega))
      replace Os := Lib.hid (Os.out.keep fun b hb' => (Below.refl w6.heap.size w6).drew.block b (by have := Gg.out b (by simp [hb']); omega))
      replace Or := Lib.hid (Or.out.keep fun b hb' => (Below.refl w6.heap.size w6).drew.block b (by have := Gg.out b (by simp [hb']); omega))
      obtain ⟨ba110, ba111, ba112, ba113⟩ := HBa.out
      obtain ⟨bw70, bw71, bw72, bw73, bw74, bw7f0, bw7f1, bw7f2, bw7f3, bw7f4⟩ := HBw.out
      obtain ⟨bx50, bx51, bx52, bx53⟩ := HBx.out
      obtain ⟨bg30, bg31, bg32, bg33, bg34, bg3f0, bg3f1, bg3f2, bg3f3, bg3f4⟩ := HBg.out
      refine take_wanted 0 48 (v := ?v100) rfl rfl (by kernel_rfl) (by kernel_rfl) (by kernel_rfl) (fun _ _ _ h => h) (by rfl) ?y100 (by assumption) ?r100
      case y100 => intro w hSw; (try dsimp only at hSw); go_simp <;> with_reducible rfl
      try simp only [Act.put, List.setIfInBounds_toArray, List.set_cons_zero, List.set_cons_succ]
      refine take_wanted 1 49 (v := ?v101) rfl rfl (by kernel_rfl) (by kernel_rfl) (by kernel_rfl) (fun _ _ _ h => h) (by rfl) ?y101 (by assumption) ?r101
      case y101 => intro w hSw; (try dsimp only at hSw); go_simp <;> with_reducible rfl
      try simp only [Act.put, List.setIfInBounds_toArray, List.set_cons_zero, List.set_cons_succ]
      refine take_ready 2 rfl (by kernel_rfl) (fun K hK => ?_)
      go_simp
      go_at_call 8
      refine (to_Walk n v xss _ (Rp.out.more (show w.heap.size ≤ w6.drew.heap.size by omega)) hs1).mono ?_
      rintro e w7 ⟨vy, bsy, rfl, ho, hny, hry, hbw7⟩
      have hz14 := hbw7.size
      replace hB := bl_trans hB hbw7
      clear ba110 ba111 ba112 ba113
      replace HBa := Lib.hid (HBa.out.below hbw7 (show w.heap.size < w6.drew.heap.size by omega))
      clear bw70 bw71 bw72 bw73 bw74 bw7f0 bw7f1 bw7f2 bw7f3 bw7f4
      replace HBw := Lib.hid (HBw.out.below hbw7 (show w3.heap.size < w6.drew.heap.size by omega))
      clear bx50 bx51 bx52 bx53
      replace HBx := Lib.hid (HBx.out.below hbw7 (show w4.heap.size < w6.drew.heap.size by omega))
      clear bg30 bg31 bg32 bg33 bg34 bg3f0 bg3f1 bg3f2 bg3f3 bg3f4
      replace HBg := Lib.hid (HBg.out.below hbw7 (show w5.heap.size < w6.drew.heap.size by omega))
      replace Rp := Lib.hid (Rp.out.below (hbw7.mono (show w.heap.size ≤ w6.drew.heap.size by omega)))
      replace Rfw := Lib.hid (Rfw.out.below (hbw7.mono (show w3.heap.size ≤ w6.drew.heap.size by omega)))
      replace Rsw := Lib.hid (Rsw.out.below (hbw7.mono (show w3.heap.size ≤ w6.drew.heap.size by omega)))
      replace Rrw := Lib.hid (Rrw.out.below (hbw7.mono (show w3.heap.size ≤ w6.drew.heap.size by omega)))
      replace Rx := Lib.hid (Rx.out.below (hbw7.mono (show w4.heap.size ≤ w6.drew.heap.size by omega)))
      replace Ox := Lib.hid (Ox.out.keep fun b hb' => hbw7.block b (by have := Gx.out b hb'; omega))
      replace Of := Lib.hid (Of.out.keep fun b hb' => hbw7.block b (by have := Gg.out b (by simp [hb']); omega))
      replace Os := Lib.hid (Os.out.keep fun b hb' => hbw7.block b (by have := Gg.out b (by simp [hb']); omega))
      replace Or := Lib.hid (Or.out.keep fun b hb' => hbw7.block b (by have := Gg.out b (by simp [hb']); omega))
      obtain ⟨ba120, ba121, ba122, ba123⟩ := HBa.out
      obtain ⟨bw80, bw81, bw82, bw83, bw84, bw8f0, bw8f1, bw8f2, bw8f3, bw8f4⟩ := HBw.out
      obtain ⟨bx60, bx61, bx62, bx63⟩ := HBx.out
      obtain ⟨bg40, bg41, bg42, bg43, bg44, bg4f0, bg4f1, bg4f2, bg4f3, bg4f4⟩ := HBg.out
      obtain ⟨Ay, my, cy, rfl⟩ := ho.isSlice
      have Ry := Lib.hid (ho.reads (B := w7.heap.size) (fun b hb => (hry b hb).2)); clear ho hny hry
      refine hK.out _ _ ?_ (fun hHeld => ?_)
      · go_keep
      clear hK K
      try simp only [Act.put, List.setIfInBounds_toArray, List.set_cons_zero, List.set_cons_succ]
      refine take_ready 3 rfl (by kernel_rfl) (fun K hK => ?_)
      go_simp
      go_at_call 11
      refine (eq_Walk n _ _ xss w7 (Rx.out.more (show w4.heap.size ≤ w7.heap.size by omega)) (Ry.out.more (show w7.heap.size ≤ w7.heap.size by omega))).mono ?_
      rintro e w8 ⟨rfl, hb8⟩
      have hz15 := hb8.size
      replace hB := bl_trans hB hb8
      clear ba120 ba121 ba122 ba123
      replace HBa := Lib.hid (HBa.out.below hb8 (show w.heap.size < w7.heap.size by omega))
      clear bw80 bw81 bw82 bw83 bw84 bw8f0 bw8f1 bw8f2 bw8f3 bw8f4
      replace HBw := Lib.hid (HBw.out.below hb8 (show w3.heap.size < w7.heap.size by omega))
      clear bx60 bx61 bx62 bx63
      replace HBx := Lib.hid (HBx.out.below hb8 (show w4.heap.size < w7.heap.size by omega))
      clear bg40 bg41 bg42 bg43 bg44 bg4f0 bg4f1 bg4f2 bg4f3 bg4f4
      replace HBg := Lib.hid (HBg.out.below hb8 (show w5.heap.size < w7.heap.size by omega))
      replace Rp := Lib.hid (Rp.out.below (hb8.mono (show w.heap.size ≤ w7.heap.size by omega)))
      replace Rfw := Lib.hid (Rfw.out.below (hb8.mono (show w3.heap.size ≤ w7.heap.size by omega)))
      replace Rsw := Lib.hid (Rsw.out.below (hb8.mono (show w3.heap.size ≤ w7.heap.size by omega)))
      replace Rrw := Lib.hid (Rrw.out.below (hb8.mono (show w3.heap.size ≤ w7.heap.size by omega)))
      replace Rx := Lib.hid (Rx.out.below (hb8.mono (show w4.heap.size ≤ w7.heap.size by omega)))
      replace Ry := Lib.hid (Ry.out.below (hb8.mono (show w7.heap.size ≤ w7.heap.size by omega)))
      replace Ox := Lib.hid (Ox.out.keep fun b hb' => hb8.block b (by have := Gx.out b hb'; omega))
      replace Of := Lib.hid (Of.out.keep fun b hb' => hb8.block b (by have := Gg.out b (by simp [hb']); omega))
      replace Os := Lib.hid (Os.out.keep fun b hb' => hb8.block b (by have := Gg.out b (by simp [hb']); omega))
      replace Or := Lib.hid (Or.out.keep fun b hb' => hb8.block b (by have := Gg.out b (by simp [hb']); omega))
      obtain ⟨ba130, ba131, ba132, ba133⟩ := HBa.out
      obtain ⟨bw90, bw91, bw92, bw93, bw94, bw9f0, bw9f1, bw9f2, bw9f3, bw9f4⟩ := HBw.out
      obtain ⟨bx70, bx71, bx72, bx73⟩ := HBx.out
      obtain ⟨bg50, bg51, bg52, bg53, bg54, bg5f0, bg5f1, bg5f2, bg5f3, bg5f4⟩ := HBg.out
      refine hK.out _ _ ?_ (fun hHeld => ?_)
      · go_keep
      clear hK K
      try simp only [Act.put, List.setIfInBounds_toArray, List.set_cons_zero, List.set_cons_succ]
      refine take_wanted 4 52 (v := ?v104) rfl rfl (by kernel_rfl) (by kernel_rfl) (by kernel_rfl) (fun _ _ _ h => h) (by rfl) ?y104 (by assumption) ?r104
      case y104 => intro w hSw; (try dsimp only at hSw); go_simp <;> with_reducible rfl
      try simp only [Act.put, List.setIfInBounds_toArray, List.set_cons_zero, List.set_cons_succ]
      refine wpAnyH_done (by kernel_rfl) ?_ _
      go_wp2_with fail
      clear Ry
      clear Rx
      refine (mark_Walk n _ xss bsx 1 w8 Ox.out hnx (fun b hb => by have := Gx.out b hb; omega) (by omega) (by unfold szRows at hs1; omega)).mono ?_
      rintro e w9 ⟨rfl, -, hk9⟩
      have hlx : 0 ≤ 1 + (lens xss : Int) := by omega
      have hz16 := hk9.size
      replace hB := hB.trans (hk9.below (fun b hb' => by have := Gx.out b hb'; omega) (show w.heap.size ≤ w8.heap.size by omega))
      clear ba130 ba131 ba132 ba133
      replace HBa := Lib.hid (box_keep HBa.out (hk9.block (w.heap.size) (by omega) (fun hm => by have := Gx.out _ hm; omega)))
      clear bw90 bw91 bw92 bw93 bw94 bw9f0 bw9f1 bw9f2 bw9f3 bw9f4
      replace HBw := Lib.hid (HBw.out.keep (hk9.block (w3.heap.size) (by omega) (fun hm => by have := Gx.out _ hm; omega)))
      clear bx70 bx71 bx72 bx73
      replace HBx := Lib.hid (box_keep HBx.out (hk9.block (w4.heap.size) (by omega) (fun hm => by have := Gx.out _ hm; omega)))
      clear bg50 bg51 bg52 bg53 bg54 bg5f0 bg5f1 bg5f2 bg5f3 bg5f4
      replace HBg := Lib.hid (HBg.out.keep (hk9.block (w5.heap.size) (by omega) (fun hm => by have := Gx.out _ hm; omega)))
      replace Rp := Lib.hid (Rp.out.below (hk9.below (fun b hb' => by have := Gx.out b hb'; omega) (show w.heap.size ≤ w8.heap.size by omega)))
      replace Rfw := Lib.hid (Rfw.out.below (hk9.below (fun b hb' => by have := Gx.out b hb'; omega) (show w3.heap.size ≤ w8.heap.size by omega)))
      replace Rsw := Lib.hid (Rsw.out.below (hk9.below (fun b hb' => by have := Gx.out b hb'; omega) (show w3.heap.size ≤ w8.heap.size by omega)))
      replace Rrw := Lib.hid (Rrw.out.below (hk9.below (fun b hb' => by have := Gx.out b hb'; omega) (show w3.heap.size ≤ w8.heap.size by omega)))
      replace Of := Lib.hid (Of.out.keep fun b hb' => hk9.block b (by have := Gg.out b (by simp [hb']); omega) (fun hm => by have := Gg.out b (by simp [hb']); have := Gx.out _ hm; omega))
      replace Os := Lib.hid (Os.out.keep fun b hb' => hk9.block b (by have := Gg.out b (by simp [hb']); omega) (fun hm => by have := Gg.out b (by simp [hb']); have := Gx.out _ hm; omega))
      replace Or := Lib.hid (Or.out.keep fun b hb' => hk9.block b (by have := Gg.out b (by simp [hb']); omega) (fun hm => by have := Gg.out b (by simp [hb']); have := Gx.out _ hm; omega))
      obtain ⟨ba140, ba141, ba142, ba143⟩ := HBa.out
      obtain ⟨bw100, bw101, bw102, bw103, bw104, bw10f0, bw10f1, bw10f2, bw10f3, bw10f4⟩ := HBw.out
      obtain ⟨bx80, bx81, bx82, bx83⟩ := HBx.out
      obtain ⟨bg60, bg61, bg62, bg63, bg64, bg6f0, bg6f1, bg6f2, bg6f3, bg6f4⟩ := HBg.out
      clear hk9 Ox
      go_wp2_with fail
      refine (eq_Cert cl lb _ _ _ _ _ _ F S R w9 (Of.out.reads (B := w9.heap.size) (fun b hb' => by have := Gg.out b (by simp [hb']); omega)) (Os.out.reads (B := w9.heap.size) (fun b hb' => by have := Gg.out b (by simp [hb']); omega)) (Or.out.reads (B := w9.heap.size) (fun b hb' => by have := Gg.out b (by simp [hb']); omega)) (Rfw.out.more (show w3.heap.size ≤ w9.heap.size by omega)) (Rsw.out.more (show w3.heap.size ≤ w9.heap.size by omega)) (Rrw.out.more (show w3.heap.size ≤ w9.heap.size by omega))).mono ?_
      rintro e w10 ⟨rfl, hbw10⟩
      have hz17 := hbw10.size
      replace hB := bl_trans hB hbw10
      clear ba140 ba141 ba142 ba143
      replace HBa := Lib.hid (HBa.out.below hbw10 (show w.heap.size < w9.heap.size by omega))
      clear bw100 bw101 bw102 bw103 bw104 bw10f0 bw10f1 bw10f2 bw10f3 bw10f4
      replace HBw := Lib.hid (HBw.out.below hbw10 (show w3.heap.size < w9.heap.size by omega))
      clear bx80 bx81 bx82 bx83
      replace HBx := Lib.hid (HBx.out.below hbw10 (show w4.heap.size < w9.heap.size by omega))
      clear bg60 bg61 bg62 bg63 bg64 bg6f0 bg6f1 bg6f2 bg6f3 bg6f4
      replace HBg := Lib.hid (HBg.out.below hbw10 (show w5.heap.size < w9.heap.size by omega))
      replace Rp := Lib.hid (Rp.out.below (hbw10.mono (show w.heap.size ≤ w9.heap.size by omega)))
      replace Rfw := Lib.hid (Rfw.out.below (hbw10.mono (show w3.heap.size ≤ w9.heap.size by omega)))
      replace Rsw := Lib.hid (Rsw.out.below (hbw10.mono (show w3.heap.size ≤ w9.heap.size by omega)))
      replace Rrw := Lib.hid (Rrw.out.below (hbw10.mono (show w3.heap.size ≤ w9.heap.size by omega)))
      replace Of := Lib.hid (Of.out.keep fun b hb' => hbw10.block b (by have := Gg.out b (by simp [hb']); omega))
      replace Os := Lib.hid (Os.out.keep fun b hb' => hbw10.block b (by have := Gg.out b (by simp [hb']); omega))
      replace Or := Lib.hid (Or.out.keep fun b hb' => hbw10.block b (by have := Gg.out b (by simp [hb']); omega))
      obtain ⟨ba150, ba151, ba152, ba153⟩ := HBa.out
      obtain ⟨bw110, bw111, bw112, bw113, bw114, bw11f0, bw11f1, bw11f2, bw11f3, bw11f4⟩ := HBw.out
      obtain ⟨bx90, bx91, bx92, bx93⟩ := HBx.out
      obtain ⟨bg70, bg71, bg72, bg73, bg74, bg7f0, bg7f1, bg7f2, bg7f3, bg7f4⟩ := HBg.out
      go_wp2_with fail
      refine (mark_Cert cl lb _ _ _ F S R bfg bsg brg 1 w10 Of.out Os.out Or.out hng (fun b hb => by have := Gg.out b hb; omega) (by omega) (by omega)).mono ?_
      rintro e w11 ⟨rfl, hof, hos, hor, hk11⟩
      clear Of Os Or
      have Of := Lib.hid hof; clear hof
      have Os := Lib.hid hos; clear hos
      have Or := Lib.hid hor; clear hor
      have hz18 := hk11.size
      replace hB := hB.trans (hk11.below (fun b hb' => by have := Gg.out b hb'; omega) (show w.heap.size ≤ w10.heap.size by omega))
      clear ba150 ba151 ba152 ba153
      replace HBa := Lib.hid (box_keep HBa.out (hk11.block (w.heap.size) (by omega) (fun hm => by have := Gg.out _ hm; omega)))
      clear bw110 bw111 bw112 bw113 bw114 bw11f0 bw11f1 bw11f2 bw11f3 bw11f4
      replace HBw := Lib.hid (HBw.out.keep (hk11.block (w3.heap.size) (by omega) (fun hm => by have := Gg.out _ hm; omega)))
      clear bx90 bx91 bx92 bx93
      replace HBx := Lib.hid (box_keep HBx.out (hk11.block (w4.heap.size) (by omega) (fun hm => by have := Gg.out _ hm; omega)))
      clear bg70 bg71 bg72 bg73 bg74 bg7f0 bg7f1 bg7f2 bg7f3 bg7f4
      replace HBg := Lib.hid (HBg.out.keep (hk11.block (w5.heap.size) (by omega) (fun hm => by have := Gg.out _ hm; omega)))
      replace Rp := Lib.hid (Rp.out.below (hk11.below (fun b hb' => by have := Gg.out b hb'; omega) (show w.heap.size ≤ w10.heap.size by omega)))
      replace Rfw := Lib.hid (Rfw.out.below (hk11.below (fun b hb' => by have := Gg.out b hb'; omega) (show w3.heap.size ≤ w10.heap.size by omega)))
      replace Rsw := Lib.hid (Rsw.out.below (hk11.below (fun b hb' => by have := Gg.out b hb'; omega) (show w3.heap.size ≤ w10.heap.size by omega)))
      replace Rrw := Lib.hid (Rrw.out.below (hk11.below (fun b hb' => by have := Gg.out b hb'; omega) (show w3.heap.size ≤ w10.heap.size by omega)))
      obtain ⟨ba160, ba161, ba162, ba163⟩ := HBa.out
      obtain ⟨bw120, bw121, bw122, bw123, bw124, bw12f0, bw12f1, bw12f2, bw12f3, bw12f4⟩ := HBw.out
      obtain ⟨bx100, bx101, bx102, bx103⟩ := HBx.out
      obtain ⟨bg80, bg81, bg82, bg83, bg84, bg8f0, bg8f1, bg8f2, bg8f3, bg8f4⟩ := HBg.out
      clear hk11
      go_wp2_with fail
      refine (held_Cert cl lb _ _ _ F S R 1 w11 (Of.out.reads (B := w11.heap.size) (fun b hb' => by have := Gg.out b (by simp [hb']); omega)) (Os.out.reads (B := w11.heap.size) (fun b hb' => by have := Gg.out b (by simp [hb']); omega)) (Or.out.reads (B := w11.heap.size) (fun b hb' => by have := Gg.out b (by simp [hb']); omega)) (by omega) (by omega)).mono ?_
      rintro e w12 ⟨rfl, hbw12⟩
      have hz19 := hbw12.size
      replace hB := bl_trans hB hbw12
      clear ba160 ba161 ba162 ba163
      replace HBa := Lib.hid (HBa.out.below hbw12 (show w.heap.size < w11.heap.size by omega))
      clear bw120 bw121 bw122 bw123 bw124 bw12f0 bw12f1 bw12f2 bw12f3 bw12f4
      replace HBw := Lib.hid (HBw.out.below hbw12 (show w3.heap.size < w11.heap.size by omega))
      clear bx100 bx101 bx102 bx103
      replace HBx := Lib.hid (HBx.out.below hbw12 (show w4.heap.size < w11.heap.size by omega))
      clear bg80 bg81 bg82 bg83 bg84 bg8f0 bg8f1 bg8f2 bg8f3 bg8f4
      replace HBg := Lib.hid (HBg.out.below hbw12 (show w5.heap.size < w11.heap.size by omega))
      replace Rp := Lib.hid (Rp.out.below (hbw12.mono (show w.heap.size ≤ w11.heap.size by omega)))
      replace Rfw := Lib.hid (Rfw.out.below (hbw12.mono (show w3.heap.size ≤ w11.heap.size by omega)))
      replace Rsw := Lib.hid (Rsw.out.below (hbw12.mono (show w3.heap.size ≤ w11.heap.size by omega)))
      replace Rrw := Lib.hid (Rrw.out.below (hbw12.mono (show w3.heap.size ≤ w11.heap.size by omega)))
      replace Of := Lib.hid (Of.out.keep fun b hb' => hbw12.block b (by have := Gg.out b (by simp [hb']); omega))
      replace Os := Lib.hid (Os.out.keep fun b hb' => hbw12.block b (by have := Gg.out b (by simp [hb']); omega))
      replace Or := Lib.hid (Or.out.keep fun b hb' => hbw12.block b (by have := Gg.out b (by simp [hb']); omega))
      obtain ⟨ba170, ba171, ba172, ba173⟩ := HBa.out
      obtain ⟨bw130, bw131, bw132, bw133, bw134, bw13f0, bw13f1, bw13f2, bw13f3, bw13f4⟩ := HBw.out
      obtain ⟨bx110, bx111, bx112, bx113⟩ := HBx.out
      obtain ⟨bg90, bg91, bg92, bg93, bg94, bg9f0, bg9f1, bg9f2, bg9f3, bg9f4⟩ := HBg.out
      go_wp2_with fail
      refine (to_Walk n v xss _ (Rp.out.more (show w.heap.size ≤ w12.heap.size by omega)) hs1).mono ?_
      rintro e w13 ⟨vz, bsz, rfl, ho, hnz, hrz, hbw13⟩
      have hz20 := hbw13.size
      replace hB := bl_trans hB hbw13
      clear ba170 ba171 ba172 ba173
      replace HBa := Lib.hid (HBa.out.below hbw13 (show w.heap.size < w12.heap.size by omega))
      clear bw130 bw131 bw132 bw133 bw134 bw13f0 bw13f1 bw13f2 bw13f3 bw13f4
      replace HBw := Lib.hid (HBw.out.below hbw13 (show w3.heap.size < w12.heap.size by omega))
      clear bx110 bx111 bx112 bx113
      replace HBx := Lib.hid (HBx.out.below hbw13 (show w4.heap.size < w12.heap.size by omega))
      clear bg90 bg91 bg92 bg93 bg94 bg9f0 bg9f1 bg9f2 bg9f3 bg9f4
      replace HBg := Lib.hid (HBg.out.below hbw13 (show w5.heap.size < w12.heap.size by omega))
      replace Rp := Lib.hid (Rp.out.below (hbw13.mono (show w.heap.size ≤ w12.heap.size by omega)))
      replace Rfw := Lib.hid (Rfw.out.below (hbw13.mono (show w3.heap.size ≤ w12.heap.size by omega)))
      replace Rsw := Lib.hid (Rsw.out.below (hbw13.mono (show w3.heap.size ≤ w12.heap.size by omega)))
      replace Rrw := Lib.hid (Rrw.out.below (hbw13.mono (show w3.heap.size ≤ w12.heap.size by omega)))
      replace Of := Lib.hid (Of.out.keep fun b hb' => hbw13.block b (by have := Gg.out b (by simp [hb']); omega))
      replace Os := Lib.hid (Os.out.keep fun b hb' => hbw13.block b (by have := Gg.out b (by simp [hb']); omega))
      replace Or := Lib.hid (Or.out.keep fun b hb' => hbw13.block b (by have := Gg.out b (by simp [hb']); omega))
      obtain ⟨ba180, ba181, ba182, ba183⟩ := HBa.out
      obtain ⟨bw140, bw141, bw142, bw143, bw144, bw14f0, bw14f1, bw14f2, bw14f3, bw14f4⟩ := HBw.out
      obtain ⟨bx120, bx121, bx122, bx123⟩ := HBx.out
      obtain ⟨bg100, bg101, bg102, bg103, bg104, bg10f0, bg10f1, bg10f2, bg10f3, bg10f4⟩ := HBg.out
      obtain ⟨Az, mz, cz, rfl⟩ := ho.isSlice
      have Rz := Lib.hid (ho.reads (B := w13.heap.size) (fun b hb => (hrz b hb).2)); clear ho hnz hrz
      go_wp2_with fail
      refine (J2.out w13 _ (Rz.out.more (show w13.heap.size ≤ w13.heap.size by omega)) hB).mono ?_
      rintro e w14 ⟨vfh, vsh, vrh, bfh, bsh, brh, rfl, hof, hos, hor, hnh, hrgh, hbw14⟩
      have hz21 := hbw14.size
      replace hB := bl_trans hB hbw14
      clear ba180 ba181 ba182 ba183
      replace HBa := Lib.hid (HBa.out.below hbw14 (show w.heap.size < w13.heap.size by omega))
      clear bw140 bw141 bw142 bw143 bw144 bw14f0 bw14f1 bw14f2 bw14f3 bw14f4
      replace HBw := Lib.hid (HBw.out.below hbw14 (show w3.heap.size < w13.heap.size by omega))
      clear bx120 bx121 bx122 bx123
      replace HBx := Lib.hid (HBx.out.below hbw14 (show w4.heap.size < w13.heap.size by omega))
      clear bg100 bg101 bg102 bg103 bg104 bg10f0 bg10f1 bg10f2 bg10f3 bg10f4
      replace HBg := Lib.hid (HBg.out.below hbw14 (show w5.heap.size < w13.heap.size by omega))
      replace Rp := Lib.hid (Rp.out.below (hbw14.mono (show w.heap.size ≤ w13.heap.size by omega)))
      replace Rfw := Lib.hid (Rfw.out.below (hbw14.mono (show w3.heap.size ≤ w13.heap.size by omega)))
      replace Rsw := Lib.hid (Rsw.out.below (hbw14.mono (show w3.heap.size ≤ w13.heap.size by omega)))
      replace Rrw := Lib.hid (Rrw.out.below (hbw14.mono (show w3.heap.size ≤ w13.heap.size by omega)))
      replace Rz := Lib.hid (Rz.out.below (hbw14.mono (show w13.heap.size ≤ w13.heap.size by omega)))
      replace Of := Lib.hid (Of.out.keep fun b hb' => hbw14.block b (by have := Gg.out b (by simp [hb']); omega))
      replace Os := Lib.hid (Os.out.keep fun b hb' => hbw14.block b (by have := Gg.out b (by simp [hb']); omega))
      replace Or := Lib.hid (Or.out.keep fun b hb' => hbw14.block b (by have := Gg.out b (by simp [hb']); omega))
      obtain ⟨ba190, ba191, ba192, ba193⟩ := HBa.out
      obtain ⟨bw150, bw151, bw152, bw153, bw154, bw15f0, bw15f1, bw15f2, bw15f3, bw15f4⟩ := HBw.out
      obtain ⟨bx130, bx131, bx132, bx133⟩ := HBx.out
      obtain ⟨bg110, bg111, bg112, bg113, bg114, bg11f0, bg11f1, bg11f2, bg11f3, bg11f4⟩ := HBg.out
      obtain ⟨Afh, mfh, cfh, rfl⟩ := hof.1.isSlice
      obtain ⟨Ash, msh, csh, rfl⟩ := hos.1.isSlice
      obtain ⟨Arh, mrh, crh, rfl⟩ := hor.isSlice
      have Rfh := Lib.hid (hof.reads (B := w14.heap.size) (fun b hb => (hrgh b (by simp [hb])).2))
      have Rsh := Lib.hid (hos.reads (B := w14.heap.size) (fun b hb => (hrgh b (by simp [hb])).2))
      have Rrh := Lib.hid (hor.reads (B := w14.heap.size) (fun b hb => (hrgh b (by simp [hb])).2))
      clear hof hos hor hnh hrgh J2
      clear Rz
      have hb22 := bl_alloc (Below.refl w14.heap.size w14) (.cells #[.int .i64 cl, .int .i64 lb, .slice Afh mfh cfh, .slice Ash msh csh, .slice Arh mrh crh] 28)
      have HBh := Lib.hid (BoxC.new w14 28 (.int .i64 cl) (.int .i64 lb) (.slice Afh mfh cfh) (.slice Ash msh csh) (.slice Arh mrh crh))
      have hs22 : (w14.alloc (.cells #[.int .i64 cl, .int .i64 lb, .slice Afh mfh cfh, .slice Ash msh csh, .slice Arh mrh crh] 28)).heap.size = w14.heap.size + 1 := by simp
      have HS22 := Lib.hid hs22; clear hs22
      have hz23 := hb22.size
      replace hB := bl_trans hB hb22
      clear ba190 ba191 ba192 ba193
      replace HBa := Lib.hid (HBa.out.below hb22 (show w.heap.size < w14.heap.size by omega))
      clear bw150 bw151 bw152 bw153 bw154 bw15f0 bw15f1 bw15f2 bw15f3 bw15f4
      replace HBw := Lib.hid (HBw.out.below hb22 (show w3.heap.size < w14.heap.size by omega))
      clear bx130 bx131 bx132 bx133
      replace HBx := Lib.hid (HBx.out.below hb22 (show w4.heap.size < w14.heap.size by omega))
      clear bg110 bg111 bg112 bg113 bg114 bg11f0 bg11f1 bg11f2 bg11f3 bg11f4
      replace HBg := Lib.hid (HBg.out.below hb22 (show w5.heap.size < w14.heap.size by omega))
      replace Rp := Lib.hid (Rp.out.below (hb22.mono (show w.heap.size ≤ w14.heap.size by omega)))
      replace Rfw := Lib.hid (Rfw.out.below (hb22.mono (show w3.heap.size ≤ w14.heap.size by omega)))
      replace Rsw := Lib.hid (Rsw.out.below (hb22.mono (show w3.heap.size ≤ w14.heap.size by omega)))
      replace Rrw := Lib.hid (Rrw.out.below (hb22.mono (show w3.heap.size ≤ w14.heap.size by omega)))
      replace Rfh := Lib.hid (Rfh.out.below (hb22.mono (show w14.heap.size ≤ w14.heap.size by omega)))
      replace Rsh := Lib.hid (Rsh.out.below (hb22.mono (show w14.heap.size ≤ w14.heap.size by omega)))
      replace Rrh := Lib.hid (Rrh.out.below (hb22.mono (show w14.heap.size ≤ w14.heap.size by omega)))
      replace Of := Lib.hid (Of.out.keep fun b hb' => hb22.block b (by have := Gg.out b (by simp [hb']); omega))
      replace Os := Lib.hid (Os.out.keep fun b hb' => hb22.block b (by have := Gg.out b (by simp [hb']); omega))
      replace Or := Lib.hid (Or.out.keep fun b hb' => hb22.block b (by have := Gg.out b (by simp [hb']); omega))
      obtain ⟨ba200, ba201, ba202, ba203⟩ := HBa.out
      obtain ⟨bw160, bw161, bw162, bw163, bw164, bw16f0, bw16f1, bw16f2, bw16f3, bw16f4⟩ := HBw.out
      obtain ⟨bx140, bx141, bx142, bx143⟩ := HBx.out
      obtain ⟨bg120, bg121, bg122, bg123, bg124, bg12f0, bg12f1, bg12f2, bg12f3, bg12f4⟩ := HBg.out
      obtain ⟨bh10, bh11, bh12, bh13, bh14, bh1f0, bh1f1, bh1f2, bh1f3, bh1f4⟩ := HBh.out
      go_wp2_with fail
      generalize w14.alloc (.cells #[.int .i64 cl, .int .i64 lb, .slice Afh mfh cfh, .slice Ash msh csh, .slice Arh mrh crh] 28) = w14s at *
      have hs22 := HS22.out
      refine (eq_Cert cl lb _ _ _ _ _ _ F S R w14s (Rfh.out.more (show w14.heap.size ≤ w14s.heap.size by omega)) (Rsh.out.more (show w14.heap.size ≤ w14s.heap.size by omega)) (Rrh.out.more (show w14.heap.size ≤ w14s.heap.size by omega)) (Rfw.out.more (show w3.heap.size ≤ w14s.heap.size by omega)) (Rsw.out.more (show w3.heap.size ≤ w14s.heap.size by omega)) (Rrw.out.more (show w3.heap.size ≤ w14s.heap.size by omega))).mono ?_
      rintro e w15 ⟨rfl, hbw15⟩
      have hz24 := hbw15.size
      replace hB := bl_trans hB hbw15
      clear ba200 ba201 ba202 ba203
      replace HBa := Lib.hid (HBa.out.below hbw15 (show w.heap.size < w14s.heap.size by omega))
      clear bw160 bw161 bw162 bw163 bw164 bw16f0 bw16f1 bw16f2 bw16f3 bw16f4
      replace HBw := Lib.hid (HBw.out.below hbw15 (show w3.heap.size < w14s.heap.size by omega))
      clear bx140 bx141 bx142 bx143
      replace HBx := Lib.hid (HBx.out.below hbw15 (show w4.heap.size < w14s.heap.size by omega))
      clear bg120 bg121 bg122 bg123 bg124 bg12f0 bg12f1 bg12f2 bg12f3 bg12f4
      replace HBg := Lib.hid (HBg.out.below hbw15 (show w5.heap.size < w14s.heap.size by omega))
      clear bh10 bh11 bh12 bh13 bh14 bh1f0 bh1f1 bh1f2 bh1f3 bh1f4
      replace HBh := Lib.hid (HBh.out.below hbw15 (show w14.heap.size < w14s.heap.size by omega))
      replace Rp := Lib.hid (Rp.out.below (hbw15.mono (show w.heap.size ≤ w14s.heap.size by omega)))
      replace Rfw := Lib.hid (Rfw.out.below (hbw15.mono (show w3.heap.size ≤ w14s.heap.size by omega)))
      replace Rsw := Lib.hid (Rsw.out.below (hbw15.mono (show w3.heap.size ≤ w14s.heap.size by omega)))
      replace Rrw := Lib.hid (Rrw.out.below (hbw15.mono (show w3.heap.size ≤ w14s.heap.size by omega)))
      replace Rfh := Lib.hid (Rfh.out.below (hbw15.mono (show w14.heap.size ≤ w14s.heap.size by omega)))
      replace Rsh := Lib.hid (Rsh.out.below (hbw15.mono (show w14.heap.size ≤ w14s.heap.size by omega)))
      replace Rrh := Lib.hid (Rrh.out.below (hbw15.mono (show w14.heap.size ≤ w14s.heap.size by omega)))
      replace Of := Lib.hid (Of.out.keep fun b hb' => hbw15.block b (by have := Gg.out b (by simp [hb']); omega))
      replace Os := Lib.hid (Os.out.keep fun b hb' => hbw15.block b (by have := Gg.out b (by simp [hb']); omega))
      replace Or := Lib.hid (Or.out.keep fun b hb' => hbw15.block b (by have := Gg.out b (by simp [hb']); omega))
      obtain ⟨ba210, ba211, ba212, ba213⟩ := HBa.out
      obtain ⟨bw170, bw171, bw172, bw173, bw174, bw17f0, bw17f1, bw17f2, bw17f3, bw17f4⟩ := HBw.out
      obtain ⟨bx150, bx151, bx152, bx153⟩ := HBx.out
      obtain ⟨bg130, bg131, bg132, bg133, bg134, bg13f0, bg13f1, bg13f2, bg13f3, bg13f4⟩ := HBg.out
      obtain ⟨bh20, bh21, bh22, bh23, bh24, bh2f0, bh2f1, bh2f2, bh2f3, bh2f4⟩ := HBh.out
      go_wp2_with fail
      refine (held_Cert cl lb _ _ _ F S R 1 w15 (Of.out.reads (B := w15.heap.size) (fun b hb' => by have := Gg.out b (by simp [hb']); omega)) (Os.out.reads (B := w15.heap.size) (fun b hb' => by have := Gg.out b (by simp [hb']); omega)) (Or.out.reads (B := w15.heap.size) (fun b hb' => by have := Gg.out b (by simp [hb']); omega)) (by omega) (by omega)).mono ?_
      rintro e w16 ⟨rfl, hbw16⟩
      have hz25 := hbw16.size
      replace hB := bl_trans hB hbw16
      clear ba210 ba211 ba212 ba213
      replace HBa := Lib.hid (HBa.out.below hbw16 (show w.heap.size < w15.heap.size by omega))
      clear bw170 bw171 bw172 bw173 bw174 bw17f0 bw17f1 bw17f2 bw17f3 bw17f4
      replace HBw := Lib.hid (HBw.out.below hbw16 (show w3.heap.size < w15.heap.size by omega))
      clear bx150 bx151 bx152 bx153
      replace HBx := Lib.hid (HBx.out.below hbw16 (show w4.heap.size < w15.heap.size by omega))
      clear bg130 bg131 bg132 bg133 bg134 bg13f0 bg13f1 bg13f2 bg13f3 bg13f4
      replace HBg := Lib.hid (HBg.out.below hbw16 (show w5.heap.size < w15.heap.size by omega))
      clear bh20 bh21 bh22 bh23 bh24 bh2f0 bh2f1 bh2f2 bh2f3 bh2f4
      replace HBh := Lib.hid (HBh.out.below hbw16 (show w14.heap.size < w15.heap.size by omega))
      replace Rp := Lib.hid (Rp.out.below (hbw16.mono (show w.heap.size ≤ w15.heap.size by omega)))
      replace Rfw := Lib.hid (Rfw.out.below (hbw16.mono (show w3.heap.size ≤ w15.heap.size by omega)))
      replace Rsw := Lib.hid (Rsw.out.below (hbw16.mono (show w3.heap.size ≤ w15.heap.size by omega)))
      replace Rrw := Lib.hid (Rrw.out.below (hbw16.mono (show w3.heap.size ≤ w15.heap.size by omega)))
      replace Rfh := Lib.hid (Rfh.out.below (hbw16.mono (show w14.heap.size ≤ w15.heap.size by omega)))
      replace Rsh := Lib.hid (Rsh.out.below (hbw16.mono (show w14.heap.size ≤ w15.heap.size by omega)))
      replace Rrh := Lib.hid (Rrh.out.below (hbw16.mono (show w14.heap.size ≤ w15.heap.size by omega)))
      replace Of := Lib.hid (Of.out.keep fun b hb' => hbw16.block b (by have := Gg.out b (by simp [hb']); omega))
      replace Os := Lib.hid (Os.out.keep fun b hb' => hbw16.block b (by have := Gg.out b (by simp [hb']); omega))
      replace Or := Lib.hid (Or.out.keep fun b hb' => hbw16.block b (by have := Gg.out b (by simp [hb']); omega))
      obtain ⟨ba220, ba221, ba222, ba223⟩ := HBa.out
      obtain ⟨bw180, bw181, bw182, bw183, bw184, bw18f0, bw18f1, bw18f2, bw18f3, bw18f4⟩ := HBw.out
      obtain ⟨bx160, bx161, bx162, bx163⟩ := HBx.out
      obtain ⟨bg140, bg141, bg142, bg143, bg144, bg14f0, bg14f1, bg14f2, bg14f3, bg14f4⟩ := HBg.out
      obtain ⟨bh30, bh31, bh32, bh33, bh34, bh3f0, bh3f1, bh3f2, bh3f3, bh3f4⟩ := HBh.out
      go_wp2_with fail
      go_ret
      exact ⟨rfl, hB⟩
  · go_enter Tryz.func3, Tryz.ntmps3
    obtain ⟨z0, z1, z2, z3⟩ := HBa.out
    have hd20 : decide ((s.size : Int) > 1048576) = true := decide_eq_true (by omega)
    go_wp2_with fail
    go_ret
    exact ⟨rfl, hb0⟩

theorem laidOut : laidOutB Tryz.prog = true := by kernel_rfl
theorem own : ownKnob Tryz.prog.godebug = none := by kernel_rfl
set_option maxRecDepth 100000 in
theorem lifted (os : Os) (started : os.Started) (H : Type) (enc : TypeId × Value → H) :
    ReturnsInHanded {} Tryz.checked os 3 .any (fun w args => (Rows.fnExactParseCertificateSpec.pre enc Tryz.prog Tryz.f3 [] false w args ∧ laidMetH Tryz.prog Rows.fnExactParseCertificateRow.laid w) ∧ sizedMet enc Tryz.prog Tryz.f3 (OpenSpec.ofChange Rows.fnExactParseCertificateSpec) false w args)
      (Rows.fnExactParseCertificateSpec.post enc Tryz.prog Tryz.f3 false true false false) := by
  refine law_lifted (C := Tryz.checked) (X := fun w _ => laidMetH Tryz.prog Rows.fnExactParseCertificateRow.laid w) (fun _ _ _ hh h => h.of_heap hh) own started (by kernel_rfl) Tryz.func3
    laidOut (by kernel_rfl) rfl (by kernel_rfl) Tryz.underlying4 (fun ds h => by match ds, h with | [_, _], _ => rfl)
    (ChangeSpec.witness_shaped (enc := enc) (C := Tryz.checked) (os := os) (X := fun w _ => laidMetH Tryz.prog Rows.fnExactParseCertificateRow.laid w) false (World.laidAll Tryz.prog os Rows.fnExactParseCertificateRow.laid) #[.agg #[.int .i64 0, .slice none 0 0], .string ⟨#[]⟩] 8 (World.laidAll_os _ _ _)
      (World.shaped_of_ZipB (by kernel_rfl) (by kernel_rfl)) (by kernel_rfl) (by kernel_rfl) (by kernel_rfl)
      (by rw [MakeChecks.laidMetH_plain _ _ _ (by kernel_rfl)]; exact laidMet_laidAll _ (by kernel_rfl) (by kernel_rfl))) ?_
  intro W base args ds p hval0 hA0 hlt hL hsh
  have hval : ∀ (j : Nat) t v, Tryz.f3.params[j]? = some t → args[j]? = some v → Value.okWide Tryz.prog W .any base t v := hval0
  have hA : DataW.TrodAll enc Tryz.prog W 0 (fun _ => true) true Tryz.f3.params.toList args.toList ds p := hA0
  rw [Tryz.params3] at hA hval
  obtain ⟨v0, vs0, d0, ds0, p0, q0, hargs, rfl, rfl, h0, r0⟩ := trodAll_cons hA
  obtain ⟨v1, vs1, d1, ds1, p1, q1, rfl, rfl, rfl, h1, r1⟩ := trodAll_cons r0
  obtain ⟨rfl, rfl, rfl⟩ := trodAll_nil r1
  obtain rfl : args = #[v0, v1] := by cases args; simp_all
  obtain ⟨c0, c1, y0, y1, m, rfl, rfl, -, hy0, hy1⟩ := open_agg2 Tryz.underlying24 (by kernel_rfl) (by kernel_rfl) (hval 0 24 v0 rfl rfl) h0
  obtain ⟨n, e0, -, wn⟩ := DataW.trod_int Tryz.underlying3 hy0
  obtain ⟨v, xss, e1, hr⟩ := rows_of_trod Tryz.underlying22 Tryz.underlying26 Tryz.underlying3 (by kernel_rfl) (by kernel_rfl) hy1
  simp only [List.cons.injEq, and_true] at e0 e1
  subst e0 e1
  obtain ⟨fuel1, hf1⟩ := h1
  obtain ⟨s, es, -, hs⟩ := DataW.trod_string Tryz.underlying9 hf1
  have e2 : v1 = .string s := by
    obtain ⟨z, rfl⟩ := okWide_string Tryz.underlying9 (hval 1 9 v1 rfl rfl)
    simpa [Value.cells] using es
  subst e2
  rw [MakeChecks.laidMetH_plain _ _ _ (by kernel_rfl)] at hL
  have hP : Pow10 W := pow10_of_laid (r := Rows.fnExactParseCertificateRow.laid.drop 3) 2 (by kernel_rfl) hL
  exact walk n _ xss s W hr hs (cell_of_shapedOpen_int (zero := #[.int .i64 0]) (t := 3) hsh (of_decide_eq_true (by kernel_rfl)) (by kernel_rfl) rfl (by kernel_rfl) (by kernel_rfl) Tryz.underlying3) hP
    (err_of_laid (d := Rows.laid_strconv_ErrSyntax) (r := Rows.fnExactParseCertificateRow.laid.drop 6) 5 (by kernel_rfl) hL)

theorem over : Rows.FnExactParseCertificateSaid :=
  OpenClaim.holds_of_wide 3 Tryz.f3 rfl rfl rfl rfl rfl rfl rfl ⟨rfl, rfl, rfl, rfl, rfl⟩ rfl rfl rfl rfl rfl (by kernel_rfl) Tryz.func3 (by kernel_rfl)
    (of_decide_eq_true (by kernel_rfl)) (by unfold Func.isWrapper; first | (rw [if_pos (by decide +kernel)]; kernel_rfl) | (rw [if_neg (by decide +kernel)]; exact ⟨rfl, rfl⟩))
    (fun os started H enc _ => lifted os started H enc)

/-- The statement: the tied card. -/
theorem proved : Rows.FnExactParseCertificateCardSaid :=
  Claim7.holds_tied_plain_at .later [] [.data, .data, .data, .data, .sentinel, .sentinel, .pinned] true Rows.fnExactParseCertificateCard.stood.harness true
    over (fun _ h => by cases h) (by kernel_rfl) (fun _ h => by cases h) fnExactParseCertificate_row_tie rfl ⟨rfl, rfl⟩ (by kernel_rfl) rfl
    (fun f fn hf hfn => by
      obtain rfl : f = 3 := Option.some.inj ((show Tryz.prog.funcNamed Rows.fnExactParseCertificateRow.func = some 3 by kernel_rfl).symm.trans hf) |>.symm
      obtain rfl : fn = Tryz.f3 := (Option.some.inj (Tryz.func3.symm.trans hfn)).symm
      exact ⟨by kernel_rfl, fun j t ht => by
        rw [Tryz.params3] at ht
        have hm : t ∈ [24, 9] := by simpa using Array.mem_of_getElem? ht
        have hall : ([24, 9].all fun u => !Tryz.prog.wantsStandIn u) = true := by kernel_rfl
        exact (show Tryz.prog.wantsStandIn t = false by simpa using List.all_eq_true.1 hall t hm)⟩)
    (by kernel_rfl)
#print axioms proved
end Go.Proofs.YtlmdebjbjbadlaaGreatDoor.fnExactParseCertificate
