/-
  Proved: the law FnExactRecoverLab returns true for every disk, and leaves them as they were. The row's own condition: the listed tables hold what their text lays (the card ties them).
-/
import Derived.Test.YtcfbkickiijjkaaGreatDoorQZ
import Derived.Test.YtcfbkickiijjkaaGreatDoorRows
import Derived.Test.YtcfbkickiijjkaaGreatDoorCards
import Derived.Test.YtcfbkickiijjkaaGreatDoorTie
import Derived.Test.YtcfbkickiijjkaaGreatDoorQRecoverTop
import Derived.ProofKit
import Derived.Shelf.Vars
import Derived.WalkKit
import Derived.WalkSpells
import Derived.WalkLawsBesides
import Derived.Lib.Hide
import Derived.Lay
import Derived.LaidMore
import Derived.OpenShut
import Derived.ShutString
import Derived.Stop.Joined
import Derived.SevenTiedAt
import Derived.Deep.RegionHeld3
import Derived.Lib.SmallJoins
import Derived.Lib.LaidTab
namespace Go.Proofs.YtcfbkickiijjkaaGreatDoor.fnExactRecoverLab
open Go.ChangeShapes Go.WideShapes Go.ChangeAt Go.RowKit Go.Joins Go.Deep
set_option linter.unusedVariables false
theorem iface_cell {H : Type} {enc : TypeId × Value → H} {P : Program} {w : World} {base : Nat} {sp : Nat → Bool} {held : Bool} {fuel : Nat} {t : TypeId} {ms : Array (String × TypeId)} {cs : List Value} {x : DataW H × List MemPlace} (ht : P.underlying t = some (.interface ms))
    (h : DataW.trod enc P w base sp held fuel t cs = some x) : ∃ ev, cs = [ev] ∧ (ev = .nilIface ∨ ∃ te pe, ev = .iface te pe) := by
  cases fuel with
  | zero => simp [DataW.trod] at h
  | succ n =>
    unfold DataW.trod at h
    rw [ht] at h
    split at h <;> simp_all
theorem err_of_laid {W : World} {l r : List (String × DataW Unit)} {d : DataW Unit} (k : Nat) (hl : l.drop k = ("strconv.ErrSyntax", d) :: r) (h : laidMet Tryz.prog l W) : ErrAt W := by
  have h1 := laid_drop k l h
  rw [hl] at h1
  obtain ⟨ps, ⟨g, t, cs, fuel, p, q, hg, ht, hvar, hd, _, _⟩, _⟩ := h1
  obtain rfl := Option.some.inj ((show Tryz.prog.globalNamed "strconv.ErrSyntax" = some 2 by kernel_rfl).symm.trans hg)
  obtain rfl := Option.some.inj ((show (Tryz.prog.globals[2]?).map (·.type) = some 110 by kernel_rfl).symm.trans ht)
  obtain ⟨ev, e, hev⟩ := iface_cell Tryz.underlying110 hd
  refine ⟨ev, ?_, hev⟩
  unfold World.var? at hvar
  rw [hg] at hvar
  simp only [Option.bind_some] at hvar
  unfold World.cell?
  split at hvar
  · rename_i c _ _ hh
    obtain rfl : c = cs := by simpa using hvar
    simp only [hh]
    have : c[0]? = some ev := by rw [← Array.getElem?_toList, e]; rfl
    simpa using this
  · cases hvar
set_option maxRecDepth 100000 in
set_option maxHeartbeats 2000000 in
theorem walk (a b c : ByteArray) (w : World) (ha : a.size ≤ maxLen) (hb : b.size ≤ maxLen) (hc : c.size ≤ maxLen) (hm : MaxAt w) (hp : Pow10 w) (he : ErrAt w) :
  Calls Tryz.prog 5 #[disk a b c] w fun e w' => e = .returned (.bool true) ∧ Below w.heap.size w w' := by
 have HP := Lib.hid hp; clear hp
 have HE := Lib.hid he; clear he
 have HM := Lib.hid hm; clear hm
 have hB := Below.refl w.heap.size w
 obtain ⟨w0, hw0⟩ : ∃ z, z = w.alloc (.cells #[.string a, .string b, .string c] 23) := ⟨_, rfl⟩
 have hba0 : Below w.heap.size w w0 := by rw [hw0]; exact bl_alloc (Below.refl _ _) _
 have HD0 := Lib.hid (show w0.heap[w.heap.size]? = some (.cells #[.string a, .string b, .string c] 23) by rw [hw0]; exact heap_alloc_new w _)
 have hl0 : w.heap.size < w0.heap.size := by rw [hw0]; simp
 have HW0 := Lib.hid hw0; clear hw0
 have hz1 := hba0.size
 replace hB := bl_trans hB hba0
 go_enter Tryz.func5, Tryz.ntmps5
 go_wp2_with fail
 rw [← HW0.out]
 refine (sz_disk a b c w0 1048576 (by omega) (by omega) ha hb hc).mono ?_
 rintro e w1 ⟨rfl, hb1⟩
 have hz2 := hb1.size
 replace hB := bl_trans hB hb1
 replace HD0 := bk HD0 hb1
 have d01 := cells3 HD0
 by_cases h20 : a.size + b.size + c.size ≤ 1048576
 ·
  have hz : ¬ (szR 1048576 (a.size + b.size + c.size) < 0) := by unfold szR; split <;> omega
  have J1 := Lib.hid (fun (W : World) => spec_RecoverLab a b c W (by omega) (by omega) (by omega))
  have J2 := Lib.hid (fun (W : World) (hb' : Below w.heap.size w W) => impl_RecoverLab a b c W (by omega) (by omega) (by omega) (HM.out.below hb') (HP.out.below hb') (HE.out.below hb'))
  obtain ⟨hlen, hsz⟩ := fX_sz a.data.toList b.data.toList c.data.toList
  unfold RlPost at J1 J2
  generalize fX a.data.toList b.data.toList c.data.toList = X at *
  generalize fGn a.data.toList b.data.toList c.data.toList = gg at *
  generalize fNn a.data.toList b.data.toList c.data.toList = nn at *
  generalize rvOk a.data.toList b.data.toList c.data.toList = ok at *
  have hM0 := (endIs_le X 1 hsz).1
  have HSZ := Lib.hid hsz; clear hsz
  have hM1 : ¬ (endIs 1 X < 0) := by omega
  generalize szR 1048576 (a.size + b.size + c.size) = lf at *
  go_wp2_with fail
  refine (to_disk a b c w1).mono ?_
  rintro e w2 ⟨rfl, hb2⟩
  have hz3 := hb2.size
  replace hB := bl_trans hB hb2
  clear d01
  replace HD0 := bk HD0 hb2
  have d02 := cells3 HD0
  go_wp2_with fail
  refine (J1.out w2).mono ?_
  rintro e w3 ⟨vw, bsw, rfl, ho, hnw, hr, hbw3⟩
  have hz4 := hbw3.size
  replace hB := bl_trans hB hbw3
  clear d02
  replace HD0 := bk HD0 hbw3
  have d03 := cells3 HD0
  obtain ⟨Aw, mw, cw, rfl⟩ := ho.isSlice
  have Ow := Lib.hid ho; clear ho
  have Gw := Lib.hid hr; clear hr
  clear J1
  go_wp2_with fail
  refine (to_disk a b c w3).mono ?_
  rintro e w4 ⟨rfl, hb4⟩
  have hz5 := hb4.size
  replace hB := bl_trans hB hb4
  clear d03
  replace HD0 := bk HD0 hb4
  replace Ow := Lib.hid (Ow.out.keep fun b hb' => hb4.block b (by have := Gw.out b hb'; omega))
  have d04 := cells3 HD0
  go_wp2_with fail
  refine (J2.out w4 hB).mono ?_
  rintro e w5 ⟨vg, bsg, rfl, ho, hng, hr, hbw5⟩
  have hz6 := hbw5.size
  replace hB := bl_trans hB hbw5
  clear d04
  replace HD0 := bk HD0 hbw5
  replace Ow := Lib.hid (Ow.out.keep fun b hb' => hbw5.block b (by have := Gw.out b hb'; omega))
  have d05 := cells3 HD0
  obtain ⟨Ag, mg, cg, rfl⟩ := ho.isSlice
  have Og := Lib.hid ho; clear ho
  have Gg := Lib.hid hr; clear hr
  go_wp2_with fail
  refine (eq_Items _ _ X w5 (Og.out.reads (B := w5.heap.size) (fun b hb' => by have := Gg.out b hb'; omega)) (Ow.out.reads (B := w5.heap.size) (fun b hb' => by have := Gw.out b hb'; omega))).mono ?_
  rintro e w6 ⟨rfl, hb6⟩
  have hz7 := hb6.size
  replace hB := bl_trans hB hb6
  clear d05
  replace HD0 := bk HD0 hb6
  replace Ow := Lib.hid (Ow.out.keep fun b hb' => hb6.block b (by have := Gw.out b hb'; omega))
  replace Og := Lib.hid (Og.out.keep fun b hb' => hb6.block b (by have := Gg.out b hb'; omega))
  have d06 := cells3 HD0
  go_wp2_with fail
  refine (mark_Items _ X bsg 1 w6 Og.out hng (fun b hb => by have := Gg.out b hb; omega) HSZ.out hlen (by omega) (by omega)).mono ?_
  rintro e w7 ⟨rfl, ho, hk7⟩
  clear Og
  have Og := Lib.hid ho; clear ho
  have hz8 := hk7.size
  have hk7x := hk7.below (fun b hb' => by have := Gg.out b hb'; omega) (show w.heap.size ≤ w6.heap.size by omega)
  replace hB := hB.trans hk7x
  clear d06
  replace HD0 := Lib.hid ((hk7.block (w.heap.size) (by omega) (fun hm => by have := Gg.out _ hm; omega)).trans HD0.out)
  replace Ow := Lib.hid (Ow.out.keep fun b hb' => hk7.block b (by have := Gw.out b hb'; omega) (fun hm => by have := Gw.out b hb'; have := Gg.out _ hm; omega))
  have d07 := cells3 HD0
  clear hk7
  go_wp2_with fail
  refine (held_Items _ X 1 w7 (Og.out.reads (B := w7.heap.size) (fun b hb' => by have := Gg.out b hb'; omega)) HSZ.out hlen (by omega) (by omega)).mono ?_
  rintro e w8 ⟨rfl, hb8⟩
  have hz9 := hb8.size
  replace hB := bl_trans hB hb8
  clear d07
  replace HD0 := bk HD0 hb8
  replace Ow := Lib.hid (Ow.out.keep fun b hb' => hb8.block b (by have := Gw.out b hb'; omega))
  replace Og := Lib.hid (Og.out.keep fun b hb' => hb8.block b (by have := Gg.out b hb'; omega))
  have d08 := cells3 HD0
  go_wp2_with fail
  refine (to_disk a b c w8).mono ?_
  rintro e w9 ⟨rfl, hb9⟩
  have hz10 := hb9.size
  replace hB := bl_trans hB hb9
  clear d08
  replace HD0 := bk HD0 hb9
  replace Ow := Lib.hid (Ow.out.keep fun b hb' => hb9.block b (by have := Gw.out b hb'; omega))
  replace Og := Lib.hid (Og.out.keep fun b hb' => hb9.block b (by have := Gg.out b hb'; omega))
  have d09 := cells3 HD0
  go_wp2_with fail
  refine (J2.out w9 hB).mono ?_
  rintro e w10 ⟨vh, bsh, rfl, ho, hnh, hr, hbw10⟩
  have hz11 := hbw10.size
  replace hB := bl_trans hB hbw10
  clear d09
  replace HD0 := bk HD0 hbw10
  replace Ow := Lib.hid (Ow.out.keep fun b hb' => hbw10.block b (by have := Gw.out b hb'; omega))
  replace Og := Lib.hid (Og.out.keep fun b hb' => hbw10.block b (by have := Gg.out b hb'; omega))
  have d010 := cells3 HD0
  obtain ⟨Ah, mh, ch, rfl⟩ := ho.isSlice
  have Oh := Lib.hid ho; clear ho
  have Gh := Lib.hid hr; clear hr
  clear J2
  go_wp2_with fail
  refine (eq_Items _ _ X w10 (Oh.out.reads (B := w10.heap.size) (fun b hb' => by have := Gh.out b hb'; omega)) (Ow.out.reads (B := w10.heap.size) (fun b hb' => by have := Gw.out b hb'; omega))).mono ?_
  rintro e w11 ⟨rfl, hb11⟩
  have hz12 := hb11.size
  replace hB := bl_trans hB hb11
  clear d010
  replace HD0 := bk HD0 hb11
  replace Ow := Lib.hid (Ow.out.keep fun b hb' => hb11.block b (by have := Gw.out b hb'; omega))
  replace Og := Lib.hid (Og.out.keep fun b hb' => hb11.block b (by have := Gg.out b hb'; omega))
  replace Oh := Lib.hid (Oh.out.keep fun b hb' => hb11.block b (by have := Gh.out b hb'; omega))
  have d011 := cells3 HD0
  go_wp2_with fail
  refine (held_Items _ X 1 w11 (Og.out.reads (B := w11.heap.size) (fun b hb' => by have := Gg.out b hb'; omega)) HSZ.out hlen (by omega) (by omega)).mono ?_
  rintro e w12 ⟨rfl, hb12⟩
  have hz13 := hb12.size
  replace hB := bl_trans hB hb12
  clear d011
  replace HD0 := bk HD0 hb12
  replace Ow := Lib.hid (Ow.out.keep fun b hb' => hb12.block b (by have := Gw.out b hb'; omega))
  replace Og := Lib.hid (Og.out.keep fun b hb' => hb12.block b (by have := Gg.out b hb'; omega))
  replace Oh := Lib.hid (Oh.out.keep fun b hb' => hb12.block b (by have := Gh.out b hb'; omega))
  have d012 := cells3 HD0
  go_wp2_with fail
  go_ret
  exact ⟨rfl, hB⟩
 ·
  have hz : szR 1048576 (a.size + b.size + c.size) < 0 := by unfold szR; split <;> omega
  go_wp2_with fail
  go_ret
  exact ⟨rfl, hB⟩
theorem laidOut : laidOutB Tryz.prog = true := by kernel_rfl
theorem own : ownKnob Tryz.prog.godebug = none := by kernel_rfl
set_option maxRecDepth 100000 in
theorem lifted (os : Os) (started : os.Started) (H : Type) (enc : TypeId × Value → H) :
  ReturnsInHanded {} Tryz.checked os 5 .any (fun w args => (Rows.fnExactRecoverLabSpec.pre enc Tryz.prog Tryz.f5 [] false w args ∧ laidMetH Tryz.prog Rows.fnExactRecoverLabRow.laid w) ∧ sizedMet enc Tryz.prog Tryz.f5 (OpenSpec.ofChange Rows.fnExactRecoverLabSpec) false w args)
   (Rows.fnExactRecoverLabSpec.post enc Tryz.prog Tryz.f5 false true false false) := by
 refine law_lifted (C := Tryz.checked) (X := fun w _ => laidMetH Tryz.prog Rows.fnExactRecoverLabRow.laid w) (fun _ _ _ hh h => h.of_heap hh) own started (by kernel_rfl) Tryz.func5
  laidOut (by kernel_rfl) rfl (by kernel_rfl) Tryz.underlying4 (fun ds h => by match ds, h with | [_], _ => rfl)
  (ChangeSpec.witness_shaped (enc := enc) (C := Tryz.checked) (os := os) (X := fun w _ => laidMetH Tryz.prog Rows.fnExactRecoverLabRow.laid w) false (World.laidAll Tryz.prog os Rows.fnExactRecoverLabRow.laid) #[.agg #[.string ByteArray.empty, .string ByteArray.empty, .string ByteArray.empty]] 8 (World.laidAll_os _ _ _)
   (World.shaped_of_ZipB (by kernel_rfl) (by kernel_rfl)) (by kernel_rfl) (by kernel_rfl) (by kernel_rfl)
   (by rw [MakeChecks.laidMetH_plain _ _ _ (by kernel_rfl)]; exact laidMet_laidAll _ (by kernel_rfl) (by kernel_rfl))) ?_
 intro W base args ds p hval0 hA0 hlt hL hsh
 have hval : ∀ (j : Nat) t v, Tryz.f5.params[j]? = some t → args[j]? = some v → Value.okWide Tryz.prog W .any base t v := hval0
 have hA : DataW.TrodAll enc Tryz.prog W 0 (fun _ => true) true Tryz.f5.params.toList args.toList ds p := hA0
 rw [Tryz.params5] at hA hval
 obtain ⟨v0, vs0, d0, ds0, p0, q0, hargs, rfl, rfl, h0, r0⟩ := trodAll_cons hA
 obtain ⟨rfl, rfl, rfl⟩ := trodAll_nil r0
 obtain rfl : args = #[v0] := by cases args; simp_all
 obtain ⟨z0, z1, z2, y0, y1, y2, nn, rfl, rfl, -, hy0, hy1, hy2⟩ := open_agg3 Tryz.underlying23 (by kernel_rfl) (by kernel_rfl) (hval 0 23 v0 rfl rfl) h0
 obtain ⟨s0, e0, -, w0⟩ := DataW.trod_string Tryz.underlying9 hy0
 obtain ⟨s1, e1, -, w1⟩ := DataW.trod_string Tryz.underlying9 hy1
 obtain ⟨s2, e2, -, w2⟩ := DataW.trod_string Tryz.underlying9 hy2
 simp only [List.cons.injEq, and_true] at e0 e1 e2
 subst e0 e1 e2
 rw [MakeChecks.laidMetH_plain _ _ _ (by kernel_rfl)] at hL
 have hP : Pow10 W := pow10_of_laid (r := Rows.fnExactRecoverLabRow.laid.drop 3) 2 (by kernel_rfl) hL
 exact walk s0 s1 s2 W w0 w1 w2 (cell_of_shapedOpen_int (zero := #[.int .i64 0]) (t := 3) hsh (of_decide_eq_true (by kernel_rfl)) (by kernel_rfl) rfl (by kernel_rfl) (by kernel_rfl) Tryz.underlying3) hP
  (err_of_laid (d := Rows.laid_strconv_ErrSyntax) (r := Rows.fnExactRecoverLabRow.laid.drop 6) 5 (by kernel_rfl) hL)
theorem over : Rows.FnExactRecoverLabSaid :=
  OpenClaim.holds_of_wide 5 Tryz.f5 rfl rfl rfl rfl rfl rfl rfl ⟨rfl, rfl, rfl, rfl, rfl⟩ rfl rfl rfl rfl rfl (by kernel_rfl) Tryz.func5 (by kernel_rfl)
    (of_decide_eq_true (by kernel_rfl)) (by unfold Func.isWrapper; first | (rw [if_pos (by decide +kernel)]; kernel_rfl) | (rw [if_neg (by decide +kernel)]; exact ⟨rfl, rfl⟩))
    (fun os started H enc _ => lifted os started H enc)
theorem proved : Rows.FnExactRecoverLabCardSaid :=
  Claim7.holds_tied_plain_at .later [] [.data, .data, .data, .data, .sentinel, .sentinel, .pinned] true Rows.fnExactRecoverLabCard.stood.harness true
    over (fun _ h => by cases h) (by kernel_rfl) (fun _ h => by cases h) fnExactRecoverLab_row_tie rfl ⟨rfl, rfl⟩ (by kernel_rfl) rfl
    (fun f fn hf hfn => by
      obtain rfl : f = 5 := Option.some.inj ((show Tryz.prog.funcNamed Rows.fnExactRecoverLabRow.func = some 5 by kernel_rfl).symm.trans hf) |>.symm
      obtain rfl : fn = Tryz.f5 := (Option.some.inj (Tryz.func5.symm.trans hfn)).symm
      exact ⟨by kernel_rfl, fun j t ht => by
        rw [Tryz.params5] at ht
        have hm : t ∈ [23] := by simpa using Array.mem_of_getElem? ht
        have hall : ([23].all fun u => !Tryz.prog.wantsStandIn u) = true := by kernel_rfl
        exact (show Tryz.prog.wantsStandIn t = false by simpa using List.all_eq_true.1 hall t hm)⟩)
    (by kernel_rfl)
#print axioms proved
end Go.Proofs.YtcfbkickiijjkaaGreatDoor.fnExactRecoverLab
