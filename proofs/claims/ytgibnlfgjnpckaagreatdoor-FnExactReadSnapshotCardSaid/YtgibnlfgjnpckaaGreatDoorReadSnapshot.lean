/-
  Proved: the law FnExactReadSnapshot returns true for every string, and leaves them as they were. The row's own condition: the listed tables hold what their text lays (the card ties them).
-/
import Derived.Test.YtgibnlfgjnpckaaGreatDoorRows
import Derived.Test.YtgibnlfgjnpckaaGreatDoorCards
import Derived.Test.YtgibnlfgjnpckaaGreatDoorTie
import Derived.Test.YtgibnlfgjnpckaaGreatDoorLaw
import Derived.Test.YtgibnlfgjnpckaaGreatDoorSnapAll
import Derived.ProofKit
import Derived.Shelf.Vars
import Derived.Lay
import Derived.LaidMore
import Derived.OpenShut
import Derived.ShutString
import Derived.Stop.Joined
import Derived.SevenTiedAt
import Derived.Deep.RegionHeld3
import Derived.Lib.SmallJoins
import Derived.Lib.LaidTab
namespace Go.Proofs.YtgibnlfgjnpckaaGreatDoor.fnExactReadSnapshot
open Go.ChangeShapes Go.WideShapes Go.ChangeAt Go.RowKit Go.Joins Go.Deep
set_option linter.unusedVariables false

theorem iface_cell {H : Type} {enc : TypeId × Value → H} {P : Program} {w : World} {base : Nat} {sp : Nat → Bool} {held : Bool} {fuel : Nat} {t : TypeId} {ms : Array (String × TypeId)} {cs : List Value} {x : DataW H × List MemPlace} (ht : P.underlying t = some (.interface ms))
    (h : DataW.trod enc P w base sp held fuel t cs = some x) : ∃ ev, cs = [ev] ∧ (ev = .nilIface ∨ ∃ te pe, ev = .iface te pe) := by
  cases fuel with
  | zero => simp [DataW.trod] at h
  | succ n =>
    unfold DataW.trod at h
    rw [ht] at h
    split at h <;> simp_all
theorem err_of_laid {W : World} {l r : List (String × DataW Unit)} {d : DataW Unit} (k : Nat) (hl : l.drop k = ("strconv.ErrSyntax", d) :: r) (h : laidMet Tryz.prog l W) : ErrAt W := by
  have h1 := laid_drop k l h
  rw [hl] at h1
  obtain ⟨ps, ⟨g, t, cs, fuel, p, q, hg, ht, hvar, hd, _, _⟩, _⟩ := h1
  obtain rfl := Option.some.inj ((show Tryz.prog.globalNamed "strconv.ErrSyntax" = some 1 by kernel_rfl).symm.trans hg)
  obtain rfl := Option.some.inj ((show (Tryz.prog.globals[1]?).map (·.type) = some 161 by kernel_rfl).symm.trans ht)
  obtain ⟨ev, e, hev⟩ := iface_cell Tryz.underlying161 hd
  refine ⟨ev, ?_, hev⟩
  unfold World.var? at hvar
  rw [hg] at hvar
  simp only [Option.bind_some] at hvar
  unfold World.cell?
  split at hvar
  · rename_i c _ _ hh
    obtain rfl : c = cs := by simpa using hvar
    simp only [hh]
    have : c[0]? = some ev := by rw [← Array.getElem?_toList, e]; rfl
    simpa using this
  · cases hvar
theorem rs_sz (l : List UInt8) : (rsX l).length ≤ 100 ∧ ∀ x ∈ rsX l, szItem x ≤ 2000000 := by
  by_cases h : rsP l
  · obtain ⟨g, xs, h0, h1, h2, h3, ho⟩ := rs_ok h
    rw [(rs_t h0 h1 h2 h3).2.2]
    exact ⟨by have := h2.2; omega, fun x hx => Nat.le_trans (storeP.okI (fun y hy => by obtain ⟨j, hj⟩ := List.mem_iff_getElem?.1 hy; exact storeP.item h2 hj) x hx).1 (by omega)⟩
  · rw [(rs_f h).2.2]
    exact ⟨Nat.zero_le _, fun x hx => by cases hx⟩
set_option maxRecDepth 100000 in
set_option maxHeartbeats 2000000 in
theorem walk (s : ByteArray) (w : World) (hs : s.size ≤ maxLen) (hm : MaxAt w) (hp : Pow10 w) (he : ErrAt w) :
    Calls Tryz.prog 6 #[.string s] w fun e w' => e = .returned (.bool true) ∧ Below w.heap.size w w' := by
  unfold maxLen at hs
  have HP := Lib.hid hp; clear hp
  have HE := Lib.hid he; clear he
  have HM := Lib.hid hm; clear hm
  by_cases h20 : s.size ≤ 1048576
  · have hd20 : decide ((s.size : Int) > 1048576) = false := decide_eq_false (by omega)
    have hB := Below.refl w.heap.size w
    have J1 := Lib.hid (spec_ReadSnapshot s w h20)
    have J2 := Lib.hid (fun (W : World) (hb : Below w.heap.size w W) => impl_ReadSnapshot s W h20 (HM.out.below hb) (HP.out.below hb) (HE.out.below hb))
    obtain ⟨hlen, hsz⟩ := rs_sz s.data.toList
    unfold RsPost at J1 J2
    generalize rsB s.data.toList = ok at *
    generalize rsG s.data.toList = gg at *
    generalize rsX s.data.toList = X at *
    have hM0 := (endIs_le X 1 hsz).1
    have HSZ := Lib.hid hsz; clear hsz
    have hM1 : ¬ (endIs 1 X < 0) := by omega
    go_enter Tryz.func6, Tryz.ntmps6
    go_wp2_with fail
    refine (J1.out).mono ?_
    rintro e w1 ⟨vw, bsw, rfl, ho, hnw, hr, hbw1⟩
    have hz1 := hbw1.size
    replace hB := bl_trans hB hbw1
    obtain ⟨Aw, mw, cw, rfl⟩ := ho.isSlice
    have Ow := Lib.hid ho; clear ho
    have Gw := Lib.hid hr; clear hr
    clear J1
    go_wp2_with fail
    refine (J2.out w1 hB).mono ?_
    rintro e w3 ⟨vg, bsg, rfl, ho, hng, hr, hbw3⟩
    have hz2 := hbw3.size
    replace hB := bl_trans hB hbw3
    replace Ow := Lib.hid (Ow.out.keep fun b hb' => hbw3.block b (by have := Gw.out b hb'; omega))
    obtain ⟨Ag, mg, cg, rfl⟩ := ho.isSlice
    have Og := Lib.hid ho; clear ho
    have Gg := Lib.hid hr; clear hr
    go_wp2_with fail
    refine (eq_Items _ _ X w3 (Og.out.reads (B := w3.heap.size) (fun b hb' => by have := Gg.out b hb'; omega)) (Ow.out.reads (B := w3.heap.size) (fun b hb' => by have := Gw.out b hb'; omega))).mono ?_
    rintro e w5 ⟨rfl, hb5⟩
    have hz3 := hb5.size
    replace hB := bl_trans hB hb5
    replace Ow := Lib.hid (Ow.out.keep fun b hb' => hb5.block b (by have := Gw.out b hb'; omega))
    replace Og := Lib.hid (Og.out.keep fun b hb' => hb5.block b (by have := Gg.out b hb'; omega))
    go_wp2_with fail
    refine (mark_Items _ X bsg 1 w5 Og.out hng (fun b hb => by have := Gg.out b hb; omega) HSZ.out hlen (by omega) (by omega)).mono ?_
    rintro e w6 ⟨rfl, ho, hk6⟩
    clear Og
    have Og := Lib.hid ho; clear ho
    have hz4 := hk6.size
    replace hB := hB.trans (hk6.below (fun b hb' => by have := Gg.out b hb'; omega) (show w.heap.size ≤ w5.heap.size by omega))
    replace Ow := Lib.hid (Ow.out.keep fun b hb' => hk6.block b (by have := Gw.out b hb'; omega) (fun hm => by have := Gw.out b hb'; have := Gg.out _ hm; omega))
    clear hk6
    go_wp2_with fail
    refine (held_Items _ X 1 w6 (Og.out.reads (B := w6.heap.size) (fun b hb' => by have := Gg.out b hb'; omega)) HSZ.out hlen (by omega) (by omega)).mono ?_
    rintro e w7 ⟨rfl, hb7⟩
    have hz5 := hb7.size
    replace hB := bl_trans hB hb7
    replace Ow := Lib.hid (Ow.out.keep fun b hb' => hb7.block b (by have := Gw.out b hb'; omega))
    replace Og := Lib.hid (Og.out.keep fun b hb' => hb7.block b (by have := Gg.out b hb'; omega))
    go_wp2_with fail
    refine (J2.out w7 hB).mono ?_
    rintro e w8 ⟨vh, bsh, rfl, ho, hnh, hr, hbw8⟩
    have hz6 := hbw8.size
    replace hB := bl_trans hB hbw8
    replace Ow := Lib.hid (Ow.out.keep fun b hb' => hbw8.block b (by have := Gw.out b hb'; omega))
    replace Og := Lib.hid (Og.out.keep fun b hb' => hbw8.block b (by have := Gg.out b hb'; omega))
    obtain ⟨Ah, mh, ch, rfl⟩ := ho.isSlice
    have Oh := Lib.hid ho; clear ho
    have Gh := Lib.hid hr; clear hr
    clear J2
    go_wp2_with fail
    refine (eq_Items _ _ X w8 (Oh.out.reads (B := w8.heap.size) (fun b hb' => by have := Gh.out b hb'; omega)) (Ow.out.reads (B := w8.heap.size) (fun b hb' => by have := Gw.out b hb'; omega))).mono ?_
    rintro e w10 ⟨rfl, hb10⟩
    have hz7 := hb10.size
    replace hB := bl_trans hB hb10
    replace Ow := Lib.hid (Ow.out.keep fun b hb' => hb10.block b (by have := Gw.out b hb'; omega))
    replace Og := Lib.hid (Og.out.keep fun b hb' => hb10.block b (by have := Gg.out b hb'; omega))
    replace Oh := Lib.hid (Oh.out.keep fun b hb' => hb10.block b (by have := Gh.out b hb'; omega))
    go_wp2_with fail
    refine (held_Items _ X 1 w10 (Og.out.reads (B := w10.heap.size) (fun b hb' => by have := Gg.out b hb'; omega)) HSZ.out hlen (by omega) (by omega)).mono ?_
    rintro e w11 ⟨rfl, hb11⟩
    have hz8 := hb11.size
    replace hB := bl_trans hB hb11
    replace Ow := Lib.hid (Ow.out.keep fun b hb' => hb11.block b (by have := Gw.out b hb'; omega))
    replace Og := Lib.hid (Og.out.keep fun b hb' => hb11.block b (by have := Gg.out b hb'; omega))
    replace Oh := Lib.hid (Oh.out.keep fun b hb' => hb11.block b (by have := Gh.out b hb'; omega))
    go_wp2_with fail
    go_ret
    exact ⟨rfl, hB⟩
  · go_enter Tryz.func6, Tryz.ntmps6
    have hd20 : decide ((s.size : Int) > 1048576) = true := decide_eq_true (by omega)
    go_wp2_with fail
    go_ret
    exact ⟨rfl, Below.refl _ _⟩

theorem laidOut : laidOutB Tryz.prog = true := by kernel_rfl
theorem own : ownKnob Tryz.prog.godebug = none := by kernel_rfl
set_option maxRecDepth 100000 in
theorem lifted (os : Os) (started : os.Started) (H : Type) (enc : TypeId × Value → H) :
    ReturnsInHanded {} Tryz.checked os 6 .any (fun w args => (Rows.fnExactReadSnapshotSpec.pre enc Tryz.prog Tryz.f6 [] false w args ∧ laidMetH Tryz.prog Rows.fnExactReadSnapshotRow.laid w) ∧ sizedMet enc Tryz.prog Tryz.f6 (OpenSpec.ofChange Rows.fnExactReadSnapshotSpec) false w args)
      (Rows.fnExactReadSnapshotSpec.post enc Tryz.prog Tryz.f6 false true false false) := by
  refine law_lifted (C := Tryz.checked) (X := fun w _ => laidMetH Tryz.prog Rows.fnExactReadSnapshotRow.laid w) (fun _ _ _ hh h => h.of_heap hh) own started (by kernel_rfl) Tryz.func6
    laidOut (by kernel_rfl) rfl (by kernel_rfl) Tryz.underlying4 (fun ds h => by match ds, h with | [_], _ => rfl)
    (ChangeSpec.witness_shaped (enc := enc) (C := Tryz.checked) (os := os) (X := fun w _ => laidMetH Tryz.prog Rows.fnExactReadSnapshotRow.laid w) false (World.laidAll Tryz.prog os Rows.fnExactReadSnapshotRow.laid) #[.string ⟨#[]⟩] 8 (World.laidAll_os _ _ _)
      (World.shaped_of_ZipB (by kernel_rfl) (by kernel_rfl)) (by kernel_rfl) (by kernel_rfl) (by kernel_rfl)
      (by rw [MakeChecks.laidMetH_plain _ _ _ (by kernel_rfl)]; exact laidMet_laidAll _ (by kernel_rfl) (by kernel_rfl))) ?_
  intro W base args ds p hval0 hA0 hlt hL hsh
  have hval : ∀ (j : Nat) t v, Tryz.f6.params[j]? = some t → args[j]? = some v → Value.okWide Tryz.prog W .any base t v := hval0
  have hA : DataW.TrodAll enc Tryz.prog W 0 (fun _ => true) true Tryz.f6.params.toList args.toList ds p := hA0
  rw [Tryz.params6] at hA hval
  obtain ⟨v0, vs0, d0, ds0, p0, q0, hargs, rfl, rfl, h0, r0⟩ := trodAll_cons hA
  obtain ⟨rfl, rfl, rfl⟩ := trodAll_nil r0
  obtain rfl : args = #[v0] := by cases args; simp_all
  obtain ⟨fuel, hf⟩ := h0
  obtain ⟨s, e0, -, hs⟩ := DataW.trod_string Tryz.underlying9 hf
  have e1 : v0 = .string s := by
    obtain ⟨z, rfl⟩ := okWide_string Tryz.underlying9 (hval 0 9 v0 rfl rfl)
    simpa [Value.cells] using e0
  subst e1
  rw [MakeChecks.laidMetH_plain _ _ _ (by kernel_rfl)] at hL
  have hP : Pow10 W := pow10_of_laid (r := Rows.fnExactReadSnapshotRow.laid.drop 3) 2 (by kernel_rfl) hL
  exact walk s W hs (cell_of_shapedOpen_int (zero := #[.int .i64 0]) (t := 3) hsh (of_decide_eq_true (by kernel_rfl)) (by kernel_rfl) rfl (by kernel_rfl) (by kernel_rfl) Tryz.underlying3) hP
    (err_of_laid (d := Rows.laid_strconv_ErrSyntax) (r := Rows.fnExactReadSnapshotRow.laid.drop 6) 5 (by kernel_rfl) hL)

theorem over : Rows.FnExactReadSnapshotSaid :=
  OpenClaim.holds_of_wide 6 Tryz.f6 rfl rfl rfl rfl rfl rfl rfl ⟨rfl, rfl, rfl, rfl, rfl⟩ rfl rfl rfl rfl rfl (by kernel_rfl) Tryz.func6 (by kernel_rfl)
    (of_decide_eq_true (by kernel_rfl)) (by unfold Func.isWrapper; first | (rw [if_pos (by decide +kernel)]; kernel_rfl) | (rw [if_neg (by decide +kernel)]; exact ⟨rfl, rfl⟩))
    (fun os started H enc _ => lifted os started H enc)

/-- The statement: the tied card. -/
theorem proved : Rows.FnExactReadSnapshotCardSaid :=
  Claim7.holds_tied_plain_at .later [] [.data, .data, .data, .data, .sentinel, .sentinel, .pinned] true Rows.fnExactReadSnapshotCard.stood.harness true
    over (fun _ h => by cases h) (by kernel_rfl) (fun _ h => by cases h) fnExactReadSnapshot_row_tie rfl ⟨rfl, rfl⟩ (by kernel_rfl) rfl
    (fun f fn hf hfn => by
      obtain rfl : f = 6 := Option.some.inj ((show Tryz.prog.funcNamed Rows.fnExactReadSnapshotRow.func = some 6 by kernel_rfl).symm.trans hf) |>.symm
      obtain rfl : fn = Tryz.f6 := (Option.some.inj (Tryz.func6.symm.trans hfn)).symm
      exact ⟨by kernel_rfl, fun j t ht => by
        rw [Tryz.params6] at ht
        have hm : t ∈ [9] := by simpa using Array.mem_of_getElem? ht
        have hall : ([9].all fun u => !Tryz.prog.wantsStandIn u) = true := by kernel_rfl
        exact (show Tryz.prog.wantsStandIn t = false by simpa using List.all_eq_true.1 hall t hm)⟩)
    (by kernel_rfl)
#print axioms proved
end Go.Proofs.YtgibnlfgjnpckaaGreatDoor.fnExactReadSnapshot
