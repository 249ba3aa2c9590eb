/-
  Proved: the law FnExactTornCompact returns true for every disk and number, and leaves them as they were. The row's own condition: the listed tables hold what their text lays (the card ties them).
-/
import Derived.Test.YtcfbkickiijjkaaGreatDoorKZ
import Derived.Test.YtcfbkickiijjkaaGreatDoorRows
import Derived.Test.YtcfbkickiijjkaaGreatDoorCards
import Derived.Test.YtcfbkickiijjkaaGreatDoorTie
import Derived.Test.YtcfbkickiijjkaaGreatDoorKCompactI
import Derived.ProofKit
import Derived.Shelf.Vars
import Derived.WalkKit
import Derived.WalkSpells
import Derived.WalkLawsBesides
import Derived.Lib.Hide
import Derived.Lay
import Derived.LaidMore
import Derived.OpenShut
import Derived.ShutString
import Derived.Stop.Joined
import Derived.SevenTiedAt
import Derived.Deep.RegionHeld3
import Derived.Lib.SmallJoins
import Derived.Lib.LaidTab
namespace Go.Proofs.YtcfbkickiijjkaaGreatDoor.fnExactTornCompact
open Go.ChangeShapes Go.WideShapes Go.ChangeAt Go.RowKit Go.Joins Go.Deep
set_option linter.unusedVariables false
theorem iface_cell {H : Type} {enc : TypeId × Value → H} {P : Program} {w : World} {base : Nat} {sp : Nat → Bool} {held : Bool} {fuel : Nat} {t : TypeId} {ms : Array (String × TypeId)} {cs : List Value} {x : DataW H × List MemPlace} (ht : P.underlying t = some (.interface ms))
    (h : DataW.trod enc P w base sp held fuel t cs = some x) : ∃ ev, cs = [ev] ∧ (ev = .nilIface ∨ ∃ te pe, ev = .iface te pe) := by
  cases fuel with
  | zero => simp [DataW.trod] at h
  | succ n =>
    unfold DataW.trod at h
    rw [ht] at h
    split at h <;> simp_all
theorem err_of_laid {W : World} {l r : List (String × DataW Unit)} {d : DataW Unit} (k : Nat) (hl : l.drop k = ("strconv.ErrSyntax", d) :: r) (h : laidMet Tryz.prog l W) : ErrAt W := by
  have h1 := laid_drop k l h
  rw [hl] at h1
  obtain ⟨ps, ⟨g, t, cs, fuel, p, q, hg, ht, hvar, hd, _, _⟩, _⟩ := h1
  obtain rfl := Option.some.inj ((show Tryz.prog.globalNamed "strconv.ErrSyntax" = some 2 by kernel_rfl).symm.trans hg)
  obtain rfl := Option.some.inj ((show (Tryz.prog.globals[2]?).map (·.type) = some 110 by kernel_rfl).symm.trans ht)
  obtain ⟨ev, e, hev⟩ := iface_cell Tryz.underlying110 hd
  refine ⟨ev, ?_, hev⟩
  unfold World.var? at hvar
  rw [hg] at hvar
  simp only [Option.bind_some] at hvar
  unfold World.cell?
  split at hvar
  · rename_i c _ _ hh
    obtain rfl : c = cs := by simpa using hvar
    simp only [hh]
    have : c[0]? = some ev := by rw [← Array.getElem?_toList, e]; rfl
    simpa using this
  · cases hvar
set_option maxRecDepth 100000 in
set_option maxHeartbeats 2000000 in
theorem walk (a b c : ByteArray) (k : Int) (w : World) (ha : a.size ≤ maxLen) (hb : b.size ≤ maxLen) (hc : c.size ≤ maxLen) (hm : MaxAt w) (hp : Pow10 w) (he : ErrAt w) :
  Calls Tryz.prog 3 #[disk a b c, .int .i64 k] w fun e w' => e = .returned (.bool true) ∧ Below w.heap.size w w' := by
 have HP := Lib.hid hp; clear hp
 have HE := Lib.hid he; clear he
 have HM := Lib.hid hm; clear hm
 have hB := Below.refl w.heap.size w
 obtain ⟨w0, hw0⟩ : ∃ z, z = w.alloc (.cells #[.string a, .string b, .string c] 23) := ⟨_, rfl⟩
 have hba0 : Below w.heap.size w w0 := by rw [hw0]; exact bl_alloc (Below.refl _ _) _
 have HD0 := Lib.hid (show w0.heap[w.heap.size]? = some (.cells #[.string a, .string b, .string c] 23) by rw [hw0]; exact heap_alloc_new w _)
 have hl0 : w.heap.size < w0.heap.size := by rw [hw0]; simp
 have HW0 := Lib.hid hw0; clear hw0
 have hz1 := hba0.size
 replace hB := bl_trans hB hba0
 go_enter Tryz.func3, Tryz.ntmps3
 go_wp2_with fail
 rw [← HW0.out]
 refine (sz_disk a b c w0 1048576 (by omega) (by omega) ha hb hc).mono ?_
 rintro e w1 ⟨rfl, hb1⟩
 have hz2 := hb1.size
 replace hB := bl_trans hB hb1
 replace HD0 := bk HD0 hb1
 have d01 := cells3 HD0
 by_cases h20 : a.size + b.size + c.size ≤ 1048576
 ·
  have hz : ¬ (szR 1048576 (a.size + b.size + c.size) < 0) := by unfold szR; split <;> omega
  have J1 := Lib.hid (fun (W : World) => spec_TornCompact a b c k W (by omega) (by omega) (by omega))
  have J2 := Lib.hid (fun (W : World) (hb' : Below w.heap.size w W) => impl_TornCompact a b c k W (by omega) (by omega) (by omega) (HM.out.below hb') (HP.out.below hb') (HE.out.below hb'))
  generalize nxB a.data.toList b.data.toList c.data.toList = nb at *
  generalize nxS a.data.toList b.data.toList c.data.toList = ns at *
  generalize fSc a.data.toList b.data.toList c.data.toList = sc at *
  generalize (nb && inB k 0 (ns.length : Int)) = rb at *
  generalize dOf rb sc a b c ⟨(ns.take k.toNat).toArray⟩ = R at *
  obtain ⟨R1, R2, R3⟩ := R
  unfold diskV at J1 J2
  dsimp only at J1 J2
  generalize szR 1048576 (a.size + b.size + c.size) = lf at *
  go_wp2_with fail
  refine (to_disk a b c w1).mono ?_
  rintro e w2 ⟨rfl, hb2⟩
  have hz3 := hb2.size
  replace hB := bl_trans hB hb2
  clear d01
  replace HD0 := bk HD0 hb2
  have d02 := cells3 HD0
  go_wp2_with fail
  refine (J1.out w2).mono ?_
  rintro e w3 ⟨rfl, hb3⟩
  have hz4 := hb3.size
  replace hB := bl_trans hB hb3
  clear d02
  replace HD0 := bk HD0 hb3
  have d03 := cells3 HD0
  have hba5 := bl_alloc (Below.refl w3.heap.size w3) (.cells #[.string R1, .string R2, .string R3] 25)
  have HE0 := Lib.hid (heap_alloc_new w3 (.cells #[.string R1, .string R2, .string R3] 25))
  have hs5 : w3.heap.size < (w3.alloc (.cells #[.string R1, .string R2, .string R3] 25)).heap.size := by simp
  have HS5 := Lib.hid hs5; clear hs5; have hs5 := HS5.out
  have hz6 := hba5.size
  replace hB := bl_trans hB hba5
  clear d03
  replace HD0 := bk HD0 hba5
  have d04 := cells3 HD0
  have e01 := cells3 HE0
  go_wp2_with fail
  generalize w3.alloc (.cells #[.string R1, .string R2, .string R3] 25) = x3 at *
  refine (to_disk a b c x3).mono ?_
  rintro e w4 ⟨rfl, hb4⟩
  have hz7 := hb4.size
  replace hB := bl_trans hB hb4
  clear d04
  replace HD0 := bk HD0 hb4
  clear e01
  replace HE0 := bk HE0 hb4
  have d05 := cells3 HD0
  have e02 := cells3 HE0
  go_wp2_with fail
  refine (J2.out w4 hB).mono ?_
  rintro e w5 ⟨rfl, hb5⟩
  have hz8 := hb5.size
  replace hB := bl_trans hB hb5
  clear d05
  replace HD0 := bk HD0 hb5
  clear e02
  replace HE0 := bk HE0 hb5
  have d06 := cells3 HD0
  have e03 := cells3 HE0
  have hba9 := bl_alloc (Below.refl w5.heap.size w5) (.cells #[.string R1, .string R2, .string R3] 25)
  have HF0 := Lib.hid (heap_alloc_new w5 (.cells #[.string R1, .string R2, .string R3] 25))
  have hs9 : w5.heap.size < (w5.alloc (.cells #[.string R1, .string R2, .string R3] 25)).heap.size := by simp
  have HS9 := Lib.hid hs9; clear hs9; have hs9 := HS9.out
  have hz10 := hba9.size
  replace hB := bl_trans hB hba9
  clear d06
  replace HD0 := bk HD0 hba9
  clear e03
  replace HE0 := bk HE0 hba9
  have d07 := cells3 HD0
  have e04 := cells3 HE0
  have f01 := cells3 HF0
  go_wp2_with fail
  generalize w5.alloc (.cells #[.string R1, .string R2, .string R3] 25) = x5 at *
  refine (eq_disk R1 R2 R3 x5).mono ?_
  rintro e w6 ⟨rfl, hb6⟩
  have hz11 := hb6.size
  replace hB := bl_trans hB hb6
  clear d07
  replace HD0 := bk HD0 hb6
  clear e04
  replace HE0 := bk HE0 hb6
  clear f01
  replace HF0 := bk HF0 hb6
  have d08 := cells3 HD0
  have e05 := cells3 HE0
  have f02 := cells3 HF0
  go_wp2_with fail
  go_ret
  exact ⟨rfl, hB⟩
 ·
  have hz : szR 1048576 (a.size + b.size + c.size) < 0 := by unfold szR; split <;> omega
  go_wp2_with fail
  go_ret
  exact ⟨rfl, hB⟩
theorem laidOut : laidOutB Tryz.prog = true := by kernel_rfl
theorem own : ownKnob Tryz.prog.godebug = none := by kernel_rfl
set_option maxRecDepth 100000 in
theorem lifted (os : Os) (started : os.Started) (H : Type) (enc : TypeId × Value → H) :
  ReturnsInHanded {} Tryz.checked os 3 .any (fun w args => (Rows.fnExactTornCompactSpec.pre enc Tryz.prog Tryz.f3 [] false w args ∧ laidMetH Tryz.prog Rows.fnExactTornCompactRow.laid w) ∧ sizedMet enc Tryz.prog Tryz.f3 (OpenSpec.ofChange Rows.fnExactTornCompactSpec) false w args)
   (Rows.fnExactTornCompactSpec.post enc Tryz.prog Tryz.f3 false true false false) := by
 refine law_lifted (C := Tryz.checked) (X := fun w _ => laidMetH Tryz.prog Rows.fnExactTornCompactRow.laid w) (fun _ _ _ hh h => h.of_heap hh) own started (by kernel_rfl) Tryz.func3
  laidOut (by kernel_rfl) rfl (by kernel_rfl) Tryz.underlying4 (fun ds h => by match ds, h with | [_, _], _ => rfl)
  (ChangeSpec.witness_shaped (enc := enc) (C := Tryz.checked) (os := os) (X := fun w _ => laidMetH Tryz.prog Rows.fnExactTornCompactRow.laid w) false (World.laidAll Tryz.prog os Rows.fnExactTornCompactRow.laid) #[.agg #[.string ByteArray.empty, .string ByteArray.empty, .string ByteArray.empty], .int .i64 0] 8 (World.laidAll_os _ _ _)
   (World.shaped_of_ZipB (by kernel_rfl) (by kernel_rfl)) (by kernel_rfl) (by kernel_rfl) (by kernel_rfl)
   (by rw [MakeChecks.laidMetH_plain _ _ _ (by kernel_rfl)]; exact laidMet_laidAll _ (by kernel_rfl) (by kernel_rfl))) ?_
 intro W base args ds p hval0 hA0 hlt hL hsh
 have hval : ∀ (j : Nat) t v, Tryz.f3.params[j]? = some t → args[j]? = some v → Value.okWide Tryz.prog W .any base t v := hval0
 have hA : DataW.TrodAll enc Tryz.prog W 0 (fun _ => true) true Tryz.f3.params.toList args.toList ds p := hA0
 rw [Tryz.params3] at hA hval
 obtain ⟨v0, vs0, d0, ds0, p0, q0, hargs, rfl, rfl, h0, r0⟩ := trodAll_cons hA
 obtain ⟨v1, vs1, d1, ds1, p1, q1, rfl, rfl, rfl, h1, r1⟩ := trodAll_cons r0
 obtain ⟨rfl, rfl, rfl⟩ := trodAll_nil r1
 obtain rfl : args = #[v0, v1] := by cases args; simp_all
 obtain ⟨z0, z1, z2, y0, y1, y2, nn, rfl, rfl, -, hy0, hy1, hy2⟩ := open_agg3 Tryz.underlying23 (by kernel_rfl) (by kernel_rfl) (hval 0 23 v0 rfl rfl) h0
 obtain ⟨s0, e0, -, w0⟩ := DataW.trod_string Tryz.underlying9 hy0
 obtain ⟨s1, e1, -, w1⟩ := DataW.trod_string Tryz.underlying9 hy1
 obtain ⟨s2, e2, -, w2⟩ := DataW.trod_string Tryz.underlying9 hy2
 simp only [List.cons.injEq, and_true] at e0 e1 e2
 subst e0 e1 e2
 obtain ⟨fuel1, hf1⟩ := h1
 obtain ⟨k, e2, -, wg⟩ := DataW.trod_int Tryz.underlying3 hf1
 have e3 : v1 = .int .i64 k := by
  obtain ⟨z, rfl⟩ := okWide_int Tryz.underlying3 (hval 1 3 v1 rfl rfl)
  simpa [Value.cells] using e2
 subst e3
 rw [MakeChecks.laidMetH_plain _ _ _ (by kernel_rfl)] at hL
 have hP : Pow10 W := pow10_of_laid (r := Rows.fnExactTornCompactRow.laid.drop 3) 2 (by kernel_rfl) hL
 exact walk s0 s1 s2 k W w0 w1 w2 (cell_of_shapedOpen_int (zero := #[.int .i64 0]) (t := 3) hsh (of_decide_eq_true (by kernel_rfl)) (by kernel_rfl) rfl (by kernel_rfl) (by kernel_rfl) Tryz.underlying3) hP
  (err_of_laid (d := Rows.laid_strconv_ErrSyntax) (r := Rows.fnExactTornCompactRow.laid.drop 6) 5 (by kernel_rfl) hL)
theorem over : Rows.FnExactTornCompactSaid :=
  OpenClaim.holds_of_wide 3 Tryz.f3 rfl rfl rfl rfl rfl rfl rfl ⟨rfl, rfl, rfl, rfl, rfl⟩ rfl rfl rfl rfl rfl (by kernel_rfl) Tryz.func3 (by kernel_rfl)
    (of_decide_eq_true (by kernel_rfl)) (by unfold Func.isWrapper; first | (rw [if_pos (by decide +kernel)]; kernel_rfl) | (rw [if_neg (by decide +kernel)]; exact ⟨rfl, rfl⟩))
    (fun os started H enc _ => lifted os started H enc)
theorem proved : Rows.FnExactTornCompactCardSaid :=
  Claim7.holds_tied_plain_at .later [] [.data, .data, .data, .data, .sentinel, .sentinel, .pinned] true Rows.fnExactTornCompactCard.stood.harness true
    over (fun _ h => by cases h) (by kernel_rfl) (fun _ h => by cases h) fnExactTornCompact_row_tie rfl ⟨rfl, rfl⟩ (by kernel_rfl) rfl
    (fun f fn hf hfn => by
      obtain rfl : f = 3 := Option.some.inj ((show Tryz.prog.funcNamed Rows.fnExactTornCompactRow.func = some 3 by kernel_rfl).symm.trans hf) |>.symm
      obtain rfl : fn = Tryz.f3 := (Option.some.inj (Tryz.func3.symm.trans hfn)).symm
      exact ⟨by kernel_rfl, fun j t ht => by
        rw [Tryz.params3] at ht
        have hm : t ∈ [23, 3] := by simpa using Array.mem_of_getElem? ht
        have hall : ([23, 3].all fun u => !Tryz.prog.wantsStandIn u) = true := by kernel_rfl
        exact (show Tryz.prog.wantsStandIn t = false by simpa using List.all_eq_true.1 hall t hm)⟩)
    (by kernel_rfl)
#print axioms proved
end Go.Proofs.YtcfbkickiijjkaaGreatDoor.fnExactTornCompact
