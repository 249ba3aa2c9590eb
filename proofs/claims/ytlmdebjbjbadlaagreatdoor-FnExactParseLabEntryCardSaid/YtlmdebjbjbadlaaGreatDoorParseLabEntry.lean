/-
  Proved: the law FnExactParseLabEntry returns true for every string, and leaves them as they were. The row's own condition: the listed tables hold what their text lays (the card ties them).
-/
import Derived.Test.YtlmdebjbjbadlaaGreatDoorRows
import Derived.Test.YtlmdebjbjbadlaaGreatDoorCards
import Derived.Test.YtlmdebjbjbadlaaGreatDoorTie
import Derived.Test.YtlmdebjbjbadlaaGreatDoorLaw
import Derived.Test.YtlmdebjbjbadlaaGreatDoorEntryAll
import Derived.Test.YtlmdebjbjbadlaaGreatDoorStoreAll
import Derived.ProofKit
import Derived.Shelf.Vars
import Derived.Lay
import Derived.LaidMore
import Derived.OpenShut
import Derived.ShutString
import Derived.Stop.Joined
import Derived.SevenTiedAt
import Derived.Deep.RegionHeld3
import Derived.Lib.SmallJoins
import Derived.Lib.LaidTab
namespace Go.Proofs.YtlmdebjbjbadlaaGreatDoor.fnExactParseLabEntry
open Go.ChangeShapes Go.WideShapes Go.ChangeAt Go.RowKit Go.Joins Go.Deep
set_option linter.unusedVariables false

theorem iface_cell {H : Type} {enc : TypeId × Value → H} {P : Program} {w : World} {base : Nat} {sp : Nat → Bool} {held : Bool} {fuel : Nat} {t : TypeId} {ms : Array (String × TypeId)} {cs : List Value} {x : DataW H × List MemPlace} (ht : P.underlying t = some (.interface ms))
    (h : DataW.trod enc P w base sp held fuel t cs = some x) : ∃ ev, cs = [ev] ∧ (ev = .nilIface ∨ ∃ te pe, ev = .iface te pe) := by
  cases fuel with
  | zero => simp [DataW.trod] at h
  | succ n =>
    unfold DataW.trod at h
    rw [ht] at h
    split at h <;> simp_all
theorem err_of_laid {W : World} {l r : List (String × DataW Unit)} {d : DataW Unit} (k : Nat) (hl : l.drop k = ("strconv.ErrSyntax", d) :: r) (h : laidMet Tryz.prog l W) : ErrAt W := by
  have h1 := laid_drop k l h
  rw [hl] at h1
  obtain ⟨ps, ⟨g, t, cs, fuel, p, q, hg, ht, hvar, hd, _, _⟩, _⟩ := h1
  obtain rfl := Option.some.inj ((show Tryz.prog.globalNamed "strconv.ErrSyntax" = some 1 by kernel_rfl).symm.trans hg)
  obtain rfl := Option.some.inj ((show (Tryz.prog.globals[1]?).map (·.type) = some 109 by kernel_rfl).symm.trans ht)
  obtain ⟨ev, e, hev⟩ := iface_cell Tryz.underlying109 hd
  refine ⟨ev, ?_, hev⟩
  unfold World.var? at hvar
  rw [hg] at hvar
  simp only [Option.bind_some] at hvar
  unfold World.cell?
  split at hvar
  · rename_i c _ _ hh
    obtain rfl : c = cs := by simpa using hvar
    simp only [hh]
    have : c[0]? = some ev := by rw [← Array.getElem?_toList, e]; rfl
    simpa using this
  · cases hvar
theorem pe_sz (l : List UInt8) : endM 1 (peE l).it ≤ 10000000 := by
  have key : szEntry (peE l) ≤ 1048576 := by
    by_cases h : peP l
    · obtain ⟨e, h1, h2⟩ := h
      rw [(pe_t h1 h2).2]
      exact h1.sz
    · rw [(pe_f h).2]
      show 0 ≤ _
      omega
  unfold szEntry szItem szCert szRows at key
  unfold endM
  omega
set_option maxRecDepth 100000 in
set_option maxHeartbeats 2000000 in
theorem walk (s : ByteArray) (w : World) (hs : s.size ≤ maxLen) (hm : MaxAt w) (hp : Pow10 w) (he : ErrAt w) :
    Calls Tryz.prog 4 #[.string s] w fun e w' => e = .returned (.bool true) ∧ Below w.heap.size w w' := by
  unfold maxLen at hs
  have HP := Lib.hid hp; clear hp
  have HE := Lib.hid he; clear he
  have HM := Lib.hid hm; clear hm
  by_cases h20 : s.size ≤ 1048576
  · have hd20 : decide ((s.size : Int) > 1048576) = false := decide_eq_false (by omega)
    have hB := Below.refl w.heap.size w
    have J1 := Lib.hid (spec_ParseLabEntry s w h20)
    have J2 := Lib.hid (fun (W : World) (hb : Below w.heap.size w W) => impl_ParseLabEntry s W h20 (HM.out.below hb) (HP.out.below hb) (HE.out.below hb))
    have hsz := pe_sz s.data.toList
    unfold PePost at J1 J2
    generalize peB s.data.toList = ok at *
    generalize peE s.data.toList = E at *
    have hM0 : 1 ≤ endM 1 E.it := by unfold endM; omega
    have hM1 : ¬ (endM 1 E.it < 0) := by omega
    go_enter Tryz.func4, Tryz.ntmps4
    go_wp2_with fail
    refine (J1.out).mono ?_
    rintro e w1 ⟨vaw, vfw, vsw, vrw, bsw, rfl, ho, hnw, hr, hbw1⟩
    have hz1 := hbw1.size
    replace hB := bl_trans hB hbw1
    obtain ⟨ba, bf, bz, br, oa, of, oz, or, hbs⟩ := id ho
    obtain ⟨Aaw, maw, caw, rfl⟩ := oa.isSlice
    obtain ⟨Afw, mfw, cfw, rfl⟩ := of.1.isSlice
    obtain ⟨Asw, msw, csw, rfl⟩ := oz.1.isSlice
    obtain ⟨Arw, mrw, crw, rfl⟩ := or.isSlice
    clear oa of oz or hbs
    have Ow := Lib.hid ho; clear ho
    have Gw := Lib.hid hr; clear hr
    clear J1
    have hb2 := bl_alloc (Below.refl w1.heap.size w1) (.cells #[.int .i64 E.kd, .string E.nm, .string E.tn, .string E.it.nm, .int .i64 E.it.n, .slice Aaw maw caw, .int .i64 E.it.cl, .int .i64 E.it.lb, .slice Afw mfw cfw, .slice Asw msw csw, .slice Arw mrw crw] 41)
    have HBw := Lib.hid (heap_alloc_new w1 (.cells #[.int .i64 E.kd, .string E.nm, .string E.tn, .string E.it.nm, .int .i64 E.it.n, .slice Aaw maw caw, .int .i64 E.it.cl, .int .i64 E.it.lb, .slice Afw mfw cfw, .slice Asw msw csw, .slice Arw mrw crw] 41))
    have hs2 : w1.heap.size < (w1.alloc (.cells #[.int .i64 E.kd, .string E.nm, .string E.tn, .string E.it.nm, .int .i64 E.it.n, .slice Aaw maw caw, .int .i64 E.it.cl, .int .i64 E.it.lb, .slice Afw mfw cfw, .slice Asw msw csw, .slice Arw mrw crw] 41)).heap.size := by simp
    have HS2 := Lib.hid hs2; clear hs2; have hs2 := HS2.out
    have hz3 := hb2.size
    replace hB := bl_trans hB hb2
    replace Ow := Lib.hid (Ow.out.keep fun b hb' => hb2.block b (by have := Gw.out b hb'; omega))
    have bw1_0 : (w1.alloc (.cells #[.int .i64 E.kd, .string E.nm, .string E.tn, .string E.it.nm, .int .i64 E.it.n, .slice Aaw maw caw, .int .i64 E.it.cl, .int .i64 E.it.lb, .slice Afw mfw cfw, .slice Asw msw csw, .slice Arw mrw crw] 41)).cell? ⟨w1.heap.size, 0, none⟩ = some (.int .i64 E.kd) := cell_of_row _ _ 0 _ _ (0, 0) HBw.out
    have bw1_1 : (w1.alloc (.cells #[.int .i64 E.kd, .string E.nm, .string E.tn, .string E.it.nm, .int .i64 E.it.n, .slice Aaw maw caw, .int .i64 E.it.cl, .int .i64 E.it.lb, .slice Afw mfw cfw, .slice Asw msw csw, .slice Arw mrw crw] 41)).cell? ⟨w1.heap.size, 1, none⟩ = some (.string E.nm) := cell_of_row _ _ 1 _ _ (0, 0) HBw.out
    have bw1_2 : (w1.alloc (.cells #[.int .i64 E.kd, .string E.nm, .string E.tn, .string E.it.nm, .int .i64 E.it.n, .slice Aaw maw caw, .int .i64 E.it.cl, .int .i64 E.it.lb, .slice Afw mfw cfw, .slice Asw msw csw, .slice Arw mrw crw] 41)).cell? ⟨w1.heap.size, 2, none⟩ = some (.string E.tn) := cell_of_row _ _ 2 _ _ (0, 0) HBw.out
    have bw1_3 : (w1.alloc (.cells #[.int .i64 E.kd, .string E.nm, .string E.tn, .string E.it.nm, .int .i64 E.it.n, .slice Aaw maw caw, .int .i64 E.it.cl, .int .i64 E.it.lb, .slice Afw mfw cfw, .slice Asw msw csw, .slice Arw mrw crw] 41)).cell? ⟨w1.heap.size, 3, none⟩ = some (.string E.it.nm) := cell_of_row _ _ 3 _ _ (0, 0) HBw.out
    have bw1_4 : (w1.alloc (.cells #[.int .i64 E.kd, .string E.nm, .string E.tn, .string E.it.nm, .int .i64 E.it.n, .slice Aaw maw caw, .int .i64 E.it.cl, .int .i64 E.it.lb, .slice Afw mfw cfw, .slice Asw msw csw, .slice Arw mrw crw] 41)).cell? ⟨w1.heap.size, 4, none⟩ = some (.int .i64 E.it.n) := cell_of_row _ _ 4 _ _ (0, 0) HBw.out
    have bw1_5 : (w1.alloc (.cells #[.int .i64 E.kd, .string E.nm, .string E.tn, .string E.it.nm, .int .i64 E.it.n, .slice Aaw maw caw, .int .i64 E.it.cl, .int .i64 E.it.lb, .slice Afw mfw cfw, .slice Asw msw csw, .slice Arw mrw crw] 41)).cell? ⟨w1.heap.size, 5, none⟩ = some (.slice Aaw maw caw) := cell_of_row _ _ 5 _ _ (0, 0) HBw.out
    have bw1_6 : (w1.alloc (.cells #[.int .i64 E.kd, .string E.nm, .string E.tn, .string E.it.nm, .int .i64 E.it.n, .slice Aaw maw caw, .int .i64 E.it.cl, .int .i64 E.it.lb, .slice Afw mfw cfw, .slice Asw msw csw, .slice Arw mrw crw] 41)).cell? ⟨w1.heap.size, 6, none⟩ = some (.int .i64 E.it.cl) := cell_of_row _ _ 6 _ _ (0, 0) HBw.out
    have bw1_7 : (w1.alloc (.cells #[.int .i64 E.kd, .string E.nm, .string E.tn, .string E.it.nm, .int .i64 E.it.n, .slice Aaw maw caw, .int .i64 E.it.cl, .int .i64 E.it.lb, .slice Afw mfw cfw, .slice Asw msw csw, .slice Arw mrw crw] 41)).cell? ⟨w1.heap.size, 7, none⟩ = some (.int .i64 E.it.lb) := cell_of_row _ _ 7 _ _ (0, 0) HBw.out
    have bw1_8 : (w1.alloc (.cells #[.int .i64 E.kd, .string E.nm, .string E.tn, .string E.it.nm, .int .i64 E.it.n, .slice Aaw maw caw, .int .i64 E.it.cl, .int .i64 E.it.lb, .slice Afw mfw cfw, .slice Asw msw csw, .slice Arw mrw crw] 41)).cell? ⟨w1.heap.size, 8, none⟩ = some (.slice Afw mfw cfw) := cell_of_row _ _ 8 _ _ (0, 0) HBw.out
    have bw1_9 : (w1.alloc (.cells #[.int .i64 E.kd, .string E.nm, .string E.tn, .string E.it.nm, .int .i64 E.it.n, .slice Aaw maw caw, .int .i64 E.it.cl, .int .i64 E.it.lb, .slice Afw mfw cfw, .slice Asw msw csw, .slice Arw mrw crw] 41)).cell? ⟨w1.heap.size, 9, none⟩ = some (.slice Asw msw csw) := cell_of_row _ _ 9 _ _ (0, 0) HBw.out
    have bw1_10 : (w1.alloc (.cells #[.int .i64 E.kd, .string E.nm, .string E.tn, .string E.it.nm, .int .i64 E.it.n, .slice Aaw maw caw, .int .i64 E.it.cl, .int .i64 E.it.lb, .slice Afw mfw cfw, .slice Asw msw csw, .slice Arw mrw crw] 41)).cell? ⟨w1.heap.size, 10, none⟩ = some (.slice Arw mrw crw) := cell_of_row _ _ 10 _ _ (0, 0) HBw.out
    have bw1_f : ∀ i, (w1.alloc (.cells #[.int .i64 E.kd, .string E.nm, .string E.tn, .string E.it.nm, .int .i64 E.it.n, .slice Aaw maw caw, .int .i64 E.it.cl, .int .i64 E.it.lb, .slice Afw mfw cfw, .slice Asw msw csw, .slice Arw mrw crw] 41)).frozen? ⟨w1.heap.size, i, none⟩ = false := fun i => frozen_of_row _ _ i _ _ HBw.out
    go_wp2_with fail
    generalize w1.alloc (.cells #[.int .i64 E.kd, .string E.nm, .string E.tn, .string E.it.nm, .int .i64 E.it.n, .slice Aaw maw caw, .int .i64 E.it.cl, .int .i64 E.it.lb, .slice Afw mfw cfw, .slice Asw msw csw, .slice Arw mrw crw] 41) = w2 at *
    refine (J2.out w2 hB).mono ?_
    rintro e w3 ⟨vag, vfg, vsg, vrg, bsg, rfl, ho, hng, hr, hbw3⟩
    have hz4 := hbw3.size
    replace hB := bl_trans hB hbw3
    clear bw1_0 bw1_1 bw1_2 bw1_3 bw1_4 bw1_5 bw1_6 bw1_7 bw1_8 bw1_9 bw1_10 bw1_f
    replace HBw := Lib.hid ((hbw3.block (w1.heap.size) (show w1.heap.size < w2.heap.size by omega)).trans HBw.out)
    replace Ow := Lib.hid (Ow.out.keep fun b hb' => hbw3.block b (by have := Gw.out b hb'; omega))
    have bw2_0 : w3.cell? ⟨w1.heap.size, 0, none⟩ = some (.int .i64 E.kd) := cell_of_row _ _ 0 _ _ (0, 0) HBw.out
    have bw2_1 : w3.cell? ⟨w1.heap.size, 1, none⟩ = some (.string E.nm) := cell_of_row _ _ 1 _ _ (0, 0) HBw.out
    have bw2_2 : w3.cell? ⟨w1.heap.size, 2, none⟩ = some (.string E.tn) := cell_of_row _ _ 2 _ _ (0, 0) HBw.out
    have bw2_3 : w3.cell? ⟨w1.heap.size, 3, none⟩ = some (.string E.it.nm) := cell_of_row _ _ 3 _ _ (0, 0) HBw.out
    have bw2_4 : w3.cell? ⟨w1.heap.size, 4, none⟩ = some (.int .i64 E.it.n) := cell_of_row _ _ 4 _ _ (0, 0) HBw.out
    have bw2_5 : w3.cell? ⟨w1.heap.size, 5, none⟩ = some (.slice Aaw maw caw) := cell_of_row _ _ 5 _ _ (0, 0) HBw.out
    have bw2_6 : w3.cell? ⟨w1.heap.size, 6, none⟩ = some (.int .i64 E.it.cl) := cell_of_row _ _ 6 _ _ (0, 0) HBw.out
    have bw2_7 : w3.cell? ⟨w1.heap.size, 7, none⟩ = some (.int .i64 E.it.lb) := cell_of_row _ _ 7 _ _ (0, 0) HBw.out
    have bw2_8 : w3.cell? ⟨w1.heap.size, 8, none⟩ = some (.slice Afw mfw cfw) := cell_of_row _ _ 8 _ _ (0, 0) HBw.out
    have bw2_9 : w3.cell? ⟨w1.heap.size, 9, none⟩ = some (.slice Asw msw csw) := cell_of_row _ _ 9 _ _ (0, 0) HBw.out
    have bw2_10 : w3.cell? ⟨w1.heap.size, 10, none⟩ = some (.slice Arw mrw crw) := cell_of_row _ _ 10 _ _ (0, 0) HBw.out
    have bw2_f : ∀ i, w3.frozen? ⟨w1.heap.size, i, none⟩ = false := fun i => frozen_of_row _ _ i _ _ HBw.out
    obtain ⟨ba, bf, bz, br, oa, of, oz, or, hbs⟩ := id ho
    obtain ⟨Aag, mag, cag, rfl⟩ := oa.isSlice
    obtain ⟨Afg, mfg, cfg, rfl⟩ := of.1.isSlice
    obtain ⟨Asg, msg, csg, rfl⟩ := oz.1.isSlice
    obtain ⟨Arg, mrg, crg, rfl⟩ := or.isSlice
    clear oa of oz or hbs
    have Og := Lib.hid ho; clear ho
    have Gg := Lib.hid hr; clear hr
    have hb5 := bl_alloc (Below.refl w3.heap.size w3) (.cells #[.int .i64 E.kd, .string E.nm, .string E.tn, .string E.it.nm, .int .i64 E.it.n, .slice Aag mag cag, .int .i64 E.it.cl, .int .i64 E.it.lb, .slice Afg mfg cfg, .slice Asg msg csg, .slice Arg mrg crg] 41)
    have HBg := Lib.hid (heap_alloc_new w3 (.cells #[.int .i64 E.kd, .string E.nm, .string E.tn, .string E.it.nm, .int .i64 E.it.n, .slice Aag mag cag, .int .i64 E.it.cl, .int .i64 E.it.lb, .slice Afg mfg cfg, .slice Asg msg csg, .slice Arg mrg crg] 41))
    have hs5 : w3.heap.size < (w3.alloc (.cells #[.int .i64 E.kd, .string E.nm, .string E.tn, .string E.it.nm, .int .i64 E.it.n, .slice Aag mag cag, .int .i64 E.it.cl, .int .i64 E.it.lb, .slice Afg mfg cfg, .slice Asg msg csg, .slice Arg mrg crg] 41)).heap.size := by simp
    have HS5 := Lib.hid hs5; clear hs5; have hs5 := HS5.out
    have hz6 := hb5.size
    replace hB := bl_trans hB hb5
    clear bw2_0 bw2_1 bw2_2 bw2_3 bw2_4 bw2_5 bw2_6 bw2_7 bw2_8 bw2_9 bw2_10 bw2_f
    replace HBw := Lib.hid ((hb5.block (w1.heap.size) (show w1.heap.size < w3.heap.size by omega)).trans HBw.out)
    replace Ow := Lib.hid (Ow.out.keep fun b hb' => hb5.block b (by have := Gw.out b hb'; omega))
    replace Og := Lib.hid (Og.out.keep fun b hb' => hb5.block b (by have := Gg.out b hb'; omega))
    have bw3_0 : (w3.alloc (.cells #[.int .i64 E.kd, .string E.nm, .string E.tn, .string E.it.nm, .int .i64 E.it.n, .slice Aag mag cag, .int .i64 E.it.cl, .int .i64 E.it.lb, .slice Afg mfg cfg, .slice Asg msg csg, .slice Arg mrg crg] 41)).cell? ⟨w1.heap.size, 0, none⟩ = some (.int .i64 E.kd) := cell_of_row _ _ 0 _ _ (0, 0) HBw.out
    have bw3_1 : (w3.alloc (.cells #[.int .i64 E.kd, .string E.nm, .string E.tn, .string E.it.nm, .int .i64 E.it.n, .slice Aag mag cag, .int .i64 E.it.cl, .int .i64 E.it.lb, .slice Afg mfg cfg, .slice Asg msg csg, .slice Arg mrg crg] 41)).cell? ⟨w1.heap.size, 1, none⟩ = some (.string E.nm) := cell_of_row _ _ 1 _ _ (0, 0) HBw.out
    have bw3_2 : (w3.alloc (.cells #[.int .i64 E.kd, .string E.nm, .string E.tn, .string E.it.nm, .int .i64 E.it.n, .slice Aag mag cag, .int .i64 E.it.cl, .int .i64 E.it.lb, .slice Afg mfg cfg, .slice Asg msg csg, .slice Arg mrg crg] 41)).cell? ⟨w1.heap.size, 2, none⟩ = some (.string E.tn) := cell_of_row _ _ 2 _ _ (0, 0) HBw.out
    have bw3_3 : (w3.alloc (.cells #[.int .i64 E.kd, .string E.nm, .string E.tn, .string E.it.nm, .int .i64 E.it.n, .slice Aag mag cag, .int .i64 E.it.cl, .int .i64 E.it.lb, .slice Afg mfg cfg, .slice Asg msg csg, .slice Arg mrg crg] 41)).cell? ⟨w1.heap.size, 3, none⟩ = some (.string E.it.nm) := cell_of_row _ _ 3 _ _ (0, 0) HBw.out
    have bw3_4 : (w3.alloc (.cells #[.int .i64 E.kd, .string E.nm, .string E.tn, .string E.it.nm, .int .i64 E.it.n, .slice Aag mag cag, .int .i64 E.it.cl, .int .i64 E.it.lb, .slice Afg mfg cfg, .slice Asg msg csg, .slice Arg mrg crg] 41)).cell? ⟨w1.heap.size, 4, none⟩ = some (.int .i64 E.it.n) := cell_of_row _ _ 4 _ _ (0, 0) HBw.out
    have bw3_5 : (w3.alloc (.cells #[.int .i64 E.kd, .string E.nm, .string E.tn, .string E.it.nm, .int .i64 E.it.n, .slice Aag mag cag, .int .i64 E.it.cl, .int .i64 E.it.lb, .slice Afg mfg cfg, .slice Asg msg csg, .slice Arg mrg crg] 41)).cell? ⟨w1.heap.size, 5, none⟩ = some (.slice Aaw maw caw) := cell_of_row _ _ 5 _ _ (0, 0) HBw.out
    have bw3_6 : (w3.alloc (.cells #[.int .i64 E.kd, .string E.nm, .string E.tn, .string E.it.nm, .int .i64 E.it.n, .slice Aag mag cag, .int .i64 E.it.cl, .int .i64 E.it.lb, .slice Afg mfg cfg, .slice Asg msg csg, .slice Arg mrg crg] 41)).cell? ⟨w1.heap.size, 6, none⟩ = some (.int .i64 E.it.cl) := cell_of_row _ _ 6 _ _ (0, 0) HBw.out
    have bw3_7 : (w3.alloc (.cells #[.int .i64 E.kd, .string E.nm, .string E.tn, .string E.it.nm, .int .i64 E.it.n, .slice Aag mag cag, .int .i64 E.it.cl, .int .i64 E.it.lb, .slice Afg mfg cfg, .slice Asg msg csg, .slice Arg mrg crg] 41)).cell? ⟨w1.heap.size, 7, none⟩ = some (.int .i64 E.it.lb) := cell_of_row _ _ 7 _ _ (0, 0) HBw.out
    have bw3_8 : (w3.alloc (.cells #[.int .i64 E.kd, .string E.nm, .string E.tn, .string E.it.nm, .int .i64 E.it.n, .slice Aag mag cag, .int .i64 E.it.cl, .int .i64 E.it.lb, .slice Afg mfg cfg, .slice Asg msg csg, .slice Arg mrg crg] 41)).cell? ⟨w1.heap.size, 8, none⟩ = some (.slice Afw mfw cfw) := cell_of_row _ _ 8 _ _ (0, 0) HBw.out
    have bw3_9 : (w3.alloc (.cells #[.int .i64 E.kd, .string E.nm, .string E.tn, .string E.it.nm, .int .i64 E.it.n, .slice Aag mag cag, .int .i64 E.it.cl, .int .i64 E.it.lb, .slice Afg mfg cfg, .slice Asg msg csg, .slice Arg mrg crg] 41)).cell? ⟨w1.heap.size, 9, none⟩ = some (.slice Asw msw csw) := cell_of_row _ _ 9 _ _ (0, 0) HBw.out
    have bw3_10 : (w3.alloc (.cells #[.int .i64 E.kd, .string E.nm, .string E.tn, .string E.it.nm, .int .i64 E.it.n, .slice Aag mag cag, .int .i64 E.it.cl, .int .i64 E.it.lb, .slice Afg mfg cfg, .slice Asg msg csg, .slice Arg mrg crg] 41)).cell? ⟨w1.heap.size, 10, none⟩ = some (.slice Arw mrw crw) := cell_of_row _ _ 10 _ _ (0, 0) HBw.out
    have bw3_f : ∀ i, (w3.alloc (.cells #[.int .i64 E.kd, .string E.nm, .string E.tn, .string E.it.nm, .int .i64 E.it.n, .slice Aag mag cag, .int .i64 E.it.cl, .int .i64 E.it.lb, .slice Afg mfg cfg, .slice Asg msg csg, .slice Arg mrg crg] 41)).frozen? ⟨w1.heap.size, i, none⟩ = false := fun i => frozen_of_row _ _ i _ _ HBw.out
    have bg1_0 : (w3.alloc (.cells #[.int .i64 E.kd, .string E.nm, .string E.tn, .string E.it.nm, .int .i64 E.it.n, .slice Aag mag cag, .int .i64 E.it.cl, .int .i64 E.it.lb, .slice Afg mfg cfg, .slice Asg msg csg, .slice Arg mrg crg] 41)).cell? ⟨w3.heap.size, 0, none⟩ = some (.int .i64 E.kd) := cell_of_row _ _ 0 _ _ (0, 0) HBg.out
    have bg1_1 : (w3.alloc (.cells #[.int .i64 E.kd, .string E.nm, .string E.tn, .string E.it.nm, .int .i64 E.it.n, .slice Aag mag cag, .int .i64 E.it.cl, .int .i64 E.it.lb, .slice Afg mfg cfg, .slice Asg msg csg, .slice Arg mrg crg] 41)).cell? ⟨w3.heap.size, 1, none⟩ = some (.string E.nm) := cell_of_row _ _ 1 _ _ (0, 0) HBg.out
    have bg1_2 : (w3.alloc (.cells #[.int .i64 E.kd, .string E.nm, .string E.tn, .string E.it.nm, .int .i64 E.it.n, .slice Aag mag cag, .int .i64 E.it.cl, .int .i64 E.it.lb, .slice Afg mfg cfg, .slice Asg msg csg, .slice Arg mrg crg] 41)).cell? ⟨w3.heap.size, 2, none⟩ = some (.string E.tn) := cell_of_row _ _ 2 _ _ (0, 0) HBg.out
    have bg1_3 : (w3.alloc (.cells #[.int .i64 E.kd, .string E.nm, .string E.tn, .string E.it.nm, .int .i64 E.it.n, .slice Aag mag cag, .int .i64 E.it.cl, .int .i64 E.it.lb, .slice Afg mfg cfg, .slice Asg msg csg, .slice Arg mrg crg] 41)).cell? ⟨w3.heap.size, 3, none⟩ = some (.string E.it.nm) := cell_of_row _ _ 3 _ _ (0, 0) HBg.out
    have bg1_4 : (w3.alloc (.cells #[.int .i64 E.kd, .string E.nm, .string E.tn, .string E.it.nm, .int .i64 E.it.n, .slice Aag mag cag, .int .i64 E.it.cl, .int .i64 E.it.lb, .slice Afg mfg cfg, .slice Asg msg csg, .slice Arg mrg crg] 41)).cell? ⟨w3.heap.size, 4, none⟩ = some (.int .i64 E.it.n) := cell_of_row _ _ 4 _ _ (0, 0) HBg.out
    have bg1_5 : (w3.alloc (.cells #[.int .i64 E.kd, .string E.nm, .string E.tn, .string E.it.nm, .int .i64 E.it.n, .slice Aag mag cag, .int .i64 E.it.cl, .int .i64 E.it.lb, .slice Afg mfg cfg, .slice Asg msg csg, .slice Arg mrg crg] 41)).cell? ⟨w3.heap.size, 5, none⟩ = some (.slice Aag mag cag) := cell_of_row _ _ 5 _ _ (0, 0) HBg.out
    have bg1_6 : (w3.alloc (.cells #[.int .i64 E.kd, .string E.nm, .string E.tn, .string E.it.nm, .int .i64 E.it.n, .slice Aag mag cag, .int .i64 E.it.cl, .int .i64 E.it.lb, .slice Afg mfg cfg, .slice Asg msg csg, .slice Arg mrg crg] 41)).cell? ⟨w3.heap.size, 6, none⟩ = some (.int .i64 E.it.cl) := cell_of_row _ _ 6 _ _ (0, 0) HBg.out
    have bg1_7 : (w3.alloc (.cells #[.int .i64 E.kd, .string E.nm, .string E.tn, .string E.it.nm, .int .i64 E.it.n, .slice Aag mag cag, .int .i64 E.it.cl, .int .i64 E.it.lb, .slice Afg mfg cfg, .slice Asg msg csg, .slice Arg mrg crg] 41)).cell? ⟨w3.heap.size, 7, none⟩ = some (.int .i64 E.it.lb) := cell_of_row _ _ 7 _ _ (0, 0) HBg.out
    have bg1_8 : (w3.alloc (.cells #[.int .i64 E.kd, .string E.nm, .string E.tn, .string E.it.nm, .int .i64 E.it.n, .slice Aag mag cag, .int .i64 E.it.cl, .int .i64 E.it.lb, .slice Afg mfg cfg, .slice Asg msg csg, .slice Arg mrg crg] 41)).cell? ⟨w3.heap.size, 8, none⟩ = some (.slice Afg mfg cfg) := cell_of_row _ _ 8 _ _ (0, 0) HBg.out
    have bg1_9 : (w3.alloc (.cells #[.int .i64 E.kd, .string E.nm, .string E.tn, .string E.it.nm, .int .i64 E.it.n, .slice Aag mag cag, .int .i64 E.it.cl, .int .i64 E.it.lb, .slice Afg mfg cfg, .slice Asg msg csg, .slice Arg mrg crg] 41)).cell? ⟨w3.heap.size, 9, none⟩ = some (.slice Asg msg csg) := cell_of_row _ _ 9 _ _ (0, 0) HBg.out
    have bg1_10 : (w3.alloc (.cells #[.int .i64 E.kd, .string E.nm, .string E.tn, .string E.it.nm, .int .i64 E.it.n, .slice Aag mag cag, .int .i64 E.it.cl, .int .i64 E.it.lb, .slice Afg mfg cfg, .slice Asg msg csg, .slice Arg mrg crg] 41)).cell? ⟨w3.heap.size, 10, none⟩ = some (.slice Arg mrg crg) := cell_of_row _ _ 10 _ _ (0, 0) HBg.out
    have bg1_f : ∀ i, (w3.alloc (.cells #[.int .i64 E.kd, .string E.nm, .string E.tn, .string E.it.nm, .int .i64 E.it.n, .slice Aag mag cag, .int .i64 E.it.cl, .int .i64 E.it.lb, .slice Afg mfg cfg, .slice Asg msg csg, .slice Arg mrg crg] 41)).frozen? ⟨w3.heap.size, i, none⟩ = false := fun i => frozen_of_row _ _ i _ _ HBg.out
    go_wp2_with fail
    generalize w3.alloc (.cells #[.int .i64 E.kd, .string E.nm, .string E.tn, .string E.it.nm, .int .i64 E.it.n, .slice Aag mag cag, .int .i64 E.it.cl, .int .i64 E.it.lb, .slice Afg mfg cfg, .slice Asg msg csg, .slice Arg mrg crg] 41) = w4 at *
    refine (eq_Entry E _ _ _ _ _ _ _ _ w4 (Og.out.reads (B := w4.heap.size) (fun b hb' => by have := Gg.out b hb'; omega)) (Ow.out.reads (B := w4.heap.size) (fun b hb' => by have := Gw.out b hb'; omega))).mono ?_
    rintro e w5 ⟨rfl, hb5⟩
    have hz7 := hb5.size
    replace hB := bl_trans hB hb5
    clear bw3_0 bw3_1 bw3_2 bw3_3 bw3_4 bw3_5 bw3_6 bw3_7 bw3_8 bw3_9 bw3_10 bw3_f
    replace HBw := Lib.hid ((hb5.block (w1.heap.size) (show w1.heap.size < w4.heap.size by omega)).trans HBw.out)
    clear bg1_0 bg1_1 bg1_2 bg1_3 bg1_4 bg1_5 bg1_6 bg1_7 bg1_8 bg1_9 bg1_10 bg1_f
    replace HBg := Lib.hid ((hb5.block (w3.heap.size) (show w3.heap.size < w4.heap.size by omega)).trans HBg.out)
    replace Ow := Lib.hid (Ow.out.keep fun b hb' => hb5.block b (by have := Gw.out b hb'; omega))
    replace Og := Lib.hid (Og.out.keep fun b hb' => hb5.block b (by have := Gg.out b hb'; omega))
    have bw4_0 : w5.cell? ⟨w1.heap.size, 0, none⟩ = some (.int .i64 E.kd) := cell_of_row _ _ 0 _ _ (0, 0) HBw.out
    have bw4_1 : w5.cell? ⟨w1.heap.size, 1, none⟩ = some (.string E.nm) := cell_of_row _ _ 1 _ _ (0, 0) HBw.out
    have bw4_2 : w5.cell? ⟨w1.heap.size, 2, none⟩ = some (.string E.tn) := cell_of_row _ _ 2 _ _ (0, 0) HBw.out
    have bw4_3 : w5.cell? ⟨w1.heap.size, 3, none⟩ = some (.string E.it.nm) := cell_of_row _ _ 3 _ _ (0, 0) HBw.out
    have bw4_4 : w5.cell? ⟨w1.heap.size, 4, none⟩ = some (.int .i64 E.it.n) := cell_of_row _ _ 4 _ _ (0, 0) HBw.out
    have bw4_5 : w5.cell? ⟨w1.heap.size, 5, none⟩ = some (.slice Aaw maw caw) := cell_of_row _ _ 5 _ _ (0, 0) HBw.out
    have bw4_6 : w5.cell? ⟨w1.heap.size, 6, none⟩ = some (.int .i64 E.it.cl) := cell_of_row _ _ 6 _ _ (0, 0) HBw.out
    have bw4_7 : w5.cell? ⟨w1.heap.size, 7, none⟩ = some (.int .i64 E.it.lb) := cell_of_row _ _ 7 _ _ (0, 0) HBw.out
    have bw4_8 : w5.cell? ⟨w1.heap.size, 8, none⟩ = some (.slice Afw mfw cfw) := cell_of_row _ _ 8 _ _ (0, 0) HBw.out
    have bw4_9 : w5.cell? ⟨w1.heap.size, 9, none⟩ = some (.slice Asw msw csw) := cell_of_row _ _ 9 _ _ (0, 0) HBw.out
    have bw4_10 : w5.cell? ⟨w1.heap.size, 10, none⟩ = some (.slice Arw mrw crw) := cell_of_row _ _ 10 _ _ (0, 0) HBw.out
    have bw4_f : ∀ i, w5.frozen? ⟨w1.heap.size, i, none⟩ = false := fun i => frozen_of_row _ _ i _ _ HBw.out
    have bg2_0 : w5.cell? ⟨w3.heap.size, 0, none⟩ = some (.int .i64 E.kd) := cell_of_row _ _ 0 _ _ (0, 0) HBg.out
    have bg2_1 : w5.cell? ⟨w3.heap.size, 1, none⟩ = some (.string E.nm) := cell_of_row _ _ 1 _ _ (0, 0) HBg.out
    have bg2_2 : w5.cell? ⟨w3.heap.size, 2, none⟩ = some (.string E.tn) := cell_of_row _ _ 2 _ _ (0, 0) HBg.out
    have bg2_3 : w5.cell? ⟨w3.heap.size, 3, none⟩ = some (.string E.it.nm) := cell_of_row _ _ 3 _ _ (0, 0) HBg.out
    have bg2_4 : w5.cell? ⟨w3.heap.size, 4, none⟩ = some (.int .i64 E.it.n) := cell_of_row _ _ 4 _ _ (0, 0) HBg.out
    have bg2_5 : w5.cell? ⟨w3.heap.size, 5, none⟩ = some (.slice Aag mag cag) := cell_of_row _ _ 5 _ _ (0, 0) HBg.out
    have bg2_6 : w5.cell? ⟨w3.heap.size, 6, none⟩ = some (.int .i64 E.it.cl) := cell_of_row _ _ 6 _ _ (0, 0) HBg.out
    have bg2_7 : w5.cell? ⟨w3.heap.size, 7, none⟩ = some (.int .i64 E.it.lb) := cell_of_row _ _ 7 _ _ (0, 0) HBg.out
    have bg2_8 : w5.cell? ⟨w3.heap.size, 8, none⟩ = some (.slice Afg mfg cfg) := cell_of_row _ _ 8 _ _ (0, 0) HBg.out
    have bg2_9 : w5.cell? ⟨w3.heap.size, 9, none⟩ = some (.slice Asg msg csg) := cell_of_row _ _ 9 _ _ (0, 0) HBg.out
    have bg2_10 : w5.cell? ⟨w3.heap.size, 10, none⟩ = some (.slice Arg mrg crg) := cell_of_row _ _ 10 _ _ (0, 0) HBg.out
    have bg2_f : ∀ i, w5.frozen? ⟨w3.heap.size, i, none⟩ = false := fun i => frozen_of_row _ _ i _ _ HBg.out
    go_wp2_with fail
    refine (mark_Entry E _ _ _ _ bsg 1 w5 Og.out hng (fun b hb => by have := Gg.out b hb; omega) (by omega) (by omega)).mono ?_
    rintro e w6 ⟨rfl, ho, hk6⟩
    clear Og
    have Og := Lib.hid ho; clear ho
    have hz8 := hk6.size
    replace hB := hB.trans (hk6.below (fun b hb' => by have := Gg.out b hb'; omega) (show w.heap.size ≤ w5.heap.size by omega))
    clear bw4_0 bw4_1 bw4_2 bw4_3 bw4_4 bw4_5 bw4_6 bw4_7 bw4_8 bw4_9 bw4_10 bw4_f
    replace HBw := Lib.hid ((hk6.block (w1.heap.size) (by omega) (fun hm => by have := Gg.out _ hm; omega)).trans HBw.out)
    clear bg2_0 bg2_1 bg2_2 bg2_3 bg2_4 bg2_5 bg2_6 bg2_7 bg2_8 bg2_9 bg2_10 bg2_f
    replace HBg := Lib.hid ((hk6.block (w3.heap.size) (by omega) (fun hm => by have := Gg.out _ hm; omega)).trans HBg.out)
    replace Ow := Lib.hid (Ow.out.keep fun b hb' => hk6.block b (by have := Gw.out b hb'; omega) (fun hm => by have := Gw.out b hb'; have := Gg.out _ hm; omega))
    have bw5_0 : w6.cell? ⟨w1.heap.size, 0, none⟩ = some (.int .i64 E.kd) := cell_of_row _ _ 0 _ _ (0, 0) HBw.out
    have bw5_1 : w6.cell? ⟨w1.heap.size, 1, none⟩ = some (.string E.nm) := cell_of_row _ _ 1 _ _ (0, 0) HBw.out
    have bw5_2 : w6.cell? ⟨w1.heap.size, 2, none⟩ = some (.string E.tn) := cell_of_row _ _ 2 _ _ (0, 0) HBw.out
    have bw5_3 : w6.cell? ⟨w1.heap.size, 3, none⟩ = some (.string E.it.nm) := cell_of_row _ _ 3 _ _ (0, 0) HBw.out
    have bw5_4 : w6.cell? ⟨w1.heap.size, 4, none⟩ = some (.int .i64 E.it.n) := cell_of_row _ _ 4 _ _ (0, 0) HBw.out
    have bw5_5 : w6.cell? ⟨w1.heap.size, 5, none⟩ = some (.slice Aaw maw caw) := cell_of_row _ _ 5 _ _ (0, 0) HBw.out
    have bw5_6 : w6.cell? ⟨w1.heap.size, 6, none⟩ = some (.int .i64 E.it.cl) := cell_of_row _ _ 6 _ _ (0, 0) HBw.out
    have bw5_7 : w6.cell? ⟨w1.heap.size, 7, none⟩ = some (.int .i64 E.it.lb) := cell_of_row _ _ 7 _ _ (0, 0) HBw.out
    have bw5_8 : w6.cell? ⟨w1.heap.size, 8, none⟩ = some (.slice Afw mfw cfw) := cell_of_row _ _ 8 _ _ (0, 0) HBw.out
    have bw5_9 : w6.cell? ⟨w1.heap.size, 9, none⟩ = some (.slice Asw msw csw) := cell_of_row _ _ 9 _ _ (0, 0) HBw.out
    have bw5_10 : w6.cell? ⟨w1.heap.size, 10, none⟩ = some (.slice Arw mrw crw) := cell_of_row _ _ 10 _ _ (0, 0) HBw.out
    have bw5_f : ∀ i, w6.frozen? ⟨w1.heap.size, i, none⟩ = false := fun i => frozen_of_row _ _ i _ _ HBw.out
    have bg3_0 : w6.cell? ⟨w3.heap.size, 0, none⟩ = some (.int .i64 E.kd) := cell_of_row _ _ 0 _ _ (0, 0) HBg.out
    have bg3_1 : w6.cell? ⟨w3.heap.size, 1, none⟩ = some (.string E.nm) := cell_of_row _ _ 1 _ _ (0, 0) HBg.out
    have bg3_2 : w6.cell? ⟨w3.heap.size, 2, none⟩ = some (.string E.tn) := cell_of_row _ _ 2 _ _ (0, 0) HBg.out
    have bg3_3 : w6.cell? ⟨w3.heap.size, 3, none⟩ = some (.string E.it.nm) := cell_of_row _ _ 3 _ _ (0, 0) HBg.out
    have bg3_4 : w6.cell? ⟨w3.heap.size, 4, none⟩ = some (.int .i64 E.it.n) := cell_of_row _ _ 4 _ _ (0, 0) HBg.out
    have bg3_5 : w6.cell? ⟨w3.heap.size, 5, none⟩ = some (.slice Aag mag cag) := cell_of_row _ _ 5 _ _ (0, 0) HBg.out
    have bg3_6 : w6.cell? ⟨w3.heap.size, 6, none⟩ = some (.int .i64 E.it.cl) := cell_of_row _ _ 6 _ _ (0, 0) HBg.out
    have bg3_7 : w6.cell? ⟨w3.heap.size, 7, none⟩ = some (.int .i64 E.it.lb) := cell_of_row _ _ 7 _ _ (0, 0) HBg.out
    have bg3_8 : w6.cell? ⟨w3.heap.size, 8, none⟩ = some (.slice Afg mfg cfg) := cell_of_row _ _ 8 _ _ (0, 0) HBg.out
    have bg3_9 : w6.cell? ⟨w3.heap.size, 9, none⟩ = some (.slice Asg msg csg) := cell_of_row _ _ 9 _ _ (0, 0) HBg.out
    have bg3_10 : w6.cell? ⟨w3.heap.size, 10, none⟩ = some (.slice Arg mrg crg) := cell_of_row _ _ 10 _ _ (0, 0) HBg.out
    have bg3_f : ∀ i, w6.frozen? ⟨w3.heap.size, i, none⟩ = false := fun i => frozen_of_row _ _ i _ _ HBg.out
    clear hk6
    go_wp2_with fail
    refine (held_Entry E _ _ _ _ 1 w6 (Og.out.reads (B := w6.heap.size) (fun b hb' => by have := Gg.out b hb'; omega)) (by omega) (by omega)).mono ?_
    rintro e w7 ⟨rfl, hb7⟩
    have hz9 := hb7.size
    replace hB := bl_trans hB hb7
    clear bw5_0 bw5_1 bw5_2 bw5_3 bw5_4 bw5_5 bw5_6 bw5_7 bw5_8 bw5_9 bw5_10 bw5_f
    replace HBw := Lib.hid ((hb7.block (w1.heap.size) (show w1.heap.size < w6.heap.size by omega)).trans HBw.out)
    clear bg3_0 bg3_1 bg3_2 bg3_3 bg3_4 bg3_5 bg3_6 bg3_7 bg3_8 bg3_9 bg3_10 bg3_f
    replace HBg := Lib.hid ((hb7.block (w3.heap.size) (show w3.heap.size < w6.heap.size by omega)).trans HBg.out)
    replace Ow := Lib.hid (Ow.out.keep fun b hb' => hb7.block b (by have := Gw.out b hb'; omega))
    replace Og := Lib.hid (Og.out.keep fun b hb' => hb7.block b (by have := Gg.out b hb'; omega))
    have bw6_0 : w7.cell? ⟨w1.heap.size, 0, none⟩ = some (.int .i64 E.kd) := cell_of_row _ _ 0 _ _ (0, 0) HBw.out
    have bw6_1 : w7.cell? ⟨w1.heap.size, 1, none⟩ = some (.string E.nm) := cell_of_row _ _ 1 _ _ (0, 0) HBw.out
    have bw6_2 : w7.cell? ⟨w1.heap.size, 2, none⟩ = some (.string E.tn) := cell_of_row _ _ 2 _ _ (0, 0) HBw.out
    have bw6_3 : w7.cell? ⟨w1.heap.size, 3, none⟩ = some (.string E.it.nm) := cell_of_row _ _ 3 _ _ (0, 0) HBw.out
    have bw6_4 : w7.cell? ⟨w1.heap.size, 4, none⟩ = some (.int .i64 E.it.n) := cell_of_row _ _ 4 _ _ (0, 0) HBw.out
    have bw6_5 : w7.cell? ⟨w1.heap.size, 5, none⟩ = some (.slice Aaw maw caw) := cell_of_row _ _ 5 _ _ (0, 0) HBw.out
    have bw6_6 : w7.cell? ⟨w1.heap.size, 6, none⟩ = some (.int .i64 E.it.cl) := cell_of_row _ _ 6 _ _ (0, 0) HBw.out
    have bw6_7 : w7.cell? ⟨w1.heap.size, 7, none⟩ = some (.int .i64 E.it.lb) := cell_of_row _ _ 7 _ _ (0, 0) HBw.out
    have bw6_8 : w7.cell? ⟨w1.heap.size, 8, none⟩ = some (.slice Afw mfw cfw) := cell_of_row _ _ 8 _ _ (0, 0) HBw.out
    have bw6_9 : w7.cell? ⟨w1.heap.size, 9, none⟩ = some (.slice Asw msw csw) := cell_of_row _ _ 9 _ _ (0, 0) HBw.out
    have bw6_10 : w7.cell? ⟨w1.heap.size, 10, none⟩ = some (.slice Arw mrw crw) := cell_of_row _ _ 10 _ _ (0, 0) HBw.out
    have bw6_f : ∀ i, w7.frozen? ⟨w1.heap.size, i, none⟩ = false := fun i => frozen_of_row _ _ i _ _ HBw.out
    have bg4_0 : w7.cell? ⟨w3.heap.size, 0, none⟩ = some (.int .i64 E.kd) := cell_of_row _ _ 0 _ _ (0, 0) HBg.out
    have bg4_1 : w7.cell? ⟨w3.heap.size, 1, none⟩ = some (.string E.nm) := cell_of_row _ _ 1 _ _ (0, 0) HBg.out
    have bg4_2 : w7.cell? ⟨w3.heap.size, 2, none⟩ = some (.string E.tn) := cell_of_row _ _ 2 _ _ (0, 0) HBg.out
    have bg4_3 : w7.cell? ⟨w3.heap.size, 3, none⟩ = some (.string E.it.nm) := cell_of_row _ _ 3 _ _ (0, 0) HBg.out
    have bg4_4 : w7.cell? ⟨w3.heap.size, 4, none⟩ = some (.int .i64 E.it.n) := cell_of_row _ _ 4 _ _ (0, 0) HBg.out
    have bg4_5 : w7.cell? ⟨w3.heap.size, 5, none⟩ = some (.slice Aag mag cag) := cell_of_row _ _ 5 _ _ (0, 0) HBg.out
    have bg4_6 : w7.cell? ⟨w3.heap.size, 6, none⟩ = some (.int .i64 E.it.cl) := cell_of_row _ _ 6 _ _ (0, 0) HBg.out
    have bg4_7 : w7.cell? ⟨w3.heap.size, 7, none⟩ = some (.int .i64 E.it.lb) := cell_of_row _ _ 7 _ _ (0, 0) HBg.out
    have bg4_8 : w7.cell? ⟨w3.heap.size, 8, none⟩ = some (.slice Afg mfg cfg) := cell_of_row _ _ 8 _ _ (0, 0) HBg.out
    have bg4_9 : w7.cell? ⟨w3.heap.size, 9, none⟩ = some (.slice Asg msg csg) := cell_of_row _ _ 9 _ _ (0, 0) HBg.out
    have bg4_10 : w7.cell? ⟨w3.heap.size, 10, none⟩ = some (.slice Arg mrg crg) := cell_of_row _ _ 10 _ _ (0, 0) HBg.out
    have bg4_f : ∀ i, w7.frozen? ⟨w3.heap.size, i, none⟩ = false := fun i => frozen_of_row _ _ i _ _ HBg.out
    go_wp2_with fail
    refine (J2.out w7 hB).mono ?_
    rintro e w8 ⟨vah, vfh, vsh, vrh, bsh, rfl, ho, hnh, hr, hbw8⟩
    have hz10 := hbw8.size
    replace hB := bl_trans hB hbw8
    clear bw6_0 bw6_1 bw6_2 bw6_3 bw6_4 bw6_5 bw6_6 bw6_7 bw6_8 bw6_9 bw6_10 bw6_f
    replace HBw := Lib.hid ((hbw8.block (w1.heap.size) (show w1.heap.size < w7.heap.size by omega)).trans HBw.out)
    clear bg4_0 bg4_1 bg4_2 bg4_3 bg4_4 bg4_5 bg4_6 bg4_7 bg4_8 bg4_9 bg4_10 bg4_f
    replace HBg := Lib.hid ((hbw8.block (w3.heap.size) (show w3.heap.size < w7.heap.size by omega)).trans HBg.out)
    replace Ow := Lib.hid (Ow.out.keep fun b hb' => hbw8.block b (by have := Gw.out b hb'; omega))
    replace Og := Lib.hid (Og.out.keep fun b hb' => hbw8.block b (by have := Gg.out b hb'; omega))
    have bw7_0 : w8.cell? ⟨w1.heap.size, 0, none⟩ = some (.int .i64 E.kd) := cell_of_row _ _ 0 _ _ (0, 0) HBw.out
    have bw7_1 : w8.cell? ⟨w1.heap.size, 1, none⟩ = some (.string E.nm) := cell_of_row _ _ 1 _ _ (0, 0) HBw.out
    have bw7_2 : w8.cell? ⟨w1.heap.size, 2, none⟩ = some (.string E.tn) := cell_of_row _ _ 2 _ _ (0, 0) HBw.out
    have bw7_3 : w8.cell? ⟨w1.heap.size, 3, none⟩ = some (.string E.it.nm) := cell_of_row _ _ 3 _ _ (0, 0) HBw.out
    have bw7_4 : w8.cell? ⟨w1.heap.size, 4, none⟩ = some (.int .i64 E.it.n) := cell_of_row _ _ 4 _ _ (0, 0) HBw.out
    have bw7_5 : w8.cell? ⟨w1.heap.size, 5, none⟩ = some (.slice Aaw maw caw) := cell_of_row _ _ 5 _ _ (0, 0) HBw.out
    have bw7_6 : w8.cell? ⟨w1.heap.size, 6, none⟩ = some (.int .i64 E.it.cl) := cell_of_row _ _ 6 _ _ (0, 0) HBw.out
    have bw7_7 : w8.cell? ⟨w1.heap.size, 7, none⟩ = some (.int .i64 E.it.lb) := cell_of_row _ _ 7 _ _ (0, 0) HBw.out
    have bw7_8 : w8.cell? ⟨w1.heap.size, 8, none⟩ = some (.slice Afw mfw cfw) := cell_of_row _ _ 8 _ _ (0, 0) HBw.out
    have bw7_9 : w8.cell? ⟨w1.heap.size, 9, none⟩ = some (.slice Asw msw csw) := cell_of_row _ _ 9 _ _ (0, 0) HBw.out
    have bw7_10 : w8.cell? ⟨w1.heap.size, 10, none⟩ = some (.slice Arw mrw crw) := cell_of_row _ _ 10 _ _ (0, 0) HBw.out
    have bw7_f : ∀ i, w8.frozen? ⟨w1.heap.size, i, none⟩ = false := fun i => frozen_of_row _ _ i _ _ HBw.out
    have bg5_0 : w8.cell? ⟨w3.heap.size, 0, none⟩ = some (.int .i64 E.kd) := cell_of_row _ _ 0 _ _ (0, 0) HBg.out
    have bg5_1 : w8.cell? ⟨w3.heap.size, 1, none⟩ = some (.string E.nm) := cell_of_row _ _ 1 _ _ (0, 0) HBg.out
    have bg5_2 : w8.cell? ⟨w3.heap.size, 2, none⟩ = some (.string E.tn) := cell_of_row _ _ 2 _ _ (0, 0) HBg.out
    have bg5_3 : w8.cell? ⟨w3.heap.size, 3, none⟩ = some (.string E.it.nm) := cell_of_row _ _ 3 _ _ (0, 0) HBg.out
    have bg5_4 : w8.cell? ⟨w3.heap.size, 4, none⟩ = some (.int .i64 E.it.n) := cell_of_row _ _ 4 _ _ (0, 0) HBg.out
    have bg5_5 : w8.cell? ⟨w3.heap.size, 5, none⟩ = some (.slice Aag mag cag) := cell_of_row _ _ 5 _ _ (0, 0) HBg.out
    have bg5_6 : w8.cell? ⟨w3.heap.size, 6, none⟩ = some (.int .i64 E.it.cl) := cell_of_row _ _ 6 _ _ (0, 0) HBg.out
    have bg5_7 : w8.cell? ⟨w3.heap.size, 7, none⟩ = some (.int .i64 E.it.lb) := cell_of_row _ _ 7 _ _ (0, 0) HBg.out
    have bg5_8 : w8.cell? ⟨w3.heap.size, 8, none⟩ = some (.slice Afg mfg cfg) := cell_of_row _ _ 8 _ _ (0, 0) HBg.out
    have bg5_9 : w8.cell? ⟨w3.heap.size, 9, none⟩ = some (.slice Asg msg csg) := cell_of_row _ _ 9 _ _ (0, 0) HBg.out
    have bg5_10 : w8.cell? ⟨w3.heap.size, 10, none⟩ = some (.slice Arg mrg crg) := cell_of_row _ _ 10 _ _ (0, 0) HBg.out
    have bg5_f : ∀ i, w8.frozen? ⟨w3.heap.size, i, none⟩ = false := fun i => frozen_of_row _ _ i _ _ HBg.out
    obtain ⟨ba, bf, bz, br, oa, of, oz, or, hbs⟩ := id ho
    obtain ⟨Aah, mah, cah, rfl⟩ := oa.isSlice
    obtain ⟨Afh, mfh, cfh, rfl⟩ := of.1.isSlice
    obtain ⟨Ash, msh, csh, rfl⟩ := oz.1.isSlice
    obtain ⟨Arh, mrh, crh, rfl⟩ := or.isSlice
    clear oa of oz or hbs
    have Oh := Lib.hid ho; clear ho
    have Gh := Lib.hid hr; clear hr
    clear J2
    have hb11 := bl_alloc (Below.refl w8.heap.size w8) (.cells #[.int .i64 E.kd, .string E.nm, .string E.tn, .string E.it.nm, .int .i64 E.it.n, .slice Aah mah cah, .int .i64 E.it.cl, .int .i64 E.it.lb, .slice Afh mfh cfh, .slice Ash msh csh, .slice Arh mrh crh] 41)
    have HBh := Lib.hid (heap_alloc_new w8 (.cells #[.int .i64 E.kd, .string E.nm, .string E.tn, .string E.it.nm, .int .i64 E.it.n, .slice Aah mah cah, .int .i64 E.it.cl, .int .i64 E.it.lb, .slice Afh mfh cfh, .slice Ash msh csh, .slice Arh mrh crh] 41))
    have hs11 : w8.heap.size < (w8.alloc (.cells #[.int .i64 E.kd, .string E.nm, .string E.tn, .string E.it.nm, .int .i64 E.it.n, .slice Aah mah cah, .int .i64 E.it.cl, .int .i64 E.it.lb, .slice Afh mfh cfh, .slice Ash msh csh, .slice Arh mrh crh] 41)).heap.size := by simp
    have HS11 := Lib.hid hs11; clear hs11; have hs11 := HS11.out
    have hz12 := hb11.size
    replace hB := bl_trans hB hb11
    clear bw7_0 bw7_1 bw7_2 bw7_3 bw7_4 bw7_5 bw7_6 bw7_7 bw7_8 bw7_9 bw7_10 bw7_f
    replace HBw := Lib.hid ((hb11.block (w1.heap.size) (show w1.heap.size < w8.heap.size by omega)).trans HBw.out)
    clear bg5_0 bg5_1 bg5_2 bg5_3 bg5_4 bg5_5 bg5_6 bg5_7 bg5_8 bg5_9 bg5_10 bg5_f
    replace HBg := Lib.hid ((hb11.block (w3.heap.size) (show w3.heap.size < w8.heap.size by omega)).trans HBg.out)
    replace Ow := Lib.hid (Ow.out.keep fun b hb' => hb11.block b (by have := Gw.out b hb'; omega))
    replace Og := Lib.hid (Og.out.keep fun b hb' => hb11.block b (by have := Gg.out b hb'; omega))
    replace Oh := Lib.hid (Oh.out.keep fun b hb' => hb11.block b (by have := Gh.out b hb'; omega))
    have bw8_0 : (w8.alloc (.cells #[.int .i64 E.kd, .string E.nm, .string E.tn, .string E.it.nm, .int .i64 E.it.n, .slice Aah mah cah, .int .i64 E.it.cl, .int .i64 E.it.lb, .slice Afh mfh cfh, .slice Ash msh csh, .slice Arh mrh crh] 41)).cell? ⟨w1.heap.size, 0, none⟩ = some (.int .i64 E.kd) := cell_of_row _ _ 0 _ _ (0, 0) HBw.out
    have bw8_1 : (w8.alloc (.cells #[.int .i64 E.kd, .string E.nm, .string E.tn, .string E.it.nm, .int .i64 E.it.n, .slice Aah mah cah, .int .i64 E.it.cl, .int .i64 E.it.lb, .slice Afh mfh cfh, .slice Ash msh csh, .slice Arh mrh crh] 41)).cell? ⟨w1.heap.size, 1, none⟩ = some (.string E.nm) := cell_of_row _ _ 1 _ _ (0, 0) HBw.out
    have bw8_2 : (w8.alloc (.cells #[.int .i64 E.kd, .string E.nm, .string E.tn, .string E.it.nm, .int .i64 E.it.n, .slice Aah mah cah, .int .i64 E.it.cl, .int .i64 E.it.lb, .slice Afh mfh cfh, .slice Ash msh csh, .slice Arh mrh crh] 41)).cell? ⟨w1.heap.size, 2, none⟩ = some (.string E.tn) := cell_of_row _ _ 2 _ _ (0, 0) HBw.out
    have bw8_3 : (w8.alloc (.cells #[.int .i64 E.kd, .string E.nm, .string E.tn, .string E.it.nm, .int .i64 E.it.n, .slice Aah mah cah, .int .i64 E.it.cl, .int .i64 E.it.lb, .slice Afh mfh cfh, .slice Ash msh csh, .slice Arh mrh crh] 41)).cell? ⟨w1.heap.size, 3, none⟩ = some (.string E.it.nm) := cell_of_row _ _ 3 _ _ (0, 0) HBw.out
    have bw8_4 : (w8.alloc (.cells #[.int .i64 E.kd, .string E.nm, .string E.tn, .string E.it.nm, .int .i64 E.it.n, .slice Aah mah cah, .int .i64 E.it.cl, .int .i64 E.it.lb, .slice Afh mfh cfh, .slice Ash msh csh, .slice Arh mrh crh] 41)).cell? ⟨w1.heap.size, 4, none⟩ = some (.int .i64 E.it.n) := cell_of_row _ _ 4 _ _ (0, 0) HBw.out
    have bw8_5 : (w8.alloc (.cells #[.int .i64 E.kd, .string E.nm, .string E.tn, .string E.it.nm, .int .i64 E.it.n, .slice Aah mah cah, .int .i64 E.it.cl, .int .i64 E.it.lb, .slice Afh mfh cfh, .slice Ash msh csh, .slice Arh mrh crh] 41)).cell? ⟨w1.heap.size, 5, none⟩ = some (.slice Aaw maw caw) := cell_of_row _ _ 5 _ _ (0, 0) HBw.out
    have bw8_6 : (w8.alloc (.cells #[.int .i64 E.kd, .string E.nm, .string E.tn, .string E.it.nm, .int .i64 E.it.n, .slice Aah mah cah, .int .i64 E.it.cl, .int .i64 E.it.lb, .slice Afh mfh cfh, .slice Ash msh csh, .slice Arh mrh crh] 41)).cell? ⟨w1.heap.size, 6, none⟩ = some (.int .i64 E.it.cl) := cell_of_row _ _ 6 _ _ (0, 0) HBw.out
    have bw8_7 : (w8.alloc (.cells #[.int .i64 E.kd, .string E.nm, .string E.tn, .string E.it.nm, .int .i64 E.it.n, .slice Aah mah cah, .int .i64 E.it.cl, .int .i64 E.it.lb, .slice Afh mfh cfh, .slice Ash msh csh, .slice Arh mrh crh] 41)).cell? ⟨w1.heap.size, 7, none⟩ = some (.int .i64 E.it.lb) := cell_of_row _ _ 7 _ _ (0, 0) HBw.out
    have bw8_8 : (w8.alloc (.cells #[.int .i64 E.kd, .string E.nm, .string E.tn, .string E.it.nm, .int .i64 E.it.n, .slice Aah mah cah, .int .i64 E.it.cl, .int .i64 E.it.lb, .slice Afh mfh cfh, .slice Ash msh csh, .slice Arh mrh crh] 41)).cell? ⟨w1.heap.size, 8, none⟩ = some (.slice Afw mfw cfw) := cell_of_row _ _ 8 _ _ (0, 0) HBw.out
    have bw8_9 : (w8.alloc (.cells #[.int .i64 E.kd, .string E.nm, .string E.tn, .string E.it.nm, .int .i64 E.it.n, .slice Aah mah cah, .int .i64 E.it.cl, .int .i64 E.it.lb, .slice Afh mfh cfh, .slice Ash msh csh, .slice Arh mrh crh] 41)).cell? ⟨w1.heap.size, 9, none⟩ = some (.slice Asw msw csw) := cell_of_row _ _ 9 _ _ (0, 0) HBw.out
    have bw8_10 : (w8.alloc (.cells #[.int .i64 E.kd, .string E.nm, .string E.tn, .string E.it.nm, .int .i64 E.it.n, .slice Aah mah cah, .int .i64 E.it.cl, .int .i64 E.it.lb, .slice Afh mfh cfh, .slice Ash msh csh, .slice Arh mrh crh] 41)).cell? ⟨w1.heap.size, 10, none⟩ = some (.slice Arw mrw crw) := cell_of_row _ _ 10 _ _ (0, 0) HBw.out
    have bw8_f : ∀ i, (w8.alloc (.cells #[.int .i64 E.kd, .string E.nm, .string E.tn, .string E.it.nm, .int .i64 E.it.n, .slice Aah mah cah, .int .i64 E.it.cl, .int .i64 E.it.lb, .slice Afh mfh cfh, .slice Ash msh csh, .slice Arh mrh crh] 41)).frozen? ⟨w1.heap.size, i, none⟩ = false := fun i => frozen_of_row _ _ i _ _ HBw.out
    have bg6_0 : (w8.alloc (.cells #[.int .i64 E.kd, .string E.nm, .string E.tn, .string E.it.nm, .int .i64 E.it.n, .slice Aah mah cah, .int .i64 E.it.cl, .int .i64 E.it.lb, .slice Afh mfh cfh, .slice Ash msh csh, .slice Arh mrh crh] 41)).cell? ⟨w3.heap.size, 0, none⟩ = some (.int .i64 E.kd) := cell_of_row _ _ 0 _ _ (0, 0) HBg.out
    have bg6_1 : (w8.alloc (.cells #[.int .i64 E.kd, .string E.nm, .string E.tn, .string E.it.nm, .int .i64 E.it.n, .slice Aah mah cah, .int .i64 E.it.cl, .int .i64 E.it.lb, .slice Afh mfh cfh, .slice Ash msh csh, .slice Arh mrh crh] 41)).cell? ⟨w3.heap.size, 1, none⟩ = some (.string E.nm) := cell_of_row _ _ 1 _ _ (0, 0) HBg.out
    have bg6_2 : (w8.alloc (.cells #[.int .i64 E.kd, .string E.nm, .string E.tn, .string E.it.nm, .int .i64 E.it.n, .slice Aah mah cah, .int .i64 E.it.cl, .int .i64 E.it.lb, .slice Afh mfh cfh, .slice Ash msh csh, .slice Arh mrh crh] 41)).cell? ⟨w3.heap.size, 2, none⟩ = some (.string E.tn) := cell_of_row _ _ 2 _ _ (0, 0) HBg.out
    have bg6_3 : (w8.alloc (.cells #[.int .i64 E.kd, .string E.nm, .string E.tn, .string E.it.nm, .int .i64 E.it.n, .slice Aah mah cah, .int .i64 E.it.cl, .int .i64 E.it.lb, .slice Afh mfh cfh, .slice Ash msh csh, .slice Arh mrh crh] 41)).cell? ⟨w3.heap.size, 3, none⟩ = some (.string E.it.nm) := cell_of_row _ _ 3 _ _ (0, 0) HBg.out
    have bg6_4 : (w8.alloc (.cells #[.int .i64 E.kd, .string E.nm, .string E.tn, .string E.it.nm, .int .i64 E.it.n, .slice Aah mah cah, .int .i64 E.it.cl, .int .i64 E.it.lb, .slice Afh mfh cfh, .slice Ash msh csh, .slice Arh mrh crh] 41)).cell? ⟨w3.heap.size, 4, none⟩ = some (.int .i64 E.it.n) := cell_of_row _ _ 4 _ _ (0, 0) HBg.out
    have bg6_5 : (w8.alloc (.cells #[.int .i64 E.kd, .string E.nm, .string E.tn, .string E.it.nm, .int .i64 E.it.n, .slice Aah mah cah, .int .i64 E.it.cl, .int .i64 E.it.lb, .slice Afh mfh cfh, .slice Ash msh csh, .slice Arh mrh crh] 41)).cell? ⟨w3.heap.size, 5, none⟩ = some (.slice Aag mag cag) := cell_of_row _ _ 5 _ _ (0, 0) HBg.out
    have bg6_6 : (w8.alloc (.cells #[.int .i64 E.kd, .string E.nm, .string E.tn, .string E.it.nm, .int .i64 E.it.n, .slice Aah mah cah, .int .i64 E.it.cl, .int .i64 E.it.lb, .slice Afh mfh cfh, .slice Ash msh csh, .slice Arh mrh crh] 41)).cell? ⟨w3.heap.size, 6, none⟩ = some (.int .i64 E.it.cl) := cell_of_row _ _ 6 _ _ (0, 0) HBg.out
    have bg6_7 : (w8.alloc (.cells #[.int .i64 E.kd, .string E.nm, .string E.tn, .string E.it.nm, .int .i64 E.it.n, .slice Aah mah cah, .int .i64 E.it.cl, .int .i64 E.it.lb, .slice Afh mfh cfh, .slice Ash msh csh, .slice Arh mrh crh] 41)).cell? ⟨w3.heap.size, 7, none⟩ = some (.int .i64 E.it.lb) := cell_of_row _ _ 7 _ _ (0, 0) HBg.out
    have bg6_8 : (w8.alloc (.cells #[.int .i64 E.kd, .string E.nm, .string E.tn, .string E.it.nm, .int .i64 E.it.n, .slice Aah mah cah, .int .i64 E.it.cl, .int .i64 E.it.lb, .slice Afh mfh cfh, .slice Ash msh csh, .slice Arh mrh crh] 41)).cell? ⟨w3.heap.size, 8, none⟩ = some (.slice Afg mfg cfg) := cell_of_row _ _ 8 _ _ (0, 0) HBg.out
    have bg6_9 : (w8.alloc (.cells #[.int .i64 E.kd, .string E.nm, .string E.tn, .string E.it.nm, .int .i64 E.it.n, .slice Aah mah cah, .int .i64 E.it.cl, .int .i64 E.it.lb, .slice Afh mfh cfh, .slice Ash msh csh, .slice Arh mrh crh] 41)).cell? ⟨w3.heap.size, 9, none⟩ = some (.slice Asg msg csg) := cell_of_row _ _ 9 _ _ (0, 0) HBg.out
    have bg6_10 : (w8.alloc (.cells #[.int .i64 E.kd, .string E.nm, .string E.tn, .string E.it.nm, .int .i64 E.it.n, .slice Aah mah cah, .int .i64 E.it.cl, .int .i64 E.it.lb, .slice Afh mfh cfh, .slice Ash msh csh, .slice Arh mrh crh] 41)).cell? ⟨w3.heap.size, 10, none⟩ = some (.slice Arg mrg crg) := cell_of_row _ _ 10 _ _ (0, 0) HBg.out
    have bg6_f : ∀ i, (w8.alloc (.cells #[.int .i64 E.kd, .string E.nm, .string E.tn, .string E.it.nm, .int .i64 E.it.n, .slice Aah mah cah, .int .i64 E.it.cl, .int .i64 E.it.lb, .slice Afh mfh cfh, .slice Ash msh csh, .slice Arh mrh crh] 41)).frozen? ⟨w3.heap.size, i, none⟩ = false := fun i => frozen_of_row _ _ i _ _ HBg.out
    have bh1_0 : (w8.alloc (.cells #[.int .i64 E.kd, .string E.nm, .string E.tn, .string E.it.nm, .int .i64 E.it.n, .slice Aah mah cah, .int .i64 E.it.cl, .int .i64 E.it.lb, .slice Afh mfh cfh, .slice Ash msh csh, .slice Arh mrh crh] 41)).cell? ⟨w8.heap.size, 0, none⟩ = some (.int .i64 E.kd) := cell_of_row _ _ 0 _ _ (0, 0) HBh.out
    have bh1_1 : (w8.alloc (.cells #[.int .i64 E.kd, .string E.nm, .string E.tn, .string E.it.nm, .int .i64 E.it.n, .slice Aah mah cah, .int .i64 E.it.cl, .int .i64 E.it.lb, .slice Afh mfh cfh, .slice Ash msh csh, .slice Arh mrh crh] 41)).cell? ⟨w8.heap.size, 1, none⟩ = some (.string E.nm) := cell_of_row _ _ 1 _ _ (0, 0) HBh.out
    have bh1_2 : (w8.alloc (.cells #[.int .i64 E.kd, .string E.nm, .string E.tn, .string E.it.nm, .int .i64 E.it.n, .slice Aah mah cah, .int .i64 E.it.cl, .int .i64 E.it.lb, .slice Afh mfh cfh, .slice Ash msh csh, .slice Arh mrh crh] 41)).cell? ⟨w8.heap.size, 2, none⟩ = some (.string E.tn) := cell_of_row _ _ 2 _ _ (0, 0) HBh.out
    have bh1_3 : (w8.alloc (.cells #[.int .i64 E.kd, .string E.nm, .string E.tn, .string E.it.nm, .int .i64 E.it.n, .slice Aah mah cah, .int .i64 E.it.cl, .int .i64 E.it.lb, .slice Afh mfh cfh, .slice Ash msh csh, .slice Arh mrh crh] 41)).cell? ⟨w8.heap.size, 3, none⟩ = some (.string E.it.nm) := cell_of_row _ _ 3 _ _ (0, 0) HBh.out
    have bh1_4 : (w8.alloc (.cells #[.int .i64 E.kd, .string E.nm, .string E.tn, .string E.it.nm, .int .i64 E.it.n, .slice Aah mah cah, .int .i64 E.it.cl, .int .i64 E.it.lb, .slice Afh mfh cfh, .slice Ash msh csh, .slice Arh mrh crh] 41)).cell? ⟨w8.heap.size, 4, none⟩ = some (.int .i64 E.it.n) := cell_of_row _ _ 4 _ _ (0, 0) HBh.out
    have bh1_5 : (w8.alloc (.cells #[.int .i64 E.kd, .string E.nm, .string E.tn, .string E.it.nm, .int .i64 E.it.n, .slice Aah mah cah, .int .i64 E.it.cl, .int .i64 E.it.lb, .slice Afh mfh cfh, .slice Ash msh csh, .slice Arh mrh crh] 41)).cell? ⟨w8.heap.size, 5, none⟩ = some (.slice Aah mah cah) := cell_of_row _ _ 5 _ _ (0, 0) HBh.out
    have bh1_6 : (w8.alloc (.cells #[.int .i64 E.kd, .string E.nm, .string E.tn, .string E.it.nm, .int .i64 E.it.n, .slice Aah mah cah, .int .i64 E.it.cl, .int .i64 E.it.lb, .slice Afh mfh cfh, .slice Ash msh csh, .slice Arh mrh crh] 41)).cell? ⟨w8.heap.size, 6, none⟩ = some (.int .i64 E.it.cl) := cell_of_row _ _ 6 _ _ (0, 0) HBh.out
    have bh1_7 : (w8.alloc (.cells #[.int .i64 E.kd, .string E.nm, .string E.tn, .string E.it.nm, .int .i64 E.it.n, .slice Aah mah cah, .int .i64 E.it.cl, .int .i64 E.it.lb, .slice Afh mfh cfh, .slice Ash msh csh, .slice Arh mrh crh] 41)).cell? ⟨w8.heap.size, 7, none⟩ = some (.int .i64 E.it.lb) := cell_of_row _ _ 7 _ _ (0, 0) HBh.out
    have bh1_8 : (w8.alloc (.cells #[.int .i64 E.kd, .string E.nm, .string E.tn, .string E.it.nm, .int .i64 E.it.n, .slice Aah mah cah, .int .i64 E.it.cl, .int .i64 E.it.lb, .slice Afh mfh cfh, .slice Ash msh csh, .slice Arh mrh crh] 41)).cell? ⟨w8.heap.size, 8, none⟩ = some (.slice Afh mfh cfh) := cell_of_row _ _ 8 _ _ (0, 0) HBh.out
    have bh1_9 : (w8.alloc (.cells #[.int .i64 E.kd, .string E.nm, .string E.tn, .string E.it.nm, .int .i64 E.it.n, .slice Aah mah cah, .int .i64 E.it.cl, .int .i64 E.it.lb, .slice Afh mfh cfh, .slice Ash msh csh, .slice Arh mrh crh] 41)).cell? ⟨w8.heap.size, 9, none⟩ = some (.slice Ash msh csh) := cell_of_row _ _ 9 _ _ (0, 0) HBh.out
    have bh1_10 : (w8.alloc (.cells #[.int .i64 E.kd, .string E.nm, .string E.tn, .string E.it.nm, .int .i64 E.it.n, .slice Aah mah cah, .int .i64 E.it.cl, .int .i64 E.it.lb, .slice Afh mfh cfh, .slice Ash msh csh, .slice Arh mrh crh] 41)).cell? ⟨w8.heap.size, 10, none⟩ = some (.slice Arh mrh crh) := cell_of_row _ _ 10 _ _ (0, 0) HBh.out
    have bh1_f : ∀ i, (w8.alloc (.cells #[.int .i64 E.kd, .string E.nm, .string E.tn, .string E.it.nm, .int .i64 E.it.n, .slice Aah mah cah, .int .i64 E.it.cl, .int .i64 E.it.lb, .slice Afh mfh cfh, .slice Ash msh csh, .slice Arh mrh crh] 41)).frozen? ⟨w8.heap.size, i, none⟩ = false := fun i => frozen_of_row _ _ i _ _ HBh.out
    go_wp2_with fail
    generalize w8.alloc (.cells #[.int .i64 E.kd, .string E.nm, .string E.tn, .string E.it.nm, .int .i64 E.it.n, .slice Aah mah cah, .int .i64 E.it.cl, .int .i64 E.it.lb, .slice Afh mfh cfh, .slice Ash msh csh, .slice Arh mrh crh] 41) = w9 at *
    refine (eq_Entry E _ _ _ _ _ _ _ _ w9 (Oh.out.reads (B := w9.heap.size) (fun b hb' => by have := Gh.out b hb'; omega)) (Ow.out.reads (B := w9.heap.size) (fun b hb' => by have := Gw.out b hb'; omega))).mono ?_
    rintro e w10 ⟨rfl, hb10⟩
    have hz13 := hb10.size
    replace hB := bl_trans hB hb10
    clear bw8_0 bw8_1 bw8_2 bw8_3 bw8_4 bw8_5 bw8_6 bw8_7 bw8_8 bw8_9 bw8_10 bw8_f
    replace HBw := Lib.hid ((hb10.block (w1.heap.size) (show w1.heap.size < w9.heap.size by omega)).trans HBw.out)
    clear bg6_0 bg6_1 bg6_2 bg6_3 bg6_4 bg6_5 bg6_6 bg6_7 bg6_8 bg6_9 bg6_10 bg6_f
    replace HBg := Lib.hid ((hb10.block (w3.heap.size) (show w3.heap.size < w9.heap.size by omega)).trans HBg.out)
    clear bh1_0 bh1_1 bh1_2 bh1_3 bh1_4 bh1_5 bh1_6 bh1_7 bh1_8 bh1_9 bh1_10 bh1_f
    replace HBh := Lib.hid ((hb10.block (w8.heap.size) (show w8.heap.size < w9.heap.size by omega)).trans HBh.out)
    replace Ow := Lib.hid (Ow.out.keep fun b hb' => hb10.block b (by have := Gw.out b hb'; omega))
    replace Og := Lib.hid (Og.out.keep fun b hb' => hb10.block b (by have := Gg.out b hb'; omega))
    replace Oh := Lib.hid (Oh.out.keep fun b hb' => hb10.block b (by have := Gh.out b hb'; omega))
    have bw9_0 : w10.cell? ⟨w1.heap.size, 0, none⟩ = some (.int .i64 E.kd) := cell_of_row _ _ 0 _ _ (0, 0) HBw.out
    have bw9_1 : w10.cell? ⟨w1.heap.size, 1, none⟩ = some (.string E.nm) := cell_of_row _ _ 1 _ _ (0, 0) HBw.out
    have bw9_2 : w10.cell? ⟨w1.heap.size, 2, none⟩ = some (.string E.tn) := cell_of_row _ _ 2 _ _ (0, 0) HBw.out
    have bw9_3 : w10.cell? ⟨w1.heap.size, 3, none⟩ = some (.string E.it.nm) := cell_of_row _ _ 3 _ _ (0, 0) HBw.out
    have bw9_4 : w10.cell? ⟨w1.heap.size, 4, none⟩ = some (.int .i64 E.it.n) := cell_of_row _ _ 4 _ _ (0, 0) HBw.out
    have bw9_5 : w10.cell? ⟨w1.heap.size, 5, none⟩ = some (.slice Aaw maw caw) := cell_of_row _ _ 5 _ _ (0, 0) HBw.out
    have bw9_6 : w10.cell? ⟨w1.heap.size, 6, none⟩ = some (.int .i64 E.it.cl) := cell_of_row _ _ 6 _ _ (0, 0) HBw.out
    have bw9_7 : w10.cell? ⟨w1.heap.size, 7, none⟩ = some (.int .i64 E.it.lb) := cell_of_row _ _ 7 _ _ (0, 0) HBw.out
    have bw9_8 : w10.cell? ⟨w1.heap.size, 8, none⟩ = some (.slice Afw mfw cfw) := cell_of_row _ _ 8 _ _ (0, 0) HBw.out
    have bw9_9 : w10.cell? ⟨w1.heap.size, 9, none⟩ = some (.slice Asw msw csw) := cell_of_row _ _ 9 _ _ (0, 0) HBw.out
    have bw9_10 : w10.cell? ⟨w1.heap.size, 10, none⟩ = some (.slice Arw mrw crw) := cell_of_row _ _ 10 _ _ (0, 0) HBw.out
    have bw9_f : ∀ i, w10.frozen? ⟨w1.heap.size, i, none⟩ = false := fun i => frozen_of_row _ _ i _ _ HBw.out
    have bg7_0 : w10.cell? ⟨w3.heap.size, 0, none⟩ = some (.int .i64 E.kd) := cell_of_row _ _ 0 _ _ (0, 0) HBg.out
    have bg7_1 : w10.cell? ⟨w3.heap.size, 1, none⟩ = some (.string E.nm) := cell_of_row _ _ 1 _ _ (0, 0) HBg.out
    have bg7_2 : w10.cell? ⟨w3.heap.size, 2, none⟩ = some (.string E.tn) := cell_of_row _ _ 2 _ _ (0, 0) HBg.out
    have bg7_3 : w10.cell? ⟨w3.heap.size, 3, none⟩ = some (.string E.it.nm) := cell_of_row _ _ 3 _ _ (0, 0) HBg.out
    have bg7_4 : w10.cell? ⟨w3.heap.size, 4, none⟩ = some (.int .i64 E.it.n) := cell_of_row _ _ 4 _ _ (0, 0) HBg.out
    have bg7_5 : w10.cell? ⟨w3.heap.size, 5, none⟩ = some (.slice Aag mag cag) := cell_of_row _ _ 5 _ _ (0, 0) HBg.out
    have bg7_6 : w10.cell? ⟨w3.heap.size, 6, none⟩ = some (.int .i64 E.it.cl) := cell_of_row _ _ 6 _ _ (0, 0) HBg.out
    have bg7_7 : w10.cell? ⟨w3.heap.size, 7, none⟩ = some (.int .i64 E.it.lb) := cell_of_row _ _ 7 _ _ (0, 0) HBg.out
    have bg7_8 : w10.cell? ⟨w3.heap.size, 8, none⟩ = some (.slice Afg mfg cfg) := cell_of_row _ _ 8 _ _ (0, 0) HBg.out
    have bg7_9 : w10.cell? ⟨w3.heap.size, 9, none⟩ = some (.slice Asg msg csg) := cell_of_row _ _ 9 _ _ (0, 0) HBg.out
    have bg7_10 : w10.cell? ⟨w3.heap.size, 10, none⟩ = some (.slice Arg mrg crg) := cell_of_row _ _ 10 _ _ (0, 0) HBg.out
    have bg7_f : ∀ i, w10.frozen? ⟨w3.heap.size, i, none⟩ = false := fun i => frozen_of_row _ _ i _ _ HBg.out
    have bh2_0 : w10.cell? ⟨w8.heap.size, 0, none⟩ = some (.int .i64 E.kd) := cell_of_row _ _ 0 _ _ (0, 0) HBh.out
    have bh2_1 : w10.cell? ⟨w8.heap.size, 1, none⟩ = some (.string E.nm) := cell_of_row _ _ 1 _ _ (0, 0) HBh.out
    have bh2_2 : w10.cell? ⟨w8.heap.size, 2, none⟩ = some (.string E.tn) := cell_of_row _ _ 2 _ _ (0, 0) HBh.out
    have bh2_3 : w10.cell? ⟨w8.heap.size, 3, none⟩ = some (.string E.it.nm) := cell_of_row _ _ 3 _ _ (0, 0) HBh.out
    have bh2_4 : w10.cell? ⟨w8.heap.size, 4, none⟩ = some (.int .i64 E.it.n) := cell_of_row _ _ 4 _ _ (0, 0) HBh.out
    have bh2_5 : w10.cell? ⟨w8.heap.size, 5, none⟩ = some (.slice Aah mah cah) := cell_of_row _ _ 5 _ _ (0, 0) HBh.out
    have bh2_6 : w10.cell? ⟨w8.heap.size, 6, none⟩ = some (.int .i64 E.it.cl) := cell_of_row _ _ 6 _ _ (0, 0) HBh.out
    have bh2_7 : w10.cell? ⟨w8.heap.size, 7, none⟩ = some (.int .i64 E.it.lb) := cell_of_row _ _ 7 _ _ (0, 0) HBh.out
    have bh2_8 : w10.cell? ⟨w8.heap.size, 8, none⟩ = some (.slice Afh mfh cfh) := cell_of_row _ _ 8 _ _ (0, 0) HBh.out
    have bh2_9 : w10.cell? ⟨w8.heap.size, 9, none⟩ = some (.slice Ash msh csh) := cell_of_row _ _ 9 _ _ (0, 0) HBh.out
    have bh2_10 : w10.cell? ⟨w8.heap.size, 10, none⟩ = some (.slice Arh mrh crh) := cell_of_row _ _ 10 _ _ (0, 0) HBh.out
    have bh2_f : ∀ i, w10.frozen? ⟨w8.heap.size, i, none⟩ = false := fun i => frozen_of_row _ _ i _ _ HBh.out
    go_wp2_with fail
    refine (held_Entry E _ _ _ _ 1 w10 (Og.out.reads (B := w10.heap.size) (fun b hb' => by have := Gg.out b hb'; omega)) (by omega) (by omega)).mono ?_
    rintro e w11 ⟨rfl, hb11⟩
    have hz14 := hb11.size
    replace hB := bl_trans hB hb11
    clear bw9_0 bw9_1 bw9_2 bw9_3 bw9_4 bw9_5 bw9_6 bw9_7 bw9_8 bw9_9 bw9_10 bw9_f
    replace HBw := Lib.hid ((hb11.block (w1.heap.size) (show w1.heap.size < w10.heap.size by omega)).trans HBw.out)
    clear bg7_0 bg7_1 bg7_2 bg7_3 bg7_4 bg7_5 bg7_6 bg7_7 bg7_8 bg7_9 bg7_10 bg7_f
    replace HBg := Lib.hid ((hb11.block (w3.heap.size) (show w3.heap.size < w10.heap.size by omega)).trans HBg.out)
    clear bh2_0 bh2_1 bh2_2 bh2_3 bh2_4 bh2_5 bh2_6 bh2_7 bh2_8 bh2_9 bh2_10 bh2_f
    replace HBh := Lib.hid ((hb11.block (w8.heap.size) (show w8.heap.size < w10.heap.size by omega)).trans HBh.out)
    replace Ow := Lib.hid (Ow.out.keep fun b hb' => hb11.block b (by have := Gw.out b hb'; omega))
    replace Og := Lib.hid (Og.out.keep fun b hb' => hb11.block b (by have := Gg.out b hb'; omega))
    replace Oh := Lib.hid (Oh.out.keep fun b hb' => hb11.block b (by have := Gh.out b hb'; omega))
    have bw10_0 : w11.cell? ⟨w1.heap.size, 0, none⟩ = some (.int .i64 E.kd) := cell_of_row _ _ 0 _ _ (0, 0) HBw.out
    have bw10_1 : w11.cell? ⟨w1.heap.size, 1, none⟩ = some (.string E.nm) := cell_of_row _ _ 1 _ _ (0, 0) HBw.out
    have bw10_2 : w11.cell? ⟨w1.heap.size, 2, none⟩ = some (.string E.tn) := cell_of_row _ _ 2 _ _ (0, 0) HBw.out
    have bw10_3 : w11.cell? ⟨w1.heap.size, 3, none⟩ = some (.string E.it.nm) := cell_of_row _ _ 3 _ _ (0, 0) HBw.out
    have bw10_4 : w11.cell? ⟨w1.heap.size, 4, none⟩ = some (.int .i64 E.it.n) := cell_of_row _ _ 4 _ _ (0, 0) HBw.out
    have bw10_5 : w11.cell? ⟨w1.heap.size, 5, none⟩ = some (.slice Aaw maw caw) := cell_of_row _ _ 5 _ _ (0, 0) HBw.out
    have bw10_6 : w11.cell? ⟨w1.heap.size, 6, none⟩ = some (.int .i64 E.it.cl) := cell_of_row _ _ 6 _ _ (0, 0) HBw.out
    have bw10_7 : w11.cell? ⟨w1.heap.size, 7, none⟩ = some (.int .i64 E.it.lb) := cell_of_row _ _ 7 _ _ (0, 0) HBw.out
    have bw10_8 : w11.cell? ⟨w1.heap.size, 8, none⟩ = some (.slice Afw mfw cfw) := cell_of_row _ _ 8 _ _ (0, 0) HBw.out
    have bw10_9 : w11.cell? ⟨w1.heap.size, 9, none⟩ = some (.slice Asw msw csw) := cell_of_row _ _ 9 _ _ (0, 0) HBw.out
    have bw10_10 : w11.cell? ⟨w1.heap.size, 10, none⟩ = some (.slice Arw mrw crw) := cell_of_row _ _ 10 _ _ (0, 0) HBw.out
    have bw10_f : ∀ i, w11.frozen? ⟨w1.heap.size, i, none⟩ = false := fun i => frozen_of_row _ _ i _ _ HBw.out
    have bg8_0 : w11.cell? ⟨w3.heap.size, 0, none⟩ = some (.int .i64 E.kd) := cell_of_row _ _ 0 _ _ (0, 0) HBg.out
    have bg8_1 : w11.cell? ⟨w3.heap.size, 1, none⟩ = some (.string E.nm) := cell_of_row _ _ 1 _ _ (0, 0) HBg.out
    have bg8_2 : w11.cell? ⟨w3.heap.size, 2, none⟩ = some (.string E.tn) := cell_of_row _ _ 2 _ _ (0, 0) HBg.out
    have bg8_3 : w11.cell? ⟨w3.heap.size, 3, none⟩ = some (.string E.it.nm) := cell_of_row _ _ 3 _ _ (0, 0) HBg.out
    have bg8_4 : w11.cell? ⟨w3.heap.size, 4, none⟩ = some (.int .i64 E.it.n) := cell_of_row _ _ 4 _ _ (0, 0) HBg.out
    have bg8_5 : w11.cell? ⟨w3.heap.size, 5, none⟩ = some (.slice Aag mag cag) := cell_of_row _ _ 5 _ _ (0, 0) HBg.out
    have bg8_6 : w11.cell? ⟨w3.heap.size, 6, none⟩ = some (.int .i64 E.it.cl) := cell_of_row _ _ 6 _ _ (0, 0) HBg.out
    have bg8_7 : w11.cell? ⟨w3.heap.size, 7, none⟩ = some (.int .i64 E.it.lb) := cell_of_row _ _ 7 _ _ (0, 0) HBg.out
    have bg8_8 : w11.cell? ⟨w3.heap.size, 8, none⟩ = some (.slice Afg mfg cfg) := cell_of_row _ _ 8 _ _ (0, 0) HBg.out
    have bg8_9 : w11.cell? ⟨w3.heap.size, 9, none⟩ = some (.slice Asg msg csg) := cell_of_row _ _ 9 _ _ (0, 0) HBg.out
    have bg8_10 : w11.cell? ⟨w3.heap.size, 10, none⟩ = some (.slice Arg mrg crg) := cell_of_row _ _ 10 _ _ (0, 0) HBg.out
    have bg8_f : ∀ i, w11.frozen? ⟨w3.heap.size, i, none⟩ = false := fun i => frozen_of_row _ _ i _ _ HBg.out
    have bh3_0 : w11.cell? ⟨w8.heap.size, 0, none⟩ = some (.int .i64 E.kd) := cell_of_row _ _ 0 _ _ (0, 0) HBh.out
    have bh3_1 : w11.cell? ⟨w8.heap.size, 1, none⟩ = some (.string E.nm) := cell_of_row _ _ 1 _ _ (0, 0) HBh.out
    have bh3_2 : w11.cell? ⟨w8.heap.size, 2, none⟩ = some (.string E.tn) := cell_of_row _ _ 2 _ _ (0, 0) HBh.out
    have bh3_3 : w11.cell? ⟨w8.heap.size, 3, none⟩ = some (.string E.it.nm) := cell_of_row _ _ 3 _ _ (0, 0) HBh.out
    have bh3_4 : w11.cell? ⟨w8.heap.size, 4, none⟩ = some (.int .i64 E.it.n) := cell_of_row _ _ 4 _ _ (0, 0) HBh.out
    have bh3_5 : w11.cell? ⟨w8.heap.size, 5, none⟩ = some (.slice Aah mah cah) := cell_of_row _ _ 5 _ _ (0, 0) HBh.out
    have bh3_6 : w11.cell? ⟨w8.heap.size, 6, none⟩ = some (.int .i64 E.it.cl) := cell_of_row _ _ 6 _ _ (0, 0) HBh.out
    have bh3_7 : w11.cell? ⟨w8.heap.size, 7, none⟩ = some (.int .i64 E.it.lb) := cell_of_row _ _ 7 _ _ (0, 0) HBh.out
    have bh3_8 : w11.cell? ⟨w8.heap.size, 8, none⟩ = some (.slice Afh mfh cfh) := cell_of_row _ _ 8 _ _ (0, 0) HBh.out
    have bh3_9 : w11.cell? ⟨w8.heap.size, 9, none⟩ = some (.slice Ash msh csh) := cell_of_row _ _ 9 _ _ (0, 0) HBh.out
    have bh3_10 : w11.cell? ⟨w8.heap.size, 10, none⟩ = some (.slice Arh mrh crh) := cell_of_row _ _ 10 _ _ (0, 0) HBh.out
    have bh3_f : ∀ i, w11.frozen? ⟨w8.heap.size, i, none⟩ = false := fun i => frozen_of_row _ _ i _ _ HBh.out
    go_wp2_with fail
    go_ret
    exact ⟨rfl, hB⟩
  · go_enter Tryz.func4, Tryz.ntmps4
    have hd20 : decide ((s.size : Int) > 1048576) = true := decide_eq_true (by omega)
    go_wp2_with fail
    go_ret
    exact ⟨rfl, Below.refl _ _⟩

theorem laidOut : laidOutB Tryz.prog = true := by kernel_rfl
theorem own : ownKnob Tryz.prog.godebug = none := by kernel_rfl
set_option maxRecDepth 100000 in
theorem lifted (os : Os) (started : os.Started) (H : Type) (enc : TypeId × Value → H) :
    ReturnsInHanded {} Tryz.checked os 4 .any (fun w args => (Rows.fnExactParseLabEntrySpec.pre enc Tryz.prog Tryz.f4 [] false w args ∧ laidMetH Tryz.prog Rows.fnExactParseLabEntryRow.laid w) ∧ sizedMet enc Tryz.prog Tryz.f4 (OpenSpec.ofChange Rows.fnExactParseLabEntrySpec) false w args)
      (Rows.fnExactParseLabEntrySpec.post enc Tryz.prog Tryz.f4 false true false false) := by
  refine law_lifted (C := Tryz.checked) (X := fun w _ => laidMetH Tryz.prog Rows.fnExactParseLabEntryRow.laid w) (fun _ _ _ hh h => h.of_heap hh) own started (by kernel_rfl) Tryz.func4
    laidOut (by kernel_rfl) rfl (by kernel_rfl) Tryz.underlying4 (fun ds h => by match ds, h with | [_], _ => rfl)
    (ChangeSpec.witness_shaped (enc := enc) (C := Tryz.checked) (os := os) (X := fun w _ => laidMetH Tryz.prog Rows.fnExactParseLabEntryRow.laid w) false (World.laidAll Tryz.prog os Rows.fnExactParseLabEntryRow.laid) #[.string ⟨#[]⟩] 8 (World.laidAll_os _ _ _)
      (World.shaped_of_ZipB (by kernel_rfl) (by kernel_rfl)) (by kernel_rfl) (by kernel_rfl) (by kernel_rfl)
      (by rw [MakeChecks.laidMetH_plain _ _ _ (by kernel_rfl)]; exact laidMet_laidAll _ (by kernel_rfl) (by kernel_rfl))) ?_
  intro W base args ds p hval0 hA0 hlt hL hsh
  have hval : ∀ (j : Nat) t v, Tryz.f4.params[j]? = some t → args[j]? = some v → Value.okWide Tryz.prog W .any base t v := hval0
  have hA : DataW.TrodAll enc Tryz.prog W 0 (fun _ => true) true Tryz.f4.params.toList args.toList ds p := hA0
  rw [Tryz.params4] at hA hval
  obtain ⟨v0, vs0, d0, ds0, p0, q0, hargs, rfl, rfl, h0, r0⟩ := trodAll_cons hA
  obtain ⟨rfl, rfl, rfl⟩ := trodAll_nil r0
  obtain rfl : args = #[v0] := by cases args; simp_all
  obtain ⟨fuel, hf⟩ := h0
  obtain ⟨s, e0, -, hs⟩ := DataW.trod_string Tryz.underlying9 hf
  have e1 : v0 = .string s := by
    obtain ⟨z, rfl⟩ := okWide_string Tryz.underlying9 (hval 0 9 v0 rfl rfl)
    simpa [Value.cells] using e0
  subst e1
  rw [MakeChecks.laidMetH_plain _ _ _ (by kernel_rfl)] at hL
  have hP : Pow10 W := pow10_of_laid (r := Rows.fnExactParseLabEntryRow.laid.drop 3) 2 (by kernel_rfl) hL
  exact walk s W hs (cell_of_shapedOpen_int (zero := #[.int .i64 0]) (t := 3) hsh (of_decide_eq_true (by kernel_rfl)) (by kernel_rfl) rfl (by kernel_rfl) (by kernel_rfl) Tryz.underlying3) hP
    (err_of_laid (d := Rows.laid_strconv_ErrSyntax) (r := Rows.fnExactParseLabEntryRow.laid.drop 6) 5 (by kernel_rfl) hL)

theorem over : Rows.FnExactParseLabEntrySaid :=
  OpenClaim.holds_of_wide 4 Tryz.f4 rfl rfl rfl rfl rfl rfl rfl ⟨rfl, rfl, rfl, rfl, rfl⟩ rfl rfl rfl rfl rfl (by kernel_rfl) Tryz.func4 (by kernel_rfl)
    (of_decide_eq_true (by kernel_rfl)) (by unfold Func.isWrapper; first | (rw [if_pos (by decide +kernel)]; kernel_rfl) | (rw [if_neg (by decide +kernel)]; exact ⟨rfl, rfl⟩))
    (fun os started H enc _ => lifted os started H enc)

/-- The statement: the tied card. -/
theorem proved : Rows.FnExactParseLabEntryCardSaid :=
  Claim7.holds_tied_plain_at .later [] [.data, .data, .data, .data, .sentinel, .sentinel, .pinned] true Rows.fnExactParseLabEntryCard.stood.harness true
    over (fun _ h => by cases h) (by kernel_rfl) (fun _ h => by cases h) fnExactParseLabEntry_row_tie rfl ⟨rfl, rfl⟩ (by kernel_rfl) rfl
    (fun f fn hf hfn => by
      obtain rfl : f = 4 := Option.some.inj ((show Tryz.prog.funcNamed Rows.fnExactParseLabEntryRow.func = some 4 by kernel_rfl).symm.trans hf) |>.symm
      obtain rfl : fn = Tryz.f4 := (Option.some.inj (Tryz.func4.symm.trans hfn)).symm
      exact ⟨by kernel_rfl, fun j t ht => by
        rw [Tryz.params4] at ht
        have hm : t ∈ [9] := by simpa using Array.mem_of_getElem? ht
        have hall : ([9].all fun u => !Tryz.prog.wantsStandIn u) = true := by kernel_rfl
        exact (show Tryz.prog.wantsStandIn t = false by simpa using List.all_eq_true.1 hall t hm)⟩)
    (by kernel_rfl)
#print axioms proved
end Go.Proofs.YtlmdebjbjbadlaaGreatDoor.fnExactParseLabEntry
