/-
  Proved: the law FnExactParseWalk returns true for every string, and leaves them as they were. The row's own condition: the listed tables hold what their text lays (the card ties them).
-/
import Derived.Test.YtlmdebjbjbadlaaDoorRows
import Derived.Test.YtlmdebjbjbadlaaDoorCards
import Derived.Test.YtlmdebjbjbadlaaDoorTie
import Derived.Test.YtlmdebjbjbadlaaDoorLaw
import Derived.Test.YtlmdebjbjbadlaaDoorParseSpec
import Derived.Test.YtlmdebjbjbadlaaDoorMark
import Derived.Test.YtlmdebjbjbadlaaDoorArgsWalk
import Derived.ProofKit
import Derived.Shelf.Vars
import Derived.Lay
import Derived.LaidMore
import Derived.OpenShut
import Derived.ShutString
import Derived.Stop.Joined
import Derived.SevenTiedAt
import Derived.Deep.RegionHeld3
import Derived.Lib.SmallJoins
import Derived.Lib.LaidTab
namespace Go.Proofs.YtlmdebjbjbadlaaDoor.fnExactParseWalk
open Go.ChangeShapes Go.WideShapes Go.ChangeAt Go.RowKit Go.Joins Go.Deep
set_option linter.unusedVariables false

theorem iface_cell {H : Type} {enc : TypeId × Value → H} {P : Program} {w : World} {base : Nat} {sp : Nat → Bool} {held : Bool} {fuel : Nat} {t : TypeId} {ms : Array (String × TypeId)} {cs : List Value} {x : DataW H × List MemPlace} (ht : P.underlying t = some (.interface ms))
    (h : DataW.trod enc P w base sp held fuel t cs = some x) : ∃ ev, cs = [ev] ∧ (ev = .nilIface ∨ ∃ te pe, ev = .iface te pe) := by
  cases fuel with
  | zero => simp [DataW.trod] at h
  | succ n =>
    unfold DataW.trod at h
    rw [ht] at h
    split at h <;> simp_all
theorem err_of_laid {W : World} {l r : List (String × DataW Unit)} {d : DataW Unit} (k : Nat) (hl : l.drop k = ("strconv.ErrSyntax", d) :: r) (h : laidMet Tryd.prog l W) : ErrAt W := by
  have h1 := laid_drop k l h
  rw [hl] at h1
  obtain ⟨ps, ⟨g, t, cs, fuel, p, q, hg, ht, hvar, hd, _, _⟩, _⟩ := h1
  obtain rfl := Option.some.inj ((show Tryd.prog.globalNamed "strconv.ErrSyntax" = some 1 by kernel_rfl).symm.trans hg)
  obtain rfl := Option.some.inj ((show (Tryd.prog.globals[1]?).map (·.type) = some 46 by kernel_rfl).symm.trans ht)
  obtain ⟨ev, e, hev⟩ := iface_cell Tryd.underlying46 hd
  refine ⟨ev, ?_, hev⟩
  unfold World.var? at hvar
  rw [hg] at hvar
  simp only [Option.bind_some] at hvar
  unfold World.cell?
  split at hvar
  · rename_i c _ _ hh
    obtain rfl : c = cs := by simpa using hvar
    simp only [hh]
    have : c[0]? = some ev := by rw [← Array.getElem?_toList, e]; rfl
    simpa using this
  · cases hvar
theorem box_keep {w w' : World} {b : Nat} {x v : Value} (h : BoxW w b x v) (hk : w'.heap[b]? = w.heap[b]?) : BoxW w' b x v := by
  have e1 : ∀ i, w'.cell? ⟨b, i, none⟩ = w.cell? ⟨b, i, none⟩ := fun i => by unfold World.cell?; simp only [hk]
  have e2 : ∀ i, w'.frozen? ⟨b, i, none⟩ = w.frozen? ⟨b, i, none⟩ := fun i => by unfold World.frozen?; simp only [hk]
  exact ⟨(e1 0).trans h.c0, (e1 1).trans h.c1, (e2 0).trans h.f0, (e2 1).trans h.f1⟩
theorem lens_small : ∀ (xss : List (List Int)), SmallArcs xss → lens xss = 2 * xss.length
  | [], _ => rfl
  | x :: r, h => by
    have h1 := (h x (by simp)).1
    have h2 := lens_small r fun y hy => h y (by simp [hy])
    simp only [lens, List.length_cons]
    omega
theorem lens_pw (l : List UInt8) (h : l.length ≤ 1048576) : lens (pwX l) ≤ 10000000 := by
  by_cases hp : pwP l
  · obtain ⟨w1, rest, h1, h2, h3, h4⟩ := hp
    obtain ⟨_, _, e3⟩ := pw_t h1 ⟨w1, rest, h1, h2, h3, h4⟩
    rw [e3, lens_small _ h4.small, List.length_map]
    have h5 := spl_len 32 l []
    have h6 := List.count_le_length (a := 32) (l := l)
    rw [h1] at h5
    simp only [List.length_cons] at h5
    omega
  · rw [(pw_f hp).2.2]
    show 0 ≤ _
    omega
set_option maxRecDepth 100000 in
set_option maxHeartbeats 1000000 in
theorem walk (s : ByteArray) (w : World) (hs : s.size ≤ maxLen) (hm : MaxAt w) (hp : Pow10 w) (he : ErrAt w) :
    Calls Tryd.prog 3 #[.string s] w fun e w' => e = .returned (.bool true) ∧ Below w.heap.size w w' := by
  unfold maxLen at hs
  have HP := Lib.hid hp; clear hp
  have HE := Lib.hid he; clear he
  have HM := Lib.hid hm; clear hm
  by_cases h20 : s.size ≤ 1048576
  · have hlens := lens_pw s.data.toList (by rw [← Lib.size_eq]; exact h20)
    have J1 := Lib.hid (spec_ParseWalk s w h20)
    have J2 := Lib.hid (fun W (h : Below w.heap.size w W) => impl_ParseWalk s W h20 (HM.out.below h) (HP.out.below h) (HE.out.below h))
    unfold PwPost at J1 J2
    generalize pwX s.data.toList = XS at *
    generalize pwN s.data.toList = n at *
    generalize pwB s.data.toList = ok at *
    go_enter Tryd.func3, Tryd.ntmps3
    go_wp2_with fail
    refine J1.out.mono ?_
    rintro e w1 ⟨v1, bs1, rfl, ho1, -, hr1, hb1⟩
    obtain ⟨A1, m1, c1, rfl⟩ := ho1.isSlice
    have HR1 := Lib.hid (ho1.reads (fun b hb => (hr1 b hb).2)); clear ho1 hr1
    have hb1s := bl_alloc (Below.refl w1.heap.size w1) (.cells #[.int .i64 n, .slice A1 m1 c1] 24)
    have HX1 := Lib.hid (BoxW.new w1 24 (.int .i64 n) (.slice A1 m1 c1))
    have HZ1 := Lib.hid (show w1.heap.size < (w1.alloc (.cells #[.int .i64 n, .slice A1 m1 c1] 24)).heap.size by simp)
    go_wp2_with fail
    generalize w1.alloc (.cells #[.int .i64 n, .slice A1 m1 c1] 24) = w1s at *
    have hB1s := bl_trans hb1 hb1s
    refine (J2.out w1s hB1s).mono ?_
    rintro e w2 ⟨v2, bs2, rfl, ho2, hn2, hr2, hb2⟩
    obtain ⟨A2, m2, c2, rfl⟩ := ho2.isSlice
    have hB2 := bl_trans hB1s hb2
    have HX2 := Lib.hid (HX1.out.below hb2 HZ1.out)
    have HO2 := Lib.hid ho2; clear ho2
    have HR2 := Lib.hid hr2; clear hr2
    have HN2 := Lib.hid hn2; clear hn2
    have hb2s := bl_alloc (Below.refl w2.heap.size w2) (.cells #[.int .i64 n, .slice A2 m2 c2] 24)
    have HY2 := Lib.hid (BoxW.new w2 24 (.int .i64 n) (.slice A2 m2 c2))
    have HW2 := Lib.hid (show w2.heap.size < (w2.alloc (.cells #[.int .i64 n, .slice A2 m2 c2] 24)).heap.size by simp)
    have hz12 : w1.heap.size < w2.heap.size := Nat.lt_of_lt_of_le HZ1.out hb2.size
    have HX2s := Lib.hid (HX2.out.below hb2s hz12)
    obtain ⟨x0, x1, x2, x3⟩ := HX2s.out
    obtain ⟨y0, y1, y2, y3⟩ := HY2.out
    go_wp2_with fail
    generalize w2.alloc (.cells #[.int .i64 n, .slice A2 m2 c2] 24) = w2s at *
    have hB2s := bl_trans hB2 hb2s
    have hB12 : Below w1s.heap.size w1s w2s := hb2.trans (hb2s.mono hb2.size)
    have HR1b := Lib.hid (show RowsR w1s w1s.heap.size (.slice A1 m1 c1) XS from (HR1.out.below hb1s).more hb1s.size)
    have HR2a := Lib.hid (show RowsR w2s w2s.heap.size (.slice A2 m2 c2) XS from ((HO2.out.reads (fun b hb => (HR2.out b hb).2)).below hb2s).more hb2s.size)
    refine (eq_Walk n _ _ XS w2s HR2a.out ((HR1b.out.below hB12).more hB12.size)).mono ?_
    rintro e w3 ⟨rfl, hb3⟩
    have hB3 := bl_trans hB2s hb3
    have hB13 := hB12.trans (hb3.mono hB12.size)
    have hz3 := hb3.size
    have hz2s := hb2s.size
    have hw2 := HW2.out
    have hz1 := HZ1.out
    have hz2 := hb2.size
    have HX3 := Lib.hid (HX2s.out.below hb3 (show w1.heap.size < w2s.heap.size by omega))
    have HY3 := Lib.hid (HY2.out.below hb3 HW2.out)
    obtain ⟨p0, p1, p2, p3⟩ := HX3.out
    obtain ⟨q0, q1, q2, q3⟩ := HY3.out
    have HO3 := Lib.hid (HO2.out.keep (w' := w3) fun b hb => by
      have := HR2.out b hb
      rw [hb3.block b (by omega), hb2s.block b (by omega)])
    go_wp2_with fail
    refine (mark_Walk n _ XS bs2 1 w3 HO3.out HN2.out (fun b hb => by have := HR2.out b hb; omega) (by omega) (by omega)).mono ?_
    rintro e w4 ⟨rfl, ho4, hk4⟩
    have hb4 : Below w1s.heap.size w3 w4 := hk4.below (fun b hb => (HR2.out b hb).1) (by omega)
    have hB4 : Below w.heap.size w w4 := hB3.trans (hb4.mono hB1s.size)
    have hB14 := hB13.trans hb4
    have hz4 := hk4.size
    have HX4 := Lib.hid (box_keep HX3.out (hk4.block w1.heap.size (by omega) fun hm => by have := HR2.out _ hm; omega))
    have HY4 := Lib.hid (box_keep HY3.out (hk4.block w2.heap.size (by omega) fun hm => by have := HR2.out _ hm; omega))
    obtain ⟨r0, r1, r2, r3⟩ := HX4.out
    obtain ⟨t0, t1, t2, t3⟩ := HY4.out
    have HO4 := Lib.hid ho4; clear ho4
    have HR4 := Lib.hid (HO4.out.reads (B := w4.heap.size) (fun b hb => by have := HR2.out b hb; omega))
    clear hk4
    go_wp2_with fail
    refine (held_Walk n _ XS 1 w4 HR4.out (by omega) (by omega)).mono ?_
    rintro e w5 ⟨rfl, hb5⟩
    have hB5 := bl_trans hB4 hb5
    have hB15 := hB14.trans (hb5.mono hB14.size)
    have hz5 := hb5.size
    have HX5 := Lib.hid (HX4.out.below hb5 (show w1.heap.size < w4.heap.size by omega))
    have HY5 := Lib.hid (HY4.out.below hb5 (show w2.heap.size < w4.heap.size by omega))
    have HR5 := Lib.hid ((HR4.out.below hb5).more hb5.size)
    go_wp2_with fail
    refine (J2.out w5 hB5).mono ?_
    rintro e w6 ⟨v6, bs6, rfl, ho6, -, hr6, hb6⟩
    obtain ⟨A6, m6, c6, rfl⟩ := ho6.isSlice
    have HR6 := Lib.hid (ho6.reads (fun b hb => (hr6 b hb).2)); clear ho6 hr6
    have hB6 := bl_trans hB5 hb6
    have hz6 := hb6.size
    have HX6 := Lib.hid (HX5.out.below hb6 (show w1.heap.size < w5.heap.size by omega))
    have HY6 := Lib.hid (HY5.out.below hb6 (show w2.heap.size < w5.heap.size by omega))
    have hb6s := bl_alloc (Below.refl w6.heap.size w6) (.cells #[.int .i64 n, .slice A6 m6 c6] 24)
    have HV6 := Lib.hid (BoxW.new w6 24 (.int .i64 n) (.slice A6 m6 c6))
    have HX6s := Lib.hid (HX6.out.below hb6s (show w1.heap.size < w6.heap.size by omega))
    have HY6s := Lib.hid (HY6.out.below hb6s (show w2.heap.size < w6.heap.size by omega))
    obtain ⟨u0, u1, u2, u3⟩ := HX6s.out
    obtain ⟨z0, z1, z2, z3⟩ := HV6.out
    go_wp2_with fail
    generalize w6.alloc (.cells #[.int .i64 n, .slice A6 m6 c6] 24) = w6s at *
    have hB6s := bl_trans hB6 hb6s
    have hz6s := hb6s.size
    have hB16 : Below w1s.heap.size w1s w6s := (hB15.trans (hb6.mono hB15.size)).trans (hb6s.mono (by omega))
    refine (eq_Walk n _ _ XS w6s ((HR6.out.below hb6s).more hb6s.size) ((HR1b.out.below hB16).more hB16.size)).mono ?_
    rintro e w7 ⟨rfl, hb7⟩
    have hB7 := bl_trans hB6s hb7
    obtain ⟨a0, a1, a2, a3⟩ := HY6s.out.below hb7 (show w2.heap.size < w6s.heap.size by omega)
    have HR7 := Lib.hid (show RowsR w7 w7.heap.size (.slice A2 m2 c2) (seqSS 1 XS) from ((((HR5.out.below hb6).more hb6.size).below hb6s).more hb6s.size |>.below hb7).more hb7.size)
    go_wp2_with fail
    refine (held_Walk n _ XS 1 w7 HR7.out (by omega) (by omega)).mono ?_
    rintro e w8 ⟨rfl, hb8⟩
    go_wp2_with fail
    go_ret
    exact ⟨rfl, bl_trans hB7 hb8⟩
  · go_enter Tryd.func3, Tryd.ntmps3
    go_wp2_with fail
    go_ret
    exact ⟨rfl, Below.refl _ _⟩

theorem laidOut : laidOutB Tryd.prog = true := by kernel_rfl
theorem own : ownKnob Tryd.prog.godebug = none := by kernel_rfl
set_option maxRecDepth 100000 in
theorem lifted (os : Os) (started : os.Started) (H : Type) (enc : TypeId × Value → H) :
    ReturnsInHanded {} Tryd.checked os 3 .any (fun w args => (Rows.fnExactParseWalkSpec.pre enc Tryd.prog Tryd.f3 [] false w args ∧ laidMetH Tryd.prog Rows.fnExactParseWalkRow.laid w) ∧ sizedMet enc Tryd.prog Tryd.f3 (OpenSpec.ofChange Rows.fnExactParseWalkSpec) false w args)
      (Rows.fnExactParseWalkSpec.post enc Tryd.prog Tryd.f3 false true false false) := by
  refine law_lifted (C := Tryd.checked) (X := fun w _ => laidMetH Tryd.prog Rows.fnExactParseWalkRow.laid w) (fun _ _ _ hh h => h.of_heap hh) own started (by kernel_rfl) Tryd.func3
    laidOut (by kernel_rfl) rfl (by kernel_rfl) Tryd.underlying4 (fun ds h => by match ds, h with | [_], _ => rfl)
    (ChangeSpec.witness_shaped (enc := enc) (C := Tryd.checked) (os := os) (X := fun w _ => laidMetH Tryd.prog Rows.fnExactParseWalkRow.laid w) false (World.laidAll Tryd.prog os Rows.fnExactParseWalkRow.laid) #[.string ⟨#[]⟩] 8 (World.laidAll_os _ _ _)
      (World.shaped_of_ZipB (by kernel_rfl) (by kernel_rfl)) (by kernel_rfl) (by kernel_rfl) (by kernel_rfl)
      (by rw [MakeChecks.laidMetH_plain _ _ _ (by kernel_rfl)]; exact laidMet_laidAll _ (by kernel_rfl) (by kernel_rfl))) ?_
  intro W base args ds p hval0 hA0 hlt hL hsh
  have hval : ∀ (j : Nat) t v, Tryd.f3.params[j]? = some t → args[j]? = some v → Value.okWide Tryd.prog W .any base t v := hval0
  have hA : DataW.TrodAll enc Tryd.prog W 0 (fun _ => true) true Tryd.f3.params.toList args.toList ds p := hA0
  rw [Tryd.params3] at hA hval
  obtain ⟨v0, vs0, d0, ds0, p0, q0, hargs, rfl, rfl, h0, r0⟩ := trodAll_cons hA
  obtain ⟨rfl, rfl, rfl⟩ := trodAll_nil r0
  obtain rfl : args = #[v0] := by cases args; simp_all
  obtain ⟨fuel, hf⟩ := h0
  obtain ⟨s, e0, -, hs⟩ := DataW.trod_string Tryd.underlying9 hf
  have e1 : v0 = .string s := by
    obtain ⟨z, rfl⟩ := okWide_string Tryd.underlying9 (hval 0 9 v0 rfl rfl)
    simpa [Value.cells] using e0
  subst e1
  rw [MakeChecks.laidMetH_plain _ _ _ (by kernel_rfl)] at hL
  have hP : Pow10 W := pow10_of_laid (r := Rows.fnExactParseWalkRow.laid.drop 3) 2 (by kernel_rfl) hL
  exact walk s W hs (cell_of_shapedOpen_int (zero := #[.int .i64 0]) (t := 3) hsh (of_decide_eq_true (by kernel_rfl)) (by kernel_rfl) rfl (by kernel_rfl) (by kernel_rfl) Tryd.underlying3) hP
    (err_of_laid (d := Rows.laid_strconv_ErrSyntax) (r := Rows.fnExactParseWalkRow.laid.drop 6) 5 (by kernel_rfl) hL)

theorem over : Rows.FnExactParseWalkSaid :=
  OpenClaim.holds_of_wide 3 Tryd.f3 rfl rfl rfl rfl rfl rfl rfl ⟨rfl, rfl, rfl, rfl, rfl⟩ rfl rfl rfl rfl rfl (by kernel_rfl) Tryd.func3 (by kernel_rfl)
    (of_decide_eq_true (by kernel_rfl)) (by unfold Func.isWrapper; first | (rw [if_pos (by decide +kernel)]; kernel_rfl) | (rw [if_neg (by decide +kernel)]; exact ⟨rfl, rfl⟩))
    (fun os started H enc _ => lifted os started H enc)

/-- The statement: the tied card. -/
theorem proved : Rows.FnExactParseWalkCardSaid :=
  Claim7.holds_tied_plain_at .later [] [.data, .data, .data, .data, .sentinel, .sentinel, .pinned] true Rows.fnExactParseWalkCard.stood.harness true
    over (fun _ h => by cases h) (by kernel_rfl) (fun _ h => by cases h) fnExactParseWalk_row_tie rfl ⟨rfl, rfl⟩ (by kernel_rfl) rfl
    (fun f fn hf hfn => by
      obtain rfl : f = 3 := Option.some.inj ((show Tryd.prog.funcNamed Rows.fnExactParseWalkRow.func = some 3 by kernel_rfl).symm.trans hf) |>.symm
      obtain rfl : fn = Tryd.f3 := (Option.some.inj (Tryd.func3.symm.trans hfn)).symm
      exact ⟨by kernel_rfl, fun j t ht => by
        rw [Tryd.params3] at ht
        have hm : t ∈ [9] := by simpa using Array.mem_of_getElem? ht
        have hall : ([9].all fun u => !Tryd.prog.wantsStandIn u) = true := by kernel_rfl
        exact (show Tryd.prog.wantsStandIn t = false by simpa using List.all_eq_true.1 hall t hm)⟩)
    (by kernel_rfl)
#print axioms proved
end Go.Proofs.YtlmdebjbjbadlaaDoor.fnExactParseWalk
