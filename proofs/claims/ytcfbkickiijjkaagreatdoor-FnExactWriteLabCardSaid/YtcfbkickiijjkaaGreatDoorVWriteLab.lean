/-
  Proved: the law FnExactWriteLab returns true for every disk and entry, and leaves them as they were. The row's own condition: the listed tables hold what their text lays (the card ties them).
-/
import Derived.Test.YtcfbkickiijjkaaGreatDoorCards
import Derived.Test.YtcfbkickiijjkaaGreatDoorTie
import Derived.Test.YtcfbkickiijjkaaGreatDoorVWriteTop
import Derived.Test.YtcfbkickiijjkaaGreatDoorVOpenItem
import Derived.Lay
import Derived.ShutString
import Derived.SevenTiedAt
namespace Go.Proofs.YtcfbkickiijjkaaGreatDoor.fnExactWriteLab
open Go.ChangeShapes Go.WideShapes Go.ChangeAt Go.RowKit Go.Joins Go.Deep
set_option linter.all false
theorem iface_cell {H : Type} {enc : TypeId × Value → H} {P : Program} {w : World} {base : Nat} {sp : Nat → Bool} {held : Bool} {fuel : Nat} {t : TypeId} {ms : Array (String × TypeId)} {cs : List Value} {x : DataW H × List MemPlace} (ht : P.underlying t = some (.interface ms))
    (h : DataW.trod enc P w base sp held fuel t cs = some x) : ∃ ev, cs = [ev] ∧ (ev = .nilIface ∨ ∃ te pe, ev = .iface te pe) := by
  cases fuel with
  | zero => simp [DataW.trod] at h
  | succ n =>
    unfold DataW.trod at h
    rw [ht] at h
    split at h <;> simp_all
theorem err_of_laid {W : World} {l r : List (String × DataW Unit)} {d : DataW Unit} (k : Nat) (hl : l.drop k = ("strconv.ErrSyntax", d) :: r) (h : laidMet Tryz.prog l W) : ErrAt W := by
  have h1 := laid_drop k l h
  rw [hl] at h1
  obtain ⟨ps, ⟨g, t, cs, fuel, p, q, hg, ht, hvar, hd, _, _⟩, _⟩ := h1
  obtain rfl := Option.some.inj ((show Tryz.prog.globalNamed "strconv.ErrSyntax" = some 2 by kernel_rfl).symm.trans hg)
  obtain rfl := Option.some.inj ((show (Tryz.prog.globals[2]?).map (·.type) = some 110 by kernel_rfl).symm.trans ht)
  obtain ⟨ev, e, hev⟩ := iface_cell Tryz.underlying110 hd
  refine ⟨ev, ?_, hev⟩
  unfold World.var? at hvar
  rw [hg] at hvar
  simp only [Option.bind_some] at hvar
  unfold World.cell?
  split at hvar
  · rename_i c _ _ hh
    obtain rfl : c = cs := by simpa using hvar
    simp only [hh]
    have : c[0]? = some ev := by rw [← Array.getElem?_toList, e]; rfl
    simpa using this
  · cases hvar
def entryL (e : Entry) (va vf vs vr : Value) : List Value := .int .i64 e.kd :: .string e.nm :: .string e.tn :: itemL e.it va vf vs vr
set_option maxRecDepth 100000 in
theorem entry_of_trod {H : Type} {enc : TypeId × Value → H} {w : World} {base : Nat} {spare : Nat → Bool} {held : Bool} {fuel : Nat} {cs : List Value} {x : DataW H × List MemPlace} (h : DataW.trod enc Tryz.prog w base spare held fuel 47 cs = some x) :
  ∃ en va vf vs vr, cs = entryL en va vf vs vr ∧ ItemR w w.heap.size en.it va vf vs vr ∧ en.nm.size ≤ maxLen ∧ en.tn.size ≤ maxLen ∧ en.it.nm.size ≤ maxLen ∧ I64 en.it.lb := by
 obtain ⟨ys, n, _, _, hl, hlen, hg⟩ := DataW.trod_struct Tryz.underlying47 h
 have h8 : cs.length = 11 := hl.trans (by kernel_rfl)
 match cs, h8 with
 | [b0, b1, b2, c0, c1, c2, c3, c4, c5, c6, c7], _ =>
  match ys, hlen with
  | [y0, y1, y2, y3], _ =>
   have s1 : Tryz.prog.cellsOf 9 = 1 := by kernel_rfl
   have s2 : Tryz.prog.cellsOf 45 = 8 := by kernel_rfl
   have s4 : Tryz.prog.cellsOf 3 = 1 := by kernel_rfl
   have g0 : DataW.trod enc Tryz.prog w base spare held n 3 [b0] = some y0 := by simpa [s4] using hg 0 _ rfl
   have g1 : DataW.trod enc Tryz.prog w base spare held n 9 [b1] = some y1 := by simpa [s1] using hg 1 _ rfl
   have g2 : DataW.trod enc Tryz.prog w base spare held n 9 [b2] = some y2 := by simpa [s1] using hg 2 _ rfl
   have g3 : DataW.trod enc Tryz.prog w base spare held n 45 [c0, c1, c2, c3, c4, c5, c6, c7] = some y3 := by simpa [s2] using hg 3 _ rfl
   obtain ⟨kd, e0, -, wk⟩ := DataW.trod_int Tryz.underlying3 g0
   obtain ⟨nm, e1, -, hnm⟩ := DataW.trod_string Tryz.underlying9 g1
   obtain ⟨tn, e2, -, htn⟩ := DataW.trod_string Tryz.underlying9 g2
   obtain ⟨it, va, vf, vs, vr, e3, hr, hw⟩ := item_of_trod g3
   simp only [List.cons.injEq, and_true] at e0 e1 e2
   subst e0 e1 e2
   exact ⟨⟨kd, nm, tn, it⟩, va, vf, vs, vr, by rw [e3]; rfl, hr, hnm, htn, hw.1, hw.2.1⟩
set_option maxRecDepth 100000 in
set_option maxHeartbeats 2000000 in
theorem walk (a b c : ByteArray) (en : Entry) (va vf vs vr : Value) (w : World) (ha : a.size ≤ maxLen) (hb : b.size ≤ maxLen) (hc : c.size ≤ maxLen) (hi : ItemR w w.heap.size en.it va vf vs vr) (h1 : en.nm.size ≤ maxLen) (h2 : en.tn.size ≤ maxLen) (h3 : en.it.nm.size ≤ maxLen) (hlb : I64 en.it.lb) (hm : MaxAt w) (hp : Pow10 w) (he : ErrAt w) :
  Calls Tryz.prog 6 #[disk a b c, entryV en va vf vs vr] w fun e w' => e = .returned (.bool true) ∧ Below w.heap.size w w' := by
 have HP := Lib.hid hp; clear hp
 have HE := Lib.hid he; clear he
 have HM := Lib.hid hm; clear hm
 have HLB := Lib.hid hlb; clear hlb
 obtain ⟨Aa, ma, ca, rfl⟩ := hi.a.isSlice'
 obtain ⟨Af, mf, cf, rfl⟩ := hi.f.isSlice
 obtain ⟨As, ms, cs, rfl⟩ := hi.s.isSlice
 obtain ⟨Ar, mr, cr, rfl⟩ := hi.r.isSlice'
 have Re := Lib.hid hi; clear hi
 obtain ⟨w0, hw0, hb0, HD0, hs0⟩ := lay3 w (.string a) (.string b) (.string c) 23
 obtain ⟨w1, hw1, hb1, HE0, hs1⟩ := lay11 w0 (.int .i64 en.kd) (.string en.nm) (.string en.tn) (.string en.it.nm) (.int .i64 en.it.n) (.slice Aa ma ca) (.int .i64 en.it.cl) (.int .i64 en.it.lb) (.slice Af mf cf) (.slice As ms cs) (.slice Ar mr cr) 47
 have hB := bl_trans hb0 hb1
 replace HD0 := bk HD0 hb1
 rw [hs0] at HE0
 have HW0 := Lib.hid hw0; clear hw0
 have HW1 := Lib.hid hw1; clear hw1
 have hlt1 : w.heap.size + 1 < w1.heap.size := by omega
 clear hs0 hs1 hb0 hb1
 go_enter Tryz.func6, Tryz.ntmps6
 go_wp2_with fail
 rw [← HW0.out, ← HW1.out]
 refine (sz_disk a b c w1 1048576 (by omega) (by omega) ha hb hc).mono ?_
 rintro e w2 ⟨rfl, hb2⟩
 have hz2' := hb2.size
 replace hB := bl_trans hB hb2
 replace HD0 := bk HD0 hb2
 replace HE0 := bk HE0 hb2
 by_cases h20 : a.size + b.size + c.size ≤ 1048576
 ·
  have e1 : szR 1048576 (a.size + b.size + c.size) = 1048576 - ((a.size + b.size + c.size : Nat) : Int) := by unfold szR; rw [if_pos (by omega)]
  rw [e1]
  obtain ⟨lf, hlf⟩ : ∃ lf : Int, lf = 1048576 - ((a.size + b.size + c.size : Nat) : Int) := ⟨_, rfl⟩
  rw [← hlf]
  have hlf2 : 0 ≤ lf ∧ lf ≤ 1048576 := by omega
  clear e1 hlf
  obtain ⟨e0, e1, e2, e3, e4, e5, e6, e7, e8, e9, e10, ef⟩ := cells11 HE0
  have Rz := Lib.hid ((Re.out.below hB).more hB.size)
  go_wp2_with fail
  refine (sz_Entry en _ _ _ _ lf w2 Rz.out h1 h2 h3 hlf2.1 hlf2.2).mono ?_
  rintro e w3 ⟨rfl, hb3⟩
  have hz3' := hb3.size
  replace hB := bl_trans hB hb3
  replace HD0 := bk HD0 hb3
  replace HE0 := bk HE0 hb3
  clear e0 e1 e2 e3 e4 e5 e6 e7 e8 e9 e10 ef
  by_cases h21 : (szEntry en : Int) ≤ lf
  ·
   have e1 : szR lf (szEntry en) = lf - (szEntry en : Int) := by unfold szR; rw [if_pos h21]
   rw [e1]
   have hz2 : szEntry en ≤ 1048576 := by omega
   obtain ⟨lg, hlg⟩ : ∃ x : Int, x = lf - (szEntry en : Int) := ⟨_, rfl⟩
   rw [← hlg]
   have hlg2 : ¬ lg < 0 := by omega
   have J1 := Lib.hid (fun (va vf vs vr : Value) (W : World) (h : ItemR W W.heap.size en.it va vf vs vr) => spec_WriteLab a b c en va vf vs vr W (by omega) (by omega) (by omega) h hz2 HLB.out)
   have J2 := Lib.hid (fun (W : World) (hb' : Below w.heap.size w W) (va vf vs vr : Value) (h : ItemR W W.heap.size en.it va vf vs vr) => impl_WriteLab a b c en va vf vs vr W (by omega) (by omega) (by omega) h hz2 HLB.out (HM.out.below hb') (HP.out.below hb') (HE.out.below hb'))
   generalize wrB a.data.toList b.data.toList c.data.toList en = rb at *
   generalize wOf rb a b ⟨(wrT a.data.toList b.data.toList c.data.toList en).toArray⟩ = R at *
   obtain ⟨R1, R2, R3⟩ := R
   unfold diskV at J1 J2
   dsimp only at J1 J2
   clear e1 hlg hlf2 h21
   have RE := Lib.hid ((Re.out.below hB).more hB.size)
   obtain ⟨d0, d1, d2, df⟩ := cells3 HD0
   obtain ⟨e0, e1, e2, e3, e4, e5, e6, e7, e8, e9, e10, ef⟩ := cells11 HE0
   go_upto_region 8 with fail
   go_cut [6, 7] (fun s s7 wx => CutW (.string R1) (.string R2) (.string R3) w3 s wx ∧ s7 = .bool rb)
   case first =>
    have HS := Lib.hid (show ∀ x : World, Below w3.heap.size w3 x → (fun w' : World => w'.cell? ⟨w.heap.size, 0, none⟩ = some (.string a) ∧ w'.cell? ⟨w.heap.size, 1, none⟩ = some (.string b) ∧ w'.cell? ⟨w.heap.size, 2, none⟩ = some (.string c) ∧ w'.cell? ⟨w.heap.size + 1, 0, none⟩ = some (.int .i64 en.kd) ∧ w'.cell? ⟨w.heap.size + 1, 1, none⟩ = some (.string en.nm) ∧ w'.cell? ⟨w.heap.size + 1, 2, none⟩ = some (.string en.tn) ∧ w'.cell? ⟨w.heap.size + 1, 3, none⟩ = some (.string en.it.nm) ∧ w'.cell? ⟨w.heap.size + 1, 4, none⟩ = some (.int .i64 en.it.n) ∧ w'.cell? ⟨w.heap.size + 1, 5, none⟩ = some (.slice Aa ma ca) ∧ w'.cell? ⟨w.heap.size + 1, 6, none⟩ = some (.int .i64 en.it.cl) ∧ w'.cell? ⟨w.heap.size + 1, 7, none⟩ = some (.int .i64 en.it.lb) ∧ w'.cell? ⟨w.heap.size + 1, 8, none⟩ = some (.slice Af mf cf) ∧ w'.cell? ⟨w.heap.size + 1, 9, none⟩ = some (.slice As ms cs) ∧ w'.cell? ⟨w.heap.size + 1, 10, none⟩ = some (.slice Ar mr cr)) x from fun x hx => ⟨(hx.cell (p := ⟨w.heap.size, 0, none⟩) (show w.heap.size < w3.heap.size by omega)).trans d0, (hx.cell (p := ⟨w.heap.size, 1, none⟩) (show w.heap.size < w3.heap.size by omega)).trans d1, (hx.cell (p := ⟨w.heap.size, 2, none⟩) (show w.heap.size < w3.heap.size by omega)).trans d2, (hx.cell (p := ⟨w.heap.size + 1, 0, none⟩) (show w.heap.size + 1 < w3.heap.size by omega)).trans e0, (hx.cell (p := ⟨w.heap.size + 1, 1, none⟩) (show w.heap.size + 1 < w3.heap.size by omega)).trans e1, (hx.cell (p := ⟨w.heap.size + 1, 2, none⟩) (show w.heap.size + 1 < w3.heap.size by omega)).trans e2, (hx.cell (p := ⟨w.heap.size + 1, 3, none⟩) (show w.heap.size + 1 < w3.heap.size by omega)).trans e3, (hx.cell (p := ⟨w.heap.size + 1, 4, none⟩) (show w.heap.size + 1 < w3.heap.size by omega)).trans e4, (hx.cell (p := ⟨w.heap.size + 1, 5, none⟩) (show w.heap.size + 1 < w3.heap.size by omega)).trans e5, (hx.cell (p := ⟨w.heap.size + 1, 6, none⟩) (show w.heap.size + 1 < w3.heap.size by omega)).trans e6, (hx.cell (p := ⟨w.heap.size + 1, 7, none⟩) (show w.heap.size + 1 < w3.heap.size by omega)).trans e7, (hx.cell (p := ⟨w.heap.size + 1, 8, none⟩) (show w.heap.size + 1 < w3.heap.size by omega)).trans e8, (hx.cell (p := ⟨w.heap.size + 1, 9, none⟩) (show w.heap.size + 1 < w3.heap.size by omega)).trans e9, (hx.cell (p := ⟨w.heap.size + 1, 10, none⟩) (show w.heap.size + 1 < w3.heap.size by omega)).trans e10⟩)
    have hb0 := Below.refl w3.heap.size w3
    refine wp_region_held_drew (S := (fun w' : World => w'.cell? ⟨w.heap.size, 0, none⟩ = some (.string a) ∧ w'.cell? ⟨w.heap.size, 1, none⟩ = some (.string b) ∧ w'.cell? ⟨w.heap.size, 2, none⟩ = some (.string c) ∧ w'.cell? ⟨w.heap.size + 1, 0, none⟩ = some (.int .i64 en.kd) ∧ w'.cell? ⟨w.heap.size + 1, 1, none⟩ = some (.string en.nm) ∧ w'.cell? ⟨w.heap.size + 1, 2, none⟩ = some (.string en.tn) ∧ w'.cell? ⟨w.heap.size + 1, 3, none⟩ = some (.string en.it.nm) ∧ w'.cell? ⟨w.heap.size + 1, 4, none⟩ = some (.int .i64 en.it.n) ∧ w'.cell? ⟨w.heap.size + 1, 5, none⟩ = some (.slice Aa ma ca) ∧ w'.cell? ⟨w.heap.size + 1, 6, none⟩ = some (.int .i64 en.it.cl) ∧ w'.cell? ⟨w.heap.size + 1, 7, none⟩ = some (.int .i64 en.it.lb) ∧ w'.cell? ⟨w.heap.size + 1, 8, none⟩ = some (.slice Af mf cf) ∧ w'.cell? ⟨w.heap.size + 1, 9, none⟩ = some (.slice As ms cs) ∧ w'.cell? ⟨w.heap.size + 1, 10, none⟩ = some (.slice Ar mr cr))) (by kernel_rfl) ?_ (fun hHeld => ?_)
    ·
     exact HS.out _ hb0.drew
    refine tk 0 22 rfl rfl ?_
    try simp only [pu]
    refine tk 2 24 rfl rfl ?_
    try simp only [pu]
    refine take_ready2 1 8 rfl rfl (by kernel_rfl) (fun K hK => ?_) (fun K hK => ?_)
    ·
     go_simp
     go_at_call 9
     refine (to_disk a b c _).mono ?_
     rintro e wA ⟨rfl, hcA⟩
     have hq1 : Below w3.heap.size w3 wA := (show Below w3.heap.size w3 _ from hb0.drew).trans (hcA.mono (show Below w3.heap.size w3 _ from hb0.drew).size)
     refine hK.out _ _ ?_ (fun hHeld => ?_)
     ·
      exact HS.out _ hq1
     clear hK K
     try simp only [pu]
     refine take_ready2 3 8 rfl rfl (by kernel_rfl) (fun K hK => ?_) (fun K hK => ?_)
     ·
      go_simp
      go_at_call 21
      refine (to_Entry en _ _ _ _ _ (RE.out.up (show Below w3.heap.size w3 _ from hq1)) hz2).mono ?_
      rintro e wB ⟨va', vf', vs', vr', bsB, rfl, ho, -, hrgB, hcB⟩
      obtain ⟨ya, yf', ys', yr', oa, of, oz, or, -⟩ := id ho
      obtain ⟨Aa1, ma1, ca1, rfl⟩ := oa.isSlice
      obtain ⟨Af1, mf1, cf1, rfl⟩ := of.1.isSlice
      obtain ⟨As1, ms1, cs1, rfl⟩ := oz.1.isSlice
      obtain ⟨Ar1, mr1, cr1, rfl⟩ := or.isSlice
      clear oa of oz or
      have RB := Lib.hid (ho.reads (B := wB.heap.size) (fun b hb => (hrgB b hb).2)); clear ho hrgB
      have hq2 : Below w3.heap.size w3 wB := (show Below w3.heap.size w3 _ from hq1).trans (hcB.mono (show Below w3.heap.size w3 _ from hq1).size)
      refine hK.out _ _ ?_ (fun hHeld => ?_)
      ·
       exact HS.out _ hq2
      clear hK K
      try simp only [pu]
      refine take_ready2 4 8 rfl rfl (by kernel_rfl) (fun K hK => ?_) (fun K hK => ?_)
      ·
       go_simp
       go_at_call 20
       refine (J1.out _ _ _ _ _ (RB.out.up (Below.refl _ _))).mono ?_
       rintro e wC ⟨rfl, hcC⟩
       have hq3 : Below w3.heap.size w3 wC := (show Below w3.heap.size w3 _ from hq2).trans (hcC.mono (show Below w3.heap.size w3 _ from hq2).size)
       refine hK.out _ _ ?_ (fun hHeld => ?_)
       ·
        exact HS.out _ hq3
       clear hK K
       try simp only [pu]
       refine tk 5 21 rfl rfl ?_
       try simp only [pu]
       refine tk 6 27 rfl rfl ?_
       try simp only [pu]
       refine tk 7 28 rfl rfl ?_
       try simp only [pu]
       refine take_ready 8 rfl (by kernel_rfl) (fun K hK => ?_)
       go_simp
       have hA := bl_alloc hq3 (.cells #[.string ⟨#[]⟩, .string ⟨#[]⟩, .string ⟨#[]⟩] 25)
       refine hK.out _ _ ?_ (fun hHeld => ?_)
       ·
        exact HS.out _ hA
       clear hK K
       try simp only [pu]
       refine take_ready 9 rfl (by kernel_rfl) (fun K hK => ?_)
       go_simp
       refine hK.out _ _ ?_ (fun hHeld => ?_)
       ·
        exact HS.out _ (bl_alloc hq3 _)
       clear hK K
       try simp only [pu]
       refine tk 10 7 rfl rfl ?_
       try simp only [pu]
       refine wpAnyH_done (by kernel_rfl) ?_ _
       go_wp2_with fail
       go_meet
       exact ⟨cutW_a hq3, rfl⟩
      ·
       go_simp
       have hA := bl_alloc hq2 (.cells #[.string ⟨#[]⟩, .string ⟨#[]⟩, .string ⟨#[]⟩] 25)
       refine hK.out _ _ ?_ (fun hHeld => ?_)
       ·
        exact HS.out _ hA
       clear hK K
       try simp only [pu]
       refine take_ready 4 rfl (by kernel_rfl) (fun K hK => ?_)
       go_simp
       go_at_call 20
       refine (J1.out _ _ _ _ _ (RB.out.up (bl_alloc (Below.refl _ _) _))).mono ?_
       rintro e wC ⟨rfl, hcC⟩
       have hq3 : Below w3.heap.size w3 wC := (show Below w3.heap.size w3 _ from hA).trans (hcC.mono (show Below w3.heap.size w3 _ from hA).size)
       have HBX := Lib.hid (show wC.heap[wB.heap.size]? = some (.cells #[.string ⟨#[]⟩, .string ⟨#[]⟩, .string ⟨#[]⟩] 25 (0, 0)) from (hcC.block (wB.heap.size) (by simp)).trans (heap_alloc_new wB (.cells #[.string ⟨#[]⟩, .string ⟨#[]⟩, .string ⟨#[]⟩] 25)))
       have hbxb : w3.heap.size ≤ wB.heap.size := (show Below w3.heap.size w3 _ from hq2).size
       have hbxl : wB.heap.size < wC.heap.size := by have := hcC.size; simp at this; omega
       obtain ⟨u0, u1, u2, uf⟩ := cells3 HBX
       refine hK.out _ _ ?_ (fun hHeld => ?_)
       ·
        exact HS.out _ hq3
       clear hK K
       try simp only [pu]
       refine tk 5 21 rfl rfl ?_
       try simp only [pu]
       refine tk 6 27 rfl rfl ?_
       try simp only [pu]
       refine tk 7 28 rfl rfl ?_
       try simp only [pu]
       refine take_ready 9 rfl (by kernel_rfl) (fun K hK => ?_)
       go_simp
       refine hK.out _ _ ?_ (fun hHeld => ?_)
       ·
        exact HS.out _ (((hq3.setCell hbxb _).setCell hbxb _).setCell hbxb _)
       clear hK K
       try simp only [pu]
       refine tk 10 7 rfl rfl ?_
       try simp only [pu]
       refine wpAnyH_done (by kernel_rfl) ?_ _
       go_wp2_with fail
       go_meet
       exact ⟨cutW_b HBX.out hq3 hbxb hbxl, rfl⟩
     ·
      go_simp
      have hA := bl_alloc hq1 (.cells #[.string ⟨#[]⟩, .string ⟨#[]⟩, .string ⟨#[]⟩] 25)
      refine hK.out _ _ ?_ (fun hHeld => ?_)
      ·
       exact HS.out _ hA
      clear hK K
      try simp only [pu]
      refine take_ready 3 rfl (by kernel_rfl) (fun K hK => ?_)
      go_simp
      go_at_call 21
      refine (to_Entry en _ _ _ _ _ (RE.out.up (show Below w3.heap.size w3 _ from hA)) hz2).mono ?_
      rintro e wB ⟨va', vf', vs', vr', bsB, rfl, ho, -, hrgB, hcB⟩
      obtain ⟨ya, yf', ys', yr', oa, of, oz, or, -⟩ := id ho
      obtain ⟨Aa1, ma1, ca1, rfl⟩ := oa.isSlice
      obtain ⟨Af1, mf1, cf1, rfl⟩ := of.1.isSlice
      obtain ⟨As1, ms1, cs1, rfl⟩ := oz.1.isSlice
      obtain ⟨Ar1, mr1, cr1, rfl⟩ := or.isSlice
      clear oa of oz or
      have RB := Lib.hid (ho.reads (B := wB.heap.size) (fun b hb => (hrgB b hb).2)); clear ho hrgB
      have hq2 : Below w3.heap.size w3 wB := (show Below w3.heap.size w3 _ from hA).trans (hcB.mono (show Below w3.heap.size w3 _ from hA).size)
      have HBX := Lib.hid (show wB.heap[wA.heap.size]? = some (.cells #[.string ⟨#[]⟩, .string ⟨#[]⟩, .string ⟨#[]⟩] 25 (0, 0)) from (hcB.block (wA.heap.size) (by simp)).trans (heap_alloc_new wA (.cells #[.string ⟨#[]⟩, .string ⟨#[]⟩, .string ⟨#[]⟩] 25)))
      have hbxb : w3.heap.size ≤ wA.heap.size := (show Below w3.heap.size w3 _ from hq1).size
      have hbxl : wA.heap.size < wB.heap.size := by have := hcB.size; simp at this; omega
      refine hK.out _ _ ?_ (fun hHeld => ?_)
      ·
       exact HS.out _ hq2
      clear hK K
      try simp only [pu]
      refine take_ready 4 rfl (by kernel_rfl) (fun K hK => ?_)
      go_simp
      go_at_call 20
      refine (J1.out _ _ _ _ _ (RB.out.up (Below.refl _ _))).mono ?_
      rintro e wC ⟨rfl, hcC⟩
      have hq3 : Below w3.heap.size w3 wC := (show Below w3.heap.size w3 _ from hq2).trans (hcC.mono (show Below w3.heap.size w3 _ from hq2).size)
      replace HBX := bk HBX hcC hbxl
      replace hbxl := Nat.lt_of_lt_of_le hbxl hcC.size
      obtain ⟨u0, u1, u2, uf⟩ := cells3 HBX
      refine hK.out _ _ ?_ (fun hHeld => ?_)
      ·
       exact HS.out _ hq3
      clear hK K
      try simp only [pu]
      refine tk 5 21 rfl rfl ?_
      try simp only [pu]
      refine tk 6 27 rfl rfl ?_
      try simp only [pu]
      refine tk 7 28 rfl rfl ?_
      try simp only [pu]
      refine take_ready 9 rfl (by kernel_rfl) (fun K hK => ?_)
      go_simp
      refine hK.out _ _ ?_ (fun hHeld => ?_)
      ·
       exact HS.out _ (((hq3.setCell hbxb _).setCell hbxb _).setCell hbxb _)
      clear hK K
      try simp only [pu]
      refine tk 10 7 rfl rfl ?_
      try simp only [pu]
      refine wpAnyH_done (by kernel_rfl) ?_ _
      go_wp2_with fail
      go_meet
      exact ⟨cutW_b HBX.out hq3 hbxb hbxl, rfl⟩
    ·
     go_simp
     have hA := bl_alloc hb0.drew (.cells #[.string ⟨#[]⟩, .string ⟨#[]⟩, .string ⟨#[]⟩] 25)
     refine hK.out _ _ ?_ (fun hHeld => ?_)
     ·
      exact HS.out _ hA
     clear hK K
     try simp only [pu]
     refine take_ready 1 rfl (by kernel_rfl) (fun K hK => ?_)
     go_simp
     go_at_call 9
     refine (to_disk a b c _).mono ?_
     rintro e wA ⟨rfl, hcA⟩
     have hq1 : Below w3.heap.size w3 wA := (show Below w3.heap.size w3 _ from hA).trans (hcA.mono (show Below w3.heap.size w3 _ from hA).size)
     have HBX := Lib.hid (show wA.heap[w3.heap.size]? = some (.cells #[.string ⟨#[]⟩, .string ⟨#[]⟩, .string ⟨#[]⟩] 25 (0, 0)) from (hcA.block (w3.heap.size) (by simp)).trans (heap_alloc_new w3.drew (.cells #[.string ⟨#[]⟩, .string ⟨#[]⟩, .string ⟨#[]⟩] 25)))
     have hbxb : w3.heap.size ≤ w3.heap.size := (show Below w3.heap.size w3 _ from hb0.drew).size
     have hbxl : w3.heap.size < wA.heap.size := by have := hcA.size; simp at this; omega
     refine hK.out _ _ ?_ (fun hHeld => ?_)
     ·
      exact HS.out _ hq1
     clear hK K
     try simp only [pu]
     refine take_ready 3 rfl (by kernel_rfl) (fun K hK => ?_)
     go_simp
     go_at_call 21
     refine (to_Entry en _ _ _ _ _ (RE.out.up (show Below w3.heap.size w3 _ from hq1)) hz2).mono ?_
     rintro e wB ⟨va', vf', vs', vr', bsB, rfl, ho, -, hrgB, hcB⟩
     obtain ⟨ya, yf', ys', yr', oa, of, oz, or, -⟩ := id ho
     obtain ⟨Aa1, ma1, ca1, rfl⟩ := oa.isSlice
     obtain ⟨Af1, mf1, cf1, rfl⟩ := of.1.isSlice
     obtain ⟨As1, ms1, cs1, rfl⟩ := oz.1.isSlice
     obtain ⟨Ar1, mr1, cr1, rfl⟩ := or.isSlice
     clear oa of oz or
     have RB := Lib.hid (ho.reads (B := wB.heap.size) (fun b hb => (hrgB b hb).2)); clear ho hrgB
     have hq2 : Below w3.heap.size w3 wB := (show Below w3.heap.size w3 _ from hq1).trans (hcB.mono (show Below w3.heap.size w3 _ from hq1).size)
     replace HBX := bk HBX hcB hbxl
     replace hbxl := Nat.lt_of_lt_of_le hbxl hcB.size
     refine hK.out _ _ ?_ (fun hHeld => ?_)
     ·
      exact HS.out _ hq2
     clear hK K
     try simp only [pu]
     refine take_ready 4 rfl (by kernel_rfl) (fun K hK => ?_)
     go_simp
     go_at_call 20
     refine (J1.out _ _ _ _ _ (RB.out.up (Below.refl _ _))).mono ?_
     rintro e wC ⟨rfl, hcC⟩
     have hq3 : Below w3.heap.size w3 wC := (show Below w3.heap.size w3 _ from hq2).trans (hcC.mono (show Below w3.heap.size w3 _ from hq2).size)
     replace HBX := bk HBX hcC hbxl
     replace hbxl := Nat.lt_of_lt_of_le hbxl hcC.size
     obtain ⟨u0, u1, u2, uf⟩ := cells3 HBX
     refine hK.out _ _ ?_ (fun hHeld => ?_)
     ·
      exact HS.out _ hq3
     clear hK K
     try simp only [pu]
     refine tk 5 21 rfl rfl ?_
     try simp only [pu]
     refine tk 6 27 rfl rfl ?_
     try simp only [pu]
     refine tk 7 28 rfl rfl ?_
     try simp only [pu]
     refine take_ready 9 rfl (by kernel_rfl) (fun K hK => ?_)
     go_simp
     refine hK.out _ _ ?_ (fun hHeld => ?_)
     ·
      exact HS.out _ (((hq3.setCell hbxb _).setCell hbxb _).setCell hbxb _)
     clear hK K
     try simp only [pu]
     refine tk 10 7 rfl rfl ?_
     try simp only [pu]
     refine wpAnyH_done (by kernel_rfl) ?_ _
     go_wp2_with fail
     go_meet
     exact ⟨cutW_b HBX.out hq3 hbxb hbxl, rfl⟩
   case rest =>
    obtain ⟨⟨bp, rfl, HP0, hbw, hbp1, hbp2⟩, rfl⟩ := hcut
    obtain ⟨w4, rfl⟩ : ∃ x, x = wc := ⟨_, rfl⟩
    replace hB := bl_trans hB hbw
    have hz4 := hbw.size
    replace HD0 := bk HD0 hbw
    replace HE0 := bk HE0 hbw
    clear d0 d1 d2 df e0 e1 e2 e3 e4 e5 e6 e7 e8 e9 e10 ef
    obtain ⟨e0, e1, e2, e3, e4, e5, e6, e7, e8, e9, e10, ef⟩ := cells11 HE0
    have RE4 := Lib.hid (RE.out.up hbw)
    go_wp2_with fail
    refine (to_Entry en _ _ _ _ w4 RE4.out hz2).mono ?_
    rintro e w5 ⟨va', vf', vs', vr', bsB, rfl, ho, -, hrgB, hb5⟩
    obtain ⟨ya, yf', ys', yr', oa, of, oz, or, -⟩ := id ho
    obtain ⟨Aa2, ma2, ca2, rfl⟩ := oa.isSlice
    obtain ⟨Af2, mf2, cf2, rfl⟩ := of.1.isSlice
    obtain ⟨As2, ms2, cs2, rfl⟩ := oz.1.isSlice
    obtain ⟨Ar2, mr2, cr2, rfl⟩ := or.isSlice
    clear oa of oz or
    obtain ⟨w6, hw6, hb6, HX0, hs6⟩ := lay11 w5 (.int .i64 en.kd) (.string en.nm) (.string en.tn) (.string en.it.nm) (.int .i64 en.it.n) (.slice Aa2 ma2 ca2) (.int .i64 en.it.cl) (.int .i64 en.it.lb) (.slice Af2 mf2 cf2) (.slice As2 ms2 cs2) (.slice Ar2 mr2 cr2) 55
    have RX := Lib.hid ((ho.reads (B := w5.heap.size) (fun b hb => (hrgB b hb).2)).up hb6)
    clear ho hrgB
    have hz5 := hb5.size
    replace hB := bl_trans (bl_trans hB hb5) hb6
    replace HD0 := bk (bk HD0 hb5) hb6
    replace HE0 := bk (bk HE0 hb5) hb6
    replace HP0 := bk (bk HP0 hb5) hb6
    have hlt6 : w5.heap.size < w6.heap.size := by omega
    clear hs6 e0 e1 e2 e3 e4 e5 e6 e7 e8 e9 e10 ef
    have HW6 := Lib.hid hw6; clear hw6
    obtain ⟨d0, d1, d2, df⟩ := cells3 HD0
    obtain ⟨x0, x1, x2, x3, x4, x5, x6, x7, x8, x9, x10, xf⟩ := cells11 HX0
    go_upto_region 10 with fail
    rw [← HW6.out]
    go_cut [9, 10] (fun s s7 wx => CutW (.string R1) (.string R2) (.string R3) w6 s wx ∧ s7 = .bool rb)
    case first =>
     have HS := Lib.hid (show ∀ x : World, Below w6.heap.size w6 x → (fun w' : World => w'.cell? ⟨w.heap.size, 0, none⟩ = some (.string a) ∧ w'.cell? ⟨w.heap.size, 1, none⟩ = some (.string b) ∧ w'.cell? ⟨w.heap.size, 2, none⟩ = some (.string c) ∧ w'.cell? ⟨w5.heap.size, 0, none⟩ = some (.int .i64 en.kd) ∧ w'.cell? ⟨w5.heap.size, 1, none⟩ = some (.string en.nm) ∧ w'.cell? ⟨w5.heap.size, 2, none⟩ = some (.string en.tn) ∧ w'.cell? ⟨w5.heap.size, 3, none⟩ = some (.string en.it.nm) ∧ w'.cell? ⟨w5.heap.size, 4, none⟩ = some (.int .i64 en.it.n) ∧ w'.cell? ⟨w5.heap.size, 5, none⟩ = some (.slice Aa2 ma2 ca2) ∧ w'.cell? ⟨w5.heap.size, 6, none⟩ = some (.int .i64 en.it.cl) ∧ w'.cell? ⟨w5.heap.size, 7, none⟩ = some (.int .i64 en.it.lb) ∧ w'.cell? ⟨w5.heap.size, 8, none⟩ = some (.slice Af2 mf2 cf2) ∧ w'.cell? ⟨w5.heap.size, 9, none⟩ = some (.slice As2 ms2 cs2) ∧ w'.cell? ⟨w5.heap.size, 10, none⟩ = some (.slice Ar2 mr2 cr2)) x from fun x hx => ⟨(hx.cell (p := ⟨w.heap.size, 0, none⟩) (show w.heap.size < w6.heap.size by omega)).trans d0, (hx.cell (p := ⟨w.heap.size, 1, none⟩) (show w.heap.size < w6.heap.size by omega)).trans d1, (hx.cell (p := ⟨w.heap.size, 2, none⟩) (show w.heap.size < w6.heap.size by omega)).trans d2, (hx.cell (p := ⟨w5.heap.size, 0, none⟩) (show w5.heap.size < w6.heap.size by omega)).trans x0, (hx.cell (p := ⟨w5.heap.size, 1, none⟩) (show w5.heap.size < w6.heap.size by omega)).trans x1, (hx.cell (p := ⟨w5.heap.size, 2, none⟩) (show w5.heap.size < w6.heap.size by omega)).trans x2, (hx.cell (p := ⟨w5.heap.size, 3, none⟩) (show w5.heap.size < w6.heap.size by omega)).trans x3, (hx.cell (p := ⟨w5.heap.size, 4, none⟩) (show w5.heap.size < w6.heap.size by omega)).trans x4, (hx.cell (p := ⟨w5.heap.size, 5, none⟩) (show w5.heap.size < w6.heap.size by omega)).trans x5, (hx.cell (p := ⟨w5.heap.size, 6, none⟩) (show w5.heap.size < w6.heap.size by omega)).trans x6, (hx.cell (p := ⟨w5.heap.size, 7, none⟩) (show w5.heap.size < w6.heap.size by omega)).trans x7, (hx.cell (p := ⟨w5.heap.size, 8, none⟩) (show w5.heap.size < w6.heap.size by omega)).trans x8, (hx.cell (p := ⟨w5.heap.size, 9, none⟩) (show w5.heap.size < w6.heap.size by omega)).trans x9, (hx.cell (p := ⟨w5.heap.size, 10, none⟩) (show w5.heap.size < w6.heap.size by omega)).trans x10⟩)
     have hb0 := Below.refl w6.heap.size w6
     refine wp_region_held_drew (S := (fun w' : World => w'.cell? ⟨w.heap.size, 0, none⟩ = some (.string a) ∧ w'.cell? ⟨w.heap.size, 1, none⟩ = some (.string b) ∧ w'.cell? ⟨w.heap.size, 2, none⟩ = some (.string c) ∧ w'.cell? ⟨w5.heap.size, 0, none⟩ = some (.int .i64 en.kd) ∧ w'.cell? ⟨w5.heap.size, 1, none⟩ = some (.string en.nm) ∧ w'.cell? ⟨w5.heap.size, 2, none⟩ = some (.string en.tn) ∧ w'.cell? ⟨w5.heap.size, 3, none⟩ = some (.string en.it.nm) ∧ w'.cell? ⟨w5.heap.size, 4, none⟩ = some (.int .i64 en.it.n) ∧ w'.cell? ⟨w5.heap.size, 5, none⟩ = some (.slice Aa2 ma2 ca2) ∧ w'.cell? ⟨w5.heap.size, 6, none⟩ = some (.int .i64 en.it.cl) ∧ w'.cell? ⟨w5.heap.size, 7, none⟩ = some (.int .i64 en.it.lb) ∧ w'.cell? ⟨w5.heap.size, 8, none⟩ = some (.slice Af2 mf2 cf2) ∧ w'.cell? ⟨w5.heap.size, 9, none⟩ = some (.slice As2 ms2 cs2) ∧ w'.cell? ⟨w5.heap.size, 10, none⟩ = some (.slice Ar2 mr2 cr2))) (by kernel_rfl) ?_ (fun hHeld => ?_)
     ·
      exact HS.out _ hb0.drew
     refine tk 0 32 rfl rfl ?_
     try simp only [pu]
     refine tk 2 34 rfl rfl ?_
     try simp only [pu]
     refine take_ready2 1 7 rfl rfl (by kernel_rfl) (fun K hK => ?_) (fun K hK => ?_)
     ·
      go_simp
      go_at_call 9
      refine (to_disk a b c _).mono ?_
      rintro e wA ⟨rfl, hcA⟩
      have hq1 : Below w6.heap.size w6 wA := (show Below w6.heap.size w6 _ from hb0.drew).trans (hcA.mono (show Below w6.heap.size w6 _ from hb0.drew).size)
      refine hK.out _ _ ?_ (fun hHeld => ?_)
      ·
       exact HS.out _ hq1
      clear hK K
      try simp only [pu]
      refine take_ready2 3 7 rfl rfl (by kernel_rfl) (fun K hK => ?_) (fun K hK => ?_)
      ·
       go_simp
       go_at_call 22
       refine (J2.out _ (hB.trans ((show Below w6.heap.size w6 _ from hq1).mono hB.size)) _ _ _ _ (RX.out.up (show Below w6.heap.size w6 _ from hq1))).mono ?_
       rintro e wC ⟨rfl, hcC⟩
       have hq2 : Below w6.heap.size w6 wC := (show Below w6.heap.size w6 _ from hq1).trans (hcC.mono (show Below w6.heap.size w6 _ from hq1).size)
       refine hK.out _ _ ?_ (fun hHeld => ?_)
       ·
        exact HS.out _ hq2
       clear hK K
       try simp only [pu]
       refine tk 4 31 rfl rfl ?_
       try simp only [pu]
       refine tk 5 36 rfl rfl ?_
       try simp only [pu]
       refine tk 6 37 rfl rfl ?_
       try simp only [pu]
       refine take_ready 7 rfl (by kernel_rfl) (fun K hK => ?_)
       go_simp
       have hA := bl_alloc hq2 (.cells #[.string ⟨#[]⟩, .string ⟨#[]⟩, .string ⟨#[]⟩] 25)
       refine hK.out _ _ ?_ (fun hHeld => ?_)
       ·
        exact HS.out _ hA
       clear hK K
       try simp only [pu]
       refine take_ready 8 rfl (by kernel_rfl) (fun K hK => ?_)
       go_simp
       refine hK.out _ _ ?_ (fun hHeld => ?_)
       ·
        exact HS.out _ (bl_alloc hq2 _)
       clear hK K
       try simp only [pu]
       refine tk 9 10 rfl rfl ?_
       try simp only [pu]
       refine wpAnyH_done (by kernel_rfl) ?_ _
       go_wp2_with fail
       go_meet
       exact ⟨cutW_a hq2, rfl⟩
      ·
       go_simp
       have hA := bl_alloc hq1 (.cells #[.string ⟨#[]⟩, .string ⟨#[]⟩, .string ⟨#[]⟩] 25)
       refine hK.out _ _ ?_ (fun hHeld => ?_)
       ·
        exact HS.out _ hA
       clear hK K
       try simp only [pu]
       refine take_ready 3 rfl (by kernel_rfl) (fun K hK => ?_)
       go_simp
       go_at_call 22
       refine (J2.out _ (hB.trans ((show Below w6.heap.size w6 _ from hA).mono hB.size)) _ _ _ _ (RX.out.up (show Below w6.heap.size w6 _ from hA))).mono ?_
       rintro e wC ⟨rfl, hcC⟩
       have hq2 : Below w6.heap.size w6 wC := (show Below w6.heap.size w6 _ from hA).trans (hcC.mono (show Below w6.heap.size w6 _ from hA).size)
       have HBX := Lib.hid (show wC.heap[wA.heap.size]? = some (.cells #[.string ⟨#[]⟩, .string ⟨#[]⟩, .string ⟨#[]⟩] 25 (0, 0)) from (hcC.block (wA.heap.size) (by simp)).trans (heap_alloc_new wA (.cells #[.string ⟨#[]⟩, .string ⟨#[]⟩, .string ⟨#[]⟩] 25)))
       have hbxb : w6.heap.size ≤ wA.heap.size := (show Below w6.heap.size w6 _ from hq1).size
       have hbxl : wA.heap.size < wC.heap.size := by have := hcC.size; simp at this; omega
       obtain ⟨u0, u1, u2, uf⟩ := cells3 HBX
       refine hK.out _ _ ?_ (fun hHeld => ?_)
       ·
        exact HS.out _ hq2
       clear hK K
       try simp only [pu]
       refine tk 4 31 rfl rfl ?_
       try simp only [pu]
       refine tk 5 36 rfl rfl ?_
       try simp only [pu]
       refine tk 6 37 rfl rfl ?_
       try simp only [pu]
       refine take_ready 8 rfl (by kernel_rfl) (fun K hK => ?_)
       go_simp
       refine hK.out _ _ ?_ (fun hHeld => ?_)
       ·
        exact HS.out _ (((hq2.setCell hbxb _).setCell hbxb _).setCell hbxb _)
       clear hK K
       try simp only [pu]
       refine tk 9 10 rfl rfl ?_
       try simp only [pu]
       refine wpAnyH_done (by kernel_rfl) ?_ _
       go_wp2_with fail
       go_meet
       exact ⟨cutW_b HBX.out hq2 hbxb hbxl, rfl⟩
     ·
      go_simp
      have hA := bl_alloc hb0.drew (.cells #[.string ⟨#[]⟩, .string ⟨#[]⟩, .string ⟨#[]⟩] 25)
      refine hK.out _ _ ?_ (fun hHeld => ?_)
      ·
       exact HS.out _ hA
      clear hK K
      try simp only [pu]
      refine take_ready 1 rfl (by kernel_rfl) (fun K hK => ?_)
      go_simp
      go_at_call 9
      refine (to_disk a b c _).mono ?_
      rintro e wA ⟨rfl, hcA⟩
      have hq1 : Below w6.heap.size w6 wA := (show Below w6.heap.size w6 _ from hA).trans (hcA.mono (show Below w6.heap.size w6 _ from hA).size)
      have HBX := Lib.hid (show wA.heap[w6.heap.size]? = some (.cells #[.string ⟨#[]⟩, .string ⟨#[]⟩, .string ⟨#[]⟩] 25 (0, 0)) from (hcA.block (w6.heap.size) (by simp)).trans (heap_alloc_new w6.drew (.cells #[.string ⟨#[]⟩, .string ⟨#[]⟩, .string ⟨#[]⟩] 25)))
      have hbxb : w6.heap.size ≤ w6.heap.size := (show Below w6.heap.size w6 _ from hb0.drew).size
      have hbxl : w6.heap.size < wA.heap.size := by have := hcA.size; simp at this; omega
      refine hK.out _ _ ?_ (fun hHeld => ?_)
      ·
       exact HS.out _ hq1
      clear hK K
      try simp only [pu]
      refine take_ready 3 rfl (by kernel_rfl) (fun K hK => ?_)
      go_simp
      go_at_call 22
      refine (J2.out _ (hB.trans ((show Below w6.heap.size w6 _ from hq1).mono hB.size)) _ _ _ _ (RX.out.up (show Below w6.heap.size w6 _ from hq1))).mono ?_
      rintro e wC ⟨rfl, hcC⟩
      have hq2 : Below w6.heap.size w6 wC := (show Below w6.heap.size w6 _ from hq1).trans (hcC.mono (show Below w6.heap.size w6 _ from hq1).size)
      replace HBX := bk HBX hcC hbxl
      replace hbxl := Nat.lt_of_lt_of_le hbxl hcC.size
      obtain ⟨u0, u1, u2, uf⟩ := cells3 HBX
      refine hK.out _ _ ?_ (fun hHeld => ?_)
      ·
       exact HS.out _ hq2
      clear hK K
      try simp only [pu]
      refine tk 4 31 rfl rfl ?_
      try simp only [pu]
      refine tk 5 36 rfl rfl ?_
      try simp only [pu]
      refine tk 6 37 rfl rfl ?_
      try simp only [pu]
      refine take_ready 8 rfl (by kernel_rfl) (fun K hK => ?_)
      go_simp
      refine hK.out _ _ ?_ (fun hHeld => ?_)
      ·
       exact HS.out _ (((hq2.setCell hbxb _).setCell hbxb _).setCell hbxb _)
      clear hK K
      try simp only [pu]
      refine tk 9 10 rfl rfl ?_
      try simp only [pu]
      refine wpAnyH_done (by kernel_rfl) ?_ _
      go_wp2_with fail
      go_meet
      exact ⟨cutW_b HBX.out hq2 hbxb hbxl, rfl⟩
    case rest =>
     obtain ⟨⟨bq, rfl, HQ0, hbw2, hbq1, hbq2⟩, rfl⟩ := hcut
     obtain ⟨w7, rfl⟩ : ∃ x, x = wc := ⟨_, rfl⟩
     replace hB := bl_trans hB hbw2
     have hz7 := hbw2.size
     replace HE0 := bk HE0 hbw2
     replace HP0 := bk HP0 hbw2
     replace HX0 := bk HX0 hbw2
     have RX7 := Lib.hid (RX.out.up hbw2)
     clear d0 d1 d2 df x0 x1 x2 x3 x4 x5 x6 x7 x8 x9 x10 xf
     obtain ⟨p0, p1, p2, pf⟩ := cells3 HP0
     obtain ⟨q0, q1, q2, qf⟩ := cells3 HQ0
     go_wp2_with fail
     refine (eq_disk R1 R2 R3 w7).mono ?_
     rintro e w8 ⟨rfl, hb8⟩
     have hz8 := hb8.size
     replace hB := bl_trans hB hb8
     replace HE0 := bk HE0 hb8
     replace HX0 := bk HX0 hb8
     have RX8 := Lib.hid (RX7.out.up hb8)
     have RE8 := Lib.hid ((Re.out.below hB).more hB.size)
     clear p0 p1 p2 pf q0 q1 q2 qf
     obtain ⟨e0, e1, e2, e3, e4, e5, e6, e7, e8, e9, e10, ef⟩ := cells11 HE0
     obtain ⟨x0, x1, x2, x3, x4, x5, x6, x7, x8, x9, x10, xf⟩ := cells11 HX0
     go_wp2_with fail
     have HS := Lib.hid (show ∀ x : World, Below w8.heap.size w8 x → (fun w' : World => w'.cell? ⟨w5.heap.size, 0, none⟩ = some (.int .i64 en.kd) ∧ w'.cell? ⟨w5.heap.size, 1, none⟩ = some (.string en.nm) ∧ w'.cell? ⟨w5.heap.size, 2, none⟩ = some (.string en.tn) ∧ w'.cell? ⟨w5.heap.size, 3, none⟩ = some (.string en.it.nm) ∧ w'.cell? ⟨w5.heap.size, 4, none⟩ = some (.int .i64 en.it.n) ∧ w'.cell? ⟨w5.heap.size, 5, none⟩ = some (.slice Aa2 ma2 ca2) ∧ w'.cell? ⟨w5.heap.size, 6, none⟩ = some (.int .i64 en.it.cl) ∧ w'.cell? ⟨w5.heap.size, 7, none⟩ = some (.int .i64 en.it.lb) ∧ w'.cell? ⟨w5.heap.size, 8, none⟩ = some (.slice Af2 mf2 cf2) ∧ w'.cell? ⟨w5.heap.size, 9, none⟩ = some (.slice As2 ms2 cs2) ∧ w'.cell? ⟨w5.heap.size, 10, none⟩ = some (.slice Ar2 mr2 cr2) ∧ w'.cell? ⟨w.heap.size + 1, 0, none⟩ = some (.int .i64 en.kd) ∧ w'.cell? ⟨w.heap.size + 1, 1, none⟩ = some (.string en.nm) ∧ w'.cell? ⟨w.heap.size + 1, 2, none⟩ = some (.string en.tn) ∧ w'.cell? ⟨w.heap.size + 1, 3, none⟩ = some (.string en.it.nm) ∧ w'.cell? ⟨w.heap.size + 1, 4, none⟩ = some (.int .i64 en.it.n) ∧ w'.cell? ⟨w.heap.size + 1, 5, none⟩ = some (.slice Aa ma ca) ∧ w'.cell? ⟨w.heap.size + 1, 6, none⟩ = some (.int .i64 en.it.cl) ∧ w'.cell? ⟨w.heap.size + 1, 7, none⟩ = some (.int .i64 en.it.lb) ∧ w'.cell? ⟨w.heap.size + 1, 8, none⟩ = some (.slice Af mf cf) ∧ w'.cell? ⟨w.heap.size + 1, 9, none⟩ = some (.slice As ms cs) ∧ w'.cell? ⟨w.heap.size + 1, 10, none⟩ = some (.slice Ar mr cr)) x from fun x hx => ⟨(hx.cell (p := ⟨w5.heap.size, 0, none⟩) (show w5.heap.size < w8.heap.size by omega)).trans x0, (hx.cell (p := ⟨w5.heap.size, 1, none⟩) (show w5.heap.size < w8.heap.size by omega)).trans x1, (hx.cell (p := ⟨w5.heap.size, 2, none⟩) (show w5.heap.size < w8.heap.size by omega)).trans x2, (hx.cell (p := ⟨w5.heap.size, 3, none⟩) (show w5.heap.size < w8.heap.size by omega)).trans x3, (hx.cell (p := ⟨w5.heap.size, 4, none⟩) (show w5.heap.size < w8.heap.size by omega)).trans x4, (hx.cell (p := ⟨w5.heap.size, 5, none⟩) (show w5.heap.size < w8.heap.size by omega)).trans x5, (hx.cell (p := ⟨w5.heap.size, 6, none⟩) (show w5.heap.size < w8.heap.size by omega)).trans x6, (hx.cell (p := ⟨w5.heap.size, 7, none⟩) (show w5.heap.size < w8.heap.size by omega)).trans x7, (hx.cell (p := ⟨w5.heap.size, 8, none⟩) (show w5.heap.size < w8.heap.size by omega)).trans x8, (hx.cell (p := ⟨w5.heap.size, 9, none⟩) (show w5.heap.size < w8.heap.size by omega)).trans x9, (hx.cell (p := ⟨w5.heap.size, 10, none⟩) (show w5.heap.size < w8.heap.size by omega)).trans x10, (hx.cell (p := ⟨w.heap.size + 1, 0, none⟩) (show w.heap.size + 1 < w8.heap.size by omega)).trans e0, (hx.cell (p := ⟨w.heap.size + 1, 1, none⟩) (show w.heap.size + 1 < w8.heap.size by omega)).trans e1, (hx.cell (p := ⟨w.heap.size + 1, 2, none⟩) (show w.heap.size + 1 < w8.heap.size by omega)).trans e2, (hx.cell (p := ⟨w.heap.size + 1, 3, none⟩) (show w.heap.size + 1 < w8.heap.size by omega)).trans e3, (hx.cell (p := ⟨w.heap.size + 1, 4, none⟩) (show w.heap.size + 1 < w8.heap.size by omega)).trans e4, (hx.cell (p := ⟨w.heap.size + 1, 5, none⟩) (show w.heap.size + 1 < w8.heap.size by omega)).trans e5, (hx.cell (p := ⟨w.heap.size + 1, 6, none⟩) (show w.heap.size + 1 < w8.heap.size by omega)).trans e6, (hx.cell (p := ⟨w.heap.size + 1, 7, none⟩) (show w.heap.size + 1 < w8.heap.size by omega)).trans e7, (hx.cell (p := ⟨w.heap.size + 1, 8, none⟩) (show w.heap.size + 1 < w8.heap.size by omega)).trans e8, (hx.cell (p := ⟨w.heap.size + 1, 9, none⟩) (show w.heap.size + 1 < w8.heap.size by omega)).trans e9, (hx.cell (p := ⟨w.heap.size + 1, 10, none⟩) (show w.heap.size + 1 < w8.heap.size by omega)).trans e10⟩)
     have hb0 := Below.refl w8.heap.size w8
     refine wp_region_held_drew (S := (fun w' : World => w'.cell? ⟨w5.heap.size, 0, none⟩ = some (.int .i64 en.kd) ∧ w'.cell? ⟨w5.heap.size, 1, none⟩ = some (.string en.nm) ∧ w'.cell? ⟨w5.heap.size, 2, none⟩ = some (.string en.tn) ∧ w'.cell? ⟨w5.heap.size, 3, none⟩ = some (.string en.it.nm) ∧ w'.cell? ⟨w5.heap.size, 4, none⟩ = some (.int .i64 en.it.n) ∧ w'.cell? ⟨w5.heap.size, 5, none⟩ = some (.slice Aa2 ma2 ca2) ∧ w'.cell? ⟨w5.heap.size, 6, none⟩ = some (.int .i64 en.it.cl) ∧ w'.cell? ⟨w5.heap.size, 7, none⟩ = some (.int .i64 en.it.lb) ∧ w'.cell? ⟨w5.heap.size, 8, none⟩ = some (.slice Af2 mf2 cf2) ∧ w'.cell? ⟨w5.heap.size, 9, none⟩ = some (.slice As2 ms2 cs2) ∧ w'.cell? ⟨w5.heap.size, 10, none⟩ = some (.slice Ar2 mr2 cr2) ∧ w'.cell? ⟨w.heap.size + 1, 0, none⟩ = some (.int .i64 en.kd) ∧ w'.cell? ⟨w.heap.size + 1, 1, none⟩ = some (.string en.nm) ∧ w'.cell? ⟨w.heap.size + 1, 2, none⟩ = some (.string en.tn) ∧ w'.cell? ⟨w.heap.size + 1, 3, none⟩ = some (.string en.it.nm) ∧ w'.cell? ⟨w.heap.size + 1, 4, none⟩ = some (.int .i64 en.it.n) ∧ w'.cell? ⟨w.heap.size + 1, 5, none⟩ = some (.slice Aa ma ca) ∧ w'.cell? ⟨w.heap.size + 1, 6, none⟩ = some (.int .i64 en.it.cl) ∧ w'.cell? ⟨w.heap.size + 1, 7, none⟩ = some (.int .i64 en.it.lb) ∧ w'.cell? ⟨w.heap.size + 1, 8, none⟩ = some (.slice Af mf cf) ∧ w'.cell? ⟨w.heap.size + 1, 9, none⟩ = some (.slice As ms cs) ∧ w'.cell? ⟨w.heap.size + 1, 10, none⟩ = some (.slice Ar mr cr))) (by kernel_rfl) ?_ (fun hHeld => ?_)
     ·
      exact HS.out _ hb0.drew
     refine tk 0 47 rfl rfl ?_
     try simp only [pu]
     refine tk 1 48 rfl rfl ?_
     try simp only [pu]
     refine take_ready 2 rfl (by kernel_rfl) (fun K hK => ?_)
     go_simp
     go_at_call 21
     have hd8 : Below w8.heap.size w8 w8.drew := hb0.drew
     refine (to_Entry en _ _ _ _ w8.drew (RE8.out.up hd8) hz2).mono ?_
     rintro e w9 ⟨va', vf', vs', vr', bsB, rfl, ho, -, hrgB, hcB⟩
     obtain ⟨ya, yf', ys', yr', oa, of, oz, or, -⟩ := id ho
     obtain ⟨Aa3, ma3, ca3, rfl⟩ := oa.isSlice
     obtain ⟨Af3, mf3, cf3, rfl⟩ := of.1.isSlice
     obtain ⟨As3, ms3, cs3, rfl⟩ := oz.1.isSlice
     obtain ⟨Ar3, mr3, cr3, rfl⟩ := or.isSlice
     clear oa of oz or
     have RB := Lib.hid (ho.reads (B := w9.heap.size) (fun b hb => (hrgB b hb).2)); clear ho hrgB
     have hq9 : Below w8.heap.size w8 w9 := hd8.trans (hcB.mono hd8.size)
     refine hK.out _ _ ?_ (fun hHeld => ?_)
     ·
      exact HS.out _ hq9
     clear hK K
     try simp only [pu]
     refine take_ready 3 rfl (by kernel_rfl) (fun K hK => ?_)
     go_simp
     go_at_call 23
     refine (eq_Entry en _ _ _ _ _ _ _ _ w9 (RX8.out.up hq9) RB.out).mono ?_
     rintro e wz ⟨rfl, hcz⟩
     have hqz : Below w8.heap.size w8 wz := hq9.trans (hcz.mono hq9.size)
     refine hK.out _ _ ?_ (fun hHeld => ?_)
     ·
      exact HS.out _ hqz
     clear hK K
     try simp only [pu]
     refine tk 4 51 rfl rfl ?_
     try simp only [pu]
     refine wpAnyH_done (by kernel_rfl) ?_ _
     go_wp2_with fail
     go_ret
     exact ⟨rfl, bl_trans hB hqz⟩
  ·
   have e1 : szR lf (szEntry en) = -1 := by unfold szR; rw [if_neg h21]
   rw [e1]
   go_wp2_with fail
   go_ret
   exact ⟨rfl, hB⟩
 ·
  have e1 : szR 1048576 (a.size + b.size + c.size) = -1 := by unfold szR; rw [if_neg (by omega)]
  rw [e1]
  go_wp2_with fail
  go_ret
  exact ⟨rfl, hB⟩
theorem laidOut : laidOutB Tryz.prog = true := by kernel_rfl
theorem own : ownKnob Tryz.prog.godebug = none := by kernel_rfl
set_option maxRecDepth 100000 in
theorem lifted (os : Os) (started : os.Started) (H : Type) (enc : TypeId × Value → H) :
  ReturnsInHanded {} Tryz.checked os 6 .any (fun w args => (Rows.fnExactWriteLabSpec.pre enc Tryz.prog Tryz.f6 [] false w args ∧ laidMetH Tryz.prog Rows.fnExactWriteLabRow.laid w) ∧ sizedMet enc Tryz.prog Tryz.f6 (OpenSpec.ofChange Rows.fnExactWriteLabSpec) false w args)
   (Rows.fnExactWriteLabSpec.post enc Tryz.prog Tryz.f6 false true false false) := by
 refine law_lifted (C := Tryz.checked) (X := fun w _ => laidMetH Tryz.prog Rows.fnExactWriteLabRow.laid w) (fun _ _ _ hh h => h.of_heap hh) own started (by kernel_rfl) Tryz.func6
  laidOut (by kernel_rfl) rfl (by kernel_rfl) Tryz.underlying4 (fun ds h => by match ds, h with | [_, _], _ => rfl)
  (ChangeSpec.witness_shaped (enc := enc) (C := Tryz.checked) (os := os) (X := fun w _ => laidMetH Tryz.prog Rows.fnExactWriteLabRow.laid w) false (World.laidAll Tryz.prog os Rows.fnExactWriteLabRow.laid) #[.agg #[.string ByteArray.empty, .string ByteArray.empty, .string ByteArray.empty], .agg #[.int .i64 0, .string ⟨#[]⟩, .string ⟨#[]⟩, .string ⟨#[]⟩, .int .i64 0, .slice none 0 0, .int .i64 0, .int .i64 0, .slice none 0 0, .slice none 0 0, .slice none 0 0]] 8 (World.laidAll_os _ _ _)
   (World.shaped_of_ZipB (by kernel_rfl) (by kernel_rfl)) (by kernel_rfl) (by kernel_rfl) (by kernel_rfl)
   (by rw [MakeChecks.laidMetH_plain _ _ _ (by kernel_rfl)]; exact laidMet_laidAll _ (by kernel_rfl) (by kernel_rfl))) ?_
 intro W base args ds p hval0 hA0 hlt hL hsh
 have hval : ∀ (j : Nat) t v, Tryz.f6.params[j]? = some t → args[j]? = some v → Value.okWide Tryz.prog W .any base t v := hval0
 have hA : DataW.TrodAll enc Tryz.prog W 0 (fun _ => true) true Tryz.f6.params.toList args.toList ds p := hA0
 rw [Tryz.params6] at hA hval
 obtain ⟨v0, vs0, d0, ds0, p0, q0, hargs, rfl, rfl, h0, r0⟩ := trodAll_cons hA
 obtain ⟨v1, vs1, d1, ds1, p1, q1, rfl, rfl, rfl, h1, r1⟩ := trodAll_cons r0
 obtain ⟨rfl, rfl, rfl⟩ := trodAll_nil r1
 obtain rfl : args = #[v0, v1] := by cases args; simp_all
 obtain ⟨z0, z1, z2, y0, y1, y2, nn, rfl, rfl, -, hy0, hy1, hy2⟩ := open_agg3 Tryz.underlying23 (by kernel_rfl) (by kernel_rfl) (hval 0 23 v0 rfl rfl) h0
 obtain ⟨s0, e0, -, w0⟩ := DataW.trod_string Tryz.underlying9 hy0
 obtain ⟨s1, e1, -, w1⟩ := DataW.trod_string Tryz.underlying9 hy1
 obtain ⟨s2, e2, -, w2⟩ := DataW.trod_string Tryz.underlying9 hy2
 simp only [List.cons.injEq, and_true] at e0 e1 e2
 subst e0 e1 e2
 obtain ⟨cs, rfl, hsz⟩ := okWide_struct Tryz.underlying47 (hval 1 47 v1 rfl rfl)
 obtain ⟨fuel1, hf1⟩ := h1
 obtain ⟨en, va, vf, vs, vr, e2, hr1, g1, g2, g3, hlb⟩ := entry_of_trod hf1
 obtain rfl : cs = (entryL en va vf vs vr).toArray := by
  obtain ⟨l⟩ := cs
  simpa [Value.cells] using e2
 rw [MakeChecks.laidMetH_plain _ _ _ (by kernel_rfl)] at hL
 have hP : Pow10 W := pow10_of_laid (r := Rows.fnExactWriteLabRow.laid.drop 3) 2 (by kernel_rfl) hL
 exact walk s0 s1 s2 en va vf vs vr W w0 w1 w2 hr1 g1 g2 g3 hlb (cell_of_shapedOpen_int (zero := #[.int .i64 0]) (t := 3) hsh (of_decide_eq_true (by kernel_rfl)) (by kernel_rfl) rfl (by kernel_rfl) (by kernel_rfl) Tryz.underlying3) hP
  (err_of_laid (d := Rows.laid_strconv_ErrSyntax) (r := Rows.fnExactWriteLabRow.laid.drop 6) 5 (by kernel_rfl) hL)
theorem over : Rows.FnExactWriteLabSaid :=
  OpenClaim.holds_of_wide 6 Tryz.f6 rfl rfl rfl rfl rfl rfl rfl ⟨rfl, rfl, rfl, rfl, rfl⟩ rfl rfl rfl rfl rfl (by kernel_rfl) Tryz.func6 (by kernel_rfl)
    (of_decide_eq_true (by kernel_rfl)) (by unfold Func.isWrapper; first | (rw [if_pos (by decide +kernel)]; kernel_rfl) | (rw [if_neg (by decide +kernel)]; exact ⟨rfl, rfl⟩))
    (fun os started H enc _ => lifted os started H enc)
theorem proved : Rows.FnExactWriteLabCardSaid :=
  Claim7.holds_tied_plain_at .later [] [.data, .data, .data, .data, .sentinel, .sentinel, .pinned] true Rows.fnExactWriteLabCard.stood.harness true
    over (fun _ h => by cases h) (by kernel_rfl) (fun _ h => by cases h) fnExactWriteLab_row_tie rfl ⟨rfl, rfl⟩ (by kernel_rfl) rfl
    (fun f fn hf hfn => by
      obtain rfl : f = 6 := Option.some.inj ((show Tryz.prog.funcNamed Rows.fnExactWriteLabRow.func = some 6 by kernel_rfl).symm.trans hf) |>.symm
      obtain rfl : fn = Tryz.f6 := (Option.some.inj (Tryz.func6.symm.trans hfn)).symm
      exact ⟨by kernel_rfl, fun j t ht => by
        rw [Tryz.params6] at ht
        have hm : t ∈ [23, 47] := by simpa using Array.mem_of_getElem? ht
        have hall : ([23, 47].all fun u => !Tryz.prog.wantsStandIn u) = true := by kernel_rfl
        exact (show Tryz.prog.wantsStandIn t = false by simpa using List.all_eq_true.1 hall t hm)⟩)
    (by kernel_rfl)
#print axioms proved
end Go.Proofs.YtcfbkickiijjkaaGreatDoor.fnExactWriteLab
