/-
  The state at the start: the reference's syStart, the program's startAsync. No condition but that the machine runs on the network.
-/
import Derived.Test.YtehkcodbcnhhoaaGreatEOf3
import Derived.Test.YtehkcodbcnhhoaaGreatEUnlab
namespace Go.Proofs.YtehkcodbcnhhoaaGreat
open Go.RowKit
set_option linter.all false
def SxRel (m : Mach) (n : Net) (sl : Nat → List (List Int)) (P : Nat) (w : World) (i : Value) (wr : World) : Prop :=
  ∃ (k : Nat) (val : Key → Value), k ≤ n.es.length ∧ i = .int .i64 k ∧ AsyB wr w.heap.size val ⟨List.replicate n.es.length 0, startS m n, startS m n, sl k, (freeF n).take k⟩ P ∧ Below w.heap.size w wr
theorem made_let (W : World) (n : Nat) (hn : n ≤ 1000) : ∃ P w0, W.heap.size = P ∧ w0 = W.alloc (.cells (rowOf [] n nilV) 117) ∧ Below W.heap.size W w0 ∧ w0.ownsRow W.heap.size 117 1 (.slice (some ⟨P, 0, none⟩) n n) n (List.replicate n nilV) :=
  ⟨_, _, rfl, rfl, bl_alloc (Below.refl _ _) _, own_madeZ W _ n nilV (by unfold maxLen; omega)⟩
theorem startS_len (m : Mach) (n : Net) : (startS m n).length = n.es.length := by simp [startS, startK]
theorem freeF_at {n : Net} {k : Nat} {l : Ends} (h : n.es[k]? = some l) : (freeF n)[k]? = some (List.replicate l.length []) := by unfold freeF; rw [List.getElem?_map, h]; rfl
theorem freeS_at {n : Net} {k : Nat} {l : Ends} (h : n.es[k]? = some l) : (freeS n)[k]? = some (List.replicate l.length (-1)) := by unfold freeS; rw [List.getElem?_map, h]; rfl
set_option maxRecDepth 100000 in
set_option maxHeartbeats 8000000 in
theorem spec_syStart (vs ve vc vo : Value) (m : Mach) (ne ni nn : Value) (n : Net) (w : World) (hm : MachR w w.heap.size vs ve vc vo m) (hn : NetR w w.heap.size ne ni nn n) (hg : fitP m n) :
  Calls Tryz.prog 23 #[machV vs ve vc vo m, .agg #[ne, ni, nn]] w fun e w' => ∃ val, e = .returned (.agg #[val .r, val .b, val .n, val .s, val .f]) ∧ AsyK w' w.heap.size val (startX m n) ∧ Below w.heap.size w w' := by
 unfold machV
 have h40 := hg.2.1.1.2
 have HG := Lib.hid hg
 obtain ⟨⟨A0, m0, c0, rfl⟩, ⟨A1, m1, c1, rfl⟩, ⟨A2, m2, c2, rfl⟩, A3, m3, c3, rfl⟩ := hm.slices
 have hne := hn.e
 obtain ⟨A4, c4, rfl, hc4, hM4, hr4⟩ := hne
 obtain ⟨-, ⟨A5, m5, c5, rfl⟩, A6, m6, c6, rfl⟩ := hn.slices
 unfold maxLen at hM4
 have HR4 := Lib.hid hr4
 clear hr4 hg
 obtain ⟨w0, hw0, hb0, HM, hz0, HS0⟩ := box7 w (.int .i64 m.deg) (.int .i64 m.st) (.int .i64 m.msg) (.slice A0 m0 c0) (.slice A1 m1 c1) (.slice A2 m2 c2) (.slice A3 m3 c3) 39
 obtain ⟨w1, hw1, hb1, HD, hz1, HS1⟩ := box3 w0 (.slice A4 n.es.length c4) (.slice A5 m5 c5) (.slice A6 m6 c6) 43
 replace HM := bk HM hb1
 have hB : Below w.heap.size w w1 := bl_trans (hb0) hb1
 have HW := Lib.hid (show w1 = (w.alloc (.cells #[.int .i64 m.deg, .int .i64 m.st, .int .i64 m.msg, .slice A0 m0 c0, .slice A1 m1 c1, .slice A2 m2 c2, .slice A3 m3 c3] 39)).alloc (.cells #[.slice A4 n.es.length c4, .slice A5 m5 c5, .slice A6 m6 c6] 43) by rw [hw1, hw0])
 obtain ⟨P1, hP1⟩ : ∃ z, z = w0.heap.size := ⟨_, rfl⟩
 have HP1 := Lib.hid (show w.heap.size + 1 = P1 by rw [hP1, HS0.out])
 have hPl1 : w.heap.size < P1 := by rw [← HP1.out]; omega
 rw [← hP1] at HD hz1
 obtain ⟨⟨g0, g1, g2⟩, ⟨g3, g4, g5, g6⟩, gf⟩ := cells7 HM
 obtain ⟨q0, q1, q2, qf⟩ := cells3 HD
 have eg0 := g0
 have eg1 := g1
 have eg2 := g2
 have eg3 := g3
 have eg4 := g4
 have eg5 := g5
 have eg6 := g6
 have eq0 := q0
 have eq1 := q1
 have eq2 := q2
 rw [HW.out] at eg0 eg1 eg2 eg3 eg4 eg5 eg6 eq0 eq1 eq2
 rw [← HP1.out] at eq0 eq1 eq2
 have hzb0 : w.heap.size < w1.heap.size := by omega
 have hzb1 : P1 < w1.heap.size := by omega
 have HR := Lib.hid (hm.up hB)
 have HN := Lib.hid (hn.up hB)
 clear hw1 hw0 hP1
 obtain ⟨w2, hw2, hb2, HQ, hz2, HS2⟩ := box5 w1 nilV nilV nilV nilV nilV 34
 unfold nilV at hw2 HQ
 obtain ⟨P2, hP2⟩ : ∃ z, z = w1.heap.size := ⟨_, rfl⟩
 have HP2 := Lib.hid (show P1 + 1 = P2 by rw [hP2, HS1.out, HS0.out, ← HP1.out])
 rw [← hP2] at HQ hz2
 have HW2 := Lib.hid hw2
 have hP12 : P1 < P2 := by rw [← HP2.out]; omega
 clear hw2 hP2
 have hmk := fun W => run_make1 (P := Tryz.prog) 24 3 (.int .i64 0) 8 Tryz.underlying24 intInfo rfl n.es.length (by omega) (by omega) W
 go_enter Tryz.func23, Tryz.ntmps23
 go_wp2_with fail
 rw [HP1.out, ← HW.out]
 clear eg0 eg1 eg2 eg3 eg4 eg5 eg6 eq0 eq1 eq2
 rw [HP2.out, ← HW2.out]
 clear g0 g1 g2 g3 g4 g5 g6 gf q0 q1 q2 qf
 replace HM := bk HM hb2
 replace HD := bk HD hb2
 replace hB := bl_trans hB hb2
 replace HR := Lib.hid (HR.out.up hb2)
 replace HN := Lib.hid (HN.out.up hb2)
 have hwP : w.heap.size ≤ P2 := by omega
 rename_i K hrest
 have FIN0 : ∀ (W : World) (PX : Nat) (v0 v1 v2 : Value), Below w2.heap.size w2 W → w2.heap.size ≤ PX → (∃ val : Key → Value, v0 = val .r ∧ v1 = val .b ∧ v2 = val .n ∧ AsyB W w2.heap.size val ⟨List.replicate n.es.length 0, startS m n, startS m n, [], []⟩ PX) →
   K ⟨#[.agg #[.int .i64 m.deg, .int .i64 m.st, .int .i64 m.msg, .slice A0 m0 c0, .slice A1 m1 c1, .slice A2 m2 c2, .slice A3 m3 c3], .agg #[.slice A4 n.es.length c4, .slice A5 m5 c5, .slice A6 m6 c6], .pointer (some ⟨w.heap.size, 0, none⟩), .pointer (some ⟨P1, 0, none⟩), .pointer (some ⟨P2, 0, none⟩), .pointer (some ⟨PX, 0, none⟩), undef, undef, .pointer (some ⟨P1, 0, none⟩), .slice A4 n.es.length c4, .int .i64 (n.es.length : Int), v0, .agg #[.int .i64 m.deg, .int .i64 m.st, .int .i64 m.msg, .slice A0 m0 c0, .slice A1 m1 c1, .slice A2 m2 c2, .slice A3 m3 c3], .agg #[.slice A4 n.es.length c4, .slice A5 m5 c5, .slice A6 m6 c6], v1, .agg #[.int .i64 m.deg, .int .i64 m.st, .int .i64 m.msg, .slice A0 m0 c0, .slice A1 m1 c1, .slice A2 m2 c2, .slice A3 m3 c3], .agg #[.slice A4 n.es.length c4, .slice A5 m5 c5, .slice A6 m6 c6], v2, .agg #[v0, v1, v2, .slice none 0 0, .slice none 0 0], undef, undef, undef, undef, undef, undef, undef, undef, undef, undef, undef, undef, undef, undef, undef, undef, undef, undef, undef, undef, undef, undef, undef, undef, undef], []⟩ W := by
  intro W PX v0 v1 v2 hBW hPX hK0
  obtain ⟨val, -, -, -, hk0⟩ := hK0
  refine hrest _ _ ?_
  have HK0 := Lib.hid hk0
  clear hk0 hrest hmk
  have HDW := bk HD hBW
  obtain ⟨q0, q1, q2, qf⟩ := cells3 HDW
  go_wp2_with fail
  go_loopw [22] (fun i wr => SxRel m n (fun k => (freeS n).take k) PX w2 i wr) (fun i _ => n.es.length - (intOf i).toNat)
  case atStart => exact ⟨0, val, Nat.zero_le _, rfl, HK0.out, hBW⟩
  case round =>
   obtain ⟨k, vk, hk, rfl, hkk, hbl⟩ := hrel
   have HK := Lib.hid hkk
   have hsz := hbl.size
   have hPr := hkk.lt
   have hBr := bl_trans hB hbl
   have HDr := bk HD hbl
   have HQr := bk HQ hbl
   clear q0 q1 q2 qf hkk
   obtain ⟨q0, q1, q2, qf⟩ := cells3 HDr
   by_cases hlt : k < n.es.length
   ·
    obtain ⟨l, hl⟩ : ∃ y, n.es[k]? = some y := ⟨_, List.getElem?_eq_getElem hlt⟩
    have hl6 := (HG.out.2.1.2.2.2.2 k l hl).1
    obtain ⟨ad4, rfl, ha4, hrow4⟩ := HR4.out (by omega)
    obtain ⟨u4, hu4, hz4⟩ := hrow4 k l hl
    obtain ⟨B4, d4, rfl, hd4, hD4, -, -⟩ := hz4
    have c4k := (hBr.cell (p := ad4.add k) (by rw [block_add]; exact ha4)).trans hu4
    have HL := Lib.hid hl
    have hkn : (k : Int) < (n.es.length : Int) := by omega
    have hlf : ((freeF n).take k).length = k := by rw [List.length_take]; unfold freeF; simp; omega
    have HLF := Lib.hid hlf
    have hmk2 := fun W => run_make1 (P := Tryz.prog) 90 117 nilV 24 Tryz.underlying90 sliceInfo2 rfl l.length (by omega) (by omega) W
    have HMK2 := Lib.hid hmk2
    clear hl hu4 hrow4 hlf hmk2
    have hls : ((freeS n).take k).length = k := by rw [List.length_take]; unfold freeS; simp; omega
    have HLS := Lib.hid hls
    have hos := HK.out.k.own .s trivial
    replace hos : wr.ownsRow w2.heap.size 24 1 (vk .s) ((freeS n).take k).length (valsOf .sl vk ((freeS n).take k).length) := hos
    rw [hls] at hos
    obtain ⟨As, cs, eks⟩ := own_sl1 hos
    have HOS := Lib.hid hos
    have HEK := Lib.hid eks
    have q3 : wr.cell? ⟨PX, 3, none⟩ = some (.slice As k cs) := by rw [cell_of_row _ _ 3 _ _ (0, 0) HK.out.box, ← eks]; rfl
    clear hos eks hls
    go_wp2_with fail
    refine till_region (S := fun w' => w'.cell? ⟨PX, 3, none⟩ = some (.slice As k cs)) (st := 8) (by kernel_rfl) q3 (fun hHeld => ?_)
    refine utf 0 26 ?_
    refine utk 1 27 ?_
    refine utf 2 28 ?_
    refine utf 3 29 ?_
    refine ur 4 rfl (by kernel_rfl) (fun K hK => ?_)
    go_simp
    go_at_call 54
    refine (spec_roFree l.length wr.drew (by omega)).mono ?_
    rintro e w5 ⟨v5, rfl, o5, hb5'⟩
    have hb5 : Below wr.heap.size wr w5 := (Below.refl _ _).drew.trans hb5'
    replace o5 : w5.ownsRow wr.heap.size 3 1 v5 l.length ((List.replicate l.length (-1)).map intV) := o5
    obtain ⟨B5, d5, rfl⟩ := own_sl1 o5
    have HO5 := Lib.hid o5
    have hz5 := hb5.size
    have HOS5 := Lib.hid (by have := own_up HOS.out hb5; rw [HEK.out] at this; exact this : w5.ownsRow w2.heap.size 24 1 (.slice As k cs) k (valsOf .sl vk k))
    replace q3 := (hb5.cell (p := ⟨PX, 3, none⟩) hPr).trans q3
    have HQ3 := Lib.hid q3
    have HBX5 := Lib.hid ((hb5.block PX hPr).trans HK.out.box)
    clear hb5' o5
    refine hK.out (fun _ => q3) ?_
    clear hK K
    try simp only [Act.put, pu]
    refine ur 5 rfl (by kernel_rfl) (fun K hK => ?_)
    go_simp
    replace q3 := Lib.cell?_alloc_some (.cells #[.slice B5 l.length d5] 24) q3
    refine hK.out (fun _ => q3) ?_
    clear hK K
    try simp only [Act.put, pu]
    refine ur 6 rfl (by kernel_rfl) (fun K hK => ?_)
    rw [if_pos (by rfl)]
    refine oper_append1 w5 (.tmp 27) (.tmp 31) 22 rfl w2.heap.size 24 _ 24 Tryz.underlying22 sliceInfo1 rfl _ _ _ rfl _ rfl rfl HOS5.out (by unfold maxLen; omega) (by omega) (by omega) ?_
    intro v6 w6 hown6 hbl6 hgr6 hlt6 hob6
    obtain ⟨A6', c6', rfl⟩ := own_sl1 hown6
    have hneP : (Value.slice As k cs).ownBlock ≠ some PX := by
     have := HK.out.ne .s trivial
     rw [HEK.out] at this
     exact this
    have hkP := hgr6.block PX (by omega) (fun e => hneP e.symm)
    clear q3
    have q3 := (World.cell?_of_block (a := ⟨PX, 3, none⟩) hkP).trans HQ3.out
    have f3 : w6.frozen? ⟨PX, 3, none⟩ = false := frozen_of_row _ _ 3 _ _ (hkP.trans HBX5.out)
    refine hK.out (fun _ => q3) ?_
    clear hK K
    try simp only [Act.put, pu]
    refine utf 7 33 ?_
    refine ur 8 rfl (by kernel_rfl) (fun K hK => ?_)
    go_simp
    obtain ⟨w7, hw7⟩ : ∃ z, z = w6.setCell ⟨PX, 3, none⟩ (.slice A6' (k + 1) c6') := ⟨_, rfl⟩
    rw [← hw7]
    obtain ⟨val1, -, hk1⟩ := HK.out.addSlots (s := List.replicate l.length (-1)) hb5 hsz (by rw [List.length_replicate]; exact HO5.out) (w2 := w6) (v2 := .slice A6' (k + 1) c6') (by rw [HEK.out]; exact hgr6) (by show w6.ownsRow _ _ _ _ (((freeS n).take k).length + 1) (valsOf .sl vk ((freeS n).take k).length ++ _); rw [HLS.out]; exact hown6) (by rw [HEK.out]; exact hob6.imp id fun ⟨g, h1, h2, _⟩ => ⟨g, h1, h2⟩)
    rw [← hw7] at hk1
    replace hk1 : AsyB w7 w2.heap.size val1 ⟨List.replicate n.es.length 0, startS m n, startS m n, (freeS n).take (k + 1), (freeF n).take k⟩ PX := by rw [take_snoc (freeS_at HL.out)]; exact hk1
    have HM1 := Lib.hid hk1
    have HB17 := Lib.hid (show Below w2.heap.size w2 w7 by rw [hw7]; exact ((hbl.trans (hb5.mono hsz)).trans hbl6).setCell (p := ⟨PX, 3, none⟩) hPX _)
    clear hk1 hw7 q3 f3 hkP hneP hown6 hbl6 hgr6 hob6
    refine hK.out (fun h' => till_no h' (by kernel_rfl)) ?_
    clear hK K
    try simp only [Act.put, pu]
    refine wpTill_done (by kernel_rfl) ?_ _
    have hlw := HB17.out
    have HDs := bk HD hlw
    clear q0 q1 q2 qf
    obtain ⟨q0, q1, q2, qf⟩ := cells3 HDs
    have hof := HM1.out.k.own .f trivial
    replace hof : w7.ownsRow w2.heap.size 90 1 (val1 .f) ((freeF n).take k).length (valsOf .fr val1 ((freeF n).take k).length) := hof
    rw [HLF.out] at hof
    obtain ⟨Af, cf, ekf⟩ := own_sl1 hof
    have HOF := Lib.hid hof
    have HEF := Lib.hid ekf
    have hPx := HM1.out.lt
    have hsz7 := hlw.size
    have q4 : w7.cell? ⟨PX, 4, none⟩ = some (.slice Af k cf) := by rw [cell_of_row _ _ 4 _ _ (0, 0) HM1.out.box, ← ekf]; rfl
    clear hof ekf
    go_wp2_with fail
    have hmk2 := HMK2.out
    refine till_region (S := fun w' => w'.cell? ⟨PX, 4, none⟩ = some (.slice Af k cf)) (st := 8) (by kernel_rfl) q4 (fun hHeld => ?_)
    refine utf 0 34 ?_
    refine utk 1 35 ?_
    refine utf 2 36 ?_
    refine utf 3 37 ?_
    refine ur 4 rfl (by kernel_rfl) (fun K hK => ?_)
    go_simp
    obtain ⟨w8, hw8⟩ : ∃ z, z = w7.drew := ⟨_, rfl⟩
    have hz8 : w8.heap.size = w7.heap.size := by rw [hw8]; rfl
    obtain ⟨Pm, w9, hPm, hw9, hb9', o9⟩ := made_let w8 l.length (by omega)
    rw [show (w7.alloc (.cells (rowOf [] l.length nilV) 117)).drew = w9 by rw [hw9, hw8]; rfl, show w7.heap.size = Pm by rw [← hz8, hPm]]
    have hb9 : Below w7.heap.size w7 w9 := by rw [← hz8]; exact Below.trans (by rw [hw8]; exact (Below.refl _ _).drew) hb9'
    rw [hz8] at o9
    obtain ⟨vf, hvf, hkf⟩ := HM1.out.makeF hb9 hsz7 o9
    have HVF := Lib.hid hvf
    have HKF := Lib.hid hkf
    have hz9 := hb9.size
    clear hw8 hw9 hb9' o9 hmk2 hvf hkf
    replace q4 := (hb9.cell (p := ⟨PX, 4, none⟩) hPx).trans q4
    have HQ4 := Lib.hid q4
    have hfl := HKF.out.flow
    replace hfl : w9.ownsRow w2.heap.size 90 1 (vf .f) ((freeF n).take k).length (valsOf .fr vf ((freeF n).take k).length) := hfl
    rw [HLF.out] at hfl
    have hbf := HKF.out.box
    have hef : vf .f = .slice Af k cf := by
     have h1 := hbf
     have h2 := cell_of_row _ _ 4 _ _ (0, 0) hbf
     rw [q4] at h2
     exact (Option.some.inj h2).symm
    have HEFF := Lib.hid hef
    rw [hef] at hfl
    have HFL := Lib.hid hfl
    have HBF := Lib.hid hbf
    clear hfl hbf hef
    refine hK.out (fun _ => q4) ?_
    clear hK K
    try simp only [Act.put, pu]
    refine ur 5 rfl (by kernel_rfl) (fun K hK => ?_)
    go_simp
    replace q4 := Lib.cell?_alloc_some (.cells #[.slice (some ⟨Pm, 0, none⟩) l.length l.length] 90) q4
    refine hK.out (fun _ => q4) ?_
    clear hK K
    try simp only [Act.put, pu]
    refine ur 6 rfl (by kernel_rfl) (fun K hK => ?_)
    rw [if_pos (by rfl)]
    refine oper_append1 w9 (.tmp 35) (.tmp 39) 32 rfl w2.heap.size 90 _ 24 Tryz.underlying32 sliceInfo3 rfl _ _ _ rfl _ rfl rfl HFL.out (by unfold maxLen; omega) (by omega) (by omega) ?_
    intro v6 wz hown6 hbl6 hgr6 hlt6 hob6
    obtain ⟨A7', c7', rfl⟩ := own_sl1 hown6
    have hneP : (Value.slice Af k cf).ownBlock ≠ some PX := by
     have := HKF.out.ne .f trivial
     rw [HEFF.out] at this
     exact this
    have hkP := hgr6.block PX (by omega) (fun e => hneP e.symm)
    clear q4
    have q4 := (World.cell?_of_block (a := ⟨PX, 4, none⟩) hkP).trans HQ4.out
    have f4 : wz.frozen? ⟨PX, 4, none⟩ = false := frozen_of_row _ _ 4 _ _ (hkP.trans HBF.out)
    refine hK.out (fun _ => q4) ?_
    clear hK K
    try simp only [Act.put, pu]
    refine utf 7 41 ?_
    refine ur 8 rfl (by kernel_rfl) (fun K hK => ?_)
    go_simp
    obtain ⟨wy, hwy⟩ : ∃ z, z = wz.setCell ⟨PX, 4, none⟩ (.slice A7' (k + 1) c7') := ⟨_, rfl⟩
    rw [← hwy]
    obtain ⟨val3, hk3⟩ := HKF.out.fin (v2 := .slice A7' (k + 1) c7') (by rw [HEFF.out]; exact hgr6) (by
     show wz.ownsRow _ _ _ _ (((freeF n).take k).length + 1) (valsOf .fr vf ((freeF n).take k).length ++ [vf (.fr ((freeF n).take k).length)])
     rw [HLF.out]
     have hv := HVF.out
     replace hv : vf (.fr ((freeF n).take k).length) = _ := hv
     rw [HLF.out] at hv
     rw [hv]
     exact hown6) (by rw [HEFF.out]; exact hob6.imp id fun ⟨g, h1, h2, _⟩ => ⟨g, h1, h2⟩)
    rw [← hwy] at hk3
    replace hk3 : AsyB wy w2.heap.size val3 ⟨List.replicate n.es.length 0, startS m n, startS m n, (freeS n).take (k + 1), (freeF n).take (k + 1)⟩ PX := by rw [take_snoc (freeF_at HL.out)]; exact hk3
    have HM3 := Lib.hid hk3
    have HB19 := Lib.hid (show Below w2.heap.size w2 wy by rw [hwy]; exact ((hlw.trans (hb9.mono hsz7)).trans hbl6).setCell (p := ⟨PX, 4, none⟩) hPX _)
    clear hk3 hwy q4 f4 hkP hneP hown6 hbl6 hgr6 hob6
    refine hK.out (fun h' => till_no h' (by kernel_rfl)) ?_
    clear hK K
    try simp only [Act.put, pu]
    refine wpTill_done (by kernel_rfl) ?_ _
    go_wp2_with fail
    go_roundw
    case rel => exact ⟨k + 1, val3, by omega, by go_num, HM3.out, HB19.out⟩
    case measure => simp [intOf]; omega
   ·
    obtain rfl : k = n.es.length := by omega
    have hkx := HK.out
    have e1 : (freeF n).take n.es.length = freeF n := List.take_of_length_le (by simp [freeF])
    have e2 : (freeS n).take n.es.length = freeS n := List.take_of_length_le (by simp [freeS])
    have hkx : AsyB wr w2.heap.size vk (startX m n) PX := by
     have h1 := HK.out
     (try dsimp only at h1)
     (try rw [e1] at h1)
     (try rw [e2] at h1)
     exact h1
    have HKX := Lib.hid hkx
    obtain ⟨C0, k0, ek0⟩ := own_sl1 (hkx.k.own .r trivial)
    obtain ⟨C1, k1, ek1⟩ := own_sl1 (hkx.k.own .b trivial)
    obtain ⟨C2, k2, ek2⟩ := own_sl1 (hkx.k.own .n trivial)
    obtain ⟨C3, k3, ek3⟩ := own_sl1 (hkx.k.own .s trivial)
    obtain ⟨C4, k4, ek4⟩ := own_sl1 (hkx.k.own .f trivial)
    have hbx := hkx.box
    rw [ek0, ek1, ek2, ek3, ek4] at hbx
    have HVK := Lib.hid (And.intro ek0 (And.intro ek1 (And.intro ek2 (And.intro ek3 ek4))))
    generalize (rowK (startX m n) vk .r).len = n0 at HVK hbx
    generalize (rowK (startX m n) vk .b).len = n1 at HVK hbx
    generalize (rowK (startX m n) vk .n).len = n2 at HVK hbx
    generalize (rowK (startX m n) vk .s).len = n3 at HVK hbx
    generalize (rowK (startX m n) vk .f).len = n4 at HVK hbx
    have HBX := Lib.hid hbx
    clear ek0 ek1 ek2 ek3 ek4 hkx hbx e1 e2
    obtain ⟨⟨b0, b1, b2⟩, ⟨b3, b4⟩, bf⟩ := cells5 HBX
    obtain ⟨⟨p0, p1, p2⟩, ⟨p3, p4⟩, pf⟩ := cells5 HQr
    obtain ⟨we, hwe, HE, hge⟩ := set5 HQr (.slice C0 n0 k0) (.slice C1 n1 k1) (.slice C2 n2 k2) (.slice C3 n3 k3) (.slice C4 n4 k4)
    have HWE := Lib.hid hwe
    clear hwe
    go_wp2_with fail
    rw [← HWE.out]
    obtain ⟨⟨z0, z1, z2⟩, ⟨z3, z4⟩, -⟩ := cells5 HE
    have hBE : Below w.heap.size w we := Below.grown hBr hge (by omega) (fun k hk => by have e := Option.some.inj (show some P2 = some k from hk); omega)
    have hKE : AsyK we w.heap.size vk (startX m n) := OwnK.mono (AsyK.past HKX.out.k HQr.out hge) (by omega)
    exact bodyPost_ret (v := .agg #[.slice C0 n0 k0, .slice C1 n1 k1, .slice C2 n2 k2, .slice C3 n3 k3, .slice C4 n4 k4]) (by simp [results, Tryz.results23, go_sem, z0, z1, z2, z3, z4]) rfl ⟨vk, by rw [HVK.out.1, HVK.out.2.1, HVK.out.2.2.1, HVK.out.2.2.2.1, HVK.out.2.2.2.2], hKE, hBE⟩
 have FIN := Lib.hid FIN0
 clear FIN0 hrest
 refine wp_region_held_drew (S := fun w' => Below w2.heap.size w2 w') (by kernel_rfl) ?_ (fun hHeld => ?_)
 ·
  exact (Below.refl _ _).drew
 obtain ⟨wd, hwd⟩ : ∃ z, z = w2.drew := ⟨_, rfl⟩
 rw [← hwd] at hHeld ⊢
 have hB1 : Below w2.heap.size w2 wd := hHeld
 have hzd := hB1.size
 clear hHeld hwd
 refine stk 0 8 ?_
 refine tk 1 9 rfl rfl ?_ (hy := fun w hSw => by obtain ⟨q0, q1, q2, qf⟩ := cells3 (bk HD hSw); go_simp <;> with_reducible rfl)
 try simp only [Act.put, pu]
 refine stk 2 10 ?_
 refine tk 4 12 rfl rfl ?_ (hy := fun w hSw => by obtain ⟨⟨g0, g1, g2⟩, ⟨g3, g4, g5, g6⟩, gf⟩ := cells7 (bk HM hSw); go_simp <;> with_reducible rfl)
 try simp only [Act.put, pu]
 refine tk 5 13 rfl rfl ?_ (hy := fun w hSw => by obtain ⟨q0, q1, q2, qf⟩ := cells3 (bk HD hSw); go_simp <;> with_reducible rfl)
 try simp only [Act.put, pu]
 refine tk 7 15 rfl rfl ?_ (hy := fun w hSw => by obtain ⟨⟨g0, g1, g2⟩, ⟨g3, g4, g5, g6⟩, gf⟩ := cells7 (bk HM hSw); go_simp <;> with_reducible rfl)
 try simp only [Act.put, pu]
 refine tk 8 16 rfl rfl ?_ (hy := fun w hSw => by obtain ⟨q0, q1, q2, qf⟩ := cells3 (bk HD hSw); go_simp <;> with_reducible rfl)
 try simp only [Act.put, pu]
 refine wpAnyH_ready (rs := [3, 6, 11]) (by kernel_rfl) (by simp) ?_
 refine AllReadyH.cons rfl (fun K hK => ?_) (AllReadyH.cons rfl (fun K hK => ?_) (AllReadyH.cons rfl (fun K hK => ?_) AllReadyH.nil))
 ·
  go_simp
  obtain ⟨Pm, w_3, hPm, hw, hb3, o3⟩ := made_at wd n.es.length (by omega)
  rw [hPm, ← hw]
  have r3 := rng_own o3
  clear hw
  have hz3 := hb3.size
  replace hB1 := bl_trans hB1 hb3
  refine hK.out _ _ hB1 (fun hHeld => ?_)
  clear hHeld hK K hb3
  try simp only [Act.put, pu]
  refine wpAnyH_ready (rs := [6, 11]) (by kernel_rfl) (by simp) ?_
  refine AllReadyH.cons rfl (fun K hK => ?_) (AllReadyH.cons rfl (fun K hK => ?_) AllReadyH.nil)
  ·
   go_simp
   go_at_call 53
   have hC := spec_maStart _ _ _ _ m _ _ _ n w_3 (HR.out.up hB1) (HN.out.up hB1) HG.out
   unfold machV at hC
   refine hC.mono ?_
   clear hC
   rintro e w_6 ⟨v6, rfl, o6, hb6⟩
   obtain ⟨B6, d6, rfl⟩ := own_sl1 o6
   have r6 := rng_own o6
   replace o3 := own_up o3 hb6
   have hz6 := hb6.size
   replace hB1 := bl_trans hB1 hb6
   refine hK.out _ _ hB1 (fun hHeld => ?_)
   clear hHeld hK K hb6
   try simp only [Act.put, pu]
   refine wpAnyH_ready (rs := [9, 11]) (by kernel_rfl) (by simp) ?_
   refine AllReadyH.cons rfl (fun K hK => ?_) (AllReadyH.cons rfl (fun K hK => ?_) AllReadyH.nil)
   ·
    go_simp
    go_at_call 53
    have hC := spec_maStart _ _ _ _ m _ _ _ n w_6 (HR.out.up hB1) (HN.out.up hB1) HG.out
    unfold machV at hC
    refine hC.mono ?_
    clear hC
    rintro e w_9 ⟨v9, rfl, o9, hb9⟩
    obtain ⟨B9, d9, rfl⟩ := own_sl1 o9
    have r9 := rng_own o9
    replace o3 := own_up o3 hb9
    replace o6 := own_up o6 hb9
    have hz9 := hb9.size
    replace hB1 := bl_trans hB1 hb9
    refine hK.out _ _ hB1 (fun hHeld => ?_)
    clear hHeld hK K hb9
    try simp only [Act.put, pu]
    refine stk 10 18 ?_
    refine wpAnyH_ready (rs := [11]) (by kernel_rfl) (by simp) ?_
    refine AllReadyH.cons rfl (fun K hK => ?_) AllReadyH.nil
    go_simp
    obtain ⟨PX, w_11, hPX, hw, hb11, HT, hPc⟩ := box_at2 w_9 nilV nilV nilV nilV nilV 34
    unfold nilV at hw HT
    rw [hPX, ← hw]
    clear hw
    replace o3 := own_up o3 hb11
    replace o6 := own_up o6 hb11
    replace o9 := own_up o9 hb11
    have hz11 := hb11.size
    replace hB1 := bl_trans hB1 hb11
    refine hK.out _ _ hB1 (fun hHeld => ?_)
    clear hHeld hK K hb11
    try simp only [Act.put, pu]
    refine wpAnyH_ready (rs := [12]) (by kernel_rfl) (by simp) ?_
    refine AllReadyH.cons rfl (fun K hK => ?_) AllReadyH.nil
    obtain ⟨⟨t0, t1, t2⟩, ⟨t3, t4⟩, tf⟩ := cells5 HT
    go_simp
    obtain ⟨we, hwe, HE, hge⟩ := set5 HT (.slice (some ⟨Pm, 0, none⟩) n.es.length n.es.length) (.slice B6 n.es.length d6) (.slice B9 n.es.length d9) (.slice none 0 0) (.slice none 0 0)
    rw [← hwe]
    clear hwe t0 t1 t2 t3 t4 tf
    refine hK.out _ _ (Below.grown hB1 hge (by omega) (fun k hk => by have e := Option.some.inj (show some PX = some k from hk); omega)) (fun hHeld => ?_)
    clear hK K
    try simp only [Act.put, pu]
    refine wpAnyH_done (by kernel_rfl) ?_ _
    exact FIN.out we PX _ _ _ hHeld (by omega) ⟨_, rfl, rfl, rfl, AsyK.of3r (own_setP (own_mono o3 (show w2.heap.size ≤ _ by omega)) hge (r3.ne (by omega))) (own_setP (own_mono o6 (show w2.heap.size ≤ _ by omega)) hge (r6.ne (by omega))) (own_setP (own_mono o9 (show w2.heap.size ≤ _ by omega)) hge (r9.ne (by omega))) (by simp) (startS_len m n) (startS_len m n) (noSlots _ _) r3 r6 r9 (fun _ _ => rng_nil 0) (by omega) (by omega) (by omega) (by omega) (by omega) (by omega) (by omega) (by omega) (by omega) (by omega) HE⟩
   ·
    go_simp
    obtain ⟨PX, w_11, hPX, hw, hb11, HT, hPc⟩ := box_at2 w_6 nilV nilV nilV nilV nilV 34
    unfold nilV at hw HT
    rw [hPX, ← hw]
    clear hw
    replace o3 := own_up o3 hb11
    replace o6 := own_up o6 hb11
    have hz11 := hb11.size
    replace hB1 := bl_trans hB1 hb11
    refine hK.out _ _ hB1 (fun hHeld => ?_)
    clear hHeld hK K hb11
    try simp only [Act.put, pu]
    refine wpAnyH_ready (rs := [9]) (by kernel_rfl) (by simp) ?_
    refine AllReadyH.cons rfl (fun K hK => ?_) AllReadyH.nil
    go_simp
    go_at_call 53
    have hC := spec_maStart _ _ _ _ m _ _ _ n w_11 (HR.out.up hB1) (HN.out.up hB1) HG.out
    unfold machV at hC
    refine hC.mono ?_
    clear hC
    rintro e w_9 ⟨v9, rfl, o9, hb9⟩
    obtain ⟨B9, d9, rfl⟩ := own_sl1 o9
    have r9 := rng_own o9
    replace o3 := own_up o3 hb9
    replace o6 := own_up o6 hb9
    replace HT := bk HT hb9
    have hz9 := hb9.size
    replace hB1 := bl_trans hB1 hb9
    refine hK.out _ _ hB1 (fun hHeld => ?_)
    clear hHeld hK K hb9
    try simp only [Act.put, pu]
    refine stk 10 18 ?_
    refine wpAnyH_ready (rs := [12]) (by kernel_rfl) (by simp) ?_
    refine AllReadyH.cons rfl (fun K hK => ?_) AllReadyH.nil
    obtain ⟨⟨t0, t1, t2⟩, ⟨t3, t4⟩, tf⟩ := cells5 HT
    go_simp
    obtain ⟨we, hwe, HE, hge⟩ := set5 HT (.slice (some ⟨Pm, 0, none⟩) n.es.length n.es.length) (.slice B6 n.es.length d6) (.slice B9 n.es.length d9) (.slice none 0 0) (.slice none 0 0)
    rw [← hwe]
    clear hwe t0 t1 t2 t3 t4 tf
    refine hK.out _ _ (Below.grown hB1 hge (by omega) (fun k hk => by have e := Option.some.inj (show some PX = some k from hk); omega)) (fun hHeld => ?_)
    clear hK K
    try simp only [Act.put, pu]
    refine wpAnyH_done (by kernel_rfl) ?_ _
    exact FIN.out we PX _ _ _ hHeld (by omega) ⟨_, rfl, rfl, rfl, AsyK.of3r (own_setP (own_mono o3 (show w2.heap.size ≤ _ by omega)) hge (r3.ne (by omega))) (own_setP (own_mono o6 (show w2.heap.size ≤ _ by omega)) hge (r6.ne (by omega))) (own_setP (own_mono o9 (show w2.heap.size ≤ _ by omega)) hge (r9.ne (by omega))) (by simp) (startS_len m n) (startS_len m n) (noSlots _ _) r3 r6 r9 (fun _ _ => rng_nil 0) (by omega) (by omega) (by omega) (by omega) (by omega) (by omega) (by omega) (by omega) (by omega) (by omega) HE⟩
  ·
   go_simp
   obtain ⟨PX, w_11, hPX, hw, hb11, HT, hPc⟩ := box_at2 w_3 nilV nilV nilV nilV nilV 34
   unfold nilV at hw HT
   rw [hPX, ← hw]
   clear hw
   replace o3 := own_up o3 hb11
   have hz11 := hb11.size
   replace hB1 := bl_trans hB1 hb11
   refine hK.out _ _ hB1 (fun hHeld => ?_)
   clear hHeld hK K hb11
   try simp only [Act.put, pu]
   refine wpAnyH_ready (rs := [6]) (by kernel_rfl) (by simp) ?_
   refine AllReadyH.cons rfl (fun K hK => ?_) AllReadyH.nil
   go_simp
   go_at_call 53
   have hC := spec_maStart _ _ _ _ m _ _ _ n w_11 (HR.out.up hB1) (HN.out.up hB1) HG.out
   unfold machV at hC
   refine hC.mono ?_
   clear hC
   rintro e w_6 ⟨v6, rfl, o6, hb6⟩
   obtain ⟨B6, d6, rfl⟩ := own_sl1 o6
   have r6 := rng_own o6
   replace o3 := own_up o3 hb6
   replace HT := bk HT hb6
   have hz6 := hb6.size
   replace hB1 := bl_trans hB1 hb6
   refine hK.out _ _ hB1 (fun hHeld => ?_)
   clear hHeld hK K hb6
   try simp only [Act.put, pu]
   refine wpAnyH_ready (rs := [9]) (by kernel_rfl) (by simp) ?_
   refine AllReadyH.cons rfl (fun K hK => ?_) AllReadyH.nil
   go_simp
   go_at_call 53
   have hC := spec_maStart _ _ _ _ m _ _ _ n w_6 (HR.out.up hB1) (HN.out.up hB1) HG.out
   unfold machV at hC
   refine hC.mono ?_
   clear hC
   rintro e w_9 ⟨v9, rfl, o9, hb9⟩
   obtain ⟨B9, d9, rfl⟩ := own_sl1 o9
   have r9 := rng_own o9
   replace o3 := own_up o3 hb9
   replace o6 := own_up o6 hb9
   replace HT := bk HT hb9
   have hz9 := hb9.size
   replace hB1 := bl_trans hB1 hb9
   refine hK.out _ _ hB1 (fun hHeld => ?_)
   clear hHeld hK K hb9
   try simp only [Act.put, pu]
   refine stk 10 18 ?_
   refine wpAnyH_ready (rs := [12]) (by kernel_rfl) (by simp) ?_
   refine AllReadyH.cons rfl (fun K hK => ?_) AllReadyH.nil
   obtain ⟨⟨t0, t1, t2⟩, ⟨t3, t4⟩, tf⟩ := cells5 HT
   go_simp
   obtain ⟨we, hwe, HE, hge⟩ := set5 HT (.slice (some ⟨Pm, 0, none⟩) n.es.length n.es.length) (.slice B6 n.es.length d6) (.slice B9 n.es.length d9) (.slice none 0 0) (.slice none 0 0)
   rw [← hwe]
   clear hwe t0 t1 t2 t3 t4 tf
   refine hK.out _ _ (Below.grown hB1 hge (by omega) (fun k hk => by have e := Option.some.inj (show some PX = some k from hk); omega)) (fun hHeld => ?_)
   clear hK K
   try simp only [Act.put, pu]
   refine wpAnyH_done (by kernel_rfl) ?_ _
   exact FIN.out we PX _ _ _ hHeld (by omega) ⟨_, rfl, rfl, rfl, AsyK.of3r (own_setP (own_mono o3 (show w2.heap.size ≤ _ by omega)) hge (r3.ne (by omega))) (own_setP (own_mono o6 (show w2.heap.size ≤ _ by omega)) hge (r6.ne (by omega))) (own_setP (own_mono o9 (show w2.heap.size ≤ _ by omega)) hge (r9.ne (by omega))) (by simp) (startS_len m n) (startS_len m n) (noSlots _ _) r3 r6 r9 (fun _ _ => rng_nil 0) (by omega) (by omega) (by omega) (by omega) (by omega) (by omega) (by omega) (by omega) (by omega) (by omega) HE⟩
 ·
  go_simp
  go_at_call 53
  have hC := spec_maStart _ _ _ _ m _ _ _ n wd (HR.out.up hB1) (HN.out.up hB1) HG.out
  unfold machV at hC
  refine hC.mono ?_
  clear hC
  rintro e w_6 ⟨v6, rfl, o6, hb6⟩
  obtain ⟨B6, d6, rfl⟩ := own_sl1 o6
  have r6 := rng_own o6
  have hz6 := hb6.size
  replace hB1 := bl_trans hB1 hb6
  refine hK.out _ _ hB1 (fun hHeld => ?_)
  clear hHeld hK K hb6
  try simp only [Act.put, pu]
  refine wpAnyH_ready (rs := [3, 9, 11]) (by kernel_rfl) (by simp) ?_
  refine AllReadyH.cons rfl (fun K hK => ?_) (AllReadyH.cons rfl (fun K hK => ?_) (AllReadyH.cons rfl (fun K hK => ?_) AllReadyH.nil))
  ·
   go_simp
   obtain ⟨Pm, w_3, hPm, hw, hb3, o3⟩ := made_at w_6 n.es.length (by omega)
   rw [hPm, ← hw]
   have r3 := rng_own o3
   clear hw
   replace o6 := own_up o6 hb3
   have hz3 := hb3.size
   replace hB1 := bl_trans hB1 hb3
   refine hK.out _ _ hB1 (fun hHeld => ?_)
   clear hHeld hK K hb3
   try simp only [Act.put, pu]
   refine wpAnyH_ready (rs := [9, 11]) (by kernel_rfl) (by simp) ?_
   refine AllReadyH.cons rfl (fun K hK => ?_) (AllReadyH.cons rfl (fun K hK => ?_) AllReadyH.nil)
   ·
    go_simp
    go_at_call 53
    have hC := spec_maStart _ _ _ _ m _ _ _ n w_3 (HR.out.up hB1) (HN.out.up hB1) HG.out
    unfold machV at hC
    refine hC.mono ?_
    clear hC
    rintro e w_9 ⟨v9, rfl, o9, hb9⟩
    obtain ⟨B9, d9, rfl⟩ := own_sl1 o9
    have r9 := rng_own o9
    replace o6 := own_up o6 hb9
    replace o3 := own_up o3 hb9
    have hz9 := hb9.size
    replace hB1 := bl_trans hB1 hb9
    refine hK.out _ _ hB1 (fun hHeld => ?_)
    clear hHeld hK K hb9
    try simp only [Act.put, pu]
    refine stk 10 18 ?_
    refine wpAnyH_ready (rs := [11]) (by kernel_rfl) (by simp) ?_
    refine AllReadyH.cons rfl (fun K hK => ?_) AllReadyH.nil
    go_simp
    obtain ⟨PX, w_11, hPX, hw, hb11, HT, hPc⟩ := box_at2 w_9 nilV nilV nilV nilV nilV 34
    unfold nilV at hw HT
    rw [hPX, ← hw]
    clear hw
    replace o6 := own_up o6 hb11
    replace o3 := own_up o3 hb11
    replace o9 := own_up o9 hb11
    have hz11 := hb11.size
    replace hB1 := bl_trans hB1 hb11
    refine hK.out _ _ hB1 (fun hHeld => ?_)
    clear hHeld hK K hb11
    try simp only [Act.put, pu]
    refine wpAnyH_ready (rs := [12]) (by kernel_rfl) (by simp) ?_
    refine AllReadyH.cons rfl (fun K hK => ?_) AllReadyH.nil
    obtain ⟨⟨t0, t1, t2⟩, ⟨t3, t4⟩, tf⟩ := cells5 HT
    go_simp
    obtain ⟨we, hwe, HE, hge⟩ := set5 HT (.slice (some ⟨Pm, 0, none⟩) n.es.length n.es.length) (.slice B6 n.es.length d6) (.slice B9 n.es.length d9) (.slice none 0 0) (.slice none 0 0)
    rw [← hwe]
    clear hwe t0 t1 t2 t3 t4 tf
    refine hK.out _ _ (Below.grown hB1 hge (by omega) (fun k hk => by have e := Option.some.inj (show some PX = some k from hk); omega)) (fun hHeld => ?_)
    clear hK K
    try simp only [Act.put, pu]
    refine wpAnyH_done (by kernel_rfl) ?_ _
    exact FIN.out we PX _ _ _ hHeld (by omega) ⟨_, rfl, rfl, rfl, AsyK.of3r (own_setP (own_mono o3 (show w2.heap.size ≤ _ by omega)) hge (r3.ne (by omega))) (own_setP (own_mono o6 (show w2.heap.size ≤ _ by omega)) hge (r6.ne (by omega))) (own_setP (own_mono o9 (show w2.heap.size ≤ _ by omega)) hge (r9.ne (by omega))) (by simp) (startS_len m n) (startS_len m n) (noSlots _ _) r3 r6 r9 (fun _ _ => rng_nil 0) (by omega) (by omega) (by omega) (by omega) (by omega) (by omega) (by omega) (by omega) (by omega) (by omega) HE⟩
   ·
    go_simp
    obtain ⟨PX, w_11, hPX, hw, hb11, HT, hPc⟩ := box_at2 w_3 nilV nilV nilV nilV nilV 34
    unfold nilV at hw HT
    rw [hPX, ← hw]
    clear hw
    replace o6 := own_up o6 hb11
    replace o3 := own_up o3 hb11
    have hz11 := hb11.size
    replace hB1 := bl_trans hB1 hb11
    refine hK.out _ _ hB1 (fun hHeld => ?_)
    clear hHeld hK K hb11
    try simp only [Act.put, pu]
    refine wpAnyH_ready (rs := [9]) (by kernel_rfl) (by simp) ?_
    refine AllReadyH.cons rfl (fun K hK => ?_) AllReadyH.nil
    go_simp
    go_at_call 53
    have hC := spec_maStart _ _ _ _ m _ _ _ n w_11 (HR.out.up hB1) (HN.out.up hB1) HG.out
    unfold machV at hC
    refine hC.mono ?_
    clear hC
    rintro e w_9 ⟨v9, rfl, o9, hb9⟩
    obtain ⟨B9, d9, rfl⟩ := own_sl1 o9
    have r9 := rng_own o9
    replace o6 := own_up o6 hb9
    replace o3 := own_up o3 hb9
    replace HT := bk HT hb9
    have hz9 := hb9.size
    replace hB1 := bl_trans hB1 hb9
    refine hK.out _ _ hB1 (fun hHeld => ?_)
    clear hHeld hK K hb9
    try simp only [Act.put, pu]
    refine stk 10 18 ?_
    refine wpAnyH_ready (rs := [12]) (by kernel_rfl) (by simp) ?_
    refine AllReadyH.cons rfl (fun K hK => ?_) AllReadyH.nil
    obtain ⟨⟨t0, t1, t2⟩, ⟨t3, t4⟩, tf⟩ := cells5 HT
    go_simp
    obtain ⟨we, hwe, HE, hge⟩ := set5 HT (.slice (some ⟨Pm, 0, none⟩) n.es.length n.es.length) (.slice B6 n.es.length d6) (.slice B9 n.es.length d9) (.slice none 0 0) (.slice none 0 0)
    rw [← hwe]
    clear hwe t0 t1 t2 t3 t4 tf
    refine hK.out _ _ (Below.grown hB1 hge (by omega) (fun k hk => by have e := Option.some.inj (show some PX = some k from hk); omega)) (fun hHeld => ?_)
    clear hK K
    try simp only [Act.put, pu]
    refine wpAnyH_done (by kernel_rfl) ?_ _
    exact FIN.out we PX _ _ _ hHeld (by omega) ⟨_, rfl, rfl, rfl, AsyK.of3r (own_setP (own_mono o3 (show w2.heap.size ≤ _ by omega)) hge (r3.ne (by omega))) (own_setP (own_mono o6 (show w2.heap.size ≤ _ by omega)) hge (r6.ne (by omega))) (own_setP (own_mono o9 (show w2.heap.size ≤ _ by omega)) hge (r9.ne (by omega))) (by simp) (startS_len m n) (startS_len m n) (noSlots _ _) r3 r6 r9 (fun _ _ => rng_nil 0) (by omega) (by omega) (by omega) (by omega) (by omega) (by omega) (by omega) (by omega) (by omega) (by omega) HE⟩
  ·
   go_simp
   go_at_call 53
   have hC := spec_maStart _ _ _ _ m _ _ _ n w_6 (HR.out.up hB1) (HN.out.up hB1) HG.out
   unfold machV at hC
   refine hC.mono ?_
   clear hC
   rintro e w_9 ⟨v9, rfl, o9, hb9⟩
   obtain ⟨B9, d9, rfl⟩ := own_sl1 o9
   have r9 := rng_own o9
   replace o6 := own_up o6 hb9
   have hz9 := hb9.size
   replace hB1 := bl_trans hB1 hb9
   refine hK.out _ _ hB1 (fun hHeld => ?_)
   clear hHeld hK K hb9
   try simp only [Act.put, pu]
   refine wpAnyH_ready (rs := [3, 11]) (by kernel_rfl) (by simp) ?_
   refine AllReadyH.cons rfl (fun K hK => ?_) (AllReadyH.cons rfl (fun K hK => ?_) AllReadyH.nil)
   ·
    go_simp
    obtain ⟨Pm, w_3, hPm, hw, hb3, o3⟩ := made_at w_9 n.es.length (by omega)
    rw [hPm, ← hw]
    have r3 := rng_own o3
    clear hw
    replace o6 := own_up o6 hb3
    replace o9 := own_up o9 hb3
    have hz3 := hb3.size
    replace hB1 := bl_trans hB1 hb3
    refine hK.out _ _ hB1 (fun hHeld => ?_)
    clear hHeld hK K hb3
    try simp only [Act.put, pu]
    refine stk 10 18 ?_
    refine wpAnyH_ready (rs := [11]) (by kernel_rfl) (by simp) ?_
    refine AllReadyH.cons rfl (fun K hK => ?_) AllReadyH.nil
    go_simp
    obtain ⟨PX, w_11, hPX, hw, hb11, HT, hPc⟩ := box_at2 w_3 nilV nilV nilV nilV nilV 34
    unfold nilV at hw HT
    rw [hPX, ← hw]
    clear hw
    replace o6 := own_up o6 hb11
    replace o9 := own_up o9 hb11
    replace o3 := own_up o3 hb11
    have hz11 := hb11.size
    replace hB1 := bl_trans hB1 hb11
    refine hK.out _ _ hB1 (fun hHeld => ?_)
    clear hHeld hK K hb11
    try simp only [Act.put, pu]
    refine wpAnyH_ready (rs := [12]) (by kernel_rfl) (by simp) ?_
    refine AllReadyH.cons rfl (fun K hK => ?_) AllReadyH.nil
    obtain ⟨⟨t0, t1, t2⟩, ⟨t3, t4⟩, tf⟩ := cells5 HT
    go_simp
    obtain ⟨we, hwe, HE, hge⟩ := set5 HT (.slice (some ⟨Pm, 0, none⟩) n.es.length n.es.length) (.slice B6 n.es.length d6) (.slice B9 n.es.length d9) (.slice none 0 0) (.slice none 0 0)
    rw [← hwe]
    clear hwe t0 t1 t2 t3 t4 tf
    refine hK.out _ _ (Below.grown hB1 hge (by omega) (fun k hk => by have e := Option.some.inj (show some PX = some k from hk); omega)) (fun hHeld => ?_)
    clear hK K
    try simp only [Act.put, pu]
    refine wpAnyH_done (by kernel_rfl) ?_ _
    exact FIN.out we PX _ _ _ hHeld (by omega) ⟨_, rfl, rfl, rfl, AsyK.of3r (own_setP (own_mono o3 (show w2.heap.size ≤ _ by omega)) hge (r3.ne (by omega))) (own_setP (own_mono o6 (show w2.heap.size ≤ _ by omega)) hge (r6.ne (by omega))) (own_setP (own_mono o9 (show w2.heap.size ≤ _ by omega)) hge (r9.ne (by omega))) (by simp) (startS_len m n) (startS_len m n) (noSlots _ _) r3 r6 r9 (fun _ _ => rng_nil 0) (by omega) (by omega) (by omega) (by omega) (by omega) (by omega) (by omega) (by omega) (by omega) (by omega) HE⟩
   ·
    go_simp
    obtain ⟨PX, w_11, hPX, hw, hb11, HT, hPc⟩ := box_at2 w_9 nilV nilV nilV nilV nilV 34
    unfold nilV at hw HT
    rw [hPX, ← hw]
    clear hw
    replace o6 := own_up o6 hb11
    replace o9 := own_up o9 hb11
    have hz11 := hb11.size
    replace hB1 := bl_trans hB1 hb11
    refine hK.out _ _ hB1 (fun hHeld => ?_)
    clear hHeld hK K hb11
    try simp only [Act.put, pu]
    refine wpAnyH_ready (rs := [3]) (by kernel_rfl) (by simp) ?_
    refine AllReadyH.cons rfl (fun K hK => ?_) AllReadyH.nil
    go_simp
    obtain ⟨Pm, w_3, hPm, hw, hb3, o3⟩ := made_at w_11 n.es.length (by omega)
    rw [hPm, ← hw]
    have r3 := rng_own o3
    clear hw
    replace o6 := own_up o6 hb3
    replace o9 := own_up o9 hb3
    replace HT := bk HT hb3
    have hz3 := hb3.size
    replace hB1 := bl_trans hB1 hb3
    refine hK.out _ _ hB1 (fun hHeld => ?_)
    clear hHeld hK K hb3
    try simp only [Act.put, pu]
    refine stk 10 18 ?_
    refine wpAnyH_ready (rs := [12]) (by kernel_rfl) (by simp) ?_
    refine AllReadyH.cons rfl (fun K hK => ?_) AllReadyH.nil
    obtain ⟨⟨t0, t1, t2⟩, ⟨t3, t4⟩, tf⟩ := cells5 HT
    go_simp
    obtain ⟨we, hwe, HE, hge⟩ := set5 HT (.slice (some ⟨Pm, 0, none⟩) n.es.length n.es.length) (.slice B6 n.es.length d6) (.slice B9 n.es.length d9) (.slice none 0 0) (.slice none 0 0)
    rw [← hwe]
    clear hwe t0 t1 t2 t3 t4 tf
    refine hK.out _ _ (Below.grown hB1 hge (by omega) (fun k hk => by have e := Option.some.inj (show some PX = some k from hk); omega)) (fun hHeld => ?_)
    clear hK K
    try simp only [Act.put, pu]
    refine wpAnyH_done (by kernel_rfl) ?_ _
    exact FIN.out we PX _ _ _ hHeld (by omega) ⟨_, rfl, rfl, rfl, AsyK.of3r (own_setP (own_mono o3 (show w2.heap.size ≤ _ by omega)) hge (r3.ne (by omega))) (own_setP (own_mono o6 (show w2.heap.size ≤ _ by omega)) hge (r6.ne (by omega))) (own_setP (own_mono o9 (show w2.heap.size ≤ _ by omega)) hge (r9.ne (by omega))) (by simp) (startS_len m n) (startS_len m n) (noSlots _ _) r3 r6 r9 (fun _ _ => rng_nil 0) (by omega) (by omega) (by omega) (by omega) (by omega) (by omega) (by omega) (by omega) (by omega) (by omega) HE⟩
  ·
   go_simp
   obtain ⟨PX, w_11, hPX, hw, hb11, HT, hPc⟩ := box_at2 w_6 nilV nilV nilV nilV nilV 34
   unfold nilV at hw HT
   rw [hPX, ← hw]
   clear hw
   replace o6 := own_up o6 hb11
   have hz11 := hb11.size
   replace hB1 := bl_trans hB1 hb11
   refine hK.out _ _ hB1 (fun hHeld => ?_)
   clear hHeld hK K hb11
   try simp only [Act.put, pu]
   refine wpAnyH_ready (rs := [3, 9]) (by kernel_rfl) (by simp) ?_
   refine AllReadyH.cons rfl (fun K hK => ?_) (AllReadyH.cons rfl (fun K hK => ?_) AllReadyH.nil)
   ·
    go_simp
    obtain ⟨Pm, w_3, hPm, hw, hb3, o3⟩ := made_at w_11 n.es.length (by omega)
    rw [hPm, ← hw]
    have r3 := rng_own o3
    clear hw
    replace o6 := own_up o6 hb3
    replace HT := bk HT hb3
    have hz3 := hb3.size
    replace hB1 := bl_trans hB1 hb3
    refine hK.out _ _ hB1 (fun hHeld => ?_)
    clear hHeld hK K hb3
    try simp only [Act.put, pu]
    refine wpAnyH_ready (rs := [9]) (by kernel_rfl) (by simp) ?_
    refine AllReadyH.cons rfl (fun K hK => ?_) AllReadyH.nil
    go_simp
    go_at_call 53
    have hC := spec_maStart _ _ _ _ m _ _ _ n w_3 (HR.out.up hB1) (HN.out.up hB1) HG.out
    unfold machV at hC
    refine hC.mono ?_
    clear hC
    rintro e w_9 ⟨v9, rfl, o9, hb9⟩
    obtain ⟨B9, d9, rfl⟩ := own_sl1 o9
    have r9 := rng_own o9
    replace o6 := own_up o6 hb9
    replace o3 := own_up o3 hb9
    replace HT := bk HT hb9
    have hz9 := hb9.size
    replace hB1 := bl_trans hB1 hb9
    refine hK.out _ _ hB1 (fun hHeld => ?_)
    clear hHeld hK K hb9
    try simp only [Act.put, pu]
    refine stk 10 18 ?_
    refine wpAnyH_ready (rs := [12]) (by kernel_rfl) (by simp) ?_
    refine AllReadyH.cons rfl (fun K hK => ?_) AllReadyH.nil
    obtain ⟨⟨t0, t1, t2⟩, ⟨t3, t4⟩, tf⟩ := cells5 HT
    go_simp
    obtain ⟨we, hwe, HE, hge⟩ := set5 HT (.slice (some ⟨Pm, 0, none⟩) n.es.length n.es.length) (.slice B6 n.es.length d6) (.slice B9 n.es.length d9) (.slice none 0 0) (.slice none 0 0)
    rw [← hwe]
    clear hwe t0 t1 t2 t3 t4 tf
    refine hK.out _ _ (Below.grown hB1 hge (by omega) (fun k hk => by have e := Option.some.inj (show some PX = some k from hk); omega)) (fun hHeld => ?_)
    clear hK K
    try simp only [Act.put, pu]
    refine wpAnyH_done (by kernel_rfl) ?_ _
    exact FIN.out we PX _ _ _ hHeld (by omega) ⟨_, rfl, rfl, rfl, AsyK.of3r (own_setP (own_mono o3 (show w2.heap.size ≤ _ by omega)) hge (r3.ne (by omega))) (own_setP (own_mono o6 (show w2.heap.size ≤ _ by omega)) hge (r6.ne (by omega))) (own_setP (own_mono o9 (show w2.heap.size ≤ _ by omega)) hge (r9.ne (by omega))) (by simp) (startS_len m n) (startS_len m n) (noSlots _ _) r3 r6 r9 (fun _ _ => rng_nil 0) (by omega) (by omega) (by omega) (by omega) (by omega) (by omega) (by omega) (by omega) (by omega) (by omega) HE⟩
   ·
    go_simp
    go_at_call 53
    have hC := spec_maStart _ _ _ _ m _ _ _ n w_11 (HR.out.up hB1) (HN.out.up hB1) HG.out
    unfold machV at hC
    refine hC.mono ?_
    clear hC
    rintro e w_9 ⟨v9, rfl, o9, hb9⟩
    obtain ⟨B9, d9, rfl⟩ := own_sl1 o9
    have r9 := rng_own o9
    replace o6 := own_up o6 hb9
    replace HT := bk HT hb9
    have hz9 := hb9.size
    replace hB1 := bl_trans hB1 hb9
    refine hK.out _ _ hB1 (fun hHeld => ?_)
    clear hHeld hK K hb9
    try simp only [Act.put, pu]
    refine wpAnyH_ready (rs := [3]) (by kernel_rfl) (by simp) ?_
    refine AllReadyH.cons rfl (fun K hK => ?_) AllReadyH.nil
    go_simp
    obtain ⟨Pm, w_3, hPm, hw, hb3, o3⟩ := made_at w_9 n.es.length (by omega)
    rw [hPm, ← hw]
    have r3 := rng_own o3
    clear hw
    replace o6 := own_up o6 hb3
    replace o9 := own_up o9 hb3
    replace HT := bk HT hb3
    have hz3 := hb3.size
    replace hB1 := bl_trans hB1 hb3
    refine hK.out _ _ hB1 (fun hHeld => ?_)
    clear hHeld hK K hb3
    try simp only [Act.put, pu]
    refine stk 10 18 ?_
    refine wpAnyH_ready (rs := [12]) (by kernel_rfl) (by simp) ?_
    refine AllReadyH.cons rfl (fun K hK => ?_) AllReadyH.nil
    obtain ⟨⟨t0, t1, t2⟩, ⟨t3, t4⟩, tf⟩ := cells5 HT
    go_simp
    obtain ⟨we, hwe, HE, hge⟩ := set5 HT (.slice (some ⟨Pm, 0, none⟩) n.es.length n.es.length) (.slice B6 n.es.length d6) (.slice B9 n.es.length d9) (.slice none 0 0) (.slice none 0 0)
    rw [← hwe]
    clear hwe t0 t1 t2 t3 t4 tf
    refine hK.out _ _ (Below.grown hB1 hge (by omega) (fun k hk => by have e := Option.some.inj (show some PX = some k from hk); omega)) (fun hHeld => ?_)
    clear hK K
    try simp only [Act.put, pu]
    refine wpAnyH_done (by kernel_rfl) ?_ _
    exact FIN.out we PX _ _ _ hHeld (by omega) ⟨_, rfl, rfl, rfl, AsyK.of3r (own_setP (own_mono o3 (show w2.heap.size ≤ _ by omega)) hge (r3.ne (by omega))) (own_setP (own_mono o6 (show w2.heap.size ≤ _ by omega)) hge (r6.ne (by omega))) (own_setP (own_mono o9 (show w2.heap.size ≤ _ by omega)) hge (r9.ne (by omega))) (by simp) (startS_len m n) (startS_len m n) (noSlots _ _) r3 r6 r9 (fun _ _ => rng_nil 0) (by omega) (by omega) (by omega) (by omega) (by omega) (by omega) (by omega) (by omega) (by omega) (by omega) HE⟩
 ·
  go_simp
  obtain ⟨PX, w_11, hPX, hw, hb11, HT, hPc⟩ := box_at2 wd nilV nilV nilV nilV nilV 34
  unfold nilV at hw HT
  rw [hPX, ← hw]
  clear hw
  have hz11 := hb11.size
  replace hB1 := bl_trans hB1 hb11
  refine hK.out _ _ hB1 (fun hHeld => ?_)
  clear hHeld hK K hb11
  try simp only [Act.put, pu]
  refine wpAnyH_ready (rs := [3, 6]) (by kernel_rfl) (by simp) ?_
  refine AllReadyH.cons rfl (fun K hK => ?_) (AllReadyH.cons rfl (fun K hK => ?_) AllReadyH.nil)
  ·
   go_simp
   obtain ⟨Pm, w_3, hPm, hw, hb3, o3⟩ := made_at w_11 n.es.length (by omega)
   rw [hPm, ← hw]
   have r3 := rng_own o3
   clear hw
   replace HT := bk HT hb3
   have hz3 := hb3.size
   replace hB1 := bl_trans hB1 hb3
   refine hK.out _ _ hB1 (fun hHeld => ?_)
   clear hHeld hK K hb3
   try simp only [Act.put, pu]
   refine wpAnyH_ready (rs := [6]) (by kernel_rfl) (by simp) ?_
   refine AllReadyH.cons rfl (fun K hK => ?_) AllReadyH.nil
   go_simp
   go_at_call 53
   have hC := spec_maStart _ _ _ _ m _ _ _ n w_3 (HR.out.up hB1) (HN.out.up hB1) HG.out
   unfold machV at hC
   refine hC.mono ?_
   clear hC
   rintro e w_6 ⟨v6, rfl, o6, hb6⟩
   obtain ⟨B6, d6, rfl⟩ := own_sl1 o6
   have r6 := rng_own o6
   replace o3 := own_up o3 hb6
   replace HT := bk HT hb6
   have hz6 := hb6.size
   replace hB1 := bl_trans hB1 hb6
   refine hK.out _ _ hB1 (fun hHeld => ?_)
   clear hHeld hK K hb6
   try simp only [Act.put, pu]
   refine wpAnyH_ready (rs := [9]) (by kernel_rfl) (by simp) ?_
   refine AllReadyH.cons rfl (fun K hK => ?_) AllReadyH.nil
   go_simp
   go_at_call 53
   have hC := spec_maStart _ _ _ _ m _ _ _ n w_6 (HR.out.up hB1) (HN.out.up hB1) HG.out
   unfold machV at hC
   refine hC.mono ?_
   clear hC
   rintro e w_9 ⟨v9, rfl, o9, hb9⟩
   obtain ⟨B9, d9, rfl⟩ := own_sl1 o9
   have r9 := rng_own o9
   replace o3 := own_up o3 hb9
   replace o6 := own_up o6 hb9
   replace HT := bk HT hb9
   have hz9 := hb9.size
   replace hB1 := bl_trans hB1 hb9
   refine hK.out _ _ hB1 (fun hHeld => ?_)
   clear hHeld hK K hb9
   try simp only [Act.put, pu]
   refine stk 10 18 ?_
   refine wpAnyH_ready (rs := [12]) (by kernel_rfl) (by simp) ?_
   refine AllReadyH.cons rfl (fun K hK => ?_) AllReadyH.nil
   obtain ⟨⟨t0, t1, t2⟩, ⟨t3, t4⟩, tf⟩ := cells5 HT
   go_simp
   obtain ⟨we, hwe, HE, hge⟩ := set5 HT (.slice (some ⟨Pm, 0, none⟩) n.es.length n.es.length) (.slice B6 n.es.length d6) (.slice B9 n.es.length d9) (.slice none 0 0) (.slice none 0 0)
   rw [← hwe]
   clear hwe t0 t1 t2 t3 t4 tf
   refine hK.out _ _ (Below.grown hB1 hge (by omega) (fun k hk => by have e := Option.some.inj (show some PX = some k from hk); omega)) (fun hHeld => ?_)
   clear hK K
   try simp only [Act.put, pu]
   refine wpAnyH_done (by kernel_rfl) ?_ _
   exact FIN.out we PX _ _ _ hHeld (by omega) ⟨_, rfl, rfl, rfl, AsyK.of3r (own_setP (own_mono o3 (show w2.heap.size ≤ _ by omega)) hge (r3.ne (by omega))) (own_setP (own_mono o6 (show w2.heap.size ≤ _ by omega)) hge (r6.ne (by omega))) (own_setP (own_mono o9 (show w2.heap.size ≤ _ by omega)) hge (r9.ne (by omega))) (by simp) (startS_len m n) (startS_len m n) (noSlots _ _) r3 r6 r9 (fun _ _ => rng_nil 0) (by omega) (by omega) (by omega) (by omega) (by omega) (by omega) (by omega) (by omega) (by omega) (by omega) HE⟩
  ·
   go_simp
   go_at_call 53
   have hC := spec_maStart _ _ _ _ m _ _ _ n w_11 (HR.out.up hB1) (HN.out.up hB1) HG.out
   unfold machV at hC
   refine hC.mono ?_
   clear hC
   rintro e w_6 ⟨v6, rfl, o6, hb6⟩
   obtain ⟨B6, d6, rfl⟩ := own_sl1 o6
   have r6 := rng_own o6
   replace HT := bk HT hb6
   have hz6 := hb6.size
   replace hB1 := bl_trans hB1 hb6
   refine hK.out _ _ hB1 (fun hHeld => ?_)
   clear hHeld hK K hb6
   try simp only [Act.put, pu]
   refine wpAnyH_ready (rs := [3, 9]) (by kernel_rfl) (by simp) ?_
   refine AllReadyH.cons rfl (fun K hK => ?_) (AllReadyH.cons rfl (fun K hK => ?_) AllReadyH.nil)
   ·
    go_simp
    obtain ⟨Pm, w_3, hPm, hw, hb3, o3⟩ := made_at w_6 n.es.length (by omega)
    rw [hPm, ← hw]
    have r3 := rng_own o3
    clear hw
    replace o6 := own_up o6 hb3
    replace HT := bk HT hb3
    have hz3 := hb3.size
    replace hB1 := bl_trans hB1 hb3
    refine hK.out _ _ hB1 (fun hHeld => ?_)
    clear hHeld hK K hb3
    try simp only [Act.put, pu]
    refine wpAnyH_ready (rs := [9]) (by kernel_rfl) (by simp) ?_
    refine AllReadyH.cons rfl (fun K hK => ?_) AllReadyH.nil
    go_simp
    go_at_call 53
    have hC := spec_maStart _ _ _ _ m _ _ _ n w_3 (HR.out.up hB1) (HN.out.up hB1) HG.out
    unfold machV at hC
    refine hC.mono ?_
    clear hC
    rintro e w_9 ⟨v9, rfl, o9, hb9⟩
    obtain ⟨B9, d9, rfl⟩ := own_sl1 o9
    have r9 := rng_own o9
    replace o6 := own_up o6 hb9
    replace o3 := own_up o3 hb9
    replace HT := bk HT hb9
    have hz9 := hb9.size
    replace hB1 := bl_trans hB1 hb9
    refine hK.out _ _ hB1 (fun hHeld => ?_)
    clear hHeld hK K hb9
    try simp only [Act.put, pu]
    refine stk 10 18 ?_
    refine wpAnyH_ready (rs := [12]) (by kernel_rfl) (by simp) ?_
    refine AllReadyH.cons rfl (fun K hK => ?_) AllReadyH.nil
    obtain ⟨⟨t0, t1, t2⟩, ⟨t3, t4⟩, tf⟩ := cells5 HT
    go_simp
    obtain ⟨we, hwe, HE, hge⟩ := set5 HT (.slice (some ⟨Pm, 0, none⟩) n.es.length n.es.length) (.slice B6 n.es.length d6) (.slice B9 n.es.length d9) (.slice none 0 0) (.slice none 0 0)
    rw [← hwe]
    clear hwe t0 t1 t2 t3 t4 tf
    refine hK.out _ _ (Below.grown hB1 hge (by omega) (fun k hk => by have e := Option.some.inj (show some PX = some k from hk); omega)) (fun hHeld => ?_)
    clear hK K
    try simp only [Act.put, pu]
    refine wpAnyH_done (by kernel_rfl) ?_ _
    exact FIN.out we PX _ _ _ hHeld (by omega) ⟨_, rfl, rfl, rfl, AsyK.of3r (own_setP (own_mono o3 (show w2.heap.size ≤ _ by omega)) hge (r3.ne (by omega))) (own_setP (own_mono o6 (show w2.heap.size ≤ _ by omega)) hge (r6.ne (by omega))) (own_setP (own_mono o9 (show w2.heap.size ≤ _ by omega)) hge (r9.ne (by omega))) (by simp) (startS_len m n) (startS_len m n) (noSlots _ _) r3 r6 r9 (fun _ _ => rng_nil 0) (by omega) (by omega) (by omega) (by omega) (by omega) (by omega) (by omega) (by omega) (by omega) (by omega) HE⟩
   ·
    go_simp
    go_at_call 53
    have hC := spec_maStart _ _ _ _ m _ _ _ n w_6 (HR.out.up hB1) (HN.out.up hB1) HG.out
    unfold machV at hC
    refine hC.mono ?_
    clear hC
    rintro e w_9 ⟨v9, rfl, o9, hb9⟩
    obtain ⟨B9, d9, rfl⟩ := own_sl1 o9
    have r9 := rng_own o9
    replace o6 := own_up o6 hb9
    replace HT := bk HT hb9
    have hz9 := hb9.size
    replace hB1 := bl_trans hB1 hb9
    refine hK.out _ _ hB1 (fun hHeld => ?_)
    clear hHeld hK K hb9
    try simp only [Act.put, pu]
    refine wpAnyH_ready (rs := [3]) (by kernel_rfl) (by simp) ?_
    refine AllReadyH.cons rfl (fun K hK => ?_) AllReadyH.nil
    go_simp
    obtain ⟨Pm, w_3, hPm, hw, hb3, o3⟩ := made_at w_9 n.es.length (by omega)
    rw [hPm, ← hw]
    have r3 := rng_own o3
    clear hw
    replace o6 := own_up o6 hb3
    replace o9 := own_up o9 hb3
    replace HT := bk HT hb3
    have hz3 := hb3.size
    replace hB1 := bl_trans hB1 hb3
    refine hK.out _ _ hB1 (fun hHeld => ?_)
    clear hHeld hK K hb3
    try simp only [Act.put, pu]
    refine stk 10 18 ?_
    refine wpAnyH_ready (rs := [12]) (by kernel_rfl) (by simp) ?_
    refine AllReadyH.cons rfl (fun K hK => ?_) AllReadyH.nil
    obtain ⟨⟨t0, t1, t2⟩, ⟨t3, t4⟩, tf⟩ := cells5 HT
    go_simp
    obtain ⟨we, hwe, HE, hge⟩ := set5 HT (.slice (some ⟨Pm, 0, none⟩) n.es.length n.es.length) (.slice B6 n.es.length d6) (.slice B9 n.es.length d9) (.slice none 0 0) (.slice none 0 0)
    rw [← hwe]
    clear hwe t0 t1 t2 t3 t4 tf
    refine hK.out _ _ (Below.grown hB1 hge (by omega) (fun k hk => by have e := Option.some.inj (show some PX = some k from hk); omega)) (fun hHeld => ?_)
    clear hK K
    try simp only [Act.put, pu]
    refine wpAnyH_done (by kernel_rfl) ?_ _
    exact FIN.out we PX _ _ _ hHeld (by omega) ⟨_, rfl, rfl, rfl, AsyK.of3r (own_setP (own_mono o3 (show w2.heap.size ≤ _ by omega)) hge (r3.ne (by omega))) (own_setP (own_mono o6 (show w2.heap.size ≤ _ by omega)) hge (r6.ne (by omega))) (own_setP (own_mono o9 (show w2.heap.size ≤ _ by omega)) hge (r9.ne (by omega))) (by simp) (startS_len m n) (startS_len m n) (noSlots _ _) r3 r6 r9 (fun _ _ => rng_nil 0) (by omega) (by omega) (by omega) (by omega) (by omega) (by omega) (by omega) (by omega) (by omega) (by omega) HE⟩
set_option maxRecDepth 100000 in
set_option maxHeartbeats 8000000 in
theorem impl_startAsync (vs ve vc vo : Value) (m : Mach) (ne ni nn : Value) (n : Net) (w : World) (hm : MachR w w.heap.size vs ve vc vo m) (hn : NetR w w.heap.size ne ni nn n) (hg : fitP m n) :
  Calls Tryz.prog 32 #[machV vs ve vc vo m, .agg #[ne, ni, nn]] w fun e w' => ∃ val, e = .returned (.agg #[val .r, val .b, val .n, val .s, val .f]) ∧ AsyK w' w.heap.size val (startX m n) ∧ Below w.heap.size w w' := by
 unfold machV
 have h40 := hg.2.1.1.2
 have HG := Lib.hid hg
 obtain ⟨⟨A0, m0, c0, rfl⟩, ⟨A1, m1, c1, rfl⟩, ⟨A2, m2, c2, rfl⟩, A3, m3, c3, rfl⟩ := hm.slices
 have hne := hn.e
 obtain ⟨A4, c4, rfl, hc4, hM4, hr4⟩ := hne
 obtain ⟨-, ⟨A5, m5, c5, rfl⟩, A6, m6, c6, rfl⟩ := hn.slices
 unfold maxLen at hM4
 have HR4 := Lib.hid hr4
 clear hr4 hg
 obtain ⟨w0, hw0, hb0, HM, hz0, HS0⟩ := box7 w (.int .i64 m.deg) (.int .i64 m.st) (.int .i64 m.msg) (.slice A0 m0 c0) (.slice A1 m1 c1) (.slice A2 m2 c2) (.slice A3 m3 c3) 39
 obtain ⟨w1, hw1, hb1, HD, hz1, HS1⟩ := box3 w0 (.slice A4 n.es.length c4) (.slice A5 m5 c5) (.slice A6 m6 c6) 43
 replace HM := bk HM hb1
 have hB : Below w.heap.size w w1 := bl_trans (hb0) hb1
 have HW := Lib.hid (show w1 = (w.alloc (.cells #[.int .i64 m.deg, .int .i64 m.st, .int .i64 m.msg, .slice A0 m0 c0, .slice A1 m1 c1, .slice A2 m2 c2, .slice A3 m3 c3] 39)).alloc (.cells #[.slice A4 n.es.length c4, .slice A5 m5 c5, .slice A6 m6 c6] 43) by rw [hw1, hw0])
 obtain ⟨P1, hP1⟩ : ∃ z, z = w0.heap.size := ⟨_, rfl⟩
 have HP1 := Lib.hid (show w.heap.size + 1 = P1 by rw [hP1, HS0.out])
 have hPl1 : w.heap.size < P1 := by rw [← HP1.out]; omega
 rw [← hP1] at HD hz1
 obtain ⟨⟨g0, g1, g2⟩, ⟨g3, g4, g5, g6⟩, gf⟩ := cells7 HM
 obtain ⟨q0, q1, q2, qf⟩ := cells3 HD
 have eg0 := g0
 have eg1 := g1
 have eg2 := g2
 have eg3 := g3
 have eg4 := g4
 have eg5 := g5
 have eg6 := g6
 have eq0 := q0
 have eq1 := q1
 have eq2 := q2
 rw [HW.out] at eg0 eg1 eg2 eg3 eg4 eg5 eg6 eq0 eq1 eq2
 rw [← HP1.out] at eq0 eq1 eq2
 have hzb0 : w.heap.size < w1.heap.size := by omega
 have hzb1 : P1 < w1.heap.size := by omega
 have HR := Lib.hid (hm.up hB)
 have HN := Lib.hid (hn.up hB)
 clear hw1 hw0 hP1
 obtain ⟨w2, hw2, hb2, HQ, hz2, HS2⟩ := box5 w1 nilV nilV nilV nilV nilV 34
 unfold nilV at hw2 HQ
 obtain ⟨P2, hP2⟩ : ∃ z, z = w1.heap.size := ⟨_, rfl⟩
 have HP2 := Lib.hid (show P1 + 1 = P2 by rw [hP2, HS1.out, HS0.out, ← HP1.out])
 rw [← hP2] at HQ hz2
 have HW2 := Lib.hid hw2
 have hP12 : P1 < P2 := by rw [← HP2.out]; omega
 clear hw2 hP2
 have hmk := fun W => run_make1 (P := Tryz.prog) 24 3 (.int .i64 0) 8 Tryz.underlying24 intInfo rfl n.es.length (by omega) (by omega) W
 go_enter Tryz.func32, Tryz.ntmps32
 go_wp2_with fail
 rw [HP1.out, ← HW.out]
 clear eg0 eg1 eg2 eg3 eg4 eg5 eg6 eq0 eq1 eq2
 rw [HP2.out, ← HW2.out]
 clear g0 g1 g2 g3 g4 g5 g6 gf q0 q1 q2 qf
 replace HM := bk HM hb2
 replace HD := bk HD hb2
 replace hB := bl_trans hB hb2
 replace HR := Lib.hid (HR.out.up hb2)
 replace HN := Lib.hid (HN.out.up hb2)
 have hwP : w.heap.size ≤ P2 := by omega
 rename_i K hrest
 have FIN0 : ∀ (W : World) (PX : Nat) (v0 v1 v2 v3 : Value), Below w2.heap.size w2 W → w2.heap.size ≤ PX → (∃ val : Key → Value, v0 = val .r ∧ v1 = val .b ∧ v2 = val .n ∧ v3 = val .s ∧ AsyB W w2.heap.size val ⟨List.replicate n.es.length 0, startS m n, startS m n, (freeS n), []⟩ PX) →
   K ⟨#[.agg #[.int .i64 m.deg, .int .i64 m.st, .int .i64 m.msg, .slice A0 m0 c0, .slice A1 m1 c1, .slice A2 m2 c2, .slice A3 m3 c3], .agg #[.slice A4 n.es.length c4, .slice A5 m5 c5, .slice A6 m6 c6], .pointer (some ⟨w.heap.size, 0, none⟩), .pointer (some ⟨P1, 0, none⟩), .pointer (some ⟨P2, 0, none⟩), .pointer (some ⟨PX, 0, none⟩), undef, undef, .pointer (some ⟨P1, 0, none⟩), .slice A4 n.es.length c4, .int .i64 (n.es.length : Int), v0, .agg #[.int .i64 m.deg, .int .i64 m.st, .int .i64 m.msg, .slice A0 m0 c0, .slice A1 m1 c1, .slice A2 m2 c2, .slice A3 m3 c3], .agg #[.slice A4 n.es.length c4, .slice A5 m5 c5, .slice A6 m6 c6], v1, .agg #[.int .i64 m.deg, .int .i64 m.st, .int .i64 m.msg, .slice A0 m0 c0, .slice A1 m1 c1, .slice A2 m2 c2, .slice A3 m3 c3], .agg #[.slice A4 n.es.length c4, .slice A5 m5 c5, .slice A6 m6 c6], v2, .agg #[.slice A4 n.es.length c4, .slice A5 m5 c5, .slice A6 m6 c6], v3, .agg #[v0, v1, v2, v3, .slice none 0 0], undef, undef, undef, undef, undef, undef, undef, undef, undef, undef, undef, undef, undef, undef, undef, undef, undef], []⟩ W := by
  intro W PX v0 v1 v2 v3 hBW hPX hK0
  obtain ⟨val, -, -, -, -, hk0⟩ := hK0
  refine hrest _ _ ?_
  have HK0 := Lib.hid hk0
  clear hk0 hrest hmk
  have HDW := bk HD hBW
  obtain ⟨q0, q1, q2, qf⟩ := cells3 HDW
  go_wp2_with fail
  go_loopw [24] (fun i wr => SxRel m n (fun _ => freeS n) PX w2 i wr) (fun i _ => n.es.length - (intOf i).toNat)
  case atStart => exact ⟨0, val, Nat.zero_le _, rfl, HK0.out, hBW⟩
  case round =>
   obtain ⟨k, vk, hk, rfl, hkk, hbl⟩ := hrel
   have HK := Lib.hid hkk
   have hsz := hbl.size
   have hPr := hkk.lt
   have hBr := bl_trans hB hbl
   have HDr := bk HD hbl
   have HQr := bk HQ hbl
   clear q0 q1 q2 qf hkk
   obtain ⟨q0, q1, q2, qf⟩ := cells3 HDr
   by_cases hlt : k < n.es.length
   ·
    obtain ⟨l, hl⟩ : ∃ y, n.es[k]? = some y := ⟨_, List.getElem?_eq_getElem hlt⟩
    have hl6 := (HG.out.2.1.2.2.2.2 k l hl).1
    obtain ⟨ad4, rfl, ha4, hrow4⟩ := HR4.out (by omega)
    obtain ⟨u4, hu4, hz4⟩ := hrow4 k l hl
    obtain ⟨B4, d4, rfl, hd4, hD4, -, -⟩ := hz4
    have c4k := (hBr.cell (p := ad4.add k) (by rw [block_add]; exact ha4)).trans hu4
    have HL := Lib.hid hl
    have hkn : (k : Int) < (n.es.length : Int) := by omega
    have hlf : ((freeF n).take k).length = k := by rw [List.length_take]; unfold freeF; simp; omega
    have HLF := Lib.hid hlf
    have hmk2 := fun W => run_make1 (P := Tryz.prog) 90 117 nilV 24 Tryz.underlying90 sliceInfo2 rfl l.length (by omega) (by omega) W
    have HMK2 := Lib.hid hmk2
    clear hl hu4 hrow4 hlf hmk2
    have hlw := hbl
    have hof := HK.out.k.own .f trivial
    replace hof : wr.ownsRow w2.heap.size 90 1 (vk .f) ((freeF n).take k).length (valsOf .fr vk ((freeF n).take k).length) := hof
    rw [HLF.out] at hof
    obtain ⟨Af, cf, ekf⟩ := own_sl1 hof
    have HOF := Lib.hid hof
    have HEF := Lib.hid ekf
    have hPx := HK.out.lt
    have hsz7 := hlw.size
    have q4 : wr.cell? ⟨PX, 4, none⟩ = some (.slice Af k cf) := by rw [cell_of_row _ _ 4 _ _ (0, 0) HK.out.box, ← ekf]; rfl
    clear hof ekf
    go_wp2_with fail
    have hmk2 := HMK2.out
    refine till_region (S := fun w' => w'.cell? ⟨PX, 4, none⟩ = some (.slice Af k cf)) (st := 8) (by kernel_rfl) q4 (fun hHeld => ?_)
    refine utf 0 28 ?_
    refine utk 1 29 ?_
    refine utf 2 30 ?_
    refine utf 3 31 ?_
    refine ur 4 rfl (by kernel_rfl) (fun K hK => ?_)
    go_simp
    obtain ⟨w8, hw8⟩ : ∃ z, z = wr.drew := ⟨_, rfl⟩
    have hz8 : w8.heap.size = wr.heap.size := by rw [hw8]; rfl
    obtain ⟨Pm, w9, hPm, hw9, hb9', o9⟩ := made_let w8 l.length (by omega)
    rw [show (wr.alloc (.cells (rowOf [] l.length nilV) 117)).drew = w9 by rw [hw9, hw8]; rfl, show wr.heap.size = Pm by rw [← hz8, hPm]]
    have hb9 : Below wr.heap.size wr w9 := by rw [← hz8]; exact Below.trans (by rw [hw8]; exact (Below.refl _ _).drew) hb9'
    rw [hz8] at o9
    obtain ⟨vf, hvf, hkf⟩ := HK.out.makeF hb9 hsz7 o9
    have HVF := Lib.hid hvf
    have HKF := Lib.hid hkf
    have hz9 := hb9.size
    clear hw8 hw9 hb9' o9 hmk2 hvf hkf
    replace q4 := (hb9.cell (p := ⟨PX, 4, none⟩) hPx).trans q4
    have HQ4 := Lib.hid q4
    have hfl := HKF.out.flow
    replace hfl : w9.ownsRow w2.heap.size 90 1 (vf .f) ((freeF n).take k).length (valsOf .fr vf ((freeF n).take k).length) := hfl
    rw [HLF.out] at hfl
    have hbf := HKF.out.box
    have hef : vf .f = .slice Af k cf := by
     have h1 := hbf
     have h2 := cell_of_row _ _ 4 _ _ (0, 0) hbf
     rw [q4] at h2
     exact (Option.some.inj h2).symm
    have HEFF := Lib.hid hef
    rw [hef] at hfl
    have HFL := Lib.hid hfl
    have HBF := Lib.hid hbf
    clear hfl hbf hef
    refine hK.out (fun _ => q4) ?_
    clear hK K
    try simp only [Act.put, pu]
    refine ur 5 rfl (by kernel_rfl) (fun K hK => ?_)
    go_simp
    replace q4 := Lib.cell?_alloc_some (.cells #[.slice (some ⟨Pm, 0, none⟩) l.length l.length] 90) q4
    refine hK.out (fun _ => q4) ?_
    clear hK K
    try simp only [Act.put, pu]
    refine ur 6 rfl (by kernel_rfl) (fun K hK => ?_)
    rw [if_pos (by rfl)]
    refine oper_append1 w9 (.tmp 29) (.tmp 33) 32 rfl w2.heap.size 90 _ 24 Tryz.underlying32 sliceInfo3 rfl _ _ _ rfl _ rfl rfl HFL.out (by unfold maxLen; omega) (by omega) (by omega) ?_
    intro v6 wz hown6 hbl6 hgr6 hlt6 hob6
    obtain ⟨A7', c7', rfl⟩ := own_sl1 hown6
    have hneP : (Value.slice Af k cf).ownBlock ≠ some PX := by
     have := HKF.out.ne .f trivial
     rw [HEFF.out] at this
     exact this
    have hkP := hgr6.block PX (by omega) (fun e => hneP e.symm)
    clear q4
    have q4 := (World.cell?_of_block (a := ⟨PX, 4, none⟩) hkP).trans HQ4.out
    have f4 : wz.frozen? ⟨PX, 4, none⟩ = false := frozen_of_row _ _ 4 _ _ (hkP.trans HBF.out)
    refine hK.out (fun _ => q4) ?_
    clear hK K
    try simp only [Act.put, pu]
    refine utf 7 35 ?_
    refine ur 8 rfl (by kernel_rfl) (fun K hK => ?_)
    go_simp
    obtain ⟨wy, hwy⟩ : ∃ z, z = wz.setCell ⟨PX, 4, none⟩ (.slice A7' (k + 1) c7') := ⟨_, rfl⟩
    rw [← hwy]
    obtain ⟨val3, hk3⟩ := HKF.out.fin (v2 := .slice A7' (k + 1) c7') (by rw [HEFF.out]; exact hgr6) (by
     show wz.ownsRow _ _ _ _ (((freeF n).take k).length + 1) (valsOf .fr vf ((freeF n).take k).length ++ [vf (.fr ((freeF n).take k).length)])
     rw [HLF.out]
     have hv := HVF.out
     replace hv : vf (.fr ((freeF n).take k).length) = _ := hv
     rw [HLF.out] at hv
     rw [hv]
     exact hown6) (by rw [HEFF.out]; exact hob6.imp id fun ⟨g, h1, h2, _⟩ => ⟨g, h1, h2⟩)
    rw [← hwy] at hk3
    replace hk3 : AsyB wy w2.heap.size val3 ⟨List.replicate n.es.length 0, startS m n, startS m n, freeS n, (freeF n).take (k + 1)⟩ PX := by rw [take_snoc (freeF_at HL.out)]; exact hk3
    have HM3 := Lib.hid hk3
    have HB19 := Lib.hid (show Below w2.heap.size w2 wy by rw [hwy]; exact ((hlw.trans (hb9.mono hsz7)).trans hbl6).setCell (p := ⟨PX, 4, none⟩) hPX _)
    clear hk3 hwy q4 f4 hkP hneP hown6 hbl6 hgr6 hob6
    refine hK.out (fun h' => till_no h' (by kernel_rfl)) ?_
    clear hK K
    try simp only [Act.put, pu]
    refine wpTill_done (by kernel_rfl) ?_ _
    go_wp2_with fail
    go_roundw
    case rel => exact ⟨k + 1, val3, by omega, by go_num, HM3.out, HB19.out⟩
    case measure => simp [intOf]; omega
   ·
    obtain rfl : k = n.es.length := by omega
    have hkx := HK.out
    have e1 : (freeF n).take n.es.length = freeF n := List.take_of_length_le (by simp [freeF])
    have e2 : (freeS n).take n.es.length = freeS n := List.take_of_length_le (by simp [freeS])
    have hkx : AsyB wr w2.heap.size vk (startX m n) PX := by
     have h1 := HK.out
     (try dsimp only at h1)
     (try rw [e1] at h1)
     (try rw [e2] at h1)
     exact h1
    have HKX := Lib.hid hkx
    obtain ⟨C0, k0, ek0⟩ := own_sl1 (hkx.k.own .r trivial)
    obtain ⟨C1, k1, ek1⟩ := own_sl1 (hkx.k.own .b trivial)
    obtain ⟨C2, k2, ek2⟩ := own_sl1 (hkx.k.own .n trivial)
    obtain ⟨C3, k3, ek3⟩ := own_sl1 (hkx.k.own .s trivial)
    obtain ⟨C4, k4, ek4⟩ := own_sl1 (hkx.k.own .f trivial)
    have hbx := hkx.box
    rw [ek0, ek1, ek2, ek3, ek4] at hbx
    have HVK := Lib.hid (And.intro ek0 (And.intro ek1 (And.intro ek2 (And.intro ek3 ek4))))
    generalize (rowK (startX m n) vk .r).len = n0 at HVK hbx
    generalize (rowK (startX m n) vk .b).len = n1 at HVK hbx
    generalize (rowK (startX m n) vk .n).len = n2 at HVK hbx
    generalize (rowK (startX m n) vk .s).len = n3 at HVK hbx
    generalize (rowK (startX m n) vk .f).len = n4 at HVK hbx
    have HBX := Lib.hid hbx
    clear ek0 ek1 ek2 ek3 ek4 hkx hbx e1 e2
    obtain ⟨⟨b0, b1, b2⟩, ⟨b3, b4⟩, bf⟩ := cells5 HBX
    obtain ⟨⟨p0, p1, p2⟩, ⟨p3, p4⟩, pf⟩ := cells5 HQr
    obtain ⟨we, hwe, HE, hge⟩ := set5 HQr (.slice C0 n0 k0) (.slice C1 n1 k1) (.slice C2 n2 k2) (.slice C3 n3 k3) (.slice C4 n4 k4)
    have HWE := Lib.hid hwe
    clear hwe
    go_wp2_with fail
    rw [← HWE.out]
    obtain ⟨⟨z0, z1, z2⟩, ⟨z3, z4⟩, -⟩ := cells5 HE
    have hBE : Below w.heap.size w we := Below.grown hBr hge (by omega) (fun k hk => by have e := Option.some.inj (show some P2 = some k from hk); omega)
    have hKE : AsyK we w.heap.size vk (startX m n) := OwnK.mono (AsyK.past HKX.out.k HQr.out hge) (by omega)
    exact bodyPost_ret (v := .agg #[.slice C0 n0 k0, .slice C1 n1 k1, .slice C2 n2 k2, .slice C3 n3 k3, .slice C4 n4 k4]) (by simp [results, Tryz.results32, go_sem, z0, z1, z2, z3, z4]) rfl ⟨vk, by rw [HVK.out.1, HVK.out.2.1, HVK.out.2.2.1, HVK.out.2.2.2.1, HVK.out.2.2.2.2], hKE, hBE⟩
 have FIN := Lib.hid FIN0
 clear FIN0 hrest
 refine wp_region_held_drew (S := fun w' => Below w2.heap.size w2 w') (by kernel_rfl) ?_ (fun hHeld => ?_)
 ·
  exact (Below.refl _ _).drew
 obtain ⟨wd, hwd⟩ : ∃ z, z = w2.drew := ⟨_, rfl⟩
 rw [← hwd] at hHeld ⊢
 have hB1 : Below w2.heap.size w2 wd := hHeld
 have hzd := hB1.size
 clear hHeld hwd
 refine stk 0 8 ?_
 refine tk 1 9 rfl rfl ?_ (hy := fun w hSw => by obtain ⟨q0, q1, q2, qf⟩ := cells3 (bk HD hSw); go_simp <;> with_reducible rfl)
 try simp only [Act.put, pu]
 refine stk 2 10 ?_
 refine tk 4 12 rfl rfl ?_ (hy := fun w hSw => by obtain ⟨⟨g0, g1, g2⟩, ⟨g3, g4, g5, g6⟩, gf⟩ := cells7 (bk HM hSw); go_simp <;> with_reducible rfl)
 try simp only [Act.put, pu]
 refine tk 5 13 rfl rfl ?_ (hy := fun w hSw => by obtain ⟨q0, q1, q2, qf⟩ := cells3 (bk HD hSw); go_simp <;> with_reducible rfl)
 try simp only [Act.put, pu]
 refine tk 7 15 rfl rfl ?_ (hy := fun w hSw => by obtain ⟨⟨g0, g1, g2⟩, ⟨g3, g4, g5, g6⟩, gf⟩ := cells7 (bk HM hSw); go_simp <;> with_reducible rfl)
 try simp only [Act.put, pu]
 refine tk 8 16 rfl rfl ?_ (hy := fun w hSw => by obtain ⟨q0, q1, q2, qf⟩ := cells3 (bk HD hSw); go_simp <;> with_reducible rfl)
 try simp only [Act.put, pu]
 refine tk 10 18 rfl rfl ?_ (hy := fun w hSw => by obtain ⟨q0, q1, q2, qf⟩ := cells3 (bk HD hSw); go_simp <;> with_reducible rfl)
 try simp only [Act.put, pu]
 refine wpAnyH_ready (rs := [3, 6, 13]) (by kernel_rfl) (by simp) ?_
 refine AllReadyH.cons rfl (fun K hK => ?_) (AllReadyH.cons rfl (fun K hK => ?_) (AllReadyH.cons rfl (fun K hK => ?_) AllReadyH.nil))
 ·
  go_simp
  obtain ⟨Pm, w_3, hPm, hw, hb3, o3⟩ := made_at wd n.es.length (by omega)
  rw [hPm, ← hw]
  have r3 := rng_own o3
  clear hw
  have hz3 := hb3.size
  replace hB1 := bl_trans hB1 hb3
  refine hK.out _ _ hB1 (fun hHeld => ?_)
  clear hHeld hK K hb3
  try simp only [Act.put, pu]
  refine wpAnyH_ready (rs := [6, 13]) (by kernel_rfl) (by simp) ?_
  refine AllReadyH.cons rfl (fun K hK => ?_) (AllReadyH.cons rfl (fun K hK => ?_) AllReadyH.nil)
  ·
   go_simp
   go_at_call 61
   have hC := impl_startStates _ _ _ _ m _ _ _ n w_3 (HR.out.up hB1) (HN.out.up hB1) HG.out
   unfold machV at hC
   refine hC.mono ?_
   clear hC
   rintro e w_6 ⟨v6, rfl, o6, hb6⟩
   obtain ⟨B6, d6, rfl⟩ := own_sl1 o6
   have r6 := rng_own o6
   replace o3 := own_up o3 hb6
   have hz6 := hb6.size
   replace hB1 := bl_trans hB1 hb6
   refine hK.out _ _ hB1 (fun hHeld => ?_)
   clear hHeld hK K hb6
   try simp only [Act.put, pu]
   refine wpAnyH_ready (rs := [9, 13]) (by kernel_rfl) (by simp) ?_
   refine AllReadyH.cons rfl (fun K hK => ?_) (AllReadyH.cons rfl (fun K hK => ?_) AllReadyH.nil)
   ·
    go_simp
    go_at_call 61
    have hC := impl_startStates _ _ _ _ m _ _ _ n w_6 (HR.out.up hB1) (HN.out.up hB1) HG.out
    unfold machV at hC
    refine hC.mono ?_
    clear hC
    rintro e w_9 ⟨v9, rfl, o9, hb9⟩
    obtain ⟨B9, d9, rfl⟩ := own_sl1 o9
    have r9 := rng_own o9
    replace o3 := own_up o3 hb9
    replace o6 := own_up o6 hb9
    have hz9 := hb9.size
    replace hB1 := bl_trans hB1 hb9
    refine hK.out _ _ hB1 (fun hHeld => ?_)
    clear hHeld hK K hb9
    try simp only [Act.put, pu]
    refine wpAnyH_ready (rs := [11, 13]) (by kernel_rfl) (by simp) ?_
    refine AllReadyH.cons rfl (fun K hK => ?_) (AllReadyH.cons rfl (fun K hK => ?_) AllReadyH.nil)
    ·
     go_simp
     go_at_call 62
     refine (impl_unlabeled _ _ _ n w_9 (HN.out.up hB1) HG.out.2.1).mono ?_
     rintro e w_11 ⟨vs, rfl, hS, hb11⟩
     have r11 : ∀ j, keyOf ⟨[], [], [], freeS n, []⟩ j → Rng (vs j) _ _ := fun j hj => rng_own (hS.own j hj)
     obtain ⟨B11, d11, e11⟩ := own_sl1 (hS.own .s trivial)
     have E11 := Lib.hid e11
     rw [e11]
     clear e11
     generalize (rowK ⟨[], [], [], freeS n, []⟩ vs .s).len = l11 at E11 ⊢
     replace o3 := own_up o3 hb11
     replace o6 := own_up o6 hb11
     replace o9 := own_up o9 hb11
     have hz11 := hb11.size
     replace hB1 := bl_trans hB1 hb11
     refine hK.out _ _ hB1 (fun hHeld => ?_)
     clear hHeld hK K hb11
     try simp only [Act.put, pu]
     refine stk 12 20 ?_
     refine wpAnyH_ready (rs := [13]) (by kernel_rfl) (by simp) ?_
     refine AllReadyH.cons rfl (fun K hK => ?_) AllReadyH.nil
     go_simp
     obtain ⟨PX, w_13, hPX, hw, hb13, HT, hPc⟩ := box_at2 w_11 nilV nilV nilV nilV nilV 34
     unfold nilV at hw HT
     rw [hPX, ← hw]
     clear hw
     replace o3 := own_up o3 hb13
     replace o6 := own_up o6 hb13
     replace o9 := own_up o9 hb13
     replace hS := AsyK.up hS hb13
     have hz13 := hb13.size
     replace hB1 := bl_trans hB1 hb13
     refine hK.out _ _ hB1 (fun hHeld => ?_)
     clear hHeld hK K hb13
     try simp only [Act.put, pu]
     refine wpAnyH_ready (rs := [14]) (by kernel_rfl) (by simp) ?_
     refine AllReadyH.cons rfl (fun K hK => ?_) AllReadyH.nil
     obtain ⟨⟨t0, t1, t2⟩, ⟨t3, t4⟩, tf⟩ := cells5 HT
     go_simp
     obtain ⟨we, hwe, HE, hge⟩ := set5 HT (.slice (some ⟨Pm, 0, none⟩) n.es.length n.es.length) (.slice B6 n.es.length d6) (.slice B9 n.es.length d9) (.slice B11 l11 d11) (.slice none 0 0)
     rw [← hwe]
     clear hwe t0 t1 t2 t3 t4 tf
     refine hK.out _ _ (Below.grown hB1 hge (by omega) (fun k hk => by have e := Option.some.inj (show some PX = some k from hk); omega)) (fun hHeld => ?_)
     clear hK K
     try simp only [Act.put, pu]
     refine wpAnyH_done (by kernel_rfl) ?_ _
     rw [← E11.out] at HE ⊢
     exact FIN.out we PX _ _ _ _ hHeld (by omega) ⟨val3 _ _ _ vs, rfl, rfl, rfl, rfl, AsyK.of3r (own_setP (own_mono o3 (show w2.heap.size ≤ _ by omega)) hge (r3.ne (by omega))) (own_setP (own_mono o6 (show w2.heap.size ≤ _ by omega)) hge (r6.ne (by omega))) (own_setP (own_mono o9 (show w2.heap.size ≤ _ by omega)) hge (r9.ne (by omega))) (by simp) (startS_len m n) (startS_len m n) (OwnK.mono (AsyK.past hS HT.out hge) (show w2.heap.size ≤ _ by omega)) r3 r6 r9 r11 (by omega) (by omega) (by omega) (by omega) (by omega) (by omega) (by omega) (by omega) (by omega) (by omega) HE⟩
    ·
     go_simp
     obtain ⟨PX, w_13, hPX, hw, hb13, HT, hPc⟩ := box_at2 w_9 nilV nilV nilV nilV nilV 34
     unfold nilV at hw HT
     rw [hPX, ← hw]
     clear hw
     replace o3 := own_up o3 hb13
     replace o6 := own_up o6 hb13
     replace o9 := own_up o9 hb13
     have hz13 := hb13.size
     replace hB1 := bl_trans hB1 hb13
     refine hK.out _ _ hB1 (fun hHeld => ?_)
     clear hHeld hK K hb13
     try simp only [Act.put, pu]
     refine wpAnyH_ready (rs := [11]) (by kernel_rfl) (by simp) ?_
     refine AllReadyH.cons rfl (fun K hK => ?_) AllReadyH.nil
     go_simp
     go_at_call 62
     refine (impl_unlabeled _ _ _ n w_13 (HN.out.up hB1) HG.out.2.1).mono ?_
     rintro e w_11 ⟨vs, rfl, hS, hb11⟩
     have r11 : ∀ j, keyOf ⟨[], [], [], freeS n, []⟩ j → Rng (vs j) _ _ := fun j hj => rng_own (hS.own j hj)
     obtain ⟨B11, d11, e11⟩ := own_sl1 (hS.own .s trivial)
     have E11 := Lib.hid e11
     rw [e11]
     clear e11
     generalize (rowK ⟨[], [], [], freeS n, []⟩ vs .s).len = l11 at E11 ⊢
     replace o3 := own_up o3 hb11
     replace o6 := own_up o6 hb11
     replace o9 := own_up o9 hb11
     replace HT := bk HT hb11
     have hz11 := hb11.size
     replace hB1 := bl_trans hB1 hb11
     refine hK.out _ _ hB1 (fun hHeld => ?_)
     clear hHeld hK K hb11
     try simp only [Act.put, pu]
     refine stk 12 20 ?_
     refine wpAnyH_ready (rs := [14]) (by kernel_rfl) (by simp) ?_
     refine AllReadyH.cons rfl (fun K hK => ?_) AllReadyH.nil
     obtain ⟨⟨t0, t1, t2⟩, ⟨t3, t4⟩, tf⟩ := cells5 HT
     go_simp
     obtain ⟨we, hwe, HE, hge⟩ := set5 HT (.slice (some ⟨Pm, 0, none⟩) n.es.length n.es.length) (.slice B6 n.es.length d6) (.slice B9 n.es.length d9) (.slice B11 l11 d11) (.slice none 0 0)
     rw [← hwe]
     clear hwe t0 t1 t2 t3 t4 tf
     refine hK.out _ _ (Below.grown hB1 hge (by omega) (fun k hk => by have e := Option.some.inj (show some PX = some k from hk); omega)) (fun hHeld => ?_)
     clear hK K
     try simp only [Act.put, pu]
     refine wpAnyH_done (by kernel_rfl) ?_ _
     rw [← E11.out] at HE ⊢
     exact FIN.out we PX _ _ _ _ hHeld (by omega) ⟨val3 _ _ _ vs, rfl, rfl, rfl, rfl, AsyK.of3r (own_setP (own_mono o3 (show w2.heap.size ≤ _ by omega)) hge (r3.ne (by omega))) (own_setP (own_mono o6 (show w2.heap.size ≤ _ by omega)) hge (r6.ne (by omega))) (own_setP (own_mono o9 (show w2.heap.size ≤ _ by omega)) hge (r9.ne (by omega))) (by simp) (startS_len m n) (startS_len m n) (OwnK.mono (AsyK.past hS HT.out hge) (show w2.heap.size ≤ _ by omega)) r3 r6 r9 r11 (by omega) (by omega) (by omega) (by omega) (by omega) (by omega) (by omega) (by omega) (by omega) (by omega) HE⟩
   ·
    go_simp
    obtain ⟨PX, w_13, hPX, hw, hb13, HT, hPc⟩ := box_at2 w_6 nilV nilV nilV nilV nilV 34
    unfold nilV at hw HT
    rw [hPX, ← hw]
    clear hw
    replace o3 := own_up o3 hb13
    replace o6 := own_up o6 hb13
    have hz13 := hb13.size
    replace hB1 := bl_trans hB1 hb13
    refine hK.out _ _ hB1 (fun hHeld => ?_)
    clear hHeld hK K hb13
    try simp only [Act.put, pu]
    refine wpAnyH_ready (rs := [9]) (by kernel_rfl) (by simp) ?_
    refine AllReadyH.cons rfl (fun K hK => ?_) AllReadyH.nil
    go_simp
    go_at_call 61
    have hC := impl_startStates _ _ _ _ m _ _ _ n w_13 (HR.out.up hB1) (HN.out.up hB1) HG.out
    unfold machV at hC
    refine hC.mono ?_
    clear hC
    rintro e w_9 ⟨v9, rfl, o9, hb9⟩
    obtain ⟨B9, d9, rfl⟩ := own_sl1 o9
    have r9 := rng_own o9
    replace o3 := own_up o3 hb9
    replace o6 := own_up o6 hb9
    replace HT := bk HT hb9
    have hz9 := hb9.size
    replace hB1 := bl_trans hB1 hb9
    refine hK.out _ _ hB1 (fun hHeld => ?_)
    clear hHeld hK K hb9
    try simp only [Act.put, pu]
    refine wpAnyH_ready (rs := [11]) (by kernel_rfl) (by simp) ?_
    refine AllReadyH.cons rfl (fun K hK => ?_) AllReadyH.nil
    go_simp
    go_at_call 62
    refine (impl_unlabeled _ _ _ n w_9 (HN.out.up hB1) HG.out.2.1).mono ?_
    rintro e w_11 ⟨vs, rfl, hS, hb11⟩
    have r11 : ∀ j, keyOf ⟨[], [], [], freeS n, []⟩ j → Rng (vs j) _ _ := fun j hj => rng_own (hS.own j hj)
    obtain ⟨B11, d11, e11⟩ := own_sl1 (hS.own .s trivial)
    have E11 := Lib.hid e11
    rw [e11]
    clear e11
    generalize (rowK ⟨[], [], [], freeS n, []⟩ vs .s).len = l11 at E11 ⊢
    replace o3 := own_up o3 hb11
    replace o6 := own_up o6 hb11
    replace o9 := own_up o9 hb11
    replace HT := bk HT hb11
    have hz11 := hb11.size
    replace hB1 := bl_trans hB1 hb11
    refine hK.out _ _ hB1 (fun hHeld => ?_)
    clear hHeld hK K hb11
    try simp only [Act.put, pu]
    refine stk 12 20 ?_
    refine wpAnyH_ready (rs := [14]) (by kernel_rfl) (by simp) ?_
    refine AllReadyH.cons rfl (fun K hK => ?_) AllReadyH.nil
    obtain ⟨⟨t0, t1, t2⟩, ⟨t3, t4⟩, tf⟩ := cells5 HT
    go_simp
    obtain ⟨we, hwe, HE, hge⟩ := set5 HT (.slice (some ⟨Pm, 0, none⟩) n.es.length n.es.length) (.slice B6 n.es.length d6) (.slice B9 n.es.length d9) (.slice B11 l11 d11) (.slice none 0 0)
    rw [← hwe]
    clear hwe t0 t1 t2 t3 t4 tf
    refine hK.out _ _ (Below.grown hB1 hge (by omega) (fun k hk => by have e := Option.some.inj (show some PX = some k from hk); omega)) (fun hHeld => ?_)
    clear hK K
    try simp only [Act.put, pu]
    refine wpAnyH_done (by kernel_rfl) ?_ _
    rw [← E11.out] at HE ⊢
    exact FIN.out we PX _ _ _ _ hHeld (by omega) ⟨val3 _ _ _ vs, rfl, rfl, rfl, rfl, AsyK.of3r (own_setP (own_mono o3 (show w2.heap.size ≤ _ by omega)) hge (r3.ne (by omega))) (own_setP (own_mono o6 (show w2.heap.size ≤ _ by omega)) hge (r6.ne (by omega))) (own_setP (own_mono o9 (show w2.heap.size ≤ _ by omega)) hge (r9.ne (by omega))) (by simp) (startS_len m n) (startS_len m n) (OwnK.mono (AsyK.past hS HT.out hge) (show w2.heap.size ≤ _ by omega)) r3 r6 r9 r11 (by omega) (by omega) (by omega) (by omega) (by omega) (by omega) (by omega) (by omega) (by omega) (by omega) HE⟩
  ·
   go_simp
   obtain ⟨PX, w_13, hPX, hw, hb13, HT, hPc⟩ := box_at2 w_3 nilV nilV nilV nilV nilV 34
   unfold nilV at hw HT
   rw [hPX, ← hw]
   clear hw
   replace o3 := own_up o3 hb13
   have hz13 := hb13.size
   replace hB1 := bl_trans hB1 hb13
   refine hK.out _ _ hB1 (fun hHeld => ?_)
   clear hHeld hK K hb13
   try simp only [Act.put, pu]
   refine wpAnyH_ready (rs := [6]) (by kernel_rfl) (by simp) ?_
   refine AllReadyH.cons rfl (fun K hK => ?_) AllReadyH.nil
   go_simp
   go_at_call 61
   have hC := impl_startStates _ _ _ _ m _ _ _ n w_13 (HR.out.up hB1) (HN.out.up hB1) HG.out
   unfold machV at hC
   refine hC.mono ?_
   clear hC
   rintro e w_6 ⟨v6, rfl, o6, hb6⟩
   obtain ⟨B6, d6, rfl⟩ := own_sl1 o6
   have r6 := rng_own o6
   replace o3 := own_up o3 hb6
   replace HT := bk HT hb6
   have hz6 := hb6.size
   replace hB1 := bl_trans hB1 hb6
   refine hK.out _ _ hB1 (fun hHeld => ?_)
   clear hHeld hK K hb6
   try simp only [Act.put, pu]
   refine wpAnyH_ready (rs := [9]) (by kernel_rfl) (by simp) ?_
   refine AllReadyH.cons rfl (fun K hK => ?_) AllReadyH.nil
   go_simp
   go_at_call 61
   have hC := impl_startStates _ _ _ _ m _ _ _ n w_6 (HR.out.up hB1) (HN.out.up hB1) HG.out
   unfold machV at hC
   refine hC.mono ?_
   clear hC
   rintro e w_9 ⟨v9, rfl, o9, hb9⟩
   obtain ⟨B9, d9, rfl⟩ := own_sl1 o9
   have r9 := rng_own o9
   replace o3 := own_up o3 hb9
   replace o6 := own_up o6 hb9
   replace HT := bk HT hb9
   have hz9 := hb9.size
   replace hB1 := bl_trans hB1 hb9
   refine hK.out _ _ hB1 (fun hHeld => ?_)
   clear hHeld hK K hb9
   try simp only [Act.put, pu]
   refine wpAnyH_ready (rs := [11]) (by kernel_rfl) (by simp) ?_
   refine AllReadyH.cons rfl (fun K hK => ?_) AllReadyH.nil
   go_simp
   go_at_call 62
   refine (impl_unlabeled _ _ _ n w_9 (HN.out.up hB1) HG.out.2.1).mono ?_
   rintro e w_11 ⟨vs, rfl, hS, hb11⟩
   have r11 : ∀ j, keyOf ⟨[], [], [], freeS n, []⟩ j → Rng (vs j) _ _ := fun j hj => rng_own (hS.own j hj)
   obtain ⟨B11, d11, e11⟩ := own_sl1 (hS.own .s trivial)
   have E11 := Lib.hid e11
   rw [e11]
   clear e11
   generalize (rowK ⟨[], [], [], freeS n, []⟩ vs .s).len = l11 at E11 ⊢
   replace o3 := own_up o3 hb11
   replace o6 := own_up o6 hb11
   replace o9 := own_up o9 hb11
   replace HT := bk HT hb11
   have hz11 := hb11.size
   replace hB1 := bl_trans hB1 hb11
   refine hK.out _ _ hB1 (fun hHeld => ?_)
   clear hHeld hK K hb11
   try simp only [Act.put, pu]
   refine stk 12 20 ?_
   refine wpAnyH_ready (rs := [14]) (by kernel_rfl) (by simp) ?_
   refine AllReadyH.cons rfl (fun K hK => ?_) AllReadyH.nil
   obtain ⟨⟨t0, t1, t2⟩, ⟨t3, t4⟩, tf⟩ := cells5 HT
   go_simp
   obtain ⟨we, hwe, HE, hge⟩ := set5 HT (.slice (some ⟨Pm, 0, none⟩) n.es.length n.es.length) (.slice B6 n.es.length d6) (.slice B9 n.es.length d9) (.slice B11 l11 d11) (.slice none 0 0)
   rw [← hwe]
   clear hwe t0 t1 t2 t3 t4 tf
   refine hK.out _ _ (Below.grown hB1 hge (by omega) (fun k hk => by have e := Option.some.inj (show some PX = some k from hk); omega)) (fun hHeld => ?_)
   clear hK K
   try simp only [Act.put, pu]
   refine wpAnyH_done (by kernel_rfl) ?_ _
   rw [← E11.out] at HE ⊢
   exact FIN.out we PX _ _ _ _ hHeld (by omega) ⟨val3 _ _ _ vs, rfl, rfl, rfl, rfl, AsyK.of3r (own_setP (own_mono o3 (show w2.heap.size ≤ _ by omega)) hge (r3.ne (by omega))) (own_setP (own_mono o6 (show w2.heap.size ≤ _ by omega)) hge (r6.ne (by omega))) (own_setP (own_mono o9 (show w2.heap.size ≤ _ by omega)) hge (r9.ne (by omega))) (by simp) (startS_len m n) (startS_len m n) (OwnK.mono (AsyK.past hS HT.out hge) (show w2.heap.size ≤ _ by omega)) r3 r6 r9 r11 (by omega) (by omega) (by omega) (by omega) (by omega) (by omega) (by omega) (by omega) (by omega) (by omega) HE⟩
 ·
  go_simp
  go_at_call 61
  have hC := impl_startStates _ _ _ _ m _ _ _ n wd (HR.out.up hB1) (HN.out.up hB1) HG.out
  unfold machV at hC
  refine hC.mono ?_
  clear hC
  rintro e w_6 ⟨v6, rfl, o6, hb6⟩
  obtain ⟨B6, d6, rfl⟩ := own_sl1 o6
  have r6 := rng_own o6
  have hz6 := hb6.size
  replace hB1 := bl_trans hB1 hb6
  refine hK.out _ _ hB1 (fun hHeld => ?_)
  clear hHeld hK K hb6
  try simp only [Act.put, pu]
  refine wpAnyH_ready (rs := [3, 9, 13]) (by kernel_rfl) (by simp) ?_
  refine AllReadyH.cons rfl (fun K hK => ?_) (AllReadyH.cons rfl (fun K hK => ?_) (AllReadyH.cons rfl (fun K hK => ?_) AllReadyH.nil))
  ·
   go_simp
   obtain ⟨Pm, w_3, hPm, hw, hb3, o3⟩ := made_at w_6 n.es.length (by omega)
   rw [hPm, ← hw]
   have r3 := rng_own o3
   clear hw
   replace o6 := own_up o6 hb3
   have hz3 := hb3.size
   replace hB1 := bl_trans hB1 hb3
   refine hK.out _ _ hB1 (fun hHeld => ?_)
   clear hHeld hK K hb3
   try simp only [Act.put, pu]
   refine wpAnyH_ready (rs := [9, 13]) (by kernel_rfl) (by simp) ?_
   refine AllReadyH.cons rfl (fun K hK => ?_) (AllReadyH.cons rfl (fun K hK => ?_) AllReadyH.nil)
   ·
    go_simp
    go_at_call 61
    have hC := impl_startStates _ _ _ _ m _ _ _ n w_3 (HR.out.up hB1) (HN.out.up hB1) HG.out
    unfold machV at hC
    refine hC.mono ?_
    clear hC
    rintro e w_9 ⟨v9, rfl, o9, hb9⟩
    obtain ⟨B9, d9, rfl⟩ := own_sl1 o9
    have r9 := rng_own o9
    replace o6 := own_up o6 hb9
    replace o3 := own_up o3 hb9
    have hz9 := hb9.size
    replace hB1 := bl_trans hB1 hb9
    refine hK.out _ _ hB1 (fun hHeld => ?_)
    clear hHeld hK K hb9
    try simp only [Act.put, pu]
    refine wpAnyH_ready (rs := [11, 13]) (by kernel_rfl) (by simp) ?_
    refine AllReadyH.cons rfl (fun K hK => ?_) (AllReadyH.cons rfl (fun K hK => ?_) AllReadyH.nil)
    ·
     go_simp
     go_at_call 62
     refine (impl_unlabeled _ _ _ n w_9 (HN.out.up hB1) HG.out.2.1).mono ?_
     rintro e w_11 ⟨vs, rfl, hS, hb11⟩
     have r11 : ∀ j, keyOf ⟨[], [], [], freeS n, []⟩ j → Rng (vs j) _ _ := fun j hj => rng_own (hS.own j hj)
     obtain ⟨B11, d11, e11⟩ := own_sl1 (hS.own .s trivial)
     have E11 := Lib.hid e11
     rw [e11]
     clear e11
     generalize (rowK ⟨[], [], [], freeS n, []⟩ vs .s).len = l11 at E11 ⊢
     replace o6 := own_up o6 hb11
     replace o3 := own_up o3 hb11
     replace o9 := own_up o9 hb11
     have hz11 := hb11.size
     replace hB1 := bl_trans hB1 hb11
     refine hK.out _ _ hB1 (fun hHeld => ?_)
     clear hHeld hK K hb11
     try simp only [Act.put, pu]
     refine stk 12 20 ?_
     refine wpAnyH_ready (rs := [13]) (by kernel_rfl) (by simp) ?_
     refine AllReadyH.cons rfl (fun K hK => ?_) AllReadyH.nil
     go_simp
     obtain ⟨PX, w_13, hPX, hw, hb13, HT, hPc⟩ := box_at2 w_11 nilV nilV nilV nilV nilV 34
     unfold nilV at hw HT
     rw [hPX, ← hw]
     clear hw
     replace o6 := own_up o6 hb13
     replace o3 := own_up o3 hb13
     replace o9 := own_up o9 hb13
     replace hS := AsyK.up hS hb13
     have hz13 := hb13.size
     replace hB1 := bl_trans hB1 hb13
     refine hK.out _ _ hB1 (fun hHeld => ?_)
     clear hHeld hK K hb13
     try simp only [Act.put, pu]
     refine wpAnyH_ready (rs := [14]) (by kernel_rfl) (by simp) ?_
     refine AllReadyH.cons rfl (fun K hK => ?_) AllReadyH.nil
     obtain ⟨⟨t0, t1, t2⟩, ⟨t3, t4⟩, tf⟩ := cells5 HT
     go_simp
     obtain ⟨we, hwe, HE, hge⟩ := set5 HT (.slice (some ⟨Pm, 0, none⟩) n.es.length n.es.length) (.slice B6 n.es.length d6) (.slice B9 n.es.length d9) (.slice B11 l11 d11) (.slice none 0 0)
     rw [← hwe]
     clear hwe t0 t1 t2 t3 t4 tf
     refine hK.out _ _ (Below.grown hB1 hge (by omega) (fun k hk => by have e := Option.some.inj (show some PX = some k from hk); omega)) (fun hHeld => ?_)
     clear hK K
     try simp only [Act.put, pu]
     refine wpAnyH_done (by kernel_rfl) ?_ _
     rw [← E11.out] at HE ⊢
     exact FIN.out we PX _ _ _ _ hHeld (by omega) ⟨val3 _ _ _ vs, rfl, rfl, rfl, rfl, AsyK.of3r (own_setP (own_mono o3 (show w2.heap.size ≤ _ by omega)) hge (r3.ne (by omega))) (own_setP (own_mono o6 (show w2.heap.size ≤ _ by omega)) hge (r6.ne (by omega))) (own_setP (own_mono o9 (show w2.heap.size ≤ _ by omega)) hge (r9.ne (by omega))) (by simp) (startS_len m n) (startS_len m n) (OwnK.mono (AsyK.past hS HT.out hge) (show w2.heap.size ≤ _ by omega)) r3 r6 r9 r11 (by omega) (by omega) (by omega) (by omega) (by omega) (by omega) (by omega) (by omega) (by omega) (by omega) HE⟩
    ·
     go_simp
     obtain ⟨PX, w_13, hPX, hw, hb13, HT, hPc⟩ := box_at2 w_9 nilV nilV nilV nilV nilV 34
     unfold nilV at hw HT
     rw [hPX, ← hw]
     clear hw
     replace o6 := own_up o6 hb13
     replace o3 := own_up o3 hb13
     replace o9 := own_up o9 hb13
     have hz13 := hb13.size
     replace hB1 := bl_trans hB1 hb13
     refine hK.out _ _ hB1 (fun hHeld => ?_)
     clear hHeld hK K hb13
     try simp only [Act.put, pu]
     refine wpAnyH_ready (rs := [11]) (by kernel_rfl) (by simp) ?_
     refine AllReadyH.cons rfl (fun K hK => ?_) AllReadyH.nil
     go_simp
     go_at_call 62
     refine (impl_unlabeled _ _ _ n w_13 (HN.out.up hB1) HG.out.2.1).mono ?_
     rintro e w_11 ⟨vs, rfl, hS, hb11⟩
     have r11 : ∀ j, keyOf ⟨[], [], [], freeS n, []⟩ j → Rng (vs j) _ _ := fun j hj => rng_own (hS.own j hj)
     obtain ⟨B11, d11, e11⟩ := own_sl1 (hS.own .s trivial)
     have E11 := Lib.hid e11
     rw [e11]
     clear e11
     generalize (rowK ⟨[], [], [], freeS n, []⟩ vs .s).len = l11 at E11 ⊢
     replace o6 := own_up o6 hb11
     replace o3 := own_up o3 hb11
     replace o9 := own_up o9 hb11
     replace HT := bk HT hb11
     have hz11 := hb11.size
     replace hB1 := bl_trans hB1 hb11
     refine hK.out _ _ hB1 (fun hHeld => ?_)
     clear hHeld hK K hb11
     try simp only [Act.put, pu]
     refine stk 12 20 ?_
     refine wpAnyH_ready (rs := [14]) (by kernel_rfl) (by simp) ?_
     refine AllReadyH.cons rfl (fun K hK => ?_) AllReadyH.nil
     obtain ⟨⟨t0, t1, t2⟩, ⟨t3, t4⟩, tf⟩ := cells5 HT
     go_simp
     obtain ⟨we, hwe, HE, hge⟩ := set5 HT (.slice (some ⟨Pm, 0, none⟩) n.es.length n.es.length) (.slice B6 n.es.length d6) (.slice B9 n.es.length d9) (.slice B11 l11 d11) (.slice none 0 0)
     rw [← hwe]
     clear hwe t0 t1 t2 t3 t4 tf
     refine hK.out _ _ (Below.grown hB1 hge (by omega) (fun k hk => by have e := Option.some.inj (show some PX = some k from hk); omega)) (fun hHeld => ?_)
     clear hK K
     try simp only [Act.put, pu]
     refine wpAnyH_done (by kernel_rfl) ?_ _
     rw [← E11.out] at HE ⊢
     exact FIN.out we PX _ _ _ _ hHeld (by omega) ⟨val3 _ _ _ vs, rfl, rfl, rfl, rfl, AsyK.of3r (own_setP (own_mono o3 (show w2.heap.size ≤ _ by omega)) hge (r3.ne (by omega))) (own_setP (own_mono o6 (show w2.heap.size ≤ _ by omega)) hge (r6.ne (by omega))) (own_setP (own_mono o9 (show w2.heap.size ≤ _ by omega)) hge (r9.ne (by omega))) (by simp) (startS_len m n) (startS_len m n) (OwnK.mono (AsyK.past hS HT.out hge) (show w2.heap.size ≤ _ by omega)) r3 r6 r9 r11 (by omega) (by omega) (by omega) (by omega) (by omega) (by omega) (by omega) (by omega) (by omega) (by omega) HE⟩
   ·
    go_simp
    obtain ⟨PX, w_13, hPX, hw, hb13, HT, hPc⟩ := box_at2 w_3 nilV nilV nilV nilV nilV 34
    unfold nilV at hw HT
    rw [hPX, ← hw]
    clear hw
    replace o6 := own_up o6 hb13
    replace o3 := own_up o3 hb13
    have hz13 := hb13.size
    replace hB1 := bl_trans hB1 hb13
    refine hK.out _ _ hB1 (fun hHeld => ?_)
    clear hHeld hK K hb13
    try simp only [Act.put, pu]
    refine wpAnyH_ready (rs := [9]) (by kernel_rfl) (by simp) ?_
    refine AllReadyH.cons rfl (fun K hK => ?_) AllReadyH.nil
    go_simp
    go_at_call 61
    have hC := impl_startStates _ _ _ _ m _ _ _ n w_13 (HR.out.up hB1) (HN.out.up hB1) HG.out
    unfold machV at hC
    refine hC.mono ?_
    clear hC
    rintro e w_9 ⟨v9, rfl, o9, hb9⟩
    obtain ⟨B9, d9, rfl⟩ := own_sl1 o9
    have r9 := rng_own o9
    replace o6 := own_up o6 hb9
    replace o3 := own_up o3 hb9
    replace HT := bk HT hb9
    have hz9 := hb9.size
    replace hB1 := bl_trans hB1 hb9
    refine hK.out _ _ hB1 (fun hHeld => ?_)
    clear hHeld hK K hb9
    try simp only [Act.put, pu]
    refine wpAnyH_ready (rs := [11]) (by kernel_rfl) (by simp) ?_
    refine AllReadyH.cons rfl (fun K hK => ?_) AllReadyH.nil
    go_simp
    go_at_call 62
    refine (impl_unlabeled _ _ _ n w_9 (HN.out.up hB1) HG.out.2.1).mono ?_
    rintro e w_11 ⟨vs, rfl, hS, hb11⟩
    have r11 : ∀ j, keyOf ⟨[], [], [], freeS n, []⟩ j → Rng (vs j) _ _ := fun j hj => rng_own (hS.own j hj)
    obtain ⟨B11, d11, e11⟩ := own_sl1 (hS.own .s trivial)
    have E11 := Lib.hid e11
    rw [e11]
    clear e11
    generalize (rowK ⟨[], [], [], freeS n, []⟩ vs .s).len = l11 at E11 ⊢
    replace o6 := own_up o6 hb11
    replace o3 := own_up o3 hb11
    replace o9 := own_up o9 hb11
    replace HT := bk HT hb11
    have hz11 := hb11.size
    replace hB1 := bl_trans hB1 hb11
    refine hK.out _ _ hB1 (fun hHeld => ?_)
    clear hHeld hK K hb11
    try simp only [Act.put, pu]
    refine stk 12 20 ?_
    refine wpAnyH_ready (rs := [14]) (by kernel_rfl) (by simp) ?_
    refine AllReadyH.cons rfl (fun K hK => ?_) AllReadyH.nil
    obtain ⟨⟨t0, t1, t2⟩, ⟨t3, t4⟩, tf⟩ := cells5 HT
    go_simp
    obtain ⟨we, hwe, HE, hge⟩ := set5 HT (.slice (some ⟨Pm, 0, none⟩) n.es.length n.es.length) (.slice B6 n.es.length d6) (.slice B9 n.es.length d9) (.slice B11 l11 d11) (.slice none 0 0)
    rw [← hwe]
    clear hwe t0 t1 t2 t3 t4 tf
    refine hK.out _ _ (Below.grown hB1 hge (by omega) (fun k hk => by have e := Option.some.inj (show some PX = some k from hk); omega)) (fun hHeld => ?_)
    clear hK K
    try simp only [Act.put, pu]
    refine wpAnyH_done (by kernel_rfl) ?_ _
    rw [← E11.out] at HE ⊢
    exact FIN.out we PX _ _ _ _ hHeld (by omega) ⟨val3 _ _ _ vs, rfl, rfl, rfl, rfl, AsyK.of3r (own_setP (own_mono o3 (show w2.heap.size ≤ _ by omega)) hge (r3.ne (by omega))) (own_setP (own_mono o6 (show w2.heap.size ≤ _ by omega)) hge (r6.ne (by omega))) (own_setP (own_mono o9 (show w2.heap.size ≤ _ by omega)) hge (r9.ne (by omega))) (by simp) (startS_len m n) (startS_len m n) (OwnK.mono (AsyK.past hS HT.out hge) (show w2.heap.size ≤ _ by omega)) r3 r6 r9 r11 (by omega) (by omega) (by omega) (by omega) (by omega) (by omega) (by omega) (by omega) (by omega) (by omega) HE⟩
  ·
   go_simp
   go_at_call 61
   have hC := impl_startStates _ _ _ _ m _ _ _ n w_6 (HR.out.up hB1) (HN.out.up hB1) HG.out
   unfold machV at hC
   refine hC.mono ?_
   clear hC
   rintro e w_9 ⟨v9, rfl, o9, hb9⟩
   obtain ⟨B9, d9, rfl⟩ := own_sl1 o9
   have r9 := rng_own o9
   replace o6 := own_up o6 hb9
   have hz9 := hb9.size
   replace hB1 := bl_trans hB1 hb9
   refine hK.out _ _ hB1 (fun hHeld => ?_)
   clear hHeld hK K hb9
   try simp only [Act.put, pu]
   refine wpAnyH_ready (rs := [3, 11, 13]) (by kernel_rfl) (by simp) ?_
   refine AllReadyH.cons rfl (fun K hK => ?_) (AllReadyH.cons rfl (fun K hK => ?_) (AllReadyH.cons rfl (fun K hK => ?_) AllReadyH.nil))
   ·
    go_simp
    obtain ⟨Pm, w_3, hPm, hw, hb3, o3⟩ := made_at w_9 n.es.length (by omega)
    rw [hPm, ← hw]
    have r3 := rng_own o3
    clear hw
    replace o6 := own_up o6 hb3
    replace o9 := own_up o9 hb3
    have hz3 := hb3.size
    replace hB1 := bl_trans hB1 hb3
    refine hK.out _ _ hB1 (fun hHeld => ?_)
    clear hHeld hK K hb3
    try simp only [Act.put, pu]
    refine wpAnyH_ready (rs := [11, 13]) (by kernel_rfl) (by simp) ?_
    refine AllReadyH.cons rfl (fun K hK => ?_) (AllReadyH.cons rfl (fun K hK => ?_) AllReadyH.nil)
    ·
     go_simp
     go_at_call 62
     refine (impl_unlabeled _ _ _ n w_3 (HN.out.up hB1) HG.out.2.1).mono ?_
     rintro e w_11 ⟨vs, rfl, hS, hb11⟩
     have r11 : ∀ j, keyOf ⟨[], [], [], freeS n, []⟩ j → Rng (vs j) _ _ := fun j hj => rng_own (hS.own j hj)
     obtain ⟨B11, d11, e11⟩ := own_sl1 (hS.own .s trivial)
     have E11 := Lib.hid e11
     rw [e11]
     clear e11
     generalize (rowK ⟨[], [], [], freeS n, []⟩ vs .s).len = l11 at E11 ⊢
     replace o6 := own_up o6 hb11
     replace o9 := own_up o9 hb11
     replace o3 := own_up o3 hb11
     have hz11 := hb11.size
     replace hB1 := bl_trans hB1 hb11
     refine hK.out _ _ hB1 (fun hHeld => ?_)
     clear hHeld hK K hb11
     try simp only [Act.put, pu]
     refine stk 12 20 ?_
     refine wpAnyH_ready (rs := [13]) (by kernel_rfl) (by simp) ?_
     refine AllReadyH.cons rfl (fun K hK => ?_) AllReadyH.nil
     go_simp
     obtain ⟨PX, w_13, hPX, hw, hb13, HT, hPc⟩ := box_at2 w_11 nilV nilV nilV nilV nilV 34
     unfold nilV at hw HT
     rw [hPX, ← hw]
     clear hw
     replace o6 := own_up o6 hb13
     replace o9 := own_up o9 hb13
     replace o3 := own_up o3 hb13
     replace hS := AsyK.up hS hb13
     have hz13 := hb13.size
     replace hB1 := bl_trans hB1 hb13
     refine hK.out _ _ hB1 (fun hHeld => ?_)
     clear hHeld hK K hb13
     try simp only [Act.put, pu]
     refine wpAnyH_ready (rs := [14]) (by kernel_rfl) (by simp) ?_
     refine AllReadyH.cons rfl (fun K hK => ?_) AllReadyH.nil
     obtain ⟨⟨t0, t1, t2⟩, ⟨t3, t4⟩, tf⟩ := cells5 HT
     go_simp
     obtain ⟨we, hwe, HE, hge⟩ := set5 HT (.slice (some ⟨Pm, 0, none⟩) n.es.length n.es.length) (.slice B6 n.es.length d6) (.slice B9 n.es.length d9) (.slice B11 l11 d11) (.slice none 0 0)
     rw [← hwe]
     clear hwe t0 t1 t2 t3 t4 tf
     refine hK.out _ _ (Below.grown hB1 hge (by omega) (fun k hk => by have e := Option.some.inj (show some PX = some k from hk); omega)) (fun hHeld => ?_)
     clear hK K
     try simp only [Act.put, pu]
     refine wpAnyH_done (by kernel_rfl) ?_ _
     rw [← E11.out] at HE ⊢
     exact FIN.out we PX _ _ _ _ hHeld (by omega) ⟨val3 _ _ _ vs, rfl, rfl, rfl, rfl, AsyK.of3r (own_setP (own_mono o3 (show w2.heap.size ≤ _ by omega)) hge (r3.ne (by omega))) (own_setP (own_mono o6 (show w2.heap.size ≤ _ by omega)) hge (r6.ne (by omega))) (own_setP (own_mono o9 (show w2.heap.size ≤ _ by omega)) hge (r9.ne (by omega))) (by simp) (startS_len m n) (startS_len m n) (OwnK.mono (AsyK.past hS HT.out hge) (show w2.heap.size ≤ _ by omega)) r3 r6 r9 r11 (by omega) (by omega) (by omega) (by omega) (by omega) (by omega) (by omega) (by omega) (by omega) (by omega) HE⟩
    ·
     go_simp
     obtain ⟨PX, w_13, hPX, hw, hb13, HT, hPc⟩ := box_at2 w_3 nilV nilV nilV nilV nilV 34
     unfold nilV at hw HT
     rw [hPX, ← hw]
     clear hw
     replace o6 := own_up o6 hb13
     replace o9 := own_up o9 hb13
     replace o3 := own_up o3 hb13
     have hz13 := hb13.size
     replace hB1 := bl_trans hB1 hb13
     refine hK.out _ _ hB1 (fun hHeld => ?_)
     clear hHeld hK K hb13
     try simp only [Act.put, pu]
     refine wpAnyH_ready (rs := [11]) (by kernel_rfl) (by simp) ?_
     refine AllReadyH.cons rfl (fun K hK => ?_) AllReadyH.nil
     go_simp
     go_at_call 62
     refine (impl_unlabeled _ _ _ n w_13 (HN.out.up hB1) HG.out.2.1).mono ?_
     rintro e w_11 ⟨vs, rfl, hS, hb11⟩
     have r11 : ∀ j, keyOf ⟨[], [], [], freeS n, []⟩ j → Rng (vs j) _ _ := fun j hj => rng_own (hS.own j hj)
     obtain ⟨B11, d11, e11⟩ := own_sl1 (hS.own .s trivial)
     have E11 := Lib.hid e11
     rw [e11]
     clear e11
     generalize (rowK ⟨[], [], [], freeS n, []⟩ vs .s).len = l11 at E11 ⊢
     replace o6 := own_up o6 hb11
     replace o9 := own_up o9 hb11
     replace o3 := own_up o3 hb11
     replace HT := bk HT hb11
     have hz11 := hb11.size
     replace hB1 := bl_trans hB1 hb11
     refine hK.out _ _ hB1 (fun hHeld => ?_)
     clear hHeld hK K hb11
     try simp only [Act.put, pu]
     refine stk 12 20 ?_
     refine wpAnyH_ready (rs := [14]) (by kernel_rfl) (by simp) ?_
     refine AllReadyH.cons rfl (fun K hK => ?_) AllReadyH.nil
     obtain ⟨⟨t0, t1, t2⟩, ⟨t3, t4⟩, tf⟩ := cells5 HT
     go_simp
     obtain ⟨we, hwe, HE, hge⟩ := set5 HT (.slice (some ⟨Pm, 0, none⟩) n.es.length n.es.length) (.slice B6 n.es.length d6) (.slice B9 n.es.length d9) (.slice B11 l11 d11) (.slice none 0 0)
     rw [← hwe]
     clear hwe t0 t1 t2 t3 t4 tf
     refine hK.out _ _ (Below.grown hB1 hge (by omega) (fun k hk => by have e := Option.some.inj (show some PX = some k from hk); omega)) (fun hHeld => ?_)
     clear hK K
     try simp only [Act.put, pu]
     refine wpAnyH_done (by kernel_rfl) ?_ _
     rw [← E11.out] at HE ⊢
     exact FIN.out we PX _ _ _ _ hHeld (by omega) ⟨val3 _ _ _ vs, rfl, rfl, rfl, rfl, AsyK.of3r (own_setP (own_mono o3 (show w2.heap.size ≤ _ by omega)) hge (r3.ne (by omega))) (own_setP (own_mono o6 (show w2.heap.size ≤ _ by omega)) hge (r6.ne (by omega))) (own_setP (own_mono o9 (show w2.heap.size ≤ _ by omega)) hge (r9.ne (by omega))) (by simp) (startS_len m n) (startS_len m n) (OwnK.mono (AsyK.past hS HT.out hge) (show w2.heap.size ≤ _ by omega)) r3 r6 r9 r11 (by omega) (by omega) (by omega) (by omega) (by omega) (by omega) (by omega) (by omega) (by omega) (by omega) HE⟩
   ·
    go_simp
    go_at_call 62
    refine (impl_unlabeled _ _ _ n w_9 (HN.out.up hB1) HG.out.2.1).mono ?_
    rintro e w_11 ⟨vs, rfl, hS, hb11⟩
    have r11 : ∀ j, keyOf ⟨[], [], [], freeS n, []⟩ j → Rng (vs j) _ _ := fun j hj => rng_own (hS.own j hj)
    obtain ⟨B11, d11, e11⟩ := own_sl1 (hS.own .s trivial)
    have E11 := Lib.hid e11
    rw [e11]
    clear e11
    generalize (rowK ⟨[], [], [], freeS n, []⟩ vs .s).len = l11 at E11 ⊢
    replace o6 := own_up o6 hb11
    replace o9 := own_up o9 hb11
    have hz11 := hb11.size
    replace hB1 := bl_trans hB1 hb11
    refine hK.out _ _ hB1 (fun hHeld => ?_)
    clear hHeld hK K hb11
    try simp only [Act.put, pu]
    refine wpAnyH_ready (rs := [3, 13]) (by kernel_rfl) (by simp) ?_
    refine AllReadyH.cons rfl (fun K hK => ?_) (AllReadyH.cons rfl (fun K hK => ?_) AllReadyH.nil)
    ·
     go_simp
     obtain ⟨Pm, w_3, hPm, hw, hb3, o3⟩ := made_at w_11 n.es.length (by omega)
     rw [hPm, ← hw]
     have r3 := rng_own o3
     clear hw
     replace o6 := own_up o6 hb3
     replace o9 := own_up o9 hb3
     replace hS := AsyK.up hS hb3
     have hz3 := hb3.size
     replace hB1 := bl_trans hB1 hb3
     refine hK.out _ _ hB1 (fun hHeld => ?_)
     clear hHeld hK K hb3
     try simp only [Act.put, pu]
     refine stk 12 20 ?_
     refine wpAnyH_ready (rs := [13]) (by kernel_rfl) (by simp) ?_
     refine AllReadyH.cons rfl (fun K hK => ?_) AllReadyH.nil
     go_simp
     obtain ⟨PX, w_13, hPX, hw, hb13, HT, hPc⟩ := box_at2 w_3 nilV nilV nilV nilV nilV 34
     unfold nilV at hw HT
     rw [hPX, ← hw]
     clear hw
     replace o6 := own_up o6 hb13
     replace o9 := own_up o9 hb13
     replace hS := AsyK.up hS hb13
     replace o3 := own_up o3 hb13
     have hz13 := hb13.size
     replace hB1 := bl_trans hB1 hb13
     refine hK.out _ _ hB1 (fun hHeld => ?_)
     clear hHeld hK K hb13
     try simp only [Act.put, pu]
     refine wpAnyH_ready (rs := [14]) (by kernel_rfl) (by simp) ?_
     refine AllReadyH.cons rfl (fun K hK => ?_) AllReadyH.nil
     obtain ⟨⟨t0, t1, t2⟩, ⟨t3, t4⟩, tf⟩ := cells5 HT
     go_simp
     obtain ⟨we, hwe, HE, hge⟩ := set5 HT (.slice (some ⟨Pm, 0, none⟩) n.es.length n.es.length) (.slice B6 n.es.length d6) (.slice B9 n.es.length d9) (.slice B11 l11 d11) (.slice none 0 0)
     rw [← hwe]
     clear hwe t0 t1 t2 t3 t4 tf
     refine hK.out _ _ (Below.grown hB1 hge (by omega) (fun k hk => by have e := Option.some.inj (show some PX = some k from hk); omega)) (fun hHeld => ?_)
     clear hK K
     try simp only [Act.put, pu]
     refine wpAnyH_done (by kernel_rfl) ?_ _
     rw [← E11.out] at HE ⊢
     exact FIN.out we PX _ _ _ _ hHeld (by omega) ⟨val3 _ _ _ vs, rfl, rfl, rfl, rfl, AsyK.of3r (own_setP (own_mono o3 (show w2.heap.size ≤ _ by omega)) hge (r3.ne (by omega))) (own_setP (own_mono o6 (show w2.heap.size ≤ _ by omega)) hge (r6.ne (by omega))) (own_setP (own_mono o9 (show w2.heap.size ≤ _ by omega)) hge (r9.ne (by omega))) (by simp) (startS_len m n) (startS_len m n) (OwnK.mono (AsyK.past hS HT.out hge) (show w2.heap.size ≤ _ by omega)) r3 r6 r9 r11 (by omega) (by omega) (by omega) (by omega) (by omega) (by omega) (by omega) (by omega) (by omega) (by omega) HE⟩
    ·
     go_simp
     obtain ⟨PX, w_13, hPX, hw, hb13, HT, hPc⟩ := box_at2 w_11 nilV nilV nilV nilV nilV 34
     unfold nilV at hw HT
     rw [hPX, ← hw]
     clear hw
     replace o6 := own_up o6 hb13
     replace o9 := own_up o9 hb13
     replace hS := AsyK.up hS hb13
     have hz13 := hb13.size
     replace hB1 := bl_trans hB1 hb13
     refine hK.out _ _ hB1 (fun hHeld => ?_)
     clear hHeld hK K hb13
     try simp only [Act.put, pu]
     refine wpAnyH_ready (rs := [3]) (by kernel_rfl) (by simp) ?_
     refine AllReadyH.cons rfl (fun K hK => ?_) AllReadyH.nil
     go_simp
     obtain ⟨Pm, w_3, hPm, hw, hb3, o3⟩ := made_at w_13 n.es.length (by omega)
     rw [hPm, ← hw]
     have r3 := rng_own o3
     clear hw
     replace o6 := own_up o6 hb3
     replace o9 := own_up o9 hb3
     replace hS := AsyK.up hS hb3
     replace HT := bk HT hb3
     have hz3 := hb3.size
     replace hB1 := bl_trans hB1 hb3
     refine hK.out _ _ hB1 (fun hHeld => ?_)
     clear hHeld hK K hb3
     try simp only [Act.put, pu]
     refine stk 12 20 ?_
     refine wpAnyH_ready (rs := [14]) (by kernel_rfl) (by simp) ?_
     refine AllReadyH.cons rfl (fun K hK => ?_) AllReadyH.nil
     obtain ⟨⟨t0, t1, t2⟩, ⟨t3, t4⟩, tf⟩ := cells5 HT
     go_simp
     obtain ⟨we, hwe, HE, hge⟩ := set5 HT (.slice (some ⟨Pm, 0, none⟩) n.es.length n.es.length) (.slice B6 n.es.length d6) (.slice B9 n.es.length d9) (.slice B11 l11 d11) (.slice none 0 0)
     rw [← hwe]
     clear hwe t0 t1 t2 t3 t4 tf
     refine hK.out _ _ (Below.grown hB1 hge (by omega) (fun k hk => by have e := Option.some.inj (show some PX = some k from hk); omega)) (fun hHeld => ?_)
     clear hK K
     try simp only [Act.put, pu]
     refine wpAnyH_done (by kernel_rfl) ?_ _
     rw [← E11.out] at HE ⊢
     exact FIN.out we PX _ _ _ _ hHeld (by omega) ⟨val3 _ _ _ vs, rfl, rfl, rfl, rfl, AsyK.of3r (own_setP (own_mono o3 (show w2.heap.size ≤ _ by omega)) hge (r3.ne (by omega))) (own_setP (own_mono o6 (show w2.heap.size ≤ _ by omega)) hge (r6.ne (by omega))) (own_setP (own_mono o9 (show w2.heap.size ≤ _ by omega)) hge (r9.ne (by omega))) (by simp) (startS_len m n) (startS_len m n) (OwnK.mono (AsyK.past hS HT.out hge) (show w2.heap.size ≤ _ by omega)) r3 r6 r9 r11 (by omega) (by omega) (by omega) (by omega) (by omega) (by omega) (by omega) (by omega) (by omega) (by omega) HE⟩
   ·
    go_simp
    obtain ⟨PX, w_13, hPX, hw, hb13, HT, hPc⟩ := box_at2 w_9 nilV nilV nilV nilV nilV 34
    unfold nilV at hw HT
    rw [hPX, ← hw]
    clear hw
    replace o6 := own_up o6 hb13
    replace o9 := own_up o9 hb13
    have hz13 := hb13.size
    replace hB1 := bl_trans hB1 hb13
    refine hK.out _ _ hB1 (fun hHeld => ?_)
    clear hHeld hK K hb13
    try simp only [Act.put, pu]
    refine wpAnyH_ready (rs := [3, 11]) (by kernel_rfl) (by simp) ?_
    refine AllReadyH.cons rfl (fun K hK => ?_) (AllReadyH.cons rfl (fun K hK => ?_) AllReadyH.nil)
    ·
     go_simp
     obtain ⟨Pm, w_3, hPm, hw, hb3, o3⟩ := made_at w_13 n.es.length (by omega)
     rw [hPm, ← hw]
     have r3 := rng_own o3
     clear hw
     replace o6 := own_up o6 hb3
     replace o9 := own_up o9 hb3
     replace HT := bk HT hb3
     have hz3 := hb3.size
     replace hB1 := bl_trans hB1 hb3
     refine hK.out _ _ hB1 (fun hHeld => ?_)
     clear hHeld hK K hb3
     try simp only [Act.put, pu]
     refine wpAnyH_ready (rs := [11]) (by kernel_rfl) (by simp) ?_
     refine AllReadyH.cons rfl (fun K hK => ?_) AllReadyH.nil
     go_simp
     go_at_call 62
     refine (impl_unlabeled _ _ _ n w_3 (HN.out.up hB1) HG.out.2.1).mono ?_
     rintro e w_11 ⟨vs, rfl, hS, hb11⟩
     have r11 : ∀ j, keyOf ⟨[], [], [], freeS n, []⟩ j → Rng (vs j) _ _ := fun j hj => rng_own (hS.own j hj)
     obtain ⟨B11, d11, e11⟩ := own_sl1 (hS.own .s trivial)
     have E11 := Lib.hid e11
     rw [e11]
     clear e11
     generalize (rowK ⟨[], [], [], freeS n, []⟩ vs .s).len = l11 at E11 ⊢
     replace o6 := own_up o6 hb11
     replace o9 := own_up o9 hb11
     replace o3 := own_up o3 hb11
     replace HT := bk HT hb11
     have hz11 := hb11.size
     replace hB1 := bl_trans hB1 hb11
     refine hK.out _ _ hB1 (fun hHeld => ?_)
     clear hHeld hK K hb11
     try simp only [Act.put, pu]
     refine stk 12 20 ?_
     refine wpAnyH_ready (rs := [14]) (by kernel_rfl) (by simp) ?_
     refine AllReadyH.cons rfl (fun K hK => ?_) AllReadyH.nil
     obtain ⟨⟨t0, t1, t2⟩, ⟨t3, t4⟩, tf⟩ := cells5 HT
     go_simp
     obtain ⟨we, hwe, HE, hge⟩ := set5 HT (.slice (some ⟨Pm, 0, none⟩) n.es.length n.es.length) (.slice B6 n.es.length d6) (.slice B9 n.es.length d9) (.slice B11 l11 d11) (.slice none 0 0)
     rw [← hwe]
     clear hwe t0 t1 t2 t3 t4 tf
     refine hK.out _ _ (Below.grown hB1 hge (by omega) (fun k hk => by have e := Option.some.inj (show some PX = some k from hk); omega)) (fun hHeld => ?_)
     clear hK K
     try simp only [Act.put, pu]
     refine wpAnyH_done (by kernel_rfl) ?_ _
     rw [← E11.out] at HE ⊢
     exact FIN.out we PX _ _ _ _ hHeld (by omega) ⟨val3 _ _ _ vs, rfl, rfl, rfl, rfl, AsyK.of3r (own_setP (own_mono o3 (show w2.heap.size ≤ _ by omega)) hge (r3.ne (by omega))) (own_setP (own_mono o6 (show w2.heap.size ≤ _ by omega)) hge (r6.ne (by omega))) (own_setP (own_mono o9 (show w2.heap.size ≤ _ by omega)) hge (r9.ne (by omega))) (by simp) (startS_len m n) (startS_len m n) (OwnK.mono (AsyK.past hS HT.out hge) (show w2.heap.size ≤ _ by omega)) r3 r6 r9 r11 (by omega) (by omega) (by omega) (by omega) (by omega) (by omega) (by omega) (by omega) (by omega) (by omega) HE⟩
    ·
     go_simp
     go_at_call 62
     refine (impl_unlabeled _ _ _ n w_13 (HN.out.up hB1) HG.out.2.1).mono ?_
     rintro e w_11 ⟨vs, rfl, hS, hb11⟩
     have r11 : ∀ j, keyOf ⟨[], [], [], freeS n, []⟩ j → Rng (vs j) _ _ := fun j hj => rng_own (hS.own j hj)
     obtain ⟨B11, d11, e11⟩ := own_sl1 (hS.own .s trivial)
     have E11 := Lib.hid e11
     rw [e11]
     clear e11
     generalize (rowK ⟨[], [], [], freeS n, []⟩ vs .s).len = l11 at E11 ⊢
     replace o6 := own_up o6 hb11
     replace o9 := own_up o9 hb11
     replace HT := bk HT hb11
     have hz11 := hb11.size
     replace hB1 := bl_trans hB1 hb11
     refine hK.out _ _ hB1 (fun hHeld => ?_)
     clear hHeld hK K hb11
     try simp only [Act.put, pu]
     refine wpAnyH_ready (rs := [3]) (by kernel_rfl) (by simp) ?_
     refine AllReadyH.cons rfl (fun K hK => ?_) AllReadyH.nil
     go_simp
     obtain ⟨Pm, w_3, hPm, hw, hb3, o3⟩ := made_at w_11 n.es.length (by omega)
     rw [hPm, ← hw]
     have r3 := rng_own o3
     clear hw
     replace o6 := own_up o6 hb3
     replace o9 := own_up o9 hb3
     replace hS := AsyK.up hS hb3
     replace HT := bk HT hb3
     have hz3 := hb3.size
     replace hB1 := bl_trans hB1 hb3
     refine hK.out _ _ hB1 (fun hHeld => ?_)
     clear hHeld hK K hb3
     try simp only [Act.put, pu]
     refine stk 12 20 ?_
     refine wpAnyH_ready (rs := [14]) (by kernel_rfl) (by simp) ?_
     refine AllReadyH.cons rfl (fun K hK => ?_) AllReadyH.nil
     obtain ⟨⟨t0, t1, t2⟩, ⟨t3, t4⟩, tf⟩ := cells5 HT
     go_simp
     obtain ⟨we, hwe, HE, hge⟩ := set5 HT (.slice (some ⟨Pm, 0, none⟩) n.es.length n.es.length) (.slice B6 n.es.length d6) (.slice B9 n.es.length d9) (.slice B11 l11 d11) (.slice none 0 0)
     rw [← hwe]
     clear hwe t0 t1 t2 t3 t4 tf
     refine hK.out _ _ (Below.grown hB1 hge (by omega) (fun k hk => by have e := Option.some.inj (show some PX = some k from hk); omega)) (fun hHeld => ?_)
     clear hK K
     try simp only [Act.put, pu]
     refine wpAnyH_done (by kernel_rfl) ?_ _
     rw [← E11.out] at HE ⊢
     exact FIN.out we PX _ _ _ _ hHeld (by omega) ⟨val3 _ _ _ vs, rfl, rfl, rfl, rfl, AsyK.of3r (own_setP (own_mono o3 (show w2.heap.size ≤ _ by omega)) hge (r3.ne (by omega))) (own_setP (own_mono o6 (show w2.heap.size ≤ _ by omega)) hge (r6.ne (by omega))) (own_setP (own_mono o9 (show w2.heap.size ≤ _ by omega)) hge (r9.ne (by omega))) (by simp) (startS_len m n) (startS_len m n) (OwnK.mono (AsyK.past hS HT.out hge) (show w2.heap.size ≤ _ by omega)) r3 r6 r9 r11 (by omega) (by omega) (by omega) (by omega) (by omega) (by omega) (by omega) (by omega) (by omega) (by omega) HE⟩
  ·
   go_simp
   obtain ⟨PX, w_13, hPX, hw, hb13, HT, hPc⟩ := box_at2 w_6 nilV nilV nilV nilV nilV 34
   unfold nilV at hw HT
   rw [hPX, ← hw]
   clear hw
   replace o6 := own_up o6 hb13
   have hz13 := hb13.size
   replace hB1 := bl_trans hB1 hb13
   refine hK.out _ _ hB1 (fun hHeld => ?_)
   clear hHeld hK K hb13
   try simp only [Act.put, pu]
   refine wpAnyH_ready (rs := [3, 9]) (by kernel_rfl) (by simp) ?_
   refine AllReadyH.cons rfl (fun K hK => ?_) (AllReadyH.cons rfl (fun K hK => ?_) AllReadyH.nil)
   ·
    go_simp
    obtain ⟨Pm, w_3, hPm, hw, hb3, o3⟩ := made_at w_13 n.es.length (by omega)
    rw [hPm, ← hw]
    have r3 := rng_own o3
    clear hw
    replace o6 := own_up o6 hb3
    replace HT := bk HT hb3
    have hz3 := hb3.size
    replace hB1 := bl_trans hB1 hb3
    refine hK.out _ _ hB1 (fun hHeld => ?_)
    clear hHeld hK K hb3
    try simp only [Act.put, pu]
    refine wpAnyH_ready (rs := [9]) (by kernel_rfl) (by simp) ?_
    refine AllReadyH.cons rfl (fun K hK => ?_) AllReadyH.nil
    go_simp
    go_at_call 61
    have hC := impl_startStates _ _ _ _ m _ _ _ n w_3 (HR.out.up hB1) (HN.out.up hB1) HG.out
    unfold machV at hC
    refine hC.mono ?_
    clear hC
    rintro e w_9 ⟨v9, rfl, o9, hb9⟩
    obtain ⟨B9, d9, rfl⟩ := own_sl1 o9
    have r9 := rng_own o9
    replace o6 := own_up o6 hb9
    replace o3 := own_up o3 hb9
    replace HT := bk HT hb9
    have hz9 := hb9.size
    replace hB1 := bl_trans hB1 hb9
    refine hK.out _ _ hB1 (fun hHeld => ?_)
    clear hHeld hK K hb9
    try simp only [Act.put, pu]
    refine wpAnyH_ready (rs := [11]) (by kernel_rfl) (by simp) ?_
    refine AllReadyH.cons rfl (fun K hK => ?_) AllReadyH.nil
    go_simp
    go_at_call 62
    refine (impl_unlabeled _ _ _ n w_9 (HN.out.up hB1) HG.out.2.1).mono ?_
    rintro e w_11 ⟨vs, rfl, hS, hb11⟩
    have r11 : ∀ j, keyOf ⟨[], [], [], freeS n, []⟩ j → Rng (vs j) _ _ := fun j hj => rng_own (hS.own j hj)
    obtain ⟨B11, d11, e11⟩ := own_sl1 (hS.own .s trivial)
    have E11 := Lib.hid e11
    rw [e11]
    clear e11
    generalize (rowK ⟨[], [], [], freeS n, []⟩ vs .s).len = l11 at E11 ⊢
    replace o6 := own_up o6 hb11
    replace o3 := own_up o3 hb11
    replace o9 := own_up o9 hb11
    replace HT := bk HT hb11
    have hz11 := hb11.size
    replace hB1 := bl_trans hB1 hb11
    refine hK.out _ _ hB1 (fun hHeld => ?_)
    clear hHeld hK K hb11
    try simp only [Act.put, pu]
    refine stk 12 20 ?_
    refine wpAnyH_ready (rs := [14]) (by kernel_rfl) (by simp) ?_
    refine AllReadyH.cons rfl (fun K hK => ?_) AllReadyH.nil
    obtain ⟨⟨t0, t1, t2⟩, ⟨t3, t4⟩, tf⟩ := cells5 HT
    go_simp
    obtain ⟨we, hwe, HE, hge⟩ := set5 HT (.slice (some ⟨Pm, 0, none⟩) n.es.length n.es.length) (.slice B6 n.es.length d6) (.slice B9 n.es.length d9) (.slice B11 l11 d11) (.slice none 0 0)
    rw [← hwe]
    clear hwe t0 t1 t2 t3 t4 tf
    refine hK.out _ _ (Below.grown hB1 hge (by omega) (fun k hk => by have e := Option.some.inj (show some PX = some k from hk); omega)) (fun hHeld => ?_)
    clear hK K
    try simp only [Act.put, pu]
    refine wpAnyH_done (by kernel_rfl) ?_ _
    rw [← E11.out] at HE ⊢
    exact FIN.out we PX _ _ _ _ hHeld (by omega) ⟨val3 _ _ _ vs, rfl, rfl, rfl, rfl, AsyK.of3r (own_setP (own_mono o3 (show w2.heap.size ≤ _ by omega)) hge (r3.ne (by omega))) (own_setP (own_mono o6 (show w2.heap.size ≤ _ by omega)) hge (r6.ne (by omega))) (own_setP (own_mono o9 (show w2.heap.size ≤ _ by omega)) hge (r9.ne (by omega))) (by simp) (startS_len m n) (startS_len m n) (OwnK.mono (AsyK.past hS HT.out hge) (show w2.heap.size ≤ _ by omega)) r3 r6 r9 r11 (by omega) (by omega) (by omega) (by omega) (by omega) (by omega) (by omega) (by omega) (by omega) (by omega) HE⟩
   ·
    go_simp
    go_at_call 61
    have hC := impl_startStates _ _ _ _ m _ _ _ n w_13 (HR.out.up hB1) (HN.out.up hB1) HG.out
    unfold machV at hC
    refine hC.mono ?_
    clear hC
    rintro e w_9 ⟨v9, rfl, o9, hb9⟩
    obtain ⟨B9, d9, rfl⟩ := own_sl1 o9
    have r9 := rng_own o9
    replace o6 := own_up o6 hb9
    replace HT := bk HT hb9
    have hz9 := hb9.size
    replace hB1 := bl_trans hB1 hb9
    refine hK.out _ _ hB1 (fun hHeld => ?_)
    clear hHeld hK K hb9
    try simp only [Act.put, pu]
    refine wpAnyH_ready (rs := [3, 11]) (by kernel_rfl) (by simp) ?_
    refine AllReadyH.cons rfl (fun K hK => ?_) (AllReadyH.cons rfl (fun K hK => ?_) AllReadyH.nil)
    ·
     go_simp
     obtain ⟨Pm, w_3, hPm, hw, hb3, o3⟩ := made_at w_9 n.es.length (by omega)
     rw [hPm, ← hw]
     have r3 := rng_own o3
     clear hw
     replace o6 := own_up o6 hb3
     replace o9 := own_up o9 hb3
     replace HT := bk HT hb3
     have hz3 := hb3.size
     replace hB1 := bl_trans hB1 hb3
     refine hK.out _ _ hB1 (fun hHeld => ?_)
     clear hHeld hK K hb3
     try simp only [Act.put, pu]
     refine wpAnyH_ready (rs := [11]) (by kernel_rfl) (by simp) ?_
     refine AllReadyH.cons rfl (fun K hK => ?_) AllReadyH.nil
     go_simp
     go_at_call 62
     refine (impl_unlabeled _ _ _ n w_3 (HN.out.up hB1) HG.out.2.1).mono ?_
     rintro e w_11 ⟨vs, rfl, hS, hb11⟩
     have r11 : ∀ j, keyOf ⟨[], [], [], freeS n, []⟩ j → Rng (vs j) _ _ := fun j hj => rng_own (hS.own j hj)
     obtain ⟨B11, d11, e11⟩ := own_sl1 (hS.own .s trivial)
     have E11 := Lib.hid e11
     rw [e11]
     clear e11
     generalize (rowK ⟨[], [], [], freeS n, []⟩ vs .s).len = l11 at E11 ⊢
     replace o6 := own_up o6 hb11
     replace o9 := own_up o9 hb11
     replace o3 := own_up o3 hb11
     replace HT := bk HT hb11
     have hz11 := hb11.size
     replace hB1 := bl_trans hB1 hb11
     refine hK.out _ _ hB1 (fun hHeld => ?_)
     clear hHeld hK K hb11
     try simp only [Act.put, pu]
     refine stk 12 20 ?_
     refine wpAnyH_ready (rs := [14]) (by kernel_rfl) (by simp) ?_
     refine AllReadyH.cons rfl (fun K hK => ?_) AllReadyH.nil
     obtain ⟨⟨t0, t1, t2⟩, ⟨t3, t4⟩, tf⟩ := cells5 HT
     go_simp
     obtain ⟨we, hwe, HE, hge⟩ := set5 HT (.slice (some ⟨Pm, 0, none⟩) n.es.length n.es.length) (.slice B6 n.es.length d6) (.slice B9 n.es.length d9) (.slice B11 l11 d11) (.slice none 0 0)
     rw [← hwe]
     clear hwe t0 t1 t2 t3 t4 tf
     refine hK.out _ _ (Below.grown hB1 hge (by omega) (fun k hk => by have e := Option.some.inj (show some PX = some k from hk); omega)) (fun hHeld => ?_)
     clear hK K
     try simp only [Act.put, pu]
     refine wpAnyH_done (by kernel_rfl) ?_ _
     rw [← E11.out] at HE ⊢
     exact FIN.out we PX _ _ _ _ hHeld (by omega) ⟨val3 _ _ _ vs, rfl, rfl, rfl, rfl, AsyK.of3r (own_setP (own_mono o3 (show w2.heap.size ≤ _ by omega)) hge (r3.ne (by omega))) (own_setP (own_mono o6 (show w2.heap.size ≤ _ by omega)) hge (r6.ne (by omega))) (own_setP (own_mono o9 (show w2.heap.size ≤ _ by omega)) hge (r9.ne (by omega))) (by simp) (startS_len m n) (startS_len m n) (OwnK.mono (AsyK.past hS HT.out hge) (show w2.heap.size ≤ _ by omega)) r3 r6 r9 r11 (by omega) (by omega) (by omega) (by omega) (by omega) (by omega) (by omega) (by omega) (by omega) (by omega) HE⟩
    ·
     go_simp
     go_at_call 62
     refine (impl_unlabeled _ _ _ n w_9 (HN.out.up hB1) HG.out.2.1).mono ?_
     rintro e w_11 ⟨vs, rfl, hS, hb11⟩
     have r11 : ∀ j, keyOf ⟨[], [], [], freeS n, []⟩ j → Rng (vs j) _ _ := fun j hj => rng_own (hS.own j hj)
     obtain ⟨B11, d11, e11⟩ := own_sl1 (hS.own .s trivial)
     have E11 := Lib.hid e11
     rw [e11]
     clear e11
     generalize (rowK ⟨[], [], [], freeS n, []⟩ vs .s).len = l11 at E11 ⊢
     replace o6 := own_up o6 hb11
     replace o9 := own_up o9 hb11
     replace HT := bk HT hb11
     have hz11 := hb11.size
     replace hB1 := bl_trans hB1 hb11
     refine hK.out _ _ hB1 (fun hHeld => ?_)
     clear hHeld hK K hb11
     try simp only [Act.put, pu]
     refine wpAnyH_ready (rs := [3]) (by kernel_rfl) (by simp) ?_
     refine AllReadyH.cons rfl (fun K hK => ?_) AllReadyH.nil
     go_simp
     obtain ⟨Pm, w_3, hPm, hw, hb3, o3⟩ := made_at w_11 n.es.length (by omega)
     rw [hPm, ← hw]
     have r3 := rng_own o3
     clear hw
     replace o6 := own_up o6 hb3
     replace o9 := own_up o9 hb3
     replace hS := AsyK.up hS hb3
     replace HT := bk HT hb3
     have hz3 := hb3.size
     replace hB1 := bl_trans hB1 hb3
     refine hK.out _ _ hB1 (fun hHeld => ?_)
     clear hHeld hK K hb3
     try simp only [Act.put, pu]
     refine stk 12 20 ?_
     refine wpAnyH_ready (rs := [14]) (by kernel_rfl) (by simp) ?_
     refine AllReadyH.cons rfl (fun K hK => ?_) AllReadyH.nil
     obtain ⟨⟨t0, t1, t2⟩, ⟨t3, t4⟩, tf⟩ := cells5 HT
     go_simp
     obtain ⟨we, hwe, HE, hge⟩ := set5 HT (.slice (some ⟨Pm, 0, none⟩) n.es.length n.es.length) (.slice B6 n.es.length d6) (.slice B9 n.es.length d9) (.slice B11 l11 d11) (.slice none 0 0)
     rw [← hwe]
     clear hwe t0 t1 t2 t3 t4 tf
     refine hK.out _ _ (Below.grown hB1 hge (by omega) (fun k hk => by have e := Option.some.inj (show some PX = some k from hk); omega)) (fun hHeld => ?_)
     clear hK K
     try simp only [Act.put, pu]
     refine wpAnyH_done (by kernel_rfl) ?_ _
     rw [← E11.out] at HE ⊢
     exact FIN.out we PX _ _ _ _ hHeld (by omega) ⟨val3 _ _ _ vs, rfl, rfl, rfl, rfl, AsyK.of3r (own_setP (own_mono o3 (show w2.heap.size ≤ _ by omega)) hge (r3.ne (by omega))) (own_setP (own_mono o6 (show w2.heap.size ≤ _ by omega)) hge (r6.ne (by omega))) (own_setP (own_mono o9 (show w2.heap.size ≤ _ by omega)) hge (r9.ne (by omega))) (by simp) (startS_len m n) (startS_len m n) (OwnK.mono (AsyK.past hS HT.out hge) (show w2.heap.size ≤ _ by omega)) r3 r6 r9 r11 (by omega) (by omega) (by omega) (by omega) (by omega) (by omega) (by omega) (by omega) (by omega) (by omega) HE⟩
 ·
  go_simp
  obtain ⟨PX, w_13, hPX, hw, hb13, HT, hPc⟩ := box_at2 wd nilV nilV nilV nilV nilV 34
  unfold nilV at hw HT
  rw [hPX, ← hw]
  clear hw
  have hz13 := hb13.size
  replace hB1 := bl_trans hB1 hb13
  refine hK.out _ _ hB1 (fun hHeld => ?_)
  clear hHeld hK K hb13
  try simp only [Act.put, pu]
  refine wpAnyH_ready (rs := [3, 6]) (by kernel_rfl) (by simp) ?_
  refine AllReadyH.cons rfl (fun K hK => ?_) (AllReadyH.cons rfl (fun K hK => ?_) AllReadyH.nil)
  ·
   go_simp
   obtain ⟨Pm, w_3, hPm, hw, hb3, o3⟩ := made_at w_13 n.es.length (by omega)
   rw [hPm, ← hw]
   have r3 := rng_own o3
   clear hw
   replace HT := bk HT hb3
   have hz3 := hb3.size
   replace hB1 := bl_trans hB1 hb3
   refine hK.out _ _ hB1 (fun hHeld => ?_)
   clear hHeld hK K hb3
   try simp only [Act.put, pu]
   refine wpAnyH_ready (rs := [6]) (by kernel_rfl) (by simp) ?_
   refine AllReadyH.cons rfl (fun K hK => ?_) AllReadyH.nil
   go_simp
   go_at_call 61
   have hC := impl_startStates _ _ _ _ m _ _ _ n w_3 (HR.out.up hB1) (HN.out.up hB1) HG.out
   unfold machV at hC
   refine hC.mono ?_
   clear hC
   rintro e w_6 ⟨v6, rfl, o6, hb6⟩
   obtain ⟨B6, d6, rfl⟩ := own_sl1 o6
   have r6 := rng_own o6
   replace o3 := own_up o3 hb6
   replace HT := bk HT hb6
   have hz6 := hb6.size
   replace hB1 := bl_trans hB1 hb6
   refine hK.out _ _ hB1 (fun hHeld => ?_)
   clear hHeld hK K hb6
   try simp only [Act.put, pu]
   refine wpAnyH_ready (rs := [9]) (by kernel_rfl) (by simp) ?_
   refine AllReadyH.cons rfl (fun K hK => ?_) AllReadyH.nil
   go_simp
   go_at_call 61
   have hC := impl_startStates _ _ _ _ m _ _ _ n w_6 (HR.out.up hB1) (HN.out.up hB1) HG.out
   unfold machV at hC
   refine hC.mono ?_
   clear hC
   rintro e w_9 ⟨v9, rfl, o9, hb9⟩
   obtain ⟨B9, d9, rfl⟩ := own_sl1 o9
   have r9 := rng_own o9
   replace o3 := own_up o3 hb9
   replace o6 := own_up o6 hb9
   replace HT := bk HT hb9
   have hz9 := hb9.size
   replace hB1 := bl_trans hB1 hb9
   refine hK.out _ _ hB1 (fun hHeld => ?_)
   clear hHeld hK K hb9
   try simp only [Act.put, pu]
   refine wpAnyH_ready (rs := [11]) (by kernel_rfl) (by simp) ?_
   refine AllReadyH.cons rfl (fun K hK => ?_) AllReadyH.nil
   go_simp
   go_at_call 62
   refine (impl_unlabeled _ _ _ n w_9 (HN.out.up hB1) HG.out.2.1).mono ?_
   rintro e w_11 ⟨vs, rfl, hS, hb11⟩
   have r11 : ∀ j, keyOf ⟨[], [], [], freeS n, []⟩ j → Rng (vs j) _ _ := fun j hj => rng_own (hS.own j hj)
   obtain ⟨B11, d11, e11⟩ := own_sl1 (hS.own .s trivial)
   have E11 := Lib.hid e11
   rw [e11]
   clear e11
   generalize (rowK ⟨[], [], [], freeS n, []⟩ vs .s).len = l11 at E11 ⊢
   replace o3 := own_up o3 hb11
   replace o6 := own_up o6 hb11
   replace o9 := own_up o9 hb11
   replace HT := bk HT hb11
   have hz11 := hb11.size
   replace hB1 := bl_trans hB1 hb11
   refine hK.out _ _ hB1 (fun hHeld => ?_)
   clear hHeld hK K hb11
   try simp only [Act.put, pu]
   refine stk 12 20 ?_
   refine wpAnyH_ready (rs := [14]) (by kernel_rfl) (by simp) ?_
   refine AllReadyH.cons rfl (fun K hK => ?_) AllReadyH.nil
   obtain ⟨⟨t0, t1, t2⟩, ⟨t3, t4⟩, tf⟩ := cells5 HT
   go_simp
   obtain ⟨we, hwe, HE, hge⟩ := set5 HT (.slice (some ⟨Pm, 0, none⟩) n.es.length n.es.length) (.slice B6 n.es.length d6) (.slice B9 n.es.length d9) (.slice B11 l11 d11) (.slice none 0 0)
   rw [← hwe]
   clear hwe t0 t1 t2 t3 t4 tf
   refine hK.out _ _ (Below.grown hB1 hge (by omega) (fun k hk => by have e := Option.some.inj (show some PX = some k from hk); omega)) (fun hHeld => ?_)
   clear hK K
   try simp only [Act.put, pu]
   refine wpAnyH_done (by kernel_rfl) ?_ _
   rw [← E11.out] at HE ⊢
   exact FIN.out we PX _ _ _ _ hHeld (by omega) ⟨val3 _ _ _ vs, rfl, rfl, rfl, rfl, AsyK.of3r (own_setP (own_mono o3 (show w2.heap.size ≤ _ by omega)) hge (r3.ne (by omega))) (own_setP (own_mono o6 (show w2.heap.size ≤ _ by omega)) hge (r6.ne (by omega))) (own_setP (own_mono o9 (show w2.heap.size ≤ _ by omega)) hge (r9.ne (by omega))) (by simp) (startS_len m n) (startS_len m n) (OwnK.mono (AsyK.past hS HT.out hge) (show w2.heap.size ≤ _ by omega)) r3 r6 r9 r11 (by omega) (by omega) (by omega) (by omega) (by omega) (by omega) (by omega) (by omega) (by omega) (by omega) HE⟩
  ·
   go_simp
   go_at_call 61
   have hC := impl_startStates _ _ _ _ m _ _ _ n w_13 (HR.out.up hB1) (HN.out.up hB1) HG.out
   unfold machV at hC
   refine hC.mono ?_
   clear hC
   rintro e w_6 ⟨v6, rfl, o6, hb6⟩
   obtain ⟨B6, d6, rfl⟩ := own_sl1 o6
   have r6 := rng_own o6
   replace HT := bk HT hb6
   have hz6 := hb6.size
   replace hB1 := bl_trans hB1 hb6
   refine hK.out _ _ hB1 (fun hHeld => ?_)
   clear hHeld hK K hb6
   try simp only [Act.put, pu]
   refine wpAnyH_ready (rs := [3, 9]) (by kernel_rfl) (by simp) ?_
   refine AllReadyH.cons rfl (fun K hK => ?_) (AllReadyH.cons rfl (fun K hK => ?_) AllReadyH.nil)
   ·
    go_simp
    obtain ⟨Pm, w_3, hPm, hw, hb3, o3⟩ := made_at w_6 n.es.length (by omega)
    rw [hPm, ← hw]
    have r3 := rng_own o3
    clear hw
    replace o6 := own_up o6 hb3
    replace HT := bk HT hb3
    have hz3 := hb3.size
    replace hB1 := bl_trans hB1 hb3
    refine hK.out _ _ hB1 (fun hHeld => ?_)
    clear hHeld hK K hb3
    try simp only [Act.put, pu]
    refine wpAnyH_ready (rs := [9]) (by kernel_rfl) (by simp) ?_
    refine AllReadyH.cons rfl (fun K hK => ?_) AllReadyH.nil
    go_simp
    go_at_call 61
    have hC := impl_startStates _ _ _ _ m _ _ _ n w_3 (HR.out.up hB1) (HN.out.up hB1) HG.out
    unfold machV at hC
    refine hC.mono ?_
    clear hC
    rintro e w_9 ⟨v9, rfl, o9, hb9⟩
    obtain ⟨B9, d9, rfl⟩ := own_sl1 o9
    have r9 := rng_own o9
    replace o6 := own_up o6 hb9
    replace o3 := own_up o3 hb9
    replace HT := bk HT hb9
    have hz9 := hb9.size
    replace hB1 := bl_trans hB1 hb9
    refine hK.out _ _ hB1 (fun hHeld => ?_)
    clear hHeld hK K hb9
    try simp only [Act.put, pu]
    refine wpAnyH_ready (rs := [11]) (by kernel_rfl) (by simp) ?_
    refine AllReadyH.cons rfl (fun K hK => ?_) AllReadyH.nil
    go_simp
    go_at_call 62
    refine (impl_unlabeled _ _ _ n w_9 (HN.out.up hB1) HG.out.2.1).mono ?_
    rintro e w_11 ⟨vs, rfl, hS, hb11⟩
    have r11 : ∀ j, keyOf ⟨[], [], [], freeS n, []⟩ j → Rng (vs j) _ _ := fun j hj => rng_own (hS.own j hj)
    obtain ⟨B11, d11, e11⟩ := own_sl1 (hS.own .s trivial)
    have E11 := Lib.hid e11
    rw [e11]
    clear e11
    generalize (rowK ⟨[], [], [], freeS n, []⟩ vs .s).len = l11 at E11 ⊢
    replace o6 := own_up o6 hb11
    replace o3 := own_up o3 hb11
    replace o9 := own_up o9 hb11
    replace HT := bk HT hb11
    have hz11 := hb11.size
    replace hB1 := bl_trans hB1 hb11
    refine hK.out _ _ hB1 (fun hHeld => ?_)
    clear hHeld hK K hb11
    try simp only [Act.put, pu]
    refine stk 12 20 ?_
    refine wpAnyH_ready (rs := [14]) (by kernel_rfl) (by simp) ?_
    refine AllReadyH.cons rfl (fun K hK => ?_) AllReadyH.nil
    obtain ⟨⟨t0, t1, t2⟩, ⟨t3, t4⟩, tf⟩ := cells5 HT
    go_simp
    obtain ⟨we, hwe, HE, hge⟩ := set5 HT (.slice (some ⟨Pm, 0, none⟩) n.es.length n.es.length) (.slice B6 n.es.length d6) (.slice B9 n.es.length d9) (.slice B11 l11 d11) (.slice none 0 0)
    rw [← hwe]
    clear hwe t0 t1 t2 t3 t4 tf
    refine hK.out _ _ (Below.grown hB1 hge (by omega) (fun k hk => by have e := Option.some.inj (show some PX = some k from hk); omega)) (fun hHeld => ?_)
    clear hK K
    try simp only [Act.put, pu]
    refine wpAnyH_done (by kernel_rfl) ?_ _
    rw [← E11.out] at HE ⊢
    exact FIN.out we PX _ _ _ _ hHeld (by omega) ⟨val3 _ _ _ vs, rfl, rfl, rfl, rfl, AsyK.of3r (own_setP (own_mono o3 (show w2.heap.size ≤ _ by omega)) hge (r3.ne (by omega))) (own_setP (own_mono o6 (show w2.heap.size ≤ _ by omega)) hge (r6.ne (by omega))) (own_setP (own_mono o9 (show w2.heap.size ≤ _ by omega)) hge (r9.ne (by omega))) (by simp) (startS_len m n) (startS_len m n) (OwnK.mono (AsyK.past hS HT.out hge) (show w2.heap.size ≤ _ by omega)) r3 r6 r9 r11 (by omega) (by omega) (by omega) (by omega) (by omega) (by omega) (by omega) (by omega) (by omega) (by omega) HE⟩
   ·
    go_simp
    go_at_call 61
    have hC := impl_startStates _ _ _ _ m _ _ _ n w_6 (HR.out.up hB1) (HN.out.up hB1) HG.out
    unfold machV at hC
    refine hC.mono ?_
    clear hC
    rintro e w_9 ⟨v9, rfl, o9, hb9⟩
    obtain ⟨B9, d9, rfl⟩ := own_sl1 o9
    have r9 := rng_own o9
    replace o6 := own_up o6 hb9
    replace HT := bk HT hb9
    have hz9 := hb9.size
    replace hB1 := bl_trans hB1 hb9
    refine hK.out _ _ hB1 (fun hHeld => ?_)
    clear hHeld hK K hb9
    try simp only [Act.put, pu]
    refine wpAnyH_ready (rs := [3, 11]) (by kernel_rfl) (by simp) ?_
    refine AllReadyH.cons rfl (fun K hK => ?_) (AllReadyH.cons rfl (fun K hK => ?_) AllReadyH.nil)
    ·
     go_simp
     obtain ⟨Pm, w_3, hPm, hw, hb3, o3⟩ := made_at w_9 n.es.length (by omega)
     rw [hPm, ← hw]
     have r3 := rng_own o3
     clear hw
     replace o6 := own_up o6 hb3
     replace o9 := own_up o9 hb3
     replace HT := bk HT hb3
     have hz3 := hb3.size
     replace hB1 := bl_trans hB1 hb3
     refine hK.out _ _ hB1 (fun hHeld => ?_)
     clear hHeld hK K hb3
     try simp only [Act.put, pu]
     refine wpAnyH_ready (rs := [11]) (by kernel_rfl) (by simp) ?_
     refine AllReadyH.cons rfl (fun K hK => ?_) AllReadyH.nil
     go_simp
     go_at_call 62
     refine (impl_unlabeled _ _ _ n w_3 (HN.out.up hB1) HG.out.2.1).mono ?_
     rintro e w_11 ⟨vs, rfl, hS, hb11⟩
     have r11 : ∀ j, keyOf ⟨[], [], [], freeS n, []⟩ j → Rng (vs j) _ _ := fun j hj => rng_own (hS.own j hj)
     obtain ⟨B11, d11, e11⟩ := own_sl1 (hS.own .s trivial)
     have E11 := Lib.hid e11
     rw [e11]
     clear e11
     generalize (rowK ⟨[], [], [], freeS n, []⟩ vs .s).len = l11 at E11 ⊢
     replace o6 := own_up o6 hb11
     replace o9 := own_up o9 hb11
     replace o3 := own_up o3 hb11
     replace HT := bk HT hb11
     have hz11 := hb11.size
     replace hB1 := bl_trans hB1 hb11
     refine hK.out _ _ hB1 (fun hHeld => ?_)
     clear hHeld hK K hb11
     try simp only [Act.put, pu]
     refine stk 12 20 ?_
     refine wpAnyH_ready (rs := [14]) (by kernel_rfl) (by simp) ?_
     refine AllReadyH.cons rfl (fun K hK => ?_) AllReadyH.nil
     obtain ⟨⟨t0, t1, t2⟩, ⟨t3, t4⟩, tf⟩ := cells5 HT
     go_simp
     obtain ⟨we, hwe, HE, hge⟩ := set5 HT (.slice (some ⟨Pm, 0, none⟩) n.es.length n.es.length) (.slice B6 n.es.length d6) (.slice B9 n.es.length d9) (.slice B11 l11 d11) (.slice none 0 0)
     rw [← hwe]
     clear hwe t0 t1 t2 t3 t4 tf
     refine hK.out _ _ (Below.grown hB1 hge (by omega) (fun k hk => by have e := Option.some.inj (show some PX = some k from hk); omega)) (fun hHeld => ?_)
     clear hK K
     try simp only [Act.put, pu]
     refine wpAnyH_done (by kernel_rfl) ?_ _
     rw [← E11.out] at HE ⊢
     exact FIN.out we PX _ _ _ _ hHeld (by omega) ⟨val3 _ _ _ vs, rfl, rfl, rfl, rfl, AsyK.of3r (own_setP (own_mono o3 (show w2.heap.size ≤ _ by omega)) hge (r3.ne (by omega))) (own_setP (own_mono o6 (show w2.heap.size ≤ _ by omega)) hge (r6.ne (by omega))) (own_setP (own_mono o9 (show w2.heap.size ≤ _ by omega)) hge (r9.ne (by omega))) (by simp) (startS_len m n) (startS_len m n) (OwnK.mono (AsyK.past hS HT.out hge) (show w2.heap.size ≤ _ by omega)) r3 r6 r9 r11 (by omega) (by omega) (by omega) (by omega) (by omega) (by omega) (by omega) (by omega) (by omega) (by omega) HE⟩
    ·
     go_simp
     go_at_call 62
     refine (impl_unlabeled _ _ _ n w_9 (HN.out.up hB1) HG.out.2.1).mono ?_
     rintro e w_11 ⟨vs, rfl, hS, hb11⟩
     have r11 : ∀ j, keyOf ⟨[], [], [], freeS n, []⟩ j → Rng (vs j) _ _ := fun j hj => rng_own (hS.own j hj)
     obtain ⟨B11, d11, e11⟩ := own_sl1 (hS.own .s trivial)
     have E11 := Lib.hid e11
     rw [e11]
     clear e11
     generalize (rowK ⟨[], [], [], freeS n, []⟩ vs .s).len = l11 at E11 ⊢
     replace o6 := own_up o6 hb11
     replace o9 := own_up o9 hb11
     replace HT := bk HT hb11
     have hz11 := hb11.size
     replace hB1 := bl_trans hB1 hb11
     refine hK.out _ _ hB1 (fun hHeld => ?_)
     clear hHeld hK K hb11
     try simp only [Act.put, pu]
     refine wpAnyH_ready (rs := [3]) (by kernel_rfl) (by simp) ?_
     refine AllReadyH.cons rfl (fun K hK => ?_) AllReadyH.nil
     go_simp
     obtain ⟨Pm, w_3, hPm, hw, hb3, o3⟩ := made_at w_11 n.es.length (by omega)
     rw [hPm, ← hw]
     have r3 := rng_own o3
     clear hw
     replace o6 := own_up o6 hb3
     replace o9 := own_up o9 hb3
     replace hS := AsyK.up hS hb3
     replace HT := bk HT hb3
     have hz3 := hb3.size
     replace hB1 := bl_trans hB1 hb3
     refine hK.out _ _ hB1 (fun hHeld => ?_)
     clear hHeld hK K hb3
     try simp only [Act.put, pu]
     refine stk 12 20 ?_
     refine wpAnyH_ready (rs := [14]) (by kernel_rfl) (by simp) ?_
     refine AllReadyH.cons rfl (fun K hK => ?_) AllReadyH.nil
     obtain ⟨⟨t0, t1, t2⟩, ⟨t3, t4⟩, tf⟩ := cells5 HT
     go_simp
     obtain ⟨we, hwe, HE, hge⟩ := set5 HT (.slice (some ⟨Pm, 0, none⟩) n.es.length n.es.length) (.slice B6 n.es.length d6) (.slice B9 n.es.length d9) (.slice B11 l11 d11) (.slice none 0 0)
     rw [← hwe]
     clear hwe t0 t1 t2 t3 t4 tf
     refine hK.out _ _ (Below.grown hB1 hge (by omega) (fun k hk => by have e := Option.some.inj (show some PX = some k from hk); omega)) (fun hHeld => ?_)
     clear hK K
     try simp only [Act.put, pu]
     refine wpAnyH_done (by kernel_rfl) ?_ _
     rw [← E11.out] at HE ⊢
     exact FIN.out we PX _ _ _ _ hHeld (by omega) ⟨val3 _ _ _ vs, rfl, rfl, rfl, rfl, AsyK.of3r (own_setP (own_mono o3 (show w2.heap.size ≤ _ by omega)) hge (r3.ne (by omega))) (own_setP (own_mono o6 (show w2.heap.size ≤ _ by omega)) hge (r6.ne (by omega))) (own_setP (own_mono o9 (show w2.heap.size ≤ _ by omega)) hge (r9.ne (by omega))) (by simp) (startS_len m n) (startS_len m n) (OwnK.mono (AsyK.past hS HT.out hge) (show w2.heap.size ≤ _ by omega)) r3 r6 r9 r11 (by omega) (by omega) (by omega) (by omega) (by omega) (by omega) (by omega) (by omega) (by omega) (by omega) HE⟩
end Go.Proofs.YtehkcodbcnhhoaaGreat
