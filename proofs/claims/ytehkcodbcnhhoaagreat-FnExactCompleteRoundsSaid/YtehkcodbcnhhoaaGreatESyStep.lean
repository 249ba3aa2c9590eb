/-
  A round of a node, the reference's side: syStep.
-/
import Derived.Test.YtehkcodbcnhhoaaGreatEAsyOwn5
namespace Go.Proofs.YtehkcodbcnhhoaaGreat
open Go.RowKit
set_option linter.all false
theorem i64_of {m : Mach} {n : Net} {x : Asy} (h : asyP m n x) (hs : m.st ≤ 1000) (hg : m.msg ≤ 1000) : I64A x := by
  refine ⟨fun y hy => ?_, fun y hy => ?_, fun y hy => ?_, fun l hl y hy => ?_, fun f hf ls hls e he => ?_⟩
  · have := h.1.2 y hy; unfold I64; omega
  · have := h.2.1.2 y hy; unfold I64; omega
  · have := h.2.2.1.2 y hy; unfold I64; omega
  · obtain ⟨k, hk⟩ := List.mem_iff_getElem?.1 hl
    have hk' := (List.getElem?_eq_some_iff.1 hk).1
    have h1 : k < n.es.length := by rw [← h.2.2.2.1]; exact hk'
    have h2 : k < x.flight.length := by rw [h.2.2.2.2.1]; exact h1
    have := (h.2.2.2.2.2 k _ l _ (List.getElem?_eq_getElem h1) hk (List.getElem?_eq_getElem h2)).2.2.1 y hy
    unfold I64; omega
  · obtain ⟨k, hk⟩ := List.mem_iff_getElem?.1 hf
    have hk' := (List.getElem?_eq_some_iff.1 hk).1
    have h1 : k < n.es.length := by rw [← h.2.2.2.2.1]; exact hk'
    have h2 : k < x.slots.length := by rw [h.2.2.2.1]; exact h1
    have := ((h.2.2.2.2.2 k _ _ f (List.getElem?_eq_getElem h1) (List.getElem?_eq_getElem h2) hk).2.2.2 ls hls).2 e he
    unfold I64; omega
def okS (r : Int) (s : List Int) : Bool := decide (r < 40) && !s.contains (-1)
def actS (b : Bool) (y x : Asy) : Asy := if b = true then y else x
theorem actS_t (y x : Asy) : actS true y x = y := rfl
theorem actS_f (y x : Asy) : actS false y x = x := rfl
def SameHeads (val val' : Key → Value) : Prop := val' .r = val .r ∧ val' .b = val .b ∧ val' .n = val .n ∧ val' .s = val .s ∧ val' .f = val .f
theorem SameHeads.rfl' (val : Key → Value) : SameHeads val val := ⟨rfl, rfl, rfl, rfl, rfl⟩
set_option maxRecDepth 100000 in
set_option maxHeartbeats 2000000 in
theorem spec_syStep (vs ve vc vo : Value) (m : Mach) (n : Net) (val : Key → Value) (x : Asy) (base k : Nat) (l : Ends) (s : List Int) (f : List Ends) (r : Int) (w : World) (hm : MachR w base vs ve vc vo m) (hK : AsyK w base val x) (hbase : base ≤ w.heap.size)
  (hp : maP m) (ha : asyP m n x) (hat : AtP n x k l s f r) (hl6 : l.length ≤ 6) :
  Calls Tryz.prog 76 #[machV vs ve vc vo m, .agg #[val .r, val .b, val .n, val .s, val .f], .int .i64 k] w fun e w' => e = .returned (.bool (okS r s)) ∧ ∃ val', SameHeads val val' ∧ Below base w w' ∧ Frame val x w w' ∧ AsyK w' base val' (actS (okS r s) (stepA m x k) x) := by
 unfold machV
 have hi := i64_of ha (by have := hp.1.2.1; omega) (by have := hp.1.2.2; omega)
 have HI := Lib.hid hi
 have hkn := hat.lt
 have hkr := (List.getElem?_eq_some_iff.1 hat.hr).1
 have hks := (List.getElem?_eq_some_iff.1 hat.hs).1
 have hkb : k < x.before.length := by have := ha.2.1.1; omega
 have hkw : k < x.now.length := by have := ha.2.2.1.1; omega
 obtain ⟨bn, hbn⟩ : ∃ y, x.before[k]? = some y := ⟨_, List.getElem?_eq_getElem hkb⟩
 obtain ⟨sn, hsn⟩ : ∃ y, x.now[k]? = some y := ⟨_, List.getElem?_eq_getElem hkw⟩
 have hsb := ha.2.2.1.2 sn (List.mem_of_getElem? hsn)
 have hol := hp.2.1.2.2.1
 obtain ⟨sq, rfl⟩ : ∃ sq : Nat, sn = sq := ⟨sn.toNat, by omega⟩
 have hsq : sq < m.out.length := by omega
 obtain ⟨o, ho⟩ : ∃ y, m.out[sq]? = some y := ⟨_, List.getElem?_eq_getElem hsq⟩
 have hr0 := hat.r0
 have HAT := Lib.hid hat
 have HBN := Lib.hid hbn
 have HSN := Lib.hid hsn
 have HO := Lib.hid ho
 have HMC := Lib.hid hm
 have hs6 : s.length ≤ 6 := by rw [hat.sl]; exact hl6
 have HSG := Lib.hid (show stepA m x k = { rounds := x.rounds.set k (r + 1), before := x.before.set k (sq : Int), now := x.now.set k (nextS m (sq : Int) s), slots := x.slots.set k (List.replicate s.length (-1)), flight := x.flight } by
  unfold stepA
  rw [slotsAt_eq hat.hs, List.getD_eq_getElem?_getD, List.getD_eq_getElem?_getD, hat.hr, hsn]; rfl)
 obtain ⟨gr, cr, er, hcr1, hcr2, hgr1, hgr2⟩ := own_some2 (hK.own .r trivial) (show 0 < x.rounds.length by omega)
 obtain ⟨gb, cb, eb, hcb1, hcb2, hgb1, hgb2⟩ := own_some2 (hK.own .b trivial) (show 0 < x.before.length by omega)
 obtain ⟨gn, cn, en, hcn1, hcn2, hgn1, hgn2⟩ := own_some2 (hK.own .n trivial) (show 0 < x.now.length by omega)
 obtain ⟨gs, cs, es, hcs1, hcs2, hgs1, hgs2⟩ := own_some2 (hK.own .s trivial) (show 0 < x.slots.length by omega)
 obtain ⟨Af, cf, ef⟩ := own_sl1 (hK.own .f trivial)
 replace er : val .r = .slice (some ⟨gr, 0, none⟩) x.rounds.length cr := er
 replace eb : val .b = .slice (some ⟨gb, 0, none⟩) x.before.length cb := eb
 replace en : val .n = .slice (some ⟨gn, 0, none⟩) x.now.length cn := en
 replace es : val .s = .slice (some ⟨gs, 0, none⟩) x.slots.length cs := es
 replace ef : val .f = .slice Af x.flight.length cf := ef
 obtain ⟨Ak, ck, ek⟩ := own_sl1 (AsyK.slOwn hK hat.hs)
 have hcm1 := hm.c
 have hom1 := hm.o.open_
 obtain ⟨⟨A0, m0, c0, rfl⟩, ⟨A1, m1, c1, rfl⟩, -, -⟩ := hm.slices
 obtain ⟨A2, c2, rfl, hc2, hm2, -, hr2⟩ := hcm1
 obtain ⟨A3, c3, rfl, hc3, hm3, hr3⟩ := hom1
 unfold maxLen at hm2 hm3
 obtain ⟨ad3, rfl, ha3, hrow3⟩ := hr3 (by omega)
 have HRO := Lib.hid (hrow3 sq o ho)
 have HR2 := Lib.hid hr2
 have HE := Lib.hid (show Value.agg #[val .r, val .b, val .n, val .s, val .f] = .agg #[.slice (some ⟨gr, 0, none⟩) x.rounds.length cr, .slice (some ⟨gb, 0, none⟩) x.before.length cb, .slice (some ⟨gn, 0, none⟩) x.now.length cn, .slice (some ⟨gs, 0, none⟩) x.slots.length cs, .slice Af x.flight.length cf] by rw [er, eb, en, es, ef])
 rw [HE.out]
 have HER := Lib.hid er
 have HEB := Lib.hid eb
 have HEN := Lib.hid en
 have HES := Lib.hid es
 have HEK := Lib.hid ek
 clear er eb en es ef ek hm hr2 hr3 hrow3 ho hsn hbn ha hi hat
 obtain ⟨w0, hw0, hb0, HM, hz0, HS0⟩ := box7 w (.int .i64 m.deg) (.int .i64 m.st) (.int .i64 m.msg) (.slice A0 m0 c0) (.slice A1 m1 c1) (.slice A2 m.cls.length c2) (.slice (some ad3) m.out.length c3) 39
 obtain ⟨w1, hw1, hb1, HY, hz1, HS1⟩ := box5 w0 (.slice (some ⟨gr, 0, none⟩) x.rounds.length cr) (.slice (some ⟨gb, 0, none⟩) x.before.length cb) (.slice (some ⟨gn, 0, none⟩) x.now.length cn) (.slice (some ⟨gs, 0, none⟩) x.slots.length cs) (.slice Af x.flight.length cf) 34
 replace HM := bk HM hb1
 have hB : Below w.heap.size w w1 := bl_trans (hb0) hb1
 have HW := Lib.hid (show w1 = (w.alloc (.cells #[.int .i64 m.deg, .int .i64 m.st, .int .i64 m.msg, .slice A0 m0 c0, .slice A1 m1 c1, .slice A2 m.cls.length c2, .slice (some ad3) m.out.length c3] 39)).alloc (.cells #[.slice (some ⟨gr, 0, none⟩) x.rounds.length cr, .slice (some ⟨gb, 0, none⟩) x.before.length cb, .slice (some ⟨gn, 0, none⟩) x.now.length cn, .slice (some ⟨gs, 0, none⟩) x.slots.length cs, .slice Af x.flight.length cf] 34) by rw [hw1, hw0])
 obtain ⟨P1, hP1⟩ : ∃ z, z = w0.heap.size := ⟨_, rfl⟩
 have HP1 := Lib.hid (show w.heap.size + 1 = P1 by rw [hP1, HS0.out])
 have hPl1 : w.heap.size < P1 := by rw [← HP1.out]; omega
 rw [← hP1] at HY hz1
 obtain ⟨⟨g0, g1, g2⟩, ⟨g3, g4, g5, g6⟩, gf⟩ := cells7 HM
 obtain ⟨⟨y0, y1, y2⟩, ⟨y3, y4⟩, yf⟩ := cells5 HY
 have eg0 := g0
 have eg1 := g1
 have eg2 := g2
 have eg3 := g3
 have eg4 := g4
 have eg5 := g5
 have eg6 := g6
 have ey0 := y0
 have ey1 := y1
 have ey2 := y2
 have ey3 := y3
 have ey4 := y4
 rw [HW.out] at eg0 eg1 eg2 eg3 eg4 eg5 eg6 ey0 ey1 ey2 ey3 ey4
 rw [← HP1.out] at ey0 ey1 ey2 ey3 ey4
 have hzb0 : w.heap.size < w1.heap.size := by omega
 have hzb1 : P1 < w1.heap.size := by omega
 have HR := True.intro
 have HX := True.intro
 clear hw1 hw0 hP1
 have hK1 := AsyK.up hK hB
 have HK1 := Lib.hid hK1
 have cs1 := (hK1.sCell HES.out hks).1
 have cr1 := (hK1.rCell HER.out HAT.out.hr).1
 have cn1 := (hK1.nCell HEN.out HSN.out).1
 have cb1 := hK1.bCell HEB.out HBN.out
 rw [HEK.out] at cs1
 have hisl := own_intsR (AsyK.slOwn hK1 HAT.out.hs) (HI.out.s s (List.mem_of_getElem? HAT.out.hs))
 rw [HEK.out] at hisl
 have HISL := Lib.hid hisl
 have xs1 := cs1
 have hbB : Below base w w1 := hB.mono hbase
 have HFR := Lib.hid (Frame.of (val := val) (x := x) hB)
 rw [HW.out] at xs1
 obtain ⟨cb1, fb1⟩ := cb1
 clear hK1 hisl HR HX hK
 cases j1 : hasB s (-1) with
 | true =>
  have HF := Lib.hid (show true = s.contains (-1) by have := propB_iff.1 j1; simpa using this)
  go_enter Tryz.func76, Tryz.ntmps76
  go_wp2_with fail
  rw [HP1.out, ← HW.out]
  clear eg0 eg1 eg2 eg3 eg4 eg5 eg6 ey0 ey1 ey2 ey3 ey4
  refine (spec_l1Has _ s (-1) w1 HISL.out).mono ?_
  rintro e w' ⟨rfl, rfl⟩
  rw [j1]
  go_wp2_with fail
  go_ret
  have hok : okS r s = false := by unfold okS; rw [← HF.out]; simp
  exact ⟨ret_bool hok.symm, val, SameHeads.rfl' _, hbB, HFR.out, by rw [hok, actS_f]; exact HK1.out⟩
 | false =>
  have HF := Lib.hid (show s.contains (-1) = false by
   have : ¬ (-1 : Int) ∈ s := fun h => by rw [hasB_t h] at j1; cases j1
   simpa using this)
  by_cases h40 : r = 40
  ·
   have k40 : (r == 40) = true := by rw [beq_iff_eq]; exact h40
   have hok : okS r s = false := by unfold okS; rw [decide_eq_false (by omega)]; rfl
   have HOK := Lib.hid hok
   clear h40 hok
   go_enter Tryz.func76, Tryz.ntmps76
   go_wp2_with fail
   rw [HP1.out, ← HW.out]
   clear eg0 eg1 eg2 eg3 eg4 eg5 eg6 ey0 ey1 ey2 ey3 ey4
   refine (spec_l1Has _ s (-1) w1 HISL.out).mono ?_
   rintro e w' ⟨rfl, rfl⟩
   rw [j1]
   go_wp2_with fail
   go_ret
   exact ⟨ret_bool HOK.out.symm, val, SameHeads.rfl' _, hbB, HFR.out, by rw [HOK.out, actS_f]; exact HK1.out⟩
  ·
   have k40 : (r == 40) = false := by rw [beq_eq_false_iff_ne]; exact h40
   have hok : okS r s = true := by unfold okS; rw [decide_eq_true (by omega), HF.out]; rfl
   have HOK := Lib.hid hok
   have hr40 : r < 40 := by omega
   clear h40 hok
   go_enter Tryz.func76, Tryz.ntmps76
   go_wp2_with fail
   rw [HP1.out, ← HW.out]
   clear eg0 eg1 eg2 eg3 eg4 eg5 eg6 ey0 ey1 ey2 ey3 ey4
   clear xs1
   refine (spec_l1Has _ s (-1) w1 HISL.out).mono ?_
   rintro e w' ⟨rfl, rfl⟩
   rw [j1]
   go_wp2_with fail
   -- behind the store into Before
   obtain ⟨w2, hw2, hkw2, hzw2a, hzw2b⟩ := setE w1 gb k (.int .i64 (sq : Int))
   rw [← hw2]
   replace HM := Lib.hid ((hkw2 w.heap.size (by omega)).trans HM.out)
   replace HY := Lib.hid ((hkw2 P1 (by omega)).trans HY.out)
   clear hkw2
   clear g0 g1 g2 g3 g4 g5 g6 gf y0 y1 y2 y3 y4 yf
   obtain ⟨⟨g0, g1, g2⟩, ⟨g3, g4, g5, g6⟩, gf⟩ := cells7 HM
   obtain ⟨⟨y0, y1, y2⟩, ⟨y3, y4⟩, yf⟩ := cells5 HY
   have hK2 : AsyK w2 base val { x with before := x.before.set k (sq : Int) } := by rw [hw2]; exact AsyK.setBefore HK1.out HEB.out k _
   have hbB2 : Below base w w2 := by rw [hw2]; exact hbB.setCell (p := ⟨gb, k, none⟩) hgb1 _
   have HF2 := Lib.hid (show Frame val x w w2 by rw [hw2]; exact HFR.out.set .b trivial (by rw [HEB.out]; rfl) k _)
   have HK2 := Lib.hid hK2
   clear hw2 cs1 cr1 cn1 cb1 fb1 hK2
   have cs2 := (HK2.out.sCell HES.out hks).1
   rw [HEK.out] at cs2
   have HIS2 := Lib.hid (by have := own_intsR (AsyK.slOwn HK2.out HAT.out.hs) (HI.out.s s (List.mem_of_getElem? HAT.out.hs)); rw [HEK.out] at this; exact this : IntsR w2 w2.heap.size (.slice Ak s.length ck) s)
   refine wp_region_held_drew (S := fun w' => w'.cell? ⟨w.heap.size, 0, none⟩ = some (.int .i64 m.deg) ∧ w'.cell? ⟨w.heap.size, 1, none⟩ = some (.int .i64 m.st) ∧ w'.cell? ⟨w.heap.size, 2, none⟩ = some (.int .i64 m.msg) ∧ w'.cell? ⟨w.heap.size, 3, none⟩ = some (.slice A0 m0 c0) ∧ w'.cell? ⟨w.heap.size, 4, none⟩ = some (.slice A1 m1 c1) ∧ w'.cell? ⟨w.heap.size, 5, none⟩ = some (.slice A2 m.cls.length c2) ∧ w'.cell? ⟨w.heap.size, 6, none⟩ = some (.slice (some ad3) m.out.length c3) ∧ w'.cell? ⟨P1, 3, none⟩ = some (.slice (some ⟨gs, 0, none⟩) x.slots.length cs) ∧ w'.cell? ⟨gs, k, none⟩ = some (.slice Ak s.length ck)) (by kernel_rfl) ?_ (fun hHeld => ?_)
   ·
    go_keep
   refine stk 0 33 ?_
   refine stk 1 34 ?_
   refine stk 2 35 ?_
   refine stk 3 36 ?_
   refine stk 4 37 ?_
   refine stk 5 38 ?_
   refine stk 6 39 ?_
   refine tr 7 rfl (by kernel_rfl) (fun K hK => ?_)
   go_simp
   go_at_call 96
   refine (spec_maClause _ _ _ _ _ m (sq : Int) s w2.drew (HMC.out.at hbB2.drew (by have := hbB2.size; show base ≤ w2.heap.size; omega)) ((HIS2.out.below (Below.refl _ _).drew).more (Nat.le_refl _))).mono ?_
   rintro e w3 ⟨rfl, hb3'⟩
   have hb3 : Below w2.heap.size w2 w3 := (Below.refl _ _).drew.trans hb3'
   clear hb3'
   have hzhb3 := hb3.size
   replace HM := Lib.hid ((hb3.block w.heap.size (by omega)).trans HM.out)
   replace HY := Lib.hid ((hb3.block P1 (by omega)).trans HY.out)
   clear g0 g1 g2 g3 g4 g5 g6 gf y0 y1 y2 y3 y4 yf
   obtain ⟨⟨g0, g1, g2⟩, ⟨g3, g4, g5, g6⟩, gf⟩ := cells7 HM
   obtain ⟨⟨y0, y1, y2⟩, ⟨y3, y4⟩, yf⟩ := cells5 HY
   have hbB3 : Below base w w3 := hbB2.trans (hb3.mono (by have := hbB2.size; omega))
   have HK3 := Lib.hid (AsyK.up HK2.out hb3)
   have HF3 := Lib.hid (HF2.out.below hb3)
   clear cs2
   have cs2 := (HK3.out.sCell HES.out hks).1
   rw [HEK.out] at cs2
   refine hK.out _ _ ?_ (fun hHeld => ?_)
   ·
    go_keep
   clear hK K
   try simp only [Act.put, pu]
   refine stk 8 8 ?_
   refine wpAnyH_done (by kernel_rfl) ?_ _
   have co3 := (hbB3.cell (p := ad3.add sq) (by rw [block_add]; exact ha3)).trans HRO.out
   have cr3 := HK3.out.rCell HER.out HAT.out.hr
   obtain ⟨cr3, fr3⟩ := cr3
   have cn3 := HK3.out.nCell HEN.out HSN.out
   obtain ⟨cn3, fn3⟩ := cn3
   have hci := clI_cases (fitsB (sq : Int) s) m.cls
   have HNX := Lib.hid (show nextS m (sq : Int) s = if 0 ≤ clI (fitsB (sq : Int) s) m.cls ∧ o < 0 then (m.cls.getD (clI (fitsB (sq : Int) s) m.cls).toNat (0, [], 0)).2.2 else (sq : Int) by
    unfold nextS
    rw [Int.toNat_natCast, List.getD_eq_getElem?_getD (l := m.out), HO.out]; rfl)
   by_cases hcond : 0 ≤ clI (fitsB (sq : Int) s) m.cls ∧ o < 0
   ·
    obtain ⟨hc0, ho0⟩ := hcond
    obtain ⟨cq, c, ecq, hcq, -⟩ : ∃ (k : Nat) (c : Cl), clI (fitsB (sq : Int) s) m.cls = k ∧ m.cls[k]? = some c ∧ fitsB (sq : Int) s c = true := by
     rcases hci with h | h
     ·
      omega
     ·
      exact h
    have HN2 := Lib.hid (show nextS m (sq : Int) s = c.2.2 by rw [HNX.out, if_pos ⟨hc0, ho0⟩, ecq, Int.toNat_natCast, List.getD_eq_getElem?_getD, hcq]; rfl)
    have hcql := (List.getElem?_eq_some_iff.1 hcq).1
    obtain ⟨cbk, co, rfl, hcbk, hrow2⟩ := HR2.out (by omega)
    obtain ⟨-, -, p2⟩ := hrow2 cq c hcq
    have cc3 := (hbB3.cell (p := ⟨cbk, co + cq * 3 + 2, none⟩) hcbk).trans p2
    rw [ecq]
    have d1 : decide ((0 : Int) ≤ (cq : Int)) = true := decide_eq_true (by omega)
    clear hci hc0 ecq hcq hrow2 p2
    go_wp2_with fail
    refine till_region (S := fun w' => w'.cell? ⟨P1, 2, none⟩ = some (.slice (some ⟨gn, 0, none⟩) x.now.length cn) ∧ w'.cell? ⟨w.heap.size, 5, none⟩ = some (.slice (some ⟨cbk, co, none⟩) m.cls.length c2) ∧ w'.cell? ⟨cbk, co + cq * 3 + 2, none⟩ = some (.int .i64 c.2.2)) (st := 10) (by kernel_rfl) ⟨y2, g5, cc3⟩ (fun hHeld => ?_)
    refine utf 0 51 ?_
    refine utk 1 52 ?_
    refine utf 2 53 ?_
    refine utf 3 54 ?_
    refine utk 4 55 ?_
    refine utf 5 56 ?_
    refine utf 6 57 ?_
    refine utf 7 58 ?_
    refine utk 8 59 ?_
    refine utf 9 60 ?_
    refine ur 10 rfl (by kernel_rfl) (fun K hK => ?_)
    go_simp
    obtain ⟨w5, hw5, hkw5, hzw5a, hzw5b⟩ := setE w3 gn k (.int .i64 c.2.2)
    rw [← hw5]
    replace HM := Lib.hid ((hkw5 w.heap.size (by omega)).trans HM.out)
    replace HY := Lib.hid ((hkw5 P1 (by omega)).trans HY.out)
    clear hkw5
    clear g0 g1 g2 g3 g4 g5 g6 gf y0 y1 y2 y3 y4 yf
    obtain ⟨⟨g0, g1, g2⟩, ⟨g3, g4, g5, g6⟩, gf⟩ := cells7 HM
    obtain ⟨⟨y0, y1, y2⟩, ⟨y3, y4⟩, yf⟩ := cells5 HY
    have hK5 : AsyK w5 base val { rounds := x.rounds, before := x.before.set k (sq : Int), now := x.now.set k c.2.2, slots := x.slots, flight := x.flight } := by rw [hw5]; exact AsyK.setNow HK3.out HEN.out k _
    have hbB5 : Below base w w5 := by rw [hw5]; exact hbB3.setCell (p := ⟨gn, k, none⟩) hgn1 _
    have HF5 := Lib.hid (show Frame val x w w5 by rw [hw5]; exact HF3.out.set .n trivial (by rw [HEN.out]; rfl) k _)
    have HK5 := Lib.hid hK5
    clear hw5 hK5 cs2 cr3 fr3 cn3 fn3 cc3
    refine hK.out (fun h' => till_no h' (by kernel_rfl)) ?_
    clear hK K
    try simp only [Act.put, pu]
    refine wpTill_done (by kernel_rfl) ?_ _
    have HKX := Lib.hid (show AsyK w5 base val { rounds := x.rounds, before := x.before.set k (sq : Int), now := x.now.set k (nextS m (sq : Int) s), slots := x.slots, flight := x.flight } by rw [HN2.out]; exact HK5.out)
    have hbBX := hbB5
    have HFX := HF5
    obtain ⟨cr6, fr6⟩ := HKX.out.rCell HER.out HAT.out.hr
    have hW6 := hbBX.size
    go_wp2_with fail
    obtain ⟨w6, hw6, hkw6, hzw6a, hzw6b⟩ := setE w5 gr k (.int .i64 (r + 1))
    rw [← hw6]
    replace HM := Lib.hid ((hkw6 w.heap.size (by omega)).trans HM.out)
    replace HY := Lib.hid ((hkw6 P1 (by omega)).trans HY.out)
    clear hkw6
    clear g0 g1 g2 g3 g4 g5 g6 gf y0 y1 y2 y3 y4 yf
    obtain ⟨⟨g0, g1, g2⟩, ⟨g3, g4, g5, g6⟩, gf⟩ := cells7 HM
    obtain ⟨⟨y0, y1, y2⟩, ⟨y3, y4⟩, yf⟩ := cells5 HY
    have hK6 : AsyK w6 base val { rounds := x.rounds.set k (r + 1), before := x.before.set k (sq : Int), now := x.now.set k (nextS m (sq : Int) s), slots := x.slots, flight := x.flight } := by rw [hw6]; exact AsyK.setRounds HKX.out HER.out k _
    have hbB6 : Below base w w6 := by rw [hw6]; exact hbBX.setCell (p := ⟨gr, k, none⟩) hgr1 _
    have HF6 := Lib.hid (show Frame val x w w6 by rw [hw6]; exact HFX.out.set .r trivial (by rw [HER.out]; rfl) k _)
    have HK6 := Lib.hid hK6
    clear hw6 hK6 cr6 fr6
    have cs6 := (HK6.out.sCell HES.out hks).1
    rw [HEK.out] at cs6
    refine till_region (S := fun w' => w'.cell? ⟨P1, 3, none⟩ = some (.slice (some ⟨gs, 0, none⟩) x.slots.length cs) ∧ w'.cell? ⟨gs, k, none⟩ = some (.slice Ak s.length ck)) (st := 11) (by kernel_rfl) ⟨y3, cs6⟩ (fun hHeld => ?_)
    refine utf 0 68 ?_
    refine utk 1 69 ?_
    refine utf 2 70 ?_
    refine utf 3 71 ?_
    refine utk 4 72 ?_
    refine utf 5 73 ?_
    refine utf 6 74 ?_
    refine utk 7 75 ?_
    refine utf 8 76 ?_
    refine ur 9 rfl (by kernel_rfl) (fun K hK => ?_)
    go_simp
    go_at_call 54
    refine (spec_roFree s.length _ (by omega)).mono ?_
    rintro e w7 ⟨v7, rfl, o7, hb7'⟩
    have hb7 : Below w6.heap.size w6 w7 := by first | exact (Below.refl _ _).drew.trans hb7' | exact (Below.refl _ _).drew.drew.trans hb7'
    replace o7 : w7.ownsRow w6.heap.size 3 1 v7 s.length ((List.replicate s.length (-1 : Int)).map intV) := o7
    obtain ⟨B7, d7, rfl⟩ := own_slice o7
    have HO7 := Lib.hid o7
    clear hb7' o7
    have hzhb7 := hb7.size
    replace HM := Lib.hid ((hb7.block w.heap.size (by omega)).trans HM.out)
    replace HY := Lib.hid ((hb7.block P1 (by omega)).trans HY.out)
    clear g0 g1 g2 g3 g4 g5 g6 gf y0 y1 y2 y3 y4 yf
    obtain ⟨⟨g0, g1, g2⟩, ⟨g3, g4, g5, g6⟩, gf⟩ := cells7 HM
    obtain ⟨⟨y0, y1, y2⟩, ⟨y3, y4⟩, yf⟩ := cells5 HY
    have HK7 := Lib.hid (AsyK.up HK6.out hb7)
    have HF7 := Lib.hid (HF6.out.below hb7)
    have hbB7 : Below base w w7 := hbB6.trans (hb7.mono (by have := hbB6.size; omega))
    clear cs6
    obtain ⟨cs6, fs6⟩ := HK7.out.sCell HES.out hks
    rw [HEK.out] at cs6
    refine hK.out (fun _ => ⟨y3, cs6⟩) ?_
    clear hK K
    try simp only [Act.put, pu]
    refine utf 10 78 ?_
    refine ur 11 rfl (by kernel_rfl) (fun K hK => ?_)
    go_simp
    obtain ⟨w8, hw8, -, -, -⟩ := setE w7 gs k (.slice B7 s.length d7)
    rw [← hw8]
    have hK8 : AsyK w8 base (upd val (.sl k) (.slice B7 s.length d7)) { rounds := x.rounds.set k (r + 1), before := x.before.set k (sq : Int), now := x.now.set k (nextS m (sq : Int) s), slots := x.slots.set k (List.replicate s.length (-1)), flight := x.flight } := by
     rw [hw8]
     exact AsyK.newSlots HK6.out hks HES.out (grown_below hb7) (by rw [List.length_replicate]; exact own_mono HO7.out (by have := hbB6.size; omega)) (fresh_of HO7.out)
    have hbB8 : Below base w w8 := by rw [hw8]; exact hbB7.setCell (p := ⟨gs, k, none⟩) hgs1 _
    have HF8 := Lib.hid (show Frame val x w w8 by rw [hw8]; exact HF7.out.set .s trivial (by rw [HES.out]; rfl) k _)
    have HK8 := Lib.hid hK8
    clear hw8 hK8
    refine hK.out (fun h' => till_no h' (by kernel_rfl)) ?_
    clear hK K
    try simp only [Act.put, pu]
    refine wpTill_done (by kernel_rfl) ?_ _
    go_wp2_with fail
    go_ret
    exact ⟨ret_bool HOK.out.symm, upd val (.sl k) (.slice B7 s.length d7), ⟨upd_ne _ _ (by simp), upd_ne _ _ (by simp), upd_ne _ _ (by simp), upd_ne _ _ (by simp), upd_ne _ _ (by simp)⟩, hbB8, HF8.out, by rw [HOK.out, actS_t, HSG.out]; exact HK8.out⟩
   ·
    have HN2 := Lib.hid (show nextS m (sq : Int) s = (sq : Int) by rw [HNX.out, if_neg hcond])
    have HKX := Lib.hid (show AsyK w3 base val { rounds := x.rounds, before := x.before.set k (sq : Int), now := x.now.set k (nextS m (sq : Int) s), slots := x.slots, flight := x.flight } by rw [HN2.out, set_self HSN.out]; exact HK3.out)
    have hbBX := hbB3
    have HFX := HF3
    by_cases hc0 : 0 ≤ clI (fitsB (sq : Int) s) m.cls
    ·
     obtain ⟨cq, ecq⟩ : ∃ cq : Nat, clI (fitsB (sq : Int) s) m.cls = cq := ⟨(clI (fitsB (sq : Int) s) m.cls).toNat, by omega⟩
     have ho0 : ¬ o < 0 := fun h => hcond ⟨hc0, h⟩
     rw [ecq]
     have d1 : decide ((0 : Int) ≤ (cq : Int)) = true := decide_eq_true (by omega)
     clear hci hcond hc0 ecq
     obtain ⟨cr6, fr6⟩ := HKX.out.rCell HER.out HAT.out.hr
     have hW6 := hbBX.size
     go_wp2_with fail
     obtain ⟨w6, hw6, hkw6, hzw6a, hzw6b⟩ := setE w3 gr k (.int .i64 (r + 1))
     rw [← hw6]
     replace HM := Lib.hid ((hkw6 w.heap.size (by omega)).trans HM.out)
     replace HY := Lib.hid ((hkw6 P1 (by omega)).trans HY.out)
     clear hkw6
     clear g0 g1 g2 g3 g4 g5 g6 gf y0 y1 y2 y3 y4 yf
     obtain ⟨⟨g0, g1, g2⟩, ⟨g3, g4, g5, g6⟩, gf⟩ := cells7 HM
     obtain ⟨⟨y0, y1, y2⟩, ⟨y3, y4⟩, yf⟩ := cells5 HY
     have hK6 : AsyK w6 base val { rounds := x.rounds.set k (r + 1), before := x.before.set k (sq : Int), now := x.now.set k (nextS m (sq : Int) s), slots := x.slots, flight := x.flight } := by rw [hw6]; exact AsyK.setRounds HKX.out HER.out k _
     have hbB6 : Below base w w6 := by rw [hw6]; exact hbBX.setCell (p := ⟨gr, k, none⟩) hgr1 _
     have HF6 := Lib.hid (show Frame val x w w6 by rw [hw6]; exact HFX.out.set .r trivial (by rw [HER.out]; rfl) k _)
     have HK6 := Lib.hid hK6
     clear hw6 hK6 cr6 fr6
     have cs6 := (HK6.out.sCell HES.out hks).1
     rw [HEK.out] at cs6
     refine till_region (S := fun w' => w'.cell? ⟨P1, 3, none⟩ = some (.slice (some ⟨gs, 0, none⟩) x.slots.length cs) ∧ w'.cell? ⟨gs, k, none⟩ = some (.slice Ak s.length ck)) (st := 11) (by kernel_rfl) ⟨y3, cs6⟩ (fun hHeld => ?_)
     refine utf 0 68 ?_
     refine utk 1 69 ?_
     refine utf 2 70 ?_
     refine utf 3 71 ?_
     refine utk 4 72 ?_
     refine utf 5 73 ?_
     refine utf 6 74 ?_
     refine utk 7 75 ?_
     refine utf 8 76 ?_
     refine ur 9 rfl (by kernel_rfl) (fun K hK => ?_)
     go_simp
     go_at_call 54
     refine (spec_roFree s.length _ (by omega)).mono ?_
     rintro e w7 ⟨v7, rfl, o7, hb7'⟩
     have hb7 : Below w6.heap.size w6 w7 := by first | exact (Below.refl _ _).drew.trans hb7' | exact (Below.refl _ _).drew.drew.trans hb7'
     replace o7 : w7.ownsRow w6.heap.size 3 1 v7 s.length ((List.replicate s.length (-1 : Int)).map intV) := o7
     obtain ⟨B7, d7, rfl⟩ := own_slice o7
     have HO7 := Lib.hid o7
     clear hb7' o7
     have hzhb7 := hb7.size
     replace HM := Lib.hid ((hb7.block w.heap.size (by omega)).trans HM.out)
     replace HY := Lib.hid ((hb7.block P1 (by omega)).trans HY.out)
     clear g0 g1 g2 g3 g4 g5 g6 gf y0 y1 y2 y3 y4 yf
     obtain ⟨⟨g0, g1, g2⟩, ⟨g3, g4, g5, g6⟩, gf⟩ := cells7 HM
     obtain ⟨⟨y0, y1, y2⟩, ⟨y3, y4⟩, yf⟩ := cells5 HY
     have HK7 := Lib.hid (AsyK.up HK6.out hb7)
     have HF7 := Lib.hid (HF6.out.below hb7)
     have hbB7 : Below base w w7 := hbB6.trans (hb7.mono (by have := hbB6.size; omega))
     clear cs6
     obtain ⟨cs6, fs6⟩ := HK7.out.sCell HES.out hks
     rw [HEK.out] at cs6
     refine hK.out (fun _ => ⟨y3, cs6⟩) ?_
     clear hK K
     try simp only [Act.put, pu]
     refine utf 10 78 ?_
     refine ur 11 rfl (by kernel_rfl) (fun K hK => ?_)
     go_simp
     obtain ⟨w8, hw8, -, -, -⟩ := setE w7 gs k (.slice B7 s.length d7)
     rw [← hw8]
     have hK8 : AsyK w8 base (upd val (.sl k) (.slice B7 s.length d7)) { rounds := x.rounds.set k (r + 1), before := x.before.set k (sq : Int), now := x.now.set k (nextS m (sq : Int) s), slots := x.slots.set k (List.replicate s.length (-1)), flight := x.flight } := by
      rw [hw8]
      exact AsyK.newSlots HK6.out hks HES.out (grown_below hb7) (by rw [List.length_replicate]; exact own_mono HO7.out (by have := hbB6.size; omega)) (fresh_of HO7.out)
     have hbB8 : Below base w w8 := by rw [hw8]; exact hbB7.setCell (p := ⟨gs, k, none⟩) hgs1 _
     have HF8 := Lib.hid (show Frame val x w w8 by rw [hw8]; exact HF7.out.set .s trivial (by rw [HES.out]; rfl) k _)
     have HK8 := Lib.hid hK8
     clear hw8 hK8
     refine hK.out (fun h' => till_no h' (by kernel_rfl)) ?_
     clear hK K
     try simp only [Act.put, pu]
     refine wpTill_done (by kernel_rfl) ?_ _
     go_wp2_with fail
     go_ret
     exact ⟨ret_bool HOK.out.symm, upd val (.sl k) (.slice B7 s.length d7), ⟨upd_ne _ _ (by simp), upd_ne _ _ (by simp), upd_ne _ _ (by simp), upd_ne _ _ (by simp), upd_ne _ _ (by simp)⟩, hbB8, HF8.out, by rw [HOK.out, actS_t, HSG.out]; exact HK8.out⟩
    ·
     have ecq : clI (fitsB (sq : Int) s) m.cls = -1 := by rcases hci with h | ⟨k', c, h, -, -⟩ <;> omega
     rw [ecq]
     clear hci hcond hc0 ecq
     obtain ⟨cr6, fr6⟩ := HKX.out.rCell HER.out HAT.out.hr
     have hW6 := hbBX.size
     go_wp2_with fail
     obtain ⟨w6, hw6, hkw6, hzw6a, hzw6b⟩ := setE w3 gr k (.int .i64 (r + 1))
     rw [← hw6]
     replace HM := Lib.hid ((hkw6 w.heap.size (by omega)).trans HM.out)
     replace HY := Lib.hid ((hkw6 P1 (by omega)).trans HY.out)
     clear hkw6
     clear g0 g1 g2 g3 g4 g5 g6 gf y0 y1 y2 y3 y4 yf
     obtain ⟨⟨g0, g1, g2⟩, ⟨g3, g4, g5, g6⟩, gf⟩ := cells7 HM
     obtain ⟨⟨y0, y1, y2⟩, ⟨y3, y4⟩, yf⟩ := cells5 HY
     have hK6 : AsyK w6 base val { rounds := x.rounds.set k (r + 1), before := x.before.set k (sq : Int), now := x.now.set k (nextS m (sq : Int) s), slots := x.slots, flight := x.flight } := by rw [hw6]; exact AsyK.setRounds HKX.out HER.out k _
     have hbB6 : Below base w w6 := by rw [hw6]; exact hbBX.setCell (p := ⟨gr, k, none⟩) hgr1 _
     have HF6 := Lib.hid (show Frame val x w w6 by rw [hw6]; exact HFX.out.set .r trivial (by rw [HER.out]; rfl) k _)
     have HK6 := Lib.hid hK6
     clear hw6 hK6 cr6 fr6
     have cs6 := (HK6.out.sCell HES.out hks).1
     rw [HEK.out] at cs6
     refine till_region (S := fun w' => w'.cell? ⟨P1, 3, none⟩ = some (.slice (some ⟨gs, 0, none⟩) x.slots.length cs) ∧ w'.cell? ⟨gs, k, none⟩ = some (.slice Ak s.length ck)) (st := 11) (by kernel_rfl) ⟨y3, cs6⟩ (fun hHeld => ?_)
     refine utf 0 68 ?_
     refine utk 1 69 ?_
     refine utf 2 70 ?_
     refine utf 3 71 ?_
     refine utk 4 72 ?_
     refine utf 5 73 ?_
     refine utf 6 74 ?_
     refine utk 7 75 ?_
     refine utf 8 76 ?_
     refine ur 9 rfl (by kernel_rfl) (fun K hK => ?_)
     go_simp
     go_at_call 54
     refine (spec_roFree s.length _ (by omega)).mono ?_
     rintro e w7 ⟨v7, rfl, o7, hb7'⟩
     have hb7 : Below w6.heap.size w6 w7 := by first | exact (Below.refl _ _).drew.trans hb7' | exact (Below.refl _ _).drew.drew.trans hb7'
     replace o7 : w7.ownsRow w6.heap.size 3 1 v7 s.length ((List.replicate s.length (-1 : Int)).map intV) := o7
     obtain ⟨B7, d7, rfl⟩ := own_slice o7
     have HO7 := Lib.hid o7
     clear hb7' o7
     have hzhb7 := hb7.size
     replace HM := Lib.hid ((hb7.block w.heap.size (by omega)).trans HM.out)
     replace HY := Lib.hid ((hb7.block P1 (by omega)).trans HY.out)
     clear g0 g1 g2 g3 g4 g5 g6 gf y0 y1 y2 y3 y4 yf
     obtain ⟨⟨g0, g1, g2⟩, ⟨g3, g4, g5, g6⟩, gf⟩ := cells7 HM
     obtain ⟨⟨y0, y1, y2⟩, ⟨y3, y4⟩, yf⟩ := cells5 HY
     have HK7 := Lib.hid (AsyK.up HK6.out hb7)
     have HF7 := Lib.hid (HF6.out.below hb7)
     have hbB7 : Below base w w7 := hbB6.trans (hb7.mono (by have := hbB6.size; omega))
     clear cs6
     obtain ⟨cs6, fs6⟩ := HK7.out.sCell HES.out hks
     rw [HEK.out] at cs6
     refine hK.out (fun _ => ⟨y3, cs6⟩) ?_
     clear hK K
     try simp only [Act.put, pu]
     refine utf 10 78 ?_
     refine ur 11 rfl (by kernel_rfl) (fun K hK => ?_)
     go_simp
     obtain ⟨w8, hw8, -, -, -⟩ := setE w7 gs k (.slice B7 s.length d7)
     rw [← hw8]
     have hK8 : AsyK w8 base (upd val (.sl k) (.slice B7 s.length d7)) { rounds := x.rounds.set k (r + 1), before := x.before.set k (sq : Int), now := x.now.set k (nextS m (sq : Int) s), slots := x.slots.set k (List.replicate s.length (-1)), flight := x.flight } := by
      rw [hw8]
      exact AsyK.newSlots HK6.out hks HES.out (grown_below hb7) (by rw [List.length_replicate]; exact own_mono HO7.out (by have := hbB6.size; omega)) (fresh_of HO7.out)
     have hbB8 : Below base w w8 := by rw [hw8]; exact hbB7.setCell (p := ⟨gs, k, none⟩) hgs1 _
     have HF8 := Lib.hid (show Frame val x w w8 by rw [hw8]; exact HF7.out.set .s trivial (by rw [HES.out]; rfl) k _)
     have HK8 := Lib.hid hK8
     clear hw8 hK8
     refine hK.out (fun h' => till_no h' (by kernel_rfl)) ?_
     clear hK K
     try simp only [Act.put, pu]
     refine wpTill_done (by kernel_rfl) ?_ _
     go_wp2_with fail
     go_ret
     exact ⟨ret_bool HOK.out.symm, upd val (.sl k) (.slice B7 s.length d7), ⟨upd_ne _ _ (by simp), upd_ne _ _ (by simp), upd_ne _ _ (by simp), upd_ne _ _ (by simp), upd_ne _ _ (by simp)⟩, hbB8, HF8.out, by rw [HOK.out, actS_t, HSG.out]; exact HK8.out⟩
end Go.Proofs.YtehkcodbcnhhoaaGreat
