/-
  A round of a node, the program's side: doAsync at AcStep.
-/
import Derived.Test.YtehkcodbcnhhoaaGreatEDoB
import Derived.Test.YtehkcodbcnhhoaaGreatEClsI
import Derived.Test.YtehkcodbcnhhoaaGreatESySnd
namespace Go.Proofs.YtehkcodbcnhhoaaGreat
open Go.RowKit
set_option linter.all false
def DoPost (w : World) (base : Nat) (val : Key → Value) (x y : Asy) (P : Nat) (e : Ending) (w' : World) : Prop :=
  e = .returned (.tuple #[]) ∧ Below base w w' ∧ Frame val x w w' ∧ ∃ val', SameHeads val val' ∧ AsyB w' base val' y P
set_option maxRecDepth 100000 in
set_option maxHeartbeats 4000000 in
theorem impl_doStep (vs ve vc vo : Value) (m : Mach) (ne ni nn : Value) (n : Net) (val : Key → Value) (x : Asy) (base k : Nat) (l : Ends) (s : List Int) (f : List Ends) (r : Int) (P : Nat) (w : World) (hm : MachR w base vs ve vc vo m) (hn : NetR w base ne ni nn n) (hK : AsyB w base val x P) (hbase : base ≤ w.heap.size)
  (hp : maP m) (ha : asyP m n x) (hat : AtP n x k l s f r) (hl6 : l.length ≤ 6) (hr40 : r < 40) :
  Calls Tryz.prog 64 #[machV vs ve vc vo m, .agg #[ne, ni, nn], .pointer (some ⟨P, 0, none⟩), .agg #[.int .i64 5, .int .i64 k, .int .i64 0, .int .i64 0]] w (DoPost w base val x (stepA m x k) P) := by
 unfold machV
 have hi := i64_of ha (by have := hp.1.2.1; omega) (by have := hp.1.2.2; omega)
 have HI := Lib.hid hi
 have hkn := hat.lt
 have hkr := (List.getElem?_eq_some_iff.1 hat.hr).1
 have hks := (List.getElem?_eq_some_iff.1 hat.hs).1
 have hkb : k < x.before.length := by have := ha.2.1.1; omega
 have hkw : k < x.now.length := by have := ha.2.2.1.1; omega
 obtain ⟨bn, hbn⟩ : ∃ y, x.before[k]? = some y := ⟨_, List.getElem?_eq_getElem hkb⟩
 obtain ⟨sn, hsn⟩ : ∃ y, x.now[k]? = some y := ⟨_, List.getElem?_eq_getElem hkw⟩
 have hsb := ha.2.2.1.2 sn (List.mem_of_getElem? hsn)
 have hol := hp.2.1.2.2.1
 obtain ⟨sq, rfl⟩ : ∃ sq : Nat, sn = sq := ⟨sn.toNat, by omega⟩
 have hsq : sq < m.out.length := by omega
 obtain ⟨o, ho⟩ : ∃ y, m.out[sq]? = some y := ⟨_, List.getElem?_eq_getElem hsq⟩
 have hr0 := hat.r0
 have HAT := Lib.hid hat
 have HBN := Lib.hid hbn
 have HSN := Lib.hid hsn
 have HO := Lib.hid ho
 have HMC := Lib.hid hm
 have HGE := Lib.hid (show ∀ c ∈ m.cls, ∀ x ∈ c.2.1, -1 ≤ x from fun c hc x hx => ((hp.2.2.2.2.2.1 c hc).2.2.2 x hx).1)
 have hs6 : s.length ≤ 6 := by rw [hat.sl]; exact hl6
 have HSG := Lib.hid (show stepA m x k = { rounds := x.rounds.set k (r + 1), before := x.before.set k (sq : Int), now := x.now.set k (nextS m (sq : Int) s), slots := x.slots.set k (List.replicate s.length (-1)), flight := x.flight } by
  unfold stepA
  rw [slotsAt_eq hat.hs, List.getD_eq_getElem?_getD, List.getD_eq_getElem?_getD, hat.hr, hsn]; rfl)
 have HKB := Lib.hid hK
 have hP := hK.lt
 obtain ⟨gr, cr, er, hcr1, hcr2, hgr1, hgr2⟩ := own_some2 (hK.k.own .r trivial) (show 0 < x.rounds.length by omega)
 obtain ⟨gb, cb, eb, hcb1, hcb2, hgb1, hgb2⟩ := own_some2 (hK.k.own .b trivial) (show 0 < x.before.length by omega)
 obtain ⟨gn, cn, en, hcn1, hcn2, hgn1, hgn2⟩ := own_some2 (hK.k.own .n trivial) (show 0 < x.now.length by omega)
 obtain ⟨gs, cs, es, hcs1, hcs2, hgs1, hgs2⟩ := own_some2 (hK.k.own .s trivial) (show 0 < x.slots.length by omega)
 obtain ⟨Af, cf, ef⟩ := own_sl1 (hK.k.own .f trivial)
 replace er : val .r = .slice (some ⟨gr, 0, none⟩) x.rounds.length cr := er
 replace eb : val .b = .slice (some ⟨gb, 0, none⟩) x.before.length cb := eb
 replace en : val .n = .slice (some ⟨gn, 0, none⟩) x.now.length cn := en
 replace es : val .s = .slice (some ⟨gs, 0, none⟩) x.slots.length cs := es
 replace ef : val .f = .slice Af x.flight.length cf := ef
 have hPr : P ≠ gr := fun e => hK.ne .r trivial (by rw [er, e]; rfl)
 have hPb : P ≠ gb := fun e => hK.ne .b trivial (by rw [eb, e]; rfl)
 have hPn : P ≠ gn := fun e => hK.ne .n trivial (by rw [en, e]; rfl)
 have hPs : P ≠ gs := fun e => hK.ne .s trivial (by rw [es, e]; rfl)
 have hbx := hK.box
 rw [er, eb, en, es, ef] at hbx
 have HY := Lib.hid hbx
 obtain ⟨Ak, ck, ek⟩ := own_sl1 (AsyK.slOwn hK.k hat.hs)
 have hcm1 := hm.c
 have hom1 := hm.o.open_
 obtain ⟨⟨A0, m0, c0, rfl⟩, ⟨A1, m1, c1, rfl⟩, -, -⟩ := hm.slices
 obtain ⟨⟨A4, m4, c4, rfl⟩, ⟨A5, m5, c5, rfl⟩, A6, m6, c6, rfl⟩ := hn.slices
 obtain ⟨A2, c2, rfl, hc2, hm2, -, hr2⟩ := hcm1
 obtain ⟨A3, c3, rfl, hc3, hm3, hr3⟩ := hom1
 unfold maxLen at hm2 hm3
 obtain ⟨ad3, rfl, ha3, hrow3⟩ := hr3 (by omega)
 have HRO := Lib.hid (hrow3 sq o ho)
 have HR2 := Lib.hid hr2
 have HER := Lib.hid er
 have HEB := Lib.hid eb
 have HEN := Lib.hid en
 have HES := Lib.hid es
 have HEK := Lib.hid ek
 have hK0 := hK.k
 clear er eb en es ef ek hm hn hr2 hr3 hrow3 ho hsn hbn ha hi hat hbx hK
 obtain ⟨w0, hw0, hb0, HM, hz0, HS0⟩ := box7 w (.int .i64 m.deg) (.int .i64 m.st) (.int .i64 m.msg) (.slice A0 m0 c0) (.slice A1 m1 c1) (.slice A2 m.cls.length c2) (.slice (some ad3) m.out.length c3) 39
 obtain ⟨w1, hw1, hb1, HD, hz1, HS1⟩ := box3 w0 (.slice A4 m4 c4) (.slice A5 m5 c5) (.slice A6 m6 c6) 43
 replace HM := bk HM hb1
 obtain ⟨w2, hw2, hb2, HA, hz2, HS2⟩ := box4a w1 (.int .i64 5) (.int .i64 (k : Int)) (.int .i64 0) (.int .i64 0) 69
 replace HM := bk HM hb2
 replace HD := bk HD hb2
 have hB : Below w.heap.size w w2 := bl_trans (bl_trans (hb0) hb1) hb2
 have HW := Lib.hid (show w2 = ((w.alloc (.cells #[.int .i64 m.deg, .int .i64 m.st, .int .i64 m.msg, .slice A0 m0 c0, .slice A1 m1 c1, .slice A2 m.cls.length c2, .slice (some ad3) m.out.length c3] 39)).alloc (.cells #[.slice A4 m4 c4, .slice A5 m5 c5, .slice A6 m6 c6] 43)).alloc (.cells #[.int .i64 5, .int .i64 (k : Int), .int .i64 0, .int .i64 0] 69) by rw [hw2, hw1, hw0])
 obtain ⟨P1, hP1⟩ : ∃ z, z = w0.heap.size := ⟨_, rfl⟩
 have HP1 := Lib.hid (show w.heap.size + 1 = P1 by rw [hP1, HS0.out])
 have hPl1 : w.heap.size < P1 := by rw [← HP1.out]; omega
 rw [← hP1] at HD hz1
 obtain ⟨P2, hP2⟩ : ∃ z, z = w1.heap.size := ⟨_, rfl⟩
 have HP2 := Lib.hid (show w.heap.size + 1 + 1 = P2 by rw [hP2, HS1.out, HS0.out])
 have hPl2 : w.heap.size < P2 := by rw [← HP2.out]; omega
 rw [← hP2] at HA hz2
 obtain ⟨⟨g0, g1, g2⟩, ⟨g3, g4, g5, g6⟩, gf⟩ := cells7 HM
 obtain ⟨q0, q1, q2, qf⟩ := cells3 HD
 obtain ⟨⟨u0, u1⟩, ⟨u2, u3⟩, uf⟩ := cells4a HA
 have eg0 := g0
 have eg1 := g1
 have eg2 := g2
 have eg3 := g3
 have eg4 := g4
 have eg5 := g5
 have eg6 := g6
 have eq0 := q0
 have eq1 := q1
 have eq2 := q2
 have eu0 := u0
 have eu1 := u1
 have eu2 := u2
 have eu3 := u3
 rw [HW.out] at eg0 eg1 eg2 eg3 eg4 eg5 eg6 eq0 eq1 eq2 eu0 eu1 eu2 eu3
 rw [← HP1.out] at eq0 eq1 eq2
 rw [← HP2.out] at eu0 eu1 eu2 eu3
 have hzb0 : w.heap.size < w2.heap.size := by omega
 have hzb1 : P1 < w2.heap.size := by omega
 have hzb2 : P2 < w2.heap.size := by omega
 have HR := True.intro
 have HN := True.intro
 clear hw2 hw1 hw0 hP1 hP2
 have HK1 := Lib.hid (AsyK.up hK0 hB)
 replace HY := bk (bk (bk HY hb0) hb1) hb2
 obtain ⟨⟨y0, y1, y2⟩, ⟨y3, y4⟩, yf⟩ := cells5 HY
 have hbB : Below base w w2 := hB.mono hbase
 have HFR := Lib.hid (Frame.of (val := val) (x := x) hB)
 have cn1 := (HK1.out.nCell HEN.out HSN.out).1
 obtain ⟨cb1, fb1⟩ := HK1.out.bCell HEB.out HBN.out
 have co1 := (hbB.cell (p := ad3.add sq) (by rw [block_add]; exact ha3)).trans HRO.out
 clear HR HN hK0 uf hol hsb
 go_enter Tryz.func64, Tryz.ntmps64
 go_wp2_with fail
 rw [HP2.out, HP1.out, ← HW.out]
 clear eg0 eg1 eg2 eg3 eg4 eg5 eg6 eq0 eq1 eq2 eu0 eu1 eu2 eu3
 refine till_region (S := fun w' => w'.cell? ⟨P, 1, none⟩ = some (.slice (some ⟨gb, 0, none⟩) x.before.length cb) ∧ w'.cell? ⟨P, 2, none⟩ = some (.slice (some ⟨gn, 0, none⟩) x.now.length cn) ∧ w'.cell? ⟨gn, k, none⟩ = some (.int .i64 (sq : Int))) (st := 13) (by kernel_rfl) ⟨y1, y2, cn1⟩ (fun hHeld => ?_)
 refine utf 0 20 ?_
 refine utf 1 21 ?_
 refine utf 2 22 ?_
 refine utk 3 23 ?_
 refine utf 4 24 ?_
 refine utf 5 25 ?_
 refine utf 6 26 ?_
 refine utf 7 27 ?_
 refine utk 8 28 ?_
 refine utf 9 29 ?_
 refine utf 10 30 ?_
 refine utk 11 31 ?_
 refine utf 12 32 ?_
 refine ur 13 rfl (by kernel_rfl) (fun K hK => ?_)
 go_simp
 obtain ⟨w3, hw3, hkw3, hzw3a, hzw3b⟩ := setE w2 gb k (.int .i64 (sq : Int))
 rw [← hw3]
 replace HM := Lib.hid ((hkw3 w.heap.size (by omega)).trans HM.out)
 replace HY := Lib.hid ((hkw3 P (by omega)).trans HY.out)
 clear hkw3
 clear g0 g1 g2 g3 g4 g5 g6 gf y0 y1 y2 y3 y4 yf
 obtain ⟨⟨g0, g1, g2⟩, ⟨g3, g4, g5, g6⟩, gf⟩ := cells7 HM
 obtain ⟨⟨y0, y1, y2⟩, ⟨y3, y4⟩, yf⟩ := cells5 HY
 have hK3 : AsyK w3 base val { x with before := x.before.set k (sq : Int) } := by rw [hw3]; exact AsyK.setBefore HK1.out HEB.out k _
 have hbB3 : Below base w w3 := by rw [hw3]; exact hbB.setCell (p := ⟨gb, k, none⟩) hgb1 _
 have hbs3 : base ≤ w3.heap.size := by have := hbB3.size; omega
 have HF3 := Lib.hid (show Frame val x w w3 by rw [hw3]; exact HFR.out.set .b trivial (by rw [HEB.out]; rfl) k _)
 have HK3 := Lib.hid hK3
 clear hw3 hK3 cb1 fb1 cn1 co1
 refine hK.out (fun h' => till_no h' (by kernel_rfl)) ?_
 clear hK K
 try simp only [Act.put, pu]
 refine wpTill_done (by kernel_rfl) ?_ _
 have HNX := Lib.hid (show nextS m (sq : Int) s = if 0 ≤ clI (fitsB (sq : Int) s) m.cls ∧ o < 0 then (m.cls.getD (clI (fitsB (sq : Int) s) m.cls).toNat (0, [], 0)).2.2 else (sq : Int) by
  unfold nextS
  rw [Int.toNat_natCast, List.getD_eq_getElem?_getD (l := m.out), HO.out]; rfl)
 have hzz := hbB3.size
 have cn3 := (HK3.out.nCell HEN.out HSN.out).1
 have co3 := (hbB3.cell (p := ad3.add sq) (by rw [block_add]; exact ha3)).trans HRO.out
 have cs3 := (HK3.out.sCell HES.out hks).1
 rw [HEK.out] at cs3
 have HIS3 := Lib.hid (by have := own_intsR (AsyK.slOwn HK3.out HAT.out.hs) (HI.out.s s (List.mem_of_getElem? HAT.out.hs)); rw [HEK.out] at this; exact this : IntsR w3 w3.heap.size (.slice Ak s.length ck) s)
 go_wp2_with fail
 refine wp_region_held_drew (S := fun w' => w'.cell? ⟨w.heap.size, 6, none⟩ = some (.slice (some ad3) m.out.length c3) ∧ w'.cell? ⟨P, 2, none⟩ = some (.slice (some ⟨gn, 0, none⟩) x.now.length cn) ∧ w'.cell? ⟨gn, k, none⟩ = some (.int .i64 (sq : Int)) ∧ w'.cell? (ad3.add sq) = some (.int .i64 o)) (by kernel_rfl) ?_ (fun hHeld => ?_)
 ·
  go_keep
 refine stk 0 33 ?_
 refine stk 1 34 ?_
 refine stk 2 35 ?_
 refine stk 3 36 ?_
 refine stk 4 37 ?_
 refine stk 5 38 ?_
 refine stk 6 39 ?_
 refine stk 7 40 ?_
 refine stk 8 41 ?_
 refine stk 9 42 ?_
 refine stk 10 43 ?_
 refine stk 11 44 ?_
 refine wpAnyH_done (by kernel_rfl) ?_ _
 by_cases ho0 : o < 0
 ·
  have d0 : decide (o < 0) = true := decide_eq_true ho0
  have HO0 := Lib.hid ho0
  go_wp2_with fail
  refine wp_region_held_drew (S := fun w' => w'.cell? ⟨w.heap.size, 0, none⟩ = some (.int .i64 m.deg) ∧ w'.cell? ⟨w.heap.size, 1, none⟩ = some (.int .i64 m.st) ∧ w'.cell? ⟨w.heap.size, 2, none⟩ = some (.int .i64 m.msg) ∧ w'.cell? ⟨w.heap.size, 3, none⟩ = some (.slice A0 m0 c0) ∧ w'.cell? ⟨w.heap.size, 4, none⟩ = some (.slice A1 m1 c1) ∧ w'.cell? ⟨w.heap.size, 5, none⟩ = some (.slice A2 m.cls.length c2) ∧ w'.cell? ⟨w.heap.size, 6, none⟩ = some (.slice (some ad3) m.out.length c3) ∧ w'.cell? ⟨P, 2, none⟩ = some (.slice (some ⟨gn, 0, none⟩) x.now.length cn) ∧ w'.cell? ⟨gn, k, none⟩ = some (.int .i64 (sq : Int)) ∧ w'.cell? ⟨P, 3, none⟩ = some (.slice (some ⟨gs, 0, none⟩) x.slots.length cs) ∧ w'.cell? ⟨gs, k, none⟩ = some (.slice Ak s.length ck)) (by kernel_rfl) ?_ (fun hHeld => ?_)
  ·
   go_keep
  refine stk 0 45 ?_
  refine stk 1 46 ?_
  refine stk 2 47 ?_
  refine stk 3 48 ?_
  refine stk 4 49 ?_
  refine stk 5 50 ?_
  refine stk 6 51 ?_
  refine stk 7 52 ?_
  refine stk 8 53 ?_
  refine stk 9 54 ?_
  refine stk 10 55 ?_
  refine stk 11 56 ?_
  refine stk 12 57 ?_
  refine stk 13 58 ?_
  refine stk 14 59 ?_
  refine tr 15 rfl (by kernel_rfl) (fun K hK => ?_)
  go_simp
  go_at_call 88
  refine (impl_clauseFor _ _ _ _ _ m (sq : Int) s w3.drew.drew.drew (HMC.out.at (by first | exact hbB3 | exact hbB3.drew | exact hbB3.drew.drew | exact hbB3.drew.drew.drew) hbs3) ((HIS3.out.below (by first | exact (Below.refl _ _) | exact (Below.refl _ _).drew | exact (Below.refl _ _).drew.drew | exact (Below.refl _ _).drew.drew.drew)).more (Nat.le_refl _)) HGE.out).mono ?_
  rintro e w4 ⟨rfl, hb4'⟩
  have hb4 : Below w3.heap.size w3 w4 := by first | exact (Below.refl _ _).trans hb4' | exact (Below.refl _ _).drew.trans hb4' | exact (Below.refl _ _).drew.drew.trans hb4' | exact (Below.refl _ _).drew.drew.drew.trans hb4'
  clear hb4'
  have hzhb4 := hb4.size
  replace HM := Lib.hid ((hb4.block w.heap.size (by omega)).trans HM.out)
  replace HY := Lib.hid ((hb4.block P (by omega)).trans HY.out)
  clear g0 g1 g2 g3 g4 g5 g6 gf y0 y1 y2 y3 y4 yf
  obtain ⟨⟨g0, g1, g2⟩, ⟨g3, g4, g5, g6⟩, gf⟩ := cells7 HM
  obtain ⟨⟨y0, y1, y2⟩, ⟨y3, y4⟩, yf⟩ := cells5 HY
  have hbB4 : Below base w w4 := hbB3.trans (hb4.mono (by have := hbB3.size; omega))
  have HK4 := Lib.hid (AsyK.up HK3.out hb4)
  have HF4 := Lib.hid (HF3.out.below hb4)
  clear cs3 cn3 co3
  have cs3 := (HK4.out.sCell HES.out hks).1
  rw [HEK.out] at cs3
  have cn3 := (HK4.out.nCell HEN.out HSN.out).1
  refine hK.out _ _ ?_ (fun hHeld => ?_)
  ·
   go_keep
  clear hK K
  try simp only [Act.put, pu]
  refine stk 16 9 ?_
  refine wpAnyH_done (by kernel_rfl) ?_ _
  clear cs3 cn3
  obtain ⟨cn4, fn4⟩ := HK4.out.nCell HEN.out HSN.out
  have hci := clI_cases (fitsB (sq : Int) s) m.cls
  by_cases hc0 : 0 ≤ clI (fitsB (sq : Int) s) m.cls
  ·
   obtain ⟨cq, c, ecq, hcq, -⟩ : ∃ (k : Nat) (c : Cl), clI (fitsB (sq : Int) s) m.cls = k ∧ m.cls[k]? = some c ∧ fitsB (sq : Int) s c = true := by
    rcases hci with h | h
    ·
     omega
    ·
     exact h
   have HN2 := Lib.hid (show nextS m (sq : Int) s = c.2.2 by rw [HNX.out, if_pos ⟨hc0, HO0.out⟩, ecq, Int.toNat_natCast, List.getD_eq_getElem?_getD, hcq]; rfl)
   have hcql := (List.getElem?_eq_some_iff.1 hcq).1
   obtain ⟨cbk, co, rfl, hcbk, hrow2⟩ := HR2.out (by omega)
   obtain ⟨-, -, p2⟩ := hrow2 cq c hcq
   have cc4 := (hbB4.cell (p := ⟨cbk, co + cq * 3 + 2, none⟩) hcbk).trans p2
   rw [ecq]
   have d1 : decide ((0 : Int) ≤ (cq : Int)) = true := decide_eq_true (by omega)
   clear hci hc0 ecq hcq hrow2 p2
   go_wp2_with fail
   refine till_region (S := fun w' => w'.cell? ⟨P, 2, none⟩ = some (.slice (some ⟨gn, 0, none⟩) x.now.length cn) ∧ w'.cell? ⟨w.heap.size, 5, none⟩ = some (.slice (some ⟨cbk, co, none⟩) m.cls.length c2) ∧ w'.cell? ⟨cbk, co + cq * 3 + 2, none⟩ = some (.int .i64 c.2.2)) (st := 12) (by kernel_rfl) ⟨y2, g5, cc4⟩ (fun hHeld => ?_)
   refine utf 0 63 ?_
   refine utf 1 64 ?_
   refine utf 2 65 ?_
   refine utk 3 66 ?_
   refine utf 4 67 ?_
   refine utf 5 68 ?_
   refine utk 6 69 ?_
   refine utf 7 70 ?_
   refine utf 8 71 ?_
   refine utf 9 72 ?_
   refine utk 10 73 ?_
   refine utf 11 74 ?_
   refine ur 12 rfl (by kernel_rfl) (fun K hK => ?_)
   go_simp
   obtain ⟨w5, hw5, hkw5, hzw5a, hzw5b⟩ := setE w4 gn k (.int .i64 c.2.2)
   rw [← hw5]
   replace HM := Lib.hid ((hkw5 w.heap.size (by omega)).trans HM.out)
   replace HY := Lib.hid ((hkw5 P (by omega)).trans HY.out)
   clear hkw5
   clear g0 g1 g2 g3 g4 g5 g6 gf y0 y1 y2 y3 y4 yf
   obtain ⟨⟨g0, g1, g2⟩, ⟨g3, g4, g5, g6⟩, gf⟩ := cells7 HM
   obtain ⟨⟨y0, y1, y2⟩, ⟨y3, y4⟩, yf⟩ := cells5 HY
   have hK5 : AsyK w5 base val { rounds := x.rounds, before := x.before.set k (sq : Int), now := x.now.set k c.2.2, slots := x.slots, flight := x.flight } := by rw [hw5]; exact AsyK.setNow HK4.out HEN.out k _
   have hbB5 : Below base w w5 := by rw [hw5]; exact hbB4.setCell (p := ⟨gn, k, none⟩) hgn1 _
   have HF5 := Lib.hid (show Frame val x w w5 by rw [hw5]; exact HF4.out.set .n trivial (by rw [HEN.out]; rfl) k _)
   have HK5 := Lib.hid hK5
   clear hw5 hK5 cn4 fn4 cc4
   refine hK.out (fun h' => till_no h' (by kernel_rfl)) ?_
   clear hK K
   try simp only [Act.put, pu]
   refine wpTill_done (by kernel_rfl) ?_ _
   have HKX := Lib.hid (show AsyK w5 base val { rounds := x.rounds, before := x.before.set k (sq : Int), now := x.now.set k (nextS m (sq : Int) s), slots := x.slots, flight := x.flight } by rw [HN2.out]; exact HK5.out)
   have hbBX := hbB5
   have HFX := HF5
   obtain ⟨cr6, fr6⟩ := HKX.out.rCell HER.out HAT.out.hr
   have hW6 := hbBX.size
   have hwr : IntKind.i64.wrap (r + 1) = r + 1 := IntWalk.i64_in _ (by omega)
   go_wp2_with fail
   obtain ⟨w6, hw6, hkw6, hzw6a, hzw6b⟩ := setE w5 gr k (.int .i64 (r + 1))
   rw [← hw6]
   replace HM := Lib.hid ((hkw6 w.heap.size (by omega)).trans HM.out)
   replace HY := Lib.hid ((hkw6 P (by omega)).trans HY.out)
   clear hkw6
   clear g0 g1 g2 g3 g4 g5 g6 gf y0 y1 y2 y3 y4 yf
   obtain ⟨⟨g0, g1, g2⟩, ⟨g3, g4, g5, g6⟩, gf⟩ := cells7 HM
   obtain ⟨⟨y0, y1, y2⟩, ⟨y3, y4⟩, yf⟩ := cells5 HY
   have hK6 : AsyK w6 base val { rounds := x.rounds.set k (r + 1), before := x.before.set k (sq : Int), now := x.now.set k (nextS m (sq : Int) s), slots := x.slots, flight := x.flight } := by rw [hw6]; exact AsyK.setRounds HKX.out HER.out k _
   have hbB6 : Below base w w6 := by rw [hw6]; exact hbBX.setCell (p := ⟨gr, k, none⟩) hgr1 _
   have HF6 := Lib.hid (show Frame val x w w6 by rw [hw6]; exact HFX.out.set .r trivial (by rw [HER.out]; rfl) k _)
   have HK6 := Lib.hid hK6
   clear hw6 hK6 cr6 fr6
   have cs6 := (HK6.out.sCell HES.out hks).1
   rw [HEK.out] at cs6
   refine till_region (S := fun w' => w'.cell? ⟨P, 3, none⟩ = some (.slice (some ⟨gs, 0, none⟩) x.slots.length cs) ∧ w'.cell? ⟨gs, k, none⟩ = some (.slice Ak s.length ck)) (st := 16) (by kernel_rfl) ⟨y3, cs6⟩ (fun hHeld => ?_)
   obtain ⟨W0, hW0⟩ : ∃ z, z = w6.drew.drew := ⟨_, rfl⟩
   rw [← hW0]
   replace y3 : W0.cell? ⟨P, 3, none⟩ = some (.slice (some ⟨gs, 0, none⟩) x.slots.length cs) := by rw [hW0]; exact y3
   replace cs6 : W0.cell? ⟨gs, k, none⟩ = some (.slice Ak s.length ck) := by rw [hW0]; exact cs6
   have HKW := Lib.hid (show AsyK W0 base val { rounds := x.rounds.set k (r + 1), before := x.before.set k (sq : Int), now := x.now.set k (nextS m (sq : Int) s), slots := x.slots, flight := x.flight } by rw [hW0]; exact HK6.out.drew.drew)
   have hbW : Below base w W0 := by rw [hW0]; exact hbB6.drew.drew
   have hzW : w6.heap.size = W0.heap.size := by rw [hW0]; rfl
   have hlW : base ≤ W0.heap.size := by have := hbW.size; omega
   have HFW := Lib.hid (show Frame val x w W0 by rw [hW0]; exact HF6.out.drew.drew)
   have y30 := y3
   clear hW0 hHeld
   refine utf 0 84 ?_
   refine utf 1 85 ?_
   refine utf 2 86 ?_
   refine utk 3 87 ?_
   refine utf 4 88 ?_
   refine utf 6 90 ?_
   refine utf 7 91 ?_
   refine utf 8 92 ?_
   refine utk 9 93 ?_
   refine utf 10 94 ?_
   refine utf 11 95 ?_
   refine utk 12 96 ?_
   refine utf 13 97 ?_
   refine ur 5 rfl (by kernel_rfl) (fun K hK => ?_)
   go_simp
   obtain ⟨W1, hW1⟩ : ∃ z, z = W0.alloc (.cells #[.int .i64 (-1)] 3) := ⟨_, rfl⟩
   rw [← hW1]
   have hbW1 : Below W0.heap.size W0 W1 := by rw [hW1]; exact bl_alloc (Below.refl _ _) _
   have hN1 : NumsAt W1 W0.heap.size [-1] := by rw [hW1]; exact heap_alloc_new W0 _
   clear hW1
   replace y3 := (hbW1.cell (p := ⟨P, 3, none⟩) (by show P < W0.heap.size; omega)).trans y3
   replace cs6 := (hbW1.cell (p := ⟨gs, k, none⟩) (by show gs < W0.heap.size; omega)).trans cs6
   refine hK.out (fun _ => ⟨y3, cs6⟩) ?_
   clear hK K
   try simp only [Act.put, pu]
   refine ur 14 rfl (by kernel_rfl) (fun K hK => ?_)
   go_simp
   go_at_call 85
   refine (impl_Repeats (-1) s.length W0.heap.size _ hN1 (by omega)).mono ?_
   rintro e w7 ⟨v7, rfl, o7, hb7'⟩
   have hb7 : Below W0.heap.size W0 w7 := bl_trans hbW1 hb7'
   replace o7 := own_mono o7 hbW1.size
   obtain ⟨B7, d7, rfl⟩ := own_slice o7
   have HO7 := Lib.hid o7
   clear hb7' o7
   have HK7 := Lib.hid (AsyK.up HKW.out hb7)
   have HF7 := Lib.hid (HFW.out.below hb7)
   have hbB7 : Below base w w7 := hbW.trans (hb7.mono hlW)
   replace y3 := (hb7.cell (p := ⟨P, 3, none⟩) (by show P < W0.heap.size; omega)).trans y30
   clear cs6
   obtain ⟨cs6, fs6⟩ := HK7.out.sCell HES.out hks
   rw [HEK.out] at cs6
   refine hK.out (fun _ => ⟨y3, cs6⟩) ?_
   clear hK K
   try simp only [Act.put, pu]
   refine utf 15 99 ?_
   refine ur 16 rfl (by kernel_rfl) (fun K hK => ?_)
   go_simp
   obtain ⟨w8, hw8, -, -, -⟩ := setE w7 gs k (.slice B7 s.length d7)
   rw [← hw8]
   have hK8 : AsyK w8 base (upd val (.sl k) (.slice B7 s.length d7)) { rounds := x.rounds.set k (r + 1), before := x.before.set k (sq : Int), now := x.now.set k (nextS m (sq : Int) s), slots := x.slots.set k (List.replicate s.length (-1)), flight := x.flight } := by
    rw [hw8]
    exact AsyK.newSlots HKW.out hks HES.out (grown_below hb7) (by rw [List.length_replicate]; exact own_mono HO7.out hlW) (fresh_of HO7.out)
   have hbB8 : Below base w w8 := by rw [hw8]; exact hbB7.setCell (p := ⟨gs, k, none⟩) hgs1 _
   have HF8 := Lib.hid (show Frame val x w w8 by rw [hw8]; exact HF7.out.set .s trivial (by rw [HES.out]; rfl) k _)
   have HK8 := Lib.hid hK8
   clear hw8 hK8
   refine hK.out (fun h' => till_no h' (by kernel_rfl)) ?_
   clear hK K
   try simp only [Act.put, pu]
   refine wpTill_done (by kernel_rfl) ?_ _
   go_wp2_with fail
   have hf : Frame val x w w8 := HF8.out
   have hne := HKB.out.ne_upd (y := { rounds := x.rounds.set k (r + 1), before := x.before.set k (sq : Int), now := x.now.set k (nextS m (sq : Int) s), slots := x.slots.set k (List.replicate s.length (-1)), flight := x.flight }) (fun j hj => keyOf_of (x := x) (y := { rounds := x.rounds.set k (r + 1), before := x.before.set k (sq : Int), now := x.now.set k (nextS m (sq : Int) s), slots := x.slots.set k (List.replicate s.length (-1)), flight := x.flight }) (by simp) rfl (fun _ _ => rfl) hj) (.sl k) (v := .slice B7 s.length d7) (ne_fresh (fresh_of HO7.out) (by omega))
   have hfin : AsyB w8 base (upd val (.sl k) (.slice B7 s.length d7)) (stepA m x k) P := by
    rw [HSG.out]
    exact HKB.out.after hf HK8.out ⟨upd_ne _ _ (by simp), upd_ne _ _ (by simp), upd_ne _ _ (by simp), upd_ne _ _ (by simp), upd_ne _ _ (by simp)⟩ hne
   exact bodyPost_ret (v := .tuple #[]) (by simp [results, Tryz.results64, go_sem]) rfl ⟨rfl, by first | exact hbB8 | exact hbB8.drew | exact hbB8.drew.drew | exact hbB8.drew.drew.drew, by first | exact hf | exact hf.drew | exact hf.drew.drew | exact hf.drew.drew.drew, upd val (.sl k) (.slice B7 s.length d7), ⟨upd_ne _ _ (by simp), upd_ne _ _ (by simp), upd_ne _ _ (by simp), upd_ne _ _ (by simp), upd_ne _ _ (by simp)⟩, hfin⟩
  ·
   have ecq : clI (fitsB (sq : Int) s) m.cls = -1 := by rcases hci with h | ⟨k', c, h, -, -⟩ <;> omega
   have HN2 := Lib.hid (show nextS m (sq : Int) s = (sq : Int) by rw [HNX.out, if_neg (fun h => hc0 h.1)])
   have HKX := Lib.hid (show AsyK w4 base val { rounds := x.rounds, before := x.before.set k (sq : Int), now := x.now.set k (nextS m (sq : Int) s), slots := x.slots, flight := x.flight } by rw [HN2.out, set_self HSN.out]; exact HK4.out)
   have hbBX := hbB4
   have HFX := HF4
   rw [ecq]
   clear hci hc0 ecq
   obtain ⟨cr6, fr6⟩ := HKX.out.rCell HER.out HAT.out.hr
   have hW6 := hbBX.size
   have hwr : IntKind.i64.wrap (r + 1) = r + 1 := IntWalk.i64_in _ (by omega)
   go_wp2_with fail
   obtain ⟨w6, hw6, hkw6, hzw6a, hzw6b⟩ := setE w4 gr k (.int .i64 (r + 1))
   rw [← hw6]
   replace HM := Lib.hid ((hkw6 w.heap.size (by omega)).trans HM.out)
   replace HY := Lib.hid ((hkw6 P (by omega)).trans HY.out)
   clear hkw6
   clear g0 g1 g2 g3 g4 g5 g6 gf y0 y1 y2 y3 y4 yf
   obtain ⟨⟨g0, g1, g2⟩, ⟨g3, g4, g5, g6⟩, gf⟩ := cells7 HM
   obtain ⟨⟨y0, y1, y2⟩, ⟨y3, y4⟩, yf⟩ := cells5 HY
   have hK6 : AsyK w6 base val { rounds := x.rounds.set k (r + 1), before := x.before.set k (sq : Int), now := x.now.set k (nextS m (sq : Int) s), slots := x.slots, flight := x.flight } := by rw [hw6]; exact AsyK.setRounds HKX.out HER.out k _
   have hbB6 : Below base w w6 := by rw [hw6]; exact hbBX.setCell (p := ⟨gr, k, none⟩) hgr1 _
   have HF6 := Lib.hid (show Frame val x w w6 by rw [hw6]; exact HFX.out.set .r trivial (by rw [HER.out]; rfl) k _)
   have HK6 := Lib.hid hK6
   clear hw6 hK6 cr6 fr6
   have cs6 := (HK6.out.sCell HES.out hks).1
   rw [HEK.out] at cs6
   refine till_region (S := fun w' => w'.cell? ⟨P, 3, none⟩ = some (.slice (some ⟨gs, 0, none⟩) x.slots.length cs) ∧ w'.cell? ⟨gs, k, none⟩ = some (.slice Ak s.length ck)) (st := 16) (by kernel_rfl) ⟨y3, cs6⟩ (fun hHeld => ?_)
   obtain ⟨W0, hW0⟩ : ∃ z, z = w6.drew := ⟨_, rfl⟩
   rw [← hW0]
   replace y3 : W0.cell? ⟨P, 3, none⟩ = some (.slice (some ⟨gs, 0, none⟩) x.slots.length cs) := by rw [hW0]; exact y3
   replace cs6 : W0.cell? ⟨gs, k, none⟩ = some (.slice Ak s.length ck) := by rw [hW0]; exact cs6
   have HKW := Lib.hid (show AsyK W0 base val { rounds := x.rounds.set k (r + 1), before := x.before.set k (sq : Int), now := x.now.set k (nextS m (sq : Int) s), slots := x.slots, flight := x.flight } by rw [hW0]; exact HK6.out.drew)
   have hbW : Below base w W0 := by rw [hW0]; exact hbB6.drew
   have hzW : w6.heap.size = W0.heap.size := by rw [hW0]; rfl
   have hlW : base ≤ W0.heap.size := by have := hbW.size; omega
   have HFW := Lib.hid (show Frame val x w W0 by rw [hW0]; exact HF6.out.drew)
   have y30 := y3
   clear hW0 hHeld
   refine utf 0 84 ?_
   refine utf 1 85 ?_
   refine utf 2 86 ?_
   refine utk 3 87 ?_
   refine utf 4 88 ?_
   refine utf 6 90 ?_
   refine utf 7 91 ?_
   refine utf 8 92 ?_
   refine utk 9 93 ?_
   refine utf 10 94 ?_
   refine utf 11 95 ?_
   refine utk 12 96 ?_
   refine utf 13 97 ?_
   refine ur 5 rfl (by kernel_rfl) (fun K hK => ?_)
   go_simp
   obtain ⟨W1, hW1⟩ : ∃ z, z = W0.alloc (.cells #[.int .i64 (-1)] 3) := ⟨_, rfl⟩
   rw [← hW1]
   have hbW1 : Below W0.heap.size W0 W1 := by rw [hW1]; exact bl_alloc (Below.refl _ _) _
   have hN1 : NumsAt W1 W0.heap.size [-1] := by rw [hW1]; exact heap_alloc_new W0 _
   clear hW1
   replace y3 := (hbW1.cell (p := ⟨P, 3, none⟩) (by show P < W0.heap.size; omega)).trans y3
   replace cs6 := (hbW1.cell (p := ⟨gs, k, none⟩) (by show gs < W0.heap.size; omega)).trans cs6
   refine hK.out (fun _ => ⟨y3, cs6⟩) ?_
   clear hK K
   try simp only [Act.put, pu]
   refine ur 14 rfl (by kernel_rfl) (fun K hK => ?_)
   go_simp
   go_at_call 85
   refine (impl_Repeats (-1) s.length W0.heap.size _ hN1 (by omega)).mono ?_
   rintro e w7 ⟨v7, rfl, o7, hb7'⟩
   have hb7 : Below W0.heap.size W0 w7 := bl_trans hbW1 hb7'
   replace o7 := own_mono o7 hbW1.size
   obtain ⟨B7, d7, rfl⟩ := own_slice o7
   have HO7 := Lib.hid o7
   clear hb7' o7
   have HK7 := Lib.hid (AsyK.up HKW.out hb7)
   have HF7 := Lib.hid (HFW.out.below hb7)
   have hbB7 : Below base w w7 := hbW.trans (hb7.mono hlW)
   replace y3 := (hb7.cell (p := ⟨P, 3, none⟩) (by show P < W0.heap.size; omega)).trans y30
   clear cs6
   obtain ⟨cs6, fs6⟩ := HK7.out.sCell HES.out hks
   rw [HEK.out] at cs6
   refine hK.out (fun _ => ⟨y3, cs6⟩) ?_
   clear hK K
   try simp only [Act.put, pu]
   refine utf 15 99 ?_
   refine ur 16 rfl (by kernel_rfl) (fun K hK => ?_)
   go_simp
   obtain ⟨w8, hw8, -, -, -⟩ := setE w7 gs k (.slice B7 s.length d7)
   rw [← hw8]
   have hK8 : AsyK w8 base (upd val (.sl k) (.slice B7 s.length d7)) { rounds := x.rounds.set k (r + 1), before := x.before.set k (sq : Int), now := x.now.set k (nextS m (sq : Int) s), slots := x.slots.set k (List.replicate s.length (-1)), flight := x.flight } := by
    rw [hw8]
    exact AsyK.newSlots HKW.out hks HES.out (grown_below hb7) (by rw [List.length_replicate]; exact own_mono HO7.out hlW) (fresh_of HO7.out)
   have hbB8 : Below base w w8 := by rw [hw8]; exact hbB7.setCell (p := ⟨gs, k, none⟩) hgs1 _
   have HF8 := Lib.hid (show Frame val x w w8 by rw [hw8]; exact HF7.out.set .s trivial (by rw [HES.out]; rfl) k _)
   have HK8 := Lib.hid hK8
   clear hw8 hK8
   refine hK.out (fun h' => till_no h' (by kernel_rfl)) ?_
   clear hK K
   try simp only [Act.put, pu]
   refine wpTill_done (by kernel_rfl) ?_ _
   go_wp2_with fail
   have hf : Frame val x w w8 := HF8.out
   have hne := HKB.out.ne_upd (y := { rounds := x.rounds.set k (r + 1), before := x.before.set k (sq : Int), now := x.now.set k (nextS m (sq : Int) s), slots := x.slots.set k (List.replicate s.length (-1)), flight := x.flight }) (fun j hj => keyOf_of (x := x) (y := { rounds := x.rounds.set k (r + 1), before := x.before.set k (sq : Int), now := x.now.set k (nextS m (sq : Int) s), slots := x.slots.set k (List.replicate s.length (-1)), flight := x.flight }) (by simp) rfl (fun _ _ => rfl) hj) (.sl k) (v := .slice B7 s.length d7) (ne_fresh (fresh_of HO7.out) (by omega))
   have hfin : AsyB w8 base (upd val (.sl k) (.slice B7 s.length d7)) (stepA m x k) P := by
    rw [HSG.out]
    exact HKB.out.after hf HK8.out ⟨upd_ne _ _ (by simp), upd_ne _ _ (by simp), upd_ne _ _ (by simp), upd_ne _ _ (by simp), upd_ne _ _ (by simp)⟩ hne
   exact bodyPost_ret (v := .tuple #[]) (by simp [results, Tryz.results64, go_sem]) rfl ⟨rfl, by first | exact hbB8 | exact hbB8.drew | exact hbB8.drew.drew | exact hbB8.drew.drew.drew, by first | exact hf | exact hf.drew | exact hf.drew.drew | exact hf.drew.drew.drew, upd val (.sl k) (.slice B7 s.length d7), ⟨upd_ne _ _ (by simp), upd_ne _ _ (by simp), upd_ne _ _ (by simp), upd_ne _ _ (by simp), upd_ne _ _ (by simp)⟩, hfin⟩
 ·
  have d0 : decide (o < 0) = false := decide_eq_false ho0
  have HN2 := Lib.hid (show nextS m (sq : Int) s = (sq : Int) by rw [HNX.out, if_neg (fun h => ho0 h.2)])
  obtain ⟨w5, hw5⟩ : ∃ z, z = w3.drew.drew := ⟨_, rfl⟩
  rw [← hw5]
  have HKX := Lib.hid (show AsyK w5 base val { rounds := x.rounds, before := x.before.set k (sq : Int), now := x.now.set k (nextS m (sq : Int) s), slots := x.slots, flight := x.flight } by rw [HN2.out, set_self HSN.out, hw5]; exact HK3.out.drew.drew)
  have hbBX : Below base w w5 := by rw [hw5]; exact hbB3.drew.drew
  have HFX := Lib.hid (show Frame val x w w5 by rw [hw5]; exact HF3.out.drew.drew)
  have e5 : ∀ b : Nat, w5.heap[b]? = w3.heap[b]? := fun b => by rw [hw5]; rfl
  have z5 : w5.heap.size = w3.heap.size := by rw [hw5]; rfl
  replace HM := Lib.hid ((e5 _).trans HM.out)
  replace HY := Lib.hid ((e5 _).trans HY.out)
  clear g0 g1 g2 g3 g4 g5 g6 gf y0 y1 y2 y3 y4 yf
  obtain ⟨⟨g0, g1, g2⟩, ⟨g3, g4, g5, g6⟩, gf⟩ := cells7 HM
  obtain ⟨⟨y0, y1, y2⟩, ⟨y3, y4⟩, yf⟩ := cells5 HY
  clear cs3 cn3 co3 e5 hw5
  obtain ⟨cr6, fr6⟩ := HKX.out.rCell HER.out HAT.out.hr
  have hW6 := hbBX.size
  have hwr : IntKind.i64.wrap (r + 1) = r + 1 := IntWalk.i64_in _ (by omega)
  go_wp2_with fail
  obtain ⟨w6, hw6, hkw6, hzw6a, hzw6b⟩ := setE w5 gr k (.int .i64 (r + 1))
  rw [← hw6]
  replace HM := Lib.hid ((hkw6 w.heap.size (by omega)).trans HM.out)
  replace HY := Lib.hid ((hkw6 P (by omega)).trans HY.out)
  clear hkw6
  clear g0 g1 g2 g3 g4 g5 g6 gf y0 y1 y2 y3 y4 yf
  obtain ⟨⟨g0, g1, g2⟩, ⟨g3, g4, g5, g6⟩, gf⟩ := cells7 HM
  obtain ⟨⟨y0, y1, y2⟩, ⟨y3, y4⟩, yf⟩ := cells5 HY
  have hK6 : AsyK w6 base val { rounds := x.rounds.set k (r + 1), before := x.before.set k (sq : Int), now := x.now.set k (nextS m (sq : Int) s), slots := x.slots, flight := x.flight } := by rw [hw6]; exact AsyK.setRounds HKX.out HER.out k _
  have hbB6 : Below base w w6 := by rw [hw6]; exact hbBX.setCell (p := ⟨gr, k, none⟩) hgr1 _
  have HF6 := Lib.hid (show Frame val x w w6 by rw [hw6]; exact HFX.out.set .r trivial (by rw [HER.out]; rfl) k _)
  have HK6 := Lib.hid hK6
  clear hw6 hK6 cr6 fr6
  have cs6 := (HK6.out.sCell HES.out hks).1
  rw [HEK.out] at cs6
  refine till_region (S := fun w' => w'.cell? ⟨P, 3, none⟩ = some (.slice (some ⟨gs, 0, none⟩) x.slots.length cs) ∧ w'.cell? ⟨gs, k, none⟩ = some (.slice Ak s.length ck)) (st := 16) (by kernel_rfl) ⟨y3, cs6⟩ (fun hHeld => ?_)
  obtain ⟨W0, hW0⟩ : ∃ z, z = w6.drew := ⟨_, rfl⟩
  rw [← hW0]
  replace y3 : W0.cell? ⟨P, 3, none⟩ = some (.slice (some ⟨gs, 0, none⟩) x.slots.length cs) := by rw [hW0]; exact y3
  replace cs6 : W0.cell? ⟨gs, k, none⟩ = some (.slice Ak s.length ck) := by rw [hW0]; exact cs6
  have HKW := Lib.hid (show AsyK W0 base val { rounds := x.rounds.set k (r + 1), before := x.before.set k (sq : Int), now := x.now.set k (nextS m (sq : Int) s), slots := x.slots, flight := x.flight } by rw [hW0]; exact HK6.out.drew)
  have hbW : Below base w W0 := by rw [hW0]; exact hbB6.drew
  have hzW : w6.heap.size = W0.heap.size := by rw [hW0]; rfl
  have hlW : base ≤ W0.heap.size := by have := hbW.size; omega
  have HFW := Lib.hid (show Frame val x w W0 by rw [hW0]; exact HF6.out.drew)
  have y30 := y3
  clear hW0 hHeld
  refine utf 0 84 ?_
  refine utf 1 85 ?_
  refine utf 2 86 ?_
  refine utk 3 87 ?_
  refine utf 4 88 ?_
  refine utf 6 90 ?_
  refine utf 7 91 ?_
  refine utf 8 92 ?_
  refine utk 9 93 ?_
  refine utf 10 94 ?_
  refine utf 11 95 ?_
  refine utk 12 96 ?_
  refine utf 13 97 ?_
  refine ur 5 rfl (by kernel_rfl) (fun K hK => ?_)
  go_simp
  obtain ⟨W1, hW1⟩ : ∃ z, z = W0.alloc (.cells #[.int .i64 (-1)] 3) := ⟨_, rfl⟩
  rw [← hW1]
  have hbW1 : Below W0.heap.size W0 W1 := by rw [hW1]; exact bl_alloc (Below.refl _ _) _
  have hN1 : NumsAt W1 W0.heap.size [-1] := by rw [hW1]; exact heap_alloc_new W0 _
  clear hW1
  replace y3 := (hbW1.cell (p := ⟨P, 3, none⟩) (by show P < W0.heap.size; omega)).trans y3
  replace cs6 := (hbW1.cell (p := ⟨gs, k, none⟩) (by show gs < W0.heap.size; omega)).trans cs6
  refine hK.out (fun _ => ⟨y3, cs6⟩) ?_
  clear hK K
  try simp only [Act.put, pu]
  refine ur 14 rfl (by kernel_rfl) (fun K hK => ?_)
  go_simp
  go_at_call 85
  refine (impl_Repeats (-1) s.length W0.heap.size _ hN1 (by omega)).mono ?_
  rintro e w7 ⟨v7, rfl, o7, hb7'⟩
  have hb7 : Below W0.heap.size W0 w7 := bl_trans hbW1 hb7'
  replace o7 := own_mono o7 hbW1.size
  obtain ⟨B7, d7, rfl⟩ := own_slice o7
  have HO7 := Lib.hid o7
  clear hb7' o7
  have HK7 := Lib.hid (AsyK.up HKW.out hb7)
  have HF7 := Lib.hid (HFW.out.below hb7)
  have hbB7 : Below base w w7 := hbW.trans (hb7.mono hlW)
  replace y3 := (hb7.cell (p := ⟨P, 3, none⟩) (by show P < W0.heap.size; omega)).trans y30
  clear cs6
  obtain ⟨cs6, fs6⟩ := HK7.out.sCell HES.out hks
  rw [HEK.out] at cs6
  refine hK.out (fun _ => ⟨y3, cs6⟩) ?_
  clear hK K
  try simp only [Act.put, pu]
  refine utf 15 99 ?_
  refine ur 16 rfl (by kernel_rfl) (fun K hK => ?_)
  go_simp
  obtain ⟨w8, hw8, -, -, -⟩ := setE w7 gs k (.slice B7 s.length d7)
  rw [← hw8]
  have hK8 : AsyK w8 base (upd val (.sl k) (.slice B7 s.length d7)) { rounds := x.rounds.set k (r + 1), before := x.before.set k (sq : Int), now := x.now.set k (nextS m (sq : Int) s), slots := x.slots.set k (List.replicate s.length (-1)), flight := x.flight } := by
   rw [hw8]
   exact AsyK.newSlots HKW.out hks HES.out (grown_below hb7) (by rw [List.length_replicate]; exact own_mono HO7.out hlW) (fresh_of HO7.out)
  have hbB8 : Below base w w8 := by rw [hw8]; exact hbB7.setCell (p := ⟨gs, k, none⟩) hgs1 _
  have HF8 := Lib.hid (show Frame val x w w8 by rw [hw8]; exact HF7.out.set .s trivial (by rw [HES.out]; rfl) k _)
  have HK8 := Lib.hid hK8
  clear hw8 hK8
  refine hK.out (fun h' => till_no h' (by kernel_rfl)) ?_
  clear hK K
  try simp only [Act.put, pu]
  refine wpTill_done (by kernel_rfl) ?_ _
  go_wp2_with fail
  have hf : Frame val x w w8 := HF8.out
  have hne := HKB.out.ne_upd (y := { rounds := x.rounds.set k (r + 1), before := x.before.set k (sq : Int), now := x.now.set k (nextS m (sq : Int) s), slots := x.slots.set k (List.replicate s.length (-1)), flight := x.flight }) (fun j hj => keyOf_of (x := x) (y := { rounds := x.rounds.set k (r + 1), before := x.before.set k (sq : Int), now := x.now.set k (nextS m (sq : Int) s), slots := x.slots.set k (List.replicate s.length (-1)), flight := x.flight }) (by simp) rfl (fun _ _ => rfl) hj) (.sl k) (v := .slice B7 s.length d7) (ne_fresh (fresh_of HO7.out) (by omega))
  have hfin : AsyB w8 base (upd val (.sl k) (.slice B7 s.length d7)) (stepA m x k) P := by
   rw [HSG.out]
   exact HKB.out.after hf HK8.out ⟨upd_ne _ _ (by simp), upd_ne _ _ (by simp), upd_ne _ _ (by simp), upd_ne _ _ (by simp), upd_ne _ _ (by simp)⟩ hne
  exact bodyPost_ret (v := .tuple #[]) (by simp [results, Tryz.results64, go_sem]) rfl ⟨rfl, by first | exact hbB8 | exact hbB8.drew | exact hbB8.drew.drew | exact hbB8.drew.drew.drew, by first | exact hf | exact hf.drew | exact hf.drew.drew | exact hf.drew.drew.drew, upd val (.sl k) (.slice B7 s.length d7), ⟨upd_ne _ _ (by simp), upd_ne _ _ (by simp), upd_ne _ _ (by simp), upd_ne _ _ (by simp), upd_ne _ _ (by simp)⟩, hfin⟩
end Go.Proofs.YtehkcodbcnhhoaaGreat
