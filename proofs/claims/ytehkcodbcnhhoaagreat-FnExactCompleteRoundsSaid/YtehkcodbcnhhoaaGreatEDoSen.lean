/-
  A letter is sent, the program's side: doAsync at AcSend.
-/
import Derived.Test.YtehkcodbcnhhoaaGreatEDoSte
namespace Go.Proofs.YtehkcodbcnhhoaaGreat
open Go.RowKit
set_option linter.all false
set_option maxRecDepth 100000 in
set_option maxHeartbeats 4000000 in
theorem impl_doSend (vs ve vc vo : Value) (m : Mach) (ne ni nn : Value) (n : Net) (val : Key → Value) (x : Asy) (base k : Nat) (l : Ends) (s : List Int) (f : List Ends) (r : Int) (p : Nat) (ls : Ends) (k2 p2 : Nat) (l2 : Ends) (s2 : List Int) (f2 : List Ends) (r2 : Int) (ls2 : Ends) (aa : Int) (P : Nat) (w : World)
  (hm : MachR w base vs ve vc vo m) (hn : NetR w base ne ni nn n) (hKB : AsyB w base val x P) (hbase : base ≤ w.heap.size) (hg : goodP m n x) (hat : AtP n x k l s f r) (hp : f[p]? = some ls) (he : l[p]? = some ((k2 : Int), (p2 : Int))) (hat2 : AtP n x k2 l2 s2 f2 r2) (hp2 : f2[p2]? = some ls2) (hok : okN aa r ls2 = true) :
  Calls Tryz.prog 64 #[machV vs ve vc vo m, .agg #[ne, ni, nn], .pointer (some ⟨P, 0, none⟩), .agg #[.int .i64 1, .int .i64 k, .int .i64 p, .int .i64 aa]] w (DoPost w base val x (sentA m x k p k2 p2 aa) P) := by
 have hK := hKB.k
 have HKB := Lib.hid hKB
 have hP := hKB.lt
 unfold machV
 have hfit := hg.1
 have ha := hg.2
 have hmp := hfit.1
 have hkn := hat.lt
 have hkr := (List.getElem?_eq_some_iff.1 hat.hr).1
 have hkf2 := (List.getElem?_eq_some_iff.1 hat2.hf).1
 have hkb : k < x.before.length := by have := ha.2.1.1; omega
 have hkw : k < x.now.length := by have := ha.2.2.1.1; omega
 have hpl2 := (List.getElem?_eq_some_iff.1 hp2).1
 have hpl := hat.lp hp
 have h12 := hat2.ls ls2 (List.mem_of_getElem? hp2)
 have hr0 := hat.r0
 obtain ⟨bn, hbn⟩ : ∃ y, x.before[k]? = some y := ⟨_, List.getElem?_eq_getElem hkb⟩
 obtain ⟨sn, hsn⟩ : ∃ y, x.now[k]? = some y := ⟨_, List.getElem?_eq_getElem hkw⟩
 have hsb := ha.2.2.1.2 sn (List.mem_of_getElem? hsn)
 have hbb := ha.2.1.2 bn (List.mem_of_getElem? hbn)
 have hsl := hmp.2.1.2.1
 obtain ⟨sq, rfl⟩ : ∃ sq : Nat, sn = sq := ⟨sn.toNat, by omega⟩
 obtain ⟨bq, rfl⟩ : ∃ bq : Nat, bn = bq := ⟨bn.toNat, by omega⟩
 have hsq : sq < m.send.length := by omega
 have hbq : bq < m.send.length := by omega
 have hdeg := hfit.2.2.1 l (List.mem_of_getElem? hat.hl)
 obtain ⟨ts, hts⟩ : ∃ y, m.send[sq]? = some y := ⟨_, List.getElem?_eq_getElem hsq⟩
 obtain ⟨tb, htb⟩ : ∃ y, m.send[bq]? = some y := ⟨_, List.getElem?_eq_getElem hbq⟩
 have hts1 := (hmp.2.2.2.2.1 ts (List.mem_of_getElem? hts)).1
 have htb1 := (hmp.2.2.2.2.1 tb (List.mem_of_getElem? htb)).1
 have hpts : p < ts.length := by omega
 have hptb : p < tb.length := by omega
 obtain ⟨ms, hms⟩ : ∃ y, ts[p]? = some y := ⟨_, List.getElem?_eq_getElem hpts⟩
 obtain ⟨mb, hmb⟩ : ∃ y, tb[p]? = some y := ⟨_, List.getElem?_eq_getElem hptb⟩
 have hlp4 : p < l.length := by omega
 have HSA0 := Lib.hid (show sentA m x k p k2 p2 0 = { x with flight := x.flight.set k2 ((portsAt x k2).set p2 (ls2 ++ [(r, ms)])) } by
  unfold sentA
  rw [lettersAt_eq hat2.hf hp2, List.getD_eq_getElem?_getD (l := x.rounds), List.getD_eq_getElem?_getD (l := x.now), hat.hr, hsn, if_neg (by decide)]
  simp only [Option.getD_some, Int.toNat_natCast, List.getD_eq_getElem?_getD, hts, hms, Int.sub_zero])
 have HSA1 := Lib.hid (show sentA m x k p k2 p2 1 = { x with flight := x.flight.set k2 ((portsAt x k2).set p2 (ls2 ++ [(r - 1, mb)])) } by
  unfold sentA
  rw [lettersAt_eq hat2.hf hp2, List.getD_eq_getElem?_getD (l := x.rounds), List.getD_eq_getElem?_getD (l := x.before), hat.hr, hbn, if_pos rfl]
  simp only [Option.getD_some, Int.toNat_natCast, List.getD_eq_getElem?_getD, htb, hmb])
 have HPA := Lib.hid (portsAt_eq hat2.hf)
 obtain ⟨gr, cr, er, -, -, hgr1, hgr2⟩ := own_some2 (hK.own .r trivial) (show 0 < x.rounds.length by omega)
 obtain ⟨gb, cb, eb, -, -, hgb1, hgb2⟩ := own_some2 (hK.own .b trivial) (show 0 < x.before.length by omega)
 obtain ⟨gn, cn, en, -, -, hgn1, hgn2⟩ := own_some2 (hK.own .n trivial) (show 0 < x.now.length by omega)
 obtain ⟨gx, cf, ef, -, -, hgf1, hgf2⟩ := own_some2 (hK.own .f trivial) (show 0 < x.flight.length by omega)
 obtain ⟨As, cs, es⟩ := own_sl1 (hK.own .s trivial)
 replace er : val .r = .slice (some ⟨gr, 0, none⟩) x.rounds.length cr := er
 replace eb : val .b = .slice (some ⟨gb, 0, none⟩) x.before.length cb := eb
 replace en : val .n = .slice (some ⟨gn, 0, none⟩) x.now.length cn := en
 replace ef : val .f = .slice (some ⟨gx, 0, none⟩) x.flight.length cf := ef
 replace es : val .s = .slice As x.slots.length cs := es
 obtain ⟨gq0, cq0, eq0', -, -, hgq01, hgq02⟩ := own_some2 (AsyK.frOwn hK hat.hf) (by have := hat.lp hp; have := hat.fl; omega)
 have HEQ0 := Lib.hid eq0'
 obtain ⟨gq, cq, eq2, -, -, hgq1, hgq2⟩ := own_some2 (AsyK.frOwn hK hat2.hf) (by omega)
 have hol := AsyK.leOwn hK hat2.hf hp2
 obtain ⟨Al, cl, el⟩ := own_sl1 hol
 have hlt := hol.lt
 have hkle : keyOf x (.le k2 p2) := ⟨hkf2, by rw [portsAt_eq hat2.hf]; exact hpl2⟩
 have sp : ∀ (i : Key) (g : Nat), keyOf x i → i ≠ .le k2 p2 → (val i).ownBlock = some g → ∀ g', (val (.le k2 p2)).ownBlock = some g' → g' ≠ g := fun i g hi hne h1 g' h2 e => by
  rcases hK.sep i (.le k2 p2) hi hkle hne with h | h
  ·
   rw [h1] at h; cases h
  ·
   exact h (by rw [h1, h2, e])
 have nr := sp .r gr trivial (by simp) (by rw [er]; rfl)
 have nb := sp .b gb trivial (by simp) (by rw [eb]; rfl)
 have nw := sp .n gn trivial (by simp) (by rw [en]; rfl)
 have nf := sp .f gx trivial (by simp) (by rw [ef]; rfl)
 have nq := sp (.fr k2) gq hkf2 (by simp) (by rw [eq2]; rfl)
 have npn : ∀ g', (val (.le k2 p2)).ownBlock = some g' → g' ≠ P := fun g' h e => hKB.ne (.le k2 p2) hkle (by rw [h, e])
 clear sp
 rw [el] at hlt nr nb nw nf nq npn
 have HOL := Lib.hid hol
 have HLT := Lib.hid hlt
 have HNR := Lib.hid nr
 have HNB := Lib.hid nb
 have HNW := Lib.hid nw
 have HNF := Lib.hid nf
 have HNQ := Lib.hid nq
 have HPN := Lib.hid npn
 have hms0 := hm.s.isSlice1
 have hmc0 := hm.c.isSlice
 have hmo0 := hm.o.isSlice
 have hme0 := hm.e.open_
 obtain ⟨A0, m0, c0, rfl⟩ := hms0
 obtain ⟨A2, m2, c2, rfl⟩ := hmc0
 obtain ⟨A3, m3, c3, rfl⟩ := hmo0
 obtain ⟨A1, c1, rfl, hc1, hm1, hr1⟩ := hme0
 obtain ⟨ad1, rfl, ha1, hrow1⟩ := hr1 (by omega)
 obtain ⟨us, hus, hzs⟩ := hrow1 sq ts hts
 obtain ⟨ub, hub, hzb⟩ := hrow1 bq tb htb
 obtain ⟨As', cs', rfl, -, hcs', hrs'⟩ := hzs.open_
 obtain ⟨Ab', cb', rfl, -, hcb', hrb'⟩ := hzb.open_
 obtain ⟨ads, rfl, hads, hrws⟩ := hrs' (by omega)
 obtain ⟨adb, rfl, hadb, hrwb⟩ := hrb' (by omega)
 have hus2 := hrws p ms hms
 have hub2 := hrwb p mb hmb
 have hne := hn.e
 obtain ⟨A4, c4, rfl, hc4, hM4, hr4⟩ := hne
 obtain ⟨⟨-, -, -, -⟩, ⟨A5, m5, c5, rfl⟩, A6, m6, c6, rfl⟩ := hn.slices
 obtain ⟨ad4, rfl, ha4, hrow4⟩ := hr4 (by omega)
 obtain ⟨u4, hu4, hz4⟩ := hrow4 k l hat.hl
 obtain ⟨B4, d4, rfl, hd4, hD4, -, hrl⟩ := hz4
 obtain ⟨b4, o4, rfl, hb4, hrowl⟩ := hrl (by omega)
 obtain ⟨hu40, hu41⟩ := hrowl p _ he
 unfold maxLen at hm1 hcs' hcb' hM4 hD4
 have HAT := Lib.hid hat
 have HAT2 := Lib.hid hat2
 have HP2L := Lib.hid hp2
 have HBN := Lib.hid hbn
 have HSN := Lib.hid hsn
 have HER := Lib.hid er
 have HEB := Lib.hid eb
 have HEN := Lib.hid en
 have HEF := Lib.hid ef
 have HEQ := Lib.hid eq2
 have HEL := Lib.hid el
 have HC4 := Lib.hid hu4
 have HC40 := Lib.hid hu40
 have HC41 := Lib.hid hu41
 have HCS := Lib.hid (And.intro hus hus2)
 have HCB := Lib.hid (And.intro hub hub2)
 have hbx := hKB.box
 rw [er, eb, en, es, ef] at hbx
 have HY := Lib.hid hbx
 have hPq : P ≠ gq := fun e => hKB.ne (.fr k2) hkf2 (by rw [eq2, e]; rfl)
 have hpf := (List.getElem?_eq_some_iff.1 hp).1
 have hkf := (List.getElem?_eq_some_iff.1 hat.hf).1
 clear er eb en ef es eq2 el hol nr nb nw nf nq npn hbx eq0' hm hn hg hfit ha hmp hat hat2 hp hp2 he hbn hsn hts htb hms hmb hr1 hrow1 hus hub hus2 hub2 hzs hzb hrs' hrb' hrws hrwb hr4 hrow4 hu4 hrl hrowl hu40 hu41 hlt hts1 htb1 hsl hsb hbb
 obtain ⟨w0, hw0, hb0, HM, hz0, HS0⟩ := box7 w (.int .i64 m.deg) (.int .i64 m.st) (.int .i64 m.msg) (.slice A0 m0 c0) (.slice (some ad1) m.send.length c1) (.slice A2 m2 c2) (.slice A3 m3 c3) 39
 obtain ⟨w1, hw1, hb1, HD, hz1, HS1⟩ := box3 w0 (.slice (some ad4) n.es.length c4) (.slice A5 m5 c5) (.slice A6 m6 c6) 43
 replace HM := bk HM hb1
 obtain ⟨w2, hw2, hb2, HA, hz2, HS2⟩ := box4a w1 (.int .i64 1) (.int .i64 (k : Int)) (.int .i64 (p : Int)) (.int .i64 aa) 69
 replace HM := bk HM hb2
 replace HD := bk HD hb2
 have hB : Below w.heap.size w w2 := bl_trans (bl_trans (hb0) hb1) hb2
 have HW := Lib.hid (show w2 = ((w.alloc (.cells #[.int .i64 m.deg, .int .i64 m.st, .int .i64 m.msg, .slice A0 m0 c0, .slice (some ad1) m.send.length c1, .slice A2 m2 c2, .slice A3 m3 c3] 39)).alloc (.cells #[.slice (some ad4) n.es.length c4, .slice A5 m5 c5, .slice A6 m6 c6] 43)).alloc (.cells #[.int .i64 1, .int .i64 (k : Int), .int .i64 (p : Int), .int .i64 aa] 69) by rw [hw2, hw1, hw0])
 obtain ⟨P1, hP1⟩ : ∃ z, z = w0.heap.size := ⟨_, rfl⟩
 have HP1 := Lib.hid (show w.heap.size + 1 = P1 by rw [hP1, HS0.out])
 have hPl1 : w.heap.size < P1 := by rw [← HP1.out]; omega
 rw [← hP1] at HD hz1
 obtain ⟨P2, hP2⟩ : ∃ z, z = w1.heap.size := ⟨_, rfl⟩
 have HP2 := Lib.hid (show w.heap.size + 1 + 1 = P2 by rw [hP2, HS1.out, HS0.out])
 have hPl2 : w.heap.size < P2 := by rw [← HP2.out]; omega
 rw [← hP2] at HA hz2
 obtain ⟨⟨g0, g1, g2⟩, ⟨g3, g4, g5, g6⟩, gf⟩ := cells7 HM
 obtain ⟨q0, q1, q2, qf⟩ := cells3 HD
 obtain ⟨⟨u0, u1⟩, ⟨u2, u3⟩, uf⟩ := cells4a HA
 have eg0 := g0
 have eg1 := g1
 have eg2 := g2
 have eg3 := g3
 have eg4 := g4
 have eg5 := g5
 have eg6 := g6
 have eq0 := q0
 have eq1 := q1
 have eq2 := q2
 have eu0 := u0
 have eu1 := u1
 have eu2 := u2
 have eu3 := u3
 rw [HW.out] at eg0 eg1 eg2 eg3 eg4 eg5 eg6 eq0 eq1 eq2 eu0 eu1 eu2 eu3
 rw [← HP1.out] at eq0 eq1 eq2
 rw [← HP2.out] at eu0 eu1 eu2 eu3
 have hzb0 : w.heap.size < w2.heap.size := by omega
 have hzb1 : P1 < w2.heap.size := by omega
 have hzb2 : P2 < w2.heap.size := by omega
 have HR := True.intro
 have HN := True.intro
 clear hw2 hw1 hw0 hP1 hP2
 have hbB : Below base w w2 := hB.mono hbase
 have HFR := Lib.hid (Frame.of (val := val) (x := x) hB)
 have HK1 := Lib.hid (AsyK.up hK hB)
 replace HY := bk (bk (bk HY hb0) hb1) hb2
 obtain ⟨⟨y0, y1, y2⟩, ⟨y3, y4⟩, yf⟩ := cells5 HY
 clear HR HN hK hKB
 have h01 : aa = 0 ∨ aa = 1 := by
  unfold okN at hok
  rw [Bool.and_eq_true, Bool.and_eq_true, decide_eq_true_iff, decide_eq_true_iff, decide_eq_true_iff] at hok
  omega
 have hl11 : ls2.length < 12 := by
  unfold okN at hok
  rw [Bool.and_eq_true, Bool.and_eq_true, decide_eq_true_iff, decide_eq_true_iff, decide_eq_true_iff] at hok
  omega
 have hra : aa ≤ r := by
  unfold okN at hok
  rw [Bool.and_eq_true, Bool.and_eq_true, decide_eq_true_iff, decide_eq_true_iff, decide_eq_true_iff] at hok
  omega
 clear hok
 by_cases h1 : aa = 1
 ·
  subst h1
  go_enter Tryz.func64, Tryz.ntmps64
  go_wp2_with fail
  rw [HP2.out, HP1.out, ← HW.out]
  clear eg0 eg1 eg2 eg3 eg4 eg5 eg6 eq0 eq1 eq2 eu0 eu1 eu2 eu3
  have hcf0 := (HK1.out.fCell HEF.out hkf).1
  rw [HEQ0.out] at hcf0
  refine wp_region_held_drew (S := fun w' => w'.cell? ⟨P, 4, none⟩ = some (.slice (some ⟨gx, 0, none⟩) x.flight.length cf) ∧ w'.cell? ⟨gx, k, none⟩ = some (.slice (some ⟨gq0, 0, none⟩) f.length cq0) ∧ w'.cell? ⟨P2, 2, none⟩ = some (.int .i64 (p : Int))) (by kernel_rfl) ?_ (fun hHeld => ?_)
  ·
   go_keep
  refine stk 0 100 ?_
  refine stk 1 101 ?_
  refine stk 2 102 ?_
  refine stk 3 103 ?_
  refine stk 4 104 ?_
  refine stk 5 105 ?_
  refine stk 6 106 ?_
  refine stk 7 107 ?_
  refine stk 8 108 ?_
  refine stk 9 109 ?_
  refine stk 10 10 ?_
  refine wpAnyH_done (by kernel_rfl) ?_ _
  go_wp2_with fail
  have hc4' := (hbB.cell (p := ad4.add k) (by rw [block_add]; exact ha4)).trans HC4.out
  have hc40 := (hbB.cell (p := ⟨b4, o4 + p * 2, none⟩) hb4).trans HC40.out
  have hc41 := (hbB.cell (p := ⟨b4, o4 + p * 2 + 1, none⟩) hb4).trans HC41.out
  refine wp_region_held_drew (S := fun w' => w'.cell? ⟨P1, 0, none⟩ = some (.slice (some ad4) n.es.length c4) ∧ w'.cell? ⟨P2, 2, none⟩ = some (.int .i64 (p : Int)) ∧ w'.cell? (ad4.add k) = some (.slice (some ⟨b4, o4, none⟩) l.length d4) ∧ w'.cell? ⟨b4, o4 + p * 2, none⟩ = some (.int .i64 (k2 : Int)) ∧ w'.cell? ⟨b4, o4 + p * 2 + 1, none⟩ = some (.int .i64 (p2 : Int))) (by kernel_rfl) ?_ (fun hHeld => ?_)
  ·
   go_keep
  refine stk 0 114 ?_
  refine stk 1 115 ?_
  refine stk 2 116 ?_
  refine stk 3 117 ?_
  refine stk 4 118 ?_
  refine stk 5 119 ?_
  refine stk 6 120 ?_
  refine stk 7 121 ?_
  refine stk 8 122 ?_
  refine tr 9 rfl (by kernel_rfl) (fun K hK => ?_)
  go_simp
  have v0 := Lib.cell?_alloc_some (.cells #[.int .i64 0, .int .i64 0] 106) q0
  have v1 := Lib.cell?_alloc_some (.cells #[.int .i64 0, .int .i64 0] 106) u2
  have v2 := Lib.cell?_alloc_some (.cells #[.int .i64 0, .int .i64 0] 106) hc4'
  have v3 := Lib.cell?_alloc_some (.cells #[.int .i64 0, .int .i64 0] 106) hc40
  have v4 := Lib.cell?_alloc_some (.cells #[.int .i64 0, .int .i64 0] 106) hc41
  refine hK.out _ _ ?_ (fun hHeld => ?_)
  ·
   go_keep
  clear hK K
  try simp only [Act.put, pu]
  refine tr 10 rfl (by kernel_rfl) (fun K hK => ?_)
  go_simp
  clear v0 v1 v2 v3 v4
  have v0 := Lib.cell?_alloc_some (.cells #[.int .i64 (k2 : Int), .int .i64 (p2 : Int)] 106) q0
  have v1 := Lib.cell?_alloc_some (.cells #[.int .i64 (k2 : Int), .int .i64 (p2 : Int)] 106) u2
  have v2 := Lib.cell?_alloc_some (.cells #[.int .i64 (k2 : Int), .int .i64 (p2 : Int)] 106) hc4'
  have v3 := Lib.cell?_alloc_some (.cells #[.int .i64 (k2 : Int), .int .i64 (p2 : Int)] 106) hc40
  have v4 := Lib.cell?_alloc_some (.cells #[.int .i64 (k2 : Int), .int .i64 (p2 : Int)] 106) hc41
  refine hK.out _ _ ?_ (fun hHeld => ?_)
  ·
   go_keep
  clear hK K
  try simp only [Act.put, pu]
  refine wpAnyH_done (by kernel_rfl) ?_ _
  obtain ⟨wv, hwv, hb7, HB7, hzv, HSV⟩ := box2 w2 (.int .i64 (k2 : Int)) (.int .i64 (p2 : Int)) 106
  obtain ⟨P4, hP4⟩ : ∃ z, z = w2.heap.size := ⟨_, rfl⟩
  have hP4w : w.heap.size < P4 := by rw [hP4]; omega
  rw [← hwv]
  rw [← hP4] at HB7 hzv ⊢
  clear v0 v1 v2 v3 v4 hc4' hc40 hc41 hwv hP4 hcf0 y0 y1 y2 y3 y4 yf
  have hzhb7 := hb7.size
  clear g0 g1 g2 g3 g4 g5 g6 gf q0 q1 q2 qf u0 u1 u2 u3 uf
  replace HM := bk HM hb7
  replace HD := bk HD hb7
  replace HA := bk HA hb7
  replace hB := bl_trans hB hb7
  obtain ⟨⟨g0, g1, g2⟩, ⟨g3, g4, g5, g6⟩, gf⟩ := cells7 HM
  obtain ⟨q0, q1, q2, qf⟩ := cells3 HD
  obtain ⟨⟨u0, u1⟩, ⟨u2, u3⟩, uf⟩ := cells4a HA
  replace HY := bk HY hb7
  obtain ⟨⟨y0, y1, y2⟩, ⟨y3, y4⟩, yf⟩ := cells5 HY
  obtain ⟨z0, z1, zf⟩ := cells2 HB7
  have hbE : Below base w wv := hB.mono hbase
  have HFE := Lib.hid (HFR.out.below hb7)
  have HKV := Lib.hid (AsyK.up HK1.out hb7)
  have hcr := (HKV.out.rCell HER.out HAT.out.hr).1
  have hcf := (HKV.out.fCell HEF.out (List.getElem?_eq_some_iff.1 HAT2.out.hf).1).1
  rw [HEQ.out] at hcf
  have hcq := (HKV.out.frCell HAT2.out.hf HEQ.out hpl2).1
  rw [HEL.out] at hcq
  have hcb := (HKV.out.bCell HEB.out HBN.out).1
  have hcn := (HKV.out.nCell HEN.out HSN.out).1
  go_wp2_with fail
  refine wp_region_held_drew (S := fun w' => w'.cell? ⟨P, 4, none⟩ = some (.slice (some ⟨gx, 0, none⟩) x.flight.length cf) ∧ w'.cell? ⟨P4, 0, none⟩ = some (.int .i64 (k2 : Int)) ∧ w'.cell? ⟨P4, 1, none⟩ = some (.int .i64 (p2 : Int)) ∧ w'.cell? ⟨gx, k2, none⟩ = some (.slice (some ⟨gq, 0, none⟩) f2.length cq)) (by kernel_rfl) ?_ (fun hHeld => ?_)
  ·
   go_keep
  refine stk 0 140 ?_
  refine stk 1 141 ?_
  refine stk 2 142 ?_
  refine stk 3 143 ?_
  refine stk 4 144 ?_
  refine stk 5 145 ?_
  refine stk 6 146 ?_
  refine stk 7 147 ?_
  refine stk 8 148 ?_
  refine stk 9 149 ?_
  refine stk 10 150 ?_
  refine stk 11 13 ?_
  refine wpAnyH_done (by kernel_rfl) ?_ _
  go_wp2_with fail
  obtain ⟨hsr0, hsm0⟩ := HCB.out
  have hsr := (hbE.cell (p := ad1.add bq) (by rw [block_add]; exact ha1)).trans hsr0
  have hsm := (hbE.cell (p := adb.add p) (by rw [block_add]; exact hadb)).trans hsm0
  clear hsr0 hsm0
  have hwr1 : IntKind.i64.wrap (r - 1) = r - 1 := IntWalk.i64_in _ (by omega)
  have hwr0 : IntKind.i64.wrap r = r := IntWalk.i64_in _ (by omega)
  have hlv : base ≤ wv.heap.size := by have := hbE.size; omega
  refine till_region (S := fun w' => w'.cell? ⟨gq, p2, none⟩ = some (.slice Al ls2.length cl) ∧ w'.cell? ⟨P, 0, none⟩ = some (.slice (some ⟨gr, 0, none⟩) x.rounds.length cr) ∧ w'.cell? ⟨gr, k, none⟩ = some (.int .i64 r) ∧ w'.cell? ⟨P2, 3, none⟩ = some (.int .i64 (1)) ∧ w'.cell? ⟨w.heap.size, 4, none⟩ = some (.slice (some ad1) m.send.length c1) ∧ w'.cell? (ad1.add bq) = some (.slice (some adb) tb.length cb') ∧ w'.cell? (adb.add p) = some (.int .i64 mb) ∧ w'.cell? ⟨P2, 2, none⟩ = some (.int .i64 (p : Int))) (st := 27) (by kernel_rfl) ⟨hcq, y0, hcr, u3, g4, hsr, hsm, u2⟩ (fun hHeld => ?_)
  obtain ⟨W0, hW0⟩ : ∃ z, z = wv.drew.drew.drew.drew := ⟨_, rfl⟩
  rw [← hW0]
  replace hcq : W0.cell? ⟨gq, p2, none⟩ = some (.slice Al ls2.length cl) := by rw [hW0]; exact hcq
  replace y0 : W0.cell? ⟨P, 0, none⟩ = some (.slice (some ⟨gr, 0, none⟩) x.rounds.length cr) := by rw [hW0]; exact y0
  replace hcr : W0.cell? ⟨gr, k, none⟩ = some (.int .i64 r) := by rw [hW0]; exact hcr
  replace u3 : W0.cell? ⟨P2, 3, none⟩ = some (.int .i64 (1)) := by rw [hW0]; exact u3
  replace g4 : W0.cell? ⟨w.heap.size, 4, none⟩ = some (.slice (some ad1) m.send.length c1) := by rw [hW0]; exact g4
  replace hsr : W0.cell? (ad1.add bq) = some (.slice (some adb) tb.length cb') := by rw [hW0]; exact hsr
  replace hsm : W0.cell? (adb.add p) = some (.int .i64 mb) := by rw [hW0]; exact hsm
  replace u2 : W0.cell? ⟨P2, 2, none⟩ = some (.int .i64 (p : Int)) := by rw [hW0]; exact u2
  have HKW := Lib.hid (show AsyK W0 base val x by rw [hW0]; exact HKV.out.drew.drew.drew.drew)
  have HOW := Lib.hid (AsyK.leOwn HKW.out HAT2.out.hf HP2L.out)
  have hbW : Below base w W0 := by rw [hW0]; exact hbE.drew.drew.drew.drew
  have hlW : base ≤ W0.heap.size := by rw [hW0]; exact hlv
  have HFW := Lib.hid (show Frame val x w W0 by rw [hW0]; exact HFE.out.drew.drew.drew.drew)
  have HQ0 := Lib.hid hcq
  have HQ1 := Lib.hid y0
  have HQ2 := Lib.hid hcr
  have HQ3 := Lib.hid u3
  have HQ4 := Lib.hid g4
  have HQ5 := Lib.hid hsr
  have HQ6 := Lib.hid hsm
  have HQ7 := Lib.hid u2
  have hgqW : gq < W0.heap.size := by rw [hW0]; show gq < wv.heap.size; omega
  have hPW : P < W0.heap.size := by rw [hW0]; show P < wv.heap.size; omega
  have HNQF := Lib.hid (fun (w6 : World) (hg6 : W0.grownBy w6 (Value.slice Al ls2.length cl).ownBlock) => (World.frozen?_of_block (a := ⟨gq, p2, none⟩) (hg6.block gq hgqW (ne_row (fun g hg => HNQ.out g hg)))).trans (HKW.out.frCell HAT2.out.hf HEQ.out hpl2).2)
  clear hW0 hHeld uf
  refine utf 0 151 ?_
  refine utf 1 152 ?_
  refine utf 2 153 ?_
  refine utk 3 154 ?_
  refine utf 4 155 ?_
  refine utf 5 156 ?_
  refine utf 6 157 ?_
  refine utk 7 158 ?_
  refine utf 8 159 ?_
  refine utf 9 160 ?_
  refine utk 10 161 ?_
  refine utf 11 162 ?_
  refine utk 12 163 ?_
  refine utf 13 164 ?_
  refine utf 14 165 ?_
  refine utk 15 166 ?_
  refine utf 16 167 ?_
  refine utf 17 168 ?_
  refine utk 18 169 ?_
  refine utf 19 170 ?_
  refine utk 20 171 ?_
  refine utf 21 172 ?_
  refine utk 22 173 ?_
  refine utf 23 174 ?_
  refine ur 24 rfl (by kernel_rfl) (fun K hK => ?_)
  go_simp
  replace hcq := Lib.cell?_alloc_some (.cells #[.int .i64 (r - 1), .int .i64 mb] 121) hcq
  replace y0 := Lib.cell?_alloc_some (.cells #[.int .i64 (r - 1), .int .i64 mb] 121) y0
  replace hcr := Lib.cell?_alloc_some (.cells #[.int .i64 (r - 1), .int .i64 mb] 121) hcr
  replace u3 := Lib.cell?_alloc_some (.cells #[.int .i64 (r - 1), .int .i64 mb] 121) u3
  replace g4 := Lib.cell?_alloc_some (.cells #[.int .i64 (r - 1), .int .i64 mb] 121) g4
  replace hsr := Lib.cell?_alloc_some (.cells #[.int .i64 (r - 1), .int .i64 mb] 121) hsr
  replace hsm := Lib.cell?_alloc_some (.cells #[.int .i64 (r - 1), .int .i64 mb] 121) hsm
  replace u2 := Lib.cell?_alloc_some (.cells #[.int .i64 (r - 1), .int .i64 mb] 121) u2
  refine hK.out (fun _ => ⟨hcq, y0, hcr, u3, g4, hsr, hsm, u2⟩) ?_
  clear hK K
  try simp only [Act.put, pu]
  refine ur 25 rfl (by kernel_rfl) (fun K hK => ?_)
  rw [if_pos (by rfl)]
  refine oper_append2 W0 (.tmp 154) (.tmp 175) rfl base _ ls2.length (letCells ls2) rfl ((r - 1), mb) rfl (by have := HOW.out; rw [HEL.out] at this; exact this) (by omega) hlW ?_
  intro v6 w6 hown6 hbl6 hgr6 hob6
  obtain ⟨A6, c6', rfl⟩ := own_sl1 hown6
  clear hcq y0 hcr u3 g4 hsr hsm u2
  have hcq := HQ0.out
  have y0 := HQ1.out
  have hcr := HQ2.out
  have u3 := HQ3.out
  have g4 := HQ4.out
  have hsr := HQ5.out
  have hsm := HQ6.out
  have u2 := HQ7.out
  replace hcq := hgr6.cell hcq (ne_row (fun g hg => by exact HNQ.out g hg))
  replace y0 := hgr6.cell y0 (ne_row (fun g hg => by exact HPN.out g hg))
  replace hcr := hgr6.cell hcr (ne_row (fun g hg => by exact HNR.out g hg))
  replace u3 := hgr6.cell u3 (ne_row (fun g hg => by have := HLT.out g hg; show g ≠ P2; omega))
  replace g4 := hgr6.cell g4 (ne_row (fun g hg => by have := HLT.out g hg; show g ≠ w.heap.size; omega))
  replace hsr := hgr6.cell hsr (ne_row (fun g hg => by have := HLT.out g hg; rw [block_add]; have := ha1; omega))
  replace hsm := hgr6.cell hsm (ne_row (fun g hg => by have := HLT.out g hg; rw [block_add]; have := hadb; omega))
  replace u2 := hgr6.cell u2 (ne_row (fun g hg => by have := HLT.out g hg; show g ≠ P2; omega))
  have fq6 := HNQF.out w6 hgr6
  refine hK.out (fun _ => ⟨hcq, y0, hcr, u3, g4, hsr, hsm, u2⟩) ?_
  clear hK K
  try simp only [Act.put, pu]
  refine utf 26 177 ?_
  refine ur 27 rfl (by kernel_rfl) (fun K hK => ?_)
  go_simp
  obtain ⟨w7, hw7, -, -, -⟩ := setE w6 gq p2 (.slice A6 (ls2.length + 1) c6')
  rw [← hw7]
  have hK7 : AsyK w7 base (upd val (.le k2 p2) (.slice A6 (ls2.length + 1) c6')) { x with flight := x.flight.set k2 ((portsAt x k2).set p2 (ls2 ++ [((r - 1), mb)])) } := by
   rw [hw7]
   have h1 := AsyK.newLetters (w' := w6) (v := .slice A6 (ls2.length + 1) c6') (ls := ls2 ++ [((r - 1), mb)]) HKW.out (List.getElem?_eq_some_iff.1 HAT2.out.hf).1 (by rw [HPA.out]; exact hpl2) (by rw [HPA.out]; exact HEQ.out) (by rw [HEL.out]; exact hgr6) (by rw [List.length_append, letCells_snoc]; exact hown6) (by rw [HEL.out]; exact hob6)
   exact h1
  have hbB7 : Below base w w7 := by rw [hw7]; exact ((hbW.trans hbl6)).setCell (p := ⟨gq, p2, none⟩) hgq1 _
  have HF7 := Lib.hid (show Frame val x w w7 by rw [hw7]; exact (HFW.out.grown (.le k2 p2) hkle (by rw [HEL.out]; exact hgr6)).set (.fr k2) (List.getElem?_eq_some_iff.1 HAT2.out.hf).1 (by rw [HEQ.out]; rfl) p2 _)
  have HV6 := Lib.hid (show (Value.slice A6 (ls2.length + 1) c6').ownBlock ≠ some P from ne_of hob6 (by have := HKB.out.ne (.le k2 p2) hkle; rw [HEL.out] at this; exact this) hPW)
  have HK7 := Lib.hid hK7
  clear hw7 hK7
  refine hK.out (fun h' => till_no h' (by kernel_rfl)) ?_
  clear hK K
  try simp only [Act.put, pu]
  refine wpTill_done (by kernel_rfl) ?_ _
  go_wp2_with fail
  have hf : Frame val x w w7 := HF7.out
  have hfin : AsyB w7 base (upd val (.le k2 p2) (.slice A6 (ls2.length + 1) c6')) (sentA m x k p k2 p2 (1)) P := by
   rw [HSA1.out]
   exact HKB.out.after hf HK7.out (heads_le _ _ _ _) (HKB.out.ne_upd (keyOf_fset (List.getElem?_eq_some_iff.1 HAT2.out.hf).1) (.le k2 p2) HV6.out)
  exact bodyPost_ret (v := .tuple #[]) (by simp [results, Tryz.results64, go_sem]) rfl ⟨rfl, hbB7, hf, _, heads_le _ _ _ _, hfin⟩
 ·
  obtain rfl : aa = 0 := by omega
  clear h1
  go_enter Tryz.func64, Tryz.ntmps64
  go_wp2_with fail
  rw [HP2.out, HP1.out, ← HW.out]
  clear eg0 eg1 eg2 eg3 eg4 eg5 eg6 eq0 eq1 eq2 eu0 eu1 eu2 eu3
  have hcf0 := (HK1.out.fCell HEF.out hkf).1
  rw [HEQ0.out] at hcf0
  refine wp_region_held_drew (S := fun w' => w'.cell? ⟨P, 4, none⟩ = some (.slice (some ⟨gx, 0, none⟩) x.flight.length cf) ∧ w'.cell? ⟨gx, k, none⟩ = some (.slice (some ⟨gq0, 0, none⟩) f.length cq0) ∧ w'.cell? ⟨P2, 2, none⟩ = some (.int .i64 (p : Int))) (by kernel_rfl) ?_ (fun hHeld => ?_)
  ·
   go_keep
  refine stk 0 100 ?_
  refine stk 1 101 ?_
  refine stk 2 102 ?_
  refine stk 3 103 ?_
  refine stk 4 104 ?_
  refine stk 5 105 ?_
  refine stk 6 106 ?_
  refine stk 7 107 ?_
  refine stk 8 108 ?_
  refine stk 9 109 ?_
  refine stk 10 10 ?_
  refine wpAnyH_done (by kernel_rfl) ?_ _
  go_wp2_with fail
  have hc4' := (hbB.cell (p := ad4.add k) (by rw [block_add]; exact ha4)).trans HC4.out
  have hc40 := (hbB.cell (p := ⟨b4, o4 + p * 2, none⟩) hb4).trans HC40.out
  have hc41 := (hbB.cell (p := ⟨b4, o4 + p * 2 + 1, none⟩) hb4).trans HC41.out
  refine wp_region_held_drew (S := fun w' => w'.cell? ⟨P1, 0, none⟩ = some (.slice (some ad4) n.es.length c4) ∧ w'.cell? ⟨P2, 2, none⟩ = some (.int .i64 (p : Int)) ∧ w'.cell? (ad4.add k) = some (.slice (some ⟨b4, o4, none⟩) l.length d4) ∧ w'.cell? ⟨b4, o4 + p * 2, none⟩ = some (.int .i64 (k2 : Int)) ∧ w'.cell? ⟨b4, o4 + p * 2 + 1, none⟩ = some (.int .i64 (p2 : Int))) (by kernel_rfl) ?_ (fun hHeld => ?_)
  ·
   go_keep
  refine stk 0 114 ?_
  refine stk 1 115 ?_
  refine stk 2 116 ?_
  refine stk 3 117 ?_
  refine stk 4 118 ?_
  refine stk 5 119 ?_
  refine stk 6 120 ?_
  refine stk 7 121 ?_
  refine stk 8 122 ?_
  refine tr 9 rfl (by kernel_rfl) (fun K hK => ?_)
  go_simp
  have v0 := Lib.cell?_alloc_some (.cells #[.int .i64 0, .int .i64 0] 106) q0
  have v1 := Lib.cell?_alloc_some (.cells #[.int .i64 0, .int .i64 0] 106) u2
  have v2 := Lib.cell?_alloc_some (.cells #[.int .i64 0, .int .i64 0] 106) hc4'
  have v3 := Lib.cell?_alloc_some (.cells #[.int .i64 0, .int .i64 0] 106) hc40
  have v4 := Lib.cell?_alloc_some (.cells #[.int .i64 0, .int .i64 0] 106) hc41
  refine hK.out _ _ ?_ (fun hHeld => ?_)
  ·
   go_keep
  clear hK K
  try simp only [Act.put, pu]
  refine tr 10 rfl (by kernel_rfl) (fun K hK => ?_)
  go_simp
  clear v0 v1 v2 v3 v4
  have v0 := Lib.cell?_alloc_some (.cells #[.int .i64 (k2 : Int), .int .i64 (p2 : Int)] 106) q0
  have v1 := Lib.cell?_alloc_some (.cells #[.int .i64 (k2 : Int), .int .i64 (p2 : Int)] 106) u2
  have v2 := Lib.cell?_alloc_some (.cells #[.int .i64 (k2 : Int), .int .i64 (p2 : Int)] 106) hc4'
  have v3 := Lib.cell?_alloc_some (.cells #[.int .i64 (k2 : Int), .int .i64 (p2 : Int)] 106) hc40
  have v4 := Lib.cell?_alloc_some (.cells #[.int .i64 (k2 : Int), .int .i64 (p2 : Int)] 106) hc41
  refine hK.out _ _ ?_ (fun hHeld => ?_)
  ·
   go_keep
  clear hK K
  try simp only [Act.put, pu]
  refine wpAnyH_done (by kernel_rfl) ?_ _
  obtain ⟨wv, hwv, hb7, HB7, hzv, HSV⟩ := box2 w2 (.int .i64 (k2 : Int)) (.int .i64 (p2 : Int)) 106
  obtain ⟨P4, hP4⟩ : ∃ z, z = w2.heap.size := ⟨_, rfl⟩
  have hP4w : w.heap.size < P4 := by rw [hP4]; omega
  rw [← hwv]
  rw [← hP4] at HB7 hzv ⊢
  clear v0 v1 v2 v3 v4 hc4' hc40 hc41 hwv hP4 hcf0 y0 y1 y2 y3 y4 yf
  have hzhb7 := hb7.size
  clear g0 g1 g2 g3 g4 g5 g6 gf q0 q1 q2 qf u0 u1 u2 u3 uf
  replace HM := bk HM hb7
  replace HD := bk HD hb7
  replace HA := bk HA hb7
  replace hB := bl_trans hB hb7
  obtain ⟨⟨g0, g1, g2⟩, ⟨g3, g4, g5, g6⟩, gf⟩ := cells7 HM
  obtain ⟨q0, q1, q2, qf⟩ := cells3 HD
  obtain ⟨⟨u0, u1⟩, ⟨u2, u3⟩, uf⟩ := cells4a HA
  replace HY := bk HY hb7
  obtain ⟨⟨y0, y1, y2⟩, ⟨y3, y4⟩, yf⟩ := cells5 HY
  obtain ⟨z0, z1, zf⟩ := cells2 HB7
  have hbE : Below base w wv := hB.mono hbase
  have HFE := Lib.hid (HFR.out.below hb7)
  have HKV := Lib.hid (AsyK.up HK1.out hb7)
  have hcr := (HKV.out.rCell HER.out HAT.out.hr).1
  have hcf := (HKV.out.fCell HEF.out (List.getElem?_eq_some_iff.1 HAT2.out.hf).1).1
  rw [HEQ.out] at hcf
  have hcq := (HKV.out.frCell HAT2.out.hf HEQ.out hpl2).1
  rw [HEL.out] at hcq
  have hcb := (HKV.out.bCell HEB.out HBN.out).1
  have hcn := (HKV.out.nCell HEN.out HSN.out).1
  go_wp2_with fail
  refine wp_region_held_drew (S := fun w' => w'.cell? ⟨P, 4, none⟩ = some (.slice (some ⟨gx, 0, none⟩) x.flight.length cf) ∧ w'.cell? ⟨P4, 0, none⟩ = some (.int .i64 (k2 : Int)) ∧ w'.cell? ⟨P4, 1, none⟩ = some (.int .i64 (p2 : Int)) ∧ w'.cell? ⟨gx, k2, none⟩ = some (.slice (some ⟨gq, 0, none⟩) f2.length cq)) (by kernel_rfl) ?_ (fun hHeld => ?_)
  ·
   go_keep
  refine stk 0 140 ?_
  refine stk 1 141 ?_
  refine stk 2 142 ?_
  refine stk 3 143 ?_
  refine stk 4 144 ?_
  refine stk 5 145 ?_
  refine stk 6 146 ?_
  refine stk 7 147 ?_
  refine stk 8 148 ?_
  refine stk 9 149 ?_
  refine stk 10 150 ?_
  refine stk 11 13 ?_
  refine wpAnyH_done (by kernel_rfl) ?_ _
  go_wp2_with fail
  obtain ⟨hsr0, hsm0⟩ := HCS.out
  have hsr := (hbE.cell (p := ad1.add sq) (by rw [block_add]; exact ha1)).trans hsr0
  have hsm := (hbE.cell (p := ads.add p) (by rw [block_add]; exact hads)).trans hsm0
  clear hsr0 hsm0
  have hwr1 : IntKind.i64.wrap (r - 1) = r - 1 := IntWalk.i64_in _ (by omega)
  have hwr0 : IntKind.i64.wrap r = r := IntWalk.i64_in _ (by omega)
  have hlv : base ≤ wv.heap.size := by have := hbE.size; omega
  refine till_region (S := fun w' => w'.cell? ⟨gq, p2, none⟩ = some (.slice Al ls2.length cl) ∧ w'.cell? ⟨P, 0, none⟩ = some (.slice (some ⟨gr, 0, none⟩) x.rounds.length cr) ∧ w'.cell? ⟨gr, k, none⟩ = some (.int .i64 r) ∧ w'.cell? ⟨P2, 3, none⟩ = some (.int .i64 (0)) ∧ w'.cell? ⟨w.heap.size, 4, none⟩ = some (.slice (some ad1) m.send.length c1) ∧ w'.cell? (ad1.add sq) = some (.slice (some ads) ts.length cs') ∧ w'.cell? (ads.add p) = some (.int .i64 ms) ∧ w'.cell? ⟨P2, 2, none⟩ = some (.int .i64 (p : Int))) (st := 27) (by kernel_rfl) ⟨hcq, y0, hcr, u3, g4, hsr, hsm, u2⟩ (fun hHeld => ?_)
  obtain ⟨W0, hW0⟩ : ∃ z, z = wv.drew.drew.drew.drew := ⟨_, rfl⟩
  rw [← hW0]
  replace hcq : W0.cell? ⟨gq, p2, none⟩ = some (.slice Al ls2.length cl) := by rw [hW0]; exact hcq
  replace y0 : W0.cell? ⟨P, 0, none⟩ = some (.slice (some ⟨gr, 0, none⟩) x.rounds.length cr) := by rw [hW0]; exact y0
  replace hcr : W0.cell? ⟨gr, k, none⟩ = some (.int .i64 r) := by rw [hW0]; exact hcr
  replace u3 : W0.cell? ⟨P2, 3, none⟩ = some (.int .i64 (0)) := by rw [hW0]; exact u3
  replace g4 : W0.cell? ⟨w.heap.size, 4, none⟩ = some (.slice (some ad1) m.send.length c1) := by rw [hW0]; exact g4
  replace hsr : W0.cell? (ad1.add sq) = some (.slice (some ads) ts.length cs') := by rw [hW0]; exact hsr
  replace hsm : W0.cell? (ads.add p) = some (.int .i64 ms) := by rw [hW0]; exact hsm
  replace u2 : W0.cell? ⟨P2, 2, none⟩ = some (.int .i64 (p : Int)) := by rw [hW0]; exact u2
  have HKW := Lib.hid (show AsyK W0 base val x by rw [hW0]; exact HKV.out.drew.drew.drew.drew)
  have HOW := Lib.hid (AsyK.leOwn HKW.out HAT2.out.hf HP2L.out)
  have hbW : Below base w W0 := by rw [hW0]; exact hbE.drew.drew.drew.drew
  have hlW : base ≤ W0.heap.size := by rw [hW0]; exact hlv
  have HFW := Lib.hid (show Frame val x w W0 by rw [hW0]; exact HFE.out.drew.drew.drew.drew)
  have HQ0 := Lib.hid hcq
  have HQ1 := Lib.hid y0
  have HQ2 := Lib.hid hcr
  have HQ3 := Lib.hid u3
  have HQ4 := Lib.hid g4
  have HQ5 := Lib.hid hsr
  have HQ6 := Lib.hid hsm
  have HQ7 := Lib.hid u2
  have hgqW : gq < W0.heap.size := by rw [hW0]; show gq < wv.heap.size; omega
  have hPW : P < W0.heap.size := by rw [hW0]; show P < wv.heap.size; omega
  have HNQF := Lib.hid (fun (w6 : World) (hg6 : W0.grownBy w6 (Value.slice Al ls2.length cl).ownBlock) => (World.frozen?_of_block (a := ⟨gq, p2, none⟩) (hg6.block gq hgqW (ne_row (fun g hg => HNQ.out g hg)))).trans (HKW.out.frCell HAT2.out.hf HEQ.out hpl2).2)
  clear hW0 hHeld uf
  refine utf 0 151 ?_
  refine utf 1 152 ?_
  refine utf 2 153 ?_
  refine utk 3 154 ?_
  refine utf 4 155 ?_
  refine utf 5 156 ?_
  refine utf 6 157 ?_
  refine utk 7 158 ?_
  refine utf 8 159 ?_
  refine utf 9 160 ?_
  refine utk 10 161 ?_
  refine utf 11 162 ?_
  refine utk 12 163 ?_
  refine utf 13 164 ?_
  refine utf 14 165 ?_
  refine utk 15 166 ?_
  refine utf 16 167 ?_
  refine utf 17 168 ?_
  refine utk 18 169 ?_
  refine utf 19 170 ?_
  refine utk 20 171 ?_
  refine utf 21 172 ?_
  refine utk 22 173 ?_
  refine utf 23 174 ?_
  refine ur 24 rfl (by kernel_rfl) (fun K hK => ?_)
  go_simp
  replace hcq := Lib.cell?_alloc_some (.cells #[.int .i64 (r), .int .i64 ms] 121) hcq
  replace y0 := Lib.cell?_alloc_some (.cells #[.int .i64 (r), .int .i64 ms] 121) y0
  replace hcr := Lib.cell?_alloc_some (.cells #[.int .i64 (r), .int .i64 ms] 121) hcr
  replace u3 := Lib.cell?_alloc_some (.cells #[.int .i64 (r), .int .i64 ms] 121) u3
  replace g4 := Lib.cell?_alloc_some (.cells #[.int .i64 (r), .int .i64 ms] 121) g4
  replace hsr := Lib.cell?_alloc_some (.cells #[.int .i64 (r), .int .i64 ms] 121) hsr
  replace hsm := Lib.cell?_alloc_some (.cells #[.int .i64 (r), .int .i64 ms] 121) hsm
  replace u2 := Lib.cell?_alloc_some (.cells #[.int .i64 (r), .int .i64 ms] 121) u2
  refine hK.out (fun _ => ⟨hcq, y0, hcr, u3, g4, hsr, hsm, u2⟩) ?_
  clear hK K
  try simp only [Act.put, pu]
  refine ur 25 rfl (by kernel_rfl) (fun K hK => ?_)
  rw [if_pos (by rfl)]
  refine oper_append2 W0 (.tmp 154) (.tmp 175) rfl base _ ls2.length (letCells ls2) rfl ((r), ms) rfl (by have := HOW.out; rw [HEL.out] at this; exact this) (by omega) hlW ?_
  intro v6 w6 hown6 hbl6 hgr6 hob6
  obtain ⟨A6, c6', rfl⟩ := own_sl1 hown6
  clear hcq y0 hcr u3 g4 hsr hsm u2
  have hcq := HQ0.out
  have y0 := HQ1.out
  have hcr := HQ2.out
  have u3 := HQ3.out
  have g4 := HQ4.out
  have hsr := HQ5.out
  have hsm := HQ6.out
  have u2 := HQ7.out
  replace hcq := hgr6.cell hcq (ne_row (fun g hg => by exact HNQ.out g hg))
  replace y0 := hgr6.cell y0 (ne_row (fun g hg => by exact HPN.out g hg))
  replace hcr := hgr6.cell hcr (ne_row (fun g hg => by exact HNR.out g hg))
  replace u3 := hgr6.cell u3 (ne_row (fun g hg => by have := HLT.out g hg; show g ≠ P2; omega))
  replace g4 := hgr6.cell g4 (ne_row (fun g hg => by have := HLT.out g hg; show g ≠ w.heap.size; omega))
  replace hsr := hgr6.cell hsr (ne_row (fun g hg => by have := HLT.out g hg; rw [block_add]; have := ha1; omega))
  replace hsm := hgr6.cell hsm (ne_row (fun g hg => by have := HLT.out g hg; rw [block_add]; have := hads; omega))
  replace u2 := hgr6.cell u2 (ne_row (fun g hg => by have := HLT.out g hg; show g ≠ P2; omega))
  have fq6 := HNQF.out w6 hgr6
  refine hK.out (fun _ => ⟨hcq, y0, hcr, u3, g4, hsr, hsm, u2⟩) ?_
  clear hK K
  try simp only [Act.put, pu]
  refine utf 26 177 ?_
  refine ur 27 rfl (by kernel_rfl) (fun K hK => ?_)
  go_simp
  obtain ⟨w7, hw7, -, -, -⟩ := setE w6 gq p2 (.slice A6 (ls2.length + 1) c6')
  rw [← hw7]
  have hK7 : AsyK w7 base (upd val (.le k2 p2) (.slice A6 (ls2.length + 1) c6')) { x with flight := x.flight.set k2 ((portsAt x k2).set p2 (ls2 ++ [((r), ms)])) } := by
   rw [hw7]
   have h1 := AsyK.newLetters (w' := w6) (v := .slice A6 (ls2.length + 1) c6') (ls := ls2 ++ [((r), ms)]) HKW.out (List.getElem?_eq_some_iff.1 HAT2.out.hf).1 (by rw [HPA.out]; exact hpl2) (by rw [HPA.out]; exact HEQ.out) (by rw [HEL.out]; exact hgr6) (by rw [List.length_append, letCells_snoc]; exact hown6) (by rw [HEL.out]; exact hob6)
   exact h1
  have hbB7 : Below base w w7 := by rw [hw7]; exact ((hbW.trans hbl6)).setCell (p := ⟨gq, p2, none⟩) hgq1 _
  have HF7 := Lib.hid (show Frame val x w w7 by rw [hw7]; exact (HFW.out.grown (.le k2 p2) hkle (by rw [HEL.out]; exact hgr6)).set (.fr k2) (List.getElem?_eq_some_iff.1 HAT2.out.hf).1 (by rw [HEQ.out]; rfl) p2 _)
  have HV6 := Lib.hid (show (Value.slice A6 (ls2.length + 1) c6').ownBlock ≠ some P from ne_of hob6 (by have := HKB.out.ne (.le k2 p2) hkle; rw [HEL.out] at this; exact this) hPW)
  have HK7 := Lib.hid hK7
  clear hw7 hK7
  refine hK.out (fun h' => till_no h' (by kernel_rfl)) ?_
  clear hK K
  try simp only [Act.put, pu]
  refine wpTill_done (by kernel_rfl) ?_ _
  go_wp2_with fail
  have hf : Frame val x w w7 := HF7.out
  have hfin : AsyB w7 base (upd val (.le k2 p2) (.slice A6 (ls2.length + 1) c6')) (sentA m x k p k2 p2 (0)) P := by
   rw [HSA0.out]
   exact HKB.out.after hf HK7.out (heads_le _ _ _ _) (HKB.out.ne_upd (keyOf_fset (List.getElem?_eq_some_iff.1 HAT2.out.hf).1) (.le k2 p2) HV6.out)
  exact bodyPost_ret (v := .tuple #[]) (by simp [results, Tryz.results64, go_sem]) rfl ⟨rfl, hbB7, hf, _, heads_le _ _ _ _, hfin⟩
end Go.Proofs.YtehkcodbcnhhoaaGreat
