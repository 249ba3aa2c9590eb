/-
  What the walks over letters need: a letter appended, what an act that was possible leaves. No program but the letters' type in sight, no condition.
  A letter is sent, the reference's side: sySend.
-/
import Derived.Test.YtehkcodbcnhhoaaGreatESyStep
import Derived.Test.YtehkcodbcnhhoaaGreatEMayI
namespace Go.Proofs.YtehkcodbcnhhoaaGreat
section
open Go.RowKit
set_option linter.all false
theorem AsyK.drew {w : World} {base : Nat} {val : Key → Value} {x : Asy} (h : AsyK w base val x) : AsyK w.drew base val x := ⟨fun i hi => h.own i hi, h.sep⟩
theorem oper_append2 (w : World) {o : Oper} {a : Act} {K : Act → World → Prop} {Q : Exit → Act → World → Prop} (s x : Operand)
    (ho : o.op = .call { callee := .builtin .append, args := #[s, x], argTypes := #[117, 117] })
    (base : Nat) (v : Value) (n : Nat) (xs : List Value) (hs : a.eval s = v) (e : Int × Int) (hx : a.eval x = .slice (some ⟨w.heap.size, 0, none⟩) 1 1)
    (hown : w.ownsRow base 121 2 v n xs) (h63 : n + 1 ≤ 1000) (hbase : base ≤ w.heap.size)
    (h : ∀ v' w', w'.ownsRow base 121 2 v' (n + 1) (xs ++ letC e) → Below base w w' → w.grownBy w' v.ownBlock → (v'.ownBlock = v.ownBlock ∨ ∃ g, v'.ownBlock = some g ∧ w.heap.size ≤ g) → K (a.put o.dst v') w') :
    Oper.wp Tryz.prog o a (w.alloc (.cells #[.int .i64 e.1, .int .i64 e.2] 121)) K Q := by
  obtain ⟨i, hi, hz0, hz1, hz2⟩ := info_parts letInfo
  have hown1 := hown.alloc (.cells #[.int .i64 e.1, .int .i64 e.2] 121)
  have hnew := heap_alloc_new w (.cells #[.int .i64 e.1, .int .i64 e.2] 121)
  have hnews : ∀ j u', (letC e)[j]? = some u' → (w.alloc (.cells #[.int .i64 e.1, .int .i64 e.2] 121)).cell? ((⟨w.heap.size, 0, none⟩ : Addr).add j) = some u' := by
    intro j u' hj
    rw [Addr.add_lit, Nat.zero_add, cell_of_row _ _ j _ _ (0, 0) hnew]
    match j, hj with
    | 0, hj => exact hj
    | 1, hj => exact hj
    | j + 2, hj => simp [letC] at hj
  obtain ⟨v', w', hrun, h2, h3, _, h5⟩ := run_append_own_at (P := Tryz.prog) (w.alloc (.cells #[.int .i64 e.1, .int .i64 e.2] 121)) base 117 o.type 121 i _ 2 16 Tryz.underlying117 hi hz0 hz1 hz2 rfl (by decide) v n xs hown1 ⟨w.heap.size, 0, none⟩ 1 1 (letC e) rfl hnews
    (by intro u' hu'
        rcases List.mem_cons.1 hu' with rfl | hu'
        · rfl
        · rw [List.mem_singleton.1 hu']; rfl) (by unfold maxLen; omega) (by omega) (by simp; omega)
  have hg : w.grownBy w' v.ownBlock := by
    have h0 := World.grownBy_alloc w (.cells #[.int .i64 e.1, .int .i64 e.2] 121) v.ownBlock
    exact ⟨h3.os.trans h0.os, h3.tape.trans h0.tape, h3.output.trans h0.output, Nat.le_trans h0.size h3.size, fun k hk hne => (h3.block k (Nat.lt_of_lt_of_le hk h0.size) hne).trans (h0.block k hk hne)⟩
  have hB : Below base w w' := (Below.refl base w).grown hg hbase (fun k hk => (hown.lt k hk).1)
  unfold Oper.wp execOp
  simp only [ho, resolve, invoke, builtin, Sem.run_bind, Sem.run_pure, Result.andThen_ok, List.map_toArray, List.map_cons, List.map_nil, hs, hx, hrun]
  refine h v' w' h2 hB hg ?_
  rcases h5 with h5 | h5
  · exact .inl h5
  · exact .inr ⟨_, h5, by simp⟩
def okN (aa r : Int) (ls : Ends) : Bool := decide (0 ≤ aa ∧ aa ≤ 1) && (decide (aa ≤ r) && decide (ls.length < 12))
def Acted (b : Bool) (w : World) (base : Nat) (val : Key → Value) (y : Asy) : Prop := b = true → ∃ val', SameHeads val val' ∧ AsyK w base val' y
theorem Acted.no {w : World} {base : Nat} {val : Key → Value} {y : Asy} {b : Bool} (h : b = false) : Acted b w base val y := fun h' => by rw [h] at h'; cases h'
def sentA (m : Mach) (x : Asy) (k p k2 p2 : Nat) (aa : Int) : Asy :=
  { x with flight := x.flight.set k2 ((portsAt x k2).set p2 (lettersAt x k2 p2 ++ [(x.rounds.getD k 0 - aa, (m.send.getD (if aa = 1 then x.before.getD k 0 else x.now.getD k 0).toNat []).getD p 0)])) }
theorem ne_row {row : Option Nat} {b : Nat} (h : ∀ g, row = some g → g ≠ b) : some b ≠ row := fun e => h b e.symm rfl
theorem heads_le (val : Key → Value) (k p : Nat) (v : Value) : SameHeads val (upd val (.le k p) v) := ⟨upd_ne _ _ (by simp), upd_ne _ _ (by simp), upd_ne _ _ (by simp), upd_ne _ _ (by simp), upd_ne _ _ (by simp)⟩
end
section
open Go.RowKit
set_option linter.all false
set_option maxRecDepth 100000 in
set_option maxHeartbeats 4000000 in
theorem spec_sySend (vs ve vc vo : Value) (m : Mach) (ne ni nn : Value) (n : Net) (val : Key → Value) (x : Asy) (base k : Nat) (l : Ends) (s : List Int) (f : List Ends) (r : Int) (p : Nat) (ls : Ends) (k2 p2 : Nat) (l2 : Ends) (s2 : List Int) (f2 : List Ends) (r2 : Int) (ls2 : Ends) (aa : Int) (w : World)
  (hm : MachR w base vs ve vc vo m) (hn : NetR w base ne ni nn n) (hK : AsyK w base val x) (hbase : base ≤ w.heap.size) (hg : goodP m n x) (hat : AtP n x k l s f r) (hp : f[p]? = some ls) (he : l[p]? = some ((k2 : Int), (p2 : Int))) (hat2 : AtP n x k2 l2 s2 f2 r2) (hp2 : f2[p2]? = some ls2) :
  Calls Tryz.prog 77 #[machV vs ve vc vo m, .agg #[ne, ni, nn], .agg #[val .r, val .b, val .n, val .s, val .f], .agg #[.int .i64 1, .int .i64 k, .int .i64 p, .int .i64 aa]] w
   fun e w' => e = .returned (.bool (okN aa r ls2)) ∧ Below base w w' ∧ Frame val x w w' ∧ Acted (okN aa r ls2) w' base val (sentA m x k p k2 p2 aa) := by
 unfold machV
 have hfit := hg.1
 have ha := hg.2
 have hmp := hfit.1
 have hkn := hat.lt
 have hkr := (List.getElem?_eq_some_iff.1 hat.hr).1
 have hkf2 := (List.getElem?_eq_some_iff.1 hat2.hf).1
 have hkb : k < x.before.length := by have := ha.2.1.1; omega
 have hkw : k < x.now.length := by have := ha.2.2.1.1; omega
 have hpl2 := (List.getElem?_eq_some_iff.1 hp2).1
 have hpl := hat.lp hp
 have h12 := hat2.ls ls2 (List.mem_of_getElem? hp2)
 have hr0 := hat.r0
 obtain ⟨bn, hbn⟩ : ∃ y, x.before[k]? = some y := ⟨_, List.getElem?_eq_getElem hkb⟩
 obtain ⟨sn, hsn⟩ : ∃ y, x.now[k]? = some y := ⟨_, List.getElem?_eq_getElem hkw⟩
 have hsb := ha.2.2.1.2 sn (List.mem_of_getElem? hsn)
 have hbb := ha.2.1.2 bn (List.mem_of_getElem? hbn)
 have hsl := hmp.2.1.2.1
 obtain ⟨sq, rfl⟩ : ∃ sq : Nat, sn = sq := ⟨sn.toNat, by omega⟩
 obtain ⟨bq, rfl⟩ : ∃ bq : Nat, bn = bq := ⟨bn.toNat, by omega⟩
 have hsq : sq < m.send.length := by omega
 have hbq : bq < m.send.length := by omega
 have hdeg := hfit.2.2.1 l (List.mem_of_getElem? hat.hl)
 obtain ⟨ts, hts⟩ : ∃ y, m.send[sq]? = some y := ⟨_, List.getElem?_eq_getElem hsq⟩
 obtain ⟨tb, htb⟩ : ∃ y, m.send[bq]? = some y := ⟨_, List.getElem?_eq_getElem hbq⟩
 have hts1 := (hmp.2.2.2.2.1 ts (List.mem_of_getElem? hts)).1
 have htb1 := (hmp.2.2.2.2.1 tb (List.mem_of_getElem? htb)).1
 have hpts : p < ts.length := by omega
 have hptb : p < tb.length := by omega
 obtain ⟨ms, hms⟩ : ∃ y, ts[p]? = some y := ⟨_, List.getElem?_eq_getElem hpts⟩
 obtain ⟨mb, hmb⟩ : ∃ y, tb[p]? = some y := ⟨_, List.getElem?_eq_getElem hptb⟩
 have hlp4 : p < l.length := by omega
 have HSA0 := Lib.hid (show sentA m x k p k2 p2 0 = { x with flight := x.flight.set k2 ((portsAt x k2).set p2 (ls2 ++ [(r, ms)])) } by
  unfold sentA
  rw [lettersAt_eq hat2.hf hp2, List.getD_eq_getElem?_getD (l := x.rounds), List.getD_eq_getElem?_getD (l := x.now), hat.hr, hsn, if_neg (by decide)]
  simp only [Option.getD_some, Int.toNat_natCast, List.getD_eq_getElem?_getD, hts, hms, Int.sub_zero])
 have HSA1 := Lib.hid (show sentA m x k p k2 p2 1 = { x with flight := x.flight.set k2 ((portsAt x k2).set p2 (ls2 ++ [(r - 1, mb)])) } by
  unfold sentA
  rw [lettersAt_eq hat2.hf hp2, List.getD_eq_getElem?_getD (l := x.rounds), List.getD_eq_getElem?_getD (l := x.before), hat.hr, hbn, if_pos rfl]
  simp only [Option.getD_some, Int.toNat_natCast, List.getD_eq_getElem?_getD, htb, hmb])
 have HPA := Lib.hid (portsAt_eq hat2.hf)
 obtain ⟨gr, cr, er, -, -, hgr1, hgr2⟩ := own_some2 (hK.own .r trivial) (show 0 < x.rounds.length by omega)
 obtain ⟨gb, cb, eb, -, -, hgb1, hgb2⟩ := own_some2 (hK.own .b trivial) (show 0 < x.before.length by omega)
 obtain ⟨gn, cn, en, -, -, hgn1, hgn2⟩ := own_some2 (hK.own .n trivial) (show 0 < x.now.length by omega)
 obtain ⟨gx, cf, ef, -, -, hgf1, hgf2⟩ := own_some2 (hK.own .f trivial) (show 0 < x.flight.length by omega)
 obtain ⟨As, cs, es⟩ := own_sl1 (hK.own .s trivial)
 replace er : val .r = .slice (some ⟨gr, 0, none⟩) x.rounds.length cr := er
 replace eb : val .b = .slice (some ⟨gb, 0, none⟩) x.before.length cb := eb
 replace en : val .n = .slice (some ⟨gn, 0, none⟩) x.now.length cn := en
 replace ef : val .f = .slice (some ⟨gx, 0, none⟩) x.flight.length cf := ef
 replace es : val .s = .slice As x.slots.length cs := es
 obtain ⟨gq, cq, eq2, -, -, hgq1, hgq2⟩ := own_some2 (AsyK.frOwn hK hat2.hf) (by omega)
 have hol := AsyK.leOwn hK hat2.hf hp2
 obtain ⟨Al, cl, el⟩ := own_sl1 hol
 have hlt := hol.lt
 have hkle : keyOf x (.le k2 p2) := ⟨hkf2, by rw [portsAt_eq hat2.hf]; exact hpl2⟩
 have sp : ∀ (i : Key) (g : Nat), keyOf x i → i ≠ .le k2 p2 → (val i).ownBlock = some g → ∀ g', (val (.le k2 p2)).ownBlock = some g' → g' ≠ g := fun i g hi hne h1 g' h2 e => by
  rcases hK.sep i (.le k2 p2) hi hkle hne with h | h
  ·
   rw [h1] at h; cases h
  ·
   exact h (by rw [h1, h2, e])
 have nr := sp .r gr trivial (by simp) (by rw [er]; rfl)
 have nb := sp .b gb trivial (by simp) (by rw [eb]; rfl)
 have nw := sp .n gn trivial (by simp) (by rw [en]; rfl)
 have nf := sp .f gx trivial (by simp) (by rw [ef]; rfl)
 have nq := sp (.fr k2) gq hkf2 (by simp) (by rw [eq2]; rfl)
 clear sp
 rw [el] at hlt nr nb nw nf nq
 have HOL := Lib.hid hol
 have HLT := Lib.hid hlt
 have HNR := Lib.hid nr
 have HNB := Lib.hid nb
 have HNW := Lib.hid nw
 have HNF := Lib.hid nf
 have HNQ := Lib.hid nq
 have hms0 := hm.s.isSlice1
 have hmc0 := hm.c.isSlice
 have hmo0 := hm.o.isSlice
 have hme0 := hm.e.open_
 obtain ⟨A0, m0, c0, rfl⟩ := hms0
 obtain ⟨A2, m2, c2, rfl⟩ := hmc0
 obtain ⟨A3, m3, c3, rfl⟩ := hmo0
 obtain ⟨A1, c1, rfl, hc1, hm1, hr1⟩ := hme0
 obtain ⟨ad1, rfl, ha1, hrow1⟩ := hr1 (by omega)
 obtain ⟨us, hus, hzs⟩ := hrow1 sq ts hts
 obtain ⟨ub, hub, hzb⟩ := hrow1 bq tb htb
 obtain ⟨As', cs', rfl, -, hcs', hrs'⟩ := hzs.open_
 obtain ⟨Ab', cb', rfl, -, hcb', hrb'⟩ := hzb.open_
 obtain ⟨ads, rfl, hads, hrws⟩ := hrs' (by omega)
 obtain ⟨adb, rfl, hadb, hrwb⟩ := hrb' (by omega)
 have hus2 := hrws p ms hms
 have hub2 := hrwb p mb hmb
 have hne := hn.e
 obtain ⟨A4, c4, rfl, hc4, hM4, hr4⟩ := hne
 obtain ⟨⟨-, -, -, -⟩, ⟨A5, m5, c5, rfl⟩, A6, m6, c6, rfl⟩ := hn.slices
 obtain ⟨ad4, rfl, ha4, hrow4⟩ := hr4 (by omega)
 obtain ⟨u4, hu4, hz4⟩ := hrow4 k l hat.hl
 obtain ⟨B4, d4, rfl, hd4, hD4, -, hrl⟩ := hz4
 obtain ⟨b4, o4, rfl, hb4, hrowl⟩ := hrl (by omega)
 obtain ⟨hu40, hu41⟩ := hrowl p _ he
 unfold maxLen at hm1 hcs' hcb' hM4 hD4
 have HAT := Lib.hid hat
 have HAT2 := Lib.hid hat2
 have HP2L := Lib.hid hp2
 have HBN := Lib.hid hbn
 have HSN := Lib.hid hsn
 have HER := Lib.hid er
 have HEB := Lib.hid eb
 have HEN := Lib.hid en
 have HEF := Lib.hid ef
 have HEQ := Lib.hid eq2
 have HEL := Lib.hid el
 have HC4 := Lib.hid hu4
 have HC40 := Lib.hid hu40
 have HC41 := Lib.hid hu41
 have HCS := Lib.hid (And.intro hus hus2)
 have HCB := Lib.hid (And.intro hub hub2)
 have HE := Lib.hid (show Value.agg #[val .r, val .b, val .n, val .s, val .f] = .agg #[.slice (some ⟨gr, 0, none⟩) x.rounds.length cr, .slice (some ⟨gb, 0, none⟩) x.before.length cb, .slice (some ⟨gn, 0, none⟩) x.now.length cn, .slice As x.slots.length cs, .slice (some ⟨gx, 0, none⟩) x.flight.length cf] by rw [er, eb, en, es, ef])
 rw [HE.out]
 clear er eb en ef es eq2 el hol nr nb nw nf nq hm hn hg hfit ha hmp hat hat2 hp hp2 he hbn hsn hts htb hms hmb hr1 hrow1 hus hub hus2 hub2 hzs hzb hrs' hrb' hrws hrwb hr4 hrow4 hu4 hrl hrowl hu40 hu41 hlt HE hts1 htb1 hsl hsb hbb
 obtain ⟨w0, hw0, hb0, HM, hz0, HS0⟩ := box7 w (.int .i64 m.deg) (.int .i64 m.st) (.int .i64 m.msg) (.slice A0 m0 c0) (.slice (some ad1) m.send.length c1) (.slice A2 m2 c2) (.slice A3 m3 c3) 39
 obtain ⟨w1, hw1, hb1, HD, hz1, HS1⟩ := box3 w0 (.slice (some ad4) n.es.length c4) (.slice A5 m5 c5) (.slice A6 m6 c6) 43
 replace HM := bk HM hb1
 obtain ⟨w2, hw2, hb2, HY, hz2, HS2⟩ := box5 w1 (.slice (some ⟨gr, 0, none⟩) x.rounds.length cr) (.slice (some ⟨gb, 0, none⟩) x.before.length cb) (.slice (some ⟨gn, 0, none⟩) x.now.length cn) (.slice As x.slots.length cs) (.slice (some ⟨gx, 0, none⟩) x.flight.length cf) 34
 replace HM := bk HM hb2
 replace HD := bk HD hb2
 obtain ⟨w3, hw3, hb3, HA, hz3, HS3⟩ := box4a w2 (.int .i64 1) (.int .i64 (k : Int)) (.int .i64 (p : Int)) (.int .i64 aa) 69
 replace HM := bk HM hb3
 replace HD := bk HD hb3
 replace HY := bk HY hb3
 have hB : Below w.heap.size w w3 := bl_trans (bl_trans (bl_trans (hb0) hb1) hb2) hb3
 have HW := Lib.hid (show w3 = (((w.alloc (.cells #[.int .i64 m.deg, .int .i64 m.st, .int .i64 m.msg, .slice A0 m0 c0, .slice (some ad1) m.send.length c1, .slice A2 m2 c2, .slice A3 m3 c3] 39)).alloc (.cells #[.slice (some ad4) n.es.length c4, .slice A5 m5 c5, .slice A6 m6 c6] 43)).alloc (.cells #[.slice (some ⟨gr, 0, none⟩) x.rounds.length cr, .slice (some ⟨gb, 0, none⟩) x.before.length cb, .slice (some ⟨gn, 0, none⟩) x.now.length cn, .slice As x.slots.length cs, .slice (some ⟨gx, 0, none⟩) x.flight.length cf] 34)).alloc (.cells #[.int .i64 1, .int .i64 (k : Int), .int .i64 (p : Int), .int .i64 aa] 69) by rw [hw3, hw2, hw1, hw0])
 obtain ⟨P1, hP1⟩ : ∃ z, z = w0.heap.size := ⟨_, rfl⟩
 have HP1 := Lib.hid (show w.heap.size + 1 = P1 by rw [hP1, HS0.out])
 have hPl1 : w.heap.size < P1 := by rw [← HP1.out]; omega
 rw [← hP1] at HD hz1
 obtain ⟨P2, hP2⟩ : ∃ z, z = w1.heap.size := ⟨_, rfl⟩
 have HP2 := Lib.hid (show w.heap.size + 1 + 1 = P2 by rw [hP2, HS1.out, HS0.out])
 have hPl2 : w.heap.size < P2 := by rw [← HP2.out]; omega
 rw [← hP2] at HY hz2
 obtain ⟨P3, hP3⟩ : ∃ z, z = w2.heap.size := ⟨_, rfl⟩
 have HP3 := Lib.hid (show w.heap.size + 1 + 1 + 1 = P3 by rw [hP3, HS2.out, HS1.out, HS0.out])
 have hPl3 : w.heap.size < P3 := by rw [← HP3.out]; omega
 rw [← hP3] at HA hz3
 obtain ⟨⟨g0, g1, g2⟩, ⟨g3, g4, g5, g6⟩, gf⟩ := cells7 HM
 obtain ⟨q0, q1, q2, qf⟩ := cells3 HD
 obtain ⟨⟨y0, y1, y2⟩, ⟨y3, y4⟩, yf⟩ := cells5 HY
 obtain ⟨⟨u0, u1⟩, ⟨u2, u3⟩, uf⟩ := cells4a HA
 have eg0 := g0
 have eg1 := g1
 have eg2 := g2
 have eg3 := g3
 have eg4 := g4
 have eg5 := g5
 have eg6 := g6
 have eq0 := q0
 have eq1 := q1
 have eq2 := q2
 have ey0 := y0
 have ey1 := y1
 have ey2 := y2
 have ey3 := y3
 have ey4 := y4
 have eu0 := u0
 have eu1 := u1
 have eu2 := u2
 have eu3 := u3
 rw [HW.out] at eg0 eg1 eg2 eg3 eg4 eg5 eg6 eq0 eq1 eq2 ey0 ey1 ey2 ey3 ey4 eu0 eu1 eu2 eu3
 rw [← HP1.out] at eq0 eq1 eq2
 rw [← HP2.out] at ey0 ey1 ey2 ey3 ey4
 rw [← HP3.out] at eu0 eu1 eu2 eu3
 have hzb0 : w.heap.size < w3.heap.size := by omega
 have hzb1 : P1 < w3.heap.size := by omega
 have hzb2 : P2 < w3.heap.size := by omega
 have hzb3 : P3 < w3.heap.size := by omega
 have HR := True.intro
 have HN := True.intro
 have HX := True.intro
 clear hw3 hw2 hw1 hw0 hP1 hP2 hP3
 have hbB : Below base w w3 := hB.mono hbase
 have HFR := Lib.hid (Frame.of (val := val) (x := x) hB)
 have HK1 := Lib.hid (AsyK.up hK hB)
 clear HR HN HX hK
 go_enter Tryz.func77, Tryz.ntmps77
 go_wp2_with fail
 rw [HP3.out, HP2.out, HP1.out, ← HW.out]
 clear eg0 eg1 eg2 eg3 eg4 eg5 eg6 eq0 eq1 eq2 ey0 ey1 ey2 ey3 ey4 eu0 eu1 eu2 eu3
 have hc4' := (hbB.cell (p := ad4.add k) (by rw [block_add]; exact ha4)).trans HC4.out
 have hc40 := (hbB.cell (p := ⟨b4, o4 + p * 2, none⟩) hb4).trans HC40.out
 have hc41 := (hbB.cell (p := ⟨b4, o4 + p * 2 + 1, none⟩) hb4).trans HC41.out
 refine wp_region_held_drew (S := fun w' => w'.cell? ⟨P1, 0, none⟩ = some (.slice (some ad4) n.es.length c4) ∧ w'.cell? ⟨P3, 1, none⟩ = some (.int .i64 (k : Int)) ∧ w'.cell? ⟨P3, 2, none⟩ = some (.int .i64 (p : Int)) ∧ w'.cell? (ad4.add k) = some (.slice (some ⟨b4, o4, none⟩) l.length d4) ∧ w'.cell? ⟨b4, o4 + p * 2, none⟩ = some (.int .i64 (k2 : Int)) ∧ w'.cell? ⟨b4, o4 + p * 2 + 1, none⟩ = some (.int .i64 (p2 : Int))) (by kernel_rfl) ?_ (fun hHeld => ?_)
 ·
  go_keep
 refine stk 0 11 ?_
 refine stk 1 12 ?_
 refine stk 2 13 ?_
 refine stk 3 14 ?_
 refine stk 4 15 ?_
 refine stk 5 16 ?_
 refine stk 6 17 ?_
 refine stk 7 18 ?_
 refine stk 8 19 ?_
 refine stk 9 20 ?_
 refine tr 10 rfl (by kernel_rfl) (fun K hK => ?_)
 go_simp
 have v0 := Lib.cell?_alloc_some (.cells #[.int .i64 0, .int .i64 0] 106) q0
 have v1 := Lib.cell?_alloc_some (.cells #[.int .i64 0, .int .i64 0] 106) u1
 have v2 := Lib.cell?_alloc_some (.cells #[.int .i64 0, .int .i64 0] 106) u2
 have v3 := Lib.cell?_alloc_some (.cells #[.int .i64 0, .int .i64 0] 106) hc4'
 have v4 := Lib.cell?_alloc_some (.cells #[.int .i64 0, .int .i64 0] 106) hc40
 have v5 := Lib.cell?_alloc_some (.cells #[.int .i64 0, .int .i64 0] 106) hc41
 refine hK.out _ _ ?_ (fun hHeld => ?_)
 ·
  go_keep
 clear hK K
 try simp only [Act.put, pu]
 refine tr 11 rfl (by kernel_rfl) (fun K hK => ?_)
 go_simp
 clear v0 v1 v2 v3 v4 v5
 have v0 := Lib.cell?_alloc_some (.cells #[.int .i64 (k2 : Int), .int .i64 (p2 : Int)] 106) q0
 have v1 := Lib.cell?_alloc_some (.cells #[.int .i64 (k2 : Int), .int .i64 (p2 : Int)] 106) u1
 have v2 := Lib.cell?_alloc_some (.cells #[.int .i64 (k2 : Int), .int .i64 (p2 : Int)] 106) u2
 have v3 := Lib.cell?_alloc_some (.cells #[.int .i64 (k2 : Int), .int .i64 (p2 : Int)] 106) hc4'
 have v4 := Lib.cell?_alloc_some (.cells #[.int .i64 (k2 : Int), .int .i64 (p2 : Int)] 106) hc40
 have v5 := Lib.cell?_alloc_some (.cells #[.int .i64 (k2 : Int), .int .i64 (p2 : Int)] 106) hc41
 refine hK.out _ _ ?_ (fun hHeld => ?_)
 ·
  go_keep
 clear hK K
 try simp only [Act.put, pu]
 refine wpAnyH_done (by kernel_rfl) ?_ _
 obtain ⟨wv, hwv, hb7, HB7, hzv, HSV⟩ := box2 w3 (.int .i64 (k2 : Int)) (.int .i64 (p2 : Int)) 106
 obtain ⟨P4, hP4⟩ : ∃ z, z = w3.heap.size := ⟨_, rfl⟩
 have hP4w : w.heap.size < P4 := by rw [hP4]; omega
 rw [← hwv]
 rw [← hP4] at HB7 hzv ⊢
 clear v0 v1 v2 v3 v4 v5 hc4' hc40 hc41 hwv hP4
 have hzhb7 := hb7.size
 clear g0 g1 g2 g3 g4 g5 g6 gf q0 q1 q2 qf y0 y1 y2 y3 y4 yf u0 u1 u2 u3 uf
 replace HM := bk HM hb7
 replace HD := bk HD hb7
 replace HY := bk HY hb7
 replace HA := bk HA hb7
 replace hB := bl_trans hB hb7
 obtain ⟨⟨g0, g1, g2⟩, ⟨g3, g4, g5, g6⟩, gf⟩ := cells7 HM
 obtain ⟨q0, q1, q2, qf⟩ := cells3 HD
 obtain ⟨⟨y0, y1, y2⟩, ⟨y3, y4⟩, yf⟩ := cells5 HY
 obtain ⟨⟨u0, u1⟩, ⟨u2, u3⟩, uf⟩ := cells4a HA
 obtain ⟨z0, z1, zf⟩ := cells2 HB7
 have hbE : Below base w wv := hB.mono hbase
 have HFE := Lib.hid (HFR.out.below hb7)
 have HKV := Lib.hid (AsyK.up HK1.out hb7)
 have hcr := (HKV.out.rCell HER.out HAT.out.hr).1
 have hcf := (HKV.out.fCell HEF.out (List.getElem?_eq_some_iff.1 HAT2.out.hf).1).1
 rw [HEQ.out] at hcf
 have hcq := (HKV.out.frCell HAT2.out.hf HEQ.out hpl2).1
 rw [HEL.out] at hcq
 go_wp2_with fail
 by_cases h1 : aa = 1
 ·
  subst h1
  by_cases h0 : r = 0
  ·
   have k0 : (r == 0) = true := by rw [beq_iff_eq]; exact h0
   have HOK := Lib.hid (show false = okN 1 r ls2 by unfold okN; rw [decide_eq_false (show ¬ (1 : Int) ≤ r by omega)]; simp)
   clear h0
   refine wp_region_held_drew (S := fun w' => w'.cell? ⟨P3, 3, none⟩ = some (.int .i64 1) ∧ w'.cell? ⟨P2, 0, none⟩ = some (.slice (some ⟨gr, 0, none⟩) x.rounds.length cr) ∧ w'.cell? ⟨P3, 1, none⟩ = some (.int .i64 (k : Int)) ∧ w'.cell? ⟨gr, k, none⟩ = some (.int .i64 r) ∧ w'.cell? ⟨P2, 4, none⟩ = some (.slice (some ⟨gx, 0, none⟩) x.flight.length cf) ∧ w'.cell? ⟨P4, 0, none⟩ = some (.int .i64 (k2 : Int)) ∧ w'.cell? ⟨P4, 1, none⟩ = some (.int .i64 (p2 : Int)) ∧ w'.cell? ⟨gx, k2, none⟩ = some (.slice (some ⟨gq, 0, none⟩) f2.length cq) ∧ w'.cell? ⟨gq, p2, none⟩ = some (.slice Al ls2.length cl)) (by kernel_rfl) ?_ (fun hHeld => ?_)
   ·
    go_keep
   refine stk 0 21 ?_
   refine stk 1 22 ?_
   refine stk 2 23 ?_
   refine stk 3 24 ?_
   refine stk 4 25 ?_
   refine stk 5 26 ?_
   refine stk 6 27 ?_
   refine stk 7 28 ?_
   refine stk 8 29 ?_
   refine stk 9 30 ?_
   refine stk 10 31 ?_
   refine stk 11 32 ?_
   refine stk 12 33 ?_
   refine stn 13 34 ?_
   refine stn 14 35 ?_
   refine stn 15 36 ?_
   refine stn 16 37 ?_
   refine stk 17 38 ?_
   refine stk 18 39 ?_
   refine stn 19 40 ?_
   refine stn 20 41 ?_
   refine stn 21 42 ?_
   refine stn 22 43 ?_
   refine stn 23 44 ?_
   refine stn 24 45 ?_
   refine stn 25 46 ?_
   refine stn 26 47 ?_
   refine stn 27 48 ?_
   refine stn 28 49 ?_
   refine stn 29 50 ?_
   refine stn 30 51 ?_
   refine stk 31 52 ?_
   refine wpAnyH_done (by kernel_rfl) ?_ _
   go_wp2_with fail
   go_ret
   exact ⟨ret_bool HOK.out, hbE.drew.drew, HFE.out.drew.drew, Acted.no HOK.out.symm⟩
  ·
   have k0 : (r == 0) = false := by rw [beq_eq_false_iff_ne]; exact h0
   by_cases h2 : ls2.length = 12
   ·
    have k12 : (((ls2.length : Nat) : Int) == 12) = true := by rw [h2]; rfl
    have HOK := Lib.hid (show false = okN 1 r ls2 by unfold okN; rw [h2]; simp)
    clear h2
    refine wp_region_held_drew (S := fun w' => w'.cell? ⟨P3, 3, none⟩ = some (.int .i64 1) ∧ w'.cell? ⟨P2, 0, none⟩ = some (.slice (some ⟨gr, 0, none⟩) x.rounds.length cr) ∧ w'.cell? ⟨P3, 1, none⟩ = some (.int .i64 (k : Int)) ∧ w'.cell? ⟨gr, k, none⟩ = some (.int .i64 r) ∧ w'.cell? ⟨P2, 4, none⟩ = some (.slice (some ⟨gx, 0, none⟩) x.flight.length cf) ∧ w'.cell? ⟨P4, 0, none⟩ = some (.int .i64 (k2 : Int)) ∧ w'.cell? ⟨P4, 1, none⟩ = some (.int .i64 (p2 : Int)) ∧ w'.cell? ⟨gx, k2, none⟩ = some (.slice (some ⟨gq, 0, none⟩) f2.length cq) ∧ w'.cell? ⟨gq, p2, none⟩ = some (.slice Al ls2.length cl)) (by kernel_rfl) ?_ (fun hHeld => ?_)
    ·
     go_keep
    refine stk 0 21 ?_
    refine stk 1 22 ?_
    refine stk 2 23 ?_
    refine stk 3 24 ?_
    refine stk 4 25 ?_
    refine stk 5 26 ?_
    refine stk 6 27 ?_
    refine stk 7 28 ?_
    refine stk 8 29 ?_
    refine stk 9 30 ?_
    refine stk 10 31 ?_
    refine stk 11 32 ?_
    refine stk 12 33 ?_
    refine stk 13 34 ?_
    refine stk 14 35 ?_
    refine tr 15 rfl (by kernel_rfl) (fun K hK => ?_)
    go_simp
    go_at_call 22
    refine (spec_l1In _ _ _ _).mono ?_
    rintro e w' ⟨rfl, rfl⟩
    rw [show inB (1) 0 1 = true from inB_t (by omega)]
    refine hK.out _ _ ?_ (fun hHeld => ?_)
    ·
     go_keep
    clear hK K
    try simp only [Act.put, pu]
    refine stk 16 37 ?_
    refine stk 17 38 ?_
    refine stk 18 39 ?_
    refine stk 19 40 ?_
    refine stk 20 41 ?_
    refine stk 21 42 ?_
    refine stk 22 43 ?_
    refine stk 23 44 ?_
    refine stk 24 45 ?_
    refine stk 25 46 ?_
    refine stk 26 47 ?_
    refine stk 27 48 ?_
    refine stk 28 49 ?_
    refine stk 29 50 ?_
    refine stk 30 51 ?_
    refine stk 31 52 ?_
    refine wpAnyH_done (by kernel_rfl) ?_ _
    go_wp2_with fail
    go_ret
    exact ⟨ret_bool HOK.out, hbE.drew.drew, HFE.out.drew.drew, Acted.no HOK.out.symm⟩
   ·
    have k12 : (((ls2.length : Nat) : Int) == 12) = false := by rw [beq_eq_false_iff_ne]; omega
    have HOK := Lib.hid (show true = okN 1 r ls2 by unfold okN; rw [decide_eq_true (show (1 : Int) ≤ r by omega), decide_eq_true (show ls2.length < 12 by omega)]; rfl)
    clear h2
    refine wp_region_held_drew (S := fun w' => w'.cell? ⟨P3, 3, none⟩ = some (.int .i64 1) ∧ w'.cell? ⟨P2, 0, none⟩ = some (.slice (some ⟨gr, 0, none⟩) x.rounds.length cr) ∧ w'.cell? ⟨P3, 1, none⟩ = some (.int .i64 (k : Int)) ∧ w'.cell? ⟨gr, k, none⟩ = some (.int .i64 r) ∧ w'.cell? ⟨P2, 4, none⟩ = some (.slice (some ⟨gx, 0, none⟩) x.flight.length cf) ∧ w'.cell? ⟨P4, 0, none⟩ = some (.int .i64 (k2 : Int)) ∧ w'.cell? ⟨P4, 1, none⟩ = some (.int .i64 (p2 : Int)) ∧ w'.cell? ⟨gx, k2, none⟩ = some (.slice (some ⟨gq, 0, none⟩) f2.length cq) ∧ w'.cell? ⟨gq, p2, none⟩ = some (.slice Al ls2.length cl)) (by kernel_rfl) ?_ (fun hHeld => ?_)
    ·
     go_keep
    refine stk 0 21 ?_
    refine stk 1 22 ?_
    refine stk 2 23 ?_
    refine stk 3 24 ?_
    refine stk 4 25 ?_
    refine stk 5 26 ?_
    refine stk 6 27 ?_
    refine stk 7 28 ?_
    refine stk 8 29 ?_
    refine stk 9 30 ?_
    refine stk 10 31 ?_
    refine stk 11 32 ?_
    refine stk 12 33 ?_
    refine stk 13 34 ?_
    refine stk 14 35 ?_
    refine tr 15 rfl (by kernel_rfl) (fun K hK => ?_)
    go_simp
    go_at_call 22
    refine (spec_l1In _ _ _ _).mono ?_
    rintro e w' ⟨rfl, rfl⟩
    rw [show inB (1) 0 1 = true from inB_t (by omega)]
    refine hK.out _ _ ?_ (fun hHeld => ?_)
    ·
     go_keep
    clear hK K
    try simp only [Act.put, pu]
    refine stk 16 37 ?_
    refine stk 17 38 ?_
    refine stk 18 39 ?_
    refine stk 19 40 ?_
    refine stk 20 41 ?_
    refine stk 21 42 ?_
    refine stk 22 43 ?_
    refine stk 23 44 ?_
    refine stk 24 45 ?_
    refine stk 25 46 ?_
    refine stk 26 47 ?_
    refine stk 27 48 ?_
    refine stk 28 49 ?_
    refine stk 29 50 ?_
    refine stk 30 51 ?_
    refine stk 31 52 ?_
    refine wpAnyH_done (by kernel_rfl) ?_ _
    have hcb := (HKV.out.bCell HEB.out HBN.out).1
    have hcn := (HKV.out.nCell HEN.out HSN.out).1
    go_wp2_with fail
    obtain ⟨hsr0, hsm0⟩ := HCB.out
    have hsr := (hbE.cell (p := ad1.add bq) (by rw [block_add]; exact ha1)).trans hsr0
    have hsm := (hbE.cell (p := adb.add p) (by rw [block_add]; exact hadb)).trans hsm0
    clear hsr0 hsm0
    have hwr1 : IntKind.i64.wrap (r - 1) = r - 1 := IntWalk.i64_in _ (by omega)
    have hwr0 : IntKind.i64.wrap r = r := IntWalk.i64_in _ (by omega)
    have hlv : base ≤ wv.heap.size := by have := hbE.size; omega
    refine till_region (S := fun w' => w'.cell? ⟨P2, 4, none⟩ = some (.slice (some ⟨gx, 0, none⟩) x.flight.length cf) ∧ w'.cell? ⟨P4, 0, none⟩ = some (.int .i64 (k2 : Int)) ∧ w'.cell? ⟨P4, 1, none⟩ = some (.int .i64 (p2 : Int)) ∧ w'.cell? ⟨gx, k2, none⟩ = some (.slice (some ⟨gq, 0, none⟩) f2.length cq) ∧ w'.cell? ⟨gq, p2, none⟩ = some (.slice Al ls2.length cl) ∧ w'.cell? ⟨P2, 0, none⟩ = some (.slice (some ⟨gr, 0, none⟩) x.rounds.length cr) ∧ w'.cell? ⟨P3, 1, none⟩ = some (.int .i64 (k : Int)) ∧ w'.cell? ⟨gr, k, none⟩ = some (.int .i64 r) ∧ w'.cell? ⟨P3, 3, none⟩ = some (.int .i64 (1)) ∧ w'.cell? ⟨w.heap.size, 4, none⟩ = some (.slice (some ad1) m.send.length c1) ∧ w'.cell? (ad1.add bq) = some (.slice (some adb) tb.length cb') ∧ w'.cell? (adb.add p) = some (.int .i64 mb) ∧ w'.cell? ⟨P3, 2, none⟩ = some (.int .i64 (p : Int))) (st := 40) (by kernel_rfl) ⟨y4, z0, z1, hcf, hcq, y0, u1, hcr, u3, g4, hsr, hsm, u2⟩ (fun hHeld => ?_)
    obtain ⟨W0, hW0⟩ : ∃ z, z = wv.drew.drew.drew := ⟨_, rfl⟩
    rw [← hW0]
    replace y4 : W0.cell? ⟨P2, 4, none⟩ = some (.slice (some ⟨gx, 0, none⟩) x.flight.length cf) := by rw [hW0]; exact y4
    replace z0 : W0.cell? ⟨P4, 0, none⟩ = some (.int .i64 (k2 : Int)) := by rw [hW0]; exact z0
    replace z1 : W0.cell? ⟨P4, 1, none⟩ = some (.int .i64 (p2 : Int)) := by rw [hW0]; exact z1
    replace hcf : W0.cell? ⟨gx, k2, none⟩ = some (.slice (some ⟨gq, 0, none⟩) f2.length cq) := by rw [hW0]; exact hcf
    replace hcq : W0.cell? ⟨gq, p2, none⟩ = some (.slice Al ls2.length cl) := by rw [hW0]; exact hcq
    replace y0 : W0.cell? ⟨P2, 0, none⟩ = some (.slice (some ⟨gr, 0, none⟩) x.rounds.length cr) := by rw [hW0]; exact y0
    replace u1 : W0.cell? ⟨P3, 1, none⟩ = some (.int .i64 (k : Int)) := by rw [hW0]; exact u1
    replace hcr : W0.cell? ⟨gr, k, none⟩ = some (.int .i64 r) := by rw [hW0]; exact hcr
    replace u3 : W0.cell? ⟨P3, 3, none⟩ = some (.int .i64 (1)) := by rw [hW0]; exact u3
    replace g4 : W0.cell? ⟨w.heap.size, 4, none⟩ = some (.slice (some ad1) m.send.length c1) := by rw [hW0]; exact g4
    replace hsr : W0.cell? (ad1.add bq) = some (.slice (some adb) tb.length cb') := by rw [hW0]; exact hsr
    replace hsm : W0.cell? (adb.add p) = some (.int .i64 mb) := by rw [hW0]; exact hsm
    replace u2 : W0.cell? ⟨P3, 2, none⟩ = some (.int .i64 (p : Int)) := by rw [hW0]; exact u2
    have HKW := Lib.hid (show AsyK W0 base val x by rw [hW0]; exact HKV.out.drew.drew.drew)
    have HOW := Lib.hid (AsyK.leOwn HKW.out HAT2.out.hf HP2L.out)
    have hbW : Below base w W0 := by rw [hW0]; exact hbE.drew.drew.drew
    have hlW : base ≤ W0.heap.size := by rw [hW0]; exact hlv
    have HFW := Lib.hid (show Frame val x w W0 by rw [hW0]; exact HFE.out.drew.drew.drew)
    have HQ0 := Lib.hid y4
    have HQ1 := Lib.hid z0
    have HQ2 := Lib.hid z1
    have HQ3 := Lib.hid hcf
    have HQ4 := Lib.hid hcq
    have HQ5 := Lib.hid y0
    have HQ6 := Lib.hid u1
    have HQ7 := Lib.hid hcr
    have HQ8 := Lib.hid u3
    have HQ9 := Lib.hid g4
    have HQ10 := Lib.hid hsr
    have HQ11 := Lib.hid hsm
    have HQ12 := Lib.hid u2
    have hgqW : gq < W0.heap.size := by rw [hW0]; show gq < wv.heap.size; omega
    have HNQF := Lib.hid (fun (w6 : World) (hg6 : W0.grownBy w6 (Value.slice Al ls2.length cl).ownBlock) => (World.frozen?_of_block (a := ⟨gq, p2, none⟩) (hg6.block gq hgqW (ne_row (fun g hg => HNQ.out g hg)))).trans (HKW.out.frCell HAT2.out.hf HEQ.out hpl2).2)
    clear hW0 hHeld uf
    refine utf 0 68 ?_
    refine utk 1 69 ?_
    refine utf 2 70 ?_
    refine utk 3 71 ?_
    refine utf 4 72 ?_
    refine utk 5 73 ?_
    refine utf 6 74 ?_
    refine utk 7 75 ?_
    refine utf 8 76 ?_
    refine utk 9 77 ?_
    refine utf 10 78 ?_
    refine utk 11 79 ?_
    refine utf 12 80 ?_
    refine utk 13 81 ?_
    refine utf 14 82 ?_
    refine utk 15 83 ?_
    refine utf 16 84 ?_
    refine utk 17 85 ?_
    refine utf 18 86 ?_
    refine utk 19 87 ?_
    refine utf 20 88 ?_
    refine utk 21 89 ?_
    refine utf 22 90 ?_
    refine utk 23 91 ?_
    refine utf 24 92 ?_
    refine utk 25 93 ?_
    refine utf 26 94 ?_
    refine utf 27 95 ?_
    refine utk 28 96 ?_
    refine utf 29 97 ?_
    refine utf 30 98 ?_
    refine utk 31 99 ?_
    refine utf 32 100 ?_
    refine utk 33 101 ?_
    refine utf 34 102 ?_
    refine utk 35 103 ?_
    refine utf 36 104 ?_
    refine ur 37 rfl (by kernel_rfl) (fun K hK => ?_)
    go_simp
    replace y4 := Lib.cell?_alloc_some (.cells #[.int .i64 (r - 1), .int .i64 mb] 121) y4
    replace z0 := Lib.cell?_alloc_some (.cells #[.int .i64 (r - 1), .int .i64 mb] 121) z0
    replace z1 := Lib.cell?_alloc_some (.cells #[.int .i64 (r - 1), .int .i64 mb] 121) z1
    replace hcf := Lib.cell?_alloc_some (.cells #[.int .i64 (r - 1), .int .i64 mb] 121) hcf
    replace hcq := Lib.cell?_alloc_some (.cells #[.int .i64 (r - 1), .int .i64 mb] 121) hcq
    replace y0 := Lib.cell?_alloc_some (.cells #[.int .i64 (r - 1), .int .i64 mb] 121) y0
    replace u1 := Lib.cell?_alloc_some (.cells #[.int .i64 (r - 1), .int .i64 mb] 121) u1
    replace hcr := Lib.cell?_alloc_some (.cells #[.int .i64 (r - 1), .int .i64 mb] 121) hcr
    replace u3 := Lib.cell?_alloc_some (.cells #[.int .i64 (r - 1), .int .i64 mb] 121) u3
    replace g4 := Lib.cell?_alloc_some (.cells #[.int .i64 (r - 1), .int .i64 mb] 121) g4
    replace hsr := Lib.cell?_alloc_some (.cells #[.int .i64 (r - 1), .int .i64 mb] 121) hsr
    replace hsm := Lib.cell?_alloc_some (.cells #[.int .i64 (r - 1), .int .i64 mb] 121) hsm
    replace u2 := Lib.cell?_alloc_some (.cells #[.int .i64 (r - 1), .int .i64 mb] 121) u2
    refine hK.out (fun _ => ⟨y4, z0, z1, hcf, hcq, y0, u1, hcr, u3, g4, hsr, hsm, u2⟩) ?_
    clear hK K
    try simp only [Act.put, pu]
    refine ur 38 rfl (by kernel_rfl) (fun K hK => ?_)
    rw [if_pos (by rfl)]
    refine oper_append2 W0 (.tmp 85) (.tmp 105) rfl base _ ls2.length (letCells ls2) rfl ((r - 1), mb) rfl (by have := HOW.out; rw [HEL.out] at this; exact this) (by omega) hlW ?_
    intro v6 w6 hown6 hbl6 hgr6 hob6
    obtain ⟨A6, c6', rfl⟩ := own_sl1 hown6
    clear y4 z0 z1 hcf hcq y0 u1 hcr u3 g4 hsr hsm u2
    have y4 := HQ0.out
    have z0 := HQ1.out
    have z1 := HQ2.out
    have hcf := HQ3.out
    have hcq := HQ4.out
    have y0 := HQ5.out
    have u1 := HQ6.out
    have hcr := HQ7.out
    have u3 := HQ8.out
    have g4 := HQ9.out
    have hsr := HQ10.out
    have hsm := HQ11.out
    have u2 := HQ12.out
    replace y4 := hgr6.cell y4 (ne_row (fun g hg => by have := HLT.out g hg; show g ≠ P2; omega))
    replace z0 := hgr6.cell z0 (ne_row (fun g hg => by have := HLT.out g hg; show g ≠ P4; omega))
    replace z1 := hgr6.cell z1 (ne_row (fun g hg => by have := HLT.out g hg; show g ≠ P4; omega))
    replace hcf := hgr6.cell hcf (ne_row (fun g hg => by exact HNF.out g hg))
    replace hcq := hgr6.cell hcq (ne_row (fun g hg => by exact HNQ.out g hg))
    replace y0 := hgr6.cell y0 (ne_row (fun g hg => by have := HLT.out g hg; show g ≠ P2; omega))
    replace u1 := hgr6.cell u1 (ne_row (fun g hg => by have := HLT.out g hg; show g ≠ P3; omega))
    replace hcr := hgr6.cell hcr (ne_row (fun g hg => by exact HNR.out g hg))
    replace u3 := hgr6.cell u3 (ne_row (fun g hg => by have := HLT.out g hg; show g ≠ P3; omega))
    replace g4 := hgr6.cell g4 (ne_row (fun g hg => by have := HLT.out g hg; show g ≠ w.heap.size; omega))
    replace hsr := hgr6.cell hsr (ne_row (fun g hg => by have := HLT.out g hg; rw [block_add]; have := ha1; omega))
    replace hsm := hgr6.cell hsm (ne_row (fun g hg => by have := HLT.out g hg; rw [block_add]; have := hadb; omega))
    replace u2 := hgr6.cell u2 (ne_row (fun g hg => by have := HLT.out g hg; show g ≠ P3; omega))
    have fq6 := HNQF.out w6 hgr6
    refine hK.out (fun _ => ⟨y4, z0, z1, hcf, hcq, y0, u1, hcr, u3, g4, hsr, hsm, u2⟩) ?_
    clear hK K
    try simp only [Act.put, pu]
    refine utf 39 107 ?_
    refine ur 40 rfl (by kernel_rfl) (fun K hK => ?_)
    go_simp
    obtain ⟨w7, hw7, -, -, -⟩ := setE w6 gq p2 (.slice A6 (ls2.length + 1) c6')
    rw [← hw7]
    have hK7 : AsyK w7 base (upd val (.le k2 p2) (.slice A6 (ls2.length + 1) c6')) { x with flight := x.flight.set k2 ((portsAt x k2).set p2 (ls2 ++ [((r - 1), mb)])) } := by
     rw [hw7]
     have h1 := AsyK.newLetters (w' := w6) (v := .slice A6 (ls2.length + 1) c6') (ls := ls2 ++ [((r - 1), mb)]) HKW.out (List.getElem?_eq_some_iff.1 HAT2.out.hf).1 (by rw [HPA.out]; exact hpl2) (by rw [HPA.out]; exact HEQ.out) (by rw [HEL.out]; exact hgr6) (by rw [List.length_append, letCells_snoc]; exact hown6) (by rw [HEL.out]; exact hob6)
     exact h1
    have hbB7 : Below base w w7 := by rw [hw7]; exact ((hbW.trans hbl6)).setCell (p := ⟨gq, p2, none⟩) hgq1 _
    have HF7 := Lib.hid (show Frame val x w w7 by rw [hw7]; exact (HFW.out.grown (.le k2 p2) hkle (by rw [HEL.out]; exact hgr6)).set (.fr k2) (List.getElem?_eq_some_iff.1 HAT2.out.hf).1 (by rw [HEQ.out]; rfl) p2 _)
    have HK7 := Lib.hid hK7
    clear hw7 hK7
    refine hK.out (fun h' => till_no h' (by kernel_rfl)) ?_
    clear hK K
    try simp only [Act.put, pu]
    refine wpTill_done (by kernel_rfl) ?_ _
    go_wp2_with fail
    go_ret
    exact ⟨ret_bool HOK.out, hbB7, HF7.out, fun _ => ⟨_, heads_le _ _ _ _, by rw [HSA1.out]; exact HK7.out⟩⟩
 ·
  by_cases h0 : aa = 0
  ·
   subst h0
   by_cases h2 : ls2.length = 12
   ·
    have k12 : (((ls2.length : Nat) : Int) == 12) = true := by rw [h2]; rfl
    have HOK := Lib.hid (show false = okN 0 r ls2 by unfold okN; rw [h2]; simp)
    clear h2
    refine wp_region_held_drew (S := fun w' => w'.cell? ⟨P3, 3, none⟩ = some (.int .i64 0) ∧ w'.cell? ⟨P2, 0, none⟩ = some (.slice (some ⟨gr, 0, none⟩) x.rounds.length cr) ∧ w'.cell? ⟨P3, 1, none⟩ = some (.int .i64 (k : Int)) ∧ w'.cell? ⟨gr, k, none⟩ = some (.int .i64 r) ∧ w'.cell? ⟨P2, 4, none⟩ = some (.slice (some ⟨gx, 0, none⟩) x.flight.length cf) ∧ w'.cell? ⟨P4, 0, none⟩ = some (.int .i64 (k2 : Int)) ∧ w'.cell? ⟨P4, 1, none⟩ = some (.int .i64 (p2 : Int)) ∧ w'.cell? ⟨gx, k2, none⟩ = some (.slice (some ⟨gq, 0, none⟩) f2.length cq) ∧ w'.cell? ⟨gq, p2, none⟩ = some (.slice Al ls2.length cl)) (by kernel_rfl) ?_ (fun hHeld => ?_)
    ·
     go_keep
    refine stk 0 21 ?_
    refine stk 1 22 ?_
    refine stk 2 23 ?_
    refine stk 3 24 ?_
    refine stn 4 25 ?_
    refine stn 5 26 ?_
    refine stn 6 27 ?_
    refine stn 7 28 ?_
    refine stn 8 29 ?_
    refine stn 9 30 ?_
    refine stn 10 31 ?_
    refine stk 11 32 ?_
    refine stk 12 33 ?_
    refine stk 13 34 ?_
    refine stk 14 35 ?_
    refine tr 15 rfl (by kernel_rfl) (fun K hK => ?_)
    go_simp
    go_at_call 22
    refine (spec_l1In _ _ _ _).mono ?_
    rintro e w' ⟨rfl, rfl⟩
    rw [show inB (0) 0 1 = true from inB_t (by omega)]
    refine hK.out _ _ ?_ (fun hHeld => ?_)
    ·
     go_keep
    clear hK K
    try simp only [Act.put, pu]
    refine stk 16 37 ?_
    refine stk 17 38 ?_
    refine stk 18 39 ?_
    refine stk 19 40 ?_
    refine stk 20 41 ?_
    refine stk 21 42 ?_
    refine stk 22 43 ?_
    refine stk 23 44 ?_
    refine stk 24 45 ?_
    refine stk 25 46 ?_
    refine stk 26 47 ?_
    refine stk 27 48 ?_
    refine stk 28 49 ?_
    refine stk 29 50 ?_
    refine stk 30 51 ?_
    refine stk 31 52 ?_
    refine wpAnyH_done (by kernel_rfl) ?_ _
    go_wp2_with fail
    go_ret
    exact ⟨ret_bool HOK.out, hbE.drew.drew, HFE.out.drew.drew, Acted.no HOK.out.symm⟩
   ·
    have k12 : (((ls2.length : Nat) : Int) == 12) = false := by rw [beq_eq_false_iff_ne]; omega
    have HOK := Lib.hid (show true = okN 0 r ls2 by unfold okN; rw [decide_eq_true (show (0 : Int) ≤ r by omega), decide_eq_true (show ls2.length < 12 by omega)]; rfl)
    clear h2
    refine wp_region_held_drew (S := fun w' => w'.cell? ⟨P3, 3, none⟩ = some (.int .i64 0) ∧ w'.cell? ⟨P2, 0, none⟩ = some (.slice (some ⟨gr, 0, none⟩) x.rounds.length cr) ∧ w'.cell? ⟨P3, 1, none⟩ = some (.int .i64 (k : Int)) ∧ w'.cell? ⟨gr, k, none⟩ = some (.int .i64 r) ∧ w'.cell? ⟨P2, 4, none⟩ = some (.slice (some ⟨gx, 0, none⟩) x.flight.length cf) ∧ w'.cell? ⟨P4, 0, none⟩ = some (.int .i64 (k2 : Int)) ∧ w'.cell? ⟨P4, 1, none⟩ = some (.int .i64 (p2 : Int)) ∧ w'.cell? ⟨gx, k2, none⟩ = some (.slice (some ⟨gq, 0, none⟩) f2.length cq) ∧ w'.cell? ⟨gq, p2, none⟩ = some (.slice Al ls2.length cl)) (by kernel_rfl) ?_ (fun hHeld => ?_)
    ·
     go_keep
    refine stk 0 21 ?_
    refine stk 1 22 ?_
    refine stk 2 23 ?_
    refine stk 3 24 ?_
    refine stn 4 25 ?_
    refine stn 5 26 ?_
    refine stn 6 27 ?_
    refine stn 7 28 ?_
    refine stn 8 29 ?_
    refine stn 9 30 ?_
    refine stn 10 31 ?_
    refine stk 11 32 ?_
    refine stk 12 33 ?_
    refine stk 13 34 ?_
    refine stk 14 35 ?_
    refine tr 15 rfl (by kernel_rfl) (fun K hK => ?_)
    go_simp
    go_at_call 22
    refine (spec_l1In _ _ _ _).mono ?_
    rintro e w' ⟨rfl, rfl⟩
    rw [show inB (0) 0 1 = true from inB_t (by omega)]
    refine hK.out _ _ ?_ (fun hHeld => ?_)
    ·
     go_keep
    clear hK K
    try simp only [Act.put, pu]
    refine stk 16 37 ?_
    refine stk 17 38 ?_
    refine stk 18 39 ?_
    refine stk 19 40 ?_
    refine stk 20 41 ?_
    refine stk 21 42 ?_
    refine stk 22 43 ?_
    refine stk 23 44 ?_
    refine stk 24 45 ?_
    refine stk 25 46 ?_
    refine stk 26 47 ?_
    refine stk 27 48 ?_
    refine stk 28 49 ?_
    refine stk 29 50 ?_
    refine stk 30 51 ?_
    refine stk 31 52 ?_
    refine wpAnyH_done (by kernel_rfl) ?_ _
    have hcb := (HKV.out.bCell HEB.out HBN.out).1
    have hcn := (HKV.out.nCell HEN.out HSN.out).1
    go_wp2_with fail
    obtain ⟨hsr0, hsm0⟩ := HCS.out
    have hsr := (hbE.cell (p := ad1.add sq) (by rw [block_add]; exact ha1)).trans hsr0
    have hsm := (hbE.cell (p := ads.add p) (by rw [block_add]; exact hads)).trans hsm0
    clear hsr0 hsm0
    have hwr1 : IntKind.i64.wrap (r - 1) = r - 1 := IntWalk.i64_in _ (by omega)
    have hwr0 : IntKind.i64.wrap r = r := IntWalk.i64_in _ (by omega)
    have hlv : base ≤ wv.heap.size := by have := hbE.size; omega
    refine till_region (S := fun w' => w'.cell? ⟨P2, 4, none⟩ = some (.slice (some ⟨gx, 0, none⟩) x.flight.length cf) ∧ w'.cell? ⟨P4, 0, none⟩ = some (.int .i64 (k2 : Int)) ∧ w'.cell? ⟨P4, 1, none⟩ = some (.int .i64 (p2 : Int)) ∧ w'.cell? ⟨gx, k2, none⟩ = some (.slice (some ⟨gq, 0, none⟩) f2.length cq) ∧ w'.cell? ⟨gq, p2, none⟩ = some (.slice Al ls2.length cl) ∧ w'.cell? ⟨P2, 0, none⟩ = some (.slice (some ⟨gr, 0, none⟩) x.rounds.length cr) ∧ w'.cell? ⟨P3, 1, none⟩ = some (.int .i64 (k : Int)) ∧ w'.cell? ⟨gr, k, none⟩ = some (.int .i64 r) ∧ w'.cell? ⟨P3, 3, none⟩ = some (.int .i64 (0)) ∧ w'.cell? ⟨w.heap.size, 4, none⟩ = some (.slice (some ad1) m.send.length c1) ∧ w'.cell? (ad1.add sq) = some (.slice (some ads) ts.length cs') ∧ w'.cell? (ads.add p) = some (.int .i64 ms) ∧ w'.cell? ⟨P3, 2, none⟩ = some (.int .i64 (p : Int))) (st := 40) (by kernel_rfl) ⟨y4, z0, z1, hcf, hcq, y0, u1, hcr, u3, g4, hsr, hsm, u2⟩ (fun hHeld => ?_)
    obtain ⟨W0, hW0⟩ : ∃ z, z = wv.drew.drew.drew := ⟨_, rfl⟩
    rw [← hW0]
    replace y4 : W0.cell? ⟨P2, 4, none⟩ = some (.slice (some ⟨gx, 0, none⟩) x.flight.length cf) := by rw [hW0]; exact y4
    replace z0 : W0.cell? ⟨P4, 0, none⟩ = some (.int .i64 (k2 : Int)) := by rw [hW0]; exact z0
    replace z1 : W0.cell? ⟨P4, 1, none⟩ = some (.int .i64 (p2 : Int)) := by rw [hW0]; exact z1
    replace hcf : W0.cell? ⟨gx, k2, none⟩ = some (.slice (some ⟨gq, 0, none⟩) f2.length cq) := by rw [hW0]; exact hcf
    replace hcq : W0.cell? ⟨gq, p2, none⟩ = some (.slice Al ls2.length cl) := by rw [hW0]; exact hcq
    replace y0 : W0.cell? ⟨P2, 0, none⟩ = some (.slice (some ⟨gr, 0, none⟩) x.rounds.length cr) := by rw [hW0]; exact y0
    replace u1 : W0.cell? ⟨P3, 1, none⟩ = some (.int .i64 (k : Int)) := by rw [hW0]; exact u1
    replace hcr : W0.cell? ⟨gr, k, none⟩ = some (.int .i64 r) := by rw [hW0]; exact hcr
    replace u3 : W0.cell? ⟨P3, 3, none⟩ = some (.int .i64 (0)) := by rw [hW0]; exact u3
    replace g4 : W0.cell? ⟨w.heap.size, 4, none⟩ = some (.slice (some ad1) m.send.length c1) := by rw [hW0]; exact g4
    replace hsr : W0.cell? (ad1.add sq) = some (.slice (some ads) ts.length cs') := by rw [hW0]; exact hsr
    replace hsm : W0.cell? (ads.add p) = some (.int .i64 ms) := by rw [hW0]; exact hsm
    replace u2 : W0.cell? ⟨P3, 2, none⟩ = some (.int .i64 (p : Int)) := by rw [hW0]; exact u2
    have HKW := Lib.hid (show AsyK W0 base val x by rw [hW0]; exact HKV.out.drew.drew.drew)
    have HOW := Lib.hid (AsyK.leOwn HKW.out HAT2.out.hf HP2L.out)
    have hbW : Below base w W0 := by rw [hW0]; exact hbE.drew.drew.drew
    have hlW : base ≤ W0.heap.size := by rw [hW0]; exact hlv
    have HFW := Lib.hid (show Frame val x w W0 by rw [hW0]; exact HFE.out.drew.drew.drew)
    have HQ0 := Lib.hid y4
    have HQ1 := Lib.hid z0
    have HQ2 := Lib.hid z1
    have HQ3 := Lib.hid hcf
    have HQ4 := Lib.hid hcq
    have HQ5 := Lib.hid y0
    have HQ6 := Lib.hid u1
    have HQ7 := Lib.hid hcr
    have HQ8 := Lib.hid u3
    have HQ9 := Lib.hid g4
    have HQ10 := Lib.hid hsr
    have HQ11 := Lib.hid hsm
    have HQ12 := Lib.hid u2
    have hgqW : gq < W0.heap.size := by rw [hW0]; show gq < wv.heap.size; omega
    have HNQF := Lib.hid (fun (w6 : World) (hg6 : W0.grownBy w6 (Value.slice Al ls2.length cl).ownBlock) => (World.frozen?_of_block (a := ⟨gq, p2, none⟩) (hg6.block gq hgqW (ne_row (fun g hg => HNQ.out g hg)))).trans (HKW.out.frCell HAT2.out.hf HEQ.out hpl2).2)
    clear hW0 hHeld uf
    refine utf 0 68 ?_
    refine utk 1 69 ?_
    refine utf 2 70 ?_
    refine utk 3 71 ?_
    refine utf 4 72 ?_
    refine utk 5 73 ?_
    refine utf 6 74 ?_
    refine utk 7 75 ?_
    refine utf 8 76 ?_
    refine utk 9 77 ?_
    refine utf 10 78 ?_
    refine utk 11 79 ?_
    refine utf 12 80 ?_
    refine utk 13 81 ?_
    refine utf 14 82 ?_
    refine utk 15 83 ?_
    refine utf 16 84 ?_
    refine utk 17 85 ?_
    refine utf 18 86 ?_
    refine utk 19 87 ?_
    refine utf 20 88 ?_
    refine utk 21 89 ?_
    refine utf 22 90 ?_
    refine utk 23 91 ?_
    refine utf 24 92 ?_
    refine utk 25 93 ?_
    refine utf 26 94 ?_
    refine utf 27 95 ?_
    refine utk 28 96 ?_
    refine utf 29 97 ?_
    refine utf 30 98 ?_
    refine utk 31 99 ?_
    refine utf 32 100 ?_
    refine utk 33 101 ?_
    refine utf 34 102 ?_
    refine utk 35 103 ?_
    refine utf 36 104 ?_
    refine ur 37 rfl (by kernel_rfl) (fun K hK => ?_)
    go_simp
    replace y4 := Lib.cell?_alloc_some (.cells #[.int .i64 (r), .int .i64 ms] 121) y4
    replace z0 := Lib.cell?_alloc_some (.cells #[.int .i64 (r), .int .i64 ms] 121) z0
    replace z1 := Lib.cell?_alloc_some (.cells #[.int .i64 (r), .int .i64 ms] 121) z1
    replace hcf := Lib.cell?_alloc_some (.cells #[.int .i64 (r), .int .i64 ms] 121) hcf
    replace hcq := Lib.cell?_alloc_some (.cells #[.int .i64 (r), .int .i64 ms] 121) hcq
    replace y0 := Lib.cell?_alloc_some (.cells #[.int .i64 (r), .int .i64 ms] 121) y0
    replace u1 := Lib.cell?_alloc_some (.cells #[.int .i64 (r), .int .i64 ms] 121) u1
    replace hcr := Lib.cell?_alloc_some (.cells #[.int .i64 (r), .int .i64 ms] 121) hcr
    replace u3 := Lib.cell?_alloc_some (.cells #[.int .i64 (r), .int .i64 ms] 121) u3
    replace g4 := Lib.cell?_alloc_some (.cells #[.int .i64 (r), .int .i64 ms] 121) g4
    replace hsr := Lib.cell?_alloc_some (.cells #[.int .i64 (r), .int .i64 ms] 121) hsr
    replace hsm := Lib.cell?_alloc_some (.cells #[.int .i64 (r), .int .i64 ms] 121) hsm
    replace u2 := Lib.cell?_alloc_some (.cells #[.int .i64 (r), .int .i64 ms] 121) u2
    refine hK.out (fun _ => ⟨y4, z0, z1, hcf, hcq, y0, u1, hcr, u3, g4, hsr, hsm, u2⟩) ?_
    clear hK K
    try simp only [Act.put, pu]
    refine ur 38 rfl (by kernel_rfl) (fun K hK => ?_)
    rw [if_pos (by rfl)]
    refine oper_append2 W0 (.tmp 85) (.tmp 105) rfl base _ ls2.length (letCells ls2) rfl ((r), ms) rfl (by have := HOW.out; rw [HEL.out] at this; exact this) (by omega) hlW ?_
    intro v6 w6 hown6 hbl6 hgr6 hob6
    obtain ⟨A6, c6', rfl⟩ := own_sl1 hown6
    clear y4 z0 z1 hcf hcq y0 u1 hcr u3 g4 hsr hsm u2
    have y4 := HQ0.out
    have z0 := HQ1.out
    have z1 := HQ2.out
    have hcf := HQ3.out
    have hcq := HQ4.out
    have y0 := HQ5.out
    have u1 := HQ6.out
    have hcr := HQ7.out
    have u3 := HQ8.out
    have g4 := HQ9.out
    have hsr := HQ10.out
    have hsm := HQ11.out
    have u2 := HQ12.out
    replace y4 := hgr6.cell y4 (ne_row (fun g hg => by have := HLT.out g hg; show g ≠ P2; omega))
    replace z0 := hgr6.cell z0 (ne_row (fun g hg => by have := HLT.out g hg; show g ≠ P4; omega))
    replace z1 := hgr6.cell z1 (ne_row (fun g hg => by have := HLT.out g hg; show g ≠ P4; omega))
    replace hcf := hgr6.cell hcf (ne_row (fun g hg => by exact HNF.out g hg))
    replace hcq := hgr6.cell hcq (ne_row (fun g hg => by exact HNQ.out g hg))
    replace y0 := hgr6.cell y0 (ne_row (fun g hg => by have := HLT.out g hg; show g ≠ P2; omega))
    replace u1 := hgr6.cell u1 (ne_row (fun g hg => by have := HLT.out g hg; show g ≠ P3; omega))
    replace hcr := hgr6.cell hcr (ne_row (fun g hg => by exact HNR.out g hg))
    replace u3 := hgr6.cell u3 (ne_row (fun g hg => by have := HLT.out g hg; show g ≠ P3; omega))
    replace g4 := hgr6.cell g4 (ne_row (fun g hg => by have := HLT.out g hg; show g ≠ w.heap.size; omega))
    replace hsr := hgr6.cell hsr (ne_row (fun g hg => by have := HLT.out g hg; rw [block_add]; have := ha1; omega))
    replace hsm := hgr6.cell hsm (ne_row (fun g hg => by have := HLT.out g hg; rw [block_add]; have := hads; omega))
    replace u2 := hgr6.cell u2 (ne_row (fun g hg => by have := HLT.out g hg; show g ≠ P3; omega))
    have fq6 := HNQF.out w6 hgr6
    refine hK.out (fun _ => ⟨y4, z0, z1, hcf, hcq, y0, u1, hcr, u3, g4, hsr, hsm, u2⟩) ?_
    clear hK K
    try simp only [Act.put, pu]
    refine utf 39 107 ?_
    refine ur 40 rfl (by kernel_rfl) (fun K hK => ?_)
    go_simp
    obtain ⟨w7, hw7, -, -, -⟩ := setE w6 gq p2 (.slice A6 (ls2.length + 1) c6')
    rw [← hw7]
    have hK7 : AsyK w7 base (upd val (.le k2 p2) (.slice A6 (ls2.length + 1) c6')) { x with flight := x.flight.set k2 ((portsAt x k2).set p2 (ls2 ++ [((r), ms)])) } := by
     rw [hw7]
     have h1 := AsyK.newLetters (w' := w6) (v := .slice A6 (ls2.length + 1) c6') (ls := ls2 ++ [((r), ms)]) HKW.out (List.getElem?_eq_some_iff.1 HAT2.out.hf).1 (by rw [HPA.out]; exact hpl2) (by rw [HPA.out]; exact HEQ.out) (by rw [HEL.out]; exact hgr6) (by rw [List.length_append, letCells_snoc]; exact hown6) (by rw [HEL.out]; exact hob6)
     exact h1
    have hbB7 : Below base w w7 := by rw [hw7]; exact ((hbW.trans hbl6)).setCell (p := ⟨gq, p2, none⟩) hgq1 _
    have HF7 := Lib.hid (show Frame val x w w7 by rw [hw7]; exact (HFW.out.grown (.le k2 p2) hkle (by rw [HEL.out]; exact hgr6)).set (.fr k2) (List.getElem?_eq_some_iff.1 HAT2.out.hf).1 (by rw [HEQ.out]; rfl) p2 _)
    have HK7 := Lib.hid hK7
    clear hw7 hK7
    refine hK.out (fun h' => till_no h' (by kernel_rfl)) ?_
    clear hK K
    try simp only [Act.put, pu]
    refine wpTill_done (by kernel_rfl) ?_ _
    go_wp2_with fail
    go_ret
    exact ⟨ret_bool HOK.out, hbB7, HF7.out, fun _ => ⟨_, heads_le _ _ _ _, by rw [HSA0.out]; exact HK7.out⟩⟩
  ·
   have k1 : (aa == 1) = false := by rw [beq_eq_false_iff_ne]; exact h1
   have q : inB aa 0 1 = false := inB_f (by omega)
   have HOK := Lib.hid (show false = okN aa r ls2 by unfold okN; rw [decide_eq_false (show ¬ (0 ≤ aa ∧ aa ≤ 1) by omega)]; rfl)
   refine wp_region_held_drew (S := fun w' => w'.cell? ⟨P3, 3, none⟩ = some (.int .i64 aa) ∧ w'.cell? ⟨P2, 0, none⟩ = some (.slice (some ⟨gr, 0, none⟩) x.rounds.length cr) ∧ w'.cell? ⟨P3, 1, none⟩ = some (.int .i64 (k : Int)) ∧ w'.cell? ⟨gr, k, none⟩ = some (.int .i64 r) ∧ w'.cell? ⟨P2, 4, none⟩ = some (.slice (some ⟨gx, 0, none⟩) x.flight.length cf) ∧ w'.cell? ⟨P4, 0, none⟩ = some (.int .i64 (k2 : Int)) ∧ w'.cell? ⟨P4, 1, none⟩ = some (.int .i64 (p2 : Int)) ∧ w'.cell? ⟨gx, k2, none⟩ = some (.slice (some ⟨gq, 0, none⟩) f2.length cq) ∧ w'.cell? ⟨gq, p2, none⟩ = some (.slice Al ls2.length cl)) (by kernel_rfl) ?_ (fun hHeld => ?_)
   ·
    go_keep
   refine stk 0 21 ?_
   refine stk 1 22 ?_
   refine stk 2 23 ?_
   refine stk 3 24 ?_
   refine stn 4 25 ?_
   refine stn 5 26 ?_
   refine stn 6 27 ?_
   refine stn 7 28 ?_
   refine stn 8 29 ?_
   refine stn 9 30 ?_
   refine stn 10 31 ?_
   refine stk 11 32 ?_
   refine stk 12 33 ?_
   refine stk 13 34 ?_
   refine stk 14 35 ?_
   refine tr 15 rfl (by kernel_rfl) (fun K hK => ?_)
   go_simp
   go_at_call 22
   refine (spec_l1In _ _ _ _).mono ?_
   rintro e w' ⟨rfl, rfl⟩
   rw [q]
   refine hK.out _ _ ?_ (fun hHeld => ?_)
   ·
    go_keep
   clear hK K
   try simp only [Act.put, pu]
   refine stk 16 37 ?_
   refine stk 17 38 ?_
   refine stk 18 39 ?_
   refine stn 19 40 ?_
   refine stn 20 41 ?_
   refine stn 21 42 ?_
   refine stn 22 43 ?_
   refine stn 23 44 ?_
   refine stn 24 45 ?_
   refine stn 25 46 ?_
   refine stn 26 47 ?_
   refine stn 27 48 ?_
   refine stn 28 49 ?_
   refine stn 29 50 ?_
   refine stn 30 51 ?_
   refine stk 31 52 ?_
   refine wpAnyH_done (by kernel_rfl) ?_ _
   go_wp2_with fail
   go_ret
   exact ⟨ret_bool HOK.out, hbE.drew.drew, HFE.out.drew.drew, Acted.no HOK.out.symm⟩
end
end Go.Proofs.YtehkcodbcnhhoaaGreat
