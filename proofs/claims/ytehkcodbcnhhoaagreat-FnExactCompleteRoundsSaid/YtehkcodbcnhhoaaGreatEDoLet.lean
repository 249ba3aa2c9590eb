/-
  A letter is delivered, dropped or copied, the program's side: doAsync at AcDeliver, AcDrop, AcCopy.
-/
import Derived.Test.YtehkcodbcnhhoaaGreatEDoSte
import Derived.Test.YtehkcodbcnhhoaaGreatELetDel
import Derived.Test.YtehkcodbcnhhoaaGreatESyLet
namespace Go.Proofs.YtehkcodbcnhhoaaGreat
open Go.RowKit
set_option linter.all false
theorem letCells_one {ls : Ends} : ∀ u ∈ letCells ls, u.oneCell' = true := fun u hu => by
  obtain ⟨e, _, he⟩ := List.mem_flatMap.1 hu
  rcases List.mem_cons.1 he with rfl | he
  · rfl
  · rw [List.mem_singleton.1 he]; rfl
set_option maxRecDepth 100000 in
set_option maxHeartbeats 4000000 in
theorem impl_doLetter (vs ve vc vo : Value) (m : Mach) (ne ni nn : Value) (n : Net) (val : Key → Value) (x : Asy) (base k : Nat) (l : Ends) (s : List Int) (f : List Ends) (r : Int) (p : Nat) (ls : Ends) (ak : Int) (a P : Nat) (w : World) (hm : MachR w base vs ve vc vo m) (hn : NetR w base ne ni nn n) (hKB : AsyB w base val x P) (hbase : base ≤ w.heap.size)
  (hat : AtP n x k l s f r) (hp : f[p]? = some ls) (hal : a < ls.length) (hak : ak = 2 ∨ ak = 3 ∨ ak = 4) :
  Calls Tryz.prog 64 #[machV vs ve vc vo m, .agg #[ne, ni, nn], .pointer (some ⟨P, 0, none⟩), .agg #[.int .i64 ak, .int .i64 k, .int .i64 p, .int .i64 a]] w (DoPost w base val x (letterA x ak k p a) P) := by
 unfold machV
 have hK := hKB.k
 have HKB := Lib.hid hKB
 have hP := hKB.lt
 have hkr := (List.getElem?_eq_some_iff.1 hat.hr).1
 have hks := (List.getElem?_eq_some_iff.1 hat.hs).1
 have hkf := (List.getElem?_eq_some_iff.1 hat.hf).1
 have hpf := (List.getElem?_eq_some_iff.1 hp).1
 have h12 := hat.ls ls (List.mem_of_getElem? hp)
 have hps : p < s.length := by rw [hat.sl, ← hat.fl]; exact hpf
 obtain ⟨⟨A0, m0, c0, rfl⟩, ⟨A1, m1, c1, rfl⟩, ⟨A2, m2, c2, rfl⟩, A3, m3, c3, rfl⟩ := hm.slices
 obtain ⟨⟨A4, m4, c4, rfl⟩, ⟨A5, m5, c5, rfl⟩, A6, m6, c6, rfl⟩ := hn.slices
 obtain ⟨gr, cr, er, -, -, hgr1, hgr2⟩ := own_some2 (hK.own .r trivial) (show 0 < x.rounds.length by omega)
 obtain ⟨gs, cs, es, -, -, hgs1, hgs2⟩ := own_some2 (hK.own .s trivial) (show 0 < x.slots.length by omega)
 obtain ⟨gx, cf, ef, -, -, hgx1, hgx2⟩ := own_some2 (hK.own .f trivial) (show 0 < x.flight.length by omega)
 obtain ⟨Ab, cb, eb⟩ := own_sl1 (hK.own .b trivial)
 obtain ⟨An, cn, en⟩ := own_sl1 (hK.own .n trivial)
 replace er : val .r = .slice (some ⟨gr, 0, none⟩) x.rounds.length cr := er
 replace es : val .s = .slice (some ⟨gs, 0, none⟩) x.slots.length cs := es
 replace ef : val .f = .slice (some ⟨gx, 0, none⟩) x.flight.length cf := ef
 replace eb : val .b = .slice Ab x.before.length cb := eb
 replace en : val .n = .slice An x.now.length cn := en
 obtain ⟨gq, cq, eq2, -, -, hgq1, hgq2⟩ := own_some2 (AsyK.frOwn hK hat.hf) (by omega)
 obtain ⟨gw, cw, ew, -, -, hgw1, hgw2⟩ := own_some2 (AsyK.slOwn hK hat.hs) (by omega)
 obtain ⟨gl, c9, el2, hcl1, hcl2, hgl1, hgl2⟩ := own_some2 (AsyK.leOwn hK hat.hf hp) (by omega)
 unfold maxLen at hcl2
 have hkle : keyOf x (.le k p) := ⟨hkf, by rw [portsAt_eq hat.hf]; exact hpf⟩
 have hPq : P ≠ gq := fun e => hKB.ne (.fr k) hkf (by rw [eq2, e]; rfl)
 have hPw : P ≠ gw := fun e => hKB.ne (.sl k) hks (by rw [ew, e]; rfl)
 have hPl : P ≠ gl := fun e => hKB.ne (.le k p) hkle (by rw [el2, e]; rfl)
 have nq : gq ≠ gl := fun e => by
  rcases hK.sep (.fr k) (.le k p) hkf hkle (by simp) with h | h
  ·
   rw [eq2] at h; cases h
  ·
   exact h (by rw [eq2, el2, e]; rfl)
 have hbx := hKB.box
 rw [er, eb, en, es, ef] at hbx
 have HY := Lib.hid hbx
 have HER := Lib.hid er
 have HES := Lib.hid es
 have HEF := Lib.hid ef
 have HEQ := Lib.hid eq2
 have HEW := Lib.hid ew
 have HEL := Lib.hid el2
 have HAT := Lib.hid hat
 have HPL := Lib.hid hp
 have HLE := Lib.hid (lettersAt_eq hat.hf hp)
 have HPA := Lib.hid (portsAt_eq hat.hf)
 have HSA := Lib.hid (slotsAt_eq hat.hs)
 obtain ⟨e, he⟩ : ∃ e, ls[a]? = some e := ⟨_, List.getElem?_eq_getElem hal⟩
 have HLG := Lib.hid (show ls.getD a (0, 0) = e by rw [List.getD_eq_getElem?_getD, he]; rfl)
 obtain ⟨y, hy⟩ : ∃ y, s[p]? = some y := ⟨_, List.getElem?_eq_getElem hps⟩
 have HY0 := Lib.hid hy
 obtain ⟨M, hM⟩ : ∃ M, ls.length = M + 1 := ⟨ls.length - 1, by omega⟩
 have HM1 := Lib.hid hM
 have HNE := Lib.hid (show (ls.take a ++ ls.drop (a + 1)).length = M by rw [List.length_append, List.length_take, List.length_drop]; omega)
 have HCE := Lib.hid (show (letCells ls).take (a * 2) ++ (letCells ls).drop ((a + 1) * 2) = letCells (ls.take a ++ ls.drop (a + 1)) by rw [letCells_append, letCells_take, letCells_drop])
 have hoc := fun (W : World) (X : Asy) (hw : AsyK W base val X) (hf : X.flight = x.flight) => show W.cell? ⟨gl, a * 2, none⟩ = some (.int .i64 e.1) ∧ W.cell? ⟨gl, a * 2 + 1, none⟩ = some (.int .i64 e.2) by
  have h1 := AsyK.leOwn hw (k := k) (by rw [hf]; exact hat.hf) hp
  rw [HEL.out] at h1
  obtain ⟨c1, c2⟩ := letCells_at he
  exact ⟨(World.ownsRow.cellAt h1 (a * 2) (by omega)).trans c1, (World.ownsRow.cellAt h1 (a * 2 + 1) (by omega)).trans c2⟩
 have HOC := Lib.hid hoc
 have HL4 := Lib.hid (show letterA x 4 k p a = { x with flight := x.flight.set k ((portsAt x k).set p (ls ++ [e])) } by
  unfold letterA
  rw [if_pos rfl, HLE.out, HLG.out])
 have HLN := Lib.hid (show ∀ ak : Int, ak ≠ 4 → letterA x ak k p a = { x with flight := x.flight.set k ((portsAt x k).set p (ls.take a ++ ls.drop (a + 1))), slots := if ak = 2 ∧ e.1 = r ∧ y = -1 then x.slots.set k ((slotsAt x k).set p e.2) else x.slots } from fun ak h4 => by
  unfold letterA
  rw [if_neg h4, HLE.out, HLG.out, HSA.out, List.getD_eq_getElem?_getD (l := x.rounds), List.getD_eq_getElem?_getD (l := s), HAT.out.hr, hy]; rfl)
 have hwr1 : IntKind.i64.wrap ((a : Int) + 1) = (a : Int) + 1 := IntWalk.i64_in _ (by omega)
 clear er eb en ef es eq2 ew el2 hbx hat hp he hy hM hoc hm hn
 obtain ⟨w0, hw0, hb0, HM, hz0, HS0⟩ := box7 w (.int .i64 m.deg) (.int .i64 m.st) (.int .i64 m.msg) (.slice A0 m0 c0) (.slice A1 m1 c1) (.slice A2 m2 c2) (.slice A3 m3 c3) 39
 obtain ⟨w1, hw1, hb1, HD, hz1, HS1⟩ := box3 w0 (.slice A4 m4 c4) (.slice A5 m5 c5) (.slice A6 m6 c6) 43
 replace HM := bk HM hb1
 obtain ⟨w2, hw2, hb2, HA, hz2, HS2⟩ := box4a w1 (.int .i64 ak) (.int .i64 (k : Int)) (.int .i64 (p : Int)) (.int .i64 (a : Int)) 69
 replace HM := bk HM hb2
 replace HD := bk HD hb2
 have hB : Below w.heap.size w w2 := bl_trans (bl_trans (hb0) hb1) hb2
 have HW := Lib.hid (show w2 = ((w.alloc (.cells #[.int .i64 m.deg, .int .i64 m.st, .int .i64 m.msg, .slice A0 m0 c0, .slice A1 m1 c1, .slice A2 m2 c2, .slice A3 m3 c3] 39)).alloc (.cells #[.slice A4 m4 c4, .slice A5 m5 c5, .slice A6 m6 c6] 43)).alloc (.cells #[.int .i64 ak, .int .i64 (k : Int), .int .i64 (p : Int), .int .i64 (a : Int)] 69) by rw [hw2, hw1, hw0])
 obtain ⟨P1, hP1⟩ : ∃ z, z = w0.heap.size := ⟨_, rfl⟩
 have HP1 := Lib.hid (show w.heap.size + 1 = P1 by rw [hP1, HS0.out])
 have hPl1 : w.heap.size < P1 := by rw [← HP1.out]; omega
 rw [← hP1] at HD hz1
 obtain ⟨P2, hP2⟩ : ∃ z, z = w1.heap.size := ⟨_, rfl⟩
 have HP2 := Lib.hid (show w.heap.size + 1 + 1 = P2 by rw [hP2, HS1.out, HS0.out])
 have hPl2 : w.heap.size < P2 := by rw [← HP2.out]; omega
 rw [← hP2] at HA hz2
 obtain ⟨⟨g0, g1, g2⟩, ⟨g3, g4, g5, g6⟩, gf⟩ := cells7 HM
 obtain ⟨q0, q1, q2, qf⟩ := cells3 HD
 obtain ⟨⟨u0, u1⟩, ⟨u2, u3⟩, uf⟩ := cells4a HA
 have eg0 := g0
 have eg1 := g1
 have eg2 := g2
 have eg3 := g3
 have eg4 := g4
 have eg5 := g5
 have eg6 := g6
 have eq0 := q0
 have eq1 := q1
 have eq2 := q2
 have eu0 := u0
 have eu1 := u1
 have eu2 := u2
 have eu3 := u3
 rw [HW.out] at eg0 eg1 eg2 eg3 eg4 eg5 eg6 eq0 eq1 eq2 eu0 eu1 eu2 eu3
 rw [← HP1.out] at eq0 eq1 eq2
 rw [← HP2.out] at eu0 eu1 eu2 eu3
 have hzb0 : w.heap.size < w2.heap.size := by omega
 have hzb1 : P1 < w2.heap.size := by omega
 have hzb2 : P2 < w2.heap.size := by omega
 have HR := True.intro
 have HN := True.intro
 clear hw2 hw1 hw0 hP1 hP2
 have hbB : Below base w w2 := hB.mono hbase
 have HFR := Lib.hid (Frame.of (val := val) (x := x) hB)
 have HK1 := Lib.hid (AsyK.up hK hB)
 replace HY := bk (bk (bk HY hb0) hb1) hb2
 obtain ⟨⟨y0, y1, y2⟩, ⟨y3, y4⟩, yf⟩ := cells5 HY
 clear HR HN hK hKB
 have hcf := (HK1.out.fCell HEF.out hkf).1
 rw [HEQ.out] at hcf
 have hcq := (HK1.out.frCell HAT.out.hf HEQ.out hpf).1
 rw [HEL.out] at hcq
 obtain ⟨ho0, ho1⟩ := HOC.out w2 x HK1.out rfl
 have k5 : (ak == 5) = false := by rw [beq_eq_false_iff_ne]; omega
 go_enter Tryz.func64, Tryz.ntmps64
 go_wp2_with fail
 rw [HP2.out, HP1.out, ← HW.out]
 clear eg0 eg1 eg2 eg3 eg4 eg5 eg6 eq0 eq1 eq2 eu0 eu1 eu2 eu3
 refine wp_region_held_drew (S := fun w' => w'.cell? ⟨P, 4, none⟩ = some (.slice (some ⟨gx, 0, none⟩) x.flight.length cf) ∧ w'.cell? ⟨gx, k, none⟩ = some (.slice (some ⟨gq, 0, none⟩) f.length cq) ∧ w'.cell? ⟨P2, 2, none⟩ = some (.int .i64 (p : Int))) (by kernel_rfl) ?_ (fun hHeld => ?_)
 ·
  go_keep
 refine stk 0 100 ?_
 refine stk 1 101 ?_
 refine stk 2 102 ?_
 refine stk 3 103 ?_
 refine stk 4 104 ?_
 refine stk 5 105 ?_
 refine stk 6 106 ?_
 refine stk 7 107 ?_
 refine stk 8 108 ?_
 refine stk 9 109 ?_
 refine stk 10 10 ?_
 refine wpAnyH_done (by kernel_rfl) ?_ _
 rcases hak with h2 | h3 | h4
 ·
  subst h2
  go_wp2_with fail
  refine wp_region_held_drew (S := fun w' => w'.cell? ⟨gq, p, none⟩ = some (.slice (some ⟨gl, 0, none⟩) ls.length c9) ∧ w'.cell? ⟨P2, 3, none⟩ = some (.int .i64 (a : Int)) ∧ w'.cell? ⟨gl, a * 2, none⟩ = some (.int .i64 e.1) ∧ w'.cell? ⟨gl, a * 2 + 1, none⟩ = some (.int .i64 e.2)) (by kernel_rfl) ?_ (fun hHeld => ?_)
  ·
   go_keep
  refine stk 0 180 ?_
  refine stk 1 181 ?_
  refine stk 2 182 ?_
  refine stk 3 183 ?_
  refine stk 4 184 ?_
  refine stk 5 185 ?_
  refine stk 6 186 ?_
  refine tr 7 rfl (by kernel_rfl) (fun K hK => ?_)
  go_simp
  have v0 := Lib.cell?_alloc_some (.cells #[.int .i64 0, .int .i64 0] 121) hcq
  have v1 := Lib.cell?_alloc_some (.cells #[.int .i64 0, .int .i64 0] 121) u3
  have v2 := Lib.cell?_alloc_some (.cells #[.int .i64 0, .int .i64 0] 121) ho0
  have v3 := Lib.cell?_alloc_some (.cells #[.int .i64 0, .int .i64 0] 121) ho1
  refine hK.out _ _ ?_ (fun hHeld => ?_)
  ·
   go_keep
  clear hK K
  try simp only [Act.put, pu]
  refine tr 8 rfl (by kernel_rfl) (fun K hK => ?_)
  go_simp
  clear v0 v1 v2 v3
  have v0 := Lib.cell?_alloc_some (.cells #[.int .i64 e.1, .int .i64 e.2] 121) hcq
  have v1 := Lib.cell?_alloc_some (.cells #[.int .i64 e.1, .int .i64 e.2] 121) u3
  have v2 := Lib.cell?_alloc_some (.cells #[.int .i64 e.1, .int .i64 e.2] 121) ho0
  have v3 := Lib.cell?_alloc_some (.cells #[.int .i64 e.1, .int .i64 e.2] 121) ho1
  refine hK.out _ _ ?_ (fun hHeld => ?_)
  ·
   go_keep
  clear hK K
  try simp only [Act.put, pu]
  refine wpAnyH_done (by kernel_rfl) ?_ _
  obtain ⟨wv, hwv, hb7, HB7, hzv, HSV⟩ := box2 w2 (.int .i64 e.1) (.int .i64 e.2) 121
  obtain ⟨P4, hP4⟩ : ∃ z, z = w2.heap.size := ⟨_, rfl⟩
  have hP4w : w.heap.size < P4 := by rw [hP4]; omega
  rw [← hwv]
  rw [← hP4] at HB7 hzv ⊢
  clear v0 v1 v2 v3 hcf hcq ho0 ho1 hwv hP4 y0 y1 y2 y3 y4 yf
  have hzhb7 := hb7.size
  clear g0 g1 g2 g3 g4 g5 g6 gf q0 q1 q2 qf u0 u1 u2 u3 uf
  replace HM := bk HM hb7
  replace HD := bk HD hb7
  replace HA := bk HA hb7
  replace hB := bl_trans hB hb7
  obtain ⟨⟨g0, g1, g2⟩, ⟨g3, g4, g5, g6⟩, gf⟩ := cells7 HM
  obtain ⟨q0, q1, q2, qf⟩ := cells3 HD
  obtain ⟨⟨u0, u1⟩, ⟨u2, u3⟩, uf⟩ := cells4a HA
  replace HY := bk HY hb7
  obtain ⟨⟨y0, y1, y2⟩, ⟨y3, y4⟩, yf⟩ := cells5 HY
  obtain ⟨z0, z1, zf⟩ := cells2 HB7
  have hbE : Below base w wv := hB.mono hbase
  have HFE := Lib.hid (HFR.out.below hb7)
  have HKV := Lib.hid (AsyK.up HK1.out hb7)
  clear uf
  go_wp2_with fail
  have hcr := (HKV.out.rCell HER.out HAT.out.hr).1
  have hcs := (HKV.out.sCell (k := k) HES.out hks).1
  rw [HEW.out] at hcs
  obtain ⟨hcy, hfy⟩ := HKV.out.slCell HAT.out.hs HEW.out HY0.out
  by_cases h3 : e.1 = r
  ·
   have k3 : (e.1 == r) = true := by rw [beq_iff_eq]; exact h3
   by_cases h5 : y = -1
   ·
    have k5 : (y == -1) = true := by rw [beq_iff_eq]; exact h5
    have HL2 := Lib.hid (show letterA x 2 k p a = { x with flight := x.flight.set k ((portsAt x k).set p (ls.take a ++ ls.drop (a + 1))), slots := x.slots.set k ((slotsAt x k).set p e.2) } by rw [HLN.out 2 (by decide), if_pos ⟨rfl, h3, h5⟩])
    clear h3 h5
    refine wp_region_held_drew (S := fun w' => w'.cell? ⟨P4, 0, none⟩ = some (.int .i64 e.1) ∧ w'.cell? ⟨P, 0, none⟩ = some (.slice (some ⟨gr, 0, none⟩) x.rounds.length cr) ∧ w'.cell? ⟨gr, k, none⟩ = some (.int .i64 r) ∧ w'.cell? ⟨P, 3, none⟩ = some (.slice (some ⟨gs, 0, none⟩) x.slots.length cs) ∧ w'.cell? ⟨gs, k, none⟩ = some (.slice (some ⟨gw, 0, none⟩) s.length cw) ∧ w'.cell? ⟨P2, 2, none⟩ = some (.int .i64 (p : Int)) ∧ w'.cell? ⟨gw, p, none⟩ = some (.int .i64 y)) (by kernel_rfl) ?_ (fun hHeld => ?_)
    ·
     go_keep
    refine stk 0 187 ?_
    refine stk 1 188 ?_
    refine stk 2 189 ?_
    refine stk 3 190 ?_
    refine stk 4 191 ?_
    refine stk 5 192 ?_
    refine stk 6 193 ?_
    refine stk 7 194 ?_
    refine stk 8 195 ?_
    refine stk 9 196 ?_
    refine stk 10 197 ?_
    refine stk 11 198 ?_
    refine stk 12 199 ?_
    refine stk 13 200 ?_
    refine stk 14 201 ?_
    refine stk 15 202 ?_
    refine stk 16 203 ?_
    refine stk 17 204 ?_
    refine stk 18 205 ?_
    refine stk 19 206 ?_
    refine stk 20 207 ?_
    refine stk 21 208 ?_
    refine stk 22 209 ?_
    refine stk 23 210 ?_
    refine wpAnyH_done (by kernel_rfl) ?_ _
    go_wp2_with fail
    refine till_region (S := fun w' => w'.cell? ⟨P, 3, none⟩ = some (.slice (some ⟨gs, 0, none⟩) x.slots.length cs) ∧ w'.cell? ⟨gs, k, none⟩ = some (.slice (some ⟨gw, 0, none⟩) s.length cw) ∧ w'.cell? ⟨P2, 2, none⟩ = some (.int .i64 (p : Int)) ∧ w'.cell? ⟨P4, 1, none⟩ = some (.int .i64 e.2)) (st := 12) (by kernel_rfl) ⟨y3, hcs, u2, z1⟩ (fun hHeld => ?_)
    refine utf 0 211 ?_
    refine utf 1 212 ?_
    refine utf 2 213 ?_
    refine utk 3 214 ?_
    refine utf 4 215 ?_
    refine utf 5 216 ?_
    refine utk 6 217 ?_
    refine utf 7 218 ?_
    refine utk 8 219 ?_
    refine utf 9 220 ?_
    refine utk 10 221 ?_
    refine utf 11 222 ?_
    refine ur 12 rfl (by kernel_rfl) (fun K hK => ?_)
    go_simp
    obtain ⟨w5, hw5, hk5, hz5a, hz5b⟩ := setE wv gw p (.int .i64 e.2)
    rw [← hw5]
    have hK5 : AsyK w5 base val { x with slots := x.slots.set k ((slotsAt x k).set p e.2) } := by
     rw [hw5]
     exact AsyK.setSlot HKV.out (k := k) hks (by rw [HSA.out]; exact HEW.out) p e.2
    have hbB5 : Below base w w5 := by rw [hw5]; exact hbE.setCell (p := ⟨gw, p, none⟩) hgw1 _
    have HF5 := Lib.hid (show Frame val x w w5 by rw [hw5]; exact HFE.out.set (.sl k) hks (by rw [HEW.out]; rfl) p _)
    have HK5 := Lib.hid hK5
    replace HA := Lib.hid ((hk5 P2 (by omega)).trans HA.out)
    clear hw5 hK5 hk5 y0 y1 y2 y3 y4 yf u0 u1 u2 u3 z0 z1 zf hcr hcs hcy hfy
    obtain ⟨⟨u0, u1⟩, ⟨u2, u3⟩, -⟩ := cells4a HA
    refine hK.out (fun h' => till_no h' (by kernel_rfl)) ?_
    clear hK K
    try simp only [Act.put, pu]
    refine wpTill_done (by kernel_rfl) ?_ _
    go_wp2_with fail
    have hcq := (HK5.out.frCell HAT.out.hf HEQ.out hpf).1
    rw [HEL.out] at hcq
    refine till_region (S := fun w' => w'.cell? ⟨gq, p, none⟩ = some (.slice (some ⟨gl, 0, none⟩) ls.length c9) ∧ w'.cell? ⟨P2, 3, none⟩ = some (.int .i64 (a : Int))) (st := 11) (by kernel_rfl) ⟨hcq, u3⟩ (fun hHeld => ?_)
    obtain ⟨W0, hW0⟩ : ∃ z, z = w5.drew.drew.drew.drew.drew := ⟨_, rfl⟩
    rw [← hW0]
    replace hcq : W0.cell? ⟨gq, p, none⟩ = some (.slice (some ⟨gl, 0, none⟩) ls.length c9) := by rw [hW0]; exact hcq
    replace u3 : W0.cell? ⟨P2, 3, none⟩ = some (.int .i64 (a : Int)) := by rw [hW0]; exact u3
    have HKW := Lib.hid (show AsyK W0 base val { x with slots := x.slots.set k ((slotsAt x k).set p e.2) } by rw [hW0]; exact HK5.out.drew.drew.drew.drew.drew)
    have HOW := Lib.hid (by have h1 := AsyK.leOwn HKW.out HAT.out.hf HPL.out; rw [HEL.out] at h1; exact h1 : W0.ownsRow base 121 2 (.slice (some ⟨gl, 0, none⟩) ls.length c9) ls.length (letCells ls))
    have hbW : Below base w W0 := by rw [hW0]; exact hbB5.drew.drew.drew.drew.drew
    have hlW : base ≤ W0.heap.size := by have := hbW.size; omega
    have HFW := Lib.hid (show Frame val x w W0 by rw [hW0]; exact HF5.out.drew.drew.drew.drew.drew)
    have hzW : w.heap.size ≤ W0.heap.size := HFW.out.1
    obtain ⟨cq0, fq0⟩ := HKW.out.frCell HAT.out.hf HEQ.out hpf
    rw [HEL.out] at cq0
    clear hW0 hHeld
    refine utf 0 223 ?_
    refine utf 1 224 ?_
    refine utf 2 225 ?_
    refine utk 3 226 ?_
    refine utf 4 227 ?_
    refine utk 5 228 ?_
    refine utf 6 229 ?_
    refine utk 7 230 ?_
    refine utf 8 231 ?_
    refine ur 9 rfl (by kernel_rfl) (fun K hK => ?_)
    go_simp
    go_at_call 89
    refine (delete_letters base _ (letCells ls) M a W0 (by have := HOW.out; rw [HM1.out] at this ⊢; exact this) letCells_one (by have := HM1.out; omega) (by have := HM1.out; omega)).mono ?_
    rintro e' w6 ⟨v6, rfl, hown6, hgr6, hob6⟩
    obtain ⟨A7, c7, rfl⟩ := own_sl1 hown6
    have hbl6 : Below base W0 w6 := (Below.refl base W0).grown hgr6 hlW (fun k hk => (HOW.out.lt k hk).1)
    have hbq6 := hgr6.block gq (by omega) (ne_row (fun g hg => by have e1 : gl = g := Option.some.inj hg; show g ≠ gq; omega))
    have fq6 := (World.frozen?_of_block (a := ⟨gq, p, none⟩) hbq6).trans fq0
    have cq6 := (World.cell?_of_block (a := ⟨gq, p, none⟩) hbq6).trans cq0
    replace hcq := cq6
    replace u3 := hgr6.cell u3 (ne_row (fun g hg => by have e1 : gl = g := Option.some.inj hg; show g ≠ P2; omega))
    refine hK.out (fun _ => ⟨hcq, u3⟩) ?_
    clear hK K
    try simp only [Act.put, pu]
    refine utf 10 233 ?_
    refine ur 11 rfl (by kernel_rfl) (fun K hK => ?_)
    go_simp
    obtain ⟨w7, hw7, hk7, -, hz7⟩ := setE w6 gq p (.slice A7 M c7)
    rw [← hw7]
    have hK7 : AsyK w7 base (upd val (.le k p) (.slice A7 M c7)) { { x with slots := x.slots.set k ((slotsAt x k).set p e.2) } with flight := x.flight.set k ((portsAt x k).set p (ls.take a ++ ls.drop (a + 1))) } := by
     rw [hw7]
     have h1 := AsyK.newLetters (w' := w6) (v := (.slice A7 M c7)) (ls := ls.take a ++ ls.drop (a + 1)) HKW.out hkf (by show p < (portsAt x k).length; rw [HPA.out]; exact hpf) (by show _ = Value.slice _ (portsAt x k).length _; rw [HPA.out]; exact HEQ.out) (by rw [HEL.out]; exact hgr6) (by rw [HNE.out, ← HCE.out]; exact hown6) (by rw [HEL.out]; exact (.inl hob6))
     exact h1
    have hbB7 : Below base w w7 := by rw [hw7]; exact (hbW.trans hbl6).setCell (p := ⟨gq, p, none⟩) hgq1 _
    have HF7 := Lib.hid (show Frame val x w w7 by rw [hw7]; exact (HFW.out.grown (.le k p) hkle (by rw [HEL.out]; exact hgr6)).set (.fr k) hkf (by rw [HEQ.out]; rfl) p _)
    have HV6 := Lib.hid (show (Value.slice A7 M c7).ownBlock ≠ some P from ne_of (n := W0.heap.size) (.inl hob6) (fun e => hPl (Option.some.inj e).symm) (by omega))
    have HK7 := Lib.hid hK7
    clear hw7 hK7
    refine hK.out (fun h' => till_no h' (by kernel_rfl)) ?_
    clear hK K
    try simp only [Act.put, pu]
    refine wpTill_done (by kernel_rfl) ?_ _
    go_wp2_with fail
    have hf : Frame val x w w7 := HF7.out
    have hfin : AsyB w7 base (upd val (.le k p) (.slice A7 M c7)) (letterA x 2 k p a) P := by
     rw [HL2.out]
     exact HKB.out.after hf HK7.out (heads_le _ _ _ _) (HKB.out.ne_upd (fun j hj => keyOf_fset hkf j (keyOf_of (x := { x with flight := x.flight.set k ((portsAt x k).set p (ls.take a ++ ls.drop (a + 1))) }) (y := { x with flight := x.flight.set k ((portsAt x k).set p (ls.take a ++ ls.drop (a + 1))), slots := x.slots.set k ((slotsAt x k).set p e.2) }) (by simp) rfl (fun _ _ => rfl) hj)) (.le k p) HV6.out)
    exact bodyPost_ret (v := .tuple #[]) (by simp [results, Tryz.results64, go_sem]) rfl ⟨rfl, hbB7, hf, _, heads_le _ _ _ _, hfin⟩
   ·
    have k5 : (y == -1) = false := by rw [beq_eq_false_iff_ne]; exact h5
    have HL2 := Lib.hid (show letterA x 2 k p a = { x with flight := x.flight.set k ((portsAt x k).set p (ls.take a ++ ls.drop (a + 1))) } by rw [HLN.out 2 (by decide), if_neg (fun h => h5 h.2.2)])
    clear h3 h5
    refine wp_region_held_drew (S := fun w' => w'.cell? ⟨P4, 0, none⟩ = some (.int .i64 e.1) ∧ w'.cell? ⟨P, 0, none⟩ = some (.slice (some ⟨gr, 0, none⟩) x.rounds.length cr) ∧ w'.cell? ⟨gr, k, none⟩ = some (.int .i64 r) ∧ w'.cell? ⟨P, 3, none⟩ = some (.slice (some ⟨gs, 0, none⟩) x.slots.length cs) ∧ w'.cell? ⟨gs, k, none⟩ = some (.slice (some ⟨gw, 0, none⟩) s.length cw) ∧ w'.cell? ⟨P2, 2, none⟩ = some (.int .i64 (p : Int)) ∧ w'.cell? ⟨gw, p, none⟩ = some (.int .i64 y)) (by kernel_rfl) ?_ (fun hHeld => ?_)
    ·
     go_keep
    refine stk 0 187 ?_
    refine stk 1 188 ?_
    refine stk 2 189 ?_
    refine stk 3 190 ?_
    refine stk 4 191 ?_
    refine stk 5 192 ?_
    refine stk 6 193 ?_
    refine stk 7 194 ?_
    refine stk 8 195 ?_
    refine stk 9 196 ?_
    refine stk 10 197 ?_
    refine stk 11 198 ?_
    refine stk 12 199 ?_
    refine stk 13 200 ?_
    refine stk 14 201 ?_
    refine stk 15 202 ?_
    refine stk 16 203 ?_
    refine stk 17 204 ?_
    refine stk 18 205 ?_
    refine stk 19 206 ?_
    refine stk 20 207 ?_
    refine stk 21 208 ?_
    refine stk 22 209 ?_
    refine stk 23 210 ?_
    refine wpAnyH_done (by kernel_rfl) ?_ _
    go_wp2_with fail
    have hcq := (HKV.out.frCell HAT.out.hf HEQ.out hpf).1
    rw [HEL.out] at hcq
    refine till_region (S := fun w' => w'.cell? ⟨gq, p, none⟩ = some (.slice (some ⟨gl, 0, none⟩) ls.length c9) ∧ w'.cell? ⟨P2, 3, none⟩ = some (.int .i64 (a : Int))) (st := 11) (by kernel_rfl) ⟨hcq, u3⟩ (fun hHeld => ?_)
    obtain ⟨W0, hW0⟩ : ∃ z, z = wv.drew.drew.drew.drew := ⟨_, rfl⟩
    rw [← hW0]
    replace hcq : W0.cell? ⟨gq, p, none⟩ = some (.slice (some ⟨gl, 0, none⟩) ls.length c9) := by rw [hW0]; exact hcq
    replace u3 : W0.cell? ⟨P2, 3, none⟩ = some (.int .i64 (a : Int)) := by rw [hW0]; exact u3
    have HKW := Lib.hid (show AsyK W0 base val x by rw [hW0]; exact HKV.out.drew.drew.drew.drew)
    have HOW := Lib.hid (by have h1 := AsyK.leOwn HKW.out HAT.out.hf HPL.out; rw [HEL.out] at h1; exact h1 : W0.ownsRow base 121 2 (.slice (some ⟨gl, 0, none⟩) ls.length c9) ls.length (letCells ls))
    have hbW : Below base w W0 := by rw [hW0]; exact hbE.drew.drew.drew.drew
    have hlW : base ≤ W0.heap.size := by have := hbW.size; omega
    have HFW := Lib.hid (show Frame val x w W0 by rw [hW0]; exact HFE.out.drew.drew.drew.drew)
    have hzW : w.heap.size ≤ W0.heap.size := HFW.out.1
    obtain ⟨cq0, fq0⟩ := HKW.out.frCell HAT.out.hf HEQ.out hpf
    rw [HEL.out] at cq0
    clear hW0 hHeld
    refine utf 0 223 ?_
    refine utf 1 224 ?_
    refine utf 2 225 ?_
    refine utk 3 226 ?_
    refine utf 4 227 ?_
    refine utk 5 228 ?_
    refine utf 6 229 ?_
    refine utk 7 230 ?_
    refine utf 8 231 ?_
    refine ur 9 rfl (by kernel_rfl) (fun K hK => ?_)
    go_simp
    go_at_call 89
    refine (delete_letters base _ (letCells ls) M a W0 (by have := HOW.out; rw [HM1.out] at this ⊢; exact this) letCells_one (by have := HM1.out; omega) (by have := HM1.out; omega)).mono ?_
    rintro e' w6 ⟨v6, rfl, hown6, hgr6, hob6⟩
    obtain ⟨A7, c7, rfl⟩ := own_sl1 hown6
    have hbl6 : Below base W0 w6 := (Below.refl base W0).grown hgr6 hlW (fun k hk => (HOW.out.lt k hk).1)
    have hbq6 := hgr6.block gq (by omega) (ne_row (fun g hg => by have e1 : gl = g := Option.some.inj hg; show g ≠ gq; omega))
    have fq6 := (World.frozen?_of_block (a := ⟨gq, p, none⟩) hbq6).trans fq0
    have cq6 := (World.cell?_of_block (a := ⟨gq, p, none⟩) hbq6).trans cq0
    replace hcq := cq6
    replace u3 := hgr6.cell u3 (ne_row (fun g hg => by have e1 : gl = g := Option.some.inj hg; show g ≠ P2; omega))
    refine hK.out (fun _ => ⟨hcq, u3⟩) ?_
    clear hK K
    try simp only [Act.put, pu]
    refine utf 10 233 ?_
    refine ur 11 rfl (by kernel_rfl) (fun K hK => ?_)
    go_simp
    obtain ⟨w7, hw7, hk7, -, hz7⟩ := setE w6 gq p (.slice A7 M c7)
    rw [← hw7]
    have hK7 : AsyK w7 base (upd val (.le k p) (.slice A7 M c7)) { x with flight := x.flight.set k ((portsAt x k).set p (ls.take a ++ ls.drop (a + 1))) } := by
     rw [hw7]
     have h1 := AsyK.newLetters (w' := w6) (v := (.slice A7 M c7)) (ls := ls.take a ++ ls.drop (a + 1)) HKW.out hkf (by show p < (portsAt x k).length; rw [HPA.out]; exact hpf) (by show _ = Value.slice _ (portsAt x k).length _; rw [HPA.out]; exact HEQ.out) (by rw [HEL.out]; exact hgr6) (by rw [HNE.out, ← HCE.out]; exact hown6) (by rw [HEL.out]; exact (.inl hob6))
     exact h1
    have hbB7 : Below base w w7 := by rw [hw7]; exact (hbW.trans hbl6).setCell (p := ⟨gq, p, none⟩) hgq1 _
    have HF7 := Lib.hid (show Frame val x w w7 by rw [hw7]; exact (HFW.out.grown (.le k p) hkle (by rw [HEL.out]; exact hgr6)).set (.fr k) hkf (by rw [HEQ.out]; rfl) p _)
    have HV6 := Lib.hid (show (Value.slice A7 M c7).ownBlock ≠ some P from ne_of (n := W0.heap.size) (.inl hob6) (fun e => hPl (Option.some.inj e).symm) (by omega))
    have HK7 := Lib.hid hK7
    clear hw7 hK7
    refine hK.out (fun h' => till_no h' (by kernel_rfl)) ?_
    clear hK K
    try simp only [Act.put, pu]
    refine wpTill_done (by kernel_rfl) ?_ _
    go_wp2_with fail
    have hf : Frame val x w w7 := HF7.out
    have hfin : AsyB w7 base (upd val (.le k p) (.slice A7 M c7)) (letterA x 2 k p a) P := by
     rw [HL2.out]
     exact HKB.out.after hf HK7.out (heads_le _ _ _ _) (HKB.out.ne_upd (fun j hj => keyOf_fset hkf j hj) (.le k p) HV6.out)
    exact bodyPost_ret (v := .tuple #[]) (by simp [results, Tryz.results64, go_sem]) rfl ⟨rfl, hbB7, hf, _, heads_le _ _ _ _, hfin⟩
  ·
   have k3 : (e.1 == r) = false := by rw [beq_eq_false_iff_ne]; exact h3
   have HL2 := Lib.hid (show letterA x 2 k p a = { x with flight := x.flight.set k ((portsAt x k).set p (ls.take a ++ ls.drop (a + 1))) } by rw [HLN.out 2 (by decide), if_neg (fun h => h3 h.2.1)])
   clear h3
   refine wp_region_held_drew (S := fun w' => w'.cell? ⟨P4, 0, none⟩ = some (.int .i64 e.1) ∧ w'.cell? ⟨P, 0, none⟩ = some (.slice (some ⟨gr, 0, none⟩) x.rounds.length cr) ∧ w'.cell? ⟨gr, k, none⟩ = some (.int .i64 r) ∧ w'.cell? ⟨P, 3, none⟩ = some (.slice (some ⟨gs, 0, none⟩) x.slots.length cs) ∧ w'.cell? ⟨gs, k, none⟩ = some (.slice (some ⟨gw, 0, none⟩) s.length cw) ∧ w'.cell? ⟨P2, 2, none⟩ = some (.int .i64 (p : Int)) ∧ w'.cell? ⟨gw, p, none⟩ = some (.int .i64 y)) (by kernel_rfl) ?_ (fun hHeld => ?_)
   ·
    go_keep
   refine stk 0 187 ?_
   refine stk 1 188 ?_
   refine stk 2 189 ?_
   refine stk 3 190 ?_
   refine stk 4 191 ?_
   refine stk 5 192 ?_
   refine stk 6 193 ?_
   refine stk 7 194 ?_
   refine stk 8 195 ?_
   refine stk 9 196 ?_
   refine stk 10 197 ?_
   refine stn 11 198 ?_
   refine stn 12 199 ?_
   refine stn 13 200 ?_
   refine stn 14 201 ?_
   refine stn 15 202 ?_
   refine stn 16 203 ?_
   refine stn 17 204 ?_
   refine stn 18 205 ?_
   refine stn 19 206 ?_
   refine stn 20 207 ?_
   refine stn 21 208 ?_
   refine stn 22 209 ?_
   refine stk 23 210 ?_
   refine wpAnyH_done (by kernel_rfl) ?_ _
   go_wp2_with fail
   have hcq := (HKV.out.frCell HAT.out.hf HEQ.out hpf).1
   rw [HEL.out] at hcq
   refine till_region (S := fun w' => w'.cell? ⟨gq, p, none⟩ = some (.slice (some ⟨gl, 0, none⟩) ls.length c9) ∧ w'.cell? ⟨P2, 3, none⟩ = some (.int .i64 (a : Int))) (st := 11) (by kernel_rfl) ⟨hcq, u3⟩ (fun hHeld => ?_)
   obtain ⟨W0, hW0⟩ : ∃ z, z = wv.drew.drew.drew.drew := ⟨_, rfl⟩
   rw [← hW0]
   replace hcq : W0.cell? ⟨gq, p, none⟩ = some (.slice (some ⟨gl, 0, none⟩) ls.length c9) := by rw [hW0]; exact hcq
   replace u3 : W0.cell? ⟨P2, 3, none⟩ = some (.int .i64 (a : Int)) := by rw [hW0]; exact u3
   have HKW := Lib.hid (show AsyK W0 base val x by rw [hW0]; exact HKV.out.drew.drew.drew.drew)
   have HOW := Lib.hid (by have h1 := AsyK.leOwn HKW.out HAT.out.hf HPL.out; rw [HEL.out] at h1; exact h1 : W0.ownsRow base 121 2 (.slice (some ⟨gl, 0, none⟩) ls.length c9) ls.length (letCells ls))
   have hbW : Below base w W0 := by rw [hW0]; exact hbE.drew.drew.drew.drew
   have hlW : base ≤ W0.heap.size := by have := hbW.size; omega
   have HFW := Lib.hid (show Frame val x w W0 by rw [hW0]; exact HFE.out.drew.drew.drew.drew)
   have hzW : w.heap.size ≤ W0.heap.size := HFW.out.1
   obtain ⟨cq0, fq0⟩ := HKW.out.frCell HAT.out.hf HEQ.out hpf
   rw [HEL.out] at cq0
   clear hW0 hHeld
   refine utf 0 223 ?_
   refine utf 1 224 ?_
   refine utf 2 225 ?_
   refine utk 3 226 ?_
   refine utf 4 227 ?_
   refine utk 5 228 ?_
   refine utf 6 229 ?_
   refine utk 7 230 ?_
   refine utf 8 231 ?_
   refine ur 9 rfl (by kernel_rfl) (fun K hK => ?_)
   go_simp
   go_at_call 89
   refine (delete_letters base _ (letCells ls) M a W0 (by have := HOW.out; rw [HM1.out] at this ⊢; exact this) letCells_one (by have := HM1.out; omega) (by have := HM1.out; omega)).mono ?_
   rintro e' w6 ⟨v6, rfl, hown6, hgr6, hob6⟩
   obtain ⟨A7, c7, rfl⟩ := own_sl1 hown6
   have hbl6 : Below base W0 w6 := (Below.refl base W0).grown hgr6 hlW (fun k hk => (HOW.out.lt k hk).1)
   have hbq6 := hgr6.block gq (by omega) (ne_row (fun g hg => by have e1 : gl = g := Option.some.inj hg; show g ≠ gq; omega))
   have fq6 := (World.frozen?_of_block (a := ⟨gq, p, none⟩) hbq6).trans fq0
   have cq6 := (World.cell?_of_block (a := ⟨gq, p, none⟩) hbq6).trans cq0
   replace hcq := cq6
   replace u3 := hgr6.cell u3 (ne_row (fun g hg => by have e1 : gl = g := Option.some.inj hg; show g ≠ P2; omega))
   refine hK.out (fun _ => ⟨hcq, u3⟩) ?_
   clear hK K
   try simp only [Act.put, pu]
   refine utf 10 233 ?_
   refine ur 11 rfl (by kernel_rfl) (fun K hK => ?_)
   go_simp
   obtain ⟨w7, hw7, hk7, -, hz7⟩ := setE w6 gq p (.slice A7 M c7)
   rw [← hw7]
   have hK7 : AsyK w7 base (upd val (.le k p) (.slice A7 M c7)) { x with flight := x.flight.set k ((portsAt x k).set p (ls.take a ++ ls.drop (a + 1))) } := by
    rw [hw7]
    have h1 := AsyK.newLetters (w' := w6) (v := (.slice A7 M c7)) (ls := ls.take a ++ ls.drop (a + 1)) HKW.out hkf (by show p < (portsAt x k).length; rw [HPA.out]; exact hpf) (by show _ = Value.slice _ (portsAt x k).length _; rw [HPA.out]; exact HEQ.out) (by rw [HEL.out]; exact hgr6) (by rw [HNE.out, ← HCE.out]; exact hown6) (by rw [HEL.out]; exact (.inl hob6))
    exact h1
   have hbB7 : Below base w w7 := by rw [hw7]; exact (hbW.trans hbl6).setCell (p := ⟨gq, p, none⟩) hgq1 _
   have HF7 := Lib.hid (show Frame val x w w7 by rw [hw7]; exact (HFW.out.grown (.le k p) hkle (by rw [HEL.out]; exact hgr6)).set (.fr k) hkf (by rw [HEQ.out]; rfl) p _)
   have HV6 := Lib.hid (show (Value.slice A7 M c7).ownBlock ≠ some P from ne_of (n := W0.heap.size) (.inl hob6) (fun e => hPl (Option.some.inj e).symm) (by omega))
   have HK7 := Lib.hid hK7
   clear hw7 hK7
   refine hK.out (fun h' => till_no h' (by kernel_rfl)) ?_
   clear hK K
   try simp only [Act.put, pu]
   refine wpTill_done (by kernel_rfl) ?_ _
   go_wp2_with fail
   have hf : Frame val x w w7 := HF7.out
   have hfin : AsyB w7 base (upd val (.le k p) (.slice A7 M c7)) (letterA x 2 k p a) P := by
    rw [HL2.out]
    exact HKB.out.after hf HK7.out (heads_le _ _ _ _) (HKB.out.ne_upd (fun j hj => keyOf_fset hkf j hj) (.le k p) HV6.out)
   exact bodyPost_ret (v := .tuple #[]) (by simp [results, Tryz.results64, go_sem]) rfl ⟨rfl, hbB7, hf, _, heads_le _ _ _ _, hfin⟩
 ·
  subst h3
  have HL2 := Lib.hid (show letterA x 3 k p a = { x with flight := x.flight.set k ((portsAt x k).set p (ls.take a ++ ls.drop (a + 1))) } by rw [HLN.out 3 (by decide), if_neg (fun h => absurd h.1 (by decide))])
  go_wp2_with fail
  clear uf
  clear hcq
  have hcq := (HK1.out.frCell HAT.out.hf HEQ.out hpf).1
  rw [HEL.out] at hcq
  refine till_region (S := fun w' => w'.cell? ⟨gq, p, none⟩ = some (.slice (some ⟨gl, 0, none⟩) ls.length c9) ∧ w'.cell? ⟨P2, 3, none⟩ = some (.int .i64 (a : Int))) (st := 11) (by kernel_rfl) ⟨hcq, u3⟩ (fun hHeld => ?_)
  obtain ⟨W0, hW0⟩ : ∃ z, z = w2.drew.drew := ⟨_, rfl⟩
  rw [← hW0]
  replace hcq : W0.cell? ⟨gq, p, none⟩ = some (.slice (some ⟨gl, 0, none⟩) ls.length c9) := by rw [hW0]; exact hcq
  replace u3 : W0.cell? ⟨P2, 3, none⟩ = some (.int .i64 (a : Int)) := by rw [hW0]; exact u3
  have HKW := Lib.hid (show AsyK W0 base val x by rw [hW0]; exact HK1.out.drew.drew)
  have HOW := Lib.hid (by have h1 := AsyK.leOwn HKW.out HAT.out.hf HPL.out; rw [HEL.out] at h1; exact h1 : W0.ownsRow base 121 2 (.slice (some ⟨gl, 0, none⟩) ls.length c9) ls.length (letCells ls))
  have hbW : Below base w W0 := by rw [hW0]; exact hbB.drew.drew
  have hlW : base ≤ W0.heap.size := by have := hbW.size; omega
  have HFW := Lib.hid (show Frame val x w W0 by rw [hW0]; exact HFR.out.drew.drew)
  have hzW : w.heap.size ≤ W0.heap.size := HFW.out.1
  obtain ⟨cq0, fq0⟩ := HKW.out.frCell HAT.out.hf HEQ.out hpf
  rw [HEL.out] at cq0
  clear hW0 hHeld
  refine utf 0 236 ?_
  refine utf 1 237 ?_
  refine utf 2 238 ?_
  refine utk 3 239 ?_
  refine utf 4 240 ?_
  refine utk 5 241 ?_
  refine utf 6 242 ?_
  refine utk 7 243 ?_
  refine utf 8 244 ?_
  refine ur 9 rfl (by kernel_rfl) (fun K hK => ?_)
  go_simp
  go_at_call 89
  refine (delete_letters base _ (letCells ls) M a W0 (by have := HOW.out; rw [HM1.out] at this ⊢; exact this) letCells_one (by have := HM1.out; omega) (by have := HM1.out; omega)).mono ?_
  rintro e' w6 ⟨v6, rfl, hown6, hgr6, hob6⟩
  obtain ⟨A7, c7, rfl⟩ := own_sl1 hown6
  have hbl6 : Below base W0 w6 := (Below.refl base W0).grown hgr6 hlW (fun k hk => (HOW.out.lt k hk).1)
  have hbq6 := hgr6.block gq (by omega) (ne_row (fun g hg => by have e1 : gl = g := Option.some.inj hg; show g ≠ gq; omega))
  have fq6 := (World.frozen?_of_block (a := ⟨gq, p, none⟩) hbq6).trans fq0
  have cq6 := (World.cell?_of_block (a := ⟨gq, p, none⟩) hbq6).trans cq0
  replace hcq := cq6
  replace u3 := hgr6.cell u3 (ne_row (fun g hg => by have e1 : gl = g := Option.some.inj hg; show g ≠ P2; omega))
  refine hK.out (fun _ => ⟨hcq, u3⟩) ?_
  clear hK K
  try simp only [Act.put, pu]
  refine utf 10 246 ?_
  refine ur 11 rfl (by kernel_rfl) (fun K hK => ?_)
  go_simp
  obtain ⟨w7, hw7, hk7, -, hz7⟩ := setE w6 gq p (.slice A7 M c7)
  rw [← hw7]
  have hK7 : AsyK w7 base (upd val (.le k p) (.slice A7 M c7)) { x with flight := x.flight.set k ((portsAt x k).set p (ls.take a ++ ls.drop (a + 1))) } := by
   rw [hw7]
   have h1 := AsyK.newLetters (w' := w6) (v := (.slice A7 M c7)) (ls := ls.take a ++ ls.drop (a + 1)) HKW.out hkf (by show p < (portsAt x k).length; rw [HPA.out]; exact hpf) (by show _ = Value.slice _ (portsAt x k).length _; rw [HPA.out]; exact HEQ.out) (by rw [HEL.out]; exact hgr6) (by rw [HNE.out, ← HCE.out]; exact hown6) (by rw [HEL.out]; exact (.inl hob6))
   exact h1
  have hbB7 : Below base w w7 := by rw [hw7]; exact (hbW.trans hbl6).setCell (p := ⟨gq, p, none⟩) hgq1 _
  have HF7 := Lib.hid (show Frame val x w w7 by rw [hw7]; exact (HFW.out.grown (.le k p) hkle (by rw [HEL.out]; exact hgr6)).set (.fr k) hkf (by rw [HEQ.out]; rfl) p _)
  have HV6 := Lib.hid (show (Value.slice A7 M c7).ownBlock ≠ some P from ne_of (n := W0.heap.size) (.inl hob6) (fun e => hPl (Option.some.inj e).symm) (by omega))
  have HK7 := Lib.hid hK7
  clear hw7 hK7
  refine hK.out (fun h' => till_no h' (by kernel_rfl)) ?_
  clear hK K
  try simp only [Act.put, pu]
  refine wpTill_done (by kernel_rfl) ?_ _
  go_wp2_with fail
  have hf : Frame val x w w7 := HF7.out
  have hfin : AsyB w7 base (upd val (.le k p) (.slice A7 M c7)) (letterA x 3 k p a) P := by
   rw [HL2.out]
   exact HKB.out.after hf HK7.out (heads_le _ _ _ _) (HKB.out.ne_upd (fun j hj => keyOf_fset hkf j hj) (.le k p) HV6.out)
  exact bodyPost_ret (v := .tuple #[]) (by simp [results, Tryz.results64, go_sem]) rfl ⟨rfl, hbB7, hf, _, heads_le _ _ _ _, hfin⟩
 ·
  subst h4
  go_wp2_with fail
  clear uf
  refine till_region (S := fun w' => w'.cell? ⟨gq, p, none⟩ = some (.slice (some ⟨gl, 0, none⟩) ls.length c9) ∧ w'.cell? ⟨P2, 3, none⟩ = some (.int .i64 (a : Int))) (st := 14) (by kernel_rfl) ⟨hcq, u3⟩ (fun hHeld => ?_)
  obtain ⟨W0, hW0⟩ : ∃ z, z = w2.drew.drew := ⟨_, rfl⟩
  rw [← hW0]
  replace hcq : W0.cell? ⟨gq, p, none⟩ = some (.slice (some ⟨gl, 0, none⟩) ls.length c9) := by rw [hW0]; exact hcq
  replace u3 : W0.cell? ⟨P2, 3, none⟩ = some (.int .i64 (a : Int)) := by rw [hW0]; exact u3
  replace ho0 : W0.cell? ⟨gl, a * 2, none⟩ = some (.int .i64 e.1) := by rw [hW0]; exact ho0
  replace ho1 : W0.cell? ⟨gl, a * 2 + 1, none⟩ = some (.int .i64 e.2) := by rw [hW0]; exact ho1
  have HKW := Lib.hid (show AsyK W0 base val x by rw [hW0]; exact HK1.out.drew.drew)
  have HOW := Lib.hid (by have h1 := AsyK.leOwn HKW.out HAT.out.hf HPL.out; rw [HEL.out] at h1; exact h1 : W0.ownsRow base 121 2 (.slice (some ⟨gl, 0, none⟩) ls.length c9) ls.length (letCells ls))
  have hbW : Below base w W0 := by rw [hW0]; exact hbB.drew.drew
  have hlW : base ≤ W0.heap.size := by have := hbW.size; omega
  have HFW := Lib.hid (show Frame val x w W0 by rw [hW0]; exact HFR.out.drew.drew)
  have hzW : w.heap.size ≤ W0.heap.size := HFW.out.1
  obtain ⟨cq0, fq0⟩ := HKW.out.frCell HAT.out.hf HEQ.out hpf
  rw [HEL.out] at cq0
  have HQU3 := Lib.hid u3
  clear hW0 hHeld
  refine utf 0 249 ?_
  refine utf 1 250 ?_
  refine utf 2 251 ?_
  refine utk 3 252 ?_
  refine utf 4 253 ?_
  refine utf 5 254 ?_
  refine utk 6 255 ?_
  refine utf 7 256 ?_
  refine utk 8 257 ?_
  refine utf 9 258 ?_
  refine ur 10 rfl (by kernel_rfl) (fun K hK => ?_)
  go_simp
  try skip
  refine hK.out (fun _ => ⟨hcq, u3⟩) ?_
  clear hK K
  try simp only [Act.put, pu]
  refine ur 11 rfl (by kernel_rfl) (fun K hK => ?_)
  go_simp
  replace hcq := Lib.cell?_alloc_some (.cells #[.int .i64 e.1, .int .i64 e.2] 121) hcq
  replace u3 := Lib.cell?_alloc_some (.cells #[.int .i64 e.1, .int .i64 e.2] 121) u3
  refine hK.out (fun _ => ⟨hcq, u3⟩) ?_
  clear hK K
  try simp only [Act.put, pu]
  refine ur 12 rfl (by kernel_rfl) (fun K hK => ?_)
  rw [if_pos (by rfl)]
  refine oper_append2 W0 (.tmp 252) (.tmp 260) rfl base _ ls.length (letCells ls) rfl e rfl HOW.out (by omega) hlW ?_
  intro v6 w6 hown6 hbl6 hgr6 hob6
  obtain ⟨A7, c7, rfl⟩ := own_sl1 hown6
  have hbq6 := hgr6.block gq (by omega) (ne_row (fun g hg => by have e1 : gl = g := Option.some.inj hg; show g ≠ gq; omega))
  have fq6 := (World.frozen?_of_block (a := ⟨gq, p, none⟩) hbq6).trans fq0
  have cq6 := (World.cell?_of_block (a := ⟨gq, p, none⟩) hbq6).trans cq0
  replace hcq := cq6
  clear u3
  have u3 := hgr6.cell HQU3.out (ne_row (fun g hg => by have e1 : gl = g := Option.some.inj hg; show g ≠ P2; omega))
  refine hK.out (fun _ => ⟨hcq, u3⟩) ?_
  clear hK K
  try simp only [Act.put, pu]
  refine utf 13 262 ?_
  refine ur 14 rfl (by kernel_rfl) (fun K hK => ?_)
  go_simp
  obtain ⟨w7, hw7, hk7, -, hz7⟩ := setE w6 gq p (.slice A7 (ls.length + 1) c7)
  rw [← hw7]
  have hK7 : AsyK w7 base (upd val (.le k p) (.slice A7 (ls.length + 1) c7)) { x with flight := x.flight.set k ((portsAt x k).set p (ls ++ [e])) } := by
   rw [hw7]
   have h1 := AsyK.newLetters (w' := w6) (v := (.slice A7 (ls.length + 1) c7)) (ls := ls ++ [e]) HKW.out hkf (by show p < (portsAt x k).length; rw [HPA.out]; exact hpf) (by show _ = Value.slice _ (portsAt x k).length _; rw [HPA.out]; exact HEQ.out) (by rw [HEL.out]; exact hgr6) (by rw [List.length_append, letCells_snoc]; exact hown6) (by rw [HEL.out]; exact hob6)
   exact h1
  have hbB7 : Below base w w7 := by rw [hw7]; exact (hbW.trans hbl6).setCell (p := ⟨gq, p, none⟩) hgq1 _
  have HF7 := Lib.hid (show Frame val x w w7 by rw [hw7]; exact (HFW.out.grown (.le k p) hkle (by rw [HEL.out]; exact hgr6)).set (.fr k) hkf (by rw [HEQ.out]; rfl) p _)
  have HV6 := Lib.hid (show (Value.slice A7 (ls.length + 1) c7).ownBlock ≠ some P from ne_of (n := W0.heap.size) hob6 (fun e => hPl (Option.some.inj e).symm) (by omega))
  have HK7 := Lib.hid hK7
  clear hw7 hK7
  refine hK.out (fun h' => till_no h' (by kernel_rfl)) ?_
  clear hK K
  try simp only [Act.put, pu]
  refine wpTill_done (by kernel_rfl) ?_ _
  go_wp2_with fail
  have hf : Frame val x w w7 := HF7.out
  have hfin : AsyB w7 base (upd val (.le k p) (.slice A7 (ls.length + 1) c7)) (letterA x 4 k p a) P := by
   rw [HL4.out]
   exact HKB.out.after hf HK7.out (heads_le _ _ _ _) (HKB.out.ne_upd (fun j hj => keyOf_fset hkf j hj) (.le k p) HV6.out)
  exact bodyPost_ret (v := .tuple #[]) (by simp [results, Tryz.results64, go_sem]) rfl ⟨rfl, hbB7, hf, _, heads_le _ _ _ _, hfin⟩
end Go.Proofs.YtehkcodbcnhhoaaGreat
