/-
  A letter is delivered, dropped or copied, the reference's side: syLetter.
-/
import Derived.Test.YtehkcodbcnhhoaaGreatESySnd
namespace Go.Proofs.YtehkcodbcnhhoaaGreat
open Go.RowKit
set_option linter.all false
theorem run_cutHi (g m cap a : Nat) (h : a ≤ cap) (h0 : a < 9223372036854775807) (W : World) : (Instr.sliceAt 117 (.slice (some ⟨g, 0, none⟩) m cap) none (some (.int .i64 (a : Int))) none).run Tryz.prog W = .ok (.slice (some ⟨g, 0, none⟩) a cap) W := by
  rw [Go.run_sliceAt_slice (P := Tryz.prog) (w := W) 117 _ _ _ _ (by kernel_rfl), Go.run_slice_h (w := W) 117 (some ⟨g, 0, none⟩) m cap (by kernel_rfl) .i64 (a : Int) (by omega) (by omega)]
  rw [show ((sizeOf (Tryz.prog.elem 117)).run Tryz.prog W) = .ok 2 W by kernel_rfl]
  simp [Result.andThen, sliced, Addr.add]
theorem run_cutLo (g m cap a : Nat) (h : a + 1 ≤ m) (hm : m ≤ cap) (h0 : a < 9223372036854775806) (W : World) : (Instr.sliceAt 117 (.slice (some ⟨g, 0, none⟩) m cap) (some (.int .i64 ((a : Int) + 1))) none none).run Tryz.prog W = .ok (.slice (some (if cap = a + 1 then ⟨g, 0, none⟩ else ⟨g, (a + 1) * 2, none⟩)) (m - (a + 1)) (cap - (a + 1))) W := by
  rw [Go.run_sliceAt_slice (P := Tryz.prog) (w := W) 117 _ _ _ _ (by kernel_rfl), Go.run_slice_l (w := W) 117 (some ⟨g, 0, none⟩) m cap (by kernel_rfl) .i64 ((a : Int) + 1) (by omega) (by omega)]
  rw [show ((sizeOf (Tryz.prog.elem 117)).run Tryz.prog W) = .ok 2 W by kernel_rfl]
  have e : ((a : Int) + 1).toNat = a + 1 := by omega
  simp only [Result.andThen, sliced, e, Option.map_some]
  split
  · rfl
  · rw [Addr.add_lit, Nat.zero_add]
theorem letCells_take (ls : Ends) (a : Nat) : letCells (ls.take a) = (letCells ls).take (a * 2) := by
  induction ls generalizing a with
  | nil => simp [letCells]
  | cons y r ih =>
    cases a with
    | zero => simp [letCells]
    | succ a =>
      rw [List.take_succ_cons, show letCells (y :: r) = letC y ++ letCells r from rfl, show letCells (y :: r.take a) = letC y ++ letCells (r.take a) from rfl, ih, show (a + 1) * 2 = a * 2 + 1 + 1 by omega]
      rfl
theorem letCells_drop (ls : Ends) (a : Nat) : letCells (ls.drop a) = (letCells ls).drop (a * 2) := by
  induction ls generalizing a with
  | nil => simp [letCells]
  | cons y r ih =>
    cases a with
    | zero => simp
    | succ a =>
      rw [List.drop_succ_cons, show letCells (y :: r) = letC y ++ letCells r from rfl, ih, show (a + 1) * 2 = a * 2 + 1 + 1 by omega]
      rfl
theorem oper_appLets (w : World) {o : Oper} {a : Act} {K : Act → World → Prop} {Q : Exit → Act → World → Prop} (s x : Operand)
    (ho : o.op = .call { callee := .builtin .append, args := #[s, x], argTypes := #[117, 117] })
    (base : Nat) (v : Value) (n : Nat) (xs : List Value) (hs : a.eval s = v) (ls : Ends) (ad : Addr) (m c : Nat) (hx : a.eval x = .slice (some ad) m c) (hm : m = ls.length) (hc : ∀ j u, (letCells ls)[j]? = some u → w.cell? (ad.add j) = some u)
    (hown : w.ownsRow base 121 2 v n xs) (h63 : n + m ≤ 1000) (hbase : base ≤ w.heap.size)
    (h : ∀ v' w', w'.ownsRow base 121 2 v' (n + m) (xs ++ letCells ls) → Below base w w' → w.grownBy w' v.ownBlock → (v'.ownBlock = v.ownBlock ∨ ∃ g, v'.ownBlock = some g ∧ w.heap.size ≤ g) → K (a.put o.dst v') w') :
    Oper.wp Tryz.prog o a w K Q := by
  obtain ⟨i, hi, hz0, hz1, hz2⟩ := info_parts letInfo
  obtain ⟨v', w', hrun, h2, h3, _, h5⟩ := run_append_own_at (P := Tryz.prog) w base 117 o.type 121 i _ 2 16 Tryz.underlying117 hi hz0 hz1 hz2 rfl (by decide) v n xs hown ad m c (letCells ls) (by rw [letCells_len, hm]) hc
    (by intro u' hu'
        obtain ⟨e, _, he⟩ := List.mem_flatMap.1 hu'
        rcases List.mem_cons.1 he with rfl | he
        · rfl
        · rw [List.mem_singleton.1 he]; rfl) (by unfold maxLen; omega) (by omega) hbase
  have hB : Below base w w' := (Below.refl base w).grown h3 hbase (fun k hk => (hown.lt k hk).1)
  unfold Oper.wp execOp
  simp only [ho, resolve, invoke, builtin, Sem.run_bind, Sem.run_pure, Result.andThen_ok, List.map_toArray, List.map_cons, List.map_nil, hs, hx, hrun]
  refine h v' w' h2 hB h3 ?_
  rcases h5 with h5 | h5
  · exact .inl h5
  · exact .inr ⟨_, h5, Nat.le_refl _⟩
theorem drewHeap {a b : World} (h : a = b.drew.drew) (k : Nat) : a.heap[k]? = b.heap[k]? := by subst h; rfl
theorem grown_any {w w' : World} {row : Option Nat} (h : w.grownBy w' none) : w.grownBy w' row := ⟨h.os, h.tape, h.output, h.size, fun k hk _ => h.block k hk (by simp)⟩
def okL (ak aa : Int) (ls : Ends) : Bool := decide (0 ≤ aa ∧ aa < ls.length) && (!(ak == 4) || decide (ls.length < 12))
def letterA (x : Asy) (ak : Int) (k p a : Nat) : Asy :=
  if ak = 4 then { x with flight := x.flight.set k ((portsAt x k).set p (lettersAt x k p ++ [(lettersAt x k p).getD a (0, 0)])) }
  else { x with flight := x.flight.set k ((portsAt x k).set p ((lettersAt x k p).take a ++ (lettersAt x k p).drop (a + 1))), slots := if ak = 2 ∧ ((lettersAt x k p).getD a (0, 0)).1 = x.rounds.getD k 0 ∧ (slotsAt x k).getD p 0 = -1 then x.slots.set k ((slotsAt x k).set p ((lettersAt x k p).getD a (0, 0)).2) else x.slots }
set_option maxRecDepth 100000 in
set_option maxHeartbeats 4000000 in
theorem spec_syLetter (val : Key → Value) (n : Net) (x : Asy) (base k : Nat) (l : Ends) (s : List Int) (f : List Ends) (r : Int) (p : Nat) (ls : Ends) (ak aa : Int) (w : World) (hK : AsyK w base val x) (hbase : base ≤ w.heap.size) (hat : AtP n x k l s f r) (hp : f[p]? = some ls) (hak : ak = 2 ∨ ak = 3 ∨ ak = 4) :
  Calls Tryz.prog 78 #[.agg #[val .r, val .b, val .n, val .s, val .f], .agg #[.int .i64 ak, .int .i64 k, .int .i64 p, .int .i64 aa]] w
   fun e w' => e = .returned (.bool (okL ak aa ls)) ∧ Below base w w' ∧ Frame val x w w' ∧ Acted (okL ak aa ls) w' base val (letterA x ak k p aa.toNat) := by
 have hkr := (List.getElem?_eq_some_iff.1 hat.hr).1
 have hks := (List.getElem?_eq_some_iff.1 hat.hs).1
 have hkf := (List.getElem?_eq_some_iff.1 hat.hf).1
 have hpf := (List.getElem?_eq_some_iff.1 hp).1
 have h12 := hat.ls ls (List.mem_of_getElem? hp)
 have hps : p < s.length := by rw [hat.sl, ← hat.fl]; exact hpf
 obtain ⟨gr, cr, er, -, -, hgr1, hgr2⟩ := own_some2 (hK.own .r trivial) (show 0 < x.rounds.length by omega)
 obtain ⟨gs, cs, es, -, -, hgs1, hgs2⟩ := own_some2 (hK.own .s trivial) (show 0 < x.slots.length by omega)
 obtain ⟨gx, cf, ef, -, -, hgx1, hgx2⟩ := own_some2 (hK.own .f trivial) (show 0 < x.flight.length by omega)
 obtain ⟨Ab, cb, eb⟩ := own_sl1 (hK.own .b trivial)
 obtain ⟨An, cn, en⟩ := own_sl1 (hK.own .n trivial)
 replace er : val .r = .slice (some ⟨gr, 0, none⟩) x.rounds.length cr := er
 replace es : val .s = .slice (some ⟨gs, 0, none⟩) x.slots.length cs := es
 replace ef : val .f = .slice (some ⟨gx, 0, none⟩) x.flight.length cf := ef
 replace eb : val .b = .slice Ab x.before.length cb := eb
 replace en : val .n = .slice An x.now.length cn := en
 obtain ⟨gq, cq, eq2, -, -, hgq1, hgq2⟩ := own_some2 (AsyK.frOwn hK hat.hf) (by omega)
 obtain ⟨gw, cw, ew, -, -, hgw1, hgw2⟩ := own_some2 (AsyK.slOwn hK hat.hs) (by omega)
 have hol := AsyK.leOwn hK hat.hf hp
 obtain ⟨Al, cl, el⟩ := own_sl1 hol
 have HER := Lib.hid er
 have HES := Lib.hid es
 have HEF := Lib.hid ef
 have HEQ := Lib.hid eq2
 have HEW := Lib.hid ew
 have HAT := Lib.hid hat
 have HPL := Lib.hid hp
 have HE := Lib.hid (show Value.agg #[val .r, val .b, val .n, val .s, val .f] = .agg #[.slice (some ⟨gr, 0, none⟩) x.rounds.length cr, .slice Ab x.before.length cb, .slice An x.now.length cn, .slice (some ⟨gs, 0, none⟩) x.slots.length cs, .slice (some ⟨gx, 0, none⟩) x.flight.length cf] by rw [er, eb, en, es, ef])
 have HLE := Lib.hid (lettersAt_eq hat.hf hp)
 have HPA := Lib.hid (portsAt_eq hat.hf)
 have HSA := Lib.hid (slotsAt_eq hat.hs)
 rw [HE.out]
 clear er eb en ef es eq2 ew HE
 by_cases hin : 0 ≤ aa ∧ aa < ls.length
 ·
  obtain ⟨a, rfl⟩ : ∃ a : Nat, aa = a := ⟨aa.toNat, by omega⟩
  have hal : a < ls.length := by omega
  obtain ⟨e, he⟩ : ∃ e, ls[a]? = some e := ⟨_, List.getElem?_eq_getElem hal⟩
  obtain ⟨gl, c9, el2, hcl1, hcl2, hgl1, hgl2⟩ := own_some2 hol (by omega)
  unfold maxLen at hcl2
  clear el
  have HEL := Lib.hid el2
  have HLG := Lib.hid (show ls.getD a (0, 0) = e by rw [List.getD_eq_getElem?_getD, he]; rfl)
  have HIN := Lib.hid (show inB (a : Int) 0 ((ls.length : Int) - 1) = true from inB_t (by omega))
  have hkle : keyOf x (.le k p) := ⟨hkf, by rw [portsAt_eq hat.hf]; exact hpf⟩
  have sp : ∀ (i : Key) (g : Nat), keyOf x i → i ≠ .le k p → (val i).ownBlock = some g → g ≠ gl := fun i g hi hne h1 h2 => by
   rcases hK.sep i (.le k p) hi hkle hne with h | h
   ·
    rw [h1] at h; cases h
   ·
    exact h (by rw [h1, HEL.out, h2]; rfl)
  have nr := sp .r gr trivial (by simp) (by rw [HER.out]; rfl)
  have nx := sp .f gx trivial (by simp) (by rw [HEF.out]; rfl)
  have nq := sp (.fr k) gq hkf (by simp) (by rw [HEQ.out]; rfl)
  have hoc := fun (W : World) (hw : AsyK W base val x) => show W.cell? ⟨gl, a * 2, none⟩ = some (.int .i64 e.1) ∧ W.cell? ⟨gl, a * 2 + 1, none⟩ = some (.int .i64 e.2) by
   have h1 := AsyK.leOwn hw hat.hf hp
   rw [HEL.out] at h1
   obtain ⟨c1, c2⟩ := letCells_at he
   exact ⟨(World.ownsRow.cellAt h1 (a * 2) (by omega)).trans c1, (World.ownsRow.cellAt h1 (a * 2 + 1) (by omega)).trans c2⟩
  have HOC := Lib.hid hoc
  clear sp hol el2 hin hat hp he hoc
  obtain ⟨w0, hw0, hb0, HY, hz0, HS0⟩ := box5 w (.slice (some ⟨gr, 0, none⟩) x.rounds.length cr) (.slice Ab x.before.length cb) (.slice An x.now.length cn) (.slice (some ⟨gs, 0, none⟩) x.slots.length cs) (.slice (some ⟨gx, 0, none⟩) x.flight.length cf) 34
  obtain ⟨w1, hw1, hb1, HA, hz1, HS1⟩ := box4a w0 (.int .i64 ak) (.int .i64 (k : Int)) (.int .i64 (p : Int)) (.int .i64 (a : Int)) 69
  replace HY := bk HY hb1
  have hB : Below w.heap.size w w1 := bl_trans (hb0) hb1
  have HW := Lib.hid (show w1 = (w.alloc (.cells #[.slice (some ⟨gr, 0, none⟩) x.rounds.length cr, .slice Ab x.before.length cb, .slice An x.now.length cn, .slice (some ⟨gs, 0, none⟩) x.slots.length cs, .slice (some ⟨gx, 0, none⟩) x.flight.length cf] 34)).alloc (.cells #[.int .i64 ak, .int .i64 (k : Int), .int .i64 (p : Int), .int .i64 (a : Int)] 69) by rw [hw1, hw0])
  obtain ⟨P1, hP1⟩ : ∃ z, z = w0.heap.size := ⟨_, rfl⟩
  have HP1 := Lib.hid (show w.heap.size + 1 = P1 by rw [hP1, HS0.out])
  have hPl1 : w.heap.size < P1 := by rw [← HP1.out]; omega
  rw [← hP1] at HA hz1
  obtain ⟨⟨y0, y1, y2⟩, ⟨y3, y4⟩, yf⟩ := cells5 HY
  obtain ⟨⟨u0, u1⟩, ⟨u2, u3⟩, uf⟩ := cells4a HA
  have ey0 := y0
  have ey1 := y1
  have ey2 := y2
  have ey3 := y3
  have ey4 := y4
  have eu0 := u0
  have eu1 := u1
  have eu2 := u2
  have eu3 := u3
  rw [HW.out] at ey0 ey1 ey2 ey3 ey4 eu0 eu1 eu2 eu3
  rw [← HP1.out] at eu0 eu1 eu2 eu3
  have hzb0 : w.heap.size < w1.heap.size := by omega
  have hzb1 : P1 < w1.heap.size := by omega
  have HX := True.intro
  clear hw1 hw0 hP1
  have hbB : Below base w w1 := hB.mono hbase
  have HFR := Lib.hid (Frame.of (val := val) (x := x) hB)
  have HK1 := Lib.hid (AsyK.up hK hB)
  clear HX hK
  by_cases h4 : ak = 4
  ·
   subst h4
   have HOK := Lib.hid (show decide ((ls.length : Int) < 12) = okL 4 (a : Int) ls by
    unfold okL
    rw [decide_eq_true (show 0 ≤ (a : Int) ∧ (a : Int) < ls.length by omega)]
    by_cases hh : ls.length < 12
    ·
     rw [decide_eq_true hh, decide_eq_true (show (ls.length : Int) < 12 by omega)]; rfl
    ·
     rw [decide_eq_false hh, decide_eq_false (show ¬ (ls.length : Int) < 12 by omega)]; rfl)
   have HLA := Lib.hid (show letterA x 4 k p ((a : Int)).toNat = { x with flight := x.flight.set k ((portsAt x k).set p (ls ++ [e])) } by
    unfold letterA
    rw [if_pos rfl, Int.toNat_natCast, HLE.out, HLG.out])
   go_enter Tryz.func78, Tryz.ntmps78
   go_wp2_with fail
   rw [HP1.out, ← HW.out]
   clear ey0 ey1 ey2 ey3 ey4 eu0 eu1 eu2 eu3
   have hcf := (HK1.out.fCell HEF.out hkf).1
   rw [HEQ.out] at hcf
   have hcq := (HK1.out.frCell HAT.out.hf HEQ.out hpf).1
   rw [HEL.out] at hcq
   refine wp_region_held_drew (S := fun w' => w'.cell? ⟨w.heap.size, 4, none⟩ = some (.slice (some ⟨gx, 0, none⟩) x.flight.length cf) ∧ w'.cell? ⟨P1, 1, none⟩ = some (.int .i64 (k : Int)) ∧ w'.cell? ⟨gx, k, none⟩ = some (.slice (some ⟨gq, 0, none⟩) f.length cq) ∧ w'.cell? ⟨P1, 2, none⟩ = some (.int .i64 (p : Int)) ∧ w'.cell? ⟨gq, p, none⟩ = some (.slice (some ⟨gl, 0, none⟩) ls.length c9)) (by kernel_rfl) ?_ (fun hHeld => ?_)
   ·
    go_keep
   refine stk 0 7 ?_
   refine stk 1 8 ?_
   refine stk 2 9 ?_
   refine stk 3 10 ?_
   refine stk 4 11 ?_
   refine stk 5 12 ?_
   refine stk 6 13 ?_
   refine stk 7 14 ?_
   refine stk 8 15 ?_
   refine stk 9 16 ?_
   refine stk 10 5 ?_
   refine wpAnyH_done (by kernel_rfl) ?_ _
   obtain ⟨hc0, hc1⟩ := HOC.out w1 HK1.out
   obtain ⟨wv, hwv, hb7, HB7, hzv, HSV⟩ := box2 w1 (.int .i64 e.1) (.int .i64 e.2) 121
   have v0 := Lib.cell?_alloc_some (.cells #[.int .i64 e.1, .int .i64 e.2] 121) u0
   have HWV := Lib.hid hwv
   obtain ⟨P4, hP4⟩ : ∃ z, z = w1.heap.size := ⟨_, rfl⟩
   have HP4 := Lib.hid hP4
   clear hwv hP4
   go_wp2_with (go_at_call 22; (try rw [show IntKind.i64.wrap ((ls.length : Int) - 1) = (ls.length : Int) - 1 from IntWalk.i64_in _ (by omega)]); refine (spec_l1In _ _ _ _).mono ?_; rintro e w' ⟨rfl, rfl⟩; rw [HIN.out])
   rw [← HWV.out, ← HP4.out]
   rw [← HP4.out] at HB7 hzv
   clear hc0 hc1 v0 hcf hcq
   have hzhb7 := hb7.size
   clear y0 y1 y2 y3 y4 yf u0 u1 u2 u3 uf
   replace HY := bk HY hb7
   replace HA := bk HA hb7
   replace hB := bl_trans hB hb7
   obtain ⟨⟨y0, y1, y2⟩, ⟨y3, y4⟩, yf⟩ := cells5 HY
   obtain ⟨⟨u0, u1⟩, ⟨u2, u3⟩, uf⟩ := cells4a HA
   obtain ⟨z0, z1, zf⟩ := cells2 HB7
   have hP4w : w.heap.size < P4 := by rw [HP4.out]; omega
   have hP4v : P4 < wv.heap.size := hzv
   have hbE : Below base w wv := hB.mono hbase
   have HFE := Lib.hid (HFR.out.below hb7)
   have HKV := Lib.hid (AsyK.up HK1.out hb7)
   have hcf := (HKV.out.fCell HEF.out hkf).1
   rw [HEQ.out] at hcf
   have hlv : base ≤ wv.heap.size := by have := hbE.size; omega
   have hzwv : w.heap.size < wv.heap.size := by omega
   have hwr1 : IntKind.i64.wrap ((a : Int) + 1) = (a : Int) + 1 := IntWalk.i64_in _ (by omega)
   refine till_region (S := fun w' => w'.cell? ⟨w.heap.size, 4, none⟩ = some (.slice (some ⟨gx, 0, none⟩) x.flight.length cf) ∧ w'.cell? ⟨P1, 1, none⟩ = some (.int .i64 (k : Int)) ∧ w'.cell? ⟨gx, k, none⟩ = some (.slice (some ⟨gq, 0, none⟩) f.length cq) ∧ w'.cell? ⟨P1, 2, none⟩ = some (.int .i64 (p : Int)) ∧ w'.cell? ⟨P4, 0, none⟩ = some (.int .i64 e.1) ∧ w'.cell? ⟨P4, 1, none⟩ = some (.int .i64 e.2)) (st := 13) (by kernel_rfl) ⟨y4, u1, hcf, u2, z0, z1⟩ (fun hHeld => ?_)
   obtain ⟨W0, hW0⟩ : ∃ z, z = wv.drew.drew := ⟨_, rfl⟩
   rw [← hW0]
   replace y4 : W0.cell? ⟨w.heap.size, 4, none⟩ = some (.slice (some ⟨gx, 0, none⟩) x.flight.length cf) := by rw [hW0]; exact y4
   replace u1 : W0.cell? ⟨P1, 1, none⟩ = some (.int .i64 (k : Int)) := by rw [hW0]; exact u1
   replace hcf : W0.cell? ⟨gx, k, none⟩ = some (.slice (some ⟨gq, 0, none⟩) f.length cq) := by rw [hW0]; exact hcf
   replace u2 : W0.cell? ⟨P1, 2, none⟩ = some (.int .i64 (p : Int)) := by rw [hW0]; exact u2
   replace z0 : W0.cell? ⟨P4, 0, none⟩ = some (.int .i64 e.1) := by rw [hW0]; exact z0
   replace z1 : W0.cell? ⟨P4, 1, none⟩ = some (.int .i64 e.2) := by rw [hW0]; exact z1
   have HKW := Lib.hid (show AsyK W0 base val x by rw [hW0]; exact HKV.out.drew.drew)
   have HOW := Lib.hid (by have h1 := AsyK.leOwn HKW.out HAT.out.hf HPL.out; rw [HEL.out] at h1; exact h1 : W0.ownsRow base 121 2 (.slice (some ⟨gl, 0, none⟩) ls.length c9) ls.length (letCells ls))
   have hbW : Below base w W0 := by rw [hW0]; exact hbE.drew.drew
   have hlW : base ≤ W0.heap.size := by rw [hW0]; exact hlv
   have HFW := Lib.hid (show Frame val x w W0 by rw [hW0]; exact HFE.out.drew.drew)
   have hzW : wv.heap.size ≤ W0.heap.size := by rw [hW0]; exact Nat.le_refl _
   obtain ⟨cq0, fq0⟩ := HKW.out.frCell HAT.out.hf HEQ.out hpf
   rw [HEL.out] at cq0
   clear hW0 hHeld uf
   refine utf 0 32 ?_
   refine utk 1 33 ?_
   refine utf 2 34 ?_
   refine utk 3 35 ?_
   refine utf 4 36 ?_
   refine utk 5 37 ?_
   refine utf 6 38 ?_
   refine utk 7 39 ?_
   refine utf 8 40 ?_
   refine utk 9 41 ?_
   refine ur 10 rfl (by kernel_rfl) (fun K hK => ?_)
   go_simp
   have Qy4 := Lib.hid y4
   replace y4 := Lib.cell?_alloc_some (.cells #[.int .i64 e.1, .int .i64 e.2] 121) y4
   have Qu1 := Lib.hid u1
   replace u1 := Lib.cell?_alloc_some (.cells #[.int .i64 e.1, .int .i64 e.2] 121) u1
   have Qhcf := Lib.hid hcf
   replace hcf := Lib.cell?_alloc_some (.cells #[.int .i64 e.1, .int .i64 e.2] 121) hcf
   have Qu2 := Lib.hid u2
   replace u2 := Lib.cell?_alloc_some (.cells #[.int .i64 e.1, .int .i64 e.2] 121) u2
   have Qz0 := Lib.hid z0
   replace z0 := Lib.cell?_alloc_some (.cells #[.int .i64 e.1, .int .i64 e.2] 121) z0
   have Qz1 := Lib.hid z1
   replace z1 := Lib.cell?_alloc_some (.cells #[.int .i64 e.1, .int .i64 e.2] 121) z1
   refine hK.out (fun _ => ⟨y4, u1, hcf, u2, z0, z1⟩) ?_
   clear hK K
   try simp only [Act.put, pu]
   refine ur 11 rfl (by kernel_rfl) (fun K hK => ?_)
   rw [if_pos (by rfl)]
   refine oper_append2 W0 (.tmp 40) (.tmp 42) rfl base _ ls.length (letCells ls) rfl e rfl HOW.out (by omega) hlW ?_
   intro v6 w6 hown6 hbl6 hgr6 hob6
   obtain ⟨A6, c6', rfl⟩ := own_sl1 hown6
   clear y4
   have y4 := hgr6.cell Qy4.out (ne_row (fun g hg => by have e1 : gl = g := Option.some.inj hg; show g ≠ w.heap.size; omega))
   clear u1
   have u1 := hgr6.cell Qu1.out (ne_row (fun g hg => by have e1 : gl = g := Option.some.inj hg; show g ≠ P1; omega))
   clear hcf
   have hcf := hgr6.cell Qhcf.out (ne_row (fun g hg => by have e1 : gl = g := Option.some.inj hg; show g ≠ gx; omega))
   clear u2
   have u2 := hgr6.cell Qu2.out (ne_row (fun g hg => by have e1 : gl = g := Option.some.inj hg; show g ≠ P1; omega))
   clear z0
   have z0 := hgr6.cell Qz0.out (ne_row (fun g hg => by have e1 : gl = g := Option.some.inj hg; show g ≠ P4; omega))
   clear z1
   have z1 := hgr6.cell Qz1.out (ne_row (fun g hg => by have e1 : gl = g := Option.some.inj hg; show g ≠ P4; omega))
   have hbq6 := hgr6.block gq (by omega) (ne_row (fun g hg => by have e1 : gl = g := Option.some.inj hg; show g ≠ gq; omega))
   have fq6 := (World.frozen?_of_block (a := ⟨gq, p, none⟩) hbq6).trans fq0
   have cq6 := (World.cell?_of_block (a := ⟨gq, p, none⟩) hbq6).trans cq0
   refine hK.out (fun _ => ⟨y4, u1, hcf, u2, z0, z1⟩) ?_
   clear hK K
   try simp only [Act.put, pu]
   refine utf 12 44 ?_
   refine ur 13 rfl (by kernel_rfl) (fun K hK => ?_)
   go_simp
   obtain ⟨w7, hw7, hk7, -, hz7⟩ := setE w6 gq p (.slice A6 (ls.length + 1) c6')
   rw [← hw7]
   have hK7 : AsyK w7 base (upd val (.le k p) (.slice A6 (ls.length + 1) c6')) { x with flight := x.flight.set k ((portsAt x k).set p (ls ++ [e])) } := by
    rw [hw7]
    have h1 := AsyK.newLetters (w' := w6) (v := .slice A6 (ls.length + 1) c6') (ls := ls ++ [e]) HKW.out hkf (by rw [HPA.out]; exact hpf) (by rw [HPA.out]; exact HEQ.out) (by rw [HEL.out]; exact hgr6) (by rw [List.length_append, letCells_snoc]; exact hown6) (by rw [HEL.out]; exact hob6)
    exact h1
   have hbB7 : Below base w w7 := by rw [hw7]; exact (hbW.trans hbl6).setCell (p := ⟨gq, p, none⟩) hgq1 _
   have HF7 := Lib.hid (show Frame val x w w7 by rw [hw7]; exact (HFW.out.grown (.le k p) hkle (by rw [HEL.out]; exact hgr6)).set (.fr k) hkf (by rw [HEQ.out]; rfl) p _)
   have HK7 := Lib.hid hK7
   clear hw7 hK7
   refine hK.out (fun h' => till_no h' (by kernel_rfl)) ?_
   clear hK K
   try simp only [Act.put, pu]
   refine wpTill_done (by kernel_rfl) ?_ _
   go_wp2_with fail
   go_ret
   exact ⟨ret_bool HOK.out, by first | exact hbB7 | exact hbB7.drew | exact hbB7.drew.drew, by first | exact HF7.out | exact HF7.out.drew | exact HF7.out.drew.drew, fun _ => ⟨_, heads_le _ _ _ _, by rw [HLA.out]; first | exact HK7.out | exact HK7.out.drew | exact HK7.out.drew.drew⟩⟩
  ·
   have k4 : (ak == 4) = false := by rw [beq_eq_false_iff_ne]; exact h4
   have HOK := Lib.hid (show true = okL ak (a : Int) ls by
    unfold okL
    rw [decide_eq_true (show 0 ≤ (a : Int) ∧ (a : Int) < ls.length by omega), k4]; rfl)
   obtain ⟨y, hy⟩ : ∃ y, s[p]? = some y := ⟨_, List.getElem?_eq_getElem hps⟩
   have HY0 := Lib.hid hy
   have HLA := Lib.hid (show letterA x ak k p ((a : Int)).toNat = { x with flight := x.flight.set k ((portsAt x k).set p (ls.take a ++ ls.drop (a + 1))), slots := if ak = 2 ∧ e.1 = r ∧ y = -1 then x.slots.set k ((slotsAt x k).set p e.2) else x.slots } by
    unfold letterA
    rw [if_neg h4, Int.toNat_natCast, HLE.out, HLG.out, HSA.out, List.getD_eq_getElem?_getD (l := x.rounds), List.getD_eq_getElem?_getD (l := s), HAT.out.hr, hy]; rfl)
   obtain ⟨N, hN⟩ : ∃ N, (ls.take a ++ ls.drop (a + 1)).length = N := ⟨_, rfl⟩
   have HNE := Lib.hid hN
   have HNL := Lib.hid (show a + (ls.length - (a + 1)) = N by rw [← hN, List.length_append, List.length_take, List.length_drop]; omega)
   clear hN
   have hcutH := run_cutHi gl ls.length c9 a (by omega) (by omega)
   have hcutL := run_cutLo gl ls.length c9 a (by omega) hcl1 (by omega)
   have HAD := Lib.hid (show ∀ (W : World), W.ownsRow base 121 2 (.slice (some ⟨gl, 0, none⟩) ls.length c9) ls.length (letCells ls) → ∀ j u, (letCells (ls.drop (a + 1)))[j]? = some u → W.cell? ((if c9 = a + 1 then (⟨gl, 0, none⟩ : Addr) else ⟨gl, (a + 1) * 2, none⟩).add j) = some u from fun W hw j u hu => by
    have hj := (List.getElem?_eq_some_iff.1 hu).1
    rw [letCells_len, List.length_drop] at hj
    rw [if_neg (by omega), Addr.add_lit]
    rw [letCells_drop, List.getElem?_drop] at hu
    exact (World.ownsRow.cellAt hw ((a + 1) * 2 + j) (by omega)).trans hu)
   have HAH := Lib.hid (show ∀ (W : World), W.ownsRow base 121 2 (.slice (some ⟨gl, 0, none⟩) ls.length c9) ls.length (letCells ls) → ∀ j u, (letCells (ls.take a))[j]? = some u → W.cell? ((⟨gl, 0, none⟩ : Addr).add j) = some u from fun W hw j u hu => by
    have hj := (List.getElem?_eq_some_iff.1 hu).1
    rw [letCells_len, List.length_take] at hj
    rw [Addr.add_lit, Nat.zero_add]
    rw [letCells_take, List.getElem?_take, if_pos (by omega)] at hu
    exact (World.ownsRow.cellAt hw j (by omega)).trans hu)
   generalize (if c9 = a + 1 then (⟨gl, 0, none⟩ : Addr) else ⟨gl, (a + 1) * 2, none⟩) = adL at hcutL HAD
   clear hy
   go_enter Tryz.func78, Tryz.ntmps78
   go_wp2_with fail
   rw [HP1.out, ← HW.out]
   clear ey0 ey1 ey2 ey3 ey4 eu0 eu1 eu2 eu3
   have hcf := (HK1.out.fCell HEF.out hkf).1
   rw [HEQ.out] at hcf
   have hcq := (HK1.out.frCell HAT.out.hf HEQ.out hpf).1
   rw [HEL.out] at hcq
   refine wp_region_held_drew (S := fun w' => w'.cell? ⟨w.heap.size, 4, none⟩ = some (.slice (some ⟨gx, 0, none⟩) x.flight.length cf) ∧ w'.cell? ⟨P1, 1, none⟩ = some (.int .i64 (k : Int)) ∧ w'.cell? ⟨gx, k, none⟩ = some (.slice (some ⟨gq, 0, none⟩) f.length cq) ∧ w'.cell? ⟨P1, 2, none⟩ = some (.int .i64 (p : Int)) ∧ w'.cell? ⟨gq, p, none⟩ = some (.slice (some ⟨gl, 0, none⟩) ls.length c9)) (by kernel_rfl) ?_ (fun hHeld => ?_)
   ·
    go_keep
   refine stk 0 7 ?_
   refine stk 1 8 ?_
   refine stk 2 9 ?_
   refine stk 3 10 ?_
   refine stk 4 11 ?_
   refine stk 5 12 ?_
   refine stk 6 13 ?_
   refine stk 7 14 ?_
   refine stk 8 15 ?_
   refine stk 9 16 ?_
   refine stk 10 5 ?_
   refine wpAnyH_done (by kernel_rfl) ?_ _
   obtain ⟨hc0, hc1⟩ := HOC.out w1 HK1.out
   obtain ⟨wv, hwv, hb7, HB7, hzv, HSV⟩ := box2 w1 (.int .i64 e.1) (.int .i64 e.2) 121
   have v0 := Lib.cell?_alloc_some (.cells #[.int .i64 e.1, .int .i64 e.2] 121) u0
   have HWV := Lib.hid hwv
   obtain ⟨P4, hP4⟩ : ∃ z, z = w1.heap.size := ⟨_, rfl⟩
   have HP4 := Lib.hid hP4
   clear hwv hP4
   go_wp2_with (go_at_call 22; (try rw [show IntKind.i64.wrap ((ls.length : Int) - 1) = (ls.length : Int) - 1 from IntWalk.i64_in _ (by omega)]); refine (spec_l1In _ _ _ _).mono ?_; rintro e w' ⟨rfl, rfl⟩; rw [HIN.out])
   rw [← HWV.out, ← HP4.out]
   rw [← HP4.out] at HB7 hzv
   clear hc0 hc1 v0 hcf hcq
   have hzhb7 := hb7.size
   clear y0 y1 y2 y3 y4 yf u0 u1 u2 u3 uf
   replace HY := bk HY hb7
   replace HA := bk HA hb7
   replace hB := bl_trans hB hb7
   obtain ⟨⟨y0, y1, y2⟩, ⟨y3, y4⟩, yf⟩ := cells5 HY
   obtain ⟨⟨u0, u1⟩, ⟨u2, u3⟩, uf⟩ := cells4a HA
   obtain ⟨z0, z1, zf⟩ := cells2 HB7
   have hP4w : w.heap.size < P4 := by rw [HP4.out]; omega
   have hP4v : P4 < wv.heap.size := hzv
   have hbE : Below base w wv := hB.mono hbase
   have HFE := Lib.hid (HFR.out.below hb7)
   have HKV := Lib.hid (AsyK.up HK1.out hb7)
   have hcf := (HKV.out.fCell HEF.out hkf).1
   rw [HEQ.out] at hcf
   have hlv : base ≤ wv.heap.size := by have := hbE.size; omega
   have hzwv : w.heap.size < wv.heap.size := by omega
   have hwr1 : IntKind.i64.wrap ((a : Int) + 1) = (a : Int) + 1 := IntWalk.i64_in _ (by omega)
   refine till_region (S := fun w' => w'.cell? ⟨w.heap.size, 4, none⟩ = some (.slice (some ⟨gx, 0, none⟩) x.flight.length cf) ∧ w'.cell? ⟨P1, 1, none⟩ = some (.int .i64 (k : Int)) ∧ w'.cell? ⟨gx, k, none⟩ = some (.slice (some ⟨gq, 0, none⟩) f.length cq) ∧ w'.cell? ⟨P1, 2, none⟩ = some (.int .i64 (p : Int)) ∧ w'.cell? ⟨P1, 3, none⟩ = some (.int .i64 (a : Int))) (st := 21) (by kernel_rfl) ⟨y4, u1, hcf, u2, u3⟩ (fun hHeld => ?_)
   obtain ⟨W0, hW0⟩ : ∃ z, z = wv.drew.drew := ⟨_, rfl⟩
   rw [← hW0]
   replace y4 : W0.cell? ⟨w.heap.size, 4, none⟩ = some (.slice (some ⟨gx, 0, none⟩) x.flight.length cf) := by rw [hW0]; exact y4
   replace u1 : W0.cell? ⟨P1, 1, none⟩ = some (.int .i64 (k : Int)) := by rw [hW0]; exact u1
   replace hcf : W0.cell? ⟨gx, k, none⟩ = some (.slice (some ⟨gq, 0, none⟩) f.length cq) := by rw [hW0]; exact hcf
   replace u2 : W0.cell? ⟨P1, 2, none⟩ = some (.int .i64 (p : Int)) := by rw [hW0]; exact u2
   replace u3 : W0.cell? ⟨P1, 3, none⟩ = some (.int .i64 (a : Int)) := by rw [hW0]; exact u3
   have HKW := Lib.hid (show AsyK W0 base val x by rw [hW0]; exact HKV.out.drew.drew)
   have HOW := Lib.hid (by have h1 := AsyK.leOwn HKW.out HAT.out.hf HPL.out; rw [HEL.out] at h1; exact h1 : W0.ownsRow base 121 2 (.slice (some ⟨gl, 0, none⟩) ls.length c9) ls.length (letCells ls))
   have hbW : Below base w W0 := by rw [hW0]; exact hbE.drew.drew
   have hlW : base ≤ W0.heap.size := by rw [hW0]; exact hlv
   have HFW := Lib.hid (show Frame val x w W0 by rw [hW0]; exact HFE.out.drew.drew)
   have hzW : wv.heap.size ≤ W0.heap.size := by rw [hW0]; exact Nat.le_refl _
   obtain ⟨cq0, fq0⟩ := HKW.out.frCell HAT.out.hf HEQ.out hpf
   rw [HEL.out] at cq0
   have HYW := Lib.hid ((drewHeap hW0 (w.heap.size)).trans HY.out)
   have HAW := Lib.hid ((drewHeap hW0 (P1)).trans HA.out)
   have HBW := Lib.hid ((drewHeap hW0 (P4)).trans HB7.out)
   clear hW0 hHeld uf
   refine utf 0 48 ?_
   refine utk 1 49 ?_
   refine utf 2 50 ?_
   refine utk 3 51 ?_
   refine utf 4 52 ?_
   refine utk 5 53 ?_
   refine utf 6 54 ?_
   refine utk 7 55 ?_
   refine utf 9 57 ?_
   refine utf 10 58 ?_
   refine utk 11 59 ?_
   refine utf 12 60 ?_
   refine utf 14 62 ?_
   refine utf 15 63 ?_
   refine utk 16 64 ?_
   refine utf 17 65 ?_
   refine utf 18 66 ?_
   refine ur 8 rfl (by kernel_rfl) (fun K hK => ?_)
   go_simp
   obtain ⟨W1, hW1⟩ : ∃ z, z = W0.alloc (.cells #[] 121) := ⟨_, rfl⟩
   rw [← hW1]
   have hbW1 : Below W0.heap.size W0 W1 := by rw [hW1]; exact bl_alloc (Below.refl _ _) _
   have HO1 := Lib.hid (show W1.ownsRow W0.heap.size 121 2 (.slice (some ⟨W0.heap.size, 0, none⟩) 0 0) 0 [] by rw [hW1]; exact World.ownsRow_made (base := W0.heap.size) (e := 121) (size := 2) W0 #[] 0 (Nat.le_refl _) (Nat.zero_le _) (by simp))
   have HZ1 := Lib.hid hbW1.size
   clear hW1
   have y4' := (hbW1.cell (p := ⟨w.heap.size, 4, none⟩) (by show w.heap.size < W0.heap.size; omega)).trans y4
   clear y4
   have y4 := y4'
   clear y4'
   have u1' := (hbW1.cell (p := ⟨P1, 1, none⟩) (by show P1 < W0.heap.size; omega)).trans u1
   clear u1
   have u1 := u1'
   clear u1'
   have hcf' := (hbW1.cell (p := ⟨gx, k, none⟩) (by show gx < W0.heap.size; omega)).trans hcf
   clear hcf
   have hcf := hcf'
   clear hcf'
   have u2' := (hbW1.cell (p := ⟨P1, 2, none⟩) (by show P1 < W0.heap.size; omega)).trans u2
   clear u2
   have u2 := u2'
   clear u2'
   have u3' := (hbW1.cell (p := ⟨P1, 3, none⟩) (by show P1 < W0.heap.size; omega)).trans u3
   clear u3
   have u3 := u3'
   clear u3'
   refine hK.out (fun _ => ⟨y4, u1, hcf, u2, u3⟩) ?_
   clear hK K
   try simp only [Act.put, pu]
   refine ur 13 rfl (by kernel_rfl) (fun K hK => ?_)
   rw [if_pos (by rfl)]
   refine oper_appLets W1 (.tmp 56) (.tmp 60) rfl W0.heap.size (.slice (some ⟨W0.heap.size, 0, none⟩) 0 0) 0 [] rfl (ls.take a) ⟨gl, 0, none⟩ a c9 rfl (by rw [List.length_take]; omega) (HAH.out W1 (own_up HOW.out hbW1)) HO1.out (by omega) HZ1.out ?_
   intro v2 W2 hown2 hbl2 hgr2 hob2
   rw [Nat.zero_add, List.nil_append] at hown2
   obtain ⟨A5', c5', rfl⟩ := own_sl1 hown2
   have HO2 := Lib.hid hown2
   have hbW2 : Below W0.heap.size W0 W2 := hbW1.trans hbl2
   have HZ2 := Lib.hid hbW2.size
   have HB2 := Lib.hid (show ∃ g, (Value.slice A5' a c5').ownBlock = some g ∧ W0.heap.size ≤ g from by
    rcases hob2 with h | ⟨g, h, hg⟩
    ·
     exact ⟨W0.heap.size, h, Nat.le_refl _⟩
    ·
     exact ⟨g, h, Nat.le_trans HZ1.out hg⟩)
   clear hown2 hgr2 hob2
   have y4' := (hbl2.cell (p := ⟨w.heap.size, 4, none⟩) (by show w.heap.size < W0.heap.size; omega)).trans y4
   clear y4
   have y4 := y4'
   clear y4'
   have u1' := (hbl2.cell (p := ⟨P1, 1, none⟩) (by show P1 < W0.heap.size; omega)).trans u1
   clear u1
   have u1 := u1'
   clear u1'
   have hcf' := (hbl2.cell (p := ⟨gx, k, none⟩) (by show gx < W0.heap.size; omega)).trans hcf
   clear hcf
   have hcf := hcf'
   clear hcf'
   have u2' := (hbl2.cell (p := ⟨P1, 2, none⟩) (by show P1 < W0.heap.size; omega)).trans u2
   clear u2
   have u2 := u2'
   clear u2'
   have u3' := (hbl2.cell (p := ⟨P1, 3, none⟩) (by show P1 < W0.heap.size; omega)).trans u3
   clear u3
   have u3 := u3'
   clear u3'
   refine hK.out (fun _ => ⟨y4, u1, hcf, u2, u3⟩) ?_
   clear hK K
   try simp only [Act.put, pu]
   refine ur 19 rfl (by kernel_rfl) (fun K hK => ?_)
   rw [if_pos (by rfl)]
   refine oper_appLets W2 (.tmp 61) (.tmp 66) rfl W0.heap.size (.slice A5' a c5') a (letCells (ls.take a)) rfl (ls.drop (a + 1)) adL (ls.length - (a + 1)) (c9 - (a + 1)) rfl (by rw [List.length_drop]) (HAD.out W2 (own_up HOW.out hbW2)) HO2.out (by omega) HZ2.out ?_
   intro v6 w6 hown6 hbl6 hgr6 hob6
   rw [HNL.out, ← letCells_append] at hown6
   obtain ⟨A6, c6', rfl⟩ := own_sl1 hown6
   have hbW6 : Below W0.heap.size W0 w6 := hbW2.trans hbl6
   have hown6' : w6.ownsRow base 121 2 (.slice A6 N c6') N (letCells (ls.take a ++ ls.drop (a + 1))) := own_mono hown6 hlW
   have hob6' : (Value.slice A6 N c6').ownBlock = (Value.slice (some ⟨gl, 0, none⟩) ls.length c9).ownBlock ∨ ∃ g, (Value.slice A6 N c6').ownBlock = some g ∧ W0.heap.size ≤ g := by
    obtain ⟨g0, hg0, hg1⟩ := HB2.out
    rcases hob6 with h | ⟨g, h, hg⟩
    ·
     exact .inr ⟨g0, by rw [h, hg0], hg1⟩
    ·
     exact .inr ⟨g, h, Nat.le_trans HZ2.out hg⟩
   have hgr6' : W0.grownBy w6 (Value.slice (some ⟨gl, 0, none⟩) ls.length c9).ownBlock := grown_any (grown_below hbW6)
   clear hown6 hgr6 hob6
   have y4' := (hbl6.cell (p := ⟨w.heap.size, 4, none⟩) (by show w.heap.size < W0.heap.size; omega)).trans y4
   clear y4
   have y4 := y4'
   clear y4'
   have u1' := (hbl6.cell (p := ⟨P1, 1, none⟩) (by show P1 < W0.heap.size; omega)).trans u1
   clear u1
   have u1 := u1'
   clear u1'
   have hcf' := (hbl6.cell (p := ⟨gx, k, none⟩) (by show gx < W0.heap.size; omega)).trans hcf
   clear hcf
   have hcf := hcf'
   clear hcf'
   have u2' := (hbl6.cell (p := ⟨P1, 2, none⟩) (by show P1 < W0.heap.size; omega)).trans u2
   clear u2
   have u2 := u2'
   clear u2'
   have u3' := (hbl6.cell (p := ⟨P1, 3, none⟩) (by show P1 < W0.heap.size; omega)).trans u3
   clear u3
   have u3 := u3'
   clear u3'
   have fq6 := (World.frozen?_of_block (a := ⟨gq, p, none⟩) (hbW6.block gq (by omega))).trans fq0
   have cq6 := (World.cell?_of_block (a := ⟨gq, p, none⟩) (hbW6.block gq (by omega))).trans cq0
   refine hK.out (fun _ => ⟨y4, u1, hcf, u2, u3⟩) ?_
   clear hK K
   try simp only [Act.put, pu]
   refine utf 20 68 ?_
   refine ur 21 rfl (by kernel_rfl) (fun K hK => ?_)
   go_simp
   obtain ⟨w7, hw7, hk7, -, hz7⟩ := setE w6 gq p (.slice A6 N c6')
   rw [← hw7]
   have hK7 : AsyK w7 base (upd val (.le k p) (.slice A6 N c6')) { x with flight := x.flight.set k ((portsAt x k).set p (ls.take a ++ ls.drop (a + 1))) } := by
    rw [hw7]
    have h1 := AsyK.newLetters (w' := w6) (v := .slice A6 N c6') (ls := ls.take a ++ ls.drop (a + 1)) HKW.out hkf (by rw [HPA.out]; exact hpf) (by rw [HPA.out]; exact HEQ.out) (by rw [HEL.out]; exact hgr6') (by rw [HNE.out]; exact hown6') (by rw [HEL.out]; exact hob6')
    exact h1
   have hbB7 : Below base w w7 := by rw [hw7]; exact (hbW.trans (hbW6.mono hlW)).setCell (p := ⟨gq, p, none⟩) hgq1 _
   have HF7 := Lib.hid (show Frame val x w w7 by rw [hw7]; exact (HFW.out.below hbW6).set (.fr k) hkf (by rw [HEQ.out]; rfl) p _)
   have HK7 := Lib.hid hK7
   clear hw7 hK7
   refine hK.out (fun h' => till_no h' (by kernel_rfl)) ?_
   clear hK K
   try simp only [Act.put, pu]
   refine wpTill_done (by kernel_rfl) ?_ _
   replace HY := Lib.hid ((hk7 w.heap.size (by omega)).trans ((hbW6.block w.heap.size (by omega)).trans HYW.out))
   replace HA := Lib.hid ((hk7 P1 (by omega)).trans ((hbW6.block P1 (by omega)).trans HAW.out))
   replace HB7 := Lib.hid ((hk7 P4 (by omega)).trans ((hbW6.block P4 (by omega)).trans HBW.out))
   clear y0 y1 y2 y3 y4 yf u0 u1 u2 u3 z0 z1 zf hcf hbW1 hbl2 hbl6
   obtain ⟨⟨y0, y1, y2⟩, ⟨y3, y4⟩, yf⟩ := cells5 HY
   obtain ⟨⟨u0, u1⟩, ⟨u2, u3⟩, -⟩ := cells4a HA
   obtain ⟨z0, z1, zf⟩ := cells2 HB7
   have hcr := (HK7.out.rCell (by rw [upd_ne _ _ (by simp)]; exact HER.out) HAT.out.hr).1
   have hcs := (HK7.out.sCell (k := k) (by rw [upd_ne _ _ (by simp)]; exact HES.out) hks).1
   rw [upd_ne _ _ (by simp), HEW.out] at hcs
   obtain ⟨hcy, hfy⟩ := HK7.out.slCell HAT.out.hs (by rw [upd_ne _ _ (by simp)]; exact HEW.out) HY0.out
   clear hk7
   go_wp2_with fail
   by_cases h2 : ak = 2
   ·
    have k2 : (ak == 2) = true := by rw [beq_iff_eq]; exact h2
    by_cases h3 : e.1 = r
    ·
     have k3 : (e.1 == r) = true := by rw [beq_iff_eq]; exact h3
     by_cases h5 : y = -1
     ·
      have k5 : (y == -1) = true := by rw [beq_iff_eq]; exact h5
      have HL2 := Lib.hid (show letterA x ak k p ((a : Int)).toNat = { x with flight := x.flight.set k ((portsAt x k).set p (ls.take a ++ ls.drop (a + 1))), slots := x.slots.set k ((slotsAt x k).set p e.2) } by rw [HLA.out, if_pos ⟨h2, h3, h5⟩])
      clear h2 h3 h5 h4
      refine wp_region_held_drew (S := fun w' => w'.cell? ⟨P1, 0, none⟩ = some (.int .i64 ak) ∧ w'.cell? ⟨P4, 0, none⟩ = some (.int .i64 e.1) ∧ w'.cell? ⟨w.heap.size, 0, none⟩ = some (.slice (some ⟨gr, 0, none⟩) x.rounds.length cr) ∧ w'.cell? ⟨P1, 1, none⟩ = some (.int .i64 (k : Int)) ∧ w'.cell? ⟨gr, k, none⟩ = some (.int .i64 r) ∧ w'.cell? ⟨w.heap.size, 3, none⟩ = some (.slice (some ⟨gs, 0, none⟩) x.slots.length cs) ∧ w'.cell? ⟨gs, k, none⟩ = some (.slice (some ⟨gw, 0, none⟩) s.length cw) ∧ w'.cell? ⟨P1, 2, none⟩ = some (.int .i64 (p : Int)) ∧ w'.cell? ⟨gw, p, none⟩ = some (.int .i64 y)) (by kernel_rfl) ?_ (fun hHeld => ?_)
      ·
       go_keep
      refine stk 0 69 ?_
      refine stk 1 70 ?_
      refine stk 2 71 ?_
      refine stk 3 72 ?_
      refine stk 4 73 ?_
      refine stk 5 74 ?_
      refine stk 6 75 ?_
      refine stk 7 76 ?_
      refine stk 8 77 ?_
      refine stk 9 78 ?_
      refine stk 10 79 ?_
      refine stk 11 80 ?_
      refine stk 12 81 ?_
      refine stk 13 82 ?_
      refine stk 14 83 ?_
      refine stk 15 84 ?_
      refine stk 16 85 ?_
      refine stk 17 86 ?_
      refine stk 18 87 ?_
      refine stk 19 88 ?_
      refine stk 20 89 ?_
      refine stk 21 90 ?_
      refine stk 22 91 ?_
      refine stk 23 92 ?_
      refine stk 24 93 ?_
      refine stk 25 94 ?_
      refine stk 26 95 ?_
      refine wpAnyH_done (by kernel_rfl) ?_ _
      go_wp2_with fail
      refine till_region (S := fun w' => w'.cell? ⟨w.heap.size, 3, none⟩ = some (.slice (some ⟨gs, 0, none⟩) x.slots.length cs) ∧ w'.cell? ⟨P1, 1, none⟩ = some (.int .i64 (k : Int)) ∧ w'.cell? ⟨gs, k, none⟩ = some (.slice (some ⟨gw, 0, none⟩) s.length cw) ∧ w'.cell? ⟨P1, 2, none⟩ = some (.int .i64 (p : Int)) ∧ w'.cell? ⟨P4, 1, none⟩ = some (.int .i64 e.2)) (st := 11) (by kernel_rfl) ⟨y3, u1, hcs, u2, z1⟩ (fun hHeld => ?_)
      refine utf 0 96 ?_
      refine utk 1 97 ?_
      refine utf 2 98 ?_
      refine utk 3 99 ?_
      refine utf 4 100 ?_
      refine utk 5 101 ?_
      refine utf 6 102 ?_
      refine utk 7 103 ?_
      refine utf 8 104 ?_
      refine utk 9 105 ?_
      refine utf 10 106 ?_
      refine ur 11 rfl (by kernel_rfl) (fun K hK => ?_)
      go_simp
      obtain ⟨w9, hw9, -, -, -⟩ := setE w7 gw p (.int .i64 e.2)
      rw [← hw9]
      have hK9 : AsyK w9 base (upd val (.le k p) (.slice A6 N c6')) { x with flight := x.flight.set k ((portsAt x k).set p (ls.take a ++ ls.drop (a + 1))), slots := x.slots.set k ((slotsAt x k).set p e.2) } := by
       rw [hw9]
       exact AsyK.setSlot HK7.out (k := k) hks (by rw [upd_ne _ _ (by simp), show slotsAt { x with flight := x.flight.set k ((portsAt x k).set p (ls.take a ++ ls.drop (a + 1))) } k = s from HSA.out]; exact HEW.out) p e.2
      have hbB9 : Below base w w9 := by rw [hw9]; exact hbB7.setCell (p := ⟨gw, p, none⟩) hgw1 _
      have HF9 := Lib.hid (show Frame val x w w9 by rw [hw9]; exact HF7.out.set (.sl k) hks (by rw [HEW.out]; rfl) p _)
      have HK9 := Lib.hid hK9
      clear hw9 hK9
      refine hK.out (fun h' => till_no h' (by kernel_rfl)) ?_
      clear hK K
      try simp only [Act.put, pu]
      refine wpTill_done (by kernel_rfl) ?_ _
      go_wp2_with fail
      go_ret
      exact ⟨ret_bool HOK.out, by first | exact hbB9 | exact hbB9.drew | exact hbB9.drew.drew, by first | exact HF9.out | exact HF9.out.drew | exact HF9.out.drew.drew, fun _ => ⟨_, heads_le _ _ _ _, by rw [HL2.out]; first | exact HK9.out | exact HK9.out.drew | exact HK9.out.drew.drew⟩⟩
     ·
      have k5 : (y == -1) = false := by rw [beq_eq_false_iff_ne]; exact h5
      have HL2 := Lib.hid (show letterA x ak k p ((a : Int)).toNat = { x with flight := x.flight.set k ((portsAt x k).set p (ls.take a ++ ls.drop (a + 1))) } by rw [HLA.out, if_neg (fun h => h5 h.2.2)])
      clear h2 h3 h5 h4
      refine wp_region_held_drew (S := fun w' => w'.cell? ⟨P1, 0, none⟩ = some (.int .i64 ak) ∧ w'.cell? ⟨P4, 0, none⟩ = some (.int .i64 e.1) ∧ w'.cell? ⟨w.heap.size, 0, none⟩ = some (.slice (some ⟨gr, 0, none⟩) x.rounds.length cr) ∧ w'.cell? ⟨P1, 1, none⟩ = some (.int .i64 (k : Int)) ∧ w'.cell? ⟨gr, k, none⟩ = some (.int .i64 r) ∧ w'.cell? ⟨w.heap.size, 3, none⟩ = some (.slice (some ⟨gs, 0, none⟩) x.slots.length cs) ∧ w'.cell? ⟨gs, k, none⟩ = some (.slice (some ⟨gw, 0, none⟩) s.length cw) ∧ w'.cell? ⟨P1, 2, none⟩ = some (.int .i64 (p : Int)) ∧ w'.cell? ⟨gw, p, none⟩ = some (.int .i64 y)) (by kernel_rfl) ?_ (fun hHeld => ?_)
      ·
       go_keep
      refine stk 0 69 ?_
      refine stk 1 70 ?_
      refine stk 2 71 ?_
      refine stk 3 72 ?_
      refine stk 4 73 ?_
      refine stk 5 74 ?_
      refine stk 6 75 ?_
      refine stk 7 76 ?_
      refine stk 8 77 ?_
      refine stk 9 78 ?_
      refine stk 10 79 ?_
      refine stk 11 80 ?_
      refine stk 12 81 ?_
      refine stk 13 82 ?_
      refine stk 14 83 ?_
      refine stk 15 84 ?_
      refine stk 16 85 ?_
      refine stk 17 86 ?_
      refine stk 18 87 ?_
      refine stk 19 88 ?_
      refine stk 20 89 ?_
      refine stk 21 90 ?_
      refine stk 22 91 ?_
      refine stk 23 92 ?_
      refine stk 24 93 ?_
      refine stk 25 94 ?_
      refine stk 26 95 ?_
      refine wpAnyH_done (by kernel_rfl) ?_ _
      go_wp2_with fail
      go_ret
      exact ⟨ret_bool HOK.out, by first | exact hbB7 | exact hbB7.drew | exact hbB7.drew.drew, by first | exact HF7.out | exact HF7.out.drew | exact HF7.out.drew.drew, fun _ => ⟨_, heads_le _ _ _ _, by rw [HL2.out]; first | exact HK7.out | exact HK7.out.drew | exact HK7.out.drew.drew⟩⟩
    ·
     have k3 : (e.1 == r) = false := by rw [beq_eq_false_iff_ne]; exact h3
     have HL2 := Lib.hid (show letterA x ak k p ((a : Int)).toNat = { x with flight := x.flight.set k ((portsAt x k).set p (ls.take a ++ ls.drop (a + 1))) } by rw [HLA.out, if_neg (fun h => h3 h.2.1)])
     clear h2 h3 h4
     refine wp_region_held_drew (S := fun w' => w'.cell? ⟨P1, 0, none⟩ = some (.int .i64 ak) ∧ w'.cell? ⟨P4, 0, none⟩ = some (.int .i64 e.1) ∧ w'.cell? ⟨w.heap.size, 0, none⟩ = some (.slice (some ⟨gr, 0, none⟩) x.rounds.length cr) ∧ w'.cell? ⟨P1, 1, none⟩ = some (.int .i64 (k : Int)) ∧ w'.cell? ⟨gr, k, none⟩ = some (.int .i64 r) ∧ w'.cell? ⟨w.heap.size, 3, none⟩ = some (.slice (some ⟨gs, 0, none⟩) x.slots.length cs) ∧ w'.cell? ⟨gs, k, none⟩ = some (.slice (some ⟨gw, 0, none⟩) s.length cw) ∧ w'.cell? ⟨P1, 2, none⟩ = some (.int .i64 (p : Int)) ∧ w'.cell? ⟨gw, p, none⟩ = some (.int .i64 y)) (by kernel_rfl) ?_ (fun hHeld => ?_)
     ·
      go_keep
     refine stk 0 69 ?_
     refine stk 1 70 ?_
     refine stk 2 71 ?_
     refine stk 3 72 ?_
     refine stk 4 73 ?_
     refine stk 5 74 ?_
     refine stk 6 75 ?_
     refine stk 7 76 ?_
     refine stk 8 77 ?_
     refine stk 9 78 ?_
     refine stk 10 79 ?_
     refine stk 11 80 ?_
     refine stk 12 81 ?_
     refine stk 13 82 ?_
     refine stk 14 83 ?_
     refine stn 15 84 ?_
     refine stn 16 85 ?_
     refine stn 17 86 ?_
     refine stn 18 87 ?_
     refine stn 19 88 ?_
     refine stn 20 89 ?_
     refine stn 21 90 ?_
     refine stn 22 91 ?_
     refine stn 23 92 ?_
     refine stn 24 93 ?_
     refine stn 25 94 ?_
     refine stk 26 95 ?_
     refine wpAnyH_done (by kernel_rfl) ?_ _
     go_wp2_with fail
     go_ret
     exact ⟨ret_bool HOK.out, by first | exact hbB7 | exact hbB7.drew | exact hbB7.drew.drew, by first | exact HF7.out | exact HF7.out.drew | exact HF7.out.drew.drew, fun _ => ⟨_, heads_le _ _ _ _, by rw [HL2.out]; first | exact HK7.out | exact HK7.out.drew | exact HK7.out.drew.drew⟩⟩
   ·
    have k2 : (ak == 2) = false := by rw [beq_eq_false_iff_ne]; exact h2
    have HL2 := Lib.hid (show letterA x ak k p ((a : Int)).toNat = { x with flight := x.flight.set k ((portsAt x k).set p (ls.take a ++ ls.drop (a + 1))) } by rw [HLA.out, if_neg (fun h => h2 h.1)])
    clear h2 h4
    refine wp_region_held_drew (S := fun w' => w'.cell? ⟨P1, 0, none⟩ = some (.int .i64 ak) ∧ w'.cell? ⟨P4, 0, none⟩ = some (.int .i64 e.1) ∧ w'.cell? ⟨w.heap.size, 0, none⟩ = some (.slice (some ⟨gr, 0, none⟩) x.rounds.length cr) ∧ w'.cell? ⟨P1, 1, none⟩ = some (.int .i64 (k : Int)) ∧ w'.cell? ⟨gr, k, none⟩ = some (.int .i64 r) ∧ w'.cell? ⟨w.heap.size, 3, none⟩ = some (.slice (some ⟨gs, 0, none⟩) x.slots.length cs) ∧ w'.cell? ⟨gs, k, none⟩ = some (.slice (some ⟨gw, 0, none⟩) s.length cw) ∧ w'.cell? ⟨P1, 2, none⟩ = some (.int .i64 (p : Int)) ∧ w'.cell? ⟨gw, p, none⟩ = some (.int .i64 y)) (by kernel_rfl) ?_ (fun hHeld => ?_)
    ·
     go_keep
    refine stk 0 69 ?_
    refine stk 1 70 ?_
    refine stk 2 71 ?_
    refine stk 3 72 ?_
    refine stn 4 73 ?_
    refine stn 5 74 ?_
    refine stn 6 75 ?_
    refine stn 7 76 ?_
    refine stn 8 77 ?_
    refine stn 9 78 ?_
    refine stn 10 79 ?_
    refine stn 11 80 ?_
    refine stn 12 81 ?_
    refine stk 13 82 ?_
    refine stk 14 83 ?_
    refine stn 15 84 ?_
    refine stn 16 85 ?_
    refine stn 17 86 ?_
    refine stn 18 87 ?_
    refine stn 19 88 ?_
    refine stn 20 89 ?_
    refine stn 21 90 ?_
    refine stn 22 91 ?_
    refine stn 23 92 ?_
    refine stn 24 93 ?_
    refine stn 25 94 ?_
    refine stk 26 95 ?_
    refine wpAnyH_done (by kernel_rfl) ?_ _
    go_wp2_with fail
    go_ret
    exact ⟨ret_bool HOK.out, by first | exact hbB7 | exact hbB7.drew | exact hbB7.drew.drew, by first | exact HF7.out | exact HF7.out.drew | exact HF7.out.drew.drew, fun _ => ⟨_, heads_le _ _ _ _, by rw [HL2.out]; first | exact HK7.out | exact HK7.out.drew | exact HK7.out.drew.drew⟩⟩
 ·
  have HIN := Lib.hid (show inB aa 0 ((ls.length : Int) - 1) = false from inB_f (by omega))
  have HOK := Lib.hid (show false = okL ak aa ls by unfold okL; rw [decide_eq_false hin]; rfl)
  have HEL := Lib.hid el
  clear hol el hin hat hp
  obtain ⟨w0, hw0, hb0, HY, hz0, HS0⟩ := box5 w (.slice (some ⟨gr, 0, none⟩) x.rounds.length cr) (.slice Ab x.before.length cb) (.slice An x.now.length cn) (.slice (some ⟨gs, 0, none⟩) x.slots.length cs) (.slice (some ⟨gx, 0, none⟩) x.flight.length cf) 34
  obtain ⟨w1, hw1, hb1, HA, hz1, HS1⟩ := box4a w0 (.int .i64 ak) (.int .i64 (k : Int)) (.int .i64 (p : Int)) (.int .i64 aa) 69
  replace HY := bk HY hb1
  have hB : Below w.heap.size w w1 := bl_trans (hb0) hb1
  have HW := Lib.hid (show w1 = (w.alloc (.cells #[.slice (some ⟨gr, 0, none⟩) x.rounds.length cr, .slice Ab x.before.length cb, .slice An x.now.length cn, .slice (some ⟨gs, 0, none⟩) x.slots.length cs, .slice (some ⟨gx, 0, none⟩) x.flight.length cf] 34)).alloc (.cells #[.int .i64 ak, .int .i64 (k : Int), .int .i64 (p : Int), .int .i64 aa] 69) by rw [hw1, hw0])
  obtain ⟨P1, hP1⟩ : ∃ z, z = w0.heap.size := ⟨_, rfl⟩
  have HP1 := Lib.hid (show w.heap.size + 1 = P1 by rw [hP1, HS0.out])
  have hPl1 : w.heap.size < P1 := by rw [← HP1.out]; omega
  rw [← hP1] at HA hz1
  obtain ⟨⟨y0, y1, y2⟩, ⟨y3, y4⟩, yf⟩ := cells5 HY
  obtain ⟨⟨u0, u1⟩, ⟨u2, u3⟩, uf⟩ := cells4a HA
  have ey0 := y0
  have ey1 := y1
  have ey2 := y2
  have ey3 := y3
  have ey4 := y4
  have eu0 := u0
  have eu1 := u1
  have eu2 := u2
  have eu3 := u3
  rw [HW.out] at ey0 ey1 ey2 ey3 ey4 eu0 eu1 eu2 eu3
  rw [← HP1.out] at eu0 eu1 eu2 eu3
  have hzb0 : w.heap.size < w1.heap.size := by omega
  have hzb1 : P1 < w1.heap.size := by omega
  have HX := True.intro
  clear hw1 hw0 hP1
  have hbB : Below base w w1 := hB.mono hbase
  have HFR := Lib.hid (Frame.of (val := val) (x := x) hB)
  have HK1 := Lib.hid (AsyK.up hK hB)
  clear HX hK
  go_enter Tryz.func78, Tryz.ntmps78
  go_wp2_with fail
  rw [HP1.out, ← HW.out]
  clear ey0 ey1 ey2 ey3 ey4 eu0 eu1 eu2 eu3
  have hcf := (HK1.out.fCell HEF.out hkf).1
  rw [HEQ.out] at hcf
  have hcq := (HK1.out.frCell HAT.out.hf HEQ.out hpf).1
  rw [HEL.out] at hcq
  refine wp_region_held_drew (S := fun w' => w'.cell? ⟨w.heap.size, 4, none⟩ = some (.slice (some ⟨gx, 0, none⟩) x.flight.length cf) ∧ w'.cell? ⟨P1, 1, none⟩ = some (.int .i64 (k : Int)) ∧ w'.cell? ⟨gx, k, none⟩ = some (.slice (some ⟨gq, 0, none⟩) f.length cq) ∧ w'.cell? ⟨P1, 2, none⟩ = some (.int .i64 (p : Int)) ∧ w'.cell? ⟨gq, p, none⟩ = some (.slice Al ls.length cl)) (by kernel_rfl) ?_ (fun hHeld => ?_)
  ·
   go_keep
  refine stk 0 7 ?_
  refine stk 1 8 ?_
  refine stk 2 9 ?_
  refine stk 3 10 ?_
  refine stk 4 11 ?_
  refine stk 5 12 ?_
  refine stk 6 13 ?_
  refine stk 7 14 ?_
  refine stk 8 15 ?_
  refine stk 9 16 ?_
  refine stk 10 5 ?_
  refine wpAnyH_done (by kernel_rfl) ?_ _
  go_wp2_with (go_at_call 22; (try rw [show IntKind.i64.wrap ((ls.length : Int) - 1) = (ls.length : Int) - 1 from IntWalk.i64_in _ (by omega)]); refine (spec_l1In _ _ _ _).mono ?_; rintro e w' ⟨rfl, rfl⟩; rw [HIN.out])
  go_ret
  exact ⟨ret_bool HOK.out, hbB.drew, HFR.out.drew, Acted.no HOK.out.symm⟩
end Go.Proofs.YtehkcodbcnhhoaaGreat
