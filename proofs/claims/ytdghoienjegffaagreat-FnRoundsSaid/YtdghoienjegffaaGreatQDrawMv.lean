/-
  The draw DrawMoveSet: a network, a rule, states, a set of nodes. Condition: at most 2^20 bytes.
-/
import Derived.Test.YtdghoienjegffaaGreatQDrawTog
namespace Go.Proofs.YtdghoienjegffaaGreat
open Go.RowKit
set_option linter.all false
structure MvAt (w : World) (P PB PR b2 B : Nat) (cv : Value) (m : Nat) (val : NKey → Value) (n : Net) (u : Value) (xs : List Int) (wr : World) : Prop where
  cur : CurR wr P cv m
  net : NetK wr b2 val n
  lt : ∀ j, keyN n j → ∀ b, (val j).ownBlock = some b → b < B
  own : wr.ownsRow b2 3 1 u xs.length (xs.map intV)
  ltu : ∀ b, u.ownBlock = some b → b < B
  box : wr.heap[PB]? = some (.cells #[val .e, val .i, val .n] 27 (0, 0))
  res : wr.heap[PR]? = some (.cells #[.slice none 0 0, .slice none 0 0, .slice none 0 0] 27 (0, 0))
  bl : Below w.heap.size w wr
  hP : P < b2
  hR : PR < P
  hB : PB < B ∧ b2 ≤ B ∧ P < PB
  hw : w.heap.size ≤ PR
  sz : B ≤ wr.heap.size
section
variable {w wr w2 : World} {P PB PR b2 B m m' : Nat} {cv u : Value} {val : NKey → Value} {n : Net} {xs : List Int}
theorem MvAt.draw (h : MvAt w P PB PR b2 B cv m val n u xs wr) (hc : CurR w2 P cv m') (hg : wr.grownBy w2 (some P)) : MvAt w P PB PR b2 B cv m' val n u xs w2 := by
  have hP := h.hP
  have hR := h.hR
  have hB := h.hB
  have hw := h.hw
  have hs := h.sz
  exact ⟨hc, OwnN.apart h.net hg (fun j hj e => by have := ((h.net.own j hj).lt P e).1; omega), h.lt, own_upP h.own hg hP, h.ltu, (hg.block PB (heap_ltN h.box) (fun e => by have e' : PB = P := Option.some.inj e; omega)).trans h.box, (hg.block PR (heap_ltN h.res) (fun e => by have e' : PR = P := Option.some.inj e; omega)).trans h.res, Below.grown h.bl hg h.bl.size (fun k hk => by have e := Option.some.inj (show some P = some k from hk); omega), hP, hR, hB, hw, Nat.le_trans hs hg.size⟩
theorem MvAt.step (h : MvAt w P PB PR b2 B cv m val n u xs wr) {row : Option Nat} (hg : wr.grownBy w2 row) (hr : ∀ g, row = some g → B ≤ g) : MvAt w P PB PR b2 B cv m val n u xs w2 := by
  have hP := h.hP
  have hR := h.hR
  have hB := h.hB
  have hw := h.hw
  have hs := h.sz
  have keep : ∀ b, b < B → w2.heap[b]? = wr.heap[b]? := fun b hb => hg.block b (by omega) (fun e => by have := hr b e.symm; omega)
  refine ⟨h.cur.keep (Nat.le_refl _) fun b hb' => keep b (by omega), ⟨fun j hj => (h.net.own j hj).kept hg ?_, h.net.sep⟩, h.lt, h.own.kept hg ?_, h.ltu, (keep PB hB.1).trans h.box, (keep PR (by omega)).trans h.res, Below.grown h.bl hg h.bl.size (fun k hk => by have := hr k hk; omega), hP, hR, hB, hw, Nat.le_trans hs hg.size⟩
  · cases e : (val j).ownBlock with
    | none => exact .inl rfl
    | some b => exact .inr fun e2 => by have := h.lt j hj b e; have := hr b e2.symm; omega
  · cases e : u.ownBlock with
    | none => exact .inl rfl
    | some b => exact .inr fun e2 => by have := h.ltu b e; have := hr b e2.symm; omega
theorem MvAt.up (h : MvAt w P PB PR b2 B cv m val n u xs wr) (hb : Below wr.heap.size wr w2) : MvAt w P PB PR b2 B cv m val n u xs w2 := h.step (grown_belowN hb none) fun g e => by cases e
theorem MvAt.more (h : MvAt w P PB PR b2 B cv m val n u xs wr) (hm : m ≤ m') : MvAt w P PB PR b2 B cv m' val n u xs wr := ⟨h.cur.keep hm fun _ _ => rfl, h.net, h.lt, h.own, h.ltu, h.box, h.res, h.bl, h.hP, h.hR, h.hB, h.hw, h.sz⟩
end
def MvL (w : World) (P PB PR b2 B : Nat) (cv : Value) (m : Nat) (val : NKey → Value) (n : Net) (u : Value) (xs : List Int) (K : Nat) (v : Value) (wr : World) : Prop :=
  ∃ ys : List Int, ys.length ≤ K ∧ (∀ y ∈ ys, -1 ≤ y ∧ y ≤ 1000) ∧ wr.ownsRow B 3 1 v ys.length (ys.map intV) ∧ MvAt w P PB PR b2 B cv m val n u xs wr
def MlRel (w : World) (P PB PR b2 B : Nat) (cv : Value) (m : Nat) (val : NKey → Value) (n : Net) (u : Value) (xs E : List Int) (b7 : Nat) (ve v i : Value) (wr : World) : Prop :=
  ∃ k : Nat, k ≤ E.length ∧ i = .int .i64 (k : Int) ∧ MvL w P PB PR b2 B cv (m + 2 * k) val n u xs k v wr ∧ (v.ownBlock = none ∨ ∃ g, v.ownBlock = some g ∧ b7 ≤ g) ∧ wr.ownsRow B 3 1 ve E.length (E.map intV) ∧ (∀ b, ve.ownBlock = some b → b < b7) ∧ b7 ≤ wr.heap.size
set_option maxRecDepth 100000 in
set_option maxHeartbeats 4000000 in
theorem spec_DrawMoveSet (v : Value) (w : World) (h : BytesC w w.heap.size v) :
  Calls Tryz.prog 13 #[v] w fun e w' => ∃ val n r u xs t ys, e = .returned (.tuple #[.agg #[val .e, val .i, val .n], .int .i64 r, u, t]) ∧ (∃ A m c, u = .slice A m c) ∧ (∃ A m c, t = .slice A m c) ∧ DrEn w val n r u xs w' ∧ IntsR w' w'.heap.size t ys ∧ ys.length ≤ 400 := by
 obtain ⟨hby, Ab, nb, cb, rfl, hnc⟩ := h
 have HBY := Lib.hid hby
 clear hby
 obtain ⟨w1, hw1, hb1, HQ, hz1, HS1⟩ := box3 w (.slice none 0 0) (.slice none 0 0) (.slice none 0 0) 27
 obtain ⟨PR, hPR⟩ : ∃ z, z = w.heap.size := ⟨_, rfl⟩
 have HPR := Lib.hid hPR
 have hPRl : w.heap.size ≤ PR ∧ PR ≤ w.heap.size := by omega
 rw [← hPR] at HQ hz1
 have hcur := cur_new ((HBY.out.keep fun b hb => hb1.block b hb).more (show w.heap.size ≤ w1.heap.size by omega))
 obtain ⟨w2, hw2⟩ : ∃ z, z = w1.alloc (.cells #[.slice Ab nb cb, .int .i64 0, .int .u64 0] 51) := ⟨_, rfl⟩
 obtain ⟨P, hP⟩ : ∃ z, z = w1.heap.size := ⟨_, rfl⟩
 have hb2 : Below w1.heap.size w1 w2 := by rw [hw2]; exact bl_alloc (Below.refl _ _) _
 have HP := Lib.hid (show w.heap.size + 1 = P by rw [hP, HS1.out])
 have HP' := Lib.hid (show PR + 1 = P by rw [hPR]; exact HP.out)
 have hPl : PR < P ∧ w1.heap.size ≤ P ∧ P ≤ w1.heap.size := by omega
 rw [← hw2, ← hP] at hcur
 have H2 := Lib.hid hcur
 have HQ2 := bk HQ hb2
 have HW := Lib.hid (show w2 = (w.alloc (.cells #[.slice none 0 0, .slice none 0 0, .slice none 0 0] 27)).alloc (.cells #[.slice Ab nb cb, .int .i64 0, .int .u64 0] 51) by rw [hw2, hw1])
 have HB2 := Lib.hid (bl_trans hb1 hb2)
 have hz2 := hb2.size
 have hP2 := H2.out.lt
 obtain ⟨vh, hsl, hbh, Ah, nh, ch, rfl⟩ := bytes_half ((HBY.out.keep fun b hb => HB2.out.block b hb).more (show w.heap.size ≤ w2.heap.size by omega)) hnc
 have hsa : ∀ W, (Instr.sliceAt 22 (.slice Ab nb cb) (some (.int .i64 ((nb : Int) / 2))) none none).run Tryz.prog W = .ok (.slice Ah nh ch) W := fun W => (Go.run_sliceAt_slice (P := Tryz.prog) (w := W) 22 _ _ _ _ (by kernel_rfl)).trans (hsl W)
 have HBH := Lib.hid hbh
 have hnb : nb ≤ 1048576 := by obtain ⟨A', n', c', e1, h1, -⟩ := HBY.out; obtain ⟨-, rfl, -⟩ := Value.slice.inj e1; exact h1
 have hq : ((nb : Int)).tdiv 2 = (nb : Int) / 2 := by rw [Int.tdiv_eq_ediv_of_nonneg (by omega)]
 clear hw1 hw2 hP hPR hcur hb1 hb2 hbh
 go_enter Tryz.func13, Tryz.ntmps13
 go_wp2_with fail
 rw [← HPR.out, HP'.out, ← HW.out]
 clear hsl hsa hq
 refine (spec_DrawEnabledNodes _ w2 HBH.out).mono ?_
 rintro e w3 ⟨val, n, r, u, xs, rfl, ⟨Au, nu, cu, rfl⟩, hde⟩
 have hk3 := hde.net
 obtain ⟨ge, ce, x0⟩ := own_slN (hk3.own .e trivial)
 obtain ⟨C1, k1, x1⟩ := own_slN (hk3.own .i trivial)
 obtain ⟨C2, k2, x2⟩ := own_slN (hk3.own .n trivial)
 have HV := Lib.hid (And.intro x0 (And.intro x1 x2))
 rw [x0, x1, x2]
 clear x0 x1 x2
 generalize (rowN n val .e).len = n0 at HV ⊢
 generalize (rowN n val .i).len = n1 at HV ⊢
 generalize (rowN n val .n).len = n2 at HV ⊢
 have HDE := Lib.hid hde
 obtain ⟨w4, hw4, hb4, HB, hz4, HS4⟩ := box3 w3 (.slice ge n0 ce) (.slice C1 n1 k1) (.slice C2 n2 k2) 27
 obtain ⟨PB, hPB⟩ : ∃ z, z = w3.heap.size := ⟨_, rfl⟩
 have HPB := Lib.hid hPB
 have hz3 := hde.bl.size
 have hPBl : w3.heap.size ≤ PB := by omega
 rw [← hPB] at HB hz4
 have HW4 := Lib.hid hw4
 have hb24 := bl_trans hde.bl hb4
 have H4 := Lib.hid (H2.out.below hb24 hP2)
 have HQ4 := bk HQ2 hb24
 have HK4 := Lib.hid (hde.net.up hb4)
 have HO4 := Lib.hid (own_upN hde.own hb4)
 have hz4' := hb4.size
 have HB4 := Lib.hid (bl_trans HB2.out hb24)
 obtain ⟨q0, q1, q2, qf⟩ := cells3 HB
 have eq0 := q0
 have eq1 := q1
 have eq2 := q2
 rw [hw4, hPB] at eq0 eq1 eq2
 clear hw4 hPB hk3 hde hb4 hb24
 go_wp2_with fail
 rw [← HW4.out, ← HPB.out]
 clear eq0 eq1 eq2
 have hn0 : n0 = n.es.length := by
  have h3 := HDE.out.net.own .e trivial
  rw [HV.out.1] at h3
  rcases h3.2 with ⟨e1, e2⟩ | ⟨g, cap, cur, e1, _⟩
  ·
   have e3 := (Value.slice.inj e1).2.1; rw [e3]; exact e2.symm
  ·
   exact (Value.slice.inj e1).2.1
 have hn200 : n0 ≤ 200 := by rw [hn0]; exact HDE.out.fit.es
 have HN0 := Lib.hid hn0
 clear hn0
 obtain ⟨B, hB⟩ : ∃ z, z = w4.heap.size := ⟨_, rfl⟩
 have HM4 := Lib.hid (show MvAt w P PB PR w2.heap.size B (.slice Ab nb cb) 0 val n (.slice Au nu cu) xs w4 from ⟨H4.out, HK4.out, fun j hj b e => by have := ((HDE.out.net.own j hj).lt b e).2; omega, HO4.out, fun b e => by have := (HDE.out.own.lt b e).2; omega, by rw [HV.out.1, HV.out.2.1, HV.out.2.2]; exact HB.out, HQ4.out, HB4.out, by omega, by omega, by omega, by omega, by omega⟩)
 have HRD := Lib.hid (show ∀ (wr : World) (m' : Nat), MvAt w P PB PR w2.heap.size B (.slice Ab nb cb) m' val n (.slice Au nu cu) xs wr → NetR wr wr.heap.size (.slice ge n0 ce) (.slice C1 n1 k1) (.slice C2 n2 k2) n ∧ IntsR wr wr.heap.size (.slice Au nu cu) xs from fun wr m' h => by
  have h1 := h.net.reads HDE.out.fit.i64
  rw [HV.out.1, HV.out.2.1, HV.out.2.2] at h1
  exact ⟨h1, own_intsR h.own HDE.out.i64⟩)
 have HBX := Lib.hid (show ∀ (wr : World) (m' : Nat), MvAt w P PB PR w2.heap.size B (.slice Ab nb cb) m' val n (.slice Au nu cu) xs wr → Hid (wr.heap[PB]? = some (.cells #[.slice ge n0 ce, .slice C1 n1 k1, .slice C2 n2 k2] 27 (0, 0))) from fun wr m' h => Lib.hid (by
  have h1 := h.box
  rw [HV.out.1, HV.out.2.1, HV.out.2.2] at h1
  exact h1))
 clear q0 q1 q2 qf hB
 refine (spec_ssStates _ _ _ _ n r xs w4 (HRD.out _ _ HM4.out).1 (HRD.out _ _ HM4.out).2 (by have := HDE.out.fit.es; omega) (by have := HDE.out.len; omega)).mono ?_
 rintro e w5 ⟨rfl, hb5⟩
 have HM5 := Lib.hid (HM4.out.up hb5)
 clear hb5
 go_upto_if 29 with fail
 go_cut [10] from 29 to 74 (fun l wc => MvL w P PB PR w2.heap.size B (.slice Ab nb cb) 1000 val n (.slice Au nu cu) xs 300 l wc)
 case first =>
  cases hsit : sitB n r xs with
  | false =>
   go_wp2_with fail
   go_meet
   case rel => exact ⟨[], Nat.zero_le _, fun _ h => (by cases h), World.ownsRow_nil _ _ _ _, HM5.out.more (by omega)⟩
  | true =>
   have HA := Lib.hid (propB_iff.1 hsit)
   obtain ⟨q0, q1, q2, qf⟩ := cells3 (HBX.out _ _ HM5.out)
   clear hsit
   go_wp2_with fail
   clear q0 q1 q2 qf
   refine (spec_ssEnabledO _ _ _ _ n r xs w5 (HRD.out _ _ HM5.out).1 HA.out.1 (HRD.out _ _ HM5.out).2 HA.out.2).mono ?_
   rintro e w6 ⟨ve, rfl, -, -, hb6, hoe⟩
   have HM6 := Lib.hid (HM5.out.up hb6)
   have hs5 := HM5.out.sz
   have hz6 := hb6.size
   obtain ⟨E, hE⟩ : ∃ z, z = enS n r xs := ⟨_, rfl⟩
   have hEl : E.length ≤ 300 := by
    rw [hE]
    have h1 := enTo_len n r xs xs.length
    have h2 := HDE.out.len
    exact Nat.le_trans h1 h2
   have HEM := Lib.hid (show ∀ y ∈ E, 0 ≤ y ∧ y ≤ 300 from fun y hy => by
    have h1 := enS_mem (by rw [← hE]; exact hy)
    have h2 := HDE.out.len
    omega)
   rw [← hE] at hoe
   obtain ⟨Ae, ce', rfl⟩ := own_slN hoe
   have HOE := Lib.hid (own_mono hoe hs5)
   have HOL := Lib.hid (fun b e => (hoe.lt b e).2)
   clear hE hoe
   go_wp2_with fail
   go_loopw [10, 12, 35] (fun v _ i wr => MlRel w P PB PR w2.heap.size B (.slice Ab nb cb) 0 val n (.slice Au nu cu) xs E w6.heap.size (.slice Ae E.length ce') v i wr) (fun _ _ i _ => E.length - (intOf i).toNat)
   case atStart => exact ⟨0, Nat.zero_le _, rfl, ⟨[], Nat.zero_le _, fun _ h => (by cases h), World.ownsRow_nil _ _ _ _, HM6.out⟩, .inl rfl, HOE.out, HOL.out, Nat.le_refl _⟩
   case round =>
    obtain ⟨k, hk, rfl, ⟨ys, hyl, hyb, hown, hat⟩, hfr, hoe, hol, hzr⟩ := hrel
    obtain ⟨L, hL⟩ : ∃ z, z = ys.length := ⟨_, rfl⟩
    rw [← hL] at hown hyl
    have HL := Lib.hid hL
    have HO := Lib.hid hown
    have HE' := Lib.hid hoe
    have HA' := Lib.hid hat
    have HY := Lib.hid hyb
    have HFR := Lib.hid hfr
    have HOL' := Lib.hid hol
    clear hL hown hoe hat hyb hfr hol
    by_cases hlt : k < E.length
    ·
     obtain ⟨y, hy⟩ : ∃ y, E[k]? = some y := ⟨_, List.getElem?_eq_getElem hlt⟩
     have hyb := HEM.out y (List.mem_of_getElem? hy)
     obtain ⟨gE, cE, eE⟩ : ∃ g c, Value.slice Ae E.length ce' = .slice (some ⟨g, 0, none⟩) E.length c := by
      rcases HE'.out.2 with ⟨_, e⟩ | ⟨g, cap, cur, e, _⟩
      ·
       omega
      ·
       exact ⟨g, cap, e⟩
     obtain ⟨rfl, -, rfl⟩ := Value.slice.inj eE
     have hcy := own_cellI HE'.out hlt hy
     have hgE := HOL'.out gE rfl
     have hgE2 := (HE'.out.lt gE rfl).1
     clear hy eE
     have hs' := HA'.out.sz
     have hPB' := HA'.out.hB
     have hPP := HA'.out.hP
     go_wp2_with fail
     clear hcy
     refine (cur_one P _ _ _ wr HA'.out.cur (by omega)).mono ?_
     rintro e w7 ⟨b, rfl, hc7, hg7⟩
     have HA7 := Lib.hid (HA'.out.draw hc7 hg7)
     have HO7 := Lib.hid (own_upP HO.out hg7 (by omega))
     have HE7 := Lib.hid (own_upP HE'.out hg7 (by omega))
     have hz7 := hg7.size
     clear hc7 hg7
     cases b with
     | true =>
      go_wp2_with (at_builtin; refine wpList_append1 w7 rfl (.tmp 41) (.tmp 43) 25 rfl B 3 _ 8 Tryz.underlying25 intInfo rfl _ _ _ rfl _ rfl rfl HO7.out (by unfold maxLen; omega) (by omega) (by omega) ?_; intro v8 w8 hown8 hbl8 hgr8 hlt8 hob8)
      go_roundw
      case rel => exact ⟨k + 1, by omega, by go_num, ⟨ys ++ [y], by rw [List.length_append, ← HL.out]; show L + 1 ≤ k + 1; omega, fun z hz => by
       rcases List.mem_append.1 hz with hz | hz
       ·
        exact HY.out z hz
       ·
        rw [List.mem_singleton.1 hz]; omega, by rw [List.length_append, ← HL.out, List.map_append]; exact hown8, (HA7.out.step hgr8 (fun g e => (HO7.out.lt g e).1)).more (by omega)⟩, by
       rcases hob8 with h | ⟨g, h1, h2, -⟩
       ·
        rw [h]; exact HFR.out
       ·
        exact .inr ⟨g, h1, by omega⟩, HE7.out.kept hgr8 (.inr fun e => by
       rcases HFR.out with h | ⟨g, h1, h2⟩
       ·
        have e2 := (show some gE = none from e.trans h); cases e2
       ·
        have e2 := Option.some.inj (show some gE = some g from e.trans h1); omega), HOL'.out, by omega⟩
      case measure => simp [intOf]; omega
     | false =>
      go_wp2_with fail
      go_roundw
      case rel => exact ⟨k + 1, by omega, by go_num, ⟨ys, by rw [← HL.out]; omega, HY.out, by rw [← HL.out]; exact HO7.out, HA7.out.more (by omega)⟩, HFR.out, HE7.out, HOL'.out, by omega⟩
      case measure => simp [intOf]; omega
    ·
     have hkk : ((k : Int) < (E.length : Int)) = False := eq_false (by omega)
     go_wp2_with fail
     go_meet
     case rel => exact ⟨ys, by rw [← HL.out]; omega, HY.out, by rw [← HL.out]; exact HO.out, HA'.out.more (by omega)⟩
 case rest =>
  obtain ⟨ys, hyl, hyb, hown, hat⟩ := hcut
  obtain ⟨L, hL⟩ : ∃ z, z = ys.length := ⟨_, rfl⟩
  rw [← hL] at hown hyl
  obtain ⟨Ay, cy, rfl⟩ := own_slN hown
  have HL := Lib.hid hL
  have HO := Lib.hid hown
  have HA := Lib.hid hat
  have HY := Lib.hid hyb
  have hsz := hat.sz
  have hPB' := hat.hB
  have hPP := hat.hP
  clear hL hown hat hyb
  go_wp2_with fail
  refine (cur_pick P _ _ _ wc HA.out.cur (by omega)).mono ?_
  rintro e w9 ⟨x9, rfl, hx9, hc9, hg9⟩
  have HA9 := Lib.hid (HA.out.draw hc9 hg9)
  have HO9 := Lib.hid (own_upP HO.out hg9 (by omega))
  have hz9 := hg9.size
  clear hx9 hc9 hg9
  go_upto_block 2 with fail
  go_cut [10] from 46 to 74 (fun l wc => MvL w P PB PR w2.heap.size B (.slice Ab nb cb) 2000 val n (.slice Au nu cu) xs 301 l wc)
  case first =>
   by_cases h0 : x9 = 0
   ·
    subst h0
    obtain ⟨q0, q1, q2, qf⟩ := cells3 (HBX.out _ _ HA9.out)
    have hwn : IntKind.i64.wrap ((n0 : Int) - 1) = (n0 : Int) - 1 := IntWalk.i64_in _ (by omega)
    obtain ⟨wa, hwa⟩ : ∃ z, z = w9.alloc (.cells #[.int .i64 0, .int .i64 (n0 : Int), .int .i64 ((n0 : Int) - 1)] 3) := ⟨_, rfl⟩
    have hba : Below w9.heap.size w9 wa := by rw [hwa]; exact bl_alloc (Below.refl _ _) _
    have HWA := Lib.hid hwa
    have HLA := Lib.hid (show wa.heap[w9.heap.size]? = some (.cells (([0, (n0 : Int), (n0 : Int) - 1] : List Int).map intV).toArray 3 (0, 0)) by rw [hwa]; exact heap_alloc_new _ _)
    have HAa := Lib.hid (HA9.out.up hba)
    have HOa := Lib.hid (own_upN HO9.out hba)
    have hza := hba.size
    clear hwa hba
    go_wp2_with fail
    rw [← HWA.out]
    clear q0 q1 q2 qf
    refine (cur_among P _ _ w9.heap.size [0, (n0 : Int), (n0 : Int) - 1] wa HAa.out.cur (by omega) HLA.out (by omega) (by simp) (by simp)).mono ?_
    rintro e wb ⟨y, rfl, hy, hcb, hgb⟩
    have hyb : -1 ≤ y ∧ y ≤ 1000 := by simp at hy; omega
    have HAb := Lib.hid (HAa.out.draw hcb hgb)
    have HOb := Lib.hid (own_upP HOa.out hgb (by omega))
    have hzb := hgb.size
    clear hy hcb hgb
    go_wp2_with (at_builtin; refine wpList_append1 wb rfl (.tmp 50) (.tmp 61) 25 rfl B 3 _ 8 Tryz.underlying25 intInfo rfl _ _ _ rfl _ rfl rfl HOb.out (by unfold maxLen; omega) (by omega) (by omega) ?_; intro v8 w8 hown8 hbl8 hgr8 hlt8 hob8)
    go_meet
    case rel => exact ⟨ys ++ [y], by rw [List.length_append, ← HL.out]; show L + 1 ≤ 301; omega, fun z hz => by
     rcases List.mem_append.1 hz with hz | hz
     ·
      exact HY.out z hz
     ·
      rw [List.mem_singleton.1 hz]; exact hyb, by rw [List.length_append, ← HL.out, List.map_append]; exact hown8, (HAb.out.step hgr8 (fun g e => (HOb.out.lt g e).1)).more (by omega)⟩
   ·
    by_cases h1 : x9 = 1
    ·
     subst h1
     obtain ⟨q0, q1, q2, qf⟩ := cells3 (HBX.out _ _ HA9.out)
     go_wp2_with fail
     clear q0 q1 q2 qf
     refine (cur_pick P _ _ _ w9 HA9.out.cur (by omega)).mono ?_
     rintro e wb ⟨y, rfl, hy, hcb, hgb⟩
     have hyb : y ≤ 1000 := by omega
     have HAb := Lib.hid (HA9.out.draw hcb hgb)
     have hzb := hgb.size
     clear hy hcb hgb
     go_wp2_with fail
     have ho := own_madeN wb 3 1 (.int .i64 (y : Int)) (by unfold maxLen; omega)
     rw [show rowOf [] 1 (Value.int .i64 (y : Int)) = #[.int .i64 (y : Int)] from rfl] at ho
     have HAc := Lib.hid (HAb.out.up (bl_alloc (Below.refl _ _) (.cells #[.int .i64 (y : Int)] 3)))
     have HOc := Lib.hid (own_mono ho (show B ≤ wb.heap.size by omega))
     clear ho
     go_meet
     case rel => exact ⟨[(y : Int)], by show 1 ≤ 301; omega, fun z hz => by rw [List.mem_singleton.1 hz]; omega, HOc.out, HAc.out.more (by omega)⟩
    ·
     have j0 : ((x9 : Int) == 0) = false := by simpa using h0
     have j1 : ((x9 : Int) == 1) = false := by simp; omega
     have j0' : ((x9 : Int) = 0) = False := eq_false (by omega)
     have j1' : ((x9 : Int) = 1) = False := eq_false (by omega)
     go_wp2_with fail
     go_meet
     case rel => exact ⟨ys, by rw [← HL.out]; omega, HY.out, by rw [← HL.out]; exact HO9.out, HA9.out.more (by omega)⟩
  case rest =>
   clear HA HO HY HA9 HO9 HL
   obtain ⟨ys, hyl, hyb, hown, hat⟩ := hcut
   obtain ⟨Ay2, cy2, rfl⟩ := own_slN hown
   have HO := Lib.hid hown
   have HA := Lib.hid hat
   have HY := Lib.hid hyb
   have HQ9 := Lib.hid hat.res
   have hsz' := hat.sz
   have hw' := hat.hw
   clear hown hat hyb
   obtain ⟨q0, q1, q2, qf⟩ := cells3 (HBX.out _ _ HA.out)
   obtain ⟨p0, p1, p2, pf⟩ := cells3 HQ9
   obtain ⟨we, hwe, HE, hge⟩ := set3 HQ9 (.slice ge n0 ce) (.slice C1 n1 k1) (.slice C2 n2 k2)
   have HWE := Lib.hid hwe
   have HFZ := Lib.hid (show DrEn w val n r (.slice Au nu cu) xs we from ⟨OwnN.mono (NetK.past HA.out.net HQ9.out no_tyN_net hge) (show w.heap.size ≤ w2.heap.size by omega), HDE.out.fit, HDE.out.rule, own_setN (own_mono HA.out.own (show w.heap.size ≤ w2.heap.size by omega)) hge (fun e => by have := (HA.out.own.lt PR e).1; omega), HDE.out.len, HDE.out.i64, Below.grown HA.out.bl hge HA.out.bl.size (fun k hk => by have e := Option.some.inj (show some PR = some k from hk); omega)⟩)
   have HYF := Lib.hid (own_intsR (own_setN HO.out hge (fun e => by have := (HO.out.lt PR e).1; omega)) (fun y hy => by have := HY.out y hy; exact ⟨by omega, by omega⟩))
   clear hwe hge
   go_wp2_with fail
   rw [← HWE.out]
   obtain ⟨z0, z1, z2, -⟩ := cells3 HE
   exact bodyPost_ret (v := .tuple #[.agg #[.slice ge n0 ce, .slice C1 n1 k1, .slice C2 n2 k2], .int .i64 r, .slice Au nu cu, .slice Ay2 ys.length cy2]) (by simp [results, Tryz.results13, go_sem, z0, z1, z2]) rfl ⟨val, n, r, _, xs, _, ys, by rw [HV.out.1, HV.out.2.1, HV.out.2.2], ⟨_, _, _, rfl⟩, ⟨_, _, _, rfl⟩, HFZ.out, HYF.out, by omega⟩
end Go.Proofs.YtdghoienjegffaaGreat
