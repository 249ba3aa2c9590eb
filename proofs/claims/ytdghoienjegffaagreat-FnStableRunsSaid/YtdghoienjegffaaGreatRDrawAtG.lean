/-
  Small lemmas and contracts that the texts of this claim share. No condition.
-/
import Derived.Test.YtdghoienjegffaaGreatRDrawSomeG
namespace Go.Proofs.YtdghoienjegffaaGreat
open Go.RowKit
set_option linter.all false
structure MvAt (w : World) (P PB PR b2 B : Nat) (cv : Value) (m : Nat) (val : NKey → Value) (n : Net) (u : Value) (xs : List Int) (wr : World) : Prop where
  cur : CurR wr P cv m
  net : NetK wr b2 val n
  lt : ∀ j, keyN n j → ∀ b, (val j).ownBlock = some b → b < B
  own : wr.ownsRow b2 3 1 u xs.length (xs.map intV)
  ltu : ∀ b, u.ownBlock = some b → b < B
  box : wr.heap[PB]? = some (.cells #[val .e, val .i, val .n] 27 (0, 0))
  res : wr.heap[PR]? = some (.cells #[.slice none 0 0, .slice none 0 0, .slice none 0 0] 27 (0, 0))
  bl : Below w.heap.size w wr
  hP : P < b2
  hR : PR < P
  hB : PB < B ∧ b2 ≤ B ∧ P < PB
  hw : w.heap.size ≤ PR
  sz : B ≤ wr.heap.size
section
variable {w wr w2 : World} {P PB PR b2 B m m' : Nat} {cv u : Value} {val : NKey → Value} {n : Net} {xs : List Int}
theorem MvAt.draw (h : MvAt w P PB PR b2 B cv m val n u xs wr) (hc : CurR w2 P cv m') (hg : wr.grownBy w2 (some P)) : MvAt w P PB PR b2 B cv m' val n u xs w2 := by have hP := h.hP;have hR := h.hR;have hB := h.hB;have hw := h.hw;have hs := h.sz;exact ⟨hc, OwnN.apart h.net hg (fun j hj e => by have := ((h.net.own j hj).lt P e).1; omega), h.lt, own_upP h.own hg hP, h.ltu, (hg.block PB (heap_ltN h.box) (fun e => by have e' : PB = P := Option.some.inj e; omega)).trans h.box, (hg.block PR (heap_ltN h.res) (fun e => by have e' : PR = P := Option.some.inj e; omega)).trans h.res, Below.grown h.bl hg h.bl.size (fun k hk => by have e := Option.some.inj (show some P = some k from hk); omega), hP, hR, hB, hw, Nat.le_trans hs hg.size⟩
theorem MvAt.step (h : MvAt w P PB PR b2 B cv m val n u xs wr) {row : Option Nat} (hg : wr.grownBy w2 row) (hr : ∀ g, row = some g → B ≤ g) : MvAt w P PB PR b2 B cv m val n u xs w2 := by
  have hP := h.hP;have hR := h.hR;have hB := h.hB;have hw := h.hw;have hs := h.sz;have keep : ∀ b, b < B → w2.heap[b]? = wr.heap[b]? := fun b hb => hg.block b (by omega) (fun e => by have := hr b e.symm; omega)
  refine ⟨h.cur.keep (Nat.le_refl _) fun b hb' => keep b (by omega), ⟨fun j hj => (h.net.own j hj).kept hg ?_, h.net.sep⟩, h.lt, h.own.kept hg ?_, h.ltu, (keep PB hB.1).trans h.box, (keep PR (by omega)).trans h.res, Below.grown h.bl hg h.bl.size (fun k hk => by have := hr k hk; omega), hP, hR, hB, hw, Nat.le_trans hs hg.size⟩
  · cases e : (val j).ownBlock with
    | none => exact .inl rfl
    | some b => exact .inr fun e2 => by have := h.lt j hj b e; have := hr b e2.symm; omega
  · cases e : u.ownBlock with
    | none => exact .inl rfl
    | some b => exact .inr fun e2 => by have := h.ltu b e; have := hr b e2.symm; omega
theorem MvAt.up (h : MvAt w P PB PR b2 B cv m val n u xs wr) (hb : Below wr.heap.size wr w2) : MvAt w P PB PR b2 B cv m val n u xs w2 := h.step (grown_belowN hb none) fun g e => by cases e
theorem MvAt.more (h : MvAt w P PB PR b2 B cv m val n u xs wr) (hm : m ≤ m') : MvAt w P PB PR b2 B cv m' val n u xs wr := ⟨h.cur.keep hm fun _ _ => rfl, h.net, h.lt, h.own, h.ltu, h.box, h.res, h.bl, h.hP, h.hR, h.hB, h.hw, h.sz⟩
end
end Go.Proofs.YtdghoienjegffaaGreat
namespace Go.Proofs.YtdghoienjegffaaGreat
open Go.RowKit
set_option linter.all false
def CpL (w : World) (P PB PR b2 B : Nat) (cv : Value) (m : Nat) (val : NKey → Value) (n : Net) (u : Value) (xs : List Int) (L : Nat) (v : Value) (wr : World) : Prop :=
  ∃ ys : List Int, ys.length = L ∧ (∀ y ∈ ys, -1 ≤ y ∧ y ≤ 8) ∧ wr.ownsRow B 3 1 v L (ys.map intV) ∧ MvAt w P PB PR b2 B cv m val n u xs wr
def CpRel (w : World) (P PB PR b2 B : Nat) (cv : Value) (val : NKey → Value) (n : Net) (u : Value) (xs : List Int) (K : Nat) (v : Value) (wr : World) : Prop :=
  ∃ L, L ≤ K ∧ CpL w P PB PR b2 B cv (2 + 2 * L) val n u xs L v wr
set_option maxRecDepth 100000 in
set_option maxHeartbeats 800000 in
theorem spec_DrawRunCentral (v : Value) (w : World) (h : BytesC w w.heap.size v) :
  Calls Tryz.prog 15 #[v] w fun e w' => ∃ val n r u xs t ys x, e = .returned (.tuple #[.agg #[val .e, val .i, val .n], .int .i64 r, u, t, .int .i64 x]) ∧ (∃ A m c, u = .slice A m c) ∧ (∃ A m c, t = .slice A m c) ∧ DrEn w val n r u xs w' ∧ IntsR w' w'.heap.size t ys ∧ ys.length ≤ 101 ∧ -1 ≤ x ∧ x ≤ 2001 := by
 obtain ⟨hby, Ab, nb, cb, rfl, hnc⟩ := h;have HBY := Lib.hid hby
 clear hby
 obtain ⟨w1, hw1, hb1, HQ, hz1, HS1⟩ := box3 w (.slice none 0 0) (.slice none 0 0) (.slice none 0 0) 27;obtain ⟨PR, hPR⟩ : ∃ z, z = w.heap.size := ⟨_, rfl⟩
 have HPR := Lib.hid hPR;have hPRl : w.heap.size ≤ PR ∧ PR ≤ w.heap.size := by omega
 rw [← hPR] at HQ hz1;have hcur := cur_new ((HBY.out.keep fun b hb => hb1.block b hb).more (show w.heap.size ≤ w1.heap.size by omega));obtain ⟨w2, hw2⟩ : ∃ z, z = w1.alloc (.cells #[.slice Ab nb cb, .int .i64 0, .int .u64 0] 51) := ⟨_, rfl⟩
 obtain ⟨P, hP⟩ : ∃ z, z = w1.heap.size := ⟨_, rfl⟩
 have hb2 : Below w1.heap.size w1 w2 := by rw [hw2]; exact bl_alloc (Below.refl _ _) _
 have HP := Lib.hid (show w.heap.size + 1 = P by rw [hP, HS1.out]);have HP' := Lib.hid (show PR + 1 = P by rw [hPR]; exact HP.out);have hPl : PR < P ∧ w1.heap.size ≤ P ∧ P ≤ w1.heap.size := by omega
 rw [← hw2, ← hP] at hcur;have H2 := Lib.hid hcur;have HQ2 := bk HQ hb2;have HW := Lib.hid (show w2 = (w.alloc (.cells #[.slice none 0 0, .slice none 0 0, .slice none 0 0] 27)).alloc (.cells #[.slice Ab nb cb, .int .i64 0, .int .u64 0] 51) by rw [hw2, hw1]);have HB2 := Lib.hid (bl_trans hb1 hb2);have hz2 := hb2.size;have hP2 := H2.out.lt;obtain ⟨vh, hsl, hbh, Ah, nh, ch, rfl⟩ := bytes_half ((HBY.out.keep fun b hb => HB2.out.block b hb).more (show w.heap.size ≤ w2.heap.size by omega)) hnc;have hsa : ∀ W, (Instr.sliceAt 22 (.slice Ab nb cb) (some (.int .i64 ((nb : Int) / 2))) none none).run Tryz.prog W = .ok (.slice Ah nh ch) W := fun W => (Go.run_sliceAt_slice (P := Tryz.prog) (w := W) 22 _ _ _ _ (by kernel_rfl)).trans (hsl W)
 have HBH := Lib.hid hbh;have hnb : nb ≤ 1048576 := by obtain ⟨A', n', c', e1, h1, -⟩ := HBY.out; obtain ⟨-, rfl, -⟩ := Value.slice.inj e1; exact h1
 have hq : ((nb : Int)).tdiv 2 = (nb : Int) / 2 := by rw [Int.tdiv_eq_ediv_of_nonneg (by omega)]
 clear hw1 hw2 hP hPR hcur hb1 hb2 hbh;go_enter Tryz.func15, Tryz.ntmps15;go_wp2_with fail;rw [← HPR.out, HP'.out, ← HW.out];clear hsl hsa hq;refine (spec_DrawEnabledNodes _ w2 HBH.out).mono ?_;rintro e w3 ⟨val, n, r, u, xs, rfl, ⟨Au, nu, cu, rfl⟩, hde⟩;have hk3 := hde.net;obtain ⟨ge, ce, x0⟩ := own_slN (hk3.own .e trivial);obtain ⟨C1, k1, x1⟩ := own_slN (hk3.own .i trivial);obtain ⟨C2, k2, x2⟩ := own_slN (hk3.own .n trivial);have HV := Lib.hid (And.intro x0 (And.intro x1 x2));rw [x0, x1, x2];clear x0 x1 x2;generalize (rowN n val .e).len = n0 at HV ⊢;generalize (rowN n val .i).len = n1 at HV ⊢;generalize (rowN n val .n).len = n2 at HV ⊢;have HDE := Lib.hid hde;obtain ⟨w4, hw4, hb4, HB, hz4, HS4⟩ := box3 w3 (.slice ge n0 ce) (.slice C1 n1 k1) (.slice C2 n2 k2) 27;obtain ⟨PB, hPB⟩ : ∃ z, z = w3.heap.size := ⟨_, rfl⟩
 have HPB := Lib.hid hPB;have hz3 := hde.bl.size;have hPBl : w3.heap.size ≤ PB := by omega
 rw [← hPB] at HB hz4;have HW4 := Lib.hid hw4;have hb24 := bl_trans hde.bl hb4;have H4 := Lib.hid (H2.out.below hb24 hP2);have HQ4 := bk HQ2 hb24;have HK4 := Lib.hid (hde.net.up hb4);have HO4 := Lib.hid (own_upN hde.own hb4);have hz4' := hb4.size;have HB4 := Lib.hid (bl_trans HB2.out hb24);obtain ⟨q0, q1, q2, qf⟩ := cells3 HB;have eq0 := q0;have eq1 := q1;have eq2 := q2;rw [hw4, hPB] at eq0 eq1 eq2;clear hw4 hPB hk3 hde hb4 hb24;go_wp2_with fail;rw [← HW4.out, ← HPB.out];clear eq0 eq1 eq2;obtain ⟨B, hB⟩ : ∃ z, z = w4.heap.size := ⟨_, rfl⟩
 have HM4 := Lib.hid (show MvAt w P PB PR w2.heap.size B (.slice Ab nb cb) 0 val n (.slice Au nu cu) xs w4 from ⟨H4.out, HK4.out, fun j hj b e => by have := ((HDE.out.net.own j hj).lt b e).2; omega, HO4.out, fun b e => by have := (HDE.out.own.lt b e).2; omega, by rw [HV.out.1, HV.out.2.1, HV.out.2.2]; exact HB.out, HQ4.out, HB4.out, by omega, by omega, by omega, by omega, by omega⟩)
 have HBX := Lib.hid (show ∀ (wr : World) (m' : Nat), MvAt w P PB PR w2.heap.size B (.slice Ab nb cb) m' val n (.slice Au nu cu) xs wr → Hid (wr.heap[PB]? = some (.cells #[.slice ge n0 ce, .slice C1 n1 k1, .slice C2 n2 k2] 27 (0, 0))) from fun wr m' h => Lib.hid (by
  have h1 := h.box;rw [HV.out.1, HV.out.2.1, HV.out.2.2] at h1
  exact h1))
 clear q0 q1 q2 qf hB;obtain ⟨wa, hwa⟩ : ∃ z, z = w4.alloc (.cells #[.int .i64 1, .int .i64 1, .int .i64 2, .int .i64 3, .int .i64 5, .int .i64 100, .int .i64 101, .int .i64 0] 3) := ⟨_, rfl⟩
 have hba : Below w4.heap.size w4 wa := by rw [hwa]; exact bl_alloc (Below.refl _ _) _
 have HWA := Lib.hid hwa;have HLA := Lib.hid (show wa.heap[PB + 1]? = some (.cells (([1, 1, 2, 3, 5, 100, 101, 0] : List Int).map intV).toArray 3 (0, 0)) by rw [show PB + 1 = w4.heap.size by rw [HS4.out, HPB.out], hwa]; exact heap_alloc_new _ _);have HMa := Lib.hid (HM4.out.up hba);have hza := hba.size;clear hwa hba;go_upto_region 4 with fail;go_wp2_with fail;rw [← HWA.out];refine (cur_among P _ _ (PB + 1) [1, 1, 2, 3, 5, 100, 101, 0] wa HMa.out.cur (by omega) HLA.out (by omega) (by simp) (by simp)).mono ?_;rintro e wb ⟨k, rfl, hk, hcb, hgb⟩;have hkb : 0 ≤ k ∧ k ≤ 101 := by simp at hk; omega
 obtain ⟨K, rfl⟩ : ∃ K : Nat, k = (K : Int) := ⟨k.toNat, by omega⟩
 have hK : K ≤ 101 := by omega
 have HMb := Lib.hid (HMa.out.draw hcb hgb);have hsb := HMb.out.sz;have hPp := HMb.out.hP;have hBp := HMb.out.hB;clear hk hkb hcb hgb;go_wp2_with fail;go_loopw [11] (fun v wr => CpRel w P PB PR w2.heap.size B (.slice Ab nb cb) val n (.slice Au nu cu) xs K v wr) (fun v _ => K - lenOf v)
 case atStart => exact ⟨0, Nat.zero_le _, [], rfl, fun _ h => (by cases h), World.ownsRow_nil _ _ _ _, HMb.out⟩
 case round =>
  obtain ⟨L, hL, ys, hyl, hyb, hown, hat⟩ := hrel;obtain ⟨Ay, cy, rfl⟩ := own_slN hown;have HO := Lib.hid hown;have HA := Lib.hid hat;have HY := Lib.hid (And.intro hyl hyb);have hsz := hat.sz;clear hown hat hyl hyb;by_cases hlt : L < K
  ·
   go_wp2_with fail;refine (cur_pick P _ _ 9 wr HA.out.cur (by omega)).mono ?_;rintro e w7 ⟨x, rfl, hx, hc7, hg7⟩;have hxb : x ≤ 8 := by omega
   have HA7 := Lib.hid (HA.out.draw hc7 hg7);have HO7 := Lib.hid (own_upP HO.out hg7 (by omega));have hz7 := hg7.size;clear hx hc7 hg7;go_wp2_with (at_builtin; refine wpList_append1 w7 rfl (.tmp 33) (.tmp 36) 25 rfl B 3 _ 8 Tryz.underlying25 intInfo rfl _ _ _ rfl _ rfl rfl HO7.out (by unfold maxLen; omega) (by omega) (by omega) ?_; intro v8 w8 hown8 hbl8 hgr8 hlt8 hob8)
   obtain ⟨A8, c8, rfl⟩ := own_slN hown8;go_roundw
   case rel => exact ⟨L + 1, by omega, ys ++ [(x : Int)], by rw [List.length_append, HY.out.1]; rfl, fun z hz => by
    rcases List.mem_append.1 hz with hz | hz
    · exact HY.out.2 z hz
    · rw [List.mem_singleton.1 hz]; omega, by rw [List.map_append]; exact hown8, (HA7.out.step hgr8 (fun g e => (HO7.out.lt g e).1)).more (by omega)⟩
   case measure => simp [lenOf]; omega
  ·
   obtain rfl : L = K := by omega
   have hkk : ((L : Int) < (L : Int)) = False := eq_false (by omega);by_cases h0 : 0 < L
   ·
    have hg0 : ((L : Int) > 0) = True := eq_true (by omega);go_wp2_with fail;clear hkk hg0;refine (cur_one P _ _ 24 wr HA.out.cur (by omega)).mono ?_;rintro e w7 ⟨b, rfl, hc7, hg7⟩;have HA7 := Lib.hid (HA.out.draw hc7 hg7);have HO7 := Lib.hid (own_upP HO.out hg7 (by omega));have hz7 := hg7.size;clear hc7 hg7;go_upto_if 44 with fail;go_cut [] from 44 to 53 (fun wc => CpL w P PB PR w2.heap.size B (.slice Ab nb cb) (2 + 2 * L + 2) val n (.slice Au nu cu) xs L (.slice Ay L cy) wc)
    case first =>
     cases b with
     | true =>
      obtain ⟨gE, cE, eE⟩ : ∃ g c, Value.slice Ay L cy = .slice (some ⟨g, 0, none⟩) L c := by
       rcases HO7.out.2 with ⟨_, e⟩ | ⟨g, cap, cur, e, _⟩
       · omega
       · exact ⟨g, cap, e⟩
      obtain ⟨rfl, -, rfl⟩ := Value.slice.inj eE;obtain ⟨y, hy⟩ : ∃ y, ys[0]? = some y := ⟨_, List.getElem?_eq_getElem (by rw [HY.out.1]; exact h0)⟩
      have ci := own_cellI HO7.out h0 hy;have fi := own_thaw HO7.out 0;have hgl := HO7.out.lt gE rfl;clear hy eE;go_wp2_with fail;go_meet
      case rel => exact ⟨ys.set 0 (-1), by rw [List.length_set]; exact HY.out.1, fun z hz => by
       rcases List.mem_or_eq_of_mem_set hz with h | h
       · exact HY.out.2 z h
       · omega, own_setI HO7.out (-1), HA7.out.step (grownP w7 gE 0 _) (fun g e => by have := Option.some.inj e; omega)⟩
     | false =>
      go_wp2_with fail;go_meet
      case rel => exact ⟨ys, HY.out.1, HY.out.2, HO7.out, HA7.out⟩
    case rest =>
     clear HA HO HA7 HO7 HY;obtain ⟨ys, hyl, hyb, hown, hat⟩ := hcut;have HY := Lib.hid (And.intro hyl hyb);have HO := Lib.hid hown;have HA := Lib.hid hat;have hw' := hat.hw;have hR' := hat.hR;have hs' := hat.sz;clear hyl hyb hown hat;obtain ⟨q0, q1, q2, qf⟩ := cells3 (HBX.out _ _ HA.out);go_upto_region 9 with fail;refine till_region (S := fun w' => w'.cell? ⟨PB, 0, none⟩ = some (.slice ge n0 ce) ∧ w'.cell? ⟨PB, 1, none⟩ = some (.slice C1 n1 k1) ∧ w'.cell? ⟨PB, 2, none⟩ = some (.slice C2 n2 k2)) (st := 10) (by kernel_rfl) ⟨q0, q1, q2⟩ (fun hHeld => ?_);refine utk 0 47 ?_;refine utf 1 48 ?_;refine utf 2 49 ?_;refine utf 3 50 ?_;refine utf 4 51 ?_;refine ur 5 rfl (by kernel_rfl) (fun K hK => ?_);go_simp;go_at_call 23;refine (cur_ssMoves P _ _ wc.drew (HA.out.cur.below (Below.refl _ _).drew (HA.out.cur.lt)) (by omega)).mono ?_;rintro e w6 ⟨x, rfl, hx, hc6, hg6'⟩;have hg6 : wc.grownBy w6 (some P) := ⟨hg6'.os, hg6'.tape, hg6'.output, hg6'.size, hg6'.block⟩
     have HA6 := Lib.hid (HA.out.draw hc6 hg6);have HO6 := Lib.hid (own_upP HO.out hg6 (by omega));have hz6 := hg6.size;clear q0 q1 q2 qf hc6 hg6 hg6';obtain ⟨q0, q1, q2, qf⟩ := cells3 (HBX.out _ _ HA6.out);have HQ6 := Lib.hid HA6.out.res;obtain ⟨p0, p1, p2, pf⟩ := cells3 HQ6;refine hK.out (fun _ => ⟨q0, q1, q2⟩) ?_;clear hK K
     try simp only [Act.put, pu]
     refine ur 6 rfl (by kernel_rfl) (fun K hK => ?_);go_simp;obtain ⟨we, hwe, HE, hge⟩ := set3 HQ6 (.slice ge n0 ce) (.slice C1 n1 k1) (.slice C2 n2 k2);rw [← hwe];have HFZ := Lib.hid (show DrEn w val n r (.slice Au nu cu) xs we from ⟨OwnN.mono (NetK.past HA6.out.net HQ6.out no_tyN_net hge) (show w.heap.size ≤ w2.heap.size by omega), HDE.out.fit, HDE.out.rule, own_setN (own_mono HA6.out.own (show w.heap.size ≤ w2.heap.size by omega)) hge (fun e => by have := (HA6.out.own.lt PR e).1; omega), HDE.out.len, HDE.out.i64, Below.grown HA6.out.bl hge HA6.out.bl.size (fun k hk => by have e := Option.some.inj (show some PR = some k from hk); omega)⟩);have HYF := Lib.hid (show IntsR we we.heap.size (.slice Ay L cy) ys from own_intsR (show we.ownsRow B 3 1 (.slice Ay L cy) ys.length (ys.map intV) by rw [HY.out.1]; exact own_setN HO6.out hge (fun e => by have := (HO6.out.lt PR e).1; omega)) (fun y hy => by have := HY.out.2 y hy; exact ⟨by omega, by omega⟩));have HBe := Lib.hid ((hge.block PB (heap_ltN (HBX.out _ _ HA6.out).out) (fun e => by have e' : PB = PR := Option.some.inj e; omega)).trans (HBX.out _ _ HA6.out).out);clear hwe q0 q1 q2 qf p0 p1 p2 pf;obtain ⟨q0, q1, q2, qf⟩ := cells3 HBe;refine hK.out (fun _ => ⟨q0, q1, q2⟩) ?_;clear hK K
     try simp only [Act.put, pu]
     refine ur 7 rfl (by kernel_rfl) (fun K hK => ?_);go_simp;refine hK.out (fun _ => ⟨q0, q1, q2⟩) ?_;clear hK K
     try simp only [Act.put, pu]
     refine ur 8 rfl (by kernel_rfl) (fun K hK => ?_);go_simp;refine hK.out (fun _ => ⟨q0, q1, q2⟩) ?_;clear hK K
     try simp only [Act.put, pu]
     refine ur 9 rfl (by kernel_rfl) (fun K hK => ?_);go_simp;refine hK.out (fun _ => ⟨q0, q1, q2⟩) ?_;clear hK K
     try simp only [Act.put, pu]
     refine ur 10 rfl (by kernel_rfl) (fun K hK => ?_);go_simp;clear q0 q1 q2 qf;refine hK.out (fun h' => till_no h' (by kernel_rfl)) ?_;clear hK K
     try simp only [Act.put, pu]
     refine wpTill_done (by kernel_rfl) ?_ _;go_wp2_with fail;obtain ⟨z0, z1, z2, -⟩ := cells3 HE;exact bodyPost_ret (v := .tuple #[.agg #[.slice ge n0 ce, .slice C1 n1 k1, .slice C2 n2 k2], .int .i64 r, .slice Au nu cu, .slice Ay L cy, .int .i64 x]) (by simp [results, Tryz.results15, go_sem, z0, z1, z2]) rfl ⟨val, n, r, _, xs, _, ys, x, by rw [HV.out.1, HV.out.2.1, HV.out.2.2], ⟨_, _, _, rfl⟩, ⟨_, _, _, rfl⟩, HFZ.out, HYF.out, by have := HY.out.1; omega, hx.1, hx.2⟩
   ·
    obtain rfl : L = 0 := by omega
    have hg0 : (((0 : Nat) : Int) > 0) = False := eq_false (by omega);have hw' := HA.out.hw;have hR' := HA.out.hR;obtain ⟨q0, q1, q2, qf⟩ := cells3 (HBX.out _ _ HA.out);go_upto_region 9 with fail;refine till_region (S := fun w' => w'.cell? ⟨PB, 0, none⟩ = some (.slice ge n0 ce) ∧ w'.cell? ⟨PB, 1, none⟩ = some (.slice C1 n1 k1) ∧ w'.cell? ⟨PB, 2, none⟩ = some (.slice C2 n2 k2)) (st := 10) (by kernel_rfl) ⟨q0, q1, q2⟩ (fun hHeld => ?_);refine utk 0 47 ?_;refine utf 1 48 ?_;refine utf 2 49 ?_;refine utf 3 50 ?_;refine utf 4 51 ?_;refine ur 5 rfl (by kernel_rfl) (fun K hK => ?_);go_simp;go_at_call 23;refine (cur_ssMoves P _ _ wr.drew (HA.out.cur.below (Below.refl _ _).drew (HA.out.cur.lt)) (by omega)).mono ?_;rintro e w6 ⟨x, rfl, hx, hc6, hg6'⟩;have hg6 : wr.grownBy w6 (some P) := ⟨hg6'.os, hg6'.tape, hg6'.output, hg6'.size, hg6'.block⟩
    have HA6 := Lib.hid (HA.out.draw hc6 hg6);have HO6 := Lib.hid (own_upP HO.out hg6 (by omega));have hz6 := hg6.size;clear q0 q1 q2 qf hc6 hg6 hg6';obtain ⟨q0, q1, q2, qf⟩ := cells3 (HBX.out _ _ HA6.out);have HQ6 := Lib.hid HA6.out.res;obtain ⟨p0, p1, p2, pf⟩ := cells3 HQ6;refine hK.out (fun _ => ⟨q0, q1, q2⟩) ?_;clear hK K
    try simp only [Act.put, pu]
    refine ur 6 rfl (by kernel_rfl) (fun K hK => ?_);go_simp;obtain ⟨we, hwe, HE, hge⟩ := set3 HQ6 (.slice ge n0 ce) (.slice C1 n1 k1) (.slice C2 n2 k2);rw [← hwe];have HFZ := Lib.hid (show DrEn w val n r (.slice Au nu cu) xs we from ⟨OwnN.mono (NetK.past HA6.out.net HQ6.out no_tyN_net hge) (show w.heap.size ≤ w2.heap.size by omega), HDE.out.fit, HDE.out.rule, own_setN (own_mono HA6.out.own (show w.heap.size ≤ w2.heap.size by omega)) hge (fun e => by have := (HA6.out.own.lt PR e).1; omega), HDE.out.len, HDE.out.i64, Below.grown HA6.out.bl hge HA6.out.bl.size (fun k hk => by have e := Option.some.inj (show some PR = some k from hk); omega)⟩);have HYF := Lib.hid (show IntsR we we.heap.size (.slice Ay 0 cy) ys from own_intsR (show we.ownsRow B 3 1 (.slice Ay 0 cy) ys.length (ys.map intV) by rw [HY.out.1]; exact own_setN HO6.out hge (fun e => by have := (HO6.out.lt PR e).1; omega)) (fun y hy => by have := HY.out.2 y hy; exact ⟨by omega, by omega⟩));have HBe := Lib.hid ((hge.block PB (heap_ltN (HBX.out _ _ HA6.out).out) (fun e => by have e' : PB = PR := Option.some.inj e; omega)).trans (HBX.out _ _ HA6.out).out);clear hwe q0 q1 q2 qf p0 p1 p2 pf;obtain ⟨q0, q1, q2, qf⟩ := cells3 HBe;refine hK.out (fun _ => ⟨q0, q1, q2⟩) ?_;clear hK K
    try simp only [Act.put, pu]
    refine ur 7 rfl (by kernel_rfl) (fun K hK => ?_);go_simp;refine hK.out (fun _ => ⟨q0, q1, q2⟩) ?_;clear hK K
    try simp only [Act.put, pu]
    refine ur 8 rfl (by kernel_rfl) (fun K hK => ?_);go_simp;refine hK.out (fun _ => ⟨q0, q1, q2⟩) ?_;clear hK K
    try simp only [Act.put, pu]
    refine ur 9 rfl (by kernel_rfl) (fun K hK => ?_);go_simp;refine hK.out (fun _ => ⟨q0, q1, q2⟩) ?_;clear hK K
    try simp only [Act.put, pu]
    refine ur 10 rfl (by kernel_rfl) (fun K hK => ?_);go_simp;clear q0 q1 q2 qf;refine hK.out (fun h' => till_no h' (by kernel_rfl)) ?_;clear hK K
    try simp only [Act.put, pu]
    refine wpTill_done (by kernel_rfl) ?_ _;go_wp2_with fail;obtain ⟨z0, z1, z2, -⟩ := cells3 HE;exact bodyPost_ret (v := .tuple #[.agg #[.slice ge n0 ce, .slice C1 n1 k1, .slice C2 n2 k2], .int .i64 r, .slice Au nu cu, .slice Ay 0 cy, .int .i64 x]) (by simp [results, Tryz.results15, go_sem, z0, z1, z2]) rfl ⟨val, n, r, _, xs, _, ys, x, by rw [HV.out.1, HV.out.2.1, HV.out.2.2], ⟨_, _, _, rfl⟩, ⟨_, _, _, rfl⟩, HFZ.out, HYF.out, by have := HY.out.1; omega, hx.1, hx.2⟩
set_option maxRecDepth 100000 in
set_option maxHeartbeats 800000 in
theorem spec_DrawLegalStateOf (v : Value) (w : World) (h : BytesR w w.heap.size v) :
  Calls Tryz.prog 19 #[v] w fun e w' => ∃ val n r, e = .returned (.tuple #[.agg #[val .e, val .i, val .n], .int .i64 r]) ∧ NetK w' w.heap.size val n ∧ FitN n 200 10 ∧ Below w.heap.size w w' := by
 obtain ⟨Ab, nb, cb, rfl⟩ : ∃ A n c, v = .slice A n c := by obtain ⟨A, n, c, e, -⟩ := h; exact ⟨A, n, c, e⟩
 have HBY := Lib.hid h;clear h;obtain ⟨w1, hw1, hb1, HQ, hz1, HS1⟩ := box3 w (.slice none 0 0) (.slice none 0 0) (.slice none 0 0) 27;obtain ⟨PR, hPR⟩ : ∃ z, z = w.heap.size := ⟨_, rfl⟩
 have HPR := Lib.hid hPR;have hPRl : w.heap.size ≤ PR ∧ PR ≤ w.heap.size := by omega
 rw [← hPR] at HQ hz1;have hcur := cur_new ((HBY.out.keep fun b hb => hb1.block b hb).more (show w.heap.size ≤ w1.heap.size by omega));obtain ⟨w2, hw2⟩ : ∃ z, z = w1.alloc (.cells #[.slice Ab nb cb, .int .i64 0, .int .u64 0] 51) := ⟨_, rfl⟩
 obtain ⟨P, hP⟩ : ∃ z, z = w1.heap.size := ⟨_, rfl⟩
 have hb2 : Below w1.heap.size w1 w2 := by rw [hw2]; exact bl_alloc (Below.refl _ _) _
 have HP := Lib.hid (show w.heap.size + 1 = P by rw [hP, HS1.out]);have HP' := Lib.hid (show PR + 1 = P by rw [hPR]; exact HP.out);have hPl : PR < P ∧ w1.heap.size ≤ P ∧ P ≤ w1.heap.size := by omega
 rw [← hw2, ← hP] at hcur;have H2 := Lib.hid hcur;have HQ2 := bk HQ hb2;have HW := Lib.hid (show w2 = (w.alloc (.cells #[.slice none 0 0, .slice none 0 0, .slice none 0 0] 27)).alloc (.cells #[.slice Ab nb cb, .int .i64 0, .int .u64 0] 51) by rw [hw2, hw1]);have HB2 := Lib.hid (bl_trans hb1 hb2);have hz2 := hb2.size;have hP2 := H2.out.lt;clear hw1 hw2 hP hPR hcur hb1 hb2;go_enter Tryz.func19, Tryz.ntmps19;go_wp2_with fail;rw [← HPR.out, HP'.out, ← HW.out];refine (cur_ssPick P 0 _ w2 H2.out (by omega)).mono ?_;rintro e w3 ⟨r, rfl, hr, hc3, hg3⟩;have H3 := Lib.hid hc3;have HG3 := Lib.hid hg3;have HQ3 := Lib.hid ((hg3.block PR (heap_ltN HQ2.out) (fun e => by have e' : PR = P := Option.some.inj e; omega)).trans HQ2.out);have hz3 := hg3.size;clear hc3 hg3;go_wp2_with fail;refine (cur_ssNet P (0 + 2) 8 r _ w3 H3.out (by omega) (by omega) (by omega)).mono ?_;rintro e w4 ⟨n, val, rfl, hF, hk4, hc4, hb4⟩;obtain ⟨ge, ce, x0⟩ := own_slN (hk4.own .e trivial);obtain ⟨C1, k1, x1⟩ := own_slN (hk4.own .i trivial);obtain ⟨C2, k2, x2⟩ := own_slN (hk4.own .n trivial);have HV := Lib.hid (And.intro x0 (And.intro x1 x2));rw [x0, x1, x2];clear x0 x1 x2;generalize (rowN n val .e).len = n0 at HV ⊢;generalize (rowN n val .i).len = n1 at HV ⊢;generalize (rowN n val .n).len = n2 at HV ⊢;have HQ4 := Lib.hid ((hb4.block PR (heap_ltN HQ3.out) (by omega)).trans HQ3.out);have hz4 := hb4.size;have HG4 := Lib.hid (show w2.grownBy w4 (some P) from grownT HG3.out hb4.grows);have HK4 := Lib.hid hk4;have HF4 := Lib.hid hF;clear hk4 hc4 hb4 hF;obtain ⟨p0, p1, p2, pf⟩ := cells3 HQ4;obtain ⟨we, hwe, HE, hge⟩ := set3 HQ4 (.slice ge n0 ce) (.slice C1 n1 k1) (.slice C2 n2 k2);have HWE := Lib.hid hwe;have HKF := Lib.hid (OwnN.mono (NetK.past HK4.out HQ4.out no_tyN_net hge) (show w.heap.size ≤ w3.heap.size by omega));have HBF := Lib.hid (Below.grown (Below.grown HB2.out HG4.out (by omega) (fun k hk => by have e := Option.some.inj (show some P = some k from hk); omega)) hge (by omega) (fun k hk => by have e := Option.some.inj (show some PR = some k from hk); omega));clear hwe hge;go_wp2_with fail;rw [← HWE.out];obtain ⟨z0, z1, z2, -⟩ := cells3 HE;exact bodyPost_ret (v := .tuple #[.agg #[.slice ge n0 ce, .slice C1 n1 k1, .slice C2 n2 k2], .int .i64 r]) (by simp [results, Tryz.results19, go_sem, z0, z1, z2]) rfl ⟨val, n, r, by rw [HV.out.1, HV.out.2.1, HV.out.2.2], HKF.out, HF4.out, HBF.out⟩
end Go.Proofs.YtdghoienjegffaaGreat
namespace Go.Proofs.YtdghoienjegffaaGreat
open Go.RowKit
set_option linter.all false
noncomputable def roundT (n : Net) (r : Int) (ss : List Int) : List Int := moveS n r ss (enS n r ss)
noncomputable def roundsT (n : Net) (r : Int) : Nat → List Int → List Int
  | 0, ss => ss
  | k + 1, ss => roundT n r (roundsT n r k ss)
theorem roundT_len (n : Net) (r : Int) (ss : List Int) : (roundT n r ss).length = ss.length := moveS_len n r ss _
theorem roundsT_len (n : Net) (r : Int) (ss : List Int) : ∀ k, (roundsT n r k ss).length = ss.length
  | 0 => rfl
  | k + 1 => (roundT_len n r _).trans (roundsT_len n r ss k)
theorem move_at {n : Net} {r : Int} {ss : List Int} (f : Nat → Int) : ∀ (vs : List Nat) (out : List Int) (v : Nat), v < out.length → (vs.foldl (fun out u => out.set u (f u)) out).getD v 0 = if v ∈ vs then f v else out.getD v 0
  | [], out, v, _ => by simp
  | u :: vs, out, v, hv => by
    rw [List.foldl_cons, move_at (n := n) (r := r) (ss := ss) f vs (out.set u (f u)) v (by rw [List.length_set]; exact hv)];by_cases h1 : v ∈ vs
    · rw [if_pos h1, if_pos (List.mem_cons_of_mem _ h1)]
    · rw [if_neg h1]
      by_cases h2 : v = u
      · subst h2
        rw [if_pos (by simp), List.getD_eq_getElem?_getD, List.getElem?_set, if_pos rfl, if_pos hv];rfl
      · rw [if_neg (by simp [h1, h2]), List.getD_eq_getElem?_getD, List.getElem?_set, if_neg (fun e => h2 e.symm), ← List.getD_eq_getElem?_getD]
theorem roundT_at (n : Net) (r : Int) (ss : List Int) {v : Nat} (hv : v < ss.length) : (roundT n r ss).getD v 0 = nextS n r ss v := by
  have e : roundT n r ss = (enN n r ss).foldl (fun out u => out.set u (nextS n r ss u)) ss := by unfold roundT moveS enS;rw [List.foldl_map];rfl
  rw [e, move_at (n := n) (r := r) (ss := ss) (nextS n r ss) (enN n r ss) ss v hv];by_cases h : v ∈ enN n r ss
  · rw [if_pos h]
  · rw [if_neg h]
    unfold enN at h;apply Classical.byContradiction;intro hc;exact h (List.mem_filter.2 ⟨List.mem_range.2 hv, by simpa using fun e => hc e.symm⟩)
theorem roundT_calm {n : Net} {r : Int} {ss : List Int} (h : enS n r ss = []) : roundT n r ss = ss := by unfold roundT; rw [h]; rfl
theorem roundsT_calm {n : Net} {r : Int} {ss : List Int} {j : Nat} (h : enS n r (roundsT n r j ss) = []) : ∀ k, roundsT n r (j + k) ss = roundsT n r j ss
  | 0 => rfl
  | k + 1 => by show roundT n r (roundsT n r (j + k) ss) = _;rw [roundsT_calm h k, roundT_calm h]
theorem leastD_spec (d : List Int) : ∀ (set : List Int) (p : Int), (p < 0 ∨ 0 ≤ p) →
  let q := set.foldl (fun out w => if 0 ≤ gd d w.toNat ∧ (out < 0 ∨ gd d w.toNat < out) then gd d w.toNat else out) p
  (0 ≤ p → 0 ≤ q ∧ q ≤ p) ∧ (∀ w ∈ set, 0 ≤ gd d w.toNat → 0 ≤ q ∧ q ≤ gd d w.toNat) ∧ (q = p ∨ ∃ w ∈ set, 0 ≤ gd d w.toNat ∧ q = gd d w.toNat)
 | [], p, _ => ⟨fun h => ⟨h, Int.le_refl _⟩, fun w hw _ => absurd hw (by simp), .inl rfl⟩
 | x :: set, p, hp => by
  intro q;have ih := leastD_spec d set (if 0 ≤ gd d x.toNat ∧ (p < 0 ∨ gd d x.toNat < p) then gd d x.toNat else p) (by omega);obtain ⟨i1, i2, i3⟩ := ih;have hq : q = set.foldl (fun out w => if 0 ≤ gd d w.toNat ∧ (out < 0 ∨ gd d w.toNat < out) then gd d w.toNat else out) (if 0 ≤ gd d x.toNat ∧ (p < 0 ∨ gd d x.toNat < p) then gd d x.toNat else p) := rfl;rw [← hq] at i1 i2 i3;clear hq;by_cases hc : 0 ≤ gd d x.toNat ∧ (p < 0 ∨ gd d x.toNat < p)
  ·
   rw [if_pos hc] at i1 i3;refine ⟨fun h => ?_, fun w hw h0 => ?_, ?_⟩
   · have := i1 hc.1; omega
   ·
    rcases List.mem_cons.1 hw with rfl | hw
    · exact i1 h0
    · exact i2 w hw h0
   ·
    rcases i3 with h | ⟨w, hw, h1, h2⟩
    · exact .inr ⟨x, List.mem_cons_self, hc.1, h⟩
    · exact .inr ⟨w, List.mem_cons_of_mem _ hw, h1, h2⟩
  ·
   rw [if_neg hc] at i1 i3;refine ⟨i1, fun w hw h0 => ?_, ?_⟩
   ·
    rcases List.mem_cons.1 hw with rfl | hw
    · have := i1 (by omega); omega
    · exact i2 w hw h0
   ·
    rcases i3 with h | ⟨w, hw, h1, h2⟩
    · exact .inl h
    · exact .inr ⟨w, List.mem_cons_of_mem _ hw, h1, h2⟩
theorem leastD_le {d set : List Int} {w : Int} (hw : w ∈ set) (h : 0 ≤ gd d w.toNat) : 0 ≤ leastD d set ∧ leastD d set ≤ gd d w.toNat := (leastD_spec d set (-1) (.inl (by decide))).2.1 w hw h
theorem leastD_mem {d set : List Int} (h : 0 ≤ leastD d set) : ∃ w ∈ set, 0 ≤ gd d w.toNat ∧ leastD d set = gd d w.toNat := by
  rcases (leastD_spec d set (-1) (.inl (by decide))).2.2 with h1 | h1
  · have h2 : leastD d set = -1 := h1
    omega
  · exact h1
def rootP (n : Net) (b : Nat) : Prop := n.ins.getD b 0 = 1
theorem root_in {n : Net} (h : netP n) {b : Nat} (hb : rootP n b) : b < n.es.length ∧ ((b : Int)) ∈ rootsL n.ins := by
  have hl : b < n.ins.length := by apply Classical.byContradiction;intro hc;unfold rootP at hb;rw [List.getD_eq_getElem?_getD, List.getElem?_eq_none (by omega)] at hb;exact absurd hb (by decide)
  refine ⟨by rw [← h.2.2.1]; exact hl, ?_⟩;unfold rootsL;exact List.mem_map.2 ⟨b, List.mem_filter.2 ⟨List.mem_range.2 hl, by unfold rootP at hb; simpa using hb⟩, rfl⟩
theorem root_of {n : Net} {z : Int} (hz : z ∈ rootsL n.ins) : rootP n z.toNat := by unfold rootsL at hz;obtain ⟨v, hv, rfl⟩ := List.mem_map.1 hz;have := (List.mem_filter.1 hv).2;unfold rootP;simpa using this
theorem farV_le {n : Net} (h : netP n) {v b k : Nat} (hv : v < n.es.length) (hw : Wk n.es v b k) (hb : rootP n b) : farV n v ≤ k := by have hl := (far_lab h.endsIn hv).walk hw;obtain ⟨hbl, hm⟩ := root_in h hb;have := leastD_le (d := far n.es v) hm (by simpa using hl.1);unfold farV;rw [if_neg (by omega)];have h2 := hl.2;simp only [Int.toNat_natCast] at this;omega
theorem farV_ex {n : Net} (h : netP n) {v : Nat} (hv : v < n.es.length) : (0 ≤ farV n v ∧ farV n v ≤ n.es.length) ∧ (farV n v = n.es.length ∨ ∃ (m b : Nat), farV n v = m ∧ Wk n.es v b m ∧ rootP n b) := by
  unfold farV;by_cases hc : leastD (far n.es v) (rootsL n.ins) < 0
  · rw [if_pos hc]; exact ⟨⟨by omega, by omega⟩, .inl rfl⟩
  · rw [if_neg hc]
    obtain ⟨z, hz, h0, he⟩ := leastD_mem (show 0 ≤ leastD (far n.es v) (rootsL n.ins) by omega);obtain ⟨m, hm⟩ := Int.eq_ofNat_of_zero_le h0;have hf := (far_lab h.endsIn hv).found m z.toNat hm;have hok := (far_ok h.endsIn hv).2;have hlt := gd_lt h0;have hx : gd (far n.es v) z.toNat ∈ far n.es v := by unfold gd;rw [List.getD_eq_getElem?_getD, List.getElem?_eq_getElem hlt];exact List.getElem_mem hlt
    have := hok _ hx;rw [he];exact ⟨⟨by omega, by omega⟩, .inr ⟨m, z.toNat, hm, hf, root_of hz⟩⟩
theorem leastOf_spec (k : Int) : ∀ (xs : List Int), leastOf k xs ≤ k ∧ (∀ x ∈ xs, leastOf k xs ≤ x + 1) ∧ (leastOf k xs = k ∨ ∃ x ∈ xs, leastOf k xs = x + 1) := by
  intro xs;induction xs generalizing k with
  | nil => exact ⟨Int.le_refl _, fun x hx => (by cases hx), .inl rfl⟩
  | cons y r ih =>
    have e : leastOf k (y :: r) = leastOf (if k < y + 1 then k else y + 1) r := rfl;rw [e];have hp : (if k < y + 1 then k else y + 1) ≤ k ∧ (if k < y + 1 then k else y + 1) ≤ y + 1 ∧ ((if k < y + 1 then k else y + 1) = k ∨ (if k < y + 1 then k else y + 1) = y + 1) := by split <;> omega
    generalize (if k < y + 1 then k else y + 1) = p at hp;obtain ⟨i1, i2, i3⟩ := ih p;obtain ⟨p1, p2, p3⟩ := hp;refine ⟨by omega, fun x hx => ?_, ?_⟩
    · rcases List.mem_cons.1 hx with rfl | hx
      · omega
      · exact i2 x hx
    · rcases i3 with h | ⟨x, hx, h⟩
      · rcases p3 with h' | h'
        · exact .inl (h.trans h')
        · exact .inr ⟨y, List.mem_cons_self, h.trans h'⟩
      · exact .inr ⟨x, List.mem_cons_of_mem _ hx, h⟩
theorem tree_next {n : Net} {ss : List Int} {v : Nat} : nextS n 1 ss v = treeS n (n.es.getD v []) ss v := by unfold nextS nextAt; rw [if_pos rfl]
theorem adj_ends {n : Net} {v : Nat} {e : Int × Int} (h : netP n) (hv : v < n.es.length) (he : e ∈ n.es.getD v []) : e.1.toNat < n.es.length ∧ Adj n.es v e.1.toNat := by
  have hl : n.es[v]? = some (n.es.getD v []) := by rw [List.getD_eq_getElem?_getD, List.getElem?_eq_getElem hv]; rfl
  have := h.endsIn _ (List.mem_of_getElem? hl) e he;exact ⟨this.2, _, hl, e, he, rfl⟩
theorem far_step {n : Net} (h : netP n) {v u : Nat} (hv : v < n.es.length) (hu : u < n.es.length) (ha : Adj n.es v u) : farV n v ≤ farV n u + 1 := by
  have h1 := farV_ex h hv;rcases (farV_ex h hu).2 with h2 | ⟨m, b, h2, h3, h4⟩
  · omega
  · have := farV_le h hv (h3.cons ha) h4
    omega
theorem tree_low {n : Net} (h : netP n) {ss : List Int} (hl : ss.length = n.es.length) (h0 : ∀ x ∈ ss, 0 ≤ x) : ∀ (t v : Nat), v < n.es.length → min (t : Int) (farV n v) ≤ (roundsT n 1 t ss).getD v 0
  | 0, v, hv => by
    have h1 := (farV_ex h hv).1;have h2 : 0 ≤ ss.getD v 0 := by rw [List.getD_eq_getElem?_getD, List.getElem?_eq_getElem (by omega)];exact h0 _ (List.getElem_mem _)
    show min _ _ ≤ ss.getD v 0;omega
  | t + 1, v, hv => by
    show _ ≤ (roundT n 1 (roundsT n 1 t ss)).getD v 0;rw [roundT_at _ _ _ (by rw [roundsT_len]; omega), tree_next];unfold treeS;by_cases hr : n.ins.getD v 0 = 1
    · rw [if_pos hr]
      have := farV_le h hv (Wk.nil v) hr;omega
    · rw [if_neg hr]
      have h1 := (farV_ex h hv).1;rcases (leastOf_spec n.es.length (nearSt (n.es.getD v []) (roundsT n 1 t ss))).2.2 with h2 | ⟨x, hx, h2⟩
      · omega
      · obtain ⟨e, he, rfl⟩ := nearSt_mem.1 hx
        obtain ⟨hu, ha⟩ := adj_ends h hv he;have h3 := tree_low h hl h0 t e.1.toNat hu;have h4 := far_step h hv hu ha;omega
theorem tree_max {n : Net} (h : netP n) {ss : List Int} (hl : ss.length = n.es.length) (t v : Nat) (hv : v < n.es.length) : (roundsT n 1 (t + 1) ss).getD v 0 ≤ n.es.length := by
  show (roundT n 1 (roundsT n 1 t ss)).getD v 0 ≤ _;rw [roundT_at _ _ _ (by rw [roundsT_len]; omega), tree_next];unfold treeS;split
  · omega
  · exact (leastOf_spec _ _).1
theorem tree_up {n : Net} (h : netP n) {ss : List Int} (hl : ss.length = n.es.length) {b : Nat} (hb : rootP n b) : ∀ (m v t : Nat), v < n.es.length → Wk n.es b v m → m + 1 ≤ t → (roundsT n 1 t ss).getD v 0 ≤ m := by
  intro m;induction m with
  | zero =>
    intro v t hv hw ht;cases hw;obtain ⟨t, rfl⟩ : ∃ z, t = z + 1 := ⟨t - 1, by omega⟩
    show (roundT n 1 (roundsT n 1 t ss)).getD _ 0 ≤ _;rw [roundT_at _ _ _ (by rw [roundsT_len]; omega), tree_next];unfold treeS;rw [if_pos (show n.ins.getD b 0 = 1 from hb)];exact Int.le_refl _
  | succ m ih =>
    intro v t hv hw ht;cases hw with
    | snoc h1 h2 =>
      rename_i u;obtain ⟨t, rfl⟩ : ∃ z, t = z + 1 := ⟨t - 1, by omega⟩
      have h3 := h.adj_symm _ _ h2;obtain ⟨l, hll, e, he, hev⟩ := h3;have hu : u < n.es.length := by obtain ⟨l', hl', _⟩ := h2;exact (List.getElem?_eq_some_iff.1 hl').1
      have h4 := ih u t hu h1 (by omega);show (roundT n 1 (roundsT n 1 t ss)).getD _ 0 ≤ _;rw [roundT_at _ _ _ (by rw [roundsT_len]; omega), tree_next];unfold treeS;split
      · omega
      · have hgd : n.es.getD v [] = l := by rw [List.getD_eq_getElem?_getD, hll]; rfl
        have h5 := (leastOf_spec n.es.length (nearSt (n.es.getD v []) (roundsT n 1 t ss))).2.1 ((roundsT n 1 t ss).getD u 0) (nearSt_mem.2 ⟨e, by rw [hgd]; exact he, by rw [hev]⟩);omega
theorem tree_conv {n : Net} (h : netP n) {ss : List Int} (hl : ss.length = n.es.length) (h0 : ∀ x ∈ ss, 0 ≤ x) {t : Nat} (ht : n.es.length + 1 ≤ t) : roundsT n 1 t ss = farT n := by
  have e1 : (roundsT n 1 t ss).length = n.es.length := (roundsT_len n 1 ss t).trans hl;have e2 : (farT n).length = n.es.length := by unfold farT; simp
  refine List.ext_getElem? fun v => ?_
  by_cases hv : v < n.es.length
  · have g1 : (roundsT n 1 t ss)[v]? = some ((roundsT n 1 t ss).getD v 0) := by rw [List.getD_eq_getElem?_getD, List.getElem?_eq_getElem (by omega)]; rfl
    have g2 : (farT n)[v]? = some (farV n v) := by unfold farT; rw [List.getElem?_map, List.getElem?_range hv]; rfl
    rw [g1, g2];have h1 := tree_low h hl h0 t v hv;have h2 := (farV_ex h hv).1;have h3 : (roundsT n 1 t ss).getD v 0 ≤ farV n v := by
      rcases (farV_ex h hv).2 with h4 | ⟨m, b, h4, h5, h6⟩
      · obtain ⟨t', rfl⟩ : ∃ z, t = z + 1 := ⟨t - 1, by omega⟩
        rw [h4]; exact tree_max h hl t' v hv
      · rw [h4]
        exact tree_up h hl h6 m v t hv (h5.rev h.adj_symm) (by omega)
    congr 1;omega
  · rw [List.getElem?_eq_none (by omega), List.getElem?_eq_none (by omega)]
end Go.Proofs.YtdghoienjegffaaGreat
namespace Go.Proofs.YtdghoienjegffaaGreat
open Go.RowKit
set_option linter.all false
theorem ints_upR {w w' : World} {v : Value} {xs : List Int} (h : IntsR w w.heap.size v xs) (hb : Below w.heap.size w w') : IntsR w' w'.heap.size v xs := (h.below hb).more hb.size
theorem spec_ssMost (most : Int) (w : World) : Calls Tryz.prog 30 #[.int .i64 most] w fun e w' => e = .returned (.bool (inB most 0 2000)) ∧ w = w' := by go_enter Tryz.func30, Tryz.ntmps30;go_wp2_with fail;refine (spec_l1In _ _ _ _).mono ?_;rintro e w' ⟨rfl, rfl⟩;go_wp2_with fail;go_ret;exact ⟨rfl, rfl⟩
end Go.Proofs.YtdghoienjegffaaGreat
