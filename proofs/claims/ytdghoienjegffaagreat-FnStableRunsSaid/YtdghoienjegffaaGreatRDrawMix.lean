/-
  Networks beside the draws' cursor: a network of one's own in a box; the draw mixed. Condition: at most 100 nodes and ports a node.
-/
import Derived.Test.YtdghoienjegffaaGreatRCurG
namespace Go.Proofs.YtdghoienjegffaaGreat
open Go.RowKit
set_option linter.all false
structure Bp (base P : Nat) (w w' : World) : Prop where
  os : w'.os = w.os
  tape : w'.tape = w.tape
  output : w'.output = w.output
  size : w.heap.size ≤ w'.heap.size
  block : ∀ b, b < base → b ≠ P → w'.heap[b]? = w.heap[b]?
section
variable {base P : Nat} {w w' w'' : World}
theorem Bp.trans (h : Bp base P w w') (k : Bp base P w' w'') : Bp base P w w'' := ⟨k.os.trans h.os, k.tape.trans h.tape, k.output.trans h.output, Nat.le_trans h.size k.size, fun b hb hn => (k.block b hb hn).trans (h.block b hb hn)⟩
theorem Bp.below (h : Below base w w') : Bp base P w w' := ⟨h.os, h.tape, h.output, h.size, fun b hb _ => h.block b hb⟩
theorem Bp.grown (h : w.grownBy w' (some P)) (hb : base ≤ w.heap.size) : Bp base P w w' := ⟨h.os, h.tape, h.output, h.size, fun b hb' hn => h.block b (by omega) (fun e => hn (Option.some.inj e))⟩
theorem Bp.other {g : Nat} (h : w.grownBy w' (some g)) (hb : base ≤ w.heap.size) (hg : base ≤ g) : Bp base P w w' := ⟨h.os, h.tape, h.output, h.size, fun b hb' _ => h.block b (by omega) (fun e => by have e' : b = g := Option.some.inj e; omega)⟩
theorem Bp.grows (h : Bp w.heap.size P w w') : w.grownBy w' (some P) := ⟨h.os, h.tape, h.output, h.size, fun b hb hn => h.block b hb (fun e => hn (by rw [e]))⟩
theorem Bp.mono {base' : Nat} (h : Bp base P w w') (hb : base' ≤ base) : Bp base' P w w' := ⟨h.os, h.tape, h.output, h.size, fun b hb' hn => h.block b (by omega) hn⟩
end
def DrawnN (w : World) (P : Nat) (cv : Value) (m base : Nat) (Q : Net → Prop) (e : Ending) (w' : World) : Prop :=
  ∃ n val, e = .returned (.agg #[val .e, val .i, val .n]) ∧ Q n ∧ NetK w' base val n ∧ CurR w' P cv m ∧ Bp base P w w'
structure NAt (w : World) (P PB PR base : Nat) (cv : Value) (m : Nat) (Q : Net → Prop) (wr : World) : Prop where
  cur : CurR wr P cv m
  net : ∃ n val, Q n ∧ NetB wr base val n PB
  res : wr.heap[PR]? = some (.cells #[.slice none 0 0, .slice none 0 0, .slice none 0 0] 27 (0, 0))
  bp : Bp base P w wr
  hP : P < base
  hB : base ≤ PB
  hR : PR ≠ P
  hne : PB ≠ PR
section
variable {w wr w2 : World} {P PB PR base m m' : Nat} {cv : Value} {Q Q' : Net → Prop}
theorem NetB.drawn {val : NKey → Value} {n : Net} (h : NetB wr base val n PB) (hg : wr.grownBy w2 (some P)) (hP : P < base) (hB : base ≤ PB) : NetB w2 base val n PB :=
  NetB.of (OwnN.apart h.k hg fun j hj e => by have := ((h.k.own j hj).lt P e).1; omega) ((hg.block PB h.lt (fun e => by have e' : PB = P := Option.some.inj e; omega)).trans h.box)
theorem NAt.draw (h : NAt w P PB PR base cv m Q wr) (hc : CurR w2 P cv m') (hg : wr.grownBy w2 (some P)) (hb : base ≤ wr.heap.size) : NAt w P PB PR base cv m' Q w2 := by obtain ⟨n, val, h1, h2⟩ := h.net;have hP := h.hP;exact ⟨hc, ⟨n, val, h1, h2.drawn hg h.hP h.hB⟩, (hg.block PR (heap_ltN h.res) (fun e => h.hR (Option.some.inj e))).trans h.res, h.bp.trans (Bp.grown hg hb), h.hP, h.hB, h.hR, h.hne⟩
theorem NAt.up (h : NAt w P PB PR base cv m Q wr) (hb : Below wr.heap.size wr w2) (hbs : base ≤ wr.heap.size) : NAt w P PB PR base cv m Q w2 := by obtain ⟨n, val, h1, h2⟩ := h.net;exact ⟨h.cur.below (hb.mono hbs) h.hP, ⟨n, val, h1, h2.up hb⟩, (hb.block PR (heap_ltN h.res)).trans h.res, h.bp.trans (Bp.below (hb.mono hbs)), h.hP, h.hB, h.hR, h.hne⟩
theorem NAt.more (h : NAt w P PB PR base cv m Q wr) (hm : m ≤ m') (hQ : ∀ n, Q n → Q' n) : NAt w P PB PR base cv m' Q' wr := by obtain ⟨n, val, h1, h2⟩ := h.net;exact ⟨h.cur.keep hm fun _ _ => rfl, ⟨n, val, hQ n h1, h2⟩, h.res, h.bp, h.hP, h.hB, h.hR, h.hne⟩
theorem NAt.put (h : NAt w P PB PR base cv m Q wr) {n2 : Net} {val2 : NKey → Value} (hk : NetK wr base val2 n2) (hQ : Q' n2) (hbs : base ≤ wr.heap.size) {v0 v1 v2 : Value} (e0 : val2 .e = v0) (e1 : val2 .i = v1) (e2 : val2 .n = v2) :
    NAt w P PB PR base cv m Q' (((wr.setCell ⟨PB, 0, none⟩ v0).setCell ⟨PB, 1, none⟩ v1).setCell ⟨PB, 2, none⟩ v2) := by
  obtain ⟨n, val, h1, h2⟩ := h.net;obtain ⟨we, hwe, HE, hge⟩ := set3 (Lib.hid h2.box) v0 v1 v2;rw [← hwe];have hPB := h.hB;have hP := h.hP;have hne := h.hne;refine ⟨h.cur.keep (Nat.le_refl _) fun b hb => hge.block b (by have := h.cur.lt; omega) (fun e => by have e' : b = PB := Option.some.inj e; omega), ⟨n2, val2, hQ, NetB.of (NetK.past hk h2.box no_tyN_net hge) ?_⟩, (hge.block PR (heap_ltN h.res) (fun e => hne (Option.some.inj e).symm)).trans h.res, h.bp.trans (Bp.other hge hbs h.hB), h.hP, h.hB, h.hR, h.hne⟩;rw [e0, e1, e2];exact HE.out
theorem MadeN.setIn {n : Net} {N d : Nat} (h : MadeN n N d) (k : Nat) {x : Int} (hx : 0 ≤ x ∧ x ≤ 9) : MadeN { n with ins := n.ins.set k x } N d :=
  ⟨h.len, by show (n.ins.set k x).length = N; rw [List.length_set]; exact h.ins, h.ids, fun y hy => by
    rcases List.mem_or_eq_of_mem_set hy with h1 | h1
    · exact h.in9 y h1
    · rw [h1]; exact hx, h.ok, h.deg⟩
theorem MadeN.small {n : Net} {N d : Nat} (h : MadeN n N d) (hN : N ≤ 1000) (hd : d ≤ 1000) : SmallN n := by refine ⟨by rw [h.len]; exact hN, by rw [h.ids]; exact Nat.zero_le _, fun l hl => ?_, by rw [h.ins]; exact hN⟩;obtain ⟨u, hu, rfl⟩ := rowAt_mem hl;exact Nat.le_trans (h.deg u) hd
end
def MxRel (w : World) (P PB PR base : Nat) (cv : Value) (m N d : Nat) (i : Value) (wr : World) : Prop := ∃ j : Nat, j ≤ N ∧ i = .int .i64 (j : Int) ∧ NAt w P PB PR base cv (m + 206 * j) (fun n => MadeN n N d) wr
def MxRel2 (w : World) (P PB PR base : Nat) (cv : Value) (m N d : Nat) (i : Value) (wr : World) : Prop := ∃ j : Nat, j ≤ N ∧ i = .int .i64 (j : Int) ∧ NAt w P PB PR base cv (m + 206 * N + 2 + 2 * j) (fun n => MadeN n N d) wr
set_option maxRecDepth 100000 in
set_option maxHeartbeats 4000000 in
theorem cur_mixed (P m : Nat) (cv : Value) (base N d : Nat) (n : Net) (val : NKey → Value) (w : World) (h : CurR w P cv m) (hm : m ≤ 576460752303423488) (hk : NetK w base val n) (hb : base ≤ w.heap.size) (hP : P < base) (hn : MadeN n N d) (hN1 : 1 ≤ N) (hN : N ≤ 100) (hd : d ≤ 100) :
    Calls Tryz.prog 132 #[.pointer (some ⟨P, 0, none⟩), .agg #[val .e, val .i, val .n]] w (DrawnN w P cv (m + 206 * N + 206 * N + 4) base fun n => MadeN n N d) := by
  have H := Lib.hid h;have HK := Lib.hid hk;have HMN := Lib.hid hn;obtain ⟨ge, ce, eke⟩ := own_slN (hk.own .e trivial);obtain ⟨C1, k1, ek1⟩ := own_slN (hk.own .i trivial);obtain ⟨C2, k2, ek2⟩ := own_slN (hk.own .n trivial);have HV := Lib.hid (And.intro eke (And.intro ek1 ek2));rw [eke, ek1, ek2];clear h hk hn eke ek1 ek2;generalize (rowN n val .e).len = n0 at HV ⊢;generalize (rowN n val .i).len = n1 at HV ⊢;generalize (rowN n val .n).len = n2 at HV ⊢;obtain ⟨w0, hw0, hb0, HD, hz0, HS0⟩ := box3 w (.slice ge n0 ce) (.slice C1 n1 k1) (.slice C2 n2 k2) 27;obtain ⟨w1, hw1, hb1, HQ, hz1, HS1⟩ := box3 w0 (.slice none 0 0) (.slice none 0 0) (.slice none 0 0) 27;have HW1 := Lib.hid (show w1 = (w.alloc (.cells #[.slice ge n0 ce, .slice C1 n1 k1, .slice C2 n2 k2] 27)).alloc (.cells #[.slice none 0 0, .slice none 0 0, .slice none 0 0] 27) by rw [hw1, hw0]);obtain ⟨PB, hPB⟩ : ∃ z, z = w.heap.size := ⟨_, rfl⟩
  obtain ⟨PR, hPR⟩ : ∃ z, z = w0.heap.size := ⟨_, rfl⟩
  have HPR := Lib.hid (show w.heap.size + 1 = PR by rw [hPR, HS0.out]);have HPB := Lib.hid hPB;have hPl : w.heap.size ≤ PB ∧ PB < PR := by rw [← HPR.out]; omega
  rw [← hPR] at HQ hz1;rw [← hPB] at HD hz0;have HD1 := bk HD hb1;have hB := bl_trans hb0 hb1;have H1 := Lib.hid (show NAt w P PB PR base cv m (fun n => MadeN n N d) w1 from ⟨H.out.below (hB.mono hb) hP, ⟨n, val, HMN.out, NetB.of (HK.out.up hB) (by rw [HV.out.1, HV.out.2.1, HV.out.2.2]; exact HD1.out)⟩, HQ.out, Bp.below (hB.mono hb), hP, by omega, by omega, by omega⟩);obtain ⟨q0, q1, q2, qf⟩ := cells3 HD1;have eq0 := q0;rw [HW1.out, hPB] at eq0;have hn0 : n0 = N := by
    have h1 := HK.out.own .e trivial;rw [HV.out.1] at h1;have h2 : n0 = n.es.length := by
      rcases h1.2 with ⟨e1, e2⟩ | ⟨g, cap, cur, e1, _⟩
      · have e3 := (Value.slice.inj e1).2.1; rw [e3]; exact e2.symm
      · exact (Value.slice.inj e1).2.1
    rw [h2]; exact HMN.out.len
  clear hw0 hw1 hPB hPR HS0 HS1;subst hn0;go_enter Tryz.func132, Tryz.ntmps132;go_wp2_with fail;rw [HPR.out, ← HPB.out, ← HW1.out];clear eq0 q0 q1 q2 qf;go_loopw [10] (fun i wr => MxRel w P PB PR base cv m n0 d i wr) (fun i _ => n0 - (intOf i).toNat)
  case atStart => exact ⟨0, Nat.zero_le _, rfl, H1.out⟩
  case round =>
    obtain ⟨j, hj, rfl, hat⟩ := hrel;have HA := Lib.hid hat;have hbs : base ≤ wr.heap.size := by have := hat.bp.size; omega
    clear hat;by_cases hlt : j < n0
    · have hji : (j : Int) < (n0 : Int) := by omega
      have hm' : m + 206 * j ≤ 2305843009213693952 := by omega
      have hcur := HA.out.cur;have HC := Lib.hid hcur;clear hcur;go_wp2_with fail;refine (cur_one P _ cv _ _ HC.out hm').mono ?_;rintro e w2 ⟨b1, rfl, hc2, hg2⟩;have H2 := Lib.hid (HA.out.draw hc2 hg2 hbs);have hbs2 : base ≤ w2.heap.size := by have := hg2.size; omega
      clear hc2 hg2 hm';cases b1 with
      | false =>
        go_wp2_with fail;go_roundw
        case rel => exact ⟨j + 1, by omega, by go_num, H2.out.more (by omega) fun _ h => h⟩
        case measure => simp [intOf]; omega
      | true =>
        obtain ⟨n', val', hQ, hnb⟩ := H2.out.net;have HQN := Lib.hid hQ;have HNB := Lib.hid hnb;have hln := hQ.len;obtain ⟨ge', ce', eke, -, -, -, -⟩ := hnb.k.outer (by omega);rw [hln] at eke;obtain ⟨D1, l1, ek1⟩ := own_slN (hnb.k.own .i trivial);obtain ⟨D2, l2, ek2⟩ := own_slN (hnb.k.own .n trivial);obtain ⟨Aj, cj, ekj⟩ := own_slN (hnb.k.rowOwn (rowAt_lt (k := j) (by omega)));have yr := hnb.k.outerCell (cap := ce') (k := j) (by rw [hln]; exact eke) (by omega);rw [ekj] at yr;have hbx := hnb.box;rw [eke, ek1, ek2] at hbx;have hij : degA n' j ≤ 100 := Nat.le_trans (hQ.deg j) hd;have HLN := Lib.hid hln;generalize hij' : (rowAt n' j).length = ij at yr;have HIJ := Lib.hid hij';have hij2 : ij ≤ 100 := by rw [← hij']; exact hij
        have HEK := Lib.hid (And.intro eke (And.intro ek1 ek2));have hge : ge' < w2.heap.size ∧ base ≤ ge' := by have h1 := (hnb.k.own .e trivial).lt ge' (by rw [eke]; rfl);exact ⟨h1.2, h1.1⟩
        clear ek1 ek2;generalize (rowN n' val' .i).len = i1 at hbx HEK;generalize (rowN n' val' .n).len = i2 at hbx HEK;obtain ⟨q0, q1, q2, qf⟩ := cells3 (Lib.hid hbx);have HBX := Lib.hid hbx;have HYR := Lib.hid yr;have hPBl : PB < w2.heap.size := hnb.lt;clear hQ hnb eke ekj hbx hln hij' hij;go_wp2_with fail;refine till_region (S := fun w' => w'.cell? ⟨PB, 0, none⟩ = some (.slice (some ⟨ge', 0, none⟩) n0 ce') ∧ w'.cell? ⟨PB, 1, none⟩ = some (.slice D1 i1 l1) ∧ w'.cell? ⟨PB, 2, none⟩ = some (.slice D2 i2 l2) ∧ w'.cell? ⟨ge', (j : Nat), none⟩ = some (.slice Aj ij cj)) (st := 11) (by kernel_rfl) ⟨q0, q1, q2, yr⟩ (fun hHeld => ?_);refine utk 0 15 ?_;refine utf 1 16 ?_;refine utf 2 17 ?_;refine utf 3 18 ?_;refine utk 4 19 ?_;refine utf 5 20 ?_;refine utf 6 21 ?_;refine utk 7 22 ?_;refine utf 8 23 ?_;refine ur 9 rfl (by kernel_rfl) (fun K hK => ?_);go_simp;go_at_call 85;have hca := H2.out.cur;refine (cur_perm P _ cv ij w2.drew (hca.below (Below.refl base w2).drew hP) (by omega) (by omega)).mono ?_;rintro e w5 ⟨u, xs, rfl, ho5, hp5, hc5, hg5'⟩;have hg5 : w2.grownBy w5 (some P) := ⟨hg5'.os, hg5'.tape, hg5'.output, hg5'.size, hg5'.block⟩
        have H5 := Lib.hid (H2.out.draw hc5 hg5 hbs2);have hbs5 : base ≤ w5.heap.size := by have := hg5.size; omega
        have hPPB : PB ≠ P := by omega
        have hgP : ge' ≠ P := by omega
        clear q0 q1 q2 qf yr;obtain ⟨q0, q1, q2, qf⟩ := cells3 (Lib.hid ((hg5.block PB hPBl (fun e => hPPB (Option.some.inj e))).trans HBX.out));have yr := (World.cell?_of_block (a := ⟨ge', (j : Nat), none⟩) (hg5.block ge' hge.1 (fun e => hgP (Option.some.inj e)))).trans HYR.out;have HNB5 := Lib.hid (HNB.out.drawn hg5 hP (by omega));have hu5 := own_slN ho5;obtain ⟨Au, cu, rfl⟩ := hu5;have HO5 := Lib.hid ho5;have HP5 := Lib.hid hp5;clear ho5 hp5 hc5 hg5 hg5' hca;refine hK.out (fun _ => ⟨q0, q1, q2, yr⟩) ?_;clear hK K
        try simp only [Act.put, pu]
        refine ur 10 rfl (by kernel_rfl) (fun K hK => ?_);go_simp;go_at_call 159
        have hC := spec_nePorts _ _ _ (.slice Au ij cu) n' j xs w5 (HNB5.out.k.reads (HQN.out.i64 (by omega) (by omega))) (HQN.out.small (by omega) (by omega)) HQN.out.ok (by rw [HLN.out]; omega) (own_intsR HO5.out fun x hx => by
          obtain ⟨i, hi⟩ := List.getElem?_of_mem hx;obtain ⟨p, rfl, hp⟩ := HP5.out.2 i x hi
          exact ⟨by omega, by omega⟩) (by have h1 := HP5.out; rw [← HIJ.out] at h1; exact h1)
        rw [HEK.out.1, HEK.out.2.1, HEK.out.2.2] at hC;refine hC.mono ?_;clear hC;rintro e w6 ⟨n6, val6, rfl, hlk6, hk6, hb6⟩;obtain ⟨ge6, ce6, eke6⟩ := own_slN (hk6.own .e trivial);obtain ⟨E1, f1, ek61⟩ := own_slN (hk6.own .i trivial);obtain ⟨E2, f2, ek62⟩ := own_slN (hk6.own .n trivial);rw [eke6, ek61, ek62];have HE6 := Lib.hid (And.intro eke6 (And.intro ek61 ek62));generalize (rowN n6 val6 .e).len = j0 at HE6 ⊢;generalize (rowN n6 val6 .i).len = j1 at HE6 ⊢;generalize (rowN n6 val6 .n).len = j2 at HE6 ⊢;have H6 := Lib.hid (H5.out.up hb6 hbs5);have HK6 := Lib.hid (OwnN.mono hk6 hbs5);have HL6 := Lib.hid (hlk6.made HQN.out);have hbs6 : base ≤ w6.heap.size := by have := hb6.size; omega
        have hb6' := hb6.size;have q0 := (hb6.cell (p := ⟨PB, 0, none⟩) HNB5.out.lt).trans q0;have q1 := (hb6.cell (p := ⟨PB, 1, none⟩) HNB5.out.lt).trans q1;have q2 := (hb6.cell (p := ⟨PB, 2, none⟩) HNB5.out.lt).trans q2;have yr := (hb6.cell (p := ⟨ge', (j : Nat), none⟩) (by have := (HNB5.out.k.own .e trivial).lt ge' (by rw [HEK.out.1]; rfl); exact this.2)).trans yr;have qf6 : ∀ i, w6.frozen? ⟨PB, i, none⟩ = false := fun i => (World.frozen?_of_block (a := ⟨PB, i, none⟩) (hb6.block PB HNB5.out.lt)).trans (qf i)
        clear eke6 ek61 ek62 hk6 hlk6 qf;refine hK.out (fun _ => ⟨q0, q1, q2, yr⟩) ?_;clear hK K
        try simp only [Act.put, pu]
        refine ur 11 rfl (by kernel_rfl) (fun K hK => ?_);go_simp;obtain ⟨w7, hw7⟩ : ∃ z, z = (((w6.setCell ⟨PB, 0, none⟩ (.slice ge6 j0 ce6)).setCell ⟨PB, 1, none⟩ (.slice E1 j1 f1)).setCell ⟨PB, 2, none⟩ (.slice E2 j2 f2)) := ⟨_, rfl⟩
        rw [← hw7];have H7 := Lib.hid (H6.out.put (Q' := fun n => MadeN n n0 d) HK6.out HL6.out hbs6 HE6.out.1 HE6.out.2.1 HE6.out.2.2);rw [← hw7] at H7;clear hw7 q0 q1 q2 yr qf6;refine hK.out (fun h' => till_no h' (by kernel_rfl)) ?_;clear hK K
        try simp only [Act.put, pu]
        refine wpTill_done (by kernel_rfl) ?_ _;go_wp2_with fail;go_roundw
        case rel => exact ⟨j + 1, by omega, by go_num, H7.out.more (by omega) fun _ h => h⟩
        case measure => simp [intOf]; omega
    · obtain rfl : j = n0 := by omega
      have hjj : ((j : Int) < (j : Int)) = False := eq_false (by omega);have hm' : m + 206 * j ≤ 2305843009213693952 := by omega
      have hcur := HA.out.cur;have HC := Lib.hid hcur;clear hcur;go_wp2_with fail;refine (cur_one P _ cv _ _ HC.out hm').mono ?_;rintro e w2 ⟨b1, rfl, hc2, hg2⟩;have H2 := Lib.hid (HA.out.draw hc2 hg2 hbs);have hbs2 : base ≤ w2.heap.size := by have := hg2.size; omega
      clear hc2 hg2 hm' hjj;cases b1 with
      | false =>
        obtain ⟨nz, valz, hQz, hnz⟩ := H2.out.net;obtain ⟨Z0, l0, ez0⟩ := own_slN (hnz.k.own .e trivial);obtain ⟨Z1, l1, ez1⟩ := own_slN (hnz.k.own .i trivial);obtain ⟨Z2, l2, ez2⟩ := own_slN (hnz.k.own .n trivial);have hbz := hnz.box;rw [ez0, ez1, ez2] at hbz;have HEZ := Lib.hid (And.intro ez0 (And.intro ez1 ez2));have HNZ := Lib.hid hnz.k;have HQZ := Lib.hid hQz;clear ez0 ez1 ez2 hnz hQz;generalize (rowN nz valz .e).len = s0 at HEZ hbz;generalize (rowN nz valz .i).len = s1 at HEZ hbz;generalize (rowN nz valz .n).len = s2 at HEZ hbz;have HRZ := Lib.hid H2.out.res;obtain ⟨b0, b1, b2, bf⟩ := cells3 (Lib.hid hbz);obtain ⟨p0, p1, p2, pf⟩ := cells3 HRZ;obtain ⟨we, hwe, HE, hge⟩ := set3 HRZ (.slice Z0 s0 l0) (.slice Z1 s1 l1) (.slice Z2 s2 l2);have HWE := Lib.hid hwe;clear hwe hbz;go_wp2_with fail;rw [← HWE.out];obtain ⟨z0, z1, z2, -⟩ := cells3 HE;have hRb : base ≤ PR := by omega
        have hKz := NetK.past HNZ.out HRZ.out no_tyN_net hge;have hCz : CurR we P cv _ := H2.out.cur.keep (show _ ≤ m + 206 * j + 206 * j + 4 from by omega) fun b hb' => hge.block b (by have := H2.out.cur.lt; omega) (fun e => by have e' : b = PR := Option.some.inj e; have := H2.out.hP; omega)
        have hBz := H2.out.bp.trans (Bp.other hge (by have := H2.out.bp.size; omega) hRb);exact bodyPost_ret (v := .agg #[.slice Z0 s0 l0, .slice Z1 s1 l1, .slice Z2 s2 l2]) (by simp [results, Tryz.results132, go_sem, z0, z1, z2]) rfl ⟨nz, valz, by rw [HEZ.out.1, HEZ.out.2.1, HEZ.out.2.2], HQZ.out, hKz, hCz, hBz⟩
      | true =>
        obtain ⟨n', val', hQ, hnb⟩ := H2.out.net;obtain ⟨D2, l2, ek2⟩ := own_slN (hnb.k.own .n trivial);have hl2 : (rowN n' val' .n).len = j := hQ.ins;rw [hl2] at ek2;have q2 : w2.cell? ⟨PB, 2, none⟩ = some (.slice D2 j l2) := by rw [cell_of_row _ _ 2 _ _ (0, 0) hnb.box, ← ek2]; rfl
        clear hQ hnb ek2 hl2;go_wp2_with fail;clear q2;go_loopw [32] (fun i wr' => MxRel2 w P PB PR base cv m j d i wr') (fun i _ => j - (intOf i).toNat)
        case atStart => exact ⟨0, Nat.zero_le _, rfl, H2.out.more (by omega) fun _ h => h⟩
        case round =>
          obtain ⟨k, hk', rfl, hat⟩ := hrel;have HB2 := Lib.hid hat;have hbs3 : base ≤ wr.heap.size := by have := hat.bp.size; omega
          clear hat;by_cases hltk : k < j
          · obtain ⟨n', val', hQ, hnb⟩ := HB2.out.net
            have hl2 : n'.ins.length = j := hQ.ins;obtain ⟨gn, cn, ekn, -, -, hgn1, hgn2⟩ := hnb.k.insSlice (by omega);have HEN := Lib.hid ekn;have HQN := Lib.hid hQ;have HNB := Lib.hid hnb;have q2 : wr.cell? ⟨PB, 2, none⟩ = some (.slice (some ⟨gn, 0, none⟩) j cn) := by rw [cell_of_row _ _ 2 _ _ (0, 0) hnb.box, ← hl2, ← ekn]; rfl
            have hkj : (k : Int) < (j : Int) := by omega
            have hPBl : PB < wr.heap.size := hnb.lt;have HL2 := Lib.hid hl2;clear hQ hnb ekn hl2;go_wp2_with fail;refine till_region (S := fun w' => w'.cell? ⟨PB, 2, none⟩ = some (.slice (some ⟨gn, 0, none⟩) j cn)) (st := 6) (by kernel_rfl) q2 (fun hHeld => ?_);refine utf 0 35 ?_;refine utk 1 36 ?_;refine utf 2 37 ?_;refine utf 3 38 ?_;refine ur 4 rfl (by kernel_rfl) (fun K hK => ?_);go_simp;go_at_call 40;have hca := HB2.out.cur;refine (cur_pick P _ cv _ wr.drew (hca.below (Below.refl base wr).drew hP) (by omega)).mono ?_;rintro e w5 ⟨x, rfl, hx, hc5, hg5'⟩;have hg5 : wr.grownBy w5 (some P) := ⟨hg5'.os, hg5'.tape, hg5'.output, hg5'.size, hg5'.block⟩
            have H5 := Lib.hid (HB2.out.draw hc5 hg5 hbs3);have hbs5 : base ≤ w5.heap.size := by have := hg5.size; omega
            have hPPB : PB ≠ P := by omega
            have HNB5 := Lib.hid (HNB.out.drawn hg5 hP (by omega));have q2 := (World.cell?_of_block (a := ⟨PB, 2, none⟩) (hg5.block PB hPBl (fun e => hPPB (Option.some.inj e)))).trans q2;have hx9 : x ≤ 9 := by omega
            have hon : w5.ownsRow base 3 1 (.slice (some ⟨gn, 0, none⟩) j cn) j (n'.ins.map intV) := by have h1 := HNB5.out.k.own .n trivial;rw [HEN.out, HL2.out] at h1;rw [← HL2.out] at h1 ⊢;exact h1
            obtain ⟨y0, hy0⟩ : ∃ y, n'.ins[k]? = some y := ⟨_, List.getElem?_eq_getElem (by rw [HL2.out]; exact hltk)⟩
            have ci := own_cellI hon hltk hy0;have fi := own_thaw hon k;clear hx hc5 hg5 hg5' hca hon hy0;refine hK.out (fun _ => q2) ?_;clear hK K
            try simp only [Act.put, pu]
            refine utf 5 40 ?_;refine ur 6 rfl (by kernel_rfl) (fun K hK => ?_);go_simp;obtain ⟨w7, hw7⟩ : ∃ z, z = w5.setCell ⟨gn, k, none⟩ (.int .i64 (x : Int)) := ⟨_, rfl⟩
            rw [← hw7]
            have H7 := Lib.hid (show NAt w P PB PR base cv (m + 206 * j + 2 + 2 * (k + 1)) (fun n => MadeN n j d) w7 by
              have h1 := HNB5.out;have h2 := h1.k.setIn (g := gn) (cap := cn) (by rw [HEN.out, HL2.out]) k (x : Int);have hgP : PB ≠ gn := fun e => h1.ne .n trivial (by rw [HEN.out, e]; rfl)
              have hgR : PR ≠ gn := fun e => h1.k.noTy (j := .n) trivial H5.out.res no_tyN_net (by rw [HEN.out, e]; rfl)
              rw [hw7];have hk := fun b (hb : b ≠ gn) => Below.heap_setCell w5 ⟨gn, k, none⟩ (.int .i64 (x : Int)) b hb
              have h5 := H5.out
              refine ⟨h5.cur.keep (by omega) fun b hb => hk b (by have := h5.hP; omega), ⟨_, val', HQN.out.setIn k ⟨by omega, by omega⟩, NetB.of h2 ((hk PB hgP).trans h1.box)⟩, (hk PR hgR).trans h5.res, h5.bp.trans ⟨rfl, rfl, rfl, by simp only [size_setCell]; exact Nat.le_refl _, fun b hb _ => hk b (by omega)⟩, h5.hP, h5.hB, h5.hR, h5.hne⟩)
            clear hw7 q2 ci fi;refine hK.out (fun h' => till_no h' (by kernel_rfl)) ?_;clear hK K
            try simp only [Act.put, pu]
            refine wpTill_done (by kernel_rfl) ?_ _;go_wp2_with fail;go_roundw
            case rel => exact ⟨k + 1, by omega, by go_num, H7.out⟩
            case measure => simp [intOf]; omega
          · obtain rfl : k = j := by omega
            have hkk : ((k : Int) < (k : Int)) = False := eq_false (by omega);obtain ⟨nz, valz, hQz, hnz⟩ := HB2.out.net;obtain ⟨Z0, l0, ez0⟩ := own_slN (hnz.k.own .e trivial);obtain ⟨Z1, l1, ez1⟩ := own_slN (hnz.k.own .i trivial);obtain ⟨Z2, l2, ez2⟩ := own_slN (hnz.k.own .n trivial);have hbz := hnz.box;rw [ez0, ez1, ez2] at hbz;have HEZ := Lib.hid (And.intro ez0 (And.intro ez1 ez2));have HNZ := Lib.hid hnz.k;have HQZ := Lib.hid hQz;clear ez0 ez1 ez2 hnz hQz;generalize (rowN nz valz .e).len = s0 at HEZ hbz;generalize (rowN nz valz .i).len = s1 at HEZ hbz;generalize (rowN nz valz .n).len = s2 at HEZ hbz;have HRZ := Lib.hid HB2.out.res;obtain ⟨b0, b1, b2, bf⟩ := cells3 (Lib.hid hbz);obtain ⟨p0, p1, p2, pf⟩ := cells3 HRZ;obtain ⟨we, hwe, HE, hge⟩ := set3 HRZ (.slice Z0 s0 l0) (.slice Z1 s1 l1) (.slice Z2 s2 l2);have HWE := Lib.hid hwe;clear hwe hbz;go_wp2_with fail;rw [← HWE.out];obtain ⟨z0, z1, z2, -⟩ := cells3 HE;have hRb : base ≤ PR := by omega
            have hKz := NetK.past HNZ.out HRZ.out no_tyN_net hge;have hCz : CurR we P cv _ := HB2.out.cur.keep (show _ ≤ m + 206 * k + 206 * k + 4 from by omega) fun b hb' => hge.block b (by have := HB2.out.cur.lt; omega) (fun e => by have e' : b = PR := Option.some.inj e; have := HB2.out.hP; omega)
            have hBz := HB2.out.bp.trans (Bp.other hge (by have := HB2.out.bp.size; omega) hRb);exact bodyPost_ret (v := .agg #[.slice Z0 s0 l0, .slice Z1 s1 l1, .slice Z2 s2 l2]) (by simp [results, Tryz.results132, go_sem, z0, z1, z2]) rfl ⟨nz, valz, by rw [HEZ.out.1, HEZ.out.2.1, HEZ.out.2.2], HQZ.out, hKz, hCz, hBz⟩
end Go.Proofs.YtdghoienjegffaaGreat
