/-
  Small lemmas and contracts that the texts of this claim share. No condition.
-/
import Derived.Test.YtdghoienjegffaaGreatRDrawNet
namespace Go.Proofs.YtdghoienjegffaaGreat
open Go.RowKit
set_option linter.all false
structure IddN (n n' : Net) : Prop where
  es : n'.es = n.es
  ins : n'.ins = n.ins
  len : n'.ids.length = n.es.length
  ids : ∀ x ∈ n'.ids, 0 ≤ x ∧ x ≤ 20020000
structure IdAt (w : World) (P PB PR : Nat) (cv : Value) (m : Nat) (n : Net) (w6 : World) (k : Nat) (l : List Int) (val : NKey → Value) (wr : World) : Prop where
  len : l.length = k
  bd : ∀ x ∈ l, 0 ≤ x ∧ x ≤ 20020000
  net : NetB wr w.heap.size val { n with ids := l } PB
  cur : CurR wr P cv m
  res : wr.heap[PR]? = some (.cells #[.slice none 0 0, .slice none 0 0, .slice none 0 0] 27 (0, 0))
  bp : Bp w.heap.size P w wr
  own : (val .i).ownBlock = none ∨ ∃ g, (val .i).ownBlock = some g ∧ w6.heap.size ≤ g
  bk : ∀ b, b < w6.heap.size → b ≠ P → b ≠ PB → wr.heap[b]? = w6.heap[b]?
  sz : w6.heap.size ≤ wr.heap.size
  hP : P < w.heap.size
  hB : w.heap.size ≤ PB
  hR : PR ≠ PB
  hR2 : w.heap.size ≤ PR
  hR6 : PR < w6.heap.size
section
variable {w w2 w6 wr w8 : World} {P PB PR m m' k : Nat} {cv : Value} {n : Net} {l : List Int} {val : NKey → Value}
theorem IdAt.draw (h : IdAt w P PB PR cv m n w6 k l val wr) (hc : CurR w2 P cv m') (hg : wr.grownBy w2 (some P)) : IdAt w P PB PR cv m' n w6 k l val w2 := by have hP := h.hP;have hR2 := h.hR2;have hsz := h.sz;exact ⟨h.len, h.bd, h.net.drawn hg hP h.hB, hc, (hg.block PR (heap_ltN h.res) (fun e => by have e' : PR = P := Option.some.inj e; omega)).trans h.res, h.bp.trans (Bp.grown hg h.bp.size), h.own, fun b hb h1 h2 => (hg.block b (by omega) (fun e => h1 (Option.some.inj e))).trans (h.bk b hb h1 h2), Nat.le_trans hsz hg.size, hP, h.hB, h.hR, hR2, h.hR6⟩
theorem IdAt.grow (h : IdAt w P PB PR cv m n w6 k l val wr) {v8 : Value} {x : Int} (hx : 0 ≤ x ∧ x ≤ 20020000) (hg : wr.grownBy w8 (val .i).ownBlock) (hn : w8.ownsRow w.heap.size 3 1 v8 (k + 1) (l.map intV ++ [.int .i64 x])) (hb : v8.ownBlock = (val .i).ownBlock ∨ ∃ g, v8.ownBlock = some g ∧ wr.heap.size ≤ g) :
  IdAt w P PB PR cv m n w6 (k + 1) (l ++ [x]) (updN val .i v8) (w8.setCell ⟨PB, 1, none⟩ v8) := by
 have hP := h.hP;have hB := h.hB;have hR2 := h.hR2;have hR6 := h.hR6;have hsz := h.sz;have hob : ∀ b, (val .i).ownBlock = some b → w6.heap.size ≤ b := fun b e => by
  rcases h.own with h1 | ⟨g, h1, h2⟩
  · rw [h1] at e; cases e
  · rw [h1] at e; rw [← Option.some.inj e]; exact h2
 have keep : ∀ b, b < w6.heap.size → b ≠ PB → (w8.setCell ⟨PB, 1, none⟩ v8).heap[b]? = wr.heap[b]? := fun b hb hne => (Below.heap_setCell _ _ _ _ hne).trans (hg.block b (by omega) (fun e => by have := hob b e.symm; omega))
 have hbx : w8.heap[PB]? = some (.cells #[val .e, val .i, val .n] 27 (0, 0)) := (hg.block PB h.net.lt (fun e => h.net.ne .i trivial e.symm)).trans h.net.box;obtain ⟨we, e1, -, g1⟩ := set1 hbx 1 v8;refine ⟨by rw [List.length_append, h.len]; rfl, fun y hy => ?_, NetB.growIds h.net hg (by rw [List.length_append, h.len, List.map_append]; exact hn) hb, h.cur.keep (Nat.le_refl _) fun b hb => keep b (by omega) (by omega), (keep PR hR6 h.hR).trans h.res, ?_, ?_, fun b hb h1 h2 => (keep b hb h2).trans (h.bk b hb h1 h2), ?_, hP, hB, h.hR, hR2, hR6⟩
 ·
  rcases List.mem_append.1 hy with hy | hy
  · exact h.bd y hy
  · rw [List.mem_singleton.1 hy]; exact hx
 · rw [← e1];exact h.bp.trans ⟨g1.os.trans hg.os, g1.tape.trans hg.tape, g1.output.trans hg.output, Nat.le_trans hg.size g1.size, fun b hb hn => by rw [e1]; exact keep b (by omega) (by omega)⟩
 ·
  rw [updN_same];rcases hb with hb | ⟨g, h1, h2⟩
  · rw [hb]; exact h.own
  · exact .inr ⟨g, h1, by omega⟩
 · rw [← e1];have h1 := hg.size;have h2 := g1.size;omega
theorem IdAt.more (h : IdAt w P PB PR cv m n w6 k l val wr) (hm : m ≤ m') : IdAt w P PB PR cv m' n w6 k l val wr := ⟨h.len, h.bd, h.net, h.cur.keep hm fun _ _ => rfl, h.res, h.bp, h.own, h.bk, h.sz, h.hP, h.hB, h.hR, h.hR2, h.hR6⟩
end
def IdRel (w : World) (P PB PR : Nat) (cv : Value) (m : Nat) (n : Net) (w6 : World) (i : Value) (wr : World) : Prop :=
  ∃ k : Nat, k ≤ n.es.length ∧ i = .int .i64 (k : Int) ∧ ∃ l val, IdAt w P PB PR cv (m + 2 * k) n w6 k l val wr
theorem NetB.noIds {w : World} {base P : Nat} {val : NKey → Value} {n : Net} (h : NetB w base val n P) : NetB (w.setCell ⟨P, 1, none⟩ (.slice none 0 0)) base (updN val .i (.slice none 0 0)) { n with ids := [] } P := by have h1 := NetK.newIds (xs := []) h.k (World.grownBy.refl _ _) (World.ownsRow_nil _ _ _ _) (.inl rfl);obtain ⟨we, e1, h2, g1⟩ := set1 h.box 1 (.slice none 0 0);rw [← e1];refine NetB.of (NetK.past h1 h.box no_tyN_net g1) ?_;rw [h2, updN_same, updN_ne _ _ (by simp), updN_ne _ _ (by simp)];rfl
set_option maxRecDepth 100000 in
set_option maxHeartbeats 4000000 in
theorem cur_withIds (P m : Nat) (cv : Value) (ve vi vn : Value) (n : Net) (w : World) (h : CurR w P cv m) (hm : m ≤ 576460752303423488) (hn : NetR w w.heap.size ve vi vn n) (hs : SmallN n) :
  Calls Tryz.prog 155 #[.pointer (some ⟨P, 0, none⟩), .agg #[ve, vi, vn]] w (DrawnN w P cv (m + 4 * n.es.length + 6) w.heap.size (IddN n)) := by
 have H := Lib.hid h;have HN := Lib.hid hn;have HSM := Lib.hid hs;have hP := h.lt;have hN : n.es.length ≤ 1000 := hs.1;obtain ⟨⟨A0, m0, c0, rfl⟩, ⟨A1, m1, c1, rfl⟩, A2, m2, c2, rfl⟩ := hn.slices;clear h hn hs;obtain ⟨w0, hw0, hb0, HD, hz0, HS0⟩ := box3 w (.slice A0 m0 c0) (.slice A1 m1 c1) (.slice A2 m2 c2) 27;obtain ⟨w1, hw1, hb1, HQ, hz1, HS1⟩ := box3 w0 (.slice none 0 0) (.slice none 0 0) (.slice none 0 0) 27;have HW1 := Lib.hid (show w1 = (w.alloc (.cells #[.slice A0 m0 c0, .slice A1 m1 c1, .slice A2 m2 c2] 27)).alloc (.cells #[.slice none 0 0, .slice none 0 0, .slice none 0 0] 27) by rw [hw1, hw0]);obtain ⟨PB, hPB⟩ : ∃ z, z = w.heap.size := ⟨_, rfl⟩
 obtain ⟨PR, hPR⟩ : ∃ z, z = w0.heap.size := ⟨_, rfl⟩
 have HPR := Lib.hid (show w.heap.size + 1 = PR by rw [hPR, HS0.out]);have HPB := Lib.hid hPB;have hPl : w.heap.size ≤ PB ∧ PB ≤ w.heap.size ∧ PB < PR := by rw [← HPR.out]; omega
 have HPR' := Lib.hid (show PB + 1 = PR by rw [hPB]; exact HPR.out);rw [← hPR] at HQ hz1;rw [← hPB] at HD hz0;have HD1 := bk HD hb1;have hB := bl_trans hb0 hb1;obtain ⟨q0, q1, q2, qf⟩ := cells3 HD1;have eq0 := q0;have eq1 := q1;have eq2 := q2;rw [HW1.out, HPB.out] at eq0 eq1 eq2;clear hw0 hw1 hPB hPR hb0 hb1 q0 q1 q2;go_enter Tryz.func155, Tryz.ntmps155;go_wp2_with fail;rw [← HW1.out, ← HPB.out, HPR'.out];clear eq0 eq1 eq2;refine (spec_neOwn _ _ _ n w1 (HN.out.up hB) HSM.out).mono ?_;rintro e w2 ⟨val, rfl, hk2, hb2⟩;obtain ⟨ge, ce, x0⟩ := own_slN (hk2.own .e trivial);obtain ⟨C1, k1, x1⟩ := own_slN (hk2.own .i trivial);obtain ⟨C2, k2, x2⟩ := own_slN (hk2.own .n trivial);have HV := Lib.hid (And.intro x0 (And.intro x1 x2));rw [x0, x1, x2];clear x0 x1 x2;generalize (rowN n val .e).len = n0 at HV ⊢;generalize (rowN n val .i).len = n1 at HV ⊢;generalize (rowN n val .n).len = n2 at HV ⊢;have hn0 : n0 = n.es.length := by
  have h1 := hk2.own .e trivial;rw [HV.out.1] at h1;rcases h1.2 with ⟨e1, e2⟩ | ⟨g, cap, cur, e1, _⟩
  · have e3 := (Value.slice.inj e1).2.1; rw [e3]; exact e2.symm
  · exact (Value.slice.inj e1).2.1
 obtain ⟨N, hNN⟩ : ∃ N, N = n.es.length := ⟨_, rfl⟩
 rw [← hNN] at hn0 hN;subst hn0;have HNN := Lib.hid hNN;clear hNN;have HD2 := bk HD1 hb2;have HQ2 := bk HQ hb2;have HK2 := Lib.hid hk2;have HB2 := Lib.hid (bl_trans hB hb2);have hz2 := hb2.size;have hNB2 : NetB (((w2.setCell ⟨PB, 0, none⟩ (.slice ge n0 ce)).setCell ⟨PB, 1, none⟩ (.slice C1 n1 k1)).setCell ⟨PB, 2, none⟩ (.slice C2 n2 k2)) w.heap.size val n PB ∧ w2.grownBy (((w2.setCell ⟨PB, 0, none⟩ (.slice ge n0 ce)).setCell ⟨PB, 1, none⟩ (.slice C1 n1 k1)).setCell ⟨PB, 2, none⟩ (.slice C2 n2 k2)) (some PB) := by obtain ⟨wa, hwa, HA, hga⟩ := set3 HD2 (.slice ge n0 ce) (.slice C1 n1 k1) (.slice C2 n2 k2);rw [← hwa];exact ⟨NetB.of (OwnN.mono (NetK.past hk2 HD2.out no_tyN_net hga) (by have := hB.size; omega)) (by rw [HV.out.1, HV.out.2.1, HV.out.2.2]; exact HA.out), hga⟩
 obtain ⟨ws, hws⟩ : ∃ z, z = (((w2.setCell ⟨PB, 0, none⟩ (.slice ge n0 ce)).setCell ⟨PB, 1, none⟩ (.slice C1 n1 k1)).setCell ⟨PB, 2, none⟩ (.slice C2 n2 k2)) := ⟨_, rfl⟩
 rw [← hws] at hNB2;obtain ⟨wt, hwt⟩ : ∃ z, z = ws.setCell ⟨PB, 1, none⟩ (.slice none 0 0) := ⟨_, rfl⟩
 have hNT := hNB2.1.noIds;obtain ⟨wt', e1, hbt, g1⟩ := set1 hNB2.1.box 1 (.slice none 0 0);rw [← e1] at hwt hNT;subst hwt;have HWT := Lib.hid (show wt = ((((w2.setCell ⟨PB, 0, none⟩ (.slice ge n0 ce)).setCell ⟨PB, 1, none⟩ (.slice C1 n1 k1)).setCell ⟨PB, 2, none⟩ (.slice C2 n2 k2)).setCell ⟨PB, 1, none⟩ (.slice none 0 0)) by rw [e1, hws]);have hg2 : w2.grownBy wt (some PB) := grownT hNB2.2 g1
 have HT := Lib.hid (show NAt w P PB PR w.heap.size cv m (fun n' => n' = { n with ids := [] }) wt from
  ⟨(H.out.below HB2.out hP).keep (Nat.le_refl _) fun b hb => hg2.block b (by omega) (fun e => by have e' : b = PB := Option.some.inj e; omega), ⟨_, _, rfl, hNT⟩, (hg2.block PR (heap_ltN HQ2.out) (fun e => by have e' : PR = PB := Option.some.inj e; omega)).trans HQ2.out, (Bp.below HB2.out).trans (Bp.other hg2 (by have := HB2.out.size; omega) (by omega)), hP, by omega, by omega, by omega⟩)
 have HNT := Lib.hid hNT;have HTB := Lib.hid (show wt.heap[PB]? = some (.cells #[.slice ge n0 ce, .slice none 0 0, .slice C2 n2 k2] 27 (0, 0)) by rw [hbt, HV.out.1, HV.out.2.1, HV.out.2.2]; rfl);obtain ⟨q0, q1, q2, qf⟩ := cells3 HD2;clear hk2 hb2 hNB2 hNT hws e1 hbt g1 hg2;go_wp2_with fail;rw [← HWT.out];refine (cur_one P m cv _ wt HT.out.cur (by omega)).mono ?_;rintro e w5 ⟨b, rfl, hc5, hg5⟩;have HNT5 := Lib.hid (HNT.out.drawn hg5 hP (by omega));have H5 := Lib.hid (HT.out.draw hc5 hg5 (HT.out.bp.size));have HBT := Lib.hid ((hg5.block PB (by have := heap_ltN HTB.out; omega) (fun e => by have e' : PB = P := Option.some.inj e; omega)).trans HTB.out);clear hc5 hg5 q0 q1 q2 qf;obtain ⟨q0, q1, q2, qf⟩ := cells3 HBT;go_wp2_with fail;refine (cur_perm P (m + 2) cv n0 w5 H5.out.cur (by omega) hN).mono ?_;rintro e w6 ⟨u, xs, rfl, hux, hpx, hc6, hg6⟩;have hsx : ∃ A c, u = .slice A n0 c := own_slN hux;obtain ⟨Au, cu, rfl⟩ := hsx;have HUX := Lib.hid hux;have HPX := Lib.hid hpx;have HNT6 := Lib.hid (HNT5.out.drawn hg6 hP (by omega));have H6 := Lib.hid (H5.out.draw hc6 hg6 (H5.out.bp.size));have HG6 := Lib.hid hg6;have hz6 := hg6.size;clear hux hpx hc6 hg6 q0 q1 q2 qf;go_wp2_with fail;go_loopw [21] (fun i wr => IdRel w P PB PR cv (m + 2 + 2 * n0 + 2) n w6 i wr) (fun i _ => n0 - (intOf i).toNat)
 case atStart => exact ⟨0, Nat.zero_le _, rfl, [], _, rfl, fun x hx => absurd hx (by simp), HNT6.out, H6.out.cur.keep (by omega) (fun _ _ => rfl), H6.out.res, H6.out.bp, .inl (by rw [updN_same]; rfl), fun _ _ _ _ => rfl, Nat.le_refl _, hP, by omega, by omega, by omega, heap_ltN H6.out.res⟩
 case round =>
  obtain ⟨k, hkN, rfl, l, val', hat⟩ := hrel;have HAT := Lib.hid hat;have HNB := Lib.hid hat.net;have HLL := Lib.hid hat.len;have hbz : w.heap.size ≤ wr.heap.size := hat.bp.size;have hkN' : k ≤ n0 := by rw [HNN.out]; exact hkN
  clear hkN hat;by_cases hk : k < n0
  ·
   obtain ⟨D1, k1, ek1⟩ := own_slN (HNB.out.k.own .i trivial);have hl1 : (rowN { n with ids := l } val' .i).len = k := HLL.out;rw [hl1] at ek1;have q1 : wr.cell? ⟨PB, 1, none⟩ = some (.slice D1 k k1) := by rw [cell_of_row _ _ 1 _ _ (0, 0) HNB.out.box, ← ek1]; rfl
   have hkj : ((k : Int) < (n0 : Int)) = True := eq_true (by omega);obtain ⟨gu, cur, p, eu, hgu1, hgu2, hp, hxc⟩ : ∃ gu c, ∃ p : Nat, (Value.slice Au n0 cu = .slice (some ⟨gu, 0, none⟩) n0 c) ∧ w5.heap.size ≤ gu ∧ gu < w6.heap.size ∧ p < n0 ∧ wr.cell? ⟨gu, k, none⟩ = some (.int .i64 (p : Int)) := by
    have hu := HUX.out;have hlt := hu.lt;rcases hu.2 with ⟨e1, e2⟩ | ⟨g, cap, cur, e1, hb, hg, hn, hm, hs, ht⟩
    · have e3 := (Value.slice.inj e1).2.1; omega
    ·
     obtain ⟨rfl, -, rfl⟩ := Value.slice.inj e1;have hc := hu.cellAt k (by omega);have hl := hlt g rfl;have hpb5 := heap_ltN HBT.out;have hxl : xs.length = n0 := by have := hu.1; simpa using this
     obtain ⟨p, hp1, hp2⟩ := HPX.out.2 k xs[k] (List.getElem?_eq_getElem (by omega));refine ⟨g, _, p, rfl, hl.1, hl.2, hp2, ?_⟩;rw [World.cell?_of_block (a := ⟨g, k, none⟩) (HAT.out.bk g hl.2 (by omega) (by omega))];rw [show w6.cell? ⟨g, k, none⟩ = (xs.map intV)[k]? from by simpa using hc, List.getElem?_map, List.getElem?_eq_getElem (by omega), hp1];rfl
   obtain ⟨rfl, -, rfl⟩ := Value.slice.inj eu;have HEK := Lib.hid ek1;clear ek1 hl1 eu;obtain ⟨-, -, -, f9⟩ := cells3 (Lib.hid HNB.out.box);have f1 := f9 1;clear f9;cases b with
   | true =>
    have hoi := HNB.out.k.own .i trivial;rw [HEK.out] at hoi;have HOI := Lib.hid (show wr.ownsRow w.heap.size 3 1 (.slice D1 k k1) k (l.map intV) by rw [← HLL.out]; rw [← HLL.out] at hoi; exact hoi);have hwp : IntKind.i64.wrap ((p : Int) + 1) = (p : Int) + 1 := IntWalk.i64_in _ (by omega);clear hoi;go_wp2_with (at_builtin; refine wpList_append1 wr rfl (.tmp 27) (.tmp 30) 25 rfl w.heap.size 3 _ 8 Tryz.underlying25 intInfo rfl _ _ _ rfl _ rfl rfl HOI.out (by unfold maxLen; omega) (by omega) hbz ?_; intro v8 w8 hown8 hbl8 hgr8 hlt8 hob8; obtain ⟨A8, c8, rfl⟩ := own_slN hown8; have hg8 : wr.grownBy w8 (val' .i).ownBlock := (by rw [HEK.out]; exact hgr8); have q1' : w8.cell? ⟨PB, 1, none⟩ = some (.slice D1 k k1) := (World.cell?_of_block (a := ⟨PB, 1, none⟩) (hg8.block PB HNB.out.lt (fun e => HNB.out.ne .i trivial e.symm))).trans q1; have f1' := (World.frozen?_of_block (a := ⟨PB, 1, none⟩) (hg8.block PB HNB.out.lt (fun e => HNB.out.ne .i trivial e.symm))).trans f1; clear q1 f1)
    go_roundw
    case rel => exact ⟨k + 1, by rw [← HNN.out]; omega, by go_num, _, _, ((HAT.out.grow (by omega) hg8 hown8 (by
     rcases hob8 with h | ⟨g, h1, h2, -⟩
     · exact .inl (h.trans (by rw [HEK.out]; rfl))
     · exact .inr ⟨g, h1, h2⟩)).more (by omega))⟩
    case measure => simp [intOf]; omega
   | false =>
    have hoi := HNB.out.k.own .i trivial;rw [HEK.out] at hoi;have HOI := Lib.hid (show wr.ownsRow w.heap.size 3 1 (.slice D1 k k1) k (l.map intV) by rw [← HLL.out]; rw [← HLL.out] at hoi; exact hoi);have hwa : IntKind.i64.wrap ((p : Int) * 20000) = (p : Int) * 20000 := IntWalk.i64_in _ (by omega);have hwb : IntKind.i64.wrap (1 + (p : Int) * 20000) = 1 + (p : Int) * 20000 := IntWalk.i64_in _ (by omega);clear hoi f1;go_wp2_with fail;refine till_region (S := fun w' => w'.cell? ⟨PB, 1, none⟩ = some (.slice D1 k k1)) (st := 11) (by kernel_rfl) q1 (fun hHeld => ?_);refine utf 0 33 ?_;refine utk 1 34 ?_;refine utf 2 35 ?_;refine utf 3 36 ?_;refine utf 4 37 ?_;refine utf 5 38 ?_;refine ur 6 rfl (by kernel_rfl) (fun K hK => ?_);go_simp;go_at_call 40;have hca := HAT.out.cur;refine (cur_pick P _ cv _ wr.drew (hca.below (Below.refl w.heap.size wr).drew hP) (by omega)).mono ?_;rintro e w7 ⟨x, rfl, hx, hc7, hg7'⟩;have hg7 : wr.grownBy w7 (some P) := ⟨hg7'.os, hg7'.tape, hg7'.output, hg7'.size, hg7'.block⟩
    have HA7 := Lib.hid (HAT.out.draw hc7 hg7);have hPPB : PB ≠ P := by omega
    have q1 := (World.cell?_of_block (a := ⟨PB, 1, none⟩) (hg7.block PB HNB.out.lt (fun e => hPPB (Option.some.inj e)))).trans q1;have hx2 : x < 20000 := by omega
    have hwc : IntKind.i64.wrap (1 + (p : Int) * 20000 + (x : Int)) = 1 + (p : Int) * 20000 + (x : Int) := IntWalk.i64_in _ (by omega);have hoi7 := HA7.out.net.k.own .i trivial;rw [HEK.out] at hoi7;have HOI7 := Lib.hid (show w7.ownsRow w.heap.size 3 1 (.slice D1 k k1) k (l.map intV) by rw [← HLL.out]; rw [← HLL.out] at hoi7; exact hoi7);have hbz7 : w.heap.size ≤ w7.heap.size := HA7.out.bp.size;clear hx hc7 hg7 hg7' hca hoi7;refine hK.out (fun _ => q1) ?_;clear hK K
    try simp only [Act.put, pu]
    refine utf 7 40 ?_;refine ur 8 rfl (by kernel_rfl) (fun K hK => ?_);go_simp;replace q1 := Lib.cell?_alloc_some (.cells #[.int .i64 (1 + (p : Int) * 20000 + (x : Int))] 3) q1;refine hK.out (fun _ => q1) ?_;clear hK K
    try simp only [Act.put, pu]
    refine ur 9 rfl (by kernel_rfl) (fun K hK => ?_);rw [if_pos (by rfl)];refine oper_app1 w7 (.tmp 34) (.tmp 41) 25 rfl w.heap.size 3 _ 8 Tryz.underlying25 intInfo rfl _ _ _ rfl _ rfl rfl HOI7.out (by unfold maxLen; omega) (by omega) hbz7 ?_;intro v8 w8 hown8 hbl8 hgr8 hlt8 hob8;obtain ⟨A8, c8, rfl⟩ := own_slN hown8;have hg8 : w7.grownBy w8 (val' .i).ownBlock := (by rw [HEK.out]; exact hgr8)
    clear q1;have q1 : w8.cell? ⟨PB, 1, none⟩ = some (.slice D1 k k1) := (World.cell?_of_block (a := ⟨PB, 1, none⟩) (hg8.block PB HA7.out.net.lt (fun e => HA7.out.net.ne .i trivial e.symm))).trans (by rw [cell_of_row _ _ 1 _ _ (0, 0) HA7.out.net.box, ← HEK.out]; rfl);have f1 : w8.frozen? ⟨PB, 1, none⟩ = false := by obtain ⟨-, -, -, f9⟩ := cells3 (Lib.hid HA7.out.net.box);exact (World.frozen?_of_block (a := ⟨PB, 1, none⟩) (hg8.block PB HA7.out.net.lt (fun e => HA7.out.net.ne .i trivial e.symm))).trans (f9 1)
    refine hK.out (fun _ => q1) ?_;clear hK K
    try simp only [Act.put, pu]
    refine utf 10 43 ?_;refine ur 11 rfl (by kernel_rfl) (fun K hK => ?_);go_simp;obtain ⟨w9, hw9⟩ : ∃ z, z = w8.setCell ⟨PB, 1, none⟩ (.slice A8 (k + 1) c8) := ⟨_, rfl⟩
    rw [← hw9]
    have h9 := HA7.out.grow (x := 1 + (p : Int) * 20000 + (x : Int)) (by omega) hg8 hown8 (by
     rcases hob8 with h | ⟨g, h1, h2, -⟩
     · exact .inl (h.trans (by rw [HEK.out]; rfl))
     · exact .inr ⟨g, h1, h2⟩)
    rw [← hw9] at h9;have H9 := Lib.hid h9;clear h9 hw9 q1 f1 hown8 hbl8 hgr8 hob8 hg8;refine hK.out (fun h' => till_no h' (by kernel_rfl)) ?_;clear hK K
    try simp only [Act.put, pu]
    refine wpTill_done (by kernel_rfl) ?_ _;go_wp2_with fail;go_roundw
    case rel => exact ⟨k + 1, by rw [← HNN.out]; omega, by go_num, _, _, H9.out.more (by omega)⟩
    case measure => simp [intOf]; omega
  ·
   obtain rfl : k = n0 := by omega
   have hkk : ((k : Int) < (k : Int)) = False := eq_false (by omega);have HZ := Lib.hid (show NAt w P PB PR w.heap.size cv (m + 4 * n.es.length + 6) (IddN n) wr from NAt.more (m := m + 2 + 2 * k + 2 + 2 * k) (Q := IddN n) ⟨HAT.out.cur, ⟨{ n with ids := l }, val', ⟨rfl, rfl, by show l.length = _; rw [← HNN.out]; exact HLL.out, HAT.out.bd⟩, HNB.out⟩, HAT.out.res, HAT.out.bp, hP, by omega, by omega, by omega⟩ (by rw [← HNN.out]; omega) fun _ h => h);clear hk;obtain ⟨nz, valz, hQz, hnz⟩ := HZ.out.net;obtain ⟨Z0, l0, ez0⟩ := own_slN (hnz.k.own .e trivial);obtain ⟨Z1, l1, ez1⟩ := own_slN (hnz.k.own .i trivial);obtain ⟨Z2, l2, ez2⟩ := own_slN (hnz.k.own .n trivial);have hbz := hnz.box;rw [ez0, ez1, ez2] at hbz;have HEZ := Lib.hid (And.intro ez0 (And.intro ez1 ez2));have HNZ := Lib.hid hnz.k;have HQZ := Lib.hid hQz;clear ez0 ez1 ez2 hnz hQz;generalize (rowN nz valz .e).len = s0 at HEZ hbz;generalize (rowN nz valz .i).len = s1 at HEZ hbz;generalize (rowN nz valz .n).len = s2 at HEZ hbz;have HRZ := Lib.hid HZ.out.res;obtain ⟨b0, b1, b2, bf⟩ := cells3 (Lib.hid hbz);obtain ⟨p0, p1, p2, pf⟩ := cells3 HRZ;obtain ⟨we, hwe, HE, hge⟩ := set3 HRZ (.slice Z0 s0 l0) (.slice Z1 s1 l1) (.slice Z2 s2 l2);have HWE := Lib.hid hwe;clear hwe hbz;go_wp2_with fail;rw [← HWE.out];obtain ⟨z0, z1, z2, -⟩ := cells3 HE;have hRb : w.heap.size ≤ PR := by omega
   have hKz := NetK.past HNZ.out HRZ.out no_tyN_net hge;have hCz : CurR we P cv _ := HZ.out.cur.keep (show _ ≤ m + 4 * n.es.length + 6 from by omega) fun b hb' => hge.block b (by have := HZ.out.cur.lt; omega) (fun e => by have e' : b = PR := Option.some.inj e; have := HZ.out.hP; omega)
   have hBz := HZ.out.bp.trans (Bp.other hge (by have := HZ.out.bp.size; omega) hRb);exact bodyPost_ret (v := .agg #[.slice Z0 s0 l0, .slice Z1 s1 l1, .slice Z2 s2 l2]) (by simp [results, Tryz.results155, go_sem, z0, z1, z2]) rfl ⟨nz, valz, by rw [HEZ.out.1, HEZ.out.2.1, HEZ.out.2.2], HQZ.out, hKz, hCz, hBz⟩
end Go.Proofs.YtdghoienjegffaaGreat
namespace Go.Proofs.YtdghoienjegffaaGreat
open Go.RowKit
set_option linter.all false
structure Kp (base PR : Nat) (w w' : World) : Prop where
  os : w'.os = w.os
  tape : w'.tape = w.tape
  output : w'.output = w.output
  size : w.heap.size ≤ w'.heap.size
  block : ∀ b, b < base ∨ b = PR → w'.heap[b]? = w.heap[b]?
section
variable {base PR P PB m m' g : Nat} {w w' w'' wr : World} {cv : Value} {Q Q' : Net → Prop} {val : NKey → Value} {n : Net}
theorem Kp.trans (h : Kp base PR w w') (k : Kp base PR w' w'') : Kp base PR w w'' := ⟨k.os.trans h.os, k.tape.trans h.tape, k.output.trans h.output, Nat.le_trans h.size k.size, fun b hb => (k.block b hb).trans (h.block b hb)⟩
theorem Kp.grown {row : Option Nat} (h : w.grownBy w' row) (hr : ∀ g, row = some g → base ≤ g ∧ g ≠ PR) (hb : base ≤ w.heap.size) (hR : PR < w.heap.size) : Kp base PR w w' := ⟨h.os, h.tape, h.output, h.size, fun b hb' => h.block b (by omega) (fun e => by have := hr b e.symm; omega)⟩
theorem Kp.below (h : Below w.heap.size w w') (hb : base ≤ w.heap.size) (hR : PR < w.heap.size) : Kp base PR w w' := ⟨h.os, h.tape, h.output, h.size, fun b hb' => h.block b (by omega)⟩
theorem Kp.cell (hg : base ≤ g) (hne : g ≠ PR) (k : Nat) (v : Value) : Kp base PR w (w.setCell ⟨g, k, none⟩ v) := ⟨rfl, rfl, rfl, by rw [World.size_setCell]; exact Nat.le_refl _, fun b hb => Below.heap_setCell _ _ _ _ (by show b ≠ g; omega)⟩
theorem NAt.step (h : NAt w P PB PR base cv m Q wr) (hn : ∃ n val, Q' n ∧ NetB w' base val n PB) (hk : Kp base PR wr w') : NAt w P PB PR base cv m Q' w' := by have hP := h.hP;exact ⟨h.cur.keep (Nat.le_refl _) fun b hb => hk.block b (.inl (by omega)), hn, (hk.block PR (.inr rfl)).trans h.res, h.bp.trans ⟨hk.os, hk.tape, hk.output, hk.size, fun b hb _ => hk.block b (.inl hb)⟩, hP, h.hB, h.hR, h.hne⟩
theorem NetB.apart (h : NetB wr base val n PB) {c : Array Value} {fz : Nat × Nat} (hres : wr.heap[PR]? = some (.cells c 27 fz)) (j : NKey) (hj : keyN n j) : ∀ g, (val j).ownBlock = some g → base ≤ g ∧ g ≠ PR := fun g e =>
  ⟨((h.k.own j hj).lt g e).1, fun e' => h.k.noTy hj hres no_tyN_net (by rw [e, e'])⟩
theorem NetB.setIn (h : NetB w base val n PB) {g cap : Nat} (hv : val .n = .slice (some ⟨g, 0, none⟩) n.ins.length cap) (k : Nat) (y : Int) : NetB (w.setCell ⟨g, k, none⟩ (.int .i64 y)) base val { n with ins := n.ins.set k y } PB :=
  NetB.of (h.k.setIn hv k y) ((Below.heap_setCell _ _ _ _ (fun e => h.ne .n trivial (by rw [hv]; show some g = some PB; rw [e]))).trans h.box)
theorem NetB.setId (h : NetB w base val n PB) {g cap : Nat} (hv : val .i = .slice (some ⟨g, 0, none⟩) n.ids.length cap) (k : Nat) (y : Int) : NetB (w.setCell ⟨g, k, none⟩ (.int .i64 y)) base val { n with ids := n.ids.set k y } PB :=
  NetB.of (h.k.setId hv k y) ((Below.heap_setCell _ _ _ _ (fun e => h.ne .i trivial (by rw [hv]; show some g = some PB; rw [e]))).trans h.box)
theorem NetB.setOne (h : NetB w base val n PB) {k : Nat} {l l' : Ends} (hl : n.es[k]? = some l) {g cap : Nat} (hv : val (.r k) = .slice (some ⟨g, 0, none⟩) l.length cap) {j : Nat} {u : Value} (hlen : l'.length = l.length) (hc : endCells l' = (endCells l).set j u) :
    NetB (w.setCell ⟨g, j, none⟩ u) base val { n with es := n.es.set k l' } PB := by
  have hk := (List.getElem?_eq_some_iff.1 hl).1;have e0 : rowN n val (.r k) = ⟨74, 2, l.length, endCells l⟩ := by show (⟨_, _, (rowAt n k).length, _⟩ : RowN) = _; rw [rowAt_eq hl]
  refine NetB.of ((OwnN.set h.k (.r k) hk hv e0 u (j := j)).congr fun j' hj => ⟨by
    cases j' with
    | r i => exact (by simpa [keyN] using hj)
    | _ => exact hj, rfl, ?_⟩) ((Below.heap_setCell _ _ _ _ (fun e => h.ne (.r k) hk (by rw [hv]; show some g = some PB; rw [e]))).trans h.box)
  cases j' with
  | r i =>
    by_cases e : i = k
    · subst e
      rw [updN_same];show (⟨_, _, (rowAt { n with es := n.es.set i l' } i).length, endCells (rowAt { n with es := n.es.set i l' } i)⟩ : RowN) = _;rw [rowAt_set hk, if_pos rfl, hlen, hc]
    · rw [updN_ne _ _ (by simpa using e)]
      show (⟨_, _, (rowAt { n with es := n.es.set k l' } i).length, _⟩ : RowN) = _;rw [rowAt_set hk, if_neg e]; rfl
  | e => rw [updN_ne _ _ (by simp)]; show (⟨_, _, (n.es.set k _).length, valsN val (n.es.set k _).length⟩ : RowN) = _; rw [List.length_set]; rfl
  | _ => rw [updN_ne _ _ (by simp)]; rfl
theorem NetB.newIds (h : NetB w base val n PB) {v : Value} {xs : List Int} (hg : w.grownBy w' none) (hn : w'.ownsRow base 3 1 v xs.length (xs.map intV)) (hb : v.ownBlock = none ∨ ∃ g, v.ownBlock = some g ∧ w.heap.size ≤ g) : NetB (w'.setCell ⟨PB, 1, none⟩ v) base (updN val .i v) { n with ids := xs } PB := by have h1 := NetK.newIds h.k hg hn hb;have hbx : w'.heap[PB]? = some (.cells #[val .e, val .i, val .n] 27 (0, 0)) := (hg.block PB h.lt (by simp)).trans h.box;obtain ⟨we, e1, h2, g1⟩ := set1 hbx 1 v;rw [← e1];refine NetB.of (NetK.past h1 hbx no_tyN_net g1) ?_;rw [h2, updN_same, updN_ne _ _ (by simp), updN_ne _ _ (by simp)];rfl
theorem NetB.newIns (h : NetB w base val n PB) {v : Value} {xs : List Int} (hg : w.grownBy w' none) (hn : w'.ownsRow base 3 1 v xs.length (xs.map intV)) (hb : v.ownBlock = none ∨ ∃ g, v.ownBlock = some g ∧ w.heap.size ≤ g) : NetB (w'.setCell ⟨PB, 2, none⟩ v) base (updN val .n v) { n with ins := xs } PB := by have h1 := NetK.newIns h.k hg hn hb;have hbx : w'.heap[PB]? = some (.cells #[val .e, val .i, val .n] 27 (0, 0)) := (hg.block PB h.lt (by simp)).trans h.box;obtain ⟨we, e1, h2, g1⟩ := set1 hbx 2 v;rw [← e1];refine NetB.of (NetK.past h1 hbx no_tyN_net g1) ?_;rw [h2, updN_same, updN_ne _ _ (by simp), updN_ne _ _ (by simp)];rfl
end
structure FitN (n : Net) (K d : Nat) : Prop where
  es : n.es.length ≤ K
  ids : n.ids.length ≤ K
  ins : n.ins.length ≤ K
  deg : ∀ u, degA n u ≤ d
  i64 : I64N n
section
variable {n : Net} {K K' d d' : Nat}
theorem FitN.more (h : FitN n K d) (hK : K ≤ K') (hd : d ≤ d') : FitN n K' d' := ⟨Nat.le_trans h.es hK, Nat.le_trans h.ids hK, Nat.le_trans h.ins hK, fun u => Nat.le_trans (h.deg u) hd, h.i64⟩
theorem FitN.small (h : FitN n K d) (hK : K ≤ 1000) (hd : d ≤ 1000) : SmallN n := ⟨Nat.le_trans h.es hK, Nat.le_trans h.ids hK, fun l hl => by
  obtain ⟨u, hu, rfl⟩ := rowAt_mem hl
  exact Nat.le_trans (h.deg u) hd, Nat.le_trans h.ins hK⟩
theorem FitN.setIn (h : FitN n K d) (k : Nat) {y : Int} (hy : I64 y) : FitN { n with ins := n.ins.set k y } K d := ⟨h.es, h.ids, by show (n.ins.set k y).length ≤ K; rw [List.length_set]; exact h.ins, h.deg, h.i64.e, h.i64.i, fun x hx => by
  rcases List.mem_or_eq_of_mem_set hx with h1 | h1
  · exact h.i64.n x h1
  · rw [h1]; exact hy⟩
theorem FitN.withIns (h : FitN n K d) {xs : List Int} (hl : xs.length ≤ K) (hx : ∀ x ∈ xs, I64 x) : FitN { n with ins := xs } K d := ⟨h.es, h.ids, hl, h.deg, h.i64.e, h.i64.i, hx⟩
theorem FitN.withIds (h : FitN n K d) {xs : List Int} (hl : xs.length ≤ K) (hx : ∀ x ∈ xs, I64 x) : FitN { n with ids := xs } K d := ⟨h.es, hl, h.ins, h.deg, h.i64.e, hx, h.i64.n⟩
theorem FitN.addIn (h : FitN n K d) (hK : K + 1 ≤ K') {y : Int} (hy : I64 y) : FitN { n with ins := n.ins ++ [y] } K' d :=
  ⟨by have := h.es; show n.es.length ≤ K'; omega, by have := h.ids; show n.ids.length ≤ K'; omega, by have := h.ins; show (n.ins ++ [y]).length ≤ K'; rw [List.length_append, List.length_singleton]; omega, h.deg, h.i64.e, h.i64.i, fun x hx => by
  rcases List.mem_append.1 hx with h1 | h1
  · exact h.i64.n x h1
  · rw [List.mem_singleton.1 h1]; exact hy⟩
theorem FitN.setRow (h : FitN n K d) {k : Nat} (hk : k < n.es.length) {l : Ends} (hl : l.length ≤ d') (hd : d ≤ d') (hi : ∀ e ∈ l, I64 e.1 ∧ I64 e.2) : FitN { n with es := n.es.set k l } K d' :=
  ⟨by show (n.es.set k l).length ≤ K; rw [List.length_set]; exact h.es, h.ids, h.ins, fun u => by
  unfold degA;rw [rowAt_set hk];split
  · exact hl
  · exact Nat.le_trans (h.deg u) hd, fun s hs => by
  rcases List.mem_or_eq_of_mem_set hs with h1 | h1
  · exact h.i64.e s h1
  · rw [h1]; exact hi, h.i64.i, h.i64.n⟩
theorem FitN.addNil (h : FitN n K d) (hK : K + 1 ≤ K') : FitN { n with es := n.es ++ [[]] } K' d :=
  ⟨by have := h.es; show (n.es ++ [[]]).length ≤ K'; rw [List.length_append, List.length_singleton]; omega, by have := h.ids; show n.ids.length ≤ K'; omega, by have := h.ins; show n.ins.length ≤ K'; omega, fun u => by
  by_cases hu : u < n.es.length
  · have e : rowAt { n with es := n.es ++ [[]] } u = rowAt n u := by rw [rowAt_snoc _ _ (by omega), if_neg (by omega)]
    show (rowAt { n with es := n.es ++ [[]] } u).length ≤ d;rw [e]; exact h.deg u
  · by_cases h2 : u = n.es.length
    · show (rowAt { n with es := n.es ++ [[]] } u).length ≤ d
      rw [h2, rowAt_snoc _ _ (Nat.le_refl _), if_pos rfl]; exact Nat.zero_le _
    · show (rowAt { n with es := n.es ++ [[]] } u).length ≤ d
      rw [rowAt_out (by show (n.es ++ [[]]).length ≤ u; rw [List.length_append, List.length_singleton]; omega)]; exact Nat.zero_le _, fun s hs => by
  rcases List.mem_append.1 hs with h1 | h1
  · exact h.i64.e s h1
  · rw [List.mem_singleton.1 h1]; exact fun _ h => absurd h (by simp), h.i64.i, h.i64.n⟩
theorem FitN.nil (K d : Nat) : FitN ⟨[], [], []⟩ K d := ⟨Nat.zero_le _, Nat.zero_le _, Nat.zero_le _, fun u => Nat.zero_le _, fun _ h => absurd h (by simp), fun _ h => absurd h (by simp), fun _ h => absurd h (by simp)⟩
theorem MadeN.fit {N : Nat} (h : MadeN n N d) (hK : N ≤ K) (hN : K ≤ 1000) (hd : d ≤ 1000) : FitN n K d := ⟨by rw [h.len]; exact hK, by rw [h.ids]; exact Nat.zero_le _, by rw [h.ins]; exact hK, h.deg, h.i64 (by omega) (by omega)⟩
theorem FitN.idd {n' : Net} (h : FitN n K d) (hi : IddN n n') : FitN n' K d := ⟨by rw [hi.es]; exact h.es, by rw [hi.len]; exact h.es, by rw [hi.ins]; exact h.ins, fun u => by
  have e : rowAt n' u = rowAt n u := by unfold rowAt; rw [hi.es]
  show (rowAt n' u).length ≤ d
  rw [e]; exact h.deg u, by rw [hi.es]; exact h.i64.e, fun x hx => by have := hi.ids x hx; exact ⟨by omega, by omega⟩, by rw [hi.ins]; exact h.i64.n⟩
end
end Go.Proofs.YtdghoienjegffaaGreat
