/-
  Small lemmas and contracts that the texts of this claim share. No condition.
-/
import Derived.Test.YtdghoienjegffaaGreatRDrawIdsG
namespace Go.Proofs.YtdghoienjegffaaGreat
open Go.RowKit
set_option linter.all false
structure CycN (n : Net) (N : Nat) : Prop where
  len : n.es.length = N
  ins : n.ins.length = N
  ids : n.ids = []
  in64 : ∀ x ∈ n.ins, I64 x
  ok : ∀ u, degA n u ≤ 2 ∧ ∀ e ∈ rowAt n u, ∃ a b : Nat, e = ((a : Int), (b : Int)) ∧ a < N ∧ b ≤ 1
theorem CycN.start (N : Nat) : CycN (emptyN N) N := ⟨(made_empty N).len, (made_empty N).ins, rfl, fun x hx => by have := (made_empty N).in9 x hx; exact ⟨by omega, by omega⟩, fun u => by unfold degA; rw [rowAt_empty]; exact ⟨Nat.zero_le _, fun _ h => by cases h⟩⟩
theorem CycN.setRow {n : Net} {N u : Nat} {l : Ends} (h : CycN n N) (hu : u < N) (hl : l.length ≤ 2) (hx : ∀ e ∈ l, ∃ a b : Nat, e = ((a : Int), (b : Int)) ∧ a < N ∧ b ≤ 1) : CycN { n with es := n.es.set u l } N :=
  ⟨by show (n.es.set u l).length = N; rw [List.length_set]; exact h.len, h.ins, h.ids, h.in64, fun x => by
    unfold degA;rw [rowAt_set (by rw [h.len]; exact hu)];by_cases e : x = u
    · rw [if_pos e]; exact ⟨hl, hx⟩
    · rw [if_neg e]; exact h.ok x⟩
theorem CycN.setIn {n : Net} {N : Nat} (h : CycN n N) (k : Nat) {y : Int} (hy : I64 y) : CycN { n with ins := n.ins.set k y } N := ⟨h.len, by show (n.ins.set k y).length = N; rw [List.length_set]; exact h.ins, h.ids, fun x hx => by
  rcases List.mem_or_eq_of_mem_set hx with h1 | h1
  · exact h.in64 x h1
  · rw [h1]; exact hy, h.ok⟩
theorem CycN.fit {n : Net} {N : Nat} (h : CycN n N) (hN : N ≤ 1000) : FitN n N 2 := ⟨Nat.le_of_eq h.len, by rw [h.ids]; exact Nat.zero_le _, Nat.le_of_eq h.ins, fun u => (h.ok u).1, fun l hl e he => by
  obtain ⟨u, -, rfl⟩ := rowAt_mem hl;obtain ⟨a, b, rfl, h1, h2⟩ := (h.ok u).2 e he
  exact ⟨⟨by show (-9223372036854775808 : Int) ≤ (a : Int); omega, by show (a : Int) ≤ _; omega⟩, by show (-9223372036854775808 : Int) ≤ (b : Int); omega, by show (b : Int) ≤ _; omega⟩, fun x hx => (by rw [h.ids] at hx; cases hx), h.in64⟩
theorem NetB.newRow {w w' : World} {base P : Nat} {val : NKey → Value} {n : Net} (h : NetB w base val n P) {k : Nat} (hk : k < n.es.length) {g cap : Nat} (hv : val .e = .slice (some ⟨g, 0, none⟩) n.es.length cap) {v : Value} {l : Ends}
    (hg : w.grownBy w' none) (hn : w'.ownsRow base 74 2 v l.length (endCells l)) (hb : v.ownBlock = none ∨ ∃ g, v.ownBlock = some g ∧ w.heap.size ≤ g) :
    NetB (w'.setCell ⟨g, k, none⟩ v) base (updN val (.r k) v) { n with es := n.es.set k l } P := by
  refine NetB.of (h.k.newRow hk hv hg hn hb) ?_;have hgP : g ≠ P := fun e => h.ne .e trivial (by rw [hv, ← e]; rfl)
  rw [updN_ne _ _ (by simp), updN_ne _ _ (by simp), updN_ne _ _ (by simp)];refine (Below.heap_setCell _ _ _ _ (fun e => hgP e.symm)).trans ?_;exact (hg.block P h.lt (by simp)).trans h.box
theorem own_ends2 (w : World) (a b c d : Value) : (w.alloc (.cells #[a, b, c, d] 74)).ownsRow w.heap.size 74 2 (.slice (some ⟨w.heap.size, 0, none⟩) 2 2) 2 [a, b, c, d] :=
  ⟨by simp, .inr ⟨w.heap.size, 2, _, rfl, Nat.le_refl _, heap_alloc_new w _, Nat.le_refl _, by unfold maxLen; omega, by simp, by simp⟩⟩
def CyRel (w : World) (PB PR base N : Nat) (i : Value) (wr : World) : Prop :=
  ∃ j : Nat, j ≤ N ∧ i = .int .i64 (j : Int) ∧ Below w.heap.size w wr ∧ wr.heap[PR]? = some (.cells #[.slice none 0 0, .slice none 0 0, .slice none 0 0] 27 (0, 0)) ∧ ∃ n val, CycN n N ∧ NetB wr base val n PB
set_option maxRecDepth 100000 in
set_option maxHeartbeats 4000000 in
theorem spec_buCycle (k : Nat) (w : World) (hk1 : 1 ≤ k) (hk : k ≤ 100) :
  Calls Tryz.prog 82 #[.int .i64 (k : Int)] w fun e w' => ∃ n val, e = .returned (.agg #[val .e, val .i, val .n]) ∧ CycN n k ∧ NetK w' w.heap.size val n ∧ Below w.heap.size w w' := by
 obtain ⟨w1, hw1, hb1, HQ, hz1, HS1⟩ := box3 w (.slice none 0 0) (.slice none 0 0) (.slice none 0 0) 27;obtain ⟨PR, hPR⟩ : ∃ z, z = w.heap.size := ⟨_, rfl⟩
 have HPR := Lib.hid hPR;have hPRl : w.heap.size ≤ PR ∧ PR ≤ w.heap.size := by omega
 rw [← hPR] at HQ;have HW1 := Lib.hid hw1;have hPR1 : PR < w1.heap.size := by omega
 clear hw1 hPR;go_enter Tryz.func82, Tryz.ntmps82;go_wp2_with fail;rw [← HW1.out, ← HPR.out];refine (spec_neEmpty k w1 (by omega)).mono ?_;rintro e w3 ⟨val, rfl, hk3, hb3⟩;have hoe := hk3.own .e trivial;replace hoe : w3.ownsRow w1.heap.size 75 1 (val .e) (List.replicate k ([] : Ends)).length (valsN val (List.replicate k ([] : Ends)).length) := hoe;rw [List.length_replicate] at hoe;obtain ⟨ge, ce, x0⟩ := own_slN (hk3.own .e trivial);obtain ⟨C1, k1, x1⟩ := own_slN (hk3.own .i trivial);obtain ⟨C2, k2, x2⟩ := own_slN (hk3.own .n trivial);have HV := Lib.hid (And.intro x0 (And.intro x1 x2));rw [x0, x1, x2];clear x0 x1 x2;generalize (rowN (emptyN k) val .e).len = n0 at HV ⊢;generalize (rowN (emptyN k) val .i).len = n1 at HV ⊢;generalize (rowN (emptyN k) val .n).len = n2 at HV ⊢;have hn0 : n0 = k := by
  rw [HV.out.1] at hoe;rcases hoe.2 with ⟨e1, e2⟩ | ⟨g, cap, cur, e1, _⟩
  · have e3 := (Value.slice.inj e1).2.1; rw [e3]; exact e2.symm
  · exact (Value.slice.inj e1).2.1
 subst hn0;obtain ⟨w4, hw4, hb4, HB, hz4, HS4⟩ := box3 w3 (.slice ge n0 ce) (.slice C1 n1 k1) (.slice C2 n2 k2) 27;obtain ⟨PB, hPB⟩ : ∃ z, z = w3.heap.size := ⟨_, rfl⟩
 have HPB := Lib.hid hPB;have hz3 := hb3.size;have hPBl : w3.heap.size ≤ PB := by omega
 rw [← hPB] at HB hz4;have HW4 := Lib.hid hw4;have hb14 := bl_trans hb3 hb4;have hB4 := bl_trans hb1 hb14;have H4 := Lib.hid (show NetB w4 w1.heap.size val (emptyN n0) PB from NetB.of (hk3.up hb4) (by rw [HV.out.1, HV.out.2.1, HV.out.2.2]; exact HB.out));have HR4 := Lib.hid ((hb14.block PR hPR1).trans HQ.out);obtain ⟨q0, q1, q2, qf⟩ := cells3 HB;have eq0 := q0;rw [hw4, hPB] at eq0;clear hw4 hPB hk3 hoe q1 q2 qf;go_wp2_with fail;rw [← HW4.out, ← HPB.out];clear q0 eq0;go_loopw [10] (fun i wr => CyRel w PB PR w1.heap.size n0 i wr) (fun i _ => n0 - (intOf i).toNat)
 case atStart => exact ⟨0, Nat.zero_le _, rfl, hB4, HR4.out, _, _, CycN.start n0, H4.out⟩
 case round =>
  obtain ⟨j, hjN, rfl, hbr, hres, n', val', hcy, hnb⟩ := hrel;obtain ⟨ge', ce', eke, -, -, hge1, hge2⟩ := hnb.k.outer (by rw [hcy.len]; omega);rw [hcy.len] at eke;have HBR := Lib.hid hbr;have HRS := Lib.hid hres;have HCY := Lib.hid hcy;have HNB := Lib.hid hnb;have HVE := Lib.hid eke;have hzr := hbr.size;have hPBr : PB < wr.heap.size := hnb.lt;have hPRr : PR < wr.heap.size := heap_ltN hres;have q0 : wr.cell? ⟨PB, 0, none⟩ = some (.slice (some ⟨ge', 0, none⟩) n0 ce') := by rw [cell_of_row _ _ 0 _ _ (0, 0) hnb.box, ← eke]; rfl
  clear hbr hres hcy hnb eke;by_cases hlt : j < n0
  ·
   have hji : (j : Int) < (n0 : Int) := by omega
   have hw1' : IntKind.i64.wrap ((j : Int) + 1) = (j : Int) + 1 := IntWalk.i64_in _ (by omega);have hw2' : IntKind.i64.wrap ((j : Int) + (n0 : Int)) = (j : Int) + (n0 : Int) := IntWalk.i64_in _ (by omega);have hw3' : IntKind.i64.wrap ((j : Int) + (n0 : Int) - 1) = (j : Int) + (n0 : Int) - 1 := IntWalk.i64_in _ (by omega);have hn0' : (n0 = 0) = False := eq_false (by omega);obtain ⟨jw, hjw⟩ : ∃ z, z = (j + 1) % n0 := ⟨_, rfl⟩
   obtain ⟨jb, hjb⟩ : ∃ z, z = (j + n0 - 1) % n0 := ⟨_, rfl⟩
   have hmod : ((j : Int) + 1).tmod (n0 : Int) = (jw : Int) := by rw [hjw]; exact (Int.ofNat_tmod (j + 1) n0).symm
   have hmod2 : ((j : Int) + (n0 : Int) - 1).tmod (n0 : Int) = (jb : Int) := by rw [hjb, show (j : Int) + (n0 : Int) - 1 = ((j + n0 - 1 : Nat) : Int) by omega];exact (Int.ofNat_tmod (j + n0 - 1) n0).symm
   have hjwl : jw < n0 := by rw [hjw]; exact Nat.mod_lt _ (by omega)
   have hjbl : jb < n0 := by rw [hjb]; exact Nat.mod_lt _ (by omega)
   clear hjw hjb;go_wp2_with fail;refine till_region (S := fun w' => w'.cell? ⟨PB, 0, none⟩ = some (.slice (some ⟨ge', 0, none⟩) n0 ce')) (st := 17) (by kernel_rfl) q0 (fun hHeld => ?_);refine utf 0 13 ?_;refine utk 1 14 ?_;refine utf 2 15 ?_;refine utf 3 16 ?_;refine utf 4 17 ?_;refine utf 5 18 ?_;refine utf 6 19 ?_;refine utf 7 20 ?_;refine utf 8 21 ?_;refine utf 9 22 ?_;refine utf 10 23 ?_;refine utf 11 24 ?_;refine utf 12 25 ?_;refine utf 13 26 ?_;refine utf 14 27 ?_;refine ur 15 rfl (by kernel_rfl) (fun K hK => ?_);go_simp;obtain ⟨w5, hw5⟩ : ∃ z, z = (wr.alloc (.cells #[.int .i64 (jw : Int), .int .i64 1, .int .i64 (jb : Int), .int .i64 0] 74)).drew := ⟨_, rfl⟩
   have hb5 : Below wr.heap.size wr w5 := by rw [hw5]; exact (bl_alloc (Below.refl _ _) _).drew
   have ho5 : w5.ownsRow wr.heap.size 74 2 (.slice (some ⟨wr.heap.size, 0, none⟩) 2 2) 2 (endCells [((jw : Int), 1), ((jb : Int), 0)]) := by rw [hw5]; exact own_ends2 wr (.int .i64 (jw : Int)) (.int .i64 1) (.int .i64 (jb : Int)) (.int .i64 0)
   have HO5 := Lib.hid ho5;have HB5 := Lib.hid hb5;rw [← hw5];have hoe : w5.ownsRow w1.heap.size 75 1 (val' .e) n'.es.length (valsN val' n'.es.length) := (HNB.out.k.up hb5).own .e trivial;rw [HVE.out, HCY.out.len] at hoe;have ci := (hoe.cellAt j (by omega)).trans (valsN_at hlt);have fi := own_thaw hoe j;have q0 := (hb5.cell (p := ⟨PB, 0, none⟩) hPBr).trans q0;clear hw5 ho5 hoe hb5;refine hK.out (fun _ => q0) ?_;clear hK K
   try simp only [Act.put, pu]
   refine utf 16 29 ?_;refine ur 17 rfl (by kernel_rfl) (fun K hK => ?_);go_simp;obtain ⟨w9, hw9⟩ : ∃ z, z = w5.setCell ⟨ge', j, none⟩ (.slice (some ⟨wr.heap.size, 0, none⟩) 2 2) := ⟨_, rfl⟩
   rw [← hw9]
   have H9 := Lib.hid (show Below w.heap.size w w9 ∧ w9.heap[PR]? = some (.cells #[.slice none 0 0, .slice none 0 0, .slice none 0 0] 27 (0, 0)) ∧ CycN { n' with es := n'.es.set j [((jw : Int), 1), ((jb : Int), 0)] } n0 ∧ NetB w9 w1.heap.size (updN val' (.r j) (.slice (some ⟨wr.heap.size, 0, none⟩) 2 2)) { n' with es := n'.es.set j [((jw : Int), 1), ((jb : Int), 0)] } PB by
    rw [hw9];refine ⟨(HBR.out.trans (HB5.out.mono hzr)).setCell (p := ⟨ge', j, none⟩) (by show w.heap.size ≤ ge'; omega) _, (Below.heap_setCell _ _ _ _ (by show PR ≠ ge'; omega)).trans ((HB5.out.block PR hPRr).trans HRS.out), HCY.out.setRow hlt (Nat.le_refl _) (fun e he => ?_), HNB.out.newRow (by rw [HCY.out.len]; exact hlt) (by rw [HVE.out, HCY.out.len]) (grown_belowN HB5.out none) (own_mono HO5.out (by omega)) (.inr ⟨_, rfl, Nat.le_refl _⟩)⟩;rcases List.mem_cons.1 he with rfl | he
    · exact ⟨jw, 1, rfl, hjwl, Nat.le_refl _⟩
    · rw [List.mem_singleton.1 he]; exact ⟨jb, 0, rfl, hjbl, Nat.zero_le _⟩)
   clear hw9 q0 ci fi;refine hK.out (fun h' => till_no h' (by kernel_rfl)) ?_;clear hK K
   try simp only [Act.put, pu]
   refine wpTill_done (by kernel_rfl) ?_ _;go_wp2_with fail;go_roundw
   case rel => exact ⟨j + 1, by omega, by go_num, H9.out.1, H9.out.2.1, _, _, H9.out.2.2.1, H9.out.2.2.2⟩
   case measure => simp [intOf]; omega
  ·
   obtain rfl : j = n0 := by omega
   have hjj : ((j : Int) < (j : Int)) = False := eq_false (by omega);clear q0;obtain ⟨Z0, l0, ez0⟩ := own_slN (HNB.out.k.own .e trivial);obtain ⟨Z1, l1, ez1⟩ := own_slN (HNB.out.k.own .i trivial);obtain ⟨Z2, l2, ez2⟩ := own_slN (HNB.out.k.own .n trivial);have hbz := HNB.out.box;rw [ez0, ez1, ez2] at hbz;have HEZ := Lib.hid (And.intro ez0 (And.intro ez1 ez2));clear ez0 ez1 ez2;generalize (rowN n' val' .e).len = s0 at HEZ hbz;generalize (rowN n' val' .i).len = s1 at HEZ hbz;generalize (rowN n' val' .n).len = s2 at HEZ hbz;obtain ⟨b0, b1, b2, bf⟩ := cells3 (Lib.hid hbz);obtain ⟨p0, p1, p2, pf⟩ := cells3 HRS;obtain ⟨we, hwe, HE, hge⟩ := set3 HRS (.slice Z0 s0 l0) (.slice Z1 s1 l1) (.slice Z2 s2 l2);have HWE := Lib.hid hwe;clear hwe hbz;go_wp2_with fail;rw [← HWE.out];obtain ⟨z0, z1, z2, -⟩ := cells3 HE;have hKz := OwnN.mono (NetK.past HNB.out.k HRS.out no_tyN_net hge) (show w.heap.size ≤ w1.heap.size by omega);have hBz : Below w.heap.size w we := Below.grown HBR.out hge HBR.out.size (fun k hk => by have e := Option.some.inj (show some PR = some k from hk); omega);exact bodyPost_ret (v := .agg #[.slice Z0 s0 l0, .slice Z1 s1 l1, .slice Z2 s2 l2]) (by simp [results, Tryz.results82, go_sem, z0, z1, z2]) rfl ⟨n', val', by rw [HEZ.out.1, HEZ.out.2.1, HEZ.out.2.2], HCY.out, hKz, hBz⟩
end Go.Proofs.YtdghoienjegffaaGreat
namespace Go.Proofs.YtdghoienjegffaaGreat
open Go.RowKit
set_option linter.all false
def CiRel (N : Nat) (l : Ends) (w : World) (u i : Value) (wr : World) : Prop := Below w.heap.size w wr ∧ ∃ (j : Nat) (l' : Ends), j ≤ l.length ∧ i = .int .i64 j ∧ l'.length = j ∧ (∀ e ∈ l', ∃ a b : Nat, e = ((a : Int), (b : Int)) ∧ a < N ∧ b ≤ 1) ∧ wr.ownsRow w.heap.size 74 2 u j (endCells l')
set_option maxRecDepth 100000 in
set_option maxHeartbeats 4000000 in
theorem spec_neRenumber (ve vi vn vp : Value) (n : Net) (N : Nat) (xs : List Int) (w : World) (h : NetR w w.heap.size ve vi vn n) (hc : CycN n N) (hN1 : 1 ≤ N) (hN : N ≤ 100) (hx : IntsR w w.heap.size vp xs) (hp : PermN xs N) :
  Calls Tryz.prog 84 #[.agg #[ve, vi, vn], vp] w fun e w' => ∃ m val, e = .returned (.agg #[val .e, val .i, val .n]) ∧ CycN m N ∧ NetK w' w.heap.size val m ∧ Below w.heap.size w w' := by
 have HN := Lib.hid h;have HC0 := Lib.hid hc;have hne := h.e;obtain ⟨A1, c1, rfl, hc1, hM1, hr1⟩ := hne;obtain ⟨-, ⟨A2, m2, c2, rfl⟩, -⟩ := h.slices;have hid0 : m2 = 0 := by obtain ⟨A, c, e, -⟩ := h.i.open_;have e2 := (Value.slice.inj e).2.1;rw [hc.ids] at e2;exact e2
 subst hid0;obtain ⟨A3, c3, rfl, hc3, hM3, hr3⟩ := h.n.open_;obtain ⟨Ap, cp, rfl, hcp, hMp, hrp⟩ := hx.open_;rw [hc.len] at hc1 hr1 ⊢;rw [hc.ins] at hc3 hr3 ⊢;rw [hp.1] at hcp hrp ⊢;obtain ⟨ad1, rfl, ha1, hrow1⟩ := hr1 (by omega);obtain ⟨ad3, rfl, ha3, hrow3⟩ := hr3 (by omega);obtain ⟨adp, rfl, hap, hrowp⟩ := hrp (by omega);have HR1 := Lib.hid hrow1;have HR3 := Lib.hid hrow3;have HRP := Lib.hid hrowp;have HPE := Lib.hid hp;unfold maxLen at hM1;clear h hc hx hp hr1 hr3 hrp hrow1 hrow3 hrowp;obtain ⟨w0, hw0, hb0, HD, hz0, HS0⟩ := box3 w (.slice (some ad1) N c1) (.slice A2 0 c2) (.slice (some ad3) N c3) 27;obtain ⟨w1, hw1, hb1, HQ, hz1, HS1⟩ := box3 w0 (.slice none 0 0) (.slice none 0 0) (.slice none 0 0) 27;have HW1 := Lib.hid (show w1 = (w.alloc (.cells #[.slice (some ad1) N c1, .slice A2 0 c2, .slice (some ad3) N c3] 27)).alloc (.cells #[.slice none 0 0, .slice none 0 0, .slice none 0 0] 27) by rw [hw1, hw0]);obtain ⟨P0, hP0⟩ : ∃ z, z = w.heap.size := ⟨_, rfl⟩
 obtain ⟨PR, hPR⟩ : ∃ z, z = w0.heap.size := ⟨_, rfl⟩
 have HP0 := Lib.hid hP0;have HPR := Lib.hid (show w.heap.size + 1 = PR by rw [hPR, HS0.out]);have HPR' := Lib.hid (show P0 + 1 = PR by rw [hP0]; exact HPR.out);have hPl : w.heap.size ≤ P0 ∧ P0 ≤ w.heap.size ∧ P0 < PR := by rw [← HPR.out]; omega
 rw [← hPR] at HQ hz1;rw [← hP0] at HD hz0;have HD1 := bk HD hb1;have hB := bl_trans hb0 hb1;have hzb1 := hB.size;have hPR1 : PR < w1.heap.size := by omega
 obtain ⟨q0, q1, q2, qf⟩ := cells3 HD1;have eq0 := q0;have eq1 := q1;have eq2 := q2;rw [HW1.out, HP0.out] at eq0 eq1 eq2;clear hw0 hw1 hP0 hPR hb0 hb1 q0 q1 q2;go_enter Tryz.func84, Tryz.ntmps84;go_wp2_with fail;rw [← HW1.out, ← HP0.out, HPR'.out];clear eq0 eq1 eq2;have hC := spec_neOwn _ _ _ n w1 (HN.out.up hB) ((HC0.out.fit (by omega)).small (by omega) (by omega));rw [HC0.out.len, HC0.out.ins] at hC;refine hC.mono ?_;clear hC;rintro e w3 ⟨val, rfl, hk3, hb3⟩;obtain ⟨ge, ce, x0⟩ := own_slN (hk3.own .e trivial);obtain ⟨C1, k1, x1⟩ := own_slN (hk3.own .i trivial);obtain ⟨C2, k2, x2⟩ := own_slN (hk3.own .n trivial);have HV := Lib.hid (And.intro x0 (And.intro x1 x2));rw [x0, x1, x2];clear x0 x1 x2;generalize (rowN n val .e).len = n0 at HV ⊢;generalize (rowN n val .i).len = n1 at HV ⊢;generalize (rowN n val .n).len = n2 at HV ⊢;obtain ⟨w4, hw4, hb4, HB, hz4, HS4⟩ := box3 w3 (.slice ge n0 ce) (.slice C1 n1 k1) (.slice C2 n2 k2) 27;obtain ⟨PB, hPB⟩ : ∃ z, z = w3.heap.size := ⟨_, rfl⟩
 have HPB := Lib.hid hPB;have hz3 := hb3.size;have hPBl : w3.heap.size ≤ PB := by omega
 rw [← hPB] at HB hz4;have HW4 := Lib.hid hw4;have hb14 := bl_trans hb3 hb4;have hB4 := bl_trans hB hb14;have H4 := Lib.hid (show NetB w4 w1.heap.size val n PB from NetB.of (hk3.up hb4) (by rw [HV.out.1, HV.out.2.1, HV.out.2.2]; exact HB.out));have HR4 := Lib.hid ((hb14.block PR hPR1).trans HQ.out);have HD4 := bk HD1 hb14;obtain ⟨q0, q1, q2, qf⟩ := cells3 HD4;have eq0 := q0;rw [hw4] at eq0;clear hw4 hPB hk3 q0 q1 q2 qf;go_wp2_with fail;rw [← HW4.out, ← HPB.out];clear eq0;have hz14 := hb14.size;go_loopw [16] (fun i wr => CyRel w PB PR w1.heap.size N i wr ∧ Below w1.heap.size w1 wr) (fun i _ => N - (intOf i).toNat)
 case atStart => exact ⟨⟨0, Nat.zero_le _, rfl, hB4, HR4.out, _, _, HC0.out, H4.out⟩, hb14⟩
 case round =>
  obtain ⟨⟨v, hvN, rfl, hbr, hres, n', val', hcy, hnb⟩, hb1r⟩ := hrel;obtain ⟨ge', ce', eke, -, -, hge1, hge2⟩ := hnb.k.outer (by rw [hcy.len]; omega);obtain ⟨gn', cn', ekn, -, -, hgn1, hgn2⟩ := hnb.k.insSlice (by rw [hcy.ins]; omega);rw [hcy.len] at eke;rw [hcy.ins] at ekn;have HBR := Lib.hid hbr;have HB1R := Lib.hid hb1r;have HRS := Lib.hid hres;have HCY := Lib.hid hcy;have HNB := Lib.hid hnb;have HVE := Lib.hid eke;have HVN := Lib.hid ekn;have hzr := hbr.size;have hPBr : PB < wr.heap.size := hnb.lt;have hPRr : PR < wr.heap.size := heap_ltN hres;have HD5 := bk HD1 hb1r;clear hbr hb1r hres hcy hnb eke ekn;by_cases hlt : v < N
  ·
   have hvi : (v : Int) < (N : Int) := by omega
   obtain ⟨l, hl⟩ : ∃ y, n.es[v]? = some y := ⟨_, List.getElem?_eq_getElem (by rw [HC0.out.len]; exact hlt)⟩
   have hlr : rowAt n v = l := rowAt_eq hl;have hl2 : l.length ≤ 2 := by rw [← hlr]; exact (HC0.out.ok v).1
   obtain ⟨u1, hu1, hz1'⟩ := HR1.out v l hl;obtain ⟨B1, d1, rfl, hd1, hD1, -, hec⟩ := hz1';have c1k := (HBR.out.cell (p := ad1.add v) (by rw [block_add]; exact ha1)).trans hu1;obtain ⟨y, hy⟩ : ∃ y, xs[v]? = some y := ⟨_, List.getElem?_eq_getElem (by rw [HPE.out.1]; exact hlt)⟩
   obtain ⟨p, rfl, hpN⟩ := HPE.out.2 v y hy;have hpi : (p : Int) < (N : Int) := by omega
   have HCP := Lib.hid (HRP.out v _ hy);obtain ⟨z, hz⟩ : ∃ z, n.ins[v]? = some z := ⟨_, List.getElem?_eq_getElem (by rw [HC0.out.ins]; exact hlt)⟩
   have HZC := Lib.hid (HR3.out v z hz);have HZ64 := Lib.hid (HC0.out.in64 z (List.mem_of_getElem? hz));have HEC := Lib.hid hec;have HLR := Lib.hid hlr;unfold maxLen at hD1;clear hl hu1 hec hlr hy hz;obtain ⟨SZ, hSZ⟩ : ∃ z, z = wr.heap.size := ⟨_, rfl⟩
   have HSZ := Lib.hid hSZ;have hSZl : wr.heap.size ≤ SZ ∧ SZ ≤ wr.heap.size := by omega
   clear hSZ;go_wp2_with fail;clear c1k;have HDR := HD5;go_loopw [8, 23] (fun u i wr' => CiRel N l wr u i wr') (fun _ i _ => l.length - (intOf i).toNat)
   case atStart => exact ⟨Below.refl _ _, 0, [], Nat.zero_le _, rfl, rfl, fun _ h => (by cases h), World.ownsRow_nil _ _ _ _⟩
   case round =>
    obtain ⟨hbi, j, l', hj, rfl, hlj, hin, hoj⟩ := hrel;have hBi := bl_trans HBR.out hbi;rw [← HSZ.out] at hoj;obtain ⟨Au, cu, rfl⟩ := own_slN hoj;have HOJ := Lib.hid hoj;have HIN := Lib.hid hin;have HLJ := Lib.hid hlj;have hzi : SZ ≤ wr.heap.size := by rw [HSZ.out]; exact hbi.size
    have HBI := Lib.hid hbi;clear hoj hlj hin;by_cases hltj : j < l.length
    ·
     obtain ⟨⟨ea, eq⟩, hej⟩ : ∃ y, l[j]? = some y := ⟨_, List.getElem?_eq_getElem hltj⟩
     obtain ⟨c, q, hcq, hcN, hq1⟩ := (HC0.out.ok v).2 _ (by rw [HLR.out]; exact List.mem_of_getElem? hej);obtain ⟨rfl, rfl⟩ : ea = (c : Int) ∧ eq = (q : Int) := by simpa using hcq
     obtain ⟨eb, eo, rfl, heb, hcells⟩ := HEC.out (by omega);obtain ⟨k0, k1⟩ := hcells j _ hej;replace k0 := (hBi.cell (p := ⟨eb, eo + j * 2, none⟩) (by exact heb)).trans k0;replace k1 := (hBi.cell (p := ⟨eb, eo + j * 2 + 1, none⟩) (by exact heb)).trans k1;obtain ⟨yc, hyc⟩ : ∃ y, xs[c]? = some y := ⟨_, List.getElem?_eq_getElem (by rw [HPE.out.1]; exact hcN)⟩
     obtain ⟨pc, rfl, hpc⟩ := HPE.out.2 c yc hyc;have kp := (hBi.cell (p := adp.add c) (by rw [block_add]; exact hap)).trans (HRP.out c _ hyc);have hci : (c : Int) < (N : Int) := by omega
     have hjl : (j : Int) < (l.length : Int) := by omega
     obtain ⟨wa, hwa, hba, HE, hza, HSA⟩ := box2 wr (.int .i64 (c : Int)) (.int .i64 (q : Int)) 74;obtain ⟨PE, hPE⟩ : ∃ z, z = wr.heap.size := ⟨_, rfl⟩
     have HWA := Lib.hid hwa;have HPZ := Lib.hid hPE;have hPEl : wr.heap.size ≤ PE ∧ PE ≤ wr.heap.size := by omega
     rw [← hPE] at HE;have HBA := Lib.hid hba;have hza' : PE < wa.heap.size := by omega
     obtain ⟨t0, t1, tf⟩ := cells2 HE;replace kp := (hba.cell (p := adp.add c) (by rw [block_add]; omega)).trans kp;clear hwa hPE hej hyc hcq hba;go_wp2_with fail;rw [← HWA.out, ← HPZ.out];clear k0 k1;refine till_region (S := fun w' => w'.cell? ⟨PE, 0, none⟩ = some (.int .i64 (c : Int)) ∧ w'.cell? ⟨PE, 1, none⟩ = some (.int .i64 (q : Int)) ∧ w'.cell? (adp.add c) = some (.int .i64 (pc : Int))) (st := 11) (by kernel_rfl) ⟨t0, t1, kp⟩ (fun hHeld => ?_);refine utf 0 27 ?_;refine utf 1 28 ?_;refine utf 2 29 ?_;refine utk 3 30 ?_;refine utf 4 31 ?_;refine utk 5 32 ?_;refine utf 6 33 ?_;refine utk 7 34 ?_;refine utf 8 35 ?_;refine ur 9 rfl (by kernel_rfl) (fun K hK => ?_);go_simp;obtain ⟨W0, hW0⟩ : ∃ z, z = wa.drew := ⟨_, rfl⟩
     have HWX := Lib.hid (show (wa.alloc (.cells #[.int .i64 (pc : Int), .int .i64 (q : Int)] 74)).drew = W0.alloc (.cells #[.int .i64 (pc : Int), .int .i64 (q : Int)] 74) by rw [hW0]; rfl);have HWS := Lib.hid (show W0.heap.size = wa.heap.size by rw [hW0]; rfl);have hW0b : Below wa.heap.size wa W0 := by rw [hW0]; exact (Below.refl _ _).drew
     have HE0 := bk HE hW0b;have kp0 := (hW0b.cell (p := adp.add c) (by rw [block_add]; omega)).trans kp;have HKP0 := Lib.hid kp0;have hzw0 := hW0b.size;have hoW := own_upN HOJ.out (bl_trans HBA.out hW0b);replace t0 := Lib.cell?_alloc_some (.cells #[.int .i64 (pc : Int), .int .i64 (q : Int)] 74) t0;replace t1 := Lib.cell?_alloc_some (.cells #[.int .i64 (pc : Int), .int .i64 (q : Int)] 74) t1;replace kp := Lib.cell?_alloc_some (.cells #[.int .i64 (pc : Int), .int .i64 (q : Int)] 74) kp;have HOW := Lib.hid hoW;have HW0B := Lib.hid hW0b;clear hW0 kp0 hoW hW0b;refine hK.out (fun _ => ⟨t0, t1, kp⟩) ?_;clear hK K
     try simp only [Act.put, pu]
     refine ur 10 rfl (by kernel_rfl) (fun K hK => ?_);rw [if_pos (by rfl), HWX.out, ← HWS.out];refine oper_app2 W0 (.tmp 27) (.tmp 36) 75 rfl SZ 74 _ 16 Tryz.underlying75 endInfo rfl _ _ _ rfl _ _ rfl rfl rfl HOW.out (by unfold maxLen; omega) (by omega) (by omega) ?_;intro v7 w7 hown7 hbl7 hgr7 hlt7 hob7;obtain ⟨A7, c7, rfl⟩ := own_slN hown7;have hkP := hgr7.block PE (by omega) (fun e => by have := (HOJ.out.lt PE e.symm).2; omega);clear t0 t1 kp tf;obtain ⟨t0, t1, tf⟩ := cells2 (Lib.hid (hkP.trans HE0.out));have kp := (hbl7.cell (p := adp.add c) (by rw [block_add]; omega)).trans HKP0.out;have HO7 := Lib.hid hown7;have HB7 := Lib.hid (show Below _ _ w7 from HBI.out.trans (((HBA.out.mono (by omega)).trans (HW0B.out.mono (by omega))).trans (hbl7.mono (by rw [← HSZ.out]; exact Nat.le_refl _))));clear hown7 hbl7 hgr7 hob7 hkP;refine hK.out (fun _ => ⟨t0, t1, kp⟩) ?_;clear hK K
     try simp only [Act.put, pu]
     refine ur 11 rfl (by kernel_rfl) (fun K hK => ?_);go_simp;clear t0 t1 tf kp;refine hK.out (fun h' => till_no h' (by kernel_rfl)) ?_;clear hK K
     try simp only [Act.put, pu]
     refine wpTill_done (by kernel_rfl) ?_ _;go_wp2_with fail;go_roundw
     case rel => exact ⟨HB7.out, j + 1, l' ++ [((pc : Int), (q : Int))], by omega, by go_num, by rw [List.length_append, HLJ.out]; rfl, fun e he => by
      rcases List.mem_append.1 he with he | he
      · exact HIN.out e he
      · rw [List.mem_singleton.1 he]; exact ⟨pc, q, rfl, hpc, hq1⟩, by rw [endCells_snoc, ← HSZ.out]; exact HO7.out⟩
     case measure => simp [intOf]; omega
    ·
     have hjj : ((j : Int) < (l.length : Int)) = False := eq_false (by omega);have hnb5 := HNB.out.newRow (k := p) (v := .slice Au j cu) (l := l') (by rw [HCY.out.len]; exact hpN) (by rw [HVE.out, HCY.out.len]) (grown_belowN HBI.out none) (own_mono (by rw [HLJ.out]; exact HOJ.out) (by omega)) (by have h1 := HOJ.out; rw [HSZ.out] at h1; exact freshN h1);have hPBi : PB < wr.heap.size := by omega
     have hoe : wr.ownsRow w1.heap.size 75 1 (val' .e) n'.es.length (valsN val' n'.es.length) := (HNB.out.k.up HBI.out).own .e trivial;rw [HVE.out, HCY.out.len] at hoe;have ci := (World.ownsRow.cellAt hoe p (by omega)).trans (valsN_at hpN);have fi := own_thaw hoe p;have q0 : wr.cell? ⟨PB, 0, none⟩ = some (.slice (some ⟨ge', 0, none⟩) N ce') := by rw [cell_of_row _ _ 0 _ _ (0, 0) (HNB.out.up HBI.out).box, ← HVE.out]; rfl
     have kv := (hBi.cell (p := adp.add v) (by rw [block_add]; exact hap)).trans HCP.out;have HN5 := Lib.hid hnb5;have HC5 := Lib.hid (HCY.out.setRow (l := l') hpN (by rw [HLJ.out]; omega) HIN.out);clear hnb5 hoe;go_wp2_with fail;refine till_region (S := fun w' => w'.cell? ⟨PB, 0, none⟩ = some (.slice (some ⟨ge', 0, none⟩) N ce') ∧ w'.cell? (adp.add v) = some (.int .i64 (p : Int))) (st := 8) (by kernel_rfl) ⟨q0, kv⟩ (fun hHeld => ?_);refine utf 0 39 ?_;refine utk 1 40 ?_;refine utf 2 41 ?_;refine utf 3 42 ?_;refine utf 4 43 ?_;refine utk 5 44 ?_;refine utf 6 45 ?_;refine utf 7 46 ?_;refine ur 8 rfl (by kernel_rfl) (fun K hK => ?_);go_simp;obtain ⟨w9, hw9⟩ : ∃ z, z = (wr.setCell ⟨ge', p, none⟩ (.slice Au j cu)).drew := ⟨_, rfl⟩
     rw [← hw9];have H9 := Lib.hid (show NetB w9 w1.heap.size (updN val' (.r p) (.slice Au j cu)) { n' with es := n'.es.set p l' } PB by rw [hw9]; exact HN5.out.up (Below.refl _ _).drew);have hblk : ∀ b, b ≠ ge' → w9.heap[b]? = wr.heap[b]? := fun b hb => by rw [hw9]; exact Below.heap_setCell _ _ _ _ hb
     have HB9 := Lib.hid (show Below w1.heap.size wr w9 by rw [hw9]; exact ((Below.refl _ _).setCell (p := ⟨ge', p, none⟩) (by show w1.heap.size ≤ ge'; omega) _).drew);have HD9 := Lib.hid ((hblk P0 (by omega)).trans ((HBI.out.block P0 (by omega)).trans HDR.out));have HR9 := Lib.hid ((hblk PR (by omega)).trans ((HBI.out.block PR hPRr).trans HRS.out));have hBi9 : Below w.heap.size w w9 := hBi.trans (HB9.out.mono (by omega));have hz9 := HB9.out.size;clear hw9 hblk q0 kv ci fi;obtain ⟨gn0, gn1, gn2, gnf⟩ := cells3 HD9;have q2 : w9.cell? ⟨PB, 2, none⟩ = some (.slice (some ⟨gn', 0, none⟩) N cn') := by rw [cell_of_row _ _ 2 _ _ (0, 0) H9.out.box, ← HVN.out, show updN val' (.r p) (.slice Au j cu) .n = val' .n from updN_ne _ _ (by simp)]; rfl
     have kv := (hBi9.cell (p := adp.add v) (by rw [block_add]; exact hap)).trans HCP.out;have kz := (hBi9.cell (p := ad3.add v) (by rw [block_add]; exact ha3)).trans HZC.out;have hon : w9.ownsRow w1.heap.size 3 1 (updN val' (.r p) (.slice Au j cu) .n) n'.ins.length (n'.ins.map intV) := H9.out.k.own .n trivial;rw [show updN val' (.r p) (.slice Au j cu) .n = val' .n from updN_ne _ _ (by simp), HVN.out, HCY.out.ins] at hon;obtain ⟨y0, hy0⟩ : ∃ y, n'.ins[p]? = some y := ⟨_, List.getElem?_eq_getElem (by rw [HCY.out.ins]; exact hpN)⟩
     have ci := own_cellI hon hpN hy0;have fi := own_thaw hon p;clear hon hy0;refine hK.out (fun h' => till_no h' (by kernel_rfl)) ?_;clear hK K
     try simp only [Act.put, pu]
     refine wpTill_done (by kernel_rfl) ?_ _;go_wp2_with fail;refine till_region (S := fun w' => w'.cell? ⟨PB, 2, none⟩ = some (.slice (some ⟨gn', 0, none⟩) N cn') ∧ w'.cell? (adp.add v) = some (.int .i64 (p : Int)) ∧ w'.cell? ⟨P0, 2, none⟩ = some (.slice (some ad3) N c3) ∧ w'.cell? (ad3.add v) = some (.int .i64 z)) (st := 12) (by kernel_rfl) ⟨q2, kv, gn2, kz⟩ (fun hHeld => ?_);refine utf 0 47 ?_;refine utk 1 48 ?_;refine utf 2 49 ?_;refine utf 3 50 ?_;refine utf 4 51 ?_;refine utk 5 52 ?_;refine utf 6 53 ?_;refine utk 7 54 ?_;refine utf 8 55 ?_;refine utf 9 56 ?_;refine utk 10 57 ?_;refine utf 11 58 ?_;refine ur 12 rfl (by kernel_rfl) (fun K hK => ?_);go_simp;obtain ⟨wb, hwb⟩ : ∃ W, W = (w9.setCell ⟨gn', p, none⟩ (.int .i64 z)).drew := ⟨_, rfl⟩
     rw [← hwb];have hblk : ∀ b, b ≠ gn' → wb.heap[b]? = w9.heap[b]? := fun b hb => by rw [hwb]; exact Below.heap_setCell _ _ _ _ hb
     have hb9 : Below w1.heap.size w9 wb := by rw [hwb]; exact ((Below.refl _ _).setCell (p := ⟨gn', p, none⟩) (by show w1.heap.size ≤ gn'; omega) _).drew
     have HBB := Lib.hid (show Below w.heap.size w wb ∧ wb.heap[PR]? = some (.cells #[.slice none 0 0, .slice none 0 0, .slice none 0 0] 27 (0, 0)) ∧ CycN { n' with es := n'.es.set p l', ins := n'.ins.set p z } N ∧ NetB wb w1.heap.size (updN val' (.r p) (.slice Au j cu)) { n' with es := n'.es.set p l', ins := n'.ins.set p z } PB ∧ Below w1.heap.size w1 wb from
      ⟨hBi9.trans (hb9.mono (by omega)), (hblk PR (by omega)).trans HR9.out, HC5.out.setIn p HZ64.out, by rw [hwb]; exact (H9.out.setIn (by rw [updN_ne _ _ (by simp), HVN.out, HCY.out.ins]) p z).up (Below.refl _ _).drew, ((HB1R.out.trans (HBI.out.mono (by omega))).trans HB9.out).trans hb9⟩)
     have HDB := Lib.hid ((hblk P0 (by omega)).trans HD9.out);clear hwb hblk hb9 q2 kv gn0 gn1 gn2 gnf kz ci fi;obtain ⟨gn0, gn1, gn2, gnf⟩ := cells3 HDB;refine hK.out (fun h' => till_no h' (by kernel_rfl)) ?_;clear hK K
     try simp only [Act.put, pu]
     refine wpTill_done (by kernel_rfl) ?_ _;go_wp2_with fail;go_roundw
     case rel => exact ⟨⟨v + 1, by omega, by go_num, HBB.out.1, HBB.out.2.1, _, _, HBB.out.2.2.1, HBB.out.2.2.2.1⟩, HBB.out.2.2.2.2⟩
     case measure => simp [intOf]; omega
  ·
   obtain rfl : v = N := by omega
   have hjj : ((v : Int) < (v : Int)) = False := eq_false (by omega);obtain ⟨Z0, l0, ez0⟩ := own_slN (HNB.out.k.own .e trivial);obtain ⟨Z1, l1, ez1⟩ := own_slN (HNB.out.k.own .i trivial);obtain ⟨Z2, l2, ez2⟩ := own_slN (HNB.out.k.own .n trivial);have hbz := HNB.out.box;rw [ez0, ez1, ez2] at hbz;have HEZ := Lib.hid (And.intro ez0 (And.intro ez1 ez2));clear ez0 ez1 ez2;generalize (rowN n' val' .e).len = s0 at HEZ hbz;generalize (rowN n' val' .i).len = s1 at HEZ hbz;generalize (rowN n' val' .n).len = s2 at HEZ hbz;obtain ⟨b0, b1, b2, bf⟩ := cells3 (Lib.hid hbz);obtain ⟨p0, p1, p2, pf⟩ := cells3 HRS;obtain ⟨we, hwe, HE, hge⟩ := set3 HRS (.slice Z0 s0 l0) (.slice Z1 s1 l1) (.slice Z2 s2 l2);have HWE := Lib.hid hwe;clear hwe hbz;go_wp2_with fail;rw [← HWE.out];obtain ⟨z0, z1, z2, -⟩ := cells3 HE;have hKz := OwnN.mono (NetK.past HNB.out.k HRS.out no_tyN_net hge) (show w.heap.size ≤ w1.heap.size by omega);have hBz : Below w.heap.size w we := Below.grown HBR.out hge HBR.out.size (fun k hk => by have e := Option.some.inj (show some PR = some k from hk); omega);exact bodyPost_ret (v := .agg #[.slice Z0 s0 l0, .slice Z1 s1 l1, .slice Z2 s2 l2]) (by simp [results, Tryz.results84, go_sem, z0, z1, z2]) rfl ⟨n', val', by rw [HEZ.out.1, HEZ.out.2.1, HEZ.out.2.2], HCY.out, hKz, hBz⟩
end Go.Proofs.YtdghoienjegffaaGreat
