/-
  The reference's neOwn: a copy of a network in memory of its own. Condition: at most 100000 nodes, ports a node, identifiers and inputs.
-/
import Derived.Test.YtdghoienjegffaaGreatRCwBoxG
namespace Go.Proofs.YtdghoienjegffaaGreat
open Go.RowKit
set_option linter.all false
structure SmallN (n : Net) : Prop where
  e : n.es.length ≤ 1000
  i : n.ids.length ≤ 1000
  d : ∀ l ∈ n.es, l.length ≤ 1000
  n : n.ins.length ≤ 1000
def toN (n : Net) (k : Nat) : Net := ⟨n.es.take k, n.ids, n.ins⟩
theorem toN_of {n : Net} {k : Nat} {l : Ends} (h : n.es[k]? = some l) : { toN n k with es := (toN n k).es ++ [l] } = toN n (k + 1) := by obtain ⟨hk, rfl⟩ := List.getElem?_eq_some_iff.1 h;unfold toN;rw [List.take_succ_eq_append_getElem hk]
def NoRel (n : Net) (P : Nat) (w : World) (i : Value) (wr : World) : Prop := Below w.heap.size w wr ∧ ∃ (k : Nat) (val : NKey → Value), k ≤ n.es.length ∧ i = .int .i64 k ∧ NetB wr w.heap.size val (toN n k) P
set_option maxRecDepth 100000 in
set_option maxHeartbeats 4000000 in
theorem spec_neOwn (ne ni nn : Value) (n : Net) (w : World) (hn : NetR w w.heap.size ne ni nn n) (hs : SmallN n) :
  Calls Tryz.prog 130 #[.agg #[ne, ni, nn]] w fun e w' => ∃ val, e = .returned (.agg #[val .e, val .i, val .n]) ∧ NetK w' w.heap.size val n ∧ Below w.heap.size w w' := by
 have HX0 := Lib.hid hn;have HSM := Lib.hid hs;clear hs;obtain ⟨-, ⟨A5, m5, c5, rfl⟩, A6, m6, c6, rfl⟩ := hn.slices;have hxe := hn.e;obtain ⟨A4, c4, rfl, hc4, hM4, hr4⟩ := hxe;unfold maxLen at hM4;have HR4 := Lib.hid hr4;have h1000 := HSM.out.e;clear hr4 hn;obtain ⟨w0, hw0, hb0, HD, hz0, HS0⟩ := box3 w (.slice A4 n.es.length c4) (.slice A5 m5 c5) (.slice A6 m6 c6) 27;obtain ⟨w1, hw1, hb1, HQ, hz1, HS1⟩ := box3 w0 (.slice none 0 0) (.slice none 0 0) (.slice none 0 0) 27;have HW1 := Lib.hid (show w1 = (w.alloc (.cells #[.slice A4 n.es.length c4, .slice A5 m5 c5, .slice A6 m6 c6] 27)).alloc (.cells #[.slice none 0 0, .slice none 0 0, .slice none 0 0] 27) by rw [hw1, hw0]);obtain ⟨P1, hPP1⟩ : ∃ z, z = w0.heap.size := ⟨_, rfl⟩
 have HP1 := Lib.hid (show w.heap.size + 1 = P1 by rw [hPP1, HS0.out]);rw [← hPP1] at HQ hz1;have HD1 := bk HD hb1;have hB := bl_trans hb0 hb1;have hzb1 : w.heap.size < w1.heap.size := by have := hb1.size; omega
 clear hw0 hw1 hPP1 HS0 HS1;obtain ⟨q0, q1, q2, qf⟩ := cells3 HD1;have eq0 := q0;have eq1 := q1;have eq2 := q2;rw [HW1.out] at eq0 eq1 eq2;go_enter Tryz.func130, Tryz.ntmps130;go_wp2_with fail;rw [HP1.out, ← HW1.out];clear eq0 eq1 eq2;rename_i K hrest;have FIN0 : ∀ (W : World) (P3 : Nat) (v1 v2 : Value), Below w1.heap.size w1 W → w1.heap.size ≤ P3 → (∃ val, NetB W w1.heap.size val ⟨[], n.ids, n.ins⟩ P3) →
   K ⟨#[.agg #[.slice A4 n.es.length c4, .slice A5 m5 c5, .slice A6 m6 c6], .pointer (some ⟨w.heap.size, 0, none⟩), .pointer (some ⟨P1, 0, none⟩), .pointer (some ⟨P3, 0, none⟩), undef, undef, .pointer (some ⟨w.heap.size, 1, none⟩), .slice A5 m5 c5, v1, .pointer (some ⟨w.heap.size, 2, none⟩), .slice A6 m6 c6, v2, .agg #[.slice none 0 0, v1, v2], undef, undef, undef, undef, undef, undef, undef, undef, undef, undef, undef, undef, undef, undef, undef, undef, undef], []⟩ W := by
  intro W P3 v1 v2 hBW hP3 hK0;obtain ⟨val, hk0⟩ := hK0;refine hrest _ _ ?_;have HK0 := Lib.hid hk0;have HP3 := Lib.hid hP3;clear hk0;have HDW := bk HD1 hBW;clear q0 q1 q2 qf hrest;obtain ⟨q0, q1, q2, qf⟩ := cells3 HDW;go_wp2_with fail;go_loopw [16] (fun i wr => NoRel n P3 w1 i wr) (fun i _ => n.es.length - (intOf i).toNat)
  case atStart => exact ⟨hBW, 0, val, Nat.zero_le _, rfl, HK0.out⟩
  case round =>
   obtain ⟨hbr, k, vk, hkn, rfl, hk1⟩ := hrel;have HK := Lib.hid hk1;have hzr := hbr.size;have hPr := hk1.lt;have hBr := bl_trans hB hbr;have HQr := bk HQ hbr;clear hk1 q0 q1 q2 qf;by_cases hlt : k < n.es.length
   ·
    obtain ⟨l, hl⟩ : ∃ y, n.es[k]? = some y := ⟨_, List.getElem?_eq_getElem hlt⟩
    have hl6 := HSM.out.d l (List.mem_of_getElem? hl);obtain ⟨ad4, rfl, ha4, hrow4⟩ := HR4.out (by omega);obtain ⟨u4, hu4, hz4⟩ := hrow4 k l hl;have hel := (EndsR.below hz4 hBr).more hBr.size;obtain ⟨B4, d4, rfl, hd4, hD4, -, -⟩ := hz4;have c4k := (hBr.cell (p := ad4.add k) (by rw [block_add]; exact ha4)).trans hu4;have HL := Lib.hid hl;have HT1 := Lib.hid (toN_of hl);have hlk : (toN n k).es.length = k := by show (n.es.take k).length = k; rw [List.length_take]; omega
    have HLK := Lib.hid hlk;have hos := HK.out.k.own .e trivial;replace hos : wr.ownsRow w1.heap.size 75 1 (vk .e) (toN n k).es.length (valsN vk (toN n k).es.length) := hos;rw [hlk] at hos;obtain ⟨Ae, ce, eke⟩ := own_slN hos;have HOE := Lib.hid hos;have HEE := Lib.hid eke;have y0 : wr.cell? ⟨P3, 0, none⟩ = some (.slice Ae k ce) := by rw [cell_of_row _ _ 0 _ _ (0, 0) HK.out.box, ← eke]; rfl
    obtain ⟨W0, hW0⟩ : ∃ z, z = wr.drew := ⟨_, rfl⟩
    obtain ⟨v6, w6, hrun, ho6, hb6'⟩ := run_ownEnds W0 _ l 75 (by rw [hW0]; exact hel) (by omega);obtain ⟨B6, d6, rfl⟩ := own_slN ho6;have hW0s : W0.heap.size = wr.heap.size := by rw [hW0]; rfl
    have hb6 : Below wr.heap.size wr w6 := by rw [← hW0s]; exact Below.trans (by rw [hW0]; exact (Below.refl _ _).drew) hb6'
    rw [hW0s] at ho6;have HRUN := Lib.hid hrun;have HO6 := Lib.hid ho6;have hz6 := hb6.size;have HOE6 := Lib.hid (own_upN HOE.out hb6);have hW0a : (wr.alloc (.cells #[] 74)).drew = W0.alloc (.cells #[] 74) := by rw [hW0]; rfl
    have HWA := Lib.hid hW0a;have HWS := Lib.hid hW0s;have y06 := (hb6.cell (p := ⟨P3, 0, none⟩) hPr).trans y0;have HY06 := Lib.hid y06;have HBX6 := Lib.hid ((hb6.block P3 hPr).trans HK.out.box);clear hl hu4 hrow4 hlk hos eke hrun ho6 hb6' hW0 hW0s hW0a hel y06;go_wp2_with fail;refine till_region (S := fun w' => w'.cell? ⟨P3, 0, none⟩ = some (.slice Ae k ce)) (st := 8) (by kernel_rfl) y0 (fun hHeld => ?_);refine utf 0 20 ?_;refine utk 1 21 ?_;refine utf 3 23 ?_;refine ur 2 rfl (by kernel_rfl) (fun K hK => ?_);go_simp;replace y0 := Lib.cell?_alloc_some (.cells #[] 74) y0;refine hK.out (fun _ => y0) ?_;clear hK K
    try simp only [Act.put, pu]
    refine ur 4 rfl (by kernel_rfl) (fun K hK => ?_);rw [if_pos (by rfl), HWA.out, ← HWS.out];refine oper_append_run _ (.tmp 22) (.tmp 23) 75 rfl rfl rfl HRUN.out ?_;clear y0;have y0 := HY06.out;refine hK.out (fun _ => y0) ?_;clear hK K
    try simp only [Act.put, pu]
    refine ur 5 rfl (by kernel_rfl) (fun K hK => ?_);go_simp;replace y0 := Lib.cell?_alloc_some (.cells #[.slice B6 l.length d6] 75) y0;refine hK.out (fun _ => y0) ?_;clear hK K
    try simp only [Act.put, pu]
    refine ur 6 rfl (by kernel_rfl) (fun K hK => ?_);rw [if_pos (by rfl)];refine oper_app1 w6 (.tmp 21) (.tmp 25) 24 rfl w1.heap.size 75 _ 24 Tryz.underlying24 rowInfo rfl _ _ _ rfl _ rfl rfl (by have := HOE6.out; rw [HEE.out] at this; exact this) (by unfold maxLen; omega) (by omega) (by omega) ?_;intro v7 w7 hown7 hbl7 hgr7 hlt7 hob7;obtain ⟨A7, c7, rfl⟩ := own_slN hown7;have hneP : (Value.slice Ae k ce).ownBlock ≠ some P3 := by have := HK.out.ne .e trivial;rw [HEE.out] at this;exact this
    have hkP := hgr7.block P3 (by omega) (fun e => hneP e.symm);clear y0;have y0 := (World.cell?_of_block (a := ⟨P3, 0, none⟩) hkP).trans HY06.out;have f0 : w7.frozen? ⟨P3, 0, none⟩ = false := frozen_of_row _ _ 0 _ _ (hkP.trans HBX6.out);refine hK.out (fun _ => y0) ?_;clear hK K
    try simp only [Act.put, pu]
    refine utf 7 27 ?_;refine ur 8 rfl (by kernel_rfl) (fun K hK => ?_);go_simp;obtain ⟨w8, hw8⟩ : ∃ z, z = w7.setCell ⟨P3, 0, none⟩ (.slice A7 (k + 1) c7) := ⟨_, rfl⟩
    rw [← hw8];obtain ⟨val1, hk1⟩ := HK.out.addRow hb6 hzr HO6.out (w2 := w7) (v2 := .slice A7 (k + 1) c7) (by rw [HEE.out]; exact hgr7) (by rw [HLK.out]; exact hown7) (by rw [HEE.out]; exact hob7.imp id fun ⟨g, h1, h2, _⟩ => ⟨g, h1, h2⟩);rw [← hw8, HT1.out] at hk1;have HK7 := Lib.hid hk1;have HB7 := Lib.hid (show Below w1.heap.size w1 w8 by rw [hw8]; exact ((bl_trans hbr hb6).trans hbl7).setCell (p := ⟨P3, 0, none⟩) HP3.out _);clear hk1 hw8 y0 f0 hkP hneP hown7 hbl7 hgr7 hob7;refine hK.out (fun h' => till_no h' (by kernel_rfl)) ?_;clear hK K
    try simp only [Act.put, pu]
    refine wpTill_done (by kernel_rfl) ?_ _;go_wp2_with fail;go_roundw
    case rel => exact ⟨HB7.out, k + 1, val1, by omega, by go_num, HK7.out⟩
    case measure => simp [intOf]; omega
   ·
    obtain rfl : k = n.es.length := by omega
    have HXE := Lib.hid (show toN n n.es.length = n by unfold toN; rw [List.take_of_length_le (Nat.le_refl _)]);obtain ⟨C0, k0, ek0⟩ := own_slN (HK.out.k.own .e trivial);obtain ⟨C1, k1, ek1⟩ := own_slN (HK.out.k.own .i trivial);obtain ⟨C2, k2, ek2⟩ := own_slN (HK.out.k.own .n trivial);have hbx := HK.out.box;rw [ek0, ek1, ek2] at hbx;have HVK := Lib.hid (And.intro ek0 (And.intro ek1 ek2));clear ek0 ek1 ek2;generalize (rowN (toN n n.es.length) vk .e).len = n0 at HVK hbx;generalize (rowN (toN n n.es.length) vk .i).len = n1 at HVK hbx;generalize (rowN (toN n n.es.length) vk .n).len = n2 at HVK hbx;have HBX := Lib.hid hbx;clear hbx;obtain ⟨b0, b1, b2, bf⟩ := cells3 HBX;obtain ⟨p0, p1, p2, pf⟩ := cells3 HQr;obtain ⟨we, hwe, HE, hge⟩ := set3 HQr (.slice C0 n0 k0) (.slice C1 n1 k1) (.slice C2 n2 k2);have HWE := Lib.hid hwe;clear hwe;go_wp2_with fail;rw [← HWE.out];obtain ⟨z0, z1, z2, -⟩ := cells3 HE;have hwP : w.heap.size ≤ P1 := Nat.le_of_lt (by rw [← HP1.out]; omega);have hBE : Below w.heap.size w we := Below.grown hBr hge (by omega) (fun k hk => by have e := Option.some.inj (show some P1 = some k from hk); omega);have hKE : NetK we w.heap.size vk n := by have h1 := NetK.past HK.out.k HQr.out no_tyN_net hge;rw [HXE.out] at h1;exact OwnN.mono h1 (Nat.le_of_lt hzb1)
    exact bodyPost_ret (v := .agg #[.slice C0 n0 k0, .slice C1 n1 k1, .slice C2 n2 k2]) (by simp [results, Tryz.results130, go_sem, z0, z1, z2]) rfl ⟨vk, by rw [HVK.out.1, HVK.out.2.1, HVK.out.2.2], hKE, hBE⟩
 have FIN := Lib.hid FIN0;clear FIN0;have hB1 : Below w1.heap.size w1 w1 := Below.refl _ _;have hzc := hzb1;refine wp_region_held_drew (S := fun w' => w'.cell? ⟨w.heap.size, 0, none⟩ = some (.slice A4 n.es.length c4) ∧ w'.cell? ⟨w.heap.size, 1, none⟩ = some (.slice A5 m5 c5) ∧ w'.cell? ⟨w.heap.size, 2, none⟩ = some (.slice A6 m6 c6)) (by kernel_rfl) ?_ (fun hHeld => ?_)
 · go_keep
 obtain ⟨wd, hwd⟩ : ∃ z, z = w1.drew := ⟨_, rfl⟩
 rw [← hwd] at hHeld ⊢;have hbd : Below w1.heap.size w1 wd := by rw [hwd]; exact (Below.refl _ _).drew
 obtain ⟨sz, hsz, hcur⟩ : ∃ z, z = w1.heap.size ∧ z = w1.heap.size := ⟨_, rfl, rfl⟩
 clear hwd;have hlewd : sz ≤ wd.heap.size := by rw [hsz]; exact hbd.size
 replace q0 := (hbd.cell (p := ⟨w.heap.size, 0, none⟩) hzc).trans q0;replace q1 := (hbd.cell (p := ⟨w.heap.size, 1, none⟩) hzc).trans q1;replace q2 := (hbd.cell (p := ⟨w.heap.size, 2, none⟩) hzc).trans q2;replace hzc := Nat.lt_of_lt_of_le hzc hbd.size;replace hB : Below w.heap.size w wd := by first | exact bl_trans hB hbd | exact bl_trans hB.drew hbd | exact bl_trans hB.drew.drew hbd
 replace hB1 : Below w1.heap.size w1 wd := by first | exact bl_trans hB1 hbd | exact bl_trans hB1.drew hbd | exact bl_trans hB1.drew.drew hbd
 obtain ⟨sz, hsz, hcur⟩ : ∃ z, z = wd.heap.size ∧ z = wd.heap.size := ⟨_, rfl, rfl⟩
 refine stk 0 6 ?_;refine stk 1 7 ?_;refine stk 3 9 ?_;refine stk 4 10 ?_;refine wpAnyH_ready (rs := [2, 7]) (by kernel_rfl) (by simp) ?_;refine AllReadyH.cons rfl (fun K hK => ?_) (AllReadyH.cons rfl (fun K hK => ?_) AllReadyH.nil)
 ·
  go_simp;go_at_call 31;refine (spec_l1Own _ n.ids _ (ints_at HX0.out.i (by first | exact hB | exact hB.drew | exact hB.drew.drew)) (by have := HSM.out.i; omega)).mono ?_;rintro e w5 ⟨v5, rfl, o5, hb5⟩;have r5 : ∀ g, v5.ownBlock = some g → sz ≤ g ∧ g < w5.heap.size := fun g hg => by rw [hsz]; exact o5.lt g hg
  replace o5 := own_mono o5 (show w1.heap.size ≤ _ from hB1.size);obtain ⟨B5, d5, rfl⟩ := own_slN o5;have hlew5 : sz ≤ w5.heap.size := by rw [hsz]; exact hb5.size
  replace q0 := (hb5.cell (p := ⟨w.heap.size, 0, none⟩) hzc).trans q0;replace q1 := (hb5.cell (p := ⟨w.heap.size, 1, none⟩) hzc).trans q1;replace q2 := (hb5.cell (p := ⟨w.heap.size, 2, none⟩) hzc).trans q2;replace hzc := Nat.lt_of_lt_of_le hzc hb5.size;replace hB : Below w.heap.size w w5 := by first | exact bl_trans hB hb5 | exact bl_trans hB.drew hb5 | exact bl_trans hB.drew.drew hb5
  replace hB1 : Below w1.heap.size w1 w5 := by first | exact bl_trans hB1 hb5 | exact bl_trans hB1.drew hb5 | exact bl_trans hB1.drew.drew hb5
  obtain ⟨sz, hsz, hcur⟩ : ∃ z, z = w5.heap.size ∧ z = w5.heap.size := ⟨_, rfl, rfl⟩
  refine hK.out _ _ ?_ (fun hHeld => ?_)
  · go_keep
  clear hK K
  try simp only [Act.put, pu]
  refine wpAnyH_ready (rs := [5, 7]) (by kernel_rfl) (by simp) ?_;refine AllReadyH.cons rfl (fun K hK => ?_) (AllReadyH.cons rfl (fun K hK => ?_) AllReadyH.nil)
  ·
   go_simp;go_at_call 31;refine (spec_l1Own _ n.ins _ (ints_at HX0.out.n (by first | exact hB | exact hB.drew | exact hB.drew.drew)) (by have := HSM.out.n; omega)).mono ?_;rintro e w6 ⟨v6, rfl, o6, hb6⟩;have r6 : ∀ g, v6.ownBlock = some g → sz ≤ g ∧ g < w6.heap.size := fun g hg => by rw [hsz]; exact o6.lt g hg
   replace o6 := own_mono o6 (show w1.heap.size ≤ _ from hB1.size);obtain ⟨B6, d6, rfl⟩ := own_slN o6;have hlew6 : sz ≤ w6.heap.size := by rw [hsz]; exact hb6.size
   replace q0 := (hb6.cell (p := ⟨w.heap.size, 0, none⟩) hzc).trans q0;replace q1 := (hb6.cell (p := ⟨w.heap.size, 1, none⟩) hzc).trans q1;replace q2 := (hb6.cell (p := ⟨w.heap.size, 2, none⟩) hzc).trans q2;replace hzc := Nat.lt_of_lt_of_le hzc hb6.size;replace hB : Below w.heap.size w w6 := by first | exact bl_trans hB hb6 | exact bl_trans hB.drew hb6 | exact bl_trans hB.drew.drew hb6
   replace hB1 : Below w1.heap.size w1 w6 := by first | exact bl_trans hB1 hb6 | exact bl_trans hB1.drew hb6 | exact bl_trans hB1.drew.drew hb6
   replace o5 := own_upN o5 hb6;obtain ⟨sz, hsz, hcur⟩ : ∃ z, z = w6.heap.size ∧ z = w6.heap.size := ⟨_, rfl, rfl⟩
   refine hK.out _ _ ?_ (fun hHeld => ?_)
   · go_keep
   clear hK K
   try simp only [Act.put, pu]
   refine stk 6 12 ?_;refine wpAnyH_ready (rs := [7]) (by kernel_rfl) (by simp) ?_;refine AllReadyH.cons rfl (fun K hK => ?_) AllReadyH.nil;go_simp;obtain ⟨P3, w9, hP3, hw9, hb9, HT, hPc⟩ := boxAt3 w6 (.slice none 0 0) (.slice none 0 0) (.slice none 0 0) 27;rw [hP3, ← hw9];have hPs : sz ≤ P3 ∧ P3 < w9.heap.size := ⟨by rw [hsz, ← hP3]; exact Nat.le_refl _, hPc⟩
   clear hw9;have hlew9 : sz ≤ w9.heap.size := by rw [hsz]; exact hb9.size
   replace q0 := (hb9.cell (p := ⟨w.heap.size, 0, none⟩) hzc).trans q0;replace q1 := (hb9.cell (p := ⟨w.heap.size, 1, none⟩) hzc).trans q1;replace q2 := (hb9.cell (p := ⟨w.heap.size, 2, none⟩) hzc).trans q2;replace hzc := Nat.lt_of_lt_of_le hzc hb9.size;replace hB : Below w.heap.size w w9 := by first | exact bl_trans hB hb9 | exact bl_trans hB.drew hb9 | exact bl_trans hB.drew.drew hb9
   replace hB1 : Below w1.heap.size w1 w9 := by first | exact bl_trans hB1 hb9 | exact bl_trans hB1.drew hb9 | exact bl_trans hB1.drew.drew hb9
   replace o5 := own_upN o5 hb9;replace o6 := own_upN o6 hb9;obtain ⟨sz, hsz, hcur⟩ : ∃ z, z = w9.heap.size ∧ z = w9.heap.size := ⟨_, rfl, rfl⟩
   (try clear t0 t1 t2 tf)
   obtain ⟨t0, t1, t2, tf⟩ := cells3 HT;refine hK.out _ _ ?_ (fun hHeld => ?_)
   · go_keep
   clear hK K
   try simp only [Act.put, pu]
   refine wpAnyH_ready (rs := [8]) (by kernel_rfl) (by simp) ?_;refine AllReadyH.cons rfl (fun K hK => ?_) AllReadyH.nil;go_simp;obtain ⟨we, hwe, HE, hge⟩ := set3 HT (.slice none 0 0) (.slice B5 n.ids.length d5) (.slice B6 n.ins.length d6);rw [← hwe];clear hwe;have n5 : (Value.slice B5 n.ids.length d5).ownBlock ≠ some P3 := fun h => by have := r5 _ h; omega
   have n6 : (Value.slice B6 n.ins.length d6).ownBlock ≠ some P3 := fun h => by have := r6 _ h; omega
   have s56 : (Value.slice B5 n.ids.length d5).ownBlock = none ∨ (Value.slice B5 n.ids.length d5).ownBlock ≠ (Value.slice B6 n.ins.length d6).ownBlock := sep_ofN r5 r6 (by omega);have HK3 := Lib.hid (NetB.of2 (own_setN o5 hge n5) (own_setN o6 hge n6) s56 HE);have hBE : Below w1.heap.size w1 we := Below.grown hB1 hge (by rw [← hcur]; omega) (fun k hk => by have e := Option.some.inj (show some P3 = some k from hk); omega);have yE : ∀ i, we.cell? ⟨w.heap.size, i, none⟩ = w9.cell? ⟨w.heap.size, i, none⟩ := fun i => World.cell?_of_block (hge.block w.heap.size hzc (fun h => by have e := Option.some.inj h; omega))
   replace q0 := (yE 0).trans q0;replace q1 := (yE 1).trans q1;replace q2 := (yE 2).trans q2;refine hK.out _ _ ?_ (fun hHeld => ?_)
   · go_keep
   clear hK K
   try simp only [Act.put, pu]
   refine wpAnyH_done (by kernel_rfl) ?_ _;exact FIN.out _ P3 _ _ hBE (by omega) HK3.out
  ·
   go_simp;obtain ⟨P3, w9, hP3, hw9, hb9, HT, hPc⟩ := boxAt3 w5 (.slice none 0 0) (.slice none 0 0) (.slice none 0 0) 27;rw [hP3, ← hw9];have hPs : sz ≤ P3 ∧ P3 < w9.heap.size := ⟨by rw [hsz, ← hP3]; exact Nat.le_refl _, hPc⟩
   clear hw9;have hlew9 : sz ≤ w9.heap.size := by rw [hsz]; exact hb9.size
   replace q0 := (hb9.cell (p := ⟨w.heap.size, 0, none⟩) hzc).trans q0;replace q1 := (hb9.cell (p := ⟨w.heap.size, 1, none⟩) hzc).trans q1;replace q2 := (hb9.cell (p := ⟨w.heap.size, 2, none⟩) hzc).trans q2;replace hzc := Nat.lt_of_lt_of_le hzc hb9.size;replace hB : Below w.heap.size w w9 := by first | exact bl_trans hB hb9 | exact bl_trans hB.drew hb9 | exact bl_trans hB.drew.drew hb9
   replace hB1 : Below w1.heap.size w1 w9 := by first | exact bl_trans hB1 hb9 | exact bl_trans hB1.drew hb9 | exact bl_trans hB1.drew.drew hb9
   replace o5 := own_upN o5 hb9;obtain ⟨sz, hsz, hcur⟩ : ∃ z, z = w9.heap.size ∧ z = w9.heap.size := ⟨_, rfl, rfl⟩
   (try clear t0 t1 t2 tf)
   obtain ⟨t0, t1, t2, tf⟩ := cells3 HT;refine hK.out _ _ ?_ (fun hHeld => ?_)
   · go_keep
   clear hK K
   try simp only [Act.put, pu]
   refine wpAnyH_ready (rs := [5]) (by kernel_rfl) (by simp) ?_;refine AllReadyH.cons rfl (fun K hK => ?_) AllReadyH.nil;go_simp;go_at_call 31;refine (spec_l1Own _ n.ins _ (ints_at HX0.out.n (by first | exact hB | exact hB.drew | exact hB.drew.drew)) (by have := HSM.out.n; omega)).mono ?_;rintro e w6 ⟨v6, rfl, o6, hb6⟩;have r6 : ∀ g, v6.ownBlock = some g → sz ≤ g ∧ g < w6.heap.size := fun g hg => by rw [hsz]; exact o6.lt g hg
   replace o6 := own_mono o6 (show w1.heap.size ≤ _ from hB1.size);obtain ⟨B6, d6, rfl⟩ := own_slN o6;have hlew6 : sz ≤ w6.heap.size := by rw [hsz]; exact hb6.size
   replace q0 := (hb6.cell (p := ⟨w.heap.size, 0, none⟩) hzc).trans q0;replace q1 := (hb6.cell (p := ⟨w.heap.size, 1, none⟩) hzc).trans q1;replace q2 := (hb6.cell (p := ⟨w.heap.size, 2, none⟩) hzc).trans q2;replace hzc := Nat.lt_of_lt_of_le hzc hb6.size;replace hB : Below w.heap.size w w6 := by first | exact bl_trans hB hb6 | exact bl_trans hB.drew hb6 | exact bl_trans hB.drew.drew hb6
   replace hB1 : Below w1.heap.size w1 w6 := by first | exact bl_trans hB1 hb6 | exact bl_trans hB1.drew hb6 | exact bl_trans hB1.drew.drew hb6
   replace HT := Lib.hid ((hb6.block P3 hPc).trans HT.out);replace hPc := Nat.lt_of_lt_of_le hPc hb6.size;replace o5 := own_upN o5 hb6;obtain ⟨sz, hsz, hcur⟩ : ∃ z, z = w6.heap.size ∧ z = w6.heap.size := ⟨_, rfl, rfl⟩
   (try clear t0 t1 t2 tf)
   obtain ⟨t0, t1, t2, tf⟩ := cells3 HT;refine hK.out _ _ ?_ (fun hHeld => ?_)
   · go_keep
   clear hK K
   try simp only [Act.put, pu]
   refine stk 6 12 ?_;refine wpAnyH_ready (rs := [8]) (by kernel_rfl) (by simp) ?_;refine AllReadyH.cons rfl (fun K hK => ?_) AllReadyH.nil;go_simp;obtain ⟨we, hwe, HE, hge⟩ := set3 HT (.slice none 0 0) (.slice B5 n.ids.length d5) (.slice B6 n.ins.length d6);rw [← hwe];clear hwe;have n5 : (Value.slice B5 n.ids.length d5).ownBlock ≠ some P3 := fun h => by have := r5 _ h; omega
   have n6 : (Value.slice B6 n.ins.length d6).ownBlock ≠ some P3 := fun h => by have := r6 _ h; omega
   have s56 : (Value.slice B5 n.ids.length d5).ownBlock = none ∨ (Value.slice B5 n.ids.length d5).ownBlock ≠ (Value.slice B6 n.ins.length d6).ownBlock := sep_ofN r5 r6 (by omega);have HK3 := Lib.hid (NetB.of2 (own_setN o5 hge n5) (own_setN o6 hge n6) s56 HE);have hBE : Below w1.heap.size w1 we := Below.grown hB1 hge (by rw [← hcur]; omega) (fun k hk => by have e := Option.some.inj (show some P3 = some k from hk); omega);have yE : ∀ i, we.cell? ⟨w.heap.size, i, none⟩ = w6.cell? ⟨w.heap.size, i, none⟩ := fun i => World.cell?_of_block (hge.block w.heap.size hzc (fun h => by have e := Option.some.inj h; omega))
   replace q0 := (yE 0).trans q0;replace q1 := (yE 1).trans q1;replace q2 := (yE 2).trans q2;refine hK.out _ _ ?_ (fun hHeld => ?_)
   · go_keep
   clear hK K
   try simp only [Act.put, pu]
   refine wpAnyH_done (by kernel_rfl) ?_ _;exact FIN.out _ P3 _ _ hBE (by omega) HK3.out
 ·
  go_simp;obtain ⟨P3, w9, hP3, hw9, hb9, HT, hPc⟩ := boxAt3 wd (.slice none 0 0) (.slice none 0 0) (.slice none 0 0) 27;rw [hP3, ← hw9];have hPs : sz ≤ P3 ∧ P3 < w9.heap.size := ⟨by rw [hsz, ← hP3]; exact Nat.le_refl _, hPc⟩
  clear hw9;have hlew9 : sz ≤ w9.heap.size := by rw [hsz]; exact hb9.size
  replace q0 := (hb9.cell (p := ⟨w.heap.size, 0, none⟩) hzc).trans q0;replace q1 := (hb9.cell (p := ⟨w.heap.size, 1, none⟩) hzc).trans q1;replace q2 := (hb9.cell (p := ⟨w.heap.size, 2, none⟩) hzc).trans q2;replace hzc := Nat.lt_of_lt_of_le hzc hb9.size;replace hB : Below w.heap.size w w9 := by first | exact bl_trans hB hb9 | exact bl_trans hB.drew hb9 | exact bl_trans hB.drew.drew hb9
  replace hB1 : Below w1.heap.size w1 w9 := by first | exact bl_trans hB1 hb9 | exact bl_trans hB1.drew hb9 | exact bl_trans hB1.drew.drew hb9
  obtain ⟨sz, hsz, hcur⟩ : ∃ z, z = w9.heap.size ∧ z = w9.heap.size := ⟨_, rfl, rfl⟩
  (try clear t0 t1 t2 tf)
  obtain ⟨t0, t1, t2, tf⟩ := cells3 HT;refine hK.out _ _ ?_ (fun hHeld => ?_)
  · go_keep
  clear hK K
  try simp only [Act.put, pu]
  refine wpAnyH_ready (rs := [2]) (by kernel_rfl) (by simp) ?_;refine AllReadyH.cons rfl (fun K hK => ?_) AllReadyH.nil;go_simp;go_at_call 31;refine (spec_l1Own _ n.ids _ (ints_at HX0.out.i (by first | exact hB | exact hB.drew | exact hB.drew.drew)) (by have := HSM.out.i; omega)).mono ?_;rintro e w5 ⟨v5, rfl, o5, hb5⟩;have r5 : ∀ g, v5.ownBlock = some g → sz ≤ g ∧ g < w5.heap.size := fun g hg => by rw [hsz]; exact o5.lt g hg
  replace o5 := own_mono o5 (show w1.heap.size ≤ _ from hB1.size);obtain ⟨B5, d5, rfl⟩ := own_slN o5;have hlew5 : sz ≤ w5.heap.size := by rw [hsz]; exact hb5.size
  replace q0 := (hb5.cell (p := ⟨w.heap.size, 0, none⟩) hzc).trans q0;replace q1 := (hb5.cell (p := ⟨w.heap.size, 1, none⟩) hzc).trans q1;replace q2 := (hb5.cell (p := ⟨w.heap.size, 2, none⟩) hzc).trans q2;replace hzc := Nat.lt_of_lt_of_le hzc hb5.size;replace hB : Below w.heap.size w w5 := by first | exact bl_trans hB hb5 | exact bl_trans hB.drew hb5 | exact bl_trans hB.drew.drew hb5
  replace hB1 : Below w1.heap.size w1 w5 := by first | exact bl_trans hB1 hb5 | exact bl_trans hB1.drew hb5 | exact bl_trans hB1.drew.drew hb5
  replace HT := Lib.hid ((hb5.block P3 hPc).trans HT.out);replace hPc := Nat.lt_of_lt_of_le hPc hb5.size;obtain ⟨sz, hsz, hcur⟩ : ∃ z, z = w5.heap.size ∧ z = w5.heap.size := ⟨_, rfl, rfl⟩
  (try clear t0 t1 t2 tf)
  obtain ⟨t0, t1, t2, tf⟩ := cells3 HT;refine hK.out _ _ ?_ (fun hHeld => ?_)
  · go_keep
  clear hK K
  try simp only [Act.put, pu]
  refine wpAnyH_ready (rs := [5]) (by kernel_rfl) (by simp) ?_;refine AllReadyH.cons rfl (fun K hK => ?_) AllReadyH.nil;go_simp;go_at_call 31;refine (spec_l1Own _ n.ins _ (ints_at HX0.out.n (by first | exact hB | exact hB.drew | exact hB.drew.drew)) (by have := HSM.out.n; omega)).mono ?_;rintro e w6 ⟨v6, rfl, o6, hb6⟩;have r6 : ∀ g, v6.ownBlock = some g → sz ≤ g ∧ g < w6.heap.size := fun g hg => by rw [hsz]; exact o6.lt g hg
  replace o6 := own_mono o6 (show w1.heap.size ≤ _ from hB1.size);obtain ⟨B6, d6, rfl⟩ := own_slN o6;have hlew6 : sz ≤ w6.heap.size := by rw [hsz]; exact hb6.size
  replace q0 := (hb6.cell (p := ⟨w.heap.size, 0, none⟩) hzc).trans q0;replace q1 := (hb6.cell (p := ⟨w.heap.size, 1, none⟩) hzc).trans q1;replace q2 := (hb6.cell (p := ⟨w.heap.size, 2, none⟩) hzc).trans q2;replace hzc := Nat.lt_of_lt_of_le hzc hb6.size;replace hB : Below w.heap.size w w6 := by first | exact bl_trans hB hb6 | exact bl_trans hB.drew hb6 | exact bl_trans hB.drew.drew hb6
  replace hB1 : Below w1.heap.size w1 w6 := by first | exact bl_trans hB1 hb6 | exact bl_trans hB1.drew hb6 | exact bl_trans hB1.drew.drew hb6
  replace HT := Lib.hid ((hb6.block P3 hPc).trans HT.out);replace hPc := Nat.lt_of_lt_of_le hPc hb6.size;replace o5 := own_upN o5 hb6;obtain ⟨sz, hsz, hcur⟩ : ∃ z, z = w6.heap.size ∧ z = w6.heap.size := ⟨_, rfl, rfl⟩
  (try clear t0 t1 t2 tf)
  obtain ⟨t0, t1, t2, tf⟩ := cells3 HT;refine hK.out _ _ ?_ (fun hHeld => ?_)
  · go_keep
  clear hK K
  try simp only [Act.put, pu]
  refine stk 6 12 ?_;refine wpAnyH_ready (rs := [8]) (by kernel_rfl) (by simp) ?_;refine AllReadyH.cons rfl (fun K hK => ?_) AllReadyH.nil;go_simp;obtain ⟨we, hwe, HE, hge⟩ := set3 HT (.slice none 0 0) (.slice B5 n.ids.length d5) (.slice B6 n.ins.length d6);rw [← hwe];clear hwe;have n5 : (Value.slice B5 n.ids.length d5).ownBlock ≠ some P3 := fun h => by have := r5 _ h; omega
  have n6 : (Value.slice B6 n.ins.length d6).ownBlock ≠ some P3 := fun h => by have := r6 _ h; omega
  have s56 : (Value.slice B5 n.ids.length d5).ownBlock = none ∨ (Value.slice B5 n.ids.length d5).ownBlock ≠ (Value.slice B6 n.ins.length d6).ownBlock := sep_ofN r5 r6 (by omega);have HK3 := Lib.hid (NetB.of2 (own_setN o5 hge n5) (own_setN o6 hge n6) s56 HE);have hBE : Below w1.heap.size w1 we := Below.grown hB1 hge (by rw [← hcur]; omega) (fun k hk => by have e := Option.some.inj (show some P3 = some k from hk); omega);have yE : ∀ i, we.cell? ⟨w.heap.size, i, none⟩ = w6.cell? ⟨w.heap.size, i, none⟩ := fun i => World.cell?_of_block (hge.block w.heap.size hzc (fun h => by have e := Option.some.inj h; omega))
  replace q0 := (yE 0).trans q0;replace q1 := (yE 1).trans q1;replace q2 := (yE 2).trans q2;refine hK.out _ _ ?_ (fun hHeld => ?_)
  · go_keep
  clear hK K
  try simp only [Act.put, pu]
  refine wpAnyH_done (by kernel_rfl) ?_ _;exact FIN.out _ P3 _ _ hBE (by omega) HK3.out
end Go.Proofs.YtdghoienjegffaaGreat
