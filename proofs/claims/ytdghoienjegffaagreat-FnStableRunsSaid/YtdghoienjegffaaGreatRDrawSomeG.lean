/-
  Small lemmas and contracts that the texts of this claim share. No condition.
-/
import Derived.Test.YtdghoienjegffaaGreatRDrawSt
import Derived.Test.YtdghoienjegffaaGreatRSsLegD
import Derived.Deep.CutBlock
namespace Go.Proofs.YtdghoienjegffaaGreat
open Go.RowKit
set_option linter.all false
set_option maxRecDepth 100000 in
set_option maxHeartbeats 2000000 in
theorem spec_ssCountsO (ve vi vn : Value) (n : Net) (r : Int) (w : World) (h : NetR w w.heap.size ve vi vn n) (hp : netP n) :
  Calls Tryz.prog 107 #[.agg #[ve, vi, vn], .int .i64 r] w fun e w' => ∃ u, e = .returned u ∧ (∃ A m c, u = .slice A m c) ∧ IntsR w' w'.heap.size u (cnts n r) ∧ Below w.heap.size w w' ∧ w'.ownsRow w.heap.size 3 1 u n.es.length ((cnts n r).map intV) := by
 have h40 := hp.1.2;have HP := Lib.hid hp; clear hp;obtain ⟨⟨A0, m0, c0, rfl⟩, ⟨A1, m1, c1, rfl⟩, A2, m2, c2, rfl⟩ := h.slices;obtain ⟨w0, hw0, hB, HD, hz0, HS0⟩ := box3 w (.slice A0 m0 c0) (.slice A1 m1 c1) (.slice A2 m2 c2) 27;have HN0 := Lib.hid h; have HN := Lib.hid (h.up hB); clear h;have HW0 := Lib.hid hw0; clear hw0;obtain ⟨q0, q1, q2, qf⟩ := cells3 HD;obtain ⟨hm0, -, -⟩ := HN.out.e.len_slice;subst hm0;have HDL := Lib.hid (cnts_len n r);go_enter Tryz.func107, Tryz.ntmps107;go_wp2_with fail;rw [← HW0.out];go_loopw [5, 6, 10] (fun v _ i wr => IntsRel (cnts n r) w0 v i wr) (fun _ _ i _ => n.es.length - (intOf i).toNat)
 case atStart => exact ⟨0, Nat.zero_le _, rfl, World.ownsRow_nil _ _ _ _, Below.refl _ _⟩
 case round =>
  obtain ⟨k, hk, rfl, hown, hb1⟩ := hrel;rw [HDL.out] at hk;have hzhb1 := hb1.size;clear q0 q1 q2 qf;replace HD := bk HD hb1;replace HN := Lib.hid (HN.out.up hb1);replace hB := bl_trans hB hb1;obtain ⟨q0, q1, q2, qf⟩ := cells3 HD;by_cases hlt : k < n.es.length
  ·
   obtain ⟨l, hl⟩ : ∃ y, n.es[k]? = some y := ⟨n.es[k], List.getElem?_eq_getElem hlt⟩
   have HL := Lib.hid hl;have HS := Lib.hid (ints_snoc (cnts_at (r := r) hl)); clear hl;go_wp2_with fail;refine (spec_ssCount _ _ _ n r k l wr HN.out HP.out HL.out).mono ?_;rintro e w2 ⟨rfl, hb2⟩;have hown2 := kept_below hown hb2;have hb12 := bl_trans hb1 hb2;have hzhb2 := hb2.size;clear q0 q1 q2 qf;replace HD := bk HD hb2;replace HN := Lib.hid (HN.out.up hb2);replace hB := bl_trans hB hb2;obtain ⟨q0, q1, q2, qf⟩ := cells3 HD;generalize cntAt n r l = x at *;go_wp2_with ((at_builtin; refine wpList_append1 w2 rfl (.tmp 13) (.tmp 18) 25 rfl w0.heap.size 3 _ 8 Tryz.underlying25 intInfo rfl _ _ _ rfl _ rfl rfl hown2 (by unfold maxLen; omega) (by omega) hb12.size ?_; intro v' w' hown' hbl' hgr' hlt' hob'))
   go_roundw
   case rel => exact ⟨k + 1, by rw [HDL.out]; omega, by go_num, by rw [HS.out]; exact hown', hb12.trans hbl'⟩
   case measure => simp [intOf]; omega
  ·
   have hI := IntsRel.fin hown (by rw [HDL.out]; omega) (cnts_I64 HP.out r);have HO := Lib.hid hI
   have HOW := Lib.hid (show wr.ownsRow w.heap.size 3 1 _ n.es.length ((cnts n r).map intV) from by
    rw [show (cnts n r).take k = cnts n r from List.take_of_length_le (by rw [HDL.out]; omega), show k = n.es.length by omega] at hown
    exact own_mono hown (show w.heap.size ≤ w0.heap.size by omega))
   clear hI hown;go_wp2_with fail;go_ret;exact ⟨_, rfl, HO.out.isSlice, HO.out, hB, HOW.out⟩
structure SmAt (w : World) (P PB base : Nat) (cv : Value) (m : Nat) (val : NKey → Value) (n : Net) (wr : World) : Prop where
  cur : CurR wr P cv m
  net : NetK wr base val n
  lt : ∀ j, keyN n j → ∀ b, (val j).ownBlock = some b → base ≤ b ∧ b < w.heap.size
  box : wr.heap[PB]? = some (.cells #[val .e, val .i, val .n] 27 (0, 0))
  gr : w.grownBy wr (some P)
  hP : P < base
  hb : base ≤ w.heap.size
  hB : w.heap.size ≤ PB
section
variable {w wr w2 : World} {P PB base m m' : Nat} {cv : Value} {val : NKey → Value} {n : Net}
theorem SmAt.draw (h : SmAt w P PB base cv m val n wr) (hc : CurR w2 P cv m') (hg : wr.grownBy w2 (some P)) : SmAt w P PB base cv m' val n w2 := by have hP := h.hP;have hb := h.hb;have hB := h.hB;exact ⟨hc, OwnN.apart h.net hg (fun j hj e => by have := (h.lt j hj P e).1; omega), h.lt, (hg.block PB (heap_ltN h.box) (fun e => by have e' : PB = P := Option.some.inj e; omega)).trans h.box, grownT h.gr hg, hP, hb, hB⟩
theorem SmAt.own (h : SmAt w P PB base cv m val n wr) {row : Option Nat} (hg : wr.grownBy w2 row) (hr : ∀ g, row = some g → w.heap.size ≤ g ∧ g ≠ PB) : SmAt w P PB base cv m val n w2 := by
  have hP := h.hP;have hb := h.hb;have hB := h.hB;have hz := h.gr.size;refine ⟨h.cur.keep (Nat.le_refl _) fun b hb' => hg.block b (by have := h.cur.lt; omega) (fun e => by have := hr b e.symm; omega), ⟨fun j hj => (h.net.own j hj).kept hg ?_, h.net.sep⟩, h.lt, (hg.block PB (heap_ltN h.box) (fun e => (hr PB e.symm).2 rfl)).trans h.box, ⟨hg.os.trans h.gr.os, hg.tape.trans h.gr.tape, hg.output.trans h.gr.output, Nat.le_trans h.gr.size hg.size, fun b hb' hn => (hg.block b (by omega) (fun e => by have := hr b e.symm; omega)).trans (h.gr.block b hb' hn)⟩, hP, hb, hB⟩;cases e : (val j).ownBlock with
  | none => exact .inl rfl
  | some b =>
    refine .inr fun e2 => ?_
    have := (h.lt j hj b e).2;have := (hr b e2.symm).1;omega
theorem SmAt.up (h : SmAt w P PB base cv m val n wr) (hb : Below wr.heap.size wr w2) : SmAt w P PB base cv m val n w2 := h.own (grown_belowN hb none) fun g e => by cases e
theorem SmAt.more (h : SmAt w P PB base cv m val n wr) (hm : m ≤ m') : SmAt w P PB base cv m' val n wr := ⟨h.cur.keep hm fun _ _ => rfl, h.net, h.lt, h.box, h.gr, h.hP, h.hb, h.hB⟩
end
theorem own_upP {W W' : World} {base n sz P : Nat} {e : TypeId} {v : Value} {vs : List Value} (h : W.ownsRow base e sz v n vs) (hg : W.grownBy W' (some P)) (hP : P < base) : W'.ownsRow base e sz v n vs :=
  h.kept hg (by
    cases e : v.ownBlock with
    | none => exact .inl rfl
    | some b => exact .inr fun e2 => by have := (h.lt b e).1; have e' : b = P := Option.some.inj e2; omega)
def SlRel (w : World) (P PB base : Nat) (cv : Value) (m : Nat) (val : NKey → Value) (n : Net) (cs : List Int) (w1 w2 : World) (gc cc : Nat) (v i : Value) (wr : World) : Prop :=
  ∃ (k : Nat) (xs : List Int), k ≤ cs.length ∧ i = .int .i64 (k : Int) ∧ xs.length = k ∧ (∀ x ∈ xs, 0 ≤ x ∧ x ≤ 100) ∧ wr.ownsRow w2.heap.size 3 1 v k (xs.map intV) ∧ wr.ownsRow w1.heap.size 3 1 (.slice (some ⟨gc, 0, none⟩) cs.length cc) cs.length (cs.map intV) ∧ SmAt w P PB base cv (m + 2 * k) val n wr ∧ w2.heap.size ≤ wr.heap.size
def SsL (w : World) (P PB base B0 : Nat) (cv : Value) (m : Nat) (val : NKey → Value) (n : Net) (N : Nat) (v : Value) (wr : World) : Prop :=
  ∃ xs : List Int, xs.length = N ∧ (∀ x ∈ xs, -1 ≤ x ∧ x ≤ 100) ∧ wr.ownsRow B0 3 1 v N (xs.map intV) ∧ SmAt w P PB base cv m val n wr
theorem SsL.draw {w wr w2 : World} {P PB base B0 m m' N : Nat} {cv : Value} {val : NKey → Value} {n : Net} {v : Value} (h : SsL w P PB base B0 cv m val n N v wr) (hc : CurR w2 P cv m') (hg : wr.grownBy w2 (some P)) (hP : P < B0) : SsL w P PB base B0 cv m' val n N v w2 := by obtain ⟨xs, h1, h2, h3, h4⟩ := h;exact ⟨xs, h1, h2, own_upP h3 hg hP, h4.draw hc hg⟩
theorem SsL.more {w wr : World} {P PB base B0 m m' N : Nat} {cv : Value} {val : NKey → Value} {n : Net} {v : Value} (h : SsL w P PB base B0 cv m val n N v wr) (hm : m ≤ m') : SsL w P PB base B0 cv m' val n N v wr := by obtain ⟨xs, h1, h2, h3, h4⟩ := h;exact ⟨xs, h1, h2, h3, h4.more hm⟩
set_option maxRecDepth 100000 in
set_option maxHeartbeats 4000000 in
theorem cur_ssSome (P m base : Nat) (r : Int) (cv : Value) (val : NKey → Value) (n : Net) (w : World) (h : CurR w P cv m) (hm : m ≤ 1000000000000000000) (hk : NetK w base val n) (hP : P < base) (hb : base ≤ w.heap.size) (hf : FitN n 200 10) :
  Calls Tryz.prog 59 #[.pointer (some ⟨P, 0, none⟩), .agg #[val .e, val .i, val .n], .int .i64 r] w fun e w' => ∃ (u : Value) (xs : List Int), e = .returned u ∧ w'.ownsRow w.heap.size 3 1 u xs.length (xs.map intV) ∧ xs.length ≤ 300 ∧ (∀ x ∈ xs, I64 x) ∧ CurR w' P cv (m + 1000) ∧ w.grownBy w' (some P) := by
 have H := Lib.hid h;have HK := Lib.hid hk;have HF := Lib.hid hf;obtain ⟨N, hNN⟩ : ∃ z, z = n.es.length := ⟨_, rfl⟩
 have HNN := Lib.hid hNN;have hN200 : N ≤ 200 := by rw [hNN]; exact hf.es
 obtain ⟨ge, ce, x0⟩ := own_slN (hk.own .e trivial);obtain ⟨C1, k1, x1⟩ := own_slN (hk.own .i trivial);obtain ⟨C2, k2, x2⟩ := own_slN (hk.own .n trivial);replace x0 : val .e = .slice ge N ce := by rw [x0, hNN]; rfl
 have HV := Lib.hid (And.intro x0 (And.intro x1 x2));rw [x0, x1, x2];clear x0 x1 x2 h hk hf hNN;generalize (rowN n val .i).len = n1 at HV ⊢;generalize (rowN n val .n).len = n2 at HV ⊢;obtain ⟨w0, hw0, hb0, HD, hz0, HS0⟩ := box3 w (.slice ge N ce) (.slice C1 n1 k1) (.slice C2 n2 k2) 27;obtain ⟨PB, hPB⟩ : ∃ z, z = w.heap.size := ⟨_, rfl⟩
 have HPB := Lib.hid hPB;have hPBl : w.heap.size ≤ PB ∧ PB ≤ w.heap.size := by omega
 rw [← hPB] at HD hz0;have HW0 := Lib.hid hw0;have H0 := Lib.hid (show SmAt w P PB base cv m val n w0 from ⟨H.out.below hb0 (by omega), HK.out.up hb0, fun j hj b e => (HK.out.own j hj).lt b e, by rw [HV.out.1, HV.out.2.1, HV.out.2.2]; exact HD.out, grown_belowN hb0 _, hP, hb, hPBl.1⟩);obtain ⟨q0, q1, q2, qf⟩ := cells3 HD;have eq0 := q0;have eq1 := q1;have eq2 := q2;rw [hw0, hPB] at eq0 eq1 eq2
 have HRD := Lib.hid (show ∀ (wr : World) (m' : Nat), SmAt w P PB base cv m' val n wr → NetR wr wr.heap.size (.slice ge N ce) (.slice C1 n1 k1) (.slice C2 n2 k2) n from fun wr m' h => by
  have h1 := h.net.reads HF.out.i64;rw [HV.out.1, HV.out.2.1, HV.out.2.2] at h1
  exact h1)
 have HBX := Lib.hid (show ∀ (wr : World) (m' : Nat), SmAt w P PB base cv m' val n wr → Hid (wr.heap[PB]? = some (.cells #[.slice ge N ce, .slice C1 n1 k1, .slice C2 n2 k2] 27 (0, 0))) from fun wr m' h => Lib.hid (by
  have h1 := h.box;rw [HV.out.1, HV.out.2.1, HV.out.2.2] at h1
  exact h1))
 clear hw0 hPB q0 q1 q2 qf;go_enter Tryz.func59, Tryz.ntmps59;go_wp2_with fail;rw [← HW0.out, ← HPB.out];clear eq0 eq1 eq2;refine (spec_ssAsked _ _ _ n r w0 (HRD.out _ _ H0.out) (by rw [← HNN.out]; omega)).mono ?_;rintro e w1 ⟨rfl, hb1⟩;have H1 := Lib.hid (H0.out.up hb1);have hz1 := hb1.size;clear hb1;obtain ⟨q0, q1, q2, qf⟩ := cells3 (HBX.out _ _ H1.out);cases hask : askB n r with
 | false =>
  have hm2 := fun W => run_make1 (P := Tryz.prog) 25 3 (.int .i64 0) 8 Tryz.underlying25 intInfo rfl N (by omega) (by omega) W
  go_wp2_with fail;have ho := own_madeN w1 3 N (.int .i64 0) (by unfold maxLen; omega);have H2 := Lib.hid (H1.out.up (bl_alloc (Below.refl _ _) (.cells (rowOf [] N (.int .i64 0)) 3)));have HO := Lib.hid (own_mono ho (show w.heap.size ≤ w1.heap.size by omega));clear hm2 ho;go_ret;exact ⟨_, List.replicate N 0, rfl, by rw [List.length_replicate, List.map_replicate]; exact HO.out, by rw [List.length_replicate]; omega, fun x hx => by rw [List.eq_of_mem_replicate hx]; exact ⟨by omega, by omega⟩, H2.out.cur.keep (by omega) fun _ _ => rfl, H2.out.gr⟩
 | true =>
  have HP := Lib.hid (propB_iff.1 hask).1;have hN40 : 1 ≤ N ∧ N ≤ 40 := by rw [HNN.out]; exact HP.out.1
  have HCB := Lib.hid (cnts_bd HP.out r);have HCL := Lib.hid (cnts_len n r);go_wp2_with fail;clear q0 q1 q2 qf;refine (spec_ssCountsO _ _ _ n r w1 (HRD.out _ _ H1.out) HP.out).mono ?_;rintro e w2 ⟨u, rfl, -, -, hb2, hoc⟩;have H2 := Lib.hid (H1.out.up hb2);have hz2 := hb2.size;obtain ⟨cs, hcs⟩ : ∃ z, z = cnts n r := ⟨_, rfl⟩
  have HCS := Lib.hid hcs;have hcl : cs.length = n.es.length := by rw [hcs]; exact HCL.out
  rw [← hcs, ← hcl] at hoc;have hclN : cs.length = N := by rw [hcl, HNN.out]
  obtain ⟨gc, cc, rfl⟩ : ∃ g c, u = .slice (some ⟨g, 0, none⟩) cs.length c := by
   rcases hoc.2 with ⟨_, e⟩ | ⟨g, cap, cur, e, _⟩
   · omega
   · exact ⟨g, cap, e⟩
  have hgc := hoc.lt gc rfl;have HOC := Lib.hid hoc;obtain ⟨L, hL⟩ : ∃ z, z = cs.length := ⟨_, rfl⟩
  have HLL := Lib.hid (And.intro hL (hL.trans hclN));have hL40 : 1 ≤ L ∧ L ≤ 40 := by omega
  rw [← hL];clear hcs hcl hclN hoc hb2 hL;go_wp2_with fail;go_loopw [7, 9, 23] (fun v _ i wr => SlRel w P PB base cv m val n cs w1 w2 gc cc v i wr) (fun _ _ i _ => L - (intOf i).toNat)
  case atStart => exact ⟨0, [], Nat.zero_le _, rfl, rfl, fun _ h => (by cases h), World.ownsRow_nil _ _ _ _, HOC.out, H2.out, Nat.le_refl _⟩
  case round =>
   obtain ⟨k, xs, hk, rfl, hxl, hxb, hown, hoc, hat, hzr⟩ := hrel;rw [← HLL.out.1] at hk hoc;have HO := Lib.hid hown;have HOC' := Lib.hid hoc;have HA := Lib.hid hat;have HX := Lib.hid (And.intro hxl hxb);clear hown hoc hat hxl hxb;by_cases hlt : k < L
   ·
    obtain ⟨c, hc⟩ : ∃ c, cs[k]? = some c := ⟨_, List.getElem?_eq_getElem (by rw [← HLL.out.1]; exact hlt)⟩
    have hcb := HCB.out c (by rw [← HCS.out]; exact List.mem_of_getElem? hc);have hcc := own_cellI HOC'.out hlt hc;have hkl : (k : Int) < (L : Int) := by omega
    clear hc;go_wp2_with fail;clear hcc;refine (cur_pick P _ cv c wr HA.out.cur (by omega)).mono ?_;rintro e w3 ⟨x, rfl, hx, hc3, hg3⟩;have hx100 : x ≤ 100 := by omega
    have H3 := Lib.hid (HA.out.draw hc3 hg3);have HO3 := Lib.hid (own_upP HO.out hg3 (by omega));have HOC3 := Lib.hid (own_upP HOC'.out hg3 (by omega));have hz3 := hg3.size;clear hx hc3 hg3;go_wp2_with (at_builtin; refine wpList_append1 w3 rfl (.tmp 27) (.tmp 31) 25 rfl w2.heap.size 3 _ 8 Tryz.underlying25 intInfo rfl _ _ _ rfl _ rfl rfl HO3.out (by unfold maxLen; omega) (by omega) (by omega) ?_; intro v8 w8 hown8 hbl8 hgr8 hlt8 hob8)
    go_roundw
    case rel => exact ⟨k + 1, xs ++ [(x : Int)], by rw [← HLL.out.1]; omega, by go_num, by rw [List.length_append, HX.out.1]; rfl, fun y hy => by
     rcases List.mem_append.1 hy with hy | hy
     · exact HX.out.2 y hy
     · rw [List.mem_singleton.1 hy]; omega, by rw [List.map_append]; exact hown8, by rw [← HLL.out.1]; exact HOC3.out.kept hgr8 (.inr fun e => by have := (HO3.out.lt gc e.symm).1; omega), (H3.out.own hgr8 (fun g e => by have := HO3.out.lt g e; omega)).more (by omega), by omega⟩
    case measure => simp [intOf]; omega
   ·
    obtain rfl : k = L := by omega
    have HS := Lib.hid (show SsL w P PB base w0.heap.size cv (m + 80) val n k _ wr from ⟨xs, HX.out.1, fun x hx => by have := HX.out.2 x hx; omega, own_mono HO.out (by omega), HA.out.more (by omega)⟩);have hkk : ((k : Int) < (k : Int)) = False := eq_false (by omega);have hBw : w.heap.size ≤ w0.heap.size := hb0.size;go_wp2_with fail;refine (cur_pick P _ cv _ wr HA.out.cur (by omega)).mono ?_;rintro e w3 ⟨x, rfl, hx, hc3, hg3⟩;have hx4 : x < 4 := by omega
    have HS3 := Lib.hid (HS.out.draw (hc3.keep (show _ ≤ m + 90 by omega) fun _ _ => rfl) hg3 (by omega));have hz3 := hg3.size;have hz03 : w0.heap.size ≤ w3.heap.size := by omega
    clear hx hc3 hg3 HS HA HO HOC' HX hkk;go_upto_block 2 with fail;go_cut [7] from 36 to 80 (fun l wc => SsL w P PB base w0.heap.size cv (m + 100) val n k l wc ∧ w0.heap.size ≤ wc.heap.size)
    case first =>
     obtain rfl | rfl | rfl | rfl : x = 0 ∨ x = 1 ∨ x = 2 ∨ x = 3 := by omega
     ·
      skip
      have HAT := Lib.hid (show SmAt w P PB base cv (m + 90) val n w3 from by obtain ⟨xs, h1, h2, h3, h4⟩ := HS3.out; exact h4);obtain ⟨q0, q1, q2, qf⟩ := cells3 (HBX.out _ _ HAT.out);go_wp2_with fail;clear q0 q1 q2 qf;refine (spec_ssLegalOf _ _ _ n r w3 (HRD.out _ _ HAT.out) HP.out).mono ?_;rintro e w4 ⟨u, rfl, ho4, hb4⟩;rw [← HNN.out, ← HLL.out.2] at ho4;obtain ⟨A4, c4, rfl⟩ := own_slN ho4;have hz4 := hb4.size;have HAT4 := Lib.hid (HAT.out.up hb4);have HO4 := Lib.hid (own_mono ho4 hz03);have HS4 := Lib.hid (show SsL w P PB base w0.heap.size cv (m + 90) val n k (.slice A4 k c4) w4 from ⟨legL n r, by rw [legL_len, HLL.out.2]; exact HNN.out.symm, fun x hx => by have := legL_bd HP.out r x hx; omega, HO4.out, HAT4.out⟩);clear ho4;go_wp2_with fail;go_meet
      case rel => exact ⟨HS4.out.more (by omega), by omega⟩
     ·
      skip
      have HAT := Lib.hid (show SmAt w P PB base cv (m + 90) val n w3 from by obtain ⟨xs, h1, h2, h3, h4⟩ := HS3.out; exact h4);obtain ⟨q0, q1, q2, qf⟩ := cells3 (HBX.out _ _ HAT.out);go_wp2_with fail;clear q0 q1 q2 qf;refine (spec_ssLegalOf _ _ _ n r w3 (HRD.out _ _ HAT.out) HP.out).mono ?_;rintro e w4 ⟨u, rfl, ho4, hb4⟩;rw [← HNN.out, ← HLL.out.2] at ho4;obtain ⟨A4, c4, rfl⟩ := own_slN ho4;have hz4 := hb4.size;have HAT4 := Lib.hid (HAT.out.up hb4);have HO4 := Lib.hid (own_mono ho4 hz03);have HS4 := Lib.hid (show SsL w P PB base w0.heap.size cv (m + 90) val n k (.slice A4 k c4) w4 from ⟨legL n r, by rw [legL_len, HLL.out.2]; exact HNN.out.symm, fun x hx => by have := legL_bd HP.out r x hx; omega, HO4.out, HAT4.out⟩);clear ho4;obtain ⟨g4, c4', e4⟩ : ∃ g c, Value.slice A4 k c4 = .slice (some ⟨g, 0, none⟩) k c := by
       rcases HO4.out.2 with ⟨_, e⟩ | ⟨g, cap, cur, e, _⟩
       · omega
       · exact ⟨g, cap, e⟩
      obtain ⟨rfl, -, rfl⟩ := Value.slice.inj e4;clear e4;go_wp2_with fail;refine (cur_pick P _ cv _ w4 HAT4.out.cur (by omega)).mono ?_;rintro e w5 ⟨v, rfl, hv, hc5, hg5⟩;have hvk : v < k := by omega
      have HAT5 := Lib.hid (HAT4.out.draw hc5 hg5);have HO5 := Lib.hid (own_upP HO4.out hg5 (by omega));have hz5 := hg5.size;obtain ⟨l, hl⟩ : ∃ y, n.es[v]? = some y := ⟨_, List.getElem?_eq_getElem (by have := HNN.out; have := HLL.out.2; omega)⟩
      have hcb := cnts_bd HP.out r _ (List.mem_of_getElem? (cnts_at (r := r) hl));have HL := Lib.hid hl;obtain ⟨q0, q1, q2, qf⟩ := cells3 (HBX.out _ _ HAT5.out);have hvi : (v : Int) < (k : Int) := by omega
      clear hv hc5 hg5 hl;go_wp2_with fail;clear q0 q1 q2 qf;refine (spec_ssCount _ _ _ n r v l w5 (HRD.out _ _ HAT5.out) HP.out HL.out).mono ?_;rintro e w6 ⟨rfl, hb6⟩;have HAT6 := Lib.hid (HAT5.out.up hb6);have HO6 := Lib.hid (own_upN HO5.out hb6);have hz6 := hb6.size;generalize cntAt n r l = ct at hcb ⊢;go_wp2_with fail;refine (cur_pick P _ cv _ w6 HAT6.out.cur (by omega)).mono ?_;rintro e w7 ⟨y, rfl, hy, hc7, hg7⟩;have hy100 : y ≤ 100 := by omega
      have HAT7 := Lib.hid (HAT6.out.draw hc7 hg7);have HO7 := Lib.hid (own_upP HO6.out hg7 (by omega));have hz7 := hg7.size;obtain ⟨y0, hy0⟩ : ∃ y, (legL n r)[v]? = some y := ⟨_, List.getElem?_eq_getElem (by rw [legL_len, ← HNN.out, ← HLL.out.2]; exact hvk)⟩
      have ci := own_cellI HO7.out hvk hy0;have fi := own_thaw HO7.out v;clear hy hc7 hg7 hy0;go_wp2_with fail;go_meet
      case rel => exact ⟨⟨(legL n r).set v (y : Int), by rw [List.length_set, legL_len, HLL.out.2]; exact HNN.out.symm, fun x hx => by
       rcases List.mem_or_eq_of_mem_set hx with h1 | h1
       · have := legL_bd HP.out r x h1; omega
       · omega, own_setI HO7.out _, (HAT7.out.own (grownP _ _ _ _) (fun g e => by have e' : g4 = g := Option.some.inj e; have := (HO7.out.lt g4 rfl).1; omega)).more (by omega)⟩, by simp only [World.size_setCell]; omega⟩
     ·
      go_wp2_with fail;go_meet
      case rel => exact ⟨HS3.out.more (by omega), hz03⟩
     ·
      go_wp2_with fail;go_meet
      case rel => exact ⟨HS3.out.more (by omega), hz03⟩
    case rest =>
     obtain ⟨⟨xs, hxl, hxb, hown, hat⟩, hzc⟩ := hcut;obtain ⟨A7, c7, rfl⟩ := own_slN hown;have HO := Lib.hid hown;have HA := Lib.hid hat;have HX := Lib.hid (And.intro hxl hxb);clear hown hat hxl hxb;go_wp2_with fail;refine (cur_pick P _ cv _ wc HA.out.cur (by omega)).mono ?_;rintro e w9 ⟨x9, rfl, hx9, hc9, hg9⟩;have HA9 := Lib.hid (HA.out.draw hc9 hg9);have HO9 := Lib.hid (own_upP HO.out hg9 (by omega));have hz9 := hg9.size;clear hx9 hc9 hg9;by_cases h0 : x9 = 0
     ·
      subst h0;go_wp2_with (at_builtin; refine wpList_append1 w9 rfl (.tmp 63) (.tmp 64) 25 rfl w0.heap.size 3 _ 8 Tryz.underlying25 intInfo rfl _ _ _ rfl _ rfl rfl HO9.out (by unfold maxLen; omega) (by omega) (by omega) ?_; intro v8 w8 hown8 hbl8 hgr8 hlt8 hob8)
      go_ret
      exact ⟨_, xs ++ [0], rfl, by rw [List.length_append, HX.out.1, List.map_append]; exact own_mono hown8 hBw, by rw [List.length_append, HX.out.1]; show k + 1 ≤ 300; omega, fun x hx => by
       rcases List.mem_append.1 hx with hx | hx
       · have := HX.out.2 x hx; exact ⟨by omega, by omega⟩
       · rw [List.mem_singleton.1 hx]; exact ⟨by omega, by omega⟩, (HA9.out.own hgr8 (fun g e => by have := HO9.out.lt g e; omega)).cur.keep (by omega) fun _ _ => rfl, (HA9.out.own hgr8 (fun g e => by have := HO9.out.lt g e; omega)).gr⟩
     ·
      by_cases h1 : x9 = 1
      ·
       subst h1;obtain ⟨g4, c4', e4⟩ : ∃ g c, Value.slice A7 k c7 = .slice (some ⟨g, 0, none⟩) k c := by
        rcases HO9.out.2 with ⟨_, e⟩ | ⟨g, cap, cur, e, _⟩
        · omega
        · exact ⟨g, cap, e⟩
       obtain ⟨rfl, -, rfl⟩ := Value.slice.inj e4;obtain ⟨l0, hl0⟩ : ∃ y, n.es[0]? = some y := ⟨_, List.getElem?_eq_getElem (by have := HNN.out; have := HLL.out.2; omega)⟩
       have hcb := cnts_bd HP.out r _ (List.mem_of_getElem? (cnts_at (r := r) hl0));have HL0 := Lib.hid hl0;obtain ⟨c0, hc0⟩ : ∃ z, z = cntAt n r l0 := ⟨_, rfl⟩
       rw [← hc0] at hcb;have HC0 := Lib.hid hc0;have hwc0 : IntKind.i64.wrap (c0 - 1) = c0 - 1 := IntWalk.i64_in _ (by omega);have hk0 : 0 < k := by omega
       have hk0' : (0 : Int) < (k : Int) := by omega
       clear e4 hl0 hc0;go_wp2_with fail;obtain ⟨q0, q1, q2, qf⟩ := cells3 (HBX.out _ _ HA9.out);refine till_region (S := fun w' => w'.cell? ⟨PB, 0, none⟩ = some (.slice ge N ce) ∧ w'.cell? ⟨PB, 1, none⟩ = some (.slice C1 n1 k1) ∧ w'.cell? ⟨PB, 2, none⟩ = some (.slice C2 n2 k2)) (st := 12) (by kernel_rfl) ⟨q0, q1, q2⟩ (fun hHeld => ?_);refine utf 0 68 ?_;refine utf 1 69 ?_;refine utk 2 70 ?_;refine utf 3 71 ?_;refine utk 5 73 ?_;refine utf 6 74 ?_;refine ur 4 rfl (by kernel_rfl) (fun K hK => ?_);go_simp;go_at_call 63;refine (spec_ssCount _ _ _ n r 0 l0 w9.drew ((HRD.out _ _ HA9.out).up (Below.refl _ _).drew) HP.out HL0.out).mono ?_;rintro e wa ⟨rfl, hba'⟩;have hba : Below w9.heap.size w9 wa := (Below.refl _ _).drew.trans hba';rw [← HC0.out];have HAa := Lib.hid (HA9.out.up hba);have HOa := Lib.hid (own_upN HO9.out hba);have hza := hba.size;clear q0 q1 q2 qf hba hba';obtain ⟨q0, q1, q2, qf⟩ := cells3 (HBX.out _ _ HAa.out);refine hK.out (fun _ => ⟨q0, q1, q2⟩) ?_;clear hK K
       try simp only [Act.put, pu]
       refine ur 7 rfl (by kernel_rfl) (fun K hK => ?_);go_simp;go_at_call 63;refine (spec_ssCount _ _ _ n r 0 l0 wa (HRD.out _ _ HAa.out) HP.out HL0.out).mono ?_;rintro e wb ⟨rfl, hbb'⟩;have hbb : Below wa.heap.size wa wb := hbb';rw [← HC0.out];have HAb := Lib.hid (HAa.out.up hbb);have HOb := Lib.hid (own_upN HOa.out hbb);have hzb := hbb.size;clear q0 q1 q2 qf hbb hbb';obtain ⟨q0, q1, q2, qf⟩ := cells3 (HBX.out _ _ HAb.out);refine hK.out (fun _ => ⟨q0, q1, q2⟩) ?_;clear hK K
       try simp only [Act.put, pu]
       refine utf 8 76 ?_;refine ur 9 rfl (by kernel_rfl) (fun K hK => ?_);go_simp;obtain ⟨wd, hwd⟩ : ∃ z, z = wb.alloc (.cells #[.int .i64 (-1), .int .i64 c0, .int .i64 (c0 - 1)] 3) := ⟨_, rfl⟩
       have hbd : Below wb.heap.size wb wd := by rw [hwd]; exact bl_alloc (Below.refl _ _) _
       have HLD := Lib.hid (show wd.heap[wb.heap.size]? = some (.cells (([-1, c0, c0 - 1] : List Int).map intV).toArray 3 (0, 0)) by rw [hwd]; exact heap_alloc_new _ _);rw [← hwd];have HAd := Lib.hid (HAb.out.up hbd);have HOd := Lib.hid (own_upN HOb.out hbd);have hzd := hbd.size;clear q0 q1 q2 qf hwd hbd;obtain ⟨q0, q1, q2, qf⟩ := cells3 (HBX.out _ _ HAd.out);refine hK.out (fun _ => ⟨q0, q1, q2⟩) ?_;clear hK K
       try simp only [Act.put, pu]
       refine ur 10 rfl (by kernel_rfl) (fun K hK => ?_);go_simp;go_at_call 41;refine (cur_among P _ cv wb.heap.size [-1, c0, c0 - 1] wd HAd.out.cur (by omega) HLD.out (by omega) (by simp) (by simp)).mono ?_;rintro e we ⟨y, rfl, hy, hce, hge⟩;have hy64 : -1 ≤ y ∧ y ≤ 100 := by simp at hy; omega
       have HAe := Lib.hid (HAd.out.draw hce hge);have HOe := Lib.hid (own_upP HOd.out hge (by omega));have hze := hge.size;obtain ⟨y0, hy0⟩ : ∃ z, xs[0]? = some z := ⟨_, List.getElem?_eq_getElem (by rw [HX.out.1]; exact hk0)⟩
       have ci := own_cellI HOe.out hk0 hy0;have fi := own_thaw HOe.out 0;clear q0 q1 q2 qf hy hce hge hy0;obtain ⟨q0, q1, q2, qf⟩ := cells3 (HBX.out _ _ HAe.out);refine hK.out (fun _ => ⟨q0, q1, q2⟩) ?_;clear hK K
       try simp only [Act.put, pu]
       refine utf 11 79 ?_;refine ur 12 rfl (by kernel_rfl) (fun K hK => ?_);go_simp;obtain ⟨wf, hwf⟩ : ∃ z, z = we.setCell ⟨g4, 0, none⟩ (.int .i64 y) := ⟨_, rfl⟩
       rw [← hwf];have HOf := Lib.hid (show wf.ownsRow w0.heap.size 3 1 (.slice (some ⟨g4, 0, none⟩) k c7) k ((xs.set 0 y).map intV) by rw [hwf]; exact own_setI HOe.out y);have HAf := Lib.hid (show SmAt w P PB base cv _ val n wf by rw [hwf]; exact HAe.out.own (grownP _ _ _ _) (fun g e => by have e' : g4 = g := Option.some.inj e; have := (HOe.out.lt g4 rfl).1; omega));clear hwf ci fi q0 q1 q2 qf;refine hK.out (fun h' => till_no h' (by kernel_rfl)) ?_;clear hK K
       try simp only [Act.put, pu]
       refine wpTill_done (by kernel_rfl) ?_ _;go_wp2_with fail;go_ret
       exact ⟨_, xs.set 0 y, rfl, by rw [List.length_set, HX.out.1]; exact own_mono HOf.out hBw, by rw [List.length_set, HX.out.1]; omega, fun x hx => by
        rcases List.mem_or_eq_of_mem_set hx with h1 | h1
        · have := HX.out.2 x h1; exact ⟨by omega, by omega⟩
        · rw [h1]; exact ⟨by omega, by omega⟩, HAf.out.cur.keep (by omega) fun _ _ => rfl, HAf.out.gr⟩
      ·
       have j0 : ((x9 : Int) == 0) = false := by simpa using h0
       have j1 : ((x9 : Int) == 1) = false := by simp; omega
       have j0' : ((x9 : Int) = 0) = False := eq_false (by omega);have j1' : ((x9 : Int) = 1) = False := eq_false (by omega);go_wp2_with fail;go_ret;exact ⟨_, xs, rfl, by rw [HX.out.1]; exact own_mono HO9.out hBw, by rw [HX.out.1]; omega, fun x hx => by have := HX.out.2 x hx; exact ⟨by omega, by omega⟩, HA9.out.cur.keep (by omega) fun _ _ => rfl, HA9.out.gr⟩
end Go.Proofs.YtdghoienjegffaaGreat
namespace Go.Proofs.YtdghoienjegffaaGreat
open Go.RowKit
set_option linter.all false
structure DrEn (w : World) (val : NKey → Value) (n : Net) (r : Int) (u : Value) (xs : List Int) (w' : World) : Prop where
  net : NetK w' w.heap.size val n
  fit : FitN n 200 10
  rule : 0 ≤ r ∧ r ≤ 6
  own : w'.ownsRow w.heap.size 3 1 u xs.length (xs.map intV)
  len : xs.length ≤ 300
  i64 : ∀ x ∈ xs, I64 x
  bl : Below w.heap.size w w'
theorem cur_new {w : World} {v : Value} (h : BytesR w w.heap.size v) : CurR (w.alloc (.cells #[v, .int .i64 0, .int .u64 0] 51)) w.heap.size v 0 :=
  ⟨h.keep fun b hb => heap_alloc_old w _ hb, 0, 0, Nat.le_refl _, by omega, heap_alloc_new w _⟩
set_option maxRecDepth 100000 in
set_option maxHeartbeats 4000000 in
theorem spec_DrawEnabledNodes (v : Value) (w : World) (h : BytesR w w.heap.size v) :
  Calls Tryz.prog 22 #[v] w fun e w' => ∃ val n r u xs, e = .returned (.tuple #[.agg #[val .e, val .i, val .n], .int .i64 r, u]) ∧ (∃ A m c, u = .slice A m c) ∧ DrEn w val n r u xs w' := by
 obtain ⟨Ab, nb, cb, rfl⟩ : ∃ A n c, v = .slice A n c := by obtain ⟨A, n, c, e, -⟩ := h; exact ⟨A, n, c, e⟩
 have HBY := Lib.hid h;clear h;obtain ⟨w1, hw1, hb1, HQ, hz1, HS1⟩ := box3 w (.slice none 0 0) (.slice none 0 0) (.slice none 0 0) 27;obtain ⟨PR, hPR⟩ : ∃ z, z = w.heap.size := ⟨_, rfl⟩
 have HPR := Lib.hid hPR;have hPRl : w.heap.size ≤ PR ∧ PR ≤ w.heap.size := by omega
 rw [← hPR] at HQ hz1;have hcur := cur_new ((HBY.out.keep fun b hb => hb1.block b hb).more (show w.heap.size ≤ w1.heap.size by omega));obtain ⟨w2, hw2⟩ : ∃ z, z = w1.alloc (.cells #[.slice Ab nb cb, .int .i64 0, .int .u64 0] 51) := ⟨_, rfl⟩
 obtain ⟨P, hP⟩ : ∃ z, z = w1.heap.size := ⟨_, rfl⟩
 have hb2 : Below w1.heap.size w1 w2 := by rw [hw2]; exact bl_alloc (Below.refl _ _) _
 have HP := Lib.hid (show w.heap.size + 1 = P by rw [hP, HS1.out]);have HP' := Lib.hid (show PR + 1 = P by rw [hPR]; exact HP.out);have hPl : PR < P ∧ w1.heap.size ≤ P ∧ P ≤ w1.heap.size := by omega
 rw [← hw2, ← hP] at hcur;have H2 := Lib.hid hcur;have HQ2 := bk HQ hb2;have HW := Lib.hid (show w2 = (w.alloc (.cells #[.slice none 0 0, .slice none 0 0, .slice none 0 0] 27)).alloc (.cells #[.slice Ab nb cb, .int .i64 0, .int .u64 0] 51) by rw [hw2, hw1]);have HB2 := Lib.hid (bl_trans hb1 hb2);have hz2 := hb2.size;have hP2 := H2.out.lt;clear hw1 hw2 hP hPR hcur hb1 hb2;go_enter Tryz.func22, Tryz.ntmps22;go_wp2_with fail;rw [← HPR.out, HP'.out, ← HW.out];refine (cur_ssPick P 0 _ w2 H2.out (by omega)).mono ?_;rintro e w3 ⟨r, rfl, hr, hc3, hg3⟩;have H3 := Lib.hid hc3;have HG3 := Lib.hid hg3;have HQ3 := Lib.hid ((hg3.block PR (heap_ltN HQ2.out) (fun e => by have e' : PR = P := Option.some.inj e; omega)).trans HQ2.out);have hz3 := hg3.size;clear hc3 hg3;go_wp2_with fail;refine (cur_ssNet P (0 + 2) 7 r _ w3 H3.out (by omega) (by omega) (by omega)).mono ?_;rintro e w4 ⟨n, val, rfl, hF, hk4, hc4, hb4⟩;obtain ⟨ge, ce, x0⟩ := own_slN (hk4.own .e trivial);obtain ⟨C1, k1, x1⟩ := own_slN (hk4.own .i trivial);obtain ⟨C2, k2, x2⟩ := own_slN (hk4.own .n trivial);have HV := Lib.hid (And.intro x0 (And.intro x1 x2));rw [x0, x1, x2];clear x0 x1 x2;generalize (rowN n val .e).len = n0 at HV ⊢;generalize (rowN n val .i).len = n1 at HV ⊢;generalize (rowN n val .n).len = n2 at HV ⊢;obtain ⟨w5, hw5, hb5, HB, hz5, HS5⟩ := box3 w4 (.slice ge n0 ce) (.slice C1 n1 k1) (.slice C2 n2 k2) 27;obtain ⟨PB, hPB⟩ : ∃ z, z = w4.heap.size := ⟨_, rfl⟩
 have HPB := Lib.hid hPB;have hz4 := hb4.size;have hPBl : w4.heap.size ≤ PB := by omega
 rw [← hPB] at HB hz5;have HW5 := Lib.hid hw5;have H5 := Lib.hid (hc4.below (hb5.mono (by omega : w3.heap.size ≤ w4.heap.size)) (by omega));have HK5 := Lib.hid (hk4.up hb5);have HF5 := Lib.hid hF;have HQ5 := Lib.hid ((hb5.block PR (by have := heap_ltN HQ3.out; omega)).trans ((hb4.block PR (heap_ltN HQ3.out) (by omega)).trans HQ3.out));have HG5 := Lib.hid (show w2.grownBy w5 (some P) from grownT HG3.out (grownT hb4.grows (grown_belowN hb5 _)));have hz5' := hb5.size;obtain ⟨q0, q1, q2, qf⟩ := cells3 HB;have eq0 := q0;have eq1 := q1;have eq2 := q2;rw [hw5, hPB] at eq0 eq1 eq2;clear hw5 hPB hk4 hc4 hb4 hb5 hF;go_wp2_with fail;rw [← HW5.out, ← HPB.out];clear eq0 eq1 eq2;refine till_region (S := fun w' => w'.cell? ⟨PB, 0, none⟩ = some (.slice ge n0 ce) ∧ w'.cell? ⟨PB, 1, none⟩ = some (.slice C1 n1 k1) ∧ w'.cell? ⟨PB, 2, none⟩ = some (.slice C2 n2 k2)) (st := 8) (by kernel_rfl) ⟨q0, q1, q2⟩ (fun hHeld => ?_);refine utk 0 16 ?_;refine utf 1 17 ?_;refine utf 2 18 ?_;refine utk 3 19 ?_;refine utf 4 20 ?_;refine ur 5 rfl (by kernel_rfl) (fun K hK => ?_);go_simp;go_at_call 59;have hC := cur_ssSome P _ w3.heap.size r _ val n w5.drew (H5.out.below (Below.refl _ _).drew (by omega)) (by omega) (HK5.out.up (Below.refl _ _).drew) (by omega) (by show w3.heap.size ≤ w5.heap.size; omega) HF5.out;rw [HV.out.1, HV.out.2.1, HV.out.2.2] at hC;refine hC.mono ?_;clear hC;rintro e w6 ⟨u, xs, rfl, ho6, hl6, hi6, hc6, hg6'⟩;have hg6 : w5.grownBy w6 (some P) := ⟨hg6'.os, hg6'.tape, hg6'.output, hg6'.size, hg6'.block⟩
 obtain ⟨nu, hnu⟩ : ∃ z, z = xs.length := ⟨_, rfl⟩
 obtain ⟨Au, cu, rfl⟩ := own_slN ho6;rw [← hnu];have HNU := Lib.hid hnu;have HO6 := Lib.hid (show w6.ownsRow w5.heap.size 3 1 (.slice Au xs.length cu) xs.length (xs.map intV) from ho6);have HX6 := Lib.hid (And.intro hl6 hi6);have HK6 := Lib.hid (OwnN.apart HK5.out hg6 fun j hj e => by have := ((HK5.out.own j hj).lt P e).1; omega);have HQ6 := Lib.hid ((hg6.block PR (heap_ltN HQ5.out) (fun e => by have e' : PR = P := Option.some.inj e; omega)).trans HQ5.out);have HB6 := Lib.hid ((hg6.block PB (heap_ltN HB.out) (fun e => by have e' : PB = P := Option.some.inj e; omega)).trans HB.out);have HG6 := Lib.hid (grownT HG5.out hg6);have hz6 := hg6.size;clear q0 q1 q2 qf hc6 hg6 hg6' ho6 hl6 hi6 hnu;obtain ⟨q0, q1, q2, qf⟩ := cells3 HB6;obtain ⟨p0, p1, p2, pf⟩ := cells3 HQ6;refine hK.out (fun _ => ⟨q0, q1, q2⟩) ?_;clear hK K
 try simp only [Act.put, pu]
 refine ur 6 rfl (by kernel_rfl) (fun K hK => ?_);go_simp;obtain ⟨we, hwe, HE, hge⟩ := set3 HQ6 (.slice ge n0 ce) (.slice C1 n1 k1) (.slice C2 n2 k2);rw [← hwe];have HFZ := Lib.hid (show DrEn w val n r (.slice Au nu cu) xs we from ⟨OwnN.mono (NetK.past HK6.out HQ6.out no_tyN_net hge) (by omega), HF5.out, hr, by rw [HNU.out]; exact own_setN (own_mono HO6.out (by omega)) hge (fun e => by have := (HO6.out.lt PR e).1; omega), HX6.out.1, HX6.out.2, Below.grown (Below.grown HB2.out HG6.out (by omega) (fun k hk => by have e := Option.some.inj (show some P = some k from hk); omega)) hge (by omega) (fun k hk => by have e := Option.some.inj (show some PR = some k from hk); omega)⟩);have HBe := Lib.hid ((hge.block PB (heap_ltN HB6.out) (fun e => by have e' : PB = PR := Option.some.inj e; omega)).trans HB6.out);clear hwe hge q0 q1 q2 qf p0 p1 p2 pf;obtain ⟨q0, q1, q2, qf⟩ := cells3 HBe;refine hK.out (fun _ => ⟨q0, q1, q2⟩) ?_;clear hK K
 try simp only [Act.put, pu]
 refine ur 7 rfl (by kernel_rfl) (fun K hK => ?_);go_simp;refine hK.out (fun _ => ⟨q0, q1, q2⟩) ?_;clear hK K
 try simp only [Act.put, pu]
 refine ur 8 rfl (by kernel_rfl) (fun K hK => ?_);go_simp;clear q0 q1 q2 qf;refine hK.out (fun h' => till_no h' (by kernel_rfl)) ?_;clear hK K
 try simp only [Act.put, pu]
 refine wpTill_done (by kernel_rfl) ?_ _;go_wp2_with fail;obtain ⟨z0, z1, z2, -⟩ := cells3 HE;exact bodyPost_ret (v := .tuple #[.agg #[.slice ge n0 ce, .slice C1 n1 k1, .slice C2 n2 k2], .int .i64 r, .slice Au nu cu]) (by simp [results, Tryz.results22, go_sem, z0, z1, z2]) rfl ⟨val, n, r, _, xs, by rw [HV.out.1, HV.out.2.1, HV.out.2.2], ⟨_, _, _, rfl⟩, HFZ.out⟩
end Go.Proofs.YtdghoienjegffaaGreat
namespace Go.Proofs.YtdghoienjegffaaGreat
open Go.RowKit
set_option linter.all false
def BytesC (w : World) (B : Nat) (v : Value) : Prop := BytesR w B v ∧ ∃ A n c, v = .slice A n c ∧ n ≤ c
theorem bytes_half {w : World} {B n c : Nat} {Ab : Option Addr} (h : BytesR w B (.slice Ab n c)) (hc : n ≤ c) :
    ∃ v', (∀ W, (Instr.slice 22 (.slice Ab n c) (some (.int .i64 ((n : Int) / 2))) none none).run Tryz.prog W = .ok v' W) ∧ BytesR w B v' ∧ ∃ A' n' c', v' = .slice A' n' c' := by
  obtain ⟨k, hk⟩ : ∃ k, k = n / 2 := ⟨_, rfl⟩
  have e : (n : Int) / 2 = (k : Int) := by omega
  obtain ⟨Aa, hA⟩ : ∃ z : Option Addr, z = if c = k then Ab else Ab.map (·.add k) := ⟨_, rfl⟩
  have hrun : ∀ W, (Instr.slice 22 (.slice Ab n c) (some (.int .i64 ((n : Int) / 2))) none none).run Tryz.prog W = .ok (.slice Aa (n - k) (c - k)) W := fun W => by rw [e, Go.run_slice_l (w := W) 22 Ab n c (by kernel_rfl) .i64 (k : Int) (by omega) (by omega)];rw [show ((sizeOf (Tryz.prog.elem 22)).run Tryz.prog W) = .ok 1 W by kernel_rfl, hA];simp [Result.andThen, sliced]
  refine ⟨_, hrun, ?_, _, _, _, rfl⟩;obtain ⟨A', n', c', e1, h1, h2⟩ := h;obtain ⟨rfl, rfl, rfl⟩ := Value.slice.inj e1;refine ⟨_, _, _, rfl, by omega, fun hn => ?_⟩;obtain ⟨ad, rfl, hb, hcell⟩ := h2 (by omega);refine ⟨ad.add k, by rw [hA, if_neg (by omega)]; rfl, by rw [block_add]; exact hb, fun j hj => ?_⟩;obtain ⟨x, hx, hx2⟩ := hcell (k + j) (by omega);exact ⟨x, hx, by rw [Addr.add_add]; exact hx2⟩
end Go.Proofs.YtdghoienjegffaaGreat
