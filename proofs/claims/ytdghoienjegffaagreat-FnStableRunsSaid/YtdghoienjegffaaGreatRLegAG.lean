/-
  Small lemmas and contracts that the texts of this claim share. No condition.
-/
import Derived.Test.YtdghoienjegffaaGreatRPlainMatG
namespace Go.Proofs.YtdghoienjegffaaGreat
open Go.RowKit
set_option linter.all false
theorem own_nums {w : World} {base g : Nat} {xs : List Int} (h : NumsAt w g xs) (hb : base ≤ g) (hl : xs.length ≤ 2000000) : w.ownsRow base 3 1 (.slice (some ⟨g, 0, none⟩) xs.length xs.length) xs.length (xs.map intV) :=
  ⟨by simp, .inr ⟨g, xs.length, _, rfl, hb, h, Nat.le_refl _, by unfold maxLen; omega, by simp, by simp only [Nat.mul_one]; exact List.take_of_length_le (by simp)⟩⟩
theorem impl_noMatching (ve vi vn : Value) (n : Net) (w : World) (h : NetR w w.heap.size ve vi vn n) (hp : netP n) :
  Calls Tryz.prog 93 #[.agg #[ve, vi, vn]] w fun e w' => ∃ g, e = .returned (.slice (some ⟨g, 0, none⟩) n.es.length n.es.length) ∧ w'.ownsRow w.heap.size 3 1 (.slice (some ⟨g, 0, none⟩) n.es.length n.es.length) n.es.length ((List.replicate n.es.length (-1)).map intV) ∧ Below w.heap.size w w' := by
 have h40 := hp.1;obtain ⟨⟨A0, m0, c0, rfl⟩, ⟨A1, m1, c1, rfl⟩, A2, m2, c2, rfl⟩ := h.slices;obtain ⟨w0, hw0, hB, HD, hz0, HS0⟩ := box3 w (.slice A0 m0 c0) (.slice A1 m1 c1) (.slice A2 m2 c2) 27;have HN0 := Lib.hid h; have HN := Lib.hid (h.up hB); clear h;have HW0 := Lib.hid hw0; clear hw0;obtain ⟨q0, q1, q2, qf⟩ := cells3 HD;obtain ⟨hm0, -, -⟩ := HN.out.e.len_slice;subst hm0;obtain ⟨w1, hw1⟩ : ∃ z, z = w0.alloc (.cells #[.int .i64 (-1)] 3) := ⟨_, rfl⟩
 have HW1 := Lib.hid hw1;have hb1 : Below w0.heap.size w0 w1 := by rw [hw1]; exact bl_alloc (Below.refl _ _) _
 have hnum : NumsAt w1 (w.heap.size + 1) [-1] := by rw [← HS0.out, hw1]; exact heap_alloc_new w0 _
 have HNUM := Lib.hid hnum;have hz1 := hb1.size;have HB1 := Lib.hid (bl_trans hB hb1);clear hw1 hnum hb1;go_enter Tryz.func93, Tryz.ntmps93;go_wp2_with fail;rw [← HW0.out, ← HW1.out];refine (impl_Repeat (-1) n.es.length (w.heap.size + 1) w1 HNUM.out (by omega) (by omega)).mono ?_;rintro e w2 ⟨rfl, hn2, hb2⟩;have HO := Lib.hid (own_nums (base := w.heap.size) hn2 (by omega) (by rw [List.length_replicate]; omega));have HB2 := Lib.hid (bl_trans HB1.out hb2);obtain ⟨g, hg⟩ : ∃ z, z = w1.heap.size := ⟨_, rfl⟩
 have HO' := Lib.hid (show w2.ownsRow w.heap.size 3 1 (.slice (some ⟨g, 0, none⟩) n.es.length n.es.length) n.es.length ((List.replicate n.es.length (-1)).map intV) by
  have h := HO.out;rw [List.length_replicate, ← hg] at h
  exact h)
 rw [← hg];clear hn2 hb2 hg HO;go_wp2_with fail;go_ret;exact ⟨g, rfl, HO'.out, HB2.out⟩
theorem near_seen {n : Net} (hq : plainP n) {k : Nat} (ss : List Int) : nearSt (rowAt n k) ss = (seenL (rowAt n k) k).map fun a => ss.getD a.toNat 0 := by
  have e : seenL (rowAt n k) k = nearL (rowAt n k) := by
    unfold seenL lessL;refine List.filter_eq_self.2 fun x hx => ?_
    unfold nearL at hx;obtain ⟨f, hf, rfl⟩ := List.mem_map.1 hx;by_cases hk : k < n.es.length
    · rw [hasB_f (by simpa using hq k _ (rowAt_lt hk) f hf)]; rfl
    · rw [rowAt_out (by omega)] at hf; cases hf
  rw [e];unfold nearSt nearL;rw [List.map_map];rfl
def GcRel (n : Net) (g : Nat) (w0 w : World) (i : Value) (wr : World) : Prop := ∃ k : Nat, k ≤ n.es.length ∧ i = .int .i64 k ∧ wr.ownsRow w0.heap.size 3 1 (.slice (some ⟨g, 0, none⟩) n.es.length n.es.length) n.es.length ((colTo n k).map intV) ∧ Below w0.heap.size w wr
set_option maxRecDepth 100000 in
set_option maxHeartbeats 1000000 in
theorem impl_greedyColouring (ve vi vn vo : Value) (n : Net) (w : World) (h : NetR w w.heap.size ve vi vn n) (hp : netP n) (hq : plainP n) (ho : IntsR w w.heap.size vo (plL n.es.length)) :
  Calls Tryz.prog 53 #[.agg #[ve, vi, vn], vo] w fun e w' => ∃ g, e = .returned (.slice (some ⟨g, 0, none⟩) n.es.length n.es.length) ∧ w'.ownsRow w.heap.size 3 1 (.slice (some ⟨g, 0, none⟩) n.es.length n.es.length) n.es.length ((colTo n n.es.length).map intV) ∧ Below w.heap.size w w' := by
 have h40 := hp.1.2;have HP := Lib.hid hp;have HQ := Lib.hid hq;clear hp hq;obtain ⟨Ao, co, rfl, -, hco, hso⟩ := ho.open_;have HSO := Lib.hid hso;rw [plL_len] at HSO ⊢;unfold maxLen at hco;clear ho hso;obtain ⟨⟨A0, m0, c0, rfl⟩, ⟨A1, m1, c1, rfl⟩, A2, m2, c2, rfl⟩ := h.slices;obtain ⟨w0, hw0, hB, HD, hz0, HS0⟩ := box3 w (.slice A0 m0 c0) (.slice A1 m1 c1) (.slice A2 m2 c2) 27;have HN0 := Lib.hid h; have HN := Lib.hid (h.up hB); clear h;have HW0 := Lib.hid hw0; clear hw0;obtain ⟨q0, q1, q2, qf⟩ := cells3 HD;obtain ⟨hm0, -, -⟩ := HN.out.e.len_slice;subst hm0;obtain ⟨N, hNN⟩ : ∃ z, z = n.es.length := ⟨_, rfl⟩
 have HNN := Lib.hid hNN;go_enter Tryz.func53, Tryz.ntmps53;go_wp2_with fail;rw [← HW0.out];refine (impl_noMatching _ _ _ n w0 HN.out HP.out).mono ?_;rintro e w1 ⟨g, rfl, ho1, hb1⟩;have HO1 := Lib.hid ho1;have HB1 := Lib.hid hb1;have hzb1 := hb1.size;clear ho1;go_wp2_with fail;go_loopw [7, 12] (fun _ i wr => GcRel n g w0 w1 i wr) (fun _ i _ => n.es.length - (intOf i).toNat)
 case atStart => exact ⟨0, Nat.zero_le _, rfl, HO1.out, Below.refl _ _⟩
 case round =>
  obtain ⟨v, hv, rfl, hown, hbl⟩ := hrel;have HO2 := Lib.hid hown;have HBL := Lib.hid hbl;have hb0r : Below w0.heap.size w0 wr := HB1.out.trans hbl;have HBR := Lib.hid hb0r;have hbs := hb0r.size;clear hown hbl;by_cases hlt : v < n.es.length
  ·
   obtain ⟨ado, rfl, hado, hcs⟩ := HSO.out (by omega);have hB0 : Below w.heap.size w w0 := by have := HS0.out;rw [HW0.out];exact bl_alloc (Below.refl _ _) _
   have hco' := (bl_trans hB0 hb0r |>.cell (p := ado.add v) (by rw [block_add]; exact hado)).trans (hcs v _ (plL_at hlt));have hl := rowAt_lt hlt;have hl6 := HP.out.len hl;have HLV := Lib.hid (show colTo n (v + 1) = (colTo n v).set v ((leastN (nearSt (rowAt n v) (colTo n v)) : Nat) : Int) by rw [colTo, near_seen HQ.out]);have HCI := Lib.hid (show IntsR wr wr.heap.size (.slice (some ⟨g, 0, none⟩) n.es.length n.es.length) (colTo n v) from own_intsR HO2.out (fun x hx => by have := colTo_bd HP.out v x hx; exact ⟨by omega, by omega⟩));have hzhb0r := hb0r.size;clear q0 q1 q2 qf;replace HD := bk HD hb0r;replace HN := Lib.hid (HN.out.up hb0r);replace hB := bl_trans hB hb0r;obtain ⟨q0, q1, q2, qf⟩ := cells3 HD;clear hcs hl;go_wp2_with fail;refine (impl_near _ _ _ _ n (colTo n v) v (rowAt n v) wr HN.out HP.out HCI.out (colTo_len n v) (rowAt_lt hlt)).mono ?_;rintro e w2 ⟨u, rfl, ⟨A2, m2, c2, rfl⟩, hu, hb2⟩;have HU := Lib.hid hu;have HO3 := Lib.hid (own_keep4 HO2.out hb2.size fun b _ hb => hb2.block b hb);have hz2 := hb2.size;have HB2 := Lib.hid (HBL.out.trans (hb2.mono (by omega)));clear hu q0 q1 q2 qf hco';go_wp2_with fail;refine (impl_leastFree _ _ w2 HU.out (by rw [nearSt_len]; omega)).mono ?_;rintro e w3 ⟨rfl, rfl⟩;obtain ⟨lv, hlv⟩ : ∃ z, z = leastN (nearSt (rowAt n v) (colTo n v)) := ⟨_, rfl⟩
   have HLV2 := Lib.hid hlv;have ci := own_cellI HO3.out hlt (List.getElem?_eq_getElem (by rw [colTo_len]; exact hlt));have fi := own_thaw HO3.out v;have hgl := HO3.out.lt g rfl;rw [← hlv];clear hlv;go_wp2_with fail;go_roundw
   case rel => exact ⟨v + 1, by omega, by go_num, by rw [HLV.out, ← HLV2.out]; exact own_setI HO3.out _, HB2.out.setCell (p := ⟨g, v, none⟩) hgl.1 _⟩
   case measure => simp [intOf]; omega
  ·
   obtain rfl : v = n.es.length := by omega
   have hkk : ((n.es.length : Int) < (n.es.length : Int)) = False := eq_false (by omega);have hB0 : Below w.heap.size w w0 := by rw [HW0.out];exact bl_alloc (Below.refl _ _) _
   have hzw := hB0.size;go_wp2_with fail;go_ret;exact ⟨g, rfl, own_mono HO2.out hzw, bl_trans hB0 HBR.out⟩
theorem grTo_push (n : Net) (k : Nat) : putS (grTo n k) (k : Int) = grTo n k ++ [(k : Int)] := by
  have h : ∀ (l : List Int), (∀ x ∈ l, x < (k : Int)) → putS l (k : Int) = l ++ [(k : Int)] := fun l => by
    induction l with
    | nil => intro _; rfl
    | cons y r ih =>
      intro hl;rw [putS, if_pos (hl y (by simp)), ih fun x hx => hl x (by simp [hx])];rfl
  exact h _ fun x hx => by have := grTo_mem n k x hx; omega
theorem grTo_rise (n : Net) : ∀ k, (grTo n k).Pairwise (· < ·)
  | 0 => List.Pairwise.nil
  | k + 1 => by
    rw [grTo];split
    · exact grTo_rise n k
    · rw [grTo_push, List.pairwise_append]
      refine ⟨grTo_rise n k, List.pairwise_singleton _ _, fun x hx y hy => ?_⟩;rw [List.mem_singleton.1 hy];have := grTo_mem n k x hx;omega
theorem grTo_sorted {n : Net} {k : Nat} {ys : List Int} (hp : ys.Perm (grTo n k)) (hs : ys.Pairwise (· ≤ ·)) : ys = grTo n k :=
  List.Perm.eq_of_pairwise (fun a b _ _ h1 h2 => Int.le_antisymm h1 h2) hs ((grTo_rise n k).imp fun h => Int.le_of_lt h) hp
theorem grTo_ne {n : Net} (hp : netP n) : grTo n n.es.length ≠ [] := fun e => by
  have h0 := hp.1.1;have h : ∀ k, 1 ≤ k → grTo n k ≠ [] := fun k => by
    induction k with
    | zero => intro h; omega
    | succ k ih =>
      intro _;rw [grTo];split
      · rename_i hc
        by_cases hk : k = 0
        · subst hk
          exact absurd hc (show ¬ inB (-1) 0 1 = true by decide)
        · exact ih (by omega)
      · exact putS_ne _ _
  exact h _ (by omega) e
theorem any_near {n : Net} (hp : netP n) {k : Nat} (hk : k < n.es.length) : (rowAt n k).any (nearE (grTo n k)) = inB (leastD (far n.es k) (grTo n k)) 0 1 := by
  have h := near_set hp hk (grTo_mem n k);have h2 : (rowAt n k).any (nearE (grTo n k)) = true ↔ ∃ x ∈ grTo n k, Adj n.es k x.toNat := by
    rw [List.any_eq_true];unfold nearE;constructor
    · rintro ⟨e, he, hc⟩
      have hc' : e.1 ∈ grTo n k := by simpa using hc
      exact ⟨e.1, hc', _, rowAt_lt hk, e, he, rfl⟩
    · rintro ⟨x, hx, l, hl, e, he, hex⟩
      obtain rfl := rowAt_eq hl;have h1 := (hp.endsIn _ (List.mem_of_getElem? hl) e he).1;have h2 := (grTo_mem n k x hx).1;exact ⟨e, he, by rw [show e.1 = x by omega]; simpa using hx⟩
  exact Bool.eq_iff_iff.2 (h2.trans h.symm)
theorem no_join {n : Net} (hq : plainP n) {k : Nat} (hk : k < n.es.length) : (rowAt n k).any (isE k) = false := by rw [List.any_eq_false];intro e he;have h := hq k _ (rowAt_lt hk) e he;unfold isE;simpa using h
def GiRel (n : Net) (w : World) (v i : Value) (wr : World) : Prop := ∃ k : Nat, k ≤ n.es.length ∧ i = .int .i64 k ∧ wr.ownsRow w.heap.size 3 1 v (grTo n k).length ((grTo n k).map intV) ∧ Below w.heap.size w wr
set_option maxRecDepth 100000 in
set_option maxHeartbeats 1000000 in
theorem impl_greedyIndependent (ve vi vn vo : Value) (n : Net) (w : World) (h : NetR w w.heap.size ve vi vn n) (hp : netP n) (hq : plainP n) (ho : IntsR w w.heap.size vo (plL n.es.length)) :
  Calls Tryz.prog 54 #[.agg #[ve, vi, vn], vo] w fun e w' => ∃ gs c, e = .returned (.slice (some ⟨gs, 0, none⟩) (grTo n n.es.length).length c) ∧ w.heap.size ≤ gs ∧ IntsR w' w'.heap.size (.slice (some ⟨gs, 0, none⟩) (grTo n n.es.length).length c) (grTo n n.es.length) ∧ Below w.heap.size w w' := by
 have h40 := hp.1.2;have HP := Lib.hid hp;have HQ := Lib.hid hq;clear hp hq;obtain ⟨Ao, co, rfl, -, hco, hso⟩ := ho.open_;have HSO := Lib.hid hso;rw [plL_len] at HSO ⊢;unfold maxLen at hco;clear ho hso;obtain ⟨⟨A0, m0, c0, rfl⟩, ⟨A1, m1, c1, rfl⟩, A2, m2, c2, rfl⟩ := h.slices;obtain ⟨w0, hw0, hB, HD, hz0, HS0⟩ := box3 w (.slice A0 m0 c0) (.slice A1 m1 c1) (.slice A2 m2 c2) 27;have HN0 := Lib.hid h; have HN := Lib.hid (h.up hB); clear h;have HW0 := Lib.hid hw0; clear hw0;obtain ⟨q0, q1, q2, qf⟩ := cells3 HD;go_enter Tryz.func54, Tryz.ntmps54;go_wp2_with fail;rw [← HW0.out];go_loopw [5, 7, 10] (fun v _ i wr => GiRel n w0 v i wr) (fun _ _ i _ => n.es.length - (intOf i).toNat)
 case atStart => exact ⟨0, Nat.zero_le _, rfl, World.ownsRow_nil _ _ _ _, Below.refl _ _⟩
 case round =>
  obtain ⟨k, hk, rfl, hown, hbl⟩ := hrel;have HGL := Lib.hid (grTo_len n k);obtain ⟨L, hL⟩ : ∃ z, z = (grTo n k).length := ⟨_, rfl⟩
  have hLk : L ≤ k := by rw [hL]; exact grTo_len n k
  have HI := Lib.hid (own_intsR hown (fun x hx => by have := grTo_mem n k x hx; exact ⟨by omega, by omega⟩));rw [← hL] at hown;obtain ⟨As, cs, rfl⟩ := own_slN hown;have HL := Lib.hid hL;have HO := Lib.hid hown;have HBL := Lib.hid hbl;have hzhbl := hbl.size;clear q0 q1 q2 qf;replace HD := bk HD hbl;replace HN := Lib.hid (HN.out.up hbl);replace hB := bl_trans hB hbl;obtain ⟨q0, q1, q2, qf⟩ := cells3 HD;clear hown hL;by_cases hlt : k < n.es.length
  ·
   obtain ⟨ado, rfl, hado, hcs⟩ := HSO.out (by omega);have hco' := (hB.cell (p := ado.add k) (by rw [block_add]; exact hado)).trans (hcs k _ (plL_at hlt));have HAN := Lib.hid (any_near HP.out hlt);have HNJ := Lib.hid (no_join HQ.out hlt);have HD1 := Lib.hid (show grTo n (k + 1) = if inB (leastD (far n.es k) (grTo n k)) 0 1 = true then grTo n k else putS (grTo n k) (k : Int) by rw [grTo]);clear hcs;go_wp2_with fail;refine (impl_areJoined _ _ _ n k k (rowAt n k) wr HN.out HP.out (rowAt_lt hlt)).mono ?_;rintro e w2 ⟨rfl, hb2⟩;rw [HNJ.out];have HI2 := Lib.hid (ints_upR HI.out hb2);have HO2 := Lib.hid (own_upN HO.out hb2);have hz2 := hb2.size;have HB2 := Lib.hid (bl_trans HBL.out hb2);clear hco';have hzhb2 := hb2.size;clear q0 q1 q2 qf;replace HD := bk HD hb2;replace HN := Lib.hid (HN.out.up hb2);replace hB := bl_trans hB hb2;obtain ⟨q0, q1, q2, qf⟩ := cells3 HD;go_wp2_with fail;refine (impl_hasNear _ _ _ n k (grTo n k) _ (rowAt n k) w2 HN.out HP.out (rowAt_lt hlt) HI2.out).mono ?_;rintro e w3 ⟨rfl, hb3⟩;rw [HAN.out];have HO3 := Lib.hid (own_upN HO2.out hb3);have hz3 := hb3.size;have HB3 := Lib.hid (bl_trans HB2.out hb3);have hsz3 := HB3.out.size;clear hb3 q0 q1 q2 qf;by_cases hb : inB (leastD (far n.es k) (grTo n k)) 0 1 = true
   ·
    have HE := Lib.hid (show grTo n (k + 1) = grTo n k by rw [HD1.out, if_pos hb]);rw [hb];go_wp2_with fail;go_roundw
    case rel => exact ⟨k + 1, by omega, by go_num, by rw [HE.out, ← HL.out]; exact HO3.out, HB3.out⟩
    case measure => simp [intOf]; omega
   ·
    have HE := Lib.hid (show grTo n (k + 1) = grTo n k ++ [(k : Int)] by rw [HD1.out, if_neg hb, grTo_push]);rw [show inB (leastD (far n.es k) (grTo n k)) 0 1 = false by simpa using hb];go_wp2_with (at_builtin; refine wpList_append1 w3 rfl (.tmp 26) (.tmp 28) 25 rfl w0.heap.size 3 _ 8 Tryz.underlying25 intInfo rfl _ _ _ rfl _ rfl rfl HO3.out (by unfold maxLen; omega) (by omega) (by omega) ?_; intro v8 w8 hown8 hbl8 hgr8 hlt8 hob8)
    go_roundw
    case rel => exact ⟨k + 1, by omega, by go_num, by rw [HE.out, List.length_append, ← HL.out, List.map_append]; exact hown8, HB3.out.trans hbl8⟩
    case measure => simp [intOf]; omega
  ·
   obtain rfl : k = n.es.length := by omega
   have hkk : ((n.es.length : Int) < (n.es.length : Int)) = False := eq_false (by omega);have HO' := Lib.hid (show wr.ownsRow w0.heap.size 3 1 (.slice As L cs) (grTo n n.es.length).length ((grTo n n.es.length).map intV) by rw [← HL.out]; exact HO.out);have HNE := Lib.hid (grTo_ne HP.out);have HLN := Lib.hid (grTo_len n n.es.length);have hLp : 0 < L := by rw [HL.out]; exact List.length_pos_iff.2 HNE.out
   obtain ⟨gs, rfl, hgs⟩ : ∃ gs, As = some ⟨gs, 0, none⟩ ∧ w0.heap.size ≤ gs := by
    rcases HO.out.2 with ⟨_, e⟩ | ⟨gs, cap, cur, e, h2, _⟩
    · omega
    · exact ⟨gs, (Value.slice.inj e).1, h2⟩
   clear q0 q1 q2 qf;go_wp2_with fail;refine (impl_Sort _ (grTo n n.es.length) w0.heap.size wr HO'.out (fun e => by have := (Value.slice.inj e).2.1; omega) (by have := HLN.out; omega)).mono ?_;rintro e w4 ⟨rfl, ⟨ys, hpm, hsr, hsl⟩, hb4⟩
   have HF := Lib.hid (show IntsR w4 w4.heap.size (.slice (some ⟨gs, 0, none⟩) L cs) (grTo n n.es.length) from by
    rw [grTo_sorted hpm hsr] at hsl
    exact ⟨hsl, fun x hx => by have := grTo_mem n n.es.length x hx; exact ⟨by omega, by omega⟩⟩)
   have hB0 : Below w.heap.size w w0 := by rw [HW0.out];exact bl_alloc (Below.refl _ _) _
   have HB4 := Lib.hid (bl_trans hB0 (HBL.out.trans hb4));clear hsl hb4;go_wp2_with fail;go_ret;have hz0' := hB0.size;exact ⟨gs, cs, by rw [← HL.out]; rfl, by omega, by rw [← HL.out]; exact HF.out, HB4.out⟩
end Go.Proofs.YtdghoienjegffaaGreat
namespace Go.Proofs.YtdghoienjegffaaGreat
open Go.RowKit
set_option linter.all false
theorem closure_port (P v : Nat) (e : Int × Int) (w : World) (hp : w.cell? ⟨P, 0, none⟩ = some (.int .i64 (v : Int))) :
    Calls Tryz.prog 98 #[.agg #[.int .i64 e.1, .int .i64 e.2], .pointer (some ⟨P, 0, none⟩)] w fun r w' => r = .returned (.bool (isE v e)) ∧ Below w.heap.size w w' := by
  obtain ⟨wv, hwv, hbv, HEB, hzv, HSV⟩ := box2 w (.int .i64 e.1) (.int .i64 e.2) 74;obtain ⟨d0, d1, df⟩ := cells2 HEB;have hP := (hbv.cell (p := ⟨P, 0, none⟩) (World.block_lt_of_cell? _ _ hp)).trans hp;subst hwv;go_enter Tryz.func98, Tryz.ntmps98;go_wp2_with fail;go_ret;exact ⟨rfl, hbv⟩
set_option maxRecDepth 100000 in
theorem impl_portTo (ve vi vn : Value) (n : Net) (u v : Nat) (l : Ends) (w : World) (h : NetR w w.heap.size ve vi vn n) (hp : netP n) (hl : n.es[u]? = some l) :
  Calls Tryz.prog 56 #[.agg #[ve, vi, vn], .int .i64 (u : Int), .int .i64 (v : Int)] w fun e w' => e = .returned (.int .i64 (portI (isE v) l)) ∧ Below w.heap.size w w' := by
 have h40 := hp.1;have hl6 := hp.len hl;have hul := (List.getElem?_eq_some_iff.1 hl).1;obtain ⟨⟨A0, m0, c0, rfl⟩, ⟨A1, m1, c1, rfl⟩, A2, m2, c2, rfl⟩ := h.slices;obtain ⟨w0, hw0, hB, HD, hz0, HS0⟩ := box3 w (.slice A0 m0 c0) (.slice A1 m1 c1) (.slice A2 m2 c2) 27;have HN0 := Lib.hid h; have HN := Lib.hid (h.up hB); clear h;have HW0 := Lib.hid hw0; clear hw0;obtain ⟨q0, q1, q2, qf⟩ := cells3 HD;obtain ⟨hm0, -, -⟩ := HN.out.e.len_slice;subst hm0;obtain ⟨w1, hw1, hb1, HB1, hz1, HS1⟩ := box1 w0 (.int .i64 (v : Int)) 3;have HW1 := Lib.hid hw1; clear hw1;have hs0 := HS0.out;have q3 : w1.cell? ⟨w.heap.size + 1, 0, none⟩ = some (.int .i64 (v : Int)) := by rw [← hs0]; exact cell_of_row _ _ 0 _ _ (0, 0) HB1.out
 have HQ3 := Lib.hid q3;have hzhb1 := hb1.size;clear q0 q1 q2 qf;replace HD := bk HD hb1;replace HN := Lib.hid (HN.out.up hb1);replace hB := bl_trans hB hb1;obtain ⟨q0, q1, q2, qf⟩ := cells3 HD;obtain ⟨ad, rfl⟩ := HN.out.e.some_ (by omega);obtain ⟨hab, ur, hu, hr⟩ := HN.out.e.at_ hl;have HR := Lib.hid hr;obtain ⟨A', c', rfl, hlc, hlm, -, h4⟩ := hr
 have J := Lib.hid (index_ends 98 #[.pointer (some ⟨w.heap.size + 1, 0, none⟩)] (enters_of Tryz.func98 (by kernel_rfl) rfl) (isE v) _ l w1 HR.out hl6 w1.heap.size (Nat.le_refl _) fun W e he hb =>
  closure_port (w.heap.size + 1) v e W ((hb.cell (p := ⟨w.heap.size + 1, 0, none⟩) (World.block_lt_of_cell? _ _ HQ3.out)).trans HQ3.out))
 have HZ := Lib.hid (And.intro HS0.out HS1.out);rw [HW1.out, HW0.out] at hu;have HU := hu;clear q3 hs0 h4 hl;go_enter Tryz.func56, Tryz.ntmps56;go_wp2_with fail;rw [← HW0.out, ← HW1.out];refine J.out.mono ?_;rintro e w2 ⟨rfl, hb2⟩;go_wp2_with fail;go_ret;exact ⟨rfl, bl_trans hB hb2⟩
def GmRel (n : Net) (g b1 b2 K : Nat) (ue : Value) (w : World) (i : Value) (wr : World) : Prop := ∃ k : Nat, k ≤ K ∧ i = .int .i64 k ∧ wr.ownsRow b1 3 1 (.slice (some ⟨g, 0, none⟩) n.es.length n.es.length) n.es.length ((mtL n k).map intV) ∧ wr.ownsRow b2 87 4 ue K (edCells (edV n n.es.length)) ∧ Below b1 w wr
set_option maxRecDepth 100000 in
set_option maxHeartbeats 1000000 in
theorem impl_GreedyMatching (ve vi vn : Value) (n : Net) (w : World) (h : NetR w w.heap.size ve vi vn n) (hp : netP n) (hq : plainP n) (hzi : n.ids.length ≤ 2000000) :
  Calls Tryz.prog 55 #[.agg #[ve, vi, vn]] w fun e w' => ∃ u, e = .returned (.tuple #[u, .bool true]) ∧ (∃ gm, u = .slice (some ⟨gm, 0, none⟩) n.es.length n.es.length ∧ w.heap.size ≤ gm) ∧ w'.ownsRow w.heap.size 3 1 u n.es.length ((mtL n (edV n n.es.length).length).map intV) ∧ Below w.heap.size w w' := by
 have h40 := hp.1.2;have HP := Lib.hid hp;have HQ := Lib.hid hq;have HNB := Lib.hid (show netB n = true from propB_t hp);clear hp hq;obtain ⟨⟨A0, m0, c0, rfl⟩, ⟨A1, m1, c1, rfl⟩, A2, m2, c2, rfl⟩ := h.slices;obtain ⟨w0, hw0, hB, HD, hz0, HS0⟩ := box3 w (.slice A0 m0 c0) (.slice A1 m1 c1) (.slice A2 m2 c2) 27;have HN0 := Lib.hid h; have HN := Lib.hid (h.up hB); clear h;have HW0 := Lib.hid hw0; clear hw0;obtain ⟨q0, q1, q2, qf⟩ := cells3 HD;have HE0 := Lib.hid hB;go_enter Tryz.func55, Tryz.ntmps55;go_wp2_with fail;rw [← HW0.out];refine (impl_IsNetwork _ _ _ n w0 HN.out (by omega) hzi).mono ?_;rintro e w1 ⟨rfl, hb1⟩;rw [HNB.out];have hzhb1 := hb1.size;clear q0 q1 q2 qf;replace HD := bk HD hb1;replace HN := Lib.hid (HN.out.up hb1);replace hB := bl_trans hB hb1;obtain ⟨q0, q1, q2, qf⟩ := cells3 HD;go_wp2_with fail;refine (impl_noMatching _ _ _ n w1 HN.out HP.out).mono ?_;rintro e w2 ⟨g, rfl, ho2, hb2⟩;have HO2 := Lib.hid ho2;have hBw1 := Lib.hid hB;have hgl := ho2.lt g rfl;have hgl' : w1.heap.size ≤ g ∧ g < w2.heap.size := hgl;have hzhb2 := hb2.size;clear q0 q1 q2 qf;replace HD := bk HD hb2;replace HN := Lib.hid (HN.out.up hb2);replace hB := bl_trans hB hb2;obtain ⟨q0, q1, q2, qf⟩ := cells3 HD;clear ho2 hgl;go_wp2_with fail;refine (impl_edgesX _ _ _ n w2 HN.out HP.out).mono ?_;rintro e w3 ⟨ue, rfl, ho3, hb3⟩;obtain ⟨K, hK⟩ : ∃ z, z = (edV n n.es.length).length := ⟨_, rfl⟩
 have hK9 : K ≤ 6 * n.es.length := by rw [hK]; exact edV_len HP.out _
 have HK := Lib.hid hK;rw [← hK] at ho3;obtain ⟨Ae, ce, rfl⟩ := own_slN ho3;have HO3 := Lib.hid ho3;have HB3 := Lib.hid (hb2.trans (hb3.mono (by omega)));have HM3 := Lib.hid (show w3.ownsRow w1.heap.size 3 1 (.slice (some ⟨g, 0, none⟩) n.es.length n.es.length) n.es.length ((mtL n 0).map intV) by rw [mtL_zero]; exact own_keep4 HO2.out hb3.size fun b _ hb => hb3.block b hb);have hz3 := hb3.size;obtain ⟨b2, hb2e⟩ : ∃ z, z = w2.heap.size := ⟨_, rfl⟩
 have hgb2 : g < b2 := by omega
 rw [← hb2e] at HO3;clear ho3 hK hb2e q0 q1 q2 qf;go_wp2_with fail;go_loopw [15] (fun i wr => GmRel n g w1.heap.size b2 K (.slice Ae K ce) w3 i wr) (fun i _ => K - (intOf i).toNat)
 case atStart => exact ⟨0, Nat.zero_le _, rfl, HM3.out, HO3.out, Below.refl _ _⟩
 case round =>
  obtain ⟨k, hk, rfl, hom, hoe, hbl⟩ := hrel;have HM := Lib.hid hom;have HE := Lib.hid hoe;have HBL := Lib.hid hbl;have hzr := hbl.size;clear hom hoe hbl;by_cases hlt : k < K
  ·
   obtain ⟨x, hx⟩ : ∃ x, (edV n n.es.length)[k]? = some x := ⟨_, List.getElem?_eq_getElem (by rw [← HK.out]; exact hlt)⟩
   obtain ⟨c0', c1', c2', c3'⟩ := edge_at hx;obtain ⟨v, pi, e, hv, hi, -, hxe⟩ := edV_mem (List.mem_of_getElem? hx);have hen := HP.out.endsIn _ (List.mem_of_getElem? (rowAt_lt hv)) e (List.mem_of_getElem? hi);have hq5 := edgeOk HP.out (List.mem_of_getElem? hx);have hne := adj_ne HP.out HQ.out ⟨_, rowAt_lt hv, e, List.mem_of_getElem? hi, rfl⟩;obtain ⟨u, hu⟩ : ∃ u : Nat, e.1 = (u : Int) := ⟨e.1.toNat, by omega⟩
   obtain ⟨q, hqe⟩ : ∃ q : Int, e.2 = q := ⟨_, rfl⟩
   rw [hu, hqe] at hxe;rw [hu] at hen hne;have hul : u < n.es.length := by omega
   have hvu : v ≠ u := by omega
   subst hxe;have HX := Lib.hid hx;obtain ⟨gb, rfl⟩ : ∃ gb, Ae = some ⟨gb, 0, none⟩ := by
    rcases HE.out.2 with ⟨e, e0⟩ | ⟨gb, cap, cur, e, -⟩
    · omega
    · cases e;exact ⟨gb, rfl⟩
   have hgbl := HE.out.lt gb rfl;have hc : ∀ i u, i < K * 4 → (edCells (edV n n.es.length))[i]? = some u → wr.cell? ⟨gb, i, none⟩ = some u := fun i u hi hu => (HE.out.cellAt i hi).trans hu
   have k0 := hc _ _ (by omega) c0';have k1 := hc _ _ (by omega) c1';have k2 := hc _ _ (by omega) c2';have k3 := hc _ _ (by omega) c3';obtain ⟨oa, hoa⟩ : ∃ z, z = (matTo (edV n n.es.length) n.es.length k).getD v 0 := ⟨_, rfl⟩
   obtain ⟨ob, hob⟩ : ∃ z, z = (matTo (edV n n.es.length) n.es.length k).getD u 0 := ⟨_, rfl⟩
   have hma := mtL_at (n := n) (k := k) hv;have hmb := mtL_at (n := n) (k := k) hul;rw [← hoa] at hma;rw [← hob] at hmb;have ba := mtL_bd HP.out k _ (List.mem_of_getElem? hma);have bb := mtL_bd HP.out k _ (List.mem_of_getElem? hmb);have HAB := Lib.hid (And.intro hoa hob);obtain ⟨ya, hya⟩ : ∃ z, z = oa - 1 := ⟨_, rfl⟩
   obtain ⟨yb, hyb⟩ : ∃ z, z = ob - 1 := ⟨_, rfl⟩
   rw [← hya] at hma ba;rw [← hyb] at hmb bb;have HY := Lib.hid (And.intro hya hyb);obtain ⟨w5, hw5, hb5, HEB, hz5⟩ := box4 wr (.int .i64 (v : Int)) (.int .i64 (pi : Int)) (.int .i64 (u : Int)) (.int .i64 q) 87;have HW5 := Lib.hid hw5;have HM5 := Lib.hid (own_keep4 HM.out hb5.size fun b _ hb => hb5.block b hb);have HE5 := Lib.hid (own_keep4 HE.out hb5.size fun b _ hb => hb5.block b hb);have HB5 := Lib.hid (HBL.out.trans (hb5.mono (by omega)));have ca := own_cellI HM5.out hv hma;have cb := own_cellI HM5.out hul hmb;have hgr : g < wr.heap.size := (HM.out.lt g rfl).2;obtain ⟨d0, d1, d2, d3⟩ := cells4 HEB;have d0' := d0;have d2' := d2;have ca' := ca;have cb' := cb;rw [hw5] at d0' d2' ca' cb';have hvu' : ((v : Int) = (u : Int)) = False := eq_false (by omega);have hvu2 : ((v : Int) == (u : Int)) = false := by simp; omega
   clear hc c0' c1' c2' c3' hx hi hma hmb hoa hob hya hyb hen hq5 hne hu hqe hw5 hb5;by_cases h1 : ya < 0
   ·
    have h1' : (ya < 0) = True := eq_true h1;by_cases h2 : yb < 0
    ·
     have h2' : (yb < 0) = True := eq_true h2
     have HT := Lib.hid (show mtL n (k + 1) = ((mtL n k).set v (pi : Int)).set u q from mtL_take HX.out (by
      rw [show (((v : Int), (pi : Int), (u : Int), q) : Edge).1.toNat = v from Int.toNat_natCast v, ← HAB.out.1]; have := HY.out.1; omega) (by
      rw [show (((v : Int), (pi : Int), (u : Int), q) : Edge).2.2.1.toNat = u from Int.toNat_natCast u, ← HAB.out.2]; have := HY.out.2; omega))
     go_upto_region 8 with fail;rw [← HW5.out];clear d0' d2' ca' cb' k0 k1 k2 k3;have hgq : g ≠ wr.heap.size := by omega
     have fa := own_thaw HM5.out v;have fb := own_thaw HM5.out u;refine wp_region_held_drew (S := fun w' => w'.cell? ⟨wr.heap.size, 0, none⟩ = some (.int .i64 (v : Int)) ∧ w'.cell? ⟨wr.heap.size, 1, none⟩ = some (.int .i64 (pi : Int)) ∧ w'.cell? ⟨wr.heap.size, 2, none⟩ = some (.int .i64 (u : Int)) ∧ w'.cell? ⟨wr.heap.size, 3, none⟩ = some (.int .i64 q)) (by kernel_rfl) ?_ (fun hHeld => ?_)
     · go_keep
     refine stk 0 40 ?_;refine stk 1 41 ?_;refine stk 2 42 ?_;refine stk 3 43 ?_;refine stk 4 44 ?_;refine stk 5 45 ?_;refine stk 6 46 ?_;refine stk 7 47 ?_;refine stk 8 48 ?_;refine stk 9 49 ?_;refine stk 10 50 ?_;refine tr 11 rfl (by kernel_rfl) (fun K hK => ?_);go_simp
     
     refine hK.out _ _ ?_ (fun hHeld => ?_)
     · go_keep
     clear hK K
     try simp only [Act.put, pu]
     refine stk 12 51 ?_;refine tr 13 rfl (by kernel_rfl) (fun K hK => ?_);go_simp
     
     refine hK.out _ _ ?_ (fun hHeld => ?_)
     · go_keep
     clear hK K
     try simp only [Act.put, pu]
     refine wpAnyH_done (by kernel_rfl) ?_ _;have HM6 := Lib.hid (own_setI (k := u) (own_setI (k := v) HM5.out (pi : Int)) q);have HE6 := Lib.hid (own_keep4 (w' := (w5.setCell ⟨g, v, none⟩ (.int .i64 (pi : Int))).setCell ⟨g, u, none⟩ (.int .i64 q)) HE5.out (by simp [World.setCell]) fun b hb1 hb2 => (Below.heap_setCell _ _ _ _ (fun h => by have h' : b = g := h; omega)).trans (Below.heap_setCell _ _ _ _ (fun h => by have h' : b = g := h; omega)));have HB6 := Lib.hid ((HB5.out.setCell (p := ⟨g, v, none⟩) hgl'.1 (.int .i64 (pi : Int))).setCell (p := ⟨g, u, none⟩) hgl'.1 (.int .i64 q));go_wp2_with fail;go_roundw
     case rel => exact ⟨k + 1, by omega, by go_num, by rw [HT.out]; exact HM6.out, HE6.out, HB6.out.drew⟩
     case measure => simp [intOf]; omega
    ·
     have h2' : (yb < 0) = False := eq_false h2
     have HT := Lib.hid (show mtL n (k + 1) = mtL n k from mtL_pass HX.out fun h => by
      have h3 := h.2;rw [show (((v : Int), (pi : Int), (u : Int), q) : Edge).2.2.1.toNat = u from Int.toNat_natCast u, ← HAB.out.2] at h3;have := HY.out.2
      omega)
     go_wp2_with fail;rw [← HW5.out];go_roundw
     case rel => exact ⟨k + 1, by omega, by go_num, by rw [HT.out]; exact HM5.out, HE5.out, HB5.out⟩
     case measure => simp [intOf]; omega
   ·
    have h1' : (ya < 0) = False := eq_false h1
    have HT := Lib.hid (show mtL n (k + 1) = mtL n k from mtL_pass HX.out fun h => by
     have h3 := h.1;rw [show (((v : Int), (pi : Int), (u : Int), q) : Edge).1.toNat = v from Int.toNat_natCast v, ← HAB.out.1] at h3;have := HY.out.1
     omega)
    go_wp2_with fail;rw [← HW5.out];go_roundw
    case rel => exact ⟨k + 1, by omega, by go_num, by rw [HT.out]; exact HM5.out, HE5.out, HB5.out⟩
    case measure => simp [intOf]; omega
  ·
   obtain rfl : k = K := by omega
   have hkk : ((k : Int) < (k : Int)) = False := eq_false (by omega);have hz1w := hBw1.out.size
   have HF := Lib.hid (show wr.ownsRow w.heap.size 3 1 (.slice (some ⟨g, 0, none⟩) n.es.length n.es.length) n.es.length ((mtL n (edV n n.es.length).length).map intV) by
    rw [← HK.out]
    exact own_mono HM.out hz1w)
   have HBF := Lib.hid (show Below w.heap.size w wr from hBw1.out.trans ((HB3.out.trans HBL.out).mono (by omega)));go_wp2_with fail;exact bodyPost_ret (v := .tuple #[.slice (some ⟨g, 0, none⟩) n.es.length n.es.length, .bool true]) (by simp [results, Tryz.results55, go_sem]) rfl ⟨_, rfl, ⟨g, rfl, by omega⟩, HF.out, HBF.out⟩
end Go.Proofs.YtdghoienjegffaaGreat
