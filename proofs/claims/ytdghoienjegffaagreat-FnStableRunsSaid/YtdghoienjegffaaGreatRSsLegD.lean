/-
  The reference's ssLegalOf: legal states. Condition: valid networks.
-/
import Derived.Test.YtdghoienjegffaaGreatRSsLegBG
namespace Go.Proofs.YtdghoienjegffaaGreat
open Go.RowKit
set_option linter.all false
def matE (o : List Int) (x : Edge) : List Int := if o.getD x.1.toNat 0 = 0 ∧ o.getD x.2.2.1.toNat 0 = 0 then (o.set x.1.toNat (x.2.1 + 1)).set x.2.2.1.toNat (x.2.2.2 + 1) else o
def matTo (E : List Edge) (N k : Nat) : List Int := (E.take k).foldl matE (List.replicate N 0)
def onesTo (S : List Int) (N k : Nat) : List Int := (S.take k).foldl (fun o x => o.set x.toNat 1) (List.replicate N 0)
noncomputable def legL (n : Net) (r : Int) : List Int :=
  if r = 1 then farT n else if r = 2 then colTo n n.es.length else if r = 3 then onesTo (grTo n n.es.length) n.es.length (grTo n n.es.length).length
  else if r = 4 then matTo (edV n n.es.length) n.es.length (edV n n.es.length).length else List.replicate n.es.length 0
theorem onesTo_succ {S : List Int} {N k : Nat} {x : Int} (h : S[k]? = some x) : onesTo S N (k + 1) = (onesTo S N k).set x.toNat 1 := by obtain ⟨hk, rfl⟩ := List.getElem?_eq_some_iff.1 h;unfold onesTo;rw [List.take_succ_eq_append_getElem hk, List.foldl_append];rfl
theorem matTo_succ {E : List Edge} {N k : Nat} {x : Edge} (h : E[k]? = some x) : matTo E N (k + 1) = matE (matTo E N k) x := by obtain ⟨hk, rfl⟩ := List.getElem?_eq_some_iff.1 h;unfold matTo;rw [List.take_succ_eq_append_getElem hk, List.foldl_append];rfl
theorem onesTo_len (S : List Int) (N : Nat) : ∀ k, (onesTo S N k).length = N
  | 0 => by unfold onesTo; simp
  | k + 1 => by
    cases h : S[k]? with
    | some x => rw [onesTo_succ h, List.length_set, onesTo_len S N k]
    | none =>
      have : onesTo S N (k + 1) = onesTo S N k := by unfold onesTo;rw [List.take_of_length_le (by rw [List.getElem?_eq_none_iff] at h; omega), List.take_of_length_le (by rw [List.getElem?_eq_none_iff] at h; omega)]
      rw [this, onesTo_len S N k]
theorem matE_len (o : List Int) (x : Edge) : (matE o x).length = o.length := by unfold matE; split <;> simp
theorem matTo_len (E : List Edge) (N : Nat) : ∀ k, (matTo E N k).length = N
  | 0 => by unfold matTo; simp
  | k + 1 => by
    cases h : E[k]? with
    | some x => rw [matTo_succ h, matE_len, matTo_len E N k]
    | none =>
      have : matTo E N (k + 1) = matTo E N k := by unfold matTo;rw [List.take_of_length_le (by rw [List.getElem?_eq_none_iff] at h; omega), List.take_of_length_le (by rw [List.getElem?_eq_none_iff] at h; omega)]
      rw [this, matTo_len E N k]
def EdOk (N : Nat) (x : Edge) : Prop := (0 ≤ x.1 ∧ x.1.toNat < N) ∧ (0 ≤ x.2.1 ∧ x.2.1 ≤ 6) ∧ (0 ≤ x.2.2.1 ∧ x.2.2.1.toNat < N) ∧ (0 ≤ x.2.2.2 ∧ x.2.2.2 ≤ 6)
theorem edgeOk {n : Net} (hp : netP n) {x : Edge} (h : x ∈ edV n n.es.length) : EdOk n.es.length x := by obtain ⟨v, i, e, hv, he, -, rfl⟩ := edV_mem h;have h6 := hp.len (rowAt_lt hv);have hi := (List.getElem?_eq_some_iff.1 he).1;have h1 := hp.endsIn _ (List.mem_of_getElem? (rowAt_lt hv)) e (List.mem_of_getElem? he);have h2 := (hp.2.2.2.2 v _ (rowAt_lt hv)).2 i e he;obtain ⟨ha, hb, m, hm, hf⟩ := h2;have hm6 := hp.len hm;have hfl := (List.getElem?_eq_some_iff.1 hf).1;exact ⟨⟨by show 0 ≤ (v : Int); omega, by show (v : Int).toNat < _; omega⟩, ⟨by show 0 ≤ (i : Int); omega, by show (i : Int) ≤ 6; omega⟩, h1, hb, by show e.2 ≤ 6; omega⟩
theorem onesTo_bd (S : List Int) (N : Nat) : ∀ k, ∀ x ∈ onesTo S N k, 0 ≤ x ∧ x ≤ 1
  | 0 => fun x hx => by unfold onesTo at hx; rw [List.take_zero] at hx; rw [List.eq_of_mem_replicate hx]; omega
  | k + 1 => fun x hx => by
    cases h : S[k]? with
    | some y =>
      rw [onesTo_succ h] at hx;rcases List.mem_or_eq_of_mem_set hx with h1 | h1
      · exact onesTo_bd S N k x h1
      · omega
    | none =>
      have : onesTo S N (k + 1) = onesTo S N k := by unfold onesTo;rw [List.take_of_length_le (by rw [List.getElem?_eq_none_iff] at h; omega), List.take_of_length_le (by rw [List.getElem?_eq_none_iff] at h; omega)]
      rw [this] at hx;exact onesTo_bd S N k x hx
theorem matTo_bd {E : List Edge} {N : Nat} (hE : ∀ x ∈ E, EdOk N x) : ∀ k, ∀ x ∈ matTo E N k, 0 ≤ x ∧ x ≤ 7
  | 0 => fun x hx => by unfold matTo at hx; rw [List.take_zero] at hx; rw [List.eq_of_mem_replicate hx]; omega
  | k + 1 => fun x hx => by
    cases h : E[k]? with
    | some y =>
      have hy := hE y (List.mem_of_getElem? h);rw [matTo_succ h] at hx;unfold matE at hx;split at hx
      · rcases List.mem_or_eq_of_mem_set hx with h1 | h1
        · rcases List.mem_or_eq_of_mem_set h1 with h1 | h1
          · exact matTo_bd hE k x h1
          · have := hy.2.1; omega
        · have := hy.2.2.2; omega
      · exact matTo_bd hE k x hx
    | none =>
      have : matTo E N (k + 1) = matTo E N k := by unfold matTo;rw [List.take_of_length_le (by rw [List.getElem?_eq_none_iff] at h; omega), List.take_of_length_le (by rw [List.getElem?_eq_none_iff] at h; omega)]
      rw [this] at hx;exact matTo_bd hE k x hx
theorem legL_len (n : Net) (r : Int) : (legL n r).length = n.es.length := by
  unfold legL;split
  · exact farT_len n
  · split
    · exact colTo_len n _
    · split
      · exact onesTo_len _ _ _
      · split
        · exact matTo_len _ _ _
        · exact List.length_replicate
theorem legL_bd {n : Net} (hp : netP n) (r : Int) : ∀ x ∈ legL n r, -1 ≤ x ∧ x ≤ 40 := fun x hx => by
  unfold legL at hx;split at hx
  · unfold farT at hx
    obtain ⟨v, hv, rfl⟩ := List.mem_map.1 hx;have := farV_bd hp (List.mem_range.1 hv);omega
  · split at hx
    · have := colTo_bd hp _ x hx; omega
    · split at hx
      · have := onesTo_bd _ _ _ x hx; omega
      · split at hx
        · have := matTo_bd (fun y hy => edgeOk hp hy) _ x hx; omega
        · rw [List.eq_of_mem_replicate hx]; omega
def LoRel (xs : Nat → List Int) (N K g : Nat) (w : World) (i : Value) (wr : World) : Prop := ∃ k : Nat, k ≤ K ∧ i = .int .i64 k ∧ wr.ownsRow g 3 1 (.slice (some ⟨g, 0, none⟩) N N) N ((xs k).map intV) ∧ w.grownBy wr (some g)
set_option maxRecDepth 100000 in
set_option maxHeartbeats 4000000 in
theorem spec_ssLegalOf (ve vi vn : Value) (n : Net) (r : Int) (w : World) (h : NetR w w.heap.size ve vi vn n) (hp : netP n) :
  Calls Tryz.prog 58 #[.agg #[ve, vi, vn], .int .i64 r] w fun e w' => ∃ u, e = .returned u ∧ w'.ownsRow w.heap.size 3 1 u n.es.length ((legL n r).map intV) ∧ Below w.heap.size w w' := by
 have h40 := hp.1.2;have HP := Lib.hid hp;clear hp;obtain ⟨⟨A0, m0, c0, rfl⟩, ⟨A1, m1, c1, rfl⟩, A2, m2, c2, rfl⟩ := h.slices;obtain ⟨w0, hw0, hB, HD, hz0, HS0⟩ := box3 w (.slice A0 m0 c0) (.slice A1 m1 c1) (.slice A2 m2 c2) 27;have HN0 := Lib.hid h; have HN := Lib.hid (h.up hB); clear h;have HW0 := Lib.hid hw0; clear hw0;obtain ⟨q0, q1, q2, qf⟩ := cells3 HD;obtain ⟨hm0, -, -⟩ := HN.out.e.len_slice;subst hm0;obtain ⟨N, hNN⟩ : ∃ z, z = n.es.length := ⟨_, rfl⟩
 have HNN := Lib.hid hNN;rw [← hNN] at h40 q0 HW0 HD HN ⊢;have hm2 := fun W => run_make1 (P := Tryz.prog) 25 3 (.int .i64 0) 8 Tryz.underlying25 intInfo rfl N (by omega) (by omega) W
 obtain ⟨w1, hw1⟩ : ∃ z, z = w0.alloc (.cells (rowOf [] N (.int .i64 0)) 3) := ⟨_, rfl⟩
 obtain ⟨g, hg⟩ : ∃ z, z = w0.heap.size := ⟨_, rfl⟩
 have hb1 : Below w0.heap.size w0 w1 := by rw [hw1]; exact bl_alloc (Below.refl _ _) _
 have H1 := Lib.hid (show w1.ownsRow g 3 1 (.slice (some ⟨g, 0, none⟩) N N) N ((List.replicate N (0 : Int)).map intV) by
  have h1 := own_madeN w0 3 N (.int .i64 0) (by unfold maxLen; omega);rw [← hw1, ← hg] at h1
  rw [List.map_replicate]; exact h1)
 have HW1 := Lib.hid hw1;have HG := Lib.hid (show w.heap.size + 1 = g by rw [hg, HS0.out]);have hgl : w0.heap.size ≤ g ∧ g ≤ w0.heap.size := by omega
 have hz1 := hb1.size;have hg1 : g < w1.heap.size := (H1.out.lt g rfl).2;have HD1 := bk HD hb1;have HN1 := Lib.hid (HN.out.up hb1);have hB1 := bl_trans hB hb1;have eq0 := q0;have eq1 := q1;have eq2 := q2;rw [HW0.out] at eq0 eq1 eq2;obtain ⟨p0, p1, p2, pf⟩ := cells3 HD1;have ep0 := p0;have ep1 := p1;have ep2 := p2;rw [HW1.out, HW0.out] at ep0 ep1 ep2;clear hw1 hg hNN q0 q1 q2 qf p0 p1 p2 pf;by_cases r1 : r = 1
 ·
  subst r1;have HL := Lib.hid (show legL n 1 = farT n by unfold legL; rw [if_pos rfl]);go_enter Tryz.func58, Tryz.ntmps58;go_wp2_with fail;rw [← HW0.out, ← HW1.out];clear hm2 eq0 eq1 eq2 ep0 ep1 ep2;refine (spec_ssFar _ _ _ n w1 HN1.out HP.out).mono ?_;rintro e w2 ⟨u, rfl, -, hb2, ho⟩;obtain ⟨Au, cu, rfl⟩ := own_sl ho
  have HO := Lib.hid (show w2.ownsRow w.heap.size 3 1 (.slice Au (farT n).length cu) N ((legL n 1).map intV) by
   have h1 := own_mono ho (show w.heap.size ≤ w1.heap.size by omega);rw [HL.out];rw [show N = (farT n).length by rw [farT_len]; exact HNN.out]
   exact h1)
  have HB := Lib.hid (bl_trans hB1 hb2);clear ho;go_wp2_with fail;go_ret;exact ⟨_, rfl, HO.out, HB.out⟩
 ·
  have k1 : (r = 1) = False := eq_false r1;by_cases r2 : r = 2
  ·
   subst r2;have HL := Lib.hid (show legL n 2 = colTo n n.es.length by unfold legL; rw [if_neg (by omega), if_pos rfl]);go_enter Tryz.func58, Tryz.ntmps58;go_wp2_with fail;rw [← HW0.out, ← HW1.out];clear hm2 eq0 eq1 eq2 ep0 ep1 ep2;obtain ⟨q0, q1, q2, qf⟩ := cells3 HD1;refine wp_region_held_drew (S := fun w' => w'.cell? ⟨w.heap.size, 0, none⟩ = some (.slice A0 N c0) ∧ w'.cell? ⟨w.heap.size, 1, none⟩ = some (.slice A1 m1 c1) ∧ w'.cell? ⟨w.heap.size, 2, none⟩ = some (.slice A2 m2 c2)) (by kernel_rfl) ?_ (fun hHeld => ?_)
   · go_keep
   refine stk 0 21 ?_;refine stk 1 22 ?_;refine tr 2 rfl (by kernel_rfl) (fun K hK => ?_);go_simp;go_at_call 104;refine (spec_ssPlain _ _ _ n w1.drew (HN1.out.up (Below.refl _ _).drew) (by rw [← HNN.out]; omega)).mono ?_;rintro e w2 ⟨u, rfl, ⟨A5, m5, c5, rfl⟩, hu, hb2'⟩;have hb2 : Below w1.heap.size w1 w2 := (Below.refl _ _).drew.trans hb2';have HU2 := Lib.hid hu;have HN2 := Lib.hid (HN1.out.up hb2);have HB2 := Lib.hid (bl_trans hB1 hb2);have HD2 := bk HD1 hb2;have hz2 := hb2.size;clear q0 q1 q2 qf hu hb2';obtain ⟨q0, q1, q2, qf⟩ := cells3 HD2;refine hK.out _ _ ?_ (fun hHeld => ?_)
   · go_keep
   clear hK K
   try simp only [Act.put, pu]
   refine tr 3 rfl (by kernel_rfl) (fun K hK => ?_);go_simp;go_at_call 103;refine (spec_deColour _ _ _ _ n w2 HN2.out HP.out HU2.out).mono ?_;rintro e w3 ⟨u, rfl, ho, hb3⟩;obtain ⟨Au, cu, rfl⟩ := own_sl ho
   have HO := Lib.hid (show w3.ownsRow w.heap.size 3 1 (.slice Au n.es.length cu) N ((legL n 2).map intV) by
    have h1 := own_mono ho (show w.heap.size ≤ w2.heap.size by omega);rw [HL.out, HNN.out]
    exact h1)
   have HB := Lib.hid (bl_trans HB2.out hb3);have HD3 := bk HD2 hb3;clear q0 q1 q2 qf ho;obtain ⟨q0, q1, q2, qf⟩ := cells3 HD3;refine hK.out _ _ ?_ (fun hHeld => ?_)
   · go_keep
   clear hK K
   try simp only [Act.put, pu]
   refine stk 4 4 ?_;refine wpAnyH_done (by kernel_rfl) ?_ _;go_wp2_with fail;go_ret;exact ⟨_, rfl, HO.out, HB.out⟩
  ·
   have k2 : (r = 2) = False := eq_false r2;by_cases r3 : r = 3
   ·
    subst r3;have HL := Lib.hid (show legL n 3 = onesTo (grTo n n.es.length) n.es.length (grTo n n.es.length).length by unfold legL; rw [if_neg (by omega), if_neg (by omega), if_pos rfl]);go_enter Tryz.func58, Tryz.ntmps58;go_wp2_with fail;rw [← HW0.out, ← HW1.out];clear hm2 eq0 eq1 eq2 ep0 ep1 ep2;obtain ⟨q0, q1, q2, qf⟩ := cells3 HD1;refine wp_region_held_drew (S := fun w' => w'.cell? ⟨w.heap.size, 0, none⟩ = some (.slice A0 N c0) ∧ w'.cell? ⟨w.heap.size, 1, none⟩ = some (.slice A1 m1 c1) ∧ w'.cell? ⟨w.heap.size, 2, none⟩ = some (.slice A2 m2 c2)) (by kernel_rfl) ?_ (fun hHeld => ?_)
    · go_keep
    refine stk 0 27 ?_;refine stk 1 28 ?_;refine stk 5 32 ?_;refine tr 2 rfl (by kernel_rfl) (fun K hK => ?_);go_simp;go_at_call 104;refine (spec_ssPlain _ _ _ n w1.drew (HN1.out.up (Below.refl _ _).drew) (by rw [← HNN.out]; omega)).mono ?_;rintro e w2 ⟨u, rfl, ⟨A5, m5, c5, rfl⟩, hu, hb2'⟩;have hb2 : Below w1.heap.size w1 w2 := (Below.refl _ _).drew.trans hb2';have HU2 := Lib.hid hu;have HN2 := Lib.hid (HN1.out.up hb2);have HB2 := Lib.hid (bl_trans hB1 hb2);have HD2 := bk HD1 hb2;have hz2 := hb2.size;clear q0 q1 q2 qf hu hb2';obtain ⟨q0, q1, q2, qf⟩ := cells3 HD2;refine hK.out _ _ ?_ (fun hHeld => ?_)
    · go_keep
    clear hK K
    try simp only [Act.put, pu]
    refine tr 3 rfl (by kernel_rfl) (fun K hK => ?_);go_simp;go_at_call 105;refine (spec_ruGreedy _ _ _ _ n w2 HN2.out HP.out HU2.out).mono ?_;rintro e w3 ⟨u, rfl, ⟨Au, mu, cu, rfl, hfr⟩, hu3, hb3⟩;have HFR := Lib.hid hfr;clear hfr;have hb13 := bl_trans hb2 hb3;have HO3 := Lib.hid (own_upN H1.out hb13);have HB3 := Lib.hid (bl_trans hB1 hb13);have HD3 := bk HD2 hb3;have HU3 := Lib.hid hu3;have hz3 := hb3.size;clear q0 q1 q2 qf hu3;obtain ⟨q0, q1, q2, qf⟩ := cells3 HD3;refine hK.out _ _ ?_ (fun hHeld => ?_)
    · go_keep
    clear hK K
    try simp only [Act.put, pu]
    refine stk 4 31 ?_;refine wpAnyH_done (by kernel_rfl) ?_ _;clear q0 q1 q2 qf hHeld;obtain ⟨S, hS⟩ : ∃ z, z = grTo n n.es.length := ⟨_, rfl⟩
    have HSM := Lib.hid (show ∀ x ∈ S, 0 ≤ x ∧ x.toNat < N by rw [hS, HNN.out]; exact grTo_mem n _);have hS40 : S.length ≤ 40 := by rw [hS]; have := grTo_len n n.es.length; have := HNN.out; omega
    rw [← hS] at HU3 HL;obtain ⟨Au', cu', eu, -, hcu, hsu⟩ := HU3.out.open_;obtain ⟨rfl, rfl, rfl⟩ := Value.slice.inj eu;have HSU := Lib.hid hsu;clear hS eu hsu;go_wp2_with fail;rw [HG.out];go_loopw [7, 32] (fun _ i wr => LoRel (onesTo S N) N S.length g w3 i wr) (fun _ i _ => S.length - (intOf i).toNat)
    case atStart => exact ⟨0, Nat.zero_le _, rfl, HO3.out, World.grownBy.refl _ _⟩
    case round =>
     obtain ⟨k, hk, rfl, hown, hbl⟩ := hrel;have HO := Lib.hid hown;have HBL := Lib.hid hbl;clear hown;by_cases hlt : k < S.length
     ·
      obtain ⟨x, hx⟩ : ∃ x, S[k]? = some x := ⟨_, List.getElem?_eq_getElem hlt⟩
      have hxb := HSM.out x (List.mem_of_getElem? hx);obtain ⟨a, rfl⟩ := Int.eq_ofNat_of_zero_le hxb.1;have haN : a < N := by omega
      have hai : (a : Int) < (N : Int) := by omega
      obtain ⟨ads, rfl, hads, hcs⟩ := HSU.out (by omega);have hg2 := HFR.out ads rfl;have hc := (World.cell?_of_block (a := ads.add k) (hbl.block (ads.add k).block (by rw [block_add]; exact hads) (fun e => by rw [block_add] at e; have e' : ads.block = g := Option.some.inj e; omega))).trans (hcs k _ hx);obtain ⟨y, hy⟩ : ∃ y, (onesTo S N k)[a]? = some y := ⟨_, List.getElem?_eq_getElem (by rw [onesTo_len]; exact haN)⟩
      have ci := own_cellI HO.out haN hy;have fi := own_thaw HO.out a;have HS1 := Lib.hid (onesTo_succ (N := N) hx);clear hy hcs hx hxb;go_wp2_with fail;go_roundw
      case rel => exact ⟨k + 1, by omega, by go_num, by rw [HS1.out]; exact own_setI HO.out 1, grownT HBL.out (grownP _ _ _ _)⟩
      case measure => simp [intOf]; omega
     ·
      obtain rfl : k = S.length := by omega
      have HR := Lib.hid (show wr.ownsRow w.heap.size 3 1 (.slice (some ⟨g, 0, none⟩) N N) N ((legL n 3).map intV) by rw [HL.out, ← HNN.out]; exact own_mono HO.out (by omega));have HB := Lib.hid (Below.grown HB3.out HBL.out (by omega) (fun k hk => by have e := Option.some.inj (show some g = some k from hk); omega));have hkk : ((S.length : Int) < (S.length : Int)) = False := eq_false (by omega);go_wp2_with fail;go_ret;exact ⟨_, rfl, HR.out, HB.out⟩
   ·
    have k3 : (r = 3) = False := eq_false r3;by_cases r4 : r = 4
    ·
     subst r4;have HL := Lib.hid (show legL n 4 = matTo (edV n n.es.length) n.es.length (edV n n.es.length).length by unfold legL; rw [if_neg (by omega), if_neg (by omega), if_neg (by omega), if_pos rfl]);go_enter Tryz.func58, Tryz.ntmps58;go_wp2_with fail;rw [← HW0.out, ← HW1.out];clear hm2 eq0 eq1 eq2 ep0 ep1 ep2;refine (spec_neEdges _ _ _ n w1 HN1.out HP.out).mono ?_;rintro e w3 ⟨u, rfl, hed, hb3⟩;have HO3 := Lib.hid (own_upN H1.out hb3);have HB3 := Lib.hid (bl_trans hB1 hb3);have hz3 := hb3.size;obtain ⟨E, hE⟩ : ∃ z, z = edV n n.es.length := ⟨_, rfl⟩
     have HEO := Lib.hid (show ∀ x ∈ E, EdOk N x by rw [hE, HNN.out]; exact fun x hx => edgeOk HP.out hx);have hE40 : E.length ≤ 240 := by rw [hE]; have := edV_len HP.out n.es.length; have := HNN.out; omega
     rw [← hE] at hed HL;obtain ⟨vs, hvs, hrow⟩ := hed;obtain ⟨Ae, ce, rfl⟩ := own_sl hvs;have HVS := Lib.hid hvs;have HRW := Lib.hid hrow;clear hE hvs hrow;go_wp2_with fail;rw [HG.out];go_loopw [9, 45] (fun _ i wr => LoRel (matTo E N) N E.length g w3 i wr) (fun _ i _ => E.length - (intOf i).toNat)
     case atStart => exact ⟨0, Nat.zero_le _, rfl, HO3.out, World.grownBy.refl _ _⟩
     case round =>
      obtain ⟨k, hk, rfl, hown, hbl⟩ := hrel;have HO := Lib.hid hown;have HBL := Lib.hid hbl;have hzr := hbl.size;clear hown;by_cases hlt : k < E.length
      ·
       obtain ⟨x, hx⟩ : ∃ x, E[k]? = some x := ⟨_, List.getElem?_eq_getElem hlt⟩
       obtain ⟨⟨ha0, haN⟩, hi, ⟨hb0, hbN⟩, hq⟩ := HEO.out x (List.mem_of_getElem? hx);obtain ⟨xa, xi, xb, xq⟩ := x;obtain ⟨a, rfl⟩ := Int.eq_ofNat_of_zero_le (show 0 ≤ xa from ha0);obtain ⟨b, rfl⟩ := Int.eq_ofNat_of_zero_le (show 0 ≤ xb from hb0);replace haN : a < N := haN;replace hbN : b < N := hbN;replace hi : 0 ≤ xi ∧ xi ≤ 6 := hi;replace hq : 0 ≤ xq ∧ xq ≤ 6 := hq;obtain ⟨gk, hgk, hgk1, hgk2, hgkc⟩ := HRW.out k _ hx;obtain ⟨go, co, eo⟩ : ∃ g c, Value.slice Ae E.length ce = .slice (some ⟨g, 0, none⟩) E.length c := by
        rcases HVS.out.2 with ⟨_, e⟩ | ⟨g, cap, cur, e, _⟩
        · omega
        · exact ⟨g, cap, e⟩
       obtain ⟨rfl, -, rfl⟩ := Value.slice.inj eo;have hgo := HVS.out.lt go rfl;have hco := (World.ownsRow.cellAt HVS.out k (by omega)).trans hgk;have hck := (World.cell?_of_block (a := ⟨go, k, none⟩) (hbl.block go hgo.2 (fun e => by have e' : go = g := Option.some.inj e; omega))).trans hco;have hrb : wr.heap[gk]? = some (.cells #[.int .i64 (a : Int), .int .i64 xi, .int .i64 (b : Int), .int .i64 xq] 3 (0, 0)) := (hbl.block gk hgk2 (fun e => by have e' : gk = g := Option.some.inj e; omega)).trans hgkc;have t0 : wr.cell? ⟨gk, 0, none⟩ = some (.int .i64 (a : Int)) := by rw [cell_of_row _ _ 0 _ _ (0, 0) hrb]; rfl
       have t1 : wr.cell? ⟨gk, 1, none⟩ = some (.int .i64 xi) := by rw [cell_of_row _ _ 1 _ _ (0, 0) hrb]; rfl
       have t2 : wr.cell? ⟨gk, 2, none⟩ = some (.int .i64 (b : Int)) := by rw [cell_of_row _ _ 2 _ _ (0, 0) hrb]; rfl
       have t3 : wr.cell? ⟨gk, 3, none⟩ = some (.int .i64 xq) := by rw [cell_of_row _ _ 3 _ _ (0, 0) hrb]; rfl
       have hai : (a : Int) < (N : Int) := by omega
       have hbi : (b : Int) < (N : Int) := by omega
       obtain ⟨ya, hya⟩ : ∃ y, (matTo E N k)[a]? = some y := ⟨_, List.getElem?_eq_getElem (by rw [matTo_len]; exact haN)⟩
       obtain ⟨yb, hyb⟩ : ∃ y, (matTo E N k)[b]? = some y := ⟨_, List.getElem?_eq_getElem (by rw [matTo_len]; exact hbN)⟩
       have ca := own_cellI HO.out haN hya;have cb := own_cellI HO.out hbN hyb
       have HM := Lib.hid (show matTo E N (k + 1) = if ya = 0 ∧ yb = 0 then ((matTo E N k).set a (xi + 1)).set b (xq + 1) else matTo E N k by
        rw [matTo_succ hx];unfold matE;rw [show (matTo E N k).getD (a : Int).toNat 0 = ya by rw [List.getD_eq_getElem?_getD]; show ((matTo E N k)[a]?).getD 0 = ya; rw [hya]; rfl, show (matTo E N k).getD (b : Int).toNat 0 = yb by rw [List.getD_eq_getElem?_getD]; show ((matTo E N k)[b]?).getD 0 = yb; rw [hyb]; rfl]
        rfl)
       have hgkg : gk ≠ g := by omega
       clear hya hyb hgkc hgk hco hx hgo;by_cases hya : ya = 0
       ·
        subst hya;by_cases hyb : yb = 0
        ·
         subst hyb;have HM2 := Lib.hid (show matTo E N (k + 1) = ((matTo E N k).set a (xi + 1)).set b (xq + 1) by rw [HM.out, if_pos ⟨rfl, rfl⟩]);have hw1 : IntKind.i64.wrap (xi + 1) = xi + 1 := IntWalk.i64_in _ (by omega);have hw2 : IntKind.i64.wrap (xq + 1) = xq + 1 := IntWalk.i64_in _ (by omega);go_wp2_with fail;clear t2 t3 cb hck;have fa := own_thaw HO.out a;refine till_region (S := fun w' => w'.cell? ⟨gk, 0, none⟩ = some (.int .i64 (a : Int)) ∧ w'.cell? ⟨gk, 1, none⟩ = some (.int .i64 xi)) (st := 9) (by kernel_rfl) ⟨t0, t1⟩ (fun hHeld => ?_);refine utf 0 65 ?_;refine utf 1 66 ?_;refine utf 2 67 ?_;refine utk 3 68 ?_;refine utf 4 69 ?_;refine utf 5 70 ?_;refine utk 6 71 ?_;refine utf 7 72 ?_;refine utf 8 73 ?_;refine ur 9 rfl (by kernel_rfl) (fun K hK => ?_);go_simp;obtain ⟨w5, hw5⟩ : ∃ z, z = (wr.setCell ⟨g, a, none⟩ (.int .i64 (xi + 1))).drew := ⟨_, rfl⟩
         rw [← hw5];have HO5 := Lib.hid (show w5.ownsRow g 3 1 (.slice (some ⟨g, 0, none⟩) N N) N (((matTo E N k).set a (xi + 1)).map intV) by rw [hw5]; exact own_setI HO.out (xi + 1))
         have HG5 := Lib.hid (show w3.grownBy w5 (some g) by
          have h0 := grownT HBL.out (grownP wr g a (.int .i64 (xi + 1)));rw [hw5]
          exact ⟨h0.os, h0.tape, h0.output, h0.size, h0.block⟩)
         have hrb5 : w5.heap[gk]? = some (.cells #[.int .i64 (a : Int), .int .i64 xi, .int .i64 (b : Int), .int .i64 xq] 3 (0, 0)) := by rw [hw5]; exact (Below.heap_setCell _ _ _ _ hgkg).trans hrb
         have t2 : w5.cell? ⟨gk, 2, none⟩ = some (.int .i64 (b : Int)) := by rw [cell_of_row _ _ 2 _ _ (0, 0) hrb5]; rfl
         have t3 : w5.cell? ⟨gk, 3, none⟩ = some (.int .i64 xq) := by rw [cell_of_row _ _ 3 _ _ (0, 0) hrb5]; rfl
         obtain ⟨y5, hy5⟩ : ∃ y, ((matTo E N k).set a (xi + 1))[b]? = some y := ⟨_, List.getElem?_eq_getElem (by rw [List.length_set, matTo_len]; exact hbN)⟩
         have cb := own_cellI HO5.out hbN hy5;have fb := own_thaw HO5.out b;clear hw5 hy5 ca fa t0 t1 hrb hrb5;refine hK.out (fun h' => till_no h' (by kernel_rfl)) ?_;clear hK K
         try simp only [Act.put, pu]
         refine wpTill_done (by kernel_rfl) ?_ _;go_wp2_with fail;refine till_region (S := fun w' => w'.cell? ⟨gk, 2, none⟩ = some (.int .i64 (b : Int)) ∧ w'.cell? ⟨gk, 3, none⟩ = some (.int .i64 xq)) (st := 9) (by kernel_rfl) ⟨t2, t3⟩ (fun hHeld => ?_);refine utf 0 74 ?_;refine utf 1 75 ?_;refine utf 2 76 ?_;refine utk 3 77 ?_;refine utf 4 78 ?_;refine utf 5 79 ?_;refine utk 6 80 ?_;refine utf 7 81 ?_;refine utf 8 82 ?_;refine ur 9 rfl (by kernel_rfl) (fun K hK => ?_);go_simp;obtain ⟨w9, hw9⟩ : ∃ z, z = (w5.setCell ⟨g, b, none⟩ (.int .i64 (xq + 1))).drew := ⟨_, rfl⟩
         rw [← hw9];have HO9 := Lib.hid (show w9.ownsRow g 3 1 (.slice (some ⟨g, 0, none⟩) N N) N ((((matTo E N k).set a (xi + 1)).set b (xq + 1)).map intV) by rw [hw9]; exact own_setI HO5.out (xq + 1))
         have HG9 := Lib.hid (show w3.grownBy w9 (some g) by
          have h0 := grownT HG5.out (grownP w5 g b (.int .i64 (xq + 1)));rw [hw9]
          exact ⟨h0.os, h0.tape, h0.output, h0.size, h0.block⟩)
         clear hw9 cb fb t2 t3;refine hK.out (fun h' => till_no h' (by kernel_rfl)) ?_;clear hK K
         try simp only [Act.put, pu]
         refine wpTill_done (by kernel_rfl) ?_ _;go_wp2_with fail;go_roundw
         case rel => exact ⟨k + 1, by omega, by go_num, by rw [HM2.out]; exact HO9.out, HG9.out⟩
         case measure => simp [intOf]; omega
        ·
         have HM2 := Lib.hid (show matTo E N (k + 1) = matTo E N k by rw [HM.out, if_neg (fun h => hyb h.2)]);have j0 : (yb == 0) = false := by simpa using hyb
         go_wp2_with fail;go_roundw
         case rel => exact ⟨k + 1, by omega, by go_num, by rw [HM2.out]; exact HO.out, HBL.out⟩
         case measure => simp [intOf]; omega
       ·
        have HM2 := Lib.hid (show matTo E N (k + 1) = matTo E N k by rw [HM.out, if_neg (fun h => hya h.1)]);have j0 : (ya == 0) = false := by simpa using hya
        go_wp2_with fail;go_roundw
        case rel => exact ⟨k + 1, by omega, by go_num, by rw [HM2.out]; exact HO.out, HBL.out⟩
        case measure => simp [intOf]; omega
      ·
       obtain rfl : k = E.length := by omega
       have HR := Lib.hid (show wr.ownsRow w.heap.size 3 1 (.slice (some ⟨g, 0, none⟩) N N) N ((legL n 4).map intV) by rw [HL.out, ← HNN.out]; exact own_mono HO.out (by omega));have HB := Lib.hid (Below.grown HB3.out HBL.out (by omega) (fun k hk => by have e := Option.some.inj (show some g = some k from hk); omega));have hkk : ((E.length : Int) < (E.length : Int)) = False := eq_false (by omega);go_wp2_with fail;go_ret;exact ⟨_, rfl, HR.out, HB.out⟩
    ·
     have k4 : (r = 4) = False := eq_false r4
     have HR := Lib.hid (show w1.ownsRow w.heap.size 3 1 (.slice (some ⟨g, 0, none⟩) N N) N ((legL n r).map intV) by
      unfold legL;rw [if_neg r1, if_neg r2, if_neg r3, if_neg r4, ← HNN.out]
      exact own_mono H1.out (by omega))
     have j1 : (r == 1) = false := by simpa using r1
     have j2 : (r == 2) = false := by simpa using r2
     have j3 : (r == 3) = false := by simpa using r3
     have j4 : (r == 4) = false := by simpa using r4
     clear r1 r2 r3 r4;have HB := Lib.hid hB1;go_enter Tryz.func58, Tryz.ntmps58;go_wp2_with fail;rw [← HW0.out, HG.out, ← HW1.out];go_ret;exact ⟨_, rfl, HR.out, HB.out⟩
end Go.Proofs.YtdghoienjegffaaGreat
