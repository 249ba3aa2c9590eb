/-
  Small lemmas and contracts that the texts of this claim share. No condition.
-/
import Derived.Test.YtdghoienjegffaaGreatREnMoveG
import Derived.Test.YtdghoienjegffaaGreatRLegAG
namespace Go.Proofs.YtdghoienjegffaaGreat
open Go.RowKit
set_option linter.all false
def LiRel (xs : Nat → List Int) (N K g B : Nat) (w : World) (i : Value) (wr : World) : Prop := ∃ k : Nat, k ≤ K ∧ i = .int .i64 k ∧ wr.ownsRow B 3 1 (.slice (some ⟨g, 0, none⟩) N N) N ((xs k).map intV) ∧ w.grownBy wr (some g)
theorem leg3 (n : Net) : legL n 3 = onesTo (grTo n n.es.length) n.es.length (grTo n n.es.length).length := by unfold legL;rw [if_neg (by omega), if_neg (by omega), if_pos rfl]
set_option maxRecDepth 100000 in
set_option maxHeartbeats 1500000 in
theorem impl_LegalStateOf (ve vi vn : Value) (n : Net) (r : Int) (w : World) (h : NetR w w.heap.size ve vi vn n) (hz : n.es.length ≤ 2000000) (hzi : n.ids.length ≤ 2000000) :
  Calls Tryz.prog 20 #[.agg #[ve, vi, vn], .int .i64 r] w (LgPost n r w) := by
 obtain ⟨⟨A0, m0, c0, rfl⟩, ⟨A1, m1, c1, rfl⟩, A2, m2, c2, rfl⟩ := h.slices;obtain ⟨w0, hw0, hB, HD, hz0, HS0⟩ := box3 w (.slice A0 m0 c0) (.slice A1 m1 c1) (.slice A2 m2 c2) 27;have HN0 := Lib.hid h; have HN := Lib.hid (h.up hB); clear h;have HW0 := Lib.hid hw0; clear hw0;obtain ⟨q0, q1, q2, qf⟩ := cells3 HD;obtain ⟨hm0, -, -⟩ := HN.out.e.len_slice;subst hm0;go_enter Tryz.func20, Tryz.ntmps20;go_wp2_with fail;rw [← HW0.out];refine (impl_ruleOk _ _ _ n r w0 HN.out hz hzi).mono ?_;rintro e w1 ⟨rfl, hb1⟩;have hzhb1 := hb1.size;clear q0 q1 q2 qf;replace HD := bk HD hb1;replace HN := Lib.hid (HN.out.up hb1);replace hB := bl_trans hB hb1;obtain ⟨q0, q1, q2, qf⟩ := cells3 HD;cases ha : askB n r with
 | false =>
  have HT := Lib.hid ha;clear ha;go_wp2_with fail;exact bodyPost_ret (v := .tuple #[.slice none 0 0, .bool false]) (by simp [results, Tryz.results20, go_sem]) rfl (.bad HT.out hB)
 | true =>
  have HT := Lib.hid ha;have hask := propB_iff.1 ha;have h40 := hask.1.1;have hr5 := rule_five hask;have HAS := Lib.hid hask;clear ha hask;obtain ⟨N, hNN⟩ : ∃ z, z = n.es.length := ⟨_, rfl⟩
  have HNN := Lib.hid hNN;have hN40 : 1 ≤ N ∧ N ≤ 40 := by rw [hNN]; omega
  have hN0 := h40.1;go_wp2_with fail;refine (impl_numbersTo n.es.length w1 (by omega)).mono ?_;rintro e w2 ⟨rfl, hw2⟩;have hb2 : Below w1.heap.size w1 w2 := by rw [hw2]; exact bl_alloc (Below.refl _ _) _
  have HOR := Lib.hid (show NumsAt w2 w1.heap.size (plL n.es.length) by rw [hw2]; exact heap_alloc_new w1 _);obtain ⟨go, hgo⟩ : ∃ z, z = w1.heap.size := ⟨_, rfl⟩
  rw [← hgo] at HOR ⊢;have hgo2 : go < w2.heap.size := HOR.out.lt;clear hw2 hgo;have hzhb2 := hb2.size;clear q0 q1 q2 qf;replace HD := bk HD hb2;replace HN := Lib.hid (HN.out.up hb2);replace hB := bl_trans hB hb2;obtain ⟨q0, q1, q2, qf⟩ := cells3 HD;have hm2 := fun W => run_make1 (P := Tryz.prog) 25 3 (.int .i64 0) 8 Tryz.underlying25 intInfo rfl n.es.length (by omega) (by omega) W
  obtain ⟨w3, hw3⟩ : ∃ z, z = w2.alloc (.cells (rowOf [] n.es.length (.int .i64 0)) 3) := ⟨_, rfl⟩
  obtain ⟨g, hg⟩ : ∃ z, z = w2.heap.size := ⟨_, rfl⟩
  have hb3 : Below w2.heap.size w2 w3 := by rw [hw3]; exact bl_alloc (Below.refl _ _) _
  have H3 := Lib.hid (show w3.ownsRow g 3 1 (.slice (some ⟨g, 0, none⟩) n.es.length n.es.length) n.es.length ((List.replicate n.es.length (0 : Int)).map intV) by
   have h1 := own_madeN w2 3 n.es.length (.int .i64 0) (by unfold maxLen; omega);rw [← hw3, ← hg] at h1
   rw [List.map_replicate]; exact h1)
  have HW3 := Lib.hid hw3;have hgg : w2.heap.size ≤ g ∧ g ≤ w2.heap.size := by omega
  have HG := Lib.hid hg
  have HOR3 := Lib.hid (show IntsR w3 w3.heap.size (.slice (some ⟨go, 0, none⟩) n.es.length n.es.length) (plL n.es.length) from by
   have h1 := own_nums (base := go) (HOR.out.keep (hb3.block go hgo2)) (Nat.le_refl _) (by rw [plL_len]; omega);have h2 := own_intsR h1 (plL_I64 (by omega));rw [plL_len] at h2
   exact h2)
  have hg3 : g < w3.heap.size := (H3.out.lt g rfl).2;clear hw3 hg;go_upto_region 5 with fail;rw [← HG.out, ← HW3.out];clear hm2;have hzhb3 := hb3.size;clear q0 q1 q2 qf;replace HD := bk HD hb3;replace HN := Lib.hid (HN.out.up hb3);replace hB := bl_trans hB hb3;obtain ⟨q0, q1, q2, qf⟩ := cells3 HD;have HWB := Lib.hid hB;have hzwg : w.heap.size ≤ g := by have := hB.size; omega
  rcases hr5 with rfl | rfl | rfl | rfl | rfl
  ·
   go_wp2_with fail;refine (impl_treeStates _ _ _ n w3 HN.out HAS.out.1).mono ?_;rintro e w4 ⟨u, rfl, hu, hb4⟩;obtain ⟨Au, mu, cu, rfl⟩ := hu.isSlice
   have HF := Lib.hid (show IntsR w4 w4.heap.size (.slice Au mu cu) (legL n 1) by
    have e : legL n 1 = farT n := by unfold legL; rw [if_pos rfl]
    rw [e]; exact hu)
   have HB4 := Lib.hid (bl_trans hB hb4);clear hu hb4 q0 q1 q2 qf;go_wp2_with fail;exact bodyPost_ret (v := .tuple #[.slice Au mu cu, .bool true]) (by simp [results, Tryz.results20, go_sem]) rfl (.good HT.out HB4.out ⟨_, _, _, rfl⟩ HF.out)
  ·
   go_wp2_with fail;refine (impl_greedyColouring _ _ _ _ n w3 HN.out HAS.out.1 HAS.out.2.2.1 HOR3.out).mono ?_;rintro e w4 ⟨gc, rfl, hu, hb4⟩
   have HF := Lib.hid (show IntsR w4 w4.heap.size (.slice (some ⟨gc, 0, none⟩) n.es.length n.es.length) (legL n 2) by
    rw [col_leg]
    exact own_intsR hu (fun x hx => by have := colTo_bd HAS.out.1 _ x hx; exact ⟨by omega, by omega⟩))
   have HB4 := Lib.hid (bl_trans hB hb4);clear hu hb4 q0 q1 q2 qf;go_wp2_with fail;exact bodyPost_ret (v := .tuple #[.slice (some ⟨gc, 0, none⟩) n.es.length n.es.length, .bool true]) (by simp [results, Tryz.results20, go_sem]) rfl (.good HT.out HB4.out ⟨_, _, _, rfl⟩ HF.out)
  ·
   go_wp2_with fail;refine (impl_greedyIndependent _ _ _ _ n w3 HN.out HAS.out.1 HAS.out.2.2.1 HOR3.out).mono ?_;rintro e w4 ⟨gs, cs, rfl, hgs, hu, hb4⟩;obtain ⟨L, hL⟩ : ∃ z, z = (grTo n n.es.length).length := ⟨_, rfl⟩
   have HL := Lib.hid hL;have hLn : L ≤ n.es.length := by rw [hL]; exact grTo_len n _
   obtain ⟨As', cs', e0, -, -, h3⟩ := hu.open_;obtain ⟨rfl, -, rfl⟩ := Value.slice.inj e0
   have HSC := Lib.hid (show ∀ k x, (grTo n n.es.length)[k]? = some x → w4.cell? ⟨gs, k, none⟩ = some (.int .i64 x) ∧ gs < w4.heap.size from fun k x hx => by
    obtain ⟨ad, ead, hlt, hc⟩ := h3 (by have := (List.getElem?_eq_some_iff.1 hx).1; omega);obtain rfl := Option.some.inj ead;have h5 := hc k x hx;rw [show (⟨gs, 0, none⟩ : Addr).add k = ⟨gs, k, none⟩ by unfold Addr.add; split <;> simp_all] at h5
    exact ⟨h5, hlt⟩)
   have H4 := Lib.hid (show w4.ownsRow g 3 1 (.slice (some ⟨g, 0, none⟩) n.es.length n.es.length) n.es.length ((onesTo (grTo n n.es.length) n.es.length 0).map intV) from own_upN H3.out hb4);have hz4 := hb4.size;have HB4 := Lib.hid (bl_trans hB hb4);rw [← hL];clear hu h3 e0 hb4 hL q0 q1 q2 qf;go_wp2_with fail;go_loopw [9, 44] (fun _ i wr => LiRel (onesTo (grTo n n.es.length) n.es.length) n.es.length L g g w4 i wr) (fun _ i _ => L - (intOf i).toNat)
   case atStart => exact ⟨0, Nat.zero_le _, rfl, H4.out, grown_belowN (Below.refl _ _) _⟩
   case round =>
    obtain ⟨k, hk, rfl, hown, hgr⟩ := hrel;have HO := Lib.hid hown;have HGR := Lib.hid hgr;have HBR := Lib.hid (show Below w.heap.size w wr from Below.grown HB4.out hgr HB4.out.size (fun j hj => by have e := Option.some.inj (show some g = some j from hj); omega));clear hown;by_cases hlt : k < L
    ·
     obtain ⟨x, hx⟩ : ∃ x, (grTo n n.es.length)[k]? = some x := ⟨_, List.getElem?_eq_getElem (by rw [← HL.out]; exact hlt)⟩
     have hxm := grTo_mem n n.es.length x (List.mem_of_getElem? hx);obtain ⟨v, rfl⟩ : ∃ v : Nat, x = (v : Int) := ⟨x.toNat, by omega⟩
     have hv : v < n.es.length := by omega
     have hsc := HSC.out k _ hx;have hcell : wr.cell? ⟨gs, k, none⟩ = some (.int .i64 (v : Int)) := by have h1 := hgr.block gs hsc.2 (fun e => by have e' : gs = g := Option.some.inj e; omega);rw [← hsc.1];simp only [World.cell?, h1]
     have HST := Lib.hid (show onesTo (grTo n n.es.length) n.es.length (k + 1) = (onesTo (grTo n n.es.length) n.es.length k).set v 1 by rw [onesTo_succ hx, Int.toNat_natCast]);have ci := own_cellI HO.out hv (List.getElem?_eq_getElem (by rw [onesTo_len]; exact hv));have fi := own_thaw HO.out v;clear hx hsc;go_wp2_with fail;go_roundw
     case rel => exact ⟨k + 1, by omega, by go_num, by rw [HST.out]; exact own_setI HO.out 1, grownT HGR.out (grownP wr g v _)⟩
     case measure => simp [intOf]; omega
    ·
     obtain rfl : k = L := by omega
     have hkk : ((k : Int) < (k : Int)) = False := eq_false (by omega);have HF := Lib.hid (show IntsR wr wr.heap.size (.slice (some ⟨g, 0, none⟩) n.es.length n.es.length) (legL n 3) from own_intsR (show wr.ownsRow g 3 1 (.slice (some ⟨g, 0, none⟩) n.es.length n.es.length) n.es.length ((legL n 3).map intV) by rw [leg3, ← HL.out]; exact HO.out) (leg_i64 HAS.out.1 3));go_wp2_with fail;exact bodyPost_ret (v := .tuple #[.slice (some ⟨g, 0, none⟩) n.es.length n.es.length, .bool true]) (by simp [results, Tryz.results20, go_sem]) rfl (.good HT.out HBR.out ⟨_, _, _, rfl⟩ HF.out)
  ·
   go_wp2_with fail;refine (impl_GreedyMatching _ _ _ n w3 HN.out HAS.out.1 HAS.out.2.2.1 hzi).mono ?_;rintro e w4 ⟨um, rfl, ⟨gm, rfl, hgm⟩, hom, hb4⟩;obtain ⟨M, hM⟩ : ∃ z, z = matTo (edV n n.es.length) n.es.length (edV n n.es.length).length := ⟨_, rfl⟩
   have HMT := Lib.hid hM;have HMO := Lib.hid (show MatOk n M by rw [hM]; exact mat_ok HAS.out.1 HAS.out.2.2.1 _)
   have HPO := Lib.hid (show ∀ (v : Nat) (s : Int) (e : Int × Int), M[v]? = some s → 0 < s → (rowAt n v)[(s - 1).toNat]? = some e → (v : Int) < e.1 → portI (isE e.1.toNat) (rowAt n v) = s - 1 from fun v s e h1 h2 h3 h4 => by
    rw [hM] at h1
    exact port_par HAS.out.1 HAS.out.2.2.1 h1 h2 h3 h4)
   have HOM := Lib.hid hom;have H4 := Lib.hid (show w4.ownsRow g 3 1 (.slice (some ⟨g, 0, none⟩) n.es.length n.es.length) n.es.length ((outTo n M 0).map intV) by rw [outTo_zero]; exact own_upN H3.out hb4);have hgml : gm < w4.heap.size := (hom.lt gm rfl).2;have hz4 := hb4.size;have HB4 := Lib.hid (bl_trans hB hb4);have HD4 := bk HD hb4;clear hom hb4 hM q0 q1 q2 qf;go_wp2_with fail;go_loopw [61] (fun i wr => LiRel (outTo n M) n.es.length n.es.length g g w4 i wr) (fun i _ => n.es.length - (intOf i).toNat)
   case atStart => exact ⟨0, Nat.zero_le _, rfl, H4.out, grown_belowN (Below.refl _ _) _⟩
   case round =>
    obtain ⟨k, hk, rfl, hown, hgr⟩ := hrel;have HO := Lib.hid hown;have HGR := Lib.hid hgr;have hszr := hgr.size;have hBr : Below w.heap.size w wr := Below.grown HB4.out hgr HB4.out.size (fun j hj => by have e := Option.some.inj (show some g = some j from hj); omega);have HBR := Lib.hid hBr;have HNR := Lib.hid (HN0.out.up hBr);have HDr := Lib.hid ((hgr.block w.heap.size (by omega) (fun e => by have e' : w.heap.size = g := Option.some.inj e; omega)).trans HD4.out);obtain ⟨q0, q1, q2, qf⟩ := cells3 HDr;clear hown hBr;by_cases hlt : k < n.es.length
    ·
     obtain ⟨s, hs⟩ : ∃ s, M[k]? = some s := ⟨_, List.getElem?_eq_getElem (by rw [HMO.out.1]; exact hlt)⟩
     have hs0 := (HMO.out.2 k s hs).1;have hmt := mtL_at (n := n) (k := (edV n n.es.length).length) hlt;rw [← HMT.out, getD_at hs] at hmt;have hmr := HOM.out.kept hgr (.inr fun e => by have e' : gm = g := Option.some.inj e; omega);have cm := own_cellI hmr hlt hmt;have hl := rowAt_lt hlt;have hl6 := HAS.out.1.len hl;have hgrl : g < wr.heap.size := (HO.out.lt g rfl).2;clear hmr hmt;by_cases h0 : 0 < s
     ·
      obtain ⟨i, rfl⟩ : ∃ i : Nat, s = (i : Int) + 1 := ⟨(s - 1).toNat, by omega⟩
      rw [show (i : Int) + 1 - 1 = (i : Int) by omega] at cm;obtain ⟨e, he, hpar, hmu⟩ := par_end HMO.out hs h0;have hen := HAS.out.1.endsIn _ (List.mem_of_getElem? hl) e (List.mem_of_getElem? he);have hne := adj_ne HAS.out.1 HAS.out.2.2.1 ⟨_, hl, e, List.mem_of_getElem? he, rfl⟩;have hq5 := (HAS.out.1.2.2.2.2 k _ hl).2 _ e he;have hpt := HPO.out _ _ _ hs h0 he;rw [show ((i : Int) + 1 - 1).toNat = i by omega] at he;obtain ⟨e1, q⟩ := e;obtain ⟨u, rfl⟩ : ∃ u : Nat, e1 = (u : Int) := ⟨e1.toNat, by have := hen.1; simp only at this; omega⟩
      simp only [Int.toNat_natCast] at hpar hmu hen hne hpt;have hul : u < n.es.length := hen.2;have hqb : 0 ≤ q ∧ q ≤ 6 := by obtain ⟨-, a, m, hm, hm2⟩ := hq5;have h1 := HAS.out.1.len hm;have h2 := (List.getElem?_eq_some_iff.1 hm2).1;simp only at a h2;omega
      have hil : i < (rowAt n k).length := (List.getElem?_eq_some_iff.1 he).1;obtain ⟨ad, rfl⟩ := HNR.out.e.some_ (by omega);obtain ⟨hab, ur, hur, hr⟩ := HNR.out.e.at_ hl;have HR := Lib.hid hr;obtain ⟨A', c', rfl, hlc, hlm, -, h4⟩ := hr;unfold maxLen at hlm;obtain ⟨b, o', rfl, -, -⟩ := h4 (by omega);obtain ⟨hbb', p0, p1⟩ := HR.out.at_ he;dsimp only at p0 p1;have HPH := Lib.hid (And.intro hpar (And.intro hmu hs));have HPT := Lib.hid hpt;have HLE := Lib.hid (And.intro hl he);clear hpar hmu hpt hs hen hq5 h4 hl he;by_cases hc : u < k
      ·
       have hc' : ((u : Int) < (k : Int)) = True := eq_true (by omega);have HSK := Lib.hid (out_skip HMO.out HAS.out.1 (k := k) fun t _ _ => by rw [HPH.out.1]; exact hc);go_wp2_with fail;go_roundw
       case rel => exact ⟨k + 1, by omega, by go_num, by rw [HSK.out]; exact HO.out, HGR.out⟩
       case measure => simp [intOf]; omega
      ·
       have hc' : ((u : Int) < (k : Int)) = False := eq_false (by omega);have hku : k < u := by omega
       have HST := Lib.hid (show outTo n M (k + 1) = ((outTo n M k).set k ((i : Int) + 1)).set u (q + 1) by
        have h1 := out_set HMO.out HAS.out.1 HPH.out.2.2 (by omega) (by rw [HPH.out.1]; exact hku);rw [HPH.out.1, HPH.out.2.1] at h1
        exact h1)
       have HPI := Lib.hid (show portI (isE (u : Int)) (rowAt n k) = (i : Int) by
        rw [HPT.out (by omega)]
        omega)
       go_upto_region 22 with fail;refine wp_region_held_drew (S := fun w' => w'.cell? ⟨w.heap.size, 0, none⟩ = some (.slice (some ad) n.es.length c0) ∧ w'.cell? ⟨w.heap.size, 1, none⟩ = some (.slice A1 m1 c1) ∧ w'.cell? ⟨w.heap.size, 2, none⟩ = some (.slice A2 m2 c2) ∧ w'.cell? (ad.add k) = some (.slice (some ⟨b, o', none⟩) (rowAt n k).length c') ∧ w'.cell? ⟨b, o' + i * 2, none⟩ = some (.int .i64 (u : Int)) ∧ w'.cell? ⟨b, o' + i * 2 + 1, none⟩ = some (.int .i64 q)) (by kernel_rfl) ?_ (fun hHeld => ?_)
       · go_keep
       refine stk 0 81 ?_;refine stk 1 82 ?_;refine stk 2 83 ?_;refine stk 3 84 ?_;refine stk 4 85 ?_;refine stk 5 86 ?_;refine stk 6 87 ?_;refine stk 7 88 ?_;refine stk 8 89 ?_;refine stk 9 90 ?_;refine stk 10 91 ?_;refine tr 11 rfl (by kernel_rfl) (fun K hK => ?_);go_simp;go_at_call 56;refine (impl_portTo _ _ _ n k u (rowAt n k) wr.drew (HNR.out.up (Below.refl _ _).drew) HAS.out.1 HLE.out.1).mono ?_;rintro e' w5 ⟨rfl, hb5'⟩;have hb5 : Below wr.heap.size wr w5 := (Below.refl _ _).drew.trans hb5';clear hb5';rw [HPI.out];have HO5 := Lib.hid (own_upN HO.out hb5);have HG5 := Lib.hid (grownT HGR.out (grown_belowN hb5 (some g)));have hz5 := hb5.size;replace hur := (hb5.cell (p := ad.add k) (by rw [block_add]; exact hab)).trans hur;replace p0 := (hb5.cell (by exact hbb')).trans p0;replace p1 := (hb5.cell (by exact hbb')).trans p1;have HD5 := bk HDr hb5;clear q0 q1 q2 qf hb5;obtain ⟨q0, q1, q2, qf⟩ := cells3 HD5;refine hK.out _ _ ?_ (fun hHeld => ?_)
       · go_keep
       clear hK K
       try simp only [Act.put, pu]
       refine stk 12 14 ?_;refine wpAnyH_done (by kernel_rfl) ?_ _;obtain ⟨w6, hw6, hb6, HE6, hz6, HS6⟩ := box2 w5 (.int .i64 (u : Int)) (.int .i64 q) 74;have HW6 := Lib.hid hw6;have HO6 := Lib.hid (own_upN HO5.out hb6);have HG6 := Lib.hid (grownT HG5.out (grown_belowN hb6 (some g)));obtain ⟨d0, d1, df⟩ := cells2 HE6;clear hw6 hb6;go_upto_region 24 with fail;rw [← HW6.out];have hgq : g ≠ w5.heap.size := by omega
       have fa := own_thaw HO6.out k;have fb := own_thaw HO6.out u;have ca := own_cellI HO6.out hlt (List.getElem?_eq_getElem (by rw [outTo_len]; exact hlt));have cb := own_cellI HO6.out hul (List.getElem?_eq_getElem (by rw [outTo_len]; exact hul));clear q0 q1 q2 qf p0 p1 hur;refine wp_region_held_drew (S := fun w' => w'.cell? ⟨w5.heap.size, 0, none⟩ = some (.int .i64 (u : Int)) ∧ w'.cell? ⟨w5.heap.size, 1, none⟩ = some (.int .i64 q)) (by kernel_rfl) ?_ (fun hHeld => ?_)
       · go_keep
       refine stk 0 101 ?_;refine stk 1 102 ?_;refine stk 2 103 ?_;refine stk 3 104 ?_;refine stk 4 105 ?_;refine stk 5 106 ?_;refine stk 6 107 ?_;refine stk 7 108 ?_;refine stk 8 109 ?_;refine stk 9 110 ?_;refine stk 10 111 ?_;refine tr 11 rfl (by kernel_rfl) (fun K hK => ?_);go_simp
       
       refine hK.out _ _ ?_ (fun hHeld => ?_)
       · go_keep
       clear hK K
       try simp only [Act.put, pu]
       refine stk 12 112 ?_;refine tr 13 rfl (by kernel_rfl) (fun K hK => ?_);go_simp
       
       refine hK.out _ _ ?_ (fun hHeld => ?_)
       · go_keep
       clear hK K
       try simp only [Act.put, pu]
       refine wpAnyH_done (by kernel_rfl) ?_ _;have HO7 := Lib.hid (own_setI (k := u) (own_setI (k := k) HO6.out ((i : Int) + 1)) (q + 1));have HG7 := Lib.hid (grownT (grownT HG6.out (grownP w6 g k (.int .i64 ((i : Int) + 1)))) (grownP _ g u (.int .i64 (q + 1))));go_wp2_with fail;go_roundw
       case rel => exact ⟨k + 1, by omega, by go_num, by rw [HST.out]; exact HO7.out, ⟨HG7.out.os, HG7.out.tape, HG7.out.output, HG7.out.size, HG7.out.block⟩⟩
       case measure => simp [intOf]; omega
     ·
      obtain rfl : s = 0 := by omega
      have HSK := Lib.hid (out_skip HMO.out HAS.out.1 (k := k) fun t ht h1 => by
       obtain rfl := Option.some.inj (hs.symm.trans ht)
       omega)
      rw [show (0 : Int) - 1 = -1 by omega] at cm;clear hs hl;go_wp2_with fail;go_roundw
      case rel => exact ⟨k + 1, by omega, by go_num, by rw [HSK.out]; exact HO.out, HGR.out⟩
      case measure => simp [intOf]; omega
    ·
     obtain rfl : k = n.es.length := by omega
     have hkk : ((n.es.length : Int) < (n.es.length : Int)) = False := eq_false (by omega);have HF := Lib.hid (show IntsR wr wr.heap.size (.slice (some ⟨g, 0, none⟩) n.es.length n.es.length) (legL n 4) from own_intsR (show wr.ownsRow g 3 1 (.slice (some ⟨g, 0, none⟩) n.es.length n.es.length) n.es.length ((legL n 4).map intV) by rw [mat_leg, ← HMT.out, ← outTo_all HMO.out]; exact HO.out) (leg_i64 HAS.out.1 4));go_wp2_with fail;exact bodyPost_ret (v := .tuple #[.slice (some ⟨g, 0, none⟩) n.es.length n.es.length, .bool true]) (by simp [results, Tryz.results20, go_sem]) rfl (.good HT.out HBR.out ⟨_, _, _, rfl⟩ HF.out)
  · have HF := Lib.hid (show IntsR w3 w3.heap.size (.slice (some ⟨g, 0, none⟩) n.es.length n.es.length) (legL n 5) from own_intsR (show w3.ownsRow g 3 1 (.slice (some ⟨g, 0, none⟩) n.es.length n.es.length) n.es.length ((legL n 5).map intV) by rw [zero_leg]; exact H3.out) (leg_i64 HAS.out.1 5));go_wp2_with fail;exact bodyPost_ret (v := .tuple #[.slice (some ⟨g, 0, none⟩) n.es.length n.es.length, .bool true]) (by simp [results, Tryz.results20, go_sem]) rfl (.good HT.out HWB.out ⟨_, _, _, rfl⟩ HF.out)
end Go.Proofs.YtdghoienjegffaaGreat
namespace Go.Proofs.YtdghoienjegffaaGreat
open Go.RowKit
set_option linter.all false
set_option maxRecDepth 100000 in
theorem closure_zero (P a p b q cs : Nat) (sd : Addr) (ss : List Int) (w : World) (hp : w.cell? ⟨P, 0, none⟩ = some (.slice (some sd) ss.length cs)) (hs : IntsR w w.heap.size (.slice (some sd) ss.length cs) ss) (ha : a < ss.length) (hb : b < ss.length) :
  Calls Tryz.prog 73 #[.agg #[.int .i64 (a : Int), .int .i64 (p : Int), .int .i64 (b : Int), .int .i64 (q : Int)], .pointer (some ⟨P, 0, none⟩)] w fun e w' => e = .returned (.bool (zeroE ss ((a : Int), (p : Int), (b : Int), (q : Int)))) ∧ Below w.heap.size w w' := by
 obtain ⟨x, hx⟩ : ∃ x, ss[a]? = some x := ⟨_, List.getElem?_eq_getElem ha⟩
 obtain ⟨y, hy⟩ : ∃ y, ss[b]? = some y := ⟨_, List.getElem?_eq_getElem hb⟩
 obtain ⟨-, -, -, hcs⟩ := hs.some_;obtain ⟨sd', e', hsb, hsc⟩ := hcs (by omega);obtain rfl : sd = sd' := by simpa using e'
 have HR := Lib.hid (show ((x == 0) && (y == 0)) = zeroE ss ((a : Int), (p : Int), (b : Int), (q : Int)) by unfold zeroE; simp only [Int.toNat_natCast]; rw [getD_at hx, getD_at hy]);obtain ⟨wv, hwv, hbv, HEB, hzv⟩ := box4 w (.int .i64 (a : Int)) (.int .i64 (p : Int)) (.int .i64 (b : Int)) (.int .i64 (q : Int)) 87;obtain ⟨d0, d1, d2, d3⟩ := cells4 HEB;have hP := (hbv.cell (p := ⟨P, 0, none⟩) (World.block_lt_of_cell? _ _ hp)).trans hp;have hc := (hbv.cell (p := sd.add a) (by rw [block_add]; exact hsb)).trans (hsc a x hx);have hc2 := (hbv.cell (p := sd.add b) (by rw [block_add]; exact hsb)).trans (hsc b y hy);clear hx hy hsc hcs e' hs hp HEB hzv;subst hwv;cases hq : (x == 0) with
 | false =>
  have HF := Lib.hid (show false = zeroE ss ((a : Int), (p : Int), (b : Int), (q : Int)) by rw [← HR.out, hq]; rfl);go_enter Tryz.func73, Tryz.ntmps73;go_wp2_with fail;go_ret;exact ⟨ret_bool HF.out, hbv⟩
 | true =>
  have HF := Lib.hid (show (y == 0) = zeroE ss ((a : Int), (p : Int), (b : Int), (q : Int)) by rw [← HR.out, hq]; rfl);go_enter Tryz.func73, Tryz.ntmps73;go_wp2_with fail;go_ret;exact ⟨ret_bool HF.out, hbv⟩
def IgRel (n : Net) (ss : List Int) (w : World) (i : Value) (wr : World) : Prop := ∃ k : Nat, k ≤ ss.length ∧ i = .int .i64 k ∧ MutTo n ss k ∧ Below w.heap.size w wr
set_option maxRecDepth 100000 in
set_option maxHeartbeats 2000000 in
theorem impl_isLegal (ve vi vn vs : Value) (n : Net) (r : Int) (ss : List Int) (w : World) (h : NetR w w.heap.size ve vi vn n) (ha : askP n r) (hs : IntsR w w.heap.size vs ss) (hS : Sts (cnts n r) ss) :
  Calls Tryz.prog 38 #[.agg #[ve, vi, vn], .int .i64 r, vs] w fun e w' => e = .returned (.bool (legB n r ss)) ∧ Below w.heap.size w w' := by
 have hp := ha.1;have h40 := hp.1;have hr15 := ha.2.1;have HA := Lib.hid ha;have HST := Lib.hid (hS.stB hp);have HP := Lib.hid hp;have HS := Lib.hid hS; clear hS ha hp;have HSS := Lib.hid hs;obtain ⟨As, cs, rfl, -, -, hsc⟩ := hs.open_;have hssl : n.es.length ≤ ss.length ∧ ss.length ≤ n.es.length := by have := HST.out.1; omega
 obtain ⟨sd, rfl, hsb, hsx⟩ := hsc (by omega);have HSX := Lib.hid hsx; clear hs hsc hsx;obtain ⟨⟨A0, m0, c0, rfl⟩, ⟨A1, m1, c1, rfl⟩, A2, m2, c2, rfl⟩ := h.slices;obtain ⟨w0, hw0, hB, HD, hz0, HS0⟩ := box3 w (.slice A0 m0 c0) (.slice A1 m1 c1) (.slice A2 m2 c2) 27;have HN0 := Lib.hid h; have HN := Lib.hid (h.up hB); clear h;have HW0 := Lib.hid hw0; clear hw0;obtain ⟨q0, q1, q2, qf⟩ := cells3 HD;obtain ⟨hm0, -, -⟩ := HN.out.e.len_slice;subst hm0;obtain ⟨w1, hw1, hb1, HB1, hz1, HS1⟩ := box1 w0 (.slice (some sd) ss.length cs) 25;have HW1 := Lib.hid hw1; clear hw1;have hs0 := HS0.out;have q3 : w1.cell? ⟨w.heap.size + 1, 0, none⟩ = some (.slice (some sd) ss.length cs) := by rw [← hs0]; exact cell_of_row _ _ 0 _ _ (0, 0) HB1.out
 have q3l : w.heap.size + 1 < w1.heap.size := by omega
 clear hs0;have hzhb1 := hb1.size;clear q0 q1 q2 qf;replace HD := bk HD hb1;replace HN := Lib.hid (HN.out.up hb1);replace hB := bl_trans hB hb1;obtain ⟨q0, q1, q2, qf⟩ := cells3 HD;have HI := Lib.hid ((HSS.out.below hB).more hB.size);go_enter Tryz.func38, Tryz.ntmps38;by_cases r1 : r = 1
 ·
  subst r1;go_wp2_with fail;rw [← HW0.out, ← HW1.out];refine wp_region_held_drew (S := fun w' => w'.cell? ⟨w.heap.size, 0, none⟩ = some (.slice A0 n.es.length c0) ∧ w'.cell? ⟨w.heap.size, 1, none⟩ = some (.slice A1 m1 c1) ∧ w'.cell? ⟨w.heap.size, 2, none⟩ = some (.slice A2 m2 c2) ∧ w'.cell? ⟨w.heap.size + 1, 0, none⟩ = some (.slice (some sd) ss.length cs)) (by kernel_rfl) ?_ (fun hHeld => ?_)
  · go_keep
  refine stk 0 14 ?_;refine stk 1 15 ?_;refine tr 2 rfl (by kernel_rfl) (fun K hK => ?_);go_simp;go_at_call 52;refine (impl_treeStates _ _ _ n w1.drew (HN.out.up (Below.refl _ _).drew) HP.out).mono ?_;rintro e w2 ⟨u, rfl, hu, hb2'⟩;have hb2 : Below w1.heap.size w1 w2 := (Below.refl _ _).drew.trans hb2';clear hb2';have HU := Lib.hid hu; clear hu;replace HI := Lib.hid ((HI.out.below hb2).more hb2.size);replace q3 := (hb2.cell (p := ⟨w.heap.size + 1, 0, none⟩) q3l).trans q3;have hzhb2 := hb2.size;clear q0 q1 q2 qf;replace HD := bk HD hb2;replace HN := Lib.hid (HN.out.up hb2);replace hB := bl_trans hB hb2;obtain ⟨q0, q1, q2, qf⟩ := cells3 HD;refine hK.out _ _ ?_ (fun hHeld => ?_)
  · go_keep
  clear hK K
  try simp only [Act.put, pu]
  refine tr 3 rfl (by kernel_rfl) (fun K hK => ?_);go_simp;go_at_call 67;refine (impl_Equal _ _ ss (farT n) w2 HI.out HU.out).mono ?_;rintro e w3 ⟨rfl, m, rfl⟩;refine hK.out _ _ ?_ (fun hHeld => ?_)
  · go_keep
  clear hK K
  try simp only [Act.put, pu]
  refine stk 4 6 ?_;refine wpAnyH_done (by kernel_rfl) ?_ _;go_wp2_with fail;go_ret;exact ⟨ret_bool (by rw [← propB_dec]; rfl), bl_drewN hB _⟩
 by_cases r2 : r = 2
 ·
  subst r2;go_wp2_with fail;rw [← HW0.out, ← HW1.out];refine (impl_isColouring _ _ _ _ n ss w1 HN.out HP.out HI.out HST.out).mono ?_;rintro e w2 ⟨rfl, hb2⟩
  have HF := Lib.hid (show (!propB (clashP n ss)) = legB n 2 ss by
   by_cases hc : clashP n ss
   · rw [propB_t hc]; exact leg_f fun h => by unfold legP at h; rw [if_neg (by omega), if_pos rfl] at h; exact h hc
   · rw [propB_f hc]; exact leg_t (by unfold legP; rw [if_neg (by omega), if_pos rfl]; exact hc))
  go_wp2_with fail;go_ret;exact ⟨ret_bool HF.out, bl_trans hB hb2⟩
 by_cases r3 : r = 3
 ·
  subst r3;go_wp2_with fail;rw [← HW0.out, ← HW1.out];refine wp_region_held_drew (S := fun w' => w'.cell? ⟨w.heap.size, 0, none⟩ = some (.slice A0 n.es.length c0) ∧ w'.cell? ⟨w.heap.size, 1, none⟩ = some (.slice A1 m1 c1) ∧ w'.cell? ⟨w.heap.size, 2, none⟩ = some (.slice A2 m2 c2) ∧ w'.cell? ⟨w.heap.size + 1, 0, none⟩ = some (.slice (some sd) ss.length cs)) (by kernel_rfl) ?_ (fun hHeld => ?_)
  · go_keep
  refine stk 0 26 ?_;refine stk 1 27 ?_;refine tr 2 rfl (by kernel_rfl) (fun K hK => ?_);go_simp;go_at_call 70;refine (impl_nodesWith _ ss 1 w1.drew (HI.out.below (Below.refl _ _).drew) (by omega) (by omega)).mono ?_;rintro e w2 ⟨u, rfl, -, hu, -, hb2'⟩;have hb2 : Below w1.heap.size w1 w2 := (Below.refl _ _).drew.trans hb2';clear hb2';have HU := Lib.hid hu; clear hu;replace q3 := (hb2.cell (p := ⟨w.heap.size + 1, 0, none⟩) q3l).trans q3;replace q3l : w.heap.size + 1 < w2.heap.size := by have := hb2.size; omega
  have hzhb2 := hb2.size;clear q0 q1 q2 qf;replace HD := bk HD hb2;replace HN := Lib.hid (HN.out.up hb2);replace hB := bl_trans hB hb2;obtain ⟨q0, q1, q2, qf⟩ := cells3 HD;refine hK.out _ _ ?_ (fun hHeld => ?_)
  · go_keep
  clear hK K
  try simp only [Act.put, pu]
  refine tr 3 rfl (by kernel_rfl) (fun K hK => ?_);go_simp;go_at_call 69;refine (impl_IsMaximalIndependent _ _ _ _ n ss w2 HN.out HP.out HA.out.2.2.1 HST.out.1 HU.out).mono ?_;rintro e w3 ⟨rfl, hb3⟩;replace q3 := (hb3.cell (p := ⟨w.heap.size + 1, 0, none⟩) q3l).trans q3;have hzhb3 := hb3.size;clear q0 q1 q2 qf;replace HD := bk HD hb3;replace HN := Lib.hid (HN.out.up hb3);replace hB := bl_trans hB hb3;obtain ⟨q0, q1, q2, qf⟩ := cells3 HD;refine hK.out _ _ ?_ (fun hHeld => ?_)
  · go_keep
  clear hK K
  try simp only [Act.put, pu]
  refine stk 4 25 ?_;refine stk 5 30 ?_;refine stk 6 31 ?_;refine stk 7 7 ?_;refine stk 8 8 ?_;refine wpAnyH_done (by kernel_rfl) ?_ _
  have HF := Lib.hid (show propB (maxP n ss ∧ ¬ bothP n ss 1) = legB n 3 ss from propB_congr (by
   rw [leg34 (.inl rfl), ← set_legal HP.out HS.out]
   exact ⟨fun h => ⟨h, fun h3 => by omega⟩, fun h => h.1⟩))
  go_wp2_with fail;go_ret;exact ⟨ret_bool HF.out, hB⟩
 by_cases r5 : r = 5
 ·
  subst r5;go_wp2_with fail;rw [← HW0.out, ← HW1.out];refine (impl_enabledNodes _ _ _ _ n 5 ss w1 HN.out HA.out HI.out HS.out).mono ?_;rintro e w2 ⟨u, rfl, ⟨g, c, rfl, -⟩, hu, hb2⟩
  have HF := Lib.hid (show decide (((enS n 5 ss).length : Int) = 1) = legB n 5 ss by
   by_cases hc : (enS n 5 ss).length = 1
   · rw [decide_eq_true (by omega)]; exact leg_t (by unfold legP; rw [if_neg (by omega), if_neg (by omega), if_pos rfl]; exact hc)
   · rw [decide_eq_false (by omega)]; exact leg_f fun h => by unfold legP at h; rw [if_neg (by omega), if_neg (by omega), if_pos rfl] at h; exact hc h)
  clear hu;go_wp2_with fail;go_ret;exact ⟨ret_bool HF.out, bl_trans hB hb2⟩
 obtain rfl : r = 4 := by omega
 have HL4 := Lib.hid (leg34 (n := n) (ss := ss) (r := 4) (.inr rfl));go_wp2_with fail;rw [← HW0.out, ← HW1.out];have HQ3 := Lib.hid q3;clear q3;go_loopw [9, 10, 43] (fun _ _ i wr => IgRel n ss w1 i wr) (fun _ _ i _ => ss.length - (intOf i).toNat)
 case atStart => exact ⟨0, Nat.zero_le _, rfl, fun _ _ h => by omega, Below.refl _ _⟩
 case round =>
  obtain ⟨k, hk, rfl, hmt, hbl⟩ := hrel;have HMT := Lib.hid hmt; clear hmt;have q3 := (hbl.cell (p := ⟨w.heap.size + 1, 0, none⟩) q3l).trans HQ3.out;have hzhbl := hbl.size;clear q0 q1 q2 qf;replace HD := bk HD hbl;replace HN := Lib.hid (HN.out.up hbl);replace hB := bl_trans hB hbl;obtain ⟨q0, q1, q2, qf⟩ := cells3 HD;replace HI := Lib.hid ((HI.out.below hbl).more hbl.size);by_cases hlt : k < ss.length
  ·
   obtain ⟨s, hs⟩ : ∃ s, ss[k]? = some s := ⟨_, List.getElem?_eq_getElem hlt⟩
   have hcs := (hB.cell (p := sd.add k) (by rw [block_add]; exact hsb)).trans (HSX.out k s hs);by_cases hgt : 0 < s
   ·
    obtain ⟨l, hl⟩ : ∃ l, n.es[k]? = some l := ⟨_, List.getElem?_eq_getElem (by omega)⟩
    have hsl : s < (l.length : Int) + 1 := (HS.out.2 k ((l.length : Int) + 1) s (by unfold cnts degs; rw [if_neg (by omega), if_neg (by omega), if_pos rfl]; simp [hl]) hs).2;have hl6 := HP.out.len hl;obtain ⟨t, hst⟩ : ∃ t : Nat, s = (t : Int) + 1 := ⟨(s - 1).toNat, by omega⟩
    have htl : t < l.length := by omega
    obtain ⟨e, he⟩ : ∃ e, l[t]? = some e := ⟨_, List.getElem?_eq_getElem htl⟩
    obtain ⟨ad, rfl⟩ := HN.out.e.some_ (by omega);obtain ⟨hab, u, hu, hr⟩ := HN.out.e.at_ hl;have HR := Lib.hid hr;obtain ⟨A', c', rfl, hlc, hlm, -, h4⟩ := hr;unfold maxLen at hlm;obtain ⟨b, o', rfl, -, -⟩ := h4 (by omega);obtain ⟨hbb', p0, p1⟩ := HR.out.at_ he;obtain ⟨x', p, rfl, ht, hp5⟩ := end_at HP.out hl he;obtain ⟨x, hx, hx0, hx1⟩ := HST.out.at_ ht;have hcx := (hB.cell (p := sd.add x') (by rw [block_add]; exact hsb)).trans (HSX.out x' x hx);have hts : x' < ss.length := by omega
    have hks : k < n.es.length := by omega
    dsimp only at p0 p1;have hw0 : IntKind.i64.wrap (s - 1) = (t : Int) := by rw [show s - 1 = (t : Int) by omega]; exact IntWalk.i64_in _ (by omega)
    have hw1 : IntKind.i64.wrap ((p : Int) + 1) = (p : Int) + 1 := IntWalk.i64_in _ (by omega);have HPT := Lib.hid (show pointsTo ss ((n.es.getD k []).getD (s - 1).toNat (0, 0)) = (x == (p : Int) + 1) by rw [getDa hl, show (s - 1).toNat = t by omega, getDa he, pt_at hx]);have HK := Lib.hid hs;have HST2 := Lib.hid hst;clear hl he hs hst hx ht h4;go_wp2_with fail;refine wp_region_held_drew (S := fun w' => w'.cell? ⟨w.heap.size, 0, none⟩ = some (.slice (some ad) n.es.length c0) ∧ w'.cell? ⟨w.heap.size + 1, 0, none⟩ = some (.slice (some sd) ss.length cs) ∧ w'.cell? (ad.add k) = some (.slice (some ⟨b, o', none⟩) l.length c') ∧ w'.cell? (sd.add x') = some (.int .i64 x) ∧ w'.cell? ⟨b, o' + t * 2, none⟩ = some (.int .i64 (x' : Int)) ∧ w'.cell? ⟨b, o' + t * 2 + 1, none⟩ = some (.int .i64 (p : Int))) (by kernel_rfl) ?_ (fun hHeld => ?_)
    · go_keep
    refine stk 0 48 ?_;refine stk 1 49 ?_;refine stk 2 50 ?_;refine stk 3 51 ?_;refine stk 4 52 ?_;refine stk 5 53 ?_;refine stk 6 54 ?_;refine stk 7 55 ?_;refine stk 8 56 ?_;refine stk 9 57 ?_;refine stk 10 58 ?_;refine stk 11 59 ?_;refine stk 12 60 ?_;refine stk 13 61 ?_;refine stk 14 62 ?_;refine stk 15 63 ?_;refine stk 16 64 ?_;refine stk 17 65 ?_;refine stk 18 66 ?_;refine stk 19 67 ?_;refine stk 20 68 ?_;refine stk 21 69 ?_;refine stk 22 70 ?_;refine stk 23 71 ?_;refine stk 24 72 ?_;refine stk 25 73 ?_;refine stk 26 74 ?_;refine stk 27 75 ?_;refine stk 28 76 ?_;refine wpAnyH_done (by kernel_rfl) ?_ _;by_cases hxp : x = (p : Int) + 1
    ·
     have HQ := Lib.hid (show MutTo n ss (k + 1) from HMT.out.next HK.out fun _ => by rw [HPT.out, hxp]; simp);subst hxp;go_wp2_with fail;go_roundw
     case rel => exact ⟨k + 1, by omega, by go_num, HQ.out, hbl.drew⟩
     case measure => simp [intOf]; omega
    ·
     have HF := Lib.hid (show false = legB n 4 ss from leg_f fun h => by
      rw [HL4.out] at h;have := h.2 (by simp) k s HK.out hgt;rw [HPT.out] at this
      exact hxp (by simpa using this))
     have kxp : (x != (p : Int) + 1) = true := by simpa using hxp
     go_wp2_with fail;go_ret;exact ⟨ret_bool HF.out, hB.drew⟩
   ·
    have HQ := Lib.hid (show MutTo n ss (k + 1) from HMT.out.next hs fun h => absurd h hgt);clear hs;have kgt : decide (s > 0) = false := decide_eq_false hgt;go_wp2_with fail;refine wp_region_held_drew (S := fun w' => w'.cell? ⟨w.heap.size, 0, none⟩ = some (.slice A0 n.es.length c0)) (by kernel_rfl) ?_ (fun hHeld => ?_)
    · go_keep
    refine stk 0 48 ?_;refine stk 1 49 ?_;refine stk 2 50 ?_;refine stn 3 51 ?_;refine stn 4 52 ?_;refine stn 5 53 ?_;refine stn 6 54 ?_;refine stn 7 55 ?_;refine stn 8 56 ?_;refine stn 9 57 ?_;refine stn 10 58 ?_;refine stn 11 59 ?_;refine stn 12 60 ?_;refine stn 13 61 ?_;refine stn 14 62 ?_;refine stn 15 63 ?_;refine stn 16 64 ?_;refine stn 17 65 ?_;refine stn 18 66 ?_;refine stn 19 67 ?_;refine stn 20 68 ?_;refine stn 21 69 ?_;refine stn 22 70 ?_;refine stn 23 71 ?_;refine stn 24 72 ?_;refine stn 25 73 ?_;refine stn 26 74 ?_;refine stn 27 75 ?_;refine stk 28 76 ?_;refine wpAnyH_done (by kernel_rfl) ?_ _;go_wp2_with fail;go_roundw
    case rel => exact ⟨k + 1, by omega, by go_num, HQ.out, hbl.drew⟩
    case measure => simp [intOf]; omega
  ·
   obtain rfl : k = ss.length := by omega
   have HMU := Lib.hid HMT.out.fin;go_wp2_with fail;refine (impl_edges _ _ _ n wr HN.out HP.out).mono ?_;rintro e w3 ⟨u, E, rfl, hed, hlen, hown, hb3⟩;have HED := Lib.hid hed;have HAC := Lib.hid (any_zero hed HP.out ss);have HIE := Lib.hid ((HI.out.below hb3).more hb3.size);have HQE := Lib.hid ((hb3.cell (p := ⟨w.heap.size + 1, 0, none⟩) (World.block_lt_of_cell? _ _ q3)).trans q3)
   have J := Lib.hid (contains_edges 73 #[.pointer (some ⟨w.heap.size + 1, 0, none⟩)] (enters_of Tryz.func73 (by kernel_rfl) rfl) (zeroE ss) u E wr.heap.size w3 hown hlen w3.heap.size (Nat.le_refl _) fun W x hx hb => by
    obtain ⟨a, p, b, q, rfl, ha, hb'⟩ := HED.out.nat HP.out hx
    exact closure_zero (w.heap.size + 1) a p b q cs sd ss W ((hb.cell (p := ⟨w.heap.size + 1, 0, none⟩) (World.block_lt_of_cell? _ _ HQE.out)).trans HQE.out) ((HIE.out.below hb).more hb.size) (by omega) (by omega))
   rw [HAC.out] at J
   have HF := Lib.hid (show (!propB (bothP n ss 0)) = legB n 4 ss by
    have hm := match_legal HP.out HS.out HMU.out;by_cases hc : bothP n ss 0
    · rw [propB_t hc]; exact leg_f fun h => by rw [HL4.out] at h; exact hm.1 h.1 hc
    · rw [propB_f hc]; exact leg_t (by rw [HL4.out]; exact ⟨hm.2 hc, fun _ => HMU.out⟩))
   clear hed hown;go_wp2_with fail;refine J.out.mono ?_;rintro e w4 ⟨rfl, hb4⟩;go_wp2_with fail;go_ret;exact ⟨ret_bool HF.out, bl_trans (bl_trans hB hb3) hb4⟩
set_option maxRecDepth 100000 in
theorem impl_IsLegalState (ve vi vn vs : Value) (n : Net) (r : Int) (ss : List Int) (w : World) (h : NetR w w.heap.size ve vi vn n) (hs : IntsR w w.heap.size vs ss) (hz : n.es.length ≤ 2000000) (hzi : n.ids.length ≤ 2000000) :
  Calls Tryz.prog 12 #[.agg #[ve, vi, vn], .int .i64 r, vs] w fun e w' => e = .returned (.tuple #[.bool (ilB n r ss), .bool (sitB n r ss)]) ∧ Below w.heap.size w w' := by
 have HSS := Lib.hid hs;obtain ⟨As, cs, rfl, -, -, -⟩ := hs.open_;clear hs;obtain ⟨⟨A0, m0, c0, rfl⟩, ⟨A1, m1, c1, rfl⟩, A2, m2, c2, rfl⟩ := h.slices;obtain ⟨w0, hw0, hB, HD, hz0, HS0⟩ := box3 w (.slice A0 m0 c0) (.slice A1 m1 c1) (.slice A2 m2 c2) 27;have HN0 := Lib.hid h; have HN := Lib.hid (h.up hB); clear h;have HW0 := Lib.hid hw0; clear hw0;obtain ⟨q0, q1, q2, qf⟩ := cells3 HD;have HI := Lib.hid ((HSS.out.below hB).more hB.size);go_enter Tryz.func12, Tryz.ntmps12;go_wp2_with fail;rw [← HW0.out];refine (impl_situationOk _ _ _ _ n r ss w0 HN.out HI.out hz hzi).mono ?_;rintro e w1 ⟨rfl, hb1⟩;replace HI := Lib.hid ((HI.out.below hb1).more hb1.size);have hzhb1 := hb1.size;clear q0 q1 q2 qf;replace HD := bk HD hb1;replace HN := Lib.hid (HN.out.up hb1);replace hB := bl_trans hB hb1;obtain ⟨q0, q1, q2, qf⟩ := cells3 HD;cases hq : sitB n r ss with
 | false =>
  have HQ := Lib.hid hq;have HF := Lib.hid (show ilB n r ss = false by unfold ilB; rw [hq]; rfl);go_wp2_with fail
  go_ret2
  exact ⟨ret2bb HF.out.symm HQ.out.symm, hB⟩
 | true =>
  obtain ⟨ha, hS⟩ := propB_iff.1 hq;have HQ := Lib.hid hq;have HF := Lib.hid (show ilB n r ss = legB n r ss by unfold ilB; rw [hq]; rfl);have HA := Lib.hid ha;have HS := Lib.hid hS;clear ha hS;go_wp2_with fail;refine (impl_isLegal _ _ _ _ n r ss w1 HN.out HA.out HI.out HS.out).mono ?_;rintro e w2 ⟨rfl, hb2⟩;have hzhb2 := hb2.size;clear q0 q1 q2 qf;replace HD := bk HD hb2;replace HN := Lib.hid (HN.out.up hb2);replace hB := bl_trans hB hb2;obtain ⟨q0, q1, q2, qf⟩ := cells3 HD;go_wp2_with fail
  go_ret2
  exact ⟨ret2bb HF.out.symm HQ.out.symm, hB⟩
end Go.Proofs.YtdghoienjegffaaGreat
