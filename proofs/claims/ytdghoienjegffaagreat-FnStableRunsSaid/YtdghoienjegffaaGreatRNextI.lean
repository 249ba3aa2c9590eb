/-
  Situations of a rule, the program's side: near, leastFree, nextTree, nextMatching, nextToken.
  Situations of a rule, the program's side: nextMatching, nextState.
  Situations of a rule, the program's side: nextState, enabledNodes, moveSet.
  Situations of a rule, the program's side: enabledNodes, moveSet.
-/
import Derived.Test.YtdghoienjegffaaGreatRRunCenG
namespace Go.Proofs.YtdghoienjegffaaGreat
section
open Go.RowKit
set_option linter.all false
theorem box1 (w : World) (a : Value) (t : TypeId) : ∃ w0, w0 = w.alloc (.cells #[a] t) ∧ Below w.heap.size w w0 ∧ Hid (w0.heap[w.heap.size]? = some (.cells #[a] t (0, 0))) ∧ w.heap.size < w0.heap.size ∧ Hid (w0.heap.size = w.heap.size + 1) :=
  ⟨_, rfl, bl_alloc (Below.refl _ _) _, Lib.hid (heap_alloc_new w _), by simp, Lib.hid (by simp)⟩
def NrRel (l : Ends) (ss : List Int) (w : World) (v i : Value) (wr : World) : Prop :=
  ∃ k : Nat, k ≤ l.length ∧ i = .int .i64 k ∧ wr.ownsRow w.heap.size 3 1 v k (((nearSt l ss).take k).map intV) ∧ Below w.heap.size w wr
set_option maxRecDepth 100000 in
set_option maxHeartbeats 1000000 in
theorem impl_near (ve vi vn vs : Value) (n : Net) (ss : List Int) (v : Nat) (l : Ends) (w : World) (h : NetR w w.heap.size ve vi vn n) (hp : netP n) (hs : IntsR w w.heap.size vs ss) (hS : ss.length = n.es.length) (hl : n.es[v]? = some l) :
    Calls Tryz.prog 75 #[.agg #[ve, vi, vn], .int .i64 (v : Int), vs] w fun e w' => ∃ u, e = .returned u ∧ (∃ A m c, u = .slice A m c) ∧ IntsR w' w'.heap.size u (nearSt l ss) ∧ Below w.heap.size w w' := by
  have h40 := hp.1.2;have hl6 := hp.len hl;have HP := Lib.hid hp; clear hp;have hvl : v < n.es.length := (List.getElem?_eq_some_iff.1 hl).1;obtain ⟨As, cs, rfl, -, -, hsc⟩ := hs.open_;have hsl : n.es.length ≤ ss.length := by omega
  have HST := Lib.hid hs.2; clear hS;obtain ⟨sd, rfl, hsb, hsx⟩ := hsc (by omega);have HSX := Lib.hid hsx; clear hs hsc hsx;obtain ⟨⟨A0, m0, c0, rfl⟩, ⟨A1, m1, c1, rfl⟩, A2, m2, c2, rfl⟩ := h.slices;obtain ⟨w0, hw0, hB, HD, hz0, HS0⟩ := box3 w (.slice A0 m0 c0) (.slice A1 m1 c1) (.slice A2 m2 c2) 27;have HN0 := Lib.hid h; have HN := Lib.hid (h.up hB); clear h;have HW0 := Lib.hid hw0; clear hw0;obtain ⟨q0, q1, q2, qf⟩ := cells3 HD;obtain ⟨hm0, -, -⟩ := HN.out.e.len_slice;subst hm0;obtain ⟨ad, rfl⟩ := HN.out.e.some_ (by omega);obtain ⟨-, u, hu, hr⟩ := HN.out.e.at_ hl;have HR := Lib.hid hr;obtain ⟨A', c', rfl, hlc, hlm, -, h4⟩ := hr;unfold maxLen at hlm;have hu' := hu;rw [HW0.out] at hu';have HL := Lib.hid hl; clear hl;go_enter Tryz.func75, Tryz.ntmps75;go_wp2_with fail;rw [← HW0.out];clear q0 q1 q2 qf hu hu';go_loopw [7, 9, 16] (fun v _ i wr => NrRel l ss w0 v i wr) (fun _ _ i _ => l.length - (intOf i).toNat)
  case atStart => exact ⟨0, Nat.zero_le _, rfl, World.ownsRow_nil _ _ _ _, Below.refl _ _⟩
  case round =>
    obtain ⟨k, hk, rfl, hown, hbl⟩ := hrel;by_cases hlt : k < l.length
    · obtain ⟨e, he⟩ : ∃ e, l[k]? = some e := ⟨_, List.getElem?_eq_getElem hlt⟩
      obtain ⟨b, o', rfl, -, -⟩ := h4 (by omega);obtain ⟨hbb', p0, p1⟩ := (HR.out.below hbl).at_ he;obtain ⟨t, p, rfl, ht, hp5⟩ := end_at HP.out HL.out he;obtain ⟨x, hx⟩ : ∃ x, ss[t]? = some x := ⟨_, List.getElem?_eq_getElem (by omega)⟩
      have hcx := ((bl_trans hB hbl).cell (p := sd.add t) (by rw [block_add]; exact hsb)).trans (HSX.out t x hx);have hts : t < ss.length := by omega
      have HN2 := Lib.hid (ints_snoc (xs := nearSt l ss) (k := k) (x := x) (by unfold nearSt; rw [List.getElem?_map, he]; simp [List.getD_eq_getElem?_getD, hx]));clear he hx;obtain ⟨wv, hwv, hbv, HEB, hzv, HSV⟩ := box2 wr (.int .i64 (t : Int)) (.int .i64 (p : Int)) 74;have hba := hbl.alloc hbl.size (.cells #[.int .i64 (t : Int), .int .i64 (p : Int)] 74);have hcv := (hbv.cell (p := sd.add t) (by rw [block_add]; have := hB.size; have := hbl.size; omega)).trans hcx;rw [hwv] at hcv;clear hwv hbv HEB hzv HSV;dsimp only at p0 p1;go_wp2_with ((at_builtin; refine wpList_append1 (wr.alloc (.cells #[.int .i64 (t : Int), .int .i64 (p : Int)] 74)) rfl (.tmp 20) (.tmp 26) 25 rfl w0.heap.size 3 _ 8 Tryz.underlying25 intInfo rfl _ _ _ rfl _ rfl (by show Value.slice (some ⟨wr.heap.size + 1, 0, none⟩) 1 1 = _; simp) (hown.alloc _) (by unfold maxLen; omega) (by omega) hba.size ?_; intro v' w' hown' hbl' hgr' hlt' hob'))
      go_roundw
      case rel => exact ⟨k + 1, by omega, by go_num, by rw [HN2.out]; exact hown', hba.trans hbl'⟩
      case measure => simp [intOf]; omega
    · have hI := IntsRel.fin hown (by rw [nearSt_len]; omega) (fun z hz => by
        unfold nearSt at hz;obtain ⟨e, he, rfl⟩ := List.mem_map.1 hz;obtain ⟨e0, e1⟩ := row_in HP.out HL.out he;obtain ⟨x, hx⟩ : ∃ x, ss[e.1.toNat]? = some x := ⟨_, List.getElem?_eq_getElem (by omega)⟩
        rw [List.getD_eq_getElem?_getD, hx]
        exact HST.out x (List.mem_of_getElem? hx))
      have HO := Lib.hid hI; clear hI hown;go_wp2_with fail;go_ret;exact ⟨_, rfl, HO.out.isSlice, HO.out, bl_trans hB hbl⟩
theorem has_contains (xs : List Int) (x : Int) : xs.contains x = hasB xs x := by
  by_cases h : x ∈ xs
  · rw [hasB_t h]; simpa using h
  · rw [hasB_f h]; simpa using h
theorem impl_leastFree (v : Value) (xs : List Int) (w : World) (h : IntsR w w.heap.size v xs) (hl : xs.length ≤ 2000000) :
  Calls Tryz.prog 77 #[v] w fun e w' => e = .returned (.int .i64 (leastN xs)) ∧ w = w' := by
 obtain ⟨Aa, ca, rfl, -, -, -⟩ := h.open_;have HI := Lib.hid h; clear h;go_enter Tryz.func77, Tryz.ntmps77;go_wp2_with fail;go_loopw [3] (fun c wr => ClRel xs w c wr) (fun c _ => xs.length + 1 - (intOf c).toNat)
 case atStart => exact ⟨rfl, 0, Nat.zero_le _, rfl, fun _ h => absurd h (by omega)⟩
 case round =>
  obtain ⟨rfl, k, hk, rfl, hup⟩ := hrel;have HU := Lib.hid hup; clear hup;have J := Lib.hid (impl_Contains _ xs (k : Int) w HI.out);rw [has_contains] at J;cases hq : hasB xs (k : Int) with
  | true =>
   rw [hq] at J;have hm := propB_iff.1 hq;have hk1 : k + 1 ≤ xs.length := pigeon (k + 1) xs fun j hj => by
    by_cases e : j = k
    · subst e; exact hm
    · exact HU.out j (by omega)
   have HN := Lib.hid (show ∀ j, j < k + 1 → (j : Int) ∈ xs from fun j hj => by
    by_cases e : j = k
    · subst e; exact hm
    · exact HU.out j (by omega))
   clear hq hm;go_wp2_with (go_at_call 37; refine J.out.mono ?_; rintro e w' ⟨rfl, rfl⟩)
   go_roundw
   case rel => exact ⟨rfl, k + 1, hk1, by go_num, HN.out⟩
   case measure => simp [intOf]; omega
  | false =>
   rw [hq] at J;have HE := Lib.hid (leastN_eq ⟨HU.out, fun hm => by rw [hasB_t hm] at hq; cases hq⟩);clear hq;go_wp2_with (go_at_call 37; refine J.out.mono ?_; rintro e w' ⟨rfl, rfl⟩)
   go_ret;exact ⟨ret_int (by rw [HE.out]), rfl⟩
theorem impl_Min (v : Value) (xs : List Int) (w : World) (h : IntsR w w.heap.size v xs) (h0 : 0 < xs.length) :
    Calls Tryz.prog 123 #[v] w fun e w' => e = .returned (.int .i64 (Lib.minOf xs)) ∧ w = w' := by
  obtain ⟨A, c, rfl, h1, h2, h3⟩ := h.open_;unfold maxLen at h2;obtain ⟨ad, rfl, hb, hc⟩ := h3 h0;obtain ⟨b, off, rfl, hcc⟩ := ints_cells h0 hc;refine (Tryz.slices_Min_int b off xs.length c xs w h0 (Nat.le_refl _) (by omega) hcc).mono ?_;rintro e w' ⟨rfl, rfl⟩;rw [List.take_length];exact ⟨rfl, rfl⟩
theorem least_min {xs : List Int} (k : Int) (h : 0 < xs.length) : leastOf k xs = min (Lib.minOf xs + 1) k := by
  cases xs with
  | nil => simp at h
  | cons x r =>
    rw [leastOf_min];unfold Lib.minOf;simp only [List.headD_cons, List.foldl_cons, Int.min_self]
theorem minOf_mem {xs : List Int} (h : 0 < xs.length) : Lib.minOf xs ∈ xs := by
  cases xs with
  | nil => simp at h
  | cons x r =>
    unfold Lib.minOf;simp only [List.headD_cons, List.foldl_cons, Int.min_self]
    suffices hs : ∀ (l : List Int) (a : Int), l.foldl min a = a ∨ l.foldl min a ∈ l by
      rcases hs r x with e | e
      · rw [e]; simp
      · exact List.mem_cons_of_mem _ e
    intro l;induction l with
    | nil => intro a; exact .inl rfl
    | cons y t ih =>
      intro a;rw [List.foldl_cons];rcases ih (min a y) with e | e
      · rcases (by omega : min a y = a ∨ min a y = y) with e2 | e2
        · left; rw [e, e2]
        · right; rw [e, e2]; simp
      · right; exact List.mem_cons_of_mem _ e
set_option maxRecDepth 100000 in
set_option maxHeartbeats 1000000 in
theorem impl_nextTree (ve vi vn vs : Value) (n : Net) (ss : List Int) (v : Nat) (l : Ends) (w : World) (h : NetR w w.heap.size ve vi vn n) (hp : netP n) (hs : IntsR w w.heap.size vs ss) (hS : StB n ss) (hl : n.es[v]? = some l) :
  Calls Tryz.prog 76 #[.agg #[ve, vi, vn], vs, .int .i64 (v : Int)] w fun e w' => e = .returned (.int .i64 (treeS n l ss v)) ∧ Below w.heap.size w w' := by
 have h40 := hp.1.2;have hl6 := hp.len hl;have hvl : v < n.es.length := (List.getElem?_eq_some_iff.1 hl).1;obtain ⟨y, hy, hyg, hy0, hy9⟩ := in_at hp hvl
 have HNB := Lib.hid (show ∀ x ∈ nearSt l ss, 0 ≤ x ∧ x ≤ 40 from fun x hx => by
  unfold nearSt at hx;obtain ⟨e, he, rfl⟩ := List.mem_map.1 hx;obtain ⟨e0, e1⟩ := row_in hp hl he;obtain ⟨x, hx, hx0, hx1⟩ := hS.at_ e1;rw [List.getD_eq_getElem?_getD, hx]
  exact ⟨hx0, hx1⟩)
 have HP := Lib.hid hp; clear hp;have HSS := Lib.hid hs;obtain ⟨As, cs, rfl, -, -, -⟩ := hs.open_;have HST := Lib.hid hS; clear hS hs;have HL := Lib.hid hl; clear hl;have HT := Lib.hid (show treeS n l ss v = if y = 1 then 0 else leastOf n.es.length (nearSt l ss) by unfold treeS; rw [hyg]);obtain ⟨⟨A0, m0, c0, rfl⟩, ⟨A1, m1, c1, rfl⟩, A2, m2, c2, rfl⟩ := h.slices;obtain ⟨w0, hw0, hB, HD, hz0, HS0⟩ := box3 w (.slice A0 m0 c0) (.slice A1 m1 c1) (.slice A2 m2 c2) 27;have HN0 := Lib.hid h; have HN := Lib.hid (h.up hB); clear h;have HW0 := Lib.hid hw0; clear hw0;obtain ⟨q0, q1, q2, qf⟩ := cells3 HD;obtain ⟨hm0, -, -⟩ := HN.out.e.len_slice;subst hm0;have HI := Lib.hid ((HSS.out.below hB).more hB.size);go_enter Tryz.func76, Tryz.ntmps76;go_wp2_with fail;rw [← HW0.out];refine (impl_near _ _ _ _ n ss v l w0 HN.out HP.out HI.out HST.out.1 HL.out).mono ?_;rintro e w1 ⟨u, rfl, ⟨A5, m5, c5, rfl⟩, hu, hb1⟩;have HU := Lib.hid hu; clear hu;have hzhb1 := hb1.size;clear q0 q1 q2 qf;replace HD := bk HD hb1;replace HN := Lib.hid (HN.out.up hb1);replace hB := bl_trans hB hb1;obtain ⟨q0, q1, q2, qf⟩ := cells3 HD;obtain ⟨hm2, -, hm2', hi⟩ := HN.out.n.some_;obtain ⟨id, rfl, hib, hic⟩ := hi (by have := (List.getElem?_eq_some_iff.1 hy).1; omega);have hci := hic v y hy;have hvi : v < m2 := by have := (List.getElem?_eq_some_iff.1 hy).1; omega
 clear hi hic hm2 hyg hy;obtain ⟨hm5, -, -, -⟩ := HU.out.some_;have hnl := nearSt_len l ss;by_cases hy1 : y = 1
 ·
  have HF := Lib.hid (show 0 = treeS n l ss v by rw [HT.out, if_pos hy1]);have kq : (y == 1) = true := by simpa using hy1
  clear hy1;go_wp2_with fail;go_ret;exact ⟨ret_int HF.out, hB⟩
 ·
  have kq : (y == 1) = false := by simpa using hy1
  have HF := Lib.hid (show treeS n l ss v = leastOf n.es.length (nearSt l ss) by rw [HT.out, if_neg hy1]);clear hy1;by_cases h0 : (nearSt l ss).length = 0
  ·
   have HG := Lib.hid (show (n.es.length : Int) = treeS n l ss v by rw [HF.out, List.eq_nil_of_length_eq_zero h0]; rfl);have k5 : ((m5 : Int) == 0) = true := by rw [hm5, h0]; rfl
   clear hm5 hnl h0;go_wp2_with fail;go_ret;exact ⟨ret_int HG.out, hB⟩
  ·
   have hpos : 0 < (nearSt l ss).length := by omega
   have k5 : ((m5 : Int) == 0) = false := by rw [beq_eq_false_iff_ne]; omega
   have HG := Lib.hid (HF.out.trans (least_min n.es.length hpos));have hmb := HNB.out _ (minOf_mem hpos);clear hm5 hnl h0;have J := Lib.hid (impl_Min _ (nearSt l ss) w1 HU.out hpos);have hw1 : IntKind.i64.wrap (Lib.minOf (nearSt l ss) + 1) = Lib.minOf (nearSt l ss) + 1 := IntWalk.i64_in _ (by omega);clear hpos;generalize Lib.minOf (nearSt l ss) = q at *;go_wp2_with (go_at_call 123; refine J.out.mono ?_; rintro e w' ⟨rfl, rfl⟩)
   go_ret;exact ⟨ret_int HG.out.symm, hB⟩
set_option maxRecDepth 100000 in
set_option maxHeartbeats 1000000 in
theorem impl_nextToken (ve vi vn vs : Value) (n : Net) (ss : List Int) (v : Nat) (l : Ends) (s : Int) (w : World) (h : NetR w w.heap.size ve vi vn n) (hp : netP n) (hs : IntsR w w.heap.size vs ss) (hS : StB n ss) (hl : n.es[v]? = some l) (hv : ss[v]? = some s) (hl2 : l.length = 2) :
  Calls Tryz.prog 80 #[.agg #[ve, vi, vn], vs, .int .i64 (v : Int)] w fun e w' => e = .returned (.int .i64 (tokenS n l ss v s)) ∧ Below w.heap.size w w' := by
 have h40 := hp.1.2;have hvl : v < n.es.length := (List.getElem?_eq_some_iff.1 hl).1;obtain ⟨y, hy, hyg, hy0, hy9⟩ := in_at hp hvl;have hs0 := hS.2 s (List.mem_of_getElem? hv);have hvs := (List.getElem?_eq_some_iff.1 hv).1;obtain ⟨e, he⟩ : ∃ e, l[1]? = some e := ⟨_, List.getElem?_eq_getElem (by omega)⟩
 obtain ⟨t, p, rfl, ht, hp5⟩ := end_at hp hl he;obtain ⟨x, hx, hx0, hx1⟩ := hS.at_ ht
 have HE := Lib.hid (show tokenS n l ss v s = if y ≠ 1 then x else if x = s then (s + 1).tmod (n.es.length + 1) else s by
  unfold tokenS;rw [hyg, List.getD_eq_getElem?_getD (l := l), he]
  simp only [Option.getD_some, Int.toNat_natCast, List.getD_eq_getElem?_getD, hx])
 obtain ⟨As, cs, rfl, -, -, hsc⟩ := hs.open_;have hts : t < ss.length := by have := hS.1; omega
 obtain ⟨sd, rfl, hsb, hsx⟩ := hsc (by omega);have hcs := hsx v s hv;have hcx := hsx t x hx;clear hs hsc hsx;obtain ⟨⟨A0, m0, c0, rfl⟩, ⟨A1, m1, c1, rfl⟩, A2, m2, c2, rfl⟩ := h.slices;obtain ⟨w0, hw0, hB, HD, hz0, HS0⟩ := box3 w (.slice A0 m0 c0) (.slice A1 m1 c1) (.slice A2 m2 c2) 27;have HN0 := Lib.hid h; have HN := Lib.hid (h.up hB); clear h;have HW0 := Lib.hid hw0; clear hw0;obtain ⟨q0, q1, q2, qf⟩ := cells3 HD;obtain ⟨hm0, -, -⟩ := HN.out.e.len_slice;subst hm0;obtain ⟨ad, rfl⟩ := HN.out.e.some_ (by omega);obtain ⟨-, u, hu, hr⟩ := HN.out.e.at_ hl;have HR := Lib.hid hr;obtain ⟨A', c', rfl, hlc, hlm, -, h4'⟩ := hr;unfold maxLen at hlm;obtain ⟨b, o', rfl, -, -⟩ := h4' (by omega);obtain ⟨hbb', p0, p1⟩ := HR.out.at_ he;have p0' : w0.cell? ⟨b, o' + 2, none⟩ = some (.int .i64 (t : Int)) := p0;obtain ⟨hm2, -, hm2', hi⟩ := HN.out.n.some_;obtain ⟨id, rfl, hib, hic⟩ := hi (by have := (List.getElem?_eq_some_iff.1 hy).1; omega);have hci := hic v y hy;have hvi : v < m2 := by have := (List.getElem?_eq_some_iff.1 hy).1; omega
 replace hcs := (hB.cell (p := sd.add v) (by rw [block_add]; exact hsb)).trans hcs;replace hcx := (hB.cell (p := sd.add t) (by rw [block_add]; exact hsb)).trans hcx;have h1l : 1 < l.length := by omega
 have hw1 : IntKind.i64.wrap (s + 1) = s + 1 := IntWalk.i64_in _ (by omega);have hw2 : IntKind.i64.wrap ((n.es.length : Int) + 1) = (n.es.length : Int) + 1 := IntWalk.i64_in _ (by omega);have hm0 := Int.tmod_nonneg (n.es.length + 1 : Int) (show 0 ≤ s + 1 by omega);have hm1 := Int.tmod_lt_of_pos (s + 1) (show (0 : Int) < n.es.length + 1 by omega);have hw3 : IntKind.i64.wrap ((s + 1).tmod ((n.es.length : Int) + 1)) = (s + 1).tmod ((n.es.length : Int) + 1) := IntWalk.i64_in _ (by omega);have hnz : ¬ (n.es.length : Int) + 1 = 0 := by omega
 have hcs' := hcs;have hcx' := hcx;have hci' := hci;have hu' := hu;have p0'' := p0';rw [HW0.out] at hcs' hcx' hci' hu' p0'';clear hi hic hm2 hyg h4' he hx p0 p1 hy hm0 hm1 hl2 hl hv;by_cases hy1 : y = 1
 ·
  have kq : (y != 1) = false := by simp [hy1]
  by_cases hxs : x = s
  ·
   have kx : (s != x) = false := by simp [hxs]
   have HF := Lib.hid (show (s + 1).tmod ((n.es.length : Int) + 1) = tokenS n l ss v s by rw [HE.out, if_neg (by simpa using hy1), if_pos hxs]);clear hxs hy1;go_enter Tryz.func80, Tryz.ntmps80;go_wp2_with fail;rw [← HW0.out];refine wp_region_held_drew (S := fun w' => w'.cell? ⟨w.heap.size, 0, none⟩ = some (.slice (some ad) n.es.length c0) ∧ w'.cell? (sd.add v) = some (.int .i64 s)) (by kernel_rfl) ?_ (fun hHeld => ?_)
   · go_keep
   refine stk 0 36 ?_;refine stk 1 37 ?_;refine stk 2 38 ?_;refine stk 3 39 ?_;refine stk 4 40 ?_;refine stk 5 41 ?_;refine stk 6 42 ?_;refine stk 7 43 ?_;refine stk 8 44 ?_;refine stk 9 45 ?_;refine stk 10 6 ?_;refine wpAnyH_done (by kernel_rfl) ?_ _;go_wp2_with fail;go_ret;exact ⟨ret_int HF.out, hB.drew⟩
  ·
   have kx : (s != x) = true := by rw [bne_iff_ne]; omega
   have HF := Lib.hid (show s = tokenS n l ss v s by rw [HE.out, if_neg (by simpa using hy1), if_neg hxs]);clear hxs hy1;go_enter Tryz.func80, Tryz.ntmps80;go_wp2_with fail;rw [← HW0.out];go_ret;exact ⟨ret_int HF.out, hB⟩
 ·
  have kq : (y != 1) = true := by simpa using hy1
  have HF := Lib.hid (show x = tokenS n l ss v s by rw [HE.out, if_pos hy1]);clear hy1;go_enter Tryz.func80, Tryz.ntmps80;go_wp2_with fail;rw [← HW0.out];go_ret;exact ⟨ret_int HF.out, hB⟩
end
section
open Go.RowKit
set_option linter.all false
def TellsE (g : Nat) (lb : Array Value) (p : Int × Int → Bool) (l : Ends) (n₀ : Nat) (w : World) : Prop :=
  ∀ W e, e ∈ l → Below n₀ w W → Calls Tryz.prog g (#[.agg #[.int .i64 e.1, .int .i64 e.2]] ++ lb) W fun r W' => r = .returned (.bool (p e)) ∧ Below W.heap.size W W'
set_option maxRecDepth 100000 in
theorem index_ends (g : Nat) (lb : Array Value) (eg : ∀ args w, (callFunc g args).run Tryz.prog w = .ok (.enter g args) w) (p : Int × Int → Bool) (v : Value) (l : Ends) (w : World) (h : EndsR w (fun b => b < w.heap.size) v l) (hl : l.length ≤ 6)
  (n₀ : Nat) (hn : n₀ ≤ w.heap.size) (hp : TellsE g lb p l n₀ w) :
  Calls Tryz.prog 97 #[v, .func (.func g) #[] lb] w fun e w' => e = .returned (.int .i64 (portI p l)) ∧ Below w.heap.size w w' := by
 have HR := Lib.hid h;obtain ⟨Ax, cx, rfl, h1, h2, -, h4⟩ := h;unfold maxLen at h2;have HP := Lib.hid hp;clear hp;go_enter Tryz.func97, Tryz.ntmps97;go_wp2_with fail;go_loopw [5, 8] (fun _ i wr => PtRel p l w i wr) (fun _ i _ => l.length - (intOf i).toNat)
 case atStart => exact ⟨Below.refl _ _, 0, Nat.zero_le _, rfl, .start _ _⟩
 case round =>
  obtain ⟨hbl, k, hk, rfl, hto⟩ := hrel;have HTO := Lib.hid hto; clear hto;by_cases hlt : k < l.length
  ·
   obtain ⟨e, he⟩ : ∃ e, l[k]? = some e := ⟨_, List.getElem?_eq_getElem hlt⟩
   obtain ⟨b, o', rfl, -, -⟩ := h4 (by omega);obtain ⟨hbb', p0, p1⟩ := (HR.out.below hbl).at_ he;have J := Lib.hid (HP.out wr e (List.mem_of_getElem? he) (hbl.mono hn));have HX := Lib.hid he;clear he;cases hq : p e with
   | true =>
    rw [hq] at J;have HH := Lib.hid (HTO.out.here HX.out hq);go_wp2_with (go_at_fn g; refine J.out.mono ?_; rintro e w' ⟨rfl, hb'⟩)
    go_ret;exact ⟨ret_int HH.out.symm, bl_trans hbl hb'⟩
   | false =>
    rw [hq] at J;have HH := Lib.hid (HTO.out.next HX.out hq);go_wp2_with (go_at_fn g; refine J.out.mono ?_; rintro e w' ⟨rfl, hb'⟩)
    go_roundw
    case rel => exact ⟨bl_trans hbl hb', k + 1, by omega, by go_num, HH.out⟩
    case measure => simp [intOf]; omega
  · have HH := Lib.hid (HTO.out.fin (by omega));go_wp2_with fail;go_ret;exact ⟨ret_int HH.out.symm, hbl⟩
theorem closure_pt (S : Nat) (sd : Addr) (cs u p : Nat) (ss : List Int) (x : Int) (w : World) (hS : w.cell? ⟨S, 0, none⟩ = some (.slice (some sd) ss.length cs)) (hx : ss[u]? = some x) (hc : w.cell? (sd.add u) = some (.int .i64 x)) (hp : p ≤ 5) :
  Calls Tryz.prog 124 #[.agg #[.int .i64 (u : Int), .int .i64 (p : Int)], .pointer (some ⟨S, 0, none⟩)] w fun e w' => e = .returned (.bool (pointsTo ss ((u : Int), (p : Int)))) ∧ Below w.heap.size w w' := by
 have hus := (List.getElem?_eq_some_iff.1 hx).1;have HPT := Lib.hid (pt_at (p := p) hx);have hw1 : IntKind.i64.wrap ((p : Int) + 1) = (p : Int) + 1 := IntWalk.i64_in _ (by omega);obtain ⟨wv, hwv, hbv, HEB, hzv, HSV⟩ := box2 w (.int .i64 (u : Int)) (.int .i64 (p : Int)) 74;obtain ⟨d0, d1, df⟩ := cells2 HEB;have hS' := (hbv.cell (p := ⟨S, 0, none⟩) (World.block_lt_of_cell? _ _ hS)).trans hS;have hc' := (hbv.cell (p := sd.add u) (by obtain ⟨b, o, sp⟩ := sd; exact World.block_lt_of_cell? _ _ hc)).trans hc;have HWV := Lib.hid hwv; clear hwv hx;go_enter Tryz.func124, Tryz.ntmps124;go_wp2_with fail;rw [← HWV.out];refine wp_region_held_drew (S := fun w' => w'.cell? ⟨S, 0, none⟩ = some (.slice (some sd) ss.length cs) ∧ w'.cell? ⟨w.heap.size, 0, none⟩ = some (.int .i64 (u : Int)) ∧ w'.cell? ⟨w.heap.size, 1, none⟩ = some (.int .i64 (p : Int)) ∧ w'.cell? (sd.add u) = some (.int .i64 x)) (by kernel_rfl) ?_ (fun hHeld => ?_)
 · go_keep
 refine stk 0 4 ?_;refine stk 1 5 ?_;refine stk 2 6 ?_;refine stk 3 7 ?_;refine stk 4 8 ?_;refine stk 5 9 ?_;refine stk 6 10 ?_;refine stk 7 11 ?_;refine stk 8 12 ?_;refine stk 9 3 ?_;refine wpAnyH_done (by kernel_rfl) ?_ _;go_wp2_with fail;go_ret;exact ⟨ret_bool HPT.out.symm, hbv.drew⟩
theorem closure_fr (S : Nat) (sd : Addr) (cs u p : Nat) (ss : List Int) (x : Int) (w : World) (hS : w.cell? ⟨S, 0, none⟩ = some (.slice (some sd) ss.length cs)) (hx : ss[u]? = some x) (hc : w.cell? (sd.add u) = some (.int .i64 x)) :
    Calls Tryz.prog 125 #[.agg #[.int .i64 (u : Int), .int .i64 (p : Int)], .pointer (some ⟨S, 0, none⟩)] w fun e w' => e = .returned (.bool (isFree ss ((u : Int), (p : Int)))) ∧ Below w.heap.size w w' := by
  have hus := (List.getElem?_eq_some_iff.1 hx).1;have HPT := Lib.hid (fr_at (p := p) hx);obtain ⟨wv, hwv, hbv, HEB, hzv, HSV⟩ := box2 w (.int .i64 (u : Int)) (.int .i64 (p : Int)) 74;have hS' := (hbv.cell (p := ⟨S, 0, none⟩) (World.block_lt_of_cell? _ _ hS)).trans hS;have hc' := (hbv.cell (p := sd.add u) (by obtain ⟨b, o, sp⟩ := sd; exact World.block_lt_of_cell? _ _ hc)).trans hc;rw [hwv] at hS' hc';have HWV := Lib.hid hwv; clear hwv hx;go_enter Tryz.func125, Tryz.ntmps125;go_wp2_with fail;rw [← HWV.out];go_ret;exact ⟨ret_bool HPT.out.symm, hbv⟩
set_option maxRecDepth 100000 in
set_option maxHeartbeats 1000000 in
theorem impl_nextMatching (ve vi vn vs : Value) (n : Net) (ss : List Int) (v : Nat) (l : Ends) (s : Int) (w : World) (h : NetR w w.heap.size ve vi vn n) (hp : netP n) (hs : IntsR w w.heap.size vs ss) (hS : StB n ss) (hl : n.es[v]? = some l) (hv : ss[v]? = some s) (hsl : s ≤ l.length) :
  Calls Tryz.prog 79 #[.agg #[ve, vi, vn], vs, .int .i64 (v : Int)] w fun e w' => e = .returned (.int .i64 (matchS l ss s)) ∧ Below w.heap.size w w' := by
 have h40 := hp.1.2;have hl6 := hp.len hl;have HP := Lib.hid hp; clear hp;have hvl : v < n.es.length := (List.getElem?_eq_some_iff.1 hl).1;obtain ⟨As, cs, rfl, -, -, hsc⟩ := hs.open_;have hssl : n.es.length ≤ ss.length ∧ ss.length ≤ n.es.length := by have := hS.1; omega
 have hs0 := hS.2 s (List.mem_of_getElem? hv);have HST := Lib.hid hS; clear hS;obtain ⟨sd, rfl, hsb, hsx⟩ := hsc (by omega);have HSX := Lib.hid hsx;have hcs := hsx v s hv;clear hs hsc hsx;obtain ⟨⟨A0, m0, c0, rfl⟩, ⟨A1, m1, c1, rfl⟩, A2, m2, c2, rfl⟩ := h.slices;obtain ⟨w0, hw0, hB, HD, hz0, HS0⟩ := box3 w (.slice A0 m0 c0) (.slice A1 m1 c1) (.slice A2 m2 c2) 27;have HN0 := Lib.hid h; have HN := Lib.hid (h.up hB); clear h;have HW0 := Lib.hid hw0; clear hw0;obtain ⟨q0, q1, q2, qf⟩ := cells3 HD;obtain ⟨hm0, -, -⟩ := HN.out.e.len_slice;subst hm0;obtain ⟨ad, rfl⟩ := HN.out.e.some_ (by omega);obtain ⟨w1, hw1, hb1, HBX, hz1, HS1⟩ := box1 w0 (.slice (some sd) ss.length cs) 25;have HW1 := Lib.hid hw1;have hB1 := bl_trans hB hb1;have HN1 := Lib.hid (HN.out.up hb1);obtain ⟨hab, u, hu, hr⟩ := HN1.out.e.at_ hl;have HR := Lib.hid hr;obtain ⟨A', c', rfl, hlc, hlm, -, h4⟩ := hr;unfold maxLen at hlm;have HL := Lib.hid hl; clear hl;have hvs : v < ss.length := by omega
 have hw0s := HS0.out;have hs1 : w1.heap.size = w.heap.size + 1 + 1 := by rw [HS1.out, HS0.out]
 have hcb : w1.cell? ⟨w.heap.size + 1, 0, none⟩ = some (.slice (some sd) ss.length cs) := by rw [← hw0s]; exact cell_of_row _ _ 0 _ _ (0, 0) HBX.out
 have hcs1 := (hB1.cell (p := sd.add v) (by rw [block_add]; exact hsb)).trans hcs;have hcs2 := hcs1;have hu2 := hu;rw [hw1, HW0.out] at hcs2 hu2;by_cases hgt : 0 < s
 ·
  obtain ⟨t, hst⟩ : ∃ t : Nat, s = (t : Int) + 1 := ⟨(s - 1).toNat, by omega⟩
  have htl : t < l.length := by omega
  obtain ⟨e, he⟩ : ∃ e, l[t]? = some e := ⟨_, List.getElem?_eq_getElem htl⟩
  obtain ⟨b, o', rfl, -, -⟩ := h4 (by omega);obtain ⟨hbb', p0, p1⟩ := HR.out.at_ he;obtain ⟨x', p, rfl, ht, hp5⟩ := end_at HP.out HL.out he;obtain ⟨x, hx, hx0, hx1⟩ := HST.out.at_ ht;have hcx := (hB1.cell (p := sd.add x') (by rw [block_add]; exact hsb)).trans (HSX.out x' x hx);have hts : x' < ss.length := by omega
  dsimp only at p0 p1;have hw0 : IntKind.i64.wrap (s - 1) = (t : Int) := by rw [show s - 1 = (t : Int) by omega]; exact IntWalk.i64_in _ (by omega)
  have hw2 : IntKind.i64.wrap ((p : Int) + 1) = (p : Int) + 1 := IntWalk.i64_in _ (by omega)
  have HM := Lib.hid (show matchS l ss s = if (x == 0) || (x == (p : Int) + 1) then s else 0 by
   unfold matchS;rw [if_pos hgt, show (s - 1).toNat = t by omega, List.getD_eq_getElem?_getD, he];show (if isFree ss ((x' : Int), (p : Int)) || pointsTo ss ((x' : Int), (p : Int)) then _ else _) = _
   rw [fr_at hx, pt_at hx])
  obtain ⟨wv, hwv, hbv, HEB, hzv, HSV⟩ := box2 w1 (.int .i64 (x' : Int)) (.int .i64 (p : Int)) 74;obtain ⟨d0, d1, df⟩ := cells2 HEB;rw [hs1] at d0 d1 df;have hBv := bl_trans hB1 hbv;have hcbv := (hbv.cell (p := ⟨w.heap.size + 1, 0, none⟩) (by show w.heap.size + 1 < w1.heap.size; omega)).trans hcb;have hcxv := (hbv.cell (p := sd.add x') (by rw [block_add]; omega)).trans hcx;have HWV := Lib.hid hwv;have p0' := p0;have p1' := p1;rw [hw1, HW0.out] at p0' p1';clear he hx hst hwv p0 p1 q0 q1 q2 qf hu hcs hcs1 hcb hcx;cases hq1 : (x == 0) with
  | true =>
   have HF := Lib.hid (show s = matchS l ss s by rw [HM.out, hq1]; rfl);go_enter Tryz.func79, Tryz.ntmps79;go_wp2_with fail;rw [← HW0.out, ← HW1.out, ← HWV.out];refine wp_region_held_drew (S := fun w' => w'.cell? ⟨w.heap.size + 1, 0, none⟩ = some (.slice (some sd) ss.length cs) ∧ w'.cell? ⟨w.heap.size + 1 + 1, 0, none⟩ = some (.int .i64 (x' : Int)) ∧ w'.cell? ⟨w.heap.size + 1 + 1, 1, none⟩ = some (.int .i64 (p : Int)) ∧ w'.cell? (sd.add x') = some (.int .i64 x)) (by kernel_rfl) ?_ (fun hHeld => ?_)
   · go_keep
   refine stk 0 27 ?_;refine stk 1 28 ?_;refine stk 2 29 ?_;refine stk 3 30 ?_;refine stk 4 31 ?_;refine stk 5 32 ?_;refine stk 6 33 ?_;refine stn 7 34 ?_;refine stn 8 35 ?_;refine stn 9 36 ?_;refine stn 10 37 ?_;refine stn 11 38 ?_;refine stn 12 39 ?_;refine stn 13 40 ?_;refine stn 14 41 ?_;refine stn 15 42 ?_;refine stk 16 43 ?_;refine wpAnyH_done (by kernel_rfl) ?_ _;go_wp2_with fail;go_ret;exact ⟨ret_int HF.out, hBv.drew⟩
  | false =>
   cases hq2 : (x == (p : Int) + 1) with
   | true =>
    have HF := Lib.hid (show s = matchS l ss s by rw [HM.out, hq1, hq2]; rfl);go_enter Tryz.func79, Tryz.ntmps79;go_wp2_with fail;rw [← HW0.out, ← HW1.out, ← HWV.out];refine wp_region_held_drew (S := fun w' => w'.cell? ⟨w.heap.size + 1, 0, none⟩ = some (.slice (some sd) ss.length cs) ∧ w'.cell? ⟨w.heap.size + 1 + 1, 0, none⟩ = some (.int .i64 (x' : Int)) ∧ w'.cell? ⟨w.heap.size + 1 + 1, 1, none⟩ = some (.int .i64 (p : Int)) ∧ w'.cell? (sd.add x') = some (.int .i64 x)) (by kernel_rfl) ?_ (fun hHeld => ?_)
    · go_keep
    refine stk 0 27 ?_;refine stk 1 28 ?_;refine stk 2 29 ?_;refine stk 3 30 ?_;refine stk 4 31 ?_;refine stk 5 32 ?_;refine stk 6 33 ?_;refine stk 7 34 ?_;refine stk 8 35 ?_;refine stk 9 36 ?_;refine stk 10 37 ?_;refine stk 11 38 ?_;refine stk 12 39 ?_;refine stk 13 40 ?_;refine stk 14 41 ?_;refine stk 15 42 ?_;refine stk 16 43 ?_;refine wpAnyH_done (by kernel_rfl) ?_ _;go_wp2_with fail;go_ret;exact ⟨ret_int HF.out, hBv.drew⟩
   | false =>
    have HF := Lib.hid (show 0 = matchS l ss s by rw [HM.out, hq1, hq2]; rfl);go_enter Tryz.func79, Tryz.ntmps79;go_wp2_with fail;rw [← HW0.out, ← HW1.out, ← HWV.out];refine wp_region_held_drew (S := fun w' => w'.cell? ⟨w.heap.size + 1, 0, none⟩ = some (.slice (some sd) ss.length cs) ∧ w'.cell? ⟨w.heap.size + 1 + 1, 0, none⟩ = some (.int .i64 (x' : Int)) ∧ w'.cell? ⟨w.heap.size + 1 + 1, 1, none⟩ = some (.int .i64 (p : Int)) ∧ w'.cell? (sd.add x') = some (.int .i64 x)) (by kernel_rfl) ?_ (fun hHeld => ?_)
    · go_keep
    refine stk 0 27 ?_;refine stk 1 28 ?_;refine stk 2 29 ?_;refine stk 3 30 ?_;refine stk 4 31 ?_;refine stk 5 32 ?_;refine stk 6 33 ?_;refine stk 7 34 ?_;refine stk 8 35 ?_;refine stk 9 36 ?_;refine stk 10 37 ?_;refine stk 11 38 ?_;refine stk 12 39 ?_;refine stk 13 40 ?_;refine stk 14 41 ?_;refine stk 15 42 ?_;refine stk 16 43 ?_;refine wpAnyH_done (by kernel_rfl) ?_ _;go_wp2_with fail;go_ret;exact ⟨ret_int HF.out, hBv.drew⟩
 ·
  have HM := Lib.hid (show matchS l ss s = if 0 ≤ portI (pointsTo ss) l then portI (pointsTo ss) l + 1 else portI (isFree ss) l + 1 from if_neg hgt);have hpb := portI_bd (pointsTo ss) l;have hfb := portI_bd (isFree ss) l
  have TP := Lib.hid (show TellsE 124 #[.pointer (some ⟨w.heap.size + 1, 0, none⟩)] (pointsTo ss) l w1.heap.size w1 from fun W e he hb => by
   obtain ⟨k, hk⟩ := List.mem_iff_getElem?.1 he;obtain ⟨t, p, rfl, ht, hp5⟩ := end_at HP.out HL.out hk;obtain ⟨x, hx, hx0, hx1⟩ := HST.out.at_ ht
   exact closure_pt (w.heap.size + 1) sd cs t p ss x W ((hb.cell (p := ⟨w.heap.size + 1, 0, none⟩) (by show w.heap.size + 1 < w1.heap.size; omega)).trans hcb) hx (((bl_trans hB1 hb).cell (p := sd.add t) (by rw [block_add]; exact hsb)).trans (HSX.out t x hx)) hp5)
  have TF := Lib.hid (show TellsE 125 #[.pointer (some ⟨w.heap.size + 1, 0, none⟩)] (isFree ss) l w1.heap.size w1 from fun W e he hb => by
   obtain ⟨k, hk⟩ := List.mem_iff_getElem?.1 he;obtain ⟨t, p, rfl, ht, hp5⟩ := end_at HP.out HL.out hk;obtain ⟨x, hx, hx0, hx1⟩ := HST.out.at_ ht
   exact closure_fr (w.heap.size + 1) sd cs t p ss x W ((hb.cell (p := ⟨w.heap.size + 1, 0, none⟩) (by show w.heap.size + 1 < w1.heap.size; omega)).trans hcb) hx (((bl_trans hB1 hb).cell (p := sd.add t) (by rw [block_add]; exact hsb)).trans (HSX.out t x hx)))
  have J1 := Lib.hid (index_ends 124 #[.pointer (some ⟨w.heap.size + 1, 0, none⟩)] (enters_of Tryz.func124 (by kernel_rfl) rfl) (pointsTo ss) _ l w1 HR.out hl6 w1.heap.size (Nat.le_refl _) TP.out);clear q0 q1 q2 qf hu hcs hcs1;go_enter Tryz.func79, Tryz.ntmps79;go_wp2_with fail;rw [← HW0.out, ← HW1.out];refine J1.out.mono ?_;rintro e w2 ⟨rfl, hb2⟩;generalize portI (pointsTo ss) l = q at *;by_cases hq : 0 ≤ q
  · have hqq : q ≥ 0 := hq;have hwq : IntKind.i64.wrap (q + 1) = q + 1 := IntWalk.i64_in _ (by omega);have HF := Lib.hid (show q + 1 = matchS l ss s by rw [HM.out, if_pos hq]);go_wp2_with fail;go_ret;exact ⟨ret_int HF.out, bl_trans hB1 hb2⟩
  · have hqq : ¬ q ≥ 0 := hq;have HF := Lib.hid (show matchS l ss s = portI (isFree ss) l + 1 by rw [HM.out, if_neg hq]);have hbz := hb2.size;have J2 := Lib.hid (index_ends 125 #[.pointer (some ⟨w.heap.size + 1, 0, none⟩)] (enters_of Tryz.func125 (by kernel_rfl) rfl) (isFree ss) _ l w2 ((HR.out.below hb2).more hbz) hl6 w1.heap.size hbz (fun W e he hb => TF.out W e he (hb2.trans hb)));have hwq : IntKind.i64.wrap (portI (isFree ss) l + 1) = portI (isFree ss) l + 1 := IntWalk.i64_in _ (by omega);go_wp2_with fail;refine J2.out.mono ?_;rintro e w3 ⟨rfl, hb3⟩;go_wp2_with fail;go_ret;exact ⟨ret_int HF.out.symm, bl_trans (bl_trans hB1 hb2) hb3⟩
end
section
open Go.RowKit
set_option linter.all false
set_option maxRecDepth 100000 in
set_option maxHeartbeats 1000000 in
theorem impl_nextState (ve vi vn vs : Value) (n : Net) (r : Int) (ss : List Int) (v : Nat) (l : Ends) (s : Int) (w : World) (h : NetR w w.heap.size ve vi vn n) (ha : askP n r) (hs : IntsR w w.heap.size vs ss) (hS : Sts (cnts n r) ss) (hl : n.es[v]? = some l) (hv : ss[v]? = some s) :
  Calls Tryz.prog 45 #[.agg #[ve, vi, vn], .int .i64 r, vs, .int .i64 (v : Int)] w fun e w' => e = .returned (.int .i64 (nextAt n r ss v l s)) ∧ Below w.heap.size w w' := by
 have hp := ha.1;have h40 := hp.1.2;have hl6 := hp.len hl;have hsb0 := hS.2 v _ _ (cnts_at hl) hv;have HSB := Lib.hid hsb0; clear hsb0;have HST := Lib.hid (hS.stB hp);have HA := Lib.hid ha;have HP := Lib.hid hp; clear hp ha hS;have hvl : v < n.es.length := (List.getElem?_eq_some_iff.1 hl).1;have HSS := Lib.hid hs;obtain ⟨As, cs, rfl, -, -, hsc⟩ := hs.open_;have hssl : n.es.length ≤ ss.length ∧ ss.length ≤ n.es.length := by have := HST.out.1; omega
 obtain ⟨sd, rfl, hsb, hsx⟩ := hsc (by omega);have hcs := hsx v s hv;clear hs hsc hsx;obtain ⟨⟨A0, m0, c0, rfl⟩, ⟨A1, m1, c1, rfl⟩, A2, m2, c2, rfl⟩ := h.slices;obtain ⟨w0, hw0, hB, HD, hz0, HS0⟩ := box3 w (.slice A0 m0 c0) (.slice A1 m1 c1) (.slice A2 m2 c2) 27;have HN0 := Lib.hid h; have HN := Lib.hid (h.up hB); clear h;have HW0 := Lib.hid hw0; clear hw0;obtain ⟨q0, q1, q2, qf⟩ := cells3 HD;have HL := Lib.hid hl; clear hl;have HV := Lib.hid hv; clear hv;have hvs : v < ss.length := by omega
 have HI0 := Lib.hid ((HSS.out.below hB).more hB.size);go_enter Tryz.func45, Tryz.ntmps45;go_wp2_with fail;rw [← HW0.out];refine (impl_near _ _ _ _ n ss v l w0 HN.out HP.out HI0.out HST.out.1 HL.out).mono ?_;rintro e w1 ⟨u, rfl, ⟨A5, m5, c5, rfl⟩, hu, hb1⟩;have HU := Lib.hid hu; clear hu;replace HI0 := Lib.hid ((HI0.out.below hb1).more hb1.size);have hzhb1 := hb1.size;clear q0 q1 q2 qf;replace HD := bk HD hb1;replace HN := Lib.hid (HN.out.up hb1);replace hB := bl_trans hB hb1;obtain ⟨q0, q1, q2, qf⟩ := cells3 HD;have hcs1 := (hB.cell (p := sd.add v) (by rw [block_add]; exact hsb)).trans hcs;clear hcs;by_cases h1 : r = 1
 · subst h1;have HF := Lib.hid (show treeS n l ss v = nextAt n 1 ss v l s by unfold nextAt; rw [if_pos rfl]);go_wp2_with fail;refine (impl_nextTree _ _ _ _ n ss v l w1 HN.out HP.out HI0.out HST.out HL.out).mono ?_;rintro e w3 ⟨rfl, hb3⟩;go_wp2_with fail;go_ret;exact ⟨ret_int HF.out, bl_trans hB hb3⟩
 have k1 : (r == 1) = false := by simpa using h1
 by_cases h2 : r = 2
 ·
  subst h2;have J := Lib.hid (impl_Contains _ (nearSt l ss) s w1 HU.out);rw [has_contains] at J;cases hq : hasB (nearSt l ss) s with
  | true =>
   have HF := Lib.hid (show (leastN (nearSt l ss) : Int) = nextAt n 2 ss v l s by unfold nextAt; rw [if_neg (by omega), if_pos rfl, if_pos (propB_iff.1 hq)]);rw [hq] at J;go_wp2_with (go_at_call 37; refine J.out.mono ?_; rintro e w' ⟨rfl, rfl⟩)
   refine (impl_leastFree _ (nearSt l ss) w1 HU.out (by rw [nearSt_len]; omega)).mono ?_;rintro e w' ⟨rfl, rfl⟩;go_wp2_with fail;go_ret;exact ⟨ret_int HF.out, hB⟩
  | false =>
   have HF := Lib.hid (show s = nextAt n 2 ss v l s by unfold nextAt; rw [if_neg (by omega), if_pos rfl, if_neg (fun hm => by rw [hasB_t hm] at hq; cases hq)]);rw [hq] at J;go_wp2_with (go_at_call 37; refine J.out.mono ?_; rintro e w' ⟨rfl, rfl⟩)
   go_ret;exact ⟨ret_int HF.out, hB⟩
 have k2 : (r == 2) = false := by simpa using h2
 by_cases h3 : r = 3
 ·
  subst h3;have J := Lib.hid (impl_Contains _ (nearSt l ss) 1 w1 HU.out);rw [has_contains] at J;cases hq : hasB (nearSt l ss) 1 with
  | true =>
   have HF := Lib.hid (show 0 = nextAt n 3 ss v l s by unfold nextAt; rw [if_neg (by omega), if_neg (by omega), if_pos rfl, if_pos (propB_iff.1 hq)]);rw [hq] at J;go_wp2_with (first | (go_at_call 37; refine J.out.mono ?_; rintro e w' ⟨rfl, rfl⟩) | (go_at_call 78; refine (impl_oneIf _ _).mono ?_; rintro e w' ⟨rfl, rfl⟩))
   go_ret;exact ⟨ret_int HF.out, hB⟩
  | false =>
   have HF := Lib.hid (show 1 = nextAt n 3 ss v l s by unfold nextAt; rw [if_neg (by omega), if_neg (by omega), if_pos rfl, if_neg (fun hm => by rw [hasB_t hm] at hq; cases hq)]);rw [hq] at J;go_wp2_with (first | (go_at_call 37; refine J.out.mono ?_; rintro e w' ⟨rfl, rfl⟩) | (go_at_call 78; refine (impl_oneIf _ _).mono ?_; rintro e w' ⟨rfl, rfl⟩))
   go_ret;exact ⟨ret_int HF.out, hB⟩
 have k3 : (r == 3) = false := by simpa using h3
 by_cases h4 : r = 4
 · subst h4;have HF := Lib.hid (show matchS l ss s = nextAt n 4 ss v l s by unfold nextAt; rw [if_neg (by omega), if_neg (by omega), if_neg (by omega), if_pos rfl]);have hc : cntAt n 4 l = l.length + 1 := rfl;go_wp2_with fail;refine (impl_nextMatching _ _ _ _ n ss v l s w1 HN.out HP.out HI0.out HST.out HL.out HV.out (by have := HSB.out.2; omega)).mono ?_;rintro e w3 ⟨rfl, hb3⟩;go_wp2_with fail;go_ret;exact ⟨ret_int HF.out, bl_trans hB hb3⟩
 have k4 : (r == 4) = false := by simpa using h4
 have h5 : r = 5 := by have := HA.out.2.1; omega
 subst h5;have HF := Lib.hid (show tokenS n l ss v s = nextAt n 5 ss v l s by unfold nextAt; rw [if_neg (by omega), if_neg (by omega), if_neg (by omega), if_neg (by omega)]);obtain ⟨hl2, -⟩ := (HA.out.2.2.2 rfl).2.2.2 l (List.mem_of_getElem? HL.out);go_wp2_with fail;refine (impl_nextToken _ _ _ _ n ss v l s w1 HN.out HP.out HI0.out HST.out HL.out HV.out hl2).mono ?_;rintro e w3 ⟨rfl, hb3⟩;go_wp2_with fail;go_ret;exact ⟨ret_int HF.out, bl_trans hB hb3⟩
noncomputable def restP (n : Net) (r : Int) (ss : List Int) (x : Int) : Bool := decide (nextS n r ss x.toNat = ss.getD x.toNat 0)
theorem rest_filter (n : Net) (r : Int) (ss : List Int) : (numsL ss.length).filter (keepP (restP n r ss)) = enS n r ss := by
  unfold numsL enS enN;rw [List.filter_map];congr 1;refine List.filter_congr fun k _ => ?_
  unfold keepP restP;simp
set_option maxRecDepth 100000 in
set_option maxHeartbeats 1000000 in
theorem closure_en (S0 S1 S2 : Nat) (A0 A1 A2 : Option Addr) (m0 c0 m1 c1 m2 c2 cs k : Nat) (sd : Addr) (n : Net) (r : Int) (ss : List Int) (w : World) (h : NetR w w.heap.size (.slice A0 m0 c0) (.slice A1 m1 c1) (.slice A2 m2 c2) n) (ha : askP n r)
  (hs : IntsR w w.heap.size (.slice (some sd) ss.length cs) ss) (hS : Sts (cnts n r) ss) (q0 : w.cell? ⟨S0, 0, none⟩ = some (.slice A0 m0 c0)) (q1 : w.cell? ⟨S0, 1, none⟩ = some (.slice A1 m1 c1)) (q2 : w.cell? ⟨S0, 2, none⟩ = some (.slice A2 m2 c2))
  (p1 : w.cell? ⟨S1, 0, none⟩ = some (.int .i64 r)) (p2 : w.cell? ⟨S2, 0, none⟩ = some (.slice (some sd) ss.length cs)) (hk : k < ss.length) :
  Calls Tryz.prog 62 #[.int .i64 (k : Int), .pointer (some ⟨S0, 0, none⟩), .pointer (some ⟨S1, 0, none⟩), .pointer (some ⟨S2, 0, none⟩)] w fun e w' => e = .returned (.bool (restP n r ss (k : Int))) ∧ Below w.heap.size w w' := by
 have hlen : ss.length = n.es.length := (hS.stB ha.1).1;obtain ⟨l, hl⟩ : ∃ l, n.es[k]? = some l := ⟨_, List.getElem?_eq_getElem (by omega)⟩
 obtain ⟨s, hv⟩ : ∃ s, ss[k]? = some s := ⟨_, List.getElem?_eq_getElem hk⟩
 have HR := Lib.hid (show restP n r ss (k : Int) = (nextAt n r ss k l s == s) by
  unfold restP;rw [Int.toNat_natCast, nextS_at hl hv, List.getD_eq_getElem?_getD, hv];show decide (nextAt n r ss k l s = s) = _;by_cases e : nextAt n r ss k l s = s
  · rw [decide_eq_true e, e]; simp
  · rw [decide_eq_false e]; simp [e])
 obtain ⟨-, -, -, hcs⟩ := hs.some_;obtain ⟨sd', e', hsb, hsc⟩ := hcs (by omega);obtain rfl : sd = sd' := by simpa using e'
 have hc := hsc k s hv;have J := Lib.hid (impl_nextState _ _ _ _ n r ss k l s w.drew (h.up (Below.refl _ _).drew) ha ((hs.below (Below.refl _ _).drew).more (Nat.le_refl _)) hS hl hv);have l0 := World.block_lt_of_cell? _ _ q0;have l1 := World.block_lt_of_cell? _ _ p1;have l2 := World.block_lt_of_cell? _ _ p2;have hlen2 : ss.length ≤ n.es.length := by omega
 clear hl hv hcs hsc e' h hs hlen;generalize nextAt n r ss k l s = q at *;go_enter Tryz.func62, Tryz.ntmps62;go_wp2_with fail;refine wp_region_held_drew (S := fun w' => w'.cell? ⟨S0, 0, none⟩ = some (.slice A0 m0 c0) ∧ w'.cell? ⟨S0, 1, none⟩ = some (.slice A1 m1 c1) ∧ w'.cell? ⟨S0, 2, none⟩ = some (.slice A2 m2 c2) ∧ w'.cell? ⟨S1, 0, none⟩ = some (.int .i64 r) ∧ w'.cell? ⟨S2, 0, none⟩ = some (.slice (some sd) ss.length cs) ∧ w'.cell? (sd.add k) = some (.int .i64 s)) (by kernel_rfl) ?_ (fun hHeld => ?_)
 · go_keep
 refine stk 0 6 ?_;refine stk 1 7 ?_;refine stk 2 8 ?_;refine stk 3 9 ?_;refine stk 5 11 ?_;refine stk 6 12 ?_;refine stk 7 13 ?_;refine stk 8 14 ?_;refine tr 4 rfl (by kernel_rfl) (fun K hK => ?_);go_simp;go_at_call 45;refine J.out.mono ?_;rintro e w3 ⟨rfl, hb3'⟩;have hb3 : Below w.heap.size w w3 := (Below.refl _ _).drew.trans hb3';clear hb3';replace q0 := (hb3.cell (p := ⟨S0, 0, none⟩) l0).trans q0;replace q1 := (hb3.cell (p := ⟨S0, 1, none⟩) l0).trans q1;replace q2 := (hb3.cell (p := ⟨S0, 2, none⟩) l0).trans q2;replace p1 := (hb3.cell (p := ⟨S1, 0, none⟩) l1).trans p1;replace p2 := (hb3.cell (p := ⟨S2, 0, none⟩) l2).trans p2;replace hc := (hb3.cell (p := sd.add k) (by rw [block_add]; exact hsb)).trans hc;refine hK.out _ _ ?_ (fun hHeld => ?_)
 · go_keep
 clear hK K
 try simp only [Act.put, pu]
 refine stk 9 15 ?_;refine stk 10 5 ?_;refine wpAnyH_done (by kernel_rfl) ?_ _;go_wp2_with fail;go_ret;exact ⟨ret_bool HR.out.symm, hb3⟩
end
section
open Go.RowKit
set_option linter.all false
theorem ints_head {w : World} {g B : Nat} {t : TypeId} {ys zs : List Int} (h : w.heap[g]? = some (.cells ((ys ++ zs).map intV).toArray t (0, 0))) (hl : (ys ++ zs).length ≤ 2000000) (hI : ∀ x ∈ ys, I64 x) (hg : g < B) : IntsR w B (.slice (some ⟨g, 0, none⟩) ys.length (ys ++ zs).length) ys := by refine ⟨⟨some ⟨g, 0, none⟩, (ys ++ zs).length, by rw [List.length_map], by rw [List.length_map, List.length_append]; omega, by unfold maxLen; omega, fun _ => ⟨_, rfl, hg, fun j u hu => ?_⟩⟩, hI⟩;have hj := (List.getElem?_eq_some_iff.1 hu).1;rw [List.length_map] at hj;rw [show (⟨g, 0, none⟩ : Addr).add j = ⟨g, j, none⟩ by unfold Addr.add; split <;> simp_all, cell_of_row _ _ j _ _ (0, 0) h, ← Array.getElem?_toList];show ((ys ++ zs).map intV)[j]? = some u;rw [List.map_append, List.getElem?_append_left (by rw [List.length_map]; exact hj)];exact hu
set_option maxRecDepth 100000 in
set_option maxHeartbeats 1000000 in
theorem impl_enabledNodes (ve vi vn vs : Value) (n : Net) (r : Int) (ss : List Int) (w : World) (h : NetR w w.heap.size ve vi vn n) (ha : askP n r) (hs : IntsR w w.heap.size vs ss) (hS : Sts (cnts n r) ss) :
  Calls Tryz.prog 27 #[.agg #[ve, vi, vn], .int .i64 r, vs] w fun e w' => ∃ u, e = .returned u ∧ (∃ g c, u = .slice (some ⟨g, 0, none⟩) (enS n r ss).length c ∧ w.heap.size ≤ g) ∧ IntsR w' w'.heap.size u (enS n r ss) ∧ Below w.heap.size w w' := by
 have hlen := (hS.stB ha.1).1;have h40 := ha.1.1;have HA := Lib.hid ha;have HS := Lib.hid hS; clear hS ha;have HSS := Lib.hid hs;obtain ⟨As, cs, rfl, -, -, hsc⟩ := hs.open_;obtain ⟨sd, rfl, hsb, hsx⟩ := hsc (by omega);have hl1 : 1 ≤ ss.length ∧ ss.length ≤ 40 := by omega
 clear hs hsc hsx hlen;obtain ⟨⟨A0, m0, c0, rfl⟩, ⟨A1, m1, c1, rfl⟩, A2, m2, c2, rfl⟩ := h.slices;obtain ⟨w0, hw0, hB, HD, hz0, HS0⟩ := box3 w (.slice A0 m0 c0) (.slice A1 m1 c1) (.slice A2 m2 c2) 27;have HN0 := Lib.hid h; have HN := Lib.hid (h.up hB); clear h;have HW0 := Lib.hid hw0; clear hw0;obtain ⟨q0, q1, q2, qf⟩ := cells3 HD;obtain ⟨w1, hw1, hb1, HB1, hz1, HS1⟩ := box1 w0 (.int .i64 r) 3;obtain ⟨w2, hw2, hb2, HB2, hz2, HS2⟩ := box1 w1 (.slice (some sd) ss.length cs) 25;have HW1 := Lib.hid hw1; clear hw1;have HW2 := Lib.hid hw2; clear hw2;have hs0 := HS0.out;have hs1 : w1.heap.size = w.heap.size + 1 + 1 := by rw [HS1.out, hs0]
 have hs2 : w2.heap.size = w.heap.size + 1 + 1 + 1 := by rw [HS2.out, hs1]
 have hB2 := bl_trans (bl_trans hB hb1) hb2;have c0 : w2.cell? ⟨w.heap.size, 0, none⟩ = some (.slice A0 m0 c0) := ((bl_trans hb1 hb2).cell (p := ⟨w.heap.size, 0, none⟩) (by show w.heap.size < w0.heap.size; omega)).trans q0;have c1' : w2.cell? ⟨w.heap.size, 1, none⟩ = some (.slice A1 m1 c1) := ((bl_trans hb1 hb2).cell (p := ⟨w.heap.size, 1, none⟩) (by show w.heap.size < w0.heap.size; omega)).trans q1;have c2' : w2.cell? ⟨w.heap.size, 2, none⟩ = some (.slice A2 m2 c2) := ((bl_trans hb1 hb2).cell (p := ⟨w.heap.size, 2, none⟩) (by show w.heap.size < w0.heap.size; omega)).trans q2;have p1 : w2.cell? ⟨w.heap.size + 1, 0, none⟩ = some (.int .i64 r) := (hb2.cell (p := ⟨w.heap.size + 1, 0, none⟩) (by show w.heap.size + 1 < w1.heap.size; omega)).trans (by rw [← hs0]; exact cell_of_row _ _ 0 _ _ (0, 0) HB1.out);have p2 : w2.cell? ⟨w.heap.size + 1 + 1, 0, none⟩ = some (.slice (some sd) ss.length cs) := by rw [← hs1]; exact cell_of_row _ _ 0 _ _ (0, 0) HB2.out
 have T := Lib.hid (show Tells 62 #[.pointer (some ⟨w.heap.size, 0, none⟩), .pointer (some ⟨w.heap.size + 1, 0, none⟩), .pointer (some ⟨w.heap.size + 1 + 1, 0, none⟩)] (restP n r ss) (numsL ss.length) w2.heap.size w2 from fun W x hx hb => by
  unfold numsL at hx;obtain ⟨k, hk, rfl⟩ := List.mem_map.1 hx;have hk := List.mem_range.1 hk;exact closure_en w.heap.size (w.heap.size + 1) (w.heap.size + 1 + 1) A0 A1 A2 m0 _ m1 c1 m2 c2 cs k sd n r ss W (HN0.out.up (bl_trans hB2 hb)) HA.out ((HSS.out.below (bl_trans hB2 hb)).more (bl_trans hB2 hb).size) HS.out
   ((hb.cell (p := ⟨w.heap.size, 0, none⟩) (by show w.heap.size < w2.heap.size; omega)).trans c0) ((hb.cell (p := ⟨w.heap.size, 1, none⟩) (by show w.heap.size < w2.heap.size; omega)).trans c1') ((hb.cell (p := ⟨w.heap.size, 2, none⟩) (by show w.heap.size < w2.heap.size; omega)).trans c2')
   ((hb.cell (p := ⟨w.heap.size + 1, 0, none⟩) (by show w.heap.size + 1 < w2.heap.size; omega)).trans p1) ((hb.cell (p := ⟨w.heap.size + 1 + 1, 0, none⟩) (by show w.heap.size + 1 + 1 < w2.heap.size; omega)).trans p2) hk)
 have hnl := numsL_len ss.length;go_enter Tryz.func27, Tryz.ntmps27;go_wp2_with fail;rw [← HW0.out, ← HW1.out, ← HW2.out];refine (impl_numbersTo ss.length w2 (by omega)).mono ?_;rintro e w3 ⟨rfl, hw3⟩;have hb3 : Below w2.heap.size w2 w3 := by rw [hw3]; exact bl_alloc (Below.refl _ _) _
 have hrow : w3.heap[w2.heap.size]? = some (.cells ((numsL ss.length).map intV).toArray 3 (0, 0)) := by rw [hw3]; exact heap_alloc_new w2 _
 have hx64 : ∀ x ∈ numsL ss.length, I64 x := fun x hx => by unfold numsL at hx;obtain ⟨k, hk, rfl⟩ := List.mem_map.1 hx;have hk := List.mem_range.1 hk;unfold I64;omega
 have J := delete_ints 62 #[.pointer (some ⟨w.heap.size, 0, none⟩), .pointer (some ⟨w.heap.size + 1, 0, none⟩), .pointer (some ⟨w.heap.size + 1 + 1, 0, none⟩)] (enters_of Tryz.func62 (by kernel_rfl) rfl) (restP n r ss) w2.heap.size (numsL ss.length) w3 w2.heap.size (Nat.le_refl _) hrow hx64 (by omega) (T.out.mono hb3);rw [hnl] at J;have HJ := Lib.hid J;clear J hrow hw3 c0 c1' c2' p1 p2 q0 q1 q2 qf hs0 hs1 hs2 hnl;go_wp2_with fail;refine HJ.out.mono ?_;rintro e w4 ⟨rfl, hr4, hb4⟩;have hnl := numsL_len ss.length;unfold delRow at hr4;rw [rest_filter, hnl] at hr4;rw [rest_filter, hnl];have hel : (enS n r ss).length ≤ ss.length := enTo_len n r ss ss.length;have hlen2 : (enS n r ss ++ List.replicate (ss.length - (enS n r ss).length) (0 : Int)).length = ss.length := by rw [List.length_append, List.length_replicate]; omega
 have hI := ints_head (B := w4.heap.size) hr4 (by omega) (enTo_I64 (j := ss.length) (by omega)) (Array.getElem?_eq_some_iff.1 hr4).1;rw [hlen2] at hI;have HI := Lib.hid hI;have HBF := Lib.hid (hB2.trans ((hb3.trans hb4).mono hB2.size));clear hI hr4;go_wp2_with fail;go_ret;exact ⟨_, rfl, ⟨_, _, rfl, hB2.size⟩, HI.out, HBF.out⟩
set_option maxRecDepth 100000 in
set_option maxHeartbeats 1000000 in
theorem impl_moveSet (ve vi vn vs vt : Value) (n : Net) (r : Int) (ss set : List Int) (w : World) (h : NetR w w.heap.size ve vi vn n) (ha : askP n r) (hs : IntsR w w.heap.size vs ss) (hS : Sts (cnts n r) ss)
  (ht : IntsR w w.heap.size vt set) (hset : ∀ v ∈ set, 0 ≤ v ∧ v.toNat < ss.length) (htl : set.length ≤ 2000000) :
  Calls Tryz.prog 28 #[.agg #[ve, vi, vn], .int .i64 r, vs, vt] w fun e w' => ∃ u, e = .returned u ∧ (∃ A m c, u = .slice A m c) ∧ IntsR w' w'.heap.size u (moveS n r ss set) ∧ Below w.heap.size w w' := by
 have hp := ha.1;have h40 := hp.1;have HST := Lib.hid (hS.stB hp);have H64 := Lib.hid (moveS_I64 ha hS hset);have HA := Lib.hid ha;have HS := Lib.hid hS; clear hS hp ha;have HSS := Lib.hid hs;have HTT := Lib.hid ht;obtain ⟨As, cs, rfl, -, -, -⟩ := hs.open_;obtain ⟨At, ct, rfl, -, hct, htc⟩ := ht.open_;unfold maxLen at hct;have hssl : n.es.length ≤ ss.length ∧ ss.length ≤ n.es.length := by have := HST.out.1; omega
 have HTC := Lib.hid htc; clear hs ht htc;have HSET := Lib.hid hset; clear hset;obtain ⟨⟨A0, m0, c0, rfl⟩, ⟨A1, m1, c1, rfl⟩, A2, m2, c2, rfl⟩ := h.slices;obtain ⟨w0, hw0, hB, HD, hz0, HS0⟩ := box3 w (.slice A0 m0 c0) (.slice A1 m1 c1) (.slice A2 m2 c2) 27;have HN0 := Lib.hid h; have HN := Lib.hid (h.up hB); clear h;have HW0 := Lib.hid hw0; clear hw0;obtain ⟨q0, q1, q2, qf⟩ := cells3 HD;have HI0 := Lib.hid ((HSS.out.below hB).more hB.size);go_enter Tryz.func28, Tryz.ntmps28;go_wp2_with fail;rw [← HW0.out];refine (impl_Clone _ ss w0 HI0.out (by omega)).mono ?_;rintro e w1 ⟨v, rfl, hown, -, hb1⟩;obtain ⟨g, cap, rfl⟩ : ∃ g cap, v = .slice (some ⟨g, 0, none⟩) ss.length cap := by
  rcases hown.2 with ⟨_, e0⟩ | ⟨g, cap, cur, e, _⟩
  · omega
  · exact ⟨g, cap, e⟩
 have HO := Lib.hid hown; clear hown;replace HI0 := Lib.hid ((HI0.out.below hb1).more hb1.size);have hb01 := hb1;have hzhb1 := hb1.size;clear q0 q1 q2 qf;replace HD := bk HD hb1;replace HN := Lib.hid (HN.out.up hb1);replace hB := bl_trans hB hb1;obtain ⟨q0, q1, q2, qf⟩ := cells3 HD;go_wp2_with fail;go_loopw [16, 11] (fun i _ wr => MvRel n r ss set g cap w1 w0.heap.size i wr) (fun i _ _ => set.length - (intOf i).toNat)
 case atStart => exact ⟨0, Nat.zero_le _, rfl, HO.out, Below.refl _ _⟩
 case round =>
  obtain ⟨k, hk, rfl, hown, hbl⟩ := hrel;have HO2 := Lib.hid hown; clear hown;have hw01 := hb01.size;have hB3 := hB.trans (hbl.mono (by omega));have hz3 := hB3.size;have hzr := hbl.size;have HN3 := Lib.hid (HN0.out.up hB3);have HI3 := Lib.hid ((HSS.out.below hB3).more hB3.size);clear q0 q1 q2 qf;have HD3 := bk HD hbl (by omega);obtain ⟨q0, q1, q2, qf⟩ := cells3 HD3;by_cases hlt : k < set.length
  ·
   obtain ⟨a, ha⟩ : ∃ a, set[k]? = some a := ⟨_, List.getElem?_eq_getElem hlt⟩
   obtain ⟨a0, al⟩ := HSET.out a (List.mem_of_getElem? ha);obtain ⟨u, rfl⟩ : ∃ u : Nat, a = (u : Int) := ⟨a.toNat, by omega⟩
   have hul : u < ss.length := by simpa using al
   obtain ⟨x, hx⟩ : ∃ x, ss[u]? = some x := ⟨_, List.getElem?_eq_getElem hul⟩
   obtain ⟨l, hl⟩ : ∃ l, n.es[u]? = some l := ⟨_, List.getElem?_eq_getElem (by omega)⟩
   obtain ⟨td, rfl, htb, htx⟩ := HTC.out (by omega);have hct := (hB3.cell (p := td.add k) (by rw [block_add]; exact htb)).trans (htx k _ ha)
   have HE := Lib.hid (show moveS n r ss (set.take (k + 1)) = (moveS n r ss (set.take k)).set u (nextAt n r ss u l x) by
    obtain ⟨hk', e⟩ := List.getElem?_eq_some_iff.1 ha
    rw [List.take_succ_eq_append_getElem hk', e, moveS_snoc, Int.toNat_natCast, nextS_at hl hx])
   have J := Lib.hid (impl_nextState _ _ _ _ n r ss u l x wr HN3.out HA.out HI3.out HS.out hl hx);clear htx ha hx hl a0 al;generalize nextAt n r ss u l x = q at *;generalize moveS n r ss (set.take k) = M at *;go_wp2_with fail;refine J.out.mono ?_;rintro e w4 ⟨rfl, hb4⟩;have hown4 := own_keep4 HO2.out hb4.size (fun b _ hb => hb4.block b hb);obtain ⟨⟨u0, hc0⟩, hf0, hbg, hgl⟩ := own_slot hown4 u hul;have hb04 := hbl.trans (hb4.mono (by omega));go_wp2_with fail;go_roundw
   case rel => exact ⟨k + 1, by omega, by go_num, by rw [HE.out, List.map_set]; exact own_put hown4 u _, hb04.setCell (p := ⟨g, u, none⟩) hbg _⟩
   case measure => simp [intOf]; omega
  · have e1 : set.take k = set := List.take_of_length_le (by omega);have hfin := HO2.out;rw [e1] at hfin;have hI := own_intsR hfin H64.out;have HF := Lib.hid hI; clear hI hfin e1;go_wp2_with fail;go_ret;exact ⟨_, rfl, HF.out.isSlice, HF.out, hB3⟩
end
end Go.Proofs.YtdghoienjegffaaGreat
