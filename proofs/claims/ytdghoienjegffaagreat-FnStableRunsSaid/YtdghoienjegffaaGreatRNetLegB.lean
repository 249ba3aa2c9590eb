/-
  Which states are legal, the program's side, second part: isColouring, IsMaximalIndependent.
-/
import Derived.Test.YtdghoienjegffaaGreatRNetLegA
namespace Go.Proofs.YtdghoienjegffaaGreat
open Go.RowKit
set_option linter.all false
theorem cells4 {w : World} {b : Nat} {v0 v1 v2 v3 : Value} {t : TypeId} (H : Hid (w.heap[b]? = some (.cells #[v0, v1, v2, v3] t (0, 0)))) : w.cell? ⟨b, 0, none⟩ = some v0 ∧ w.cell? ⟨b, 1, none⟩ = some v1 ∧ w.cell? ⟨b, 2, none⟩ = some v2 ∧ w.cell? ⟨b, 3, none⟩ = some v3 :=
  ⟨cell_of_row _ _ 0 _ _ (0, 0) H.out, cell_of_row _ _ 1 _ _ (0, 0) H.out, cell_of_row _ _ 2 _ _ (0, 0) H.out, cell_of_row _ _ 3 _ _ (0, 0) H.out⟩
theorem box4 (w : World) (a b c d : Value) (t : TypeId) : ∃ w0, w0 = w.alloc (.cells #[a, b, c, d] t) ∧ Below w.heap.size w w0 ∧ Hid (w0.heap[w.heap.size]? = some (.cells #[a, b, c, d] t (0, 0))) ∧ w.heap.size < w0.heap.size :=
  ⟨_, rfl, bl_alloc (Below.refl _ _) _, Lib.hid (heap_alloc_new w _), by simp⟩
theorem EdAll.nat {n : Net} {E : List Edge} (h : EdAll n E) (hp : netP n) {x : Edge} (hx : x ∈ E) : ∃ a p b q : Nat, x = ((a : Int), (p : Int), (b : Int), (q : Int)) ∧ a < n.es.length ∧ b < n.es.length := by obtain ⟨k, hk, h1, h2, -⟩ := h;obtain ⟨v, l, i, e, hv, hi, -, rfl⟩ := h1 x hx;obtain ⟨u, p, rfl, hu, -⟩ := end_at hp hv hi;exact ⟨v, i, u, p, rfl, (List.getElem?_eq_some_iff.1 hv).1, hu⟩
theorem EdAll.any {n : Net} {E : List Edge} (h : EdAll n E) (hp : netP n) (R : Nat → Nat → Prop) (hR : ∀ a b, R a b → R b a) (p : Edge → Bool) (hq : ∀ x, p x = true ↔ R x.1.toNat x.2.2.1.toNat) : E.any p = propB (JoinP n R) := by
  have hj := h.join hp R hR;by_cases hc : JoinP n R
  · rw [propB_t hc]
    obtain ⟨x, hx, hr⟩ := hj.2 hc;exact List.any_eq_true.2 ⟨x, hx, (hq x).2 hr⟩
  · rw [propB_f hc]
    rcases Bool.eq_false_or_eq_true (E.any p) with h1 | h1
    · obtain ⟨x, hx, hr⟩ := List.any_eq_true.1 h1
      exact absurd (hj.1 ⟨x, hx, (hq x).1 hr⟩) hc
    · exact h1
def colE (ss : List Int) (x : Edge) : Bool := ss.getD x.1.toNat 0 == ss.getD x.2.2.1.toNat 0
def zeroE (ss : List Int) (x : Edge) : Bool := ss.getD x.1.toNat 0 == 0 && ss.getD x.2.2.1.toNat 0 == 0
def inE (set : List Int) (x : Edge) : Bool := set.contains x.1 && set.contains x.2.2.1
theorem any_col {n : Net} {E : List Edge} (h : EdAll n E) (hp : netP n) (ss : List Int) : E.any (colE ss) = propB (clashP n ss) :=
  h.any hp _ (fun a b hab => hab.symm) _ fun x => by unfold colE; simp
theorem any_zero {n : Net} {E : List Edge} (h : EdAll n E) (hp : netP n) (ss : List Int) : E.any (zeroE ss) = propB (bothP n ss 0) :=
  h.any hp _ (fun a b hab => ⟨hab.2, hab.1⟩) _ fun x => by unfold zeroE; simp
theorem with_contains {ss : List Int} {x : Int} {v : Nat} (hv : v < ss.length) : (withL ss x).contains (v : Int) = (ss.getD v 0 == x) := by
  have hm := withL_mem (xs := ss) (x := x) (z := (v : Int));rw [Int.toNat_natCast] at hm;have hs : ss[v]? = some (ss.getD v 0) := by rw [List.getD_eq_getElem?_getD, List.getElem?_eq_getElem hv]; rfl
  rw [hs] at hm;rw [Bool.eq_iff_iff, List.contains_iff_mem, hm];simp
theorem any_in {n : Net} {E : List Edge} (h : EdAll n E) (hp : netP n) (ss : List Int) (hl : ss.length = n.es.length) : E.any (inE (withL ss 1)) = propB (bothP n ss 1) := by
  have hk : E.any (inE (withL ss 1)) = E.any fun x => ss.getD x.1.toNat 0 == 1 && ss.getD x.2.2.1.toNat 0 == 1 := by
    rw [Bool.eq_iff_iff, List.any_eq_true, List.any_eq_true];have key : ∀ x ∈ E, inE (withL ss 1) x = (ss.getD x.1.toNat 0 == 1 && ss.getD x.2.2.1.toNat 0 == 1) := fun x hx => by obtain ⟨a, p, b, q, rfl, ha, hb⟩ := h.nat hp hx;unfold inE;simp only [Int.toNat_natCast];rw [with_contains (by omega), with_contains (by omega)]
    exact ⟨fun ⟨x, hx, h1⟩ => ⟨x, hx, by rw [← key x hx]; exact h1⟩, fun ⟨x, hx, h1⟩ => ⟨x, hx, by rw [key x hx]; exact h1⟩⟩
  rw [hk];exact h.any hp _ (fun a b hab => ⟨hab.2, hab.1⟩) _ fun x => by simp
set_option maxRecDepth 100000 in
theorem closure_col (P a p b q cs : Nat) (sd : Addr) (ss : List Int) (w : World) (hp : w.cell? ⟨P, 0, none⟩ = some (.slice (some sd) ss.length cs)) (hs : IntsR w w.heap.size (.slice (some sd) ss.length cs) ss) (ha : a < ss.length) (hb : b < ss.length) :
  Calls Tryz.prog 118 #[.agg #[.int .i64 (a : Int), .int .i64 (p : Int), .int .i64 (b : Int), .int .i64 (q : Int)], .pointer (some ⟨P, 0, none⟩)] w fun e w' => e = .returned (.bool (colE ss ((a : Int), (p : Int), (b : Int), (q : Int)))) ∧ Below w.heap.size w w' := by
 obtain ⟨x, hx⟩ : ∃ x, ss[a]? = some x := ⟨_, List.getElem?_eq_getElem ha⟩
 obtain ⟨y, hy⟩ : ∃ y, ss[b]? = some y := ⟨_, List.getElem?_eq_getElem hb⟩
 obtain ⟨-, -, -, hcs⟩ := hs.some_;obtain ⟨sd', e', hsb, hsc⟩ := hcs (by omega);obtain rfl : sd = sd' := by simpa using e'
 have HR := Lib.hid (show (x == y) = colE ss ((a : Int), (p : Int), (b : Int), (q : Int)) by unfold colE; simp only [Int.toNat_natCast]; rw [getD_at hx, getD_at hy]);obtain ⟨wv, hwv, hbv, HEB, hzv⟩ := box4 w (.int .i64 (a : Int)) (.int .i64 (p : Int)) (.int .i64 (b : Int)) (.int .i64 (q : Int)) 87;obtain ⟨d0, d1, d2, d3⟩ := cells4 HEB;have hP := (hbv.cell (p := ⟨P, 0, none⟩) (World.block_lt_of_cell? _ _ hp)).trans hp;have hc := (hbv.cell (p := sd.add a) (by rw [block_add]; exact hsb)).trans (hsc a x hx);have hc2 := (hbv.cell (p := sd.add b) (by rw [block_add]; exact hsb)).trans (hsc b y hy);have HWV := Lib.hid hwv;clear hx hy hsc hcs e' hs hp hwv;go_enter Tryz.func118, Tryz.ntmps118;go_wp2_with fail;rw [← HWV.out];refine wp_region_held_drew (S := fun w' => w'.cell? ⟨P, 0, none⟩ = some (.slice (some sd) ss.length cs) ∧ w'.cell? ⟨w.heap.size, 0, none⟩ = some (.int .i64 (a : Int)) ∧ w'.cell? ⟨w.heap.size, 2, none⟩ = some (.int .i64 (b : Int)) ∧ w'.cell? (sd.add a) = some (.int .i64 x) ∧ w'.cell? (sd.add b) = some (.int .i64 y)) (by kernel_rfl) ?_ (fun hHeld => ?_)
 · go_keep
 refine stk 0 4 ?_;refine stk 1 5 ?_;refine stk 2 6 ?_;refine stk 3 7 ?_;refine stk 4 8 ?_;refine stk 5 9 ?_;refine stk 6 10 ?_;refine stk 7 11 ?_;refine stk 8 12 ?_;refine stk 9 13 ?_;refine stk 10 14 ?_;refine stk 11 3 ?_;refine wpAnyH_done (by kernel_rfl) ?_ _;go_wp2_with fail;go_ret;exact ⟨ret_bool HR.out, hbv.drew⟩
set_option maxRecDepth 100000 in
set_option maxHeartbeats 1000000 in
theorem impl_isColouring (ve vi vn vs : Value) (n : Net) (ss : List Int) (w : World) (h : NetR w w.heap.size ve vi vn n) (hp : netP n) (hs : IntsR w w.heap.size vs ss) (hS : StB n ss) :
  Calls Tryz.prog 68 #[.agg #[ve, vi, vn], vs] w fun e w' => e = .returned (.bool (!propB (clashP n ss))) ∧ Below w.heap.size w w' := by
 have h40 := hp.1;have HP := Lib.hid hp; clear hp;have HSS := Lib.hid hs;have hssl : n.es.length ≤ ss.length ∧ ss.length ≤ n.es.length := by have := hS.1; omega
 have hsl2 : ((ss.length : Int) == (n.es.length : Int)) = true := by have := hS.1; rw [this]; simp
 obtain ⟨As, cs, rfl, -, -, hsc⟩ := hs.open_;obtain ⟨sd, rfl, hsb, -⟩ := hsc (by omega);have hal := allB_st hS;clear hs hsc hS;obtain ⟨⟨A0, m0, c0, rfl⟩, ⟨A1, m1, c1, rfl⟩, A2, m2, c2, rfl⟩ := h.slices;obtain ⟨w0, hw0, hB, HD, hz0, HS0⟩ := box3 w (.slice A0 m0 c0) (.slice A1 m1 c1) (.slice A2 m2 c2) 27;have HN0 := Lib.hid h; have HN := Lib.hid (h.up hB); clear h;have HW0 := Lib.hid hw0; clear hw0;obtain ⟨q0, q1, q2, qf⟩ := cells3 HD;obtain ⟨hm0, -, -⟩ := HN.out.e.len_slice;subst hm0;obtain ⟨w1, hw1, hb1, HB1, hz1, HS1⟩ := box1 w0 (.slice (some sd) ss.length cs) 25;have HW1 := Lib.hid hw1; clear hw1;have hs0 := HS0.out;have q3 : w1.cell? ⟨w.heap.size + 1, 0, none⟩ = some (.slice (some sd) ss.length cs) := by rw [← hs0]; exact cell_of_row _ _ 0 _ _ (0, 0) HB1.out
 have q3l : w.heap.size + 1 < w1.heap.size := by omega
 have HQ3 := Lib.hid q3;have hzhb1 := hb1.size;clear q0 q1 q2 qf;replace HD := bk HD hb1;replace HN := Lib.hid (HN.out.up hb1);replace hB := bl_trans hB hb1;obtain ⟨q0, q1, q2, qf⟩ := cells3 HD;have HI := Lib.hid ((HSS.out.below hB).more hB.size);go_enter Tryz.func68, Tryz.ntmps68;go_wp2_with fail;rw [← HW0.out, ← HW1.out];refine (impl_allWithin _ ss 0 1000000000000 w1 HI.out).mono ?_;rintro e w2 ⟨rfl, hb2⟩;rw [hal];clear q3;replace q3 := (hb2.cell (p := ⟨w.heap.size + 1, 0, none⟩) q3l).trans HQ3.out;have q3l2 : w.heap.size + 1 < w2.heap.size := by have := hb2.size; omega
 have hzhb2 := hb2.size;clear q0 q1 q2 qf;replace HD := bk HD hb2;replace HN := Lib.hid (HN.out.up hb2);replace hB := bl_trans hB hb2;obtain ⟨q0, q1, q2, qf⟩ := cells3 HD;replace HI := Lib.hid ((HI.out.below hb2).more hb2.size);clear hs0;go_wp2_with fail;refine (impl_edges _ _ _ n w2 HN.out HP.out).mono ?_;rintro e w3 ⟨u, E, rfl, hed, hlen, hown, hb3⟩;have HED := Lib.hid hed;have HAC := Lib.hid (any_col hed HP.out ss);have HIE := Lib.hid ((HI.out.below hb3).more hb3.size);have HQE := Lib.hid ((hb3.cell (p := ⟨w.heap.size + 1, 0, none⟩) q3l2).trans q3)
 have J := Lib.hid (contains_edges 118 #[.pointer (some ⟨w.heap.size + 1, 0, none⟩)] (enters_of Tryz.func118 (by kernel_rfl) rfl) (colE ss) u E w2.heap.size w3 hown hlen w3.heap.size (Nat.le_refl _) fun W x hx hb => by
  obtain ⟨a, p, b, q, rfl, ha, hb'⟩ := HED.out.nat HP.out hx
  exact closure_col (w.heap.size + 1) a p b q cs sd ss W ((hb.cell (p := ⟨w.heap.size + 1, 0, none⟩) (World.block_lt_of_cell? _ _ HQE.out)).trans HQE.out) ((HIE.out.below hb).more hb.size) (by omega) (by omega))
 rw [HAC.out] at J;clear hed hown;go_wp2_with fail;refine J.out.mono ?_;rintro e w4 ⟨rfl, hb4⟩;go_wp2_with fail;go_ret;exact ⟨rfl, bl_trans (bl_trans hB hb3) hb4⟩
def isE (v : Int) (e : Int × Int) : Bool := e.1 == v
def nearE (set : List Int) (e : Int × Int) : Bool := set.contains e.1
theorem closure_join (P v : Nat) (e : Int × Int) (w : World) (hp : w.cell? ⟨P, 0, none⟩ = some (.int .i64 (v : Int))) :
    Calls Tryz.prog 140 #[.agg #[.int .i64 e.1, .int .i64 e.2], .pointer (some ⟨P, 0, none⟩)] w fun r w' => r = .returned (.bool (isE v e)) ∧ Below w.heap.size w w' := by
  obtain ⟨wv, hwv, hbv, HEB, hzv, HSV⟩ := box2 w (.int .i64 e.1) (.int .i64 e.2) 74;obtain ⟨d0, d1, df⟩ := cells2 HEB;have hP := (hbv.cell (p := ⟨P, 0, none⟩) (World.block_lt_of_cell? _ _ hp)).trans hp;subst hwv;go_enter Tryz.func140, Tryz.ntmps140;go_wp2_with fail;go_ret;exact ⟨rfl, hbv⟩
theorem closure_near (P : Nat) (vs : Value) (set : List Int) (e : Int × Int) (w : World) (hp : w.cell? ⟨P, 0, none⟩ = some vs) (hs : IntsR w w.heap.size vs set) :
    Calls Tryz.prog 141 #[.agg #[.int .i64 e.1, .int .i64 e.2], .pointer (some ⟨P, 0, none⟩)] w fun r w' => r = .returned (.bool (nearE set e)) ∧ Below w.heap.size w w' := by
  obtain ⟨wv, hwv, hbv, HEB, hzv, HSV⟩ := box2 w (.int .i64 e.1) (.int .i64 e.2) 74;obtain ⟨d0, d1, df⟩ := cells2 HEB;have hP := (hbv.cell (p := ⟨P, 0, none⟩) (World.block_lt_of_cell? _ _ hp)).trans hp;have HI := Lib.hid ((hs.below hbv).more hbv.size);obtain ⟨As, cs, rfl, -, -, -⟩ := hs.open_;clear hs;subst hwv;go_enter Tryz.func141, Tryz.ntmps141;go_wp2_with fail;refine (impl_Contains _ set e.1 _ HI.out).mono ?_;rintro r w' ⟨rfl, rfl⟩;go_wp2_with fail;go_ret;exact ⟨ret_bool (by unfold nearE; simp), hbv⟩
theorem closure_ind (P : Nat) (vs : Value) (set : List Int) (x : Edge) (w : World) (hp : w.cell? ⟨P, 0, none⟩ = some vs) (hs : IntsR w w.heap.size vs set) :
    Calls Tryz.prog 154 #[.agg #[.int .i64 x.1, .int .i64 x.2.1, .int .i64 x.2.2.1, .int .i64 x.2.2.2], .pointer (some ⟨P, 0, none⟩)] w fun r w' => r = .returned (.bool (inE set x)) ∧ Below w.heap.size w w' := by
  obtain ⟨wv, hwv, hbv, HEB, hzv⟩ := box4 w (.int .i64 x.1) (.int .i64 x.2.1) (.int .i64 x.2.2.1) (.int .i64 x.2.2.2) 87;obtain ⟨d0, d1, d2, d3⟩ := cells4 HEB;have hP := (hbv.cell (p := ⟨P, 0, none⟩) (World.block_lt_of_cell? _ _ hp)).trans hp;have HI := Lib.hid ((hs.below hbv).more hbv.size);obtain ⟨As, cs, rfl, -, -, -⟩ := hs.open_;clear hs;subst hwv;have HE := Lib.hid (show inE set x = (set.contains x.1 && set.contains x.2.2.1) from rfl);go_enter Tryz.func154, Tryz.ntmps154;go_wp2_with fail;refine (impl_Contains _ set x.1 _ HI.out).mono ?_;rintro r w' ⟨rfl, rfl⟩;cases hq : set.contains x.1 with
  | false =>
    have HF := Lib.hid (show false = inE set x by rw [HE.out, hq]; rfl);go_wp2_with fail;go_ret;exact ⟨ret_bool HF.out, hbv⟩
  | true =>
    have HF := Lib.hid (show set.contains x.2.2.1 = inE set x by rw [HE.out, hq]; rfl);go_wp2_with fail;refine (impl_Contains _ set x.2.2.1 _ HI.out).mono ?_;rintro r w' ⟨rfl, rfl⟩;go_wp2_with fail;go_ret;exact ⟨ret_bool (by rw [← HF.out]; simp), hbv⟩
set_option maxRecDepth 100000 in
theorem impl_areJoined (ve vi vn : Value) (n : Net) (u v : Nat) (l : Ends) (w : World) (h : NetR w w.heap.size ve vi vn n) (hp : netP n) (hl : n.es[u]? = some l) :
  Calls Tryz.prog 94 #[.agg #[ve, vi, vn], .int .i64 (u : Int), .int .i64 (v : Int)] w fun e w' => e = .returned (.bool (l.any (isE v))) ∧ Below w.heap.size w w' := by
 have h40 := hp.1;have hl6 := hp.len hl;have hul := (List.getElem?_eq_some_iff.1 hl).1;obtain ⟨⟨A0, m0, c0, rfl⟩, ⟨A1, m1, c1, rfl⟩, A2, m2, c2, rfl⟩ := h.slices;obtain ⟨w0, hw0, hB, HD, hz0, HS0⟩ := box3 w (.slice A0 m0 c0) (.slice A1 m1 c1) (.slice A2 m2 c2) 27;have HN0 := Lib.hid h; have HN := Lib.hid (h.up hB); clear h;have HW0 := Lib.hid hw0; clear hw0;obtain ⟨q0, q1, q2, qf⟩ := cells3 HD;obtain ⟨hm0, -, -⟩ := HN.out.e.len_slice;subst hm0;obtain ⟨w1, hw1, hb1, HB1, hz1, HS1⟩ := box1 w0 (.int .i64 (v : Int)) 3;have HW1 := Lib.hid hw1; clear hw1;have hs0 := HS0.out;have q3 : w1.cell? ⟨w.heap.size + 1, 0, none⟩ = some (.int .i64 (v : Int)) := by rw [← hs0]; exact cell_of_row _ _ 0 _ _ (0, 0) HB1.out
 have HQ3 := Lib.hid q3;have hzhb1 := hb1.size;clear q0 q1 q2 qf;replace HD := bk HD hb1;replace HN := Lib.hid (HN.out.up hb1);replace hB := bl_trans hB hb1;obtain ⟨q0, q1, q2, qf⟩ := cells3 HD;obtain ⟨ad, rfl⟩ := HN.out.e.some_ (by omega);obtain ⟨hab, ur, hu, hr⟩ := HN.out.e.at_ hl;have HR := Lib.hid hr;obtain ⟨A', c', rfl, hlc, hlm, -, h4⟩ := hr
 have J := Lib.hid (contains_ends 140 #[.pointer (some ⟨w.heap.size + 1, 0, none⟩)] (enters_of Tryz.func140 (by kernel_rfl) rfl) (isE v) _ l w1 HR.out hl6 w1.heap.size (Nat.le_refl _) fun W e he hb =>
  closure_join (w.heap.size + 1) v e W ((hb.cell (p := ⟨w.heap.size + 1, 0, none⟩) (World.block_lt_of_cell? _ _ HQ3.out)).trans HQ3.out))
 have HZ := Lib.hid (And.intro HS0.out HS1.out);rw [HW1.out, HW0.out] at hu;have HU := hu;clear q3 hs0 h4 hl;go_enter Tryz.func94, Tryz.ntmps94;go_wp2_with fail;rw [← HW0.out, ← HW1.out];refine J.out.mono ?_;rintro e w2 ⟨rfl, hb2⟩;go_wp2_with fail;go_ret;exact ⟨rfl, bl_trans hB hb2⟩
set_option maxRecDepth 100000 in
theorem impl_hasNear (ve vi vn : Value) (n : Net) (u : Nat) (set : List Int) (vt : Value) (l : Ends) (w : World) (h : NetR w w.heap.size ve vi vn n) (hp : netP n) (hl : n.es[u]? = some l) (ht : IntsR w w.heap.size vt set) :
  Calls Tryz.prog 95 #[.agg #[ve, vi, vn], .int .i64 (u : Int), vt] w fun e w' => e = .returned (.bool (l.any (nearE set))) ∧ Below w.heap.size w w' := by
 have h40 := hp.1;have hl6 := hp.len hl;have hul := (List.getElem?_eq_some_iff.1 hl).1;have HTT := Lib.hid ht;obtain ⟨At, ct, rfl, -, -, -⟩ := ht.open_;clear ht;obtain ⟨⟨A0, m0, c0, rfl⟩, ⟨A1, m1, c1, rfl⟩, A2, m2, c2, rfl⟩ := h.slices;obtain ⟨w0, hw0, hB, HD, hz0, HS0⟩ := box3 w (.slice A0 m0 c0) (.slice A1 m1 c1) (.slice A2 m2 c2) 27;have HN0 := Lib.hid h; have HN := Lib.hid (h.up hB); clear h;have HW0 := Lib.hid hw0; clear hw0;obtain ⟨q0, q1, q2, qf⟩ := cells3 HD;obtain ⟨hm0, -, -⟩ := HN.out.e.len_slice;subst hm0;obtain ⟨w1, hw1, hb1, HB1, hz1, HS1⟩ := box1 w0 (.slice At set.length ct) 25;have HW1 := Lib.hid hw1; clear hw1;have hs0 := HS0.out;have q3 : w1.cell? ⟨w.heap.size + 1, 0, none⟩ = some (.slice At set.length ct) := by rw [← hs0]; exact cell_of_row _ _ 0 _ _ (0, 0) HB1.out
 have HQ3 := Lib.hid q3;have hzhb1 := hb1.size;clear q0 q1 q2 qf;replace HD := bk HD hb1;replace HN := Lib.hid (HN.out.up hb1);replace hB := bl_trans hB hb1;obtain ⟨q0, q1, q2, qf⟩ := cells3 HD;have HT1 := Lib.hid ((HTT.out.below hB).more hB.size);obtain ⟨ad, rfl⟩ := HN.out.e.some_ (by omega);obtain ⟨hab, ur, hu, hr⟩ := HN.out.e.at_ hl;have HR := Lib.hid hr;obtain ⟨A', c', rfl, hlc, hlm, -, h4⟩ := hr
 have J := Lib.hid (contains_ends 141 #[.pointer (some ⟨w.heap.size + 1, 0, none⟩)] (enters_of Tryz.func141 (by kernel_rfl) rfl) (nearE set) _ l w1 HR.out hl6 w1.heap.size (Nat.le_refl _) fun W e he hb =>
  closure_near (w.heap.size + 1) _ set e W ((hb.cell (p := ⟨w.heap.size + 1, 0, none⟩) (World.block_lt_of_cell? _ _ HQ3.out)).trans HQ3.out) ((HT1.out.below hb).more hb.size))
 have HZ := Lib.hid (And.intro HS0.out HS1.out);rw [HW1.out, HW0.out] at hu;have HU := hu;clear q3 hs0 h4 hl;go_enter Tryz.func95, Tryz.ntmps95;go_wp2_with fail;rw [← HW0.out, ← HW1.out];refine J.out.mono ?_;rintro e w2 ⟨rfl, hb2⟩;go_wp2_with fail;go_ret;exact ⟨rfl, bl_trans hB hb2⟩
set_option maxRecDepth 100000 in
theorem impl_isIndependent (ve vi vn vt : Value) (n : Net) (set : List Int) (w : World) (h : NetR w w.heap.size ve vi vn n) (hp : netP n) (ht : IntsR w w.heap.size vt set) :
  Calls Tryz.prog 120 #[.agg #[ve, vi, vn], vt] w fun e w' => ∃ E, EdAll n E ∧ e = .returned (.bool (!E.any (inE set))) ∧ Below w.heap.size w w' := by
 have HP := Lib.hid hp;have HTT := Lib.hid ht;obtain ⟨At, ct, rfl, -, -, -⟩ := ht.open_;clear ht;obtain ⟨⟨A0, m0, c0, rfl⟩, ⟨A1, m1, c1, rfl⟩, A2, m2, c2, rfl⟩ := h.slices;obtain ⟨w0, hw0, hB, HD, hz0, HS0⟩ := box3 w (.slice A0 m0 c0) (.slice A1 m1 c1) (.slice A2 m2 c2) 27;have HN0 := Lib.hid h; have HN := Lib.hid (h.up hB); clear h;have HW0 := Lib.hid hw0; clear hw0;obtain ⟨q0, q1, q2, qf⟩ := cells3 HD;obtain ⟨w1, hw1, hb1, HB1, hz1, HS1⟩ := box1 w0 (.slice At set.length ct) 25;have HW1 := Lib.hid hw1; clear hw1;have hs0 := HS0.out;have q3 : w1.cell? ⟨w.heap.size + 1, 0, none⟩ = some (.slice At set.length ct) := by rw [← hs0]; exact cell_of_row _ _ 0 _ _ (0, 0) HB1.out
 have HQ3 := Lib.hid q3;have hzhb1 := hb1.size;clear q0 q1 q2 qf;replace HD := bk HD hb1;replace HN := Lib.hid (HN.out.up hb1);replace hB := bl_trans hB hb1;obtain ⟨q0, q1, q2, qf⟩ := cells3 HD;have HT1 := Lib.hid ((HTT.out.below hB).more hB.size);clear q3 hs0;go_enter Tryz.func120, Tryz.ntmps120;go_wp2_with fail;rw [← HW0.out, ← HW1.out];refine (impl_edges _ _ _ n w1 HN.out HP.out).mono ?_;rintro e w2 ⟨u, E, rfl, hed, hlen, hown, hb2⟩;have HT2 := Lib.hid ((HT1.out.below hb2).more hb2.size);have HQ2 := Lib.hid ((hb2.cell (p := ⟨w.heap.size + 1, 0, none⟩) (World.block_lt_of_cell? _ _ HQ3.out)).trans HQ3.out)
 have J := Lib.hid (contains_edges 154 #[.pointer (some ⟨w.heap.size + 1, 0, none⟩)] (enters_of Tryz.func154 (by kernel_rfl) rfl) (inE set) u E w1.heap.size w2 hown hlen w2.heap.size (Nat.le_refl _) fun W x hx hb =>
  closure_ind (w.heap.size + 1) _ set x W ((hb.cell (p := ⟨w.heap.size + 1, 0, none⟩) (World.block_lt_of_cell? _ _ HQ2.out)).trans HQ2.out) ((HT2.out.below hb).more hb.size))
 have HED := Lib.hid hed;clear hed hown;go_wp2_with fail;refine J.out.mono ?_;rintro e w3 ⟨rfl, hb3⟩;go_wp2_with fail;go_ret;exact ⟨E, HED.out, rfl, bl_trans (bl_trans hB hb2) hb3⟩
set_option maxRecDepth 100000 in
theorem impl_isNodeSet (ve vi vn vt : Value) (n : Net) (set : List Int) (w : World) (h : NetR w w.heap.size ve vi vn n) (hp : netP n) (ht : IntsR w w.heap.size vt set) (hr : risingP set 0 (n.es.length - 1)) :
  Calls Tryz.prog 119 #[.agg #[ve, vi, vn], vt] w fun e w' => e = .returned (.bool true) ∧ Below w.heap.size w w' := by
 have h40 := hp.1;have hid1 : n.ids.length ≤ 2000000 := (hp.2.1.2.2).elim (fun h => by rw [h]; simp) (fun h => by omega);have hnb : netB n = true := propB_t hp;have hrb : riseB set 0 ((n.es.length : Int) - 1) = true := propB_t hr;have hwr : IntKind.i64.wrap ((n.es.length : Int) - 1) = (n.es.length : Int) - 1 := IntWalk.i64_in _ (by omega);have HTT := Lib.hid ht;obtain ⟨At, ct, rfl, -, -, -⟩ := ht.open_;clear ht hr hp;obtain ⟨⟨A0, m0, c0, rfl⟩, ⟨A1, m1, c1, rfl⟩, A2, m2, c2, rfl⟩ := h.slices;obtain ⟨w0, hw0, hB, HD, hz0, HS0⟩ := box3 w (.slice A0 m0 c0) (.slice A1 m1 c1) (.slice A2 m2 c2) 27;have HN0 := Lib.hid h; have HN := Lib.hid (h.up hB); clear h;have HW0 := Lib.hid hw0; clear hw0;obtain ⟨q0, q1, q2, qf⟩ := cells3 HD;obtain ⟨hm0, -, -⟩ := HN.out.e.len_slice;subst hm0;have HT0 := Lib.hid ((HTT.out.below hB).more hB.size);go_enter Tryz.func119, Tryz.ntmps119;go_wp2_with fail;rw [← HW0.out];refine (impl_IsNetwork _ _ _ n w0 HN.out (by omega) hid1).mono ?_;rintro e w1 ⟨rfl, hb1⟩;rw [hnb];replace HT0 := Lib.hid ((HT0.out.below hb1).more hb1.size);have hzhb1 := hb1.size;clear q0 q1 q2 qf;replace HD := bk HD hb1;replace HN := Lib.hid (HN.out.up hb1);replace hB := bl_trans hB hb1;obtain ⟨q0, q1, q2, qf⟩ := cells3 HD;go_wp2_with fail;refine (impl_increasing _ set 0 ((n.es.length : Int) - 1) w1 HT0.out).mono ?_;rintro e w2 ⟨rfl, rfl⟩;rw [hrb];go_wp2_with fail;go_ret;exact ⟨rfl, hB⟩
theorem withL_rises {ss : List Int} {x : Int} {k : Nat} (hl : ss.length = k) : risingP (withL ss x) 0 ((k : Int) - 1) := by
  refine ⟨fun z hz => ?_, pair_rising ?_⟩
  · obtain ⟨k1, k2⟩ := withL_mem.1 hz
    have := (List.getElem?_eq_some_iff.1 k2).1;omega
  · unfold withL
    exact List.Pairwise.map _ (R := fun a b : Nat => a < b) (fun a b hab => by omega) (List.Pairwise.filter _ List.pairwise_lt_range)
def MxTo (n : Net) (ss : List Int) (k : Nat) : Prop := ∀ (v : Nat) (l : List (Int × Int)) (s : Int), v < k → n.es[v]? = some l → ss[v]? = some s → s = 1 ∨ ∃ e ∈ l, ss.getD e.1.toNat 0 = 1
theorem MxTo.next {n : Net} {ss : List Int} {k : Nat} {l : List (Int × Int)} {s : Int} (h : MxTo n ss k) (hl : n.es[k]? = some l) (hs : ss[k]? = some s) (hk : s = 1 ∨ ∃ e ∈ l, ss.getD e.1.toNat 0 = 1) : MxTo n ss (k + 1) := fun v l' s' hv hl' hs' => by
  rcases Nat.lt_or_ge v k with h1 | h1
  · exact h v l' s' h1 hl' hs'
  · obtain rfl : v = k := by omega
    obtain rfl := Option.some.inj (hl.symm.trans hl');obtain rfl := Option.some.inj (hs.symm.trans hs');exact hk
theorem near_any {n : Net} {ss : List Int} {k : Nat} {l : Ends} (hp : netP n) (hsl : ss.length = n.es.length) (hl : n.es[k]? = some l) : l.any (nearE (withL ss 1)) = propB (∃ e ∈ l, ss.getD e.1.toNat 0 = 1) := by
  have key : ∀ e ∈ l, nearE (withL ss 1) e = (ss.getD e.1.toNat 0 == 1) := fun e he => by obtain ⟨i, hi⟩ := List.mem_iff_getElem?.1 he;obtain ⟨u, p, rfl, hu, -⟩ := end_at hp hl hi;unfold nearE;simp only [Int.toNat_natCast];exact with_contains (by omega)
  by_cases hc : ∃ e ∈ l, ss.getD e.1.toNat 0 = 1
  · rw [propB_t hc]
    obtain ⟨e, he, h1⟩ := hc;exact List.any_eq_true.2 ⟨e, he, by rw [key e he]; simpa using h1⟩
  · rw [propB_f hc]
    rcases Bool.eq_false_or_eq_true (l.any (nearE (withL ss 1))) with h1 | h1
    · obtain ⟨e, he, h2⟩ := List.any_eq_true.1 h1
      exact absurd ⟨e, he, by rw [key e he] at h2; simpa using h2⟩ hc
    · exact h1
theorem no_self {n : Net} (hq : plainP n) {k : Nat} {l : Ends} (hl : n.es[k]? = some l) : l.any (isE (k : Int)) = false := by
  rcases Bool.eq_false_or_eq_true (l.any (isE (k : Int))) with h1 | h1
  · obtain ⟨e, he, h2⟩ := List.any_eq_true.1 h1
    exact absurd (by unfold isE at h2; simpa using h2) (hq k l hl e he)
  · exact h1
def MxiRel (n : Net) (ss : List Int) (w : World) (i : Value) (wr : World) : Prop := ∃ k : Nat, k ≤ n.es.length ∧ i = .int .i64 k ∧ MxTo n ss k ∧ Below w.heap.size w wr
set_option maxRecDepth 100000 in
set_option maxHeartbeats 1000000 in
theorem impl_IsMaximalIndependent (ve vi vn vt : Value) (n : Net) (ss : List Int) (w : World) (h : NetR w w.heap.size ve vi vn n) (hp : netP n) (hq : plainP n) (hsl : ss.length = n.es.length) (ht : IntsR w w.heap.size vt (withL ss 1)) :
  Calls Tryz.prog 69 #[.agg #[ve, vi, vn], vt] w fun e w' => e = .returned (.tuple #[.bool (propB (maxP n ss ∧ ¬ bothP n ss 1)), .bool true]) ∧ Below w.heap.size w w' := by
 have h40 := hp.1;have HP := Lib.hid hp;have HQ := Lib.hid hq;have HSL := Lib.hid hsl;have hsl2 : n.es.length ≤ ss.length ∧ ss.length ≤ n.es.length := by omega
 have HRI := Lib.hid (withL_rises (x := 1) hsl);have HTT := Lib.hid ht;have HSE := Lib.hid (fun (k : Nat) (hk : k < ss.length) => with_contains (x := 1) hk);obtain ⟨set, hset⟩ : ∃ z, z = withL ss 1 := ⟨_, rfl⟩
 rw [← hset] at HRI HTT HSE ht;have HSET := Lib.hid hset;obtain ⟨At, ct, rfl, -, -, -⟩ := ht.open_;clear ht hp hq hset hsl;obtain ⟨⟨A0, m0, c0, rfl⟩, ⟨A1, m1, c1, rfl⟩, A2, m2, c2, rfl⟩ := h.slices;obtain ⟨w0, hw0, hB, HD, hz0, HS0⟩ := box3 w (.slice A0 m0 c0) (.slice A1 m1 c1) (.slice A2 m2 c2) 27;have HN0 := Lib.hid h; have HN := Lib.hid (h.up hB); clear h;have HW0 := Lib.hid hw0; clear hw0;obtain ⟨q0, q1, q2, qf⟩ := cells3 HD;obtain ⟨hm0, -, -⟩ := HN.out.e.len_slice;subst hm0;have HT0 := Lib.hid ((HTT.out.below hB).more hB.size);go_enter Tryz.func69, Tryz.ntmps69;go_wp2_with fail;rw [← HW0.out];refine (impl_isNodeSet _ _ _ _ n set w0 HN.out HP.out HT0.out HRI.out).mono ?_;rintro e w1 ⟨rfl, hb1⟩;replace HT0 := Lib.hid ((HT0.out.below hb1).more hb1.size);have hzhb1 := hb1.size;clear q0 q1 q2 qf;replace HD := bk HD hb1;replace HN := Lib.hid (HN.out.up hb1);replace hB := bl_trans hB hb1;obtain ⟨q0, q1, q2, qf⟩ := cells3 HD;go_wp2_with fail;go_loopw [6, 14] (fun _ i wr => MxiRel n ss w1 i wr) (fun _ i _ => n.es.length - (intOf i).toNat)
 case atStart => exact ⟨0, Nat.zero_le _, rfl, fun _ _ _ h => by omega, Below.refl _ _⟩
 case round =>
  obtain ⟨k, hk, rfl, hmx, hbl⟩ := hrel;have HMX := Lib.hid hmx; clear hmx;have HT1 := Lib.hid ((HT0.out.below hbl).more hbl.size);have hzhbl := hbl.size;clear q0 q1 q2 qf;replace HD := bk HD hbl;replace HN := Lib.hid (HN.out.up hbl);replace hB := bl_trans hB hbl;obtain ⟨q0, q1, q2, qf⟩ := cells3 HD;by_cases hlt : k < n.es.length
  ·
   obtain ⟨l, hl⟩ : ∃ l, n.es[k]? = some l := ⟨_, List.getElem?_eq_getElem hlt⟩
   obtain ⟨s, hs⟩ : ∃ s, ss[k]? = some s := ⟨_, List.getElem?_eq_getElem (by omega)⟩
   have hce := HSE.out k (by omega);rw [getD_at hs] at hce;have HNA := Lib.hid (near_any HP.out HSL.out hl);rw [← HSET.out] at HNA;have hns := no_self HQ.out hl;have HL := Lib.hid (And.intro hl hs);clear hl hs;by_cases h1 : s = 1
   ·
    have kc : set.contains (k : Int) = true := by rw [hce, h1]; rfl
    have HX := Lib.hid (HMX.out.next HL.out.1 HL.out.2 (.inl h1));clear hce;go_wp2_with fail;refine (impl_Contains _ set k wr HT1.out).mono ?_;rintro r w' ⟨rfl, rfl⟩;rw [kc];go_wp2_with fail;go_roundw
    case rel => exact ⟨k + 1, by omega, by go_num, HX.out, hbl⟩
    case measure => simp [intOf]; omega
   ·
    have kc : set.contains (k : Int) = false := by rw [hce]; simpa using h1
    clear hce;go_wp2_with fail;refine (impl_Contains _ set k wr HT1.out).mono ?_;rintro r w' ⟨rfl, rfl⟩;rw [kc];go_wp2_with fail;refine (impl_areJoined _ _ _ n k k l wr HN.out HP.out HL.out.1).mono ?_;rintro r w2 ⟨rfl, hb2⟩;rw [hns];have HT2 := Lib.hid ((HT1.out.below hb2).more hb2.size);have hzhb2 := hb2.size;clear q0 q1 q2 qf;replace HD := bk HD hb2;replace HN := Lib.hid (HN.out.up hb2);replace hB := bl_trans hB hb2;obtain ⟨q0, q1, q2, qf⟩ := cells3 HD;go_wp2_with fail;refine (impl_hasNear _ _ _ n k set _ l w2 HN.out HP.out HL.out.1 HT2.out).mono ?_;rintro r w3 ⟨rfl, hb3⟩;rw [HNA.out];have hzhb3 := hb3.size;clear q0 q1 q2 qf;replace HD := bk HD hb3;replace HN := Lib.hid (HN.out.up hb3);replace hB := bl_trans hB hb3;obtain ⟨q0, q1, q2, qf⟩ := cells3 HD;by_cases hn : ∃ e ∈ l, ss.getD e.1.toNat 0 = 1
    ·
     have HX := Lib.hid (HMX.out.next HL.out.1 HL.out.2 (.inr hn));rw [propB_t hn];clear hn;go_wp2_with fail;go_roundw
     case rel => exact ⟨k + 1, by omega, by go_num, HX.out, bl_trans (bl_trans hbl hb2) hb3⟩
     case measure => simp [intOf]; omega
    ·
     have HF := Lib.hid (show false = propB (maxP n ss ∧ ¬ bothP n ss 1) from (propB_f fun h => by
      rcases h.1 k l s HL.out.1 HL.out.2 with h2 | h2
      · exact h1 h2
      · exact hn h2).symm)
     rw [propB_f hn];clear hn;go_wp2_with fail
     go_ret2
     exact ⟨ret2bb HF.out rfl, hB⟩
  ·
   have HMM := Lib.hid (show maxP n ss from fun v l s hl hs => HMX.out v l s (by have := (List.getElem?_eq_some_iff.1 hl).1; omega) hl hs);go_wp2_with fail;refine (impl_isIndependent _ _ _ _ n set wr HN.out HP.out HT1.out).mono ?_;rintro r w2 ⟨E, hE, rfl, hb2⟩
   have HF := Lib.hid (show (!E.any (inE set)) = propB (maxP n ss ∧ ¬ bothP n ss 1) by
    rw [HSET.out, any_in hE HP.out ss HSL.out];by_cases hb : bothP n ss 1
    · rw [propB_t hb, propB_f fun h => h.2 hb]; rfl
    · rw [propB_f hb, propB_t ⟨HMM.out, hb⟩]; rfl)
   go_wp2_with fail
   go_ret2
   exact ⟨ret2bb HF.out rfl, bl_trans hB hb2⟩
end Go.Proofs.YtdghoienjegffaaGreat
