/-
  Which states are legal, the program's side, first part: rows compared, edges searched, nodesWith, treeStates.
-/
import Derived.Test.YtdghoienjegffaaGreatRNextI
namespace Go.Proofs.YtdghoienjegffaaGreat
open Go.RowKit
set_option linter.all false
set_option maxRecDepth 100000 in
theorem impl_Equal (v v' : Value) (xs ys : List Int) (w : World) (h : IntsR w w.heap.size v xs) (h' : IntsR w w.heap.size v' ys) :
  Calls Tryz.prog 67 #[v, v'] w fun e w' => e = .returned (.bool (decide (xs = ys))) ∧ ∃ m, w' = w.drewN m := by
 obtain ⟨A, c, rfl, h1, h2, h3⟩ := h.open_;obtain ⟨A', c', rfl, h1', h2', h3'⟩ := h'.open_;unfold maxLen at h2 h2';clear h h';go_enter Tryz.func67, Tryz.ntmps67;by_cases hl : xs.length = ys.length
 ·
  have HL := Lib.hid hl;have kl : ((xs.length : Int) != (ys.length : Int)) = false := by rw [hl]; simp
  have kl2 : (xs.length : Int) = (ys.length : Int) := by rw [hl]
  have hle : xs.length ≤ ys.length := by omega
  clear hl;go_wp2_with fail;go_loopw [13, 5] (fun i _ wr => SmRel xs ys w i wr) (fun i _ _ => xs.length - (intOf i).toNat)
  case atStart => exact ⟨0, 0, Nat.zero_le _, rfl, rfl, fun j hj => by omega⟩
  case round =>
   obtain ⟨k, m, hk, rfl, rfl, hsm⟩ := hrel;have HSM := Lib.hid hsm; clear hsm;by_cases hlt : k < xs.length
   ·
    obtain ⟨x, hx⟩ : ∃ x, xs[k]? = some x := ⟨xs[k], List.getElem?_eq_getElem hlt⟩
    obtain ⟨y, hy⟩ : ∃ y, ys[k]? = some y := ⟨ys[k], List.getElem?_eq_getElem (by omega)⟩
    obtain ⟨ad, rfl, hb, hc⟩ := h3 (by omega);obtain ⟨ad', rfl, hb', hc'⟩ := h3' (by omega);have hky : k < ys.length := by omega
    have hcell : (w.drewN m).cell? (ad.add k) = some (.int .i64 x) := hc k x hx;have hcell' : (w.drewN m).cell? (ad'.add k) = some (.int .i64 y) := hc' k y hy;have k1 := hc k x hx;have k2 := hc' k y hy;have HX := Lib.hid (And.intro hx hy);clear h3 h3' hc hc' hx hy;by_cases e : x = y
    ·
     have HN := Lib.hid (show ∀ j, j < k + 1 → xs[j]? = ys[j]? from fun j hj => by
      rcases Nat.lt_or_ge j k with h | h
      · exact HSM.out j h
      ·
       obtain rfl : j = k := by omega
       rw [HX.out.1, HX.out.2, e])
     subst e;go_wp2_with fail
     go_quiet (fail)
     go_wp2_with fail;go_roundw
     case rel => exact ⟨k + 1, m + nq, by omega, by go_num, rfl, HN.out⟩
     case measure => simp [intOf]; omega
    ·
     have HF := Lib.hid (show false = decide (xs = ys) from (decide_eq_false fun e2 => e (by have := HX.out; rw [e2] at this; exact Option.some.inj (this.1.symm.trans this.2))).symm);have ke : (x != y) = true := by simpa using e
     go_wp2_with fail
     go_quiet (fail)
     go_wp2_with fail;go_ret;exact ⟨ret_bool HF.out, m + nq, World.drewN_drewN _ _ _⟩
   · have HT := Lib.hid (show true = decide (xs = ys) from (decide_eq_true (same_all HL.out fun j hj => HSM.out j (by omega))).symm);go_wp2_with fail;go_ret;exact ⟨ret_bool HT.out, m, rfl⟩
 ·
  have HF := Lib.hid (show false = decide (xs = ys) from (decide_eq_false fun e => hl (by rw [e])).symm);have hln : ¬ ((xs.length : Int) = (ys.length : Int)) := by omega
  clear hl;go_wp2_with fail;go_ret;exact ⟨ret_bool HF.out, 0, rfl⟩
theorem portI_any {α : Type} {p : α → Bool} {l : List α} : decide (0 ≤ portI p l) = l.any p := by
  cases h : l.any p with
  | true =>
    obtain ⟨e, he, hp⟩ := List.any_eq_true.1 h;exact decide_eq_true (portI_some ⟨e, he, hp⟩)
  | false =>
    have := portI_none (p := p) (l := l) fun e he => by
      rcases Bool.eq_false_or_eq_true (p e) with h1 | h1
      · rw [List.any_eq_true.2 ⟨e, he, h1⟩] at h; cases h
      · exact h1
    rw [this]; rfl
def TellsG (g : Nat) (lb : Array Value) (p : Edge → Bool) (E : List Edge) (n₀ : Nat) (w : World) : Prop :=
  ∀ W x, x ∈ E → Below n₀ w W → Calls Tryz.prog g (#[.agg #[.int .i64 x.1, .int .i64 x.2.1, .int .i64 x.2.2.1, .int .i64 x.2.2.2]] ++ lb) W fun r W' => r = .returned (.bool (p x)) ∧ Below W.heap.size W W'
def GxRel (p : Edge → Bool) (E : List Edge) (w : World) (i : Value) (wr : World) : Prop := Below w.heap.size w wr ∧ ∃ k : Nat, k ≤ E.length ∧ i = .int .i64 k ∧ PortTo p E k
set_option maxRecDepth 100000 in
theorem index_edges (g : Nat) (lb : Array Value) (eg : ∀ args w, (callFunc g args).run Tryz.prog w = .ok (.enter g args) w) (p : Edge → Bool) (v : Value) (E : List Edge) (base : Nat) (w : World) (h : w.ownsRow base 87 4 v E.length (edCells E)) (hE : E.length ≤ 300)
  (n₀ : Nat) (hn : n₀ ≤ w.heap.size) (hp : TellsG g lb p E n₀ w) :
  Calls Tryz.prog 122 #[v, .func (.func g) #[] lb] w fun e w' => e = .returned (.int .i64 (portI p E)) ∧ Below w.heap.size w w' := by
 have HP := Lib.hid hp; clear hp;obtain ⟨A0, c0, rfl⟩ : ∃ A0 c0, v = .slice A0 E.length c0 := by
  rcases h.2 with ⟨rfl, e0⟩ | ⟨g, cap, cur, rfl, -⟩
  · exact ⟨none, 0, by rw [e0]⟩
  · exact ⟨_, _, rfl⟩
 have HH := Lib.hid h; clear h;go_enter Tryz.func122, Tryz.ntmps122;go_wp2_with fail;go_loopw [8, 5] (fun i _ wr => GxRel p E w i wr) (fun i _ _ => E.length - (intOf i).toNat)
 case atStart => exact ⟨Below.refl _ _, 0, Nat.zero_le _, rfl, .start _ _⟩
 case round =>
  obtain ⟨hbl, k, hk, rfl, hto⟩ := hrel;have HTO := Lib.hid hto; clear hto;by_cases hlt : k < E.length
  ·
   obtain ⟨x, hx⟩ : ∃ x, E[k]? = some x := ⟨_, List.getElem?_eq_getElem hlt⟩
   have J := Lib.hid (HP.out wr x (List.mem_of_getElem? hx) (hbl.mono hn));obtain ⟨c0', c1', c2', c3'⟩ := edge_at hx;obtain ⟨gb, rfl⟩ : ∃ gb, A0 = some ⟨gb, 0, none⟩ := by
    rcases HH.out.2 with ⟨e, e0⟩ | ⟨gb, cap, cur, e, -⟩
    · omega
    · cases e;exact ⟨gb, rfl⟩
   have hgl := (HH.out.lt gb rfl).2;have hc : ∀ i u, i < E.length * 4 → (edCells E)[i]? = some u → wr.cell? ⟨gb, i, none⟩ = some u := fun i u hi hu => (hbl.cell (p := ⟨gb, i, none⟩) hgl).trans ((HH.out.cellAt i hi).trans hu)
   have k0 := hc _ _ (by omega) c0';have k1 := hc _ _ (by omega) c1';have k2 := hc _ _ (by omega) c2';have k3 := hc _ _ (by omega) c3';clear hc c0' c1' c2' c3';have HX := Lib.hid hx;clear hx;cases hq : p x with
   | true =>
    rw [hq] at J;have HH2 := Lib.hid (HTO.out.here HX.out hq);go_wp2_with (go_at_fn g; refine J.out.mono ?_; rintro e w' ⟨rfl, hb'⟩)
    go_ret;exact ⟨ret_int HH2.out.symm, bl_trans hbl hb'⟩
   | false =>
    rw [hq] at J;have HH2 := Lib.hid (HTO.out.next HX.out hq);go_wp2_with (go_at_fn g; refine J.out.mono ?_; rintro e w' ⟨rfl, hb'⟩)
    go_roundw
    case rel => exact ⟨bl_trans hbl hb', k + 1, by omega, by go_num, HH2.out⟩
    case measure => simp [intOf]; omega
  · have HH2 := Lib.hid (HTO.out.fin (by omega));go_wp2_with fail;go_ret;exact ⟨ret_int HH2.out.symm, hbl⟩
theorem contains_edges (g : Nat) (lb : Array Value) (eg : ∀ args w, (callFunc g args).run Tryz.prog w = .ok (.enter g args) w) (p : Edge → Bool) (v : Value) (E : List Edge) (base : Nat) (w : World) (h : w.ownsRow base 87 4 v E.length (edCells E)) (hE : E.length ≤ 300)
    (n₀ : Nat) (hn : n₀ ≤ w.heap.size) (hp : TellsG g lb p E n₀ w) :
    Calls Tryz.prog 71 #[v, .func (.func g) #[] lb] w fun e w' => e = .returned (.bool (E.any p)) ∧ Below w.heap.size w w' := by
  have J := Lib.hid (index_edges g lb eg p v E base w h hE n₀ hn hp);have HA := Lib.hid (portI_any (p := p) (l := E));clear h hp;go_enter Tryz.func71, Tryz.ntmps71;go_wp2_with fail;refine J.out.mono ?_;rintro e w' ⟨rfl, hb⟩;go_wp2_with fail;go_ret;exact ⟨ret_bool HA.out, hb⟩
theorem contains_ends (g : Nat) (lb : Array Value) (eg : ∀ args w, (callFunc g args).run Tryz.prog w = .ok (.enter g args) w) (p : Int × Int → Bool) (v : Value) (l : Ends) (w : World) (h : EndsR w (fun b => b < w.heap.size) v l) (hl : l.length ≤ 6)
    (n₀ : Nat) (hn : n₀ ≤ w.heap.size) (hp : TellsE g lb p l n₀ w) :
    Calls Tryz.prog 139 #[v, .func (.func g) #[] lb] w fun e w' => e = .returned (.bool (l.any p)) ∧ Below w.heap.size w w' := by
  have J := Lib.hid (index_ends g lb eg p v l w h hl n₀ hn hp);have HA := Lib.hid (portI_any (p := p) (l := l));clear h hp;go_enter Tryz.func139, Tryz.ntmps139;go_wp2_with fail;refine J.out.mono ?_;rintro e w' ⟨rfl, hb⟩;go_wp2_with fail;go_ret;exact ⟨ret_bool HA.out, hb⟩
def withL (xs : List Int) (x : Int) : List Int := ((List.range xs.length).filter fun v => xs.getD v 0 == x).map fun (v : Nat) => (v : Int)
theorem withL_roots (ins : List Int) : withL ins 1 = rootsL ins := rfl
theorem withL_mem {xs : List Int} {x z : Int} : z ∈ withL xs x ↔ 0 ≤ z ∧ xs[z.toNat]? = some x := by
  unfold withL;constructor
  · intro h
    obtain ⟨v, hv, rfl⟩ := List.mem_map.1 h;obtain ⟨h1, h2⟩ := List.mem_filter.1 hv;have h1 := List.mem_range.1 h1;refine ⟨by omega, ?_⟩;rw [Int.toNat_natCast, List.getElem?_eq_getElem h1];rw [List.getD_eq_getElem?_getD, List.getElem?_eq_getElem h1] at h2;exact congrArg some (by simpa using h2)
  · rintro ⟨h1, h2⟩
    have hl := (List.getElem?_eq_some_iff.1 h2).1;exact List.mem_map.2 ⟨z.toNat, List.mem_filter.2 ⟨List.mem_range.2 hl, by rw [getDa h2]; simp⟩, by omega⟩
def notWith (xs : List Int) (x z : Int) : Bool := xs.getD z.toNat 0 != x
theorem withL_filter (xs : List Int) (x : Int) : (numsL xs.length).filter (keepP (notWith xs x)) = withL xs x := by
  unfold numsL withL;rw [List.filter_map];congr 1;refine List.filter_congr fun v _ => ?_
  unfold keepP notWith;simp;rfl
theorem withL_len (xs : List Int) (x : Int) : (withL xs x).length ≤ xs.length := by unfold withL;rw [List.length_map];exact Nat.le_trans (List.length_filter_le _ _) (by simp)
set_option maxRecDepth 100000 in
theorem closure_with (P1 P2 k cs : Nat) (sd : Addr) (xs : List Int) (x : Int) (w : World) (hs : IntsR w w.heap.size (.slice (some sd) xs.length cs) xs) (p1 : w.cell? ⟨P1, 0, none⟩ = some (.slice (some sd) xs.length cs)) (p2 : w.cell? ⟨P2, 0, none⟩ = some (.int .i64 x)) (hk : k < xs.length) :
    Calls Tryz.prog 121 #[.int .i64 (k : Int), .pointer (some ⟨P1, 0, none⟩), .pointer (some ⟨P2, 0, none⟩)] w fun e w' => e = .returned (.bool (notWith xs x k)) ∧ Below w.heap.size w w' := by
  obtain ⟨y, hy⟩ : ∃ y, xs[k]? = some y := ⟨_, List.getElem?_eq_getElem hk⟩
  obtain ⟨-, -, -, hcs⟩ := hs.some_;obtain ⟨sd', e', hsb, hsc⟩ := hcs (by omega);obtain rfl : sd = sd' := by simpa using e'
  have hc := hsc k y hy;have HR := Lib.hid (show (y != x) = notWith xs x k by unfold notWith; rw [Int.toNat_natCast, getDa hy]);clear hy hsc hcs e' hs;go_enter Tryz.func121, Tryz.ntmps121;go_wp2_with fail;refine wp_region_held_drew (S := fun w' => w'.cell? ⟨P1, 0, none⟩ = some (.slice (some sd) xs.length cs) ∧ w'.cell? ⟨P2, 0, none⟩ = some (.int .i64 x) ∧ w'.cell? (sd.add k) = some (.int .i64 y)) (by kernel_rfl) ?_ (fun hHeld => ?_)
  · go_keep
  refine stk 0 5 ?_;refine stk 1 6 ?_;refine stk 2 7 ?_;refine stk 3 8 ?_;refine stk 4 9 ?_;refine stk 5 10 ?_;refine stk 6 4 ?_;refine wpAnyH_done (by kernel_rfl) ?_ _;go_wp2_with fail;go_ret;exact ⟨ret_bool HR.out, (Below.refl _ _).drew⟩
set_option maxRecDepth 100000 in
set_option maxHeartbeats 1000000 in
theorem impl_nodesWith (v : Value) (xs : List Int) (x : Int) (w : World) (h : IntsR w w.heap.size v xs) (h1 : 1 ≤ xs.length) (h2 : xs.length ≤ 3000) :
  Calls Tryz.prog 70 #[v, .int .i64 x] w fun e w' => ∃ u, e = .returned u ∧ (∃ A m c, u = .slice A m c) ∧ IntsR w' w'.heap.size u (withL xs x) ∧ w'.ownsRow w.heap.size 3 1 u (withL xs x).length ((withL xs x).map intV) ∧ Below w.heap.size w w' := by
 have HXS := Lib.hid h;obtain ⟨As, cs, rfl, -, -, hsc⟩ := h.open_;obtain ⟨sd, rfl, hsb, -⟩ := hsc (by omega);clear h hsc;obtain ⟨w1, hw1, hb1, HB1, hz1, HS1⟩ := box1 w (.slice (some sd) xs.length cs) 25;obtain ⟨w2, hw2, hb2, HB2, hz2, HS2⟩ := box1 w1 (.int .i64 x) 3;have HW1 := Lib.hid hw1; clear hw1;have HW2 := Lib.hid hw2; clear hw2;have hs1 := HS1.out;have hB2 := bl_trans hb1 hb2;have p1 : w2.cell? ⟨w.heap.size, 0, none⟩ = some (.slice (some sd) xs.length cs) := (hb2.cell (p := ⟨w.heap.size, 0, none⟩) hz1).trans (cell_of_row _ _ 0 _ _ (0, 0) HB1.out);have p2 : w2.cell? ⟨w.heap.size + 1, 0, none⟩ = some (.int .i64 x) := by rw [← hs1]; exact cell_of_row _ _ 0 _ _ (0, 0) HB2.out
 have T := Lib.hid (show Tells 121 #[.pointer (some ⟨w.heap.size, 0, none⟩), .pointer (some ⟨w.heap.size + 1, 0, none⟩)] (notWith xs x) (numsL xs.length) w2.heap.size w2 from fun W y hy hb => by
  unfold numsL at hy;obtain ⟨k, hk, rfl⟩ := List.mem_map.1 hy;have hk := List.mem_range.1 hk
  exact closure_with w.heap.size (w.heap.size + 1) k cs sd xs x W ((HXS.out.below (bl_trans hB2 hb)).more (bl_trans hB2 hb).size) ((hb.cell (p := ⟨w.heap.size, 0, none⟩) (by show w.heap.size < w2.heap.size; omega)).trans p1) ((hb.cell (p := ⟨w.heap.size + 1, 0, none⟩) (by show w.heap.size + 1 < w2.heap.size; omega)).trans p2) hk)
 have hnl := numsL_len xs.length;go_enter Tryz.func70, Tryz.ntmps70;go_wp2_with fail;rw [← HW1.out, ← HW2.out];refine (impl_numbersTo xs.length w2 (by omega)).mono ?_;rintro e w3 ⟨rfl, hw3⟩;have hb3 : Below w2.heap.size w2 w3 := by rw [hw3]; exact bl_alloc (Below.refl _ _) _
 have hrow : w3.heap[w2.heap.size]? = some (.cells ((numsL xs.length).map intV).toArray 3 (0, 0)) := by rw [hw3]; exact heap_alloc_new w2 _
 have hx64 : ∀ z ∈ numsL xs.length, I64 z := fun z hz => by unfold numsL at hz;obtain ⟨k, hk, rfl⟩ := List.mem_map.1 hz;have hk := List.mem_range.1 hk;unfold I64;omega
 have J := delete_ints 121 #[.pointer (some ⟨w.heap.size, 0, none⟩), .pointer (some ⟨w.heap.size + 1, 0, none⟩)] (enters_of Tryz.func121 (by kernel_rfl) rfl) (notWith xs x) w2.heap.size (numsL xs.length) w3 w2.heap.size (Nat.le_refl _) hrow hx64 (by omega) (T.out.mono hb3);rw [hnl] at J;have HJ := Lib.hid J;have hs2 := hB2.size;clear J hrow hw3 p1 p2 hnl hs1;go_wp2_with fail;refine HJ.out.mono ?_;rintro e w4 ⟨rfl, hr4, hb4⟩;have hnl := numsL_len xs.length;unfold delRow at hr4;rw [withL_filter, hnl] at hr4;rw [withL_filter, hnl];have hel := withL_len xs x;have h64 : ∀ z ∈ withL xs x, I64 z := fun z hz => by obtain ⟨k1, k2⟩ := withL_mem.1 hz;have := (List.getElem?_eq_some_iff.1 k2).1;unfold I64;omega
 have hown : w4.ownsRow w.heap.size 3 1 (.slice (some ⟨w2.heap.size, 0, none⟩) (withL xs x).length xs.length) (withL xs x).length ((withL xs x).map intV) := by refine ⟨by simp, .inr ⟨w2.heap.size, xs.length, _, rfl, hs2, hr4, hel, by unfold maxLen; omega, by simp; omega, ?_⟩⟩;rw [Nat.mul_one, List.map_append];exact List.take_left' (by simp)
 have HO := Lib.hid hown;have HI := Lib.hid (own_intsR hown h64);have HBF := Lib.hid (hB2.trans ((hb3.trans hb4).mono hs2));clear hr4 hown h64;go_wp2_with fail;go_ret;exact ⟨_, rfl, ⟨_, _, _, rfl⟩, HI.out, HO.out, HBF.out⟩
set_option maxRecDepth 100000 in
set_option maxHeartbeats 2000000 in
theorem impl_distancesO (ve vi vn : Value) (n : Net) (v : Nat) (w : World) (h : NetR w w.heap.size ve vi vn n) (hp : netP n) (hv : v < n.es.length) :
  Calls Tryz.prog 92 #[.agg #[ve, vi, vn], .int .i64 (v : Int)] w fun e w' => ∃ u, e = .returned u ∧ (∃ A m c, u = .slice A m c) ∧ IntsR w' w'.heap.size u (far n.es v) ∧ w'.ownsRow w.heap.size 3 1 u (far n.es v).length ((far n.es v).map intV) ∧ Below w.heap.size w w' := by
 have h40 := hp.1.2;have HP := Lib.hid hp; clear hp;have HST := Lib.hid (far_start hv);have HFO := Lib.hid (far_ok HP.out.endsIn hv);generalize far n.es v = D at *;obtain ⟨⟨A0, m0, c0, rfl⟩, ⟨A1, m1, c1, rfl⟩, A2, m2, c2, rfl⟩ := h.slices;obtain ⟨w0, hw0, hB, HD, hz0, HS0⟩ := box3 w (.slice A0 m0 c0) (.slice A1 m1 c1) (.slice A2 m2 c2) 27;have HN0 := Lib.hid h; have HN := Lib.hid (h.up hB); clear h;have HW0 := Lib.hid hw0; clear hw0;obtain ⟨q0, q1, q2, qf⟩ := cells3 HD;obtain ⟨hm0, -, -⟩ := HN.out.e.len_slice;subst hm0;obtain ⟨w1, hw1⟩ : ∃ z, z = w0.alloc (.cells #[.int .i64 (-1)] 3) := ⟨_, rfl⟩
 have HQ1 := Lib.hid hw1;have hz1 : w1.heap.size = w0.heap.size + 1 := by rw [hw1]; simp
 have HZ1 := Lib.hid hz1;have hn1 : NumsAt w1 (w.heap.size + 1) [-1] := by rw [hw1, ← HS0.out]; exact heap_alloc_new w0 _
 have HN1 := Lib.hid hn1;have hb1 : Below w0.heap.size w0 w1 := by rw [hw1]; exact bl_alloc (Below.refl _ _) _
 clear hw1 hz1 hn1;go_enter Tryz.func92, Tryz.ntmps92;go_wp2_with fail;rw [← HW0.out, ← HQ1.out];have hzhb1 := hb1.size;clear q0 q1 q2 qf;replace HD := bk HD hb1;replace HN := Lib.hid (HN.out.up hb1);replace hB := bl_trans hB hb1;obtain ⟨q0, q1, q2, qf⟩ := cells3 HD;refine (impl_Repeat (-1) n.es.length (w.heap.size + 1) w1 HN1.out (by omega) (by omega)).mono ?_;rintro e w2 ⟨rfl, hnum, hb2⟩;have hgl := hnum.lt;have hcell := hnum.cell (i := v) (x := -1) (by rw [List.getElem?_replicate, if_pos hv]);have hfz := hnum.frozen v;have hzhb2 := hb2.size;clear q0 q1 q2 qf;replace HD := bk HD hb2;replace HN := Lib.hid (HN.out.up hb2);replace hB := bl_trans hB hb2;obtain ⟨q0, q1, q2, qf⟩ := cells3 HD;have hgd : ∃ z, z = w1.heap.size := ⟨_, rfl⟩
 obtain ⟨g, hg⟩ := hgd;rw [← hg] at hnum hgl hcell hfz hb2 hzhb2 hzhb1 ⊢;have hgw : w.heap.size < g := by omega
 have HGD := Lib.hid hg; clear hg;obtain ⟨w3, hw3⟩ : ∃ z, z = w2.setCell ⟨g, v, none⟩ (.int .i64 0) := ⟨_, rfl⟩
 obtain ⟨w4, hw4⟩ : ∃ z, z = w3.alloc (.cells #[.int .i64 (v : Int)] 3) := ⟨_, rfl⟩
 have hz3 : w3.heap.size = w2.heap.size := by rw [hw3, size_setCell]
 have hN4 : NumsAt w4 g ((List.replicate n.es.length (-1)).set v 0) := by have h2 := hnum.set v 0;rw [← hw3] at h2;rw [hw4];exact h2.keep ((bl_alloc (Below.refl _ w3) _).block _ (by rw [hz3]; exact hgl))
 have hQ4 : QRow w4 (g + 1) (.slice (some ⟨w2.heap.size, 0, none⟩) 1 1) [(v : Int)] := QRow.start (by rw [hw4, ← hz3]; exact heap_alloc_new w3 _) (by omega);have hB4 : Below g w2 w4 := by rw [hw4, hw3]; exact (Below.setCell (p := ⟨g, v, none⟩) (Below.refl g w2) (Nat.le_refl _) (.int .i64 0)).alloc (by rw [size_setCell]; omega) _
 have H3 := Lib.hid hw3; clear hw3 hz3;have H4 := Lib.hid hw4; clear hw4;have HNU := Lib.hid hnum; clear hnum;go_wp2_with fail;rw [← H3.out, ← H4.out];have hz4 := hB4.size;have hB' : Below w.heap.size w w4 := hB.trans (hB4.mono (by omega));replace HD := bk HD hB4 (by omega);replace HN := Lib.hid ((HN0.out.below hB').more hB'.size);clear hB q0 q1 q2 qf hcell hfz;have hB := hB'; clear hB';go_loopw [6] (fun v wr => DfRel n D w4 g v wr) (fun v wr => negAt wr g + lenOf v)
 case atStart => exact ⟨_, [(v : Int)], hN4, hQ4, HST.out, by have := far_neg hv; simp only [List.length_singleton]; omega, Below.refl _ _⟩
 case round =>
  clear hN4 hQ4;obtain ⟨d, q, hnum, hq, hbfs, hneg, hbl⟩ := hrel;have hzr := hbl.size;have hB2 := hB.trans (hbl.mono (by omega));have hglr := hnum.lt;replace HD := bk HD hbl (by omega);replace HN := Lib.hid ((HN0.out.below hB2).more hB2.size);have HM := Lib.hid hnum; clear hnum;have HB2 := Lib.hid hB2; clear hB2;obtain ⟨q0, q1, q2, qf⟩ := cells3 HD;cases q with
  | nil =>
   obtain ⟨gq, o, m, cap, cur, rfl, hm, -⟩ := hq;obtain rfl : m = 0 := by simpa using hm
   have HFF := Lib.hid (show D = d from hbfs.fin.1);clear hbfs hm;go_wp2_with fail;go_ret;obtain ⟨k1, k2⟩ := HFO.out;refine ⟨_, rfl, ⟨_, _, _, rfl⟩, ?_, ?_, HB2.out⟩
   case refine_2 => have h1 := HM.out;rw [← HFF.out] at h1;rw [k1];refine ⟨by simp; omega, .inr ⟨g, n.es.length, _, rfl, by omega, h1, Nat.le_refl _, by unfold maxLen; omega, by simp; omega, ?_⟩⟩;simp only [Nat.mul_one];exact List.take_of_length_le (by simp; omega)
   have h1 := HM.out;rw [← HFF.out] at h1;have h2 := ints_row (B := wr.heap.size) h1 (by unfold maxLen; omega) (fun x hx => by rcases k2 x hx with h | h <;> unfold I64 <;> omega) hglr;rw [k1] at h2;exact h2
  | cons x q =>
   obtain ⟨gq, o, m, cap, cur, rfl, hm, hgq, hcur, hmc, hcm, hoc, hcc⟩ := hq;have hcx : wr.cell? ⟨gq, o, none⟩ = some (.int .i64 x) := by rw [cell_of_row _ _ o _ _ (0, 0) hcur]; exact hcc 0 x rfl
   have hqt := QRow.tail hm hgq hcur hmc hcm hoc hcc;have hm1 : 1 ≤ m := by simp at hm; omega
   have hsl := run_tail gq o m cap hm1;generalize Value.slice (if cap = 1 then some ⟨gq, o, none⟩ else some ⟨gq, o + 1, none⟩) (m - 1) (cap - 1) = v2 at hqt hsl;have HQT := Lib.hid hqt; clear hqt;have hsa : ∀ W, (Instr.sliceAt 25 (.slice (some ⟨gq, o, none⟩) m cap) (some (.int .i64 1)) none none).run Tryz.prog W = .ok v2 W := fun W => (Go.run_sliceAt_slice (P := Tryz.prog) (w := W) 25 _ _ _ _ (by kernel_rfl)).trans (hsl W)
   have hml : m - 1 = q.length := by simp at hm; omega
   obtain ⟨hx0, y, hy, hy0⟩ := hbfs.dist.2.2 x (by simp);obtain ⟨wn, rfl⟩ : ∃ wn : Nat, x = wn := ⟨x.toNat, by omega⟩
   rw [Int.toNat_natCast] at hy;have hwn : wn < n.es.length := by rw [← hbfs.dist.1]; exact (List.getElem?_eq_some_iff.1 hy).1
   obtain ⟨l, hl⟩ : ∃ l, n.es[wn]? = some l := ⟨_, List.getElem?_eq_getElem hwn⟩
   obtain ⟨ad, rfl⟩ := HN.out.e.some_ (by omega);obtain ⟨hbb, u, hu, hr⟩ := (HN0.out.below HB2.out).e.at_ hl;have HR := Lib.hid hr;obtain ⟨A', c', rfl, hlc, hlm, -, h4⟩ := hr;unfold maxLen at hlm hcm;have HL := Lib.hid hl; clear hl;have HY := Lib.hid (And.intro hy hy0); clear hy hy0;have HBF := Lib.hid hbfs; clear hbfs;have HML := Lib.hid hml; clear hml hm;have HCC := Lib.hid (And.intro hcur hcc); clear hcur hcc;go_wp2_with fail;obtain ⟨wq, rfl⟩ : ∃ z, z = wr := ⟨_, rfl⟩
   go_loopw [6, 34] (fun v i wr' => DiRel n d q l (wn : Int) wq g v i wr') (fun _ i _ => l.length - (intOf i).toNat)
   case atStart => exact ⟨d, (wn : Int) :: q, 0, rfl, MiP.start rfl HBF.out (by simpa using hneg), HM.out, HQT.out, Below.refl _ _⟩
   case round =>
    clear hsl hsa hcx;obtain ⟨d', wk', j, rfl, hmi, hnum, hq', hbl2⟩ := hrel;have hz2 := hbl2.size;replace HD := bk HD hbl2 (by omega);have HB3 := Lib.hid (HB2.out.trans (hbl2.mono (by omega)));replace HN := Lib.hid ((HN0.out.below HB3.out).more HB3.out.size);have hglr' := hnum.lt;clear q0 q1 q2 qf;obtain ⟨q0, q1, q2, qf⟩ := cells3 HD;have HM2 := Lib.hid hnum; clear hnum;have HMI := Lib.hid hmi; clear hmi;have HQ2 := Lib.hid hq'; clear hq';by_cases hlt : j < l.length
    ·
     obtain ⟨e, he⟩ : ∃ e, l[j]? = some e := ⟨_, List.getElem?_eq_getElem hlt⟩
     obtain ⟨b, o', rfl, -, -⟩ := h4 (by omega);obtain ⟨hbb', p0, p1⟩ := (HR.out.below (hbl2.mono (by omega))).at_ he;have hein := HP.out.endsIn l (List.mem_of_getElem? HL.out) e (List.mem_of_getElem? he);obtain ⟨mm, hm⟩ : ∃ m : Nat, e.1 = m := ⟨e.1.toNat, by omega⟩
     rw [hm] at p0 hein;rw [Int.toNat_natCast] at hein;have hml := hein.2;have HEM := Lib.hid hm;have HE := Lib.hid he;clear he hm hein;obtain ⟨wv, hwv, hbv, HEB, hzv, HSV⟩ := box2 wr (.int .i64 (mm : Int)) (.int .i64 e.2) 74;have HWV := Lib.hid hwv;obtain ⟨hj1, hj2, hj3, -, hj5, ⟨x, hx, hx0⟩, hj7⟩ := HMI.out;rw [Int.toNat_natCast] at hx;obtain ⟨y', hy'⟩ : ∃ y, d'[mm]? = some y := ⟨_, List.getElem?_eq_getElem (by rw [hj5.1]; exact hml)⟩
     have HMV := Lib.hid (HM2.out.keep (hbv.block g hglr'));have hc2 := HMV.out.cell hy';have hf2 := HMV.out.frozen mm;have hc3 := HMV.out.cell hx;obtain ⟨e0, e1, ef⟩ := cells2 HEB;have hxn := hj5.2.1 x (List.mem_of_getElem? hx);have hql : (wk'.drop 1).length ≤ 2000000 := by rw [List.length_drop]; omega
     have hbnd : neg d' < n.es.length := by omega
     have HX1 := Lib.hid hx;have HY1 := Lib.hid hy';clear hx hy' hj3 hj5 hj7;have d2 := hc2; have d3 := e0;rw [hwv] at d2 d3;clear hwv;by_cases hyn : y' < 0
     ·
      go_wp2_with fail;clear d2 d3;rw [← HWV.out];have hne : mm ≠ wn := fun h => by rw [h] at HY1;have := Option.some.inj (HX1.out.symm.trans HY1.out);omega
      obtain ⟨wa, hwa⟩ : ∃ z, z = (wv.setCell ⟨g, mm, none⟩ (.int .i64 (x + 1))).drew := ⟨_, rfl⟩
      have hwr : IntKind.i64.wrap (x + 1) = x + 1 := IntWalk.i64_in _ (by omega);have hNA : NumsAt wa g (d'.set mm (x + 1)) := by rw [hwa]; exact NumsAt.set HMV.out mm (x + 1)
      have ha1 : wa.cell? ⟨g, wn, none⟩ = some (.int .i64 x) := hNA.cell (by rw [List.getElem?_set_ne hne]; exact HX1.out);have hka : ∀ b, b ≠ g → wa.heap[b]? = wv.heap[b]? := fun b hb => by rw [hwa]; exact Below.heap_setCell wv _ _ _ (by simpa using hb)
      have ha0 : wa.cell? ⟨wr.heap.size, 0, none⟩ = some (.int .i64 (mm : Int)) := (World.cell?_of_block (a := ⟨wr.heap.size, 0, none⟩) (hka _ (by show wr.heap.size ≠ g; omega))).trans e0;have hza : wa.heap.size = wv.heap.size := by rw [hwa]; exact size_setCell wv _ _
      have hqa : QRow wa (g + 1) u6 (wk'.drop 1) := HQ2.out.keep fun b h1 h2 => (hka b (by omega)).trans (hbv.block b h2)
      have hba : Below g wq wa := by rw [hwa];exact ((hbl2.trans (hbv.mono (by omega))).setCell (Nat.le_refl _) _).drew
      have HWA := Lib.hid hwa; clear hwa;have HNA := Lib.hid hNA; clear hNA;have HQA := Lib.hid hqa; clear hqa;have HBA := Lib.hid hba; clear hba;have HZA := Lib.hid hza; clear hza hka;refine wp_region_held_drew (S := fun w' => w'.cell? ⟨wr.heap.size, 0, none⟩ = some (.int .i64 (mm : Int)) ∧ w'.cell? ⟨g, wn, none⟩ = some (.int .i64 x)) (by kernel_rfl) ?_ (fun hHeld => ?_)
      · exact ⟨e0, hc3⟩
      refine stk 0 44 ?_;refine stk 1 45 ?_;refine stk 2 46 ?_;refine stk 3 47 ?_;refine stk 4 48 ?_;refine stk 5 49 ?_;refine stk 6 50 ?_;refine stk 7 51 ?_;refine stk 8 52 ?_;refine tr 9 rfl (by kernel_rfl) (fun K hK => ?_);go_simp;rw [← HWA.out];refine hK.out _ _ ⟨ha0, ha1⟩ (fun hHeld => ?_);clear hK K
      try simp only [Act.put, pu]
      refine wpAnyH_done (by kernel_rfl) ?_ _;clear e0 e1 ef hc2 hf2 hc3 q0 q1 q2 qf;have hbs : g + 1 ≤ wa.heap.size := by rw [HZA.out]; omega
      have HC0 := Lib.hid (show (wa.alloc (.cells #[.int .i64 (mm : Int)] 3)).cell? ⟨wa.heap.size, 0, none⟩ = some (.int .i64 (mm : Int)) by rw [World.cell?_alloc_at _ _ _ _ rfl]; rfl);have HQB := Lib.hid (HQA.out.keep (w' := wa.alloc (.cells #[.int .i64 (mm : Int)] 3)) fun b h1 h2 => (bl_alloc (Below.refl wa.heap.size wa) _).block b h2);have HBB := Lib.hid (bl_alloc (Below.refl wa.heap.size wa) (.cells #[.int .i64 (mm : Int)] 3));go_wp2_with ((at_builtin; refine wpList_append_q rfl (.tmp 53) (.tmp 56) rfl rfl HQB.out wa.heap.size (mm : Int) rfl HC0.out hql (by simp; omega) ?_; intro v' w' hq'' hb''))
      go_roundw
      case rel =>
       refine ⟨d'.set mm (x + 1), wk' ++ [(mm : Int)], j + 1, by go_num, ?_, ?_, ?_, ?_⟩
       · have h1 := HMI.out.yes HE.out (by rw [HEM.out]; omega) (by rw [Int.toNat_natCast]; exact HX1.out) (by rw [HEM.out, Int.toNat_natCast]; exact HY1.out) hyn;rw [HEM.out, Int.toNat_natCast] at h1;exact h1
       · have hga := HNA.out.lt;exact (HNA.out.keep (HBB.out.block g hga)).keep (hb''.block g (by omega))
       · rw [List.drop_append_of_le_length (by have := HMI.out.2.1; omega)];exact hq''
       · exact HBA.out.trans ((HBB.out.mono (by omega)).trans (hb''.mono (by omega)))
      case measure => simp [intOf]; omega
     ·
      go_wp2_with fail;clear d2 d3;rw [← HWV.out];go_roundw
      case rel => exact ⟨d', wk', j + 1, by go_num, HMI.out.no HE.out (by rw [HEM.out, Int.toNat_natCast]; exact HY1.out) hyn, HMV.out, HQ2.out.keep (fun b _ hb => hbv.block b hb), hbl2.trans (hbv.mono (by omega))⟩
      case measure => simp [intOf]; omega
    ·
     have hlj : l.length ≤ j := by omega
     have hls : neg d' + (wk'.drop 1).length = neg d + q.length := HMI.out.less hlj HP.out.endsIn (by rw [Int.toNat_natCast]; exact HL.out) HBF.out;have hq7 := HMI.out.2.2.2.2.2.2;have hk2 := HMI.out.2.1;go_wp2_with fail;refine ⟨⟨d', wk'.drop 1, HM2.out, HQ2.out, HMI.out.fin hlj HP.out.endsIn (by rw [Int.toNat_natCast]; exact HL.out) HBF.out, by rw [List.length_drop]; omega, hbl.trans hbl2⟩, ?_⟩;have k1 := negAt_eq HM2.out;have k2 := negAt_eq HM.out;have k3 := HQ2.out.len;have k4 := HML.out;show negAt wr g + lenOf _ < negAt wq g + lenOf (.slice (some ⟨gq, o, none⟩) m cap);rw [k1, k2];show neg d' + lenOf u6 < neg d + m;rw [k3];omega
def mixL (out d : List Int) (j : Nat) : List Int := (rowMin out d).take j ++ out.drop j
theorem mix_at {out d : List Int} (hl : out.length = d.length) {j : Nat} (hj : j < out.length) : (mixL out d j)[j]? = out[j]? := by unfold mixL;rw [List.getElem?_append_right (by rw [List.length_take, rowMin_len]; omega), List.length_take, rowMin_len, List.getElem?_drop];congr 1;omega
theorem mix_step {out d : List Int} (hl : out.length = d.length) {j : Nat} (hj : j < out.length) {y : Int} (hy : (rowMin out d)[j]? = some y) : (mixL out d j).set j y = mixL out d (j + 1) := by
  obtain ⟨h1, h2⟩ := List.getElem?_eq_some_iff.1 hy;unfold mixL;have h3 : ((rowMin out d).take j).length = j := by rw [List.length_take, rowMin_len]; omega
  rw [List.set_append_right _ _ (by omega), h3, Nat.sub_self, List.take_succ_eq_append_getElem h1, h2, List.append_assoc];congr 1;rw [List.drop_eq_getElem_cons hj];rfl
theorem mix_keep {out d : List Int} (hl : out.length = d.length) {j : Nat} (hj : j < out.length) {y : Int} (ho : out[j]? = some y) (hy : (rowMin out d)[j]? = some y) : mixL out d j = mixL out d (j + 1) := by rw [← mix_step hl hj hy];have h1 := (mix_at (d := d) hl hj).trans ho;obtain ⟨h2, h3⟩ := List.getElem?_eq_some_iff.1 h1;rw [← h3, List.set_getElem_self]
theorem treeL_len {n : Net} (h : netP n) : ∀ (roots : List Int), (∀ r ∈ roots, 0 ≤ r ∧ r.toNat < n.es.length) → (treeL n roots).length = n.es.length := by
  unfold treeL
  suffices hs : ∀ (roots out : List Int), (∀ r ∈ roots, 0 ≤ r ∧ r.toNat < n.es.length) → out.length = n.es.length → (roots.foldl (fun out r => rowMin out (far n.es r.toNat)) out).length = n.es.length from fun roots hr => hs roots _ hr (by simp)
  intro roots;induction roots with
  | nil => intro out _ h; exact h
  | cons r t ih =>
    intro out hr ho;obtain ⟨k1, -⟩ := far_ok h.endsIn (hr r (by simp)).2;exact ih _ (fun r' h' => hr r' (by simp [h'])) (by rw [rowMin_len]; omega)
theorem treeL_bd {n : Net} (h : netP n) : ∀ (roots : List Int), (∀ r ∈ roots, 0 ≤ r ∧ r.toNat < n.es.length) → ∀ x ∈ treeL n roots, 0 ≤ x ∧ x ≤ 40 := by
  have h40 := h.1.2;intro roots hr x hx;obtain ⟨v, hv⟩ := List.mem_iff_getElem?.1 hx;have hvl : v < n.es.length := by rw [← treeL_len h roots hr]; exact (List.getElem?_eq_some_iff.1 hv).1
  rw [tree_at h hvl roots hr] at hv;obtain ⟨k1, k2⟩ := far_ok h.endsIn hvl;obtain ⟨m1, m2⟩ := leastTo_bd (set := roots) (b := 40) (fun x hx => by rcases k2 x hx with h | h <;> omega) (by omega) roots.length;unfold leastTo at m1 m2;rw [List.take_length] at m1 m2;have := Option.some.inj hv;split at this <;> omega
theorem treeL_snoc {n : Net} {roots : List Int} {k : Nat} {r : Int} (h : roots[k]? = some r) : treeL n (roots.take (k + 1)) = rowMin (treeL n (roots.take k)) (far n.es r.toNat) := by unfold treeL;rw [List.take_add_one, h, List.foldl_append];rfl
def TsrRel (n : Net) (roots : List Int) (vr : Value) (g : Nat) (w : World) (i : Value) (wr : World) : Prop :=
  ∃ k : Nat, k ≤ roots.length ∧ i = .int .i64 k ∧ NumsAt wr g (treeL n (roots.take k)) ∧ wr.ownsRow (g + 1) 3 1 vr roots.length (roots.map intV) ∧ Below g w wr
def TsiRel (out d roots : List Int) (vd vr : Value) (g : Nat) (w : World) (i : Value) (wr : World) : Prop :=
  ∃ j : Nat, j ≤ d.length ∧ i = .int .i64 j ∧ NumsAt wr g (mixL out d j) ∧ wr.ownsRow (g + 1) 3 1 vr roots.length (roots.map intV) ∧ wr.ownsRow (g + 1) 3 1 vd d.length (d.map intV) ∧ Below g w wr
theorem own_row {w : World} {base : Nat} {v : Value} {xs : List Int} {x : Int} {k : Nat} (h : w.ownsRow base 3 1 v xs.length (xs.map intV)) (hx : xs[k]? = some x) : ∃ g c, v = .slice (some ⟨g, 0, none⟩) xs.length c ∧ w.cell? ⟨g, k, none⟩ = some (.int .i64 x) := by
  have hk := (List.getElem?_eq_some_iff.1 hx).1;rcases h.2 with ⟨_, e0⟩ | ⟨g, cap, cur, rfl, hb, hg, h1, h2, h3, h4⟩
  · omega
  · refine ⟨g, cap, rfl, ?_⟩
    rw [cell_of_row _ _ k _ _ (0, 0) hg, ← Array.getElem?_toList];have h5 : (cur.toList.take (xs.length * 1))[k]? = some (.int .i64 x) := by rw [h4, List.getElem?_map, hx]; rfl
    rwa [List.getElem?_take_of_lt (by omega)] at h5
theorem own_sl5 {w : World} {base n : Nat} {e : TypeId} {v : Value} {vs : List Value} (h : w.ownsRow base e 1 v n vs) : ∃ A c, v = .slice A n c := by
  rcases h.2 with ⟨rfl, h0⟩ | ⟨g, cap, cur, rfl, -⟩
  · exact ⟨none, 0, by rw [h0]⟩
  · exact ⟨_, _, rfl⟩
set_option maxRecDepth 100000 in
set_option maxHeartbeats 1000000 in
theorem impl_treeStates (ve vi vn : Value) (n : Net) (w : World) (h : NetR w w.heap.size ve vi vn n) (hp : netP n) :
  Calls Tryz.prog 52 #[.agg #[ve, vi, vn]] w fun e w' => ∃ u, e = .returned u ∧ IntsR w' w'.heap.size u (farT n) ∧ Below w.heap.size w w' := by
 have h40 := hp.1;have hin := hp.2.2.1;have hil : n.es.length ≤ n.ins.length ∧ n.ins.length ≤ n.es.length := by omega
 have HP := Lib.hid hp;clear hp hin;obtain ⟨⟨A0, m0, c0, rfl⟩, ⟨A1, m1, c1, rfl⟩, A2, m2, c2, rfl⟩ := h.slices;obtain ⟨w0, hw0, hB, HD, hz0, HS0⟩ := box3 w (.slice A0 m0 c0) (.slice A1 m1 c1) (.slice A2 m2 c2) 27;have HN0 := Lib.hid h; have HN := Lib.hid (h.up hB); clear h;have HW0 := Lib.hid hw0; clear hw0;obtain ⟨q0, q1, q2, qf⟩ := cells3 HD;obtain ⟨hm0, -, -⟩ := HN.out.e.len_slice;subst hm0;obtain ⟨w1, hw1⟩ : ∃ z, z = w0.alloc (.cells #[.int .i64 (n.es.length : Int)] 3) := ⟨_, rfl⟩
 have HQ1 := Lib.hid hw1;have hn1 : NumsAt w1 (w.heap.size + 1) [(n.es.length : Int)] := by rw [hw1, ← HS0.out]; exact heap_alloc_new w0 _
 have HN1 := Lib.hid hn1;have hb1 : Below w0.heap.size w0 w1 := by rw [hw1]; exact bl_alloc (Below.refl _ _) _
 clear hw1 hn1;go_enter Tryz.func52, Tryz.ntmps52;go_wp2_with fail;rw [← HW0.out, ← HQ1.out];have hzhb1 := hb1.size;clear q0 q1 q2 qf;replace HD := bk HD hb1;replace HN := Lib.hid (HN.out.up hb1);replace hB := bl_trans hB hb1;obtain ⟨q0, q1, q2, qf⟩ := cells3 HD;refine (impl_Repeat (n.es.length : Int) n.es.length (w.heap.size + 1) w1 HN1.out (by omega) (by omega)).mono ?_;rintro e w2 ⟨rfl, hnum, hb2⟩;have hzhb2 := hb2.size;clear q0 q1 q2 qf;replace HD := bk HD hb2;replace HN := Lib.hid (HN.out.up hb2);replace hB := bl_trans hB hb2;obtain ⟨q0, q1, q2, qf⟩ := cells3 HD;have hgl := hnum.lt;obtain ⟨g, hg⟩ : ∃ z, z = w1.heap.size := ⟨_, rfl⟩
 rw [← hg] at hnum hgl hb2 hzhb2 hzhb1 ⊢;have hgw : w.heap.size < g := by omega
 have HNU := Lib.hid hnum;have HGD := Lib.hid hg;clear hnum hg;go_wp2_with fail;refine (impl_nodesWith _ n.ins 1 w2 HN.out.n (by omega) (by omega)).mono ?_;rintro e w3 ⟨u, rfl, -, -, hown, hb3⟩;have hzhb3 := hb3.size;clear q0 q1 q2 qf;replace HD := bk HD hb3;replace HN := Lib.hid (HN.out.up hb3);replace hB := bl_trans hB hb3;obtain ⟨q0, q1, q2, qf⟩ := cells3 HD;rw [withL_roots] at hown;have HNU3 := Lib.hid (HNU.out.keep (hb3.block g hgl));have HRB := Lib.hid (fun r (hr : r ∈ rootsL n.ins) => show 0 ≤ r ∧ r.toNat < n.es.length by have := roots_mem hr; omega);have hrl : (rootsL n.ins).length ≤ 40 := by have := rootsTo_len n.ins n.ins.length; show (rootsTo n.ins n.ins.length).length ≤ 40; omega
 have HO3 := Lib.hid (own_mono hown (base' := g + 1) (by omega));have HTF := Lib.hid (tree_far HP.out);obtain ⟨roots, hro⟩ : ∃ z, z = rootsL n.ins := ⟨_, rfl⟩
 rw [← hro] at HRB hrl HO3 HTF hown;have HRO := Lib.hid hro;obtain ⟨Au, cu, rfl⟩ := own_sl5 hown;clear hown hro;go_wp2_with fail;go_loopw [5, 20] (fun _ i wr => TsrRel n roots (.slice Au roots.length cu) g w3 i wr) (fun _ i _ => roots.length - (intOf i).toNat)
 case atStart => exact ⟨0, Nat.zero_le _, rfl, HNU3.out, HO3.out, Below.refl _ _⟩
 case round =>
  obtain ⟨k, hk, rfl, hnum, hro, hbl⟩ := hrel;have hz2 := hbl.size;have HNM := Lib.hid hnum;have HO4 := Lib.hid hro;have hglr := hnum.lt;have hB4 := hB.trans (hbl.mono (by omega));have HN4 := Lib.hid ((HN0.out.below hB4).more hB4.size);have HD4 := bk HD hbl (by omega);clear q0 q1 q2 qf;obtain ⟨q0, q1, q2, qf⟩ := cells3 HD4;by_cases hlt : k < roots.length
  ·
   obtain ⟨r, hr⟩ : ∃ r, roots[k]? = some r := ⟨_, List.getElem?_eq_getElem hlt⟩
   obtain ⟨hr0, hr1⟩ := HRB.out r (List.mem_of_getElem? hr);obtain ⟨rn, rfl⟩ : ∃ rn : Nat, r = rn := ⟨r.toNat, by omega⟩
   rw [Int.toNat_natCast] at hr1;obtain ⟨gr, cr, er, hcr⟩ := own_row hro hr;cases er;have HTS := Lib.hid (treeL_snoc (n := n) hr);have HRB2 := Lib.hid (fun r' (h : r' ∈ roots.take k) => HRB.out r' (List.mem_of_mem_take h));have htl := treeL_len HP.out _ HRB2.out;have HTB := Lib.hid (treeL_bd HP.out _ HRB2.out);clear hr hnum hro;go_wp2_with fail;refine (impl_distancesO _ _ _ n rn wr HN4.out HP.out hr1).mono ?_;rintro e w5 ⟨vd, rfl, -, -, hdo, hb5⟩;have hz5 := hb5.size;obtain ⟨hfl, hfb⟩ := far_ok HP.out.endsIn hr1;have HFB := Lib.hid hfb;have HTL := Lib.hid (show (treeL n (roots.take k)).length = (far n.es rn).length by omega);rw [Int.toNat_natCast] at HTS;obtain ⟨D, hD⟩ : ∃ z, z = far n.es rn := ⟨_, rfl⟩
   obtain ⟨out, hout⟩ : ∃ z, z = treeL n (roots.take k) := ⟨_, rfl⟩
   rw [← hD] at hdo HFB HTS HTL;rw [← hout] at HTS HTB HTL HNM;have hol : out.length = n.es.length := by rw [hout]; exact htl
   have hdl : D.length = n.es.length := by rw [hD]; exact hfl
   have hol2 : n.es.length ≤ out.length ∧ out.length ≤ n.es.length := by omega
   have hdl2 : n.es.length ≤ D.length ∧ D.length ≤ n.es.length := by omega
   have HDO := Lib.hid (own_mono hdo (base' := g + 1) (by omega));have HO5 := Lib.hid (own_keep4 HO4.out hb5.size fun b _ hb => hb5.block b hb);have HNM5 := Lib.hid (HNM.out.keep (hb5.block g hglr));have HBL5 := Lib.hid (hbl.trans (hb5.mono (by omega)));have HOUT := Lib.hid hout;obtain ⟨Ad, cd, rfl⟩ := own_sl5 hdo;clear hD hout hol hdl hdo htl hfl hfb hcr;go_wp2_with fail;obtain ⟨wq, rfl⟩ : ∃ z, z = wr := ⟨_, rfl⟩
   go_loopw [6, 7, 28] (fun _ _ i wr' => TsiRel out D roots (.slice Ad D.length cd) (.slice (some ⟨gr, 0, none⟩) roots.length cu) g w3 i wr') (fun _ _ i _ => D.length - (intOf i).toNat)
   case atStart => exact ⟨0, Nat.zero_le _, rfl, HNM5.out, HO5.out, HDO.out, HBL5.out⟩
   case round =>
    obtain ⟨j, hj, rfl, hnum, hro, hdo, hbl2⟩ := hrel;have hz6 := hbl2.size;have HNM6 := Lib.hid hnum;have HO6 := Lib.hid hro;have HDO6 := Lib.hid hdo;clear q0 q1 q2 qf;by_cases hlt2 : j < D.length
    ·
     obtain ⟨f, hf⟩ : ∃ f, D[j]? = some f := ⟨_, List.getElem?_eq_getElem hlt2⟩
     obtain ⟨a, ha⟩ : ∃ a, out[j]? = some a := ⟨_, List.getElem?_eq_getElem (by omega)⟩
     obtain ⟨gd', cd', ed, hcf⟩ := own_row hdo hf;cases ed;have hca := hnum.cell ((mix_at (d := D) HTL.out (by omega)).trans ha);have hfz := hnum.frozen j;have hab := HTB.out a (List.mem_of_getElem? ha);have hglr6 := hnum.lt;have HRM := Lib.hid (rowMin_at (d := D) ha hlt2);have hgf : gd D j = f := getDa hf;rw [hgf] at HRM;have HA := Lib.hid ha;have hfb := HFB.out f (List.mem_of_getElem? hf);have hjn : j < n.es.length := by omega
     clear hf ha hnum hro hdo hgf;by_cases h0 : 0 ≤ f
     ·
      have HM := Lib.hid (mix_step HTL.out (by omega) (show (rowMin out D)[j]? = some (min a f) by rw [HRM.out, if_pos h0]));go_wp2_with fail;go_roundw
      case rel =>
       have hsz : (wr.setCell ⟨g, j, none⟩ (.int .i64 (min a f))).heap.size = wr.heap.size := size_setCell wr _ _;have hkb : ∀ b, g + 1 ≤ b → b < wr.heap.size → (wr.setCell ⟨g, j, none⟩ (.int .i64 (min a f))).heap[b]? = wr.heap[b]? := fun b h1 _ => Below.heap_setCell wr _ _ _ (by show b ≠ g; omega)
       exact ⟨j + 1, by omega, by go_num, by rw [← HM.out]; exact HNM6.out.set j (min a f), own_keep4 HO6.out (by omega) hkb, own_keep4 HDO6.out (by omega) hkb, hbl2.setCell (Nat.le_refl _) _⟩
      case measure => simp [intOf]; omega
     ·
      have HM := Lib.hid (mix_keep HTL.out (by omega) HA.out (show (rowMin out D)[j]? = some a by rw [HRM.out, if_neg h0]));go_wp2_with fail;go_roundw
      case rel => exact ⟨j + 1, by omega, by go_num, by rw [← HM.out]; exact HNM6.out, HO6.out, HDO6.out, hbl2⟩
      case measure => simp [intOf]; omega
    ·
     obtain rfl : j = D.length := by omega
     have HM := Lib.hid (show mixL out D D.length = treeL n (roots.take (k + 1)) by
      rw [HTS.out];unfold mixL
      rw [List.take_of_length_le (by rw [rowMin_len]; omega), List.drop_eq_nil_of_le (by omega), List.append_nil])
     go_wp2_with fail;go_roundw
     case rel => exact ⟨k + 1, by omega, by go_num, by rw [← HM.out]; exact HNM6.out, HO6.out, hbl2⟩
     case measure => simp [intOf]; omega
  ·
   have HFT := Lib.hid (show NumsAt wr g (farT n) by
    have := HNM.out;rw [List.take_of_length_le (by omega), HTF.out] at this
    exact this)
   have hI := ints_row (B := wr.heap.size) HFT.out (by unfold maxLen; rw [farT_len]; omega) (farT_I64 HP.out) hglr;rw [farT_len] at hI;have HI := Lib.hid hI;clear hI hnum hro;go_wp2_with fail;go_ret;exact ⟨_, rfl, HI.out, hB4⟩
end Go.Proofs.YtdghoienjegffaaGreat
