/-
  The laws' own functions over clauses: szClause, toClause, eqClause, of lists of them.
  The laws' own functions over machines and asynchronous states: sizes, equality.
  The laws' own functions over machines and asynchronous states: copies.
  Machines and asynchronous states marked: cells that hold numbers come to hold other numbers, nothing else is written.
-/
import Derived.Test.YtjklbjmdgiddcaaGreatGMaSG
namespace Go.Proofs.YtjklbjmdgiddcaaGreat
section
open Go.RowKit
set_option linter.all false
theorem sz_Clause (st nx : Int) (A : Option Addr) (n c : Nat) (left : Int) (w : World) (hn : n ≤ maxLen) (hl : 0 ≤ left) (hl' : left ≤ 1048576) :
    Calls Tryz.prog 68 #[.agg #[.int .i64 st, .slice A n c, .int .i64 nx], .int .i64 left] w fun e w' => e = .returned (.int .i64 (szR left n)) ∧ Below w.heap.size w w' := by
  obtain ⟨w0, hw0, hB, HD, hz0, HS0⟩ := box3 w (.int .i64 st) (.slice A n c) (.int .i64 nx) 114;have HW0 := aA hw0; clear hw0;obtain ⟨q0, q1, q2, qf⟩ := cells3 HD;have HL := aA hn;by_cases hs : (n : Int) ≤ left
  · have h5 : szR left n = left - n := by unfold szR; rw [if_pos hs]
    rw [h5];go_enter Tryz.func68, Tryz.ntmps68;go_wp2_with fail;rw [← HW0.out];refine (sz_IntS A n c left w0 HL.out hl hl').mono ?_;rintro e w' ⟨rfl, rfl⟩;rw [h5];go_wp2_with fail;go_ret;exact ⟨rfl, hB⟩
  · have h5 : szR left n = -1 := by unfold szR; rw [if_neg hs]
    rw [h5];go_enter Tryz.func68, Tryz.ntmps68;go_wp2_with fail;rw [← HW0.out];refine (sz_IntS A n c left w0 HL.out hl hl').mono ?_;rintro e w' ⟨rfl, rfl⟩;rw [h5];go_wp2_with fail;go_ret;exact ⟨rfl, hB⟩
def SzCRel (cs : List Cl) (left : Int) (w : World) (l i : Value) (wr : World) : Prop :=
  Below w.heap.size w wr ∧ ∃ (k q : Nat), k ≤ cs.length ∧ q = lensC (cs.take k) ∧ i = .int .i64 k ∧ l = .int .i64 (left - cs.length - q) ∧ (q : Int) ≤ left - cs.length
theorem sz_ClauseS (v : Value) (cs : List Cl) (left : Int) (w : World) (h : ClsR w w.heap.size v cs) (hl : 0 ≤ left) (hl' : left ≤ 1048576) :
  Calls Tryz.prog 30 #[v, .int .i64 left] w fun e w' => e = .returned (.int .i64 (szR left (szCls cs))) ∧ Below w.heap.size w w' := by
 obtain ⟨A, c, rfl, h1, h2, -, h3⟩ := h;have hL : cs.length ≤ 9223372036854775807 := by unfold maxLen at h2; omega
 have H3 := aA h3;clear h2 h3;by_cases hs : (cs.length : Int) ≤ left
 ·
  go_enter Tryz.func30, Tryz.ntmps30;go_wp2;go_loopw [1, 5] (fun l i wr => SzCRel cs left w l i wr) (fun _ i _ => cs.length - (intOf i).toNat)
  case atStart => exact ⟨Below.refl _ _, 0, 0, Nat.zero_le _, rfl, rfl, by simp, by omega⟩
  case round =>
   obtain ⟨hbl, k, q, hk, hq, rfl, rfl, hle⟩ := hrel;have HQ := aA hq; clear hq;by_cases hlt : k < cs.length
   ·
    obtain ⟨x, hx⟩ : ∃ x, cs[k]? = some x := ⟨cs[k], aC hlt⟩
    obtain ⟨b, o, rfl, hb, hc⟩ := H3.out (by omega);obtain ⟨k0, ⟨u, k1, hu⟩, k2⟩ := hc k x hx;obtain ⟨A', c', rfl, hlc, hcm, -⟩ := hu.open_;have j0 := (hbl.cell (p := ⟨b, o + k * 3, none⟩) hb).trans k0;have j1 := (hbl.cell (p := ⟨b, o + k * 3 + 1, none⟩) hb).trans k1;have j2 := (hbl.cell (p := ⟨b, o + k * 3 + 2, none⟩) hb).trans k2;have HS := aA (lensC_snoc cs k x hx);have HT := aA (lensC_split cs (k + 1));have HM := aA (show x.2.1.length ≤ maxLen by omega);clear hc hx hu k0 k1 k2 hcm;by_cases hx : (x.2.1.length : Int) ≤ left - cs.length - q
    ·
     have h5 : szR (left - cs.length - q) x.2.1.length = left - cs.length - q - x.2.1.length := by unfold szR; rw [if_pos hx]
     go_wp2_with fail;refine (sz_Clause x.1 x.2.2 A' x.2.1.length c' _ _ HM.out (by omega) (by omega)).mono ?_;rintro e w1 ⟨rfl, hb1⟩;rw [h5];go_wp2_with fail;go_roundw
     case rel => exact ⟨bl_trans hbl hb1, k + 1, q + x.2.1.length, by omega, by rw [HS.out, HQ.out], by go_num, by go_num, by omega⟩
     case measure => simp [intOf]; omega
    ·
     have h5 : szR (left - cs.length - q) x.2.1.length = -1 := by unfold szR; rw [if_neg hx]
     go_wp2_with fail;refine (sz_Clause x.1 x.2.2 A' x.2.1.length c' _ _ HM.out (by omega) (by omega)).mono ?_;rintro e w1 ⟨rfl, hb1⟩;rw [h5];go_wp2_with fail;go_ret;have h6 := HT.out;have h7 := HS.out;have h8 := HQ.out;exact ⟨ret_int (by unfold szR szCls; rw [if_neg (by omega)]), bl_trans hbl hb1⟩
   · go_wp2_with fail;go_ret;have h6 := lensC_all cs k (by omega);have h8 := HQ.out;exact ⟨ret_int (by unfold szR szCls; rw [if_pos (by omega)]; omega), hbl⟩
 · have H := aA (show szR left (szCls cs) = -1 by unfold szR szCls; rw [if_neg (by omega)]);go_enter Tryz.func30, Tryz.ntmps30;go_wp2;go_ret;exact ⟨ret_int H.out.symm, Below.refl _ _⟩
theorem eq_Clause (st nx : Int) (v v' : Value) (xs : List Int) (w : World) (h : IntsR w w.heap.size v xs) (h' : IntsR w w.heap.size v' xs) :
    Calls Tryz.prog 88 #[.agg #[.int .i64 st, v, .int .i64 nx], .agg #[.int .i64 st, v', .int .i64 nx]] w fun e w' => e = .returned (.bool true) ∧ Below w.heap.size w w' := by
  have H := aA h;have H' := aA h';obtain ⟨A0, m0, c0, rfl⟩ := h.isSlice;obtain ⟨A1, m1, c1, rfl⟩ := h'.isSlice;obtain ⟨w0, hw0, hb0, HD0, hz0, HS0⟩ := box3 w (.int .i64 st) (.slice A0 m0 c0) (.int .i64 nx) 123;obtain ⟨w1, hw1, hb1, HD1, hz1, HS1⟩ := box3 w0 (.int .i64 st) (.slice A1 m1 c1) (.int .i64 nx) 123;replace HD0 := bk HD0 hb1;rw [HS0.out] at HD1;have hB := bl_trans hb0 hb1;have HW0 := aA hw0; clear hw0;have HW1 := aA hw1; clear hw1;obtain ⟨q0, q1, q2, qf⟩ := cells3 HD0;obtain ⟨p0, p1, p2, pf⟩ := cells3 HD1;clear h h';go_enter Tryz.func88, Tryz.ntmps88;go_wp2_with fail;rw [← HW0.out, ← HW1.out];refine (eq_IntS _ _ xs w1 ((H.out.below hB).more hB.size) ((H'.out.below hB).more hB.size)).mono ?_;rintro e w2 ⟨rfl, a, hw2⟩;have hb2 : Below w1.heap.size w1 w2 := by rw [hw2]; exact bl_drewN (Below.refl _ _) _
  clear hw2 q0 q1 q2 qf p0 p1 p2 pf;replace HD0 := bk HD0 hb2;replace HD1 := bk HD1 hb2 (by have := HS0.out; omega);obtain ⟨q0, q1, q2, qf⟩ := cells3 HD0;obtain ⟨p0, p1, p2, pf⟩ := cells3 HD1;go_wp2_with fail;go_ret;exact ⟨rfl, bl_trans hB hb2⟩
theorem to_Clause (st nx : Int) (v : Value) (xs : List Int) (w : World) (h : IntsR w w.heap.size v xs) (hn : xs.length ≤ 1048576) :
  Calls Tryz.prog 77 #[.agg #[.int .i64 st, v, .int .i64 nx]] w fun e w' => ∃ g, e = .returned (.agg #[.int .i64 st, .slice (some ⟨g, 0, none⟩) xs.length xs.length, .int .i64 nx]) ∧ w'.heap[g]? = some (.cells (xs.map intV).toArray 3 (0, 0)) ∧ w.heap.size ≤ g ∧ Below w.heap.size w w' := by
 have H := aA h;obtain ⟨A0, m0, c0, rfl⟩ := h.isSlice;clear h;obtain ⟨w0, hw0, hb0, HD0, hz0, HS0⟩ := box3 w (.int .i64 st) (.slice A0 m0 c0) (.int .i64 nx) 114;obtain ⟨w1, hw1, hb1, HD1, hz1, HS1⟩ := box3 w0 (.int .i64 0) (.slice none 0 0) (.int .i64 0) 123;obtain ⟨w2, hw2, hb2, HD2, hz2, HS2⟩ := box3 w1 (.int .i64 st) (.slice none 0 0) (.int .i64 0) 123;have hs1 : w0.heap.size = w.heap.size + 1 := HS0.out;have hs2 : w1.heap.size = w.heap.size + 1 + 1 := by rw [HS1.out, hs1]
 rw [hs1] at HD1 hz1;rw [hs2] at HD2 hz2;replace HD0 := bk (bk HD0 hb1) hb2;replace HD1 := bk HD1 hb2;have hB := bl_trans (bl_trans hb0 hb1) hb2;clear hs1 hs2 hb0 hb1 hb2;obtain ⟨q0, q1, q2, qf⟩ := cells3 HD0;have s1 := q1;rw [hw2, hw1, hw0] at s1;have HW0 := aA hw0; clear hw0;have HW1 := aA hw1; clear hw1;have HW2 := aA hw2; clear hw2;go_enter Tryz.func77, Tryz.ntmps77;go_wp2_with fail;rw [← HW0.out, ← HW1.out, ← HW2.out];refine (to_IntS _ xs w2 ((H.out.below hB).more hB.size) hn).mono ?_;rintro e w4 ⟨rfl, hw4⟩;have hb4 : Below w2.heap.size w2 w4 := by rw [hw4]; exact bl_alloc (Below.refl _ _) _
 have HI := aA (show w4.heap[w2.heap.size]? = some (.cells (xs.map intV).toArray 3 (0, 0)) by rw [hw4]; exact heap_alloc_new w2 _);have hy4 : w2.heap.size < w4.heap.size := by rw [hw4]; simp
 clear hw4 q0 q1 q2 qf s1;replace HD0 := bk HD0 hb4;replace HD1 := bk HD1 hb4;replace HD2 := bk HD2 hb4;have hB4 := bl_trans hB hb4;obtain ⟨q0, q1, q2, qf⟩ := cells3 HD0;obtain ⟨p0, p1, p2, pf⟩ := cells3 HD2;obtain ⟨r0, r1, r2, rf⟩ := cells3 HD1;go_wp2_with fail;clear q0 q1 q2 qf p0 p1 p2 pf r0 r1 r2 rf;obtain ⟨x1, hx1⟩ : ∃ z, z = w4.setCell ⟨w.heap.size + 1 + 1, 1, none⟩ (.slice (some ⟨w2.heap.size, 0, none⟩) xs.length xs.length) := ⟨_, rfl⟩
 rw [← hx1];obtain ⟨hX1, hO1, HX1, hZ1, hY1⟩ := setB hB4 (by omega) HD2.out hx1;replace HI := aA ((hO1 _ (by omega)).trans HI.out);clear hx1;replace HD1 := aA ((hO1 _ (by omega)).trans HD1.out);obtain ⟨x2, hx2⟩ : ∃ z, z = x1.setCell ⟨w.heap.size + 1 + 1, 2, none⟩ (.int .i64 nx) := ⟨_, rfl⟩
 rw [← hx2];obtain ⟨hX2, hO2, HX2, hZ2, hY2⟩ := setB hX1 (by omega) HX1.out hx2;replace HI := aA ((hO2 _ (by omega)).trans HI.out);clear hx2;replace HD1 := aA ((hO2 _ (by omega)).trans HD1.out);obtain ⟨x3, hx3⟩ : ∃ z, z = x2.setCell ⟨w.heap.size + 1, 0, none⟩ (.int .i64 st) := ⟨_, rfl⟩
 rw [← hx3];obtain ⟨hX3, hO3, HX3, hZ3, hY3⟩ := setB hX2 (by omega) HD1.out hx3;replace HI := aA ((hO3 _ (by omega)).trans HI.out);clear hx3;obtain ⟨x4, hx4⟩ : ∃ z, z = x3.setCell ⟨w.heap.size + 1, 1, none⟩ (.slice (some ⟨w2.heap.size, 0, none⟩) xs.length xs.length) := ⟨_, rfl⟩
 rw [← hx4];obtain ⟨hX4, hO4, HX4, hZ4, hY4⟩ := setB hX3 (by omega) HX3.out hx4;replace HI := aA ((hO4 _ (by omega)).trans HI.out);clear hx4;obtain ⟨x5, hx5⟩ : ∃ z, z = x4.setCell ⟨w.heap.size + 1, 2, none⟩ (.int .i64 nx) := ⟨_, rfl⟩
 rw [← hx5];obtain ⟨hX5, hO5, HX5, hZ5, hY5⟩ := setB hX4 (by omega) HX4.out hx5;replace HI := aA ((hO5 _ (by omega)).trans HI.out);clear hx5;have HF := aA (show x5.heap[w.heap.size + 1]? = some (.cells #[.int .i64 st, .slice (some ⟨w2.heap.size, 0, none⟩) xs.length xs.length, .int .i64 nx] 123 (0, 0)) from HX5.out);obtain ⟨s0, s1, s2, sf⟩ := cells3 HF;refine bodyPost_ret (v := .agg #[.int .i64 st, .slice (some ⟨w2.heap.size, 0, none⟩) xs.length xs.length, .int .i64 nx]) (by simp [results, Tryz.results77, go_sem, s0, s1, s2]) rfl ?_;exact ⟨w2.heap.size, rfl, HI.out, by omega, hX5⟩
def EqCRel (n : Nat) (w : World) (i : Value) (wr : World) : Prop := Below w.heap.size w wr ∧ ∃ k : Nat, k ≤ n ∧ i = .int .i64 k
set_option maxHeartbeats 1000000 in
theorem eq_ClauseS (v v' : Value) (cs : List Cl) (w : World) (h : ClsR w w.heap.size v cs) (h' : ClsR w w.heap.size v' cs) :
  Calls Tryz.prog 49 #[v, v'] w fun e w' => e = .returned (.bool true) ∧ Below w.heap.size w w' := by
 obtain ⟨A, c, rfl, h1, h2, -, h3⟩ := h;obtain ⟨A', c', rfl, h1', h2', -, h3'⟩ := h';unfold maxLen at h2;have H3 := aA h3; clear h3;have H3' := aA h3'; clear h3';go_enter Tryz.func49, Tryz.ntmps49;go_wp2;go_loopw [5] (fun i wr => EqCRel cs.length w i wr) (fun i _ => cs.length - (intOf i).toNat)
 case atStart => exact ⟨Below.refl _ _, 0, Nat.zero_le _, rfl⟩
 case round =>
  obtain ⟨hbl, k, hk, rfl⟩ := hrel;by_cases hlt : k < cs.length
  ·
   obtain ⟨x, hx⟩ : ∃ x, cs[k]? = some x := ⟨cs[k], aC hlt⟩
   obtain ⟨b, o, rfl, hb, hc⟩ := H3.out (by omega);obtain ⟨b', o', rfl, hb', hc'⟩ := H3'.out (by omega);obtain ⟨k0, ⟨u, k1, hu⟩, k2⟩ := hc k x hx;obtain ⟨k0', ⟨u', k1', hu'⟩, k2'⟩ := hc' k x hx;have q0 := (hbl.cell (p := ⟨b, o + k * 3, none⟩) hb).trans k0;have q1 := (hbl.cell (p := ⟨b, o + k * 3 + 1, none⟩) hb).trans k1;have q2 := (hbl.cell (p := ⟨b, o + k * 3 + 2, none⟩) hb).trans k2;have p0 := (hbl.cell (p := ⟨b', o' + k * 3, none⟩) hb').trans k0';have p1 := (hbl.cell (p := ⟨b', o' + k * 3 + 1, none⟩) hb').trans k1';have p2 := (hbl.cell (p := ⟨b', o' + k * 3 + 2, none⟩) hb').trans k2';have hzw := hbl.size;have HU := aA ((hu.below hbl).more hbl.size);have HU' := aA ((hu'.below hbl).more hbl.size);clear hc hx hc' k0 k1 k2 k0' k1' k2' hu hu';go_wp2_with fail;refine aH (S := fun w' => (w'.cell? ⟨b, o + k * 3, none⟩ = some (.int .i64 x.1) ∧ w'.cell? ⟨b, o + k * 3 + 1, none⟩ = some u ∧ w'.cell? ⟨b, o + k * 3 + 2, none⟩ = some (.int .i64 x.2.2)) ∧ w'.cell? ⟨b', o' + k * 3, none⟩ = some (.int .i64 x.1) ∧ w'.cell? ⟨b', o' + k * 3 + 1, none⟩ = some u' ∧ w'.cell? ⟨b', o' + k * 3 + 2, none⟩ = some (.int .i64 x.2.2)) (by kernel_rfl) ?_ (fun hHeld => ?_)
   · go_keep
   refine tk 0 17 rfl rfl ?_;refine tk 1 18 rfl rfl ?_;refine tk 2 19 rfl rfl ?_;refine tk 3 20 rfl rfl ?_;refine tk 4 21 rfl rfl ?_;refine tk 5 22 rfl rfl ?_;refine tk 6 23 rfl rfl ?_;refine stk 7 24 ?_;refine tr 8 rfl (by kernel_rfl) (fun K hK => ?_);go_simp;go_at_call 88;have hd : Below wr.heap.size wr wr.drew := (Below.refl _ _).drew;refine (eq_Clause x.1 x.2.2 u u' x.2.1 wr.drew (HU.out.below hd) (HU'.out.below hd)).mono ?_;rintro e w1 ⟨rfl, hb1⟩;have hB01 := ((Below.refl wr.heap.size wr).drew).trans hb1;have hB1 := hbl.trans (hB01.mono hbl.size);have r0 := (hB01.cell (p := ⟨b, o + k * 3, none⟩) (show b < wr.heap.size by omega)).trans q0;have r1 := (hB01.cell (p := ⟨b, o + k * 3 + 1, none⟩) (show b < wr.heap.size by omega)).trans q1;have r2 := (hB01.cell (p := ⟨b, o + k * 3 + 2, none⟩) (show b < wr.heap.size by omega)).trans q2;have t0 := (hB01.cell (p := ⟨b', o' + k * 3, none⟩) (show b' < wr.heap.size by omega)).trans p0;have t1 := (hB01.cell (p := ⟨b', o' + k * 3 + 1, none⟩) (show b' < wr.heap.size by omega)).trans p1;have t2 := (hB01.cell (p := ⟨b', o' + k * 3 + 2, none⟩) (show b' < wr.heap.size by omega)).trans p2;refine hK.out _ _ ?_ (fun hHeld => ?_)
   · go_keep
   clear hK K
   try simp only [Act.put, pu]
   refine stk 9 26 ?_;refine aK (by kernel_rfl) ?_ _;go_wp2_with fail;go_roundw
   case rel => exact ⟨hB1, k + 1, by omega, by go_num⟩
   case measure => simp [intOf]; omega
  · go_wp2_with fail;go_ret;exact ⟨rfl, hbl⟩
theorem clInfo : (Tryz.prog.info? 123).map (fun i => (i.zero, i.size, i.bytes)) = some (some (.agg #[.int .i64 0, .slice none 0 0, .int .i64 0]), 3, 40) := by kernel_rfl
theorem run_make3 {P : Program} (t e : TypeId) (z : Value) (bytes : Nat) (ht : P.underlying t = some (.slice e)) (hinf : (P.info? e).map (fun i => (i.zero, i.size, i.bytes)) = some (some z, 3, bytes)) (n : Nat)
    (hb : bytes * n ≤ 281474976710656) (h63 : n ≤ 9223372036854775807) (w : World) :
    (Instr.makeSlice t (.int .i64 (n : Int)) (.int .i64 (n : Int))).run P w = .ok (.slice (some ⟨w.heap.size, 0, none⟩) n n) (w.alloc (.cells (madeCells z.cells (n * 3)) e)) := by
  obtain ⟨i, hi, hz0, hz1, hz2⟩ := info_parts hinf;have hb' : (i.bytes : Int) * (n : Int) ≤ 281474976710656 := by
    rw [hz2];have h : ((bytes * n : Nat) : Int) ≤ 281474976710656 := by omega
    rwa [Int.natCast_mul] at h
  have hr := run_make (P := P) w t e i z ht hi hz0 .i64 .i64 n n (by omega) (by omega) hb' (by omega);simp only [Int.toNat_natCast] at hr;rw [hr, hz1]
def ClsTo (cs : List Cl) (C : Array Value) (k g0 : Nat) (w : World) : Prop := ∀ j x, j < k → cs[j]? = some x → C[j * 3]? = some (.int .i64 x.1) ∧ (∃ g, C[j * 3 + 1]? = some (.slice (some ⟨g, 0, none⟩) x.2.1.length x.2.1.length) ∧ g0 < g ∧ g < w.heap.size ∧ w.heap[g]? = some (.cells (x.2.1.map intV).toArray 3 (0, 0))) ∧ C[j * 3 + 2]? = some (.int .i64 x.2.2)
theorem ClsTo.keep {cs : List Cl} {C : Array Value} {k g0 : Nat} {w w' : World} (h : ClsTo cs C k g0 w) (hs : w.heap.size ≤ w'.heap.size) (hk : ∀ b, g0 < b → b < w.heap.size → w'.heap[b]? = w.heap[b]?) : ClsTo cs C k g0 w' := fun j x hj hx => by obtain ⟨h1, ⟨g, h2, h3, h4, h5⟩, h6⟩ := h j x hj hx;exact ⟨h1, ⟨g, h2, h3, by omega, (hk g h3 h4).trans h5⟩, h6⟩
theorem ClsTo.next {cs : List Cl} {C : Array Value} {k g0 g : Nat} {w : World} {x : Cl} (h : ClsTo cs C k g0 w) (hx : cs[k]? = some x) (hC : C.size = cs.length * 3) (hk : k < cs.length) (hg : g0 < g) (hg2 : g < w.heap.size) (hh : w.heap[g]? = some (.cells (x.2.1.map intV).toArray 3 (0, 0))) :
  ClsTo cs (((C.setIfInBounds (k * 3) (.int .i64 x.1)).setIfInBounds (k * 3 + 1) (.slice (some ⟨g, 0, none⟩) x.2.1.length x.2.1.length)).setIfInBounds (k * 3 + 2) (.int .i64 x.2.2)) (k + 1) g0 w := by
 intro j y hj hy;by_cases hjk : j < k
 ·
  obtain ⟨h1, ⟨g', h2, h3⟩, h4⟩ := h j y hjk hy;refine ⟨?_, ⟨g', ?_, h3⟩, ?_⟩
  · rw [Array.getElem?_setIfInBounds_ne (by omega), Array.getElem?_setIfInBounds_ne (by omega), Array.getElem?_setIfInBounds_ne (by omega)]; exact h1
  · rw [Array.getElem?_setIfInBounds_ne (by omega), Array.getElem?_setIfInBounds_ne (by omega), Array.getElem?_setIfInBounds_ne (by omega)]; exact h2
  · rw [Array.getElem?_setIfInBounds_ne (by omega), Array.getElem?_setIfInBounds_ne (by omega), Array.getElem?_setIfInBounds_ne (by omega)]; exact h4
 ·
  obtain rfl : j = k := by omega
  obtain rfl := aE (hx.symm.trans hy);refine ⟨?_, ⟨g, ?_, hg, hg2, hh⟩, ?_⟩
  · rw [Array.getElem?_setIfInBounds_ne (by omega), Array.getElem?_setIfInBounds_ne (by omega), Array.getElem?_setIfInBounds_self_of_lt (by omega)]
  · rw [Array.getElem?_setIfInBounds_ne (by omega), Array.getElem?_setIfInBounds_self_of_lt (by simp; omega)]
  · rw [Array.getElem?_setIfInBounds_self_of_lt (by simp; omega)]
def ToCRel (cs : List Cl) (w : World) (i : Value) (wr : World) : Prop :=
  ∃ (k : Nat) (C : Array Value), k ≤ cs.length ∧ i = .int .i64 k ∧ wr.heap[w.heap.size]? = some (.cells C 123 (0, 0)) ∧ C.size = cs.length * 3 ∧ Below w.heap.size w wr ∧ w.heap.size < wr.heap.size ∧ (∀ j, k ≤ j → j < cs.length → C[j * 3 + 1]? = some (.slice none 0 0)) ∧ ClsTo cs C k w.heap.size wr
theorem made3_at {n j : Nat} (h : j < n) : (madeCells (Value.agg #[.int .i64 0, .slice none 0 0, .int .i64 0]).cells (n * 3))[j * 3 + 1]? = some (.slice none 0 0) := by
  have h1 : (j * 3 + 1) % 3 = 1 := by omega
  have h2 : j * 3 + 1 < n * 3 := by omega
  unfold madeCells;rw [Array.getElem?_map, Array.getElem?_eq_getElem (by simpa using h2)];simp [Value.cells, h1]
def ClsOwn (w : World) (g : Nat) (cs : List Cl) : Prop := ∃ C, w.heap[g]? = some (.cells C 123 (0, 0)) ∧ C.size = cs.length * 3 ∧ ClsTo cs C cs.length g w
theorem ClsOwn.keep {w w' : World} {g : Nat} {cs : List Cl} (h : ClsOwn w g cs) (hs : w.heap.size ≤ w'.heap.size) (hk : ∀ b, g ≤ b → b < w.heap.size → w'.heap[b]? = w.heap[b]?) : ClsOwn w' g cs := by obtain ⟨C, h1, h2, h3⟩ := h;exact ⟨C, (hk g (Nat.le_refl _) (Array.getElem?_eq_some_iff.1 h1).1).trans h1, h2, h3.keep hs fun b hb => hk b (by omega)⟩
set_option maxHeartbeats 1000000 in
theorem to_ClauseS0 (v : Value) (cs : List Cl) (w : World) (h : ClsR w w.heap.size v cs) (hn : szCls cs ≤ 1048576) :
  Calls Tryz.prog 38 #[v] w fun e w' => e = .returned (.slice (some ⟨w.heap.size, 0, none⟩) cs.length cs.length) ∧ ClsOwn w' w.heap.size cs ∧ Below w.heap.size w w' := by
 obtain ⟨A, c, rfl, h1, h2, h4, h3⟩ := h;have H4 := aA h4; clear h4;have H3 := aA h3; clear h3
 have HSZ := aA (show ∀ (k : Nat) (x : Cl), cs[k]? = some x → x.2.1.length ≤ 1048576 from fun k x hx => by
  have := lensC_snoc cs k x hx;have := lensC_split cs (k + 1);unfold szCls at hn
  omega)
 have hn' : cs.length ≤ 1048576 := by unfold szCls at hn; omega
 clear hn;have hmk := fun W => run_make3 (P := Tryz.prog) 44 123 _ 40 Tryz.underlying44 clInfo cs.length (by omega) (by omega) W
 go_enter Tryz.func38, Tryz.ntmps38;go_wp2;clear hmk;go_loopw [4] (fun i wr => ToCRel cs w i wr) (fun i _ => cs.length - (intOf i).toNat)
 case atStart => exact ⟨0, _, Nat.zero_le _, rfl, heap_alloc_new w _, by simp [madeCells], bl_alloc (Below.refl _ _) _, by simp, fun j _ hj => made3_at hj, fun j x hj => by omega⟩
 case round =>
  obtain ⟨k, C, hk, rfl, hblk, hC, hbl, hgt, hnil, hits⟩ := hrel;have hsz := hbl.size;have HI := aA hits; clear hits;have HB := aA hblk; clear hblk;have HC := aA hC; clear hC;have HNIL := aA hnil; clear hnil;by_cases hlt : k < cs.length
  ·
   obtain ⟨x, hx⟩ : ∃ x, cs[k]? = some x := ⟨cs[k], aC hlt⟩
   obtain ⟨b, o, rfl, hb, hc⟩ := H3.out (by omega);obtain ⟨k0, ⟨u, k1, hu⟩, k2⟩ := hc k x hx;obtain ⟨A', c', rfl, -, -, -⟩ := hu.open_;have q0 := (hbl.cell (p := ⟨b, o + k * 3, none⟩) hb).trans k0;have q1 := (hbl.cell (p := ⟨b, o + k * 3 + 1, none⟩) hb).trans k1;have q2 := (hbl.cell (p := ⟨b, o + k * 3 + 2, none⟩) hb).trans k2;have HU := aA ((hu.below hbl).more hsz);have HX := aA hx;have hxz := HSZ.out k x hx;clear hc hx k0 k1 k2 hu;go_wp2_with fail;refine (to_Clause x.1 x.2.2 _ x.2.1 wr HU.out hxz).mono ?_;rintro e w1 ⟨g, rfl, hgh, hgg, hb1⟩;have hblk1 : w1.heap[w.heap.size]? = some (.cells C 123 (0, 0)) := (hb1.block _ hgt).trans HB.out;have hz1 := hb1.size;have hgl : g < w1.heap.size := (Array.getElem?_eq_some_iff.1 hgh).1;obtain ⟨o0, hz0⟩ : ∃ u, C[k * 3]? = some u := ⟨_, Array.getElem?_eq_getElem (by rw [HC.out]; omega)⟩
   obtain ⟨o2, hz2⟩ : ∃ u, C[k * 3 + 2]? = some u := ⟨_, Array.getElem?_eq_getElem (by rw [HC.out]; omega)⟩
   have z0 : w1.cell? ⟨w.heap.size, k * 3, none⟩ = some o0 := by rw [cell_of_row w1 _ (k * 3) _ _ (0, 0) hblk1]; exact hz0
   have z1 : w1.cell? ⟨w.heap.size, k * 3 + 1, none⟩ = some (.slice none 0 0) := by rw [cell_of_row w1 _ (k * 3 + 1) _ _ (0, 0) hblk1]; exact HNIL.out k (Nat.le_refl _) hlt
   have z2 : w1.cell? ⟨w.heap.size, k * 3 + 2, none⟩ = some o2 := by rw [cell_of_row w1 _ (k * 3 + 2) _ _ (0, 0) hblk1]; exact hz2
   have y0 : w1.frozen? ⟨w.heap.size, k * 3, none⟩ = false := by simp [World.frozen?, hblk1]
   have y1 : w1.frozen? ⟨w.heap.size, k * 3 + 1, none⟩ = false := by simp [World.frozen?, hblk1]
   have y2 : w1.frozen? ⟨w.heap.size, k * 3 + 2, none⟩ = false := by simp [World.frozen?, hblk1]
   have hB1 := hbl.trans (hb1.mono hsz);have hgt1 : w.heap.size < w1.heap.size := by omega
   have HB1 := aA hblk1;have HGH := aA hgh;have HI1 := aA (HI.out.keep (w' := w1) hz1 fun b _ h => hb1.block b h);clear hblk1 hgh hz0 hz2;go_wp2_with fail;go_roundw
   case rel =>
    refine ⟨k + 1, _, by omega, by go_num, heap_set_same (heap_set_same (heap_set_same HB1.out _) _) _, by simp [HC.out], ?_, by simp only [size_setCell]; exact hgt1, fun j h1 h2 => ?_, ?_⟩
    ·
     iterate 3 (refine Below.setCell ?_ (by simp) _)
     exact hB1
    · rw [Array.getElem?_setIfInBounds_ne (by omega), Array.getElem?_setIfInBounds_ne (by omega), Array.getElem?_setIfInBounds_ne (by omega)];exact HNIL.out j (by omega) h2
    ·
     refine (HI1.out.next HX.out HC.out hlt (show w.heap.size < g by omega) hgl HGH.out).keep (by simp only [size_setCell]; exact Nat.le_refl _) fun b h1 h2 => ?_
     iterate 3 rw [Below.heap_setCell _ _ _ _ (by simp; omega)]
   case measure => simp [intOf]; omega
  ·
   have hkk : k = cs.length := by omega
   go_wp2_with fail;go_ret;subst hkk;exact ⟨rfl, ⟨C, HB.out, HC.out, HI.out⟩, hbl⟩
theorem cls_64 {w : World} {B : Nat} {v : Value} {cs : List Cl} (h : ClsR w B v cs) : (∀ e ∈ cs, I64 e.1 ∧ I64 e.2.2) ∧ ∀ e ∈ cs, ∀ y ∈ e.2.1, I64 y := by obtain ⟨A, c, -, -, -, h4, h3⟩ := h;refine ⟨h4, fun e he => ?_⟩;obtain ⟨j, hj⟩ := List.mem_iff_getElem?.1 he;obtain ⟨b, o, -, -, hc⟩ := h3 (by have := (aB.1 hj).1; omega);obtain ⟨-, ⟨u, -, hu⟩, -⟩ := hc j e hj;exact hu.2
theorem ClsOwn.reads {w : World} {g : Nat} {cs : List Cl} (h : ClsOwn w g cs) (h64 : (∀ e ∈ cs, I64 e.1 ∧ I64 e.2.2) ∧ ∀ e ∈ cs, ∀ y ∈ e.2.1, I64 y) (hn : szCls cs ≤ 1048576) : ClsR w w.heap.size (.slice (some ⟨g, 0, none⟩) cs.length cs.length) cs := by
  obtain ⟨C, hB, hC, hI⟩ := h;have hl : cs.length ≤ 1048576 := by unfold szCls at hn; omega
  refine ⟨_, _, rfl, Nat.le_refl _, by unfold maxLen; omega, h64.1, fun _ => ⟨_, 0, rfl, (Array.getElem?_eq_some_iff.1 hB).1, fun j x hx => ?_⟩⟩;have hj : j < cs.length := (aB.1 hx).1;obtain ⟨k1, ⟨g', k2, k3, k4, k5⟩, k6⟩ := hI j x hj hx;have hz : x.2.1.length ≤ 1048576 := by have := lensC_snoc cs j x hx;have := lensC_split cs (j + 1);unfold szCls at hn;omega
  exact ⟨by rw [cell_of_row _ _ (0 + j * 3) _ _ (0, 0) hB, Nat.zero_add]; exact k1, ⟨_, by rw [cell_of_row _ _ (0 + j * 3 + 1) _ _ (0, 0) hB, Nat.zero_add]; exact k2, ints_row k5 (by unfold maxLen; omega) (h64.2 x (aN hx)) k4⟩, by rw [cell_of_row _ _ (0 + j * 3 + 2) _ _ (0, 0) hB, Nat.zero_add]; exact k6⟩
end
section
open Go.RowKit
set_option linter.all false
theorem boxS5 (w : World) (a b c d e : Value) (t : TypeId) : ∃ w0, w0 = w.alloc (.cells #[a, b, c, d, e] t) ∧ Below w.heap.size w w0 ∧ Hid (w0.heap[w.heap.size]? = some (.cells #[a, b, c, d, e] t (0, 0))) ∧ w.heap.size < w0.heap.size ∧ Hid (w0.heap.size = w.heap.size + 1) :=
  ⟨_, rfl, bl_alloc (Below.refl _ _) _, aA (heap_alloc_new w _), by simp, aA (by simp)⟩
theorem cellsS5 {w : World} {b : Nat} {v0 v1 v2 v3 v4 : Value} {t : TypeId} (H : Hid (w.heap[b]? = some (.cells #[v0, v1, v2, v3, v4] t (0, 0)))) :
    w.cell? ⟨b, 0, none⟩ = some v0 ∧ w.cell? ⟨b, 1, none⟩ = some v1 ∧ w.cell? ⟨b, 2, none⟩ = some v2 ∧ w.cell? ⟨b, 3, none⟩ = some v3 ∧ w.cell? ⟨b, 4, none⟩ = some v4 ∧ ∀ i, w.frozen? ⟨b, i, none⟩ = false :=
  ⟨cell_of_row _ _ 0 _ _ (0, 0) H.out, cell_of_row _ _ 1 _ _ (0, 0) H.out, cell_of_row _ _ 2 _ _ (0, 0) H.out, cell_of_row _ _ 3 _ _ (0, 0) H.out, cell_of_row _ _ 4 _ _ (0, 0) H.out, fun i => frozen_of_row _ _ i _ _ H.out⟩
theorem sz_Mach (vs ve vc vo : Value) (m : Mach) (left : Int) (w : World) (h : MachR w w.heap.size vs ve vc vo m) (hl : 0 ≤ left) (hl' : left ≤ 1048576) :
  Calls Tryz.prog 5 #[.agg #[.int .i64 m.deg, .int .i64 m.st, .int .i64 m.msg, vs, ve, vc, vo], .int .i64 left] w fun e w' => e = .returned (.int .i64 (szR left (szMach m))) ∧ Below w.heap.size w w' := by
 obtain ⟨A0, m0, c0, e0⟩ := h.slices.1
 skip
 obtain ⟨A1, m1, c1, e1⟩ := h.slices.2.1
 skip
 obtain ⟨A2, m2, c2, e2⟩ := h.slices.2.2.1
 skip
 obtain ⟨A3, c3, e3, -, hm3, -⟩ := h.o.open_;replace hm3 : m.out.length ≤ maxLen := by have := h.o.1.len_le; rwa [List.length_map] at this
 subst e0;subst e1;subst e2;subst e3;obtain ⟨w0, hw0, hB, HD, hz0, HS0⟩ := box7 w (.int .i64 m.deg) (.int .i64 m.st) (.int .i64 m.msg) (.slice A0 m0 c0) (.slice A1 m1 c1) (.slice A2 m2 c2) (.slice A3 m.out.length c3) 26;have HW0 := aA hw0; clear hw0;have H := aA (h.up hB); clear h;obtain ⟨⟨g0, g1, g2⟩, ⟨q0, q1, q2, q3⟩, qf⟩ := cells7 HD;have J0 := aA (fun (l : Int) (h1 : 0 ≤ l) (h2 : l ≤ 1048576) => sz_IntSS _ m.start l w0 H.out.s h1 h2);have J1 := aA (fun (l : Int) (h1 : 0 ≤ l) (h2 : l ≤ 1048576) => sz_IntSS _ m.send l w0 H.out.e h1 h2);have J2 := aA (fun (l : Int) (h1 : 0 ≤ l) (h2 : l ≤ 1048576) => sz_ClauseS _ m.cls l w0 H.out.c h1 h2);have J3 := aA (fun (W : World) (l : Int) (h1 : 0 ≤ l) (h2 : l ≤ 1048576) => sz_IntS A3 m.out.length c3 l W hm3 h1 h2);have HN : szMach m = szRows m.start + szRows m.send + szCls m.cls + m.out.length := rfl;generalize szMach m = N at *;generalize szRows m.start = a at *;generalize szRows m.send = b at *;generalize szCls m.cls = c at *;generalize m.out.length = d at *;clear H hm3;have F0 : ¬ ((a : Int) ≤ left) → szR left N = -1 := fun h => by unfold szR; rw [if_neg (by omega)]
 have F1 : ¬ ((b : Int) ≤ left - a) → szR left N = -1 := fun h => by unfold szR; rw [if_neg (by omega)]
 have F2 : ¬ ((c : Int) ≤ left - a - b) → szR left N = -1 := fun h => by unfold szR; rw [if_neg (by omega)]
 have F3 : ¬ ((d : Int) ≤ left - a - b - c) → szR left N = -1 := fun h => by unfold szR; rw [if_neg (by omega)]
 have FZ : (d : Int) ≤ left - a - b - c → szR left N = left - a - b - c - d := fun h => by unfold szR; rw [if_pos (by omega)]; omega
 generalize szR left N = R at *;clear HN;go_enter Tryz.func5, Tryz.ntmps5;go_wp2_with fail;rw [← HW0.out];refine (J0.out (left) (by omega) (by omega)).mono ?_;rintro e w' ⟨rfl, rfl⟩;by_cases h0 : (a : Int) ≤ left
 ·
  have e0 : szR (left) a = left - a := by unfold szR; rw [if_pos h0]
  rw [e0];go_wp2_with fail;refine (J1.out (left - a) (by omega) (by omega)).mono ?_;rintro e w' ⟨rfl, rfl⟩;by_cases h1 : (b : Int) ≤ left - a
  ·
   have e1 : szR (left - a) b = left - a - b := by unfold szR; rw [if_pos h1]
   rw [e1];go_wp2_with fail;refine (J2.out (left - a - b) (by omega) (by omega)).mono ?_;rintro e w7 ⟨rfl, hb2⟩;replace HD := bk HD hb2;replace hB := bl_trans hB hb2;clear g0 g1 g2 q0 q1 q2 q3 qf;obtain ⟨⟨g0, g1, g2⟩, ⟨q0, q1, q2, q3⟩, qf⟩ := cells7 HD;by_cases h2 : (c : Int) ≤ left - a - b
   ·
    have e2 : szR (left - a - b) c = left - a - b - c := by unfold szR; rw [if_pos h2]
    rw [e2];go_wp2_with fail;refine (J3.out w7 (left - a - b - c) (by omega) (by omega)).mono ?_;rintro e w' ⟨rfl, rfl⟩;by_cases h3 : (d : Int) ≤ left - a - b - c
    ·
     have e3 : szR (left - a - b - c) d = left - a - b - c - d := by unfold szR; rw [if_pos h3]
     rw [e3];go_wp2_with fail;go_ret;exact ⟨ret_int (FZ h3).symm, hB⟩
    ·
     have e3 : szR (left - a - b - c) d = -1 := by unfold szR; rw [if_neg h3]
     rw [e3];go_wp2_with fail;go_ret;exact ⟨ret_int (F3 h3).symm, hB⟩
   ·
    have e2 : szR (left - a - b) c = -1 := by unfold szR; rw [if_neg h2]
    rw [e2];go_wp2_with fail;go_ret;exact ⟨ret_int (F2 h2).symm, hB⟩
  ·
   have e1 : szR (left - a) b = -1 := by unfold szR; rw [if_neg h1]
   rw [e1];go_wp2_with fail;go_ret;exact ⟨ret_int (F1 h1).symm, hB⟩
 ·
  have e0 : szR (left) a = -1 := by unfold szR; rw [if_neg h0]
  rw [e0];go_wp2_with fail;go_ret;exact ⟨ret_int (F0 h0).symm, hB⟩
theorem sz_Asy (vr vb vn vs vf : Value) (x : Asy) (left : Int) (w : World) (h : AsyR w w.heap.size vr vb vn vs vf x) (hl : 0 ≤ left) (hl' : left ≤ 1048576) :
  Calls Tryz.prog 7 #[.agg #[vr, vb, vn, vs, vf], .int .i64 left] w fun e w' => e = .returned (.int .i64 (szR left (szAsy x))) ∧ Below w.heap.size w w' := by
 obtain ⟨A0, c0, e0, -, hm0, -⟩ := h.r.open_;replace hm0 : x.rounds.length ≤ maxLen := by have := h.r.1.len_le; rwa [List.length_map] at this
 obtain ⟨A1, c1, e1, -, hm1, -⟩ := h.b.open_;replace hm1 : x.before.length ≤ maxLen := by have := h.b.1.len_le; rwa [List.length_map] at this
 obtain ⟨A2, c2, e2, -, hm2, -⟩ := h.n.open_;replace hm2 : x.now.length ≤ maxLen := by have := h.n.1.len_le; rwa [List.length_map] at this
 obtain ⟨A3, m3, c3, e3⟩ := h.slices.2.2.2.1
 skip
 obtain ⟨A4, m4, c4, e4⟩ := h.slices.2.2.2.2
 skip
 subst e0;subst e1;subst e2;subst e3;subst e4;obtain ⟨w0, hw0, hB, HD, hz0, HS0⟩ := boxS5 w (.slice A0 x.rounds.length c0) (.slice A1 x.before.length c1) (.slice A2 x.now.length c2) (.slice A3 m3 c3) (.slice A4 m4 c4) 32;have HW0 := aA hw0; clear hw0;have H := aA (h.up hB); clear h;obtain ⟨q0, q1, q2, q3, q4, qf⟩ := cellsS5 HD;have J0 := aA (fun (W : World) (l : Int) (h1 : 0 ≤ l) (h2 : l ≤ 1048576) => sz_IntS A0 x.rounds.length c0 l W hm0 h1 h2);have J1 := aA (fun (W : World) (l : Int) (h1 : 0 ≤ l) (h2 : l ≤ 1048576) => sz_IntS A1 x.before.length c1 l W hm1 h1 h2);have J2 := aA (fun (W : World) (l : Int) (h1 : 0 ≤ l) (h2 : l ≤ 1048576) => sz_IntS A2 x.now.length c2 l W hm2 h1 h2);have J3 := aA (fun (l : Int) (h1 : 0 ≤ l) (h2 : l ≤ 1048576) => sz_IntSS _ x.slots l w0 H.out.s h1 h2);have J4 := aA (fun (l : Int) (h1 : 0 ≤ l) (h2 : l ≤ 1048576) => sz_LetSSS _ x.flight l w0 H.out.f h1 h2);have HN : szAsy x = x.rounds.length + x.before.length + x.now.length + szRows x.slots + szEnds3 x.flight := rfl;generalize szAsy x = N at *;generalize x.rounds.length = a at *;generalize x.before.length = b at *;generalize x.now.length = c at *;generalize szRows x.slots = d at *;generalize szEnds3 x.flight = e5 at *;clear H hm0 hm1 hm2;have F0 : ¬ ((a : Int) ≤ left) → szR left N = -1 := fun h => by unfold szR; rw [if_neg (by omega)]
 have F1 : ¬ ((b : Int) ≤ left - a) → szR left N = -1 := fun h => by unfold szR; rw [if_neg (by omega)]
 have F2 : ¬ ((c : Int) ≤ left - a - b) → szR left N = -1 := fun h => by unfold szR; rw [if_neg (by omega)]
 have F3 : ¬ ((d : Int) ≤ left - a - b - c) → szR left N = -1 := fun h => by unfold szR; rw [if_neg (by omega)]
 have F4 : ¬ ((e5 : Int) ≤ left - a - b - c - d) → szR left N = -1 := fun h => by unfold szR; rw [if_neg (by omega)]
 have FZ : (e5 : Int) ≤ left - a - b - c - d → szR left N = left - a - b - c - d - e5 := fun h => by unfold szR; rw [if_pos (by omega)]; omega
 generalize szR left N = R at *;clear HN;go_enter Tryz.func7, Tryz.ntmps7;go_wp2_with fail;rw [← HW0.out];refine (J0.out w0 (left) (by omega) (by omega)).mono ?_;rintro e w' ⟨rfl, rfl⟩;by_cases h0 : (a : Int) ≤ left
 ·
  have e0 : szR (left) a = left - a := by unfold szR; rw [if_pos h0]
  rw [e0];go_wp2_with fail;refine (J1.out w0 (left - a) (by omega) (by omega)).mono ?_;rintro e w' ⟨rfl, rfl⟩;by_cases h1 : (b : Int) ≤ left - a
  ·
   have e1 : szR (left - a) b = left - a - b := by unfold szR; rw [if_pos h1]
   rw [e1];go_wp2_with fail;refine (J2.out w0 (left - a - b) (by omega) (by omega)).mono ?_;rintro e w' ⟨rfl, rfl⟩;by_cases h2 : (c : Int) ≤ left - a - b
   ·
    have e2 : szR (left - a - b) c = left - a - b - c := by unfold szR; rw [if_pos h2]
    rw [e2];go_wp2_with fail;refine (J3.out (left - a - b - c) (by omega) (by omega)).mono ?_;rintro e w' ⟨rfl, rfl⟩;by_cases h3 : (d : Int) ≤ left - a - b - c
    ·
     have e3 : szR (left - a - b - c) d = left - a - b - c - d := by unfold szR; rw [if_pos h3]
     rw [e3];go_wp2_with fail;refine (J4.out (left - a - b - c - d) (by omega) (by omega)).mono ?_;rintro e w' ⟨rfl, rfl⟩;by_cases h4 : (e5 : Int) ≤ left - a - b - c - d
     ·
      have e4 : szR (left - a - b - c - d) e5 = left - a - b - c - d - e5 := by unfold szR; rw [if_pos h4]
      rw [e4];go_wp2_with fail;go_ret;exact ⟨ret_int (FZ h4).symm, hB⟩
     ·
      have e4 : szR (left - a - b - c - d) e5 = -1 := by unfold szR; rw [if_neg h4]
      rw [e4];go_wp2_with fail;go_ret;exact ⟨ret_int (F4 h4).symm, hB⟩
    ·
     have e3 : szR (left - a - b - c) d = -1 := by unfold szR; rw [if_neg h3]
     rw [e3];go_wp2_with fail;go_ret;exact ⟨ret_int (F3 h3).symm, hB⟩
   ·
    have e2 : szR (left - a - b) c = -1 := by unfold szR; rw [if_neg h2]
    rw [e2];go_wp2_with fail;go_ret;exact ⟨ret_int (F2 h2).symm, hB⟩
  ·
   have e1 : szR (left - a) b = -1 := by unfold szR; rw [if_neg h1]
   rw [e1];go_wp2_with fail;go_ret;exact ⟨ret_int (F1 h1).symm, hB⟩
 ·
  have e0 : szR (left) a = -1 := by unfold szR; rw [if_neg h0]
  rw [e0];go_wp2_with fail;go_ret;exact ⟨ret_int (F0 h0).symm, hB⟩
theorem eq_Mach (vs ve vc vo vs' ve' vc' vo' : Value) (m : Mach) (w : World) (h : MachR w w.heap.size vs ve vc vo m) (h' : MachR w w.heap.size vs' ve' vc' vo' m) :
  Calls Tryz.prog 17 #[.agg #[.int .i64 m.deg, .int .i64 m.st, .int .i64 m.msg, vs, ve, vc, vo], .agg #[.int .i64 m.deg, .int .i64 m.st, .int .i64 m.msg, vs', ve', vc', vo']] w fun e w' => e = .returned (.bool true) ∧ Below w.heap.size w w' := by
 obtain ⟨⟨A0, mA0, cA0, rfl⟩, ⟨A1, mA1, cA1, rfl⟩, ⟨A2, mA2, cA2, rfl⟩, A3, mA3, cA3, rfl⟩ := h.slices;obtain ⟨⟨B0, mB0, cB0, rfl⟩, ⟨B1, mB1, cB1, rfl⟩, ⟨B2, mB2, cB2, rfl⟩, B3, mB3, cB3, rfl⟩ := h'.slices;obtain ⟨w0, hw0, hb0, HD0, hz0, HS0⟩ := box7 w (.int .i64 m.deg) (.int .i64 m.st) (.int .i64 m.msg) (.slice A0 mA0 cA0) (.slice A1 mA1 cA1) (.slice A2 mA2 cA2) (.slice A3 mA3 cA3) 46;obtain ⟨w1, hw1, hb1, HD1, hz1, HS1⟩ := box7 w0 (.int .i64 m.deg) (.int .i64 m.st) (.int .i64 m.msg) (.slice B0 mB0 cB0) (.slice B1 mB1 cB1) (.slice B2 mB2 cB2) (.slice B3 mB3 cB3) 46;replace HD0 := bk HD0 hb1;rw [HS0.out] at HD1 hz1;have hB := bl_trans hb0 hb1;have HW0 := aA hw0; clear hw0;have HW1 := aA hw1; clear hw1;have H := aA (h.up hB); clear h;have H' := aA (h'.up hB); clear h';have hz2 : w.heap.size < w1.heap.size := by omega
 clear hb0 hb1;obtain ⟨⟨g0, g1, g2⟩, ⟨q0, q1, q2, q3⟩, qf⟩ := cells7 HD0;obtain ⟨⟨r0, r1, r2⟩, ⟨p0, p1, p2, p3⟩, pf⟩ := cells7 HD1;go_enter Tryz.func17, Tryz.ntmps17;go_wp2_with fail;rw [← HW0.out, ← HW1.out];refine (eq_IntSS _ _ m.start w1 (H.out.s) (H'.out.s)).mono ?_;rintro e w2 ⟨rfl, a0, hw2⟩;have hb2 : Below w1.heap.size w1 w2 := by rw [hw2]; exact bl_drewN (Below.refl _ _) _
 clear hw2;clear g0 g1 g2 q0 q1 q2 q3 qf r0 r1 r2 p0 p1 p2 p3 pf;replace HD0 := bk HD0 hb2;replace HD1 := bk HD1 hb2;replace hB := bl_trans hB hb2;replace H := aA (H.out.up hb2);replace H' := aA (H'.out.up hb2);have hs2 := hb2.size;obtain ⟨⟨g0, g1, g2⟩, ⟨q0, q1, q2, q3⟩, qf⟩ := cells7 HD0;obtain ⟨⟨r0, r1, r2⟩, ⟨p0, p1, p2, p3⟩, pf⟩ := cells7 HD1;go_wp2_with fail;refine (eq_IntSS _ _ m.send w2 (H.out.e) (H'.out.e)).mono ?_;rintro e w3 ⟨rfl, a1, hw3⟩;have hb3 : Below w2.heap.size w2 w3 := by rw [hw3]; exact bl_drewN (Below.refl _ _) _
 clear hw3;clear g0 g1 g2 q0 q1 q2 q3 qf r0 r1 r2 p0 p1 p2 p3 pf;replace HD0 := bk HD0 hb3;replace HD1 := bk HD1 hb3;replace hB := bl_trans hB hb3;replace H := aA (H.out.up hb3);replace H' := aA (H'.out.up hb3);have hs3 := hb3.size;obtain ⟨⟨g0, g1, g2⟩, ⟨q0, q1, q2, q3⟩, qf⟩ := cells7 HD0;obtain ⟨⟨r0, r1, r2⟩, ⟨p0, p1, p2, p3⟩, pf⟩ := cells7 HD1;go_wp2_with fail;refine (eq_ClauseS _ _ m.cls w3 (H.out.c) (H'.out.c)).mono ?_;rintro e w4 ⟨rfl, hb4⟩;clear g0 g1 g2 q0 q1 q2 q3 qf r0 r1 r2 p0 p1 p2 p3 pf;replace HD0 := bk HD0 hb4;replace HD1 := bk HD1 hb4;replace hB := bl_trans hB hb4;replace H := aA (H.out.up hb4);replace H' := aA (H'.out.up hb4);have hs4 := hb4.size;obtain ⟨⟨g0, g1, g2⟩, ⟨q0, q1, q2, q3⟩, qf⟩ := cells7 HD0;obtain ⟨⟨r0, r1, r2⟩, ⟨p0, p1, p2, p3⟩, pf⟩ := cells7 HD1;go_wp2_with fail;refine (eq_IntS _ _ m.out w4 (H.out.o) (H'.out.o)).mono ?_;rintro e w5 ⟨rfl, a3, hw5⟩;have hb5 : Below w4.heap.size w4 w5 := by rw [hw5]; exact bl_drewN (Below.refl _ _) _
 clear hw5;clear g0 g1 g2 q0 q1 q2 q3 qf r0 r1 r2 p0 p1 p2 p3 pf;replace HD0 := bk HD0 hb5;replace HD1 := bk HD1 hb5;replace hB := bl_trans hB hb5;replace H := aA (H.out.up hb5);replace H' := aA (H'.out.up hb5);have hs5 := hb5.size;obtain ⟨⟨g0, g1, g2⟩, ⟨q0, q1, q2, q3⟩, qf⟩ := cells7 HD0;obtain ⟨⟨r0, r1, r2⟩, ⟨p0, p1, p2, p3⟩, pf⟩ := cells7 HD1;go_wp2_with fail;go_ret;exact ⟨rfl, hB⟩
theorem eq_Asy (vr vb vn vs vf vr' vb' vn' vs' vf' : Value) (x : Asy) (w : World) (h : AsyR w w.heap.size vr vb vn vs vf x) (h' : AsyR w w.heap.size vr' vb' vn' vs' vf' x) :
  Calls Tryz.prog 15 #[.agg #[vr, vb, vn, vs, vf], .agg #[vr', vb', vn', vs', vf']] w fun e w' => e = .returned (.bool true) ∧ Below w.heap.size w w' := by
 obtain ⟨⟨A0, mA0, cA0, rfl⟩, ⟨A1, mA1, cA1, rfl⟩, ⟨A2, mA2, cA2, rfl⟩, ⟨A3, mA3, cA3, rfl⟩, A4, mA4, cA4, rfl⟩ := h.slices;obtain ⟨⟨B0, mB0, cB0, rfl⟩, ⟨B1, mB1, cB1, rfl⟩, ⟨B2, mB2, cB2, rfl⟩, ⟨B3, mB3, cB3, rfl⟩, B4, mB4, cB4, rfl⟩ := h'.slices;obtain ⟨w0, hw0, hb0, HD0, hz0, HS0⟩ := boxS5 w (.slice A0 mA0 cA0) (.slice A1 mA1 cA1) (.slice A2 mA2 cA2) (.slice A3 mA3 cA3) (.slice A4 mA4 cA4) 40;obtain ⟨w1, hw1, hb1, HD1, hz1, HS1⟩ := boxS5 w0 (.slice B0 mB0 cB0) (.slice B1 mB1 cB1) (.slice B2 mB2 cB2) (.slice B3 mB3 cB3) (.slice B4 mB4 cB4) 40;replace HD0 := bk HD0 hb1;rw [HS0.out] at HD1 hz1;have hB := bl_trans hb0 hb1;have HW0 := aA hw0; clear hw0;have HW1 := aA hw1; clear hw1;have H := aA (h.up hB); clear h;have H' := aA (h'.up hB); clear h';have hz2 : w.heap.size < w1.heap.size := by omega
 clear hb0 hb1;obtain ⟨q0, q1, q2, q3, q4, qf⟩ := cellsS5 HD0;obtain ⟨p0, p1, p2, p3, p4, pf⟩ := cellsS5 HD1;go_enter Tryz.func15, Tryz.ntmps15;go_wp2_with fail;rw [← HW0.out, ← HW1.out];refine (eq_IntS _ _ x.rounds w1 (H.out.r) (H'.out.r)).mono ?_;rintro e w2 ⟨rfl, a0, hw2⟩;have hb2 : Below w1.heap.size w1 w2 := by rw [hw2]; exact bl_drewN (Below.refl _ _) _
 clear hw2;clear q0 q1 q2 q3 q4 qf p0 p1 p2 p3 p4 pf;replace HD0 := bk HD0 hb2;replace HD1 := bk HD1 hb2;replace hB := bl_trans hB hb2;replace H := aA (H.out.up hb2);replace H' := aA (H'.out.up hb2);have hs2 := hb2.size;obtain ⟨q0, q1, q2, q3, q4, qf⟩ := cellsS5 HD0;obtain ⟨p0, p1, p2, p3, p4, pf⟩ := cellsS5 HD1;go_wp2_with fail;refine (eq_IntS _ _ x.before w2 (H.out.b) (H'.out.b)).mono ?_;rintro e w3 ⟨rfl, a1, hw3⟩;have hb3 : Below w2.heap.size w2 w3 := by rw [hw3]; exact bl_drewN (Below.refl _ _) _
 clear hw3;clear q0 q1 q2 q3 q4 qf p0 p1 p2 p3 p4 pf;replace HD0 := bk HD0 hb3;replace HD1 := bk HD1 hb3;replace hB := bl_trans hB hb3;replace H := aA (H.out.up hb3);replace H' := aA (H'.out.up hb3);have hs3 := hb3.size;obtain ⟨q0, q1, q2, q3, q4, qf⟩ := cellsS5 HD0;obtain ⟨p0, p1, p2, p3, p4, pf⟩ := cellsS5 HD1;go_wp2_with fail;refine (eq_IntS _ _ x.now w3 (H.out.n) (H'.out.n)).mono ?_;rintro e w4 ⟨rfl, a2, hw4⟩;have hb4 : Below w3.heap.size w3 w4 := by rw [hw4]; exact bl_drewN (Below.refl _ _) _
 clear hw4;clear q0 q1 q2 q3 q4 qf p0 p1 p2 p3 p4 pf;replace HD0 := bk HD0 hb4;replace HD1 := bk HD1 hb4;replace hB := bl_trans hB hb4;replace H := aA (H.out.up hb4);replace H' := aA (H'.out.up hb4);have hs4 := hb4.size;obtain ⟨q0, q1, q2, q3, q4, qf⟩ := cellsS5 HD0;obtain ⟨p0, p1, p2, p3, p4, pf⟩ := cellsS5 HD1;go_wp2_with fail;refine (eq_IntSS _ _ x.slots w4 (H.out.s) (H'.out.s)).mono ?_;rintro e w5 ⟨rfl, a3, hw5⟩;have hb5 : Below w4.heap.size w4 w5 := by rw [hw5]; exact bl_drewN (Below.refl _ _) _
 clear hw5;clear q0 q1 q2 q3 q4 qf p0 p1 p2 p3 p4 pf;replace HD0 := bk HD0 hb5;replace HD1 := bk HD1 hb5;replace hB := bl_trans hB hb5;replace H := aA (H.out.up hb5);replace H' := aA (H'.out.up hb5);have hs5 := hb5.size;obtain ⟨q0, q1, q2, q3, q4, qf⟩ := cellsS5 HD0;obtain ⟨p0, p1, p2, p3, p4, pf⟩ := cellsS5 HD1;go_wp2_with fail;refine (eq_LetSSS _ _ x.flight w5 (H.out.f) (H'.out.f)).mono ?_;rintro e w6 ⟨rfl, hb6⟩;clear q0 q1 q2 q3 q4 qf p0 p1 p2 p3 p4 pf;replace HD0 := bk HD0 hb6;replace HD1 := bk HD1 hb6;replace hB := bl_trans hB hb6;replace H := aA (H.out.up hb6);replace H' := aA (H'.out.up hb6);have hs6 := hb6.size;obtain ⟨q0, q1, q2, q3, q4, qf⟩ := cellsS5 HD0;obtain ⟨p0, p1, p2, p3, p4, pf⟩ := cellsS5 HD1;go_wp2_with fail;go_ret;exact ⟨rfl, hB⟩
end
section
open Go.RowKit
set_option linter.all false
def IntsO (B : Nat) (w : World) (v : Value) (xs : List Int) : Prop := ∃ g, v = .slice (some ⟨g, 0, none⟩) xs.length xs.length ∧ B ≤ g ∧ w.heap[g]? = some (.cells (xs.map intV).toArray 3 (0, 0))
def RowsO (B : Nat) (w : World) (v : Value) (xss : List (List Int)) : Prop := ∃ bs, OwnRows w 24 3 v xss bs ∧ ∀ b ∈ bs, B ≤ b ∧ b < w.heap.size
structure MachO (B : Nat) (w : World) (vs ve vc vo : Value) (m : Mach) : Prop where
  s : RowsO B w vs m.start
  e : RowsO B w ve m.send
  c : ∃ g, vc = .slice (some ⟨g, 0, none⟩) m.cls.length m.cls.length ∧ B ≤ g ∧ ClsOwn w g m.cls
  o : IntsO B w vo m.out
structure AsyO (B : Nat) (w : World) (vr vb vn vs vf : Value) (x : Asy) : Prop where
  r : IntsO B w vr x.rounds
  b : IntsO B w vb x.before
  n : IntsO B w vn x.now
  s : RowsO B w vs x.slots
  f : Ends3R w (Fr B w) vf x.flight
set_option maxHeartbeats 1000000 in
theorem to_AsyW (vr vb vn vs vf : Value) (x : Asy) (w : World) (h : AsyR w w.heap.size vr vb vn vs vf x) (hz : szAsy x ≤ 1048576) :
  Calls Tryz.prog 12 #[.agg #[vr, vb, vn, vs, vf]] w fun e w' => ∃ vr' vb' vn' vs' vf', e = .returned (.agg #[vr', vb', vn', vs', vf']) ∧ AsyR w' w'.heap.size vr' vb' vn' vs' vf' x ∧ Below w.heap.size w w' ∧ AsyO (w.heap.size + 1) w' vr' vb' vn' vs' vf' x := by
 obtain ⟨⟨A0, m0, c0, rfl⟩, ⟨A1, m1, c1, rfl⟩, ⟨A2, m2, c2, rfl⟩, ⟨A3, m3, c3, rfl⟩, A4, m4, c4, rfl⟩ := h.slices;have HZ := aA (show x.rounds.length ≤ 1048576 ∧ x.before.length ≤ 1048576 ∧ x.now.length ≤ 1048576 ∧ szRows x.slots ≤ 1048576 ∧ szEnds3 x.flight ≤ 1048576 by unfold szAsy at hz; omega);clear hz;obtain ⟨w0, hw0, hb0, HD0, hz0, HS0⟩ := boxS5 w (.slice A0 m0 c0) (.slice A1 m1 c1) (.slice A2 m2 c2) (.slice A3 m3 c3) (.slice A4 m4 c4) 32;obtain ⟨w1, hw1, hb1, HD1, hz1, HS1⟩ := boxS5 w0 (.slice none 0 0) (.slice none 0 0) (.slice none 0 0) (.slice none 0 0) (.slice none 0 0) 40;obtain ⟨w2, hw2, hb2, HD2, hz2, HS2⟩ := boxS5 w1 (.slice none 0 0) (.slice none 0 0) (.slice none 0 0) (.slice none 0 0) (.slice none 0 0) 40;have hs1 : w0.heap.size = w.heap.size + 1 := HS0.out;have hs2 : w1.heap.size = w.heap.size + 1 + 1 := by rw [HS1.out, hs1]
 rw [hs1] at HD1 hz1;rw [hs2] at HD2 hz2;replace HD0 := bk (bk HD0 hb1) hb2;replace HD1 := bk HD1 hb2;have hB := bl_trans (bl_trans hb0 hb1) hb2;have HS3 := aA (show w2.heap.size = w.heap.size + 1 + 1 + 1 by rw [HS2.out, hs2]);clear hs1 hs2 hb0 hb1 hb2;have HN := aA h; clear h;obtain ⟨q0, q1, q2, q3, q4, qf⟩ := cellsS5 HD0;have s1 := q0;rw [hw2, hw1, hw0] at s1;have HW0 := aA hw0; clear hw0;have HW1 := aA hw1; clear hw1;have HW2 := aA hw2; clear hw2;obtain ⟨lo, hlo⟩ : ∃ z, z = w2.heap.size := ⟨_, rfl⟩
 have hlo2 : lo ≤ w2.heap.size := by omega
 have hlo3 : w.heap.size + 1 + 1 < lo := by have := HS3.out; omega
 clear hlo;go_enter Tryz.func12, Tryz.ntmps12;go_wp2_with fail;rw [← HW0.out, ← HW1.out, ← HW2.out];clear s1;refine (to_IntS _ x.rounds w2 (HN.out.up hB).r HZ.out.1).mono ?_;rintro e w3 ⟨rfl, hx0⟩;have hc0 : Below w2.heap.size w2 w3 := by rw [hx0]; exact bl_alloc (Below.refl _ _) _
 obtain ⟨g0, hg0⟩ : ∃ z, z = w2.heap.size := ⟨_, rfl⟩
 rw [← hg0];have K0 := aA (show w3.heap[g0]? = some (.cells (x.rounds.map intV).toArray 3 (0, 0)) by rw [hx0, hg0]; exact heap_alloc_new w2 _);have hl0 : lo ≤ g0 := by omega
 have hm0 : g0 < w3.heap.size := by rw [hx0, hg0]; simp
 clear hx0 hg0;have hzc0 := hc0.size;clear q0 q1 q2 q3 q4 qf;replace HD0 := bk HD0 hc0;replace HD1 := bk HD1 hc0;replace HD2 := bk HD2 hc0;have hB0 := bl_trans hB hc0;clear hB hc0;obtain ⟨q0, q1, q2, q3, q4, qf⟩ := cellsS5 HD0;obtain ⟨p0, p1, p2, p3, p4, pf⟩ := cellsS5 HD2;obtain ⟨x0, hX0⟩ : ∃ z, z = w3.setCell ⟨w.heap.size + 1 + 1, 0, none⟩ (.slice (some ⟨g0, 0, none⟩) x.rounds.length x.rounds.length) := ⟨_, rfl⟩
 have HX0 := aA hX0;obtain ⟨hB, hO0, HY0, hZ0, hT0⟩ := setB hB0 (by omega) HD2.out hX0;clear hX0 hB0;go_wp2_with fail;rw [← HX0.out];replace K0 := aA ((hO0 g0 (by omega)).trans K0.out);replace HD0 := aA ((hO0 _ (by omega)).trans HD0.out);replace HD1 := aA ((hO0 _ (by omega)).trans HD1.out);clear HD2;have HD2 := aA (show x0.heap[w.heap.size + 1 + 1]? = some (.cells #[.slice (some ⟨g0, 0, none⟩) x.rounds.length x.rounds.length, .slice none 0 0, .slice none 0 0, .slice none 0 0, .slice none 0 0] 40 (0, 0)) from HY0.out);clear HY0 hO0;clear q0 q1 q2 q3 q4 qf p0 p1 p2 p3 p4 pf;obtain ⟨q0, q1, q2, q3, q4, qf⟩ := cellsS5 HD0;obtain ⟨p0, p1, p2, p3, p4, pf⟩ := cellsS5 HD2;refine (to_IntS _ x.before x0 (HN.out.up hB).b HZ.out.2.1).mono ?_;rintro e w4 ⟨rfl, hx1⟩;have hc1 : Below x0.heap.size x0 w4 := by rw [hx1]; exact bl_alloc (Below.refl _ _) _
 obtain ⟨g1, hg1⟩ : ∃ z, z = x0.heap.size := ⟨_, rfl⟩
 rw [← hg1];have K1 := aA (show w4.heap[g1]? = some (.cells (x.before.map intV).toArray 3 (0, 0)) by rw [hx1, hg1]; exact heap_alloc_new x0 _);have hl1 : lo ≤ g1 := by omega
 have hm1 : g1 < w4.heap.size := by rw [hx1, hg1]; simp
 clear hx1 hg1;have hzc1 := hc1.size;replace K0 := aA ((hc1.block g0 (by omega)).trans K0.out);clear q0 q1 q2 q3 q4 qf p0 p1 p2 p3 p4 pf;replace HD0 := bk HD0 hc1;replace HD1 := bk HD1 hc1;replace HD2 := bk HD2 hc1;have hB1 := bl_trans hB hc1;clear hB hc1;obtain ⟨q0, q1, q2, q3, q4, qf⟩ := cellsS5 HD0;obtain ⟨p0, p1, p2, p3, p4, pf⟩ := cellsS5 HD2;obtain ⟨x1, hX1⟩ : ∃ z, z = w4.setCell ⟨w.heap.size + 1 + 1, 1, none⟩ (.slice (some ⟨g1, 0, none⟩) x.before.length x.before.length) := ⟨_, rfl⟩
 have HX1 := aA hX1;obtain ⟨hB, hO1, HY1, hZ1, hT1⟩ := setB hB1 (by omega) HD2.out hX1;clear hX1 hB1;go_wp2_with fail;rw [← HX1.out];replace K0 := aA ((hO1 g0 (by omega)).trans K0.out);replace K1 := aA ((hO1 g1 (by omega)).trans K1.out);replace HD0 := aA ((hO1 _ (by omega)).trans HD0.out);replace HD1 := aA ((hO1 _ (by omega)).trans HD1.out);clear HD2;have HD2 := aA (show x1.heap[w.heap.size + 1 + 1]? = some (.cells #[.slice (some ⟨g0, 0, none⟩) x.rounds.length x.rounds.length, .slice (some ⟨g1, 0, none⟩) x.before.length x.before.length, .slice none 0 0, .slice none 0 0, .slice none 0 0] 40 (0, 0)) from HY1.out);clear HY1 hO1;clear q0 q1 q2 q3 q4 qf p0 p1 p2 p3 p4 pf;obtain ⟨q0, q1, q2, q3, q4, qf⟩ := cellsS5 HD0;obtain ⟨p0, p1, p2, p3, p4, pf⟩ := cellsS5 HD2;refine (to_IntS _ x.now x1 (HN.out.up hB).n HZ.out.2.2.1).mono ?_;rintro e w5 ⟨rfl, hx2⟩;have hc2 : Below x1.heap.size x1 w5 := by rw [hx2]; exact bl_alloc (Below.refl _ _) _
 obtain ⟨g2, hg2⟩ : ∃ z, z = x1.heap.size := ⟨_, rfl⟩
 rw [← hg2];have K2 := aA (show w5.heap[g2]? = some (.cells (x.now.map intV).toArray 3 (0, 0)) by rw [hx2, hg2]; exact heap_alloc_new x1 _);have hl2 : lo ≤ g2 := by omega
 have hm2 : g2 < w5.heap.size := by rw [hx2, hg2]; simp
 clear hx2 hg2;have hzc2 := hc2.size;replace K0 := aA ((hc2.block g0 (by omega)).trans K0.out);replace K1 := aA ((hc2.block g1 (by omega)).trans K1.out);clear q0 q1 q2 q3 q4 qf p0 p1 p2 p3 p4 pf;replace HD0 := bk HD0 hc2;replace HD1 := bk HD1 hc2;replace HD2 := bk HD2 hc2;have hB2 := bl_trans hB hc2;clear hB hc2;obtain ⟨q0, q1, q2, q3, q4, qf⟩ := cellsS5 HD0;obtain ⟨p0, p1, p2, p3, p4, pf⟩ := cellsS5 HD2;obtain ⟨x2, hX2⟩ : ∃ z, z = w5.setCell ⟨w.heap.size + 1 + 1, 2, none⟩ (.slice (some ⟨g2, 0, none⟩) x.now.length x.now.length) := ⟨_, rfl⟩
 have HX2 := aA hX2;obtain ⟨hB, hO2, HY2, hZ2, hT2⟩ := setB hB2 (by omega) HD2.out hX2;clear hX2 hB2;go_wp2_with fail;rw [← HX2.out];replace K0 := aA ((hO2 g0 (by omega)).trans K0.out);replace K1 := aA ((hO2 g1 (by omega)).trans K1.out);replace K2 := aA ((hO2 g2 (by omega)).trans K2.out);replace HD0 := aA ((hO2 _ (by omega)).trans HD0.out);replace HD1 := aA ((hO2 _ (by omega)).trans HD1.out);clear HD2;have HD2 := aA (show x2.heap[w.heap.size + 1 + 1]? = some (.cells #[.slice (some ⟨g0, 0, none⟩) x.rounds.length x.rounds.length, .slice (some ⟨g1, 0, none⟩) x.before.length x.before.length, .slice (some ⟨g2, 0, none⟩) x.now.length x.now.length, .slice none 0 0, .slice none 0 0] 40 (0, 0)) from HY2.out);clear HY2 hO2;clear q0 q1 q2 q3 q4 qf p0 p1 p2 p3 p4 pf;obtain ⟨q0, q1, q2, q3, q4, qf⟩ := cellsS5 HD0;obtain ⟨p0, p1, p2, p3, p4, pf⟩ := cellsS5 HD2;refine (to_IntSS _ x.slots x2 (HN.out.up hB).s HZ.out.2.2.2.1).mono ?_;rintro e w6 ⟨v3, bs3, rfl, ho3, -, hbs3, hc3⟩;obtain ⟨B3, n3, d3, rfl⟩ := ho3.isSlice;have K3 := aA ho3; clear ho3;have KB3 := aA (show ∀ b ∈ bs3, lo ≤ b ∧ b < w6.heap.size from fun b hb => by have := hbs3 b hb; omega); clear hbs3;have hzc3 := hc3.size;replace K0 := aA ((hc3.block g0 (by omega)).trans K0.out);replace K1 := aA ((hc3.block g1 (by omega)).trans K1.out);replace K2 := aA ((hc3.block g2 (by omega)).trans K2.out);clear q0 q1 q2 q3 q4 qf p0 p1 p2 p3 p4 pf;replace HD0 := bk HD0 hc3;replace HD1 := bk HD1 hc3;replace HD2 := bk HD2 hc3;have hB3 := bl_trans hB hc3;clear hB hc3;obtain ⟨q0, q1, q2, q3, q4, qf⟩ := cellsS5 HD0;obtain ⟨p0, p1, p2, p3, p4, pf⟩ := cellsS5 HD2;obtain ⟨x3, hX3⟩ : ∃ z, z = w6.setCell ⟨w.heap.size + 1 + 1, 3, none⟩ (.slice B3 n3 d3) := ⟨_, rfl⟩
 have HX3 := aA hX3;obtain ⟨hB, hO3, HY3, hZ3, hT3⟩ := setB hB3 (by omega) HD2.out hX3;clear hX3 hB3;go_wp2_with fail;rw [← HX3.out];replace K0 := aA ((hO3 g0 (by omega)).trans K0.out);replace K1 := aA ((hO3 g1 (by omega)).trans K1.out);replace K2 := aA ((hO3 g2 (by omega)).trans K2.out);obtain ⟨K3, KB3⟩ : Hid (OwnRows x3 24 3 (.slice B3 n3 d3) x.slots bs3) ∧ Hid (∀ b ∈ bs3, lo ≤ b ∧ b < x3.heap.size) := ⟨aA (K3.out.keep fun b hb => hO3 b (by have := KB3.out b hb; omega)), aA fun b hb => by have := KB3.out b hb; omega⟩
 replace HD0 := aA ((hO3 _ (by omega)).trans HD0.out);replace HD1 := aA ((hO3 _ (by omega)).trans HD1.out);clear HD2;have HD2 := aA (show x3.heap[w.heap.size + 1 + 1]? = some (.cells #[.slice (some ⟨g0, 0, none⟩) x.rounds.length x.rounds.length, .slice (some ⟨g1, 0, none⟩) x.before.length x.before.length, .slice (some ⟨g2, 0, none⟩) x.now.length x.now.length, .slice B3 n3 d3, .slice none 0 0] 40 (0, 0)) from HY3.out);clear HY3 hO3;clear q0 q1 q2 q3 q4 qf p0 p1 p2 p3 p4 pf;obtain ⟨q0, q1, q2, q3, q4, qf⟩ := cellsS5 HD0;obtain ⟨p0, p1, p2, p3, p4, pf⟩ := cellsS5 HD2;refine (to_LetSSS _ x.flight x3 (HN.out.up hB).f HZ.out.2.2.2.2).mono ?_;rintro e w7 ⟨v4, rfl, ho4, hc4⟩;obtain ⟨B4, n4, d4, rfl⟩ := ho4.isSlice;have K4 := aA (ho4.keep (w' := w7) (S' := Fr lo w7) (fun b hb => hb.up (by omega) (Nat.le_refl _) rfl) fun _ _ => rfl); clear ho4;have hzc4 := hc4.size;replace K0 := aA ((hc4.block g0 (by omega)).trans K0.out);replace K1 := aA ((hc4.block g1 (by omega)).trans K1.out);replace K2 := aA ((hc4.block g2 (by omega)).trans K2.out);obtain ⟨K3, KB3⟩ : Hid (OwnRows w7 24 3 (.slice B3 n3 d3) x.slots bs3) ∧ Hid (∀ b ∈ bs3, lo ≤ b ∧ b < w7.heap.size) := ⟨aA (K3.out.keep fun b hb => hc4.block b (by have := KB3.out b hb; omega)), aA fun b hb => by have := KB3.out b hb; omega⟩
 clear q0 q1 q2 q3 q4 qf p0 p1 p2 p3 p4 pf;replace HD0 := bk HD0 hc4;replace HD1 := bk HD1 hc4;replace HD2 := bk HD2 hc4;have hB4 := bl_trans hB hc4;clear hB hc4;obtain ⟨q0, q1, q2, q3, q4, qf⟩ := cellsS5 HD0;obtain ⟨p0, p1, p2, p3, p4, pf⟩ := cellsS5 HD2;obtain ⟨x4, hX4⟩ : ∃ z, z = w7.setCell ⟨w.heap.size + 1 + 1, 4, none⟩ (.slice B4 n4 d4) := ⟨_, rfl⟩
 have HX4 := aA hX4;obtain ⟨hB, hO4, HY4, hZ4, hT4⟩ := setB hB4 (by omega) HD2.out hX4;clear hX4 hB4;obtain ⟨r0, r1, r2, r3, r4, rf⟩ := cellsS5 HD1;go_wp2_with fail;rw [← HX4.out];replace K0 := aA ((hO4 g0 (by omega)).trans K0.out);replace K1 := aA ((hO4 g1 (by omega)).trans K1.out);replace K2 := aA ((hO4 g2 (by omega)).trans K2.out);obtain ⟨K3, KB3⟩ : Hid (OwnRows x4 24 3 (.slice B3 n3 d3) x.slots bs3) ∧ Hid (∀ b ∈ bs3, lo ≤ b ∧ b < x4.heap.size) := ⟨aA (K3.out.keep fun b hb => hO4 b (by have := KB3.out b hb; omega)), aA fun b hb => by have := KB3.out b hb; omega⟩
 replace K4 := aA (K4.out.keep (w' := x4) (S' := Fr lo x4) (fun b hb => hb.up (Nat.le_refl _) (by omega) (hO4 b (by have := hb.1; omega))) fun b hb => hO4 b (by have := hb.1; omega));replace HD0 := aA ((hO4 _ (by omega)).trans HD0.out);replace HD1 := aA ((hO4 _ (by omega)).trans HD1.out);clear HD2;have HD2 := aA (show x4.heap[w.heap.size + 1 + 1]? = some (.cells #[.slice (some ⟨g0, 0, none⟩) x.rounds.length x.rounds.length, .slice (some ⟨g1, 0, none⟩) x.before.length x.before.length, .slice (some ⟨g2, 0, none⟩) x.now.length x.now.length, .slice B3 n3 d3, .slice B4 n4 d4] 40 (0, 0)) from HY4.out);clear HY4 hO4;obtain ⟨y0, hy0⟩ : ∃ z, z = x4.setCell ⟨w.heap.size + 1, 0, none⟩ (.slice (some ⟨g0, 0, none⟩) x.rounds.length x.rounds.length) := ⟨_, rfl⟩
 rw [← hy0];obtain ⟨hBy0, hOy0, HYy0, hZy0, hTy0⟩ := setB hB (by omega) HD1.out hy0;clear hy0;replace K0 := aA ((hOy0 g0 (by omega)).trans K0.out);replace K1 := aA ((hOy0 g1 (by omega)).trans K1.out);replace K2 := aA ((hOy0 g2 (by omega)).trans K2.out);obtain ⟨K3, KB3⟩ : Hid (OwnRows y0 24 3 (.slice B3 n3 d3) x.slots bs3) ∧ Hid (∀ b ∈ bs3, lo ≤ b ∧ b < y0.heap.size) := ⟨aA (K3.out.keep fun b hb => hOy0 b (by have := KB3.out b hb; omega)), aA fun b hb => by have := KB3.out b hb; omega⟩
 replace K4 := aA (K4.out.keep (w' := y0) (S' := Fr lo y0) (fun b hb => hb.up (Nat.le_refl _) (by omega) (hOy0 b (by have := hb.1; omega))) fun b hb => hOy0 b (by have := hb.1; omega));clear hOy0;obtain ⟨y1, hy1⟩ : ∃ z, z = y0.setCell ⟨w.heap.size + 1, 1, none⟩ (.slice (some ⟨g1, 0, none⟩) x.before.length x.before.length) := ⟨_, rfl⟩
 rw [← hy1];obtain ⟨hBy1, hOy1, HYy1, hZy1, hTy1⟩ := setB hBy0 (by omega) HYy0.out hy1;clear hy1;replace K0 := aA ((hOy1 g0 (by omega)).trans K0.out);replace K1 := aA ((hOy1 g1 (by omega)).trans K1.out);replace K2 := aA ((hOy1 g2 (by omega)).trans K2.out);obtain ⟨K3, KB3⟩ : Hid (OwnRows y1 24 3 (.slice B3 n3 d3) x.slots bs3) ∧ Hid (∀ b ∈ bs3, lo ≤ b ∧ b < y1.heap.size) := ⟨aA (K3.out.keep fun b hb => hOy1 b (by have := KB3.out b hb; omega)), aA fun b hb => by have := KB3.out b hb; omega⟩
 replace K4 := aA (K4.out.keep (w' := y1) (S' := Fr lo y1) (fun b hb => hb.up (Nat.le_refl _) (by omega) (hOy1 b (by have := hb.1; omega))) fun b hb => hOy1 b (by have := hb.1; omega));clear hOy1;obtain ⟨y2, hy2⟩ : ∃ z, z = y1.setCell ⟨w.heap.size + 1, 2, none⟩ (.slice (some ⟨g2, 0, none⟩) x.now.length x.now.length) := ⟨_, rfl⟩
 rw [← hy2];obtain ⟨hBy2, hOy2, HYy2, hZy2, hTy2⟩ := setB hBy1 (by omega) HYy1.out hy2;clear hy2;replace K0 := aA ((hOy2 g0 (by omega)).trans K0.out);replace K1 := aA ((hOy2 g1 (by omega)).trans K1.out);replace K2 := aA ((hOy2 g2 (by omega)).trans K2.out);obtain ⟨K3, KB3⟩ : Hid (OwnRows y2 24 3 (.slice B3 n3 d3) x.slots bs3) ∧ Hid (∀ b ∈ bs3, lo ≤ b ∧ b < y2.heap.size) := ⟨aA (K3.out.keep fun b hb => hOy2 b (by have := KB3.out b hb; omega)), aA fun b hb => by have := KB3.out b hb; omega⟩
 replace K4 := aA (K4.out.keep (w' := y2) (S' := Fr lo y2) (fun b hb => hb.up (Nat.le_refl _) (by omega) (hOy2 b (by have := hb.1; omega))) fun b hb => hOy2 b (by have := hb.1; omega));clear hOy2;obtain ⟨y3, hy3⟩ : ∃ z, z = y2.setCell ⟨w.heap.size + 1, 3, none⟩ (.slice B3 n3 d3) := ⟨_, rfl⟩
 rw [← hy3];obtain ⟨hBy3, hOy3, HYy3, hZy3, hTy3⟩ := setB hBy2 (by omega) HYy2.out hy3;clear hy3;replace K0 := aA ((hOy3 g0 (by omega)).trans K0.out);replace K1 := aA ((hOy3 g1 (by omega)).trans K1.out);replace K2 := aA ((hOy3 g2 (by omega)).trans K2.out);obtain ⟨K3, KB3⟩ : Hid (OwnRows y3 24 3 (.slice B3 n3 d3) x.slots bs3) ∧ Hid (∀ b ∈ bs3, lo ≤ b ∧ b < y3.heap.size) := ⟨aA (K3.out.keep fun b hb => hOy3 b (by have := KB3.out b hb; omega)), aA fun b hb => by have := KB3.out b hb; omega⟩
 replace K4 := aA (K4.out.keep (w' := y3) (S' := Fr lo y3) (fun b hb => hb.up (Nat.le_refl _) (by omega) (hOy3 b (by have := hb.1; omega))) fun b hb => hOy3 b (by have := hb.1; omega));clear hOy3;obtain ⟨y4, hy4⟩ : ∃ z, z = y3.setCell ⟨w.heap.size + 1, 4, none⟩ (.slice B4 n4 d4) := ⟨_, rfl⟩
 rw [← hy4];obtain ⟨hBy4, hOy4, HYy4, hZy4, hTy4⟩ := setB hBy3 (by omega) HYy3.out hy4;clear hy4;replace K0 := aA ((hOy4 g0 (by omega)).trans K0.out);replace K1 := aA ((hOy4 g1 (by omega)).trans K1.out);replace K2 := aA ((hOy4 g2 (by omega)).trans K2.out);obtain ⟨K3, KB3⟩ : Hid (OwnRows y4 24 3 (.slice B3 n3 d3) x.slots bs3) ∧ Hid (∀ b ∈ bs3, lo ≤ b ∧ b < y4.heap.size) := ⟨aA (K3.out.keep fun b hb => hOy4 b (by have := KB3.out b hb; omega)), aA fun b hb => by have := KB3.out b hb; omega⟩
 replace K4 := aA (K4.out.keep (w' := y4) (S' := Fr lo y4) (fun b hb => hb.up (Nat.le_refl _) (by omega) (hOy4 b (by have := hb.1; omega))) fun b hb => hOy4 b (by have := hb.1; omega));clear hOy4;have HF := aA (show y4.heap[w.heap.size + 1]? = some (.cells #[.slice (some ⟨g0, 0, none⟩) x.rounds.length x.rounds.length, .slice (some ⟨g1, 0, none⟩) x.before.length x.before.length, .slice (some ⟨g2, 0, none⟩) x.now.length x.now.length, .slice B3 n3 d3, .slice B4 n4 d4] 40 (0, 0)) from HYy4.out);clear q0 q1 q2 q3 q4 qf p0 p1 p2 p3 p4 pf r0 r1 r2 r3 r4 rf;obtain ⟨s0, s1, s2, s3, s4, sf⟩ := cellsS5 HF;refine bodyPost_ret (v := .agg #[.slice (some ⟨g0, 0, none⟩) x.rounds.length x.rounds.length, .slice (some ⟨g1, 0, none⟩) x.before.length x.before.length, .slice (some ⟨g2, 0, none⟩) x.now.length x.now.length, .slice B3 n3 d3, .slice B4 n4 d4]) (by simp [results, Tryz.results12, go_sem, s0, s1, s2, s3, s4]) rfl ?_;exact ⟨_, _, _, _, _, rfl, ⟨ints_row K0.out (by have := HZ.out.1; unfold maxLen; omega) HN.out.r.2 (Array.getElem?_eq_some_iff.1 K0.out).1, ints_row K1.out (by have := HZ.out.2.1; unfold maxLen; omega) HN.out.b.2 (Array.getElem?_eq_some_iff.1 K1.out).1, ints_row K2.out (by have := HZ.out.2.2.1; unfold maxLen; omega) HN.out.n.2 (Array.getElem?_eq_some_iff.1 K2.out).1, K3.out.reads fun b hb => (KB3.out b hb).2, K4.out.keep (fun b hb => hb.2.1) fun _ _ => rfl⟩, hBy4, ⟨⟨_, rfl, by omega, K0.out⟩, ⟨_, rfl, by omega, K1.out⟩, ⟨_, rfl, by omega, K2.out⟩, ⟨_, K3.out, fun b hb => by have := KB3.out b hb; omega⟩, K4.out.keep (fun b hb => hb.up (by omega) (Nat.le_refl _) rfl) fun _ _ => rfl⟩⟩
theorem to_Asy (vr vb vn vs vf : Value) (x : Asy) (w : World) (h : AsyR w w.heap.size vr vb vn vs vf x) (hz : szAsy x ≤ 1048576) :
    Calls Tryz.prog 12 #[.agg #[vr, vb, vn, vs, vf]] w fun e w' => ∃ vr' vb' vn' vs' vf', e = .returned (.agg #[vr', vb', vn', vs', vf']) ∧ AsyR w' w'.heap.size vr' vb' vn' vs' vf' x ∧ Below w.heap.size w w' :=
  (to_AsyW vr vb vn vs vf x w h hz).mono fun _ _ ⟨a0, a1, a2, a3, a4, h1, h2, h3, _⟩ => ⟨a0, a1, a2, a3, a4, h1, h2, h3⟩
set_option maxHeartbeats 1000000 in
theorem to_MachW (vs ve vc vo : Value) (m : Mach) (w : World) (h : MachR w w.heap.size vs ve vc vo m) (hz : szMach m ≤ 1048576) :
  Calls Tryz.prog 10 #[.agg #[.int .i64 m.deg, .int .i64 m.st, .int .i64 m.msg, vs, ve, vc, vo]] w fun e w' => ∃ vs' ve' vc' vo', e = .returned (.agg #[.int .i64 m.deg, .int .i64 m.st, .int .i64 m.msg, vs', ve', vc', vo']) ∧ MachR w' w'.heap.size vs' ve' vc' vo' m ∧ Below w.heap.size w w' ∧ MachO (w.heap.size + 1) w' vs' ve' vc' vo' m := by
 obtain ⟨⟨A0, m0, c0, rfl⟩, ⟨A1, m1, c1, rfl⟩, ⟨A2, m2, c2, rfl⟩, A3, m3, c3, rfl⟩ := h.slices;have HZ := aA (show szRows m.start ≤ 1048576 ∧ szRows m.send ≤ 1048576 ∧ szCls m.cls ≤ 1048576 ∧ m.out.length ≤ 1048576 by unfold szMach at hz; omega);clear hz;obtain ⟨w0, hw0, hb0, HD0, hz0, HS0⟩ := box7 w (.int .i64 m.deg) (.int .i64 m.st) (.int .i64 m.msg) (.slice A0 m0 c0) (.slice A1 m1 c1) (.slice A2 m2 c2) (.slice A3 m3 c3) 26;obtain ⟨w1, hw1, hb1, HD1, hz1, HS1⟩ := box7 w0 (.int .i64 0) (.int .i64 0) (.int .i64 0) (.slice none 0 0) (.slice none 0 0) (.slice none 0 0) (.slice none 0 0) 46;obtain ⟨w2, hw2, hb2, HD2, hz2, HS2⟩ := box7 w1 (.int .i64 m.deg) (.int .i64 m.st) (.int .i64 m.msg) (.slice none 0 0) (.slice none 0 0) (.slice none 0 0) (.slice none 0 0) 46;have hs1 : w0.heap.size = w.heap.size + 1 := HS0.out;have hs2 : w1.heap.size = w.heap.size + 1 + 1 := by rw [HS1.out, hs1]
 rw [hs1] at HD1 hz1;rw [hs2] at HD2 hz2;replace HD0 := bk (bk HD0 hb1) hb2;replace HD1 := bk HD1 hb2;have hB := bl_trans (bl_trans hb0 hb1) hb2;have HS3 := aA (show w2.heap.size = w.heap.size + 1 + 1 + 1 by rw [HS2.out, hs2]);clear hs1 hs2 hb0 hb1 hb2;have HN := aA h; clear h;obtain ⟨⟨q0, q1, q2⟩, ⟨q3, q4, q5, q6⟩, qf⟩ := cells7 HD0;have s1 := q3;rw [hw2, hw1, hw0] at s1;have u0 := q0;rw [hw2, hw1, hw0] at u0;have u1 := q1;rw [hw2, hw1, hw0] at u1;have u2 := q2;rw [hw2, hw1, hw0] at u2;have HW0 := aA hw0; clear hw0;have HW1 := aA hw1; clear hw1;have HW2 := aA hw2; clear hw2;obtain ⟨lo, hlo⟩ : ∃ z, z = w2.heap.size := ⟨_, rfl⟩
 have hlo2 : lo ≤ w2.heap.size := by omega
 have hlo3 : w.heap.size + 1 + 1 < lo := by have := HS3.out; omega
 clear hlo;go_enter Tryz.func10, Tryz.ntmps10;go_wp2_with fail;rw [← HW0.out, ← HW1.out, ← HW2.out];clear s1 u0 u1 u2;refine (to_IntSS _ m.start w2 (HN.out.up hB).s HZ.out.1).mono ?_;rintro e w3 ⟨v0, bs0, rfl, ho0, -, hbs0, hc0⟩;obtain ⟨B0, n0, d0, rfl⟩ := ho0.isSlice;have K0 := aA ho0; clear ho0;have KB0 := aA (show ∀ b ∈ bs0, lo ≤ b ∧ b < w3.heap.size from fun b hb => by have := hbs0 b hb; omega); clear hbs0;have hzc0 := hc0.size;clear q0 q1 q2 q3 q4 q5 q6 qf;replace HD0 := bk HD0 hc0;replace HD1 := bk HD1 hc0;replace HD2 := bk HD2 hc0;have hB0 := bl_trans hB hc0;clear hB hc0;obtain ⟨⟨q0, q1, q2⟩, ⟨q3, q4, q5, q6⟩, qf⟩ := cells7 HD0;obtain ⟨⟨p0, p1, p2⟩, ⟨p3, p4, p5, p6⟩, pf⟩ := cells7 HD2;obtain ⟨x0, hX0⟩ : ∃ z, z = w3.setCell ⟨w.heap.size + 1 + 1, 3, none⟩ (.slice B0 n0 d0) := ⟨_, rfl⟩
 have HX0 := aA hX0;obtain ⟨hB, hO0, HY0, hZ0, hT0⟩ := setB hB0 (by omega) HD2.out hX0;clear hX0 hB0;go_wp2_with fail;rw [← HX0.out];obtain ⟨K0, KB0⟩ : Hid (OwnRows x0 24 3 (.slice B0 n0 d0) m.start bs0) ∧ Hid (∀ b ∈ bs0, lo ≤ b ∧ b < x0.heap.size) := ⟨aA (K0.out.keep fun b hb => hO0 b (by have := KB0.out b hb; omega)), aA fun b hb => by have := KB0.out b hb; omega⟩
 replace HD0 := aA ((hO0 _ (by omega)).trans HD0.out);replace HD1 := aA ((hO0 _ (by omega)).trans HD1.out);clear HD2;have HD2 := aA (show x0.heap[w.heap.size + 1 + 1]? = some (.cells #[.int .i64 m.deg, .int .i64 m.st, .int .i64 m.msg, .slice B0 n0 d0, .slice none 0 0, .slice none 0 0, .slice none 0 0] 46 (0, 0)) from HY0.out);clear HY0 hO0;clear q0 q1 q2 q3 q4 q5 q6 qf p0 p1 p2 p3 p4 p5 p6 pf;obtain ⟨⟨q0, q1, q2⟩, ⟨q3, q4, q5, q6⟩, qf⟩ := cells7 HD0;obtain ⟨⟨p0, p1, p2⟩, ⟨p3, p4, p5, p6⟩, pf⟩ := cells7 HD2;refine (to_IntSS _ m.send x0 (HN.out.up hB).e HZ.out.2.1).mono ?_;rintro e w4 ⟨v1, bs1, rfl, ho1, -, hbs1, hc1⟩;obtain ⟨B1, n1, d1, rfl⟩ := ho1.isSlice;have K1 := aA ho1; clear ho1;have KB1 := aA (show ∀ b ∈ bs1, lo ≤ b ∧ b < w4.heap.size from fun b hb => by have := hbs1 b hb; omega); clear hbs1;have hzc1 := hc1.size;obtain ⟨K0, KB0⟩ : Hid (OwnRows w4 24 3 (.slice B0 n0 d0) m.start bs0) ∧ Hid (∀ b ∈ bs0, lo ≤ b ∧ b < w4.heap.size) := ⟨aA (K0.out.keep fun b hb => hc1.block b (by have := KB0.out b hb; omega)), aA fun b hb => by have := KB0.out b hb; omega⟩
 clear q0 q1 q2 q3 q4 q5 q6 qf p0 p1 p2 p3 p4 p5 p6 pf;replace HD0 := bk HD0 hc1;replace HD1 := bk HD1 hc1;replace HD2 := bk HD2 hc1;have hB1 := bl_trans hB hc1;clear hB hc1;obtain ⟨⟨q0, q1, q2⟩, ⟨q3, q4, q5, q6⟩, qf⟩ := cells7 HD0;obtain ⟨⟨p0, p1, p2⟩, ⟨p3, p4, p5, p6⟩, pf⟩ := cells7 HD2;obtain ⟨x1, hX1⟩ : ∃ z, z = w4.setCell ⟨w.heap.size + 1 + 1, 4, none⟩ (.slice B1 n1 d1) := ⟨_, rfl⟩
 have HX1 := aA hX1;obtain ⟨hB, hO1, HY1, hZ1, hT1⟩ := setB hB1 (by omega) HD2.out hX1;clear hX1 hB1;go_wp2_with fail;rw [← HX1.out];obtain ⟨K0, KB0⟩ : Hid (OwnRows x1 24 3 (.slice B0 n0 d0) m.start bs0) ∧ Hid (∀ b ∈ bs0, lo ≤ b ∧ b < x1.heap.size) := ⟨aA (K0.out.keep fun b hb => hO1 b (by have := KB0.out b hb; omega)), aA fun b hb => by have := KB0.out b hb; omega⟩
 obtain ⟨K1, KB1⟩ : Hid (OwnRows x1 24 3 (.slice B1 n1 d1) m.send bs1) ∧ Hid (∀ b ∈ bs1, lo ≤ b ∧ b < x1.heap.size) := ⟨aA (K1.out.keep fun b hb => hO1 b (by have := KB1.out b hb; omega)), aA fun b hb => by have := KB1.out b hb; omega⟩
 replace HD0 := aA ((hO1 _ (by omega)).trans HD0.out);replace HD1 := aA ((hO1 _ (by omega)).trans HD1.out);clear HD2;have HD2 := aA (show x1.heap[w.heap.size + 1 + 1]? = some (.cells #[.int .i64 m.deg, .int .i64 m.st, .int .i64 m.msg, .slice B0 n0 d0, .slice B1 n1 d1, .slice none 0 0, .slice none 0 0] 46 (0, 0)) from HY1.out);clear HY1 hO1;clear q0 q1 q2 q3 q4 q5 q6 qf p0 p1 p2 p3 p4 p5 p6 pf;obtain ⟨⟨q0, q1, q2⟩, ⟨q3, q4, q5, q6⟩, qf⟩ := cells7 HD0;obtain ⟨⟨p0, p1, p2⟩, ⟨p3, p4, p5, p6⟩, pf⟩ := cells7 HD2;refine (to_ClauseS0 _ m.cls x1 (HN.out.up hB).c HZ.out.2.2.1).mono ?_;rintro e w5 ⟨rfl, ho2, hc2⟩;obtain ⟨g2, hg2⟩ : ∃ z, z = x1.heap.size := ⟨_, rfl⟩
 rw [← hg2] at ho2 ⊢;have K2 := aA ho2; clear ho2;have hl2 : lo ≤ g2 := by omega
 clear hg2;have hzc2 := hc2.size;obtain ⟨K0, KB0⟩ : Hid (OwnRows w5 24 3 (.slice B0 n0 d0) m.start bs0) ∧ Hid (∀ b ∈ bs0, lo ≤ b ∧ b < w5.heap.size) := ⟨aA (K0.out.keep fun b hb => hc2.block b (by have := KB0.out b hb; omega)), aA fun b hb => by have := KB0.out b hb; omega⟩
 obtain ⟨K1, KB1⟩ : Hid (OwnRows w5 24 3 (.slice B1 n1 d1) m.send bs1) ∧ Hid (∀ b ∈ bs1, lo ≤ b ∧ b < w5.heap.size) := ⟨aA (K1.out.keep fun b hb => hc2.block b (by have := KB1.out b hb; omega)), aA fun b hb => by have := KB1.out b hb; omega⟩
 clear q0 q1 q2 q3 q4 q5 q6 qf p0 p1 p2 p3 p4 p5 p6 pf;replace HD0 := bk HD0 hc2;replace HD1 := bk HD1 hc2;replace HD2 := bk HD2 hc2;have hB2 := bl_trans hB hc2;clear hB hc2;obtain ⟨⟨q0, q1, q2⟩, ⟨q3, q4, q5, q6⟩, qf⟩ := cells7 HD0;obtain ⟨⟨p0, p1, p2⟩, ⟨p3, p4, p5, p6⟩, pf⟩ := cells7 HD2;obtain ⟨x2, hX2⟩ : ∃ z, z = w5.setCell ⟨w.heap.size + 1 + 1, 5, none⟩ (.slice (some ⟨g2, 0, none⟩) m.cls.length m.cls.length) := ⟨_, rfl⟩
 have HX2 := aA hX2;obtain ⟨hB, hO2, HY2, hZ2, hT2⟩ := setB hB2 (by omega) HD2.out hX2;clear hX2 hB2;go_wp2_with fail;rw [← HX2.out];obtain ⟨K0, KB0⟩ : Hid (OwnRows x2 24 3 (.slice B0 n0 d0) m.start bs0) ∧ Hid (∀ b ∈ bs0, lo ≤ b ∧ b < x2.heap.size) := ⟨aA (K0.out.keep fun b hb => hO2 b (by have := KB0.out b hb; omega)), aA fun b hb => by have := KB0.out b hb; omega⟩
 obtain ⟨K1, KB1⟩ : Hid (OwnRows x2 24 3 (.slice B1 n1 d1) m.send bs1) ∧ Hid (∀ b ∈ bs1, lo ≤ b ∧ b < x2.heap.size) := ⟨aA (K1.out.keep fun b hb => hO2 b (by have := KB1.out b hb; omega)), aA fun b hb => by have := KB1.out b hb; omega⟩
 replace K2 := aA (K2.out.keep (w' := x2) (by omega) fun b h1 h2 => hO2 b (by omega));replace HD0 := aA ((hO2 _ (by omega)).trans HD0.out);replace HD1 := aA ((hO2 _ (by omega)).trans HD1.out);clear HD2;have HD2 := aA (show x2.heap[w.heap.size + 1 + 1]? = some (.cells #[.int .i64 m.deg, .int .i64 m.st, .int .i64 m.msg, .slice B0 n0 d0, .slice B1 n1 d1, .slice (some ⟨g2, 0, none⟩) m.cls.length m.cls.length, .slice none 0 0] 46 (0, 0)) from HY2.out);clear HY2 hO2;clear q0 q1 q2 q3 q4 q5 q6 qf p0 p1 p2 p3 p4 p5 p6 pf;obtain ⟨⟨q0, q1, q2⟩, ⟨q3, q4, q5, q6⟩, qf⟩ := cells7 HD0;obtain ⟨⟨p0, p1, p2⟩, ⟨p3, p4, p5, p6⟩, pf⟩ := cells7 HD2;refine (to_IntS _ m.out x2 (HN.out.up hB).o HZ.out.2.2.2).mono ?_;rintro e w6 ⟨rfl, hx3⟩;have hc3 : Below x2.heap.size x2 w6 := by rw [hx3]; exact bl_alloc (Below.refl _ _) _
 obtain ⟨g3, hg3⟩ : ∃ z, z = x2.heap.size := ⟨_, rfl⟩
 rw [← hg3];have K3 := aA (show w6.heap[g3]? = some (.cells (m.out.map intV).toArray 3 (0, 0)) by rw [hx3, hg3]; exact heap_alloc_new x2 _);have hl3 : lo ≤ g3 := by omega
 have hm3 : g3 < w6.heap.size := by rw [hx3, hg3]; simp
 clear hx3 hg3;have hzc3 := hc3.size;obtain ⟨K0, KB0⟩ : Hid (OwnRows w6 24 3 (.slice B0 n0 d0) m.start bs0) ∧ Hid (∀ b ∈ bs0, lo ≤ b ∧ b < w6.heap.size) := ⟨aA (K0.out.keep fun b hb => hc3.block b (by have := KB0.out b hb; omega)), aA fun b hb => by have := KB0.out b hb; omega⟩
 obtain ⟨K1, KB1⟩ : Hid (OwnRows w6 24 3 (.slice B1 n1 d1) m.send bs1) ∧ Hid (∀ b ∈ bs1, lo ≤ b ∧ b < w6.heap.size) := ⟨aA (K1.out.keep fun b hb => hc3.block b (by have := KB1.out b hb; omega)), aA fun b hb => by have := KB1.out b hb; omega⟩
 replace K2 := aA (K2.out.keep (w' := w6) (by omega) fun b h1 h2 => hc3.block b (by omega));clear q0 q1 q2 q3 q4 q5 q6 qf p0 p1 p2 p3 p4 p5 p6 pf;replace HD0 := bk HD0 hc3;replace HD1 := bk HD1 hc3;replace HD2 := bk HD2 hc3;have hB3 := bl_trans hB hc3;clear hB hc3;obtain ⟨⟨q0, q1, q2⟩, ⟨q3, q4, q5, q6⟩, qf⟩ := cells7 HD0;obtain ⟨⟨p0, p1, p2⟩, ⟨p3, p4, p5, p6⟩, pf⟩ := cells7 HD2;obtain ⟨x3, hX3⟩ : ∃ z, z = w6.setCell ⟨w.heap.size + 1 + 1, 6, none⟩ (.slice (some ⟨g3, 0, none⟩) m.out.length m.out.length) := ⟨_, rfl⟩
 have HX3 := aA hX3;obtain ⟨hB, hO3, HY3, hZ3, hT3⟩ := setB hB3 (by omega) HD2.out hX3;clear hX3 hB3;obtain ⟨⟨r0, r1, r2⟩, ⟨r3, r4, r5, r6⟩, rf⟩ := cells7 HD1;go_wp2_with fail;rw [← HX3.out];obtain ⟨K0, KB0⟩ : Hid (OwnRows x3 24 3 (.slice B0 n0 d0) m.start bs0) ∧ Hid (∀ b ∈ bs0, lo ≤ b ∧ b < x3.heap.size) := ⟨aA (K0.out.keep fun b hb => hO3 b (by have := KB0.out b hb; omega)), aA fun b hb => by have := KB0.out b hb; omega⟩
 obtain ⟨K1, KB1⟩ : Hid (OwnRows x3 24 3 (.slice B1 n1 d1) m.send bs1) ∧ Hid (∀ b ∈ bs1, lo ≤ b ∧ b < x3.heap.size) := ⟨aA (K1.out.keep fun b hb => hO3 b (by have := KB1.out b hb; omega)), aA fun b hb => by have := KB1.out b hb; omega⟩
 replace K2 := aA (K2.out.keep (w' := x3) (by omega) fun b h1 h2 => hO3 b (by omega));replace K3 := aA ((hO3 g3 (by omega)).trans K3.out);replace HD0 := aA ((hO3 _ (by omega)).trans HD0.out);replace HD1 := aA ((hO3 _ (by omega)).trans HD1.out);clear HD2;have HD2 := aA (show x3.heap[w.heap.size + 1 + 1]? = some (.cells #[.int .i64 m.deg, .int .i64 m.st, .int .i64 m.msg, .slice B0 n0 d0, .slice B1 n1 d1, .slice (some ⟨g2, 0, none⟩) m.cls.length m.cls.length, .slice (some ⟨g3, 0, none⟩) m.out.length m.out.length] 46 (0, 0)) from HY3.out);clear HY3 hO3;obtain ⟨y0, hy0⟩ : ∃ z, z = x3.setCell ⟨w.heap.size + 1, 0, none⟩ (.int .i64 m.deg) := ⟨_, rfl⟩
 rw [← hy0];obtain ⟨hBy0, hOy0, HYy0, hZy0, hTy0⟩ := setB hB (by omega) HD1.out hy0;clear hy0;obtain ⟨K0, KB0⟩ : Hid (OwnRows y0 24 3 (.slice B0 n0 d0) m.start bs0) ∧ Hid (∀ b ∈ bs0, lo ≤ b ∧ b < y0.heap.size) := ⟨aA (K0.out.keep fun b hb => hOy0 b (by have := KB0.out b hb; omega)), aA fun b hb => by have := KB0.out b hb; omega⟩
 obtain ⟨K1, KB1⟩ : Hid (OwnRows y0 24 3 (.slice B1 n1 d1) m.send bs1) ∧ Hid (∀ b ∈ bs1, lo ≤ b ∧ b < y0.heap.size) := ⟨aA (K1.out.keep fun b hb => hOy0 b (by have := KB1.out b hb; omega)), aA fun b hb => by have := KB1.out b hb; omega⟩
 replace K2 := aA (K2.out.keep (w' := y0) (by omega) fun b h1 h2 => hOy0 b (by omega));replace K3 := aA ((hOy0 g3 (by omega)).trans K3.out);clear hOy0;obtain ⟨y1, hy1⟩ : ∃ z, z = y0.setCell ⟨w.heap.size + 1, 1, none⟩ (.int .i64 m.st) := ⟨_, rfl⟩
 rw [← hy1];obtain ⟨hBy1, hOy1, HYy1, hZy1, hTy1⟩ := setB hBy0 (by omega) HYy0.out hy1;clear hy1;obtain ⟨K0, KB0⟩ : Hid (OwnRows y1 24 3 (.slice B0 n0 d0) m.start bs0) ∧ Hid (∀ b ∈ bs0, lo ≤ b ∧ b < y1.heap.size) := ⟨aA (K0.out.keep fun b hb => hOy1 b (by have := KB0.out b hb; omega)), aA fun b hb => by have := KB0.out b hb; omega⟩
 obtain ⟨K1, KB1⟩ : Hid (OwnRows y1 24 3 (.slice B1 n1 d1) m.send bs1) ∧ Hid (∀ b ∈ bs1, lo ≤ b ∧ b < y1.heap.size) := ⟨aA (K1.out.keep fun b hb => hOy1 b (by have := KB1.out b hb; omega)), aA fun b hb => by have := KB1.out b hb; omega⟩
 replace K2 := aA (K2.out.keep (w' := y1) (by omega) fun b h1 h2 => hOy1 b (by omega));replace K3 := aA ((hOy1 g3 (by omega)).trans K3.out);clear hOy1;obtain ⟨y2, hy2⟩ : ∃ z, z = y1.setCell ⟨w.heap.size + 1, 2, none⟩ (.int .i64 m.msg) := ⟨_, rfl⟩
 rw [← hy2];obtain ⟨hBy2, hOy2, HYy2, hZy2, hTy2⟩ := setB hBy1 (by omega) HYy1.out hy2;clear hy2;obtain ⟨K0, KB0⟩ : Hid (OwnRows y2 24 3 (.slice B0 n0 d0) m.start bs0) ∧ Hid (∀ b ∈ bs0, lo ≤ b ∧ b < y2.heap.size) := ⟨aA (K0.out.keep fun b hb => hOy2 b (by have := KB0.out b hb; omega)), aA fun b hb => by have := KB0.out b hb; omega⟩
 obtain ⟨K1, KB1⟩ : Hid (OwnRows y2 24 3 (.slice B1 n1 d1) m.send bs1) ∧ Hid (∀ b ∈ bs1, lo ≤ b ∧ b < y2.heap.size) := ⟨aA (K1.out.keep fun b hb => hOy2 b (by have := KB1.out b hb; omega)), aA fun b hb => by have := KB1.out b hb; omega⟩
 replace K2 := aA (K2.out.keep (w' := y2) (by omega) fun b h1 h2 => hOy2 b (by omega));replace K3 := aA ((hOy2 g3 (by omega)).trans K3.out);clear hOy2;obtain ⟨y3, hy3⟩ : ∃ z, z = y2.setCell ⟨w.heap.size + 1, 3, none⟩ (.slice B0 n0 d0) := ⟨_, rfl⟩
 rw [← hy3];obtain ⟨hBy3, hOy3, HYy3, hZy3, hTy3⟩ := setB hBy2 (by omega) HYy2.out hy3;clear hy3;obtain ⟨K0, KB0⟩ : Hid (OwnRows y3 24 3 (.slice B0 n0 d0) m.start bs0) ∧ Hid (∀ b ∈ bs0, lo ≤ b ∧ b < y3.heap.size) := ⟨aA (K0.out.keep fun b hb => hOy3 b (by have := KB0.out b hb; omega)), aA fun b hb => by have := KB0.out b hb; omega⟩
 obtain ⟨K1, KB1⟩ : Hid (OwnRows y3 24 3 (.slice B1 n1 d1) m.send bs1) ∧ Hid (∀ b ∈ bs1, lo ≤ b ∧ b < y3.heap.size) := ⟨aA (K1.out.keep fun b hb => hOy3 b (by have := KB1.out b hb; omega)), aA fun b hb => by have := KB1.out b hb; omega⟩
 replace K2 := aA (K2.out.keep (w' := y3) (by omega) fun b h1 h2 => hOy3 b (by omega));replace K3 := aA ((hOy3 g3 (by omega)).trans K3.out);clear hOy3;obtain ⟨y4, hy4⟩ : ∃ z, z = y3.setCell ⟨w.heap.size + 1, 4, none⟩ (.slice B1 n1 d1) := ⟨_, rfl⟩
 rw [← hy4];obtain ⟨hBy4, hOy4, HYy4, hZy4, hTy4⟩ := setB hBy3 (by omega) HYy3.out hy4;clear hy4;obtain ⟨K0, KB0⟩ : Hid (OwnRows y4 24 3 (.slice B0 n0 d0) m.start bs0) ∧ Hid (∀ b ∈ bs0, lo ≤ b ∧ b < y4.heap.size) := ⟨aA (K0.out.keep fun b hb => hOy4 b (by have := KB0.out b hb; omega)), aA fun b hb => by have := KB0.out b hb; omega⟩
 obtain ⟨K1, KB1⟩ : Hid (OwnRows y4 24 3 (.slice B1 n1 d1) m.send bs1) ∧ Hid (∀ b ∈ bs1, lo ≤ b ∧ b < y4.heap.size) := ⟨aA (K1.out.keep fun b hb => hOy4 b (by have := KB1.out b hb; omega)), aA fun b hb => by have := KB1.out b hb; omega⟩
 replace K2 := aA (K2.out.keep (w' := y4) (by omega) fun b h1 h2 => hOy4 b (by omega));replace K3 := aA ((hOy4 g3 (by omega)).trans K3.out);clear hOy4;obtain ⟨y5, hy5⟩ : ∃ z, z = y4.setCell ⟨w.heap.size + 1, 5, none⟩ (.slice (some ⟨g2, 0, none⟩) m.cls.length m.cls.length) := ⟨_, rfl⟩
 rw [← hy5];obtain ⟨hBy5, hOy5, HYy5, hZy5, hTy5⟩ := setB hBy4 (by omega) HYy4.out hy5;clear hy5;obtain ⟨K0, KB0⟩ : Hid (OwnRows y5 24 3 (.slice B0 n0 d0) m.start bs0) ∧ Hid (∀ b ∈ bs0, lo ≤ b ∧ b < y5.heap.size) := ⟨aA (K0.out.keep fun b hb => hOy5 b (by have := KB0.out b hb; omega)), aA fun b hb => by have := KB0.out b hb; omega⟩
 obtain ⟨K1, KB1⟩ : Hid (OwnRows y5 24 3 (.slice B1 n1 d1) m.send bs1) ∧ Hid (∀ b ∈ bs1, lo ≤ b ∧ b < y5.heap.size) := ⟨aA (K1.out.keep fun b hb => hOy5 b (by have := KB1.out b hb; omega)), aA fun b hb => by have := KB1.out b hb; omega⟩
 replace K2 := aA (K2.out.keep (w' := y5) (by omega) fun b h1 h2 => hOy5 b (by omega));replace K3 := aA ((hOy5 g3 (by omega)).trans K3.out);clear hOy5;obtain ⟨y6, hy6⟩ : ∃ z, z = y5.setCell ⟨w.heap.size + 1, 6, none⟩ (.slice (some ⟨g3, 0, none⟩) m.out.length m.out.length) := ⟨_, rfl⟩
 rw [← hy6];obtain ⟨hBy6, hOy6, HYy6, hZy6, hTy6⟩ := setB hBy5 (by omega) HYy5.out hy6;clear hy6;obtain ⟨K0, KB0⟩ : Hid (OwnRows y6 24 3 (.slice B0 n0 d0) m.start bs0) ∧ Hid (∀ b ∈ bs0, lo ≤ b ∧ b < y6.heap.size) := ⟨aA (K0.out.keep fun b hb => hOy6 b (by have := KB0.out b hb; omega)), aA fun b hb => by have := KB0.out b hb; omega⟩
 obtain ⟨K1, KB1⟩ : Hid (OwnRows y6 24 3 (.slice B1 n1 d1) m.send bs1) ∧ Hid (∀ b ∈ bs1, lo ≤ b ∧ b < y6.heap.size) := ⟨aA (K1.out.keep fun b hb => hOy6 b (by have := KB1.out b hb; omega)), aA fun b hb => by have := KB1.out b hb; omega⟩
 replace K2 := aA (K2.out.keep (w' := y6) (by omega) fun b h1 h2 => hOy6 b (by omega));replace K3 := aA ((hOy6 g3 (by omega)).trans K3.out);clear hOy6;have HF := aA (show y6.heap[w.heap.size + 1]? = some (.cells #[.int .i64 m.deg, .int .i64 m.st, .int .i64 m.msg, .slice B0 n0 d0, .slice B1 n1 d1, .slice (some ⟨g2, 0, none⟩) m.cls.length m.cls.length, .slice (some ⟨g3, 0, none⟩) m.out.length m.out.length] 46 (0, 0)) from HYy6.out);clear q0 q1 q2 q3 q4 q5 q6 qf p0 p1 p2 p3 p4 p5 p6 pf r0 r1 r2 r3 r4 r5 r6 rf;obtain ⟨⟨s0, s1, s2⟩, ⟨s3, s4, s5, s6⟩, sf⟩ := cells7 HF;refine bodyPost_ret (v := .agg #[.int .i64 m.deg, .int .i64 m.st, .int .i64 m.msg, .slice B0 n0 d0, .slice B1 n1 d1, .slice (some ⟨g2, 0, none⟩) m.cls.length m.cls.length, .slice (some ⟨g3, 0, none⟩) m.out.length m.out.length]) (by simp [results, Tryz.results10, go_sem, s0, s1, s2, s3, s4, s5, s6]) rfl ?_;exact ⟨_, _, _, _, rfl, ⟨K0.out.reads fun b hb => (KB0.out b hb).2, K1.out.reads fun b hb => (KB1.out b hb).2, K2.out.reads (cls_64 HN.out.c) HZ.out.2.2.1, ints_row K3.out (by have := HZ.out.2.2.2; unfold maxLen; omega) HN.out.o.2 (Array.getElem?_eq_some_iff.1 K3.out).1, HN.out.i⟩, hBy6, ⟨⟨_, K0.out, fun b hb => by have := KB0.out b hb; omega⟩, ⟨_, K1.out, fun b hb => by have := KB1.out b hb; omega⟩, ⟨_, rfl, by omega, K2.out⟩, ⟨_, rfl, by omega, K3.out⟩⟩⟩
theorem to_Mach (vs ve vc vo : Value) (m : Mach) (w : World) (h : MachR w w.heap.size vs ve vc vo m) (hz : szMach m ≤ 1048576) :
    Calls Tryz.prog 10 #[.agg #[.int .i64 m.deg, .int .i64 m.st, .int .i64 m.msg, vs, ve, vc, vo]] w fun e w' => ∃ vs' ve' vc' vo', e = .returned (.agg #[.int .i64 m.deg, .int .i64 m.st, .int .i64 m.msg, vs', ve', vc', vo']) ∧ MachR w' w'.heap.size vs' ve' vc' vo' m ∧ Below w.heap.size w w' :=
  (to_MachW vs ve vc vo m w h hz).mono fun _ _ ⟨a0, a1, a2, a3, h1, h2, h3, _⟩ => ⟨a0, a1, a2, a3, h1, h2, h3⟩
end
section
open Go.RowKit
set_option linter.all false
structure Wr (g hi : Nat) (w w' : World) : Prop where
  os : w'.os = w.os
  tape : w'.tape = w.tape
  output : w'.output = w.output
  size : w'.heap.size = w.heap.size
  off : ∀ b : Nat, ¬ (g < b ∧ b < hi) → w'.heap[b]? = w.heap[b]?
  obj : ∀ (b : Nat) (cur : Array Value) (t : TypeId), w.heap[b]? = some (Obj.cells cur t (0, 0)) → ∃ cur', w'.heap[b]? = some (Obj.cells cur' t (0, 0))
  kind : ∀ p v, w.cell? p = some v → w'.cell? p = some v ∨ ((∃ k, v = .int .i64 k) ∧ ∃ k, w'.cell? p = some (.int .i64 k))
theorem Wr.refl (g hi : Nat) (w : World) : Wr g hi w w := ⟨rfl, rfl, rfl, rfl, fun _ _ => rfl, fun _ cur _ h => ⟨cur, h⟩, fun _ _ h => .inl h⟩
theorem Wr.trans {g hi : Nat} {a b c : World} (h : Wr g hi a b) (k : Wr g hi b c) : Wr g hi a c :=
  ⟨k.os.trans h.os, k.tape.trans h.tape, k.output.trans h.output, k.size.trans h.size, fun x hx => (k.off x hx).trans (h.off x hx), fun x cur t hc => by
    obtain ⟨cur1, h1⟩ := h.obj x cur t hc;exact k.obj x cur1 t h1, fun p v hv => by
    rcases h.kind p v hv with h1 | ⟨h1, i, h2⟩
    · exact k.kind p v h1
    · rcases k.kind p _ h2 with h3 | ⟨_, h3⟩
      · exact .inr ⟨h1, i, h3⟩
      · exact .inr ⟨h1, h3⟩⟩
theorem Wr.slice {g hi : Nat} {w w' : World} (h : Wr g hi w w') {p : Addr} {A : Option Addr} {m c : Nat} (hc : w.cell? p = some (.slice A m c)) : w'.cell? p = some (.slice A m c) := by
  rcases h.kind p _ hc with h1 | ⟨⟨k, hk⟩, _⟩
  · exact h1
  · cases hk
theorem Wr.num {g hi : Nat} {w w' : World} (h : Wr g hi w w') {p : Addr} {k : Int} (hc : w.cell? p = some (.int .i64 k)) : ∃ k, w'.cell? p = some (.int .i64 k) := by
  rcases h.kind p _ hc with h1 | ⟨_, h1⟩
  · exact ⟨k, h1⟩
  · exact h1
def Fq (g hi : Nat) (w : World) (b : Nat) : Prop := g < b ∧ b < hi ∧ ∃ cur t, w.heap[b]? = some (Obj.cells cur t (0, 0))
theorem Fq.wr {g hi b : Nat} {w w' : World} (h : Fq g hi w b) (hw : Wr g hi w w') : Fq g hi w' b := by obtain ⟨h1, h2, cur, t, h3⟩ := h;obtain ⟨cur', h4⟩ := hw.obj b cur t h3;exact ⟨h1, h2, cur', t, h4⟩
theorem Fq.free {g hi b : Nat} {w : World} (h : Fq g hi w b) (i : Nat) : w.frozen? ⟨b, i, none⟩ = false := by obtain ⟨-, -, cur, t, h3⟩ := h;exact frozen_of_row _ _ i _ _ h3
theorem Wr.set {g hi b i : Nat} {w : World} {k : Int} (n : Int) (h : Fq g hi w b) (hc : w.cell? ⟨b, i, none⟩ = some (.int .i64 k)) : Wr g hi w (w.setCell ⟨b, i, none⟩ (.int .i64 n)) := by
  obtain ⟨h1, h2, cur, t, h3⟩ := h;rw [cell_of_row w _ i _ _ (0, 0) h3] at hc;have hn := heap_set_same (i := i) h3 (.int .i64 n);refine ⟨rfl, rfl, rfl, size_setCell _ _ _, fun x hx => Below.heap_setCell _ _ _ _ (by intro e; subst e; exact hx ⟨h1, h2⟩), fun x cur1 t1 hx => ?_, fun p v hp => ?_⟩
  · by_cases e : x = b
    · subst e
      rw [h3] at hx;cases hx;exact ⟨_, hn⟩
    · exact ⟨cur1, (Below.heap_setCell _ _ _ _ (by simpa using e)).trans hx⟩
  · by_cases e : p.block = b
    · obtain ⟨pb, po, ps⟩ := p
      obtain rfl : pb = b := e;unfold World.cell? at hp ⊢;simp only [h3, hn] at hp ⊢;cases ps with
      | some s => simp at hp
      | none =>
        simp only [Option.isSome_none, Bool.false_eq_true, if_false] at hp ⊢;by_cases e2 : po = i
        · subst e2
          rw [hc] at hp;cases hp;have hl := (Array.getElem?_eq_some_iff.1 hc).1;exact .inr ⟨⟨_, rfl⟩, _, Array.getElem?_setIfInBounds_self_of_lt hl⟩
        · exact .inl (by rw [Array.getElem?_setIfInBounds_ne (fun h => e2 h.symm)]; exact hp)
    · exact .inl ((World.cell?_of_block (Below.heap_setCell _ _ _ _ e)).trans hp)
def IntP (g hi s : Nat) (w : World) (v : Value) (N : Nat) : Prop :=
  ∃ (n : Nat) (A : Option Addr) (c : Nat), N = n * s ∧ v = .slice A n c ∧ n ≤ c ∧ c ≤ maxLen ∧ (0 < n → ∃ b o, A = some ⟨b, o, none⟩ ∧ Fq g hi w b ∧ ∀ j, j < N → ∃ k, w.cell? ⟨b, o + j, none⟩ = some (.int .i64 k))
def RowsP (g hi : Nat) (P : World → Value → Nat → Prop) (w : World) (v : Value) (N : Nat) : Prop :=
  ∃ (ns : List Nat) (A : Option Addr) (c : Nat), N = ns.sum ∧ v = .slice A ns.length c ∧ ns.length ≤ c ∧ c ≤ maxLen ∧ (0 < ns.length → ∃ ad, A = some ad ∧ (g < ad.block ∧ ad.block < hi) ∧ ∀ i n, ns[i]? = some n → ∃ u, w.cell? (ad.add i) = some u ∧ (∃ A m c, u = .slice A m c) ∧ P w u n)
def Keeps (g hi : Nat) (P : World → Value → Nat → Prop) : Prop := ∀ w w' v N, P w v N → Wr g hi w w' → P w' v N
theorem IntP.keeps (g hi s : Nat) : Keeps g hi (IntP g hi s) := fun w w' v N h hw => by obtain ⟨n, A, c, e, e2, h1, h2, h3⟩ := h;refine ⟨n, A, c, e, e2, h1, h2, fun hn => ?_⟩;obtain ⟨b, o, rfl, hf, hc⟩ := h3 hn;refine ⟨b, o, rfl, hf.wr hw, fun j hj => ?_⟩;obtain ⟨k, hk⟩ := hc j hj;exact hw.num hk
theorem RowsP.keeps {g hi : Nat} {P : World → Value → Nat → Prop} (hP : Keeps g hi P) : Keeps g hi (RowsP g hi P) := fun w w' v N h hw => by obtain ⟨ns, A, c, e, e2, h1, h2, h3⟩ := h;refine ⟨ns, A, c, e, e2, h1, h2, fun hn => ?_⟩;obtain ⟨ad, rfl, ha, hc⟩ := h3 hn;refine ⟨ad, rfl, ha, fun i n hi' => ?_⟩;obtain ⟨u, hu, ⟨A1, m1, c1, rfl⟩, hp⟩ := hc i n hi';exact ⟨_, hw.slice hu, ⟨_, _, _, rfl⟩, hP _ _ _ _ hp hw⟩
def Offs (g hi : Nat) (P : World → Value → Nat → Prop) : Prop := ∀ w w' v N, P w v N → (∀ b : Nat, g < b → b < hi → w'.heap[b]? = w.heap[b]?) → P w' v N
theorem IntP.offs (g hi s : Nat) : Offs g hi (IntP g hi s) := fun w w' v N h hk => by obtain ⟨n, A, c, e, e2, h1, h2, h3⟩ := h;refine ⟨n, A, c, e, e2, h1, h2, fun hn => ?_⟩;obtain ⟨b, o, rfl, ⟨f1, f2, cur, t, f3⟩, hc⟩ := h3 hn;refine ⟨b, o, rfl, ⟨f1, f2, cur, t, (hk b f1 f2).trans f3⟩, fun j hj => ?_⟩;obtain ⟨k, hk'⟩ := hc j hj;exact ⟨k, (World.cell?_of_block (hk b f1 f2)).trans hk'⟩
theorem RowsP.offs {g hi : Nat} {P : World → Value → Nat → Prop} (hP : Offs g hi P) : Offs g hi (RowsP g hi P) := fun w w' v N h hk => by obtain ⟨ns, A, c, e, e2, h1, h2, h3⟩ := h;refine ⟨ns, A, c, e, e2, h1, h2, fun hn => ?_⟩;obtain ⟨ad, rfl, ha, hc⟩ := h3 hn;refine ⟨ad, rfl, ha, fun i n hi' => ?_⟩;obtain ⟨u, hu, hs, hp⟩ := hc i n hi';exact ⟨u, (World.cell?_of_block (by rw [block_add]; exact hk _ ha.1 ha.2)).trans hu, hs, hP _ _ _ _ hp hk⟩
def Marks (f : Nat) (g hi : Nat) (P : World → Value → Nat → Prop) : Prop := ∀ v N (k : Int) w, P w v N → 0 ≤ k → k + N ≤ 1000000000000 → Calls Tryz.prog f #[v, .int .i64 k] w fun e w' => e = .returned (.int .i64 (k + N)) ∧ Wr g hi w w'
def MrRel (n : Nat) (k : Int) (g hi s : Nat) (w : World) (kv i : Value) (wr : World) : Prop := ∃ j : Nat, j ≤ n ∧ i = .int .i64 j ∧ kv = .int .i64 (k + ((j * s : Nat) : Int)) ∧ Wr g hi w wr
set_option maxRecDepth 100000 in
theorem mark_IntP (g hi : Nat) : Marks 54 g hi (IntP g hi 1) := fun v N k w h h0 h1 => by
  have HP := aA h;obtain ⟨n, A0, c, rfl, rfl, hc1, hc2, -⟩ := h;rw [Nat.mul_one] at HP h1 ⊢;unfold maxLen at hc2;go_enter Tryz.func54, Tryz.ntmps54;go_wp2_with fail;go_loopw [1, 5] (fun kv i wr => MrRel n k g hi 1 w kv i wr) (fun _ i _ => n - (intOf i).toNat)
  case atStart => exact ⟨0, Nat.zero_le _, rfl, by simp, Wr.refl _ _ _⟩
  case round =>
    obtain ⟨j, hj, rfl, rfl, hw⟩ := hrel;have HW := aA hw; clear hw;rw [Nat.mul_one];by_cases hlt : j < n
    · obtain ⟨n', A1, c1, e1, e2, -, -, h3⟩ := IntP.keeps g hi 1 _ _ _ _ HP.out HW.out
      cases e2;obtain ⟨b, o, rfl, hf, hcs⟩ := h3 (by omega);obtain ⟨q, hq⟩ := hcs j (by omega);have hfr := hf.free (o + j);have HS := aA (Wr.set (k + (j : Int)) hf hq);have hq1 : IntKind.i64.wrap (k + (j : Int) + 1) = k + (j : Int) + 1 := aL _ (by omega);clear hcs hf h3 e1;go_wp2_with fail;go_roundw
      case rel => exact ⟨j + 1, by omega, by go_num, by congr 1; omega, HW.out.trans HS.out⟩
      case measure => simp [intOf]; omega
    · obtain rfl : j = n := by omega
      go_wp2_with fail;go_ret;exact ⟨rfl, HW.out⟩
set_option maxRecDepth 100000 in
theorem mark_LetP (g hi : Nat) : Marks 118 g hi (IntP g hi 2) := fun v N k w h h0 h1 => by
 have HP := aA h;obtain ⟨n, A0, c, rfl, rfl, hc1, hc2, -⟩ := h;unfold maxLen at hc2;go_enter Tryz.func118, Tryz.ntmps118;go_wp2_with fail;go_loopw [1, 5] (fun kv i wr => MrRel n k g hi 2 w kv i wr) (fun _ i _ => n - (intOf i).toNat)
 case atStart => exact ⟨0, Nat.zero_le _, rfl, by simp, Wr.refl _ _ _⟩
 case round =>
  obtain ⟨j, hj, rfl, rfl, hw⟩ := hrel;have HW := aA hw; clear hw;by_cases hlt : j < n
  ·
   obtain ⟨n', A1, c1, e1, e2, -, -, h3⟩ := IntP.keeps g hi 2 _ _ _ _ HP.out HW.out;cases e2;obtain ⟨b, o, rfl, hf, hcs⟩ := h3 (by omega);obtain ⟨q, hq⟩ := hcs (j * 2) (by omega);obtain ⟨q', hq'⟩ := hcs (j * 2 + 1) (by omega);have hfr := hf.free;have hS := Wr.set (k + ((j * 2 : Nat) : Int)) hf hq;obtain ⟨q2, hq2⟩ := hS.num hq';have hS2 := Wr.set (k + ((j * 2 : Nat) : Int) + 1) (hf.wr hS) hq2;have hfr2 := (hf.wr hS).free;rw [← Nat.add_assoc] at hq2 hS2 hq';have HS := aA (hS.trans hS2);have hw1 : IntKind.i64.wrap (k + ((j * 2 : Nat) : Int) + 1) = k + ((j * 2 : Nat) : Int) + 1 := aL _ (by omega);have hw2 : IntKind.i64.wrap (k + ((j * 2 : Nat) : Int) + 1 + 1) = k + ((j * 2 : Nat) : Int) + 1 + 1 := aL _ (by omega);clear hcs hf h3 e1 hS hS2;obtain ⟨kk, hkk⟩ : ∃ z, z = k + ((j * 2 : Nat) : Int) := ⟨_, rfl⟩
   rw [← hkk] at hw1 hw2 HS hq2 hfr2 ⊢;have HKK := aA hkk; clear hkk;go_wp2_with fail;go_roundw
   case rel => exact ⟨j + 1, by omega, by go_num, by have := HKK.out; congr 1; omega, HW.out.trans HS.out⟩
   case measure => simp [intOf]; omega
  ·
   obtain rfl : j = n := by omega
   go_wp2_with fail;go_ret;exact ⟨rfl, HW.out⟩
def SumRel (ns : List Nat) (k : Int) (g hi : Nat) (w : World) (kv i : Value) (wr : World) : Prop := ∃ j : Nat, j ≤ ns.length ∧ i = .int .i64 j ∧ kv = .int .i64 (k + ((ns.take j).sum : Nat)) ∧ Wr g hi w wr
theorem sum_snoc' {ns : List Nat} {j n : Nat} (h : ns[j]? = some n) : (ns.take (j + 1)).sum = (ns.take j).sum + n := by obtain ⟨hj, rfl⟩ := aB.1 h;rw [List.take_succ_eq_append_getElem hj, List.sum_append];simp
theorem sum_split' (ns : List Nat) (j : Nat) : ns.sum = (ns.take j).sum + (ns.drop j).sum := by rw [← List.sum_append, List.take_append_drop]
set_option maxRecDepth 100000 in
theorem mark_IntPP (g hi : Nat) : Marks 52 g hi (RowsP g hi (IntP g hi 1)) := fun v N k w h h0 h1 => by
 have HP := aA h;obtain ⟨ns, A0, c, rfl, rfl, hc1, hc2, h3⟩ := h;unfold maxLen at hc2;have H3 := aA h3; clear h3 HP;go_enter Tryz.func52, Tryz.ntmps52;go_wp2_with fail;go_loopw [1, 5] (fun kv i wr => SumRel ns k g hi w kv i wr) (fun _ i _ => ns.length - (intOf i).toNat)
 case atStart => exact ⟨0, Nat.zero_le _, rfl, by simp, Wr.refl _ _ _⟩
 case round =>
  obtain ⟨j, hj, rfl, rfl, hw⟩ := hrel;have HW := aA hw; clear hw;by_cases hlt : j < ns.length
  ·
   obtain ⟨ad, rfl, -, hcs⟩ := H3.out (by omega);obtain ⟨n, hn⟩ : ∃ n, ns[j]? = some n := ⟨_, aC hlt⟩
   obtain ⟨u, hu, ⟨A1, m1, c1, rfl⟩, hp⟩ := hcs j n hn;replace hu := HW.out.slice hu;have HPR := aA ((IntP.keeps g hi 1) _ _ _ _ hp HW.out);have HSS := aA (sum_snoc' hn);have hsp := sum_split' ns (j + 1);rw [HSS.out] at hsp;obtain ⟨t, ht⟩ : ∃ z, z = (ns.take j).sum := ⟨_, rfl⟩
   rw [← ht] at hsp HSS ⊢;clear hcs hp hn ht;go_wp2_with fail;refine (mark_IntP g hi _ n (k + (t : Int)) wr HPR.out (by omega) (by omega)).mono ?_;rintro e w1 ⟨rfl, hw1⟩;have HW1 := aA hw1; clear hw1;go_wp2_with fail;go_roundw
   case rel => exact ⟨j + 1, by omega, by go_num, by rw [HSS.out]; congr 1; omega, HW.out.trans HW1.out⟩
   case measure => simp [intOf]; omega
  ·
   obtain rfl : j = ns.length := by omega
   have HT := aA (show ns.take ns.length = ns from List.take_length);go_wp2_with fail;go_ret;exact ⟨by rw [HT.out]; first | rfl | (congr 2; omega), HW.out⟩
set_option maxRecDepth 100000 in
theorem mark_LetPP (g hi : Nat) : Marks 91 g hi (RowsP g hi (IntP g hi 2)) := fun v N k w h h0 h1 => by
 have HP := aA h;obtain ⟨ns, A0, c, rfl, rfl, hc1, hc2, h3⟩ := h;unfold maxLen at hc2;have H3 := aA h3; clear h3 HP;go_enter Tryz.func91, Tryz.ntmps91;go_wp2_with fail;go_loopw [1, 5] (fun kv i wr => SumRel ns k g hi w kv i wr) (fun _ i _ => ns.length - (intOf i).toNat)
 case atStart => exact ⟨0, Nat.zero_le _, rfl, by simp, Wr.refl _ _ _⟩
 case round =>
  obtain ⟨j, hj, rfl, rfl, hw⟩ := hrel;have HW := aA hw; clear hw;by_cases hlt : j < ns.length
  ·
   obtain ⟨ad, rfl, -, hcs⟩ := H3.out (by omega);obtain ⟨n, hn⟩ : ∃ n, ns[j]? = some n := ⟨_, aC hlt⟩
   obtain ⟨u, hu, ⟨A1, m1, c1, rfl⟩, hp⟩ := hcs j n hn;replace hu := HW.out.slice hu;have HPR := aA ((IntP.keeps g hi 2) _ _ _ _ hp HW.out);have HSS := aA (sum_snoc' hn);have hsp := sum_split' ns (j + 1);rw [HSS.out] at hsp;obtain ⟨t, ht⟩ : ∃ z, z = (ns.take j).sum := ⟨_, rfl⟩
   rw [← ht] at hsp HSS ⊢;clear hcs hp hn ht;go_wp2_with fail;refine (mark_LetP g hi _ n (k + (t : Int)) wr HPR.out (by omega) (by omega)).mono ?_;rintro e w1 ⟨rfl, hw1⟩;have HW1 := aA hw1; clear hw1;go_wp2_with fail;go_roundw
   case rel => exact ⟨j + 1, by omega, by go_num, by rw [HSS.out]; congr 1; omega, HW.out.trans HW1.out⟩
   case measure => simp [intOf]; omega
  ·
   obtain rfl : j = ns.length := by omega
   have HT := aA (show ns.take ns.length = ns from List.take_length);go_wp2_with fail;go_ret;exact ⟨by rw [HT.out]; first | rfl | (congr 2; omega), HW.out⟩
set_option maxRecDepth 100000 in
theorem mark_LetPPP (g hi : Nat) : Marks 56 g hi (RowsP g hi (RowsP g hi (IntP g hi 2))) := fun v N k w h h0 h1 => by
 have HP := aA h;obtain ⟨ns, A0, c, rfl, rfl, hc1, hc2, h3⟩ := h;unfold maxLen at hc2;have H3 := aA h3; clear h3 HP;go_enter Tryz.func56, Tryz.ntmps56;go_wp2_with fail;go_loopw [1, 5] (fun kv i wr => SumRel ns k g hi w kv i wr) (fun _ i _ => ns.length - (intOf i).toNat)
 case atStart => exact ⟨0, Nat.zero_le _, rfl, by simp, Wr.refl _ _ _⟩
 case round =>
  obtain ⟨j, hj, rfl, rfl, hw⟩ := hrel;have HW := aA hw; clear hw;by_cases hlt : j < ns.length
  ·
   obtain ⟨ad, rfl, -, hcs⟩ := H3.out (by omega);obtain ⟨n, hn⟩ : ∃ n, ns[j]? = some n := ⟨_, aC hlt⟩
   obtain ⟨u, hu, ⟨A1, m1, c1, rfl⟩, hp⟩ := hcs j n hn;replace hu := HW.out.slice hu;have HPR := aA ((RowsP.keeps (IntP.keeps g hi 2)) _ _ _ _ hp HW.out);have HSS := aA (sum_snoc' hn);have hsp := sum_split' ns (j + 1);rw [HSS.out] at hsp;obtain ⟨t, ht⟩ : ∃ z, z = (ns.take j).sum := ⟨_, rfl⟩
   rw [← ht] at hsp HSS ⊢;clear hcs hp hn ht;go_wp2_with fail;refine (mark_LetPP g hi _ n (k + (t : Int)) wr HPR.out (by omega) (by omega)).mono ?_;rintro e w1 ⟨rfl, hw1⟩;have HW1 := aA hw1; clear hw1;go_wp2_with fail;go_roundw
   case rel => exact ⟨j + 1, by omega, by go_num, by rw [HSS.out]; congr 1; omega, HW.out.trans HW1.out⟩
   case measure => simp [intOf]; omega
  ·
   obtain rfl : j = ns.length := by omega
   have HT := aA (show ns.take ns.length = ns from List.take_length);go_wp2_with fail;go_ret;exact ⟨by rw [HT.out]; first | rfl | (congr 2; omega), HW.out⟩
def ClsC (g hi : Nat) (w : World) (A : Option Addr) (ns : List Nat) : Prop :=
  0 < ns.length → ∃ b o, A = some ⟨b, o, none⟩ ∧ Fq g hi w b ∧ ∀ i n, ns[i]? = some n → (∃ k, w.cell? ⟨b, o + i * 3, none⟩ = some (.int .i64 k)) ∧ (∃ u, w.cell? ⟨b, o + i * 3 + 1, none⟩ = some u ∧ (∃ A m c, u = .slice A m c) ∧ IntP g hi 1 w u n) ∧ ∃ k, w.cell? ⟨b, o + i * 3 + 2, none⟩ = some (.int .i64 k)
def ClsP (g hi : Nat) (w : World) (v : Value) (N : Nat) : Prop :=
  ∃ (ns : List Nat) (A : Option Addr) (c : Nat), N = ns.sum + ns.length + ns.length ∧ v = .slice A ns.length c ∧ ns.length ≤ c ∧ c ≤ maxLen ∧ ClsC g hi w A ns
theorem ClsC.keeps {g hi : Nat} {w w' : World} {A : Option Addr} {ns : List Nat} (h : ClsC g hi w A ns) (hw : Wr g hi w w') : ClsC g hi w' A ns := fun hn => by obtain ⟨b, o, rfl, hf, hc⟩ := h hn;refine ⟨b, o, rfl, hf.wr hw, fun i n hi' => ?_⟩;obtain ⟨⟨k, k1⟩, ⟨u, hu, ⟨A1, m1, c1, rfl⟩, hp⟩, k', k2⟩ := hc i n hi';exact ⟨hw.num k1, ⟨_, hw.slice hu, ⟨_, _, _, rfl⟩, IntP.keeps g hi 1 _ _ _ _ hp hw⟩, hw.num k2⟩
theorem ClsP.keeps (g hi : Nat) : Keeps g hi (ClsP g hi) := fun w w' v N h hw => by obtain ⟨ns, A, c, e, e2, h1, h2, h3⟩ := h;exact ⟨ns, A, c, e, e2, h1, h2, h3.keeps hw⟩
theorem ClsP.offs (g hi : Nat) : Offs g hi (ClsP g hi) := fun w w' v N h hk => by obtain ⟨ns, A, c, e, e2, h1, h2, h3⟩ := h;refine ⟨ns, A, c, e, e2, h1, h2, fun hn => ?_⟩;obtain ⟨b, o, rfl, ⟨f1, f2, cur, t, f3⟩, hc⟩ := h3 hn;have hbl := hk b f1 f2;refine ⟨b, o, rfl, ⟨f1, f2, cur, t, hbl.trans f3⟩, fun i n hi' => ?_⟩;obtain ⟨⟨k, k1⟩, ⟨u, hu, hs, hp⟩, k', k2⟩ := hc i n hi';exact ⟨⟨k, (World.cell?_of_block hbl).trans k1⟩, ⟨u, (World.cell?_of_block hbl).trans hu, hs, IntP.offs g hi 1 _ _ _ _ hp hk⟩, k', (World.cell?_of_block hbl).trans k2⟩
def MkcRel (ns : List Nat) (k : Int) (g hi : Nat) (w : World) (kv i : Value) (wr : World) : Prop := ∃ j : Nat, j ≤ ns.length ∧ i = .int .i64 j ∧ kv = .int .i64 (k + (((ns.take j).sum + j + j : Nat) : Int)) ∧ Wr g hi w wr
set_option maxRecDepth 100000 in
theorem mark_ClsP (g hi : Nat) : Marks 53 g hi (ClsP g hi) := fun v N k w h h0 h1 => by
 obtain ⟨ns, A0, c, rfl, rfl, hc1, hc2, h3⟩ := h;unfold maxLen at hc2;have HP := aA h3; clear h3;go_enter Tryz.func53, Tryz.ntmps53;go_wp2_with fail;go_loopw [1, 5] (fun kv i wr => MkcRel ns k g hi w kv i wr) (fun _ i _ => ns.length - (intOf i).toNat)
 case atStart => exact ⟨0, Nat.zero_le _, rfl, by simp, Wr.refl _ _ _⟩
 case round =>
  obtain ⟨j, hj, rfl, rfl, hw⟩ := hrel;have HW := aA hw; clear hw;by_cases hlt : j < ns.length
  ·
   obtain ⟨n, hn⟩ : ∃ n, ns[j]? = some n := ⟨_, aC hlt⟩
   have HSS := aA (sum_snoc' hn);have hsp := sum_split' ns (j + 1);rw [HSS.out] at hsp;obtain ⟨t, ht⟩ : ∃ z, z = (ns.take j).sum := ⟨_, rfl⟩
   rw [← ht] at hsp HSS ⊢;obtain ⟨kk, hkk⟩ : ∃ z, z = k + ((t + j + j : Nat) : Int) := ⟨_, rfl⟩
   rw [← hkk];have hlo : 0 ≤ kk ∧ kk + n + 2 ≤ 1000000000000 := by omega
   have HKK := aA hkk;obtain ⟨b, o, rfl, hf, hcs⟩ := (HP.out.keeps HW.out) (by omega)
   obtain ⟨⟨q, hq⟩, ⟨u, hu, ⟨A1, m1, c1, rfl⟩, hp⟩, q', hq'⟩ := hcs j n hn;have hfr := hf.free;have hS := Wr.set kk hf hq;have hu1 := hS.slice hu;have HP1 := aA (IntP.keeps g hi 1 _ _ _ _ hp hS);have HS := aA hS;have HF := aA hf;have HQ := aA hq';have hw1 : IntKind.i64.wrap (kk + 1) = kk + 1 := aL _ (by omega);have hw2 : IntKind.i64.wrap (kk + 1 + (n : Int) + 1) = kk + 1 + (n : Int) + 1 := aL _ (by omega);clear hcs hp hn ht hkk hS hf hq' hu;go_wp2_with fail;refine (mark_IntP g hi _ n (kk + 1) _ HP1.out (by omega) (by omega)).mono ?_;rintro e w2 ⟨rfl, hwr2⟩;have hT := HS.out.trans hwr2;obtain ⟨q2, hq2⟩ := hT.num HQ.out;have hfr2 := (HF.out.wr hT).free;have HT2 := aA (hT.trans (Wr.set (kk + 1 + (n : Int)) (HF.out.wr hT) hq2));clear hwr2 hT hfr hq hu1;go_wp2_with fail;go_roundw
   case rel => exact ⟨j + 1, by omega, by go_num, by have := HKK.out; rw [HSS.out]; congr 1; omega, HW.out.trans HT2.out⟩
   case measure => simp [intOf]; omega
  ·
   obtain rfl : j = ns.length := by omega
   have HT := aA (show ns.take ns.length = ns from List.take_length);go_wp2_with fail;go_ret;exact ⟨by rw [HT.out]; first | rfl | (congr 2; omega), HW.out⟩
theorem intP_own {g hi : Nat} {w : World} {e : TypeId} {v : Value} {xs : List Int} {bs : List Nat} (h : OwnInts w e v xs bs) (hb : ∀ b ∈ bs, g < b ∧ b < hi) : IntP g hi 1 w v xs.length := by
  rcases h.1 with ⟨hx, -, A, c, rfl, hc⟩ | ⟨b, c, cur, rfl, h2, h3, h4, h5, h6, rfl⟩
  · obtain rfl : xs = [] := by simpa using hx
    exact ⟨0, A, c, rfl, rfl, Nat.zero_le _, hc, fun h => absurd h (by omega)⟩
  · rw [List.length_map] at h2 h6 ⊢
    refine ⟨xs.length, _, c, (Nat.mul_one _).symm, rfl, h2, h3, fun hn => ⟨b, 0, rfl, ⟨(hb b (by simp)).1, (hb b (by simp)).2, cur, _, h4⟩, fun j hj => ?_⟩⟩;refine ⟨xs[j], ?_⟩;rw [cell_of_row _ _ (0 + j) _ _ (0, 0) h4, Nat.zero_add];have : (cur.toList.take xs.length)[j]? = some (intV xs[j]) := by rw [h6, List.getElem?_map, aC hj]; rfl
    rw [List.getElem?_take, if_pos hj, Array.getElem?_toList] at this;exact this
theorem rowsP_all {g hi : Nat} {w : World} {e : TypeId} : ∀ {vs : List Value} {xss : List (List Int)} {bs : List Nat}, OwnAll w e vs xss bs → (∀ b ∈ bs, g < b ∧ b < hi) → vs.length = xss.length ∧ ∀ (i n : Nat), (xss.map List.length)[i]? = some n → ∃ u : Value, vs[i]? = some u ∧ (∃ A m c, u = .slice A m c) ∧ IntP g hi 1 w u n
  | [], [], bs, _, _ => ⟨rfl, fun i n h => by simp at h⟩
  | v :: vs, xs :: xss, bs, h, hb => by
    obtain ⟨b1, b2, h1, h2, rfl⟩ := h;obtain ⟨hl, hr⟩ := rowsP_all h2 fun b h => hb b (by simp [h])
    refine ⟨by simp [hl], fun i n hi' => ?_⟩;cases i with
    | zero =>
      obtain rfl : xs.length = n := by simpa using hi'
      exact ⟨v, rfl, h1.1.isSlice, intP_own h1 fun b h => hb b (by simp [h])⟩
    | succ i => exact hr i n (by simpa using hi')
  | [], _ :: _, _, h, _ => h.elim
  | _ :: _, [], _, h, _ => h.elim
theorem sum_lens : ∀ xss : List (List Int), (xss.map List.length).sum = lens xss
  | [] => rfl
  | x :: r => by simp [lens, sum_lens r]
theorem rowsP_own {B g : Nat} {w : World} {v : Value} {xss : List (List Int)} (h : RowsO B w v xss) (hg : g < B) : RowsP g w.heap.size (IntP g w.heap.size 1) w v (lens xss) := by
  obtain ⟨bs, ⟨vs, b0, b1, h1, h2, rfl⟩, hb⟩ := h;obtain ⟨hl, hr⟩ := rowsP_all (g := g) (hi := w.heap.size) h2 fun b h => ⟨by have := (hb b (by simp [h])).1; omega, (hb b (by simp [h])).2⟩
  refine ⟨xss.map List.length, ?_⟩;rw [List.length_map, ← hl];rcases h1 with ⟨rfl, -, A, c, rfl, hc⟩ | ⟨b, c, cur, rfl, k2, k3, k4, k5, k6, rfl⟩
  · exact ⟨A, c, (sum_lens xss).symm, rfl, Nat.zero_le _, hc, fun h => absurd h (by simp)⟩
  · refine ⟨_, c, (sum_lens xss).symm, rfl, k2, k3, fun hn => ⟨_, rfl, ⟨by have := (hb b (by simp)).1; show g < b; omega, (hb b (by simp)).2⟩, fun i n hi' => ?_⟩⟩
    obtain ⟨u, hu, hs, hp⟩ := hr i n hi';refine ⟨u, ?_, hs, hp⟩;have hiv := (aB.1 hu).1;rw [show (⟨b, 0, none⟩ : Addr).add i = ⟨b, i, none⟩ by unfold Addr.add; split <;> simp_all, cell_of_row _ _ i _ _ (0, 0) k4];have : (cur.toList.take vs.length)[i]? = some u := by rw [k6]; exact hu
    rw [List.getElem?_take, if_pos hiv, Array.getElem?_toList] at this;exact this
theorem intP_row {B g : Nat} {w : World} {v : Value} {xs : List Int} (h : IntsO B w v xs) (hg : g < B) (hm : xs.length ≤ maxLen) : IntP g w.heap.size 1 w v xs.length := by obtain ⟨b, rfl, h1, h2⟩ := h;refine ⟨xs.length, _, _, (Nat.mul_one _).symm, rfl, Nat.le_refl _, hm, fun _ => ⟨b, 0, rfl, ⟨by omega, (Array.getElem?_eq_some_iff.1 h2).1, _, _, h2⟩, fun j hj => ⟨xs[j], ?_⟩⟩⟩;rw [cell_of_row _ _ (0 + j) _ _ (0, 0) h2];simp [intV]
theorem IntsO.isSlice {B : Nat} {w : World} {v : Value} {xs : List Int} (h : IntsO B w v xs) : ∃ A m c, v = .slice A m c := by obtain ⟨b, rfl, _⟩ := h;exact ⟨_, _, _, rfl⟩
theorem lettP {B g : Nat} {w : World} {v : Value} {xs : Ends} (h : EndsR w (Fr B w) v xs) (hg : g < B) : (∃ A m c, v = .slice A m c) ∧ IntP g w.heap.size 2 w v (xs.length * 2) := by
  obtain ⟨A, c, rfl, h1, h2, -, h3⟩ := h;refine ⟨⟨_, _, _, rfl⟩, xs.length, A, c, rfl, rfl, h1, h2, fun hn => ?_⟩;obtain ⟨b, o, rfl, ⟨f1, f2, f3⟩, hc⟩ := h3 hn;refine ⟨b, o, rfl, ⟨by omega, f2, f3⟩, fun j hj => ?_⟩;obtain ⟨k1, k2⟩ := hc (j / 2) xs[j / 2] (aC (by omega));by_cases hm : j % 2 = 0
  · exact ⟨_, by rw [show o + j = o + j / 2 * 2 by omega]; exact k1⟩
  · exact ⟨_, by rw [show o + j = o + j / 2 * 2 + 1 by omega]; exact k2⟩
theorem sum_lensE : ∀ xss : List Ends, (xss.map fun x => x.length * 2).sum = lensE xss * 2
  | [] => rfl
  | x :: r => by simp only [List.map_cons, List.sum_cons, sum_lensE r, lensE]; omega
theorem lettPP {B g : Nat} {w : World} {v : Value} {xss : List Ends} (h : EndssR w (Fr B w) v xss) (hg : g < B) : (∃ A m c, v = .slice A m c) ∧ RowsP g w.heap.size (IntP g w.heap.size 2) w v (lensE xss * 2) := by obtain ⟨A, c, rfl, h1, h2, h3⟩ := h;refine ⟨⟨_, _, _, rfl⟩, xss.map fun x => x.length * 2, ?_⟩;rw [List.length_map];refine ⟨A, c, (sum_lensE xss).symm, rfl, h1, h2, fun hn => ?_⟩;obtain ⟨ad, rfl, ha, hc⟩ := h3 hn;refine ⟨ad, rfl, ⟨aF hg ha.1, ha.2.1⟩, fun i n hi' => ?_⟩;rw [List.getElem?_map] at hi';obtain ⟨xs, hx, rfl⟩ := Option.map_eq_some_iff.1 hi';obtain ⟨u, hu, hr⟩ := hc i xs hx;exact ⟨u, hu, lettP hr hg⟩
theorem sum_lens3 : ∀ x : List (List Ends), (x.map fun y => lensE y * 2).sum ≤ szEnds3 x * 2
  | [] => by simp
  | x :: r => by have := sum_lens3 r; unfold szEnds3 at this ⊢; simp only [List.map_cons, List.sum_cons, lens3E, List.length_cons, szEnds] at this ⊢; omega
theorem lettPPP {B g : Nat} {w : World} {v : Value} {x : List (List Ends)} (h : Ends3R w (Fr B w) v x) (hg : g < B) : RowsP g w.heap.size (RowsP g w.heap.size (IntP g w.heap.size 2)) w v ((x.map fun y => lensE y * 2).sum) := by obtain ⟨A, c, rfl, h1, h2, h3⟩ := h;refine ⟨x.map fun y => lensE y * 2, ?_⟩;rw [List.length_map];refine ⟨A, c, rfl, rfl, h1, h2, fun hn => ?_⟩;obtain ⟨ad, rfl, ha, hc⟩ := h3 hn;refine ⟨ad, rfl, ⟨aF hg ha.1, ha.2.1⟩, fun i n hi' => ?_⟩;rw [List.getElem?_map] at hi';obtain ⟨xs, hx, rfl⟩ := Option.map_eq_some_iff.1 hi';obtain ⟨u, hu, hr⟩ := hc i xs hx;exact ⟨u, hu, lettPP hr hg⟩
theorem sum_lensC : ∀ cs : List Cl, (cs.map fun x => x.2.1.length).sum = lensC cs
  | [] => rfl
  | x :: r => by simp [lensC, sum_lensC r]
theorem clsP_own {B g gb : Nat} {w : World} {cs : List Cl} (h : ClsOwn w gb cs) (hB : B ≤ gb) (hg : g < B) (hm : szCls cs ≤ 1048576) : ClsP g w.heap.size w (.slice (some ⟨gb, 0, none⟩) cs.length cs.length) (lensC cs + cs.length + cs.length) := by obtain ⟨C, h1, h2, h3⟩ := h;refine ⟨cs.map fun x => x.2.1.length, ?_⟩;rw [List.length_map];refine ⟨_, _, by rw [sum_lensC], rfl, Nat.le_refl _, by unfold szCls at hm; unfold maxLen; omega, fun hn => ⟨gb, 0, rfl, ⟨by omega, (Array.getElem?_eq_some_iff.1 h1).1, _, _, h1⟩, fun i n hi' => ?_⟩⟩;rw [List.getElem?_map] at hi';obtain ⟨x, hx, rfl⟩ := Option.map_eq_some_iff.1 hi';obtain ⟨k1, ⟨b, k2, k3, k4, k5⟩, k6⟩ := h3 i x (aB.1 hx).1 hx;refine ⟨⟨_, by rw [cell_of_row _ _ (0 + i * 3) _ _ (0, 0) h1, Nat.zero_add]; exact k1⟩, ⟨_, by rw [cell_of_row _ _ (0 + i * 3 + 1) _ _ (0, 0) h1, Nat.zero_add]; exact k2, ⟨_, _, _, rfl⟩, ?_⟩, _, by rw [cell_of_row _ _ (0 + i * 3 + 2) _ _ (0, 0) h1, Nat.zero_add]; exact k6⟩;refine ⟨x.2.1.length, _, _, (Nat.mul_one _).symm, rfl, Nat.le_refl _, by have := lensC_snoc cs i x hx; have := lensC_split cs (i + 1); unfold szCls at hm; unfold maxLen; omega, fun _ => ⟨b, 0, rfl, ⟨by omega, k4, _, _, k5⟩, fun j hj => ⟨x.2.1[j], ?_⟩⟩⟩;rw [cell_of_row _ _ (0 + j) _ _ (0, 0) k5];simp [intV]
structure MachP (g hi : Nat) (w : World) (vs ve vc vo : Value) (N0 N1 N2 N3 : Nat) : Prop where
  s : RowsP g hi (IntP g hi 1) w vs N0
  e : RowsP g hi (IntP g hi 1) w ve N1
  c : ClsP g hi w vc N2
  o : IntP g hi 1 w vo N3
  ss : ∃ A m c, vs = .slice A m c
  es : ∃ A m c, ve = .slice A m c
  cs : ∃ A m c, vc = .slice A m c
  os : ∃ A m c, vo = .slice A m c
theorem MachP.off {g hi : Nat} {w w' : World} {vs ve vc vo : Value} {N0 N1 N2 N3 : Nat} (h : MachP g hi w vs ve vc vo N0 N1 N2 N3) (hk : ∀ b : Nat, g < b → b < hi → w'.heap[b]? = w.heap[b]?) : MachP g hi w' vs ve vc vo N0 N1 N2 N3 :=
  ⟨(RowsP.offs (IntP.offs g hi 1)) _ _ _ _ h.s hk, (RowsP.offs (IntP.offs g hi 1)) _ _ _ _ h.e hk, ClsP.offs g hi _ _ _ _ h.c hk, IntP.offs g hi 1 _ _ _ _ h.o hk, h.ss, h.es, h.cs, h.os⟩
set_option maxRecDepth 100000 in
theorem mark_Mach (i0 i1 i2 : Int) (vs ve vc vo : Value) (N0 N1 N2 N3 g hi : Nat) (k : Int) (w : World) (h : MachP g hi w vs ve vc vo N0 N1 N2 N3) (hh : hi ≤ w.heap.size) (hz : N0 + N1 + N2 + N3 ≤ 100000000) (h0 : 0 ≤ k) (h1 : k ≤ 1000000000) (hg : g ≤ w.heap.size) :
  Calls Tryz.prog 20 #[.agg #[.int .i64 i0, .int .i64 i1, .int .i64 i2, vs, ve, vc, vo], .int .i64 k] w fun e w' => (∃ k', e = .returned (.int .i64 k') ∧ 0 ≤ k' ∧ k' ≤ k + 100000000) ∧ Marked g hi w w' := by
 obtain ⟨A0, m0, c0, rfl⟩ := h.ss;obtain ⟨A1, m1, c1, rfl⟩ := h.es;obtain ⟨A2, m2, c2, rfl⟩ := h.cs;obtain ⟨A3, m3, c3, rfl⟩ := h.os;obtain ⟨w0, hw0, hB, HD, hz0, HS0⟩ := box7 w (.int .i64 i0) (.int .i64 i1) (.int .i64 i2) (.slice A0 m0 c0) (.slice A1 m1 c1) (.slice A2 m2 c2) (.slice A3 m3 c3) 46;have HW0 := aA hw0; clear hw0;obtain ⟨⟨q0, q1, q2⟩, ⟨q3, q4, q5, q6⟩, qf⟩ := cells7 HD;have HDQ := HD;have H := aA (h.off fun b _ h2 => hB.block b (by omega)); clear h;have hnS : ¬ (g < w.heap.size ∧ w.heap.size < hi) := by omega
 go_enter Tryz.func20, Tryz.ntmps20;go_wp2_with fail;rw [← HW0.out];refine (mark_IntPP g hi _ N0 _ w0 (H.out.s) (by omega) (by omega)).mono ?_;rintro e w1 ⟨rfl, hw1⟩;have HW1 := aA (hw1); clear hw1;replace HD : Hid (w1.heap[w.heap.size]? = some (.cells #[.int .i64 i0, .int .i64 i1, .int .i64 i2, .slice A0 m0 c0, .slice A1 m1 c1, .slice A2 m2 c2, .slice A3 m3 c3] 46 (0, 0))) := aA ((HW1.out.off _ hnS).trans (HDQ.out));clear q0 q1 q2 q3 q4 q5 q6 qf;obtain ⟨⟨q0, q1, q2⟩, ⟨q3, q4, q5, q6⟩, qf⟩ := cells7 HD;go_wp2_with fail;refine (mark_IntPP g hi _ N1 _ w1 ((RowsP.keeps (IntP.keeps g hi 1)) _ _ _ _ H.out.e HW1.out) (by omega) (by omega)).mono ?_;rintro e w2 ⟨rfl, hw2⟩;have HW2 := aA (HW1.out.trans hw2); clear hw2;replace HD : Hid (w2.heap[w.heap.size]? = some (.cells #[.int .i64 i0, .int .i64 i1, .int .i64 i2, .slice A0 m0 c0, .slice A1 m1 c1, .slice A2 m2 c2, .slice A3 m3 c3] 46 (0, 0))) := aA ((HW2.out.off _ hnS).trans (HDQ.out));clear q0 q1 q2 q3 q4 q5 q6 qf;obtain ⟨⟨q0, q1, q2⟩, ⟨q3, q4, q5, q6⟩, qf⟩ := cells7 HD;go_wp2_with fail;refine (mark_ClsP g hi _ N2 _ w2 ((ClsP.keeps g hi) _ _ _ _ H.out.c HW2.out) (by omega) (by omega)).mono ?_;rintro e w3 ⟨rfl, hw3⟩;have HW3 := aA (HW2.out.trans hw3); clear hw3;replace HD : Hid (w3.heap[w.heap.size]? = some (.cells #[.int .i64 i0, .int .i64 i1, .int .i64 i2, .slice A0 m0 c0, .slice A1 m1 c1, .slice A2 m2 c2, .slice A3 m3 c3] 46 (0, 0))) := aA ((HW3.out.off _ hnS).trans (HDQ.out));clear q0 q1 q2 q3 q4 q5 q6 qf;obtain ⟨⟨q0, q1, q2⟩, ⟨q3, q4, q5, q6⟩, qf⟩ := cells7 HD;go_wp2_with fail;refine (mark_IntP g hi _ N3 _ w3 ((IntP.keeps g hi 1) _ _ _ _ H.out.o HW3.out) (by omega) (by omega)).mono ?_;rintro e w4 ⟨rfl, hw4⟩;have HW4 := aA (HW3.out.trans hw4); clear hw4;go_wp2_with fail;go_ret;have hb := hB.mono hg;exact ⟨⟨_, rfl, by omega, by omega⟩, ⟨⟨HW4.out.os.trans hb.os, HW4.out.tape.trans hb.tape, HW4.out.output.trans hb.output, by rw [HW4.out.size]; exact hb.size, fun b h => (HW4.out.off b (by omega)).trans (hb.block b h)⟩, fun b hb' hbS => (HW4.out.off b hbS).trans (hB.block b hb')⟩⟩
structure AsyP (g hi : Nat) (w : World) (vr vb vn vs vf : Value) (N0 N1 N2 N3 N4 : Nat) : Prop where
  r : IntP g hi 1 w vr N0
  b : IntP g hi 1 w vb N1
  n : IntP g hi 1 w vn N2
  s : RowsP g hi (IntP g hi 1) w vs N3
  f : RowsP g hi (RowsP g hi (IntP g hi 2)) w vf N4
  rs : ∃ A m c, vr = .slice A m c
  bs : ∃ A m c, vb = .slice A m c
  ns : ∃ A m c, vn = .slice A m c
  ss : ∃ A m c, vs = .slice A m c
  fs : ∃ A m c, vf = .slice A m c
theorem AsyP.off {g hi : Nat} {w w' : World} {vr vb vn vs vf : Value} {N0 N1 N2 N3 N4 : Nat} (h : AsyP g hi w vr vb vn vs vf N0 N1 N2 N3 N4) (hk : ∀ b : Nat, g < b → b < hi → w'.heap[b]? = w.heap[b]?) : AsyP g hi w' vr vb vn vs vf N0 N1 N2 N3 N4 :=
  ⟨IntP.offs g hi 1 _ _ _ _ h.r hk, IntP.offs g hi 1 _ _ _ _ h.b hk, IntP.offs g hi 1 _ _ _ _ h.n hk, (RowsP.offs (IntP.offs g hi 1)) _ _ _ _ h.s hk, (RowsP.offs (RowsP.offs (IntP.offs g hi 2))) _ _ _ _ h.f hk, h.rs, h.bs, h.ns, h.ss, h.fs⟩
set_option maxRecDepth 100000 in
theorem mark_Asy (vr vb vn vs vf : Value) (N0 N1 N2 N3 N4 g hi : Nat) (k : Int) (w : World) (h : AsyP g hi w vr vb vn vs vf N0 N1 N2 N3 N4) (hh : hi ≤ w.heap.size) (hz : N0 + N1 + N2 + N3 + N4 ≤ 100000000) (h0 : 0 ≤ k) (h1 : k ≤ 1000000000) (hg : g ≤ w.heap.size) :
  Calls Tryz.prog 22 #[.agg #[vr, vb, vn, vs, vf], .int .i64 k] w fun e w' => (∃ k', e = .returned (.int .i64 k') ∧ 0 ≤ k' ∧ k' ≤ k + 100000000) ∧ Marked g hi w w' := by
 obtain ⟨A0, m0, c0, rfl⟩ := h.rs;obtain ⟨A1, m1, c1, rfl⟩ := h.bs;obtain ⟨A2, m2, c2, rfl⟩ := h.ns;obtain ⟨A3, m3, c3, rfl⟩ := h.ss;obtain ⟨A4, m4, c4, rfl⟩ := h.fs;obtain ⟨w0, hw0, hB, HD, hz0, HS0⟩ := boxS5 w (.slice A0 m0 c0) (.slice A1 m1 c1) (.slice A2 m2 c2) (.slice A3 m3 c3) (.slice A4 m4 c4) 40;have HW0 := aA hw0; clear hw0;obtain ⟨q0, q1, q2, q3, q4, qf⟩ := cellsS5 HD;have HDQ := HD;have H := aA (h.off fun b _ h2 => hB.block b (by omega)); clear h;have hnS : ¬ (g < w.heap.size ∧ w.heap.size < hi) := by omega
 go_enter Tryz.func22, Tryz.ntmps22;go_wp2_with fail;rw [← HW0.out];refine (mark_IntP g hi _ N0 _ w0 (H.out.r) (by omega) (by omega)).mono ?_;rintro e w1 ⟨rfl, hw1⟩;have HW1 := aA (hw1); clear hw1;replace HD : Hid (w1.heap[w.heap.size]? = some (.cells #[.slice A0 m0 c0, .slice A1 m1 c1, .slice A2 m2 c2, .slice A3 m3 c3, .slice A4 m4 c4] 40 (0, 0))) := aA ((HW1.out.off _ hnS).trans (HDQ.out));clear q0 q1 q2 q3 q4 qf;obtain ⟨q0, q1, q2, q3, q4, qf⟩ := cellsS5 HD;go_wp2_with fail;refine (mark_IntP g hi _ N1 _ w1 ((IntP.keeps g hi 1) _ _ _ _ H.out.b HW1.out) (by omega) (by omega)).mono ?_;rintro e w2 ⟨rfl, hw2⟩;have HW2 := aA (HW1.out.trans hw2); clear hw2;replace HD : Hid (w2.heap[w.heap.size]? = some (.cells #[.slice A0 m0 c0, .slice A1 m1 c1, .slice A2 m2 c2, .slice A3 m3 c3, .slice A4 m4 c4] 40 (0, 0))) := aA ((HW2.out.off _ hnS).trans (HDQ.out));clear q0 q1 q2 q3 q4 qf;obtain ⟨q0, q1, q2, q3, q4, qf⟩ := cellsS5 HD;go_wp2_with fail;refine (mark_IntP g hi _ N2 _ w2 ((IntP.keeps g hi 1) _ _ _ _ H.out.n HW2.out) (by omega) (by omega)).mono ?_;rintro e w3 ⟨rfl, hw3⟩;have HW3 := aA (HW2.out.trans hw3); clear hw3;replace HD : Hid (w3.heap[w.heap.size]? = some (.cells #[.slice A0 m0 c0, .slice A1 m1 c1, .slice A2 m2 c2, .slice A3 m3 c3, .slice A4 m4 c4] 40 (0, 0))) := aA ((HW3.out.off _ hnS).trans (HDQ.out));clear q0 q1 q2 q3 q4 qf;obtain ⟨q0, q1, q2, q3, q4, qf⟩ := cellsS5 HD;go_wp2_with fail;refine (mark_IntPP g hi _ N3 _ w3 ((RowsP.keeps (IntP.keeps g hi 1)) _ _ _ _ H.out.s HW3.out) (by omega) (by omega)).mono ?_;rintro e w4 ⟨rfl, hw4⟩;have HW4 := aA (HW3.out.trans hw4); clear hw4;replace HD : Hid (w4.heap[w.heap.size]? = some (.cells #[.slice A0 m0 c0, .slice A1 m1 c1, .slice A2 m2 c2, .slice A3 m3 c3, .slice A4 m4 c4] 40 (0, 0))) := aA ((HW4.out.off _ hnS).trans (HDQ.out));clear q0 q1 q2 q3 q4 qf;obtain ⟨q0, q1, q2, q3, q4, qf⟩ := cellsS5 HD;go_wp2_with fail;refine (mark_LetPPP g hi _ N4 _ w4 ((RowsP.keeps (RowsP.keeps (IntP.keeps g hi 2))) _ _ _ _ H.out.f HW4.out) (by omega) (by omega)).mono ?_;rintro e w5 ⟨rfl, hw5⟩;have HW5 := aA (HW4.out.trans hw5); clear hw5;go_wp2_with fail;go_ret;have hb := hB.mono hg;exact ⟨⟨_, rfl, by omega, by omega⟩, ⟨⟨HW5.out.os.trans hb.os, HW5.out.tape.trans hb.tape, HW5.out.output.trans hb.output, by rw [HW5.out.size]; exact hb.size, fun b h => (HW5.out.off b (by omega)).trans (hb.block b h)⟩, fun b hb' hbS => (HW5.out.off b hbS).trans (hB.block b hb')⟩⟩
theorem NetW.off {w w' : World} {g hi : Nat} {ve vi vn : Value} {n : Net} (h : NetW w g hi ve vi vn n) (hh : hi ≤ w.heap.size) (hk : ∀ b : Nat, g ≤ b → b < w.heap.size → w'.heap[b]? = w.heap[b]?) : NetW w' g hi ve vi vn n :=
  ⟨h.e.keep hh hk, h.i.keep fun b h2 => hk b (by omega) (by omega), h.n.keep fun b h2 => hk b (by omega) (by omega)⟩
theorem MachO.p {B g : Nat} {w : World} {vs ve vc vo : Value} {m : Mach} (h : MachO B w vs ve vc vo m) (hg : g < B) (hz : szMach m ≤ 1048576) : MachP g w.heap.size w vs ve vc vo (lens m.start) (lens m.send) (lensC m.cls + m.cls.length + m.cls.length) m.out.length := by obtain ⟨h1, h2, ⟨gb, rfl, h3, h4⟩, h5⟩ := h;exact ⟨rowsP_own h1 hg, rowsP_own h2 hg, clsP_own h4 h3 hg (by unfold szMach at hz; omega), intP_row h5 hg (by unfold szMach at hz; unfold maxLen; omega), h1.elim fun _ h => h.1.isSlice, h2.elim fun _ h => h.1.isSlice, ⟨_, _, _, rfl⟩, h5.isSlice⟩
theorem AsyO.p {B g : Nat} {w : World} {vr vb vn vs vf : Value} {x : Asy} (h : AsyO B w vr vb vn vs vf x) (hg : g < B) (hz : szAsy x ≤ 1048576) : AsyP g w.heap.size w vr vb vn vs vf x.rounds.length x.before.length x.now.length (lens x.slots) ((x.flight.map fun y => lensE y * 2).sum) :=
  ⟨intP_row h.r hg (by unfold szAsy at hz; unfold maxLen; omega), intP_row h.b hg (by unfold szAsy at hz; unfold maxLen; omega), intP_row h.n hg (by unfold szAsy at hz; unfold maxLen; omega), rowsP_own h.s hg, lettPPP h.f hg, h.r.isSlice, h.b.isSlice, h.n.isSlice, h.s.elim fun _ h => h.1.isSlice, h.f.isSlice⟩
theorem machP_sum {m : Mach} (hz : szMach m ≤ 1048576) : lens m.start + lens m.send + (lensC m.cls + m.cls.length + m.cls.length) + m.out.length ≤ 100000000 := by unfold szMach szRows szCls at hz;omega
theorem asyP_sum {x : Asy} (hz : szAsy x ≤ 1048576) : x.rounds.length + x.before.length + x.now.length + lens x.slots + (x.flight.map fun y => lensE y * 2).sum ≤ 100000000 := by have := sum_lens3 x.flight;unfold szAsy szRows at hz;omega
end
end Go.Proofs.YtjklbjmdgiddcaaGreat
