/-
  Small lemmas and contracts that the texts of this claim share. No condition.
-/
import Derived.Test.YtjklbjmdgiddcaaGreatGArgsN
namespace Go.Proofs.YtjklbjmdgiddcaaGreat
open Go.RowKit
set_option linter.all false
theorem EndssR.below {w w' : World} {B : Nat} {v : Value} {ess : List Ends} (h : EndssR w (· < B) v ess) (hb : Below B w w') : EndssR w' (· < B) v ess := h.keep (fun _ h => h) fun b hB => hb.block b hB
theorem EndssR.more {w : World} {B B' : Nat} {v : Value} {ess : List Ends} (h : EndssR w (· < B) v ess) (hB : B ≤ B') : EndssR w (· < B') v ess := h.keep (fun _ h => aF h hB) fun _ _ => rfl
def Fr (B : Nat) (w : World) (b : Nat) : Prop := B ≤ b ∧ b < w.heap.size ∧ ∃ cur t, w.heap[b]? = some (.cells cur t (0, 0))
theorem Fr.up {B B' b : Nat} {w w' : World} (h : Fr B w b) (hB : B' ≤ B) (hs : w.heap.size ≤ w'.heap.size) (hk : w'.heap[b]? = w.heap[b]?) : Fr B' w' b := by obtain ⟨h1, h2, cur, t, h3⟩ := h;exact ⟨by omega, by omega, cur, t, hk.trans h3⟩
def Ends3R (w : World) (S : Nat → Prop) (v : Value) (x : List (List Ends)) : Prop :=
  ∃ A c, v = .slice A x.length c ∧ x.length ≤ c ∧ c ≤ maxLen ∧ (0 < x.length → ∃ ad, A = some ad ∧ S ad.block ∧
    ∀ k es, x[k]? = some es → ∃ u, w.cell? (ad.add k) = some u ∧ EndssR w S u es)
theorem Ends3R.keep {w w' : World} {S S' : Nat → Prop} {v : Value} {x : List (List Ends)} (h : Ends3R w S v x) (hS : ∀ b, S b → S' b) (hk : ∀ b, S b → w'.heap[b]? = w.heap[b]?) : Ends3R w' S' v x := by obtain ⟨A, c, e, h1, h2, h4⟩ := h;refine ⟨A, c, e, h1, h2, fun hn => ?_⟩;obtain ⟨ad, e', hb, hc⟩ := h4 hn;refine ⟨ad, e', hS _ hb, fun k x hx => ?_⟩;obtain ⟨u, k1, k2⟩ := hc k x hx;exact ⟨u, (World.cell?_of_block (by rw [block_add]; exact hk _ hb)).trans k1, k2.keep hS hk⟩
theorem Ends3R.below {w w' : World} {B : Nat} {v : Value} {x : List (List Ends)} (h : Ends3R w (· < B) v x) (hb : Below B w w') : Ends3R w' (· < B) v x := h.keep (fun _ h => h) fun b hB => hb.block b hB
theorem Ends3R.more {w : World} {B B' : Nat} {v : Value} {x : List (List Ends)} (h : Ends3R w (· < B) v x) (hB : B ≤ B') : Ends3R w (· < B') v x := h.keep (fun _ h => aF h hB) fun _ _ => rfl
theorem Ends3R.isSlice {w : World} {S : Nat → Prop} {v : Value} {xs : List (List Ends)} (h : Ends3R w S v xs) : ∃ A m c, v = .slice A m c := by obtain ⟨A, c, rfl, _⟩ := h;exact ⟨_, _, _, rfl⟩
def lens3E : List (List Ends) → Nat
  | [] => 0
  | xs :: r => szEnds xs + lens3E r
def szEnds3 (xss : List (List Ends)) : Nat := xss.length + lens3E xss
theorem lens3E_append : ∀ (a b : List (List Ends)), lens3E (a ++ b) = lens3E a + lens3E b
  | [], b => by simp [lens3E]
  | x :: a, b => by simp [lens3E, lens3E_append a b]; omega
theorem lens3E_snoc (xss : List (List Ends)) (k : Nat) (xs : List Ends) (h : xss[k]? = some xs) : lens3E (xss.take (k + 1)) = lens3E (xss.take k) + szEnds xs := by obtain ⟨hk, rfl⟩ := aB.1 h;rw [List.take_succ_eq_append_getElem hk, lens3E_append];rfl
theorem lens3E_split (xss : List (List Ends)) (k : Nat) : lens3E xss = lens3E (xss.take k) + lens3E (xss.drop k) := by rw [← lens3E_append, List.take_append_drop]
theorem lens3E_all (xss : List (List Ends)) (k : Nat) (h : xss.length ≤ k) : lens3E (xss.take k) = lens3E xss := by rw [List.take_of_length_le h]
def SzE3Rel (xss : List (List Ends)) (left : Int) (w : World) (l i : Value) (wr : World) : Prop :=
  w = wr ∧ ∃ (k q : Nat), k ≤ xss.length ∧ q = lens3E (xss.take k) ∧ i = .int .i64 k ∧ l = .int .i64 (left - xss.length - q) ∧ (q : Int) ≤ left - xss.length
theorem sz_LetS (A : Option Addr) (n c : Nat) (left : Int) (w : World) (hn : n ≤ maxLen) (hl : 0 ≤ left) (hl' : left ≤ 1048576) :
    Calls Tryz.prog 95 #[.slice A n c, .int .i64 left] w fun e w' => e = .returned (.int .i64 (szR left n)) ∧ w = w' := by
  unfold maxLen at hn;go_enter Tryz.func95, Tryz.ntmps95;go_wp2
  all_goals
    go_ret;exact ⟨ret_int (by unfold szR; split <;> omega), rfl⟩
theorem sz_LetSS (v : Value) (xss : List Ends) (left : Int) (w : World) (h : EndssR w (· < w.heap.size) v xss) (hl : 0 ≤ left) (hl' : left ≤ 1048576) :
  Calls Tryz.prog 70 #[v, .int .i64 left] w fun e w' => e = .returned (.int .i64 (szR left (szEnds xss))) ∧ w = w' := by
 obtain ⟨A, c, rfl, h1, h2, h3⟩ := h;have hL : xss.length ≤ 9223372036854775807 := by unfold maxLen at h2; omega
 clear h2;by_cases hs : (xss.length : Int) ≤ left
 ·
  go_enter Tryz.func70, Tryz.ntmps70;go_wp2;go_loopw [1, 5] (fun l i wr => SzERel xss left w l i wr) (fun _ i _ => xss.length - (intOf i).toNat)
  case atStart => exact ⟨rfl, 0, 0, Nat.zero_le _, rfl, rfl, by simp, by omega⟩
  case round =>
   obtain ⟨rfl, k, q, hk, hq, rfl, rfl, hle⟩ := hrel;have HQ := aA hq; clear hq;by_cases hlt : k < xss.length
   ·
    obtain ⟨xs, hxs⟩ : ∃ xs, xss[k]? = some xs := ⟨xss[k], aC hlt⟩
    obtain ⟨ad, rfl, hb, hc⟩ := h3 (by omega);obtain ⟨u, hu, hr⟩ := hc k xs hxs;obtain ⟨A', c', rfl, g1, g2, -⟩ := hr;have HS := aA (lensE_snoc xss k xs hxs);have HT := aA (lensE_split xss (k + 1));clear h3 hc hxs;by_cases hx : (xs.length : Int) ≤ left - xss.length - q
    ·
     have h5 : szR (left - xss.length - q) xs.length = left - xss.length - q - xs.length := by unfold szR; rw [if_pos hx]
     go_wp2_with (go_at_call 95; refine (sz_LetS A' xs.length c' _ _ (by omega) (by omega) (by omega)).mono ?_; rintro e w' ⟨rfl, rfl⟩; rw [h5])
     go_roundw
     case rel => exact ⟨rfl, k + 1, q + xs.length, by omega, by rw [HS.out, HQ.out], by go_num, by go_num, by omega⟩
     case measure => simp [intOf]; omega
    ·
     have h5 : szR (left - xss.length - q) xs.length = -1 := by unfold szR; rw [if_neg hx]
     go_wp2_with (go_at_call 95; refine (sz_LetS A' xs.length c' _ _ (by omega) (by omega) (by omega)).mono ?_; rintro e w' ⟨rfl, rfl⟩; rw [h5])
     go_ret;have h6 := HT.out;have h7 := HS.out;have h8 := HQ.out;exact ⟨ret_int (by unfold szR szEnds; rw [if_neg (by omega)]), rfl⟩
   · go_wp2;go_ret;have h6 := lensE_all xss k (by omega);have h8 := HQ.out;exact ⟨ret_int (by unfold szR szEnds; rw [if_pos (by omega)]; omega), rfl⟩
 · have H := aA (show szR left (szEnds xss) = -1 by unfold szR szEnds; rw [if_neg (by omega)]);go_enter Tryz.func70, Tryz.ntmps70;go_wp2;go_ret;exact ⟨ret_int H.out.symm, rfl⟩
theorem eq_Let (x : Int × Int) (w : World) :
    Calls Tryz.prog 136 #[.agg #[.int .i64 x.1, .int .i64 x.2], .agg #[.int .i64 x.1, .int .i64 x.2]] w fun e w' => e = .returned (.bool true) ∧ Below w.heap.size w w' := by
  go_enter Tryz.func136, Tryz.ntmps136;go_wp2;go_ret;exact ⟨rfl, (by repeat (first | exact Below.refl _ _ | refine Below.drew ?_ | refine bl_alloc ?_ _ | refine Below.setCell ?_ (by simp <;> omega) _))⟩
theorem to_Let (x : Int × Int) (w : World) :
    Calls Tryz.prog 124 #[.agg #[.int .i64 x.1, .int .i64 x.2]] w fun e w' => e = .returned (.agg #[.int .i64 x.1, .int .i64 x.2]) ∧ Below w.heap.size w w' := by
  go_enter Tryz.func124, Tryz.ntmps124;go_wp2;refine bodyPost_ret (v := .agg #[.int .i64 x.1, .int .i64 x.2]) (by simp [results, Tryz.results124, go_sem]) rfl ⟨rfl, ?_⟩
  repeat (first | exact Below.refl _ _ | refine Below.drew ?_ | refine bl_alloc ?_ _ | refine Below.setCell ?_ (by simp <;> omega) _)
theorem eq_LetS (v v' : Value) (xs : Ends) (w : World) (h : EndsB w w.heap.size v xs) (h' : EndsB w w.heap.size v' xs) :
  Calls Tryz.prog 116 #[v, v'] w fun e w' => e = .returned (.bool true) ∧ Below w.heap.size w w' := by
 obtain ⟨A, c, rfl, h1, h2, -, h3⟩ := h;obtain ⟨A', c', rfl, h1', h2', -, h3'⟩ := h';unfold maxLen at h2;go_enter Tryz.func116, Tryz.ntmps116;go_wp2;go_loopw [5] (fun i wr => EqERel xs.length w i wr) (fun i _ => xs.length - (intOf i).toNat)
 case atStart => exact ⟨Below.refl _ _, 0, Nat.zero_le _, rfl⟩
 case round =>
  obtain ⟨hbl, k, hk, rfl⟩ := hrel;by_cases hlt : k < xs.length
  ·
   obtain ⟨x, hx⟩ : ∃ x, xs[k]? = some x := ⟨xs[k], aC hlt⟩
   obtain ⟨b, o, rfl, hb, hc⟩ := h3 (by omega);obtain ⟨b', o', rfl, hb', hc'⟩ := h3' (by omega);have q0 := (hbl.cell (p := ⟨b, o + k * 2, none⟩) hb).trans (hc k x hx).1;have q1 := (hbl.cell (p := ⟨b, o + k * 2 + 1, none⟩) hb).trans (hc k x hx).2;have p0 := (hbl.cell (p := ⟨b', o' + k * 2, none⟩) hb').trans (hc' k x hx).1;have p1 := (hbl.cell (p := ⟨b', o' + k * 2 + 1, none⟩) hb').trans (hc' k x hx).2;have hzw := hbl.size;clear h3 hc hx h3' hc';go_wp2_with fail;refine aH (S := fun w' => w'.cell? ⟨b, o + k * 2, none⟩ = some (.int .i64 x.1) ∧ w'.cell? ⟨b, o + k * 2 + 1, none⟩ = some (.int .i64 x.2) ∧ w'.cell? ⟨b', o' + k * 2, none⟩ = some (.int .i64 x.1) ∧ w'.cell? ⟨b', o' + k * 2 + 1, none⟩ = some (.int .i64 x.2)) (by kernel_rfl) ?_ (fun hHeld => ?_)
   · go_keep
   refine tk 0 17 rfl rfl ?_;refine tk 1 18 rfl rfl ?_;refine tk 2 19 rfl rfl ?_;refine tk 3 20 rfl rfl ?_;refine tk 4 21 rfl rfl ?_;refine tk 5 22 rfl rfl ?_;refine tk 6 23 rfl rfl ?_;refine stk 7 24 ?_;refine tr 8 rfl (by kernel_rfl) (fun K hK => ?_);go_simp;go_at_call 136;refine (eq_Let x _).mono ?_;rintro e w1 ⟨rfl, hb1⟩;have hB01 := ((Below.refl wr.heap.size wr).drew).trans hb1;have hB1 := hbl.trans (hB01.mono hbl.size);have r0 := (hB01.cell (p := ⟨b, o + k * 2, none⟩) (show b < wr.heap.size by omega)).trans q0;have r1 := (hB01.cell (p := ⟨b, o + k * 2 + 1, none⟩) (show b < wr.heap.size by omega)).trans q1;have t0 := (hB01.cell (p := ⟨b', o' + k * 2, none⟩) (show b' < wr.heap.size by omega)).trans p0;have t1 := (hB01.cell (p := ⟨b', o' + k * 2 + 1, none⟩) (show b' < wr.heap.size by omega)).trans p1;refine hK.out _ _ ?_ (fun hHeld => ?_)
   · go_keep
   clear hK K
   try simp only [Act.put, pu]
   refine stk 9 26 ?_;refine aK (by kernel_rfl) ?_ _;go_wp2_with fail;go_roundw
   case rel => exact ⟨hB1, k + 1, by omega, by go_num⟩
   case measure => simp [intOf]; omega
  · go_wp2;go_ret;exact ⟨rfl, hbl⟩
theorem eq_LetSS (v v' : Value) (xss : List Ends) (w : World) (h : EndssR w (· < w.heap.size) v xss) (h' : EndssR w (· < w.heap.size) v' xss) :
  Calls Tryz.prog 87 #[v, v'] w fun e w' => e = .returned (.bool true) ∧ Below w.heap.size w w' := by
 obtain ⟨A, c, rfl, h1, h2, h3⟩ := h;obtain ⟨A', c', rfl, h1', h2', h3'⟩ := h';unfold maxLen at h2;go_enter Tryz.func87, Tryz.ntmps87;go_wp2;go_loopw [5] (fun i wr => EqERel xss.length w i wr) (fun i _ => xss.length - (intOf i).toNat)
 case atStart => exact ⟨Below.refl _ _, 0, Nat.zero_le _, rfl⟩
 case round =>
  obtain ⟨hbl, k, hk, rfl⟩ := hrel;by_cases hlt : k < xss.length
  ·
   obtain ⟨x, hx⟩ : ∃ x, xss[k]? = some x := ⟨xss[k], aC hlt⟩
   obtain ⟨ad, rfl, hb, hc⟩ := h3 (by omega);obtain ⟨ad', rfl, hb', hc'⟩ := h3' (by omega);obtain ⟨u, k1, hr⟩ := hc k x hx;obtain ⟨u', k2, hr'⟩ := hc' k x hx;have q0 := (hbl.cell (p := ad.add k) (by rw [block_add]; exact hb)).trans k1;have p0 := (hbl.cell (p := ad'.add k) (by rw [block_add]; exact hb')).trans k2;have hzw := hbl.size;have hba : (ad.add k).block < wr.heap.size := by rw [block_add]; omega
   have hba' : (ad'.add k).block < wr.heap.size := by rw [block_add]; omega
   have HR := aA ((hr.below hbl).more hbl.size);have HR' := aA ((hr'.below hbl).more hbl.size);clear h3 hc hx h3' hc' hr hr' k1 k2;go_wp2_with fail;refine aH (S := fun w' => w'.cell? (ad.add k) = some u ∧ w'.cell? (ad'.add k) = some u') (by kernel_rfl) ?_ (fun hHeld => ?_)
   · go_keep
   refine tk 0 17 rfl rfl ?_;refine tk 1 18 rfl rfl ?_;refine tk 2 19 rfl rfl ?_;refine tk 3 20 rfl rfl ?_;refine tk 4 21 rfl rfl ?_;refine tk 5 22 rfl rfl ?_;refine tk 6 23 rfl rfl ?_;refine stk 7 24 ?_;refine tr 8 rfl (by kernel_rfl) (fun K hK => ?_);go_simp;go_at_call 116;have hd : Below wr.heap.size wr wr.drew := (Below.refl _ _).drew;refine (eq_LetS u u' x wr.drew (HR.out.below hd) (HR'.out.below hd)).mono ?_;rintro e w1 ⟨rfl, hb1⟩;have hB01 := ((Below.refl wr.heap.size wr).drew).trans hb1;have hB1 := hbl.trans (hB01.mono hbl.size);have r0 := (hB01.cell hba).trans q0;have t0 := (hB01.cell hba').trans p0;refine hK.out _ _ ?_ (fun hHeld => ?_)
   · go_keep
   clear hK K
   try simp only [Act.put, pu]
   refine stk 9 26 ?_;refine aK (by kernel_rfl) ?_ _;go_wp2_with fail;go_roundw
   case rel => exact ⟨hB1, k + 1, by omega, by go_num⟩
   case measure => simp [intOf]; omega
  · go_wp2;go_ret;exact ⟨rfl, hbl⟩
theorem letInfo : (Tryz.prog.info? 129).map (fun i => (i.zero, i.size, i.bytes)) = some (some (.agg #[.int .i64 0, .int .i64 0]), 2, 16) := by kernel_rfl
theorem letsInfo : (Tryz.prog.info? 102).map (fun i => (i.zero, i.size, i.bytes)) = some (some (.slice none 0 0), 1, 24) := by kernel_rfl
def ToLRel (xs : Ends) (w : World) (i : Value) (wr : World) : Prop :=
  ∃ (k : Nat) (C : Array Value), k ≤ xs.length ∧ i = .int .i64 k ∧ wr.heap[w.heap.size]? = some (.cells C 129 (0, 0)) ∧ C.size = xs.length * 2 ∧ Below w.heap.size w wr ∧ w.heap.size < wr.heap.size ∧ EndsTo xs C k
theorem to_LetS (v : Value) (xs : Ends) (w : World) (h : EndsB w w.heap.size v xs) (hn : xs.length ≤ 1048576) :
  Calls Tryz.prog 103 #[v] w fun e w' => ∃ v', e = .returned v' ∧ (∃ A m c, v' = .slice A m c) ∧ EndsR w' (Fr w.heap.size w') v' xs ∧ Below w.heap.size w w' ∧ w.heap.size < w'.heap.size := by
 obtain ⟨A, c, rfl, h1, h2, h4, h3⟩ := h;have H4 := aA h4; clear h4;have hmk := fun W => run_make2 (P := Tryz.prog) 102 129 _ 16 Tryz.underlying102 letInfo xs.length (by omega) (by omega) W
 go_enter Tryz.func103, Tryz.ntmps103;go_wp2;clear hmk;go_loopw [4] (fun i wr => ToLRel xs w i wr) (fun i _ => xs.length - (intOf i).toNat)
 case atStart => exact ⟨0, _, Nat.zero_le _, rfl, heap_alloc_new w _, by simp [madeCells], bl_alloc (Below.refl _ _) _, by simp, fun j x hj => by omega⟩
 case round =>
  obtain ⟨k, C, hk, rfl, hblk, hC, hbl, hgt, hits⟩ := hrel;have hsz := hbl.size;have HI := aA hits; clear hits;have HB := aA hblk; clear hblk;have HC := aA hC; clear hC;by_cases hlt : k < xs.length
  ·
   obtain ⟨x, hx⟩ : ∃ x, xs[k]? = some x := ⟨xs[k], aC hlt⟩
   obtain ⟨b, o, rfl, hb, hc⟩ := h3 (by omega);have q0 := (hbl.cell (p := ⟨b, o + k * 2, none⟩) hb).trans (hc k x hx).1;have q1 := (hbl.cell (p := ⟨b, o + k * 2 + 1, none⟩) hb).trans (hc k x hx).2;have HX := aA hx;clear h3 hc hx;go_wp2_with fail;refine (to_Let x wr).mono ?_;rintro e w1 ⟨rfl, hb1⟩;have hblk1 : w1.heap[w.heap.size]? = some (.cells C 129 (0, 0)) := (hb1.block _ hgt).trans HB.out;have hcell : ∀ j, j < 2 → ∃ u, w1.cell? ⟨w.heap.size, k * 2 + j, none⟩ = some u := by intro j hj;rw [cell_of_row w1 _ (k * 2 + j) _ _ (0, 0) hblk1, Array.getElem?_eq_getElem (by rw [HC.out]; omega)];exact ⟨_, rfl⟩
   have hfr : ∀ j, w1.frozen? ⟨w.heap.size, j, none⟩ = false := by intro j; simp [World.frozen?, hblk1]
   obtain ⟨o0, z0⟩ := hcell 0 (by omega);obtain ⟨o1, z1⟩ := hcell 1 (by omega);rw [Nat.add_zero] at z0;have y0 := hfr (k * 2);have y1 := hfr (k * 2 + 1);clear hcell hfr;have hB1 := hbl.trans (hb1.mono hsz);have hgt1 : w.heap.size < w1.heap.size := by have := hb1.size; omega
   have HB1 := aA hblk1; clear hblk1;go_wp2_with fail;go_roundw
   case rel =>
    refine ⟨k + 1, _, by omega, by go_num, heap_set_same (heap_set_same HB1.out _) _, by simp [HC.out], ?_, by simp only [size_setCell]; exact hgt1, HI.out.next HX.out HC.out hlt⟩
    iterate 2 (refine Below.setCell ?_ (by simp) _)
    exact hB1
   case measure => simp [intOf]; omega
  · go_wp2;go_ret;refine ⟨_, rfl, ⟨_, _, _, rfl⟩, ⟨_, _, rfl, Nat.le_refl _, by unfold maxLen; omega, H4.out, fun hn => ⟨_, 0, rfl, ⟨Nat.le_refl _, hgt, _, _, HB.out⟩, fun j e he => ?_⟩⟩, hbl, hgt⟩;have hj : j < xs.length := (aB.1 he).1;obtain ⟨k1, k2⟩ := HI.out j e (by omega) he;exact ⟨by rw [cell_of_row _ _ (0 + j * 2) _ _ (0, 0) HB.out, Nat.zero_add]; exact k1, by rw [cell_of_row _ _ (0 + j * 2 + 1) _ _ (0, 0) HB.out, Nat.zero_add]; exact k2⟩
def ToLsRel (xss : List Ends) (w : World) (i : Value) (wr : World) : Prop :=
  ∃ (k : Nat) (C : Array Value), k ≤ xss.length ∧ i = .int .i64 k ∧ wr.heap[w.heap.size]? = some (.cells C 102 (0, 0)) ∧ C.size = xss.length ∧ Below w.heap.size w wr ∧ w.heap.size < wr.heap.size ∧
    (∀ (j : Nat) (u : Value), C[j]? = some u → ∃ A m c, u = .slice A m c) ∧ ∀ j xs, j < k → xss[j]? = some xs → ∃ u, C[j]? = some u ∧ EndsR wr (Fr (w.heap.size + 1) wr) u xs
theorem to_LetSS (v : Value) (xss : List Ends) (w : World) (h : EndssR w (· < w.heap.size) v xss) (hn : szEnds xss ≤ 1048576) :
  Calls Tryz.prog 79 #[v] w fun e w' => ∃ v', e = .returned v' ∧ EndssR w' (Fr w.heap.size w') v' xss ∧ Below w.heap.size w w' := by
 obtain ⟨A, c, rfl, h1, h2, h3⟩ := h;have hn' : xss.length ≤ 1048576 := by unfold szEnds at hn; omega
 have HSZ := aA (show ∀ (k : Nat) (x : Ends), xss[k]? = some x → x.length ≤ 1048576 from fun k x hx => by
  have := lensE_snoc xss k x hx;have := lensE_split xss (k + 1);unfold szEnds at hn
  omega)
 clear hn;have hmk := fun W => run_make1 (P := Tryz.prog) 101 102 (.slice none 0 0) 24 Tryz.underlying101 letsInfo rfl xss.length (by omega) (by omega) W
 go_enter Tryz.func79, Tryz.ntmps79;go_wp2;clear hmk;go_loopw [4] (fun i wr => ToLsRel xss w i wr) (fun i _ => xss.length - (intOf i).toNat)
 case atStart => exact ⟨0, _, Nat.zero_le _, rfl, heap_alloc_new w _, by simp [rowOf], bl_alloc (Below.refl _ _) _, by simp, fun j u hu => ⟨none, 0, 0, by have h := hu; simp [rowOf, Array.getElem?_replicate] at h; exact h.2.symm⟩, fun j x hj => by omega⟩
 case round =>
  obtain ⟨k, C, hk, rfl, hblk, hC, hbl, hgt, hsl, hits⟩ := hrel;have hsz := hbl.size;have HI := aA hits; clear hits;have HB := aA hblk; clear hblk;have HC := aA hC; clear hC;have HL := aA hsl; clear hsl;by_cases hlt : k < xss.length
  ·
   obtain ⟨xs, hx⟩ : ∃ x, xss[k]? = some x := ⟨xss[k], aC hlt⟩
   obtain ⟨ad, rfl, hb, hc⟩ := h3 (by omega);obtain ⟨u, hu, hr⟩ := hc k xs hx;have hcell : wr.cell? (ad.add k) = some u := (hbl.cell (p := ad.add k) (by rw [block_add]; exact hb)).trans hu;have HR := aA ((hr.below hbl).more hsz);have hxz := HSZ.out k xs hx;have HX := aA hx;clear h3 hc hx hr hu;go_wp2_with fail;refine (to_LetS u xs wr HR.out hxz).mono ?_;rintro e w1 ⟨v', rfl, ⟨A', m', c', rfl⟩, ho, hb1, hs1⟩;have hblk1 : w1.heap[w.heap.size]? = some (.cells C 102 (0, 0)) := (hb1.block _ hgt).trans HB.out;obtain ⟨o0, z00⟩ : ∃ u, C[k]? = some u := ⟨_, Array.getElem?_eq_getElem (by rw [HC.out]; omega)⟩
   obtain ⟨Ao, mo, co, rfl⟩ := HL.out k _ z00;have z0 : w1.cell? ⟨w.heap.size, k, none⟩ = some (.slice Ao mo co) := by rw [cell_of_row w1 _ k _ _ (0, 0) hblk1]; exact z00
   have hfr : w1.frozen? ⟨w.heap.size, k, none⟩ = false := by simp [World.frozen?, hblk1]
   have hB1 := hbl.trans (hb1.mono hsz);have HB1 := aA hblk1; clear hblk1 z00;have HO := aA ho; clear ho;have hz1 := hb1.size;go_wp2_with fail;go_roundw
   case rel =>
    refine ⟨k + 1, _, by omega, by go_num, heap_set_same HB1.out _, by simp [HC.out], Below.setCell hB1 (by simp) _, by simp only [size_setCell]; omega, fun j u hu => ?_, fun j y hj hy => ?_⟩
    ·
     by_cases hjk : j = k
     · subst hjk;rw [Array.getElem?_setIfInBounds_self_of_lt (by rw [HC.out]; omega)] at hu;exact ⟨_, _, _, (aE hu).symm⟩
     · rw [Array.getElem?_setIfInBounds_ne (by omega)] at hu;exact HL.out j u hu
    ·
     have hk1 : ∀ b, w.heap.size < b → (w1.setCell ⟨w.heap.size, k, none⟩ (.slice A' m' c')).heap[b]? = w1.heap[b]? := fun b hb => Below.heap_setCell _ _ _ _ (by simp; omega)
     by_cases hjk : j < k
     · obtain ⟨u', hu', hr'⟩ := HI.out j y hjk hy;refine ⟨u', by rw [Array.getElem?_setIfInBounds_ne (by omega)]; exact hu', hr'.keep (fun b hb => hb.up (Nat.le_refl _) (by simp only [size_setCell]; omega) ((hk1 b hb.1).trans (hb1.block b hb.2.1))) fun b hb => (hk1 b hb.1).trans (hb1.block b hb.2.1)⟩
     ·
      obtain rfl : j = k := by omega
      obtain rfl := aE (HX.out.symm.trans hy);exact ⟨_, Array.getElem?_setIfInBounds_self_of_lt (by rw [HC.out]; omega), HO.out.keep (fun b hb => hb.up (by omega) (by simp only [size_setCell]; omega) (hk1 b (aF hgt hb.1))) fun b hb => hk1 b (aF hgt hb.1)⟩
   case measure => simp [intOf]; omega
  · go_wp2;go_ret;refine ⟨_, rfl, ⟨_, _, rfl, Nat.le_refl _, by unfold maxLen; omega, fun hn => ⟨_, rfl, ⟨Nat.le_refl _, hgt, _, _, HB.out⟩, fun j xs hx => ?_⟩⟩, hbl⟩;have hj : j < xss.length := (aB.1 hx).1;obtain ⟨u, k1, k2⟩ := HI.out j xs (by omega) hx;refine ⟨u, ?_, k2.keep (fun b hb => hb.up (by omega) (Nat.le_refl _) rfl) fun _ _ => rfl⟩;rw [show (⟨w.heap.size, 0, none⟩ : Addr).add j = ⟨w.heap.size, j, none⟩ by unfold Addr.add; split <;> simp_all, cell_of_row _ _ j _ _ (0, 0) HB.out];exact k1
theorem sz_LetSSS (v : Value) (xss : List (List Ends)) (left : Int) (w : World) (h : Ends3R w (· < w.heap.size) v xss) (hl : 0 ≤ left) (hl' : left ≤ 1048576) :
  Calls Tryz.prog 33 #[v, .int .i64 left] w fun e w' => e = .returned (.int .i64 (szR left (szEnds3 xss))) ∧ w = w' := by
 obtain ⟨A, c, rfl, h1, h2, h3⟩ := h;have hL : xss.length ≤ 9223372036854775807 := by unfold maxLen at h2; omega
 clear h2;by_cases hs : (xss.length : Int) ≤ left
 ·
  go_enter Tryz.func33, Tryz.ntmps33;go_wp2;go_loopw [1, 5] (fun l i wr => SzE3Rel xss left w l i wr) (fun _ i _ => xss.length - (intOf i).toNat)
  case atStart => exact ⟨rfl, 0, 0, Nat.zero_le _, rfl, rfl, by simp, by omega⟩
  case round =>
   obtain ⟨rfl, k, q, hk, hq, rfl, rfl, hle⟩ := hrel;have HQ := aA hq; clear hq;by_cases hlt : k < xss.length
   ·
    obtain ⟨xs, hxs⟩ : ∃ xs, xss[k]? = some xs := ⟨xss[k], aC hlt⟩
    obtain ⟨ad, rfl, hb, hc⟩ := h3 (by omega);obtain ⟨u, hu, hr⟩ := hc k xs hxs;have HR := aA hr; clear hr;have HS := aA (lens3E_snoc xss k xs hxs);have HT := aA (lens3E_split xss (k + 1));clear h3 hc hxs;by_cases hx : ((szEnds xs) : Int) ≤ left - xss.length - q
    ·
     have h5 : szR (left - xss.length - q) (szEnds xs) = left - xss.length - q - (szEnds xs) := by unfold szR; rw [if_pos hx]
     go_wp2_with (go_at_call 70; refine (sz_LetSS _ xs _ _ HR.out (by omega) (by omega)).mono ?_; rintro e w' ⟨rfl, rfl⟩; rw [h5])
     go_roundw
     case rel => exact ⟨rfl, k + 1, q + (szEnds xs), by omega, by rw [HS.out, HQ.out], by go_num, by go_num, by omega⟩
     case measure => simp [intOf]; omega
    ·
     have h5 : szR (left - xss.length - q) (szEnds xs) = -1 := by unfold szR; rw [if_neg hx]
     go_wp2_with (go_at_call 70; refine (sz_LetSS _ xs _ _ HR.out (by omega) (by omega)).mono ?_; rintro e w' ⟨rfl, rfl⟩; rw [h5])
     go_ret;have h6 := HT.out;have h7 := HS.out;have h8 := HQ.out;exact ⟨ret_int (by unfold szR szEnds3; rw [if_neg (by omega)]), rfl⟩
   · go_wp2;go_ret;have h6 := lens3E_all xss k (by omega);have h8 := HQ.out;exact ⟨ret_int (by unfold szR szEnds3; rw [if_pos (by omega)]; omega), rfl⟩
 · have H := aA (show szR left (szEnds3 xss) = -1 by unfold szR szEnds3; rw [if_neg (by omega)]);go_enter Tryz.func33, Tryz.ntmps33;go_wp2;go_ret;exact ⟨ret_int H.out.symm, rfl⟩
theorem eq_LetSSS (v v' : Value) (xss : List (List Ends)) (w : World) (h : Ends3R w (· < w.heap.size) v xss) (h' : Ends3R w (· < w.heap.size) v' xss) :
  Calls Tryz.prog 48 #[v, v'] w fun e w' => e = .returned (.bool true) ∧ Below w.heap.size w w' := by
 obtain ⟨A, c, rfl, h1, h2, h3⟩ := h;obtain ⟨A', c', rfl, h1', h2', h3'⟩ := h';unfold maxLen at h2;go_enter Tryz.func48, Tryz.ntmps48;go_wp2;go_loopw [5] (fun i wr => EqERel xss.length w i wr) (fun i _ => xss.length - (intOf i).toNat)
 case atStart => exact ⟨Below.refl _ _, 0, Nat.zero_le _, rfl⟩
 case round =>
  obtain ⟨hbl, k, hk, rfl⟩ := hrel;by_cases hlt : k < xss.length
  ·
   obtain ⟨x, hx⟩ : ∃ x, xss[k]? = some x := ⟨xss[k], aC hlt⟩
   obtain ⟨ad, rfl, hb, hc⟩ := h3 (by omega);obtain ⟨ad', rfl, hb', hc'⟩ := h3' (by omega);obtain ⟨u, k1, hr⟩ := hc k x hx;obtain ⟨u', k2, hr'⟩ := hc' k x hx;have q0 := (hbl.cell (p := ad.add k) (by rw [block_add]; exact hb)).trans k1;have p0 := (hbl.cell (p := ad'.add k) (by rw [block_add]; exact hb')).trans k2;have hzw := hbl.size;have hba : (ad.add k).block < wr.heap.size := by rw [block_add]; omega
   have hba' : (ad'.add k).block < wr.heap.size := by rw [block_add]; omega
   have HR := aA ((hr.below hbl).more hbl.size);have HR' := aA ((hr'.below hbl).more hbl.size);clear h3 hc hx h3' hc' hr hr' k1 k2;go_wp2_with fail;refine aH (S := fun w' => w'.cell? (ad.add k) = some u ∧ w'.cell? (ad'.add k) = some u') (by kernel_rfl) ?_ (fun hHeld => ?_)
   · go_keep
   refine tk 0 17 rfl rfl ?_;refine tk 1 18 rfl rfl ?_;refine tk 2 19 rfl rfl ?_;refine tk 3 20 rfl rfl ?_;refine tk 4 21 rfl rfl ?_;refine tk 5 22 rfl rfl ?_;refine tk 6 23 rfl rfl ?_;refine stk 7 24 ?_;refine tr 8 rfl (by kernel_rfl) (fun K hK => ?_);go_simp;go_at_call 87;have hd : Below wr.heap.size wr wr.drew := (Below.refl _ _).drew;refine (eq_LetSS u u' x wr.drew (HR.out.below hd) (HR'.out.below hd)).mono ?_;rintro e w1 ⟨rfl, hb1⟩;have hB01 := ((Below.refl wr.heap.size wr).drew).trans hb1;have hB1 := hbl.trans (hB01.mono hbl.size);have r0 := (hB01.cell hba).trans q0;have t0 := (hB01.cell hba').trans p0;refine hK.out _ _ ?_ (fun hHeld => ?_)
   · go_keep
   clear hK K
   try simp only [Act.put, pu]
   refine stk 9 26 ?_;refine aK (by kernel_rfl) ?_ _;go_wp2_with fail;go_roundw
   case rel => exact ⟨hB1, k + 1, by omega, by go_num⟩
   case measure => simp [intOf]; omega
  · go_wp2;go_ret;exact ⟨rfl, hbl⟩
theorem lets3Info : (Tryz.prog.info? 101).map (fun i => (i.zero, i.size, i.bytes)) = some (some (.slice none 0 0), 1, 24) := by kernel_rfl
def ToL3Rel (xss : List (List Ends)) (w : World) (i : Value) (wr : World) : Prop :=
  ∃ (k : Nat) (C : Array Value), k ≤ xss.length ∧ i = .int .i64 k ∧ wr.heap[w.heap.size]? = some (.cells C 101 (0, 0)) ∧ C.size = xss.length ∧ Below w.heap.size w wr ∧ w.heap.size < wr.heap.size ∧
    (∀ (j : Nat) (u : Value), C[j]? = some u → ∃ A m c, u = .slice A m c) ∧ ∀ j xs, j < k → xss[j]? = some xs → ∃ u, C[j]? = some u ∧ EndssR wr (Fr (w.heap.size + 1) wr) u xs
theorem to_LetSSS (v : Value) (xss : List (List Ends)) (w : World) (h : Ends3R w (· < w.heap.size) v xss) (hn : szEnds3 xss ≤ 1048576) :
  Calls Tryz.prog 41 #[v] w fun e w' => ∃ v', e = .returned v' ∧ Ends3R w' (Fr w.heap.size w') v' xss ∧ Below w.heap.size w w' := by
 obtain ⟨A, c, rfl, h1, h2, h3⟩ := h;have hn' : xss.length ≤ 1048576 := by unfold szEnds3 at hn; omega
 have HSZ := aA (show ∀ (k : Nat) (x : List Ends), xss[k]? = some x → szEnds x ≤ 1048576 from fun k x hx => by
  have := lens3E_snoc xss k x hx;have := lens3E_split xss (k + 1);unfold szEnds3 at hn
  omega)
 clear hn;have hmk := fun W => run_make1 (P := Tryz.prog) 38 101 (.slice none 0 0) 24 Tryz.underlying38 lets3Info rfl xss.length (by omega) (by omega) W
 go_enter Tryz.func41, Tryz.ntmps41;go_wp2;clear hmk;go_loopw [4] (fun i wr => ToL3Rel xss w i wr) (fun i _ => xss.length - (intOf i).toNat)
 case atStart => exact ⟨0, _, Nat.zero_le _, rfl, heap_alloc_new w _, by simp [rowOf], bl_alloc (Below.refl _ _) _, by simp, fun j u hu => ⟨none, 0, 0, by have h := hu; simp [rowOf, Array.getElem?_replicate] at h; exact h.2.symm⟩, fun j x hj => by omega⟩
 case round =>
  obtain ⟨k, C, hk, rfl, hblk, hC, hbl, hgt, hsl, hits⟩ := hrel;have hsz := hbl.size;have HI := aA hits; clear hits;have HB := aA hblk; clear hblk;have HC := aA hC; clear hC;have HL := aA hsl; clear hsl;by_cases hlt : k < xss.length
  ·
   obtain ⟨xs, hx⟩ : ∃ x, xss[k]? = some x := ⟨xss[k], aC hlt⟩
   obtain ⟨ad, rfl, hb, hc⟩ := h3 (by omega);obtain ⟨u, hu, hr⟩ := hc k xs hx;have hcell : wr.cell? (ad.add k) = some u := (hbl.cell (p := ad.add k) (by rw [block_add]; exact hb)).trans hu;have HR := aA ((hr.below hbl).more hsz);have hxz := HSZ.out k xs hx;have HX := aA hx;clear h3 hc hx hr hu;go_wp2_with fail;refine (to_LetSS u xs wr HR.out hxz).mono ?_;rintro e w1 ⟨v', rfl, ho, hb1⟩;obtain ⟨A', m', c', rfl⟩ := ho.isSlice;have hblk1 : w1.heap[w.heap.size]? = some (.cells C 101 (0, 0)) := (hb1.block _ hgt).trans HB.out;obtain ⟨o0, z00⟩ : ∃ u, C[k]? = some u := ⟨_, Array.getElem?_eq_getElem (by rw [HC.out]; omega)⟩
   obtain ⟨Ao, mo, co, rfl⟩ := HL.out k _ z00;have z0 : w1.cell? ⟨w.heap.size, k, none⟩ = some (.slice Ao mo co) := by rw [cell_of_row w1 _ k _ _ (0, 0) hblk1]; exact z00
   have hfr : w1.frozen? ⟨w.heap.size, k, none⟩ = false := by simp [World.frozen?, hblk1]
   have hB1 := hbl.trans (hb1.mono hsz);have HB1 := aA hblk1; clear hblk1 z00;have HO := aA ho; clear ho;have hz1 := hb1.size;go_wp2_with fail;go_roundw
   case rel =>
    refine ⟨k + 1, _, by omega, by go_num, heap_set_same HB1.out _, by simp [HC.out], Below.setCell hB1 (by simp) _, by simp only [size_setCell]; omega, fun j u hu => ?_, fun j y hj hy => ?_⟩
    ·
     by_cases hjk : j = k
     · subst hjk;rw [Array.getElem?_setIfInBounds_self_of_lt (by rw [HC.out]; omega)] at hu;exact ⟨_, _, _, (aE hu).symm⟩
     · rw [Array.getElem?_setIfInBounds_ne (by omega)] at hu;exact HL.out j u hu
    ·
     have hk1 : ∀ b, w.heap.size < b → (w1.setCell ⟨w.heap.size, k, none⟩ (.slice A' m' c')).heap[b]? = w1.heap[b]? := fun b hb => Below.heap_setCell _ _ _ _ (by simp; omega)
     by_cases hjk : j < k
     · obtain ⟨u', hu', hr'⟩ := HI.out j y hjk hy;refine ⟨u', by rw [Array.getElem?_setIfInBounds_ne (by omega)]; exact hu', hr'.keep (fun b hb => hb.up (Nat.le_refl _) (by simp only [size_setCell]; omega) ((hk1 b hb.1).trans (hb1.block b hb.2.1))) fun b hb => (hk1 b hb.1).trans (hb1.block b hb.2.1)⟩
     ·
      obtain rfl : j = k := by omega
      obtain rfl := aE (HX.out.symm.trans hy);exact ⟨_, Array.getElem?_setIfInBounds_self_of_lt (by rw [HC.out]; omega), HO.out.keep (fun b hb => hb.up (by omega) (by simp only [size_setCell]; omega) (hk1 b (aF hgt hb.1))) fun b hb => hk1 b (aF hgt hb.1)⟩
   case measure => simp [intOf]; omega
  · go_wp2;go_ret;refine ⟨_, rfl, ⟨_, _, rfl, Nat.le_refl _, by unfold maxLen; omega, fun hn => ⟨_, rfl, ⟨Nat.le_refl _, hgt, _, _, HB.out⟩, fun j xs hx => ?_⟩⟩, hbl⟩;have hj : j < xss.length := (aB.1 hx).1;obtain ⟨u, k1, k2⟩ := HI.out j xs (by omega) hx;refine ⟨u, ?_, k2.keep (fun b hb => hb.up (by omega) (Nat.le_refl _) rfl) fun _ _ => rfl⟩;rw [show (⟨w.heap.size, 0, none⟩ : Addr).add j = ⟨w.heap.size, j, none⟩ by unfold Addr.add; split <;> simp_all, cell_of_row _ _ j _ _ (0, 0) HB.out];exact k1
end Go.Proofs.YtjklbjmdgiddcaaGreat
namespace Go.Proofs.YtjklbjmdgiddcaaGreat
open Go.RowKit
set_option linter.all false
def ClsR (w : World) (B : Nat) (v : Value) (cs : List Cl) : Prop :=
  ∃ A c, v = .slice A cs.length c ∧ cs.length ≤ c ∧ c ≤ maxLen ∧ (∀ e ∈ cs, I64 e.1 ∧ I64 e.2.2) ∧ (0 < cs.length → ∃ b o, A = some ⟨b, o, none⟩ ∧ b < B ∧
    ∀ k e, cs[k]? = some e → w.cell? ⟨b, o + k * 3, none⟩ = some (.int .i64 e.1) ∧ (∃ u, w.cell? ⟨b, o + k * 3 + 1, none⟩ = some u ∧ IntsR w B u e.2.1) ∧ w.cell? ⟨b, o + k * 3 + 2, none⟩ = some (.int .i64 e.2.2))
theorem ClsR.below {w w' : World} {B : Nat} {v : Value} {cs : List Cl} (h : ClsR w B v cs) (hb : Below B w w') : ClsR w' B v cs := by obtain ⟨A, c, e, h1, h2, h3, h4⟩ := h;refine ⟨A, c, e, h1, h2, h3, fun hn => ?_⟩;obtain ⟨b, o, e', hb', hc⟩ := h4 hn;refine ⟨b, o, e', hb', fun k x hx => ?_⟩;obtain ⟨k1, ⟨u, k2, k3⟩, k4⟩ := hc k x hx;exact ⟨(hb.cell (p := ⟨b, o + k * 3, none⟩) hb').trans k1, ⟨u, (hb.cell (p := ⟨b, o + k * 3 + 1, none⟩) hb').trans k2, k3.below hb⟩, (hb.cell (p := ⟨b, o + k * 3 + 2, none⟩) hb').trans k4⟩
theorem ClsR.more {w : World} {B B' : Nat} {v : Value} {cs : List Cl} (h : ClsR w B v cs) (hB : B ≤ B') : ClsR w B' v cs := by obtain ⟨A, c, e, h1, h2, h3, h4⟩ := h;refine ⟨A, c, e, h1, h2, h3, fun hn => ?_⟩;obtain ⟨b, o, e', hb', hc⟩ := h4 hn;refine ⟨b, o, e', aF hb' hB, fun k x hx => ?_⟩;obtain ⟨k1, ⟨u, k2, k3⟩, k4⟩ := hc k x hx;exact ⟨k1, ⟨u, k2, k3.more hB⟩, k4⟩
theorem ClsR.isSlice {w : World} {B : Nat} {v : Value} {cs : List Cl} (h : ClsR w B v cs) : ∃ A m c, v = .slice A m c := by obtain ⟨A, c, rfl, _⟩ := h;exact ⟨_, _, _, rfl⟩
theorem RowsR.isSlice1 {w : World} {B : Nat} {v : Value} {xs : List (List Int)} (h : RowsR w B v xs) : ∃ A m c, v = .slice A m c := by obtain ⟨A, c, rfl, _⟩ := h.open_;exact ⟨_, _, _, rfl⟩
structure MachR (w : World) (B : Nat) (vs ve vc vo : Value) (m : Mach) : Prop where
  s : RowsR w B vs m.start
  e : RowsR w B ve m.send
  c : ClsR w B vc m.cls
  o : IntsR w B vo m.out
  i : I64 m.deg ∧ I64 m.st ∧ I64 m.msg
theorem MachR.up {w w' : World} {vs ve vc vo : Value} {m : Mach} (h : MachR w w.heap.size vs ve vc vo m) (hb : Below w.heap.size w w') : MachR w' w'.heap.size vs ve vc vo m :=
  ⟨(h.s.below hb).more hb.size, (h.e.below hb).more hb.size, (h.c.below hb).more hb.size, (h.o.below hb).more hb.size, h.i⟩
theorem MachR.slices {w : World} {B : Nat} {vs ve vc vo : Value} {m : Mach} (h : MachR w B vs ve vc vo m) : (∃ A m c, vs = .slice A m c) ∧ (∃ A m c, ve = .slice A m c) ∧ (∃ A m c, vc = .slice A m c) ∧ ∃ A m c, vo = .slice A m c := ⟨h.s.isSlice1, h.e.isSlice1, h.c.isSlice, h.o.isSlice⟩
def machV (vs ve vc vo : Value) (m : Mach) : Value := .agg #[.int .i64 m.deg, .int .i64 m.st, .int .i64 m.msg, vs, ve, vc, vo]
structure AsyR (w : World) (B : Nat) (vr vb vn vs vf : Value) (x : Asy) : Prop where
  r : IntsR w B vr x.rounds
  b : IntsR w B vb x.before
  n : IntsR w B vn x.now
  s : RowsR w B vs x.slots
  f : Ends3R w (· < B) vf x.flight
theorem AsyR.up {w w' : World} {vr vb vn vs vf : Value} {x : Asy} (h : AsyR w w.heap.size vr vb vn vs vf x) (hb : Below w.heap.size w w') : AsyR w' w'.heap.size vr vb vn vs vf x :=
  ⟨(h.r.below hb).more hb.size, (h.b.below hb).more hb.size, (h.n.below hb).more hb.size, (h.s.below hb).more hb.size, (h.f.below hb).more hb.size⟩
theorem AsyR.slices {w : World} {B : Nat} {vr vb vn vs vf : Value} {x : Asy} (h : AsyR w B vr vb vn vs vf x) : (∃ A m c, vr = .slice A m c) ∧ (∃ A m c, vb = .slice A m c) ∧ (∃ A m c, vn = .slice A m c) ∧ (∃ A m c, vs = .slice A m c) ∧ ∃ A m c, vf = .slice A m c := ⟨h.r.isSlice, h.b.isSlice, h.n.isSlice, h.s.isSlice1, h.f.isSlice⟩
def lensC : List Cl → Nat
  | [] => 0
  | c :: r => c.2.1.length + lensC r
def szCls (cs : List Cl) : Nat := cs.length + lensC cs
theorem lensC_append : ∀ (a b : List Cl), lensC (a ++ b) = lensC a + lensC b
  | [], b => by simp [lensC]
  | x :: a, b => by simp [lensC, lensC_append a b]; omega
theorem lensC_snoc (cs : List Cl) (k : Nat) (c : Cl) (h : cs[k]? = some c) : lensC (cs.take (k + 1)) = lensC (cs.take k) + c.2.1.length := by obtain ⟨hk, rfl⟩ := aB.1 h;rw [List.take_succ_eq_append_getElem hk, lensC_append];rfl
theorem lensC_split (cs : List Cl) (k : Nat) : lensC cs = lensC (cs.take k) + lensC (cs.drop k) := by rw [← lensC_append, List.take_append_drop]
theorem lensC_all (cs : List Cl) (k : Nat) (h : cs.length ≤ k) : lensC (cs.take k) = lensC cs := by rw [List.take_of_length_le h]
def szMach (m : Mach) : Nat := szRows m.start + szRows m.send + szCls m.cls + m.out.length
def szAsy (x : Asy) : Nat := x.rounds.length + x.before.length + x.now.length + szRows x.slots + szEnds3 x.flight
end Go.Proofs.YtjklbjmdgiddcaaGreat
