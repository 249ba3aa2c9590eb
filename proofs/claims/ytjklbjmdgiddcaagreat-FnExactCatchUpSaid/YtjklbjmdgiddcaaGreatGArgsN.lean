/-
  The laws' own functions that write into memory and read it again: markIntS, heldIntS, markNetwork; for rows that lie in blocks of their own.
  The laws' own functions over networks: szNetwork, toNetwork, eqNetwork.
  A network copied for the program, with what may be written of the copy: the rows, the identifiers, the inputs lie in blocks of their own.
  A network marked: markNetwork writes into its own rows alone.
-/
import Derived.Test.YtjklbjmdgiddcaaGreatGImplB
namespace Go.Proofs.YtjklbjmdgiddcaaGreat
section
open Go.RowKit
set_option linter.all false
/-! ### Networks: what is written, nothing of what is said -/
structure Wrote (S : Nat → Prop) (w w' : World) : Prop where
  os : w'.os = w.os
  tape : w'.tape = w.tape
  output : w'.output = w.output
  size : w'.heap.size = w.heap.size
  block : ∀ b : Nat, ¬ S b → w'.heap[b]? = w.heap[b]?
  cells : ∀ (b : Nat) (cur : Array Value) (t : TypeId) (f : Nat × Nat), w.heap[b]? = some (Obj.cells cur t f) → ∃ cur' : Array Value, w'.heap[b]? = some (Obj.cells cur' t f) ∧ cur'.size = cur.size
theorem Wrote.refl (S : Nat → Prop) (w : World) : Wrote S w w := ⟨rfl, rfl, rfl, rfl, fun _ _ => rfl, fun b cur t f h => ⟨cur, h, rfl⟩⟩
theorem Wrote.trans {S : Nat → Prop} {a b c : World} (h : Wrote S a b) (k : Wrote S b c) : Wrote S a c :=
  ⟨k.os.trans h.os, k.tape.trans h.tape, k.output.trans h.output, k.size.trans h.size, fun x hx => (k.block x hx).trans (h.block x hx), fun x cur t f hc => by
    obtain ⟨cur1, h1, e1⟩ := h.cells x cur t f hc;obtain ⟨cur2, h2, e2⟩ := k.cells x cur1 t f h1
    exact ⟨cur2, h2, e2.trans e1⟩⟩
theorem Wrote.set {S : Nat → Prop} {w : World} {g i : Nat} (v : Value) (hg : S g) : Wrote S w (w.setCell ⟨g, i, none⟩ v) :=
  ⟨rfl, rfl, rfl, size_setCell _ _ _, fun b hb => Below.heap_setCell _ _ _ _ (by intro e; exact hb (by rw [e]; exact hg)), fun b cur t f hc => by
    by_cases e : b = g
    · subst e
      exact ⟨cur.setIfInBounds i v, by simp [World.setCell, Array.getElem?_modify, hc], by simp⟩
    · exact ⟨cur, (Below.heap_setCell _ _ _ _ (by simpa using e)).trans hc, rfl⟩⟩
def RowW (w : World) (S : Nat → Prop) (v : Value) (n : Nat) : Prop :=
  ∃ A c, v = .slice A n c ∧ n ≤ c ∧ c ≤ maxLen ∧ (0 < n → ∃ g cur, A = some ⟨g, 0, none⟩ ∧ S g ∧ w.heap[g]? = some (.cells cur 138 (0, 0)) ∧ n * 2 ≤ cur.size)
theorem RowW.wrote {w w' : World} {S T : Nat → Prop} {v : Value} {n : Nat} (h : RowW w S v n) (hw : Wrote T w w') : RowW w' S v n := by obtain ⟨A, c, rfl, h1, h2, h3⟩ := h;refine ⟨A, c, rfl, h1, h2, fun hn => ?_⟩;obtain ⟨g, cur, rfl, hS, hc, hz⟩ := h3 hn;obtain ⟨cur', hc', hz'⟩ := hw.cells g cur _ _ hc;exact ⟨g, cur', rfl, hS, hc', by rw [hz']; exact hz⟩
def MeRelW (n : Nat) (k : Int) (S : Nat → Prop) (w : World) (kv i : Value) (wr : World) : Prop :=
  ∃ j : Nat, j ≤ n ∧ i = .int .i64 j ∧ kv = .int .i64 (k + (j : Int) + (j : Int)) ∧ Wrote S w wr
set_option maxRecDepth 100000 in
theorem mark_EndS (v : Value) (n : Nat) (S : Nat → Prop) (k : Int) (w : World) (h : RowW w S v n) (h0 : 0 ≤ k) (h1 : k + n + n ≤ 1000000000000) :
  Calls Tryz.prog 90 #[v, .int .i64 k] w fun e w' => e = .returned (.int .i64 (k + n + n)) ∧ Wrote S w w' := by
 obtain ⟨A0, c, rfl, hc1, hc2, h3⟩ := h;unfold maxLen at hc2;have H3 := aA h3; clear h3;go_enter Tryz.func90, Tryz.ntmps90;go_wp2_with fail;go_loopw [1, 5] (fun kv i wr => MeRelW n k S w kv i wr) (fun _ i _ => n - (intOf i).toNat)
 case atStart => exact ⟨0, Nat.zero_le _, rfl, by simp, Wrote.refl _ _⟩
 case round =>
  obtain ⟨j, hj, rfl, rfl, hw⟩ := hrel;have HW := aA hw; clear hw;by_cases hlt : j < n
  ·
   obtain ⟨g, cur, rfl, hS, hcur, hcz⟩ := H3.out (by omega);obtain ⟨cur', hcur', hcz'⟩ := HW.out.cells g cur _ _ hcur;obtain ⟨u0, hu0⟩ : ∃ u, wr.cell? ⟨g, j * 2, none⟩ = some u := by rw [cell_of_row wr _ (j * 2) _ _ (0, 0) hcur', Array.getElem?_eq_getElem (by omega)];exact ⟨_, rfl⟩
   have hfr : ∀ i, wr.frozen? ⟨g, i, none⟩ = false := fun i => frozen_of_row _ _ i _ _ hcur'
   obtain ⟨w1, hw1⟩ : ∃ z, z = wr.setCell ⟨g, j * 2, none⟩ (.int .i64 (k + (j : Int) + (j : Int))) := ⟨_, rfl⟩
   have hW1 : Wrote S wr w1 := by rw [hw1]; exact Wrote.set _ hS
   obtain ⟨cur2, hcur2, hcz2⟩ := hW1.cells g cur' _ _ hcur';obtain ⟨u1, hu1⟩ : ∃ u, w1.cell? ⟨g, j * 2 + 1, none⟩ = some u := by rw [cell_of_row w1 _ (j * 2 + 1) _ _ (0, 0) hcur2, Array.getElem?_eq_getElem (by omega)];exact ⟨_, rfl⟩
   have hfr1 : ∀ i, w1.frozen? ⟨g, i, none⟩ = false := fun i => frozen_of_row _ _ i _ _ hcur2
   rw [hw1] at hu1 hfr1;have HX := aA (And.intro hw1 hW1); clear hw1 hW1 hcur hcur' hcur2;have hq1 : IntKind.i64.wrap (k + (j : Int) + (j : Int) + 1) = k + (j : Int) + (j : Int) + 1 := aL _ (by omega);have hq2 : IntKind.i64.wrap (k + (j : Int) + (j : Int) + 1 + 1) = k + (j : Int) + (j : Int) + 1 + 1 := aL _ (by omega);go_wp2_with fail;go_roundw
   case rel => refine ⟨j + 1, by omega, by go_num, by congr 1; omega, HW.out.trans (HX.out.2.trans ?_)⟩;rw [← HX.out.1];exact Wrote.set _ hS
   case measure => simp [intOf]; omega
  ·
   obtain rfl : j = n := by omega
   go_wp2_with fail;go_ret;exact ⟨rfl, HW.out⟩
def RowsW (w : World) (base : Nat) (S : Nat → Prop) (v : Value) (ns : List Nat) : Prop :=
  ∃ A c, v = .slice A ns.length c ∧ ns.length ≤ c ∧ c ≤ maxLen ∧ (0 < ns.length → A = some ⟨base, 0, none⟩ ∧ ¬ S base ∧ ∀ i n, ns[i]? = some n → ∃ u, w.cell? ⟨base, i, none⟩ = some u ∧ RowW w S u n)
theorem sum_snoc {ns : List Nat} {j n : Nat} (h : ns[j]? = some n) : (ns.take (j + 1)).sum = (ns.take j).sum + n := by obtain ⟨hj, rfl⟩ := aB.1 h;rw [List.take_succ_eq_append_getElem hj, List.sum_append];simp
theorem sum_split (ns : List Nat) (j : Nat) : ns.sum = (ns.take j).sum + (ns.drop j).sum := by rw [← List.sum_append, List.take_append_drop]
def MsRelW (ns : List Nat) (k : Int) (S : Nat → Prop) (w : World) (kv i : Value) (wr : World) : Prop :=
  ∃ j : Nat, j ≤ ns.length ∧ i = .int .i64 j ∧ kv = .int .i64 (k + ((ns.take j).sum : Nat) + ((ns.take j).sum : Nat)) ∧ Wrote S w wr
set_option maxRecDepth 100000 in
theorem mark_EndSS (v : Value) (ns : List Nat) (base : Nat) (S : Nat → Prop) (k : Int) (w : World) (h : RowsW w base S v ns) (h0 : 0 ≤ k) (h1 : k + ns.sum + ns.sum ≤ 1000000000) :
  Calls Tryz.prog 55 #[v, .int .i64 k] w fun e w' => e = .returned (.int .i64 (k + ns.sum + ns.sum)) ∧ Wrote S w w' := by
 obtain ⟨A0, c, rfl, hc1, hc2, h3⟩ := h;unfold maxLen at hc2;have H3 := aA h3; clear h3;go_enter Tryz.func55, Tryz.ntmps55;go_wp2_with fail;go_loopw [1, 5] (fun kv i wr => MsRelW ns k S w kv i wr) (fun _ i _ => ns.length - (intOf i).toNat)
 case atStart => exact ⟨0, Nat.zero_le _, rfl, by simp, Wrote.refl _ _⟩
 case round =>
  obtain ⟨j, hj, rfl, rfl, hw⟩ := hrel;have HW := aA hw; clear hw;have hsp := sum_split ns j;by_cases hlt : j < ns.length
  ·
   obtain ⟨rfl, hS, hcs⟩ := H3.out (by omega);obtain ⟨n, hn⟩ : ∃ n, ns[j]? = some n := ⟨_, aC hlt⟩
   obtain ⟨u, hu, hr⟩ := hcs j n hn;have hu' := (World.cell?_of_block (a := ⟨base, j, none⟩) (HW.out.block base hS)).trans hu;have HR := aA (hr.wrote HW.out); clear hr hcs hu;have hss := sum_snoc hn;have hsp2 := sum_split ns (j + 1);clear hn;have HSS := aA hss; clear hss;generalize (ns.take j).sum = t at *;go_wp2_with fail;refine (mark_EndS u n S (k + (t : Int) + (t : Int)) wr HR.out (by omega) (by have := HSS.out; omega)).mono ?_;rintro e w1 ⟨rfl, hw1⟩;have HW1 := aA hw1; clear hw1;go_wp2_with fail;go_roundw
   case rel => exact ⟨j + 1, by omega, by go_num, by rw [HSS.out]; congr 1; omega, HW.out.trans HW1.out⟩
   case measure => simp [intOf]; omega
  ·
   obtain rfl : j = ns.length := by omega
   have HT := aA (show ns.take ns.length = ns from List.take_length);clear hsp;go_wp2_with fail;go_ret;exact ⟨by rw [HT.out]; rfl, HW.out⟩
theorem RowW.keep {w w' : World} {S S' : Nat → Prop} {v : Value} {n : Nat} (h : RowW w S v n) (hS : ∀ b, S b → S' b) (hk : ∀ b, S b → w'.heap[b]? = w.heap[b]?) : RowW w' S' v n := by obtain ⟨A, c, rfl, h1, h2, h3⟩ := h;refine ⟨A, c, rfl, h1, h2, fun hn => ?_⟩;obtain ⟨g, cur, rfl, hs, hc, hz⟩ := h3 hn;exact ⟨g, cur, rfl, hS g hs, (hk g hs).trans hc, hz⟩
theorem cell_lt {w : World} {g i : Nat} {u : Value} (h : w.cell? ⟨g, i, none⟩ = some u) : g < w.heap.size := by
  rcases Nat.lt_or_ge g w.heap.size with h' | h'
  · exact h'
  · simp [World.cell?, Array.getElem?_eq_none h'] at h
theorem RowsW.keep {w w' : World} {base hi : Nat} {v : Value} {ns : List Nat} (h : RowsW w base (fun b => base < b ∧ b < hi) v ns) (hh : hi ≤ w.heap.size) (hk : ∀ b, base ≤ b → b < w.heap.size → w'.heap[b]? = w.heap[b]?) : RowsW w' base (fun b => base < b ∧ b < hi) v ns := by obtain ⟨A, c, rfl, h1, h2, h3⟩ := h;refine ⟨A, c, rfl, h1, h2, fun hn => ?_⟩;obtain ⟨rfl, hS, hcs⟩ := h3 hn;refine ⟨rfl, hS, fun i n hi' => ?_⟩;obtain ⟨u, hu, hr⟩ := hcs i n hi';exact ⟨u, (World.cell?_of_block (a := ⟨base, i, none⟩) (hk base (Nat.le_refl _) (cell_lt hu))).trans hu, hr.keep (fun _ h => h) fun b h => hk b (by omega) (by omega)⟩
theorem RowsW.stretch {w : World} {base hi hi' : Nat} {v : Value} {ns : List Nat} (h : RowsW w base (fun b => base < b ∧ b < hi) v ns) (hh : hi ≤ hi') : RowsW w base (fun b => base < b ∧ b < hi') v ns := by obtain ⟨A, c, rfl, h1, h2, h3⟩ := h;refine ⟨A, c, rfl, h1, h2, fun hn => ?_⟩;obtain ⟨rfl, hS, hcs⟩ := h3 hn;refine ⟨rfl, fun h => absurd h.1 (Nat.lt_irrefl _), fun i n hi' => ?_⟩;obtain ⟨u, hu, hr⟩ := hcs i n hi';exact ⟨u, hu, hr.keep (fun b h => ⟨h.1, by omega⟩) fun _ _ => rfl⟩
def IntsW (w : World) (S : Nat → Prop) (v : Value) (n : Nat) : Prop :=
  ∃ A c, v = .slice A n c ∧ n ≤ c ∧ c ≤ maxLen ∧ (0 < n → ∃ g cur, A = some ⟨g, 0, none⟩ ∧ S g ∧ w.heap[g]? = some (.cells cur 3 (0, 0)) ∧ n ≤ cur.size)
theorem IntsW.wrote {w w' : World} {S T : Nat → Prop} {v : Value} {n : Nat} (h : IntsW w S v n) (hw : Wrote T w w') : IntsW w' S v n := by obtain ⟨A, c, rfl, h1, h2, h3⟩ := h;refine ⟨A, c, rfl, h1, h2, fun hn => ?_⟩;obtain ⟨g, cur, rfl, hS, hc, hz⟩ := h3 hn;obtain ⟨cur', hc', hz'⟩ := hw.cells g cur _ _ hc;exact ⟨g, cur', rfl, hS, hc', by rw [hz']; exact hz⟩
def MiRelW (n : Nat) (k : Int) (S : Nat → Prop) (w : World) (kv i : Value) (wr : World) : Prop :=
  ∃ j : Nat, j ≤ n ∧ i = .int .i64 j ∧ kv = .int .i64 (k + (j : Int)) ∧ Wrote S w wr
theorem mark_IntW (v : Value) (n : Nat) (S : Nat → Prop) (k : Int) (w : World) (h : IntsW w S v n) (h0 : 0 ≤ k) (h1 : k + n ≤ 1000000000000) :
    Calls Tryz.prog 54 #[v, .int .i64 k] w fun e w' => e = .returned (.int .i64 (k + n)) ∧ Wrote S w w' := by
  obtain ⟨A0, c, rfl, hc1, hc2, h3⟩ := h;unfold maxLen at hc2;have H3 := aA h3; clear h3;go_enter Tryz.func54, Tryz.ntmps54;go_wp2_with fail;go_loopw [1, 5] (fun kv i wr => MiRelW n k S w kv i wr) (fun _ i _ => n - (intOf i).toNat)
  case atStart => exact ⟨0, Nat.zero_le _, rfl, by simp, Wrote.refl _ _⟩
  case round =>
    obtain ⟨j, hj, rfl, rfl, hw⟩ := hrel;have HW := aA hw; clear hw;by_cases hlt : j < n
    · obtain ⟨g, cur, rfl, hS, hcur, hcz⟩ := H3.out (by omega)
      obtain ⟨cur', hcur', hcz'⟩ := HW.out.cells g cur _ _ hcur;obtain ⟨u0, hu0⟩ : ∃ u, wr.cell? ⟨g, j, none⟩ = some u := by rw [cell_of_row wr _ j _ _ (0, 0) hcur', Array.getElem?_eq_getElem (by omega)];exact ⟨_, rfl⟩
      have hfr : wr.frozen? ⟨g, j, none⟩ = false := frozen_of_row _ _ j _ _ hcur';have hq1 : IntKind.i64.wrap (k + (j : Int) + 1) = k + (j : Int) + 1 := aL _ (by omega);clear hcur hcur';go_wp2_with fail;go_roundw
      case rel => exact ⟨j + 1, by omega, by go_num, by congr 1; omega, HW.out.trans (Wrote.set _ hS)⟩
      case measure => simp [intOf]; omega
    · obtain rfl : j = n := by omega
      go_wp2_with fail;go_ret;exact ⟨rfl, HW.out⟩
end
section
open Go.RowKit
set_option linter.all false
theorem sz_EndS (A : Option Addr) (n c : Nat) (left : Int) (w : World) (hn : n ≤ maxLen) (hl : 0 ≤ left) (hl' : left ≤ 1048576) :
    Calls Tryz.prog 69 #[.slice A n c, .int .i64 left] w fun e w' => e = .returned (.int .i64 (szR left n)) ∧ w = w' := by
  unfold maxLen at hn;go_enter Tryz.func69, Tryz.ntmps69;go_wp2
  all_goals
    go_ret;exact ⟨ret_int (by unfold szR; split <;> omega), rfl⟩
def lensE : List Ends → Nat
  | [] => 0
  | xs :: r => xs.length + lensE r
def szEnds (xss : List Ends) : Nat := xss.length + lensE xss
theorem lensE_append : ∀ (a b : List Ends), lensE (a ++ b) = lensE a + lensE b
  | [], b => by simp [lensE]
  | x :: a, b => by simp [lensE, lensE_append a b]; omega
theorem lensE_snoc (xss : List Ends) (k : Nat) (xs : Ends) (h : xss[k]? = some xs) : lensE (xss.take (k + 1)) = lensE (xss.take k) + xs.length := by obtain ⟨hk, rfl⟩ := aB.1 h;rw [List.take_succ_eq_append_getElem hk, lensE_append];rfl
theorem lensE_split (xss : List Ends) (k : Nat) : lensE xss = lensE (xss.take k) + lensE (xss.drop k) := by rw [← lensE_append, List.take_append_drop]
theorem lensE_all (xss : List Ends) (k : Nat) (h : xss.length ≤ k) : lensE (xss.take k) = lensE xss := by rw [List.take_of_length_le h]
def SzERel (xss : List Ends) (left : Int) (w : World) (l i : Value) (wr : World) : Prop :=
  w = wr ∧ ∃ (k q : Nat), k ≤ xss.length ∧ q = lensE (xss.take k) ∧ i = .int .i64 k ∧ l = .int .i64 (left - xss.length - q) ∧ (q : Int) ≤ left - xss.length
theorem sz_EndSS (v : Value) (xss : List Ends) (left : Int) (w : World) (h : EndssR w (· < w.heap.size) v xss) (hl : 0 ≤ left) (hl' : left ≤ 1048576) :
  Calls Tryz.prog 32 #[v, .int .i64 left] w fun e w' => e = .returned (.int .i64 (szR left (szEnds xss))) ∧ w = w' := by
 obtain ⟨A, c, rfl, h1, h2, h3⟩ := h;have hL : xss.length ≤ 9223372036854775807 := by unfold maxLen at h2; omega
 clear h2;by_cases hs : (xss.length : Int) ≤ left
 ·
  go_enter Tryz.func32, Tryz.ntmps32;go_wp2;go_loopw [1, 5] (fun l i wr => SzERel xss left w l i wr) (fun _ i _ => xss.length - (intOf i).toNat)
  case atStart => exact ⟨rfl, 0, 0, Nat.zero_le _, rfl, rfl, by simp, by omega⟩
  case round =>
   obtain ⟨rfl, k, q, hk, hq, rfl, rfl, hle⟩ := hrel;have HQ := aA hq; clear hq;by_cases hlt : k < xss.length
   ·
    obtain ⟨xs, hxs⟩ : ∃ xs, xss[k]? = some xs := ⟨xss[k], aC hlt⟩
    obtain ⟨ad, rfl, hb, hc⟩ := h3 (by omega);obtain ⟨u, hu, hr⟩ := hc k xs hxs;obtain ⟨A', c', rfl, g1, g2, -⟩ := hr;have HS := aA (lensE_snoc xss k xs hxs);have HT := aA (lensE_split xss (k + 1));clear h3 hc hxs;by_cases hx : (xs.length : Int) ≤ left - xss.length - q
    ·
     have h5 : szR (left - xss.length - q) xs.length = left - xss.length - q - xs.length := by unfold szR; rw [if_pos hx]
     go_wp2_with (go_at_call 69; refine (sz_EndS A' xs.length c' _ _ (by omega) (by omega) (by omega)).mono ?_; rintro e w' ⟨rfl, rfl⟩; rw [h5])
     go_roundw
     case rel => exact ⟨rfl, k + 1, q + xs.length, by omega, by rw [HS.out, HQ.out], by go_num, by go_num, by omega⟩
     case measure => simp [intOf]; omega
    ·
     have h5 : szR (left - xss.length - q) xs.length = -1 := by unfold szR; rw [if_neg hx]
     go_wp2_with (go_at_call 69; refine (sz_EndS A' xs.length c' _ _ (by omega) (by omega) (by omega)).mono ?_; rintro e w' ⟨rfl, rfl⟩; rw [h5])
     go_ret;have h6 := HT.out;have h7 := HS.out;have h8 := HQ.out;exact ⟨ret_int (by unfold szR szEnds; rw [if_neg (by omega)]), rfl⟩
   · go_wp2;go_ret;have h6 := lensE_all xss k (by omega);have h8 := HQ.out;exact ⟨ret_int (by unfold szR szEnds; rw [if_pos (by omega)]; omega), rfl⟩
 · have H := aA (show szR left (szEnds xss) = -1 by unfold szR szEnds; rw [if_neg (by omega)]);go_enter Tryz.func32, Tryz.ntmps32;go_wp2;go_ret;exact ⟨ret_int H.out.symm, rfl⟩
def szNet (n : Net) : Nat := szEnds n.es + n.ids.length + n.ins.length
theorem sz_Net (ve vi vn : Value) (n : Net) (left : Int) (w : World) (h : NetR w w.heap.size ve vi vn n) (hl : 0 ≤ left) (hl' : left ≤ 1048576) :
  Calls Tryz.prog 6 #[.agg #[ve, vi, vn], .int .i64 left] w fun e w' => e = .returned (.int .i64 (szR left (szNet n))) ∧ Below w.heap.size w w' := by
 obtain ⟨he, hi, hn⟩ := h;obtain ⟨A0, m0, c0, rfl⟩ := he.isSlice;have l1 := hi.1.len_le;have l2 := hn.1.len_le;rw [List.length_map] at l1 l2;obtain ⟨A1, c1, rfl, -, -, -⟩ := hi.open_;obtain ⟨A2, c2, rfl, -, -, -⟩ := hn.open_;have HE := aA he; clear he hi hn;obtain ⟨w0, hw0⟩ : ∃ z, z = w.alloc (.cells #[.slice A0 m0 c0, .slice A1 n.ids.length c1, .slice A2 n.ins.length c2] 29) := ⟨_, rfl⟩
 have hb0 : Below w.heap.size w w0 := by rw [hw0]; exact bl_alloc (Below.refl _ _) _
 have HD := aA (show w0.heap[w.heap.size]? = some (.cells #[.slice A0 m0 c0, .slice A1 n.ids.length c1, .slice A2 n.ins.length c2] 29 (0, 0)) by rw [hw0]; exact heap_alloc_new w _);have HW := aA hw0; clear hw0;obtain ⟨q0, q1, q2, qf⟩ := cells3 HD;have JE := aA (sz_EndSS _ n.es left w0 (HE.out.keep (fun b hb => aF hb hb0.size) fun b hb => hb0.block b hb) hl hl');have HN := aA (show szNet n = szEnds n.es + n.ids.length + n.ins.length from rfl);generalize szNet n = N at *;generalize szEnds n.es = a at *;generalize n.ids.length = b at *;generalize n.ins.length = c at *;have HR : N = a + b + c := HN.out;have F1 : ¬ ((a : Int) ≤ left) → szR left N = -1 := fun h => by unfold szR; rw [if_neg (by omega)]
 have F2 : ¬ ((b : Int) ≤ left - a) → szR left N = -1 := fun h => by unfold szR; rw [if_neg (by omega)]
 have F3 : ¬ ((c : Int) ≤ left - a - b) → szR left N = -1 := fun h => by unfold szR; rw [if_neg (by omega)]
 have F4 : (c : Int) ≤ left - a - b → szR left N = left - a - b - c := fun h => by unfold szR; rw [if_pos (by omega)]; omega
 generalize szR left N = R at *;clear HN HR;go_enter Tryz.func6, Tryz.ntmps6;go_wp2_with fail;rw [← HW.out];refine JE.out.mono ?_;rintro e w' ⟨rfl, rfl⟩;by_cases h0 : (a : Int) ≤ left
 ·
  have e0 : szR left a = left - a := by unfold szR; rw [if_pos h0]
  rw [e0];go_wp2_with fail;refine (sz_IntS A1 b c1 (left - a) w0 l1 (by omega) (by omega)).mono ?_;rintro e w' ⟨rfl, rfl⟩;by_cases h1 : (b : Int) ≤ left - a
  ·
   have e1 : szR (left - a) b = left - a - b := by unfold szR; rw [if_pos h1]
   rw [e1];go_wp2_with fail;refine (sz_IntS A2 c c2 (left - a - b) w0 l2 (by omega) (by omega)).mono ?_;rintro e w' ⟨rfl, rfl⟩;by_cases h2 : (c : Int) ≤ left - a - b
   ·
    have e2 : szR (left - a - b) c = left - a - b - c := by unfold szR; rw [if_pos h2]
    rw [e2];go_wp2_with fail;go_ret;exact ⟨ret_int (F4 h2).symm, hb0⟩
   ·
    have e2 : szR (left - a - b) c = -1 := by unfold szR; rw [if_neg h2]
    rw [e2];go_wp2_with fail;go_ret;exact ⟨ret_int (F3 h2).symm, hb0⟩
  ·
   have e1 : szR (left - a) b = -1 := by unfold szR; rw [if_neg h1]
   rw [e1];go_wp2_with fail;go_ret;exact ⟨ret_int (F2 h1).symm, hb0⟩
 ·
  have e0 : szR left a = -1 := by unfold szR; rw [if_neg h0]
  rw [e0];go_wp2_with fail;go_ret;exact ⟨ret_int (F1 h0).symm, hb0⟩
/-! ### Equality of what reads alike -/
theorem eq_End (x : Int × Int) (w : World) :
    Calls Tryz.prog 117 #[.agg #[.int .i64 x.1, .int .i64 x.2], .agg #[.int .i64 x.1, .int .i64 x.2]] w fun e w' => e = .returned (.bool true) ∧ Below w.heap.size w w' := by
  go_enter Tryz.func117, Tryz.ntmps117;go_wp2;go_ret;exact ⟨rfl, (by repeat (first | exact Below.refl _ _ | refine Below.drew ?_ | refine bl_alloc ?_ _ | refine Below.setCell ?_ (by simp <;> omega) _))⟩
theorem to_End (x : Int × Int) (w : World) :
    Calls Tryz.prog 102 #[.agg #[.int .i64 x.1, .int .i64 x.2]] w fun e w' => e = .returned (.agg #[.int .i64 x.1, .int .i64 x.2]) ∧ Below w.heap.size w w' := by
  go_enter Tryz.func102, Tryz.ntmps102;go_wp2;refine bodyPost_ret (v := .agg #[.int .i64 x.1, .int .i64 x.2]) (by simp [results, Tryz.results102, go_sem]) rfl ⟨rfl, ?_⟩
  repeat (first | exact Below.refl _ _ | refine Below.drew ?_ | refine bl_alloc ?_ _ | refine Below.setCell ?_ (by simp <;> omega) _)
def EqERel (n : Nat) (w : World) (i : Value) (wr : World) : Prop := Below w.heap.size w wr ∧ ∃ k : Nat, k ≤ n ∧ i = .int .i64 k
theorem eq_EndS (v v' : Value) (xs : Ends) (w : World) (h : EndsB w w.heap.size v xs) (h' : EndsB w w.heap.size v' xs) :
  Calls Tryz.prog 89 #[v, v'] w fun e w' => e = .returned (.bool true) ∧ Below w.heap.size w w' := by
 obtain ⟨A, c, rfl, h1, h2, -, h3⟩ := h;obtain ⟨A', c', rfl, h1', h2', -, h3'⟩ := h';unfold maxLen at h2;go_enter Tryz.func89, Tryz.ntmps89;go_wp2;go_loopw [5] (fun i wr => EqERel xs.length w i wr) (fun i _ => xs.length - (intOf i).toNat)
 case atStart => exact ⟨Below.refl _ _, 0, Nat.zero_le _, rfl⟩
 case round =>
  obtain ⟨hbl, k, hk, rfl⟩ := hrel;by_cases hlt : k < xs.length
  ·
   obtain ⟨x, hx⟩ : ∃ x, xs[k]? = some x := ⟨xs[k], aC hlt⟩
   obtain ⟨b, o, rfl, hb, hc⟩ := h3 (by omega);obtain ⟨b', o', rfl, hb', hc'⟩ := h3' (by omega);have q0 := (hbl.cell (p := ⟨b, o + k * 2, none⟩) hb).trans (hc k x hx).1;have q1 := (hbl.cell (p := ⟨b, o + k * 2 + 1, none⟩) hb).trans (hc k x hx).2;have p0 := (hbl.cell (p := ⟨b', o' + k * 2, none⟩) hb').trans (hc' k x hx).1;have p1 := (hbl.cell (p := ⟨b', o' + k * 2 + 1, none⟩) hb').trans (hc' k x hx).2;have hzw := hbl.size;clear h3 hc hx h3' hc';go_wp2_with fail;refine aH (S := fun w' => w'.cell? ⟨b, o + k * 2, none⟩ = some (.int .i64 x.1) ∧ w'.cell? ⟨b, o + k * 2 + 1, none⟩ = some (.int .i64 x.2) ∧ w'.cell? ⟨b', o' + k * 2, none⟩ = some (.int .i64 x.1) ∧ w'.cell? ⟨b', o' + k * 2 + 1, none⟩ = some (.int .i64 x.2)) (by kernel_rfl) ?_ (fun hHeld => ?_)
   · go_keep
   refine tk 0 17 rfl rfl ?_;refine tk 1 18 rfl rfl ?_;refine tk 2 19 rfl rfl ?_;refine tk 3 20 rfl rfl ?_;refine tk 4 21 rfl rfl ?_;refine tk 5 22 rfl rfl ?_;refine tk 6 23 rfl rfl ?_;refine stk 7 24 ?_;refine tr 8 rfl (by kernel_rfl) (fun K hK => ?_);go_simp;go_at_call 117;refine (eq_End x _).mono ?_;rintro e w1 ⟨rfl, hb1⟩;have hB01 := ((Below.refl wr.heap.size wr).drew).trans hb1;have hB1 := hbl.trans (hB01.mono hbl.size);have r0 := (hB01.cell (p := ⟨b, o + k * 2, none⟩) (show b < wr.heap.size by omega)).trans q0;have r1 := (hB01.cell (p := ⟨b, o + k * 2 + 1, none⟩) (show b < wr.heap.size by omega)).trans q1;have t0 := (hB01.cell (p := ⟨b', o' + k * 2, none⟩) (show b' < wr.heap.size by omega)).trans p0;have t1 := (hB01.cell (p := ⟨b', o' + k * 2 + 1, none⟩) (show b' < wr.heap.size by omega)).trans p1;refine hK.out _ _ ?_ (fun hHeld => ?_)
   · go_keep
   clear hK K
   try simp only [Act.put, pu]
   refine stk 9 26 ?_;refine aK (by kernel_rfl) ?_ _;go_wp2_with fail;go_roundw
   case rel => exact ⟨hB1, k + 1, by omega, by go_num⟩
   case measure => simp [intOf]; omega
  · go_wp2;go_ret;exact ⟨rfl, hbl⟩
theorem eq_EndSS (v v' : Value) (xss : List Ends) (w : World) (h : EndssR w (· < w.heap.size) v xss) (h' : EndssR w (· < w.heap.size) v' xss) :
  Calls Tryz.prog 50 #[v, v'] w fun e w' => e = .returned (.bool true) ∧ Below w.heap.size w w' := by
 obtain ⟨A, c, rfl, h1, h2, h3⟩ := h;obtain ⟨A', c', rfl, h1', h2', h3'⟩ := h';unfold maxLen at h2;go_enter Tryz.func50, Tryz.ntmps50;go_wp2;go_loopw [5] (fun i wr => EqERel xss.length w i wr) (fun i _ => xss.length - (intOf i).toNat)
 case atStart => exact ⟨Below.refl _ _, 0, Nat.zero_le _, rfl⟩
 case round =>
  obtain ⟨hbl, k, hk, rfl⟩ := hrel;by_cases hlt : k < xss.length
  ·
   obtain ⟨x, hx⟩ : ∃ x, xss[k]? = some x := ⟨xss[k], aC hlt⟩
   obtain ⟨ad, rfl, hb, hc⟩ := h3 (by omega);obtain ⟨ad', rfl, hb', hc'⟩ := h3' (by omega);obtain ⟨u, k1, hr⟩ := hc k x hx;obtain ⟨u', k2, hr'⟩ := hc' k x hx;have q0 := (hbl.cell (p := ad.add k) (by rw [block_add]; exact hb)).trans k1;have p0 := (hbl.cell (p := ad'.add k) (by rw [block_add]; exact hb')).trans k2;have hzw := hbl.size;have hba : (ad.add k).block < wr.heap.size := by rw [block_add]; omega
   have hba' : (ad'.add k).block < wr.heap.size := by rw [block_add]; omega
   have HR := aA ((hr.below hbl).more hbl.size);have HR' := aA ((hr'.below hbl).more hbl.size);clear h3 hc hx h3' hc' hr hr' k1 k2;go_wp2_with fail;refine aH (S := fun w' => w'.cell? (ad.add k) = some u ∧ w'.cell? (ad'.add k) = some u') (by kernel_rfl) ?_ (fun hHeld => ?_)
   · go_keep
   refine tk 0 17 rfl rfl ?_;refine tk 1 18 rfl rfl ?_;refine tk 2 19 rfl rfl ?_;refine tk 3 20 rfl rfl ?_;refine tk 4 21 rfl rfl ?_;refine tk 5 22 rfl rfl ?_;refine tk 6 23 rfl rfl ?_;refine stk 7 24 ?_;refine tr 8 rfl (by kernel_rfl) (fun K hK => ?_);go_simp;go_at_call 89;have hd : Below wr.heap.size wr wr.drew := (Below.refl _ _).drew;refine (eq_EndS u u' x wr.drew (HR.out.below hd) (HR'.out.below hd)).mono ?_;rintro e w1 ⟨rfl, hb1⟩;have hB01 := ((Below.refl wr.heap.size wr).drew).trans hb1;have hB1 := hbl.trans (hB01.mono hbl.size);have r0 := (hB01.cell hba).trans q0;have t0 := (hB01.cell hba').trans p0;refine hK.out _ _ ?_ (fun hHeld => ?_)
   · go_keep
   clear hK K
   try simp only [Act.put, pu]
   refine stk 9 26 ?_;refine aK (by kernel_rfl) ?_ _;go_wp2_with fail;go_roundw
   case rel => exact ⟨hB1, k + 1, by omega, by go_num⟩
   case measure => simp [intOf]; omega
  · go_wp2;go_ret;exact ⟨rfl, hbl⟩
/-! ### Copies -/
theorem endInfo : (Tryz.prog.info? 138).map (fun i => (i.zero, i.size, i.bytes)) = some (some (.agg #[.int .i64 0, .int .i64 0]), 2, 16) := by kernel_rfl
theorem endsInfo : (Tryz.prog.info? 109).map (fun i => (i.zero, i.size, i.bytes)) = some (some (.slice none 0 0), 1, 24) := by kernel_rfl
theorem run_make2 {P : Program} (t e : TypeId) (z : Value) (bytes : Nat) (ht : P.underlying t = some (.slice e)) (hinf : (P.info? e).map (fun i => (i.zero, i.size, i.bytes)) = some (some z, 2, bytes)) (n : Nat)
    (hb : bytes * n ≤ 281474976710656) (h63 : n ≤ 9223372036854775807) (w : World) :
    (Instr.makeSlice t (.int .i64 (n : Int)) (.int .i64 (n : Int))).run P w = .ok (.slice (some ⟨w.heap.size, 0, none⟩) n n) (w.alloc (.cells (madeCells z.cells (n * 2)) e)) := by
  obtain ⟨i, hi, hz0, hz1, hz2⟩ := info_parts hinf;have hb' : (i.bytes : Int) * (n : Int) ≤ 281474976710656 := by
    rw [hz2];have h : ((bytes * n : Nat) : Int) ≤ 281474976710656 := by omega
    rwa [Int.natCast_mul] at h
  have hr := run_make (P := P) w t e i z ht hi hz0 .i64 .i64 n n (by omega) (by omega) hb' (by omega);simp only [Int.toNat_natCast] at hr;rw [hr, hz1]
def EndsTo (es : Ends) (C : Array Value) (k : Nat) : Prop := ∀ j e, j < k → es[j]? = some e → C[j * 2]? = some (.int .i64 e.1) ∧ C[j * 2 + 1]? = some (.int .i64 e.2)
theorem EndsTo.next {es : Ends} {C : Array Value} {k : Nat} {x : Int × Int} (h : EndsTo es C k) (hx : es[k]? = some x) (hC : C.size = es.length * 2) (hk : k < es.length) :
    EndsTo es ((C.setIfInBounds (k * 2) (.int .i64 x.1)).setIfInBounds (k * 2 + 1) (.int .i64 x.2)) (k + 1) := by
  intro j e hj he;by_cases hjk : j < k
  · rw [Array.getElem?_setIfInBounds_ne (by omega), Array.getElem?_setIfInBounds_ne (by omega), Array.getElem?_setIfInBounds_ne (by omega), Array.getElem?_setIfInBounds_ne (by omega)]
    exact h j e hjk he
  · obtain rfl : j = k := by omega
    obtain rfl := aE (hx.symm.trans he);constructor
    · rw [Array.getElem?_setIfInBounds_ne (by omega), Array.getElem?_setIfInBounds_self_of_lt (by omega)]
    · rw [Array.getElem?_setIfInBounds_self_of_lt (by simp; omega)]
def ToERel (xs : Ends) (w : World) (i : Value) (wr : World) : Prop :=
  ∃ (k : Nat) (C : Array Value), k ≤ xs.length ∧ i = .int .i64 k ∧ wr.heap[w.heap.size]? = some (.cells C 138 (0, 0)) ∧ C.size = xs.length * 2 ∧ Below w.heap.size w wr ∧ w.heap.size < wr.heap.size ∧ EndsTo xs C k
theorem to_EndS (v : Value) (xs : Ends) (w : World) (h : EndsB w w.heap.size v xs) (hn : xs.length ≤ 1048576) :
  Calls Tryz.prog 78 #[v] w fun e w' => ∃ v', e = .returned v' ∧ (∃ A m c, v' = .slice A m c) ∧ EndsR w' (fun b => w.heap.size ≤ b ∧ b < w'.heap.size) v' xs ∧ Below w.heap.size w w' ∧ w.heap.size < w'.heap.size := by
 obtain ⟨A, c, rfl, h1, h2, h4, h3⟩ := h;have H4 := aA h4; clear h4;have hmk := fun W => run_make2 (P := Tryz.prog) 109 138 _ 16 Tryz.underlying109 endInfo xs.length (by omega) (by omega) W
 go_enter Tryz.func78, Tryz.ntmps78;go_wp2;clear hmk;go_loopw [4] (fun i wr => ToERel xs w i wr) (fun i _ => xs.length - (intOf i).toNat)
 case atStart => exact ⟨0, _, Nat.zero_le _, rfl, heap_alloc_new w _, by simp [madeCells], bl_alloc (Below.refl _ _) _, by simp, fun j x hj => by omega⟩
 case round =>
  obtain ⟨k, C, hk, rfl, hblk, hC, hbl, hgt, hits⟩ := hrel;have hsz := hbl.size;have HI := aA hits; clear hits;have HB := aA hblk; clear hblk;have HC := aA hC; clear hC;by_cases hlt : k < xs.length
  ·
   obtain ⟨x, hx⟩ : ∃ x, xs[k]? = some x := ⟨xs[k], aC hlt⟩
   obtain ⟨b, o, rfl, hb, hc⟩ := h3 (by omega);have q0 := (hbl.cell (p := ⟨b, o + k * 2, none⟩) hb).trans (hc k x hx).1;have q1 := (hbl.cell (p := ⟨b, o + k * 2 + 1, none⟩) hb).trans (hc k x hx).2;have HX := aA hx;clear h3 hc hx;go_wp2_with fail;refine (to_End x wr).mono ?_;rintro e w1 ⟨rfl, hb1⟩;have hblk1 : w1.heap[w.heap.size]? = some (.cells C 138 (0, 0)) := (hb1.block _ hgt).trans HB.out;have hcell : ∀ j, j < 2 → ∃ u, w1.cell? ⟨w.heap.size, k * 2 + j, none⟩ = some u := by intro j hj;rw [cell_of_row w1 _ (k * 2 + j) _ _ (0, 0) hblk1, Array.getElem?_eq_getElem (by rw [HC.out]; omega)];exact ⟨_, rfl⟩
   have hfr : ∀ j, w1.frozen? ⟨w.heap.size, j, none⟩ = false := by intro j; simp [World.frozen?, hblk1]
   obtain ⟨o0, z0⟩ := hcell 0 (by omega);obtain ⟨o1, z1⟩ := hcell 1 (by omega);rw [Nat.add_zero] at z0;have y0 := hfr (k * 2);have y1 := hfr (k * 2 + 1);clear hcell hfr;have hB1 := hbl.trans (hb1.mono hsz);have hgt1 : w.heap.size < w1.heap.size := by have := hb1.size; omega
   have HB1 := aA hblk1; clear hblk1;go_wp2_with fail;go_roundw
   case rel =>
    refine ⟨k + 1, _, by omega, by go_num, heap_set_same (heap_set_same HB1.out _) _, by simp [HC.out], ?_, by simp only [size_setCell]; exact hgt1, HI.out.next HX.out HC.out hlt⟩
    iterate 2 (refine Below.setCell ?_ (by simp) _)
    exact hB1
   case measure => simp [intOf]; omega
  · go_wp2;go_ret;refine ⟨_, rfl, ⟨_, _, _, rfl⟩, ⟨_, _, rfl, Nat.le_refl _, by unfold maxLen; omega, H4.out, fun hn => ⟨_, 0, rfl, ⟨Nat.le_refl _, hgt⟩, fun j e he => ?_⟩⟩, hbl, hgt⟩;have hj : j < xs.length := (aB.1 he).1;obtain ⟨k1, k2⟩ := HI.out j e (by omega) he;exact ⟨by rw [cell_of_row _ _ (0 + j * 2) _ _ (0, 0) HB.out, Nat.zero_add]; exact k1, by rw [cell_of_row _ _ (0 + j * 2 + 1) _ _ (0, 0) HB.out, Nat.zero_add]; exact k2⟩
def ToEsRel (xss : List Ends) (w : World) (i : Value) (wr : World) : Prop :=
  ∃ (k : Nat) (C : Array Value), k ≤ xss.length ∧ i = .int .i64 k ∧ wr.heap[w.heap.size]? = some (.cells C 109 (0, 0)) ∧ C.size = xss.length ∧ Below w.heap.size w wr ∧ w.heap.size < wr.heap.size ∧
    (∀ (j : Nat) (u : Value), C[j]? = some u → ∃ A m c, u = .slice A m c) ∧ ∀ j xs, j < k → xss[j]? = some xs → ∃ u, C[j]? = some u ∧ EndsR wr (fun b => w.heap.size < b ∧ b < wr.heap.size) u xs
theorem to_EndSS (v : Value) (xss : List Ends) (w : World) (h : EndssR w (· < w.heap.size) v xss) (hn : szEnds xss ≤ 1048576) :
  Calls Tryz.prog 40 #[v] w fun e w' => ∃ v', e = .returned v' ∧ EndssR w' (fun b => w.heap.size ≤ b ∧ b < w'.heap.size) v' xss ∧ Below w.heap.size w w' := by
 obtain ⟨A, c, rfl, h1, h2, h3⟩ := h;have hn' : xss.length ≤ 1048576 := by unfold szEnds at hn; omega
 have HSZ := aA (show ∀ (k : Nat) (x : Ends), xss[k]? = some x → x.length ≤ 1048576 from fun k x hx => by
  have := lensE_snoc xss k x hx;have := lensE_split xss (k + 1);unfold szEnds at hn
  omega)
 clear hn;have hmk := fun W => run_make1 (P := Tryz.prog) 48 109 (.slice none 0 0) 24 Tryz.underlying48 endsInfo rfl xss.length (by omega) (by omega) W
 go_enter Tryz.func40, Tryz.ntmps40;go_wp2;clear hmk;go_loopw [4] (fun i wr => ToEsRel xss w i wr) (fun i _ => xss.length - (intOf i).toNat)
 case atStart => exact ⟨0, _, Nat.zero_le _, rfl, heap_alloc_new w _, by simp [rowOf], bl_alloc (Below.refl _ _) _, by simp, fun j u hu => ⟨none, 0, 0, by have h := hu; simp [rowOf, Array.getElem?_replicate] at h; exact h.2.symm⟩, fun j x hj => by omega⟩
 case round =>
  obtain ⟨k, C, hk, rfl, hblk, hC, hbl, hgt, hsl, hits⟩ := hrel;have hsz := hbl.size;have HI := aA hits; clear hits;have HB := aA hblk; clear hblk;have HC := aA hC; clear hC;have HL := aA hsl; clear hsl;by_cases hlt : k < xss.length
  ·
   obtain ⟨xs, hx⟩ : ∃ x, xss[k]? = some x := ⟨xss[k], aC hlt⟩
   obtain ⟨ad, rfl, hb, hc⟩ := h3 (by omega);obtain ⟨u, hu, hr⟩ := hc k xs hx;have hcell : wr.cell? (ad.add k) = some u := (hbl.cell (p := ad.add k) (by rw [block_add]; exact hb)).trans hu;have HR := aA ((hr.below hbl).more hsz);have hxz := HSZ.out k xs hx;have HX := aA hx;clear h3 hc hx hr hu;go_wp2_with fail;refine (to_EndS u xs wr HR.out hxz).mono ?_;rintro e w1 ⟨v', rfl, ⟨A', m', c', rfl⟩, ho, hb1, hs1⟩;have hblk1 : w1.heap[w.heap.size]? = some (.cells C 109 (0, 0)) := (hb1.block _ hgt).trans HB.out;obtain ⟨o0, z00⟩ : ∃ u, C[k]? = some u := ⟨_, Array.getElem?_eq_getElem (by rw [HC.out]; omega)⟩
   obtain ⟨Ao, mo, co, rfl⟩ := HL.out k _ z00;have z0 : w1.cell? ⟨w.heap.size, k, none⟩ = some (.slice Ao mo co) := by rw [cell_of_row w1 _ k _ _ (0, 0) hblk1]; exact z00
   have hfr : w1.frozen? ⟨w.heap.size, k, none⟩ = false := by simp [World.frozen?, hblk1]
   have hB1 := hbl.trans (hb1.mono hsz);have HB1 := aA hblk1; clear hblk1 z00;have HO := aA ho; clear ho;have hz1 := hb1.size;go_wp2_with fail;go_roundw
   case rel =>
    refine ⟨k + 1, _, by omega, by go_num, heap_set_same HB1.out _, by simp [HC.out], Below.setCell hB1 (by simp) _, by simp only [size_setCell]; omega, fun j u hu => ?_, fun j y hj hy => ?_⟩
    ·
     by_cases hjk : j = k
     · subst hjk;rw [Array.getElem?_setIfInBounds_self_of_lt (by rw [HC.out]; omega)] at hu;exact ⟨_, _, _, (aE hu).symm⟩
     · rw [Array.getElem?_setIfInBounds_ne (by omega)] at hu;exact HL.out j u hu
    ·
     have hk1 : ∀ b, w.heap.size < b → (w1.setCell ⟨w.heap.size, k, none⟩ (.slice A' m' c')).heap[b]? = w1.heap[b]? := fun b hb => Below.heap_setCell _ _ _ _ (by simp; omega)
     by_cases hjk : j < k
     · obtain ⟨u', hu', hr'⟩ := HI.out j y hjk hy;refine ⟨u', by rw [Array.getElem?_setIfInBounds_ne (by omega)]; exact hu', hr'.keep (fun b hb => ⟨hb.1, by simp only [size_setCell]; omega⟩) fun b hb => (hk1 b hb.1).trans (hb1.block b hb.2)⟩
     ·
      obtain rfl : j = k := by omega
      obtain rfl := aE (HX.out.symm.trans hy);exact ⟨_, Array.getElem?_setIfInBounds_self_of_lt (by rw [HC.out]; omega), HO.out.keep (fun b hb => ⟨by omega, by simp only [size_setCell]; omega⟩) fun b hb => hk1 b (by omega)⟩
   case measure => simp [intOf]; omega
  · go_wp2;go_ret;refine ⟨_, rfl, ⟨_, _, rfl, Nat.le_refl _, by unfold maxLen; omega, fun hn => ⟨_, rfl, ⟨Nat.le_refl _, hgt⟩, fun j xs hx => ?_⟩⟩, hbl⟩;have hj : j < xss.length := (aB.1 hx).1;obtain ⟨u, k1, k2⟩ := HI.out j xs (by omega) hx;refine ⟨u, ?_, k2.keep (fun b hb => ⟨by omega, hb.2⟩) fun _ _ => rfl⟩;rw [show (⟨w.heap.size, 0, none⟩ : Addr).add j = ⟨w.heap.size, j, none⟩ by unfold Addr.add; split <;> simp_all, cell_of_row _ _ j _ _ (0, 0) HB.out];exact k1
theorem eq_Net (ve vi vn ve' vi' vn' : Value) (n : Net) (w : World) (h : NetR w w.heap.size ve vi vn n) (h' : NetR w w.heap.size ve' vi' vn' n) :
  Calls Tryz.prog 18 #[.agg #[ve, vi, vn], .agg #[ve', vi', vn']] w fun e w' => e = .returned (.bool true) ∧ Below w.heap.size w w' := by
 obtain ⟨⟨A0, m0, c0, rfl⟩, ⟨A1, m1, c1, rfl⟩, A2, m2, c2, rfl⟩ := h.slices;obtain ⟨⟨B0, n0, d0, rfl⟩, ⟨B1, n1, d1, rfl⟩, B2, n2, d2, rfl⟩ := h'.slices;obtain ⟨w0, hw0⟩ : ∃ z, z = w.alloc (.cells #[.slice A0 m0 c0, .slice A1 m1 c1, .slice A2 m2 c2] 50) := ⟨_, rfl⟩
 obtain ⟨w1, hw1⟩ : ∃ z, z = w0.alloc (.cells #[.slice B0 n0 d0, .slice B1 n1 d1, .slice B2 n2 d2] 50) := ⟨_, rfl⟩
 have hb0 : Below w.heap.size w w0 := by rw [hw0]; exact bl_alloc (Below.refl _ _) _
 have hb1 : Below w0.heap.size w0 w1 := by rw [hw1]; exact bl_alloc (Below.refl _ _) _
 have hs0 : w0.heap.size = w.heap.size + 1 := by rw [hw0]; simp
 have hs1 : w1.heap.size = w0.heap.size + 1 := by rw [hw1]; simp
 have HD0 := aA (show w0.heap[w.heap.size]? = some (.cells #[.slice A0 m0 c0, .slice A1 m1 c1, .slice A2 m2 c2] 50 (0, 0)) by rw [hw0]; exact heap_alloc_new w _);have HD1 := aA (show w1.heap[w0.heap.size]? = some (.cells #[.slice B0 n0 d0, .slice B1 n1 d1, .slice B2 n2 d2] 50 (0, 0)) by rw [hw1]; exact heap_alloc_new w0 _);replace HD0 := bk HD0 hb1;rw [hs0] at HD1;have hB := bl_trans hb0 hb1;have HS := aA hs1;have HS0 := aA hs0;have HW0 := aA hw0; clear hw0;have HW1 := aA hw1; clear hw1;clear hs0 hs1;replace h := aA (h.up hB);replace h' := aA (h'.up hB);clear hb0 hb1;obtain ⟨q0, q1, q2, qf⟩ := cells3 HD0;obtain ⟨p0, p1, p2, pf⟩ := cells3 HD1;go_enter Tryz.func18, Tryz.ntmps18;go_wp2_with fail;rw [← HW0.out, ← HW1.out];refine (eq_EndSS _ _ n.es w1 h.out.e h'.out.e).mono ?_;rintro e w2 ⟨rfl, hb2⟩;clear q0 q1 q2 qf p0 p1 p2 pf;replace HD0 := bk HD0 hb2 (by have := HS.out; have := HS0.out; omega);replace HD1 := bk HD1 hb2 (by have := HS.out; have := HS0.out; omega);obtain ⟨q0, q1, q2, qf⟩ := cells3 HD0;obtain ⟨p0, p1, p2, pf⟩ := cells3 HD1;replace h := aA (h.out.up hb2);replace h' := aA (h'.out.up hb2);replace hB := bl_trans hB hb2;go_wp2_with fail;refine (eq_IntS _ _ n.ids w2 h.out.i h'.out.i).mono ?_;rintro e w3 ⟨rfl, a, rfl⟩;go_wp2_with fail;refine (eq_IntS _ _ n.ins (w2.drewN a) h.out.n h'.out.n).mono ?_;rintro e w4 ⟨rfl, b, rfl⟩;go_wp2_with fail;go_ret;exact ⟨rfl, bl_drewN hB _⟩
theorem to_Net (ve vi vn : Value) (n : Net) (w : World) (h : NetR w w.heap.size ve vi vn n) (hz : szNet n ≤ 1048576) :
  Calls Tryz.prog 11 #[.agg #[ve, vi, vn]] w fun e w' => ∃ ve' vi' vn', e = .returned (.agg #[ve', vi', vn']) ∧ NetR w' w'.heap.size ve' vi' vn' n ∧ Below w.heap.size w w' := by
 obtain ⟨⟨A0, m0, c0, rfl⟩, ⟨A1, m1, c1, rfl⟩, A2, m2, c2, rfl⟩ := h.slices;have HZ := aA (show szEnds n.es ≤ 1048576 ∧ n.ids.length ≤ 1048576 ∧ n.ins.length ≤ 1048576 by unfold szNet at hz; omega);clear hz;obtain ⟨w0, hw0⟩ : ∃ z, z = w.alloc (.cells #[.slice A0 m0 c0, .slice A1 m1 c1, .slice A2 m2 c2] 29) := ⟨_, rfl⟩
 obtain ⟨w1, hw1⟩ : ∃ z, z = w0.alloc (.cells #[.slice none 0 0, .slice none 0 0, .slice none 0 0] 50) := ⟨_, rfl⟩
 obtain ⟨w2, hw2⟩ : ∃ z, z = w1.alloc (.cells #[.slice none 0 0, .slice none 0 0, .slice none 0 0] 50) := ⟨_, rfl⟩
 have hb0 : Below w.heap.size w w0 := by rw [hw0]; exact bl_alloc (Below.refl _ _) _
 have hb1 : Below w0.heap.size w0 w1 := by rw [hw1]; exact bl_alloc (Below.refl _ _) _
 have hb2 : Below w1.heap.size w1 w2 := by rw [hw2]; exact bl_alloc (Below.refl _ _) _
 have hs0 : w0.heap.size = w.heap.size + 1 := by rw [hw0]; simp
 have hs1 : w1.heap.size = w.heap.size + 1 + 1 := by rw [hw1]; simp [hs0]
 have hs2 : w2.heap.size = w.heap.size + 1 + 1 + 1 := by rw [hw2]; simp [hs1]
 have HD0 := aA (show w0.heap[w.heap.size]? = some (.cells #[.slice A0 m0 c0, .slice A1 m1 c1, .slice A2 m2 c2] 29 (0, 0)) by rw [hw0]; exact heap_alloc_new w _);have HD1 := aA (show w1.heap[w.heap.size + 1]? = some (.cells #[.slice none 0 0, .slice none 0 0, .slice none 0 0] 50 (0, 0)) by rw [hw1, ← hs0]; exact heap_alloc_new w0 _);have HD2 := aA (show w2.heap[w.heap.size + 1 + 1]? = some (.cells #[.slice none 0 0, .slice none 0 0, .slice none 0 0] 50 (0, 0)) by rw [hw2, ← hs1]; exact heap_alloc_new w1 _);replace HD0 := bk (bk HD0 hb1) hb2;replace HD1 := bk HD1 hb2;have hB := bl_trans (bl_trans hb0 hb1) hb2;have HW0 := aA hw0; clear hw0;have HW1 := aA hw1; clear hw1;have HW2 := aA hw2; clear hw2;have hlt : w.heap.size + 1 + 1 < w2.heap.size := by omega
 clear hs0 hs1 hs2;have HN := aA h; clear h;clear hb0 hb1 hb2;obtain ⟨q0, q1, q2, qf⟩ := cells3 HD0;go_enter Tryz.func11, Tryz.ntmps11;go_wp2_with fail;rw [← HW0.out, ← HW1.out, ← HW2.out];refine (to_EndSS _ n.es w2 ((HN.out.below hB).more hB.size).e HZ.out.1).mono ?_;rintro e w3 ⟨v0, rfl, ho, hb3⟩;obtain ⟨B0, n0, d0, rfl⟩ := ho.isSlice;have HO := aA ho; clear ho;clear q0 q1 q2 qf;replace HD0 := bk HD0 hb3;replace HD1 := bk HD1 hb3;replace HD2 := bk HD2 hb3;replace hB := bl_trans hB hb3;have hz3 := hb3.size;obtain ⟨q0, q1, q2, qf⟩ := cells3 HD0;obtain ⟨p0, p1, p2, pf⟩ := cells3 HD2;obtain ⟨w4, hw4⟩ : ∃ z, z = w3.setCell ⟨w.heap.size + 1 + 1, 0, none⟩ (.slice B0 n0 d0) := ⟨_, rfl⟩
 have HW4 := aA hw4;go_wp2_with fail;rw [← HW4.out];obtain ⟨hB4, ho4, HD4, hz4, hy4⟩ := setB hB (by omega) HD2.out hw4;clear hw4 q0 q1 q2 qf p0 p1 p2 pf HD2;replace HD0 := aA ((ho4 _ (by omega)).trans HD0.out);replace HD1 := aA ((ho4 _ (by omega)).trans HD1.out);replace HO := aA (HO.out.keep (w' := w4) (fun b hb => hb) fun b hb => ho4 b (by omega));refine (to_IntS _ n.ids w4 ((HN.out.below hB4).more hB4.size).i HZ.out.2.1).mono ?_;rintro e w5 ⟨rfl, hw5⟩;have hb5 : Below w4.heap.size w4 w5 := by rw [hw5]; exact bl_alloc (Below.refl _ _) _
 have HI := aA (show w5.heap[w4.heap.size]? = some (.cells (n.ids.map intV).toArray 3 (0, 0)) by rw [hw5]; exact heap_alloc_new w4 _);have hz5 : w5.heap.size ≤ w4.heap.size + 1 := by rw [hw5]; simp
 have hy5 : w4.heap.size < w5.heap.size := by rw [hw5]; simp
 clear hw5;replace HD0 := bk HD0 hb5;replace HD1 := bk HD1 hb5;replace HD4 := bk HD4 hb5;have hB5 := bl_trans hB4 hb5;replace HO := aA (HO.out.keep (w' := w5) (fun b hb => hb) fun b hb => hb5.block b (by omega));obtain ⟨q0, q1, q2, qf⟩ := cells3 HD0;obtain ⟨p0, p1, p2, pf⟩ := cells3 HD4;obtain ⟨w6, hw6⟩ : ∃ z, z = w5.setCell ⟨w.heap.size + 1 + 1, 1, none⟩ (.slice (some ⟨w4.heap.size, 0, none⟩) n.ids.length n.ids.length) := ⟨_, rfl⟩
 have HW6 := aA hw6;go_wp2_with fail;rw [← HW6.out];obtain ⟨hB6, ho6, HD6, hz6, hy6⟩ := setB hB5 (by omega) HD4.out hw6;clear hw6 q0 q1 q2 qf p0 p1 p2 pf HD4;replace HD0 := aA ((ho6 _ (by omega)).trans HD0.out);replace HD1 := aA ((ho6 _ (by omega)).trans HD1.out);replace HI := aA ((ho6 _ (by omega)).trans HI.out);replace HO := aA (HO.out.keep (w' := w6) (fun b hb => hb) fun b hb => ho6 b (by omega));refine (to_IntS _ n.ins w6 ((HN.out.below hB6).more hB6.size).n HZ.out.2.2).mono ?_;rintro e w7 ⟨rfl, hw7⟩;have hb7 : Below w6.heap.size w6 w7 := by rw [hw7]; exact bl_alloc (Below.refl _ _) _
 have HJ := aA (show w7.heap[w6.heap.size]? = some (.cells (n.ins.map intV).toArray 3 (0, 0)) by rw [hw7]; exact heap_alloc_new w6 _);have hz7 : w7.heap.size ≤ w6.heap.size + 1 := by rw [hw7]; simp
 have hy7 : w6.heap.size < w7.heap.size := by rw [hw7]; simp
 clear hw7;replace HD0 := bk HD0 hb7;replace HD1 := bk HD1 hb7;replace HD6 := bk HD6 hb7;replace HI := bk HI hb7;have hB7 := bl_trans hB6 hb7;replace HO := aA (HO.out.keep (w' := w7) (fun b hb => hb) fun b hb => hb7.block b (by omega));obtain ⟨q0, q1, q2, qf⟩ := cells3 HD0;obtain ⟨p0, p1, p2, pf⟩ := cells3 HD6;obtain ⟨r0, r1, r2, rf⟩ := cells3 HD1;obtain ⟨w8, hw8⟩ : ∃ z, z = w7.setCell ⟨w.heap.size + 1 + 1, 2, none⟩ (.slice (some ⟨w6.heap.size, 0, none⟩) n.ins.length n.ins.length) := ⟨_, rfl⟩
 have HW8 := aA hw8;obtain ⟨hB8, ho8, HD8, hz8, hy8⟩ := setB hB7 (by omega) HD6.out hw8;clear hw8;replace HI := aA ((ho8 _ (by omega)).trans HI.out);replace HJ := aA ((ho8 _ (by omega)).trans HJ.out);replace HD1 := aA ((ho8 _ (by omega)).trans HD1.out);replace HO := aA (HO.out.keep (w' := w8) (fun b hb => hb) fun b hb => ho8 b (by omega));have HB8 := aA hB8;have HZ0 := aA (And.intro hz3 (And.intro (And.intro hz4 hy4) (And.intro (And.intro hz5 hy5) (And.intro (And.intro hz6 hy6) (And.intro (And.intro hz7 hy7) (And.intro hz8 hy8))))));go_wp2_with fail;rw [← HW8.out];obtain ⟨s0, s1, s2, sf⟩ := cells3 HD1;refine bodyPost_ret (v := .agg #[.slice B0 n0 d0, .slice (some ⟨w4.heap.size, 0, none⟩) n.ids.length n.ids.length, .slice (some ⟨w6.heap.size, 0, none⟩) n.ins.length n.ins.length]) (by simp [results, Tryz.results11, go_sem, s0, s1, s2]) rfl ?_;obtain ⟨k3, ⟨k4, j4⟩, ⟨k5, j5⟩, ⟨k6, j6⟩, ⟨k7, j7⟩, k8, j8⟩ := HZ0.out;have hk : ∀ b, b ≠ w.heap.size + 1 → (((w8.setCell ⟨w.heap.size + 1, 0, none⟩ (.slice B0 n0 d0)).setCell ⟨w.heap.size + 1, 1, none⟩ (.slice (some ⟨w4.heap.size, 0, none⟩) n.ids.length n.ids.length)).setCell ⟨w.heap.size + 1, 2, none⟩ (.slice (some ⟨w6.heap.size, 0, none⟩) n.ins.length n.ins.length)).heap[b]? = w8.heap[b]? := fun b hb => by iterate 3 rw [Below.heap_setCell _ _ _ _ (by simpa using hb)]
 refine ⟨_, _, _, rfl, ⟨HO.out.keep (fun b hb => by simp only [size_setCell]; omega) fun b hb => hk b (by omega), ints_row ((hk _ (by omega)).trans HI.out) (by have := HZ.out.2.1; unfold maxLen; omega) HN.out.i.2 (by simp only [size_setCell]; omega), ints_row ((hk _ (by omega)).trans HJ.out) (by have := HZ.out.2.2; unfold maxLen; omega) HN.out.n.2 (by simp only [size_setCell]; omega)⟩, ?_⟩
 iterate 3 (refine Below.setCell ?_ (by simp) _)
 exact HB8.out
end
section
open Go.RowKit
set_option linter.all false
theorem to_EndW (v : Value) (xs : Ends) (w : World) (h : EndsB w w.heap.size v xs) (hn : xs.length ≤ 1048576) :
  Calls Tryz.prog 78 #[v] w fun e w' => ∃ v', e = .returned v' ∧ (∃ A m c, v' = .slice A m c) ∧ EndsR w' (fun b => w.heap.size ≤ b ∧ b < w'.heap.size) v' xs ∧ Below w.heap.size w w' ∧ w.heap.size < w'.heap.size ∧ RowW w' (fun b => w.heap.size ≤ b ∧ b < w'.heap.size) v' xs.length := by
 obtain ⟨A, c, rfl, h1, h2, h4, h3⟩ := h;have H4 := aA h4; clear h4;have hmk := fun W => run_make2 (P := Tryz.prog) 109 138 _ 16 Tryz.underlying109 endInfo xs.length (by omega) (by omega) W
 go_enter Tryz.func78, Tryz.ntmps78;go_wp2;clear hmk;go_loopw [4] (fun i wr => ToERel xs w i wr) (fun i _ => xs.length - (intOf i).toNat)
 case atStart => exact ⟨0, _, Nat.zero_le _, rfl, heap_alloc_new w _, by simp [madeCells], bl_alloc (Below.refl _ _) _, by simp, fun j x hj => by omega⟩
 case round =>
  obtain ⟨k, C, hk, rfl, hblk, hC, hbl, hgt, hits⟩ := hrel;have hsz := hbl.size;have HI := aA hits; clear hits;have HB := aA hblk; clear hblk;have HC := aA hC; clear hC;by_cases hlt : k < xs.length
  ·
   obtain ⟨x, hx⟩ : ∃ x, xs[k]? = some x := ⟨xs[k], aC hlt⟩
   obtain ⟨b, o, rfl, hb, hc⟩ := h3 (by omega);have q0 := (hbl.cell (p := ⟨b, o + k * 2, none⟩) hb).trans (hc k x hx).1;have q1 := (hbl.cell (p := ⟨b, o + k * 2 + 1, none⟩) hb).trans (hc k x hx).2;have HX := aA hx;clear h3 hc hx;go_wp2_with fail;refine (to_End x wr).mono ?_;rintro e w1 ⟨rfl, hb1⟩;have hblk1 : w1.heap[w.heap.size]? = some (.cells C 138 (0, 0)) := (hb1.block _ hgt).trans HB.out;have hcell : ∀ j, j < 2 → ∃ u, w1.cell? ⟨w.heap.size, k * 2 + j, none⟩ = some u := by intro j hj;rw [cell_of_row w1 _ (k * 2 + j) _ _ (0, 0) hblk1, Array.getElem?_eq_getElem (by rw [HC.out]; omega)];exact ⟨_, rfl⟩
   have hfr : ∀ j, w1.frozen? ⟨w.heap.size, j, none⟩ = false := by intro j; simp [World.frozen?, hblk1]
   obtain ⟨o0, z0⟩ := hcell 0 (by omega);obtain ⟨o1, z1⟩ := hcell 1 (by omega);rw [Nat.add_zero] at z0;have y0 := hfr (k * 2);have y1 := hfr (k * 2 + 1);clear hcell hfr;have hB1 := hbl.trans (hb1.mono hsz);have hgt1 : w.heap.size < w1.heap.size := by have := hb1.size; omega
   have HB1 := aA hblk1; clear hblk1;go_wp2_with fail;go_roundw
   case rel =>
    refine ⟨k + 1, _, by omega, by go_num, heap_set_same (heap_set_same HB1.out _) _, by simp [HC.out], ?_, by simp only [size_setCell]; exact hgt1, HI.out.next HX.out HC.out hlt⟩
    iterate 2 (refine Below.setCell ?_ (by simp) _)
    exact hB1
   case measure => simp [intOf]; omega
  · go_wp2;go_ret;refine ⟨_, rfl, ⟨_, _, _, rfl⟩, ⟨_, _, rfl, Nat.le_refl _, by unfold maxLen; omega, H4.out, fun hn => ⟨_, 0, rfl, ⟨Nat.le_refl _, hgt⟩, fun j e he => ?_⟩⟩, hbl, hgt, ⟨_, _, rfl, Nat.le_refl _, by unfold maxLen; omega, fun hn => ⟨_, C, rfl, ⟨Nat.le_refl _, hgt⟩, HB.out, by rw [HC.out]; exact Nat.le_refl _⟩⟩⟩;have hj : j < xs.length := (aB.1 he).1;obtain ⟨k1, k2⟩ := HI.out j e (by omega) he;exact ⟨by rw [cell_of_row _ _ (0 + j * 2) _ _ (0, 0) HB.out, Nat.zero_add]; exact k1, by rw [cell_of_row _ _ (0 + j * 2 + 1) _ _ (0, 0) HB.out, Nat.zero_add]; exact k2⟩
def ToEwRel (xss : List Ends) (w : World) (i : Value) (wr : World) : Prop :=
  ∃ (k : Nat) (C : Array Value), k ≤ xss.length ∧ i = .int .i64 k ∧ wr.heap[w.heap.size]? = some (.cells C 109 (0, 0)) ∧ C.size = xss.length ∧ Below w.heap.size w wr ∧ w.heap.size < wr.heap.size ∧
    (∀ (j : Nat) (u : Value), C[j]? = some u → ∃ A m c, u = .slice A m c) ∧ ∀ j xs, j < k → xss[j]? = some xs → ∃ u, C[j]? = some u ∧ EndsR wr (fun b => w.heap.size < b ∧ b < wr.heap.size) u xs ∧ RowW wr (fun b => w.heap.size < b ∧ b < wr.heap.size) u xs.length
theorem to_EndWS (v : Value) (xss : List Ends) (w : World) (h : EndssR w (· < w.heap.size) v xss) (hn : szEnds xss ≤ 1048576) :
  Calls Tryz.prog 40 #[v] w fun e w' => ∃ v', e = .returned v' ∧ EndssR w' (fun b => w.heap.size ≤ b ∧ b < w'.heap.size) v' xss ∧ Below w.heap.size w w' ∧ w.heap.size < w'.heap.size ∧ RowsW w' w.heap.size (fun b => w.heap.size < b ∧ b < w'.heap.size) v' (xss.map List.length) := by
 obtain ⟨A, c, rfl, h1, h2, h3⟩ := h;have hn' : xss.length ≤ 1048576 := by unfold szEnds at hn; omega
 have HSZ := aA (show ∀ (k : Nat) (x : Ends), xss[k]? = some x → x.length ≤ 1048576 from fun k x hx => by
  have := lensE_snoc xss k x hx;have := lensE_split xss (k + 1);unfold szEnds at hn
  omega)
 clear hn;have hmk := fun W => run_make1 (P := Tryz.prog) 48 109 (.slice none 0 0) 24 Tryz.underlying48 endsInfo rfl xss.length (by omega) (by omega) W
 go_enter Tryz.func40, Tryz.ntmps40;go_wp2;clear hmk;go_loopw [4] (fun i wr => ToEwRel xss w i wr) (fun i _ => xss.length - (intOf i).toNat)
 case atStart => exact ⟨0, _, Nat.zero_le _, rfl, heap_alloc_new w _, by simp [rowOf], bl_alloc (Below.refl _ _) _, by simp, fun j u hu => ⟨none, 0, 0, by have h := hu; simp [rowOf, Array.getElem?_replicate] at h; exact h.2.symm⟩, fun j x hj => by omega⟩
 case round =>
  obtain ⟨k, C, hk, rfl, hblk, hC, hbl, hgt, hsl, hits⟩ := hrel;have hsz := hbl.size;have HI := aA hits; clear hits;have HB := aA hblk; clear hblk;have HC := aA hC; clear hC;have HL := aA hsl; clear hsl;by_cases hlt : k < xss.length
  ·
   obtain ⟨xs, hx⟩ : ∃ x, xss[k]? = some x := ⟨xss[k], aC hlt⟩
   obtain ⟨ad, rfl, hb, hc⟩ := h3 (by omega);obtain ⟨u, hu, hr⟩ := hc k xs hx;have hcell : wr.cell? (ad.add k) = some u := (hbl.cell (p := ad.add k) (by rw [block_add]; exact hb)).trans hu;have HR := aA ((hr.below hbl).more hsz);have hxz := HSZ.out k xs hx;have HX := aA hx;clear h3 hc hx hr hu;go_wp2_with fail;refine (to_EndW u xs wr HR.out hxz).mono ?_;rintro e w1 ⟨v', rfl, ⟨A', m', c', rfl⟩, ho, hb1, hs1, hrw⟩;have hblk1 : w1.heap[w.heap.size]? = some (.cells C 109 (0, 0)) := (hb1.block _ hgt).trans HB.out;obtain ⟨o0, z00⟩ : ∃ u, C[k]? = some u := ⟨_, Array.getElem?_eq_getElem (by rw [HC.out]; omega)⟩
   obtain ⟨Ao, mo, co, rfl⟩ := HL.out k _ z00;have z0 : w1.cell? ⟨w.heap.size, k, none⟩ = some (.slice Ao mo co) := by rw [cell_of_row w1 _ k _ _ (0, 0) hblk1]; exact z00
   have hfr : w1.frozen? ⟨w.heap.size, k, none⟩ = false := by simp [World.frozen?, hblk1]
   have hB1 := hbl.trans (hb1.mono hsz);have HB1 := aA hblk1; clear hblk1 z00;have HO := aA (And.intro ho hrw); clear ho hrw;have hz1 := hb1.size;go_wp2_with fail;go_roundw
   case rel =>
    refine ⟨k + 1, _, by omega, by go_num, heap_set_same HB1.out _, by simp [HC.out], Below.setCell hB1 (by simp) _, by simp only [size_setCell]; omega, fun j u hu => ?_, fun j y hj hy => ?_⟩
    ·
     by_cases hjk : j = k
     · subst hjk;rw [Array.getElem?_setIfInBounds_self_of_lt (by rw [HC.out]; omega)] at hu;exact ⟨_, _, _, (aE hu).symm⟩
     · rw [Array.getElem?_setIfInBounds_ne (by omega)] at hu;exact HL.out j u hu
    ·
     have hk1 : ∀ b, w.heap.size < b → (w1.setCell ⟨w.heap.size, k, none⟩ (.slice A' m' c')).heap[b]? = w1.heap[b]? := fun b hb => Below.heap_setCell _ _ _ _ (by simp; omega)
     by_cases hjk : j < k
     · obtain ⟨u', hu', hr', hq'⟩ := HI.out j y hjk hy;refine ⟨u', by rw [Array.getElem?_setIfInBounds_ne (by omega)]; exact hu', hr'.keep (fun b hb => ⟨hb.1, by simp only [size_setCell]; omega⟩) fun b hb => (hk1 b hb.1).trans (hb1.block b hb.2), hq'.keep (fun b hb => ⟨hb.1, by simp only [size_setCell]; omega⟩) fun b hb => (hk1 b hb.1).trans (hb1.block b hb.2)⟩
     ·
      obtain rfl : j = k := by omega
      obtain rfl := aE (HX.out.symm.trans hy);exact ⟨_, Array.getElem?_setIfInBounds_self_of_lt (by rw [HC.out]; omega), HO.out.1.keep (fun b hb => ⟨by omega, by simp only [size_setCell]; omega⟩) fun b hb => hk1 b (by omega), HO.out.2.keep (fun b hb => ⟨by omega, by simp only [size_setCell]; omega⟩) fun b hb => hk1 b (by omega)⟩
   case measure => simp [intOf]; omega
  ·
   go_wp2;go_ret;refine ⟨_, rfl, ⟨_, _, rfl, Nat.le_refl _, by unfold maxLen; omega, fun hn => ⟨_, rfl, ⟨Nat.le_refl _, hgt⟩, fun j xs hx => ?_⟩⟩, hbl, hgt, ⟨_, xss.length, by rw [List.length_map]; rfl, by rw [List.length_map]; exact Nat.le_refl _, by unfold maxLen; omega, fun hn => ⟨rfl, fun h => absurd h.1 (Nat.lt_irrefl _), fun j n hj => ?_⟩⟩⟩
   rotate_left
   · rw [List.getElem?_map] at hj;obtain ⟨xs, hx, rfl⟩ := Option.map_eq_some_iff.1 hj;have hjl : j < xss.length := (aB.1 hx).1;obtain ⟨u, k1, -, k3⟩ := HI.out j xs (by omega) hx;exact ⟨u, by rw [cell_of_row _ _ j _ _ (0, 0) HB.out]; exact k1, k3⟩
   have hj : j < xss.length := (aB.1 hx).1;obtain ⟨u, k1, k2, -⟩ := HI.out j xs (by omega) hx;refine ⟨u, ?_, k2.keep (fun b hb => ⟨by omega, hb.2⟩) fun _ _ => rfl⟩;rw [show (⟨w.heap.size, 0, none⟩ : Addr).add j = ⟨w.heap.size, j, none⟩ by unfold Addr.add; split <;> simp_all, cell_of_row _ _ j _ _ (0, 0) HB.out];exact k1
structure NetW (w : World) (g hi : Nat) (ve vi vn : Value) (n : Net) : Prop where
  e : RowsW w g (fun b => g < b ∧ b < hi) ve (n.es.map List.length)
  i : IntsW w (fun b => g < b ∧ b < hi) vi n.ids.length
  n : IntsW w (fun b => g < b ∧ b < hi) vn n.ins.length
theorem to_NetW (ve vi vn : Value) (n : Net) (w : World) (h : NetR w w.heap.size ve vi vn n) (hz : szNet n ≤ 1048576) :
  Calls Tryz.prog 11 #[.agg #[ve, vi, vn]] w fun e w' => ∃ ve' vi' vn', e = .returned (.agg #[ve', vi', vn']) ∧ NetR w' w'.heap.size ve' vi' vn' n ∧ Below w.heap.size w w' ∧ ∃ g0, w.heap.size ≤ g0 ∧ g0 ≤ w'.heap.size ∧ NetW w' g0 w'.heap.size ve' vi' vn' n := by
 obtain ⟨⟨A0, m0, c0, rfl⟩, ⟨A1, m1, c1, rfl⟩, A2, m2, c2, rfl⟩ := h.slices;have HZ := aA (show szEnds n.es ≤ 1048576 ∧ n.ids.length ≤ 1048576 ∧ n.ins.length ≤ 1048576 by unfold szNet at hz; omega);clear hz;obtain ⟨w0, hw0⟩ : ∃ z, z = w.alloc (.cells #[.slice A0 m0 c0, .slice A1 m1 c1, .slice A2 m2 c2] 29) := ⟨_, rfl⟩
 obtain ⟨w1, hw1⟩ : ∃ z, z = w0.alloc (.cells #[.slice none 0 0, .slice none 0 0, .slice none 0 0] 50) := ⟨_, rfl⟩
 obtain ⟨w2, hw2⟩ : ∃ z, z = w1.alloc (.cells #[.slice none 0 0, .slice none 0 0, .slice none 0 0] 50) := ⟨_, rfl⟩
 have hb0 : Below w.heap.size w w0 := by rw [hw0]; exact bl_alloc (Below.refl _ _) _
 have hb1 : Below w0.heap.size w0 w1 := by rw [hw1]; exact bl_alloc (Below.refl _ _) _
 have hb2 : Below w1.heap.size w1 w2 := by rw [hw2]; exact bl_alloc (Below.refl _ _) _
 have hs0 : w0.heap.size = w.heap.size + 1 := by rw [hw0]; simp
 have hs1 : w1.heap.size = w.heap.size + 1 + 1 := by rw [hw1]; simp [hs0]
 have hs2 : w2.heap.size = w.heap.size + 1 + 1 + 1 := by rw [hw2]; simp [hs1]
 have HD0 := aA (show w0.heap[w.heap.size]? = some (.cells #[.slice A0 m0 c0, .slice A1 m1 c1, .slice A2 m2 c2] 29 (0, 0)) by rw [hw0]; exact heap_alloc_new w _);have HD1 := aA (show w1.heap[w.heap.size + 1]? = some (.cells #[.slice none 0 0, .slice none 0 0, .slice none 0 0] 50 (0, 0)) by rw [hw1, ← hs0]; exact heap_alloc_new w0 _);have HD2 := aA (show w2.heap[w.heap.size + 1 + 1]? = some (.cells #[.slice none 0 0, .slice none 0 0, .slice none 0 0] 50 (0, 0)) by rw [hw2, ← hs1]; exact heap_alloc_new w1 _);replace HD0 := bk (bk HD0 hb1) hb2;replace HD1 := bk HD1 hb2;have hB := bl_trans (bl_trans hb0 hb1) hb2;have HW0 := aA hw0; clear hw0;have HW1 := aA hw1; clear hw1;have HW2 := aA hw2; clear hw2;have hlt : w.heap.size + 1 + 1 < w2.heap.size := by omega
 clear hs0 hs1 hs2;have HN := aA h; clear h;clear hb0 hb1 hb2;obtain ⟨q0, q1, q2, qf⟩ := cells3 HD0;go_enter Tryz.func11, Tryz.ntmps11;go_wp2_with fail;rw [← HW0.out, ← HW1.out, ← HW2.out];refine (to_EndWS _ n.es w2 ((HN.out.below hB).more hB.size).e HZ.out.1).mono ?_;rintro e w3 ⟨v0, rfl, ho, hb3, hg3, hrw⟩;obtain ⟨B0, n0, d0, rfl⟩ := ho.isSlice;have HG3 := aA hg3; clear hg3;have HO := aA ho; clear ho;have HRW := aA hrw; clear hrw;clear q0 q1 q2 qf;replace HD0 := bk HD0 hb3;replace HD1 := bk HD1 hb3;replace HD2 := bk HD2 hb3;replace hB := bl_trans hB hb3;have hz3 := hb3.size;obtain ⟨q0, q1, q2, qf⟩ := cells3 HD0;obtain ⟨p0, p1, p2, pf⟩ := cells3 HD2;obtain ⟨w4, hw4⟩ : ∃ z, z = w3.setCell ⟨w.heap.size + 1 + 1, 0, none⟩ (.slice B0 n0 d0) := ⟨_, rfl⟩
 have HW4 := aA hw4;go_wp2_with fail;rw [← HW4.out];obtain ⟨hB4, ho4, HD4, hz4, hy4⟩ := setB hB (by omega) HD2.out hw4;clear hw4 q0 q1 q2 qf p0 p1 p2 pf HD2;replace HD0 := aA ((ho4 _ (by omega)).trans HD0.out);replace HD1 := aA ((ho4 _ (by omega)).trans HD1.out);replace HRW := aA (HRW.out.keep (w' := w4) (by omega) fun b h1 h2 => ho4 b (by omega));replace HO := aA (HO.out.keep (w' := w4) (fun b hb => hb) fun b hb => ho4 b (by omega));refine (to_IntS _ n.ids w4 ((HN.out.below hB4).more hB4.size).i HZ.out.2.1).mono ?_;rintro e w5 ⟨rfl, hw5⟩;have hb5 : Below w4.heap.size w4 w5 := by rw [hw5]; exact bl_alloc (Below.refl _ _) _
 have HI := aA (show w5.heap[w4.heap.size]? = some (.cells (n.ids.map intV).toArray 3 (0, 0)) by rw [hw5]; exact heap_alloc_new w4 _);have hz5 : w5.heap.size ≤ w4.heap.size + 1 := by rw [hw5]; simp
 have hy5 : w4.heap.size < w5.heap.size := by rw [hw5]; simp
 clear hw5;replace HD0 := bk HD0 hb5;replace HD1 := bk HD1 hb5;replace HD4 := bk HD4 hb5;have hB5 := bl_trans hB4 hb5;replace HRW := aA (HRW.out.keep (w' := w5) (by omega) fun b h1 h2 => hb5.block b h2);replace HO := aA (HO.out.keep (w' := w5) (fun b hb => hb) fun b hb => hb5.block b (by omega));obtain ⟨q0, q1, q2, qf⟩ := cells3 HD0;obtain ⟨p0, p1, p2, pf⟩ := cells3 HD4;obtain ⟨w6, hw6⟩ : ∃ z, z = w5.setCell ⟨w.heap.size + 1 + 1, 1, none⟩ (.slice (some ⟨w4.heap.size, 0, none⟩) n.ids.length n.ids.length) := ⟨_, rfl⟩
 have HW6 := aA hw6;go_wp2_with fail;rw [← HW6.out];obtain ⟨hB6, ho6, HD6, hz6, hy6⟩ := setB hB5 (by omega) HD4.out hw6;clear hw6 q0 q1 q2 qf p0 p1 p2 pf HD4;replace HD0 := aA ((ho6 _ (by omega)).trans HD0.out);replace HD1 := aA ((ho6 _ (by omega)).trans HD1.out);replace HI := aA ((ho6 _ (by omega)).trans HI.out);replace HRW := aA (HRW.out.keep (w' := w6) (by omega) fun b h1 h2 => ho6 b (by omega));replace HO := aA (HO.out.keep (w' := w6) (fun b hb => hb) fun b hb => ho6 b (by omega));refine (to_IntS _ n.ins w6 ((HN.out.below hB6).more hB6.size).n HZ.out.2.2).mono ?_;rintro e w7 ⟨rfl, hw7⟩;have hb7 : Below w6.heap.size w6 w7 := by rw [hw7]; exact bl_alloc (Below.refl _ _) _
 have HJ := aA (show w7.heap[w6.heap.size]? = some (.cells (n.ins.map intV).toArray 3 (0, 0)) by rw [hw7]; exact heap_alloc_new w6 _);have hz7 : w7.heap.size ≤ w6.heap.size + 1 := by rw [hw7]; simp
 have hy7 : w6.heap.size < w7.heap.size := by rw [hw7]; simp
 clear hw7;replace HD0 := bk HD0 hb7;replace HD1 := bk HD1 hb7;replace HD6 := bk HD6 hb7;replace HI := bk HI hb7;have hB7 := bl_trans hB6 hb7;replace HRW := aA (HRW.out.keep (w' := w7) (by omega) fun b h1 h2 => hb7.block b h2);replace HO := aA (HO.out.keep (w' := w7) (fun b hb => hb) fun b hb => hb7.block b (by omega));obtain ⟨q0, q1, q2, qf⟩ := cells3 HD0;obtain ⟨p0, p1, p2, pf⟩ := cells3 HD6;obtain ⟨r0, r1, r2, rf⟩ := cells3 HD1;obtain ⟨w8, hw8⟩ : ∃ z, z = w7.setCell ⟨w.heap.size + 1 + 1, 2, none⟩ (.slice (some ⟨w6.heap.size, 0, none⟩) n.ins.length n.ins.length) := ⟨_, rfl⟩
 have HW8 := aA hw8;obtain ⟨hB8, ho8, HD8, hz8, hy8⟩ := setB hB7 (by omega) HD6.out hw8;clear hw8;replace HI := aA ((ho8 _ (by omega)).trans HI.out);replace HJ := aA ((ho8 _ (by omega)).trans HJ.out);replace HD1 := aA ((ho8 _ (by omega)).trans HD1.out);replace HRW := aA (HRW.out.keep (w' := w8) (by omega) fun b h1 h2 => ho8 b (by omega));replace HO := aA (HO.out.keep (w' := w8) (fun b hb => hb) fun b hb => ho8 b (by omega));have HB8 := aA hB8;have HZ0 := aA (And.intro hz3 (And.intro (And.intro hz4 hy4) (And.intro (And.intro hz5 hy5) (And.intro (And.intro hz6 hy6) (And.intro (And.intro hz7 hy7) (And.intro hz8 hy8))))));go_wp2_with fail;rw [← HW8.out];obtain ⟨s0, s1, s2, sf⟩ := cells3 HD1;refine bodyPost_ret (v := .agg #[.slice B0 n0 d0, .slice (some ⟨w4.heap.size, 0, none⟩) n.ids.length n.ids.length, .slice (some ⟨w6.heap.size, 0, none⟩) n.ins.length n.ins.length]) (by simp [results, Tryz.results11, go_sem, s0, s1, s2]) rfl ?_;obtain ⟨k3, ⟨k4, j4⟩, ⟨k5, j5⟩, ⟨k6, j6⟩, ⟨k7, j7⟩, k8, j8⟩ := HZ0.out;have hk : ∀ b, b ≠ w.heap.size + 1 → (((w8.setCell ⟨w.heap.size + 1, 0, none⟩ (.slice B0 n0 d0)).setCell ⟨w.heap.size + 1, 1, none⟩ (.slice (some ⟨w4.heap.size, 0, none⟩) n.ids.length n.ids.length)).setCell ⟨w.heap.size + 1, 2, none⟩ (.slice (some ⟨w6.heap.size, 0, none⟩) n.ins.length n.ins.length)).heap[b]? = w8.heap[b]? := fun b hb => by iterate 3 rw [Below.heap_setCell _ _ _ _ (by simpa using hb)]
 refine ⟨_, _, _, rfl, ⟨HO.out.keep (fun b hb => by simp only [size_setCell]; omega) fun b hb => hk b (by omega), ints_row ((hk _ (by omega)).trans HI.out) (by have := HZ.out.2.1; unfold maxLen; omega) HN.out.i.2 (by simp only [size_setCell]; omega), ints_row ((hk _ (by omega)).trans HJ.out) (by have := HZ.out.2.2; unfold maxLen; omega) HN.out.n.2 (by simp only [size_setCell]; omega)⟩, ?_, w2.heap.size, by have := HG3.out; omega, by have := HG3.out; simp only [size_setCell]; omega, ?_, ?_, ?_⟩
 ·
  iterate 3 (refine Below.setCell ?_ (by simp) _)
  exact HB8.out
 · exact (HRW.out.keep (by omega) fun b h1 h2 => hk b (by omega)).stretch (by simp only [size_setCell]; omega)
 · exact ⟨_, _, rfl, Nat.le_refl _, by have := HZ.out.2.1; unfold maxLen; omega, fun _ => ⟨w4.heap.size, _, rfl, ⟨by have := HG3.out; omega, by simp only [size_setCell]; omega⟩, (hk _ (by omega)).trans HI.out, by simp⟩⟩
 · exact ⟨_, _, rfl, Nat.le_refl _, by have := HZ.out.2.2; unfold maxLen; omega, fun _ => ⟨w6.heap.size, _, rfl, ⟨by have := HG3.out; omega, by simp only [size_setCell]; omega⟩, (hk _ (by omega)).trans HJ.out, by simp⟩⟩
end
section
open Go.RowKit
set_option linter.all false
theorem IntsW.keep {w w' : World} {S : Nat → Prop} {v : Value} {n : Nat} (h : IntsW w S v n) (hk : ∀ b, S b → w'.heap[b]? = w.heap[b]?) : IntsW w' S v n := by obtain ⟨A, c, rfl, h1, h2, h3⟩ := h;refine ⟨A, c, rfl, h1, h2, fun hn => ?_⟩;obtain ⟨g, cur, rfl, hs, hc, hz⟩ := h3 hn;exact ⟨g, cur, rfl, hs, (hk g hs).trans hc, hz⟩
theorem Wrote.cell {S : Nat → Prop} {w w' : World} {b i : Nat} (h : Wrote S w w') (hb : ¬ S b) : w'.cell? ⟨b, i, none⟩ = w.cell? ⟨b, i, none⟩ := World.cell?_of_block (a := ⟨b, i, none⟩) (h.block b hb)
theorem lens_sum (es : List Ends) : (es.map List.length).sum = lensE es := by
  induction es with
  | nil => rfl
  | cons x r ih => simp [lensE, ih]
structure Marked (g hi : Nat) (w w' : World) : Prop where
  below : Below g w w'
  off : ∀ b, b < w.heap.size → ¬ (g < b ∧ b < hi) → w'.heap[b]? = w.heap[b]?
set_option maxRecDepth 100000 in
theorem mark_Net (ve vi vn : Value) (n : Net) (g hi : Nat) (k : Int) (w : World) (h : NetW w g hi ve vi vn n) (hh : hi ≤ w.heap.size) (hz : szNet n ≤ 1048576) (h0 : 0 ≤ k) (h1 : k ≤ 500000000) (hg : g ≤ w.heap.size) :
  Calls Tryz.prog 21 #[.agg #[ve, vi, vn], .int .i64 k] w fun e w' => (∃ k', e = .returned (.int .i64 k') ∧ 0 ≤ k' ∧ k' ≤ k + 10000000) ∧ Marked g hi w w' := by
 obtain ⟨he, hi', hn⟩ := h;have hbd : lensE n.es ≤ 1048576 ∧ n.ids.length ≤ 1048576 ∧ n.ins.length ≤ 1048576 := by unfold szNet szEnds at hz; omega
 obtain ⟨hb0, hb1, hb2⟩ := hbd;have hsm := lens_sum n.es;have HSM := aA hsm; clear hsm;have HE := aA he;have HI := aA hi';have HJ := aA hn;obtain ⟨A0, c0, rfl, -⟩ := he;obtain ⟨A1, c1, rfl, -⟩ := hi';obtain ⟨A2, c2, rfl, -⟩ := hn;generalize (n.es.map List.length).length = m0 at *;obtain ⟨w0, hw0, hB, HD, hz0, HS0⟩ := box3 w (.slice A0 m0 c0) (.slice A1 n.ids.length c1) (.slice A2 n.ins.length c2) 50;have HW0 := aA hw0; clear hw0;obtain ⟨q0, q1, q2, qf⟩ := cells3 HD;replace HE := aA (HE.out.keep hh fun b _ h2 => hB.block b h2);replace HI := aA (HI.out.keep fun b h2 => hB.block b (by omega));replace HJ := aA (HJ.out.keep fun b h2 => hB.block b (by omega));have hns : ¬ (g < w.heap.size ∧ w.heap.size < hi) := by omega
 generalize hS : (fun b => g < b ∧ b < hi) = S at *;have hnS : ¬ S w.heap.size := by rw [← hS]; exact hns
 have HSS := aA hS; clear hS;go_enter Tryz.func21, Tryz.ntmps21;go_wp2_with fail;rw [← HW0.out];refine (mark_EndSS _ _ g S k w0 HE.out h0 (by rw [HSM.out]; omega)).mono ?_;rintro e w1 ⟨rfl, hw1⟩;have p1 := (hw1.cell (i := 1) hnS).trans q1;have p2 := (hw1.cell (i := 2) hnS).trans q2;have HW1 := aA hw1; clear hw1 q0 q1 q2 qf;rw [HSM.out];generalize lensE n.es = L at *;go_wp2_with fail;refine (mark_IntW _ n.ids.length S _ w1 (HI.out.wrote HW1.out) (by omega) (by omega)).mono ?_;rintro e w2 ⟨rfl, hw2⟩;have r2 := (hw2.cell (i := 2) hnS).trans p2;have HW2 := aA hw2; clear hw2 p1 p2;go_wp2_with fail;refine (mark_IntW _ n.ins.length S _ w2 ((HJ.out.wrote HW1.out).wrote HW2.out) (by omega) (by omega)).mono ?_;rintro e w3 ⟨rfl, hw3⟩;have HW3 := aA hw3; clear hw3 r2;go_wp2_with fail;go_ret;have hT := HW1.out.trans (HW2.out.trans HW3.out);refine ⟨⟨_, rfl, by omega, by omega⟩, ⟨?_, fun b hb hbS => (hT.block b (by rw [← HSS.out]; exact hbS)).trans (hB.block b hb)⟩⟩;have hb := hB.mono hg;exact ⟨hT.os.trans hb.os, hT.tape.trans hb.tape, hT.output.trans hb.output, by rw [hT.size]; exact hb.size, fun b h => (hT.block b (by rw [← HSS.out]; omega)).trans (hb.block b h)⟩
end
end Go.Proofs.YtjklbjmdgiddcaaGreat
