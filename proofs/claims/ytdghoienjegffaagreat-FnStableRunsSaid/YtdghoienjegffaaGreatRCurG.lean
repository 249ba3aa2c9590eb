/-
  Small lemmas and contracts that the texts of this claim share. No condition.
-/
import Derived.Test.YtdghoienjegffaaGreatRNePortsG
import Derived.Laws.Bits64b
namespace Go.Proofs.YtdghoienjegffaaGreat
open Go.RowKit
set_option linter.all false
def BytesR (w : World) (B : Nat) (v : Value) : Prop :=
  ∃ A n c, v = .slice A n c ∧ n ≤ 1048576 ∧ (0 < n → ∃ ad, A = some ad ∧ ad.block < B ∧ ∀ j, j < n → ∃ x : Nat, x ≤ 255 ∧ w.cell? (ad.add j) = some (.int .u8 (x : Int)))
theorem BytesR.keep {w w' : World} {B : Nat} {v : Value} (h : BytesR w B v) (hk : ∀ b, b < B → w'.heap[b]? = w.heap[b]?) : BytesR w' B v := by obtain ⟨A, n, c, e, h1, h2⟩ := h;refine ⟨A, n, c, e, h1, fun hn => ?_⟩;obtain ⟨ad, e', hb, hc⟩ := h2 hn;refine ⟨ad, e', hb, fun j hj => ?_⟩;obtain ⟨x, hx, hcell⟩ := hc j hj;exact ⟨x, hx, (World.cell?_of_block (hk _ (by rw [block_add]; exact hb))).trans hcell⟩
theorem BytesR.more {w : World} {B B' : Nat} {v : Value} (h : BytesR w B v) (hB : B ≤ B') : BytesR w B' v := by obtain ⟨A, n, c, e, h1, h2⟩ := h;refine ⟨A, n, c, e, h1, fun hn => ?_⟩;obtain ⟨ad, e', hb, hc⟩ := h2 hn;exact ⟨ad, e', by omega, hc⟩
def CurR (w : World) (P : Nat) (v : Value) (m : Nat) : Prop :=
  BytesR w P v ∧ ∃ k s : Nat, k ≤ m ∧ s < 18446744073709551616 ∧ w.heap[P]? = some (.cells #[v, .int .i64 (k : Int), .int .u64 (s : Int)] 51 (0, 0))
def CurE (w : World) (P : Nat) (v : Value) (k s : Nat) : Prop :=
  BytesR w P v ∧ s < 18446744073709551616 ∧ w.heap[P]? = some (.cells #[v, .int .i64 (k : Int), .int .u64 (s : Int)] 51 (0, 0))
theorem CurE.r {w : World} {P k s m : Nat} {v : Value} (h : CurE w P v k s) (hk : k ≤ m) : CurR w P v m := ⟨h.1, k, s, hk, h.2.1, h.2.2⟩
theorem CurR.e {w : World} {P m : Nat} {v : Value} (h : CurR w P v m) : ∃ k s, k ≤ m ∧ CurE w P v k s := by obtain ⟨h1, k, s, h2, h3, h4⟩ := h;exact ⟨k, s, h2, h1, h3, h4⟩
def DrawnE (w : World) (P : Nat) (v : Value) (n k s : Nat) (f : Nat → Nat) (e : Ending) (w' : World) : Prop :=
  ∃ x s' : Nat, e = .returned (.int .i64 ((f x : Nat) : Int)) ∧ x ≤ 255 ∧ CurE w' P v (k + 1) s' ∧ w.grownBy w' (some P) ∧ (n ≤ k → s' = lcg s ∧ x = hi8 s')
theorem CurR.keep {w w' : World} {P : Nat} {v : Value} {m m' : Nat} (h : CurR w P v m) (hm : m ≤ m') (hk : ∀ b, b ≤ P → w'.heap[b]? = w.heap[b]?) : CurR w' P v m' := by obtain ⟨h1, k, s, h2, h3, h4⟩ := h;exact ⟨h1.keep fun b hb => hk b (by omega), k, s, by omega, h3, (hk P (Nat.le_refl _)).trans h4⟩
theorem CurR.lt {w : World} {P : Nat} {v : Value} {m : Nat} (h : CurR w P v m) : P < w.heap.size := by
  obtain ⟨_, k, s, _, _, h4⟩ := h;rcases Nat.lt_or_ge P w.heap.size with h | h
  · exact h
  · rw [Array.getElem?_eq_none h] at h4; cases h4
theorem CurR.below {w w' : World} {P B : Nat} {v : Value} {m : Nat} (h : CurR w P v m) (hb : Below B w w') (hB : P < B) : CurR w' P v m := h.keep (Nat.le_refl _) fun b hb' => hb.block b (by omega)
def Drawn (w : World) (P : Nat) (v : Value) (m : Nat) (ok : Nat → Prop) (e : Ending) (w' : World) : Prop :=
  ∃ x : Nat, e = .returned (.int .i64 (x : Int)) ∧ ok x ∧ CurR w' P v m ∧ w.grownBy w' (some P)
theorem low_byte (s : Nat) (h : s < 18446744073709551616) : ∃ x : Nat, bits BinOp.and IntKind.u64 ((s : Int) / 1099511627776) 255 = (x : Int) ∧ x ≤ 255 ∧ x = hi8 s := by
  have h1 : (s : Int) / 1099511627776 = ((s / 1099511627776 : Nat) : Int) := (Int.natCast_ediv s 1099511627776).symm;refine ⟨(s / 1099511627776) &&& 255, ?_, Nat.and_le_right, ?_⟩
  · rw [h1]
    exact bits_and_u64_nat (s / 1099511627776) 255 (by omega) (by omega)
  · unfold hi8
    exact Nat.and_two_pow_sub_one_eq_mod _ 8
theorem wrap_lcg (s : Nat) : IntKind.u64.wrap (IntKind.u64.wrap (IntKind.u64.wrap ((s : Int) * 6364136223846793005)) + 1442695040888963407) = ((lcg s : Nat) : Int) := by simp only [IntKind.wrap, IntKind.signed, IntKind.bits, Bool.false_and, Bool.false_eq_true, if_false];unfold lcg;omega
theorem wrap_u64 (x : Int) : ∃ s : Nat, IntKind.u64.wrap x = (s : Int) ∧ s < 18446744073709551616 := by
  have h1 : 0 ≤ IntKind.u64.wrap x ∧ IntKind.u64.wrap x < 18446744073709551616 := by simp only [IntKind.wrap, IntKind.signed, IntKind.bits, Bool.false_and, Bool.false_eq_true, if_false];exact ⟨Int.emod_nonneg _ (by decide), Int.emod_lt_of_pos _ (by decide)⟩
  exact ⟨(IntKind.u64.wrap x).toNat, by omega, by omega⟩
theorem cur_set {w : World} {P : Nat} {v k s : Value} {t : TypeId} (H : Hid (w.heap[P]? = some (.cells #[v, k, s] t (0, 0)))) (N : Nat) (a b : Value) :
    ∃ w0, w0 = ((w.drewN N).setCell ⟨P, 1, none⟩ a).setCell ⟨P, 2, none⟩ b ∧ Hid (w0.heap[P]? = some (.cells #[v, a, b] t (0, 0))) ∧ w.grownBy w0 (some P) := by
  obtain ⟨w1, e1, h1, g1⟩ := set1 (W := w.drewN N) H.out 1 a;obtain ⟨w2, e2, h2, g2⟩ := set1 h1 2 b;have g0 : w.grownBy (w.drewN N) (some P) := ⟨rfl, rfl, rfl, Nat.le_refl _, fun _ _ _ => rfl⟩
  exact ⟨w2, by rw [e2, e1], Lib.hid (by simpa using h2), grownT g0 (grownT g1 g2)⟩
theorem cur_nextE (P k s : Nat) (A : Option Addr) (n c : Nat) (w : World) (h : CurE w P (.slice A n c) k s) (hk : k ≤ 4611686018427387904) :
  Calls Tryz.prog 74 #[.pointer (some ⟨P, 0, none⟩)] w (DrawnE w P (.slice A n c) n k s id) := by
 have hb := h.1;obtain ⟨⟨A', n', c', e', hn, hby⟩, hs, hP⟩ := h;obtain ⟨rfl, rfl, rfl⟩ : A = A' ∧ n = n' ∧ c = c' := by have := Value.slice.inj e';exact ⟨this.1, this.2.1, this.2.2⟩
 clear e';have HB := Lib.hid hb; clear hb;have HP := Lib.hid hP; clear hP;obtain ⟨p0, p1, p2, pf⟩ := cells3 HP;have fin : ∀ (N : Nat) (w1 : World) (S : Int), (∃ z, S = IntKind.u64.wrap z) → ∀ (x : Nat) (u : Int), u = (x : Int) → x ≤ 255 → (n ≤ k → S = ((lcg s : Nat) : Int) ∧ x = hi8 (lcg s)) → ∀ N', w1.heap[P]? = some (.cells #[.slice A n c, .int .i64 ((k : Int) + 1), .int .u64 S] 51 (0, 0)) → w.grownBy w1 (some P) →
   DrawnE w P (.slice A n c) n k s id (.returned (.int .i64 u)) (w1.drewN N') := by
  rintro N w1 S ⟨z, hz⟩ x u hu hx hex N' h1 hg;obtain ⟨s', h2, h3⟩ := wrap_u64 z;have hlt := World.grownBy.size hg;refine ⟨x, s', ret_int hu, hx, ⟨HB.out.keep fun b hb => ?_, h3, ?_⟩, ⟨hg.os, hg.tape, hg.output, hg.size, hg.block⟩, fun hnk => ?_⟩
  ·
   have hPl : P < w.heap.size := by
    rcases Nat.lt_or_ge P w.heap.size with h | h
    · exact h
    · have := HP.out; rw [Array.getElem?_eq_none h] at this; cases this
   exact hg.block b (by omega) (fun e => by have := Option.some.inj e; omega)
  · rw [← h2, ← hz]; exact h1
  ·
   obtain ⟨h4, h5⟩ := hex hnk;have h6 : s' = lcg s := by rw [hz, h2] at h4; exact_mod_cast h4
   exact ⟨h6, by rw [h6]; exact h5⟩
 have FIN := Lib.hid fin; clear fin;by_cases hlt : k < n
 ·
  obtain ⟨ad, rfl, hb, hc⟩ := hby (by omega)
  obtain ⟨x, hx, hcell⟩ := hc k hlt;clear hby hc;go_enter Tryz.func74, Tryz.ntmps74;go_wp2_with fail
  go_quiet (fail)
  generalize nq = q1;go_wp2_with fail
  go_quiet (fail)
  go_wp2_with fail;generalize hS : IntKind.u64.wrap (IntKind.u64.wrap (IntKind.u64.wrap ((s : Int) * 6364136223846793005) + (x : Int)) + 1442695040888963407) = S;have HS := Lib.hid (show ∃ z, S = IntKind.u64.wrap z from ⟨_, hS.symm⟩); clear hS;obtain ⟨w1, hw1, HP1, hg1⟩ := cur_set HP (q1 + nq) (.int .i64 ((k : Int) + 1)) (.int .u64 S);rw [← hw1];clear hw1 p0 p1 p2 pf hcell;obtain ⟨p0, p1, p2, pf⟩ := cells3 HP1
  go_quiet (fail)
  go_wp2_with fail;go_ret;exact FIN.out 0 w1 S HS.out x _ rfl hx (fun h => absurd h (by omega)) _ HP1.out hg1
 ·
  clear hby
  go_enter Tryz.func74, Tryz.ntmps74;go_wp2_with fail
  go_quiet (fail)
  go_wp2_with fail;generalize hS : IntKind.u64.wrap (IntKind.u64.wrap (IntKind.u64.wrap ((s : Int) * 6364136223846793005)) + 1442695040888963407) = S;obtain ⟨s', hs1, hs2⟩ := wrap_u64 (IntKind.u64.wrap (IntKind.u64.wrap ((s : Int) * 6364136223846793005)) + 1442695040888963407);have hsl : s' = lcg s := by
   have h := hs1;rw [wrap_lcg] at h
   exact_mod_cast h.symm
  obtain ⟨y, hy, hyl, hyx⟩ := low_byte s' hs2;have HEX := Lib.hid (show S = ((lcg s : Nat) : Int) ∧ y = hi8 (lcg s) from ⟨by rw [← hS, wrap_lcg], by rw [← hsl]; exact hyx⟩);clear hsl hyx;rw [← hs1, hS] at hy;have HY := Lib.hid hy; clear hy;have HS := Lib.hid (show ∃ z, S = IntKind.u64.wrap z from ⟨_, hS.symm⟩);have hSS := hS.symm.trans hs1;clear hs1 hS;have hS0 : 0 ≤ S := by omega
  clear hSS hs2;obtain ⟨w1, hw1, HP1, hg1⟩ := cur_set HP nq (.int .i64 ((k : Int) + 1)) (.int .u64 S);rw [← hw1];clear hw1 p0 p1 p2 pf;obtain ⟨p0, p1, p2, pf⟩ := cells3 HP1
  go_quiet (fail)
  go_wp2_with fail;go_ret;exact FIN.out 0 w1 S HS.out y _ (by rw [HY.out]; exact IntWalk.wrap64_in _ (by omega)) hyl (fun _ => HEX.out) _ HP1.out hg1
theorem cur_next (P m : Nat) (v : Value) (w : World) (h : CurR w P v m) (hm : m ≤ 4611686018427387904) :
    Calls Tryz.prog 74 #[.pointer (some ⟨P, 0, none⟩)] w (Drawn w P v (m + 1) fun x => x ≤ 255) := by
  obtain ⟨k, s, hk, he⟩ := h.e;obtain ⟨A, n, c, rfl, -⟩ := he.1;refine (cur_nextE P k s A n c w he (by omega)).mono ?_;rintro e w' ⟨x, s', rfl, h1, h2, h3, -⟩;exact ⟨x, rfl, h1, h2.r (by omega), h3⟩
theorem cur_pickE (P k s : Nat) (A : Option Addr) (n c q : Nat) (w : World) (h : CurE w P (.slice A n c) k s) (hk : k ≤ 4611686018427387904) (hq : 1 < q) (hq2 : q ≤ 200) :
    Calls Tryz.prog 40 #[.pointer (some ⟨P, 0, none⟩), .int .i64 (q : Int)] w (DrawnE w P (.slice A n c) n k s (· % q)) := by
  have H := Lib.hid h; clear h;go_enter Tryz.func40, Tryz.ntmps40;go_wp2_with fail;refine (cur_nextE P k s A n c w H.out hk).mono ?_;rintro e w1 ⟨x, s', rfl, hx, hc1, hg1, hex⟩;have H1 := Lib.hid hc1; clear hc1;have HX := Lib.hid hex; clear hex;simp only [id];go_wp2_with fail;go_ret;exact ⟨x, s', ret_int (Int.natCast_emod _ _).symm, hx, H1.out, hg1, HX.out⟩
theorem cur_pick (P m : Nat) (v : Value) (n : Int) (w : World) (h : CurR w P v m) (hm : m ≤ 2305843009213693952) :
    Calls Tryz.prog 40 #[.pointer (some ⟨P, 0, none⟩), .int .i64 n] w (Drawn w P v (m + 2) fun x => (x : Int) < n ∨ x = 0) := by
  have H := Lib.hid h; clear h;by_cases h1 : n ≤ 1
  · go_enter Tryz.func40, Tryz.ntmps40
    go_wp2_with fail;go_ret;exact ⟨0, rfl, .inr rfl, H.out.keep (by omega) (fun _ _ => rfl), rfl, rfl, rfl, Nat.le_refl _, fun _ _ _ => rfl⟩
  · obtain ⟨q, rfl⟩ := Int.eq_ofNat_of_zero_le (show 0 ≤ n by omega)
    go_enter Tryz.func40, Tryz.ntmps40;go_wp2_with fail;refine (cur_next P m v _ H.out (by omega)).mono ?_;rintro e w1 ⟨x, rfl, hx, hc1, hg1⟩;have H1 := Lib.hid hc1; clear hc1;by_cases h2 : 200 < q
    · go_wp2_with fail
      refine (cur_next P (m + 1) v _ H1.out (by omega)).mono ?_;rintro e w2 ⟨x2, rfl, hx2, hc2, hg2⟩;have H2 := Lib.hid hc2; clear hc2;go_wp2_with fail;go_ret;refine ⟨(x * 256 + x2) % q, ret_int (by rw [Int.natCast_emod, Int.natCast_add, Int.natCast_mul]; rfl), .inl ?_, H2.out, grownT hg1 hg2⟩
      exact_mod_cast Nat.mod_lt _ (show 0 < q by omega)
    · go_wp2_with fail
      go_ret;refine ⟨x % q, ret_int (Int.natCast_emod _ _).symm, .inl ?_, H1.out.keep (by omega) (fun _ _ => rfl), hg1⟩
      exact_mod_cast Nat.mod_lt _ (show 0 < q by omega)
theorem cur_one (P m : Nat) (v : Value) (n : Int) (w : World) (h : CurR w P v m) (hm : m ≤ 2305843009213693952) :
    Calls Tryz.prog 39 #[.pointer (some ⟨P, 0, none⟩), .int .i64 n] w fun e w' => ∃ b, e = .returned (.bool b) ∧ CurR w' P v (m + 2) ∧ w.grownBy w' (some P) := by
  have H := Lib.hid h; clear h;go_enter Tryz.func39, Tryz.ntmps39;go_wp2_with fail;refine (cur_pick P m v n _ H.out hm).mono ?_;rintro e w1 ⟨x, rfl, hx, hc1, hg1⟩;have H1 := Lib.hid hc1; clear hc1;go_wp2_with fail;go_ret;exact ⟨_, rfl, H1.out, hg1⟩
theorem cur_among (P m : Nat) (v : Value) (g : Nat) (xs : List Int) (w : World) (h : CurR w P v m) (hm : m ≤ 2305843009213693952) (hg : w.heap[g]? = some (.cells (xs.map intV).toArray 3 (0, 0))) (hP : g ≠ P) (h0 : 0 < xs.length) (h1 : xs.length ≤ 1000) :
    Calls Tryz.prog 41 #[.pointer (some ⟨P, 0, none⟩), .slice (some ⟨g, 0, none⟩) xs.length xs.length] w fun e w' => ∃ x, e = .returned (.int .i64 x) ∧ x ∈ xs ∧ CurR w' P v (m + 2) ∧ w.grownBy w' (some P) := by
  have H := Lib.hid h; clear h;have HG := Lib.hid hg; clear hg;go_enter Tryz.func41, Tryz.ntmps41;go_wp2_with fail;refine (cur_pick P m v _ _ H.out hm).mono ?_;rintro e w1 ⟨x, rfl, hx, hc1, hg1⟩;have hlt : x < xs.length := by omega
  have hgl : g < w.heap.size := by
    rcases Nat.lt_or_ge g w.heap.size with h | h
    · exact h
    · have := HG.out; rw [Array.getElem?_eq_none h] at this; cases this
  have hcell : w1.cell? ⟨g, x, none⟩ = some (.int .i64 xs[x]) := by rw [cell_of_row w1 g x _ _ (0, 0) ((hg1.block g hgl (fun e => hP (Option.some.inj e))).trans HG.out)];simp [hlt, intV]
  generalize hy : xs[x] = y at hcell;have HY := Lib.hid (show y ∈ xs by rw [← hy]; exact List.getElem_mem _);have H1 := Lib.hid hc1; clear hc1 hy;go_wp2_with fail;go_ret;exact ⟨_, rfl, HY.out, H1.out, hg1⟩
end Go.Proofs.YtdghoienjegffaaGreat
namespace Go.Proofs.YtdghoienjegffaaGreat
open Go.RowKit
set_option linter.all false
theorem PermN.set {xs : List Int} {d : Nat} (h : PermN xs d) (k : Nat) {p : Nat} (hp : p < d) : PermN (xs.set k (p : Int)) d := by
  refine ⟨by rw [List.length_set]; exact h.1, fun j x hx => ?_⟩;rw [List.getElem?_set] at hx;by_cases e : k = j
  · rw [if_pos e] at hx
    split at hx
    · exact ⟨p, (Option.some.inj hx).symm, hp⟩
    · cases hx
  · rw [if_neg e] at hx
    exact h.2 j x hx
theorem own_setI {w : World} {base g cap n k : Nat} {xs : List Int} (h : w.ownsRow base 3 1 (.slice (some ⟨g, 0, none⟩) n cap) n (xs.map intV)) (x : Int) : (w.setCell ⟨g, k, none⟩ (.int .i64 x)).ownsRow base 3 1 (.slice (some ⟨g, 0, none⟩) n cap) n ((xs.set k x).map intV) := by have h1 := (World.ownsRow.stored h k (.int .i64 x)).1;rw [List.map_set];exact h1
theorem own_cellI {w : World} {base g cap n j : Nat} {xs : List Int} {x : Int} (h : w.ownsRow base 3 1 (.slice (some ⟨g, 0, none⟩) n cap) n (xs.map intV)) (hj : j < n) (hx : xs[j]? = some x) : w.cell? ⟨g, j, none⟩ = some (.int .i64 x) := by refine (World.ownsRow.cellAt h j (by omega)).trans ?_;rw [List.getElem?_map, hx];rfl
structure PmAt (w : World) (P : Nat) (cv : Value) (m g n : Nat) (wr : World) : Prop where
  cur : CurR wr P cv m
  row : ∃ xs : List Int, PermN xs n ∧ wr.ownsRow w.heap.size 3 1 (.slice (some ⟨g, 0, none⟩) n n) n (xs.map intV)
  grown : w.grownBy wr (some P)
  p : P < w.heap.size
def Pm1 (w : World) (P : Nat) (cv : Value) (m g n : Nat) (i : Value) (wr : World) : Prop := ∃ j : Nat, j ≤ n ∧ i = .int .i64 (j : Int) ∧ PmAt w P cv m g n wr
def Pm2 (w : World) (P : Nat) (cv : Value) (m g n : Nat) (i : Value) (wr : World) : Prop := ∃ j : Int, -1 ≤ j ∧ j < n ∧ i = .int .i64 j ∧ PmAt w P cv (m + 2 * (n - j.toNat)) g n wr
theorem PmAt.set {w wr : World} {P m g n : Nat} {cv : Value} (h : PmAt w P cv m g n wr) (k : Nat) {p : Nat} (hp : p < n) : PmAt w P cv m g n (wr.setCell ⟨g, k, none⟩ (.int .i64 (p : Int))) := by
  obtain ⟨xs, h1, h2⟩ := h.row;have hg := (h2.lt g rfl).1;have hP := h.p;have hb : ∀ b, b < w.heap.size → (wr.setCell ⟨g, k, none⟩ (.int .i64 (p : Int))).heap[b]? = wr.heap[b]? := fun b hb => Below.heap_setCell _ _ _ _ (fun e : b = g => by omega)
  refine ⟨h.cur.keep (Nat.le_refl _) fun b hb' => hb b (by omega), ⟨_, h1.set k hp, own_setI h2 _⟩, ⟨h.grown.os, h.grown.tape, h.grown.output, by have := h.grown.size; simp only [size_setCell]; exact this, fun b hb' hne => (hb b hb').trans (h.grown.block b hb' hne)⟩, hP⟩
set_option maxRecDepth 100000 in
set_option maxHeartbeats 4000000 in
theorem cur_perm (P m : Nat) (cv : Value) (n : Nat) (w : World) (h : CurR w P cv m) (hm : m ≤ 1152921504606846976) (hn : n ≤ 1000) :
  Calls Tryz.prog 85 #[.pointer (some ⟨P, 0, none⟩), .int .i64 (n : Int)] w fun e w' => ∃ u xs, e = .returned u ∧ w'.ownsRow w.heap.size 3 1 u n (xs.map intV) ∧ PermN xs n ∧ CurR w' P cv (m + 2 * n + 2) ∧ w.grownBy w' (some P) := by
 have H := Lib.hid h;have hP := h.lt;clear h;have hm2 := fun W => run_make1 (P := Tryz.prog) 25 3 (.int .i64 0) 8 Tryz.underlying25 intInfo rfl n (by omega) (by omega) W
 obtain ⟨w1, hw1⟩ : ∃ z, z = w.alloc (.cells (rowOf [] n (.int .i64 0)) 3) := ⟨_, rfl⟩
 obtain ⟨g, hg⟩ : ∃ z, z = w.heap.size := ⟨_, rfl⟩
 have H1 := Lib.hid (show PmAt w P cv m g n w1 by
  have ho := own_madeN w 3 n (.int .i64 0) (by unfold maxLen; omega);rw [← hw1, ← hg] at ho;have hb : Below w.heap.size w w1 := by rw [hw1]; exact bl_alloc (Below.refl _ _) _
  refine ⟨H.out.below hb hP, ⟨List.replicate n 0, ⟨List.length_replicate, fun j x hx => ?_⟩, ?_⟩, grown_belowN hb _, hP⟩
  · have hj := (List.getElem?_eq_some_iff.1 hx).1;rw [List.length_replicate] at hj;rw [List.getElem?_replicate, if_pos hj] at hx;exact ⟨0, (Option.some.inj hx).symm, by omega⟩
  · rw [List.map_replicate, ← hg]; exact ho)
 have HW1 := Lib.hid hw1;have HG := Lib.hid hg;have hgl : w.heap.size ≤ g := by omega
 clear hw1 hg;go_enter Tryz.func85, Tryz.ntmps85;go_wp2_with fail;rw [← HW1.out, ← HG.out];clear hm2;go_loopw [14] (fun i wr => Pm1 w P cv m g n i wr) (fun i _ => n - (intOf i).toNat)
 case atStart => exact ⟨0, Nat.zero_le _, rfl, H1.out⟩
 case round =>
  obtain ⟨j, hj, rfl, hpm⟩ := hrel;have HP := Lib.hid hpm;clear hpm;by_cases hlt : j < n
  ·
   obtain ⟨xs, hx, ho⟩ := HP.out.row;obtain ⟨x, hxj⟩ : ∃ x, xs[j]? = some x := ⟨_, List.getElem?_eq_getElem (by rw [hx.1]; exact hlt)⟩
   have c0 := own_cellI ho hlt hxj;have f0 := own_thaw ho j;have hji : (j : Int) < (n : Int) := by omega
   have HS := Lib.hid (HP.out.set j hlt);clear hx ho hxj;go_wp2_with fail;go_roundw
   case rel => exact ⟨j + 1, by omega, by go_num, HS.out⟩
   case measure => simp [intOf]; omega
  ·
   obtain rfl : j = n := by omega
   have hjj : ((j : Int) < (j : Int)) = False := eq_false (by omega);have hwr : IntKind.i64.wrap ((j : Int) - 1) = (j : Int) - 1 := IntWalk.i64_in _ (by omega);go_wp2_with fail;clear hjj hwr;go_loopw [7] (fun i wr' => Pm2 w P cv m g j i wr') (fun i _ => (intOf i).toNat)
   case atStart => exact ⟨(j : Int) - 1, by omega, by omega, rfl, by
    have h1 := HP.out
    exact ⟨h1.cur.keep (by omega) fun _ _ => rfl, h1.row, h1.grown, h1.p⟩⟩
   case round =>
    obtain ⟨i, hi1, hi2, rfl, hpm⟩ := hrel;have HR := Lib.hid hpm;clear hpm;by_cases h0 : 0 < i
    ·
     obtain ⟨q, rfl⟩ := Int.eq_ofNat_of_zero_le (show 0 ≤ i by omega);have hq : q < j := by omega
     have hg0 : ((q : Int) > 0) = True := eq_true (by omega);have hwr : IntKind.i64.wrap ((q : Int) + 1) = (q : Int) + 1 := IntWalk.i64_in _ (by omega);have hcur := HR.out.cur;have HC := Lib.hid hcur;clear hcur;go_wp2_with fail;refine (cur_pick P _ cv _ _ HC.out (by omega)).mono ?_;rintro e w2 ⟨x, rfl, hx, hc2, hg2⟩;have hxq : x ≤ q := by omega
     have hpr := HR.out.p;have hrs := HR.out.grown.size;obtain ⟨xs, hxs, ho⟩ := HR.out.row
     have ho2 : w2.ownsRow w.heap.size 3 1 (.slice (some ⟨g, 0, none⟩) j j) j (xs.map intV) := World.ownsRow.kept ho hg2 (.inr fun e => by
      have h1 := (ho.lt g rfl).1;have h2 : g = P := Option.some.inj e
      omega)
     have H2 := Lib.hid (show PmAt w P cv (m + 2 * (j - (q - 1))) g j w2 from ⟨hc2.keep (by have : ((q : Int)).toNat = q := Int.toNat_natCast q; omega) fun _ _ => rfl, ⟨xs, hxs, ho2⟩, grownT HR.out.grown hg2, hpr⟩);obtain ⟨yq, hyq⟩ : ∃ x, xs[q]? = some x := ⟨_, List.getElem?_eq_getElem (by rw [hxs.1]; exact hq)⟩
     obtain ⟨yx, hyx⟩ : ∃ y, xs[x]? = some y := ⟨_, List.getElem?_eq_getElem (by rw [hxs.1]; omega)⟩
     obtain ⟨p, rfl, hp⟩ := hxs.2 q yq hyq;obtain ⟨p', rfl, hp'⟩ := hxs.2 x yx hyx;have c0 := own_cellI ho2 hq hyq;have c1 := own_cellI ho2 (show x < j by omega) hyx;have fz := fun k => own_thaw ho2 k
     have hqi : (q : Int) < (j : Int) := by omega
     have hxi : (x : Int) < (j : Int) := by omega
     have H3 := Lib.hid (H2.out.set q hp');obtain ⟨w3, hw3⟩ : ∃ z, z = w2.setCell ⟨g, q, none⟩ (.int .i64 (p' : Int)) := ⟨_, rfl⟩
     rw [← hw3] at H3;have HW3 := Lib.hid hw3;have c2 : ∃ u, w3.cell? ⟨g, x, none⟩ = some u := by
      obtain ⟨ys, hy1, hy2⟩ := H3.out.row;obtain ⟨y, hy⟩ : ∃ y, ys[x]? = some y := ⟨_, List.getElem?_eq_getElem (by rw [hy1.1]; omega)⟩
      exact ⟨_, own_cellI hy2 (by omega) hy⟩
     have fz3 : ∀ k, w3.frozen? ⟨g, k, none⟩ = false := by obtain ⟨ys, hy1, hy2⟩ := H3.out.row;exact fun k => own_thaw hy2 k
     obtain ⟨u2, hu2⟩ := c2;have H4 := Lib.hid (H3.out.set x hp);have hwr2 : IntKind.i64.wrap ((q : Int) - 1) = (q : Int) - 1 := IntWalk.i64_in _ (by omega);have f3 := fz3 x;rw [HW3.out] at hu2 f3;obtain ⟨w4, hw4⟩ : ∃ z, z = w3.setCell ⟨g, x, none⟩ (.int .i64 (p : Int)) := ⟨_, rfl⟩
     rw [← hw4] at H4;have HW4 := Lib.hid hw4;clear hxs ho ho2 hyq hyx hw3 hw4 hc2 hx fz3;go_wp2_with fail;rw [← HW3.out, ← HW4.out];clear c0 c1 fz hu2 f3;go_roundw
     case rel => exact ⟨(q : Int) - 1, by omega, by omega, by go_num, by
      have h1 := H4.out;rw [show ((q : Int) - 1).toNat = q - 1 by omega]
      exact h1⟩
     case measure => simp [intOf]; omega
    · obtain ⟨xs, hxs, ho⟩ := HR.out.row;have HO := Lib.hid ho;have HX := Lib.hid hxs;have hg0 : (i > 0) = False := eq_false (by omega);clear ho hxs;go_wp2_with fail;go_ret;exact ⟨_, rfl, xs, HO.out, HX.out, HR.out.cur.keep (by omega) fun _ _ => rfl, HR.out.grown⟩
end Go.Proofs.YtdghoienjegffaaGreat
