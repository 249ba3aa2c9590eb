/-
  The cursor that the draws read from (bytes, a place, a seed): next, pick, one, among, whatever the bytes are. Condition: the place is below 10^9.
-/
import Derived.Test.YtdghoienjegffaaGreatQCwBox
import Derived.Test.YtdghoienjegffaaGreatQPlainLcg
import Derived.Laws.Bits64b
namespace Go.Proofs.YtdghoienjegffaaGreat
open Go.RowKit
set_option linter.all false
def BytesR (w : World) (B : Nat) (v : Value) : Prop :=
  ∃ A n c, v = .slice A n c ∧ n ≤ 1048576 ∧ (0 < n → ∃ ad, A = some ad ∧ ad.block < B ∧ ∀ j, j < n → ∃ x : Nat, x ≤ 255 ∧ w.cell? (ad.add j) = some (.int .u8 (x : Int)))
theorem BytesR.keep {w w' : World} {B : Nat} {v : Value} (h : BytesR w B v) (hk : ∀ b, b < B → w'.heap[b]? = w.heap[b]?) : BytesR w' B v := by
  obtain ⟨A, n, c, e, h1, h2⟩ := h
  refine ⟨A, n, c, e, h1, fun hn => ?_⟩
  obtain ⟨ad, e', hb, hc⟩ := h2 hn
  refine ⟨ad, e', hb, fun j hj => ?_⟩
  obtain ⟨x, hx, hcell⟩ := hc j hj
  exact ⟨x, hx, (World.cell?_of_block (hk _ (by rw [block_add]; exact hb))).trans hcell⟩
theorem BytesR.more {w : World} {B B' : Nat} {v : Value} (h : BytesR w B v) (hB : B ≤ B') : BytesR w B' v := by
  obtain ⟨A, n, c, e, h1, h2⟩ := h
  refine ⟨A, n, c, e, h1, fun hn => ?_⟩
  obtain ⟨ad, e', hb, hc⟩ := h2 hn
  exact ⟨ad, e', by omega, hc⟩
def CurR (w : World) (P : Nat) (v : Value) (m : Nat) : Prop :=
  BytesR w P v ∧ ∃ k s : Nat, k ≤ m ∧ s < 18446744073709551616 ∧ w.heap[P]? = some (.cells #[v, .int .i64 (k : Int), .int .u64 (s : Int)] 51 (0, 0))
def CurE (w : World) (P : Nat) (v : Value) (k s : Nat) : Prop :=
  BytesR w P v ∧ s < 18446744073709551616 ∧ w.heap[P]? = some (.cells #[v, .int .i64 (k : Int), .int .u64 (s : Int)] 51 (0, 0))
theorem CurE.r {w : World} {P k s m : Nat} {v : Value} (h : CurE w P v k s) (hk : k ≤ m) : CurR w P v m := ⟨h.1, k, s, hk, h.2.1, h.2.2⟩
theorem CurR.e {w : World} {P m : Nat} {v : Value} (h : CurR w P v m) : ∃ k s, k ≤ m ∧ CurE w P v k s := by
  obtain ⟨h1, k, s, h2, h3, h4⟩ := h
  exact ⟨k, s, h2, h1, h3, h4⟩
def DrawnE (w : World) (P : Nat) (v : Value) (n k s : Nat) (f : Nat → Nat) (e : Ending) (w' : World) : Prop :=
  ∃ x s' : Nat, e = .returned (.int .i64 ((f x : Nat) : Int)) ∧ x ≤ 255 ∧ CurE w' P v (k + 1) s' ∧ w.grownBy w' (some P) ∧ (n ≤ k → s' = lcg s ∧ x = hi8 s')
theorem CurR.keep {w w' : World} {P : Nat} {v : Value} {m m' : Nat} (h : CurR w P v m) (hm : m ≤ m') (hk : ∀ b, b ≤ P → w'.heap[b]? = w.heap[b]?) : CurR w' P v m' := by
  obtain ⟨h1, k, s, h2, h3, h4⟩ := h
  exact ⟨h1.keep fun b hb => hk b (by omega), k, s, by omega, h3, (hk P (Nat.le_refl _)).trans h4⟩
theorem CurR.lt {w : World} {P : Nat} {v : Value} {m : Nat} (h : CurR w P v m) : P < w.heap.size := by
  obtain ⟨_, k, s, _, _, h4⟩ := h
  rcases Nat.lt_or_ge P w.heap.size with h | h
  · exact h
  · rw [Array.getElem?_eq_none h] at h4; cases h4
theorem CurR.below {w w' : World} {P B : Nat} {v : Value} {m : Nat} (h : CurR w P v m) (hb : Below B w w') (hB : P < B) : CurR w' P v m := h.keep (Nat.le_refl _) fun b hb' => hb.block b (by omega)
def Drawn (w : World) (P : Nat) (v : Value) (m : Nat) (ok : Nat → Prop) (e : Ending) (w' : World) : Prop :=
  ∃ x : Nat, e = .returned (.int .i64 (x : Int)) ∧ ok x ∧ CurR w' P v m ∧ w.grownBy w' (some P)
theorem low_byte (s : Nat) (h : s < 18446744073709551616) : ∃ x : Nat, bits BinOp.and IntKind.u64 ((s : Int) / 1099511627776) 255 = (x : Int) ∧ x ≤ 255 ∧ x = hi8 s := by
  have h1 : (s : Int) / 1099511627776 = ((s / 1099511627776 : Nat) : Int) := (Int.natCast_ediv s 1099511627776).symm
  refine ⟨(s / 1099511627776) &&& 255, ?_, Nat.and_le_right, ?_⟩
  · rw [h1]
    exact bits_and_u64_nat (s / 1099511627776) 255 (by omega) (by omega)
  · unfold hi8
    exact Nat.and_two_pow_sub_one_eq_mod _ 8
theorem wrap_lcg (s : Nat) : IntKind.u64.wrap (IntKind.u64.wrap (IntKind.u64.wrap ((s : Int) * 6364136223846793005)) + 1442695040888963407) = ((lcg s : Nat) : Int) := by
  simp only [IntKind.wrap, IntKind.signed, IntKind.bits, Bool.false_and, Bool.false_eq_true, if_false]
  unfold lcg
  omega
theorem wrap_u64 (x : Int) : ∃ s : Nat, IntKind.u64.wrap x = (s : Int) ∧ s < 18446744073709551616 := by
  have h1 : 0 ≤ IntKind.u64.wrap x ∧ IntKind.u64.wrap x < 18446744073709551616 := by
    simp only [IntKind.wrap, IntKind.signed, IntKind.bits, Bool.false_and, Bool.false_eq_true, if_false]
    exact ⟨Int.emod_nonneg _ (by decide), Int.emod_lt_of_pos _ (by decide)⟩
  exact ⟨(IntKind.u64.wrap x).toNat, by omega, by omega⟩
theorem cur_set {w : World} {P : Nat} {v k s : Value} {t : TypeId} (H : Hid (w.heap[P]? = some (.cells #[v, k, s] t (0, 0)))) (N : Nat) (a b : Value) :
    ∃ w0, w0 = ((w.drewN N).setCell ⟨P, 1, none⟩ a).setCell ⟨P, 2, none⟩ b ∧ Hid (w0.heap[P]? = some (.cells #[v, a, b] t (0, 0))) ∧ w.grownBy w0 (some P) := by
  obtain ⟨w1, e1, h1, g1⟩ := set1 (W := w.drewN N) H.out 1 a
  obtain ⟨w2, e2, h2, g2⟩ := set1 h1 2 b
  have g0 : w.grownBy (w.drewN N) (some P) := ⟨rfl, rfl, rfl, Nat.le_refl _, fun _ _ _ => rfl⟩
  exact ⟨w2, by rw [e2, e1], Lib.hid (by simpa using h2), grownT g0 (grownT g1 g2)⟩
theorem cur_nextE (P k s : Nat) (A : Option Addr) (n c : Nat) (w : World) (h : CurE w P (.slice A n c) k s) (hk : k ≤ 4611686018427387904) :
  Calls Tryz.prog 74 #[.pointer (some ⟨P, 0, none⟩)] w (DrawnE w P (.slice A n c) n k s id) := by
 have hb := h.1
 obtain ⟨⟨A', n', c', e', hn, hby⟩, hs, hP⟩ := h
 obtain ⟨rfl, rfl, rfl⟩ : A = A' ∧ n = n' ∧ c = c' := by
  have := Value.slice.inj e'
  exact ⟨this.1, this.2.1, this.2.2⟩
 clear e'
 have HB := Lib.hid hb; clear hb
 have HP := Lib.hid hP; clear hP
 obtain ⟨p0, p1, p2, pf⟩ := cells3 HP
 have fin : ∀ (N : Nat) (w1 : World) (S : Int), (∃ z, S = IntKind.u64.wrap z) → ∀ (x : Nat) (u : Int), u = (x : Int) → x ≤ 255 → (n ≤ k → S = ((lcg s : Nat) : Int) ∧ x = hi8 (lcg s)) → ∀ N', w1.heap[P]? = some (.cells #[.slice A n c, .int .i64 ((k : Int) + 1), .int .u64 S] 51 (0, 0)) → w.grownBy w1 (some P) →
   DrawnE w P (.slice A n c) n k s id (.returned (.int .i64 u)) (w1.drewN N') := by
  rintro N w1 S ⟨z, hz⟩ x u hu hx hex N' h1 hg
  obtain ⟨s', h2, h3⟩ := wrap_u64 z
  have hlt := World.grownBy.size hg
  refine ⟨x, s', ret_int hu, hx, ⟨HB.out.keep fun b hb => ?_, h3, ?_⟩, ⟨hg.os, hg.tape, hg.output, hg.size, hg.block⟩, fun hnk => ?_⟩
  ·
   have hPl : P < w.heap.size := by
    rcases Nat.lt_or_ge P w.heap.size with h | h
    ·
     exact h
    ·
     have := HP.out; rw [Array.getElem?_eq_none h] at this; cases this
   exact hg.block b (by omega) (fun e => by have := Option.some.inj e; omega)
  ·
   rw [← h2, ← hz]; exact h1
  ·
   obtain ⟨h4, h5⟩ := hex hnk
   have h6 : s' = lcg s := by rw [hz, h2] at h4; exact_mod_cast h4
   exact ⟨h6, by rw [h6]; exact h5⟩
 have FIN := Lib.hid fin; clear fin
 by_cases hlt : k < n
 ·
  obtain ⟨ad, rfl, hb, hc⟩ := hby (by omega)
  obtain ⟨x, hx, hcell⟩ := hc k hlt
  clear hby hc
  go_enter Tryz.func74, Tryz.ntmps74
  go_wp2_with fail
  go_quiet (fail)
  generalize nq = q1
  go_wp2_with fail
  go_quiet (fail)
  go_wp2_with fail
  generalize hS : IntKind.u64.wrap (IntKind.u64.wrap (IntKind.u64.wrap ((s : Int) * 6364136223846793005) + (x : Int)) + 1442695040888963407) = S
  have HS := Lib.hid (show ∃ z, S = IntKind.u64.wrap z from ⟨_, hS.symm⟩); clear hS
  obtain ⟨w1, hw1, HP1, hg1⟩ := cur_set HP (q1 + nq) (.int .i64 ((k : Int) + 1)) (.int .u64 S)
  rw [← hw1]
  clear hw1 p0 p1 p2 pf hcell
  obtain ⟨p0, p1, p2, pf⟩ := cells3 HP1
  go_quiet (fail)
  go_wp2_with fail
  go_ret
  exact FIN.out 0 w1 S HS.out x _ rfl hx (fun h => absurd h (by omega)) _ HP1.out hg1
 ·
  clear hby
  go_enter Tryz.func74, Tryz.ntmps74
  go_wp2_with fail
  go_quiet (fail)
  go_wp2_with fail
  generalize hS : IntKind.u64.wrap (IntKind.u64.wrap (IntKind.u64.wrap ((s : Int) * 6364136223846793005)) + 1442695040888963407) = S
  obtain ⟨s', hs1, hs2⟩ := wrap_u64 (IntKind.u64.wrap (IntKind.u64.wrap ((s : Int) * 6364136223846793005)) + 1442695040888963407)
  have hsl : s' = lcg s := by
   have h := hs1
   rw [wrap_lcg] at h
   exact_mod_cast h.symm
  obtain ⟨y, hy, hyl, hyx⟩ := low_byte s' hs2
  have HEX := Lib.hid (show S = ((lcg s : Nat) : Int) ∧ y = hi8 (lcg s) from ⟨by rw [← hS, wrap_lcg], by rw [← hsl]; exact hyx⟩)
  clear hsl hyx
  rw [← hs1, hS] at hy
  have HY := Lib.hid hy; clear hy
  have HS := Lib.hid (show ∃ z, S = IntKind.u64.wrap z from ⟨_, hS.symm⟩)
  have hSS := hS.symm.trans hs1
  clear hs1 hS
  have hS0 : 0 ≤ S := by omega
  clear hSS hs2
  obtain ⟨w1, hw1, HP1, hg1⟩ := cur_set HP nq (.int .i64 ((k : Int) + 1)) (.int .u64 S)
  rw [← hw1]
  clear hw1 p0 p1 p2 pf
  obtain ⟨p0, p1, p2, pf⟩ := cells3 HP1
  go_quiet (fail)
  go_wp2_with fail
  go_ret
  exact FIN.out 0 w1 S HS.out y _ (by rw [HY.out]; exact IntWalk.wrap64_in _ (by omega)) hyl (fun _ => HEX.out) _ HP1.out hg1
theorem cur_next (P m : Nat) (v : Value) (w : World) (h : CurR w P v m) (hm : m ≤ 4611686018427387904) :
    Calls Tryz.prog 74 #[.pointer (some ⟨P, 0, none⟩)] w (Drawn w P v (m + 1) fun x => x ≤ 255) := by
  obtain ⟨k, s, hk, he⟩ := h.e
  obtain ⟨A, n, c, rfl, -⟩ := he.1
  refine (cur_nextE P k s A n c w he (by omega)).mono ?_
  rintro e w' ⟨x, s', rfl, h1, h2, h3, -⟩
  exact ⟨x, rfl, h1, h2.r (by omega), h3⟩
theorem cur_pickE (P k s : Nat) (A : Option Addr) (n c q : Nat) (w : World) (h : CurE w P (.slice A n c) k s) (hk : k ≤ 4611686018427387904) (hq : 1 < q) (hq2 : q ≤ 200) :
    Calls Tryz.prog 40 #[.pointer (some ⟨P, 0, none⟩), .int .i64 (q : Int)] w (DrawnE w P (.slice A n c) n k s (· % q)) := by
  have H := Lib.hid h; clear h
  go_enter Tryz.func40, Tryz.ntmps40
  go_wp2_with fail
  refine (cur_nextE P k s A n c w H.out hk).mono ?_
  rintro e w1 ⟨x, s', rfl, hx, hc1, hg1, hex⟩
  have H1 := Lib.hid hc1; clear hc1
  have HX := Lib.hid hex; clear hex
  simp only [id]
  go_wp2_with fail
  go_ret
  exact ⟨x, s', ret_int (Int.natCast_emod _ _).symm, hx, H1.out, hg1, HX.out⟩
theorem cur_pick (P m : Nat) (v : Value) (n : Int) (w : World) (h : CurR w P v m) (hm : m ≤ 2305843009213693952) :
    Calls Tryz.prog 40 #[.pointer (some ⟨P, 0, none⟩), .int .i64 n] w (Drawn w P v (m + 2) fun x => (x : Int) < n ∨ x = 0) := by
  have H := Lib.hid h; clear h
  by_cases h1 : n ≤ 1
  · go_enter Tryz.func40, Tryz.ntmps40
    go_wp2_with fail
    go_ret
    exact ⟨0, rfl, .inr rfl, H.out.keep (by omega) (fun _ _ => rfl), rfl, rfl, rfl, Nat.le_refl _, fun _ _ _ => rfl⟩
  · obtain ⟨q, rfl⟩ := Int.eq_ofNat_of_zero_le (show 0 ≤ n by omega)
    go_enter Tryz.func40, Tryz.ntmps40
    go_wp2_with fail
    refine (cur_next P m v _ H.out (by omega)).mono ?_
    rintro e w1 ⟨x, rfl, hx, hc1, hg1⟩
    have H1 := Lib.hid hc1; clear hc1
    by_cases h2 : 200 < q
    · go_wp2_with fail
      refine (cur_next P (m + 1) v _ H1.out (by omega)).mono ?_
      rintro e w2 ⟨x2, rfl, hx2, hc2, hg2⟩
      have H2 := Lib.hid hc2; clear hc2
      go_wp2_with fail
      go_ret
      refine ⟨(x * 256 + x2) % q, ret_int (by rw [Int.natCast_emod, Int.natCast_add, Int.natCast_mul]; rfl), .inl ?_, H2.out, grownT hg1 hg2⟩
      exact_mod_cast Nat.mod_lt _ (show 0 < q by omega)
    · go_wp2_with fail
      go_ret
      refine ⟨x % q, ret_int (Int.natCast_emod _ _).symm, .inl ?_, H1.out.keep (by omega) (fun _ _ => rfl), hg1⟩
      exact_mod_cast Nat.mod_lt _ (show 0 < q by omega)
theorem cur_one (P m : Nat) (v : Value) (n : Int) (w : World) (h : CurR w P v m) (hm : m ≤ 2305843009213693952) :
    Calls Tryz.prog 39 #[.pointer (some ⟨P, 0, none⟩), .int .i64 n] w fun e w' => ∃ b, e = .returned (.bool b) ∧ CurR w' P v (m + 2) ∧ w.grownBy w' (some P) := by
  have H := Lib.hid h; clear h
  go_enter Tryz.func39, Tryz.ntmps39
  go_wp2_with fail
  refine (cur_pick P m v n _ H.out hm).mono ?_
  rintro e w1 ⟨x, rfl, hx, hc1, hg1⟩
  have H1 := Lib.hid hc1; clear hc1
  go_wp2_with fail
  go_ret
  exact ⟨_, rfl, H1.out, hg1⟩
theorem cur_among (P m : Nat) (v : Value) (g : Nat) (xs : List Int) (w : World) (h : CurR w P v m) (hm : m ≤ 2305843009213693952) (hg : w.heap[g]? = some (.cells (xs.map intV).toArray 3 (0, 0))) (hP : g ≠ P) (h0 : 0 < xs.length) (h1 : xs.length ≤ 1000) :
    Calls Tryz.prog 41 #[.pointer (some ⟨P, 0, none⟩), .slice (some ⟨g, 0, none⟩) xs.length xs.length] w fun e w' => ∃ x, e = .returned (.int .i64 x) ∧ x ∈ xs ∧ CurR w' P v (m + 2) ∧ w.grownBy w' (some P) := by
  have H := Lib.hid h; clear h
  have HG := Lib.hid hg; clear hg
  go_enter Tryz.func41, Tryz.ntmps41
  go_wp2_with fail
  refine (cur_pick P m v _ _ H.out hm).mono ?_
  rintro e w1 ⟨x, rfl, hx, hc1, hg1⟩
  have hlt : x < xs.length := by omega
  have hgl : g < w.heap.size := by
    rcases Nat.lt_or_ge g w.heap.size with h | h
    · exact h
    · have := HG.out; rw [Array.getElem?_eq_none h] at this; cases this
  have hcell : w1.cell? ⟨g, x, none⟩ = some (.int .i64 xs[x]) := by
    rw [cell_of_row w1 g x _ _ (0, 0) ((hg1.block g hgl (fun e => hP (Option.some.inj e))).trans HG.out)]
    simp [hlt, intV]
  generalize hy : xs[x] = y at hcell
  have HY := Lib.hid (show y ∈ xs by rw [← hy]; exact List.getElem_mem _)
  have H1 := Lib.hid hc1; clear hc1 hy
  go_wp2_with fail
  go_ret
  exact ⟨_, rfl, HY.out, H1.out, hg1⟩
end Go.Proofs.YtdghoienjegffaaGreat
