/-
  The cursor that the draws read from (bytes, a place, a seed): next, pick, one, among, whatever the bytes are. Condition: the place is below 10^9.
  The reference's l1Own: a copy in memory of its own. No condition but on sizes.
  The draws' prInsert: a pair of labels is put into a strictly increasing list of such pairs. No condition but on sizes.
  The draws of walk problems: walk (a valid one), anyWalk (a valid one or not), DrawIsWalkProblem. No condition but on the place of the cursor.
  A drawn region that stores, late, into cells that it has loaded: a condition on the world that is kept up to one operation of the region alone, the store. No program in sight, no condition.
  The draws of walk problems that may be invalid: anyWalk, DrawIsWalkProblem, DrawCertifyWalk. No condition but on the place of the cursor.
-/
import Derived.Test.YtjhljipehnmbnaaGreatRows
import Derived.Test.YtjhljipehnmbnaaGreatKit
import Derived.Test.YtjhljipehnmbnaaGreatOwn
import Derived.Test.YtjhljipehnmbnaaGreatMem
import Derived.Test.YtjhljipehnmbnaaGreatArgs
import Derived.Test.YtjhljipehnmbnaaGreatCwBox
import Derived.Test.YtjhljipehnmbnaaGreatBasic
import Derived.WalkKit
import Derived.WalkSpells
import Derived.WalkLawsBesides
import Derived.Lib.Hide
import Derived.Laws.Bits64b
import Derived.Deep.QuietTactic
import Derived.Test.YtjhljipehnmbnaaGreatCwLib
import Derived.Lib.AppendZeros
import Derived.Maps.AppendAt
import Derived.Laws.Rows
import Derived.Test.YtjhljipehnmbnaaGreatLists
import Derived.Test.YtjhljipehnmbnaaGreatGood
import Derived.Test.YtjhljipehnmbnaaGreatReg
namespace Go.Proofs.YtjhljipehnmbnaaGreat
section
open Go.RowKit
set_option linter.unusedVariables false
set_option linter.unusedSimpArgs false
/-- The slice v reads as some bytes below block B. -/
def BytesR (w : World) (B : Nat) (v : Value) : Prop :=
  ∃ A n c, v = .slice A n c ∧ n ≤ 1048576 ∧ (0 < n → ∃ ad, A = some ad ∧ ad.block < B ∧ ∀ j, j < n → ∃ x : Nat, x ≤ 255 ∧ w.cell? (ad.add j) = some (.int .u8 (x : Int)))
theorem BytesR.keep {w w' : World} {B : Nat} {v : Value} (h : BytesR w B v) (hk : ∀ b, b < B → w'.heap[b]? = w.heap[b]?) : BytesR w' B v := by
  obtain ⟨A, n, c, e, h1, h2⟩ := h
  refine ⟨A, n, c, e, h1, fun hn => ?_⟩
  obtain ⟨ad, e', hb, hc⟩ := h2 hn
  refine ⟨ad, e', hb, fun j hj => ?_⟩
  obtain ⟨x, hx, hcell⟩ := hc j hj
  exact ⟨x, hx, (World.cell?_of_block (hk _ (by rw [block_add]; exact hb))).trans hcell⟩
theorem BytesR.more {w : World} {B B' : Nat} {v : Value} (h : BytesR w B v) (hB : B ≤ B') : BytesR w B' v := by
  obtain ⟨A, n, c, e, h1, h2⟩ := h
  refine ⟨A, n, c, e, h1, fun hn => ?_⟩
  obtain ⟨ad, e', hb, hc⟩ := h2 hn
  exact ⟨ad, e', by omega, hc⟩
/-- The cursor in block P over the bytes v, at most m bytes on. -/
def CurR (w : World) (P : Nat) (v : Value) (m : Nat) : Prop :=
  BytesR w P v ∧ ∃ k s : Nat, k ≤ m ∧ s < 18446744073709551616 ∧ w.heap[P]? = some (.cells #[v, .int .i64 (k : Int), .int .u64 (s : Int)] 62 (0, 0))
theorem CurR.keep {w w' : World} {P : Nat} {v : Value} {m m' : Nat} (h : CurR w P v m) (hm : m ≤ m') (hk : ∀ b, b ≤ P → w'.heap[b]? = w.heap[b]?) : CurR w' P v m' := by
  obtain ⟨h1, k, s, h2, h3, h4⟩ := h
  exact ⟨h1.keep fun b hb => hk b (by omega), k, s, by omega, h3, (hk P (Nat.le_refl _)).trans h4⟩
theorem CurR.lt {w : World} {P : Nat} {v : Value} {m : Nat} (h : CurR w P v m) : P < w.heap.size := by
  obtain ⟨_, k, s, _, _, h4⟩ := h
  rcases Nat.lt_or_ge P w.heap.size with h | h
  · exact h
  · rw [Array.getElem?_eq_none h] at h4; cases h4
theorem CurR.below {w w' : World} {P B : Nat} {v : Value} {m : Nat} (h : CurR w P v m) (hb : Below B w w') (hB : P < B) : CurR w' P v m := h.keep (Nat.le_refl _) fun b hb' => hb.block b (by omega)
/-- What a draw of a number leaves: a number of a kind, the cursor at most j bytes further on, all other blocks. -/
def Drawn (w : World) (P : Nat) (v : Value) (m : Nat) (ok : Nat → Prop) (e : Ending) (w' : World) : Prop :=
  ∃ x : Nat, e = .returned (.int .i64 (x : Int)) ∧ ok x ∧ CurR w' P v m ∧ w.grownBy w' (some P)
theorem Drawn.mono {w w' : World} {P m m' : Nat} {v : Value} {ok ok' : Nat → Prop} {e : Ending} (h : Drawn w P v m ok e w') (hm : m ≤ m') (hk : ∀ x, ok x → ok' x) : Drawn w P v m' ok' e w' := by
  obtain ⟨x, h1, h2, h3, h4⟩ := h
  exact ⟨x, h1, hk x h2, h3.keep hm fun _ _ => rfl, h4⟩
theorem low_byte (s : Nat) (h : s < 18446744073709551616) : ∃ x : Nat, bits BinOp.and IntKind.u64 ((s : Int) / 1099511627776) 255 = (x : Int) ∧ x ≤ 255 := by
  have h1 : (s : Int) / 1099511627776 = ((s / 1099511627776 : Nat) : Int) := (Int.natCast_ediv s 1099511627776).symm
  refine ⟨(s / 1099511627776) &&& 255, ?_, Nat.and_le_right⟩
  rw [h1]
  exact bits_and_u64_nat (s / 1099511627776) 255 (by omega) (by omega)
theorem wrap_u64 (x : Int) : ∃ s : Nat, IntKind.u64.wrap x = (s : Int) ∧ s < 18446744073709551616 := by
  have h1 : 0 ≤ IntKind.u64.wrap x ∧ IntKind.u64.wrap x < 18446744073709551616 := by
    simp only [IntKind.wrap, IntKind.signed, IntKind.bits, Bool.false_and, Bool.false_eq_true, if_false]
    exact ⟨Int.emod_nonneg _ (by decide), Int.emod_lt_of_pos _ (by decide)⟩
  exact ⟨(IntKind.u64.wrap x).toNat, by omega, by omega⟩
theorem cur_set {w : World} {P : Nat} {v k s : Value} {t : TypeId} (H : Hid (w.heap[P]? = some (.cells #[v, k, s] t (0, 0)))) (N : Nat) (a b : Value) :
    ∃ w0, w0 = ((w.drewN N).setCell ⟨P, 1, none⟩ a).setCell ⟨P, 2, none⟩ b ∧ Hid (w0.heap[P]? = some (.cells #[v, a, b] t (0, 0))) ∧ w.grownBy w0 (some P) := by
  obtain ⟨w1, e1, h1, g1⟩ := set1 (W := w.drewN N) H.out 1 a
  obtain ⟨w2, e2, h2, g2⟩ := set1 h1 2 b
  have g0 : w.grownBy (w.drewN N) (some P) := ⟨rfl, rfl, rfl, Nat.le_refl _, fun _ _ _ => rfl⟩
  exact ⟨w2, by rw [e2, e1], Lib.hid (by simpa using h2), grownT g0 (grownT g1 g2)⟩
theorem cur_next (P m : Nat) (v : Value) (w : World) (h : CurR w P v m) (hm : m ≤ 1000000000) :
    Calls Tryz.prog 65 #[.pointer (some ⟨P, 0, none⟩)] w (Drawn w P v (m + 1) fun x => x ≤ 255) := by
  have hb := h.1
  obtain ⟨⟨A, n, c, rfl, hn, hby⟩, k, s, hk, hs, hP⟩ := h
  have HB := Lib.hid hb; clear hb
  have HP := Lib.hid hP; clear hP
  obtain ⟨p0, p1, p2, pf⟩ := cells3 HP
  have fin : ∀ (N : Nat) (w1 : World) (S : Int), (∃ z, S = IntKind.u64.wrap z) → ∀ (x : Nat) (u : Int), u = (x : Int) → x ≤ 255 → ∀ N', w1.heap[P]? = some (.cells #[.slice A n c, .int .i64 ((k : Int) + 1), .int .u64 S] 62 (0, 0)) → w.grownBy w1 (some P) →
      Drawn w P (.slice A n c) (m + 1) (fun x => x ≤ 255) (.returned (.int .i64 u)) (w1.drewN N') := by
    rintro N w1 S ⟨z, hz⟩ x u hu hx N' h1 hg
    obtain ⟨s', h2, h3⟩ := wrap_u64 z
    have hlt := World.grownBy.size hg
    refine ⟨x, ret_int hu, hx, ⟨HB.out.keep fun b hb => ?_, k + 1, s', by omega, h3, ?_⟩, hg.os, hg.tape, hg.output, hg.size, hg.block⟩
    · have hPl : P < w.heap.size := by
        rcases Nat.lt_or_ge P w.heap.size with h | h
        · exact h
        · have := HP.out; rw [Array.getElem?_eq_none h] at this; cases this
      exact hg.block b (by omega) (fun e => by have := Option.some.inj e; omega)
    · rw [← h2, ← hz]; exact h1
  have FIN := Lib.hid fin; clear fin
  by_cases hlt : k < n
  · obtain ⟨ad, rfl, hb, hc⟩ := hby (by omega)
    obtain ⟨x, hx, hcell⟩ := hc k hlt
    clear hby hc
    go_enter Tryz.func65, Tryz.ntmps65
    go_wp2_with fail
    go_quiet (fail)
    generalize nq = q1
    go_wp2_with fail
    go_quiet (fail)
    go_wp2_with fail
    generalize hS : IntKind.u64.wrap (IntKind.u64.wrap (IntKind.u64.wrap ((s : Int) * 6364136223846793005) + (x : Int)) + 1442695040888963407) = S
    have HS := Lib.hid (show ∃ z, S = IntKind.u64.wrap z from ⟨_, hS.symm⟩); clear hS
    obtain ⟨w1, hw1, HP1, hg1⟩ := cur_set HP (q1 + nq) (.int .i64 ((k : Int) + 1)) (.int .u64 S)
    rw [← hw1]
    clear hw1 p0 p1 p2 pf hcell
    obtain ⟨p0, p1, p2, pf⟩ := cells3 HP1
    go_quiet (fail)
    go_wp2_with fail
    go_ret
    exact FIN.out 0 w1 S HS.out x _ rfl hx _ HP1.out hg1
  · clear hby
    go_enter Tryz.func65, Tryz.ntmps65
    go_wp2_with fail
    go_quiet (fail)
    go_wp2_with fail
    generalize hS : IntKind.u64.wrap (IntKind.u64.wrap (IntKind.u64.wrap ((s : Int) * 6364136223846793005)) + 1442695040888963407) = S
    obtain ⟨s', hs1, hs2⟩ := wrap_u64 (IntKind.u64.wrap (IntKind.u64.wrap ((s : Int) * 6364136223846793005)) + 1442695040888963407)
    obtain ⟨y, hy, hyl⟩ := low_byte s' hs2
    rw [← hs1, hS] at hy
    have HY := Lib.hid hy; clear hy
    have HS := Lib.hid (show ∃ z, S = IntKind.u64.wrap z from ⟨_, hS.symm⟩)
    have hSS := hS.symm.trans hs1
    clear hs1 hS
    have hS0 : 0 ≤ S := by omega
    clear hSS hs2
    obtain ⟨w1, hw1, HP1, hg1⟩ := cur_set HP nq (.int .i64 ((k : Int) + 1)) (.int .u64 S)
    rw [← hw1]
    clear hw1 p0 p1 p2 pf
    obtain ⟨p0, p1, p2, pf⟩ := cells3 HP1
    go_quiet (fail)
    go_wp2_with fail
    go_ret
    exact FIN.out 0 w1 S HS.out y _ (by rw [HY.out]; exact IntWalk.wrap64_in _ (by omega)) hyl _ HP1.out hg1
theorem cur_pick (P m : Nat) (v : Value) (n : Int) (w : World) (h : CurR w P v m) (hm : m ≤ 1000000) :
    Calls Tryz.prog 35 #[.pointer (some ⟨P, 0, none⟩), .int .i64 n] w (Drawn w P v (m + 2) fun x => (x : Int) < n ∨ x = 0) := by
  have H := Lib.hid h; clear h
  by_cases h1 : n ≤ 1
  · go_enter Tryz.func35, Tryz.ntmps35
    go_wp2_with fail
    go_ret
    exact ⟨0, rfl, .inr rfl, H.out.keep (by omega) (fun _ _ => rfl), rfl, rfl, rfl, Nat.le_refl _, fun _ _ _ => rfl⟩
  · obtain ⟨q, rfl⟩ := Int.eq_ofNat_of_zero_le (show 0 ≤ n by omega)
    go_enter Tryz.func35, Tryz.ntmps35
    go_wp2_with fail
    refine (cur_next P m v _ H.out (by omega)).mono ?_
    rintro e w1 ⟨x, rfl, hx, hc1, hg1⟩
    have H1 := Lib.hid hc1; clear hc1
    by_cases h2 : 200 < q
    · go_wp2_with fail
      refine (cur_next P (m + 1) v _ H1.out (by omega)).mono ?_
      rintro e w2 ⟨x2, rfl, hx2, hc2, hg2⟩
      have H2 := Lib.hid hc2; clear hc2
      go_wp2_with fail
      go_ret
      refine ⟨(x * 256 + x2) % q, ret_int (by rw [Int.natCast_emod, Int.natCast_add, Int.natCast_mul]; rfl), .inl ?_, H2.out, grownT hg1 hg2⟩
      exact_mod_cast Nat.mod_lt _ (show 0 < q by omega)
    · go_wp2_with fail
      go_ret
      refine ⟨x % q, ret_int (Int.natCast_emod _ _).symm, .inl ?_, H1.out.keep (by omega) (fun _ _ => rfl), hg1⟩
      exact_mod_cast Nat.mod_lt _ (show 0 < q by omega)
theorem cur_one (P m : Nat) (v : Value) (n : Int) (w : World) (h : CurR w P v m) (hm : m ≤ 1000000) :
    Calls Tryz.prog 67 #[.pointer (some ⟨P, 0, none⟩), .int .i64 n] w fun e w' => ∃ b, e = .returned (.bool b) ∧ CurR w' P v (m + 2) ∧ w.grownBy w' (some P) := by
  have H := Lib.hid h; clear h
  go_enter Tryz.func67, Tryz.ntmps67
  go_wp2_with fail
  refine (cur_pick P m v n _ H.out hm).mono ?_
  rintro e w1 ⟨x, rfl, hx, hc1, hg1⟩
  have H1 := Lib.hid hc1; clear hc1
  go_wp2_with fail
  go_ret
  exact ⟨_, rfl, H1.out, hg1⟩
/-- among(list): the list lies in a block of its own. -/
theorem cur_among (P m : Nat) (v : Value) (g : Nat) (xs : List Int) (w : World) (h : CurR w P v m) (hm : m ≤ 1000000) (hg : w.heap[g]? = some (.cells (xs.map intV).toArray 3 (0, 0))) (hP : g ≠ P) (h0 : 0 < xs.length) (h1 : xs.length ≤ 1000) :
    Calls Tryz.prog 36 #[.pointer (some ⟨P, 0, none⟩), .slice (some ⟨g, 0, none⟩) xs.length xs.length] w fun e w' => ∃ x, e = .returned (.int .i64 x) ∧ x ∈ xs ∧ CurR w' P v (m + 2) ∧ w.grownBy w' (some P) := by
  have H := Lib.hid h; clear h
  have HG := Lib.hid hg; clear hg
  go_enter Tryz.func36, Tryz.ntmps36
  go_wp2_with fail
  refine (cur_pick P m v _ _ H.out hm).mono ?_
  rintro e w1 ⟨x, rfl, hx, hc1, hg1⟩
  have hlt : x < xs.length := by omega
  have hgl : g < w.heap.size := by
    rcases Nat.lt_or_ge g w.heap.size with h | h
    · exact h
    · have := HG.out; rw [Array.getElem?_eq_none h] at this; cases this
  have hcell : w1.cell? ⟨g, x, none⟩ = some (.int .i64 xs[x]) := by
    rw [cell_of_row w1 g x _ _ (0, 0) ((hg1.block g hgl (fun e => hP (Option.some.inj e))).trans HG.out)]
    simp [hlt, intV]
  generalize hy : xs[x] = y at hcell
  have HY := Lib.hid (show y ∈ xs by rw [← hy]; exact List.getElem_mem _)
  have H1 := Lib.hid hc1; clear hc1 hy
  go_wp2_with fail
  go_ret
  exact ⟨_, rfl, HY.out, H1.out, hg1⟩
end
section
open Go.RowKit
set_option linter.unusedVariables false
set_option linter.unusedSimpArgs false

def OwnPost (xs : List Int) (w : World) (e : Ending) (w' : World) : Prop :=
  ∃ v, e = .returned v ∧ w'.ownsRow w.heap.size 3 1 v xs.length (xs.map intV) ∧ Below w.heap.size w w'
theorem spec_l1Own (v : Value) (xs : List Int) (w : World) (h : IntsR w w.heap.size v xs) (hn : xs.length ≤ 2000000) :
    Calls Tryz.prog 37 #[v] w (OwnPost xs w) := by
  have h64 := h.2
  obtain ⟨A, c, rfl, h1, h2, h3⟩ := h.open_
  have H64 := Lib.hid h64; clear h64 h
  have hown := World.ownsRow_made (base := w.heap.size) (e := 3) (size := 1) w #[] 0 (Nat.le_refl _) (Nat.zero_le _) (by simp)
  have hb0 := bl_alloc (Below.refl w.heap.size w) (.cells #[] 3)
  obtain ⟨i, hi, hz0, hz1, hz2⟩ := info_parts intInfo
  by_cases h0 : xs.length = 0
  · obtain rfl : xs = [] := List.eq_nil_of_length_eq_zero h0
    have fin : OwnPost [] w (.returned (.slice (some ⟨w.heap.size, 0, none⟩) 0 0)) (w.alloc (.cells #[] 3)) := by
      exact ⟨_, rfl, hown, hb0⟩
    have FIN := Lib.hid fin; clear fin
    clear h3 h0
    cases A with
    | none =>
      have hr := fun ty W => run_append_nil0 (P := Tryz.prog) W 28 ty 3 i Tryz.underlying28 hi w.heap.size 0 0 c (Nat.zero_le _)
      have HR := Lib.hid hr; clear hr
      clear hown hi hz0 hz1 hz2
      simp only [List.length_nil]
      go_enter Tryz.func37, Tryz.ntmps37
      go_wp2_with (at_builtin; refine Lib.wpList_append_run _ rfl _ _ _ _ rfl _ _ rfl rfl _ _ (HR.out _ _) ?_)
      go_ret
      exact FIN.out
    | some ad =>
      have HI := Lib.hid hi; clear hi
      have HO := Lib.hid hown; clear hown
      have Z0 := Lib.hid hz0; clear hz0
      have Z1 := Lib.hid hz1; clear hz1
      have Z2 := Lib.hid hz2; clear hz2
      simp only [List.length_nil]
      go_enter Tryz.func37, Tryz.ntmps37
      go_wp2_with (at_builtin; refine wpList_append_own_at _ rfl _ _ 28 rfl w.heap.size 3 i _ 1 8 Tryz.underlying28 HI.out Z0.out Z1.out Z2.out rfl (by decide) _ _ _ rfl HO.out ad 0 c [] rfl (by simp) (fun j u hj => by simp at hj) (fun u hu => by cases hu) (by unfold maxLen; omega) (by omega) (by simp) ?_; intro v' w1 hown1 hgrow hnil hat)
      go_ret
      exact ⟨_, rfl, by simpa using hown1, hb0.grown hgrow (by simp) (fun k hk => by have e := Option.some.inj (show some w.heap.size = some k from hk); omega)⟩
  · obtain ⟨ad, rfl, hb, hc⟩ := h3 (by omega)
    have HN := Lib.hid (show ∀ j u, (xs.map intV)[j]? = some u → (w.alloc (.cells #[] 3)).cell? (ad.add j) = some u from fun j u hu => by
      rw [List.getElem?_map] at hu
      obtain ⟨x, hx, rfl⟩ := Option.map_eq_some_iff.1 hu
      exact Lib.cell?_alloc_some _ (hc j x hx))
    have H1 := Lib.hid (show ∀ u ∈ xs.map intV, u.oneCell' = true from fun u hu => by
      obtain ⟨x, _, rfl⟩ := List.mem_map.1 hu
      rfl)
    have HI := Lib.hid hi; clear hi
    have HO := Lib.hid hown; clear hown
    have Z0 := Lib.hid hz0; clear hz0
    have Z1 := Lib.hid hz1; clear hz1
    have Z2 := Lib.hid hz2; clear hz2
    clear hc h3 h0
    go_enter Tryz.func37, Tryz.ntmps37
    go_wp2_with (at_builtin; refine wpList_append_own_at _ rfl _ _ 28 rfl w.heap.size 3 i _ 1 8 Tryz.underlying28 HI.out Z0.out Z1.out Z2.out rfl (by decide) _ _ _ rfl HO.out ad xs.length c (xs.map intV) rfl (by simp) HN.out H1.out (by unfold maxLen; omega) (by omega) (by simp) ?_; intro v' w1 hown1 hgrow hnil hat)
    go_ret
    exact ⟨_, rfl, by simpa using hown1, hb0.grown hgrow (by simp) (fun k hk => by have e := Option.some.inj (show some w.heap.size = some k from hk); omega)⟩
end
section
open Go.RowKit
set_option linter.unusedVariables false
set_option linter.unusedSimpArgs false
def SmRel (xs ys : List Int) (w : World) (i : Value) (wr : World) : Prop := ∃ k m : Nat, k ≤ xs.length ∧ i = .int .i64 k ∧ wr = w.drewN m ∧ ∀ j, j < k → xs[j]? = ys[j]?
theorem same_all {xs ys : List Int} (hl : xs.length = ys.length) (h : ∀ j, j < xs.length → xs[j]? = ys[j]?) : xs = ys := List.ext_getElem? fun j => by
  by_cases hj : j < xs.length
  · exact h j hj
  · rw [List.getElem?_eq_none (by omega), List.getElem?_eq_none (by omega)]
set_option maxRecDepth 100000 in
theorem spec_l1Same (v v' : Value) (xs ys : List Int) (w : World) (h : IntsR w w.heap.size v xs) (h' : IntsR w w.heap.size v' ys) :
    Calls Tryz.prog 88 #[v, v'] w fun e w' => e = .returned (.bool (decide (xs = ys))) ∧ ∃ m, w' = w.drewN m := by
  obtain ⟨A, c, rfl, h1, h2, h3⟩ := h.open_
  obtain ⟨A', c', rfl, h1', h2', h3'⟩ := h'.open_
  unfold maxLen at h2 h2'
  clear h h'
  go_enter Tryz.func88, Tryz.ntmps88
  by_cases hl : xs.length = ys.length
  · have HL := Lib.hid hl
    have kl : ((xs.length : Int) != (ys.length : Int)) = false := by rw [hl]; simp
    have kl2 : (xs.length : Int) = (ys.length : Int) := by rw [hl]
    have hle : xs.length ≤ ys.length := by omega
    clear hl
    go_wp2_with fail
    go_loopw [13, 5] (fun i _ wr => SmRel xs ys w i wr) (fun i _ _ => xs.length - (intOf i).toNat)
    case atStart => exact ⟨0, 0, Nat.zero_le _, rfl, rfl, fun j hj => by omega⟩
    case round =>
      obtain ⟨k, m, hk, rfl, rfl, hsm⟩ := hrel
      have HSM := Lib.hid hsm; clear hsm
      by_cases hlt : k < xs.length
      · obtain ⟨x, hx⟩ : ∃ x, xs[k]? = some x := ⟨xs[k], List.getElem?_eq_getElem hlt⟩
        obtain ⟨y, hy⟩ : ∃ y, ys[k]? = some y := ⟨ys[k], List.getElem?_eq_getElem (by omega)⟩
        obtain ⟨ad, rfl, hb, hc⟩ := h3 (by omega)
        obtain ⟨ad', rfl, hb', hc'⟩ := h3' (by omega)
        have hky : k < ys.length := by omega
        have hcell : (w.drewN m).cell? (ad.add k) = some (.int .i64 x) := hc k x hx
        have hcell' : (w.drewN m).cell? (ad'.add k) = some (.int .i64 y) := hc' k y hy
        have k1 := hc k x hx
        have k2 := hc' k y hy
        have HX := Lib.hid (And.intro hx hy)
        clear h3 h3' hc hc' hx hy
        by_cases e : x = y
        · have HN := Lib.hid (show ∀ j, j < k + 1 → xs[j]? = ys[j]? from fun j hj => by
            rcases Nat.lt_or_ge j k with h | h
            · exact HSM.out j h
            · obtain rfl : j = k := by omega
              rw [HX.out.1, HX.out.2, e])
          subst e
          go_wp2_with fail
          go_quiet (fail)
          go_wp2_with fail
          go_roundw
          case rel => exact ⟨k + 1, m + nq, by omega, by go_num, rfl, HN.out⟩
          case measure => simp [intOf]; omega
        · have HF := Lib.hid (show false = decide (xs = ys) from (decide_eq_false fun e2 => e (by have := HX.out; rw [e2] at this; exact Option.some.inj (this.1.symm.trans this.2))).symm)
          have ke : (x != y) = true := by simpa using e
          go_wp2_with fail
          go_quiet (fail)
          go_wp2_with fail
          go_ret
          exact ⟨ret_bool HF.out, m + nq, World.drewN_drewN _ _ _⟩
      · have HT := Lib.hid (show true = decide (xs = ys) from (decide_eq_true (same_all HL.out fun j hj => HSM.out j (by omega))).symm)
        go_wp2_with fail
        go_ret
        exact ⟨ret_bool HT.out, m, rfl⟩
  · have HF := Lib.hid (show false = decide (xs = ys) from (decide_eq_false fun e => hl (by rw [e])).symm)
    have hln : ¬ ((xs.length : Int) = (ys.length : Int)) := by omega
    clear hl
    go_wp2_with fail
    go_ret
    exact ⟨ret_bool HF.out, 0, rfl⟩
/-! ### plain: pairs in order -/
def ArcsOk (n : Int) (xss : List (List Int)) : Prop := ∀ i, i < xss.length → arcOk n xss i
theorem ord_flip {xs ys : List Int} (hx : xs.length = 2) (hy : ys.length = 2) (h : ¬ ordL xs ys < 0) (hne : xs ≠ ys) : ordL ys xs < 0 := by
  match xs, ys, hx, hy with
  | [a, b], [c, d], _, _ =>
    have hcd : ¬ (a = c ∧ b = d) := fun h => hne (by rw [h.1, h.2])
    simp only [ordL] at h ⊢
    by_cases h1 : a = c
    · rw [if_pos h1] at h
      rw [if_pos h1.symm]
      by_cases h2 : b = d
      · exact absurd ⟨h1, h2⟩ hcd
      · rw [if_neg h2] at h
        rw [if_neg (fun e => h2 e.symm)]
        split at h <;> split <;> omega
    · rw [if_neg h1] at h
      rw [if_neg (fun e => h1 e.symm)]
      split at h <;> split <;> omega
theorem ins_ok {n : Int} {xss : List (List Int)} {xs : List Int} {k : Nat} (h : ArcsOk n xss) (hk : k ≤ xss.length) (h1 : xs.length = 2) (h2 : allB xs 0 (n - 1) = true)
    (hlo : 0 < k → ∃ ys, xss[k - 1]? = some ys ∧ ordL ys xs < 0) (hhi : ∀ ys, xss[k]? = some ys → ordL xs ys < 0) : ArcsOk n (xss.take k ++ [xs] ++ xss.drop k) := by
  have hl : (xss.take k).length = k := by simp; omega
  have at_ : ∀ i, (xss.take k ++ [xs] ++ xss.drop k)[i]? = if i < k then xss[i]? else if i = k then some xs else xss[i - 1]? := by
    intro i
    by_cases h1 : i < k
    · rw [if_pos h1, List.append_assoc, List.getElem?_append_left (by omega), List.getElem?_take, if_pos h1]
    · rw [if_neg h1]
      by_cases h2 : i = k
      · rw [if_pos h2, List.append_assoc, List.getElem?_append_right (by omega), hl, h2, Nat.sub_self]; rfl
      · rw [if_neg h2, List.append_assoc, List.getElem?_append_right (by omega), hl]
        obtain ⟨j, rfl⟩ : ∃ j, i = k + (j + 1) := ⟨i - k - 1, by omega⟩
        rw [show k + (j + 1) - k = j + 1 by omega, List.cons_append, List.getElem?_cons_succ, List.nil_append, List.getElem?_drop]
        rfl
  intro i hi
  have hlen : (xss.take k ++ [xs] ++ xss.drop k).length = xss.length + 1 := by simp; omega
  rw [hlen] at hi
  unfold arcOk
  rw [at_ i]
  by_cases c1 : i < k
  · obtain ⟨zs, e1, e2, e3, e4⟩ := h i (by omega)
    refine ⟨zs, by rw [if_pos c1]; exact e1, e2, e3, fun h0 => ?_⟩
    rw [at_ (i - 1), if_pos (by omega)]
    exact e4 h0
  · by_cases c2 : i = k
    · refine ⟨xs, by rw [if_neg c1, if_pos c2], h1, h2, fun h0 => ?_⟩
      rw [at_ (i - 1), if_pos (by omega), c2]
      exact hlo (by omega)
    · obtain ⟨zs, e1, e2, e3, e4⟩ := h (i - 1) (by omega)
      refine ⟨zs, by rw [if_neg c1, if_neg c2]; exact e1, e2, e3, fun h0 => ?_⟩
      rw [at_ (i - 1), if_neg (by omega)]
      by_cases c3 : i - 1 = k
      · rw [if_pos c3]
        exact ⟨xs, rfl, hhi zs (by rw [← c3]; exact e1)⟩
      · rw [if_neg c3]
        exact e4 (by omega)
/-! ### rows of one's own: an outer row, and a block for each inner one -/
/-- v is a row of numbers in a block of its own, at or behind base. -/
def RowP (base : Nat) (w : World) (v : Value) (xs : List Int) : Prop :=
  ∃ b, v = .slice (some ⟨b, 0, none⟩) xs.length xs.length ∧ w.heap[b]? = some (.cells (xs.map intV).toArray 3 (0, 0)) ∧ base ≤ b ∧ xs.length ≤ 1000 ∧ ∀ x ∈ xs, I64 x
theorem heap_lt {w : World} {b : Nat} {o : Obj} (h : w.heap[b]? = some o) : b < w.heap.size := by
  rcases Nat.lt_or_ge b w.heap.size with h2 | h2
  · exact h2
  · rw [Array.getElem?_eq_none h2] at h; cases h
theorem RowP.reads {base : Nat} {w : World} {v : Value} {xs : List Int} (h : RowP base w v xs) : IntsR w w.heap.size v xs := by
  obtain ⟨b, rfl, h1, _, h2, h3⟩ := h
  have ho : OwnInts w 3 (.slice (some ⟨b, 0, none⟩) xs.length xs.length) xs [b] :=
    ⟨.inr ⟨b, xs.length, (xs.map intV).toArray, by rw [List.length_map], by rw [List.length_map]; exact Nat.le_refl _, by unfold maxLen; omega, h1, by simp, List.take_of_length_le (by simp), rfl⟩, h3⟩
  exact ho.reads ho.1.lt
theorem RowP.base_ {base base' : Nat} {w : World} {v : Value} {xs : List Int} (h : RowP base w v xs) (hb : base' ≤ base) : RowP base' w v xs := by
  obtain ⟨b, e, h1, h0, h2, h3⟩ := h
  exact ⟨b, e, h1, by omega, h2, h3⟩
def All2 (R : Value → List Int → Prop) : List Value → List (List Int) → Prop
  | [], [] => True
  | v :: vs, xs :: xss => R v xs ∧ All2 R vs xss
  | _, _ => False
theorem All2.mono {R R' : Value → List Int → Prop} (h : ∀ v xs, R v xs → R' v xs) : ∀ {vs : List Value} {xss : List (List Int)}, All2 R vs xss → All2 R' vs xss
  | [], [], _ => trivial
  | _ :: _, _ :: _, ⟨a, b⟩ => ⟨h _ _ a, All2.mono h b⟩
  | [], _ :: _, k => k.elim
  | _ :: _, [], k => k.elim
theorem All2.reads {w : World} {B : Nat} {R : Value → List Int → Prop} (h : ∀ v xs, R v xs → IntsR w B v xs) : ∀ {vs : List Value} {xss : List (List Int)}, All2 R vs xss → AllR w B vs xss
  | [], [], _ => trivial
  | _ :: _, _ :: _, ⟨a, b⟩ => ⟨h _ _ a, All2.reads h b⟩
  | [], _ :: _, k => k.elim
  | _ :: _, [], k => k.elim
theorem All2.take {R : Value → List Int → Prop} : ∀ {vs : List Value} {xss : List (List Int)} (k : Nat), All2 R vs xss → All2 R (vs.take k) (xss.take k)
  | [], [], _, _ => by simp [All2]
  | _ :: _, _ :: _, 0, _ => by simp [All2]
  | _ :: _, _ :: _, k + 1, ⟨a, b⟩ => ⟨a, All2.take k b⟩
  | [], _ :: _, _, k => k.elim
  | _ :: _, [], _, k => k.elim
theorem All2.drop {R : Value → List Int → Prop} : ∀ {vs : List Value} {xss : List (List Int)} (k : Nat), All2 R vs xss → All2 R (vs.drop k) (xss.drop k)
  | [], [], _, _ => by simp [All2]
  | _ :: _, _ :: _, 0, h => h
  | _ :: _, _ :: _, k + 1, ⟨a, b⟩ => All2.drop k b
  | [], _ :: _, _, k => k.elim
  | _ :: _, [], _, k => k.elim
theorem All2.app {R : Value → List Int → Prop} : ∀ {vs us : List Value} {xss yss : List (List Int)}, All2 R vs xss → All2 R us yss → All2 R (vs ++ us) (xss ++ yss)
  | [], _, [], _, _, h => h
  | _ :: _, _, _ :: _, _, ⟨a, b⟩, h => ⟨a, All2.app b h⟩
  | [], _, _ :: _, _, k, _ => k.elim
  | _ :: _, _, [], _, k, _ => k.elim
theorem All2.one {base : Nat} {w : World} : ∀ {vs : List Value} {xss : List (List Int)}, All2 (RowP base w) vs xss → (∀ u ∈ vs, u.oneCell' = true)
  | [], [], _, _, h => by cases h
  | v :: vs, xs :: xss, ⟨a, b⟩, u, h => by
    rcases List.mem_cons.1 h with rfl | h
    · obtain ⟨b, rfl, _⟩ := a; rfl
    · exact All2.one b u h
  | [], _ :: _, k, _, _ => k.elim
  | _ :: _, [], k, _, _ => k.elim
/-- Blocks of numbers and blocks of rows stay. -/
def Stays (w w' : World) : Prop := ∀ (b : Nat) (cs : Array Value) (t : TypeId), (t = 3 ∨ t = 28) → w.heap[b]? = some (.cells cs t (0, 0)) → w'.heap[b]? = some (.cells cs t (0, 0))
theorem Stays.refl (w : World) : Stays w w := fun _ _ _ _ h => h
theorem Stays.trans {a b c : World} (h : Stays a b) (k : Stays b c) : Stays a c := fun x cs t ht e => k x cs t ht (h x cs t ht e)
theorem Stays.below {w w' : World} (hb : Below w.heap.size w w') : Stays w w' := fun b cs t _ h => (hb.block b (heap_lt h)).trans h
theorem Stays.grown {w w' : World} {P : Nat} {cs : Array Value} {t : TypeId} (hg : w.grownBy w' (some P)) (hP : w.heap[P]? = some (.cells cs t (0, 0))) (h1 : t ≠ 3) (h2 : t ≠ 28) : Stays w w' := by
  intro b cs' t' ht h
  refine (hg.block b (heap_lt h) fun e => ?_).trans h
  obtain rfl := Option.some.inj e
  rw [hP] at h
  have := (Obj.cells.inj (Option.some.inj h)).2.1
  rcases ht with e | e
  · exact h1 (this.trans e)
  · exact h2 (this.trans e)
theorem Stays.set {w : World} {p : Addr} {u : Value} {cs : Array Value} {t : TypeId} (hP : w.heap[p.block]? = some (.cells cs t (0, 0))) (h1 : t ≠ 3) (h2 : t ≠ 28) : Stays w (w.setCell p u) := by
  intro b cs' t' ht h
  refine (Below.heap_setCell _ _ _ _ fun e => ?_).trans h
  rw [e, hP] at h
  have := (Obj.cells.inj (Option.some.inj h)).2.1
  rcases ht with e | e
  · exact h1 (this.trans e)
  · exact h2 (this.trans e)
theorem RowP.stays {base : Nat} {w w' : World} {v : Value} {xs : List Int} (h : RowP base w v xs) (hs : Stays w w') : RowP base w' v xs := by
  obtain ⟨b, e, h1, h2⟩ := h
  exact ⟨b, e, hs _ _ _ (.inl rfl) h1, h2⟩
def ArcsIn (base : Nat) (w : World) (v : Value) (xss : List (List Int)) : Prop := ∃ vs, w.ownsRow base 28 1 v xss.length vs ∧ All2 (RowP base w) vs xss
theorem ArcsIn.stays {base : Nat} {w w' : World} {v : Value} {xss : List (List Int)} (h : ArcsIn base w v xss) (hs : Stays w w') : ArcsIn base w' v xss := by
  obtain ⟨vs, ho, hr⟩ := h
  refine ⟨vs, ⟨ho.1, ?_⟩, hr.mono fun _ _ k => k.stays hs⟩
  rcases ho.2 with h2 | ⟨g, cap, cur, h1, h2, h3, h4⟩
  · exact .inl h2
  · exact .inr ⟨g, cap, cur, h1, h2, hs _ _ _ (.inr rfl) h3, h4⟩
theorem ArcsIn.up {base : Nat} {w w' : World} {v : Value} {xss : List (List Int)} (h : ArcsIn base w v xss) (hb : Below w.heap.size w w') : ArcsIn base w' v xss := h.stays (.below hb)
theorem ArcsIn.reads {base : Nat} {w : World} {v : Value} {xss : List (List Int)} (h : ArcsIn base w v xss) : RowsR w w.heap.size v xss := by
  obtain ⟨vs, ho, hr⟩ := h
  obtain ⟨bs, h1, h2, _⟩ := OwnRow.of_owns ho
  exact ⟨vs, h1.reads h1.lt, hr.reads fun _ _ k => k.reads⟩
theorem run_from (g n cap k : Nat) (hk : k ≤ n) (hn : n ≤ cap) (h : cap ≤ 9223372036854775807) (W : World) :
    (Instr.slice 24 (.slice (some ⟨g, 0, none⟩) n cap) (some (.int .i64 (k : Int))) none none).run Tryz.prog W = .ok (.slice (if cap = k then some ⟨g, 0, none⟩ else some ⟨g, k, none⟩) (n - k) (cap - k)) W := by
  rw [Go.run_slice_l (w := W) 24 (some ⟨g, 0, none⟩) n cap (by kernel_rfl) .i64 (k : Int) (by omega) (by omega)]
  rw [show ((sizeOf (Tryz.prog.elem 24)).run Tryz.prog W) = .ok 1 W by kernel_rfl]
  simp [Result.andThen, sliced, Addr.add]
  by_cases hk0 : k = 0
  · subst hk0; simp
  · rw [if_neg hk0]
theorem own_base {w : World} {b b' : Nat} {e : TypeId} {v : Value} {n : Nat} {vs : List Value} (h : w.ownsRow b' e 1 v n vs) (hb : b ≤ b') : w.ownsRow b e 1 v n vs := by
  refine ⟨h.1, ?_⟩
  rcases h.2 with h2 | ⟨g, cap, cur, h1, h2, h3⟩
  · exact .inl h2
  · exact .inr ⟨g, cap, cur, h1, by omega, h3⟩
def PiRel (xss : List (List Int)) (xs : List Int) (w : World) (i : Value) (wr : World) : Prop :=
  w = wr ∧ ∃ k : Nat, k ≤ xss.length ∧ i = .int .i64 (k : Int) ∧ (0 < k → ∃ ys, xss[k - 1]? = some ys ∧ ordL ys xs < 0)
def InsPost (base : Nat) (n : Int) (xss : List (List Int)) (w : World) (e : Ending) (w' : World) : Prop :=
  ∃ v' yss, e = .returned v' ∧ ArcsIn base w' v' yss ∧ ArcsOk n yss ∧ yss.length ≤ xss.length + 1 ∧ Below w.heap.size w w'
set_option maxRecDepth 100000 in
set_option maxHeartbeats 1000000 in
theorem spec_prInsert (base : Nat) (n : Int) (v u : Value) (xss : List (List Int)) (xs : List Int) (w : World) (h : ArcsIn base w v xss) (hb : base ≤ w.heap.size) (hu : RowP base w u xs)
    (h2 : xs.length = 2) (hx : allB xs 0 (n - 1) = true) (hn : n ≤ 1000) (ha : ArcsOk n xss) (hl : xss.length ≤ 100000) :
    Calls Tryz.prog 66 #[v, u] w (InsPost base n xss w) := by
  have HU := Lib.hid hu.reads
  have HUP := Lib.hid hu; clear hu
  have HA := Lib.hid ha; clear ha
  have H0 := Lib.hid h
  obtain ⟨vs, ho, hr⟩ := h
  have HO := Lib.hid ho
  have HP := Lib.hid hr
  have HR := Lib.hid (All2.reads (w := w) (B := w.heap.size) (fun _ _ k => k.reads) hr); clear hr
  have H2 := Lib.hid h2; clear h2
  have HX := Lib.hid hx; clear hx
  rcases ho.2 with ⟨rfl, hn0⟩ | ⟨g, cap, cur, rfl, g1, g2, g3, g4, g5, g6⟩
  · obtain rfl : xss = [] := List.eq_nil_of_length_eq_zero hn0
    obtain rfl : vs = [] := List.eq_nil_of_length_eq_zero (by have := ho.1; simpa using this)
    obtain ⟨ti, hi, hz0, hz1, hz2⟩ := info_parts sliceInfo
    have hown := World.ownsRow_made (base := w.heap.size) (e := 28) (size := 1) w #[] 0 (Nat.le_refl _) (Nat.zero_le _) (by simp)
    have hb0 := bl_alloc (Below.refl w.heap.size w) (.cells #[] 28)
    have hr := fun ty W g n c => run_append_nil0 (P := Tryz.prog) W 24 ty 28 ti Tryz.underlying24 hi g n c 0
    have HI := Lib.hid hi; clear hi
    have HR0 := Lib.hid hr; clear hr
    obtain ⟨w0, hw0⟩ : ∃ z, z = w.alloc (.cells #[] 28) := ⟨_, rfl⟩
    rw [← hw0] at hown hb0
    have HWX := Lib.hid hw0; clear hw0
    have HW0 := Lib.hid hown; clear hown
    have HB0 := Lib.hid hb0; clear hb0
    obtain ⟨ub, rfl, -⟩ := HUP.out
    clear ho hz0 hz1 hz2 hn0 HO HR HP
    go_enter Tryz.func66, Tryz.ntmps66
    go_wp2_with fail
    go_loopw [5] (fun i wr => i = .int .i64 0 ∧ w = wr) (fun i _ => 0)
    case atStart => exact ⟨rfl, rfl⟩
    case round =>
      obtain ⟨rfl, rfl⟩ := hrel
      go_wp2_with (first
        | (at_builtin; refine Lib.wpList_append_run _ rfl (.tmp 35) (.tmp 38) _ _ rfl _ _ rfl rfl _ _ (HR0.out _ _ w.heap.size 0 0 (Nat.zero_le _)) ?_; rw [← HWX.out])
        | (at_builtin; refine wpList_append1 w0 rfl (.tmp 40) (.tmp 42) 24 rfl w.heap.size 28 _ 24 Tryz.underlying24 sliceInfo rfl _ _ _ rfl _ rfl rfl HW0.out (by unfold maxLen; omega) (by omega) HB0.out.size ?_; intro v2 w2 hown2 hbb2 hgrow2 hlt2 hat2
           obtain ⟨g2, cap2, rfl, hc2, -⟩ := own_some hown2 (by omega)
           have hb2 : Below w.heap.size w w2 := HB0.out.grown hgrow2 HB0.out.size (fun b e => (HW0.out.lt b e).1)
           have HW2 := Lib.hid hown2; clear hown2 hbb2 hgrow2 hat2)
        | (at_builtin; refine Lib.wpList_append_run _ rfl (.tmp 44) (.tmp 47) _ _ rfl _ _ rfl rfl _ _ (HR0.out _ _ g2 1 cap2 hc2) ?_))
      go_ret
      refine ⟨_, [xs], rfl, ⟨_, own_base HW2.out hb, ⟨HUP.out.stays (.below hb2), trivial⟩⟩, ?_, by simp, hb2⟩
      have := ins_ok (k := 0) HA.out (Nat.le_refl _) H2.out HX.out (fun h => absurd h (by omega)) (fun ys h => by simp at h)
      simpa using this
  · have hvl : vs.length = xss.length := by have := ho.1; omega
    have hc : ∀ j v, vs[j]? = some v → w.cell? ((⟨g, 0, none⟩ : Addr).add j) = some v := ho.cells rfl
    have HC := Lib.hid hc; clear hc ho g2 g5 g6
    unfold maxLen at g4
    obtain ⟨ti, hi, hz0, hz1, hz2⟩ := info_parts sliceInfo
    have HI := Lib.hid hi; clear hi
    have Z0 := Lib.hid hz0; clear hz0
    have Z1 := Lib.hid hz1; clear hz1
    have Z2 := Lib.hid hz2; clear hz2
    have hone := HP.out.one
    have ONE := Lib.hid (show ∀ k, ∀ u ∈ vs.take k, u.oneCell' = true from fun k u h => hone u (List.mem_of_mem_take h))
    have ONE2 := Lib.hid (show ∀ k, ∀ u ∈ vs.drop k, u.oneCell' = true from fun k u h => hone u (List.mem_of_mem_drop h))
    obtain ⟨ub, rfl, -⟩ := HUP.out
    have CELLS := Lib.hid (show ∀ W', Below w.heap.size w W' → ∀ o j u, vs[o + j]? = some u → W'.cell? ((⟨g, o, none⟩ : Addr).add j) = some u from fun W' hb o j u hu => by
      have h1 := HC.out (o + j) u hu
      have e1 : (⟨g, 0, none⟩ : Addr).add (o + j) = (⟨g, o, none⟩ : Addr).add j := by unfold Addr.add; split <;> split <;> simp_all
      rw [e1] at h1
      exact (hb.cell (World.block_lt_of_cell? _ _ h1)).trans h1)
    have fin : ∀ k, k ≤ xss.length → (0 < k → ∃ ys, xss[k - 1]? = some ys ∧ ordL ys xs < 0) → (∀ ys, xss[k]? = some ys → ordL xs ys < 0) → ∀ v3 w3, w3.ownsRow w.heap.size 28 1 v3 (k + 1 + (xss.length - k)) (vs.take k ++ [.slice (some ⟨ub, 0, none⟩) xs.length xs.length] ++ vs.drop k) →
        Below w.heap.size w w3 → InsPost base n xss w (.returned v3) w3 := by
      intro k hk hlo hhi v3 w3 ho hb3
      have hl : (xss.take k ++ [xs] ++ xss.drop k).length = k + 1 + (xss.length - k) := by simp; omega
      refine ⟨v3, _, rfl, ⟨_, by rw [hl]; exact own_base ho hb, ?_⟩, ins_ok HA.out hk H2.out HX.out hlo hhi, by omega, hb3⟩
      have h1 := HP.out.mono fun _ _ k => k.stays (.below hb3)
      exact (All2.app (All2.app (h1.take k) ⟨HUP.out.stays (.below hb3), trivial⟩) (h1.drop k))
    have FIN := Lib.hid fin; clear fin
    clear hone
    go_enter Tryz.func66, Tryz.ntmps66
    go_wp2_with fail
    go_loopw [5] (fun i wr => PiRel xss xs w i wr) (fun i _ => xss.length - (intOf i).toNat)
    case atStart => exact ⟨rfl, 0, Nat.zero_le _, rfl, fun h => absurd h (by omega)⟩
    case round =>
      obtain ⟨rfl, k, hk, rfl, hlo⟩ := hrel
      have HLO := Lib.hid hlo; clear hlo
      by_cases hlt : k < xss.length
      · obtain ⟨ys, hy⟩ : ∃ x, xss[k]? = some x := ⟨xss[k], List.getElem?_eq_getElem hlt⟩
        obtain ⟨y, hyv⟩ : ∃ x, vs[k]? = some x := ⟨vs[k], List.getElem?_eq_getElem (by omega)⟩
        have hcell : w.cell? ⟨g, k, none⟩ = some y := by
          have := HC.out k y hyv
          rwa [show (⟨g, 0, none⟩ : Addr).add k = ⟨g, k, none⟩ by unfold Addr.add; split <;> simp_all] at this
        have HYR := Lib.hid (HR.out.at_ hyv hy)
        have HAK := Lib.hid (HA.out k hlt)
        have HY := Lib.hid hy; clear hy hyv
        obtain ⟨ys', e1, e2, e3, e4⟩ := HAK.out
        rw [HY.out] at e1
        obtain rfl := Option.some.inj e1
        have HY2 := Lib.hid e2
        have HY3 := Lib.hid e3
        clear e1 e2 e3 e4
        by_cases q : ordL ys xs < 0
        · go_wp2_with (go_at_call 80; refine (spec_prOrder _ _ ys xs _ HYR.out HU.out (H2.out.trans HY2.out.symm) (allB_small HY3.out (by omega)) (allB_small HX.out (by omega))).mono ?_; rintro e w' ⟨rfl, rfl⟩)
          go_roundw
          case rel => exact ⟨rfl, k + 1, by omega, by go_num, fun _ => ⟨ys, HY.out, q⟩⟩
          case measure => simp [intOf]; omega
        · go_wp2_with (go_at_call 80; refine (spec_prOrder _ _ ys xs _ HYR.out HU.out (H2.out.trans HY2.out.symm) (allB_small HY3.out (by omega)) (allB_small HX.out (by omega))).mono ?_; rintro e w' ⟨rfl, rfl⟩)
          by_cases q2 : ys = xs
          · refine (spec_l1Same _ _ ys xs _ HYR.out HU.out).mono ?_
            rintro e w1 ⟨rfl, m, rfl⟩
            have q3 : decide (ys = xs) = true := decide_eq_true q2
            rw [q3]
            clear q2
            go_wp2_with fail
            go_ret
            exact ⟨_, xss, rfl, H0.out.up (bl_drewN (Below.refl _ _) _), HA.out, by omega, bl_drewN (Below.refl _ _) _⟩
          · have q' : ¬ ordL ys xs < 0 := by omega
            have HF := Lib.hid (show ∀ zs, xss[k]? = some zs → ordL xs zs < 0 from fun zs hz => Option.some.inj (HY.out.symm.trans hz) ▸ ord_flip HY2.out H2.out q' q2)
            clear q'
            refine (spec_l1Same _ _ ys xs _ HYR.out HU.out).mono ?_
            rintro e w1 ⟨rfl, m, rfl⟩
            have q3 : decide (ys = xs) = false := decide_eq_false q2
            rw [q3]
            --APP1
            have hbm : Below w.heap.size w (w.drewN m) := bl_drewN (Below.refl _ _) _
            have hown0 := World.ownsRow_made (base := w.heap.size) (e := 28) (size := 1) (w.drewN m) #[] 0 (Nat.le_refl _) (Nat.zero_le _) (by simp)
            have HO0 := Lib.hid hown0; clear hown0
            have hb0 := bl_alloc hbm (.cells #[] 28)
            have N0 := Lib.hid (show ∀ j u, (vs.take k)[j]? = some u → ((w.drewN m).alloc (.cells #[] 28)).cell? ((⟨g, 0, none⟩ : Addr).add j) = some u from fun j u hu => by
              rw [List.getElem?_take] at hu
              split at hu
              · exact CELLS.out _ hb0 0 j u (by rw [Nat.zero_add]; exact hu)
              · cases hu)
            have HB0 := Lib.hid hb0; clear hb0
            go_wp2_with (first
              | (at_builtin; refine wpList_append_own_at _ rfl (.tmp 35) (.tmp 38) 24 rfl w.heap.size 28 ti _ 1 24 Tryz.underlying24 HI.out Z0.out Z1.out Z2.out rfl (by decide) _ _ _ rfl HO0.out ⟨g, 0, none⟩ k cap (vs.take k) rfl (by rw [List.length_take]; omega) N0.out (ONE.out k) (by unfold maxLen; omega) (by omega) HB0.out.size ?_; intro v1 w1 hown1 hgrow1 hnil1 hat1
                 have hb1 : Below w.heap.size w w1 := HB0.out.grown hgrow1 HB0.out.size (fun b e => by have e := Option.some.inj (show some w.heap.size = some b from e); omega)
                 rw [Nat.zero_add, List.nil_append] at hown1
                 have hz1 := hb1.size
                 have HW1 := Lib.hid hown1; clear hown1 hgrow1 hnil1 hat1
                 have HB1 := Lib.hid hb1; clear hb1)
              | (at_builtin; refine wpList_append1 w1 rfl (.tmp 40) (.tmp 42) 24 rfl w.heap.size 28 _ 24 Tryz.underlying24 sliceInfo rfl _ _ _ rfl _ rfl rfl HW1.out (by unfold maxLen; omega) (by omega) (by omega) ?_; intro v2 w2 hown2 hbb2 hgrow2 hlt2 hat2
                 have hb2 : Below w.heap.size w w2 := HB1.out.grown hgrow2 HB1.out.size (fun b e => (HW1.out.lt b e).1)
                 have hz2 := hb2.size
                 have HW2 := Lib.hid hown2; clear hown2 hbb2 hgrow2 hat2
                 have HB2 := Lib.hid hb2; clear hb2
                 have N2 := Lib.hid (show ∀ j u, (vs.drop k)[j]? = some u → w2.cell? ((⟨g, k, none⟩ : Addr).add j) = some u from fun j u hu => CELLS.out _ HB2.out k j u (by rw [← List.getElem?_drop]; exact hu)))
              | (at_builtin; refine wpList_append_own_at w2 rfl (.tmp 44) (.tmp 47) 24 rfl w.heap.size 28 ti _ 1 24 Tryz.underlying24 HI.out Z0.out Z1.out Z2.out rfl (by decide) _ _ _ rfl HW2.out ⟨g, k, none⟩ (xss.length - k) (cap - k) (vs.drop k) rfl (by rw [List.length_drop]; omega) N2.out (ONE2.out k) (by unfold maxLen; omega) (by omega) (by omega) ?_; intro v3 w3 hown3 hgrow3 hnil3 hat3))
            have hb3 : Below w.heap.size w w3 := HB2.out.grown hgrow3 HB2.out.size (fun b e => (HW2.out.lt b e).1)
            have HW3 := Lib.hid hown3
            clear hown3 hgrow3 hnil3 hat3
            go_ret
            exact FIN.out k hk HLO.out (HF.out) v3 w3 HW3.out hb3
      --APP2
      · have hkl : k = xss.length := by omega
        obtain ⟨ad, had⟩ : ∃ ad, (if cap = k then some (⟨g, 0, none⟩ : Addr) else some ⟨g, k, none⟩) = some ad := by split <;> exact ⟨_, rfl⟩
        have hsl := run_from g xss.length cap k hk g3 (by omega)
        rw [had] at hsl
        have hsa : ∀ W, (Instr.sliceAt 24 (.slice (some ⟨g, 0, none⟩) xss.length cap) (some (.int .i64 (k : Int))) none none).run Tryz.prog W = .ok (.slice (some ad) (xss.length - k) (cap - k)) W := fun W => (Go.run_sliceAt_slice (P := Tryz.prog) (w := W) 24 _ _ _ _ (by kernel_rfl)).trans (hsl W)
        clear had
        have HKL := Lib.hid hkl; clear hkl
        have hbm : Below w.heap.size w (w) := Below.refl _ _
        have hown0 := World.ownsRow_made (base := w.heap.size) (e := 28) (size := 1) (w) #[] 0 (Nat.le_refl _) (Nat.zero_le _) (by simp)
        have HO0 := Lib.hid hown0; clear hown0
        have hb0 := bl_alloc hbm (.cells #[] 28)
        have N0 := Lib.hid (show ∀ j u, (vs.take k)[j]? = some u → ((w).alloc (.cells #[] 28)).cell? ((⟨g, 0, none⟩ : Addr).add j) = some u from fun j u hu => by
          rw [List.getElem?_take] at hu
          split at hu
          · exact CELLS.out _ hb0 0 j u (by rw [Nat.zero_add]; exact hu)
          · cases hu)
        have HB0 := Lib.hid hb0; clear hb0
        go_wp2_with (first
          | (at_builtin; refine wpList_append_own_at _ rfl (.tmp 35) (.tmp 38) 24 rfl w.heap.size 28 ti _ 1 24 Tryz.underlying24 HI.out Z0.out Z1.out Z2.out rfl (by decide) _ _ _ rfl HO0.out ⟨g, 0, none⟩ k cap (vs.take k) rfl (by rw [List.length_take]; omega) N0.out (ONE.out k) (by unfold maxLen; omega) (by omega) HB0.out.size ?_; intro v1 w1 hown1 hgrow1 hnil1 hat1
             have hb1 : Below w.heap.size w w1 := HB0.out.grown hgrow1 HB0.out.size (fun b e => by have e := Option.some.inj (show some w.heap.size = some b from e); omega)
             rw [Nat.zero_add, List.nil_append] at hown1
             have hz1 := hb1.size
             have HW1 := Lib.hid hown1; clear hown1 hgrow1 hnil1 hat1
             have HB1 := Lib.hid hb1; clear hb1)
          | (at_builtin; refine wpList_append1 w1 rfl (.tmp 40) (.tmp 42) 24 rfl w.heap.size 28 _ 24 Tryz.underlying24 sliceInfo rfl _ _ _ rfl _ rfl rfl HW1.out (by unfold maxLen; omega) (by omega) (by omega) ?_; intro v2 w2 hown2 hbb2 hgrow2 hlt2 hat2
             have hb2 : Below w.heap.size w w2 := HB1.out.grown hgrow2 HB1.out.size (fun b e => (HW1.out.lt b e).1)
             have hz2 := hb2.size
             have HW2 := Lib.hid hown2; clear hown2 hbb2 hgrow2 hat2
             have HB2 := Lib.hid hb2; clear hb2
             have N2 := Lib.hid (show ∀ j u, (vs.drop k)[j]? = some u → w2.cell? ((ad : Addr).add j) = some u from fun j u hu => by rw [List.getElem?_drop, List.getElem?_eq_none (by omega)] at hu; cases hu))
          | (at_builtin; refine wpList_append_own_at w2 rfl (.tmp 44) (.tmp 47) 24 rfl w.heap.size 28 ti _ 1 24 Tryz.underlying24 HI.out Z0.out Z1.out Z2.out rfl (by decide) _ _ _ rfl HW2.out ad (xss.length - k) (cap - k) (vs.drop k) rfl (by rw [List.length_drop]; omega) N2.out (ONE2.out k) (by unfold maxLen; omega) (by omega) (by omega) ?_; intro v3 w3 hown3 hgrow3 hnil3 hat3))
        have hb3 : Below w.heap.size w w3 := HB2.out.grown hgrow3 HB2.out.size (fun b e => (HW2.out.lt b e).1)
        have HW3 := Lib.hid hown3
        clear hown3 hgrow3 hnil3 hat3
        go_ret
        exact FIN.out k hk HLO.out (fun zs hz => by rw [List.getElem?_eq_none (by omega)] at hz; cases hz) v3 w3 HW3.out hb3
end
section
open Go.RowKit
set_option linter.unusedVariables false
set_option linter.unusedSimpArgs false
theorem gr_below {w w' : World} {r : Option Nat} (hb : Below w.heap.size w w') : w.grownBy w' r := ⟨hb.os, hb.tape, hb.output, hb.size, fun k hk _ => hb.block k hk⟩
theorem RowsR.sl {w : World} {B : Nat} {v : Value} {xss : List (List Int)} (h : RowsR w B v xss) : ∃ A m c, v = .slice A m c := by
  obtain ⟨A, c, e, _⟩ := h.open_
  exact ⟨A, _, c, e⟩
/-- The problem under construction: its box, the result's box, the cursor. -/
structure Bx (w : World) (P : Nat) (cv : Value) (B1 B2 m n : Nat) (v : Value) (wr : World) : Prop where
  box : wr.heap[B2]? = some (.cells #[.int .i64 (n : Int), v] 26 (0, 0))
  res : wr.heap[B1]? = some (.cells #[.int .i64 0, .slice none 0 0] 26 (0, 0))
  cur : CurR wr P cv m
  grown : w.grownBy wr (some P)
  b1 : w.heap.size ≤ B1
  b2 : w.heap.size ≤ B2
  b12 : B1 ≠ B2
  p : P < w.heap.size
/-- Its arcs. -/
def Arcs (w : World) (n k : Nat) (Q : List (List Int) → Prop) (v : Value) (wr : World) : Prop := ∃ xss, ArcsIn w.heap.size wr v xss ∧ ArcsOk n xss ∧ xss.length ≤ k ∧ Q xss
section
variable {w wr w' : World} {P B1 B2 m m' n k k' : Nat} {cv v v' : Value} {Q Q' : List (List Int) → Prop}
theorem Arcs.nil (w wr : World) (n k : Nat) (hQ : Q []) : Arcs w n k Q (.slice none 0 0) wr := ⟨[], ⟨[], World.ownsRow_nil _ _ _ _, trivial⟩, fun i hi => absurd hi (by simp), by simp, hQ⟩
theorem Arcs.stays (h : Arcs w n k Q v wr) (hs : Stays wr w') : Arcs w n k Q v w' := by
  obtain ⟨xss, h1, h2⟩ := h
  exact ⟨xss, h1.stays hs, h2⟩
theorem Arcs.isSlice (h : Arcs w n k Q v wr) : ∃ A l c, v = .slice A l c := by
  obtain ⟨xss, h1, _⟩ := h
  exact h1.reads.sl
theorem Bx.ne (h : Bx w P cv B1 B2 m n v wr) : P ≠ B1 ∧ P ≠ B2 := by have := h.b1; have := h.b2; have := h.p; omega
theorem Bx.up (h : Bx w P cv B1 B2 m n v wr) (hm : m ≤ m') : Bx w P cv B1 B2 m' n v wr := ⟨h.box, h.res, h.cur.keep hm (fun _ _ => rfl), h.grown, h.b1, h.b2, h.b12, h.p⟩
/-- A draw. -/
theorem Bx.draw (h : Bx w P cv B1 B2 m n v wr) (hc : CurR w' P cv m') (hg : wr.grownBy w' (some P)) : Bx w P cv B1 B2 m' n v w' ∧ Stays wr w' := by
  have hp := h.ne
  obtain ⟨_, k, s, _, _, h4⟩ := h.cur
  exact ⟨⟨(hg.block _ (heap_lt h.box) (fun e => hp.2 (Option.some.inj e).symm)).trans h.box, (hg.block _ (heap_lt h.res) (fun e => hp.1 (Option.some.inj e).symm)).trans h.res, hc, grownT h.grown hg, h.b1, h.b2, h.b12, h.p⟩, Stays.grown hg h4 (by decide) (by decide)⟩
/-- A part of the run that makes new blocks alone. -/
theorem Bx.below (h : Bx w P cv B1 B2 m n v wr) (hb : Below wr.heap.size wr w') : Bx w P cv B1 B2 m n v w' :=
  ⟨(hb.block _ (heap_lt h.box)).trans h.box, (hb.block _ (heap_lt h.res)).trans h.res, h.cur.below hb h.cur.lt, grownT h.grown (gr_below hb), h.b1, h.b2, h.b12, h.p⟩
/-- One cell of the problem's box is written. -/
theorem Bx.set (h : Bx w P cv B1 B2 m n v wr) (i : Nat) (u : Value) {n' : Nat} (he : (#[.int .i64 (n : Int), v] : Array Value).setIfInBounds i u = #[.int .i64 (n' : Int), v']) : Bx w P cv B1 B2 m n' v' (wr.setCell ⟨B2, i, none⟩ u) ∧ Stays wr (wr.setCell ⟨B2, i, none⟩ u) := by
  have hg := grownP wr B2 i u
  have hlt := h.cur.lt
  have hb2 := h.b2
  have hpp := h.p
  refine ⟨⟨by rw [heap_set_same h.box u, he], (hg.block _ (heap_lt h.res) (fun e => h.b12 (Option.some.inj e))).trans h.res, h.cur.keep (Nat.le_refl _) (fun b hb => hg.block b (by omega) (fun e => by have := Option.some.inj e; omega)), ?_, h.b1, h.b2, h.b12, h.p⟩, Stays.set h.box (by decide) (by decide)⟩
  exact ⟨h.grown.os, h.grown.tape, h.grown.output, by rw [size_setCell]; exact h.grown.size, fun j hj hne => (hg.block j (Nat.lt_of_lt_of_le hj h.grown.size) (fun e => by have := Option.some.inj e; omega)).trans (h.grown.block j hj hne)⟩
theorem Bx.arcs (h : Bx w P cv B1 B2 m n v wr) (u : Value) : Bx w P cv B1 B2 m n u (wr.setCell ⟨B2, 1, none⟩ u) ∧ Stays wr (wr.setCell ⟨B2, 1, none⟩ u) := h.set 1 u rfl
theorem Bx.labels (h : Bx w P cv B1 B2 m n v wr) (n' : Nat) : Bx w P cv B1 B2 m n' v (wr.setCell ⟨B2, 0, none⟩ (.int .i64 (n' : Int))) ∧ Stays wr (wr.setCell ⟨B2, 0, none⟩ (.int .i64 (n' : Int))) := h.set 0 _ rfl
theorem Bx.cells (h : Bx w P cv B1 B2 m n v wr) : wr.cell? ⟨B2, 0, none⟩ = some (.int .i64 (n : Int)) ∧ wr.cell? ⟨B2, 1, none⟩ = some v ∧ (∀ i, wr.frozen? ⟨B2, i, none⟩ = false) ∧ wr.cell? ⟨B1, 0, none⟩ = some (.int .i64 0) ∧ wr.cell? ⟨B1, 1, none⟩ = some (.slice none 0 0) ∧ ∀ i, wr.frozen? ⟨B1, i, none⟩ = false := by
  obtain ⟨a, b, c⟩ := cells2 (Lib.hid h.box)
  obtain ⟨a', b', c'⟩ := cells2 (Lib.hid h.res)
  exact ⟨a, b, c, a', b', c'⟩
/-- A pair of labels as the walk lays it. -/
theorem rowP_pair (W : World) (base : Nat) (a b : Nat) (hb : base ≤ W.heap.size) (ha : a ≤ 1000) (hb' : b ≤ 1000) : RowP base (W.alloc (.cells #[.int .i64 (a : Int), .int .i64 (b : Int)] 3)) (.slice (some ⟨W.heap.size, 0, none⟩) 2 2) [(a : Int), (b : Int)] :=
  ⟨W.heap.size, rfl, heap_alloc_new _ _, hb, by simp, fun x hx => by simp at hx; unfold I64; rcases hx with rfl | rfl <;> omega⟩
/-- A row that is appended in one's own arcs. -/
theorem Bx.app (h : Bx w P cv B1 B2 m n v wr) {vs : List Value} {xss : List (List Int)} {u : Value} {xs : List Int} (ho : wr.ownsRow w.heap.size 28 1 v xss.length vs) (hr : All2 (RowP w.heap.size wr) vs xss) (hu : RowP w.heap.size wr u xs)
    (hown : w'.ownsRow w.heap.size 28 1 v' (xss.length + 1) (vs ++ [u])) (hg : wr.grownBy w' v.ownBlock) : Bx w P cv B1 B2 m n v w' ∧ ArcsIn w.heap.size w' v' (xss ++ [xs]) := by
  have hne : ∀ (b : Nat) (cs : Array Value) (t : TypeId), wr.heap[b]? = some (.cells cs t (0, 0)) → t ≠ 28 → w'.heap[b]? = wr.heap[b]? := by
    intro b cs t hb ht
    refine hg.block b (heap_lt hb) fun e => ?_
    rcases ho.2 with ⟨e2, _⟩ | ⟨g, cap, cur, e2, _, h3, _⟩
    · rw [e2] at e; cases e
    · rw [e2] at e
      obtain rfl : b = g := Option.some.inj e
      rw [hb] at h3
      exact ht (Obj.cells.inj (Option.some.inj h3)).2.1
  have hgb : w.heap.size ≤ (v.ownBlock).getD w.heap.size := by
    cases e : v.ownBlock with
    | none => exact Nat.le_refl _
    | some g => exact (ho.lt g e).1
  have hP : ∀ b, b < w.heap.size → w'.heap[b]? = wr.heap[b]? := fun b hb => hg.block b (by have := h.grown.size; omega) fun e => by rw [← e] at hgb; simp at hgb; omega
  have hrow : ∀ {v xs}, RowP w.heap.size wr v xs → RowP w.heap.size w' v xs := fun {v xs} ⟨b, e, h1, h2⟩ => ⟨b, e, (hne b _ _ h1 (by decide)).trans h1, h2⟩
  refine ⟨⟨(hne _ _ _ h.box (by decide)).trans h.box, (hne _ _ _ h.res (by decide)).trans h.res, h.cur.keep (Nat.le_refl _) (fun b hb => hP b (by have := h.p; omega)), ?_, h.b1, h.b2, h.b12, h.p⟩, vs ++ [u], by rw [List.length_append]; exact hown, All2.app (hr.mono fun _ _ k => hrow k) ⟨hrow hu, trivial⟩⟩
  exact ⟨hg.os.trans h.grown.os, hg.tape.trans h.grown.tape, hg.output.trans h.grown.output, Nat.le_trans h.grown.size hg.size, fun j hj hn => (hP j hj).trans (h.grown.block j hj hn)⟩
end
/-! plain -/
theorem pair_ok {n : Nat} {a b : Nat} (ha : a < n) (hb : b < n) : ([(a : Int), (b : Int)] : List Int).length = 2 ∧ allB [(a : Int), (b : Int)] 0 ((n : Int) - 1) = true := by
  refine ⟨rfl, allB_iff.2 fun x hx => ?_⟩
  simp at hx
  rcases hx with rfl | rfl <;> omega
/-- All pairs lie ahead of (a, b). -/
def Ahead (a b : Nat) (xss : List (List Int)) : Prop := ∀ ys ∈ xss, ∃ c d : Nat, ys = [(c : Int), (d : Int)] ∧ (c < a ∨ c = a ∧ d < b)
theorem ahead_ok {n a b : Nat} {xss : List (List Int)} (h : ArcsOk n xss) (hq : Ahead a b xss) (ha : a < n) (hb : b < n) : ArcsOk n (xss ++ [[(a : Int), (b : Int)]]) := by
  have := ins_ok (k := xss.length) h (Nat.le_refl _) (pair_ok ha hb).1 (pair_ok ha hb).2 (fun h0 => by
    refine ⟨xss[xss.length - 1], List.getElem?_eq_getElem (by omega), ?_⟩
    obtain ⟨c, d, e, h2⟩ := hq _ (List.getElem_mem (show xss.length - 1 < xss.length by omega))
    rw [e]
    simp only [ordL]
    by_cases hc : (c : Int) = (a : Int)
    · rw [if_pos hc]
      rw [if_neg (by omega), if_pos (by omega)]
      decide
    · rw [if_neg hc, if_pos (by omega)]
      decide) (fun ys h0 => by rw [List.getElem?_eq_none (Nat.le_refl _)] at h0; cases h0)
  simpa using this
theorem Ahead.snoc {a b : Nat} {xss : List (List Int)} (h : Ahead a b xss) : Ahead a (b + 1) (xss ++ [[(a : Int), (b : Int)]]) := by
  intro ys hy
  rcases List.mem_append.1 hy with hy | hy
  · obtain ⟨c, d, e, h2⟩ := h ys hy
    exact ⟨c, d, e, by omega⟩
  · simp at hy
    exact ⟨a, b, hy, by omega⟩
theorem Ahead.skip {a b : Nat} {xss : List (List Int)} (h : Ahead a b xss) : Ahead a (b + 1) xss := fun ys hy => by
  obtain ⟨c, d, e, h2⟩ := h ys hy
  exact ⟨c, d, e, by omega⟩
theorem Ahead.row {a b : Nat} {xss : List (List Int)} (h : Ahead a b xss) : Ahead (a + 1) 0 xss := fun ys hy => by
  obtain ⟨c, d, e, h2⟩ := h ys hy
  exact ⟨c, d, e, by omega⟩
def Any (_ : List (List Int)) : Prop := True
def WalkPost (w : World) (P : Nat) (cv : Value) (m : Nat) (e : Ending) (w' : World) : Prop :=
  ∃ (n : Nat) (v : Value) (xss : List (List Int)), e = .returned (.agg #[.int .i64 (n : Int), v]) ∧ ArcsIn w.heap.size w' v xss ∧ ArcsOk n xss ∧ 1 ≤ n ∧ n ≤ 9 ∧ xss.length ≤ 100 ∧ CurR w' P cv m ∧ w.grownBy w' (some P)
theorem walk_done {w wr : World} {P B1 B2 m M n k : Nat} {cv v : Value} {Q : List (List Int) → Prop} (h : Bx w P cv B1 B2 m n v wr) (ha : Arcs w n k Q v wr) (hm : m ≤ M) (h1 : 1 ≤ n) (h9 : n ≤ 9) (hk : k ≤ 100) :
    WalkPost w P cv M (.returned (.agg #[.int .i64 (n : Int), v])) ((wr.setCell ⟨B1, 0, none⟩ (.int .i64 (n : Int))).setCell ⟨B1, 1, none⟩ v) ∧
      ((wr.setCell ⟨B1, 0, none⟩ (.int .i64 (n : Int))).setCell ⟨B1, 1, none⟩ v).cell? ⟨B1, 0, none⟩ = some (.int .i64 (n : Int)) ∧ ((wr.setCell ⟨B1, 0, none⟩ (.int .i64 (n : Int))).setCell ⟨B1, 1, none⟩ v).cell? ⟨B1, 1, none⟩ = some v := by
  have g1 := grownP wr B1 0 (.int .i64 (n : Int))
  have g2 := grownP (wr.setCell ⟨B1, 0, none⟩ (.int .i64 (n : Int))) B1 1 v
  have hg := grownT g1 g2
  have hs1 : Stays wr (wr.setCell ⟨B1, 0, none⟩ (.int .i64 (n : Int))) := Stays.set h.res (by decide) (by decide)
  have hs2 : Stays (wr.setCell ⟨B1, 0, none⟩ (.int .i64 (n : Int))) ((wr.setCell ⟨B1, 0, none⟩ (.int .i64 (n : Int))).setCell ⟨B1, 1, none⟩ v) := Stays.set (heap_set_same h.res (.int .i64 (n : Int))) (by decide) (by decide)
  obtain ⟨xss, a1, a2, a3, _⟩ := ha
  have hlt := h.cur.lt
  have hb1 := h.b1
  have hp := h.p
  have hf := heap_set_same (i := 1) (heap_set_same (i := 0) h.res (.int .i64 (n : Int))) v
  refine ⟨?_, cell_of_row _ _ 0 _ _ (0, 0) hf, cell_of_row _ _ 1 _ _ (0, 0) hf⟩
  refine ⟨n, v, xss, rfl, a1.stays (hs1.trans hs2), a2, h1, h9, by omega, h.cur.keep hm (fun b hb => hg.block b (by omega) (fun e => by have := Option.some.inj e; omega)), ?_⟩
  exact ⟨h.grown.os, h.grown.tape, h.grown.output, by rw [size_setCell, size_setCell]; exact h.grown.size, fun j hj hne => (hg.block j (Nat.lt_of_lt_of_le hj h.grown.size) (fun e => by have := Option.some.inj e; omega)).trans (h.grown.block j hj hne)⟩
def W0Rel (w : World) (P : Nat) (cv : Value) (B2 m n : Nat) (i : Value) (wr : World) : Prop := ∃ (a : Nat) (v : Value), a ≤ n ∧ i = .int .i64 (a : Int) ∧ Bx w P cv w.heap.size B2 m n v wr ∧ Arcs w n a Any v wr
def W1Rel (w : World) (P : Nat) (cv : Value) (B2 m n : Nat) (i : Value) (wr : World) : Prop := ∃ (a : Nat) (v : Value), a ≤ n ∧ i = .int .i64 (a : Int) ∧ Bx w P cv w.heap.size B2 m n v wr ∧ Arcs w n (5 * a) (Ahead a 0) v wr
def W2Rel (w : World) (P : Nat) (cv : Value) (B2 m n a : Nat) (i : Value) (wr : World) : Prop := ∃ (b : Nat) (v : Value), b ≤ n ∧ i = .int .i64 (b : Int) ∧ Bx w P cv w.heap.size B2 m n v wr ∧ Arcs w n (5 * a + b) (Ahead a b) v wr
def W3Rel (w : World) (P : Nat) (cv : Value) (B2 m n : Nat) (i : Value) (wr : World) : Prop := ∃ (k : Nat) (v : Value), k ≤ 11 ∧ i = .int .i64 (k : Int) ∧ Bx w P cv w.heap.size B2 (m + 200 - 6 * k) n v wr ∧ Arcs w n (11 - k) Any v wr
set_option maxRecDepth 100000 in
set_option maxHeartbeats 1000000 in
theorem cur_walk (P m : Nat) (cv : Value) (w : World) (h : CurR w P cv m) (hm : m ≤ 10000) :
    Calls Tryz.prog 38 #[.pointer (some ⟨P, 0, none⟩)] w (WalkPost w P cv (m + 1000)) := by
  have hP := h.lt
  have H := Lib.hid h; clear h
  obtain ⟨w0, hw0⟩ : ∃ z, z = w.alloc (.cells #[.int .i64 0, .slice none 0 0] 26) := ⟨_, rfl⟩
  have hb0 : Below w.heap.size w w0 := by rw [hw0]; exact bl_alloc (Below.refl _ _) _
  have hz0 : w0.heap.size = w.heap.size + 1 := by rw [hw0]; simp
  have HB0 := Lib.hid (show w0.heap[w.heap.size]? = some (.cells #[.int .i64 0, .slice none 0 0] 26 (0, 0)) by rw [hw0]; exact heap_alloc_new _ _)
  have HW0 := Lib.hid hw0; clear hw0
  have HC0 := Lib.hid (H.out.below hb0 hP)
  go_enter Tryz.func38, Tryz.ntmps38
  go_wp2_with fail
  rw [← HW0.out]
  refine (cur_pick P m cv 5 w0 HC0.out (by omega)).mono ?_
  rintro e w1 ⟨x, rfl, hx, hc1, hg1⟩
  have hx4 : x ≤ 4 := by omega
  have hz1 := hg1.size
  have HC1 := Lib.hid hc1; clear hc1 hx
  have hB1 := (hg1.block w.heap.size (by omega) (fun e => by have := Option.some.inj e; omega)).trans HB0.out
  obtain ⟨n, hn⟩ : ∃ n : Nat, (n : Int) = 1 + (x : Int) := ⟨1 + x, by push_cast; rfl⟩
  obtain ⟨w2, hw2⟩ : ∃ z, z = w1.alloc (.cells #[.int .i64 (n : Int), .slice none 0 0] 26) := ⟨_, rfl⟩
  have hb2 : Below w1.heap.size w1 w2 := by rw [hw2]; exact bl_alloc (Below.refl _ _) _
  have hk2 : Bx w P cv w.heap.size w1.heap.size (m + 2) n (.slice none 0 0) w2 :=
    ⟨by rw [hw2]; exact heap_alloc_new _ _, (hb2.block _ (heap_lt hB1)).trans hB1, HC1.out.below hb2 HC1.out.lt, grownT (gr_below hb0) (grownT hg1 (gr_below hb2)), Nat.le_refl _, by omega, by omega, hP⟩
  have HW2 := Lib.hid hw2; clear hw2
  have HN := Lib.hid hn
  have hn5 : 1 ≤ n ∧ n ≤ 5 := by omega
  have hBB : w.heap.size < w1.heap.size := by omega
  go_wp2_with fail
  rw [← HN.out, ← HW2.out]
  clear hn hb2 hB1 hg1 hb0 hz0 hz1 hx4
  generalize w1.heap.size = B2 at *
  refine (cur_pick P (m + 2) cv 5 w2 hk2.cur (by omega)).mono ?_
  rintro e w3 ⟨y, rfl, hy, hc3, hg3⟩
  obtain ⟨hk3, -⟩ := hk2.draw hc3 hg3
  clear hk2 hc3 hg3 HW2 HC1 HC0 HW0 HB0 HN
  by_cases y0 : y = 0
  · subst y0
    go_wp2_with fail
    refine (cur_pick P (m + 2 + 2) cv 8 w3 hk3.cur (by omega)).mono ?_
    rintro e w4 ⟨z, rfl, hz, hc4, hg4⟩
    obtain ⟨hk4, -⟩ := hk3.draw hc4 hg4
    have hz7 : z ≤ 7 := by omega
    obtain ⟨n', hn'⟩ : ∃ n' : Nat, (n' : Int) = 2 + (z : Int) := ⟨2 + z, by push_cast; rfl⟩
    have hn9 : 2 ≤ n' ∧ n' ≤ 9 := by omega
    obtain ⟨c0, c1, cf, d0, d1, df⟩ := hk4.cells
    have HN := Lib.hid hn'
    clear hn' hk3 hc4 hg4 hz hy d0 d1 df
    go_wp2_with fail
    rw [← HN.out]
    obtain ⟨hk5, -⟩ := hk4.labels n'
    generalize w4.setCell ⟨B2, 0, none⟩ (.int .i64 (n' : Int)) = w5 at *
    clear c0 c1 cf hk4 HN hz7
    refine (cur_pick P (m + 2 + 2 + 2) cv (n' : Int) w5 hk5.cur (by omega)).mono ?_
    rintro e w6 ⟨q, rfl, hq, hc6, hg6⟩
    obtain ⟨hk6, -⟩ := hk5.draw hc6 hg6
    have hq9 : q < n' := by omega
    have HA6 := Lib.hid (Arcs.nil w w6 n' 0 (Q := Any) trivial)
    obtain ⟨k0, hk0⟩ : ∃ k0 : Nat, (k0 : Int) = 1 + (q : Int) := ⟨1 + q, by push_cast; rfl⟩
    have HQ := Lib.hid hk0
    have hk0' : 1 ≤ k0 ∧ k0 ≤ n' := by omega
    have HB6 := Lib.hid hk6
    clear hk5 hc6 hg6 hq hk6
    go_wp2_with fail
    rw [← HQ.out]
    clear hq9 hk0 HQ
    go_loopw [5] (fun i wr => W0Rel w P cv B2 (m + 2 + 2 + 2 + 2) n' i wr) (fun i _ => n' - (intOf i).toNat)
    case atStart => exact ⟨0, _, Nat.zero_le _, rfl, HB6.out, HA6.out⟩
    case round =>
      clear HB6 HA6
      obtain ⟨a, v, ha, rfl, hk, har⟩ := hrel
      obtain ⟨c0, c1, cf, d0, d1, df⟩ := hk.cells
      obtain ⟨Av, lv, kv, rfl⟩ := har.isSlice
      have HK := Lib.hid hk; clear hk
      have HAR := Lib.hid har; clear har
      have hzr := HK.out.grown.size
      by_cases hlt : a < n'
      · have hmod : (a + 1) % n' < n' := Nat.mod_lt _ (by omega)
        have f0 : ¬ n' = 0 := by omega
        have f1 : IntKind.i64.wrap ((a : Int) + 1) = (a : Int) + 1 := IntWalk.i64_in _ (by omega)
        have HMOD := Lib.hid (show ((a : Int) + 1) % (n' : Int) = (((a + 1) % n' : Nat) : Int) by push_cast; rfl)
        have f2 : ((a : Int) + 1).tmod (n' : Int) = (((a + 1) % n' : Nat) : Int) := (Int.ofNat_tmod (a + 1) n').symm
        go_wp2_with fail
        refine wp_region_held_drew (S := fun w' => w'.cell? ⟨B2, 0, none⟩ = some (.int .i64 (n' : Int))) (by kernel_rfl) ?_ (fun hHeld => ?_)
        · go_keep
        refine tk 0 34 rfl rfl ?_
        try simp only [Act.put, pu]
        refine tk 2 36 rfl rfl ?_
        try simp only [Act.put, pu]
        refine tk 3 37 rfl rfl ?_
        try simp only [Act.put, pu]
        refine tk 4 38 rfl rfl ?_
        try simp only [Act.put, pu]
        refine tk 5 39 rfl rfl ?_
        try simp only [Act.put, pu]
        refine tk 6 40 rfl rfl ?_
        try simp only [Act.put, pu]
        refine tk 7 41 rfl rfl ?_
        try simp only [Act.put, pu]
        refine wpAnyH_ready (rs := [1, 8]) (by kernel_rfl) (by simp) ?_
        refine AllReadyH.cons rfl (fun K hK => ?_) (AllReadyH.cons rfl (fun K hK => ?_) AllReadyH.nil)
        · go_simp
          refine hK.out _ _ ?_ (fun hHeld => ?_)
          · go_keep
          clear hK K
          try simp only [Act.put, pu]
          refine wpAnyH_ready (rs := [8]) (by kernel_rfl) (by simp) ?_
          refine AllReadyH.cons rfl (fun K hK => ?_) AllReadyH.nil
          go_simp
          rw [HMOD.out]
          obtain ⟨w7, hw7⟩ : ∃ z, z = (wr.alloc (.cells #[.int .i64 (a : Int), .int .i64 (((a + 1) % n' : Nat) : Int)] 3)).drew := ⟨_, rfl⟩
          have hrow : RowP w.heap.size w7 (.slice (some ⟨wr.heap.size, 0, none⟩) 2 2) [(a : Int), (((a + 1) % n' : Nat) : Int)] := by rw [hw7]; exact rowP_pair wr w.heap.size a ((a + 1) % n') hzr (by omega) (by omega)
          rw [← hw7]
          have hb7 : Below wr.heap.size wr w7 := by rw [hw7]; exact (bl_alloc (Below.refl _ _) _).drew
          have HK7 := Lib.hid (HK.out.below hb7)
          have HA7 := Lib.hid (HAR.out.stays (.below hb7))
          have hz7 := hb7.size
          have HROW := Lib.hid hrow
          clear hw7 hrow hb7
          clear c0 c1 cf d0 d1 df
          obtain ⟨c0, c1, cf, d0, d1, df⟩ := HK7.out.cells
          clear d0 d1 df
          refine hK.out _ _ ?_ (fun hHeld => ?_)
          · go_keep
          clear hK K
          try simp only [Act.put, pu]
          refine wpAnyH_ready (rs := [9]) (by kernel_rfl) (by simp) ?_
          refine AllReadyH.cons rfl (fun K hK => ?_) AllReadyH.nil
          go_simp
          go_at_call 66
          obtain ⟨xss, x1, x2, x3, -⟩ := HA7.out
          refine (spec_prInsert w.heap.size n' _ _ xss [(a : Int), (((a + 1) % n' : Nat) : Int)] w7 x1 (by omega) HROW.out (pair_ok hlt hmod).1 (pair_ok hlt hmod).2 (by omega) x2 (by omega)).mono ?_
          rintro e w8 ⟨v8, yss, rfl, y1, y2, y3, hb8⟩
          have HK8 := Lib.hid (HK7.out.below hb8)
          have HA8 := Lib.hid (show Arcs w n' (a + 1) Any v8 w8 from ⟨yss, y1, y2, by omega, trivial⟩)
          clear x1 x2 x3 y1 y2 y3 hb8
          clear c0 c1 cf
          obtain ⟨c0, c1, cf, d0, d1, df⟩ := HK8.out.cells
          clear d0 d1 df
          obtain ⟨A8, l8, e8, rfl⟩ := HA8.out.isSlice
          obtain ⟨hk9, hs9⟩ := HK8.out.arcs (.slice A8 l8 e8)
          have s0 := hk9.cells.1
          have HK9 := Lib.hid hk9
          have HA9 := Lib.hid (HA8.out.stays hs9)
          clear hk9 hs9
          refine hK.out _ _ ?_ (fun hHeld => ?_)
          · go_keep
          clear hK K
          try simp only [Act.put, pu]
          refine tk 10 44 rfl rfl ?_
          try simp only [Act.put, pu]
          refine wpAnyH_ready (rs := [11]) (by kernel_rfl) (by simp) ?_
          refine AllReadyH.cons rfl (fun K hK => ?_) AllReadyH.nil
          go_simp
          refine hK.out _ _ ?_ (fun hHeld => ?_)
          · go_keep
          clear hK K
          try simp only [Act.put, pu]
          refine wpAnyH_done (by kernel_rfl) ?_ _
          go_wp2_with fail
          go_roundw
          case rel => exact ⟨a + 1, _, by omega, by go_num, HK9.out, HA9.out⟩
          case measure => simp [intOf]; omega
        · go_simp
          rw [HMOD.out]
          obtain ⟨w7, hw7⟩ : ∃ z, z = (wr.alloc (.cells #[.int .i64 (a : Int), .int .i64 (((a + 1) % n' : Nat) : Int)] 3)).drew := ⟨_, rfl⟩
          have hrow : RowP w.heap.size w7 (.slice (some ⟨wr.heap.size, 0, none⟩) 2 2) [(a : Int), (((a + 1) % n' : Nat) : Int)] := by rw [hw7]; exact rowP_pair wr w.heap.size a ((a + 1) % n') hzr (by omega) (by omega)
          rw [← hw7]
          have hb7 : Below wr.heap.size wr w7 := by rw [hw7]; exact (bl_alloc (Below.refl _ _) _).drew
          have HK7 := Lib.hid (HK.out.below hb7)
          have HA7 := Lib.hid (HAR.out.stays (.below hb7))
          have hz7 := hb7.size
          have HROW := Lib.hid hrow
          clear hw7 hrow hb7
          clear c0 c1 cf d0 d1 df
          obtain ⟨c0, c1, cf, d0, d1, df⟩ := HK7.out.cells
          clear d0 d1 df
          refine hK.out _ _ ?_ (fun hHeld => ?_)
          · go_keep
          clear hK K
          try simp only [Act.put, pu]
          refine wpAnyH_ready (rs := [1]) (by kernel_rfl) (by simp) ?_
          refine AllReadyH.cons rfl (fun K hK => ?_) AllReadyH.nil
          go_simp
          refine hK.out _ _ ?_ (fun hHeld => ?_)
          · go_keep
          clear hK K
          try simp only [Act.put, pu]
          refine wpAnyH_ready (rs := [9]) (by kernel_rfl) (by simp) ?_
          refine AllReadyH.cons rfl (fun K hK => ?_) AllReadyH.nil
          go_simp
          go_at_call 66
          obtain ⟨xss, x1, x2, x3, -⟩ := HA7.out
          refine (spec_prInsert w.heap.size n' _ _ xss [(a : Int), (((a + 1) % n' : Nat) : Int)] w7 x1 (by omega) HROW.out (pair_ok hlt hmod).1 (pair_ok hlt hmod).2 (by omega) x2 (by omega)).mono ?_
          rintro e w8 ⟨v8, yss, rfl, y1, y2, y3, hb8⟩
          have HK8 := Lib.hid (HK7.out.below hb8)
          have HA8 := Lib.hid (show Arcs w n' (a + 1) Any v8 w8 from ⟨yss, y1, y2, by omega, trivial⟩)
          clear x1 x2 x3 y1 y2 y3 hb8
          clear c0 c1 cf
          obtain ⟨c0, c1, cf, d0, d1, df⟩ := HK8.out.cells
          clear d0 d1 df
          obtain ⟨A8, l8, e8, rfl⟩ := HA8.out.isSlice
          obtain ⟨hk9, hs9⟩ := HK8.out.arcs (.slice A8 l8 e8)
          have s0 := hk9.cells.1
          have HK9 := Lib.hid hk9
          have HA9 := Lib.hid (HA8.out.stays hs9)
          clear hk9 hs9
          refine hK.out _ _ ?_ (fun hHeld => ?_)
          · go_keep
          clear hK K
          try simp only [Act.put, pu]
          refine tk 10 44 rfl rfl ?_
          try simp only [Act.put, pu]
          refine wpAnyH_ready (rs := [11]) (by kernel_rfl) (by simp) ?_
          refine AllReadyH.cons rfl (fun K hK => ?_) AllReadyH.nil
          go_simp
          refine hK.out _ _ ?_ (fun hHeld => ?_)
          · go_keep
          clear hK K
          try simp only [Act.put, pu]
          refine wpAnyH_done (by kernel_rfl) ?_ _
          go_wp2_with fail
          go_roundw
          case rel => exact ⟨a + 1, _, by omega, by go_num, HK9.out, HA9.out⟩
          case measure => simp [intOf]; omega
      · obtain rfl : a = n' := by omega
        have HKM := Lib.hid (show (k0 : Int) - 1 = ((k0 - 1 : Nat) : Int) by omega)
        go_wp2_with fail
        rw [HKM.out]
        obtain ⟨w7, hw7⟩ : ∃ z, z = wr.alloc (.cells #[.int .i64 ((k0 - 1 : Nat) : Int), .int .i64 0] 3) := ⟨_, rfl⟩
        have hrow : RowP w.heap.size w7 (.slice (some ⟨wr.heap.size, 0, none⟩) 2 2) [((k0 - 1 : Nat) : Int), ((0 : Nat) : Int)] := by rw [hw7]; exact rowP_pair wr w.heap.size (k0 - 1) 0 hzr (by omega) (by omega)
        rw [← hw7]
        have hb7 : Below wr.heap.size wr w7 := by rw [hw7]; exact bl_alloc (Below.refl _ _) _
        have HK7 := Lib.hid (HK.out.below hb7)
        have HA7 := Lib.hid (HAR.out.stays (.below hb7))
        have hz7 := hb7.size
        clear hw7 hb7 c0 c1 cf d0 d1 df
        obtain ⟨xss, x1, x2, x3, -⟩ := HA7.out
        have hpk := pair_ok (n := a) (a := k0 - 1) (b := 0) (by omega) (by omega)
        refine (spec_prInsert w.heap.size a _ _ xss [((k0 - 1 : Nat) : Int), ((0 : Nat) : Int)] w7 x1 (by omega) hrow hpk.1 hpk.2 (by omega) x2 (by omega)).mono ?_
        rintro e w8 ⟨v8, yss, rfl, y1, y2, y3, hb8⟩
        have hk8 := HK7.out.below hb8
        have ha8 : Arcs w a 20 Any v8 w8 := ⟨yss, y1, y2, by omega, trivial⟩
        obtain ⟨A8, l8, e8, rfl⟩ := ha8.isSlice
        obtain ⟨c0, c1, cf, d0, d1, df⟩ := hk8.cells
        obtain ⟨hk9, hs9⟩ := hk8.arcs (.slice A8 l8 e8)
        have FIN := Lib.hid (walk_done hk9 (ha8.stays hs9) (show m + 2 + 2 + 2 + 2 ≤ m + 1000 by omega) (by omega) (by omega) (by omega))
        have hr := (hk9.cells).2.2.2
        clear hk9 hs9 hk8 ha8 x1 x2 x3 y1 y2 y3 hb8 HK7 HA7 hrow
        go_wp2_with fail
        refine bodyPost_ret (v := .agg #[.int .i64 (a : Int), .slice A8 l8 e8]) (by simp [results, Tryz.results38, go_sem, FIN.out.2.1, FIN.out.2.2]) rfl FIN.out.1
  · by_cases y1 : y = 1
    · subst y1
      have HB3 := Lib.hid hk3
      have HA3 := Lib.hid (Arcs.nil w w3 n (5 * 0) (Q := Ahead 0 0) (fun ys hy => by cases hy))
      clear hk3 y0 hy
      go_wp2_with fail
      go_loopw [6] (fun i wr => W1Rel w P cv B2 (m + 2 + 2) n i wr) (fun i _ => n - (intOf i).toNat)
      case atStart => exact ⟨0, _, Nat.zero_le _, rfl, HB3.out, HA3.out⟩
      case round =>
        clear HB3 HA3
        obtain ⟨a, v, ha, rfl, hk, har⟩ := hrel
        obtain ⟨c0, c1, cf, d0, d1, df⟩ := hk.cells
        obtain ⟨Av, lv, kv, rfl⟩ := har.isSlice
        have HK := Lib.hid hk; clear hk
        have HAR := Lib.hid har; clear har
        by_cases hlt : a < n
        · go_wp2_with fail
          have HST := Lib.hid (show W2Rel w P cv B2 (m + 2 + 2) n a (.int .i64 0) wr from ⟨0, _, Nat.zero_le _, rfl, HK.out, HAR.out⟩)
          clear c0 c1 cf d0 d1 df HK HAR
          go_loopw [7] (fun i wr => W2Rel w P cv B2 (m + 2 + 2) n a i wr) (fun i _ => n - (intOf i).toNat)
          case atStart => exact HST.out
          case round =>
            clear HST
            obtain ⟨b, v, hb, rfl, hk, har⟩ := hrel
            obtain ⟨c0, c1, cf, d0, d1, df⟩ := hk.cells
            obtain ⟨Av, lv, kv, rfl⟩ := har.isSlice
            have HK := Lib.hid hk; clear hk
            have HAR := Lib.hid har; clear har
            have hzr := HK.out.grown.size
            by_cases hlt2 : b < n
            · by_cases hab : a = b
              · have t1 : ((a : Int) != (b : Int)) = false := by simp [hab]
                go_wp2_with fail
                go_roundw
                case rel => exact ⟨b + 1, _, by omega, by go_num, HK.out, by obtain ⟨xss, h1, h2, h3, h4⟩ := HAR.out; exact ⟨xss, h1, h2, by omega, h4.skip⟩⟩
                case measure => simp [intOf]; omega
              · have t1 : ((a : Int) != (b : Int)) = true := by simp; omega
                obtain ⟨w7, hw7⟩ : ∃ z, z = wr.alloc (.cells #[.int .i64 (a : Int), .int .i64 (b : Int)] 3) := ⟨_, rfl⟩
                have hrow : RowP w.heap.size w7 (.slice (some ⟨wr.heap.size, 0, none⟩) 2 2) [(a : Int), (b : Int)] := by rw [hw7]; exact rowP_pair wr w.heap.size a b hzr (by omega) (by omega)
                have hb7 : Below wr.heap.size wr w7 := by rw [hw7]; exact bl_alloc (Below.refl _ _) _
                have HK7 := Lib.hid (HK.out.below hb7)
                obtain ⟨xss, ⟨vs, x0, x1⟩, x2, x3, x4⟩ := HAR.out.stays (.below hb7)
                have hz7 := hb7.size
                have HX0 := Lib.hid x0
                have HX1 := Lib.hid x1
                have HROW := Lib.hid hrow
                have HXO := Lib.hid (ahead_ok x2 x4 hlt hlt2)
                have HX4 := Lib.hid x4.snoc
                have HW7 := Lib.hid hw7
                have HZ7 := Lib.hid (show w7.heap.size = wr.heap.size + 1 by rw [hw7]; simp)
                clear hw7 hb7 x0 x1 x2 x4 hrow hab
                go_wp2_with (
                  at_builtin; rw [← HW7.out]; refine wpList_append1 w7 rfl (.tmp 71) (.tmp 75) 24 rfl w.heap.size 28 _ 24 Tryz.underlying24 sliceInfo rfl _ _ _ rfl _ rfl (by rw [HZ7.out]; rfl) HX0.out (by unfold maxLen; omega) (by omega) (by omega) ?_; intro v8 w8 hown8 hbl8 hgr8 hlt8 hob8
                  have hba := HK7.out.app HX0.out HX1.out HROW.out hown8 hgr8
                  obtain ⟨g8, e8, rfl, -⟩ := own_some hown8 (by omega)
                  obtain ⟨c0, c1, cf, -, -, -⟩ := hba.1.cells
                  have HBA := Lib.hid hba
                  clear hba hown8 hbl8 hgr8 hob8)
                obtain ⟨hk9, hs9⟩ := HBA.out.1.arcs (.slice (some ⟨g8, 0, none⟩) (xss.length + 1) e8)
                go_roundw
                case rel => exact ⟨b + 1, _, by omega, by go_num, hk9, ⟨_, HBA.out.2.stays hs9, HXO.out, by rw [List.length_append]; simp; omega, HX4.out⟩⟩
                case measure => simp [intOf]; omega
            · obtain rfl : b = n := by omega
              go_wp2_with fail
              go_roundw
              case rel => exact ⟨a + 1, _, by omega, by go_num, HK.out, by obtain ⟨xss, h1, h2, h3, h4⟩ := HAR.out; exact ⟨xss, h1, h2, by omega, h4.row⟩⟩
              case measure => simp [intOf]; omega
        · obtain rfl : a = n := by omega
          have FIN := Lib.hid (walk_done HK.out HAR.out (show m + 2 + 2 ≤ m + 1000 by omega) (by omega) (by omega) (by omega))
          go_wp2_with fail
          refine bodyPost_ret (v := .agg #[.int .i64 (a : Int), .slice Av lv kv]) (by simp [results, Tryz.results38, go_sem, FIN.out.2.1, FIN.out.2.2]) rfl FIN.out.1
    · have hy1 : ¬ y = 1 := y1
      have e0 : ((y : Int) == 0) = false := by simpa using y0
      have e1 : ((y : Int) == 1) = false := by rw [beq_eq_false_iff_ne]; omega
      obtain ⟨c0, c1, cf, d0, d1, df⟩ := hk3.cells
      have HK3 := Lib.hid hk3
      clear hk3 y0 y1 hy1 hy
      go_wp2_with fail
      clear c0 c1 cf d0 d1 df
      refine (cur_pick P (m + 2 + 2) cv (2 * (n : Int) + 2) w3 HK3.out.cur (by omega)).mono ?_
      rintro e w4 ⟨q, rfl, hq, hc4, hg4⟩
      have hq11 : q ≤ 11 := by omega
      obtain ⟨hk4, -⟩ := HK3.out.draw hc4 hg4
      have HST := Lib.hid (show W3Rel w P cv B2 m n (.int .i64 (q : Int)) w4 from ⟨q, _, hq11, rfl, hk4.up (by omega), Arcs.nil w w4 n (11 - q) trivial⟩)
      clear hq hc4 hg4 hk4 HK3 e0 e1
      go_wp2_with fail
      go_loopw [8] (fun i wr => W3Rel w P cv B2 m n i wr) (fun i _ => (intOf i).toNat)
      case atStart => exact HST.out
      case round =>
        clear HST
        obtain ⟨k, v, hk11, rfl, hk, har⟩ := hrel
        obtain ⟨c0, c1, cf, d0, d1, df⟩ := hk.cells
        obtain ⟨Av, lv, kv, rfl⟩ := har.isSlice
        have HK := Lib.hid hk; clear hk
        have HAR := Lib.hid har; clear har
        have hzr := HK.out.grown.size
        by_cases hk0 : k = 0
        · have FIN := Lib.hid (walk_done HK.out HAR.out (show m + 200 - 6 * k ≤ m + 1000 by omega) (by omega) (by omega) (by omega))
          subst hk0
          go_wp2_with fail
          refine bodyPost_ret (v := .agg #[.int .i64 (n : Int), .slice Av lv kv]) (by simp [results, Tryz.results38, go_sem, FIN.out.2.1, FIN.out.2.2]) rfl FIN.out.1
        · have hk1 : (0 : Int) < (k : Int) := by omega
          clear c1 cf d0 d1 df
          go_wp2_with fail
          refine wp_region_held_drew (S := fun w' => w'.cell? ⟨B2, 0, none⟩ = some (.int .i64 (n : Int))) (by kernel_rfl) ?_ (fun hHeld => ?_)
          · go_keep
          refine tk 0 89 rfl rfl ?_
          try simp only [Act.put, pu]
          refine tk 1 90 rfl rfl ?_
          try simp only [Act.put, pu]
          refine tk 2 91 rfl rfl ?_
          try simp only [Act.put, pu]
          refine tk 4 93 rfl rfl ?_
          try simp only [Act.put, pu]
          refine tk 5 94 rfl rfl ?_
          try simp only [Act.put, pu]
          refine tk 6 95 rfl rfl ?_
          try simp only [Act.put, pu]
          refine tr 3 rfl (by kernel_rfl) (fun K hK => ?_)
          go_simp
          go_at_call 35
          have hd4 : Below wr.heap.size wr wr.drew := (Below.refl _ _).drew
          refine (cur_pick P (m + 200 - 6 * k) cv (n : Int) wr.drew (HK.out.below hd4).cur (by omega)).mono ?_
          rintro e w5 ⟨a, rfl, ha, hc5, hg5⟩
          have hal : a < n := by omega
          obtain ⟨hk5, hs5⟩ := (HK.out.below hd4).draw hc5 hg5
          have HA5 := Lib.hid ((HAR.out.stays (.below hd4)).stays hs5)
          have HK5 := Lib.hid hk5
          replace c0 := hk5.cells.1
          clear hd4 hk5 hs5 hc5 hg5 ha
          refine hK.out _ _ ?_ (fun hHeld => ?_)
          · go_keep
          clear hK K
          try simp only [Act.put, pu]
          refine tr 7 rfl (by kernel_rfl) (fun K hK => ?_)
          go_simp
          go_at_call 35
          refine (cur_pick P (m + 200 - 6 * k + 2) cv (n : Int) w5 HK5.out.cur (by omega)).mono ?_
          rintro e w6 ⟨b, rfl, hb, hc6, hg6⟩
          have hbl : b < n := by omega
          obtain ⟨hk6, hs6⟩ := HK5.out.draw hc6 hg6
          have HA6 := Lib.hid (HA5.out.stays hs6)
          have HK6 := Lib.hid hk6
          replace c0 := hk6.cells.1
          clear hk6 hs6 hc6 hg6 hb
          refine hK.out _ _ ?_ (fun hHeld => ?_)
          · go_keep
          clear hK K
          try simp only [Act.put, pu]
          refine tk 8 9 rfl rfl ?_
          try simp only [Act.put, pu]
          refine tk 9 10 rfl rfl ?_
          try simp only [Act.put, pu]
          refine wpAnyH_done (by kernel_rfl) ?_ _
          clear c0 hHeld
          by_cases hab : a = b
          · have t1 : ((a : Int) != (b : Int)) = false := by simp [hab]
            have t2 : ((a : Int) == (b : Int)) = true := by simp [hab]
            clear hab
            go_wp2_with fail
            refine (cur_one P (m + 200 - 6 * k + 2 + 2) cv 4 w6 HK6.out.cur (by omega)).mono ?_
            rintro e w9 ⟨ob, rfl, hc9, hg9⟩
            obtain ⟨hk9, hs9⟩ := HK6.out.draw hc9 hg9
            have HA9 := Lib.hid (HA6.out.stays hs9)
            have HK9 := Lib.hid hk9
            clear hc9 hg9 hk9 hs9
            cases ob with
            | false =>
              have HST := Lib.hid (show W3Rel w P cv B2 m n (.int .i64 ((k : Int) - 1)) w9 from ⟨k - 1, _, by omega, by go_num, HK9.out.up (by omega), by obtain ⟨yss, y1, y2, y3, y4⟩ := HA9.out; exact ⟨yss, y1, y2, by omega, y4⟩⟩)
              go_wp2_with fail
              go_roundw
              case rel => exact HST.out
              case measure => simp [intOf]; omega
            | true =>
              obtain ⟨c0, c1, cf, d0, d1, df⟩ := HK9.out.cells
              have hz6 := HK9.out.grown.size
              go_wp2_with fail
              obtain ⟨w7, hw7⟩ : ∃ z, z = w9.alloc (.cells #[.int .i64 (a : Int), .int .i64 (b : Int)] 3) := ⟨_, rfl⟩
              have hrow : RowP w.heap.size w7 (.slice (some ⟨w9.heap.size, 0, none⟩) 2 2) [(a : Int), (b : Int)] := by rw [hw7]; exact rowP_pair w9 w.heap.size a b hz6 (by omega) (by omega)
              rw [← hw7]
              have hb7 : Below w9.heap.size w9 w7 := by rw [hw7]; exact bl_alloc (Below.refl _ _) _
              have HK7 := Lib.hid (HK9.out.below hb7)
              have HA7 := Lib.hid (HA9.out.stays (.below hb7))
              have hz7 := hb7.size
              clear hw7 hb7 c0 c1 cf d0 d1 df
              obtain ⟨xss, x1, x2, x3, -⟩ := HA7.out
              have hpk := pair_ok hal hbl
              refine (spec_prInsert w.heap.size n _ _ xss [(a : Int), (b : Int)] w7 x1 (by omega) hrow hpk.1 hpk.2 (by omega) x2 (by omega)).mono ?_
              rintro e w8 ⟨v8, yss, rfl, y1, y2, y3, hb8⟩
              have hk8 := HK7.out.below hb8
              have ha8 : Arcs w n (11 - k + 1) Any v8 w8 := ⟨yss, y1, y2, by omega, trivial⟩
              obtain ⟨A8, l8, e8, rfl⟩ := ha8.isSlice
              obtain ⟨c0, c1, cf, d0, d1, df⟩ := hk8.cells
              obtain ⟨hk9, hs9⟩ := hk8.arcs (.slice A8 l8 e8)
              have HST := Lib.hid (show W3Rel w P cv B2 m n (.int .i64 ((k : Int) - 1)) (w8.setCell ⟨B2, 1, none⟩ (.slice A8 l8 e8)) from ⟨k - 1, _, by omega, by go_num, hk9.up (by omega), by obtain ⟨yss, y1, y2, y3, y4⟩ := ha8.stays hs9; exact ⟨yss, y1, y2, by omega, y4⟩⟩)
              clear hk9 hs9 hk8 ha8 x1 x2 x3 y1 y2 y3 hb8 HK7 HA7 hrow
              go_wp2_with fail
              go_roundw
              case rel => exact HST.out
              case measure => simp [intOf]; omega
          · have t1 : ((a : Int) != (b : Int)) = true := by simp; omega
            have t2 : ((a : Int) == (b : Int)) = false := by simp; omega
            clear hab
            obtain ⟨c0, c1, cf, d0, d1, df⟩ := HK6.out.cells
            have hz6 := HK6.out.grown.size
            go_wp2_with fail
            obtain ⟨w7, hw7⟩ : ∃ z, z = w6.alloc (.cells #[.int .i64 (a : Int), .int .i64 (b : Int)] 3) := ⟨_, rfl⟩
            have hrow : RowP w.heap.size w7 (.slice (some ⟨w6.heap.size, 0, none⟩) 2 2) [(a : Int), (b : Int)] := by rw [hw7]; exact rowP_pair w6 w.heap.size a b hz6 (by omega) (by omega)
            rw [← hw7]
            have hb7 : Below w6.heap.size w6 w7 := by rw [hw7]; exact bl_alloc (Below.refl _ _) _
            have HK7 := Lib.hid (HK6.out.below hb7)
            have HA7 := Lib.hid (HA6.out.stays (.below hb7))
            have hz7 := hb7.size
            clear hw7 hb7 c0 c1 cf d0 d1 df
            obtain ⟨xss, x1, x2, x3, -⟩ := HA7.out
            have hpk := pair_ok hal hbl
            refine (spec_prInsert w.heap.size n _ _ xss [(a : Int), (b : Int)] w7 x1 (by omega) hrow hpk.1 hpk.2 (by omega) x2 (by omega)).mono ?_
            rintro e w8 ⟨v8, yss, rfl, y1, y2, y3, hb8⟩
            have hk8 := HK7.out.below hb8
            have ha8 : Arcs w n (11 - k + 1) Any v8 w8 := ⟨yss, y1, y2, by omega, trivial⟩
            obtain ⟨A8, l8, e8, rfl⟩ := ha8.isSlice
            obtain ⟨c0, c1, cf, d0, d1, df⟩ := hk8.cells
            obtain ⟨hk9, hs9⟩ := hk8.arcs (.slice A8 l8 e8)
            have HST := Lib.hid (show W3Rel w P cv B2 m n (.int .i64 ((k : Int) - 1)) (w8.setCell ⟨B2, 1, none⟩ (.slice A8 l8 e8)) from ⟨k - 1, _, by omega, by go_num, hk9.up (by omega), by obtain ⟨yss, y1, y2, y3, y4⟩ := ha8.stays hs9; exact ⟨yss, y1, y2, by omega, y4⟩⟩)
            clear hk9 hs9 hk8 ha8 x1 x2 x3 y1 y2 y3 hb8 HK7 HA7 hrow
            go_wp2_with fail
            go_roundw
            case rel => exact HST.out
            case measure => simp [intOf]; omega
end
section
open Go.RowKit
set_option linter.unusedVariables false
set_option linter.unusedSimpArgs false
section
variable {P : Program} {ops : Array Oper} {Q : Exit → Act → World → Prop} {md : Region.Mode} {S : World → Prop} {st : Nat}
/-- In whatever order the rest comes up; S holds as long as number st has not come up. -/
def wpTill (P : Program) (md : Region.Mode) (ops : Array Oper) (Q : Exit → Act → World → Prop) (S : World → Prop) (st : Nat) : Nat → Array Bool → Act → World → Prop
  | 0, l, a, w => Region.ready md ops l = [] ∧ Q .normal a w
  | n + 1, l, a, w => (Region.ready md ops l = [] → Q .normal a w) ∧ ∀ i ∈ Region.ready md ops l, wpOp P ops Q i (fun b v => ((l.setIfInBounds i true).getD st true = false → S v) ∧ wpTill P md ops Q S st n (l.setIfInBounds i true) b v) a w
theorem wpTill.any : ∀ (n : Nat) (l : Array Bool) (a : Act) (w : World), wpTill P md ops Q S st n l a w → wpAny P md ops Q n l a w
  | 0, _, _, _, h => h
  | n + 1, _, _, _, h => ⟨h.1, fun i hi => wpOp_mono (fun b v h' => wpTill.any n _ b v h'.2) (h.2 i hi)⟩
theorem wpTill_first {i : Nat} {oi : Oper} {v : Value} (hi : ops[i]? = some oi) (hsel : ∀ (j : Nat) (o : Oper) cs b, ops[j]? = some o → o.op ≠ .select cs b)
    (hQ : ∀ c a w, Q (.panic c) (a.put oi.dst v) w → Q (.panic c) a w) (hne : st ≠ i) (hst : ∀ o, ops[st]? = some o → ∃ e ∈ o.after, Region.binds md e = true ∧ e.on = i) :
    ∀ (n : Nat) (l : Array Bool) (a : Act) (w : World),
      (∀ j oj, ops[j]? = some oj → j ≠ i → l.getD j true = false → (∀ e ∈ oj.after, Region.binds md e = true → e.on ≠ i) → oi.apart ops oj = true) →
      i ∈ Region.ready md ops l → l.getD st true = false → YieldsIf P ops S oi v a → S w →
      wpTill P md ops Q S st n (l.setIfInBounds i true) (a.put oi.dst v) w → wpTill P md ops Q S st (n + 1) l a w := by
  intro n
  induction n with
  | zero =>
    intro l a w _ hr _ hy hS H
    refine ⟨fun h => (by rw [h] at hr; cases hr), fun j hj => ?_⟩
    by_cases hji : j = i
    · subst hji; exact hy.wpOp hi hS ⟨fun _ => hS, H⟩
    · have := ready_mono hj hji
      rw [H.1] at this
      cases this
  | succ n ih =>
    intro l a w hfree hr hl hy hS H
    refine ⟨fun h => (by rw [h] at hr; cases hr), fun j hj => ?_⟩
    by_cases hji : j = i
    · subst hji; exact hy.wpOp hi hS ⟨fun _ => hS, H⟩
    · have h1 := H.2 j (ready_mono hj hji)
      obtain ⟨hjun, oj, hoj, hall⟩ := mem_ready.1 hj
      have hiun : l.getD i true = false := (mem_ready.1 hr).1
      have hnot : ∀ e ∈ oj.after, Region.binds md e = true → e.on ≠ i := fun e he hb heq => by
        have h1 := hall e he hb
        have h0 := hiun
        rw [heq] at h1
        rcases Nat.lt_or_ge i l.size with h' | h'
        · simp [h'] at h0 h1; rw [h0] at h1; cases h1
        · simp [Array.getElem?_eq_none h'] at h1
      have hjst : j ≠ st := fun e => by
        subst e
        obtain ⟨x, hx, hb, he⟩ := hst oj hoj
        exact hnot x hx hb he
      have h2 := wpOp_putIf hoj (hfree j oj hoj hji hjun hnot) (fun cs b => hsel i oi cs b hi) (fun cs b => hsel j oj cs b hoj) hQ hy h1
      have hfree' : ∀ k ok, ops[k]? = some ok → k ≠ i → (l.setIfInBounds j true).getD k true = false →
          (∀ e ∈ ok.after, Region.binds md e = true → e.on ≠ i) → oi.apart ops ok = true := fun k ok hk hki hun hno => by
        refine hfree k ok hk hki ?_ hno
        by_cases hjk : j = k
        · subst hjk; exact hjun
        · rw [getD_set_ne true hjk] at hun; exact hun
      have hl' : (l.setIfInBounds j true).getD st true = false := by rw [getD_set_ne true hjst]; exact hl
      have hl2 : ((l.setIfInBounds i true).setIfInBounds j true).getD st true = false := by rw [getD_set_ne true hjst, getD_set_ne true (Ne.symm hne)]; exact hl
      refine wpOp_mono (fun a' w' h3 => ⟨fun _ => h3.2.1 hl2, ih (l.setIfInBounds j true) a' w' hfree' (ready_mono hr (Ne.symm hji)) hl' h3.1 (h3.2.1 hl2) ?_⟩) h2
      rw [Array.setIfInBounds_comm _ _ hji]
      exact h3.2.2
theorem wpTill_free {i : Nat} {oi : Oper} {v : Value} (hi : ops[i]? = some oi) (hsel : ∀ (j : Nat) (o : Oper) cs b, ops[j]? = some o → o.op ≠ .select cs b)
    (hQ : ∀ c a w, Q (.panic c) (a.put oi.dst v) w → Q (.panic c) a w) (hne : st ≠ i) :
    ∀ (n : Nat) (l : Array Bool) (a : Act) (w : World),
      (∀ j oj, ops[j]? = some oj → j ≠ i → l.getD j true = false → (∀ e ∈ oj.after, Region.binds md e = true → e.on ≠ i) → oi.apart ops oj = true) →
      i ∈ Region.ready md ops l → YieldsIf P ops (fun _ => True) oi v a → (l.getD st true = false → S w) →
      wpTill P md ops Q S st n (l.setIfInBounds i true) (a.put oi.dst v) w → wpTill P md ops Q S st (n + 1) l a w := by
  intro n
  induction n with
  | zero =>
    intro l a w _ hr hy hS H
    refine ⟨fun h => (by rw [h] at hr; cases hr), fun j hj => ?_⟩
    by_cases hji : j = i
    · subst hji; exact hy.wpOp hi trivial ⟨fun h => hS (by rwa [getD_set_ne true (Ne.symm hne)] at h), H⟩
    · have := ready_mono hj hji
      rw [H.1] at this
      cases this
  | succ n ih =>
    intro l a w hfree hr hy hS H
    refine ⟨fun h => (by rw [h] at hr; cases hr), fun j hj => ?_⟩
    by_cases hji : j = i
    · subst hji; exact hy.wpOp hi trivial ⟨fun h => hS (by rwa [getD_set_ne true (Ne.symm hne)] at h), H⟩
    · have h1 := H.2 j (ready_mono hj hji)
      obtain ⟨hjun, oj, hoj, hall⟩ := mem_ready.1 hj
      have hiun : l.getD i true = false := (mem_ready.1 hr).1
      have hnot : ∀ e ∈ oj.after, Region.binds md e = true → e.on ≠ i := fun e he hb heq => by
        have h1 := hall e he hb
        have h0 := hiun
        rw [heq] at h1
        rcases Nat.lt_or_ge i l.size with h' | h'
        · simp [h'] at h0 h1; rw [h0] at h1; cases h1
        · simp [Array.getElem?_eq_none h'] at h1
      have h2 := wpOp_putIf hoj (hfree j oj hoj hji hjun hnot) (fun cs b => hsel i oi cs b hi) (fun cs b => hsel j oj cs b hoj) hQ hy h1
      have hfree' : ∀ k ok, ops[k]? = some ok → k ≠ i → (l.setIfInBounds j true).getD k true = false →
          (∀ e ∈ ok.after, Region.binds md e = true → e.on ≠ i) → oi.apart ops ok = true := fun k ok hk hki hun hno => by
        refine hfree k ok hk hki ?_ hno
        by_cases hjk : j = k
        · subst hjk; exact hjun
        · rw [getD_set_ne true hjk] at hun; exact hun
      have hbit : (l.setIfInBounds j true).getD st true = false → ((l.setIfInBounds i true).setIfInBounds j true).getD st true = false := fun h => by
        rw [Array.setIfInBounds_comm _ _ (Ne.symm hji), getD_set_ne true (Ne.symm hne)]
        exact h
      refine wpOp_mono (fun a' w' h3 => ⟨fun h => h3.2.1 (hbit h), ih (l.setIfInBounds j true) a' w' hfree' (ready_mono hr (Ne.symm hji)) h3.1 (fun h => h3.2.1 (hbit h)) ?_⟩) h2
      rw [Array.setIfInBounds_comm _ _ hji]
      exact h3.2.2
theorem wpTill_done {l : Array Bool} {a : Act} {w : World} (hr : Region.ready md ops l = []) (h : Q .normal a w) : ∀ n, wpTill P md ops Q S st n l a w
  | 0 => ⟨hr, h⟩
  | _ + 1 => ⟨fun _ => h, by rw [hr]; simp⟩
/-- The store waits for number i. -/
def waits (md : Region.Mode) (ops : Array Oper) (st i : Nat) : Bool := match ops[st]? with | some o => o.after.any fun e => Region.binds md e && e.on == i | none => true
theorem waits_spec {i : Nat} (h : waits md ops st i = true) : ∀ o, ops[st]? = some o → ∃ e ∈ o.after, Region.binds md e = true ∧ e.on = i := fun o ho => by
  unfold waits at h
  rw [ho] at h
  simp only [Array.any_eq_true, Bool.and_eq_true, beq_iff_eq] at h
  obtain ⟨k, hk, h1, h2⟩ := h
  exact ⟨_, Array.getElem_mem hk, h1, h2⟩
theorem uk {fuel : Nat} {listed : Array Bool} {a : Act} {w : World} (i d : Nat) {oi : Oper} {v : Value}
    (hi : ops.toList[i]? = some oi) (hd : oi.dst = some d)
    (h : wpTill P md ops Q S st fuel (listed.setIfInBounds i true) (a.put (some d) v) w)
    (hy : ∀ w, S w → (execOp a.eval oi).run P w = .ok (.value v) w := by intro w hSw; (try dsimp only at hSw); go_simp <;> with_reducible rfl)
    (hs : Region.noSelect ops = true := by kernel_rfl) (hf : Region.free md ops listed i = true := by kernel_rfl) (hr : (Region.ready md ops listed).contains i = true := by kernel_rfl)
    (hwt : waits md ops st i = true := by kernel_rfl) (hsi : (st == i) = false := by kernel_rfl) (hls : listed.getD st true = false := by kernel_rfl)
    (hQ : ∀ c a w, Q (.panic c) (a.put (some d) v) w → Q (.panic c) a w := by exact fun _ _ _ h => h) (hw : Region.wanted oi (yielded ops a.tmps) = true := by rfl) (hS : S w := by assumption) : wpTill P md ops Q S st (fuel + 1) listed a w := by
  rw [← hd] at hQ h
  have hi' : ops[i]? = some oi := by rw [← Array.getElem?_toList]; exact hi
  exact wpTill_first hi' (Region.noSelect_spec hs) hQ (by simpa using hsi) (waits_spec hwt) fuel listed a w (Region.free_spec hi' hf) (by simpa using hr) hls (Or.inl ⟨hw, hy⟩) hS h
theorem till_over {l : Array Bool} {w : World} (h : l.getD st true = true) : l.getD st true = false → S w := fun h' => by rw [h] at h'; cases h'
theorem uf {fuel : Nat} {listed : Array Bool} {a : Act} {w : World} (i d : Nat) {oi : Oper} {v : Value}
    (hi : ops.toList[i]? = some oi) (hd : oi.dst = some d)
    (h : wpTill P md ops Q S st fuel (listed.setIfInBounds i true) (a.put (some d) v) w)
    (hy : ∀ w, (execOp a.eval oi).run P w = .ok (.value v) w := by intro w; go_simp <;> with_reducible rfl)
    (hs : Region.noSelect ops = true := by kernel_rfl) (hf : Region.free md ops listed i = true := by kernel_rfl) (hr : (Region.ready md ops listed).contains i = true := by kernel_rfl)
    (hsi : (st == i) = false := by kernel_rfl)
    (hQ : ∀ c a w, Q (.panic c) (a.put (some d) v) w → Q (.panic c) a w := by exact fun _ _ _ h => h) (hw : Region.wanted oi (yielded ops a.tmps) = true := by rfl)
    (hS : listed.getD st true = false → S w := by first | (intro _; assumption) | exact till_over (by kernel_rfl)) : wpTill P md ops Q S st (fuel + 1) listed a w := by
  rw [← hd] at hQ h
  have hi' : ops[i]? = some oi := by rw [← Array.getElem?_toList]; exact hi
  exact wpTill_free hi' (Region.noSelect_spec hs) hQ (by simpa using hsi) fuel listed a w (Region.free_spec hi' hf) (by simpa using hr) (Or.inl ⟨hw, fun w _ => hy w⟩) hS h
theorem till_no {b : Bool} {p : Prop} (h' : b = false) (h : b = true) : p := by rw [h] at h'; cases h'
/-- The way on behind an operation that is carried out. -/
def TillK (P : Program) (md : Region.Mode) (ops : Array Oper) (Q : Exit → Act → World → Prop) (S : World → Prop) (st fuel : Nat) (listed : Array Bool) (i : Nat) (K' : Act → World → Prop) : Prop :=
  Shut (∀ a w, ((listed.setIfInBounds i true).getD st true = false → S w) → wpTill P md ops Q S st fuel (listed.setIfInBounds i true) a w → K' a w)
theorem ur {fuel : Nat} {listed : Array Bool} {a : Act} {w : World} (i : Nat) {o : Oper}
    (hi : ops.toList[i]? = some o) (hr : Region.ready md ops listed = [i])
    (h : ∀ K' : Act → World → Prop, TillK P md ops Q S st fuel listed i K' → if Region.wanted o (yielded ops a.tmps) = true then Oper.wp P o a w K' Q else K' (a.put o.dst undef) w) :
    wpTill P md ops Q S st (fuel + 1) listed a w := by
  refine ⟨fun h0 => (by rw [hr] at h0; cases h0), fun j hj => ?_⟩
  rw [hr] at hj
  obtain rfl := List.mem_singleton.1 hj
  exact wpOp_step (by rw [← Array.getElem?_toList]; exact hi) fun K' hK => h K' (fun a w hS hW => hK a w ⟨hS, hW⟩)
theorem ur2 {fuel : Nat} {listed : Array Bool} {a : Act} {w : World} (i j : Nat) {o o' : Oper}
    (hi : ops.toList[i]? = some o) (hj : ops.toList[j]? = some o') (hr : Region.ready md ops listed = [i, j])
    (h : ∀ K' : Act → World → Prop, TillK P md ops Q S st fuel listed i K' → if Region.wanted o (yielded ops a.tmps) = true then Oper.wp P o a w K' Q else K' (a.put o.dst undef) w)
    (h' : ∀ K' : Act → World → Prop, TillK P md ops Q S st fuel listed j K' → if Region.wanted o' (yielded ops a.tmps) = true then Oper.wp P o' a w K' Q else K' (a.put o'.dst undef) w) :
    wpTill P md ops Q S st (fuel + 1) listed a w := by
  refine ⟨fun h0 => (by rw [hr] at h0; cases h0), fun k hk => ?_⟩
  rw [hr] at hk
  rcases List.mem_cons.1 hk with rfl | hk
  · exact wpOp_step (by rw [← Array.getElem?_toList]; exact hi) fun K' hK => h K' (fun a w hS hW => hK a w ⟨hS, hW⟩)
  · obtain rfl := List.mem_singleton.1 hk
    exact wpOp_step (by rw [← Array.getElem?_toList]; exact hj) fun K' hK => h' K' (fun a w hS hW => hK a w ⟨hS, hW⟩)
theorem TillK.out {fuel i : Nat} {listed : Array Bool} {K' : Act → World → Prop} (h : TillK P md ops Q S st fuel listed i K') {a : Act} {w : World} (hS : (listed.setIfInBounds i true).getD st true = false → S w) (hW : wpTill P md ops Q S st fuel (listed.setIfInBounds i true) a w) : K' a w := h a w hS hW
theorem till_region {id : Nat} {a : Act} {w : World} (hm : P.follows .mixedOrders = true) (hS : S w.drew)
    (h : S w.drew → wpTill P .any ops Q S st ops.size (Array.replicate ops.size false) a w.drew) : (Code.region id ops true).wp P Q a w :=
  wp_region_any hm (wpTill.any _ _ _ _ (h hS))
end
end
section
open Go.RowKit
set_option linter.unusedVariables false
set_option linter.unusedSimpArgs false
def AArcs (w : World) (k : Nat) (v : Value) (wr : World) : Prop := ∃ xss, ArcsIn w.heap.size wr v xss ∧ xss.length ≤ k
theorem AArcs.stays {w wr w' : World} {k : Nat} {v : Value} (h : AArcs w k v wr) (hs : Stays wr w') : AArcs w k v w' := by
  obtain ⟨xss, h1, h2⟩ := h
  exact ⟨xss, h1.stays hs, h2⟩
theorem AArcs.isSlice {w wr : World} {k : Nat} {v : Value} (h : AArcs w k v wr) : ∃ A l c, v = .slice A l c := by
  obtain ⟨xss, h1, _⟩ := h
  exact h1.reads.sl
theorem ArcsIn.base_ {base base' : Nat} {w : World} {v : Value} {xss : List (List Int)} (h : ArcsIn base w v xss) (hb : base' ≤ base) : ArcsIn base' w v xss := by
  obtain ⟨vs, h1, h2⟩ := h
  exact ⟨vs, own_base h1 hb, h2.mono fun _ _ k => k.base_ hb⟩
def AnyPost (w : World) (P : Nat) (cv : Value) (m : Nat) (e : Ending) (w' : World) : Prop :=
  ∃ (n : Nat) (v : Value) (xss : List (List Int)), e = .returned (.agg #[.int .i64 (n : Int), v]) ∧ ArcsIn w.heap.size w' v xss ∧ n ≤ 13 ∧ xss.length ≤ 200 ∧ CurR w' P cv m ∧ w.grownBy w' (some P)
theorem any_done {w wr : World} {P B1 B2 m M n k : Nat} {cv v : Value} (h : Bx w P cv B1 B2 m n v wr) (ha : AArcs w k v wr) (hm : m ≤ M) (h13 : n ≤ 13) (hk : k ≤ 200 := by omega) :
    AnyPost w P cv M (.returned (.agg #[.int .i64 (n : Int), v])) ((wr.setCell ⟨B1, 0, none⟩ (.int .i64 (n : Int))).setCell ⟨B1, 1, none⟩ v) ∧
      ((wr.setCell ⟨B1, 0, none⟩ (.int .i64 (n : Int))).setCell ⟨B1, 1, none⟩ v).cell? ⟨B1, 0, none⟩ = some (.int .i64 (n : Int)) ∧ ((wr.setCell ⟨B1, 0, none⟩ (.int .i64 (n : Int))).setCell ⟨B1, 1, none⟩ v).cell? ⟨B1, 1, none⟩ = some v := by
  have g1 := grownP wr B1 0 (.int .i64 (n : Int))
  have g2 := grownP (wr.setCell ⟨B1, 0, none⟩ (.int .i64 (n : Int))) B1 1 v
  have hg := grownT g1 g2
  have hs1 : Stays wr (wr.setCell ⟨B1, 0, none⟩ (.int .i64 (n : Int))) := Stays.set h.res (by decide) (by decide)
  have hs2 : Stays (wr.setCell ⟨B1, 0, none⟩ (.int .i64 (n : Int))) ((wr.setCell ⟨B1, 0, none⟩ (.int .i64 (n : Int))).setCell ⟨B1, 1, none⟩ v) := Stays.set (heap_set_same h.res (.int .i64 (n : Int))) (by decide) (by decide)
  obtain ⟨xss, a1, a2⟩ := ha
  have hlt := h.cur.lt
  have hb1 := h.b1
  have hp := h.p
  have hf := heap_set_same (i := 1) (heap_set_same (i := 0) h.res (.int .i64 (n : Int))) v
  refine ⟨?_, cell_of_row _ _ 0 _ _ (0, 0) hf, cell_of_row _ _ 1 _ _ (0, 0) hf⟩
  refine ⟨n, v, xss, rfl, a1.stays (hs1.trans hs2), h13, by omega, h.cur.keep hm (fun b hb => hg.block b (by omega) (fun e => by have := Option.some.inj e; omega)), ?_⟩
  exact ⟨h.grown.os, h.grown.tape, h.grown.output, by rw [size_setCell, size_setCell]; exact h.grown.size, fun j hj hne => (hg.block j (Nat.lt_of_lt_of_le hj h.grown.size) (fun e => by have := Option.some.inj e; omega)).trans (h.grown.block j hj hne)⟩
theorem rowP_two (W : World) (base : Nat) (x y : Int) (hb : base ≤ W.heap.size) (hx : I64 x) (hy : I64 y) : RowP base (W.alloc (.cells #[.int .i64 x, .int .i64 y] 3)) (.slice (some ⟨W.heap.size, 0, none⟩) 2 2) [x, y] :=
  ⟨W.heap.size, rfl, heap_alloc_new _ _, hb, by simp, fun z hz => by simp at hz; rcases hz with rfl | rfl <;> assumption⟩
set_option maxRecDepth 100000 in
set_option maxHeartbeats 1000000 in
theorem cur_anyWalk (P m : Nat) (cv : Value) (w : World) (h : CurR w P cv m) (hm : m ≤ 5000) :
    Calls Tryz.prog 34 #[.pointer (some ⟨P, 0, none⟩)] w (AnyPost w P cv (m + 2000)) := by
  have hP := h.lt
  have H := Lib.hid h; clear h
  obtain ⟨w0, hw0⟩ : ∃ z, z = w.alloc (.cells #[.int .i64 0, .slice none 0 0] 26) := ⟨_, rfl⟩
  have hb0 : Below w.heap.size w w0 := by rw [hw0]; exact bl_alloc (Below.refl _ _) _
  have hz0 : w0.heap.size = w.heap.size + 1 := by rw [hw0]; simp
  have HB0 := Lib.hid (show w0.heap[w.heap.size]? = some (.cells #[.int .i64 0, .slice none 0 0] 26 (0, 0)) by rw [hw0]; exact heap_alloc_new _ _)
  have HW0 := Lib.hid hw0; clear hw0
  have HC0 := Lib.hid (H.out.below hb0 hP)
  go_enter Tryz.func34, Tryz.ntmps34
  go_wp2_with fail
  rw [← HW0.out]
  refine (cur_walk P m cv w0 HC0.out (by omega)).mono ?_
  rintro e w1 ⟨n, v, xss, rfl, ha1, -, hn1, hn9, hxl, hc1, hg1⟩
  obtain ⟨Av, lv, kv, rfl⟩ := ha1.reads.sl
  have hz1 := hg1.size
  have hB1 := (hg1.block w.heap.size (by omega) (fun e => by have := Option.some.inj e; omega)).trans HB0.out
  obtain ⟨w2, hw2⟩ : ∃ z, z = w1.alloc (.cells #[.int .i64 (n : Int), .slice Av lv kv] 26) := ⟨_, rfl⟩
  have hb2 : Below w1.heap.size w1 w2 := by rw [hw2]; exact bl_alloc (Below.refl _ _) _
  have hk2 : Bx w P cv w.heap.size w1.heap.size (m + 1000) n (.slice Av lv kv) w2 :=
    ⟨by rw [hw2]; exact heap_alloc_new _ _, (hb2.block _ (heap_lt hB1)).trans hB1, hc1.below hb2 hc1.lt, grownT (gr_below hb0) (grownT hg1 (gr_below hb2)), Nat.le_refl _, by omega, by omega, hP⟩
  have ha2 : AArcs w 100 (.slice Av lv kv) w2 := ⟨xss, (ha1.base_ (by omega)).stays (.below hb2), by omega⟩
  have HW2 := Lib.hid hw2; clear hw2
  have hBB : w.heap.size < w1.heap.size := by omega
  go_wp2_with fail
  rw [← HW2.out]
  clear hb2 hB1 hg1 hb0 hz0 hz1 hc1 ha1 hxl HW2 HC0 HW0 HB0
  generalize w1.heap.size = B2 at *
  refine (cur_pick P (m + 1000) cv 40 w2 hk2.cur (by omega)).mono ?_
  rintro e w3 ⟨y, rfl, hy, hc3, hg3⟩
  obtain ⟨hk3, hs3⟩ := hk2.draw hc3 hg3
  have HA := Lib.hid (ha2.stays hs3)
  have HK := Lib.hid hk3
  have hzr := hk3.grown.size
  obtain ⟨c0, c1, cf, d0, d1, df⟩ := hk3.cells
  clear hk2 hk3 hc3 hg3 ha2 hs3
  by_cases y0 : y = 0
  · subst y0
    clear d0 d1 df
    have f1 : IntKind.i64.wrap ((n : Int) - 1) = (n : Int) - 1 := IntWalk.i64_in _ (by omega)
    go_wp2_with fail
    obtain ⟨w4, hw4⟩ : ∃ z, z = w3.alloc (.cells #[.int .i64 0, .int .i64 12, .int .i64 13, .int .i64 ((n : Int) - 1)] 3) := ⟨_, rfl⟩
    have hb4 : Below w3.heap.size w3 w4 := by rw [hw4]; exact bl_alloc (Below.refl _ _) _
    have hl4 : w4.heap[w3.heap.size]? = some (.cells (([0, 12, 13, (n : Int) - 1] : List Int).map intV).toArray 3 (0, 0)) := by rw [hw4]; exact heap_alloc_new _ _
    rw [← hw4]
    have hk4 := HK.out.below hb4
    refine (cur_among P (m + 1000 + 2) cv w3.heap.size [0, 12, 13, (n : Int) - 1] w4 hk4.cur (by omega) hl4 (by have := hk4.p; omega) (by simp) (by simp)).mono ?_
    rintro e w5 ⟨x, rfl, hx, hc5, hg5⟩
    obtain ⟨hk5, hs5⟩ := hk4.draw hc5 hg5
    obtain ⟨n', rfl⟩ : ∃ n' : Nat, x = (n' : Int) := ⟨x.toNat, by simp at hx; omega⟩
    have hn13 : n' ≤ 13 := by simp at hx; omega
    obtain ⟨hk6, hs6⟩ := hk5.labels n'
    have FIN := Lib.hid (any_done (M := m + 2000) hk6 (((HA.out.stays (.below hb4)).stays hs5).stays hs6) (by omega) hn13)
    obtain ⟨c0, c1, cf, d0, d1, df⟩ := hk5.cells
    clear hw4 hb4 hl4 hk4 hx hc5 hg5 hs5 hk5 hk6 hs6
    go_wp2_with fail
    refine bodyPost_ret (v := .agg #[.int .i64 (n' : Int), .slice Av lv kv]) (by simp [results, Tryz.results34, go_sem, FIN.out.2.1, FIN.out.2.2]) rfl FIN.out.1
  · have e0 : ((y : Int) == 0) = false := by simpa using y0
    by_cases y1 : y = 1
    · subst y1
      obtain ⟨w7, hw7⟩ : ∃ z, z = w3.alloc (.cells #[.int .i64 0, .int .i64 0] 3) := ⟨_, rfl⟩
      have hrow : RowP w.heap.size w7 (.slice (some ⟨w3.heap.size, 0, none⟩) 2 2) [0, 0] := by rw [hw7]; exact rowP_two w3 w.heap.size 0 0 hzr (by unfold I64; omega) (by unfold I64; omega)
      have hb7 : Below w3.heap.size w3 w7 := by rw [hw7]; exact bl_alloc (Below.refl _ _) _
      have HK7 := Lib.hid (HK.out.below hb7)
      obtain ⟨xss, ⟨vs, x0, x1⟩, x3⟩ := HA.out.stays (.below hb7)
      have hz7 := hb7.size
      have HX0 := Lib.hid x0
      have HX1 := Lib.hid x1
      have HROW := Lib.hid hrow
      have HW7 := Lib.hid hw7
      have HZ7 := Lib.hid (show w7.heap.size = w3.heap.size + 1 by rw [hw7]; simp)
      clear hw7 hb7 x0 x1 hrow
      go_wp2_with (
        at_builtin; rw [← HW7.out]; refine wpList_append1 w7 rfl (.tmp 20) (.tmp 22) 24 rfl w.heap.size 28 _ 24 Tryz.underlying24 sliceInfo rfl _ _ _ rfl _ rfl (by rw [HZ7.out]; rfl) HX0.out (by unfold maxLen; omega) (by omega) (by omega) ?_; intro v8 w8 hown8 hbl8 hgr8 hlt8 hob8
        have hba := HK7.out.app HX0.out HX1.out HROW.out hown8 hgr8
        obtain ⟨g8, e8, rfl, -⟩ := own_some hown8 (by omega)
        obtain ⟨hk9, hs9⟩ := hba.1.arcs (.slice (some ⟨g8, 0, none⟩) (xss.length + 1) e8)
        have FIN := Lib.hid (any_done (M := m + 2000) (k := 101) hk9 ⟨_, hba.2.stays hs9, by rw [List.length_append]; simp; omega⟩ (by omega) (by omega))
        obtain ⟨c0, c1, cf, d0, d1, df⟩ := hba.1.cells
        clear hba hown8 hbl8 hgr8 hob8 hk9 hs9)
      refine bodyPost_ret (v := .agg #[.int .i64 (n : Int), .slice (some ⟨g8, 0, none⟩) (xss.length + 1) e8]) (by simp [results, Tryz.results34, go_sem, FIN.out.2.1, FIN.out.2.2]) rfl FIN.out.1
    · have e1 : ((y : Int) == 1) = false := by rw [beq_eq_false_iff_ne]; omega
      by_cases y2 : y = 2
      · subst y2
        clear d0 d1 df
        have f1 : IntKind.i64.wrap ((n : Int) - 1) = (n : Int) - 1 := IntWalk.i64_in _ (by omega)
        go_wp2_with fail
        refine till_region (S := fun w' => w'.cell? ⟨B2, 0, none⟩ = some (.int .i64 (n : Int)) ∧ w'.cell? ⟨B2, 1, none⟩ = some (.slice Av lv kv)) (st := 17) (by kernel_rfl) ⟨c0, c1⟩ (fun hHeld => ?_)
        refine uf 0 27 rfl rfl ?_ (hS := fun _ => ⟨c0, c1⟩)
        try simp only [Act.put, pu]
        refine uk 1 28 rfl rfl ?_ (hS := ⟨c0, c1⟩)
        try simp only [Act.put, pu]
        refine uf 2 29 rfl rfl ?_ (hS := fun _ => ⟨c0, c1⟩)
        try simp only [Act.put, pu]
        refine uk 3 30 rfl rfl ?_ (hS := ⟨c0, c1⟩)
        try simp only [Act.put, pu]
        refine uf 4 31 rfl rfl ?_ (hS := fun _ => ⟨c0, c1⟩)
        try simp only [Act.put, pu]
        refine uf 5 32 rfl rfl ?_ (hS := fun _ => ⟨c0, c1⟩)
        try simp only [Act.put, pu]
        refine uf 6 33 rfl rfl ?_ (hS := fun _ => ⟨c0, c1⟩)
        try simp only [Act.put, pu]
        refine uk 7 34 rfl rfl ?_ (hS := ⟨c0, c1⟩)
        try simp only [Act.put, pu]
        refine uf 8 35 rfl rfl ?_ (hS := fun _ => ⟨c0, c1⟩)
        try simp only [Act.put, pu]
        refine uk 9 36 rfl rfl ?_ (hS := ⟨c0, c1⟩)
        try simp only [Act.put, pu]
        refine uf 10 37 rfl rfl ?_ (hS := fun _ => ⟨c0, c1⟩)
        try simp only [Act.put, pu]
        refine ur 11 rfl (by kernel_rfl) (fun K hK => ?_)
        go_simp
        obtain ⟨w4, hw4⟩ : ∃ z, z = (w3.alloc (.cells #[.int .i64 (-1), .int .i64 (n : Int), .int .i64 ((n : Int) - 1)] 3)).drew := ⟨_, rfl⟩
        have hb4 : Below w3.heap.size w3 w4 := by rw [hw4]; exact (bl_alloc (Below.refl _ _) _).drew
        have hl4 : w4.heap[w3.heap.size]? = some (.cells (([-1, (n : Int), (n : Int) - 1] : List Int).map intV).toArray 3 (0, 0)) := by rw [hw4]; exact heap_alloc_new _ _
        rw [← hw4]
        have HK4 := Lib.hid (HK.out.below hb4)
        have HA4 := Lib.hid (HA.out.stays (.below hb4))
        have HL4 := Lib.hid hl4
        clear c0 c1 cf hw4 hb4 hl4
        obtain ⟨c0, c1, cf, -, -, -⟩ := HK4.out.cells
        refine hK.out (fun _ => ⟨c0, c1⟩) ?_
        clear hK K
        try simp only [Act.put, pu]
        refine ur 12 rfl (by kernel_rfl) (fun K hK => ?_)
        go_simp
        go_at_call 36
        refine (cur_among P (m + 1000 + 2) cv w3.heap.size [-1, (n : Int), (n : Int) - 1] w4 HK4.out.cur (by omega) HL4.out (by have := HK4.out.p; omega) (by simp) (by simp)).mono ?_
        rintro e w5 ⟨x, rfl, hx, hc5, hg5⟩
        have hx64 : -1 ≤ x ∧ x ≤ 9 := by simp at hx; omega
        obtain ⟨hk5, hs5⟩ := HK4.out.draw hc5 hg5
        have HA5 := Lib.hid (HA4.out.stays hs5)
        have HK5 := Lib.hid hk5
        have hz5 := hk5.grown.size
        clear c0 c1 cf hx hc5 hg5 hk5 hs5
        obtain ⟨c0, c1, cf, -, -, -⟩ := HK5.out.cells
        refine hK.out (fun _ => ⟨c0, c1⟩) ?_
        clear hK K
        try simp only [Act.put, pu]
        refine ur 13 rfl (by kernel_rfl) (fun K hK => ?_)
        go_simp
        obtain ⟨w6, hw6⟩ : ∃ z, z = w5.alloc (.cells #[.int .i64 ((n : Int) - 1), .int .i64 x] 3) := ⟨_, rfl⟩
        have hrow : RowP w.heap.size w6 (.slice (some ⟨w5.heap.size, 0, none⟩) 2 2) [(n : Int) - 1, x] := by rw [hw6]; exact rowP_two w5 w.heap.size _ _ hz5 (by unfold I64; omega) (by unfold I64; omega)
        have hb6 : Below w5.heap.size w5 w6 := by rw [hw6]; exact bl_alloc (Below.refl _ _) _
        rw [← hw6]
        have HK6 := Lib.hid (HK5.out.below hb6)
        obtain ⟨xss6, ⟨vs6, x0, x1⟩, x3⟩ := HA5.out.stays (.below hb6)
        have HX0 := Lib.hid x0
        have HX1 := Lib.hid x1
        have HROW := Lib.hid hrow
        have hz6 := hb6.size
        clear c0 c1 cf hw6 hb6 x0 x1 hrow
        obtain ⟨c0, c1, cf, -, -, -⟩ := HK6.out.cells
        refine hK.out (fun _ => ⟨c0, c1⟩) ?_
        clear hK K
        try simp only [Act.put, pu]
        refine ur 14 rfl (by kernel_rfl) (fun K hK => ?_)
        go_simp
        have v0 := Lib.cell?_alloc_some (.cells #[.slice (some ⟨w5.heap.size, 0, none⟩) 2 2] 28) c0
        have v1 := Lib.cell?_alloc_some (.cells #[.slice (some ⟨w5.heap.size, 0, none⟩) 2 2] 28) c1
        replace c0 := v0
        replace c1 := v1
        clear v0 v1
        refine hK.out (fun _ => ⟨c0, c1⟩) ?_
        clear hK K
        try simp only [Act.put, pu]
        refine ur 15 rfl (by kernel_rfl) (fun K hK => ?_)
        rw [if_pos (by rfl)]
        refine oper_append1 w6 (.tmp 28) (.tmp 41) 24 rfl w.heap.size 28 _ 24 Tryz.underlying24 sliceInfo rfl _ _ _ rfl _ rfl rfl HX0.out (by unfold maxLen; omega) (by omega) (by omega) ?_
        intro v8 w8 hown8 hbl8 hgr8 hlt8 hob8
        have hba := HK6.out.app HX0.out HX1.out HROW.out hown8 hgr8
        obtain ⟨g8, e8, rfl, -⟩ := own_some hown8 (by omega)
        obtain ⟨hk9, hs9⟩ := hba.1.arcs (.slice (some ⟨g8, 0, none⟩) (xss6.length + 1) e8)
        have FIN := Lib.hid (any_done (k := 101) (M := m + 2000) hk9 ⟨_, hba.2.stays hs9, by rw [List.length_append]; simp; omega⟩ (by omega) (by omega))
        have HK9 := Lib.hid hk9
        clear c0 c1 cf
        obtain ⟨c0, c1, cf, -, -, -⟩ := hba.1.cells
        clear hba hown8 hbl8 hgr8 hob8 hk9 hs9
        refine hK.out (fun _ => ⟨c0, c1⟩) ?_
        clear hK K
        try simp only [Act.put, pu]
        refine uf 16 43 rfl rfl ?_ (hS := fun _ => ⟨c0, c1⟩)
        try simp only [Act.put, pu]
        refine ur 17 rfl (by kernel_rfl) (fun K hK => ?_)
        go_simp

        refine hK.out (fun h' => till_no h' (by kernel_rfl)) ?_
        clear hK K
        try simp only [Act.put, pu]
        refine wpTill_done (by kernel_rfl) ?_ _
        clear c0 c1 cf
        obtain ⟨c0, c1, cf, d0, d1, df⟩ := HK9.out.cells
        go_wp2_with fail
        refine bodyPost_ret (v := .agg #[.int .i64 (n : Int), .slice (some ⟨g8, 0, none⟩) (xss6.length + 1) e8]) (by simp [results, Tryz.results34, go_sem, FIN.out.2.1, FIN.out.2.2]) rfl FIN.out.1
      · have e2 : ((y : Int) == 2) = false := by rw [beq_eq_false_iff_ne]; omega
        by_cases y3 : y = 3
        · subst y3
          obtain ⟨w7, hw7⟩ : ∃ z, z = (w3.alloc (.cells #[.int .i64 0] 3)).alloc (.cells #[.slice (some ⟨w3.heap.size, 0, none⟩) 1 1] 28) := ⟨_, rfl⟩
          have hb7 : Below w3.heap.size w3 w7 := by rw [hw7]; exact bl_alloc (bl_alloc (Below.refl _ _) _) _
          have hz7 : (w3.alloc (.cells #[.int .i64 0] 3)).heap.size = w3.heap.size + 1 := by simp
          have hrow : RowP w.heap.size w7 (.slice (some ⟨w3.heap.size, 0, none⟩) 1 1) [0] := by
            have h1 : RowP w.heap.size (w3.alloc (.cells #[.int .i64 0] 3)) (.slice (some ⟨w3.heap.size, 0, none⟩) 1 1) [0] := ⟨w3.heap.size, rfl, heap_alloc_new _ _, hzr, by simp, fun z hz => by simp at hz; unfold I64; omega⟩
            rw [hw7]; exact h1.stays (.below (bl_alloc (Below.refl _ _) _))
          have ha7 : AArcs w 1 (.slice (some ⟨w3.heap.size + 1, 0, none⟩) 1 1) w7 := by
            refine ⟨[[0]], ⟨[.slice (some ⟨w3.heap.size, 0, none⟩) 1 1], ⟨rfl, .inr ⟨w3.heap.size + 1, 1, #[.slice (some ⟨w3.heap.size, 0, none⟩) 1 1], rfl, by omega, ?_, Nat.le_refl _, by unfold maxLen; omega, rfl, rfl⟩⟩, hrow, trivial⟩, by simp⟩
            rw [hw7, ← hz7]; exact heap_alloc_new _ _
          obtain ⟨hk8, hs8⟩ := (HK.out.below hb7).arcs (.slice (some ⟨w3.heap.size + 1, 0, none⟩) 1 1)
          have FIN := Lib.hid (any_done (M := m + 2000) hk8 (ha7.stays hs8) (by omega) (by omega))
          have hk7 := HK.out.below hb7
          obtain ⟨c0, c1, cf, d0, d1, df⟩ := hk7.cells
          clear hb7 hz7 hrow ha7 hk8 hs8 hk7
          subst hw7
          go_wp2_with fail
          refine bodyPost_ret (v := .agg #[.int .i64 (n : Int), .slice (some ⟨w3.heap.size + 1, 0, none⟩) 1 1]) (by simp [results, Tryz.results34, go_sem, FIN.out.2.1, FIN.out.2.2]) rfl FIN.out.1
        · have e3 : ((y : Int) == 3) = false := by rw [beq_eq_false_iff_ne]; omega
          have FIN := Lib.hid (any_done (M := m + 2000) HK.out HA.out (by omega) (by omega))
          go_wp2_with fail
          refine bodyPost_ret (v := .agg #[.int .i64 (n : Int), .slice Av lv kv]) (by simp [results, Tryz.results34, go_sem, FIN.out.2.1, FIN.out.2.2]) rfl FIN.out.1
/-- A cursor that has just been laid. -/
theorem curR_new {w w1 : World} {v : Value} (h : BytesR w w.heap.size v) (hb : Below w.heap.size w w1) {P : Nat} (hP : w.heap.size ≤ P) (hc : w1.heap[P]? = some (.cells #[v, .int .i64 0, .int .u64 0] 62 (0, 0))) : CurR w1 P v 0 :=
  ⟨(h.keep fun b hb' => hb.block b hb').more hP, 0, 0, Nat.le_refl _, by omega, hc⟩
def DrawPost (w : World) (e : Ending) (w' : World) : Prop :=
  ∃ (n : Nat) (v : Value) (xss : List (List Int)), e = .returned (.agg #[.int .i64 (n : Int), v]) ∧ ArcsIn w.heap.size w' v xss ∧ n ≤ 13 ∧ xss.length ≤ 200 ∧ Below w.heap.size w w'
theorem spec_DrawIsWalkProblem (v : Value) (w : World) (h : BytesR w w.heap.size v) : Calls Tryz.prog 18 #[v] w (DrawPost w) := by
  have HV := Lib.hid h
  obtain ⟨A, n, c, rfl, -⟩ := h
  obtain ⟨w0, hw0⟩ : ∃ z, z = w.alloc (.cells #[.int .i64 0, .slice none 0 0] 26) := ⟨_, rfl⟩
  have hb0 : Below w.heap.size w w0 := by rw [hw0]; exact bl_alloc (Below.refl _ _) _
  have hz0 : w0.heap.size = w.heap.size + 1 := by rw [hw0]; simp
  have hB0 : w0.heap[w.heap.size]? = some (.cells #[.int .i64 0, .slice none 0 0] 26 (0, 0)) := by rw [hw0]; exact heap_alloc_new _ _
  obtain ⟨w1, hw1⟩ : ∃ z, z = w0.alloc (.cells #[.slice A n c, .int .i64 0, .int .u64 0] 62) := ⟨_, rfl⟩
  have hb01 : Below w0.heap.size w0 w1 := by rw [hw1]; exact bl_alloc (Below.refl _ _) _
  have hb1 := bl_trans hb0 hb01
  have hc1 : CurR w1 (w.heap.size + 1) (.slice A n c) 0 := curR_new HV.out hb1 (by omega) (by rw [hw1, ← hz0]; exact heap_alloc_new _ _)
  have hB1 := (hb01.block _ (heap_lt hB0)).trans hB0
  have HW0 := Lib.hid hw0
  have HW1 := Lib.hid hw1
  have HC1 := Lib.hid hc1
  have HBX := Lib.hid hB1
  have hz1 := hb1.size
  have hl1 : w.heap.size + 1 < w1.heap.size := hc1.lt
  clear hw0 hw1 hc1 hB1 hB0 hz0 hb01 hb0
  go_enter Tryz.func18, Tryz.ntmps18
  go_wp2_with fail
  rw [← HW0.out, ← HW1.out]
  refine (cur_anyWalk (w.heap.size + 1) 0 (.slice A n c) w1 HC1.out (by omega)).mono ?_
  rintro e w2 ⟨n', v', xss, rfl, ha, hn, hl, hc2, hg⟩
  have hb2 : Below w.heap.size w w2 := hb1.grown hg hb1.size (fun b e => by have := Option.some.inj e; omega)
  have hB2 := (hg.block w.heap.size (by omega) (fun e => by have := Option.some.inj e; omega)).trans HBX.out
  obtain ⟨Av, lv, kv, rfl⟩ := ha.reads.sl
  have hs1 : Stays w2 (w2.setCell ⟨w.heap.size, 0, none⟩ (.int .i64 (n' : Int))) := Stays.set hB2 (by decide) (by decide)
  have hs2 : Stays (w2.setCell ⟨w.heap.size, 0, none⟩ (.int .i64 (n' : Int))) ((w2.setCell ⟨w.heap.size, 0, none⟩ (.int .i64 (n' : Int))).setCell ⟨w.heap.size, 1, none⟩ (.slice Av lv kv)) := Stays.set (heap_set_same hB2 (.int .i64 (n' : Int))) (by decide) (by decide)
  have hf := heap_set_same (i := 1) (heap_set_same (i := 0) hB2 (.int .i64 (n' : Int))) (.slice Av lv kv)
  have fin : DrawPost w (.returned (.agg #[.int .i64 (n' : Int), .slice Av lv kv])) ((w2.setCell ⟨w.heap.size, 0, none⟩ (.int .i64 (n' : Int))).setCell ⟨w.heap.size, 1, none⟩ (.slice Av lv kv)) :=
    ⟨n', _, xss, rfl, (ha.base_ hz1).stays (hs1.trans hs2), hn, hl, (hb2.setCell (Nat.le_refl _) _).setCell (Nat.le_refl _) _⟩
  have f0 := cell_of_row _ _ 0 _ _ (0, 0) hf
  have f1 := cell_of_row _ _ 1 _ _ (0, 0) hf
  have FIN := Lib.hid fin
  have F0 := Lib.hid f0
  have F1 := Lib.hid f1
  obtain ⟨d0, d1, df⟩ := cells2 (Lib.hid hB2)
  clear hs1 hs2 hf fin f0 f1 hB2 hb2 hg hc2 ha
  go_wp2_with fail
  refine bodyPost_ret (v := .agg #[.int .i64 (n' : Int), .slice Av lv kv]) (by have f0 := F0.out; have f1 := F1.out; simp at f0 f1; simp [results, Tryz.results18, go_sem, f0, f1]) rfl FIN.out
theorem BytesR.below {w w' : World} {v : Value} (h : BytesR w w.heap.size v) (hb : Below w.heap.size w w') : BytesR w' w'.heap.size v := (h.keep fun b hb' => hb.block b hb').more hb.size
theorem spec_DrawCertifyWalk (v : Value) (w : World) (h : BytesR w w.heap.size v) : Calls Tryz.prog 5 #[v] w (DrawPost w) := by
  have HV := Lib.hid h
  obtain ⟨A, n, c, rfl, -⟩ := h
  obtain ⟨w0, hw0⟩ : ∃ z, z = w.alloc (.cells #[.int .i64 0, .slice none 0 0] 26) := ⟨_, rfl⟩
  have hb0 : Below w.heap.size w w0 := by rw [hw0]; exact bl_alloc (Below.refl _ _) _
  have hz0 : w0.heap.size = w.heap.size + 1 := by rw [hw0]; simp
  have hB0 : w0.heap[w.heap.size]? = some (.cells #[.int .i64 0, .slice none 0 0] 26 (0, 0)) := by rw [hw0]; exact heap_alloc_new _ _
  have HW0 := Lib.hid hw0
  clear hw0
  go_enter Tryz.func5, Tryz.ntmps5
  go_wp2_with fail
  rw [← HW0.out]
  refine (spec_DrawIsWalkProblem (.slice A n c) w0 (HV.out.below hb0)).mono ?_
  rintro e w2 ⟨n', v', xss, rfl, ha, hn, hl, hb02⟩
  have hb2 := bl_trans hb0 hb02
  have hB2 := (hb02.block w.heap.size (by omega)).trans hB0
  obtain ⟨Av, lv, kv, rfl⟩ := ha.reads.sl
  have hs1 : Stays w2 (w2.setCell ⟨w.heap.size, 0, none⟩ (.int .i64 (n' : Int))) := Stays.set hB2 (by decide) (by decide)
  have hs2 : Stays (w2.setCell ⟨w.heap.size, 0, none⟩ (.int .i64 (n' : Int))) ((w2.setCell ⟨w.heap.size, 0, none⟩ (.int .i64 (n' : Int))).setCell ⟨w.heap.size, 1, none⟩ (.slice Av lv kv)) := Stays.set (heap_set_same hB2 (.int .i64 (n' : Int))) (by decide) (by decide)
  have hf := heap_set_same (i := 1) (heap_set_same (i := 0) hB2 (.int .i64 (n' : Int))) (.slice Av lv kv)
  have fin : DrawPost w (.returned (.agg #[.int .i64 (n' : Int), .slice Av lv kv])) ((w2.setCell ⟨w.heap.size, 0, none⟩ (.int .i64 (n' : Int))).setCell ⟨w.heap.size, 1, none⟩ (.slice Av lv kv)) :=
    ⟨n', _, xss, rfl, (ha.base_ (by omega)).stays (hs1.trans hs2), hn, hl, (hb2.setCell (Nat.le_refl _) _).setCell (Nat.le_refl _) _⟩
  have f0 := cell_of_row _ _ 0 _ _ (0, 0) hf
  have f1 := cell_of_row _ _ 1 _ _ (0, 0) hf
  have FIN := Lib.hid fin
  have F0 := Lib.hid f0
  have F1 := Lib.hid f1
  obtain ⟨d0, d1, df⟩ := cells2 (Lib.hid hB2)
  clear hs1 hs2 hf fin f0 f1 hB2 hb2 hb02 ha hB0 hz0
  go_wp2_with fail
  refine bodyPost_ret (v := .agg #[.int .i64 (n' : Int), .slice Av lv kv]) (by have f0 := F0.out; have f1 := F1.out; simp at f0 f1; simp [results, Tryz.results5, go_sem, f0, f1]) rfl FIN.out
end
end Go.Proofs.YtjhljipehnmbnaaGreat
