/-
  Closed walks, loops and greatest common divisors in the program: isClosedFrom, loopOf, numbersTo, gcd.
-/
import Derived.Test.YtjhljipehnmbnaaGreatRows
import Derived.Test.YtjhljipehnmbnaaGreatKit
import Derived.Test.YtjhljipehnmbnaaGreatMem
import Derived.Test.YtjhljipehnmbnaaGreatArgs
import Derived.Test.YtjhljipehnmbnaaGreatWithin
import Derived.Test.YtjhljipehnmbnaaGreatGood
import Derived.Test.YtjhljipehnmbnaaGreatSmallA
import Derived.Test.YtjhljipehnmbnaaGreatAfter
import Derived.WalkKit
import Derived.WalkSpells
import Derived.WalkLawsBesides
import Derived.Lib.Hide
import Derived.Deep.QuietTactic
import Derived.BigQuiet
namespace Go.Proofs.YtjhljipehnmbnaaGreat
open Go.RowKit
set_option linter.unusedVariables false

def closedP (n : Nat) (xss : List (List Int)) (l : List Int) (a : Int) : Prop :=
  inB l.length 2 200 = true ∧ allB l 0 ((n : Int) - 1) = true ∧ l[0]? = some a ∧ l[l.length - 1]? = some a ∧ walkP xss l
theorem closedP_1 {n : Nat} {xss : List (List Int)} {l : List Int} {a : Int} (h : inB l.length 2 200 = false) : propB (closedP n xss l a) = false := propB_f (fun k => by have := k.1; rw [h] at this; cases this)
theorem closedP_2 {n : Nat} {xss : List (List Int)} {l : List Int} {a : Int} (h : allB l 0 ((n : Int) - 1) = false) : propB (closedP n xss l a) = false := propB_f (fun k => by have := k.2.1; rw [h] at this; cases this)
theorem closedP_3 {n : Nat} {xss : List (List Int)} {l : List Int} {a x : Int} (hx : l[0]? = some x) (h : x ≠ a) : propB (closedP n xss l a) = false := propB_f (fun k => by have := k.2.2.1; rw [hx] at this; cases this; exact h rfl)
theorem closedP_4 {n : Nat} {xss : List (List Int)} {l : List Int} {a x : Int} (hx : l[l.length - 1]? = some x) (h : x ≠ a) : propB (closedP n xss l a) = false := propB_f (fun k => by have := k.2.2.2.1; rw [hx] at this; cases this; exact h rfl)
theorem closedP_5 {n : Nat} {xss : List (List Int)} {l : List Int} {a : Int} (h1 : inB l.length 2 200 = true) (h2 : allB l 0 ((n : Int) - 1) = true) (h3 : l[0]? = some a) (h4 : l[l.length - 1]? = some a) : propB (closedP n xss l a) = propB (walkP xss l) :=
  propB_congr ⟨fun h => h.2.2.2.2, fun h => ⟨h1, h2, h3, h4, h⟩⟩
theorem impl_isClosedFrom (n : Nat) (v u : Value) (xss : List (List Int)) (l : List Int) (a : Int) (w : World) (h : RowsR w w.heap.size v xss) (hu : IntsR w w.heap.size u l) (hg : Good n xss) :
    Calls Tryz.prog 62 #[.agg #[.int .i64 (n : Int), v], u, .int .i64 a] w fun e w' => e = .returned (.bool (propB (closedP n xss l a))) ∧ Below w.heap.size w w' := by
  have hn : (1 : Int) ≤ n ∧ (n : Int) ≤ 12 := by have := hg.1; unfold inB at this; simpa using this
  have HH := Lib.hid h; clear h
  have HG := Lib.hid hg; clear hg
  have HU := Lib.hid hu
  obtain ⟨A, c, rfl, h1, h2, h3⟩ := hu.open_
  unfold maxLen at h2
  clear hu
  have H3 := Lib.hid h3; clear h3
  have hb0 := bl_alloc (Below.refl w.heap.size w) (.cells #[.int .i64 (n : Int), v] 26)
  cases q1 : inB l.length 2 200 with
  | false =>
    have H1 := Lib.hid (closedP_1 (n := n) (xss := xss) (a := a) q1)
    go_enter Tryz.func62, Tryz.ntmps62
    go_wp2_with (go_at_call 40; refine (impl_within _ _ _ _).mono ?_; rintro e w' ⟨rfl, rfl⟩)
    go_ret
    exact ⟨ret_bool H1.out.symm, hb0⟩
  | true =>
    have hlen : (2 : Int) ≤ l.length ∧ (l.length : Int) ≤ 200 := by unfold inB at q1; simpa using q1
    obtain ⟨ad, rfl, hb, hc⟩ := H3.out (by omega)
    have e0 : ad.add 0 = ad := by unfold Addr.add; simp
    obtain ⟨x, hx⟩ : ∃ x, l[0]? = some x := ⟨l[0]'(by omega), List.getElem?_eq_getElem (by omega)⟩
    obtain ⟨y, hy⟩ : ∃ y, l[l.length - 1]? = some y := ⟨l[l.length - 1]'(by omega), List.getElem?_eq_getElem (by omega)⟩
    have c0 := hc 0 x hx
    have c1 := hc (l.length - 1) y hy
    rw [e0] at c0
    have GX := Lib.hid hx
    have GY := Lib.hid hy
    have C0 := Lib.hid c0
    have C1 := Lib.hid c1
    clear hc hx hy c0 c1 e0
    go_enter Tryz.func62, Tryz.ntmps62
    go_wp2_with (go_at_call 40; refine (impl_within _ _ _ _).mono ?_; rintro e w' ⟨rfl, rfl⟩)
    refine (impl_hasLabels (n : Int) v _ l _ ((HU.out.below hb0).more (by simp)) (by omega) (by omega)).mono ?_
    rintro e w1 ⟨rfl, hb1⟩
    have hb01 := bl_trans hb0 hb1
    have k0 : w1.cell? ad = some (.int .i64 x) := (hb01.cell (p := ad) hb).trans C0.out
    have k1 : w1.cell? (ad.add (l.length - 1)) = some (.int .i64 y) := (hb01.cell (p := ad.add (l.length - 1)) (by rw [block_add]; exact hb)).trans C1.out
    obtain ⟨hc1, hf1⟩ := bx w.heap.size hb1 (by simp)
    cases q2 : allB l 0 ((n : Int) - 1) with
    | false =>
      have H1 := Lib.hid (closedP_2 (xss := xss) (a := a) q2)
      go_wp2_with fail
      go_ret
      exact ⟨ret_bool H1.out.symm, hb01⟩
    | true =>
      by_cases q3 : x = a
      · subst q3
        by_cases q4 : y = x
        · subst q4
          have H1 := Lib.hid (closedP_5 (xss := xss) q1 q2 GX.out GY.out)
          go_wp2_with fail
          refine (impl_isWalk n v _ xss l _ ((HH.out.below hb01).more hb01.size) ((HU.out.below hb01).more hb01.size) HG.out q2).mono ?_
          rintro e w2 ⟨rfl, hb2⟩
          go_wp2_with fail
          go_ret
          exact ⟨ret_bool H1.out.symm, bl_trans hb01 hb2⟩
        · have t4 : (y == x) = false := by simpa using q4
          have H1 := Lib.hid (closedP_4 (n := n) (xss := xss) GY.out q4)
          go_wp2_with fail
          go_ret
          exact ⟨ret_bool H1.out.symm, hb01⟩
      · have t3 : (x == a) = false := by simpa using q3
        have H1 := Lib.hid (closedP_3 (n := n) (xss := xss) GX.out q3)
        go_wp2_with fail
        go_ret
        exact ⟨ret_bool H1.out.symm, hb01⟩
/-! ### Loops -/
def numsL (n : Nat) : List Int := (List.range n).map fun (i : Nat) => (i : Int)
theorem numsL_len (n : Nat) : (numsL n).length = n := by simp [numsL]
theorem numsL_at {n k : Nat} (h : k < n) : (numsL n)[k]? = some (k : Int) := by simp [numsL, h]
def NumRel (n : Nat) (w : World) (i : Value) (wr : World) : Prop := ∃ k : Nat, k ≤ n ∧ i = .int .i64 k ∧ wr = w.alloc (.cells (rowOf (((numsL n).take k).map intV) n (.int .i64 0)) 3)
theorem impl_numbersTo (n : Nat) (w : World) (hn : n ≤ 1048576) :
    Calls Tryz.prog 44 #[.int .i64 (n : Int)] w fun e w' => e = .returned (.slice (some ⟨w.heap.size, 0, none⟩) n n) ∧ w' = w.alloc (.cells ((numsL n).map intV).toArray 3) := by
  have hmk := fun W => run_make1 (P := Tryz.prog) 28 3 (.int .i64 0) 8 Tryz.underlying28 intInfo rfl n (by omega) (by omega) W
  go_enter Tryz.func44, Tryz.ntmps44
  go_wp2_with fail
  clear hmk
  go_loopw [9, 4] (fun i _ wr => NumRel n w i wr) (fun i _ _ => n - (intOf i).toNat)
  case atStart => exact ⟨0, Nat.zero_le _, rfl, by simp⟩
  case round =>
    obtain ⟨k, hk, rfl, rfl⟩ := hrel
    by_cases hlt : k < n
    · have hlen : (((numsL n).take k).map intV).length = k := by rw [List.length_map, List.length_take, numsL_len]; omega
      have HN := Lib.hid (show ((numsL n).take (k + 1)).map intV = ((numsL n).take k).map intV ++ [.int .i64 (k : Int)] by
        obtain ⟨hk', e⟩ := List.getElem?_eq_some_iff.1 (numsL_at hlt)
        rw [List.take_succ_eq_append_getElem hk', List.map_append, e]; rfl)
      generalize ((numsL n).take k).map intV = done at *
      have hset := Lib.hid (rowOf_set (done := done) (n := n) (z := .int .i64 0) (by omega) (.int .i64 (k : Int)))
      have hnext := rowOf_next (done := done) (n := n) (z := .int .i64 0) (by omega)
      obtain rfl := hlen
      generalize rowOf done n (.int .i64 0) = C at *
      have hcell2 : (w.alloc (.cells C 3)).cell? ⟨w.heap.size, done.length, none⟩ = some (.int .i64 0) := by rw [World.cell?_alloc_at _ _ _ _ rfl]; exact hnext
      clear hnext
      go_wp2_with fail
      go_roundw
      case rel => exact ⟨done.length + 1, by omega, by go_num, by rw [HN.out, ← hset.out]⟩
      case measure => simp [intOf]; omega
    · have e1 : (numsL n).take k = numsL n := List.take_of_length_le (by rw [numsL_len]; omega)
      have e2 := rowOf_full ((numsL n).map intV) (.int .i64 0)
      rw [List.length_map, numsL_len] at e2
      rw [e1, e2]
      clear e1 e2
      go_wp2_with fail
      go_ret
      exact ⟨rfl, rfl⟩
theorem closure_loop (n : Nat) (a : Nat) (g : Nat) (v : Value) (xss : List (List Int)) (w : World) (h : RowsR w w.heap.size v xss) (hg : Good n xss) (ha : a < n)
    (h0 : w.cell? ⟨g, 0, none⟩ = some (.int .i64 (n : Int))) (h1 : w.cell? ⟨g, 1, none⟩ = some v) :
    Calls Tryz.prog 45 #[.int .i64 (a : Int), .pointer (some ⟨g, 0, none⟩)] w fun e w' => e = .returned (.bool (propB (hasArc xss a a))) ∧ Below w.heap.size w w' := by
  have hn : (1 : Int) ≤ n ∧ (n : Int) ≤ 12 := by have := hg.1; unfold inB at this; simpa using this
  have HH := Lib.hid h; clear h
  have HG := Lib.hid hg; clear hg
  go_enter Tryz.func45, Tryz.ntmps45
  go_wp2_with fail
  refine (impl_after n v xss _ HH.out HG.out).mono ?_
  rintro e w1 ⟨v', rfl, ho, hb1⟩
  obtain ⟨A', c', rfl, g1, g2, g3⟩ := (ho.reads (B := w1.heap.size) ho.1.lt).open_
  rw [maskL_len] at g1 g3 ⊢
  obtain ⟨ad', rfl, hb', hc'⟩ := g3 (by omega)
  have k3 := hc' a _ (maskL_at (n := n) (xss := xss) ha)
  have hq := mask_lt HG.out.small a
  have HM := Lib.hid (mask_bit HG.out.small a a)
  clear hc' g3 ho
  generalize mask xss a = q at *
  by_cases ht : q.testBit a = true
  · have hbit := bit_t hq (by omega) ht
    have HA := Lib.hid (propB_t (HM.out.1 ht))
    clear ht
    go_wp2_with fail
    go_ret
    exact ⟨ret_bool HA.out.symm, hb1⟩
  · have hbit := bit_f hq (by omega) ht
    have HA := Lib.hid (propB_f (fun h => ht (HM.out.2 h)))
    clear ht
    go_wp2_with fail
    go_ret
    exact ⟨ret_bool HA.out.symm, hb1⟩
/-- The least label with an arc to itself, or -1. -/
def LoopIs (n : Nat) (xss : List (List Int)) (i : Int) : Prop :=
  (i = -1 ∧ ∀ a, a < n → ¬ hasArc xss a a) ∨ ∃ a : Nat, a < n ∧ i = a ∧ hasArc xss a a ∧ ∀ b, b < a → ¬ hasArc xss b b
def LoopRel (n : Nat) (xss : List (List Int)) (w : World) (i : Value) (wr : World) : Prop := ∃ k : Nat, k ≤ n ∧ i = .int .i64 k ∧ (∀ b, b < k → ¬ hasArc xss b b) ∧ Below w.heap.size w wr
def LoopPost (n : Nat) (xss : List (List Int)) (w : World) (e : Ending) (w' : World) : Prop := ∃ i : Int, e = .returned (.int .i64 i) ∧ LoopIs n xss i ∧ Below w.heap.size w w'
theorem indexFunc_loop (n : Nat) (u v : Value) (g : Nat) (xss : List (List Int)) (w : World) (h : RowsR w w.heap.size v xss) (hu : IntsR w w.heap.size u (numsL n)) (hg : Good n xss)
    (h0 : w.cell? ⟨g, 0, none⟩ = some (.int .i64 (n : Int))) (h1 : w.cell? ⟨g, 1, none⟩ = some v) :
    Calls Tryz.prog 43 #[u, .func (.func 45) #[] #[.pointer (some ⟨g, 0, none⟩)]] w (LoopPost n xss w) := by
  have hn : (1 : Int) ≤ n ∧ (n : Int) ≤ 12 := by have := hg.1; unfold inB at this; simpa using this
  have HH := Lib.hid h; clear h
  have HG := Lib.hid hg; clear hg
  obtain ⟨A, c, rfl, g1, g2, g3⟩ := hu.open_
  clear hu
  rw [numsL_len] at g1 g3 ⊢
  have G3 := Lib.hid g3; clear g3
  have hgb := World.block_lt_of_cell? _ _ h0
  have H0 := Lib.hid h0; clear h0
  have H1 := Lib.hid h1; clear h1
  simp only at hgb
  go_enter Tryz.func43, Tryz.ntmps43
  go_wp2_with fail
  go_loopw [8, 5] (fun i _ wr => LoopRel n xss w i wr) (fun i _ _ => n - (intOf i).toNat)
  case atStart => exact ⟨0, Nat.zero_le _, rfl, (fun _ h => absurd h (by omega)), Below.refl _ _⟩
  case round =>
    obtain ⟨k, hk, rfl, hup, hbl⟩ := hrel
    have HU := Lib.hid hup; clear hup
    by_cases hlt : k < n
    · obtain ⟨ad, rfl, hb', hc⟩ := G3.out (by omega)
      have hcell : wr.cell? (ad.add k) = some (.int .i64 (k : Int)) := (hbl.cell (p := ad.add k) (by rw [block_add]; exact hb')).trans (hc k _ (numsL_at hlt))
      clear hc
      go_wp2_with fail
      refine (closure_loop n k g v xss _ ((HH.out.below hbl).more hbl.size) HG.out hlt ((hbl.cell (p := ⟨g, 0, none⟩) hgb).trans H0.out) ((hbl.cell (p := ⟨g, 1, none⟩) hgb).trans H1.out)).mono ?_
      rintro e w1 ⟨rfl, hb1⟩
      have hbl1 := bl_trans hbl hb1
      cases q : propB (hasArc xss k k) with
      | true =>
        have HA := Lib.hid (propB_iff.1 q)
        go_wp2_with fail
        go_ret
        exact ⟨k, rfl, .inr ⟨k, hlt, rfl, HA.out, HU.out⟩, hbl1⟩
      | false =>
        have HA := Lib.hid (show ¬ hasArc xss k k from fun h => by rw [propB_t h] at q; cases q)
        go_wp2_with fail
        go_roundw
        case rel => exact ⟨k + 1, by omega, by go_num, (fun b hb => by
          by_cases e : b = k
          · subst e; exact HA.out
          · exact HU.out b (by omega)), hbl1⟩
        case measure => simp [intOf]; omega
    · go_wp2_with fail
      go_ret
      exact ⟨-1, rfl, .inl ⟨rfl, fun a ha => HU.out a (by omega)⟩, hbl⟩
theorem impl_loopOf (n : Nat) (v : Value) (xss : List (List Int)) (w : World) (h : RowsR w w.heap.size v xss) (hg : Good n xss) (hv : ∃ A m c, v = .slice A m c) :
    Calls Tryz.prog 21 #[.agg #[.int .i64 (n : Int), v]] w (LoopPost n xss w) := by
  have hn : (1 : Int) ≤ n ∧ (n : Int) ≤ 12 := by have := hg.1; unfold inB at this; simpa using this
  have hmf : ∀ (fn : Fn) (first cap : Array Value) (w : World), (Instr.makeFunc fn first cap).run Tryz.prog w = .ok (.func fn first cap) w := fun _ _ _ _ => rfl
  have HH := Lib.hid h; clear h
  have HG := Lib.hid hg; clear hg
  have hb0 := bl_alloc (Below.refl w.heap.size w) (.cells #[.int .i64 (n : Int), v] 26)
  go_enter Tryz.func21, Tryz.ntmps21
  go_wp2_with fail
  refine (impl_numbersTo n _ (by omega)).mono ?_
  rintro e w1 ⟨rfl, hw1⟩
  have hb1 : Below (w.heap.size + 1) (w.alloc (.cells #[.int .i64 (n : Int), v] 26)) w1 := by rw [hw1]; exact ((Below.refl _ _).alloc (by simp) _)
  have hb01 : Below w.heap.size w w1 := hb0.trans (hb1.mono (by omega))
  have hlt : w.heap.size + 1 < w1.heap.size := by rw [hw1]; simp
  have HN := Lib.hid (show IntsR w1 w1.heap.size (.slice (some ⟨w.heap.size + 1, 0, none⟩) n n) (numsL n) by
    have ho : OwnInts w1 3 (.slice (some ⟨w.heap.size + 1, 0, none⟩) n n) (numsL n) [w.heap.size + 1] := by
      refine ⟨.inr ⟨w.heap.size + 1, n, ((numsL n).map intV).toArray, by rw [List.length_map, numsL_len], by rw [List.length_map, numsL_len]; exact Nat.le_refl _, by unfold maxLen; omega, ?_, by simp [numsL_len], List.take_of_length_le (by simp), rfl⟩, ?_⟩
      · rw [hw1, show w.heap.size + 1 = (w.alloc (.cells #[.int .i64 (n : Int), v] 26)).heap.size by simp]; exact heap_alloc_new _ _
      · intro x hx
        obtain ⟨i, hi, rfl⟩ := List.mem_map.1 hx
        have := List.mem_range.1 hi
        unfold I64; omega
    exact ho.reads ho.1.lt)
  have k0 : w1.cell? ⟨w.heap.size, 0, none⟩ = some (.int .i64 (n : Int)) := (hb1.cell (p := ⟨w.heap.size, 0, none⟩) (by show w.heap.size < w.heap.size + 1; omega)).trans (by rw [World.cell?_alloc_at _ _ _ _ rfl]; rfl)
  have k1 : w1.cell? ⟨w.heap.size, 1, none⟩ = some v := (hb1.cell (p := ⟨w.heap.size, 1, none⟩) (by show w.heap.size < w.heap.size + 1; omega)).trans (by rw [World.cell?_alloc_at _ _ _ _ rfl]; rfl)
  have K0 := Lib.hid k0; clear k0
  have K1 := Lib.hid k1; clear k1
  clear hw1
  go_wp2_with fail
  refine (indexFunc_loop n _ v w.heap.size xss w1 ((HH.out.below hb01).more hb01.size) HN.out HG.out K0.out K1.out).mono ?_
  rintro e w2 ⟨i, rfl, hi, hb2⟩
  have HI := Lib.hid hi; clear hi
  go_wp2_with fail
  go_ret
  exact ⟨i, rfl, HI.out, bl_trans hb01 hb2⟩
/-! ### Greatest common divisors -/
def gcdL (xs : List Nat) : Nat := xs.foldl Nat.gcd 0
theorem gcdL_snoc (xs : List Nat) (x : Nat) : gcdL (xs ++ [x]) = Nat.gcd (gcdL xs) x := by simp [gcdL]
theorem gcdL_le : ∀ (xs : List Nat) (M d : Nat), d ≤ M → (∀ x ∈ xs, x ≤ M) → xs.foldl Nat.gcd d ≤ M
  | [], _, _, h, _ => h
  | x :: xs, M, d, h, hx => by
    refine gcdL_le xs M (Nat.gcd d x) ?_ (fun y hy => hx y (by simp [hy]))
    by_cases e : d = 0
    · subst e; simp; exact hx x (by simp)
    · exact Nat.le_trans (Nat.le_of_dvd (by omega) (Nat.gcd_dvd_left d x)) h
def GcdRel (xs : List Nat) (w : World) (d i : Value) (wr : World) : Prop := ∃ k m : Nat, k ≤ xs.length ∧ i = .int .i64 k ∧ d = .int .i64 (gcdL (xs.take k) : Int) ∧ wr = w.drewN m
def InGcd (g : Nat) (w : World) (d n : Value) (wr : World) : Prop := ∃ a b m : Nat, a ≤ 1000000000 ∧ b ≤ 1000000000 ∧ d = .int .i64 (a : Int) ∧ n = .int .i64 (b : Int) ∧ Nat.gcd a b = g ∧ wr = w.drewN m
theorem impl_gcd (v : Value) (xs : List Nat) (w : World) (h : IntsR w w.heap.size v (xs.map fun (x : Nat) => (x : Int))) (hx : ∀ x ∈ xs, x ≤ 1000000000) :
    Calls Tryz.prog 63 #[v] w fun e w' => e = .returned (.int .i64 (gcdL xs : Int)) ∧ ∃ n, w' = w.drewN n := by
  obtain ⟨A, c, rfl, h1, h2, h3⟩ := h.open_
  clear h
  rw [List.length_map] at h1 h3 ⊢
  unfold maxLen at h2
  have H3 := Lib.hid h3; clear h3
  have HX := Lib.hid hx; clear hx
  go_enter Tryz.func63, Tryz.ntmps63
  go_wp2_with fail
  go_loopw [3, 5, 8] (fun d _ i wr => GcdRel xs w d i wr) (fun _ _ i _ => xs.length - (intOf i).toNat)
  case atStart => exact ⟨0, 0, Nat.zero_le _, rfl, rfl, rfl⟩
  case round =>
    obtain ⟨k, m, hk, rfl, rfl, rfl⟩ := hrel
    by_cases hlt : k < xs.length
    · obtain ⟨x, hx⟩ : ∃ x, xs[k]? = some x := ⟨xs[k], List.getElem?_eq_getElem hlt⟩
      obtain ⟨ad, rfl, hb, hc⟩ := H3.out (by omega)
      have hcell : w.cell? (ad.add k) = some (.int .i64 (x : Int)) := hc k _ (by rw [List.getElem?_map, hx]; rfl)
      have bx := HX.out x (List.mem_of_getElem? hx)
      have bd : gcdL (xs.take k) ≤ 1000000000 := gcdL_le _ _ _ (by omega) (fun y hy => HX.out y (List.mem_of_mem_take hy))
      have HN := Lib.hid (show gcdL (xs.take (k + 1)) = Nat.gcd (gcdL (xs.take k)) x by
        obtain ⟨hk', rfl⟩ := List.getElem?_eq_some_iff.1 hx
        rw [List.take_succ_eq_append_getElem hk', gcdL_snoc])
      clear hc hx
      generalize gcdL (xs.take k) = g at *
      go_wp2_with fail
      go_loopw [3, 5] (fun d n wr => InGcd (Nat.gcd g x) w d n wr) (fun _ n _ => (intOf n).toNat)
      case atStart => exact ⟨g, x, m, bd, bx, rfl, rfl, rfl, rfl⟩
      case round =>
        obtain ⟨a, b, m', ha, hb', rfl, rfl, hab, rfl⟩ := hrel
        have HA := Lib.hid hab; clear hab
        by_cases hz : b = 0
        · have t0 : ((b : Int) != 0) = false := by subst hz; rfl
          have t1 : ((b : Int) == 0) = true := by subst hz; rfl
          have HZ := Lib.hid hz; clear hz
          go_wp2_with fail
          go_roundw
          case rel => exact ⟨k + 1, m', by omega, by go_num, by rw [HN.out, ← HA.out, HZ.out, Nat.gcd_zero_right], rfl⟩
          case measure => simp [intOf]; omega
        · have t1 : ((b : Int) == 0) = false := by rw [beq_eq_false_iff_ne]; omega
          have t0 : ((b : Int) != 0) = true := by rw [bne, t1]; rfl
          have hm1 : a % b < b := Nat.mod_lt _ (by omega)
          have HM := Lib.hid (show Nat.gcd b (a % b) = Nat.gcd a b by rw [Nat.gcd_comm b, ← Nat.gcd_rec, Nat.gcd_comm])
          go_wp2_with fail
          go_quiet (fail)
          go_wp2_with fail
          have e1 : ((a : Int) % (b : Int)) = ((a % b : Nat) : Int) := by push_cast; rfl
          refine ⟨⟨b, a % b, m' + nq, hb', by omega, rfl, by rw [e1], HM.out.trans HA.out, by simp⟩, ?_⟩
          rw [e1]
          simp only [intOf, Int.toNat_natCast]
          exact hm1
    · have e1 : xs.take k = xs := List.take_of_length_le (by omega)
      rw [e1]
      go_wp2_with fail
      go_ret
      exact ⟨rfl, m, rfl⟩
end Go.Proofs.YtjhljipehnmbnaaGreat
