/-
  The reference's walks (waWalk), loops (waLoop), closed walks (waRound) and greatest common divisors (waGcd), for every good walk problem.
-/
import Derived.Test.YtjhljipehnmbnaaGreatRows
import Derived.Test.YtjhljipehnmbnaaGreatKit
import Derived.Test.YtjhljipehnmbnaaGreatMem
import Derived.Test.YtjhljipehnmbnaaGreatBasic
import Derived.Test.YtjhljipehnmbnaaGreatArgs
import Derived.Test.YtjhljipehnmbnaaGreatLists
import Derived.Test.YtjhljipehnmbnaaGreatGood
import Derived.Test.YtjhljipehnmbnaaGreatSmallA
import Derived.Test.YtjhljipehnmbnaaGreatAfter
import Derived.Test.YtjhljipehnmbnaaGreatClosed
import Derived.Test.YtjhljipehnmbnaaGreatMay
import Derived.WalkKit
import Derived.WalkSpells
import Derived.WalkLawsBesides
import Derived.Lib.Hide
import Derived.Deep.QuietTactic
import Derived.BigQuiet
namespace Go.Proofs.YtjhljipehnmbnaaGreat
open Go.RowKit
set_option linter.unusedVariables false

theorem spec_waWalk (n : Nat) (v u : Value) (xss : List (List Int)) (l : List Int) (w : World) (h : RowsR w w.heap.size v xss) (hu : IntsR w w.heap.size u l) (hg : Good n xss) (hl : allB l 0 (n - 1) = true) :
    Calls Tryz.prog 89 #[.agg #[.int .i64 (n : Int), v], u] w fun e w' => e = .returned (.bool (propB (walkP xss l))) ∧ Below w.heap.size w w' := by
  have HH := Lib.hid h; clear h
  have HL := Lib.hid (allB_iff.1 hl); clear hl
  have HG := Lib.hid hg; clear hg
  obtain ⟨A, c, rfl, h1, h2, h3⟩ := hu.open_
  unfold maxLen at h2
  clear hu
  have H3 := Lib.hid h3; clear h3
  go_enter Tryz.func89, Tryz.ntmps89
  go_wp2_with fail
  refine (spec_waMay n v xss _ ((HH.out.below (bl_alloc (Below.refl _ _) _)).more (by simp)) HG.out).mono ?_
  rintro e w1 ⟨v', rfl, ho, hb1⟩
  have hb01 := bl_trans (bl_alloc (Below.refl w.heap.size w) _) hb1
  obtain ⟨ad', c', rfl, g1, g2, g3⟩ := ho
  have G3 := Lib.hid g3; clear g3
  go_wp2_with fail
  go_loopw [6] (fun i wr => IsWalkRel xss l w1 i wr) (fun i _ => l.length - (intOf i).toNat)
  case atStart => exact ⟨1, 0, Nat.le_refl _, by omega, rfl, fun i _ _ h => absurd h (by omega), rfl⟩
  case round =>
    obtain ⟨k, m, hk1, hk, rfl, hup, rfl⟩ := hrel
    have HU := Lib.hid hup; clear hup
    have hn12 : (n : Int) ≤ 12 := by have := HG.out.1; unfold inB at this; simp at this; omega
    by_cases hlt : k < l.length
    · obtain ⟨x, hx⟩ : ∃ x, l[k - 1]? = some x := ⟨l[k - 1], List.getElem?_eq_getElem (by omega)⟩
      obtain ⟨y, hy⟩ : ∃ y, l[k]? = some y := ⟨l[k], List.getElem?_eq_getElem hlt⟩
      have bx := HL.out x (List.mem_of_getElem? hx)
      have by_ := HL.out y (List.mem_of_getElem? hy)
      obtain ⟨x, rfl⟩ := Int.eq_ofNat_of_zero_le bx.1
      obtain ⟨y, rfl⟩ := Int.eq_ofNat_of_zero_le by_.1
      obtain ⟨ad, rfl, hb, hc⟩ := H3.out (by omega)
      obtain ⟨ad2, c2, e1, e2, e3, e4⟩ := G3.out x (by omega)
      have k1 : w1.cell? (ad.add (k - 1)) = some (.int .i64 x) := (hb01.cell (p := ad.add (k - 1)) (by rw [block_add]; exact hb)).trans (hc (k - 1) _ hx)
      have k2 : w1.cell? (ad.add k) = some (.int .i64 y) := (hb01.cell (p := ad.add k) (by rw [block_add]; exact hb)).trans (hc k _ hy)
      have k3 := e4 y (by omega)
      have GX := Lib.hid hx
      have GY := Lib.hid hy
      clear hc e4 hx hy
      cases ht : mayF xss x y with
      | true =>
        rw [ht] at k3
        have HA := Lib.hid (propB_iff.1 ht)
        clear ht
        go_wp2_with fail
        go_quiet (fail)
        go_wp2_with fail
        go_roundw
        case rel => exact ⟨k + 1, m + nq, by omega, by omega, by go_num, HU.out.next hk1 GX.out GY.out HA.out, by simp⟩
        case measure => simp [intOf]; omega
      | false =>
        rw [ht] at k3
        have HA := Lib.hid (show ¬ hasArc xss x y from fun h => by have := propB_t h; unfold mayF at ht; rw [this] at ht; cases ht)
        clear ht
        go_wp2_with fail
        go_quiet (fail)
        go_wp2_with fail
        go_ret
        refine ⟨ret_bool (propB_f (fun h => HA.out (h (k - 1) _ _ GX.out (by rw [show k - 1 + 1 = k by omega]; exact GY.out)))).symm, ?_⟩
        first | exact bl_drewN (bl_drewN hb01 _) _ | exact bl_drewN hb01 _
    · go_wp2_with fail
      go_ret
      exact ⟨ret_bool (propB_t (HU.out.all (by omega))).symm, bl_drewN hb01 _⟩
/-- The first arc from a label to itself, in the order of the arcs. -/
def LoopAt (xss : List (List Int)) (i : Int) : Prop :=
  (i = -1 ∧ ∀ a, ¬ hasArc xss a a) ∨ ∃ (k a : Nat), i = a ∧ xss[k]? = some [(a : Int), (a : Int)] ∧ ∀ j (b : Nat), j < k → xss[j]? ≠ some [(b : Int), (b : Int)]
def NoLoop (xss : List (List Int)) (k : Nat) : Prop := ∀ j (b : Nat), j < k → xss[j]? ≠ some [(b : Int), (b : Int)]
def WaLoopRel (xss : List (List Int)) (w : World) (i : Value) (wr : World) : Prop := ∃ k m : Nat, k ≤ xss.length ∧ i = .int .i64 k ∧ NoLoop xss k ∧ wr = w.drewN m
theorem spec_waLoop (n : Nat) (v : Value) (xss : List (List Int)) (w : World) (h : RowsR w w.heap.size v xss) (hg : Good n xss) :
    Calls Tryz.prog 56 #[.agg #[.int .i64 (n : Int), v]] w fun e w' => ∃ i : Int, e = .returned (.int .i64 i) ∧ LoopAt xss i ∧ Below w.heap.size w w' := by
  have HS := Lib.hid hg.small
  obtain ⟨A, c, rfl, h1, h2, h3⟩ := h.open_
  unfold maxLen at h2
  clear h hg
  have H3 := Lib.hid h3; clear h3
  have hb0 := bl_alloc (Below.refl w.heap.size w) (.cells #[.int .i64 (n : Int), .slice A xss.length c] 26)
  go_enter Tryz.func56, Tryz.ntmps56
  go_wp2_with fail
  generalize w.alloc (.cells #[.int .i64 (n : Int), .slice A xss.length c] 26) = w0 at *
  go_loopw [4, 8] (fun _ i wr => WaLoopRel xss w0 i wr) (fun _ i _ => xss.length - (intOf i).toNat)
  case atStart => exact ⟨0, 0, Nat.zero_le _, rfl, (fun j b h => absurd h (by omega)), rfl⟩
  case round =>
    obtain ⟨k, m, hk, rfl, hup, rfl⟩ := hrel
    have HU := Lib.hid hup; clear hup
    by_cases hlt : k < xss.length
    · obtain ⟨xs, hx⟩ : ∃ x, xss[k]? = some x := ⟨xss[k], List.getElem?_eq_getElem hlt⟩
      obtain ⟨x, y, rfl, hx1, hy1⟩ := small_pair (HS.out xs (List.mem_of_getElem? hx))
      obtain ⟨ad, rfl, hb, hc⟩ := H3.out (by omega)
      obtain ⟨u, hu, hr⟩ := hc k _ hx
      have hcell : w0.cell? (ad.add k) = some u := (hb0.cell (p := ad.add k) (by rw [block_add]; exact hb)).trans hu
      obtain ⟨A1, c1, rfl, g1, g2, g3⟩ := (hr.below hb0).open_
      obtain ⟨ad1, rfl, hb1, hc1⟩ := g3 (by simp)
      have k0 := hc1 0 _ rfl
      have k1 := hc1 1 _ rfl
      have e0 : ad1.add 0 = ad1 := by unfold Addr.add; simp
      have e1 : ad1.add 1 = ⟨ad1.block, ad1.off + 1, none⟩ := by unfold Addr.add; simp
      rw [e0] at k0
      rw [e1] at k1
      clear hc hr hu g3 hc1 e0 e1
      have GX := Lib.hid hx; clear hx
      by_cases q : x = y
      · subst q
        have t0 : ((x : Int) == (x : Int)) = true := by simp
        go_wp2_with fail
        go_quiet (fail)
        go_wp2_with fail
        go_ret
        exact ⟨x, rfl, .inr ⟨k, x, rfl, GX.out, HU.out⟩, by first | exact bl_drewN (bl_drewN hb0 _) _ | exact bl_drewN hb0 _⟩
      · have t0 : ((x : Int) == (y : Int)) = false := by rw [beq_eq_false_iff_ne]; omega
        have HQ := Lib.hid q; clear q
        go_wp2_with fail
        go_quiet (fail)
        go_wp2_with fail
        go_roundw
        case rel => exact ⟨k + 1, m + nq, by omega, by go_num, (fun j b hj e => by
          by_cases ej : j = k
          · subst ej; rw [GX.out] at e; simp at e; exact HQ.out (by omega)
          · exact HU.out j b (by omega) e), by simp⟩
        case measure => simp [intOf]; omega
    · go_wp2_with fail
      go_ret
      exact ⟨-1, rfl, .inl ⟨rfl, fun a ha => by
        obtain ⟨j, hj⟩ := List.mem_iff_getElem?.1 ha
        exact HU.out j a (by have := (List.getElem?_eq_some_iff.1 hj).1; omega) hj⟩, bl_drewN hb0 _⟩
def WaGcdRel (g : Nat) (w : World) (d n : Value) (wr : World) : Prop := ∃ a b m : Nat, a ≤ 1000000000 ∧ b ≤ 1000000000 ∧ d = .int .i64 (a : Int) ∧ n = .int .i64 (b : Int) ∧ Nat.gcd a b = g ∧ wr = w.drewN m
theorem spec_waGcd (a b : Nat) (w : World) (ha : a ≤ 1000000000) (hb : b ≤ 1000000000) :
    Calls Tryz.prog 70 #[.int .i64 (a : Int), .int .i64 (b : Int)] w fun e w' => e = .returned (.int .i64 (Nat.gcd a b : Int)) ∧ ∃ n, w' = w.drewN n := by
  go_enter Tryz.func70, Tryz.ntmps70
  go_wp2_with fail
  go_loopw [0, 1] (fun d n wr => WaGcdRel (Nat.gcd a b) w d n wr) (fun _ n _ => (intOf n).toNat)
  case atStart => exact ⟨a, b, 0, ha, hb, rfl, rfl, rfl, rfl⟩
  case round =>
    obtain ⟨a', b', m', ha', hb', rfl, rfl, hab, rfl⟩ := hrel
    have HA := Lib.hid hab; clear hab
    by_cases hz : b' = 0
    · have HZ := Lib.hid hz
      go_wp2_with fail
      go_ret
      exact ⟨ret_int (by rw [← HA.out, HZ.out, Nat.gcd_zero_right]), m', rfl⟩
    · have hm1 : a' % b' < b' := Nat.mod_lt _ (by omega)
      have t1 : ((b' : Int) == 0) = false := by rw [beq_eq_false_iff_ne]; omega
      have HM := Lib.hid (show Nat.gcd b' (a' % b') = Nat.gcd a' b' by rw [Nat.gcd_comm b', ← Nat.gcd_rec, Nat.gcd_comm])
      go_wp2_with fail
      go_quiet (fail)
      go_wp2_with fail
      have e1 : ((a' : Int) % (b' : Int)) = ((a' % b' : Nat) : Int) := by push_cast; rfl
      refine ⟨⟨b', a' % b', m' + nq, hb', by omega, rfl, by rw [e1], HM.out.trans HA.out, by simp⟩, ?_⟩
      rw [e1]
      simp only [intOf, Int.toNat_natCast]
      exact hm1
theorem spec_waRound (n : Nat) (v u : Value) (xss : List (List Int)) (l : List Int) (a : Int) (w : World) (h : RowsR w w.heap.size v xss) (hu : IntsR w w.heap.size u l) (hg : Good n xss) :
    Calls Tryz.prog 69 #[.agg #[.int .i64 (n : Int), v], u, .int .i64 a] w fun e w' => e = .returned (.bool (propB (closedP n xss l a))) ∧ Below w.heap.size w w' := by
  have hn : (1 : Int) ≤ n ∧ (n : Int) ≤ 12 := by have := hg.1; unfold inB at this; simpa using this
  have HH := Lib.hid h; clear h
  have HG := Lib.hid hg; clear hg
  have HU := Lib.hid hu
  obtain ⟨A, c, rfl, h1, h2, h3⟩ := hu.open_
  unfold maxLen at h2
  clear hu
  have H3 := Lib.hid h3; clear h3
  have hb0 := bl_alloc (Below.refl w.heap.size w) (.cells #[.int .i64 (n : Int), v] 26)
  cases q1 : inB l.length 2 200 with
  | false =>
    have H1 := Lib.hid (closedP_1 (n := n) (xss := xss) (a := a) q1)
    go_enter Tryz.func69, Tryz.ntmps69
    go_wp2_with (go_at_call 54; refine (spec_l1In _ _ _ _).mono ?_; rintro e w' ⟨rfl, rfl⟩)
    go_ret
    exact ⟨ret_bool H1.out.symm, hb0⟩
  | true =>
    have hlen : (2 : Int) ≤ l.length ∧ (l.length : Int) ≤ 200 := by unfold inB at q1; simpa using q1
    obtain ⟨ad, rfl, hb, hc⟩ := H3.out (by omega)
    have e0 : ad.add 0 = ad := by unfold Addr.add; simp
    obtain ⟨x, hx⟩ : ∃ x, l[0]? = some x := ⟨l[0]'(by omega), List.getElem?_eq_getElem (by omega)⟩
    obtain ⟨y, hy⟩ : ∃ y, l[l.length - 1]? = some y := ⟨l[l.length - 1]'(by omega), List.getElem?_eq_getElem (by omega)⟩
    have c0 := hc 0 x hx
    have c1 := hc (l.length - 1) y hy
    rw [e0] at c0
    have GX := Lib.hid hx
    have GY := Lib.hid hy
    have C0 := Lib.hid c0
    have C1 := Lib.hid c1
    clear hc hx hy c0 c1 e0
    go_enter Tryz.func69, Tryz.ntmps69
    go_wp2_with (go_at_call 54; refine (spec_l1In _ _ _ _).mono ?_; rintro e w' ⟨rfl, rfl⟩)
    refine (spec_l1All _ l 0 ((n : Int) - 1) _ ((HU.out.below hb0).more (by simp))).mono ?_
    rintro e w1 ⟨rfl, hw1⟩
    subst hw1
    have k0 := (hb0.cell (p := ad) hb).trans C0.out
    have k1 := (hb0.cell (p := ad.add (l.length - 1)) (by rw [block_add]; exact hb)).trans C1.out
    cases q2 : allB l 0 ((n : Int) - 1) with
    | false =>
      have H1 := Lib.hid (closedP_2 (xss := xss) (a := a) q2)
      go_wp2_with fail
      go_ret
      exact ⟨ret_bool H1.out.symm, hb0⟩
    | true =>
      by_cases q3 : x = a
      · subst q3
        by_cases q4 : y = x
        · subst q4
          have H1 := Lib.hid (closedP_5 (xss := xss) q1 q2 GX.out GY.out)
          go_wp2_with fail
          refine (spec_waWalk n v _ xss l _ ((HH.out.below hb0).more hb0.size) ((HU.out.below hb0).more hb0.size) HG.out q2).mono ?_
          rintro e w2 ⟨rfl, hb2⟩
          go_wp2_with fail
          go_ret
          exact ⟨ret_bool H1.out.symm, bl_trans hb0 hb2⟩
        · have t4 : (y == x) = false := by simpa using q4
          have H1 := Lib.hid (closedP_4 (n := n) (xss := xss) GY.out q4)
          go_wp2_with fail
          go_ret
          exact ⟨ret_bool H1.out.symm, hb0⟩
      · have t3 : (x == a) = false := by simpa using q3
        have H1 := Lib.hid (closedP_3 (n := n) (xss := xss) GX.out q3)
        go_wp2_with fail
        go_ret
        exact ⟨ret_bool H1.out.symm, hb0⟩
end Go.Proofs.YtjhljipehnmbnaaGreat
