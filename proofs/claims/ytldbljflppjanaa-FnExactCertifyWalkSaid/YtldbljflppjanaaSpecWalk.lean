/-
  The reference's walks (waWalk), loops (waLoop), closed walks (waRound) and greatest common divisors (waGcd), for every good walk problem.
-/
import Derived.Test.YtldbljflppjanaaRows
import Derived.Test.YtldbljflppjanaaKit
import Derived.Test.YtldbljflppjanaaMem
import Derived.Test.YtldbljflppjanaaBasic
import Derived.Test.YtldbljflppjanaaArgs
import Derived.Test.YtldbljflppjanaaLists
import Derived.Test.YtldbljflppjanaaGood
import Derived.Test.YtldbljflppjanaaArcs
import Derived.Test.YtldbljflppjanaaAfter
import Derived.Test.YtldbljflppjanaaClosed
import Derived.Test.YtldbljflppjanaaMay
import Derived.WalkKit
import Derived.WalkSpells
import Derived.WalkLawsBesides
import Derived.Lib.Hide
import Derived.Deep.QuietTactic
import Derived.BigQuiet
namespace Go.Proofs.Ytldbljflppjanaa
open Go.RowKit
set_option linter.unusedVariables false

/-- The first arc from a label to itself, in the order of the arcs. -/
def LoopAt (xss : List (List Int)) (i : Int) : Prop :=
  (i = -1 ∧ ∀ a, ¬ hasArc xss a a) ∨ ∃ (k a : Nat), i = a ∧ xss[k]? = some [(a : Int), (a : Int)] ∧ ∀ j (b : Nat), j < k → xss[j]? ≠ some [(b : Int), (b : Int)]
def NoLoop (xss : List (List Int)) (k : Nat) : Prop := ∀ j (b : Nat), j < k → xss[j]? ≠ some [(b : Int), (b : Int)]
def WaLoopRel (xss : List (List Int)) (w : World) (i : Value) (wr : World) : Prop := ∃ k m : Nat, k ≤ xss.length ∧ i = .int .i64 k ∧ NoLoop xss k ∧ wr = w.drewN m
theorem spec_waLoop (n : Nat) (v : Value) (xss : List (List Int)) (w : World) (h : RowsR w w.heap.size v xss) (hg : Good n xss) :
    Calls Try.prog 36 #[.agg #[.int .i64 (n : Int), v]] w fun e w' => ∃ i : Int, e = .returned (.int .i64 i) ∧ LoopAt xss i ∧ Below w.heap.size w w' := by
  have HS := Lib.hid hg.small
  obtain ⟨A, c, rfl, h1, h2, h3⟩ := h.open_
  unfold maxLen at h2
  clear h hg
  have H3 := Lib.hid h3; clear h3
  have hb0 := bl_alloc (Below.refl w.heap.size w) (.cells #[.int .i64 (n : Int), .slice A xss.length c] 31)
  go_enter Try.func36, Try.ntmps36
  go_wp2_with fail
  generalize w.alloc (.cells #[.int .i64 (n : Int), .slice A xss.length c] 31) = w0 at *
  go_loopw [4, 8] (fun _ i wr => WaLoopRel xss w0 i wr) (fun _ i _ => xss.length - (intOf i).toNat)
  case atStart => exact ⟨0, 0, Nat.zero_le _, rfl, (fun j b h => absurd h (by omega)), rfl⟩
  case round =>
    obtain ⟨k, m, hk, rfl, hup, rfl⟩ := hrel
    have HU := Lib.hid hup; clear hup
    by_cases hlt : k < xss.length
    · obtain ⟨xs, hx⟩ : ∃ x, xss[k]? = some x := ⟨xss[k], List.getElem?_eq_getElem hlt⟩
      obtain ⟨x, y, rfl, hx1, hy1⟩ := small_pair (HS.out xs (List.mem_of_getElem? hx))
      obtain ⟨ad, rfl, hb, hc⟩ := H3.out (by omega)
      obtain ⟨u, hu, hr⟩ := hc k _ hx
      have hcell : w0.cell? (ad.add k) = some u := (hb0.cell (p := ad.add k) (by rw [block_add]; exact hb)).trans hu
      obtain ⟨A1, c1, rfl, g1, g2, g3⟩ := (hr.below hb0).open_
      obtain ⟨ad1, rfl, hb1, hc1⟩ := g3 (by simp)
      have k0 := hc1 0 _ rfl
      have k1 := hc1 1 _ rfl
      have e0 : ad1.add 0 = ad1 := by unfold Addr.add; simp
      have e1 : ad1.add 1 = ⟨ad1.block, ad1.off + 1, none⟩ := by unfold Addr.add; simp
      rw [e0] at k0
      rw [e1] at k1
      clear hc hr hu g3 hc1 e0 e1
      have GX := Lib.hid hx; clear hx
      by_cases q : x = y
      · subst q
        have t0 : ((x : Int) == (x : Int)) = true := by simp
        go_wp2_with fail
        go_quiet (fail)
        go_wp2_with fail
        go_ret
        exact ⟨x, rfl, .inr ⟨k, x, rfl, GX.out, HU.out⟩, by first | exact bl_drewN (bl_drewN hb0 _) _ | exact bl_drewN hb0 _⟩
      · have t0 : ((x : Int) == (y : Int)) = false := by rw [beq_eq_false_iff_ne]; omega
        have HQ := Lib.hid q; clear q
        go_wp2_with fail
        go_quiet (fail)
        go_wp2_with fail
        go_roundw
        case rel => exact ⟨k + 1, m + nq, by omega, by go_num, (fun j b hj e => by
          by_cases ej : j = k
          · subst ej; rw [GX.out] at e; simp at e; exact HQ.out (by omega)
          · exact HU.out j b (by omega) e), by simp⟩
        case measure => simp [intOf]; omega
    · go_wp2_with fail
      go_ret
      exact ⟨-1, rfl, .inl ⟨rfl, fun a ha => by
        obtain ⟨j, hj⟩ := List.mem_iff_getElem?.1 ha
        exact HU.out j a (by have := (List.getElem?_eq_some_iff.1 hj).1; omega) hj⟩, bl_drewN hb0 _⟩
def WaGcdRel (g : Nat) (w : World) (d n : Value) (wr : World) : Prop := ∃ a b m : Nat, a ≤ 1000000000 ∧ b ≤ 1000000000 ∧ d = .int .i64 (a : Int) ∧ n = .int .i64 (b : Int) ∧ Nat.gcd a b = g ∧ wr = w.drewN m
theorem spec_waGcd (a b : Nat) (w : World) (ha : a ≤ 1000000000) (hb : b ≤ 1000000000) :
    Calls Try.prog 65 #[.int .i64 (a : Int), .int .i64 (b : Int)] w fun e w' => e = .returned (.int .i64 (Nat.gcd a b : Int)) ∧ ∃ n, w' = w.drewN n := by
  go_enter Try.func65, Try.ntmps65
  go_wp2_with fail
  go_loopw [0, 1] (fun d n wr => WaGcdRel (Nat.gcd a b) w d n wr) (fun _ n _ => (intOf n).toNat)
  case atStart => exact ⟨a, b, 0, ha, hb, rfl, rfl, rfl, rfl⟩
  case round =>
    obtain ⟨a', b', m', ha', hb', rfl, rfl, hab, rfl⟩ := hrel
    have HA := Lib.hid hab; clear hab
    by_cases hz : b' = 0
    · have HZ := Lib.hid hz
      go_wp2_with fail
      go_ret
      exact ⟨ret_int (by rw [← HA.out, HZ.out, Nat.gcd_zero_right]), m', rfl⟩
    · have hm1 : a' % b' < b' := Nat.mod_lt _ (by omega)
      have t1 : ((b' : Int) == 0) = false := by rw [beq_eq_false_iff_ne]; omega
      have HM := Lib.hid (show Nat.gcd b' (a' % b') = Nat.gcd a' b' by rw [Nat.gcd_comm b', ← Nat.gcd_rec, Nat.gcd_comm])
      go_wp2_with fail
      go_quiet (fail)
      go_wp2_with fail
      have e1 : ((a' : Int) % (b' : Int)) = ((a' % b' : Nat) : Int) := by push_cast; rfl
      refine ⟨⟨b', a' % b', m' + nq, hb', by omega, rfl, by rw [e1], HM.out.trans HA.out, by simp⟩, ?_⟩
      rw [e1]
      simp only [intOf, Int.toNat_natCast]
      exact hm1
end Go.Proofs.Ytldbljflppjanaa
