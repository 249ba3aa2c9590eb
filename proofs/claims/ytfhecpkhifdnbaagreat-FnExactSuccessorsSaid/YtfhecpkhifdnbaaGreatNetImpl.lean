/-
  Networks, the program's side: identifiers, inputs, ports.
-/
import Derived.Test.YtfhecpkhifdnbaaGreatNetTop
import Derived.Test.YtfhecpkhifdnbaaGreatWithin
import Derived.Test.YtfhecpkhifdnbaaGreatShelf
namespace Go.Proofs.YtfhecpkhifdnbaaGreat
open Go.RowKit
set_option linter.unusedVariables false
set_option linter.unusedSimpArgs false
def RiseTo (xs : List Int) (lo hi : Int) (k : Nat) : Prop := ∀ (i : Nat) (x : Int), i < k → xs[i]? = some x → inB x lo hi = true ∧ (0 < i → ∀ y, xs[i - 1]? = some y → y < x)
noncomputable def riseB (xs : List Int) (lo hi : Int) : Bool := propB (risingP xs lo hi)
theorem RiseTo.next {xs : List Int} {lo hi : Int} {k : Nat} {x : Int} (h : RiseTo xs lo hi k) (hx : xs[k]? = some x) (h1 : inB x lo hi = true) (h2 : 0 < k → ∀ y, xs[k - 1]? = some y → y < x) : RiseTo xs lo hi (k + 1) := fun i y hi' hy => by
  by_cases e : i = k
  · subst e
    obtain rfl := Option.some.inj (hx.symm.trans hy)
    exact ⟨h1, h2⟩
  · exact h i y (by omega) hy
theorem rise_no1 {xs : List Int} {lo hi x : Int} {k : Nat} (hx : xs[k]? = some x) (h : inB x lo hi = false) : riseB xs lo hi = false := propB_f fun hp => by
  rw [inB_t (hp.1 x (List.mem_of_getElem? hx))] at h
  cases h
theorem rise_no2 {xs : List Int} {lo hi x y : Int} {k : Nat} (hx : xs[k + 1]? = some x) (hy : xs[k]? = some y) (h : ¬ y < x) : riseB xs lo hi = false := propB_f fun hp => h (hp.2 k y x hy hx)
theorem rise_end {xs : List Int} {lo hi : Int} {k : Nat} (h : RiseTo xs lo hi k) (hk : xs.length ≤ k) : riseB xs lo hi = true := propB_t ⟨fun x hx => by
    obtain ⟨j, hj⟩ := List.mem_iff_getElem?.1 hx
    have := (h j x (by have := (List.getElem?_eq_some_iff.1 hj).1; omega) hj).1
    unfold inB at this
    exact of_decide_eq_true this, fun i a b ha hb => (h (i + 1) b (by have := (List.getElem?_eq_some_iff.1 hb).1; omega) hb).2 (by omega) a (by simpa using ha)⟩
def RsRel (xs : List Int) (lo hi : Int) (w : World) (i : Value) (wr : World) : Prop := w = wr ∧ ∃ k : Nat, k ≤ xs.length ∧ i = .int .i64 k ∧ RiseTo xs lo hi k
theorem impl_increasing (v : Value) (xs : List Int) (lo hi : Int) (w : World) (h : IntsR w w.heap.size v xs) :
    Calls Tryz.prog 217 #[v, .int .i64 lo, .int .i64 hi] w fun e w' => e = .returned (.bool (riseB xs lo hi)) ∧ w = w' := by
  obtain ⟨A, c, rfl, h1, h2, h3⟩ := h.open_
  unfold maxLen at h2
  clear h
  go_enter Tryz.func217, Tryz.ntmps217
  go_wp2_with fail
  go_loopw [7, 8, 11] (fun _ _ i wr => RsRel xs lo hi w i wr) (fun _ _ i _ => xs.length - (intOf i).toNat)
  case atStart => exact ⟨rfl, 0, Nat.zero_le _, rfl, fun _ _ h => absurd h (by omega)⟩
  case round =>
    obtain ⟨rfl, k, hk, rfl, hup⟩ := hrel
    have HU := Lib.hid hup; clear hup
    by_cases hlt : k < xs.length
    · obtain ⟨x, hx⟩ : ∃ y, xs[k]? = some y := ⟨xs[k], List.getElem?_eq_getElem hlt⟩
      obtain ⟨ad, rfl, hb, hc⟩ := h3 (by omega)
      have hcell := hc k x hx
      have HX := Lib.hid hx
      cases hp : inB x lo hi with
      | false =>
        clear h3 hc hx
        go_wp2_with (go_at_call 75; refine (impl_within _ _ _ _).mono ?_; rintro e w' ⟨rfl, rfl⟩)
        go_ret
        exact ⟨ret_bool (rise_no1 HX.out hp).symm, rfl⟩
      | true =>
        by_cases h0 : 0 < k
        · obtain ⟨j, hj⟩ : ∃ j, j = k - 1 := ⟨_, rfl⟩
          have HJ := Lib.hid (show k = j + 1 by omega)
          have hjl : j < xs.length := by omega
          obtain ⟨y, hy⟩ : ∃ y, xs[j]? = some y := ⟨_, List.getElem?_eq_getElem hjl⟩
          have hcell2 := hc j y hy
          have HY := Lib.hid hy
          have hj1 : (k : Int) - 1 = (j : Int) := by omega
          clear hj
          clear h3 hc hx hy
          by_cases hlt2 : y < x
          · go_wp2_with (go_at_call 75; refine (impl_within _ _ _ _).mono ?_; rintro e w' ⟨rfl, rfl⟩)
            go_roundw
            case rel => exact ⟨rfl, k + 1, by omega, by go_num, HU.out.next HX.out hp fun _ z hz => by
              rw [HJ.out, Nat.add_sub_cancel] at hz
              obtain rfl := Option.some.inj (HY.out.symm.trans hz)
              exact hlt2⟩
            case measure => simp [intOf]; omega
          · go_wp2_with (go_at_call 75; refine (impl_within _ _ _ _).mono ?_; rintro e w' ⟨rfl, rfl⟩)
            go_ret
            exact ⟨ret_bool (rise_no2 (k := j) (by rw [← HJ.out]; exact HX.out) HY.out (by omega)).symm, rfl⟩
        · clear h3 hc hx
          go_wp2_with (go_at_call 75; refine (impl_within _ _ _ _).mono ?_; rintro e w' ⟨rfl, rfl⟩)
          go_roundw
          case rel => exact ⟨rfl, k + 1, by omega, by go_num, HU.out.next HX.out hp fun h => absurd h (by omega)⟩
          case measure => simp [intOf]; omega
    · go_wp2
      go_ret
      exact ⟨ret_bool (rise_end HU.out (by omega)).symm, rfl⟩
theorem impl_inputsOk (v : Value) (xs : List Int) (n : Nat) (w : World) (h : IntsR w w.heap.size v xs) (hn : n ≤ 2000000) :
    Calls Tryz.prog 202 #[v, .int .i64 (n : Int)] w fun e w' => e = .returned (.bool (decide (xs.length = n) && allB xs 0 9)) ∧ Below w.heap.size w w' := by
  have HH := Lib.hid h
  obtain ⟨A, c, rfl, h1, h2, h3⟩ := h.open_
  unfold maxLen at h2
  clear h h3
  by_cases hl : xs.length = n
  · have kq : (((xs.length : Nat) : Int) == (n : Int)) = true := by rw [hl]; simp
    have HL := Lib.hid hl; clear hl
    go_enter Tryz.func202, Tryz.ntmps202
    go_wp2_with fail
    refine (impl_allWithin _ xs 0 9 w HH.out).mono ?_
    rintro e w1 ⟨rfl, hb1⟩
    go_wp2_with fail
    go_ret
    exact ⟨ret_bool (by rw [decide_eq_true HL.out]; rfl), hb1⟩
  · have kq : (((xs.length : Nat) : Int) == (n : Int)) = false := by rw [beq_eq_false_iff_ne]; omega
    have HL := Lib.hid hl; clear hl
    go_enter Tryz.func202, Tryz.ntmps202
    go_wp2_with fail
    go_ret
    exact ⟨ret_bool (by rw [decide_eq_false HL.out]; rfl), Below.refl _ _⟩
theorem impl_hasNode (ve vi vn : Value) (n : Net) (x : Int) (w : World) (h : NetR w w.heap.size ve vi vn n) (hz : n.es.length ≤ 2000000) :
    Calls Tryz.prog 116 #[.agg #[ve, vi, vn], .int .i64 x] w fun e w' => e = .returned (.bool (inB x 0 ((n.es.length : Int) - 1))) ∧ Below w.heap.size w w' := by
  obtain ⟨⟨A0, m0, c0, rfl⟩, ⟨A1, m1, c1, rfl⟩, A2, m2, c2, rfl⟩ := h.slices
  obtain ⟨w0, hw0, hB, HD, hz0, HS0⟩ := box3 w (.slice A0 m0 c0) (.slice A1 m1 c1) (.slice A2 m2 c2) 31
  have HN0 := Lib.hid h; have HN := Lib.hid (h.up hB); clear h
  have HW0 := Lib.hid hw0; clear hw0
  obtain ⟨q0, q1, q2, qf⟩ := cells3 HD
  obtain ⟨hm0, -, -⟩ := HN.out.e.len_slice
  subst hm0
  have hwr : IntKind.i64.wrap ((n.es.length : Int) - 1) = (n.es.length : Int) - 1 := IntWalk.i64_in _ (by omega)
  go_enter Tryz.func116, Tryz.ntmps116
  go_wp2_with (go_at_call 75; refine (impl_within _ _ _ _).mono ?_; rintro e w' ⟨rfl, rfl⟩)
  go_ret
  rw [← HW0.out]
  exact ⟨rfl, hB⟩
/-- There are a node and a port. -/
noncomputable def portB (n : Net) (x p : Int) : Bool := propB (0 ≤ x ∧ 0 ≤ p ∧ ∃ l, n.es[x.toNat]? = some l ∧ p.toNat < l.length)
theorem port_no1 {n : Net} {x p : Int} (h : inB x 0 ((n.es.length : Int) - 1) = false) : portB n x p = false := propB_f fun ⟨h0, _, l, hl, _⟩ => by
  have := (List.getElem?_eq_some_iff.1 hl).1
  rw [inB_t (by omega)] at h
  cases h
theorem port_at {n : Net} {a : Nat} {p : Int} {l : Ends} (hl : n.es[a]? = some l) : portB n (a : Int) p = inB p 0 ((l.length : Int) - 1) := by
  cases h : inB p 0 ((l.length : Int) - 1) with
  | true =>
    obtain ⟨q, rfl, hq⟩ := inB_nat h
    exact propB_t ⟨by omega, by omega, l, by rw [Int.toNat_natCast]; exact hl, by rw [Int.toNat_natCast]; exact hq⟩
  | false =>
    refine propB_f fun ⟨_, h0, l', hl', hq⟩ => ?_
    rw [Int.toNat_natCast, hl] at hl'
    obtain rfl := Option.some.inj hl'
    rw [inB_t (by omega)] at h
    cases h
theorem impl_hasPort (ve vi vn : Value) (n : Net) (x p : Int) (w : World) (h : NetR w w.heap.size ve vi vn n) (hz : n.es.length ≤ 2000000) :
    Calls Tryz.prog 118 #[.agg #[ve, vi, vn], .int .i64 x, .int .i64 p] w fun e w' => e = .returned (.bool (portB n x p)) ∧ Below w.heap.size w w' := by
  obtain ⟨⟨A0, m0, c0, rfl⟩, ⟨A1, m1, c1, rfl⟩, A2, m2, c2, rfl⟩ := h.slices
  obtain ⟨w0, hw0, hB, HD, hz0, HS0⟩ := box3 w (.slice A0 m0 c0) (.slice A1 m1 c1) (.slice A2 m2 c2) 31
  have HN0 := Lib.hid h; have HN := Lib.hid (h.up hB); clear h
  have HW0 := Lib.hid hw0; clear hw0
  obtain ⟨q0, q1, q2, qf⟩ := cells3 HD
  obtain ⟨hm0, -, -⟩ := HN.out.e.len_slice
  subst hm0
  go_enter Tryz.func118, Tryz.ntmps118
  go_wp2_with fail
  rw [← HW0.out]
  refine (impl_hasNode _ _ _ n x w0 HN.out hz).mono ?_
  rintro e w1 ⟨rfl, hb1⟩
  have hzhb1 := hb1.size
  clear q0 q1 q2 qf
  replace HD := bk HD hb1
  replace HN := Lib.hid (HN.out.up hb1)
  replace hB := bl_trans hB hb1
  obtain ⟨q0, q1, q2, qf⟩ := cells3 HD
  cases g : inB x 0 ((n.es.length : Int) - 1) with
  | false =>
    go_wp2_with fail
    go_ret
    exact ⟨ret_bool (port_no1 g).symm, hB⟩
  | true =>
    obtain ⟨a, rfl, hal⟩ := inB_nat g
    obtain ⟨l, hl⟩ : ∃ y, n.es[a]? = some y := ⟨_, List.getElem?_eq_getElem hal⟩
    obtain ⟨ad, rfl⟩ := HN.out.e.some_ (by omega)
    obtain ⟨-, u, r0, hr⟩ := HN.out.e.at_ hl
    obtain ⟨A', c', rfl, hlc, hlm, -⟩ := hr
    unfold maxLen at hlm
    have HPA := Lib.hid (port_at (p := p) hl)
    have hwr : IntKind.i64.wrap ((l.length : Int) - 1) = (l.length : Int) - 1 := IntWalk.i64_in _ (by omega)
    clear hl
    go_wp2_with (go_at_call 75; refine (impl_within _ _ _ _).mono ?_; rintro e w' ⟨rfl, rfl⟩)
    go_ret
    exact ⟨ret_bool HPA.out.symm, hB⟩
end Go.Proofs.YtfhecpkhifdnbaaGreat
