/-
  Networks, the reference's side: rings, rules, what a network is, counts of states.
-/
import Derived.Test.YtfhecpkhifdnbaaGreatNetSpec2
namespace Go.Proofs.YtfhecpkhifdnbaaGreat
open Go.RowKit
set_option linter.unusedVariables false
set_option linter.unusedSimpArgs false
def rowOk (l : Ends) : Prop := l.length = 2 ∧ ∃ e, l[0]? = some e ∧ e.2 = 1
def RingTo (n : Net) (k : Nat) : Prop := ∀ (v : Nat) (l : Ends), v < k → n.es[v]? = some l → rowOk l
theorem RingTo.next {n : Net} {k : Nat} {l : Ends} (h : RingTo n k) (hl : n.es[k]? = some l) (hr : rowOk l) : RingTo n (k + 1) := fun v l' hv hl' => by
  by_cases e : v = k
  · subst e
    obtain rfl := Option.some.inj (hl.symm.trans hl')
    exact hr
  · exact h v l' (by omega) hl'
theorem ring_no {n : Net} {k : Nat} {l : Ends} (hl : n.es[k]? = some l) (hr : ¬ rowOk l) : ringB n = false := propB_f fun h => hr (h.2.2.2 l (List.mem_of_getElem? hl))
theorem ring_end {n : Net} {k : Nat} (h : RingTo n k) (hk : n.es.length ≤ k) : ringB n = (decide (n.es.length > 1) && (decide ((onesN n.ins : Int) = 1) && connB n)) := by
  have hall : ∀ l ∈ n.es, rowOk l := fun l hl => by
    obtain ⟨v, hv⟩ := List.mem_iff_getElem?.1 hl
    exact h v l (by have := (List.getElem?_eq_some_iff.1 hv).1; omega) hv
  unfold ringB connB
  rw [Bool.eq_iff_iff, propB_iff, Bool.and_eq_true, Bool.and_eq_true, propB_iff, decide_eq_true_eq, decide_eq_true_eq]
  constructor
  · rintro ⟨h1, h2, h3, h4⟩
    exact ⟨by omega, by omega, h2⟩
  · rintro ⟨h1, h2, h3⟩
    exact ⟨by omega, h3, by omega, hall⟩
theorem ones_snoc {xs : List Int} {k : Nat} {x : Int} (h : xs[k]? = some x) : onesN (xs.take (k + 1)) = onesN (xs.take k) + (if x = 1 then 1 else 0) := by
  obtain ⟨hk, rfl⟩ := List.getElem?_eq_some_iff.1 h
  rw [List.take_succ_eq_append_getElem hk]
  unfold onesN
  rw [List.countP_append, List.countP_singleton]
  simp
theorem onesN_le (xs : List Int) : onesN xs ≤ xs.length := List.countP_le_length
theorem EndssR.some_ {w : World} {S : Nat → Prop} {A : Option Addr} {m c : Nat} {ess : List Ends} (h : EndssR w S (.slice A m c) ess) (hk : 0 < ess.length) : ∃ ad, A = some ad := by
  obtain ⟨A', c', e, -, -, h3⟩ := h
  obtain ⟨ad, e', -⟩ := h3 hk
  cases e
  exact ⟨ad, e'⟩
theorem IntsR.some_ {w : World} {B : Nat} {A : Option Addr} {m c : Nat} {xs : List Int} (h : IntsR w B (.slice A m c) xs) : m = xs.length ∧ m ≤ c ∧ c ≤ maxLen ∧ (0 < xs.length → ∃ ad, A = some ad ∧ ad.block < B ∧ ∀ j x, xs[j]? = some x → w.cell? (ad.add j) = some (.int .i64 x)) := by
  obtain ⟨A', c', e, h1, h2, h3⟩ := h.open_
  cases e
  exact ⟨rfl, h1, h2, h3⟩
def RgRel (n : Net) (w : World) (o i : Value) (wr : World) : Prop := w = wr ∧ ∃ k : Nat, k ≤ n.es.length ∧ i = .int .i64 k ∧ o = .int .i64 (onesN (n.ins.take k) : Int) ∧ RingTo n k
theorem spec_ssRing (ve vi vn : Value) (n : Net) (w : World) (h : NetR w w.heap.size ve vi vn n) (hp : netP n) :
    Calls Tryz.prog 199 #[.agg #[ve, vi, vn]] w fun e w' => e = .returned (.bool (ringB n)) ∧ Below w.heap.size w w' := by
  have h40 := hp.1.2
  have hil := hp.2.2.1
  have HP := Lib.hid hp; clear hp
  obtain ⟨⟨A0, m0, c0, rfl⟩, ⟨A1, m1, c1, rfl⟩, A2, m2, c2, rfl⟩ := h.slices
  obtain ⟨w0, hw0, hB, HD, hz0, HS0⟩ := box3 w (.slice A0 m0 c0) (.slice A1 m1 c1) (.slice A2 m2 c2) 31
  have HN0 := Lib.hid h; have HN := Lib.hid (h.up hB); clear h
  have HW0 := Lib.hid hw0; clear hw0
  obtain ⟨q0, q1, q2, qf⟩ := cells3 HD
  obtain ⟨hm0, -, -⟩ := HN.out.e.len_slice
  subst hm0
  obtain ⟨hm2, -, hc2, hn2⟩ := HN.out.n.some_
  subst hm2
  have HIL := Lib.hid hil; clear hil
  go_enter Tryz.func199, Tryz.ntmps199
  go_wp2_with fail
  rw [← HW0.out]
  go_loopw [3, 4, 5, 9] (fun o _ _ i wr => RgRel n w0 o i wr) (fun _ _ _ i _ => n.es.length - (intOf i).toNat)
  case atStart => exact ⟨rfl, 0, Nat.zero_le _, rfl, rfl, fun _ _ h => absurd h (by omega)⟩
  case round =>
    obtain ⟨rfl, k, hk, rfl, rfl, hup⟩ := hrel
    have HU := Lib.hid hup; clear hup
    by_cases hlt : k < n.es.length
    · obtain ⟨l, hl⟩ : ∃ y, n.es[k]? = some y := ⟨n.es[k], List.getElem?_eq_getElem hlt⟩
      obtain ⟨ad, rfl⟩ := HN.out.e.some_ (by omega)
      obtain ⟨hbb, u, hu, hr⟩ := HN.out.e.at_ hl
      have HR := Lib.hid hr
      obtain ⟨A', c', rfl, -, -, -, h4⟩ := hr
      have HL := Lib.hid hl; clear hl
      have hl6 := HP.out.len HL.out
      by_cases hl2 : l.length = 2
      · obtain ⟨e, he⟩ : ∃ e, l[0]? = some e := ⟨_, List.getElem?_eq_getElem (by omega)⟩
        obtain ⟨b, o, rfl, -, -⟩ := h4 (by omega)
        obtain ⟨-, -, e1⟩ := HR.out.at_ he
        rw [Nat.zero_mul, Nat.add_zero] at e1
        have HE := Lib.hid he; clear he
        have hl2a : l.length ≤ 2 ∧ 2 ≤ l.length := by omega
        have HL2 := Lib.hid hl2; clear hl2
        by_cases h1 : e.2 = 1
        · obtain ⟨x, hx⟩ : ∃ x, n.ins[k]? = some x := ⟨_, List.getElem?_eq_getElem (by rw [HIL.out]; exact hlt)⟩
          obtain ⟨ad2, rfl, -, hi⟩ := hn2 (by rw [HIL.out]; omega)
          have hxc := hi k x hx
          have HS := Lib.hid (ones_snoc hx)
          have hol := onesN_le (n.ins.take k)
          rw [List.length_take] at hol
          have HX := Lib.hid (show RingTo n (k + 1) from HU.out.next HL.out ⟨HL2.out, e, HE.out, h1⟩)
          rw [h1] at e1
          clear hi hx h1 h4
          generalize onesN (n.ins.take k) = q at *
          have hki : k < n.ins.length := by rw [HIL.out]; exact hlt
          by_cases hx1 : x = 1
          · subst hx1
            go_wp2_with fail
            go_roundw
            case rel => exact ⟨rfl, k + 1, by omega, by go_num, by rw [HS.out]; go_num, HX.out⟩
            case measure => simp [intOf]; omega
          · have kq : (x == 1) = false := by simpa using hx1
            go_wp2_with fail
            go_roundw
            case rel => exact ⟨rfl, k + 1, by omega, by go_num, by rw [HS.out, if_neg hx1]; go_num, HX.out⟩
            case measure => simp [intOf]; omega
        · have kq : (e.2 != 1) = true := by simpa using h1
          have HF := Lib.hid (ring_no HL.out (fun h => by
            obtain ⟨e', he', h2⟩ := h.2
            obtain rfl := Option.some.inj (HE.out.symm.trans he')
            exact h1 h2))
          clear h1 h4
          go_wp2_with fail
          go_ret
          exact ⟨ret_bool HF.out.symm, hB⟩
      · have HF := Lib.hid (ring_no HL.out (fun h => hl2 h.1))
        have kq : (((l.length : Nat) : Int) != 2) = true := by rw [bne_iff_ne]; omega
        clear h4
        go_wp2_with fail
        go_ret
        exact ⟨ret_bool HF.out.symm, hB⟩
    · have HE := Lib.hid (ring_end HU.out (by omega))
      have e1 : n.ins.take k = n.ins := List.take_of_length_le (by rw [HIL.out]; omega)
      rw [e1]
      clear e1
      generalize ((onesN n.ins : Nat) : Int) = q at *
      by_cases g1 : n.es.length > 1
      · by_cases g2 : q = 1
        · subst g2
          go_wp2_with (go_at_call 239; refine (spec_meConnected _ _ _ n w0 HN.out HP.out).mono ?_; rintro e w1 ⟨rfl, hb1⟩)
          go_ret
          exact ⟨ret_bool (by rw [HE.out]; simp [g1]), bl_trans hB hb1⟩
        · have kq : (q == 1) = false := by simpa using g2
          go_wp2_with fail
          go_ret
          exact ⟨ret_bool (by rw [HE.out]; simp [g2]), hB⟩
      · go_wp2_with fail
        go_ret
        exact ⟨ret_bool (by rw [HE.out]; simp [g1]), hB⟩
noncomputable def runsB (n : Net) (r : Int) : Bool := propB (runsP n r)
theorem runs_eq (n : Net) (r : Int) : runsB n r = (plainB n && (decide (r ≠ 5) || ringB n)) := by
  unfold runsB plainB ringB runsP
  rw [Bool.eq_iff_iff, propB_iff, Bool.and_eq_true, propB_iff, Bool.or_eq_true, propB_iff, decide_eq_true_eq]
  constructor
  · rintro ⟨h1, h2⟩
    exact ⟨h1, by by_cases e : r = 5; exact .inr (h2 e); exact .inl e⟩
  · rintro ⟨h1, h2⟩
    exact ⟨h1, fun e => by rcases h2 with h | h; exact absurd e h; exact h⟩
theorem spec_ssRuns (ve vi vn : Value) (n : Net) (r : Int) (w : World) (h : NetR w w.heap.size ve vi vn n) (hp : netP n) :
    Calls Tryz.prog 154 #[.agg #[ve, vi, vn], .int .i64 r] w fun e w' => e = .returned (.bool (runsB n r)) ∧ Below w.heap.size w w' := by
  have HP := Lib.hid hp; clear hp
  have HE := Lib.hid (runs_eq n r)
  obtain ⟨⟨A0, m0, c0, rfl⟩, ⟨A1, m1, c1, rfl⟩, A2, m2, c2, rfl⟩ := h.slices
  obtain ⟨w0, hw0, hB, HD, hz0, HS0⟩ := box3 w (.slice A0 m0 c0) (.slice A1 m1 c1) (.slice A2 m2 c2) 31
  have HN0 := Lib.hid h; have HN := Lib.hid (h.up hB); clear h
  have HW0 := Lib.hid hw0; clear hw0
  obtain ⟨q0, q1, q2, qf⟩ := cells3 HD
  go_enter Tryz.func154, Tryz.ntmps154
  go_wp2_with fail
  rw [← HW0.out]
  refine (spec_ruPlain _ _ _ n w0 HN.out HP.out).mono ?_
  rintro e w1 ⟨rfl, hb1⟩
  have hzhb1 := hb1.size
  clear q0 q1 q2 qf
  replace HD := bk HD hb1
  replace HN := Lib.hid (HN.out.up hb1)
  replace hB := bl_trans hB hb1
  obtain ⟨q0, q1, q2, qf⟩ := cells3 HD
  cases h1 : plainB n with
  | false =>
    go_wp2_with fail
    go_ret
    exact ⟨ret_bool (by rw [HE.out, h1]; rfl), hB⟩
  | true =>
    by_cases h2 : r = 5
    · subst h2
      go_wp2_with (go_at_call 199; refine (spec_ssRing _ _ _ n w1 HN.out HP.out).mono ?_; rintro e w2 ⟨rfl, hb2⟩)
      go_ret
      exact ⟨ret_bool (by rw [HE.out, h1]; simp), bl_trans hB hb2⟩
    · have kq : (r != 5) = true := by simpa using h2
      go_wp2_with fail
      go_ret
      exact ⟨ret_bool (by rw [HE.out, h1]; simp [h2]), hB⟩
end Go.Proofs.YtfhecpkhifdnbaaGreat
