/-
  Networks, the program's side: a token ring; what a daemon is; which rules run on a network.
-/
import Derived.Test.YtfhecpkhifdnbaaGreatNetLoop
namespace Go.Proofs.YtfhecpkhifdnbaaGreat
open Go.RowKit
set_option linter.unusedVariables false
set_option linter.unusedSimpArgs false
noncomputable def rowB (l : Ends) : Bool := propB (rowOk l)
theorem closure_ring (v : Value) (l : Ends) (S : Nat → Prop) (w : World) (h : EndsR w S v l) :
    Calls Tryz.prog 244 #[v] w fun e w' => e = .returned (.bool (!rowB l)) ∧ w = w' := by
  have HR := Lib.hid h
  obtain ⟨A0, c0, rfl, hlc, hlm, -, h4⟩ := h
  unfold maxLen at hlm
  by_cases hl : l.length = 2
  · obtain ⟨b, o, rfl, -, -⟩ := h4 (by omega)
    obtain ⟨e, he⟩ : ∃ e, l[0]? = some e := ⟨_, List.getElem?_eq_getElem (by omega)⟩
    obtain ⟨-, p0, p1⟩ := HR.out.at_ he
    rw [show o + 0 * 2 = o by omega] at p0 p1
    have HE := Lib.hid he; clear he
    have hl2 : (l.length : Int) = 2 := by omega
    have hq : ((l.length : Int) != 2) = false := by rw [hl2]; rfl
    have HL := Lib.hid hl
    by_cases h1 : e.2 = 1
    · have hq1 : (e.2 != (1 : Int)) = false := by rw [h1]; rfl
      have HX := Lib.hid (show (!rowB l) = false by rw [show rowB l = true from propB_t ⟨hl, e, HE.out, h1⟩]; rfl)
      clear h1 hl2 hl
      have hlt : 0 < l.length := by have := HL.out; omega
      go_enter Tryz.func244, Tryz.ntmps244
      go_wp2_with fail
      go_ret
      exact ⟨ret_bool HX.out.symm, rfl⟩
    · have hq1 : (e.2 != (1 : Int)) = true := by rw [bne_iff_ne]; exact h1
      have HX := Lib.hid (show (!rowB l) = true by
        rw [show rowB l = false from propB_f fun hh => by
          obtain ⟨-, e', he', h1'⟩ := hh
          obtain rfl := Option.some.inj (HE.out.symm.trans he')
          exact h1 h1']
        rfl)
      clear h1 hl2 hl
      have hlt : 0 < l.length := by have := HL.out; omega
      go_enter Tryz.func244, Tryz.ntmps244
      go_wp2_with fail
      go_ret
      exact ⟨ret_bool HX.out.symm, rfl⟩
  · have hq : ((l.length : Int) != 2) = true := by rw [bne_iff_ne]; omega
    have HX := Lib.hid (show (!rowB l) = true by rw [show rowB l = false from propB_f fun hh => hl hh.1]; rfl)
    clear hl h4
    go_enter Tryz.func244, Tryz.ntmps244
    go_wp2_with fail
    go_ret
    exact ⟨ret_bool HX.out.symm, rfl⟩
noncomputable def rowsB (n : Net) : Bool := propB (∀ l ∈ n.es, rowOk l)
theorem RingTo.fin {n : Net} {k : Nat} (h : RingTo n k) (hk : n.es.length ≤ k) : rowsB n = true := propB_t fun l hl => by
  obtain ⟨j, hj⟩ := List.mem_iff_getElem?.1 hl
  exact h j l (by have := (List.getElem?_eq_some_iff.1 hj).1; omega) hj
def RxRel (n : Net) (w : World) (i : Value) (wr : World) : Prop := w = wr ∧ ∃ k : Nat, k ≤ n.es.length ∧ i = .int .i64 k ∧ RingTo n k
def RgIdx (n : Net) (w : World) (e : Ending) (w' : World) : Prop := ∃ i : Int, e = .returned (.int .i64 i) ∧ -1 ≤ i ∧ i ≤ n.es.length ∧ decide (0 ≤ i) = (!rowsB n) ∧ w = w'
theorem rows_index (v : Value) (n : Net) (S : Nat → Prop) (w : World) (h : EndssR w S v n.es) :
    Calls Tryz.prog 259 #[v, .func (.func 244) #[] #[]] w (RgIdx n w) := by
  obtain ⟨A0, m0, c0, rfl⟩ := h.isSlice
  obtain ⟨hm0, hcc, hmx⟩ := h.len_slice
  subst hm0
  unfold maxLen at hmx
  have HH := Lib.hid h; clear h
  go_enter Tryz.func259, Tryz.ntmps259
  go_wp2_with fail
  go_loopw [8, 5] (fun i _ wr => RxRel n w i wr) (fun i _ _ => n.es.length - (intOf i).toNat)
  case atStart => exact ⟨rfl, 0, Nat.zero_le _, rfl, fun _ _ h => absurd h (by omega)⟩
  case round =>
    obtain ⟨rfl, k, hk, rfl, hup⟩ := hrel
    have HU := Lib.hid hup; clear hup
    by_cases hlt : k < n.es.length
    · obtain ⟨l, hl⟩ : ∃ y, n.es[k]? = some y := ⟨n.es[k], List.getElem?_eq_getElem hlt⟩
      obtain ⟨ad, rfl⟩ := HH.out.some_ (by omega)
      obtain ⟨hbb, u, hu, hr⟩ := HH.out.at_ hl
      have HR := Lib.hid hr; clear hr
      have HL := Lib.hid hl; clear hl
      cases hq : rowB l with
      | true =>
        have HX := Lib.hid (HU.out.next HL.out (propB_iff.1 hq))
        go_wp2_with fail
        refine (closure_ring u l S w HR.out).mono ?_
        rintro e w' ⟨rfl, rfl⟩
        rw [hq]
        go_wp2_with fail
        go_roundw
        case rel => exact ⟨rfl, k + 1, by omega, by go_num, HX.out⟩
        case measure => simp [intOf]; omega
      | false =>
        have HX := Lib.hid (show (!rowsB n) = true by
          rw [show rowsB n = false from propB_f fun hh => by rw [show rowB l = true from propB_t (hh l (List.mem_of_getElem? HL.out))] at hq; cases hq]
          rfl)
        go_wp2_with fail
        refine (closure_ring u l S w HR.out).mono ?_
        rintro e w' ⟨rfl, rfl⟩
        rw [hq]
        go_wp2_with fail
        go_ret
        exact ⟨k, rfl, by omega, by omega, by rw [HX.out]; simp, rfl⟩
    · have HF := Lib.hid (HU.out.fin (by omega))
      go_wp2_with fail
      go_ret
      exact ⟨-1, rfl, by omega, by omega, by rw [HF.out]; rfl, rfl⟩
theorem rows_contain (v : Value) (n : Net) (S : Nat → Prop) (w : World) (h : EndssR w S v n.es) :
    Calls Tryz.prog 243 #[v, .func (.func 244) #[] #[]] w fun e w' => e = .returned (.bool (!rowsB n)) ∧ w = w' := by
  have HH := Lib.hid h; clear h
  go_enter Tryz.func243, Tryz.ntmps243
  go_wp2_with fail
  refine (rows_index v n S w HH.out).mono ?_
  rintro e w' ⟨i, rfl, h1, h2, h3, rfl⟩
  have H3 := Lib.hid h3; clear h3
  go_wp2_with fail
  go_ret
  exact ⟨ret_bool H3.out, rfl⟩
theorem ring_f {n : Net} (h : ¬ (2 ≤ n.es.length ∧ connP n ∧ onesN n.ins = 1)) : ringB n = false := propB_f fun hp => h ⟨hp.1, hp.2.1, hp.2.2.1⟩
theorem ring_all {n : Net} (h1 : 2 ≤ n.es.length) (h2 : connB n = true) (h3 : onesN n.ins = 1) : ringB n = rowsB n := propB_congr ⟨fun hp => hp.2.2.2, fun hp => ⟨h1, propB_iff.1 h2, h3, hp⟩⟩
theorem impl_isTokenRing (ve vi vn : Value) (n : Net) (w : World) (h : NetR w w.heap.size ve vi vn n) (hp : netP n) :
    Calls Tryz.prog 204 #[.agg #[ve, vi, vn]] w fun e w' => e = .returned (.bool (ringB n)) ∧ Below w.heap.size w w' := by
  have h40 := hp.1.2
  have HP := Lib.hid hp; clear hp
  obtain ⟨⟨A0, m0, c0, rfl⟩, ⟨A1, m1, c1, rfl⟩, A2, m2, c2, rfl⟩ := h.slices
  obtain ⟨w0, hw0, hB, HD, hz0, HS0⟩ := box3 w (.slice A0 m0 c0) (.slice A1 m1 c1) (.slice A2 m2 c2) 31
  have HN0 := Lib.hid h; have HN := Lib.hid (h.up hB); clear h
  have HW0 := Lib.hid hw0; clear hw0
  obtain ⟨q0, q1, q2, qf⟩ := cells3 HD
  obtain ⟨hm0, -, -⟩ := HN.out.e.len_slice
  subst hm0
  by_cases h2 : 2 ≤ n.es.length
  · have hq : ¬ ((n.es.length : Int) < 2) := by omega
    go_enter Tryz.func204, Tryz.ntmps204
    go_wp2_with fail
    rw [← HW0.out]
    refine (impl_isConnected _ _ _ n w0 HN.out HP.out).mono ?_
    rintro e w1 ⟨rfl, hb1⟩
    have hzhb1 := hb1.size
    clear q0 q1 q2 qf
    replace HD := bk HD hb1
    replace HN := Lib.hid (HN.out.up hb1)
    replace hB := bl_trans hB hb1
    obtain ⟨q0, q1, q2, qf⟩ := cells3 HD
    cases hc : connB n with
    | false =>
      have HF := Lib.hid (ring_f (n := n) fun hh => by rw [show connB n = true from propB_t hh.2.1] at hc; cases hc)
      go_wp2_with fail
      go_ret
      exact ⟨ret_bool HF.out.symm, hB⟩
    | true =>
      go_wp2_with fail
      refine (impl_ones _ n.ins w1 HN.out.n).mono ?_
      rintro e w2 ⟨rfl, rfl⟩
      by_cases h1 : onesN n.ins = 1
      · have hq1 : (((onesN n.ins : Nat) : Int) != (1 : Int)) = false := by rw [h1]; rfl
        have HF := Lib.hid (ring_all h2 hc h1)
        clear h1
        go_wp2_with fail
        refine (rows_contain _ n _ w1 HN.out.e).mono ?_
        rintro e w2 ⟨rfl, rfl⟩
        go_wp2_with fail
        go_ret
        exact ⟨ret_bool (by rw [HF.out]), hB⟩
      · have hq1 : (((onesN n.ins : Nat) : Int) != (1 : Int)) = true := by rw [bne_iff_ne]; omega
        have HF := Lib.hid (ring_f (n := n) fun hh => h1 hh.2.2)
        clear h1
        go_wp2_with fail
        go_ret
        exact ⟨ret_bool HF.out.symm, hB⟩
  · have HF := Lib.hid (ring_f (n := n) fun hh => h2 hh.1)
    have hq : (n.es.length : Int) < 2 := by omega
    clear h2
    go_enter Tryz.func204, Tryz.ntmps204
    go_wp2_with fail
    rw [← HW0.out]
    go_ret
    exact ⟨ret_bool HF.out.symm, hB⟩
end Go.Proofs.YtfhecpkhifdnbaaGreat
