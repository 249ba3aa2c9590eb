/-
  Situations, the reference's side: ssStates, StateNumber, StatesOfNumber.
-/
import Derived.Test.YtfhecpkhifdnbaaGreatNetNum
namespace Go.Proofs.YtfhecpkhifdnbaaGreat
open Go.RowKit
set_option linter.unusedVariables false
set_option linter.unusedSimpArgs false
noncomputable def sitB (n : Net) (r : Int) (ss : List Int) : Bool := propB (askP n r ∧ Sts (cnts n r) ss)
def StsTo (cs ss : List Int) (j : Nat) : Prop := ∀ (v : Nat) (k s : Int), v < j → cs[v]? = some k → ss[v]? = some s → 0 ≤ s ∧ s < k
theorem StsTo.next {cs ss : List Int} {j : Nat} {k s : Int} (h : StsTo cs ss j) (hk : cs[j]? = some k) (hs : ss[j]? = some s) (hi : inB s 0 (k - 1) = true) : StsTo cs ss (j + 1) := fun v a b hv ha hb => by
  by_cases e : v = j
  · subst e
    obtain rfl := Option.some.inj (hk.symm.trans ha)
    obtain rfl := Option.some.inj (hs.symm.trans hb)
    unfold inB at hi
    have := of_decide_eq_true hi
    omega
  · exact h v a b (by omega) ha hb
theorem sit_noA {n : Net} {r : Int} {ss : List Int} (h : askB n r = false) : sitB n r ss = false := propB_f fun hp => by rw [show askB n r = true from propB_t hp.1] at h; cases h
theorem sit_noL {n : Net} {r : Int} {ss : List Int} (h : ss.length ≠ n.es.length) : sitB n r ss = false := propB_f fun hp => h (by rw [← hp.2.1, cnts_len])
theorem sit_noS {n : Net} {r k s : Int} {ss : List Int} {j : Nat} (hk : (cnts n r)[j]? = some k) (hs : ss[j]? = some s) (hi : inB s 0 (k - 1) = false) : sitB n r ss = false := propB_f fun hp => by
  have := hp.2.2 j k s hk hs
  rw [inB_t (by omega)] at hi
  cases hi
theorem sit_end {n : Net} {r : Int} {ss : List Int} {j : Nat} (ha : askB n r = true) (hl : ss.length = n.es.length) (h : StsTo (cnts n r) ss j) (hj : ss.length ≤ j) : sitB n r ss = true :=
  propB_t ⟨propB_iff.1 ha, by rw [cnts_len, hl], fun v k s hk hs => h v k s (by have := (List.getElem?_eq_some_iff.1 hs).1; omega) hk hs⟩
def SsRel (n : Net) (r : Int) (ss : List Int) (w : World) (i : Value) (wr : World) : Prop := Below w.heap.size w wr ∧ ∃ k : Nat, k ≤ ss.length ∧ i = .int .i64 k ∧ StsTo (cnts n r) ss k
theorem spec_ssStates (ve vi vn vs : Value) (n : Net) (r : Int) (ss : List Int) (w : World) (h : NetR w w.heap.size ve vi vn n) (hs : IntsR w w.heap.size vs ss) (hz : n.es.length ≤ 2000000) (hzs : ss.length ≤ 1048576) :
    Calls Tryz.prog 48 #[.agg #[ve, vi, vn], .int .i64 r, vs] w fun e w' => e = .returned (.bool (sitB n r ss)) ∧ Below w.heap.size w w' := by
  have HSS := Lib.hid hs
  obtain ⟨As, cs, rfl, -, hcm, hsc⟩ := hs.open_
  clear hs
  obtain ⟨⟨A0, m0, c0, rfl⟩, ⟨A1, m1, c1, rfl⟩, A2, m2, c2, rfl⟩ := h.slices
  obtain ⟨w0, hw0, hB, HD, hz0, HS0⟩ := box3 w (.slice A0 m0 c0) (.slice A1 m1 c1) (.slice A2 m2 c2) 31
  have HN0 := Lib.hid h; have HN := Lib.hid (h.up hB); clear h
  have HW0 := Lib.hid hw0; clear hw0
  obtain ⟨q0, q1, q2, qf⟩ := cells3 HD
  obtain ⟨hm0, -, -⟩ := HN.out.e.len_slice
  subst hm0
  unfold maxLen at hcm
  go_enter Tryz.func48, Tryz.ntmps48
  go_wp2_with fail
  rw [← HW0.out]
  refine (spec_ssAsked _ _ _ n r w0 HN.out hz).mono ?_
  rintro e w1 ⟨rfl, hb1⟩
  have hzhb1 := hb1.size
  clear q0 q1 q2 qf
  replace HD := bk HD hb1
  replace HN := Lib.hid (HN.out.up hb1)
  replace hB := bl_trans hB hb1
  obtain ⟨q0, q1, q2, qf⟩ := cells3 HD
  cases h1 : askB n r with
  | false =>
    go_wp2_with fail
    go_ret
    exact ⟨ret_bool (sit_noA h1).symm, hB⟩
  | true =>
    have HA := Lib.hid h1
    have HP := Lib.hid (askB_net h1)
    have h40 := HP.out.1.2
    by_cases hl : ss.length = n.es.length
    · have HL := Lib.hid hl
      have kq : (((ss.length : Nat) : Int) != (n.es.length : Int)) = false := by rw [hl]; simp
      clear hl h1
      go_wp2_with fail
      go_loopw [7, 8, 23] (fun _ _ i wr => SsRel n r ss w1 i wr) (fun _ _ i _ => ss.length - (intOf i).toNat)
      case atStart => exact ⟨Below.refl _ _, 0, Nat.zero_le _, rfl, fun _ _ _ h => absurd h (by omega)⟩
      case round =>
        obtain ⟨hb2, k, hk, rfl, hup⟩ := hrel
        have HU := Lib.hid hup; clear hup
        have hB1 := bl_trans hb1 hb2
        have hzhb2 := hb2.size
        clear q0 q1 q2 qf
        replace HD := bk HD hb2
        replace HN := Lib.hid (HN.out.up hb2)
        replace hB := bl_trans hB hb2
        obtain ⟨q0, q1, q2, qf⟩ := cells3 HD
        by_cases hlt : k < ss.length
        · obtain ⟨s, hs⟩ : ∃ s, ss[k]? = some s := ⟨_, List.getElem?_eq_getElem hlt⟩
          obtain ⟨l, hl⟩ : ∃ y, n.es[k]? = some y := ⟨_, List.getElem?_eq_getElem (by rw [← HL.out]; exact hlt)⟩
          obtain ⟨ad, rfl, hb, hc⟩ := hsc (by omega)
          have hcell := (hB.cell (p := ad.add k) (by rw [block_add]; exact hb)).trans (hc k s hs)
          have HS := Lib.hid hs
          have HK := Lib.hid (cnts_at (r := r) hl)
          have hcb := cnts_bd HP.out r _ (List.mem_of_getElem? HK.out)
          have JC := Lib.hid (spec_ssCount _ _ _ n r k l wr HN.out HP.out hl)
          clear hsc hc hs hl
          generalize cntAt n r l = q at *
          cases hi : inB s 0 (q - 1) with
          | false =>
            go_wp2_with (first | (go_at_call 95; refine JC.out.mono ?_; rintro e w3 ⟨rfl, hb3⟩) | (go_at_call 72; refine (spec_l1In _ _ _ _).mono ?_; rintro e w' ⟨rfl, rfl⟩))
            go_ret
            exact ⟨ret_bool (sit_noS HK.out HS.out hi).symm, bl_trans hB hb3⟩
          | true =>
            go_wp2_with (first | (go_at_call 95; refine JC.out.mono ?_; rintro e w3 ⟨rfl, hb3⟩) | (go_at_call 72; refine (spec_l1In _ _ _ _).mono ?_; rintro e w' ⟨rfl, rfl⟩))
            go_roundw
            case rel => exact ⟨bl_trans hb2 hb3, k + 1, by omega, by go_num, HU.out.next HK.out HS.out hi⟩
            case measure => simp [intOf]; omega
        · have HF := Lib.hid (sit_end HA.out HL.out HU.out (by omega))
          go_wp2_with fail
          go_ret
          exact ⟨ret_bool HF.out.symm, hB⟩
    · have kq : (((ss.length : Nat) : Int) != (n.es.length : Int)) = true := by rw [bne_iff_ne]; omega
      have HF := Lib.hid (sit_noL (n := n) (r := r) hl)
      clear hl
      go_wp2_with fail
      go_ret
      exact ⟨ret_bool HF.out.symm, hB⟩
noncomputable def nmB (n : Net) (r : Int) (ss : List Int) : Bool := cvB n r && sitB n r ss
noncomputable def nmN (n : Net) (r : Int) (ss : List Int) : Int := if nmB n r ss = true then numS (cnts n r) ss else 0
theorem nm_f {n : Net} {r : Int} {ss : List Int} (h : nmB n r ss = false) : nmN n r ss = 0 := if_neg (by rw [h]; simp)
theorem nm_t {n : Net} {r : Int} {ss : List Int} (h : nmB n r ss = true) : nmN n r ss = numS (cnts n r) ss := if_pos h
theorem sitB_sts {n : Net} {r : Int} {ss : List Int} (h : sitB n r ss = true) : Sts (cnts n r) ss := (propB_iff.1 h).2
theorem spec_StateNumber (ve vi vn vs : Value) (n : Net) (r : Int) (ss : List Int) (w : World) (h : NetR w w.heap.size ve vi vn n) (hs : IntsR w w.heap.size vs ss) (hz : n.es.length ≤ 2000000) (hzs : ss.length ≤ 1048576) :
    Calls Tryz.prog 13 #[.agg #[ve, vi, vn], .int .i64 r, vs] w fun e w' => e = .returned (.tuple #[.int .i64 (nmN n r ss), .bool (nmB n r ss)]) ∧ Below w.heap.size w w' := by
  have HSS := Lib.hid hs; clear hs
  have HNB := Lib.hid (show nmB n r ss = (cvB n r && sitB n r ss) from rfl)
  obtain ⟨⟨A0, m0, c0, rfl⟩, ⟨A1, m1, c1, rfl⟩, A2, m2, c2, rfl⟩ := h.slices
  obtain ⟨w0, hw0, hB, HD, hz0, HS0⟩ := box3 w (.slice A0 m0 c0) (.slice A1 m1 c1) (.slice A2 m2 c2) 31
  have HN0 := Lib.hid h; have HN := Lib.hid (h.up hB); clear h
  have HW0 := Lib.hid hw0; clear hw0
  obtain ⟨q0, q1, q2, qf⟩ := cells3 HD
  go_enter Tryz.func13, Tryz.ntmps13
  go_wp2_with fail
  rw [← HW0.out]
  refine (spec_cvAsked _ _ _ n r w0 HN.out hz).mono ?_
  rintro e w1 ⟨rfl, hb1⟩
  have hzhb1 := hb1.size
  clear q0 q1 q2 qf
  replace HD := bk HD hb1
  replace HN := Lib.hid (HN.out.up hb1)
  replace hB := bl_trans hB hb1
  obtain ⟨q0, q1, q2, qf⟩ := cells3 HD
  cases h1 : cvB n r with
  | false =>
    have HF := Lib.hid (show nmB n r ss = false by rw [HNB.out, h1]; rfl)
    go_wp2_with fail
    go_ret2
    exact ⟨ret_pair (nm_f HF.out).symm HF.out.symm, hB⟩
  | true =>
    have HC := Lib.hid h1
    have HP := Lib.hid (cvB_net h1)
    have HSI := Lib.hid ((HSS.out.below hB).more hB.size)
    go_wp2_with fail
    refine (spec_ssStates _ _ _ _ n r ss w1 HN.out HSI.out hz hzs).mono ?_
    rintro e w2 ⟨rfl, hb2⟩
    have hzhb2 := hb2.size
    clear q0 q1 q2 qf
    replace HD := bk HD hb2
    replace HN := Lib.hid (HN.out.up hb2)
    replace hB := bl_trans hB hb2
    obtain ⟨q0, q1, q2, qf⟩ := cells3 HD
    cases h2 : sitB n r ss with
    | false =>
      have HF := Lib.hid (show nmB n r ss = false by rw [HNB.out, h1, h2]; rfl)
      go_wp2_with fail
      go_ret2
      exact ⟨ret_pair (nm_f HF.out).symm HF.out.symm, hB⟩
    | true =>
      have HT := Lib.hid (show nmB n r ss = true by rw [HNB.out, h1, h2]; rfl)
      have HST := Lib.hid (sitB_sts h2)
      go_wp2_with fail
      refine (spec_ssCounts _ _ _ n r w2 HN.out HP.out).mono ?_
      rintro e w3 ⟨u, rfl, ⟨A', m', c', rfl⟩, hu, hb3⟩
      have HU := Lib.hid hu; clear hu
      have hzhb3 := hb3.size
      clear q0 q1 q2 qf
      replace HD := bk HD hb3
      replace HN := Lib.hid (HN.out.up hb3)
      replace hB := bl_trans hB hb3
      obtain ⟨q0, q1, q2, qf⟩ := cells3 HD
      have HSJ := Lib.hid ((HSS.out.below hB).more hB.size)
      go_wp2_with fail
      refine (spec_cvNumber _ _ (cnts n r) ss w3 HU.out HSJ.out (few_of HC.out).1 HST.out).mono ?_
      rintro e w4 ⟨rfl, q, rfl⟩
      go_wp2_with fail
      go_ret2
      exact ⟨ret_pair (nm_t HT.out).symm HT.out.symm, bl_drewN hB _⟩
noncomputable def soB (n : Net) (r x : Int) : Bool := cvB n r && inB x 0 (capd (cnts n r) - 1)
noncomputable def soL (n : Net) (r x : Int) : List Int := if soB n r x = true then stsS (cnts n r) x else []
theorem so_f {n : Net} {r x : Int} (h : soB n r x = false) : soL n r x = [] := if_neg (by rw [h]; simp)
theorem so_t {n : Net} {r x : Int} (h : soB n r x = true) : soL n r x = stsS (cnts n r) x := if_pos h
theorem ints_nil (w : World) (B : Nat) : IntsR w B (.slice none 0 0) [] := ⟨⟨none, 0, rfl, Nat.le_refl _, Nat.zero_le _, fun h => absurd h (by simp)⟩, fun _ h => by cases h⟩
end Go.Proofs.YtfhecpkhifdnbaaGreat
