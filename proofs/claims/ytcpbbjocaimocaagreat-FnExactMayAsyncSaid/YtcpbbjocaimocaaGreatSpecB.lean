/-
  Networks, the reference's side: neGood says whether a network is one.
  Situations, the reference's side: the counts of states, the number of situations, their numbers.
  Situations, the reference's side: CountStates, StateNumber, StatesOfNumber.
  Situations, the reference's side: ssStates, StateNumber, StatesOfNumber.
-/
import Derived.Test.YtcpbbjocaimocaaGreatSpecA
import Derived.Laws.StructEq
import Derived.Deep.QuietTactic
import Derived.BigQuiet
namespace Go.Proofs.YtcpbbjocaimocaaGreat
section
open Go.RowKit
set_option linter.unusedVariables false
set_option linter.unusedSimpArgs false
/-- Two ends compared. -/
theorem eqIn_End (a b c d : Int) (w : World) : (Op.equalIn 10000 147 (.agg #[.int .i64 a, .int .i64 b]) (.agg #[.int .i64 c, .int .i64 d])).run Tryz.prog w = .ok (a == c && b == d) w := by
  have u3 := Tryz.underlying3
  have hS : Tryz.prog.underlying 147 = some (.struct (Tryz.prog.fieldsOf 147)) := by kernel_rfl
  have hp : Tryz.prog.stoodInHeld 147 = false := by kernel_rfl
  have a3 := Tryz.isAgg3
  have z3 := Tryz.sizeOf3
  rw [show (10000 : Nat) = 9999 + 1 from rfl, run_equalIn_agg w 9999 147 _ _ hS hp]
  simp only [Program.fieldsOf, Tryz.underlying147]
  go_simp
  by_cases h1 : a = c <;> by_cases h2 : b = d <;> simp [h1, h2]
theorem endOk_of {es : List Ends} {v i a p : Nat} {e x : Int × Int} {m : Ends} (h1 : e.1 = a) (h2 : e.2 = p) (hm : es[a]? = some m) (hx : m[p]? = some x) (hv : x.1 = v ∧ x.2 = i) : endOk es v i e := by
  refine ⟨by omega, by omega, m, by rw [h1]; exact hm, ?_⟩
  rw [h2, Int.toNat_natCast, hx, ← hv.1, ← hv.2]
theorem endOk_no1 {es : List Ends} {v i : Nat} {e : Int × Int} (h : inB e.1 0 ((es.length : Int) - 1) = false) : ¬ endOk es v i e := fun ⟨h0, _, m, hm, _⟩ => by
  have := (List.getElem?_eq_some_iff.1 hm).1
  rw [inB_t (by omega)] at h
  cases h
theorem endOk_no2 {es : List Ends} {v i a : Nat} {e : Int × Int} {m : Ends} (h1 : e.1 = a) (hm : es[a]? = some m) (h : inB e.2 0 ((m.length : Int) - 1) = false) : ¬ endOk es v i e := fun ⟨_, h0, m', hm', hx⟩ => by
  rw [h1, Int.toNat_natCast, hm] at hm'
  obtain rfl := Option.some.inj hm'
  have := (List.getElem?_eq_some_iff.1 hx).1
  rw [inB_t (by omega)] at h
  cases h
theorem endOk_no3 {es : List Ends} {v i a p : Nat} {e x : Int × Int} {m : Ends} (h1 : e.1 = a) (h2 : e.2 = p) (hm : es[a]? = some m) (hx : m[p]? = some x) (hv : ¬ (x.1 = v ∧ x.2 = i)) : ¬ endOk es v i e := fun ⟨_, _, m', hm', hx'⟩ => by
  rw [h1, Int.toNat_natCast, hm] at hm'
  obtain rfl := Option.some.inj hm'
  rw [h2, Int.toNat_natCast, hx] at hx'
  exact hv (by rw [Option.some.inj hx']; exact ⟨rfl, rfl⟩)
def NodesTo (n : Net) (k : Nat) : Prop := ∀ (v : Nat) (l : Ends), v < k → n.es[v]? = some l → nodeOk n.es v l
def EndsOkTo (n : Net) (v : Nat) (l : Ends) (k : Nat) : Prop := ∀ (i : Nat) (e : Int × Int), i < k → l[i]? = some e → endOk n.es v i e
theorem EndsOkTo.next {n : Net} {v k : Nat} {l : Ends} {e : Int × Int} (h : EndsOkTo n v l k) (he : l[k]? = some e) (ho : endOk n.es v k e) : EndsOkTo n v l (k + 1) := fun i e' hi he' => by
  by_cases e1 : i = k
  · subst e1
    obtain rfl := Option.some.inj (he.symm.trans he')
    exact ho
  · exact h i e' (by omega) he'
theorem NodesTo.next {n : Net} {k j : Nat} {l : Ends} (h : NodesTo n k) (hl : n.es[k]? = some l) (h6 : l.length ≤ 6) (ho : EndsOkTo n k l j) (hj : l.length ≤ j) : NodesTo n (k + 1) := fun v l' hv hl' => by
  by_cases e : v = k
  · subst e
    obtain rfl := Option.some.inj (hl.symm.trans hl')
    exact ⟨h6, fun i x hx => ho i x (by have := (List.getElem?_eq_some_iff.1 hx).1; omega) hx⟩
  · exact h v l' (by omega) hl'
/-- What is looked at ahead of the loops. -/
def HeadP (n : Net) : Prop := (1 ≤ n.es.length ∧ n.es.length ≤ 40) ∧ idsP n.ids n.es.length ∧ n.ins.length = n.es.length ∧ ∀ x ∈ n.ins, 0 ≤ x ∧ x ≤ 9
theorem net_end {n : Net} {k : Nat} (hh : HeadP n) (h : NodesTo n k) (hk : n.es.length ≤ k) : netB n = true :=
  propB_t ⟨hh.1, hh.2.1, hh.2.2.1, hh.2.2.2, fun v l hl => h v l (by have := (List.getElem?_eq_some_iff.1 hl).1; omega) hl⟩
theorem net_no6 {n : Net} {k : Nat} {l : Ends} (hl : n.es[k]? = some l) (h : ¬ l.length ≤ 6) : netB n = false := propB_f fun hp => h (hp.2.2.2.2 k l hl).1
theorem net_noE {n : Net} {k j : Nat} {l : Ends} {e : Int × Int} (hl : n.es[k]? = some l) (he : l[j]? = some e) (h : ¬ endOk n.es k j e) : netB n = false := propB_f fun hp => h ((hp.2.2.2.2 k l hl).2 j e he)
theorem net_noH {n : Net} (h : ¬ HeadP n) : netB n = false := propB_f fun hp => h ⟨hp.1, hp.2.1, hp.2.2.1, hp.2.2.2.1⟩
def GdRel (n : Net) (w : World) (i : Value) (wr : World) : Prop := Below w.heap.size w wr ∧ ∃ k : Nat, k ≤ n.es.length ∧ i = .int .i64 k ∧ NodesTo n k
def GeRel (n : Net) (v : Nat) (l : Ends) (w : World) (i : Value) (wr : World) : Prop := Below w.heap.size w wr ∧ ∃ k : Nat, k ≤ l.length ∧ i = .int .i64 k ∧ EndsOkTo n v l k
theorem inAll_iff (xs : List Int) : allB xs 0 9 = true ↔ ∀ x ∈ xs, 0 ≤ x ∧ x ≤ 9 := allB_iff
set_option maxRecDepth 100000 in
set_option maxHeartbeats 2000000 in
theorem spec_neGood (ve vi vn : Value) (n : Net) (w : World) (h : NetR w w.heap.size ve vi vn n) (hz : n.es.length ≤ 2000000) :
    Calls Tryz.prog 124 #[.agg #[ve, vi, vn]] w fun e w' => e = .returned (.bool (netB n)) ∧ Below w.heap.size w w' := by
  have hgd : Tryz.prog.eqGuardType Tryz.prog.depth 147 = false := by kernel_rfl
  have heq := eqIn_End
  obtain ⟨⟨A0, m0, c0, rfl⟩, ⟨A1, m1, c1, rfl⟩, A2, m2, c2, rfl⟩ := h.slices
  obtain ⟨w0, hw0, hB, HD, hz0, HS0⟩ := box3 w (.slice A0 m0 c0) (.slice A1 m1 c1) (.slice A2 m2 c2) 46
  have HN0 := Lib.hid h; have HN := Lib.hid (h.up hB); clear h
  have HW0 := Lib.hid hw0; clear hw0
  obtain ⟨q0, q1, q2, qf⟩ := cells3 HD
  obtain ⟨hm0, hcc, hmx⟩ := HN.out.e.len_slice
  subst hm0
  obtain ⟨hm1, -, -, -⟩ := HN.out.i.some_
  subst hm1
  obtain ⟨hm2, hd2, hd3, -⟩ := HN.out.n.some_
  subst hm2
  have hmx' : n.es.length ≤ 9223372036854775807 := by unfold maxLen at hmx; omega
  have hmi' : n.ins.length ≤ 9223372036854775807 := by unfold maxLen at hd3; omega
  clear hmx hd3 hcc hd2
  go_enter Tryz.func124, Tryz.ntmps124
  cases g1 : inB (n.es.length : Int) 1 40 with
  | false =>
    go_wp2_with (go_at_call 75; refine (spec_l1In _ _ _ _).mono ?_; rintro e w' ⟨rfl, rfl⟩)
    go_ret
    rw [← HW0.out]
    exact ⟨ret_bool (net_noH fun hh => by rw [inB_t (by have := hh.1; omega)] at g1; cases g1).symm, hB⟩
  | true =>
    have h40 : 1 ≤ n.es.length ∧ n.es.length ≤ 40 := by unfold inB at g1; have := of_decide_eq_true g1; omega
    go_wp2_with (go_at_call 75; refine (spec_l1In _ _ _ _).mono ?_; rintro e w' ⟨rfl, rfl⟩)
    rw [← HW0.out]
    refine (spec_neIds _ n.ids n.es.length w0 HN.out.i (by omega)).mono ?_
    rintro e w' ⟨rfl, rfl⟩
    cases g2 : idsB n.ids n.es.length with
    | false =>
      go_wp2_with fail
      go_ret
      exact ⟨ret_bool (net_noH fun hh => by rw [show idsB n.ids n.es.length = true from propB_t hh.2.1] at g2; cases g2).symm, hB⟩
    | true =>
      by_cases g3 : n.ins.length = n.es.length
      · have kq : (((n.ins.length : Nat) : Int) != (n.es.length : Int)) = false := by rw [g3]; simp
        have HG3 := Lib.hid g3; clear g3
        go_wp2_with fail
        refine (spec_l1All _ n.ins 0 9 w0 HN.out.n).mono ?_
        rintro e w' ⟨rfl, rfl⟩
        cases g4 : allB n.ins 0 9 with
        | false =>
          go_wp2_with fail
          go_ret
          exact ⟨ret_bool (net_noH fun hh => by rw [(inAll_iff _).2 hh.2.2.2] at g4; cases g4).symm, hB⟩
        | true =>
          have HH := Lib.hid (show HeadP n from ⟨h40, propB_iff.1 g2, HG3.out, (inAll_iff _).1 g4⟩)
          go_wp2_with fail
          go_loopw [3, 4, 39] (fun _ _ i wr => GdRel n w0 i wr) (fun _ _ i _ => n.es.length - (intOf i).toNat)
          case atStart => exact ⟨Below.refl _ _, 0, Nat.zero_le _, rfl, fun _ _ h => absurd h (by omega)⟩
          case round =>
            obtain ⟨hb1, k, hk, rfl, hup⟩ := hrel
            have HU := Lib.hid hup; clear hup
            have hzhb1 := hb1.size
            clear q0 q1 q2 qf
            replace HD := bk HD hb1
            replace HN := Lib.hid (HN.out.up hb1)
            replace hB := bl_trans hB hb1
            obtain ⟨q0, q1, q2, qf⟩ := cells3 HD
            by_cases hlt : k < n.es.length
            · obtain ⟨l, hl⟩ : ∃ y, n.es[k]? = some y := ⟨n.es[k], List.getElem?_eq_getElem hlt⟩
              obtain ⟨ad, rfl⟩ := HN.out.e.some_ (by omega)
              obtain ⟨hbb, u, hu, hr⟩ := HN.out.e.at_ hl
              have HR := Lib.hid hr
              obtain ⟨A', c', rfl, hlc, hlm, -, h4⟩ := hr
              unfold maxLen at hlm
              have HL := Lib.hid hl; clear hl
              by_cases h6 : l.length ≤ 6
              · go_wp2_with fail
                obtain ⟨wq, rfl⟩ : ∃ z, z = wr := ⟨_, rfl⟩
                go_loopw [5, 6, 49] (fun _ _ i wr' => GeRel n k l wq i wr') (fun _ _ i _ => l.length - (intOf i).toNat)
                case atStart => exact ⟨Below.refl _ _, 0, Nat.zero_le _, rfl, fun _ _ h => absurd h (by omega)⟩
                case round =>
                  obtain ⟨hb2, j, hj, rfl, hup2⟩ := hrel
                  have HU2 := Lib.hid hup2; clear hup2
                  have hzhb2 := hb2.size
                  clear q0 q1 q2 qf
                  replace HD := bk HD hb2
                  replace HN := Lib.hid (HN.out.up hb2)
                  replace hB := bl_trans hB hb2
                  obtain ⟨q0, q1, q2, qf⟩ := cells3 HD
                  by_cases hlt2 : j < l.length
                  · obtain ⟨e, he⟩ : ∃ y, l[j]? = some y := ⟨_, List.getElem?_eq_getElem hlt2⟩
                    obtain ⟨b, o, rfl, -, -⟩ := h4 (by omega)
                    obtain ⟨hbb, p0, p1⟩ := (HR.out.below hb2).at_ he
                    obtain ⟨wv, hwv, hb3, HE, hzv, HSV⟩ := box2 wr (.int .i64 e.1) (.int .i64 e.2) 147
                    have HWV := Lib.hid hwv; clear hwv
                    have HEL := Lib.hid he; clear he
                    go_wp2_with fail
                    rw [← HWV.out]
                    replace hb2 := bl_trans hb2 hb3
                    have hzhb3 := hb3.size
                    clear q0 q1 q2 qf
                    replace HD := bk HD hb3
                    replace HN := Lib.hid (HN.out.up hb3)
                    replace hB := bl_trans hB hb3
                    obtain ⟨q0, q1, q2, qf⟩ := cells3 HD
                    obtain ⟨e0, e1, ef⟩ := cells2 HE
                    have HNS := Lib.hid (fun h => net_noE HL.out HEL.out h)
                    cases g : inB e.1 0 ((n.es.length : Int) - 1) with
                    | false =>
                      have HF := Lib.hid (HNS.out (endOk_no1 g))
                      clear HNS p0 p1
                      refine wp_region_held_drew (S := fun w' => w'.cell? ⟨w.heap.size, 0, none⟩ = some (.slice (some ad) n.es.length c0) ∧ w'.cell? ⟨wr.heap.size, 0, none⟩ = some (.int .i64 e.1) ∧ w'.cell? ⟨wr.heap.size, 1, none⟩ = some (.int .i64 e.2)) (by kernel_rfl) ?_ (fun hHeld => ?_)
                      · go_keep
                      refine tk 0 54 rfl rfl ?_
                      try simp only [Act.put, pu]
                      refine tk 1 55 rfl rfl ?_
                      try simp only [Act.put, pu]
                      refine tk 2 56 rfl rfl ?_
                      try simp only [Act.put, pu]
                      refine tk 3 57 rfl rfl ?_
                      try simp only [Act.put, pu]
                      refine tk 4 58 rfl rfl ?_
                      try simp only [Act.put, pu]
                      refine tk 5 59 rfl rfl ?_
                      try simp only [Act.put, pu]
                      refine tr 6 rfl (by kernel_rfl) (fun K hK => ?_)
                      go_simp
                      go_at_call 75
                      refine (spec_l1In _ _ _ _).mono ?_
                      rintro e w' ⟨rfl, rfl⟩
                      rw [show IntKind.i64.wrap ((n.es.length : Int) - 1) = (n.es.length : Int) - 1 from IntWalk.i64_in _ (by omega), g]
                      refine hK.out _ _ ?_ (fun hHeld => ?_)
                      · go_keep
                      clear hK K
                      try simp only [Act.put, pu]
                      refine tk 7 61 rfl rfl ?_
                      try simp only [Act.put, pu]
                      refine tk 8 62 rfl rfl ?_
                      try simp only [Act.put, pu]
                      refine tn 9 63 rfl rfl ?_
                      try simp only [Act.put, pu]
                      refine tn 10 64 rfl rfl ?_
                      try simp only [Act.put, pu]
                      refine tn 11 65 rfl rfl ?_
                      try simp only [Act.put, pu]
                      refine tn 12 66 rfl rfl ?_
                      try simp only [Act.put, pu]
                      refine tn 13 67 rfl rfl ?_
                      try simp only [Act.put, pu]
                      refine tn 14 68 rfl rfl ?_
                      try simp only [Act.put, pu]
                      refine tn 15 69 rfl rfl ?_
                      try simp only [Act.put, pu]
                      refine tn 16 70 rfl rfl ?_
                      try simp only [Act.put, pu]
                      refine tn 17 71 rfl rfl ?_
                      try simp only [Act.put, pu]
                      refine tn 18 72 rfl rfl ?_
                      try simp only [Act.put, pu]
                      refine tn 19 73 rfl rfl ?_
                      try simp only [Act.put, pu]
                      refine tn 20 74 rfl rfl ?_
                      try simp only [Act.put, pu]
                      refine tk 21 75 rfl rfl ?_
                      try simp only [Act.put, pu]
                      refine tk 22 76 rfl rfl ?_
                      try simp only [Act.put, pu]
                      refine tn 23 77 rfl rfl ?_
                      try simp only [Act.put, pu]
                      refine tn 24 78 rfl rfl ?_
                      try simp only [Act.put, pu]
                      refine tn 25 79 rfl rfl ?_
                      try simp only [Act.put, pu]
                      refine tn 26 80 rfl rfl ?_
                      try simp only [Act.put, pu]
                      refine tn 27 81 rfl rfl ?_
                      try simp only [Act.put, pu]
                      refine tn 28 82 rfl rfl ?_
                      try simp only [Act.put, pu]
                      refine tn 29 83 rfl rfl ?_
                      try simp only [Act.put, pu]
                      refine tn 30 84 rfl rfl ?_
                      try simp only [Act.put, pu]
                      refine tn 31 85 rfl rfl ?_
                      try simp only [Act.put, pu]
                      refine tn 32 86 rfl rfl ?_
                      try simp only [Act.put, pu]
                      refine tn 33 87 rfl rfl ?_
                      try simp only [Act.put, pu]
                      refine tn 34 88 rfl rfl ?_
                      try simp only [Act.put, pu]
                      refine tn 35 89 rfl rfl ?_
                      try simp only [Act.put, pu]
                      refine tn 36 90 rfl rfl ?_
                      try simp only [Act.put, pu]
                      refine tk 37 91 rfl rfl ?_
                      try simp only [Act.put, pu]
                      refine wpAnyH_done (by kernel_rfl) ?_ _
                      go_wp2_with fail
                      go_ret
                      exact ⟨ret_bool HF.out.symm, hB.drew⟩
                    | true =>
                      obtain ⟨a, ha, hal⟩ := inB_nat g
                      obtain ⟨m, hm⟩ : ∃ y, n.es[a]? = some y := ⟨_, List.getElem?_eq_getElem hal⟩
                      obtain ⟨-, u2, r0, hrm⟩ := HN.out.e.at_ hm
                      have HRM := Lib.hid hrm
                      obtain ⟨Am, cm, rfl, hmc, hmm, -, h5⟩ := hrm
                      unfold maxLen at hmm
                      rw [ha] at e0 g
                      have HA := Lib.hid ha; clear ha
                      have HM := Lib.hid hm; clear hm
                      cases g2' : inB e.2 0 ((m.length : Int) - 1) with
                      | false =>
                        have HF := Lib.hid (HNS.out (endOk_no2 HA.out HM.out g2'))
                        clear HNS p0 p1 h5
                        refine wp_region_held_drew (S := fun w' => w'.cell? ⟨w.heap.size, 0, none⟩ = some (.slice (some ad) n.es.length c0) ∧ w'.cell? ⟨wr.heap.size, 0, none⟩ = some (.int .i64 (a : Int)) ∧ w'.cell? ⟨wr.heap.size, 1, none⟩ = some (.int .i64 e.2) ∧ w'.cell? (ad.add a) = some (.slice Am m.length cm)) (by kernel_rfl) ?_ (fun hHeld => ?_)
                        · go_keep
                        refine tk 0 54 rfl rfl ?_
                        try simp only [Act.put, pu]
                        refine tk 1 55 rfl rfl ?_
                        try simp only [Act.put, pu]
                        refine tk 2 56 rfl rfl ?_
                        try simp only [Act.put, pu]
                        refine tk 3 57 rfl rfl ?_
                        try simp only [Act.put, pu]
                        refine tk 4 58 rfl rfl ?_
                        try simp only [Act.put, pu]
                        refine tk 5 59 rfl rfl ?_
                        try simp only [Act.put, pu]
                        refine tr 6 rfl (by kernel_rfl) (fun K hK => ?_)
                        go_simp
                        go_at_call 75
                        refine (spec_l1In _ _ _ _).mono ?_
                        rintro e w' ⟨rfl, rfl⟩
                        rw [show IntKind.i64.wrap ((n.es.length : Int) - 1) = (n.es.length : Int) - 1 from IntWalk.i64_in _ (by omega), g]
                        refine hK.out _ _ ?_ (fun hHeld => ?_)
                        · go_keep
                        clear hK K
                        try simp only [Act.put, pu]
                        refine tk 7 61 rfl rfl ?_
                        try simp only [Act.put, pu]
                        refine tk 8 62 rfl rfl ?_
                        try simp only [Act.put, pu]
                        refine tk 9 63 rfl rfl ?_
                        try simp only [Act.put, pu]
                        refine tk 10 64 rfl rfl ?_
                        try simp only [Act.put, pu]
                        refine tk 11 65 rfl rfl ?_
                        try simp only [Act.put, pu]
                        refine tk 12 66 rfl rfl ?_
                        try simp only [Act.put, pu]
                        refine tk 13 67 rfl rfl ?_
                        try simp only [Act.put, pu]
                        refine tk 14 68 rfl rfl ?_
                        try simp only [Act.put, pu]
                        refine tk 15 69 rfl rfl ?_
                        try simp only [Act.put, pu]
                        refine tk 16 70 rfl rfl ?_
                        try simp only [Act.put, pu]
                        refine tk 17 71 rfl rfl ?_
                        try simp only [Act.put, pu]
                        refine tk 18 72 rfl rfl ?_
                        try simp only [Act.put, pu]
                        refine tr 19 rfl (by kernel_rfl) (fun K hK => ?_)
                        go_simp
                        go_at_call 75
                        refine (spec_l1In _ _ _ _).mono ?_
                        rintro e w' ⟨rfl, rfl⟩
                        rw [show IntKind.i64.wrap ((m.length : Int) - 1) = (m.length : Int) - 1 from IntWalk.i64_in _ (by omega), g2']
                        refine hK.out _ _ ?_ (fun hHeld => ?_)
                        · go_keep
                        clear hK K
                        try simp only [Act.put, pu]
                        refine tk 20 74 rfl rfl ?_
                        try simp only [Act.put, pu]
                        refine tk 21 75 rfl rfl ?_
                        try simp only [Act.put, pu]
                        refine tk 22 76 rfl rfl ?_
                        try simp only [Act.put, pu]
                        refine tn 23 77 rfl rfl ?_
                        try simp only [Act.put, pu]
                        refine tn 24 78 rfl rfl ?_
                        try simp only [Act.put, pu]
                        refine tn 25 79 rfl rfl ?_
                        try simp only [Act.put, pu]
                        refine tn 26 80 rfl rfl ?_
                        try simp only [Act.put, pu]
                        refine tn 27 81 rfl rfl ?_
                        try simp only [Act.put, pu]
                        refine tn 28 82 rfl rfl ?_
                        try simp only [Act.put, pu]
                        refine tn 29 83 rfl rfl ?_
                        try simp only [Act.put, pu]
                        refine tn 30 84 rfl rfl ?_
                        try simp only [Act.put, pu]
                        refine tn 31 85 rfl rfl ?_
                        try simp only [Act.put, pu]
                        refine tn 32 86 rfl rfl ?_
                        try simp only [Act.put, pu]
                        refine tn 33 87 rfl rfl ?_
                        try simp only [Act.put, pu]
                        refine tn 34 88 rfl rfl ?_
                        try simp only [Act.put, pu]
                        refine tn 35 89 rfl rfl ?_
                        try simp only [Act.put, pu]
                        refine tn 36 90 rfl rfl ?_
                        try simp only [Act.put, pu]
                        refine tk 37 91 rfl rfl ?_
                        try simp only [Act.put, pu]
                        refine wpAnyH_done (by kernel_rfl) ?_ _
                        go_wp2_with fail
                        go_ret
                        exact ⟨ret_bool HF.out.symm, hB.drew⟩
                      | true =>
                        obtain ⟨p, hp, hpl⟩ := inB_nat g2'
                        obtain ⟨x, hx⟩ : ∃ y, m[p]? = some y := ⟨_, List.getElem?_eq_getElem hpl⟩
                        obtain ⟨b2, o2, rfl, -, -⟩ := h5 (by omega)
                        obtain ⟨-, x0, x1⟩ := HRM.out.at_ hx
                        rw [hp] at e1 g2'
                        have HPP := Lib.hid hp; clear hp
                        have HX := Lib.hid hx; clear hx
                        clear p0 p1 h5
                        by_cases hv : x.1 = (k : Int) ∧ x.2 = (j : Int)
                        · have kq : (x.1 == (k : Int) && x.2 == (j : Int)) = true := by rw [hv.1, hv.2]; simp
                          have HO := Lib.hid (HU2.out.next HEL.out (endOk_of HA.out HPP.out HM.out HX.out hv))
                          clear hv HNS
                          refine wp_region_held_drew (S := fun w' => w'.cell? ⟨w.heap.size, 0, none⟩ = some (.slice (some ad) n.es.length c0) ∧ w'.cell? ⟨wr.heap.size, 0, none⟩ = some (.int .i64 (a : Int)) ∧ w'.cell? ⟨wr.heap.size, 1, none⟩ = some (.int .i64 (p : Int)) ∧ w'.cell? (ad.add a) = some (.slice (some ⟨b2, o2, none⟩) m.length cm) ∧ w'.cell? ⟨b2, o2 + p * 2, none⟩ = some (.int .i64 x.1) ∧ w'.cell? ⟨b2, o2 + p * 2 + 1, none⟩ = some (.int .i64 x.2)) (by kernel_rfl) ?_ (fun hHeld => ?_)
                          · go_keep
                          refine tk 0 54 rfl rfl ?_
                          try simp only [Act.put, pu]
                          refine tk 1 55 rfl rfl ?_
                          try simp only [Act.put, pu]
                          refine tk 2 56 rfl rfl ?_
                          try simp only [Act.put, pu]
                          refine tk 3 57 rfl rfl ?_
                          try simp only [Act.put, pu]
                          refine tk 4 58 rfl rfl ?_
                          try simp only [Act.put, pu]
                          refine tk 5 59 rfl rfl ?_
                          try simp only [Act.put, pu]
                          refine tr 6 rfl (by kernel_rfl) (fun K hK => ?_)
                          go_simp
                          go_at_call 75
                          refine (spec_l1In _ _ _ _).mono ?_
                          rintro e w' ⟨rfl, rfl⟩
                          rw [show IntKind.i64.wrap ((n.es.length : Int) - 1) = (n.es.length : Int) - 1 from IntWalk.i64_in _ (by omega), g]
                          refine hK.out _ _ ?_ (fun hHeld => ?_)
                          · go_keep
                          clear hK K
                          try simp only [Act.put, pu]
                          refine tk 7 61 rfl rfl ?_
                          try simp only [Act.put, pu]
                          refine tk 8 62 rfl rfl ?_
                          try simp only [Act.put, pu]
                          refine tk 9 63 rfl rfl ?_
                          try simp only [Act.put, pu]
                          refine tk 10 64 rfl rfl ?_
                          try simp only [Act.put, pu]
                          refine tk 11 65 rfl rfl ?_
                          try simp only [Act.put, pu]
                          refine tk 12 66 rfl rfl ?_
                          try simp only [Act.put, pu]
                          refine tk 13 67 rfl rfl ?_
                          try simp only [Act.put, pu]
                          refine tk 14 68 rfl rfl ?_
                          try simp only [Act.put, pu]
                          refine tk 15 69 rfl rfl ?_
                          try simp only [Act.put, pu]
                          refine tk 16 70 rfl rfl ?_
                          try simp only [Act.put, pu]
                          refine tk 17 71 rfl rfl ?_
                          try simp only [Act.put, pu]
                          refine tk 18 72 rfl rfl ?_
                          try simp only [Act.put, pu]
                          refine tr 19 rfl (by kernel_rfl) (fun K hK => ?_)
                          go_simp
                          go_at_call 75
                          refine (spec_l1In _ _ _ _).mono ?_
                          rintro e w' ⟨rfl, rfl⟩
                          rw [show IntKind.i64.wrap ((m.length : Int) - 1) = (m.length : Int) - 1 from IntWalk.i64_in _ (by omega), g2']
                          refine hK.out _ _ ?_ (fun hHeld => ?_)
                          · go_keep
                          clear hK K
                          try simp only [Act.put, pu]
                          refine tk 20 74 rfl rfl ?_
                          try simp only [Act.put, pu]
                          refine tk 21 75 rfl rfl ?_
                          try simp only [Act.put, pu]
                          refine tk 22 76 rfl rfl ?_
                          try simp only [Act.put, pu]
                          refine tk 23 77 rfl rfl ?_
                          try simp only [Act.put, pu]
                          refine tk 24 78 rfl rfl ?_
                          try simp only [Act.put, pu]
                          refine tk 25 79 rfl rfl ?_
                          try simp only [Act.put, pu]
                          refine tk 26 80 rfl rfl ?_
                          try simp only [Act.put, pu]
                          refine tk 27 81 rfl rfl ?_
                          try simp only [Act.put, pu]
                          refine tk 28 82 rfl rfl ?_
                          try simp only [Act.put, pu]
                          refine tk 29 83 rfl rfl ?_
                          try simp only [Act.put, pu]
                          refine tk 30 84 rfl rfl ?_
                          try simp only [Act.put, pu]
                          refine tk 31 85 rfl rfl ?_
                          try simp only [Act.put, pu]
                          refine tk 32 86 rfl rfl ?_
                          try simp only [Act.put, pu]
                          refine tk 33 87 rfl rfl ?_
                          try simp only [Act.put, pu]
                          refine tk 34 88 rfl rfl ?_
                          try simp only [Act.put, pu]
                          refine tk 35 89 rfl rfl ?_
                          try simp only [Act.put, pu]
                          refine tk 36 90 rfl rfl ?_
                          try simp only [Act.put, pu]
                          refine tk 37 91 rfl rfl ?_
                          try simp only [Act.put, pu]
                          refine wpAnyH_done (by kernel_rfl) ?_ _
                          go_wp2_with fail
                          go_roundw
                          case rel => exact ⟨hb2.drew, j + 1, by omega, by go_num, HO.out⟩
                          case measure => simp [intOf]; omega
                        · have kq : (x.1 == (k : Int) && x.2 == (j : Int)) = false := by
                            rw [Bool.and_eq_false_iff, beq_eq_false_iff_ne, beq_eq_false_iff_ne]
                            by_cases h1 : x.1 = (k : Int)
                            · exact .inr fun h2 => hv ⟨h1, h2⟩
                            · exact .inl h1
                          have HF := Lib.hid (HNS.out (endOk_no3 HA.out HPP.out HM.out HX.out hv))
                          clear hv HNS
                          refine wp_region_held_drew (S := fun w' => w'.cell? ⟨w.heap.size, 0, none⟩ = some (.slice (some ad) n.es.length c0) ∧ w'.cell? ⟨wr.heap.size, 0, none⟩ = some (.int .i64 (a : Int)) ∧ w'.cell? ⟨wr.heap.size, 1, none⟩ = some (.int .i64 (p : Int)) ∧ w'.cell? (ad.add a) = some (.slice (some ⟨b2, o2, none⟩) m.length cm) ∧ w'.cell? ⟨b2, o2 + p * 2, none⟩ = some (.int .i64 x.1) ∧ w'.cell? ⟨b2, o2 + p * 2 + 1, none⟩ = some (.int .i64 x.2)) (by kernel_rfl) ?_ (fun hHeld => ?_)
                          · go_keep
                          refine tk 0 54 rfl rfl ?_
                          try simp only [Act.put, pu]
                          refine tk 1 55 rfl rfl ?_
                          try simp only [Act.put, pu]
                          refine tk 2 56 rfl rfl ?_
                          try simp only [Act.put, pu]
                          refine tk 3 57 rfl rfl ?_
                          try simp only [Act.put, pu]
                          refine tk 4 58 rfl rfl ?_
                          try simp only [Act.put, pu]
                          refine tk 5 59 rfl rfl ?_
                          try simp only [Act.put, pu]
                          refine tr 6 rfl (by kernel_rfl) (fun K hK => ?_)
                          go_simp
                          go_at_call 75
                          refine (spec_l1In _ _ _ _).mono ?_
                          rintro e w' ⟨rfl, rfl⟩
                          rw [show IntKind.i64.wrap ((n.es.length : Int) - 1) = (n.es.length : Int) - 1 from IntWalk.i64_in _ (by omega), g]
                          refine hK.out _ _ ?_ (fun hHeld => ?_)
                          · go_keep
                          clear hK K
                          try simp only [Act.put, pu]
                          refine tk 7 61 rfl rfl ?_
                          try simp only [Act.put, pu]
                          refine tk 8 62 rfl rfl ?_
                          try simp only [Act.put, pu]
                          refine tk 9 63 rfl rfl ?_
                          try simp only [Act.put, pu]
                          refine tk 10 64 rfl rfl ?_
                          try simp only [Act.put, pu]
                          refine tk 11 65 rfl rfl ?_
                          try simp only [Act.put, pu]
                          refine tk 12 66 rfl rfl ?_
                          try simp only [Act.put, pu]
                          refine tk 13 67 rfl rfl ?_
                          try simp only [Act.put, pu]
                          refine tk 14 68 rfl rfl ?_
                          try simp only [Act.put, pu]
                          refine tk 15 69 rfl rfl ?_
                          try simp only [Act.put, pu]
                          refine tk 16 70 rfl rfl ?_
                          try simp only [Act.put, pu]
                          refine tk 17 71 rfl rfl ?_
                          try simp only [Act.put, pu]
                          refine tk 18 72 rfl rfl ?_
                          try simp only [Act.put, pu]
                          refine tr 19 rfl (by kernel_rfl) (fun K hK => ?_)
                          go_simp
                          go_at_call 75
                          refine (spec_l1In _ _ _ _).mono ?_
                          rintro e w' ⟨rfl, rfl⟩
                          rw [show IntKind.i64.wrap ((m.length : Int) - 1) = (m.length : Int) - 1 from IntWalk.i64_in _ (by omega), g2']
                          refine hK.out _ _ ?_ (fun hHeld => ?_)
                          · go_keep
                          clear hK K
                          try simp only [Act.put, pu]
                          refine tk 20 74 rfl rfl ?_
                          try simp only [Act.put, pu]
                          refine tk 21 75 rfl rfl ?_
                          try simp only [Act.put, pu]
                          refine tk 22 76 rfl rfl ?_
                          try simp only [Act.put, pu]
                          refine tk 23 77 rfl rfl ?_
                          try simp only [Act.put, pu]
                          refine tk 24 78 rfl rfl ?_
                          try simp only [Act.put, pu]
                          refine tk 25 79 rfl rfl ?_
                          try simp only [Act.put, pu]
                          refine tk 26 80 rfl rfl ?_
                          try simp only [Act.put, pu]
                          refine tk 27 81 rfl rfl ?_
                          try simp only [Act.put, pu]
                          refine tk 28 82 rfl rfl ?_
                          try simp only [Act.put, pu]
                          refine tk 29 83 rfl rfl ?_
                          try simp only [Act.put, pu]
                          refine tk 30 84 rfl rfl ?_
                          try simp only [Act.put, pu]
                          refine tk 31 85 rfl rfl ?_
                          try simp only [Act.put, pu]
                          refine tk 32 86 rfl rfl ?_
                          try simp only [Act.put, pu]
                          refine tk 33 87 rfl rfl ?_
                          try simp only [Act.put, pu]
                          refine tk 34 88 rfl rfl ?_
                          try simp only [Act.put, pu]
                          refine tk 35 89 rfl rfl ?_
                          try simp only [Act.put, pu]
                          refine tk 36 90 rfl rfl ?_
                          try simp only [Act.put, pu]
                          refine tk 37 91 rfl rfl ?_
                          try simp only [Act.put, pu]
                          refine wpAnyH_done (by kernel_rfl) ?_ _
                          go_wp2_with fail
                          go_ret
                          exact ⟨ret_bool HF.out.symm, hB.drew⟩
                  · have hl2 : l.length ≤ j := by omega
                    go_wp2_with fail
                    refine ⟨⟨bl_trans hb1 hb2, k + 1, by omega, by go_num, HU.out.next HL.out h6 HU2.out hl2⟩, ?_⟩
                    simp [intOf]
                    omega
              · have HF := Lib.hid (net_no6 HL.out h6)
                go_wp2_with fail
                go_ret
                exact ⟨ret_bool HF.out.symm, hB⟩
            · have HF := Lib.hid (net_end HH.out HU.out (by omega))
              go_wp2_with fail
              go_ret
              exact ⟨ret_bool HF.out.symm, hB⟩
      · have kq : (((n.ins.length : Nat) : Int) != (n.es.length : Int)) = true := by rw [bne_iff_ne]; omega
        have HF := Lib.hid (net_noH (n := n) fun hh => g3 hh.2.2.1)
        clear g3
        go_wp2_with fail
        go_ret
        exact ⟨ret_bool HF.out.symm, hB⟩
end
section
open Go.RowKit
set_option linter.unusedVariables false
set_option linter.unusedSimpArgs false
theorem ask_eq (n : Net) (r : Int) : askB n r = (netB n && (inB r 1 5 && runsB n r)) := by
  unfold askB netB runsB askP
  rw [Bool.eq_iff_iff, propB_iff, Bool.and_eq_true, Bool.and_eq_true, propB_iff, propB_iff]
  unfold inB
  rw [decide_eq_true_eq]
/-- One node's count. -/
def cntAt (n : Net) (r : Int) (l : Ends) : Int := if r = 2 then most (degs n) + 1 else if r = 3 then 2 else if r = 4 then (l.length : Int) + 1 else n.es.length + 1
theorem cnts_at {n : Net} {r : Int} {v : Nat} {l : Ends} (h : n.es[v]? = some l) : (cnts n r)[v]? = some (cntAt n r l) := by
  have hv : v < n.es.length := (List.getElem?_eq_some_iff.1 h).1
  unfold cnts cntAt
  split
  · rw [List.getElem?_replicate, if_pos hv]
  split
  · rw [List.getElem?_replicate, if_pos hv]
  split
  · unfold degs
    rw [List.getElem?_map, List.getElem?_map, h]
    rfl
  · rw [List.getElem?_replicate, if_pos hv]
theorem cnts_I64 {n : Net} (h : netP n) (r : Int) : ∀ x ∈ cnts n r, I64 x := fun x hx => small_I64 (cnts_bd h r x hx) (by omega) (by omega)
theorem cap_snoc {xs : List Int} {k : Nat} {x : Int} (h : xs[k]? = some x) : capd (xs.take (k + 1)) = if capd (xs.take k) * x < 3001 then capd (xs.take k) * x else 3001 := by
  obtain ⟨hk, rfl⟩ := List.getElem?_eq_some_iff.1 h
  rw [List.take_succ_eq_append_getElem hk]
  unfold capd
  rw [List.foldl_append]
  rfl
theorem capd_bd {xs : List Int} (h : ∀ x ∈ xs, 1 ≤ x) : 1 ≤ capd xs ∧ capd xs ≤ 3001 := by
  refine ⟨capG_pos h (a := 1) (by omega), ?_⟩
  cases hx : xs.reverse with
  | nil => obtain rfl : xs = [] := List.reverse_eq_nil_iff.1 hx; show (1 : Int) ≤ 3001; omega
  | cons y r =>
    have e : xs = r.reverse ++ [y] := by rw [← List.reverse_reverse xs, hx]; simp
    rw [e]
    unfold capd
    rw [List.foldl_append]
    simp only [List.foldl_cons, List.foldl_nil]
    split <;> omega
def CapRel (xs : List Int) (w : World) (o i : Value) (wr : World) : Prop := w = wr ∧ ∃ k : Nat, k ≤ xs.length ∧ i = .int .i64 k ∧ o = .int .i64 (capd (xs.take k))
end
section
open Go.RowKit
set_option linter.unusedVariables false
set_option linter.unusedSimpArgs false
/-- Asked, and not too many situations. -/
noncomputable def cvB (n : Net) (r : Int) : Bool := askB n r && decide (capd (cnts n r) ≤ 3000)
theorem askB_net {n : Net} {r : Int} (h : askB n r = true) : netP n := (propB_iff.1 h).1
/-- The number of situations that CountStates tells. -/
noncomputable def ctN (n : Net) (r : Int) : Int := if cvB n r = true then capd (cnts n r) else 0
theorem ctN_t {n : Net} {r : Int} (h : cvB n r = true) : ctN n r = capd (cnts n r) := if_pos h
theorem ctN_f {n : Net} {r : Int} (h : cvB n r = false) : ctN n r = 0 := if_neg (by rw [h]; simp)
theorem cvB_net {n : Net} {r : Int} (h : cvB n r = true) : netP n := by
  unfold cvB at h
  rw [Bool.and_eq_true] at h
  exact askB_net h.1
theorem ret_pair {a b : Int} {c d : Bool} (h : a = b) (h' : c = d) : Ending.returned (.tuple #[.int .i64 a, .bool c]) = .returned (.tuple #[.int .i64 b, .bool d]) := by rw [h, h']
/-! ### The number of a situation -/
def numS : List Int → List Int → Int
  | k :: cs, s :: ss => numS cs ss * k + s
  | _, _ => 0
def prodI (l : List Int) : Int := l.foldr (fun k a => k * a) 1
theorem prodI_pos {l : List Int} (h : ∀ x ∈ l, 1 ≤ x) : 1 ≤ prodI l := by
  induction l with
  | nil => show (1 : Int) ≤ 1; omega
  | cons y r ih =>
    have h1 := h y (by simp)
    have h2 := ih fun x hx => h x (by simp [hx])
    have h3 : (1 : Int) * 1 ≤ y * prodI r := Int.mul_le_mul h1 h2 (by omega) (by omega)
    show 1 ≤ y * prodI r
    omega
theorem prodI_drop {l : List Int} (h : ∀ x ∈ l, 1 ≤ x) (k : Nat) : prodI (l.drop k) ≤ prodI l := by
  induction k generalizing l with
  | zero => exact Int.le_refl _
  | succ k ih =>
    cases l with
    | nil => exact Int.le_refl _
    | cons y r =>
      have h1 := h y (by simp)
      have hr : ∀ x ∈ r, 1 ≤ x := fun x hx => h x (by simp [hx])
      have h2 := ih hr
      have h3 := prodI_pos hr
      have h4 : 1 * prodI r ≤ y * prodI r := Int.mul_le_mul_of_nonneg_right h1 (by omega)
      show prodI (r.drop k) ≤ y * prodI r
      omega
theorem capG_prod {l : List Int} (h : ∀ x ∈ l, 1 ≤ x) : ∀ {a : Int}, 1 ≤ a → capG l a ≤ 3000 → capG l a = a * prodI l := by
  induction l with
  | nil => intro a _ _; show a = a * 1; omega
  | cons y r ih =>
    intro a ha hc
    have hy := h y (by simp)
    have hr : ∀ x ∈ r, 1 ≤ x := fun x hx => h x (by simp [hx])
    have e2 : capG (y :: r) a = capG r (if a * y < 3001 then a * y else 3001) := rfl
    rw [e2] at hc ⊢
    by_cases hlt : a * y < 3001
    · rw [if_pos hlt] at hc ⊢
      have hay : (1 : Int) * 1 ≤ a * y := Int.mul_le_mul ha hy (by omega) (by omega)
      rw [ih hr (by omega) hc]
      show a * y * prodI r = a * (y * prodI r)
      rw [Int.mul_assoc]
    · rw [if_neg hlt, capG_top hr] at hc
      omega
/-- Valid states. -/
def Sts (cs ss : List Int) : Prop := cs.length = ss.length ∧ ∀ (v : Nat) (k s : Int), cs[v]? = some k → ss[v]? = some s → 0 ≤ s ∧ s < k
theorem Sts.tail {k s : Int} {cs ss : List Int} (h : Sts (k :: cs) (s :: ss)) : Sts cs ss := ⟨by have := h.1; simpa using this, fun v a b ha hb => h.2 (v + 1) a b (by simpa using ha) (by simpa using hb)⟩
theorem numS_bd : ∀ {cs ss : List Int}, Sts cs ss → (∀ x ∈ cs, 1 ≤ x) → 0 ≤ numS cs ss ∧ numS cs ss < prodI cs
  | [], [], _, _ => by show (0 : Int) ≤ 0 ∧ (0 : Int) < 1; omega
  | k :: cs, s :: ss, h, hk => by
    obtain ⟨h1, h2⟩ := numS_bd h.tail fun x hx => hk x (by simp [hx])
    obtain ⟨s0, s1⟩ := h.2 0 k s rfl rfl
    have hk1 := hk k (by simp)
    have m1 : 0 ≤ numS cs ss * k := Int.mul_nonneg h1 (by omega)
    have m2 : (numS cs ss + 1) * k ≤ prodI cs * k := Int.mul_le_mul_of_nonneg_right (by omega) (by omega)
    rw [Int.add_mul, Int.one_mul] at m2
    show 0 ≤ numS cs ss * k + s ∧ numS cs ss * k + s < k * prodI cs
    rw [Int.mul_comm k]
    omega
  | [], _ :: _, h, _ => by have := h.1; simp at this
  | _ :: _, [], h, _ => by have := h.1; simp at this
theorem Sts.drop {cs ss : List Int} (h : Sts cs ss) (k : Nat) : Sts (cs.drop k) (ss.drop k) :=
  ⟨by simp [h.1], fun v a b ha hb => by rw [List.getElem?_drop] at ha hb; exact h.2 _ a b ha hb⟩
theorem numS_step {cs ss : List Int} {v : Nat} {k s : Int} (hk : cs[v]? = some k) (hs : ss[v]? = some s) : numS (cs.drop v) (ss.drop v) = numS (cs.drop (v + 1)) (ss.drop (v + 1)) * k + s := by
  obtain ⟨h1, e1⟩ := List.getElem?_eq_some_iff.1 hk
  obtain ⟨h2, e2⟩ := List.getElem?_eq_some_iff.1 hs
  rw [List.drop_eq_getElem_cons h1, List.drop_eq_getElem_cons h2, e1, e2]
  rfl
/-- Counts whose situations are few. -/
def Few (cs : List Int) : Prop := (∀ x ∈ cs, 1 ≤ x ∧ x ≤ 41) ∧ prodI cs ≤ 3000 ∧ cs.length ≤ 40
theorem few_of {n : Net} {r : Int} (h : cvB n r = true) : Few (cnts n r) ∧ capd (cnts n r) = prodI (cnts n r) := by
  have hn := cvB_net h
  unfold cvB at h
  rw [Bool.and_eq_true, decide_eq_true_eq] at h
  have h1 := cnts_bd hn r
  have e : capd (cnts n r) = 1 * prodI (cnts n r) := capG_prod (fun x hx => (h1 x hx).1) (a := 1) (by omega) h.2
  rw [Int.one_mul] at e
  exact ⟨⟨h1, by rw [← e]; exact h.2, by rw [cnts_len]; exact hn.1.2⟩, e⟩
theorem few_num {cs ss : List Int} (hf : Few cs) (h : Sts cs ss) (v : Nat) : 0 ≤ numS (cs.drop v) (ss.drop v) ∧ numS (cs.drop v) (ss.drop v) ≤ 3000 := by
  have h1 : ∀ x ∈ cs, 1 ≤ x := fun x hx => (hf.1 x hx).1
  obtain ⟨a, b⟩ := numS_bd (h.drop v) fun x hx => h1 x (List.mem_of_mem_drop hx)
  have := prodI_drop h1 v
  have := hf.2.1
  omega
def NumRel (cs ss : List Int) (w : World) (o i : Value) (wr : World) : Prop := (∃ q, wr = w.drewN q) ∧ ∃ k : Nat, k ≤ ss.length ∧ i = .int .i64 ((k : Int) - 1) ∧ o = .int .i64 (numS (cs.drop k) (ss.drop k))
/-! ### The states of a number -/
def stsS : List Int → Int → List Int
  | [], _ => []
  | k :: cs, x => x.tmod k :: stsS cs (x.tdiv k)
theorem stsS_len : ∀ (cs : List Int) (x : Int), (stsS cs x).length = cs.length
  | [], _ => rfl
  | k :: cs, x => by unfold stsS; simp [stsS_len]
theorem stsS_ok : ∀ {cs : List Int} {x : Int}, (∀ k ∈ cs, 1 ≤ k) → 0 ≤ x → Sts cs (stsS cs x)
  | [], _, _, _ => ⟨rfl, fun v a b h => by simp at h⟩
  | k :: cs, x, h, hx => by
    have hk := h k (by simp)
    have ih := stsS_ok (cs := cs) (x := x.tdiv k) (fun a ha => h a (by simp [ha])) (Int.tdiv_nonneg hx (by omega))
    refine ⟨by unfold stsS; simp [stsS_len], fun v a b ha hb => ?_⟩
    cases v with
    | zero =>
      unfold stsS at hb
      simp only [List.getElem?_cons_zero, Option.some.injEq] at ha hb
      subst ha hb
      exact ⟨Int.tmod_nonneg _ hx, Int.tmod_lt_of_pos _ (by omega)⟩
    | succ v =>
      unfold stsS at hb
      exact ih.2 v a b (by simpa using ha) (by simpa using hb)
/-- The states up to k, and what is left of the number. -/
def StRest (cs : List Int) (x : Int) (k : Nat) (y : Int) : Prop := stsS cs x = (stsS cs x).take k ++ stsS (cs.drop k) y ∧ 0 ≤ y ∧ y ≤ x
theorem StRest.start (cs : List Int) {x : Int} (h : 0 ≤ x) : StRest cs x 0 x := ⟨by simp, h, Int.le_refl _⟩
theorem StRest.next {cs : List Int} {x y a : Int} {k : Nat} (h : StRest cs x k y) (ha : cs[k]? = some a) (h1 : 1 ≤ a) : StRest cs x (k + 1) (y.tdiv a) ∧ (stsS cs x)[k]? = some (y.tmod a) := by
  obtain ⟨e, h0, hx⟩ := h
  obtain ⟨hk, ea⟩ := List.getElem?_eq_some_iff.1 ha
  have e2 : stsS (cs.drop k) y = y.tmod a :: stsS (cs.drop (k + 1)) (y.tdiv a) := by
    rw [List.drop_eq_getElem_cons hk, ea]
    rfl
  have hl : ((stsS cs x).take k).length = k := by rw [List.length_take, stsS_len]; omega
  have e3 : (stsS cs x)[k]? = some (y.tmod a) := by
    rw [e, e2, List.getElem?_append_right (by omega), hl, Nat.sub_self]
    rfl
  refine ⟨⟨?_, Int.tdiv_nonneg h0 (by omega), Int.le_trans (Int.tdiv_le_self _ h0) hx⟩, e3⟩
  obtain ⟨hk3, e4⟩ := List.getElem?_eq_some_iff.1 e3
  rw [List.take_succ_eq_append_getElem hk3, e4, List.append_assoc]
  rw [e2] at e
  exact e
def StsRel (cs : List Int) (x : Int) (w : World) (v xv i : Value) (wr : World) : Prop :=
  ∃ (k : Nat) (y : Int), k ≤ cs.length ∧ i = .int .i64 k ∧ xv = .int .i64 y ∧ StRest cs x k y ∧ wr.ownsRow w.heap.size 3 1 v k (((stsS cs x).take k).map intV) ∧ Below w.heap.size w wr
end
section
open Go.RowKit
set_option linter.unusedVariables false
set_option linter.unusedSimpArgs false
noncomputable def sitB (n : Net) (r : Int) (ss : List Int) : Bool := propB (askP n r ∧ Sts (cnts n r) ss)
def StsTo (cs ss : List Int) (j : Nat) : Prop := ∀ (v : Nat) (k s : Int), v < j → cs[v]? = some k → ss[v]? = some s → 0 ≤ s ∧ s < k
theorem StsTo.next {cs ss : List Int} {j : Nat} {k s : Int} (h : StsTo cs ss j) (hk : cs[j]? = some k) (hs : ss[j]? = some s) (hi : inB s 0 (k - 1) = true) : StsTo cs ss (j + 1) := fun v a b hv ha hb => by
  by_cases e : v = j
  · subst e
    obtain rfl := Option.some.inj (hk.symm.trans ha)
    obtain rfl := Option.some.inj (hs.symm.trans hb)
    unfold inB at hi
    have := of_decide_eq_true hi
    omega
  · exact h v a b (by omega) ha hb
theorem sit_noA {n : Net} {r : Int} {ss : List Int} (h : askB n r = false) : sitB n r ss = false := propB_f fun hp => by rw [show askB n r = true from propB_t hp.1] at h; cases h
theorem sit_noL {n : Net} {r : Int} {ss : List Int} (h : ss.length ≠ n.es.length) : sitB n r ss = false := propB_f fun hp => h (by rw [← hp.2.1, cnts_len])
theorem sit_noS {n : Net} {r k s : Int} {ss : List Int} {j : Nat} (hk : (cnts n r)[j]? = some k) (hs : ss[j]? = some s) (hi : inB s 0 (k - 1) = false) : sitB n r ss = false := propB_f fun hp => by
  have := hp.2.2 j k s hk hs
  rw [inB_t (by omega)] at hi
  cases hi
theorem sit_end {n : Net} {r : Int} {ss : List Int} {j : Nat} (ha : askB n r = true) (hl : ss.length = n.es.length) (h : StsTo (cnts n r) ss j) (hj : ss.length ≤ j) : sitB n r ss = true :=
  propB_t ⟨propB_iff.1 ha, by rw [cnts_len, hl], fun v k s hk hs => h v k s (by have := (List.getElem?_eq_some_iff.1 hs).1; omega) hk hs⟩
def SsRel (n : Net) (r : Int) (ss : List Int) (w : World) (i : Value) (wr : World) : Prop := Below w.heap.size w wr ∧ ∃ k : Nat, k ≤ ss.length ∧ i = .int .i64 k ∧ StsTo (cnts n r) ss k
noncomputable def nmB (n : Net) (r : Int) (ss : List Int) : Bool := cvB n r && sitB n r ss
noncomputable def nmN (n : Net) (r : Int) (ss : List Int) : Int := if nmB n r ss = true then numS (cnts n r) ss else 0
theorem nm_f {n : Net} {r : Int} {ss : List Int} (h : nmB n r ss = false) : nmN n r ss = 0 := if_neg (by rw [h]; simp)
theorem nm_t {n : Net} {r : Int} {ss : List Int} (h : nmB n r ss = true) : nmN n r ss = numS (cnts n r) ss := if_pos h
theorem sitB_sts {n : Net} {r : Int} {ss : List Int} (h : sitB n r ss = true) : Sts (cnts n r) ss := (propB_iff.1 h).2
noncomputable def soB (n : Net) (r x : Int) : Bool := cvB n r && inB x 0 (capd (cnts n r) - 1)
noncomputable def soL (n : Net) (r x : Int) : List Int := if soB n r x = true then stsS (cnts n r) x else []
theorem so_f {n : Net} {r x : Int} (h : soB n r x = false) : soL n r x = [] := if_neg (by rw [h]; simp)
theorem so_t {n : Net} {r x : Int} (h : soB n r x = true) : soL n r x = stsS (cnts n r) x := if_pos h
theorem ints_nil (w : World) (B : Nat) : IntsR w B (.slice none 0 0) [] := ⟨⟨none, 0, rfl, Nat.le_refl _, Nat.zero_le _, fun h => absurd h (by simp)⟩, fun _ h => by cases h⟩
end
end Go.Proofs.YtcpbbjocaimocaaGreat
