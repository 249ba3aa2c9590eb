/-
  Machines, the reference's side: maGood.
-/
import Derived.Test.YtcpbbjocaimocaaGreatMaGoodA
namespace Go.Proofs.YtcpbbjocaimocaaGreat
open Go.RowKit
set_option linter.unusedVariables false
set_option linter.unusedSimpArgs false
set_option maxRecDepth 100000 in
set_option maxHeartbeats 2000000 in
theorem spec_maGood (vs ve vc vo : Value) (m : Mach) (w : World) (h : MachR w w.heap.size vs ve vc vo m) :
    Calls Tryz.prog 123 #[machV vs ve vc vo m] w fun e w' => e = .returned (.bool (maB m)) ∧ Below w.heap.size w w' := by
  have HG := Lib.hid (maGood_on vs ve vc vo m w h)
  unfold machV
  obtain ⟨A0, c0, rfl, hc0, hm0, hr0⟩ := h.s.open_
  obtain ⟨A1, c1, rfl, hc1, hm1, hr1⟩ := h.e.open_
  have hcc := h.c
  obtain ⟨A2, c2, rfl, hc2, hm2, -, hr2⟩ := hcc
  obtain ⟨A3, c3, rfl, hc3, hm3, hr3⟩ := h.o.open_
  unfold maxLen at hm0 hm1 hm2 hm3
  obtain ⟨w0, hw0, hB, HD, hz0, HS0⟩ := box7 w (.int .i64 m.deg) (.int .i64 m.st) (.int .i64 m.msg) (.slice A0 m.start.length c0) (.slice A1 m.send.length c1) (.slice A2 m.cls.length c2) (.slice A3 m.out.length c3) 42
  have HW0 := Lib.hid hw0
  have H := Lib.hid (h.up hB)
  have HR0 := Lib.hid hr0
  have HR1 := Lib.hid hr1
  have HR2 := Lib.hid hr2
  obtain ⟨⟨g0, g1, g2⟩, ⟨q0, q1, q2, q3⟩, qf⟩ := cells7 HD
  have e0 := g0
  have e1 := g1
  have e2 := g2
  rw [hw0] at e0 e1 e2
  clear h hw0 hr0 hr1 hr2 hr3
  cases k1 : inB m.deg 0 6 with
  | false =>
    have HF := Lib.hid (maB_f fun hp => inBf k1 hp.1.1).symm
    go_enter Tryz.func123, Tryz.ntmps123
    go_wp2_with (go_at_call 75; refine (spec_l1In _ _ _ _).mono ?_; rintro e w' ⟨rfl, rfl⟩)
    go_ret
    exact ⟨ret_bool HF.out, by rw [← HW0.out]; exact hB⟩
  | true =>
    cases k2 : inB m.st 1 12 with
    | false =>
      have HF := Lib.hid (maB_f fun hp => inBf k2 hp.1.2.1).symm
      go_enter Tryz.func123, Tryz.ntmps123
      go_wp2_with (go_at_call 75; refine (spec_l1In _ _ _ _).mono ?_; rintro e w' ⟨rfl, rfl⟩)
      go_ret
      exact ⟨ret_bool HF.out, by rw [← HW0.out]; exact hB⟩
    | true =>
      cases k3 : inB m.msg 1 6 with
      | false =>
        have HF := Lib.hid (maB_f fun hp => inBf k3 hp.1.2.2).symm
        go_enter Tryz.func123, Tryz.ntmps123
        go_wp2_with (go_at_call 75; refine (spec_l1In _ _ _ _).mono ?_; rintro e w' ⟨rfl, rfl⟩)
        go_ret
        exact ⟨ret_bool HF.out, by rw [← HW0.out]; exact hB⟩
      | true =>
        have b1 := inBt k1
        have b2 := inBt k2
        have b3 := inBt k3
        have f0 := q0
        have f1 := q1
        have f2 := q2
        have f3 := q3
        rw [HW0.out] at f0 f1 f2 f3
        by_cases k4 : (m.start.length : Int) = m.deg + 1
        · have n4 : (((m.start.length : Nat) : Int) == m.deg + 1) = true := by rw [beq_iff_eq]; exact k4
          have hp0 : 0 < m.start.length := by omega
          obtain ⟨l0, hl0⟩ : ∃ l, m.start[0]? = some l := ⟨_, List.getElem?_eq_getElem hp0⟩
          obtain ⟨ad, rfl, hab, hrow⟩ := HR0.out hp0
          obtain ⟨u, hcu, hru⟩ := hrow 0 l0 hl0
          have ea : ad.add 0 = ad := by unfold Addr.add; simp
          rw [ea] at hcu
          have hcr := (hB.cell (p := ad) hab).trans hcu
          obtain ⟨A5, c5, rfl, hc5, hm5, -⟩ := hru.open_
          unfold maxLen at hm5
          have hcx := hcr
          rw [HW0.out] at hcx
          have HFI := Lib.hid (show first m = l0.length by unfold first; rw [List.getD_eq_getElem?_getD, hl0]; rfl)
          clear hl0 hcu hru hrow
          cases k5 : inB (l0.length : Int) 1 10 with
          | false =>
            have HF := Lib.hid (maB_f fun hp => inBf k5 (by have := hp.2.2.1; rw [HFI.out] at this; exact this)).symm
            go_enter Tryz.func123, Tryz.ntmps123
            go_wp2_with (go_at_call 75; refine (spec_l1In _ _ _ _).mono ?_; rintro e w' ⟨rfl, rfl⟩)
            go_ret
            exact ⟨ret_bool HF.out, by rw [← HW0.out]; exact hB⟩
          | true =>
            by_cases k6 : (m.send.length : Int) = m.st
            · have n6 : (((m.send.length : Nat) : Int) == m.st) = true := by rw [beq_iff_eq]; exact k6
              by_cases k7 : m.cls.length ≤ 60
              · by_cases k8 : (m.out.length : Int) = m.st
                · have n8 : (((m.out.length : Nat) : Int) == m.st) = true := by rw [beq_iff_eq]; exact k8
                  have HAO := Lib.hid (H.out.o)
                  cases k9 : allB m.out (-1) 9 with
                  | false =>
                    have HF := Lib.hid (maB_f fun hp => by have e : allB m.out (-1) 9 = true := allB_iff.2 hp.2.2.2.2.2.2; rw [k9] at e; cases e).symm
                    go_enter Tryz.func123, Tryz.ntmps123
                    go_wp2_with (first
                      | (go_at_call 75; refine (spec_l1In _ _ _ _).mono ?_; rintro e w' ⟨rfl, rfl⟩)
                      | (rw [← HW0.out]; go_at_call 97; refine (spec_l1All _ m.out _ _ w0 HAO.out).mono ?_; rintro e w' ⟨rfl, rfl⟩)
                      | (go_at_call 97; refine (spec_l1All _ m.out _ _ w0 HAO.out).mono ?_; rintro e w' ⟨rfl, rfl⟩))
                    go_ret
                    exact ⟨ret_bool HF.out, by first | exact hB | (rw [← HW0.out]; exact hB)⟩
                  | true => exact HG.out b1 b2 b3 k4 (by rw [HFI.out]; exact inBt k5) k6 k7 k8 k9
                · have n8 : (((m.out.length : Nat) : Int) == m.st) = false := by rw [beq_eq_false_iff_ne]; exact k8
                  have HF := Lib.hid (maB_f fun hp => k8 hp.2.1.2.2.1).symm
                  go_enter Tryz.func123, Tryz.ntmps123
                  go_wp2_with (go_at_call 75; refine (spec_l1In _ _ _ _).mono ?_; rintro e w' ⟨rfl, rfl⟩)
                  go_ret
                  exact ⟨ret_bool HF.out, by rw [← HW0.out]; exact hB⟩
              · skip
                have HF := Lib.hid (maB_f fun hp => k7 hp.2.1.2.2.2).symm
                go_enter Tryz.func123, Tryz.ntmps123
                go_wp2_with (go_at_call 75; refine (spec_l1In _ _ _ _).mono ?_; rintro e w' ⟨rfl, rfl⟩)
                go_ret
                exact ⟨ret_bool HF.out, by rw [← HW0.out]; exact hB⟩
            · have n6 : (((m.send.length : Nat) : Int) == m.st) = false := by rw [beq_eq_false_iff_ne]; exact k6
              have HF := Lib.hid (maB_f fun hp => k6 hp.2.1.2.1).symm
              go_enter Tryz.func123, Tryz.ntmps123
              go_wp2_with (go_at_call 75; refine (spec_l1In _ _ _ _).mono ?_; rintro e w' ⟨rfl, rfl⟩)
              go_ret
              exact ⟨ret_bool HF.out, by rw [← HW0.out]; exact hB⟩
        · have HF := Lib.hid (maB_f fun hp => k4 hp.2.1.1).symm
          have n4 : (((m.start.length : Nat) : Int) == m.deg + 1) = false := by rw [beq_eq_false_iff_ne]; exact k4
          go_enter Tryz.func123, Tryz.ntmps123
          go_wp2_with (go_at_call 75; refine (spec_l1In _ _ _ _).mono ?_; rintro e w' ⟨rfl, rfl⟩)
          go_ret
          exact ⟨ret_bool HF.out, by rw [← HW0.out]; exact hB⟩
end Go.Proofs.YtcpbbjocaimocaaGreat
