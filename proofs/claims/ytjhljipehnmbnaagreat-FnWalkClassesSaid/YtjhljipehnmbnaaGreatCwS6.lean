/-
  Walk problems, the reference's side: flexible labels, flexibility, class.
-/
import Derived.Test.YtjhljipehnmbnaaGreatCwS5
import Derived.Test.YtjhljipehnmbnaaGreatCwIY
namespace Go.Proofs.YtjhljipehnmbnaaGreat
open Go.RowKit
set_option linter.unusedVariables false
set_option linter.unusedSimpArgs false
/-- What has been put in order: the first k components and j labels of the next. -/
def FxR (L : List Nat) (v : Value) (wr : World) : Prop :=
  ∃ l : List Int, (∀ z, z ∈ l ↔ z ∈ natsI L) ∧ Rising l ∧ (∀ x ∈ L, x < 12) ∧ (∃ A m c, v = .slice A m c) ∧ IntsR wr wr.heap.size v l ∧ (l = [] → v = .slice none 0 0)
def FoRel (n : Nat) (xss : List (List Int)) (w1 : World) (v i : Value) (wr : World) : Prop :=
  ∃ k : Nat, k ≤ (roots xss n).length ∧ i = .int .i64 k ∧ FxR (fl n xss ((roots xss n).take k)) v wr ∧ Below w1.heap.size w1 wr
def FpRel (L K : List Nat) (w2 : World) (v i : Value) (wr : World) : Prop :=
  ∃ j : Nat, j ≤ K.length ∧ i = .int .i64 j ∧ FxR (L ++ K.take j) v wr ∧ Below w2.heap.size w2 wr
def FqRel (K : List Nat) (w2 : World) (v0 : Value) (v i : Value) (wr : World) : Prop :=
  ∃ j : Nat, j ≤ K.length ∧ i = .int .i64 j ∧ v = v0 ∧ w2 = wr
theorem rising_len {l : List Int} (h : Rising l) (hb : ∀ x ∈ l, 0 ≤ x ∧ x ≤ 11) : l.length ≤ 12 := by
  have h1 : ∀ (l : List Int) (m : Int), Rising l → (∀ x ∈ l, m ≤ x ∧ x ≤ 11) → (l.length : Int) ≤ 12 - m ∨ l = [] := by
    intro l
    induction l with
    | nil => intro m _ _; exact .inr rfl
    | cons x r ih =>
      intro m h hb
      have hx := hb x (by simp)
      obtain ⟨h2, h3⟩ := List.pairwise_cons.1 h
      rcases ih (x + 1) h3 (fun y hy => ⟨by have := h2 y hy; omega, (hb y (by simp [hy])).2⟩) with q | q
      · left; rw [List.length_cons]; push_cast; omega
      · subst q; left; simp; omega
  rcases h1 l 0 h hb with q | q
  · omega
  · subst q; simp
theorem FxR.mono {L : List Nat} {v : Value} {w w' : World} (h : FxR L v w) (hb : Below w.heap.size w w') : FxR L v w' := by
  obtain ⟨l, h1, h2, h3, h4, h5, h6⟩ := h
  exact ⟨l, h1, h2, h3, h4, (h5.below hb).more hb.size, h6⟩
theorem FxR.put {L : List Nat} {l : List Int} {u : Value} {w : World} {b : Nat} (hm : ∀ z, z ∈ l ↔ z ∈ natsI L) (hr : Rising l) (hL : ∀ x ∈ L, x < 12) (hb : b < 12) (hs : ∃ A m c, u = .slice A m c) (hu : IntsR w w.heap.size u (putS l (b : Int))) : FxR (L ++ [b]) u w := by
  refine ⟨_, fun z => ?_, putS_rising _ _ hr, fun x hx => ?_, hs, hu, fun h => ?_⟩
  · rw [putS_mem, natsI_snoc, List.mem_append, hm, List.mem_singleton]
    exact or_comm
  · rcases List.mem_append.1 hx with h | h
    · exact hL x h
    · rw [List.mem_singleton.1 h]; exact hb
  · have := (putS_mem l (b : Int) (b : Int)).2 (.inl rfl)
    rw [h] at this
    cases this
set_option maxRecDepth 100000 in
set_option maxHeartbeats 2000000 in
theorem spec_waFlexible (n : Nat) (v : Value) (xss : List (List Int)) (w : World) (h : RowsR w w.heap.size v xss) (hg : Good n xss) :
    Calls Tryz.prog 57 #[.agg #[.int .i64 (n : Int), v]] w fun e w' => ∃ v', e = .returned v' ∧ (∃ A m c, v' = .slice A m c) ∧ IntsR w' w'.heap.size v' (natsI (flexL n xss)) ∧ Below w.heap.size w w' := by
  have hn := good_n hg
  have HH := Lib.hid h; clear h
  have HG := Lib.hid hg; clear hg
  have hrl := roots_len xss n
  go_enter Tryz.func57, Tryz.ntmps57
  go_wp2_with fail
  refine (spec_waParts n v xss _ ((HH.out.below (bl_alloc (Below.refl _ _) _)).more (by simp)) HG.out).mono ?_
  rintro e w1 ⟨lv, rfl, hlv, hb1⟩
  have hb01 := bl_trans (bl_alloc (Below.refl w.heap.size w) _) hb1
  have HL := Lib.hid hlv
  obtain ⟨Al, cl, rfl⟩ := hlv.sl
  have hst : FoRel n xss w1 (.slice none 0 0) (.int .i64 0) w1 := ⟨0, Nat.zero_le _, rfl, ⟨[], by rw [List.take_zero, fl_nil]; simp [natsI], List.Pairwise.nil, by rw [List.take_zero, fl_nil]; simp, ⟨_, _, _, rfl⟩, ⟨⟨none, 0, rfl, Nat.zero_le _, by unfold maxLen; omega, fun h => by simp at h⟩, fun _ h => by cases h⟩, fun _ => rfl⟩, Below.refl _ _⟩
  have HST := Lib.hid hst
  clear hst hlv
  go_wp2_with fail
  go_loopw [3, 11] (fun v i wr => FoRel n xss w1 v i wr) (fun _ i _ => (roots xss n).length - (intOf i).toNat)
  case atStart => exact HST.out
  case round =>
    clear HST
    obtain ⟨k, hk, rfl, hfx, hbl⟩ := hrel
    have HF := Lib.hid hfx
    have hsz := hbl.size
    clear hfx
    by_cases hlt : k < (roots xss n).length
    · obtain ⟨r, hr⟩ : ∃ r, (roots xss n)[k]? = some r := ⟨_, List.getElem?_eq_getElem hlt⟩
      obtain ⟨gl, cl', x, y, z, e1, -, hgl, -, -, kx, ky, kz, hR⟩ := HL.out.at_ hlt
      cases e1
      obtain ⟨hIx, rfl, hIz, -, -⟩ := hR r hr
      obtain ⟨Ax, cx, rfl, x1, x2, x3⟩ := hIx.open_
      obtain ⟨Az, cz, rfl, -, -, -⟩ := hIz.open_
      rw [natsI_len] at x1 x3 kx
      have hroot : isRoot xss r := (mem_lsTo.1 (List.mem_of_getElem? hr)).2
      have hcl12 : (compL xss r).length ≤ 12 := lsP_len _
      have HTK := Lib.hid (show (roots xss n).take (k + 1) = (roots xss n).take k ++ [r] by
        obtain ⟨hk', rfl⟩ := List.getElem?_eq_some_iff.1 hr
        exact List.take_succ_eq_append_getElem hk')
      replace kx := (hbl.cell (p := ⟨gl, k * 3, none⟩) hgl).trans kx
      replace ky := (hbl.cell (p := ⟨gl, k * 3 + 1, none⟩) hgl).trans ky
      replace kz := (hbl.cell (p := ⟨gl, k * 3 + 2, none⟩) hgl).trans kz
      have HX3 := Lib.hid x3
      have HRH := Lib.hid (root_head HG.out hroot)
      have hpl := perA_le n xss r
      clear hIx hIz hR x3 hr hroot
      have hlen0 : 0 < (compL xss r).length := by
        have := (List.getElem?_eq_some_iff.1 HRH.out).1
        omega
      obtain ⟨ad, rfl, hbd, hc⟩ := HX3.out hlen0
      have HC := Lib.hid hc
      obtain ⟨wq, hwq⟩ : ∃ z, z = wr := ⟨_, rfl⟩
      subst hwq
      obtain ⟨w2, hw2⟩ : ∃ z, z = wq.alloc (.cells #[.slice (some ad) (compL xss r).length cx, .int .i64 (perA n xss r : Int), .slice Az (natsI (resL n xss r)).length cz] 79) := ⟨_, rfl⟩
      have hb2 : Below wq.heap.size wq w2 := by rw [hw2]; exact bl_alloc (Below.refl _ _) _
      have ky2 : w2.cell? ⟨wq.heap.size, 1, none⟩ = some (.int .i64 (perA n xss r : Int)) := by rw [hw2]; exact cell_of_row _ _ 1 _ _ (0, 0) (heap_alloc_new _ _)
      have hsz2 : w2.heap.size = wq.heap.size + 1 := by rw [hw2]; simp
      have HF2 := Lib.hid (HF.out.mono hb2)
      have hb12 := bl_trans hbl hb2
      obtain ⟨l, hm1, hm2, hm3, ⟨A3, m3, c3, rfl⟩, hm5, hm6⟩ := HF2.out
      clear hm1 hm2 hm3 hm5 hm6 HF HX3 hc
      go_wp2_with fail
      rw [← hw2]
      clear hw2 kx ky kz
      by_cases hp : perA n xss r = 1
      · rw [hp] at ky2
        have HP := Lib.hid hp
        clear hp
        go_loopw [3, 18] (fun v i wx => FpRel (fl n xss ((roots xss n).take k)) (compL xss r) w2 v i wx) (fun _ i _ => (compL xss r).length - (intOf i).toNat)
        case atStart => exact ⟨0, Nat.zero_le _, rfl, by rw [List.take_zero, List.append_nil]; exact HF2.out, Below.refl _ _⟩
        case round =>
          obtain ⟨j, hj, rfl, hfx, hbx⟩ := hrel
          have HJ := Lib.hid hfx
          have hsx := hbx.size
          clear hfx
          by_cases hjt : j < (compL xss r).length
          · obtain ⟨b, hb⟩ : ∃ b, (compL xss r)[j]? = some b := ⟨_, List.getElem?_eq_getElem hjt⟩
            have hb12' := (mem_lsP.1 (List.mem_of_getElem? hb)).1
            have hab : (ad.add j).block = ad.block := by unfold Addr.add; split <;> rfl
            have hcell : wr.cell? (ad.add j) = some (.int .i64 (b : Int)) := (hbx.cell (p := ad.add j) (by rw [hab]; omega)).trans ((hb12.cell (p := ad.add j) (by rw [hab]; exact hbd)).trans (HC.out j _ (natsI_at hb)))
            have hky : wr.cell? ⟨wq.heap.size, 1, none⟩ = some (.int .i64 ((1 : Nat) : Int)) := (hbx.cell (by show wq.heap.size < _; omega)).trans ky2
            have HTJ := Lib.hid (show (compL xss r).take (j + 1) = (compL xss r).take j ++ [b] by
              obtain ⟨hk', rfl⟩ := List.getElem?_eq_some_iff.1 hb
              exact List.take_succ_eq_append_getElem hk')
            obtain ⟨l, hm1, hm2, hm3, ⟨A4, m4, c4, rfl⟩, hm5, hm6⟩ := HJ.out
            have hl12 := rising_len hm2 fun x hx => by
              obtain ⟨y, hy, rfl⟩ := List.mem_map.1 ((hm1 x).1 hx)
              have := hm3 y hy
              omega
            have HM := Lib.hid (fun (u : Value) (W : World) (h1 : ∃ A m c, u = .slice A m c) (h2 : IntsR W W.heap.size u (putS l (b : Int))) => FxR.put hm1 hm2 hm3 hb12' h1 h2)
            have HM5 := Lib.hid hm5
            have HM6 := Lib.hid hm6
            clear hm1 hm2 hm3 hm5 hm6 hb HJ ky2
            go_wp2_with fail
            refine (spec_l1Put _ l (b : Int) _ HM5.out (by omega) (by unfold I64; omega) HM6.out).mono ?_
            rintro e w3 ⟨u, rfl, hu1, hu2, -, hb3⟩
            have hfx3 := Lib.hid (HM.out u w3 hu1 hu2)
            have hbx3 := bl_trans hbx hb3
            obtain ⟨A5, m5, c5, rfl⟩ := hu1
            clear hu2
            go_wp2_with fail
            go_roundw
            case rel => exact ⟨j + 1, by omega, by go_num, by rw [HTJ.out, ← List.append_assoc]; exact hfx3.out, hbx3⟩
            case measure => simp [intOf]; omega
          · obtain rfl : j = (compL xss r).length := by omega
            have HJ2 := Lib.hid (show FxR (fl n xss ((roots xss n).take (k + 1))) u3 wr by
              rw [HTK.out, fl_t HP.out]
              have := HJ.out
              rw [List.take_length] at this
              exact this)
            have hbw := bl_trans hb12 hbx
            go_wp2_with fail
            go_roundw
            case rel => exact ⟨k + 1, by omega, by go_num, HJ2.out, hbw⟩
            case measure => simp [intOf]; omega
      · have hp' : ¬ ((perA n xss r : Int) = 1) := by omega
        go_loopw [3, 18] (fun v i wx => FqRel (compL xss r) w2 (.slice A3 m3 c3) v i wx) (fun _ i _ => (compL xss r).length - (intOf i).toNat)
        case atStart => exact ⟨0, Nat.zero_le _, rfl, rfl, rfl⟩
        case round =>
          obtain ⟨j, hj, rfl, rfl, rfl⟩ := hrel
          by_cases hjt : j < (compL xss r).length
          · obtain ⟨b, hb⟩ : ∃ b, (compL xss r)[j]? = some b := ⟨_, List.getElem?_eq_getElem hjt⟩
            have hab : (ad.add j).block = ad.block := by unfold Addr.add; split <;> rfl
            have hcell : w2.cell? (ad.add j) = some (.int .i64 (b : Int)) := (hb12.cell (p := ad.add j) (by rw [hab]; exact hbd)).trans (HC.out j _ (natsI_at hb))
            clear hb
            go_wp2_with fail
            go_roundw
            case rel => exact ⟨j + 1, by omega, by go_num, rfl, rfl⟩
            case measure => simp [intOf]; omega
          · obtain rfl : j = (compL xss r).length := by omega
            have HJ2 := Lib.hid (show FxR (fl n xss ((roots xss n).take (k + 1))) (.slice A3 m3 c3) w2 by
              rw [HTK.out, fl_f hp]
              exact HF2.out)
            go_wp2_with fail
            go_roundw
            case rel => exact ⟨k + 1, by omega, by go_num, HJ2.out, hb12⟩
            case measure => simp [intOf]; omega
    · obtain rfl : k = (roots xss n).length := by omega
      obtain ⟨l, hm1, hm2, hm3, ⟨A3, m3, c3, rfl⟩, hm5, hm6⟩ := HF.out
      rw [List.take_length] at hm1
      have hl : l = natsI (flexL n xss) := by
        refine rising_eq _ _ hm2 (natsI_rising (lsP_pw _)) fun z => ?_
        rw [hm1]
        unfold natsI
        rw [List.mem_map, List.mem_map]
        constructor
        · rintro ⟨y, h, rfl⟩; exact ⟨y, (fl_flex HG.out).1 h, rfl⟩
        · rintro ⟨y, h, rfl⟩; exact ⟨y, (fl_flex HG.out).2 h, rfl⟩
      rw [hl] at hm5
      have HM5 := Lib.hid hm5
      have hbw := bl_trans hb01 hbl
      clear hm1 hm2 hm3 hm5 hm6 HF hl
      go_wp2_with fail
      go_ret
      exact ⟨_, rfl, ⟨_, _, _, rfl⟩, HM5.out, hbw⟩
end Go.Proofs.YtjhljipehnmbnaaGreat
