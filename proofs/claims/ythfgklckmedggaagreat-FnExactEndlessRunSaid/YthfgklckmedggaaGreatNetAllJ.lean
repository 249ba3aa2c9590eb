/-
  All successors of all situations and which are legal, the program's side: explored, closed, IsClosed.
-/
import Derived.Test.YthfgklckmedggaaGreatNetAllI
namespace Go.Proofs.YthfgklckmedggaaGreat
open Go.RowKit
set_option linter.unusedVariables false
set_option linter.unusedSimpArgs false
/-- The block of an explorer that has explored. -/
structure Xd (w : World) (G T : Nat) (lv nv : Value) (N : List (List Int)) (dd : List Bool) : Prop where
  c6 : w.cell? ⟨G, 6, none⟩ = some (.int .i64 T)
  c7 : w.cell? ⟨G, 7, none⟩ = some lv
  c8 : w.cell? ⟨G, 8, none⟩ = some nv
  b : BoolsR w w.heap.size lv dd
  n : RowsR w w.heap.size nv N
  ok : MapOk N dd T
theorem Xd.lt {w : World} {G T : Nat} {lv nv : Value} {N : List (List Int)} {dd : List Bool} (h : Xd w G T lv nv N dd) : G < w.heap.size := World.block_lt_of_cell? _ _ h.c6
theorem Xd.up {w w' : World} {G T : Nat} {lv nv : Value} {N : List (List Int)} {dd : List Bool} (h : Xd w G T lv nv N dd) (hb : Below w.heap.size w w') : Xd w' G T lv nv N dd :=
  ⟨(hb.cell (p := ⟨G, 6, none⟩) h.lt).trans h.c6, (hb.cell (p := ⟨G, 7, none⟩) h.lt).trans h.c7, (hb.cell (p := ⟨G, 8, none⟩) h.lt).trans h.c8, (h.b.below hb).more hb.size, (h.n.below hb).more hb.size, h.ok⟩
def EdPost (n : Net) (r d : Int) (w : World) (e : Ending) (w' : World) : Prop :=
  Below w.heap.size w w' ∧ ((dmB n r d = false ∧ ∃ p, e = .returned (.tuple #[.pointer p, .bool false])) ∨
    (dmB n r d = true ∧ ∃ (G T : Nat) (lv nv : Value), prodI (cnts n r) = T ∧ e = .returned (.tuple #[.pointer (some ⟨G, 0, none⟩), .bool true]) ∧ Xd w' G T lv nv (nxL n r d T) (legL n r T)))
set_option maxRecDepth 100000 in
theorem impl_explored (ve vi vn : Value) (n : Net) (r d : Int) (w : World) (h : NetR w w.heap.size ve vi vn n) (hz : n.es.length ≤ 2000000) (hzi : n.ids.length ≤ 2000000) :
    Calls Tryz.prog 35 #[.agg #[ve, vi, vn], .int .i64 r, .int .i64 d] w (EdPost n r d w) := by
  have H00 := Lib.hid h
  obtain ⟨⟨A0, m0, c0, rfl⟩, ⟨A1, m1, c1, rfl⟩, A2, m2, c2, rfl⟩ := h.slices
  obtain ⟨w0, hw0, hB, HD, hz0, HS0⟩ := box3 w (.slice A0 m0 c0) (.slice A1 m1 c1) (.slice A2 m2 c2) 31
  have HN0 := Lib.hid h; have HN := Lib.hid (h.up hB); clear h
  have HW0 := Lib.hid hw0; clear hw0
  obtain ⟨q0, q1, q2, qf⟩ := cells3 HD
  go_enter Tryz.func35, Tryz.ntmps35
  go_wp2_with fail
  rw [← HW0.out]
  refine (impl_newExplorerG _ _ _ n r d w0 HN.out hz hzi).mono ?_
  rintro e w1 ⟨hb1, hx⟩
  have hzhb1 := hb1.size
  clear q0 q1 q2 qf
  replace HD := bk HD hb1
  replace HN := Lib.hid (HN.out.up hb1)
  replace hB := bl_trans hB hb1
  obtain ⟨q0, q1, q2, qf⟩ := cells3 HD
  rcases hx with ⟨h1, rfl⟩ | ⟨h1, G, rfl, A', m', c', hE, hG, hU⟩
  · go_wp2_with fail
    go_ret2
    exact ⟨hB, .inl ⟨dm_no h1, _, rfl⟩⟩
  · have HC := Lib.hid (dm_pos h1)
    have HE := Lib.hid hE; clear hE
    have HU := Lib.hid hU; clear hU
    cases h2 : decide (0 < sitG (cnts n r) 1) with
    | false =>
      go_wp2_with fail
      go_ret2
      exact ⟨hB, .inl ⟨by rw [HC.out, h2], _, rfl⟩⟩
    | true =>
      have hdm : dmB n r d = true := by rw [HC.out, h2]
      obtain ⟨hcv, -, -⟩ := dm_cv hdm
      obtain ⟨hfew, hcap⟩ := few_of hcv
      have hcs : sitG (cnts n r) 1 = prodI (cnts n r) := by rw [← hcap, ← ct_sit hcv, ctN_t hcv]
      obtain ⟨T, hT⟩ := prod_nat hdm
      rw [hcs, hT] at HE
      have HDM := Lib.hid hdm
      have HT := Lib.hid hT
      have hwG : w.heap.size ≤ G := by have := hz0; omega
      have HNG := Lib.hid ((H00.out.below hB).more hwG)
      clear hfew hcap hcs hcv hdm hT h1 h2 HC
      go_wp2_with fail
      refine (impl_explore G A0 A1 A2 A' m0 c0 m1 c1 m2 c2 m' c' n r d T w1 HNG.out HU.out HE HDM.out HT.out).mono ?_
      rintro e w2 ⟨⟨v, rfl⟩, lv, nv, hbx, hbo, hro, hb2⟩
      have HX := Lib.hid (show Xd w2 G T lv nv (nxL n r d T) (legL n r T) from ⟨cell_of_row _ _ 6 _ _ (0, 0) hbx.out, cell_of_row _ _ 7 _ _ (0, 0) hbx.out, cell_of_row _ _ 8 _ _ (0, 0) hbx.out, hbo, hro, map_ok HDM.out HT.out⟩)
      have HB2 := Lib.hid (hB.trans (hb2.mono hwG))
      clear hbo hro hb2 q0 q1 q2 qf
      go_wp2_with fail
      go_ret2
      exact ⟨HB2.out, .inr ⟨HDM.out, G, T, lv, nv, HT.out, rfl, HX.out⟩⟩
theorem contains_ints (g : Nat) (lb : Array Value) (eg : ∀ args w, (callFunc g args).run Tryz.prog w = .ok (.enter g args) w) (p : Int → Bool) (v : Value) (xs : List Int) (w : World) (h : IntsR w w.heap.size v xs) (hl : xs.length ≤ 2000000)
    (n₀ : Nat) (hn : n₀ ≤ w.heap.size) (hp : Tells g lb p xs n₀ w) :
    Calls Tryz.prog 62 #[v, .func (.func g) #[] lb] w fun e w' => e = .returned (.bool (xs.any p)) ∧ Below w.heap.size w w' := by
  have J := Lib.hid (index_ints g lb eg p v xs w h hl n₀ hn hp)
  have HA := Lib.hid (portI_any (p := p) (l := xs))
  clear h hp
  go_enter Tryz.func62, Tryz.ntmps62
  go_wp2_with fail
  refine J.out.mono ?_
  rintro e w' ⟨rfl, hb⟩
  go_wp2_with fail
  go_ret
  exact ⟨ret_bool HA.out, hb⟩
def badP (dd : List Bool) (s : Int) : Bool := !dd.getD s.toNat false
theorem any_bad {dd : List Bool} {l : List Int} (h : l.any (badP dd) = false) : ∀ y ∈ l, dd.getD y.toNat false = true := fun y hy => by
  rw [List.any_eq_false] at h
  have := h y hy
  unfold badP at this
  revert this
  cases dd.getD y.toNat false <;> simp
set_option maxRecDepth 100000 in
theorem closure_cl (P G T : Nat) (lv nv : Value) (N : List (List Int)) (dd : List Bool) (s : Int) (w : World) (hx : Xd w G T lv nv N dd) (hp : w.cell? ⟨P, 0, none⟩ = some (.pointer (some ⟨G, 0, none⟩))) (hs : 0 ≤ s ∧ s < T) :
    Calls Tryz.prog 63 #[.int .i64 s, .pointer (some ⟨P, 0, none⟩)] w fun e w' => e = .returned (.bool (badP dd s)) ∧ Below w.heap.size w w' := by
  have hdT := hx.ok.d
  have hT3 := hx.ok.t
  obtain ⟨A9, c9, rfl, hc9, hcm9, hrow9⟩ := hx.b.open_
  unfold maxLen at hcm9
  have a7 := hx.c7
  obtain ⟨sn, rfl⟩ : ∃ sn : Nat, s = sn := ⟨s.toNat, by omega⟩
  have hsl : sn < dd.length := by omega
  obtain ⟨b, hb⟩ : ∃ b, dd[sn]? = some b := ⟨_, List.getElem?_eq_getElem hsl⟩
  obtain ⟨a9, rfl, hab9, hr9⟩ := hrow9 (by omega)
  have hcb := hr9 sn b hb
  have HF := Lib.hid (show (!b) = badP dd (sn : Int) by unfold badP; rw [Int.toNat_natCast, getDa hb])
  have hdl : dd.length ≤ 3000 := by omega
  clear hx hrow9 hr9 hb hdT
  go_enter Tryz.func63, Tryz.ntmps63
  go_wp2_with fail
  go_ret
  exact ⟨ret_bool HF.out, Below.refl _ _⟩
def CiRel (N : List (List Int)) (dd : List Bool) (w : World) (i : Value) (wr : World) : Prop := Below w.heap.size w wr ∧ ∃ k : Nat, k ≤ N.length ∧ i = .int .i64 k ∧ ClTo N dd k
set_option maxRecDepth 100000 in
set_option maxHeartbeats 1000000 in
theorem impl_closed (G T : Nat) (lv nv : Value) (N : List (List Int)) (dd : List Bool) (w : World) (hx : Xd w G T lv nv N dd) :
    Calls Tryz.prog 36 #[.pointer (some ⟨G, 0, none⟩)] w fun e w' => e = .returned (.bool (closedB N dd)) ∧ Below w.heap.size w w' := by
  obtain ⟨w1, hw1, hb1, HB1, hz1, -⟩ := box1 w (.pointer (some ⟨G, 0, none⟩)) 54
  have hX1 := hx.up hb1
  have p0 : w1.cell? ⟨w.heap.size, 0, none⟩ = some (.pointer (some ⟨G, 0, none⟩)) := cell_of_row _ _ 0 _ _ (0, 0) HB1.out
  have hnT := hx.ok.n
  have hdT := hx.ok.d
  have hT3 := hx.ok.t
  have HMR := Lib.hid hx.ok.r
  obtain ⟨A8, c8, rfl, hc8, hcm, hrow⟩ := hX1.n.open_
  obtain ⟨A9, c9, rfl, hc9, hcm9, hrow9⟩ := hX1.b.open_
  have HROW := Lib.hid hrow; clear hrow
  have HROW9 := Lib.hid hrow9; clear hrow9
  unfold maxLen at hcm hcm9
  have hnl : N.length ≤ 3000 := by omega
  have hNd : N.length ≤ dd.length ∧ dd.length ≤ N.length := by omega
  have hTn : N.length ≤ T ∧ T ≤ N.length := by omega
  have a8 := hX1.c8
  have a7 := hX1.c7
  have HX := Lib.hid hX1
  have e0 := p0
  have e8 := a8
  rw [hw1] at e0 e8
  have HW1 := Lib.hid hw1
  have HP0 := Lib.hid p0
  clear hx hX1 hnT hdT hw1 a8 p0
  have H7 := Lib.hid a7; clear a7
  go_enter Tryz.func36, Tryz.ntmps36
  go_wp2_with fail
  rw [← HW1.out]
  clear e0 e8
  go_loopw [3, 4, 10] (fun _ _ i wr => CiRel N dd w1 i wr) (fun _ _ i _ => N.length - (intOf i).toNat)
  case atStart => exact ⟨Below.refl _ _, 0, Nat.zero_le _, rfl, fun _ _ h => by omega⟩
  case round =>
    obtain ⟨hbl, k, hk, rfl, hcl⟩ := hrel
    have HCL := Lib.hid hcl; clear hcl
    have p0 := (hbl.cell (p := ⟨w.heap.size, 0, none⟩) hz1).trans HP0.out
    have a7 := (hbl.cell (p := ⟨G, 7, none⟩) HX.out.lt).trans H7.out
    have HXr := Lib.hid (HX.out.up hbl)
    by_cases hlt : k < N.length
    · obtain ⟨l, hl⟩ : ∃ l, N[k]? = some l := ⟨_, List.getElem?_eq_getElem hlt⟩
      obtain ⟨ad, rfl, hab, hrow⟩ := HROW.out (by omega)
      obtain ⟨u, hcu, hru⟩ := hrow k l hl
      have HRU := Lib.hid ((hru.below hbl).more hbl.size)
      obtain ⟨A5, c5, rfl, -, -, -⟩ := hru.open_
      obtain ⟨hl3, hly⟩ := HMR.out l (List.mem_of_getElem? hl)
      have HLY := Lib.hid hly
      have hcr := (hbl.cell (p := ad.add k) (by rw [block_add]; exact hab)).trans hcu
      obtain ⟨b, hb⟩ : ∃ b, dd[k]? = some b := ⟨_, List.getElem?_eq_getElem (by omega)⟩
      obtain ⟨a9, rfl, hab9, hr9⟩ := HROW9.out (by omega)
      have hcb := (hbl.cell (p := a9.add k) (by rw [block_add]; exact hab9)).trans (hr9 k b hb)
      have HL := Lib.hid hl
      have HGB := Lib.hid (show dd.getD k false = b from getDa hb)
      have hkd : k < dd.length := by omega
      clear hrow hcu hru hly hl hb hr9
      cases b with
      | false =>
        have HH := Lib.hid (HCL.out.next HL.out fun h => by rw [HGB.out] at h; cases h)
        go_wp2_with fail
        go_roundw
        case rel => exact ⟨hbl, k + 1, by omega, by go_num, HH.out⟩
        case measure => simp [intOf]; omega
      | true =>
        have HTL := Lib.hid (show Tells 63 #[.pointer (some ⟨w.heap.size, 0, none⟩)] (badP dd) l wr.heap.size wr from fun W y hy hb => by
          have := HLY.out y hy
          exact closure_cl w.heap.size G T _ _ N dd y W (HXr.out.up hb) ((hb.cell (p := ⟨w.heap.size, 0, none⟩) (by show w.heap.size < wr.heap.size; have := hbl.size; omega)).trans p0) (by omega))
        have J := Lib.hid (contains_ints 63 #[.pointer (some ⟨w.heap.size, 0, none⟩)] (enters_of Tryz.func63 (by kernel_rfl) rfl) (badP dd) _ l wr HRU.out (by omega) wr.heap.size (Nat.le_refl _) HTL.out)
        cases hq : l.any (badP dd) with
        | true =>
          rw [hq] at J
          have HF := Lib.hid (show false = closedB N dd from (propB_f fun h => by
            obtain ⟨y, hy, hby⟩ := List.any_eq_true.1 hq
            have := h k l HL.out HGB.out y hy
            unfold badP at hby
            rw [this] at hby
            cases hby).symm)
          clear hq
          go_wp2_with fail
          refine J.out.mono ?_
          rintro e w2 ⟨rfl, hb2⟩
          go_wp2_with fail
          go_ret
          exact ⟨ret_bool HF.out, bl_trans (bl_trans hb1 hbl) hb2⟩
        | false =>
          rw [hq] at J
          have HH := Lib.hid (HCL.out.next HL.out fun _ => any_bad hq)
          clear hq
          go_wp2_with fail
          refine J.out.mono ?_
          rintro e w2 ⟨rfl, hb2⟩
          go_wp2_with fail
          go_roundw
          case rel => exact ⟨bl_trans hbl hb2, k + 1, by omega, by go_num, HH.out⟩
          case measure => simp [intOf]; omega
    · obtain rfl : k = N.length := by omega
      have HF := Lib.hid (show true = closedB N dd from (propB_t HCL.out.fin).symm)
      go_wp2_with fail
      go_ret
      exact ⟨ret_bool HF.out, bl_trans hb1 hbl⟩
set_option maxRecDepth 100000 in
theorem impl_IsClosed (ve vi vn : Value) (n : Net) (r d : Int) (w : World) (h : NetR w w.heap.size ve vi vn n) (hz : n.es.length ≤ 2000000) (hzi : n.ids.length ≤ 2000000) :
    Calls Tryz.prog 12 #[.agg #[ve, vi, vn], .int .i64 r, .int .i64 d] w fun e w' => e = .returned (.tuple #[.bool (icB n r d), .bool (dmB n r d)]) ∧ Below w.heap.size w w' := by
  obtain ⟨⟨A0, m0, c0, rfl⟩, ⟨A1, m1, c1, rfl⟩, A2, m2, c2, rfl⟩ := h.slices
  obtain ⟨w0, hw0, hB, HD, hz0, HS0⟩ := box3 w (.slice A0 m0 c0) (.slice A1 m1 c1) (.slice A2 m2 c2) 31
  have HN0 := Lib.hid h; have HN := Lib.hid (h.up hB); clear h
  have HW0 := Lib.hid hw0; clear hw0
  obtain ⟨q0, q1, q2, qf⟩ := cells3 HD
  go_enter Tryz.func12, Tryz.ntmps12
  go_wp2_with fail
  rw [← HW0.out]
  refine (impl_explored _ _ _ n r d w0 HN.out hz hzi).mono ?_
  rintro e w1 ⟨hb1, hx⟩
  have hzhb1 := hb1.size
  clear q0 q1 q2 qf
  replace HD := bk HD hb1
  replace HN := Lib.hid (HN.out.up hb1)
  replace hB := bl_trans hB hb1
  obtain ⟨q0, q1, q2, qf⟩ := cells3 HD
  rcases hx with ⟨h1, p, rfl⟩ | ⟨h1, G, T, lv, nv, hT, rfl, hX⟩
  · have HQ := Lib.hid h1
    have HF := Lib.hid (show icB n r d = false by unfold icB; rw [h1]; rfl)
    go_wp2_with fail
    go_ret2
    exact ⟨ret2bb HF.out.symm HQ.out.symm, hB⟩
  · have HQ := Lib.hid h1
    have HF := Lib.hid (show icB n r d = closedB (nxL n r d T) (legL n r T) by unfold icB; rw [h1, hT]; rfl)
    have HX := Lib.hid hX
    clear hX hT
    go_wp2_with fail
    refine (impl_closed G T lv nv _ _ w1 HX.out).mono ?_
    rintro e w2 ⟨rfl, hb2⟩
    go_wp2_with fail
    go_ret2
    exact ⟨ret2bb HF.out.symm HQ.out.symm, bl_trans hB hb2⟩
end Go.Proofs.YthfgklckmedggaaGreat
