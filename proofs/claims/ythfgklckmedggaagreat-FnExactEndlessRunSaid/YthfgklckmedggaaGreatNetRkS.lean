/-
  Ranks, the reference's side: peel, ranks, RankingOf, LongestRun.
-/
import Derived.Test.YthfgklckmedggaaGreatNetAllS
import Derived.Test.YthfgklckmedggaaGreatPlainRank
namespace Go.Proofs.YthfgklckmedggaaGreat
open Go.RowKit
set_option linter.unusedVariables false
set_option linter.unusedSimpArgs false
def inL (d : List Bool) (T : Nat) : List Int := (List.range T).map fun x => if d.getD x false = true then 0 else -1
theorem inL_len (d : List Bool) (T : Nat) : (inL d T).length = T := by simp [inL]
theorem inL_at {d : List Bool} {T k : Nat} (h : k < T) : (inL d T)[k]? = some (if d.getD k false = true then 0 else -1) := by unfold inL; rw [List.getElem?_map, List.getElem?_range h]; rfl
/-- The row while it fills. -/
def inTo (d : List Bool) (T j : Nat) : List Int := (inL d T).take j ++ List.replicate (T - j) 0
theorem inTo_len {d : List Bool} {T j : Nat} (h : j ≤ T) : (inTo d T j).length = T := by
  unfold inTo
  rw [List.length_append, List.length_take, List.length_replicate, inL_len]
  omega
theorem inTo_step {d : List Bool} {T j : Nat} (h : j < T) : (inTo d T j).set j (if d.getD j false = true then 0 else -1) = inTo d T (j + 1) := by
  unfold inTo
  have h1 : ((inL d T).take j).length = j := by rw [List.length_take, inL_len]; omega
  obtain ⟨m, hm⟩ : ∃ m, T - j = m + 1 := ⟨T - j - 1, by omega⟩
  obtain ⟨h2, h3⟩ := List.getElem?_eq_some_iff.1 (inL_at (d := d) h)
  rw [List.set_append_right _ _ (by omega), h1, Nat.sub_self, hm, List.replicate_succ, List.set_cons_zero, List.take_succ_eq_append_getElem h2, h3, show T - (j + 1) = m by omega, List.append_assoc]
  rfl
theorem inTo_end (d : List Bool) (T : Nat) : inTo d T T = inL d T := by
  unfold inTo
  rw [Nat.sub_self, List.take_of_length_le (by rw [inL_len]; omega)]
  simp
theorem inTo_zero (d : List Bool) (T : Nat) : inTo d T 0 = List.replicate T 0 := by simp [inTo]
def negsAt (w : World) (g : Nat) : Nat := match w.heap[g]? with | some (.cells c _ _) => negs (c.toList.map intOf) | _ => 0
theorem negsAt_eq {w : World} {g : Nat} {d : List Int} (h : NumsAt w g d) : negsAt w g = negs d := by
  unfold negsAt
  rw [h]
  simp only [List.map_map]
  congr 1
  rw [show (intOf ∘ intV) = id from rfl, List.map_id]
def oneOf (v : Value) : Nat := match v with | .bool true => 1 | _ => 0
theorem PeelOk.i64 {N : List (List Int)} {d : List Bool} {T : Nat} {o : List Int} (h : PeelOk N d T o) (hT : T ≤ 3000) : ∀ v ∈ o, I64 v := fun v hv => by
  have h1 := h.low v hv
  have h2 := h.top v hv
  unfold I64
  omega
def PzRel (d : List Bool) (T g : Nat) (w : World) (i : Value) (wr : World) : Prop := ∃ j : Nat, j ≤ T ∧ i = .int .i64 j ∧ NumsAt wr g (inTo d T j) ∧ Below g w wr
def PyRel (N : List (List Int)) (d : List Bool) (T g : Nat) (w : World) (ag : Value) (wr : World) : Prop :=
  ∃ (o : List Int) (b : Bool), ag = .bool b ∧ NumsAt wr g o ∧ PeelOk N d T o ∧ (b = false → FixTo N o N.length) ∧ Below g w wr
def PxRel (N : List (List Int)) (d : List Bool) (T g : Nat) (o0 : List Int) (w : World) (ag i : Value) (wr : World) : Prop :=
  ∃ (o : List Int) (j : Nat) (b : Bool), ag = .bool b ∧ i = .int .i64 j ∧ j ≤ N.length ∧ NumsAt wr g o ∧ PeelOk N d T o ∧ ((b = false ∧ o = o0 ∧ FixTo N o j) ∨ (b = true ∧ negs o + 1 ≤ negs o0)) ∧ Below g w wr
set_option maxRecDepth 100000 in
set_option maxHeartbeats 2000000 in
theorem spec_peel (nv lv : Value) (N : List (List Int)) (d : List Bool) (T : Nat) (w : World) (hn : RowsR w w.heap.size nv N) (hd : BoolsR w w.heap.size lv d) (hm : MapOk N d T) :
    Calls Tryz.prog 48 #[.agg #[nv, lv]] w fun e w' => ∃ g, e = .returned (.slice (some ⟨g, 0, none⟩) T T) ∧ NumsAt w' g (rkL N d T) ∧ w.heap.size ≤ g ∧ (∀ v ∈ rkL N d T, I64 v) ∧ Below w.heap.size w w' := by
  obtain ⟨mn, md, mt, mr⟩ := hm
  obtain ⟨A8, c8, rfl, hc8, hcm, hrow⟩ := hn.open_
  obtain ⟨A9, c9, rfl, hc9, hcm9, hrow9⟩ := hd.open_
  have HROW := Lib.hid hrow; clear hrow hn
  have HROW9 := Lib.hid hrow9; clear hrow9 hd
  have HMR := Lib.hid mr; clear mr
  have HMN := Lib.hid mn
  unfold maxLen at hcm hcm9
  have hdT : T ≤ d.length ∧ d.length ≤ T := by omega
  clear md
  subst mn
  obtain ⟨w1, hw1, hb1, HB1, hz1, HS1⟩ := box2 w (.slice A8 N.length c8) (.slice A9 d.length c9) 50
  have hmk := fun W => run_make1 (P := Tryz.prog) 23 3 (.int .i64 0) 8 Tryz.underlying23 intInfo rfl N.length (by omega) (by omega) W
  obtain ⟨w2, hw2⟩ : ∃ z, z = w1.alloc (.cells (rowOf [] N.length (.int .i64 0)) 3) := ⟨_, rfl⟩
  have hb2 : Below w1.heap.size w1 w2 := by rw [hw2]; exact bl_alloc (Below.refl _ _) _
  have hnum : NumsAt w2 w1.heap.size (inTo d N.length 0) := by
    rw [hw2, inTo_zero]
    refine (heap_alloc_new w1 _).trans ?_
    unfold rowOf
    simp [intV]
  obtain ⟨p0, p1, pf⟩ := cells2 HB1
  have e0 := p0
  rw [hw1] at e0
  have HW1 := Lib.hid hw1
  have HW2 := Lib.hid hw2
  have HP0 := Lib.hid p0
  have HP1 := Lib.hid p1
  clear hw1 hw2 p0 p1 pf
  go_enter Tryz.func48, Tryz.ntmps48
  go_wp2_with fail
  rw [← HW1.out, ← HW2.out]
  clear e0 hmk
  obtain ⟨g, hg⟩ : ∃ z, z = w1.heap.size := ⟨_, rfl⟩
  rw [show w.heap.size + 1 = g by rw [hg, HS1.out]]
  rw [← hg] at hnum hb2 hz1
  have HG := Lib.hid hg; clear hg
  have hg1 : w1.heap.size ≤ g := by rw [HG.out]; exact Nat.le_refl _
  have HB12 := Lib.hid (show Below w.heap.size w w2 from bl_trans hb1 (by rw [← HG.out]; exact hb2))
  have HNU := Lib.hid hnum; clear hnum
  go_loopw [4, 15] (fun _ i wr => PzRel d N.length g w2 i wr) (fun _ i _ => N.length - (intOf i).toNat)
  case atStart => exact ⟨0, Nat.zero_le _, rfl, HNU.out, Below.refl _ _⟩
  case round =>
    obtain ⟨j, hj, rfl, hnum, hbl⟩ := hrel
    by_cases hlt : j < N.length
    · obtain ⟨b, hb⟩ : ∃ b, d[j]? = some b := ⟨_, List.getElem?_eq_getElem (by omega)⟩
      obtain ⟨a9, rfl, hab9, hr9⟩ := HROW9.out (by omega)
      have hB2r := hb2.trans hbl
      have hab1 : a9.block < g := by omega
      have hcb : w1.cell? (a9.add j) = some (.bool b) := (hb1.cell (p := a9.add j) (by rw [block_add]; exact hab9)).trans (hr9 j b hb)
      have hjd : j < d.length := by omega
      have hST := Lib.hid (inTo_step (d := d) hlt)
      have hgd : d.getD j false = b := getDa hb
      rw [hgd] at hST
      have hlen := inTo_len (d := d) hj
      have hx0 : j < (inTo d N.length j).length := by omega
      obtain ⟨x, hx⟩ : ∃ x, (inTo d N.length j)[j]? = some x := ⟨_, List.getElem?_eq_getElem hx0⟩
      have kc := hnum.cell hx
      have kf := hnum.frozen j
      have HN2 := Lib.hid hnum
      obtain ⟨w3, hw3⟩ : ∃ z, z = wr.setCell ⟨g, j, none⟩ (.int .i64 (-1)) := ⟨_, rfl⟩
      have hb3 : Below g wr w3 := by rw [hw3]; exact Below.setCell (p := ⟨g, j, none⟩) (Below.refl g wr) (Nat.le_refl _) _
      have hn3 : NumsAt w3 g ((inTo d N.length j).set j (-1)) := by rw [hw3]; exact hnum.set j (-1)
      have hB23 := hB2r.trans hb3
      have s1 : w3.cell? ⟨w.heap.size, 1, none⟩ = some (.slice (some a9) d.length c9) := (hB23.cell (p := ⟨w.heap.size, 1, none⟩) hz1).trans HP1.out
      have s2 : w3.cell? (a9.add j) = some (.bool b) := (hB23.cell (p := a9.add j) (by rw [block_add]; exact hab1)).trans hcb
      have s3 : w3.cell? ⟨g, j, none⟩ = some (.int .i64 (-1)) := hn3.cell (List.getElem?_set_self hx0)
      have s4 : w3.frozen? ⟨g, j, none⟩ = false := hn3.frozen j
      have t1 := s1; have t2 := s2; have t3 := s3; have t4 := s4
      rw [hw3] at t1 t2 t3 t4
      have HW3 := Lib.hid hw3
      have HN3 := Lib.hid hn3
      have HB3 := Lib.hid hb3
      clear hnum hx hb hr9 hcb hB2r hB23 hn3 hb3 s1 s2 s3 s4 hw3 hgd hlen
      cases b with
      | false =>
        go_wp2_with fail
        rw [← HW3.out]
        go_roundw
        case rel => exact ⟨j + 1, by omega, by go_num, by rw [← hST.out]; exact HN3.out, hbl.trans HB3.out⟩
        case measure => simp [intOf]; omega
      | true =>
        go_wp2_with fail
        rw [← HW3.out]
        go_roundw
        case rel =>
          refine ⟨j + 1, by omega, by go_num, ?_, (hbl.trans HB3.out).setCell (p := ⟨g, j, none⟩) (Nat.le_refl _) _⟩
          have := HN3.out.set j 0
          rw [List.set_set] at this
          rw [← hST.out]
          exact this
        case measure => simp [intOf]; omega
    · obtain rfl : j = N.length := by omega
      have hE := inTo_end d N.length
      rw [hE] at hnum
      have HN2 := Lib.hid hnum
      have HPK := Lib.hid (PeelOk.start N d N.length)
      have HBR := Lib.hid (show Below g w1 wr from hb2.trans hbl)
      clear hnum hE HNU
      go_wp2_with fail
      obtain ⟨wq, hwq⟩ : ∃ z, z = wr := ⟨_, rfl⟩
      go_loopw [5] (fun ag wr' => PyRel N d N.length g wr ag wr') (fun ag wr' => negsAt wr' g + oneOf ag)
      case atStart => exact ⟨_, true, rfl, HN2.out, HPK.out, (fun h => by cases h), Below.refl _ _⟩
      case round =>
        clear HN2 HPK
        obtain ⟨o, b, rfl, hnum, hpk, hfx, hbl2⟩ := hrel
        have HNO := Lib.hid hnum
        have HPK := Lib.hid hpk
        have HBQ := Lib.hid (HBR.out.trans hbl2)
        have hmz := negsAt_eq hnum
        cases b with
        | false =>
          have HF := Lib.hid (show o = rkL N d N.length from hpk.fin rfl (hfx rfl) fun l hl => (HMR.out l hl).2)
          clear hnum hpk hfx hmz
          go_wp2_with fail
          go_ret
          exact ⟨g, rfl, by rw [← HF.out]; exact HNO.out, by have := hb1.size; omega, by rw [← HF.out]; exact HPK.out.i64 mt, bl_trans hb1 (HBQ.out.mono hg1)⟩
        | true =>
          have k0 : World.cell? _ ⟨w.heap.size, 0, none⟩ = some (.slice A8 N.length c8) := (HBQ.out.cell (p := ⟨w.heap.size, 0, none⟩) hz1).trans HP0.out
          clear hnum hpk hfx
          go_wp2_with fail
          clear k0
          obtain ⟨wp, hwp⟩ : ∃ z, z = wr := ⟨_, rfl⟩
          go_loopw [5, 6, 7, 34] (fun ag _ _ i wr'' => PxRel N d N.length g o wr ag i wr'') (fun _ _ _ i _ => N.length - (intOf i).toNat)
          case atStart => exact ⟨o, 0, false, rfl, rfl, Nat.zero_le _, HNO.out, HPK.out, .inl ⟨rfl, rfl, fun _ _ h => by omega⟩, Below.refl _ _⟩
          case round =>
            clear HNO HPK
            obtain ⟨o', j, b', rfl, rfl, hj, hnum, hpk, hst, hbl3⟩ := hrel
            have HNO := Lib.hid hnum
            have HPK := Lib.hid hpk
            have HST := Lib.hid hst
            have HBS := Lib.hid (HBQ.out.trans hbl3)
            have hol : N.length ≤ o'.length ∧ o'.length ≤ N.length := by have := hpk.len; omega
            have hgl := hnum.lt
            by_cases hltj : j < N.length
            · obtain ⟨l, hl⟩ : ∃ l, N[j]? = some l := ⟨_, List.getElem?_eq_getElem hltj⟩
              obtain ⟨ad, rfl, hab, hrow⟩ := HROW.out (by omega)
              obtain ⟨u, hcu, hru⟩ := hrow j l hl
              have hbr : Below w.heap.size w _ := bl_trans hb1 (HBS.out.mono hg1)
              have HRU := Lib.hid ((hru.below hbr).more hbr.size)
              obtain ⟨A5, c5, rfl, -, hcm5, -⟩ := hru.open_
              unfold maxLen at hcm5
              obtain ⟨hl3, hly⟩ := HMR.out l (List.mem_of_getElem? hl)
              have HLY := Lib.hid hly
              have hcr := (hbr.cell (p := ad.add j) (by rw [block_add]; exact hab)).trans hcu
              obtain ⟨v, hv⟩ : ∃ v, o'[j]? = some v := ⟨_, List.getElem?_eq_getElem (by omega)⟩
              have kc := hnum.cell hv
              have kf := hnum.frozen j
              have hv1 := hpk.low v (List.mem_of_getElem? hv)
              have hv2 : v ≤ 3000 := by have := hpk.top v (List.mem_of_getElem? hv); omega
              have HGV := Lib.hid (show o'.getD j 0 = v from getDi hv)
              have HL := Lib.hid hl
              have hjo : j < o'.length := by omega
              clear hrow hcu hru hly hl hv hnum hpk hst hbr
              by_cases hv0 : 0 ≤ v
              · have HX := Lib.hid (HST.out.imp (fun h => And.intro h.1 (And.intro h.2.1 (h.2.2.next HL.out fun hneg => by rw [HGV.out] at hneg; omega))) id)
                go_wp2_with fail
                go_roundw
                case rel => exact ⟨o', j + 1, b', rfl, by go_num, by omega, HNO.out, HPK.out, HX.out, hbl3⟩
                case measure => simp [intOf]; omega
              · by_cases hl0 : l.length = 0
                · have HX := Lib.hid (HST.out.imp (fun h => And.intro h.1 (And.intro h.2.1 (h.2.2.next HL.out fun _ hne => absurd (List.eq_nil_of_length_eq_zero hl0) hne))) id)
                  go_wp2_with fail
                  go_roundw
                  case rel => exact ⟨o', j + 1, b', rfl, by go_num, by omega, HNO.out, HPK.out, HX.out, hbl3⟩
                  case measure => simp [intOf]; omega
                · have hio := ints_row (B := _) HNO.out (by unfold maxLen; omega) (HPK.out.i64 mt) hgl
                  rw [HPK.out.len] at hio
                  have HIO := Lib.hid hio
                  clear hio
                  have hlne : l ≠ [] := fun h => hl0 (by rw [h]; rfl)
                  have HNE := Lib.hid hlne; clear hlne
                  have hlz : (((l.length : Nat) : Int) == 0) = false := by rw [beq_eq_false_iff_ne]; omega
                  go_wp2_with fail
                  refine (spec_coThrough _ _ o' l _ HIO.out HRU.out (by omega) (fun a ha => by have := HLY.out a ha; omega)).mono ?_
                  rintro e w5 ⟨u5, rfl, ⟨A6, m6, c6, rfl⟩, hu5, hb5⟩
                  have HU5 := Lib.hid hu5; clear hu5
                  have HN5 := Lib.hid (HNO.out.keep (hb5.block g hgl))
                  have HB5 := Lib.hid (hbl3.trans (hb5.mono (by omega)))
                  replace kc := (hb5.cell (p := ⟨g, j, none⟩) hgl).trans kc
                  replace kf := (hb5.frozen (p := ⟨g, j, none⟩) hgl).trans kf
                  cases hh : hasB (l.map fun y => o'.getD y.toNat 0) (-1) with
                  | true =>
                    have hmem := propB_iff.1 hh
                    have HX := Lib.hid (HST.out.imp (fun h => And.intro h.1 (And.intro h.2.1 (h.2.2.next HL.out fun _ _ => hmem))) id)
                    clear hmem
                    go_wp2_with fail
                    refine (spec_l1Has _ _ (-1) w5 HU5.out).mono ?_
                    rintro e w' ⟨rfl, rfl⟩
                    rw [hh]
                    go_wp2_with fail
                    go_roundw
                    case rel => exact ⟨o', j + 1, b', rfl, by go_num, by omega, HN5.out, HPK.out, HX.out, HB5.out⟩
                    case measure => simp [intOf]; omega
                  | false =>
                    have hnm : ¬ (-1 : Int) ∈ l.map fun y => o'.getD y.toNat 0 := fun h => by rw [hasB_t h] at hh; cases hh
                    obtain ⟨s1, s2, s3, s4⟩ := HPK.out.set (x := j) (by omega) (by rw [HGV.out]; omega) HL.out HNE.out (fun y hy => HLY.out y hy) hnm
                    go_wp2_with fail
                    refine (spec_l1Has _ _ (-1) w5 HU5.out).mono ?_
                    rintro e w' ⟨rfl, rfl⟩
                    rw [hh]
                    clear hh hnm
                    go_wp2_with fail
                    refine (spec_meMost _ _ w5 HU5.out).mono ?_
                    rintro e w' ⟨rfl, rfl⟩
                    generalize most (l.map fun y => o'.getD y.toNat 0) = mx at *
                    have HS1 := Lib.hid s1
                    have HS2 := Lib.hid s2
                    clear s1 s2
                    go_wp2_with fail
                    go_roundw
                    case rel =>
                      refine ⟨o'.set j (1 + mx), j + 1, true, rfl, by go_num, by omega, HN5.out.set j _, HS1.out, .inr ⟨rfl, ?_⟩, HB5.out.setCell (p := ⟨g, j, none⟩) (Nat.le_refl _) _⟩
                      have h2 := HS2.out
                      rcases HST.out with ⟨-, h, -⟩ | ⟨-, h⟩
                      · rw [h] at h2 ⊢; omega
                      · omega
                    case measure => simp [intOf]; omega
            · obtain rfl : j = N.length := by omega
              have HX := HST.out
              go_wp2_with fail
              go_roundw
              case rel => exact ⟨o', b', rfl, HNO.out, HPK.out, (fun hb => HX.elim (fun h => h.2.2) fun h => by rw [hb] at h; cases h.1), hbl2.trans hbl3⟩
              case measure =>
                have h1 := negsAt_eq HNO.out
                rcases HX with ⟨rfl, rfl, -⟩ | ⟨rfl, h2⟩
                · simp [oneOf]; omega
                · simp [oneOf]; omega
noncomputable def roP (N : List (List Int)) (dd : List Bool) (T : Nat) : Bool := closedB N dd && propB (rkP N dd T)
theorem rkV_bd {N : List (List Int)} {d : List Bool} {T : Nat} {o : List Int} (h : o = rkL N d T) (ho : ∀ v ∈ o, I64 v) : ∀ v ∈ rkL N d T, I64 v := h ▸ ho
set_option maxRecDepth 100000 in
theorem spec_ranks (nv lv : Value) (N : List (List Int)) (d : List Bool) (T : Nat) (w : World) (hn : RowsR w w.heap.size nv N) (hd : BoolsR w w.heap.size lv d) (hm : MapOk N d T) :
    Calls Tryz.prog 45 #[.agg #[nv, lv]] w fun e w' => ∃ u, e = .returned (.tuple #[u, .bool (roP N d T)]) ∧ (∃ A m c, u = .slice A m c) ∧ IntsR w' w'.heap.size u (rkL N d T) ∧ Below w.heap.size w w' := by
  have HM := Lib.hid hm
  have hT3 := hm.t
  obtain ⟨A8, c8, rfl, -, -, -⟩ := hn.open_
  obtain ⟨A9, c9, rfl, -, -, -⟩ := hd.open_
  obtain ⟨w1, hw1, hb1, HB1, hz1, HS1⟩ := box2 w (.slice A8 N.length c8) (.slice A9 d.length c9) 50
  have HNV := Lib.hid ((hn.below hb1).more hb1.size)
  have HLV := Lib.hid ((hd.below hb1).more hb1.size)
  clear hn hd hm
  obtain ⟨p0, p1, pf⟩ := cells2 HB1
  have e0 := p0
  have e1 := p1
  rw [hw1] at e0 e1
  have HW1 := Lib.hid hw1; clear hw1
  go_enter Tryz.func45, Tryz.ntmps45
  go_wp2_with fail
  rw [← HW1.out]
  clear e0 e1
  refine (spec_peel _ _ N d T w1 HNV.out HLV.out HM.out).mono ?_
  rintro e w2 ⟨g, rfl, hnum, hg, hlo, hb2⟩
  have hio := ints_row (B := w2.heap.size) hnum (by unfold maxLen; rw [rkL_len]; omega) hlo hnum.lt
  rw [rkL_len] at hio
  have HIO := Lib.hid hio; clear hio hnum
  replace p0 := (hb2.cell (p := ⟨w.heap.size, 0, none⟩) hz1).trans p0
  replace p1 := (hb2.cell (p := ⟨w.heap.size, 1, none⟩) hz1).trans p1
  have hB2 := bl_trans hb1 hb2
  have HRO := Lib.hid (show roP N d T = (closedB N d && propB (rkP N d T)) from rfl)
  cases hc : closedB N d with
  | false =>
    have HF := Lib.hid (show roP N d T = false by rw [HRO.out, hc]; rfl)
    go_wp2_with fail
    refine (spec_closed _ _ N d T w2 ((HNV.out.below hb2).more hb2.size) ((HLV.out.below hb2).more hb2.size) HM.out).mono ?_
    rintro e w3 ⟨rfl, hb3⟩
    rw [hc]
    go_wp2_with fail
    go_ret2
    exact ⟨_, ret2b HF.out.symm, ⟨_, _, _, rfl⟩, (HIO.out.below hb3).more hb3.size, bl_trans hB2 hb3⟩
  | true =>
    have HF := Lib.hid (show roP N d T = !hasB (rkL N d T) (-1) by rw [HRO.out, hc, rk_has]; simp)
    go_wp2_with fail
    refine (spec_closed _ _ N d T w2 ((HNV.out.below hb2).more hb2.size) ((HLV.out.below hb2).more hb2.size) HM.out).mono ?_
    rintro e w3 ⟨rfl, hb3⟩
    rw [hc]
    have HI3 := Lib.hid ((HIO.out.below hb3).more hb3.size)
    go_wp2_with fail
    refine (spec_l1Has _ _ (-1) w3 HI3.out).mono ?_
    rintro e w' ⟨rfl, rfl⟩
    obtain ⟨b, hb⟩ : ∃ b, b = hasB (rkL N d T) (-1) := ⟨_, rfl⟩
    have HF2 := Lib.hid (show roP N d T = !b by rw [hb]; exact HF.out)
    rw [← hb]
    clear hb
    go_wp2_with fail
    go_ret2
    exact ⟨_, ret2b HF2.out.symm, ⟨_, _, _, rfl⟩, HI3.out, bl_trans hB2 hb3⟩
noncomputable def roB (n : Net) (r d : Int) : Bool := dmB n r d && roP (nxL n r d (prodI (cnts n r)).toNat) (legL n r (prodI (cnts n r)).toNat) (prodI (cnts n r)).toNat
noncomputable def roL (n : Net) (r d : Int) : List Int := if roB n r d = true then rkL (nxL n r d (prodI (cnts n r)).toNat) (legL n r (prodI (cnts n r)).toNat) (prodI (cnts n r)).toNat else []
theorem ro_f {n : Net} {r d : Int} (h : roB n r d = false) : roL n r d = [] := if_neg (by rw [h]; simp)
theorem ro_t {n : Net} {r d : Int} (h : roB n r d = true) : roL n r d = rkL (nxL n r d (prodI (cnts n r)).toNat) (legL n r (prodI (cnts n r)).toNat) (prodI (cnts n r)).toNat := if_pos h
theorem roL_len (n : Net) (r d : Int) : (roL n r d).length ≤ 3000 := by
  cases h : roB n r d with
  | false => rw [ro_f h]; simp
  | true =>
    rw [ro_t h, rkL_len]
    unfold roB at h
    rw [Bool.and_eq_true] at h
    have := (few_of (dm_cv h.1).1).1.2.1
    omega
theorem dm_T {n : Net} {r d : Int} {T : Nat} (hdm : dmB n r d = true) (hT : prodI (cnts n r) = T) : 0 < T := by
  obtain ⟨hcv, -, -⟩ := dm_cv hdm
  obtain ⟨hfew, hcap⟩ := few_of hcv
  have hcb : 1 ≤ capd (cnts n r) ∧ capd (cnts n r) ≤ 3001 := capd_bd fun y hy => (cnts_bd (cvB_net hcv) r y hy).1
  omega
set_option maxRecDepth 100000 in
theorem spec_RankingOf (ve vi vn : Value) (n : Net) (r d : Int) (w : World) (h : NetR w w.heap.size ve vi vn n) (hz : n.es.length ≤ 2000000) :
    Calls Tryz.prog 22 #[.agg #[ve, vi, vn], .int .i64 r, .int .i64 d] w fun e w' => ∃ u, e = .returned (.tuple #[u, .bool (roB n r d)]) ∧ (∃ A m c, u = .slice A m c) ∧ IntsR w' w'.heap.size u (roL n r d) ∧ Below w.heap.size w w' := by
  obtain ⟨⟨A0, m0, c0, rfl⟩, ⟨A1, m1, c1, rfl⟩, A2, m2, c2, rfl⟩ := h.slices
  obtain ⟨w0, hw0, hB, HD, hz0, HS0⟩ := box3 w (.slice A0 m0 c0) (.slice A1 m1 c1) (.slice A2 m2 c2) 31
  have HN0 := Lib.hid h; have HN := Lib.hid (h.up hB); clear h
  have HW0 := Lib.hid hw0; clear hw0
  obtain ⟨q0, q1, q2, qf⟩ := cells3 HD
  go_enter Tryz.func22, Tryz.ntmps22
  go_wp2_with fail
  rw [← HW0.out]
  refine (spec_cvDaemons _ _ _ n r d w0 HN.out hz).mono ?_
  rintro e w1 ⟨rfl, hb1⟩
  have hzhb1 := hb1.size
  clear q0 q1 q2 qf
  replace HD := bk HD hb1
  replace HN := Lib.hid (HN.out.up hb1)
  replace hB := bl_trans hB hb1
  obtain ⟨q0, q1, q2, qf⟩ := cells3 HD
  cases h1 : dmB n r d with
  | false =>
    have HF := Lib.hid (show roB n r d = false by unfold roB; rw [h1]; rfl)
    go_wp2_with fail
    go_ret2
    exact ⟨_, ret2b HF.out.symm, ⟨_, _, _, rfl⟩, by rw [ro_f HF.out]; exact ints_nil _ _, hB⟩
  | true =>
    have HQ := Lib.hid h1
    obtain ⟨T, hT⟩ := prod_nat h1
    have HT := Lib.hid hT
    have HF := Lib.hid (show roB n r d = roP (nxL n r d T) (legL n r T) T by unfold roB; rw [h1, hT]; rfl)
    have HM := Lib.hid (map_ok h1 hT)
    have HL := Lib.hid (fun hb : roB n r d = true => show roL n r d = rkL (nxL n r d T) (legL n r T) T by rw [ro_t hb, hT]; rfl)
    clear hT
    go_wp2_with fail
    refine (spec_cvAll _ _ _ n r d T w1 HN.out HQ.out HT.out).mono ?_
    rintro e w2 ⟨nv, lv, rfl, hn, hd, hb2⟩
    have hzhb2 := hb2.size
    clear q0 q1 q2 qf
    replace HD := bk HD hb2
    replace HN := Lib.hid (HN.out.up hb2)
    replace hB := bl_trans hB hb2
    obtain ⟨q0, q1, q2, qf⟩ := cells3 HD
    have HNV := Lib.hid hn
    have HLV := Lib.hid hd
    clear hn hd
    go_wp2_with fail
    refine (spec_ranks _ _ _ _ T w2 HNV.out HLV.out HM.out).mono ?_
    rintro e w3 ⟨u, rfl, ⟨A5, m5, c5, rfl⟩, hu, hb3⟩
    have HU := Lib.hid hu; clear hu
    cases hq : roP (nxL n r d T) (legL n r T) T with
    | false =>
      have HF2 := Lib.hid (HF.out.trans hq)
      go_wp2_with fail
      go_ret2
      exact ⟨_, ret2b HF2.out.symm, ⟨_, _, _, rfl⟩, by rw [ro_f HF2.out]; exact ints_nil _ _, bl_trans hB hb3⟩
    | true =>
      have HF2 := Lib.hid (HF.out.trans hq)
      go_wp2_with fail
      go_ret2
      exact ⟨_, ret2b HF2.out.symm, ⟨_, _, _, rfl⟩, by rw [HL.out HF2.out]; exact HU.out, bl_trans hB hb3⟩
theorem ret2ib {a a' : Int} {b b' : Bool} (h1 : a = a') (h2 : b = b') : Ending.returned (.tuple #[.int .i64 a, .bool b]) = .returned (.tuple #[.int .i64 a', .bool b']) := by rw [h1, h2]
noncomputable def loV (n : Net) (r d : Int) : Int := most (roL n r d)
set_option maxRecDepth 100000 in
theorem spec_LongestRun (ve vi vn : Value) (n : Net) (r d : Int) (w : World) (h : NetR w w.heap.size ve vi vn n) (hz : n.es.length ≤ 2000000) :
    Calls Tryz.prog 20 #[.agg #[ve, vi, vn], .int .i64 r, .int .i64 d] w fun e w' => e = .returned (.tuple #[.int .i64 (loV n r d), .bool (roB n r d)]) ∧ Below w.heap.size w w' := by
  obtain ⟨⟨A0, m0, c0, rfl⟩, ⟨A1, m1, c1, rfl⟩, A2, m2, c2, rfl⟩ := h.slices
  obtain ⟨w0, hw0, hB, HD, hz0, HS0⟩ := box3 w (.slice A0 m0 c0) (.slice A1 m1 c1) (.slice A2 m2 c2) 31
  have HN0 := Lib.hid h; have HN := Lib.hid (h.up hB); clear h
  have HW0 := Lib.hid hw0; clear hw0
  obtain ⟨q0, q1, q2, qf⟩ := cells3 HD
  go_enter Tryz.func20, Tryz.ntmps20
  go_wp2_with fail
  rw [← HW0.out]
  refine (spec_RankingOf _ _ _ n r d w0 HN.out hz).mono ?_
  rintro e w1 ⟨u, rfl, ⟨A5, m5, c5, rfl⟩, hu, hb1⟩
  have HU := Lib.hid hu; clear hu
  have hzhb1 := hb1.size
  clear q0 q1 q2 qf
  replace HD := bk HD hb1
  replace HN := Lib.hid (HN.out.up hb1)
  replace hB := bl_trans hB hb1
  obtain ⟨q0, q1, q2, qf⟩ := cells3 HD
  cases hq : roB n r d with
  | false =>
    have HQ := Lib.hid hq
    have HL := Lib.hid (show (0 : Int) = loV n r d by unfold loV; rw [ro_f hq]; rfl)
    go_wp2_with fail
    go_ret2
    exact ⟨ret2ib HL.out HQ.out.symm, hB⟩
  | true =>
    have HQ := Lib.hid hq
    go_wp2_with fail
    refine (spec_meMost _ _ w1 HU.out).mono ?_
    rintro e w' ⟨rfl, rfl⟩
    go_wp2_with fail
    go_ret2
    exact ⟨ret2ib rfl HQ.out.symm, hB⟩
end Go.Proofs.YthfgklckmedggaaGreat
