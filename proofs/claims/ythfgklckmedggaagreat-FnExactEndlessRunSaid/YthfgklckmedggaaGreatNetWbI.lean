/-
  Endless runs that are looked for, the program's side: wayBack.
-/
import Derived.Test.YthfgklckmedggaaGreatNetAllJ
import Derived.Test.YthfgklckmedggaaGreatRunS
namespace Go.Proofs.YthfgklckmedggaaGreat
open Go.RowKit
set_option linter.unusedVariables false
set_option linter.unusedSimpArgs false
/-- Where moves come from, for all situations. -/
def befM (N : List (List Int)) (dd : List Bool) (T : Nat) : List (List Int) := (List.range T).map (befL N dd T)
theorem befM_len (N : List (List Int)) (dd : List Bool) (T : Nat) : (befM N dd T).length = T := by simp [befM]
theorem befM_at {N : List (List Int)} {dd : List Bool} {T k : Nat} (h : k < T) : (befM N dd T)[k]? = some (befL N dd T k) := by unfold befM; rw [List.getElem?_map, List.getElem?_range h]; rfl
def netB' (N : List (List Int)) (dd : List Bool) (T : Nat) : Net := ⟨esB N dd T, [], []⟩
theorem bef_bd {N : List (List Int)} {dd : List Bool} {T s : Nat} {z : Int} (h : z ∈ befL N dd T s) : 0 ≤ z ∧ z < (T : Int) := by
  obtain ⟨k, hk, rfl, _⟩ := bef_mem.1 h
  omega
set_option maxRecDepth 100000 in
set_option maxHeartbeats 2000000 in
theorem impl_wayBack (G T v : Nat) (lv nv bv : Value) (N : List (List Int)) (dd : List Bool) (w : World) (hx : Xd w G T lv nv N dd) (hb : RowsR w w.heap.size bv (befM N dd T)) (hv : v < T) :
    Calls Tryz.prog 76 #[.pointer (some ⟨G, 0, none⟩), .int .i64 (v : Int), bv] w fun e w' => ∃ g, e = .returned (.slice (some ⟨g, 0, none⟩) T T) ∧ NumsAt w' g (bkL N dd T v) ∧ w.heap.size ≤ g ∧ Below w.heap.size w w' := by
  have hT3 := hx.ok.t
  have a6 := hx.c6
  have hGl := hx.lt
  obtain ⟨n, hn⟩ : ∃ n, n = netB' N dd T := ⟨_, rfl⟩
  have HES := Lib.hid (show n.es = esB N dd T by rw [hn]; rfl)
  have hesl : n.es.length = T := by rw [HES.out, esB_len]
  have HP := Lib.hid (show EndsIn n.es by rw [HES.out]; exact esB_in N dd T)
  have HST := Lib.hid (show Bfs n.es (bkL N dd T v) ((List.replicate T (-1)).set v 0) [(v : Int)] by
    have := far_start (es := n.es) (v := v) (by omega)
    rw [hesl, HES.out] at this
    rw [HES.out]
    exact this)
  have HNG := Lib.hid (show neg ((List.replicate T (-1 : Int)).set v 0) + 1 ≤ T by
    have := far_neg hv
    omega)
  have hT : T ≤ n.es.length ∧ n.es.length ≤ T := by omega
  clear hn hesl
  generalize bkL N dd T v = D at *
  obtain ⟨A8, c8, rfl, hc8, hcm8, hrow⟩ := hb.open_
  have hbl8 : T ≤ (befM N dd T).length ∧ (befM N dd T).length ≤ T := by rw [befM_len]; omega
  unfold maxLen at hcm8
  have HROW := Lib.hid hrow; clear hrow hb
  obtain ⟨w1, hw1⟩ : ∃ z, z = w.alloc (.cells #[.int .i64 (-1)] 3) := ⟨_, rfl⟩
  have HZ1 := Lib.hid (show w1.heap.size = w.heap.size + 1 by rw [hw1]; simp)
  have HN1 := Lib.hid (show NumsAt w1 w.heap.size [-1] by rw [hw1]; exact heap_alloc_new w _)
  have hb1 : Below w.heap.size w w1 := by rw [hw1]; exact bl_alloc (Below.refl _ _) _
  have e6 := (hb1.cell (p := ⟨G, 6, none⟩) hGl).trans a6
  rw [hw1] at e6
  have HQ1 := Lib.hid hw1
  clear hw1 hx
  go_enter Tryz.func76, Tryz.ntmps76
  go_wp2_with fail
  rw [← HQ1.out]
  clear e6
  refine (impl_Repeat (-1) T w.heap.size w1 HN1.out (by omega) (by omega)).mono ?_
  rintro e w2 ⟨rfl, hnum, hb2⟩
  have hgl := hnum.lt
  have hcell := hnum.cell (i := v) (x := -1) (by rw [List.getElem?_replicate, if_pos hv])
  have hfz := hnum.frozen v
  obtain ⟨g, hg⟩ : ∃ z, z = w1.heap.size := ⟨_, rfl⟩
  rw [← hg] at hnum hgl hcell hfz hb2 ⊢
  have hgw : w.heap.size < g := by rw [hg, HZ1.out]; omega
  have hg1 : g ≤ w1.heap.size ∧ w1.heap.size ≤ g := by omega
  clear hg
  obtain ⟨w3, hw3⟩ : ∃ z, z = w2.setCell ⟨g, v, none⟩ (.int .i64 0) := ⟨_, rfl⟩
  obtain ⟨w4, hw4⟩ : ∃ z, z = w3.alloc (.cells #[.int .i64 (v : Int)] 3) := ⟨_, rfl⟩
  have hz3 : w3.heap.size = w2.heap.size := by rw [hw3, size_setCell]
  have hN4 : NumsAt w4 g ((List.replicate T (-1)).set v 0) := by
    have h2 := hnum.set v 0
    rw [← hw3] at h2
    rw [hw4]
    exact h2.keep ((bl_alloc (Below.refl _ w3) _).block _ (by rw [hz3]; exact hgl))
  have hQ4 : QRow w4 (g + 1) (.slice (some ⟨w2.heap.size, 0, none⟩) 1 1) [(v : Int)] := QRow.start (by rw [hw4, ← hz3]; exact heap_alloc_new w3 _) (by omega)
  have hB4 : Below g w2 w4 := by rw [hw4, hw3]; exact (Below.setCell (p := ⟨g, v, none⟩) (Below.refl g w2) (Nat.le_refl _) (.int .i64 0)).alloc (by rw [size_setCell]; omega) _
  have H3 := Lib.hid hw3; clear hw3
  have H4 := Lib.hid hw4; clear hw4
  have hlr : v < (List.replicate T (-1 : Int)).length := by simpa using hv
  clear hnum hz3
  have hB : Below w.heap.size w w4 := (bl_trans hb1 (hb2.mono (by omega))).trans (hB4.mono (by omega))
  have HN4 := Lib.hid hN4
  have HQ4 := Lib.hid hQ4
  clear hN4 hQ4
  go_wp2_with fail
  rw [← H3.out, ← H4.out]
  clear hcell hfz
  go_loopw [8] (fun v wr => DfRel n D w4 g v wr) (fun v wr => negAt wr g + lenOf v)
  case atStart => exact ⟨_, [(v : Int)], HN4.out, HQ4.out, HST.out, by have := HNG.out; simp only [List.length_singleton]; omega, Below.refl _ _⟩
  case round =>
    clear HN4 HQ4
    obtain ⟨d, q, hnum, hq, hbfs, hneg, hbl⟩ := hrel
    have HB2 := Lib.hid (hB.trans (hbl.mono (by omega)))
    have hglr := hnum.lt
    have HM := Lib.hid hnum; clear hnum
    cases q with
    | nil =>
      obtain ⟨gq, o, m, cap, cur, rfl, hm, -⟩ := hq
      obtain rfl : m = 0 := by simpa using hm
      have HFF := Lib.hid (show D = d from hbfs.fin.1)
      clear hbfs hm
      go_wp2_with fail
      go_ret
      exact ⟨g, rfl, by rw [HFF.out]; exact HM.out, by omega, HB2.out⟩
    | cons x q =>
      obtain ⟨gq, o, m, cap, cur, rfl, hm, hgq, hcur, hmc, hcm, hoc, hcc⟩ := hq
      have hcx : wr.cell? ⟨gq, o, none⟩ = some (.int .i64 x) := by rw [cell_of_row _ _ o _ _ (0, 0) hcur]; exact hcc 0 x rfl
      have hqt := QRow.tail hm hgq hcur hmc hcm hoc hcc
      have hm1 : 1 ≤ m := by simp at hm; omega
      have hm2 : 0 < m := hm1
      have hsl := run_tail gq o m cap hm1
      generalize Value.slice (if cap = 1 then some ⟨gq, o, none⟩ else some ⟨gq, o + 1, none⟩) (m - 1) (cap - 1) = v2 at hqt hsl
      have HQT := Lib.hid hqt; clear hqt
      have hsa : ∀ W, (Instr.sliceAt 23 (.slice (some ⟨gq, o, none⟩) m cap) (some (.int .i64 1)) none none).run Tryz.prog W = .ok v2 W := fun W => (Go.run_sliceAt_slice (P := Tryz.prog) (w := W) 23 _ _ _ _ (by kernel_rfl)).trans (hsl W)
      have hml : m - 1 = q.length := by simp at hm; omega
      obtain ⟨hx0, y, hy, hy0⟩ := hbfs.dist.2.2 x (by simp)
      obtain ⟨wn, rfl⟩ : ∃ wn : Nat, x = wn := ⟨x.toNat, by omega⟩
      rw [Int.toNat_natCast] at hy
      have hwn : wn < T := by have := hbfs.dist.1; have := (List.getElem?_eq_some_iff.1 hy).1; omega
      obtain ⟨L, hL⟩ : ∃ L, L = befL N dd T wn := ⟨_, rfl⟩
      have hMa : (befM N dd T)[wn]? = some L := by rw [hL]; exact befM_at hwn
      have HEL := Lib.hid (show n.es[wn]? = some (L.map fun k => (k, 0)) by rw [HES.out, hL]; exact esB_at hwn)
      have HLB := Lib.hid (show ∀ z ∈ L, 0 ≤ z ∧ z < (T : Int) by rw [hL]; exact fun z hz => bef_bd hz)
      obtain ⟨ad, rfl, hab, hrow⟩ := HROW.out (by omega)
      obtain ⟨u, hcu, hru⟩ := hrow wn L hMa
      have hBw := HB2.out
      have hcr := (hBw.cell (p := ad.add wn) (by rw [block_add]; exact hab)).trans hcu
      obtain ⟨A5, c5, rfl, hlc5, hcm5, hr5⟩ := hru.open_
      unfold maxLen at hcm5 hcm
      have HR5 := Lib.hid hr5
      have HML := Lib.hid hml
      have HBF := Lib.hid hbfs
      have HY := Lib.hid (And.intro hy hy0)
      have hLl : L.length ≤ 9223372036854775807 := by omega
      have hwB : wn < (befM N dd T).length := by omega
      clear hrow hcu hru hr5 hL hMa hcur hcc hm hml hbfs hy hy0 hBw
      go_wp2_with fail
      obtain ⟨wq, rfl⟩ : ∃ z, z = wr := ⟨_, rfl⟩
      go_loopw [8, 36] (fun v i wr' => DiRel n d q (L.map fun k => (k, 0)) (wn : Int) wq g v i wr') (fun _ i _ => L.length - (intOf i).toNat)
      case atStart => exact ⟨d, (wn : Int) :: q, 0, rfl, MiP.start rfl HBF.out (by simpa using hneg), HM.out, HQT.out, Below.refl _ _⟩
      case round =>
        clear hsl hsa hcx hcr
        obtain ⟨d', wk', j, rfl, hmi, hnum, hq', hbl2⟩ := hrel
        have hz2 := hbl2.size
        have HB3 := Lib.hid (HB2.out.trans (hbl2.mono (by omega)))
        have hglr' := hnum.lt
        have HM2 := Lib.hid hnum; clear hnum
        have HMI := Lib.hid hmi; clear hmi
        have HQ2 := Lib.hid hq'; clear hq'
        by_cases hlt : j < L.length
        · obtain ⟨z, hzj⟩ : ∃ z, L[j]? = some z := ⟨_, List.getElem?_eq_getElem hlt⟩
          obtain ⟨hz0, hzT⟩ := HLB.out z (List.mem_of_getElem? hzj)
          obtain ⟨mm, rfl⟩ : ∃ m : Nat, z = m := ⟨z.toNat, by omega⟩
          have HE := Lib.hid (show (L.map fun k => (k, (0 : Int)))[j]? = some (((mm : Nat) : Int), 0) by rw [List.getElem?_map, hzj]; rfl)
          obtain ⟨a5, rfl, hab5, hr5⟩ := HR5.out (by omega)
          have hcz := (HB3.out.cell (p := a5.add j) (by rw [block_add]; exact hab5)).trans (hr5 j _ hzj)
          obtain ⟨hj1, hj2, hj3, -, hj5, ⟨x, hx, hx0⟩, hj7⟩ := HMI.out
          rw [Int.toNat_natCast] at hx
          have hdl : d'.length ≤ T ∧ T ≤ d'.length := by have := hj5.1; omega
          obtain ⟨y', hy'⟩ : ∃ y, d'[mm]? = some y := ⟨_, List.getElem?_eq_getElem (by omega)⟩
          have hc2 := HM2.out.cell hy'
          have hf2 := HM2.out.frozen mm
          have hc3 := HM2.out.cell hx
          have hxn := hj5.2.1 x (List.mem_of_getElem? hx)
          have hql : (wk'.drop 1).length ≤ 2000000 := by rw [List.length_drop]; omega
          have hdn := hj5.1
          have HX1 := Lib.hid hx
          have HY1 := Lib.hid hy'
          clear hx hy' hj3 hj5 hj7 hr5 hzj hdn
          by_cases hyn : y' < 0
          · have hne : mm ≠ wn := fun h => by
              rw [h] at HY1
              have := Option.some.inj (HX1.out.symm.trans HY1.out)
              omega
            obtain ⟨wa, hwa⟩ : ∃ z, z = wr.setCell ⟨g, mm, none⟩ (.int .i64 (x + 1)) := ⟨_, rfl⟩
            have hNA : NumsAt wa g (d'.set mm (x + 1)) := by rw [hwa]; exact NumsAt.set HM2.out mm (x + 1)
            have hka : ∀ b, b ≠ g → wa.heap[b]? = wr.heap[b]? := fun b hb => by rw [hwa]; exact Below.heap_setCell _ _ _ _ (by simpa using hb)
            have hqa : QRow wa (g + 1) u8 (wk'.drop 1) := HQ2.out.keep fun b h1 h2 => hka b (by omega)
            have hba : Below g wq wa := by rw [hwa]; exact hbl2.setCell (p := ⟨g, mm, none⟩) (Nat.le_refl _) _
            have HZA := Lib.hid (show wa.heap.size = wr.heap.size by rw [hwa, size_setCell])
            have HWA := Lib.hid hwa; clear hwa
            have HNA := Lib.hid hNA
            have HQA := Lib.hid hqa
            have HBA := Lib.hid hba
            have hga := hNA.lt
            have hbs : g + 1 ≤ wa.heap.size := by omega
            clear hNA hqa hba hka
            have HC0 := Lib.hid (show (wa.alloc (.cells #[.int .i64 (mm : Int)] 3)).cell? ⟨wr.heap.size, 0, none⟩ = some (.int .i64 (mm : Int)) by
              rw [← HZA.out, World.cell?_alloc_at _ _ _ _ rfl]; rfl)
            have HQB := Lib.hid (HQA.out.keep (w' := wa.alloc (.cells #[.int .i64 (mm : Int)] 3)) fun b h1 h2 => (bl_alloc (Below.refl wa.heap.size wa) _).block b h2)
            have HBB := Lib.hid (bl_alloc (Below.refl wa.heap.size wa) (.cells #[.int .i64 (mm : Int)] 3))
            go_wp2_with ((at_builtin; rw [← HWA.out]; refine wpList_append_q rfl (.tmp 53) (.tmp 55) rfl rfl HQB.out wr.heap.size (mm : Int) rfl HC0.out hql (by simp; omega) ?_; intro v' w' hq'' hb''))
            go_roundw
            case rel =>
              refine ⟨d'.set mm (x + 1), wk' ++ [(mm : Int)], j + 1, by go_num, ?_, ?_, ?_, ?_⟩
              · have h1 := HMI.out.yes HE.out (by show (0 : Int) ≤ (mm : Int); omega) (by rw [Int.toNat_natCast]; exact HX1.out) (by show d'[((mm : Nat) : Int).toNat]? = _; rw [Int.toNat_natCast]; exact HY1.out) hyn
                simp only [Int.toNat_natCast] at h1
                exact h1
              · exact (HNA.out.keep (HBB.out.block g hga)).keep (hb''.block g (by omega))
              · rw [List.drop_append_of_le_length (by have := HMI.out.2.1; omega)]
                exact hq''
              · exact HBA.out.trans ((HBB.out.mono (by omega)).trans (hb''.mono (by omega)))
            case measure => simp [intOf]; omega
          · go_wp2_with fail
            go_roundw
            case rel => exact ⟨d', wk', j + 1, by go_num, HMI.out.no HE.out (by show d'[((mm : Nat) : Int).toNat]? = _; rw [Int.toNat_natCast]; exact HY1.out) hyn, HM2.out, HQ2.out, hbl2⟩
            case measure => simp [intOf]; omega
        · have hlj : (L.map fun k => (k, (0 : Int))).length ≤ j := by rw [List.length_map]; omega
          have hls : neg d' + (wk'.drop 1).length = neg d + q.length := HMI.out.less hlj HP.out (by rw [Int.toNat_natCast]; exact HEL.out) HBF.out
          have hq7 := HMI.out.2.2.2.2.2.2
          have hk2 := HMI.out.2.1
          go_wp2_with fail
          refine ⟨⟨d', wk'.drop 1, HM2.out, HQ2.out, HMI.out.fin hlj HP.out (by rw [Int.toNat_natCast]; exact HEL.out) HBF.out, by rw [List.length_drop]; omega, hbl.trans hbl2⟩, ?_⟩
          have k1 := negAt_eq HM2.out
          have k2 := negAt_eq HM.out
          have k3 := HQ2.out.len
          have k4 := HML.out
          show negAt _ g + lenOf _ < negAt _ g + lenOf (.slice (some ⟨gq, o, none⟩) m cap)
          rw [k1, k2]
          show neg d' + lenOf u8 < neg d + m
          rw [k3]
          omega
end Go.Proofs.YthfgklckmedggaaGreat
