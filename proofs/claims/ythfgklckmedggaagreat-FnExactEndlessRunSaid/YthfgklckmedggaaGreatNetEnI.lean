/-
  Endless runs that are looked for, the program's side: the closure that looks for the next situation, endlessRun, EndlessRun.
-/
import Derived.Test.YthfgklckmedggaaGreatNeIlI
import Derived.Test.YthfgklckmedggaaGreatRunS
namespace Go.Proofs.YthfgklckmedggaaGreat
open Go.RowKit
set_option linter.unusedVariables false
set_option linter.unusedSimpArgs false
theorem aft_bad {N : List (List Int)} {dd : List Bool} {k : Nat} (h : dd.getD k false = false) : aftL N dd k = badL N dd k := by
  unfold aftL
  rw [if_neg (by rw [h]; simp)]
set_option maxRecDepth 100000 in
set_option maxHeartbeats 2000000 in
theorem near_call (P3 P6 Pa g T q k : Nat) (N : List (List Int)) (dd : List Bool) (D : List Int) (w : World) (hm : MapOk N dd T) (hr : RowsR w w.heap.size (.slice (some ⟨Pa, 0, none⟩) T T) (aftM N dd T)) (p3 : w.cell? ⟨P3, 0, none⟩ = some (.slice (some ⟨Pa, 0, none⟩) T T)) (p6 : w.cell? ⟨P6, 0, none⟩ = some (.slice (some ⟨g, 0, none⟩) T T)) (hn : NumsAt w g D) (hB : BkD N dd T q D) (hk : k < T) :
    Calls Tryz.prog 77 #[.int .i64 (k : Int), .pointer (some ⟨P3, 0, none⟩), .pointer (some ⟨P6, 0, none⟩)] w fun e w' => e = .returned (.int .i64 (nrL D (aftL N dd k))) ∧ Below w.heap.size w w' := by
  have hT3 := hm.t
  have hlM : T ≤ (aftM N dd T).length ∧ (aftM N dd T).length ≤ T := by rw [aftM_len]; omega
  have HBD := Lib.hid hB
  have HNU := Lib.hid hn
  obtain ⟨bl, hbl⟩ : ∃ z, z = aftL N dd k := ⟨_, rfl⟩
  have HBDL := Lib.hid (show ∀ y ∈ bl, 0 ≤ y ∧ y < (T : Int) by rw [hbl]; exact fun y hy => aftL_bd hm hy)
  obtain ⟨A8, c8, e8, hc8, hcm8, hrow⟩ := hr.open_
  obtain ⟨ad, hae, hab, hrw⟩ := hrow (by omega)
  subst hae
  injection e8 with e81 e82 e83
  injection e81 with e81
  subst e81
  obtain ⟨u, hcu, hru⟩ := hrw k bl (by rw [hbl]; exact aftM_at hk)
  rw [Addr.add_lit, Nat.zero_add] at hcu
  obtain ⟨A5, c5, rfl, hlc5, hcm5, hr5⟩ := hru.open_
  unfold maxLen at hcm5
  have HR5 := Lib.hid hr5
  rw [← hbl]
  have hbll : bl.length ≤ 3000 := by rw [hbl]; exact aftL_len hm hk
  have hDl : T ≤ D.length ∧ D.length ≤ T := by have := hB.len; omega
  clear hr hrow hrw hru hr5 hm hB hn hbl hc8 hcm8 hlM e82 e83
  go_enter Tryz.func77, Tryz.ntmps77
  go_wp2_with fail
  go_loopw [5, 13] (fun bv i wr => EriRel D bl w bv i wr) (fun _ i _ => bl.length - (intOf i).toNat)
  case atStart => exact ⟨Below.refl _ _, 0, Nat.zero_le _, rfl, rfl⟩
  case round =>
    obtain ⟨hbli, m, hm, rfl, rfl⟩ := hrel
    have hnr := nr_in (D := D) (m := m) HBDL.out
    by_cases hltm : m < bl.length
    · obtain ⟨y, hy⟩ : ∃ y, bl[m]? = some y := ⟨_, List.getElem?_eq_getElem hltm⟩
      obtain ⟨hy0, hy1⟩ := HBDL.out y (List.mem_of_getElem? hy)
      obtain ⟨yn, rfl⟩ : ∃ yn : Nat, y = yn := ⟨y.toNat, by omega⟩
      have HNT := Lib.hid (nr_take (D := D) hy)
      obtain ⟨bb, hbb⟩ : ∃ z, z = nrL D (bl.take m) := ⟨_, rfl⟩
      rw [← hbb] at HNT hnr ⊢
      clear hbb
      obtain ⟨f, hf, hfg, hf0, hfT⟩ := bkD_bd HBD.out (x := yn) (by omega)
      have HFG := Lib.hid (show D.getD ((yn : Nat) : Int).toNat 0 = f by rw [Int.toNat_natCast]; exact hfg)
      have HNI := Lib.hid (HNU.out.keep (hbli.block g HNU.out.lt))
      have ky := HNI.out.cell hf
      have hyD : yn < T := by omega
      obtain ⟨a5, rfl, hab5, hr5⟩ := HR5.out (by omega)
      have kb := (hbli.cell (p := a5.add m) (by rw [block_add]; exact hab5)).trans (hr5 m _ hy)
      have k6 := (hbli.cell (p := ⟨P6, 0, none⟩) (World.block_lt_of_cell? _ _ p6)).trans p6
      clear hr5 hy hf hfg
      by_cases hf1 : f < 0
      · have hf4 : decide (0 ≤ f) = false := decide_eq_false (by omega)
        have hf5 : decide (f ≥ 0) = false := decide_eq_false (by omega)
        have hf6 : (f ≥ 0) = False := eq_false (by omega)
        have HNS := Lib.hid (show nrL D (bl.take (m + 1)) = bb by rw [HNT.out]; exact nr_no HFG.out (.inl hf1))
        go_wp2_with fail
        refine wp_region_held_drew (S := fun w' => w'.cell? ⟨P6, 0, none⟩ = some (.slice (some ⟨g, 0, none⟩) T T) ∧ w'.cell? ⟨g, yn, none⟩ = some (.int .i64 f)) (by kernel_rfl) ?_ (fun hHeld => ?_)
        · go_keep
        refine tk 0 17 rfl rfl ?_
        try simp only [Act.put, pu]
        refine tk 1 18 rfl rfl ?_
        try simp only [Act.put, pu]
        refine tk 2 19 rfl rfl ?_
        try simp only [Act.put, pu]
        refine tk 3 20 rfl rfl ?_
        try simp only [Act.put, pu]
        refine tk 4 21 rfl rfl ?_
        try simp only [Act.put, pu]
        refine tk 5 22 rfl rfl ?_
        try simp only [Act.put, pu]
        refine tn 6 23 rfl rfl ?_
        try simp only [Act.put, pu]
        refine tn 7 24 rfl rfl ?_
        try simp only [Act.put, pu]
        refine tn 8 25 rfl rfl ?_
        try simp only [Act.put, pu]
        refine tn 9 26 rfl rfl ?_
        try simp only [Act.put, pu]
        refine tn 10 27 rfl rfl ?_
        try simp only [Act.put, pu]
        refine tn 11 28 rfl rfl ?_
        try simp only [Act.put, pu]
        refine tn 12 29 rfl rfl ?_
        try simp only [Act.put, pu]
        refine tn 13 30 rfl rfl ?_
        try simp only [Act.put, pu]
        refine tn 14 31 rfl rfl ?_
        try simp only [Act.put, pu]
        refine tn 15 32 rfl rfl ?_
        try simp only [Act.put, pu]
        refine tn 16 33 rfl rfl ?_
        try simp only [Act.put, pu]
        refine tn 17 34 rfl rfl ?_
        try simp only [Act.put, pu]
        refine tn 18 35 rfl rfl ?_
        try simp only [Act.put, pu]
        refine tk 19 36 rfl rfl ?_
        try simp only [Act.put, pu]
        refine wpAnyH_done (by kernel_rfl) ?_ _
        go_wp2_with fail
        go_roundw
        case rel => exact ⟨bl_drewN hbli _, m + 1, by omega, by go_num, by rw [HNS.out]⟩
        case measure => simp [intOf]; omega
      · by_cases hb0 : bb < 0
        · skip
          have HNS := Lib.hid (show nrL D (bl.take (m + 1)) = ((yn : Nat) : Int) by rw [HNT.out]; exact nr_yes HFG.out (by omega) (.inl hb0))
          go_wp2_with fail
          refine wp_region_held_drew (S := fun w' => w'.cell? ⟨P6, 0, none⟩ = some (.slice (some ⟨g, 0, none⟩) T T) ∧ w'.cell? ⟨g, yn, none⟩ = some (.int .i64 f)) (by kernel_rfl) ?_ (fun hHeld => ?_)
          · go_keep
          refine tk 0 17 rfl rfl ?_
          try simp only [Act.put, pu]
          refine tk 1 18 rfl rfl ?_
          try simp only [Act.put, pu]
          refine tk 2 19 rfl rfl ?_
          try simp only [Act.put, pu]
          refine tk 3 20 rfl rfl ?_
          try simp only [Act.put, pu]
          refine tk 4 21 rfl rfl ?_
          try simp only [Act.put, pu]
          refine tk 5 22 rfl rfl ?_
          try simp only [Act.put, pu]
          refine tk 6 23 rfl rfl ?_
          try simp only [Act.put, pu]
          refine tk 7 24 rfl rfl ?_
          try simp only [Act.put, pu]
          refine tk 8 25 rfl rfl ?_
          try simp only [Act.put, pu]
          refine tn 9 26 rfl rfl ?_
          try simp only [Act.put, pu]
          refine tn 10 27 rfl rfl ?_
          try simp only [Act.put, pu]
          refine tn 11 28 rfl rfl ?_
          try simp only [Act.put, pu]
          refine tn 12 29 rfl rfl ?_
          try simp only [Act.put, pu]
          refine tn 13 30 rfl rfl ?_
          try simp only [Act.put, pu]
          refine tn 14 31 rfl rfl ?_
          try simp only [Act.put, pu]
          refine tn 15 32 rfl rfl ?_
          try simp only [Act.put, pu]
          refine tn 16 33 rfl rfl ?_
          try simp only [Act.put, pu]
          refine tn 17 34 rfl rfl ?_
          try simp only [Act.put, pu]
          refine tk 18 35 rfl rfl ?_
          try simp only [Act.put, pu]
          refine tk 19 36 rfl rfl ?_
          try simp only [Act.put, pu]
          refine wpAnyH_done (by kernel_rfl) ?_ _
          go_wp2_with fail
          go_roundw
          case rel => exact ⟨bl_drewN hbli _, m + 1, by omega, by go_num, by rw [HNS.out]⟩
          case measure => simp [intOf]; omega
        · obtain ⟨bn, rfl⟩ : ∃ bn : Nat, bb = bn := ⟨bb.toNat, by omega⟩
          obtain ⟨fb, hfb, hfbg, hfb0, hfbT⟩ := bkD_bd HBD.out (x := bn) (by omega)
          have HFB := Lib.hid (show D.getD ((bn : Nat) : Int).toNat 0 = fb by rw [Int.toNat_natCast]; exact hfbg)
          have kbn := HNI.out.cell hfb
          have hbT : bn < T := by omega
          clear hfb hfbg
          by_cases hlf : f < fb
          · skip
            have HNS := Lib.hid (show nrL D (bl.take (m + 1)) = ((yn : Nat) : Int) by rw [HNT.out]; exact nr_yes HFG.out (by omega) (.inr (by rw [HFB.out]; exact hlf)))
            go_wp2_with fail
            refine wp_region_held_drew (S := fun w' => w'.cell? ⟨P6, 0, none⟩ = some (.slice (some ⟨g, 0, none⟩) T T) ∧ w'.cell? ⟨g, yn, none⟩ = some (.int .i64 f) ∧ w'.cell? ⟨g, bn, none⟩ = some (.int .i64 fb)) (by kernel_rfl) ?_ (fun hHeld => ?_)
            · go_keep
            refine tk 0 17 rfl rfl ?_
            try simp only [Act.put, pu]
            refine tk 1 18 rfl rfl ?_
            try simp only [Act.put, pu]
            refine tk 2 19 rfl rfl ?_
            try simp only [Act.put, pu]
            refine tk 3 20 rfl rfl ?_
            try simp only [Act.put, pu]
            refine tk 4 21 rfl rfl ?_
            try simp only [Act.put, pu]
            refine tk 5 22 rfl rfl ?_
            try simp only [Act.put, pu]
            refine tk 6 23 rfl rfl ?_
            try simp only [Act.put, pu]
            refine tk 7 24 rfl rfl ?_
            try simp only [Act.put, pu]
            refine tk 8 25 rfl rfl ?_
            try simp only [Act.put, pu]
            refine tk 9 26 rfl rfl ?_
            try simp only [Act.put, pu]
            refine tk 10 27 rfl rfl ?_
            try simp only [Act.put, pu]
            refine tk 11 28 rfl rfl ?_
            try simp only [Act.put, pu]
            refine tk 12 29 rfl rfl ?_
            try simp only [Act.put, pu]
            refine tk 13 30 rfl rfl ?_
            try simp only [Act.put, pu]
            refine tk 14 31 rfl rfl ?_
            try simp only [Act.put, pu]
            refine tk 15 32 rfl rfl ?_
            try simp only [Act.put, pu]
            refine tk 16 33 rfl rfl ?_
            try simp only [Act.put, pu]
            refine tk 17 34 rfl rfl ?_
            try simp only [Act.put, pu]
            refine tk 18 35 rfl rfl ?_
            try simp only [Act.put, pu]
            refine tk 19 36 rfl rfl ?_
            try simp only [Act.put, pu]
            refine wpAnyH_done (by kernel_rfl) ?_ _
            go_wp2_with fail
            go_roundw
            case rel => exact ⟨bl_drewN hbli _, m + 1, by omega, by go_num, by rw [HNS.out]⟩
            case measure => simp [intOf]; omega
          · skip
            have HNS := Lib.hid (show nrL D (bl.take (m + 1)) = ((bn : Nat) : Int) by rw [HNT.out]; exact nr_no HFG.out (.inr ⟨by omega, by rw [HFB.out]; omega⟩))
            go_wp2_with fail
            refine wp_region_held_drew (S := fun w' => w'.cell? ⟨P6, 0, none⟩ = some (.slice (some ⟨g, 0, none⟩) T T) ∧ w'.cell? ⟨g, yn, none⟩ = some (.int .i64 f) ∧ w'.cell? ⟨g, bn, none⟩ = some (.int .i64 fb)) (by kernel_rfl) ?_ (fun hHeld => ?_)
            · go_keep
            refine tk 0 17 rfl rfl ?_
            try simp only [Act.put, pu]
            refine tk 1 18 rfl rfl ?_
            try simp only [Act.put, pu]
            refine tk 2 19 rfl rfl ?_
            try simp only [Act.put, pu]
            refine tk 3 20 rfl rfl ?_
            try simp only [Act.put, pu]
            refine tk 4 21 rfl rfl ?_
            try simp only [Act.put, pu]
            refine tk 5 22 rfl rfl ?_
            try simp only [Act.put, pu]
            refine tk 6 23 rfl rfl ?_
            try simp only [Act.put, pu]
            refine tk 7 24 rfl rfl ?_
            try simp only [Act.put, pu]
            refine tk 8 25 rfl rfl ?_
            try simp only [Act.put, pu]
            refine tk 9 26 rfl rfl ?_
            try simp only [Act.put, pu]
            refine tk 10 27 rfl rfl ?_
            try simp only [Act.put, pu]
            refine tk 11 28 rfl rfl ?_
            try simp only [Act.put, pu]
            refine tk 12 29 rfl rfl ?_
            try simp only [Act.put, pu]
            refine tk 13 30 rfl rfl ?_
            try simp only [Act.put, pu]
            refine tk 14 31 rfl rfl ?_
            try simp only [Act.put, pu]
            refine tk 15 32 rfl rfl ?_
            try simp only [Act.put, pu]
            refine tk 16 33 rfl rfl ?_
            try simp only [Act.put, pu]
            refine tk 17 34 rfl rfl ?_
            try simp only [Act.put, pu]
            refine tk 18 35 rfl rfl ?_
            try simp only [Act.put, pu]
            refine tk 19 36 rfl rfl ?_
            try simp only [Act.put, pu]
            refine wpAnyH_done (by kernel_rfl) ?_ _
            go_wp2_with fail
            go_roundw
            case rel => exact ⟨bl_drewN hbli _, m + 1, by omega, by go_num, by rw [HNS.out]⟩
            case measure => simp [intOf]; omega
    · obtain rfl : m = bl.length := by omega
      rw [List.take_length]
      go_wp2_with fail
      go_ret
      exact ⟨rfl, hbli⟩
def EnPost (N : List (List Int)) (dd : List Bool) (T : Nat) (w : World) (e : Ending) (w' : World) : Prop :=
  ∃ u, e = .returned u ∧ w'.ownsRow w.heap.size 3 1 u (erL N dd T).length ((erL N dd T).map intV) ∧ ((erB N dd T = false ∧ u = .slice none 0 0) ∨ (erB N dd T = true ∧ ∃ A m c, u = .slice (some A) m c)) ∧ Below w.heap.size w w'
def EmRel (N : List (List Int)) (dd : List Bool) (D : List Int) (T j : Nat) (whole : List Int) (base : Nat) (w : World) (xv ov : Value) (wr : World) : Prop :=
  ∃ (out l : List Int) (a : Nat), xv = .int .i64 (nrL D (badL N dd a)) ∧ a < T ∧ dd.getD a false = false ∧ wr.ownsRow base 3 1 ov out.length (out.map intV) ∧ out ≠ [] ∧ Er N dd D j a l ∧ out ++ l = whole ∧ Below base w wr
theorem own_ne {w : World} {base n : Nat} {v : Value} {xs : List Int} (h : w.ownsRow base 3 1 v n (xs.map intV)) (hx : xs ≠ []) : ∃ A m c, v = .slice (some A) m c := by
  rcases own_cases h with ⟨_, e⟩ | ⟨b, c, e, _⟩
  · exact absurd e hx
  · exact ⟨_, _, _, e⟩
set_option maxRecDepth 100000 in
set_option maxHeartbeats 4000000 in
theorem impl_endlessRun (G T : Nat) (lv nv : Value) (N : List (List Int)) (dd : List Bool) (w : World) (hx : Xd w G T lv nv N dd) :
    Calls Tryz.prog 52 #[.pointer (some ⟨G, 0, none⟩)] w (EnPost N dd T w) := by
  have hT3 := hx.ok.t
  have hGl := hx.lt
  have HX := Lib.hid hx
  have HM := Lib.hid hx.ok
  have hlM : T ≤ (aftM N dd T).length ∧ (aftM N dd T).length ≤ T := by rw [aftM_len]; omega
  clear hx
  go_enter Tryz.func52, Tryz.ntmps52
  go_wp2_with fail
  refine (impl_illegal G T lv nv N dd w HX.out).mono ?_
  rintro e w1 ⟨P1, P2, rfl, hr1, hr2, hb1⟩
  obtain ⟨w2, hw2⟩ : ∃ z, z = w1.alloc (.cells #[.slice (some ⟨P1, 0, none⟩) T T] 47) := ⟨_, rfl⟩
  have hb2 : Below w1.heap.size w1 w2 := by rw [hw2]; exact bl_alloc (Below.refl _ _) _
  have hz2 : w1.heap.size < w2.heap.size := by rw [hw2]; simp
  have HP3 := Lib.hid (show w2.cell? ⟨w1.heap.size, 0, none⟩ = some (.slice (some ⟨P1, 0, none⟩) T T) by rw [hw2, World.cell?_alloc_at _ _ _ _ rfl]; rfl)
  have HR1 := Lib.hid ((hr1.below hb2).more hb2.size)
  have HR2 := Lib.hid ((hr2.below hb2).more hb2.size)
  have hB2 := bl_trans hb1 hb2
  have a6 := (hB2.cell (p := ⟨G, 6, none⟩) hGl).trans HX.out.c6
  have e6 := a6
  rw [hw2] at e6
  have HW2 := Lib.hid hw2
  have hz12 := hb1.size
  clear hw2 hr1 hr2 a6
  go_wp2_with fail
  rw [← HW2.out]
  clear e6
  go_loopw [19] (fun i wr => EroRel N dd T w2 i wr) (fun i _ => T - (intOf i).toNat)
  case atStart => exact ⟨Below.refl _ _, 0, Nat.zero_le _, rfl, fun x hx => by omega⟩
  case round =>
    obtain ⟨hbl, j, hj, rfl, hno⟩ := hrel
    have HNO := Lib.hid hno; clear hno
    have HBR := Lib.hid (bl_trans hB2 hbl)
    have hsz := hbl.size
    by_cases hlt : j < T
    · have k3 := (hbl.cell (p := ⟨w1.heap.size, 0, none⟩) hz2).trans HP3.out
      obtain ⟨A8, c8, e8, hc8, hcm8, hrow⟩ := HR1.out.open_
      obtain ⟨ad, hae, hab, hrw⟩ := hrow (by omega)
      subst hae
      injection e8 with e81 e82 e83
      injection e81 with e81
      subst e81
      obtain ⟨u, hcu, hru⟩ := hrw j (aftL N dd j) (aftM_at hlt)
      have kr := (hbl.cell (p := (⟨P1, 0, none⟩ : Addr).add j) (by rw [block_add]; exact hab)).trans hcu
      rw [Addr.add_lit, Nat.zero_add] at kr
      obtain ⟨A5, c5, rfl, -, -, -⟩ := hru.open_
      clear hrow hrw hcu hru hc8 hcm8 e82 e83 hab
      have HRD := Lib.hid (fun h : dd.getD j false = false => nr_cyc (d := dd) HM.out.in_ hlt h)
      have hal := aftL_len (x := j) HM.out hlt
      by_cases hl0 : (aftL N dd j).length = 0
      · have hlb : ((((aftL N dd j).length : Nat) : Int) == 0) = true := by rw [hl0]; rfl
        have HNX := Lib.hid (HNO.out.next fun hc => by
          obtain ⟨hd, y, hy, -⟩ := hc
          rw [← aft_bad hd, List.eq_nil_of_length_eq_zero hl0] at hy
          cases hy)
        clear hl0
        go_wp2_with fail
        go_roundw
        case rel => exact ⟨hbl, j + 1, by omega, by go_num, HNX.out⟩
        case measure => simp [intOf]; omega
      · have hlb : ((((aftL N dd j).length : Nat) : Int) == 0) = false := by rw [beq_eq_false_iff_ne]; omega
        have hdj : dd.getD j false = false := by
          rcases Bool.eq_false_or_eq_true (dd.getD j false) with hd | hd
          · exfalso; apply hl0; unfold aftL; rw [if_pos hd]; rfl
          · exact hd
        have HAB := Lib.hid (aft_bad (N := N) hdj)
        have HBD := Lib.hid (bk_ok (N := N) (d := dd) hlt)
        have HDJ := Lib.hid hdj
        have HNC := Lib.hid (HRD.out hdj)
        clear hl0 hdj
        go_wp2_with fail
        refine (impl_wayBack G T j lv nv _ N dd _ (HX.out.up HBR.out) ((HR2.out.below hbl).more hbl.size) hlt).mono ?_
        rintro e w4 ⟨g, rfl, hnum4, hg4, hb4⟩
        have HCE := Lib.hid (fun h : cycP N dd T j => cyc_er HM.out.in_ hlt h)
        have HSM0 := Lib.hid (fun (hc : cycP N dd T j) (l : List Int) (hl : Er N dd (bkL N dd T j) j j l) => HNO.out.some hlt hc hl)
        generalize bkL N dd T j = D at *
        obtain ⟨w5, hw5⟩ : ∃ z, z = w4.alloc (.cells #[.slice (some ⟨g, 0, none⟩) T T] 23) := ⟨_, rfl⟩
        have hb5 : Below w4.heap.size w4 w5 := by rw [hw5]; exact bl_alloc (Below.refl _ _) _
        have hz5 : w4.heap.size < w5.heap.size := by rw [hw5]; simp
        have p6 : w5.cell? ⟨w4.heap.size, 0, none⟩ = some (.slice (some ⟨g, 0, none⟩) T T) := by rw [hw5, World.cell?_alloc_at _ _ _ _ rfl]; rfl
        have hB45 := bl_trans hb4 hb5
        have hB5 := bl_trans hbl hB45
        have hnum5 := hnum4.keep (hb5.block g hnum4.lt)
        have p3 := (hB5.cell (p := ⟨w1.heap.size, 0, none⟩) hz2).trans HP3.out
        have hr5 := (HR1.out.below hB5).more hB5.size
        have HBR5 := Lib.hid (bl_trans HBR.out hB45)
        have hz45 := hB45.size
        have hz4 := hb4.size
        have HW5 := Lib.hid hw5
        have J := Lib.hid (near_call w1.heap.size w4.heap.size P1 g T j j N dd D w5 HM.out hr5 p3 p6 hnum5 HBD.out hlt)
        have HP3' := Lib.hid p3
        have HP6 := Lib.hid p6
        have HR5 := Lib.hid hr5
        have HN5 := Lib.hid hnum5
        rw [HAB.out] at J
        clear hw5 hnum4 hnum5 p3 p6 hr5 k3 kr
        go_wp2_with fail
        rw [← HW5.out]
        refine J.out.mono ?_
        rintro e w6 ⟨rfl, hb6⟩
        have HBR6 := Lib.hid (bl_trans HBR5.out hb6)
        have hB6 := bl_trans hB5 hb6
        obtain ⟨nx, hnx⟩ : ∃ z, z = nrL D (badL N dd j) := ⟨_, rfl⟩
        rw [← hnx] at HNC ⊢
        by_cases hn0 : nx < 0
        · have HNX := Lib.hid (HNO.out.next fun hc => by have := HNC.out.2 hc; omega)
          go_wp2_with fail
          go_roundw
          case rel => exact ⟨hB6, j + 1, by omega, by go_num, HNX.out⟩
          case measure => simp [intOf]; omega
        · have hcyc := HNC.out.1 (by omega)
          obtain ⟨l0, hl0, hll⟩ := HCE.out hcyc
          have HSM := Lib.hid (HSM0.out hcyc l0 hl0)
          have HER := Lib.hid hl0
          have hz6 := hb6.size
          obtain ⟨w8, hw8⟩ : ∃ z, z = w6.alloc (.cells #[.int .i64 (j : Int)] 3) := ⟨_, rfl⟩
          have hb8 : Below w6.heap.size w6 w8 := by rw [hw8]; exact bl_alloc (Below.refl _ _) _
          have hz8 : w6.heap.size < w8.heap.size := by rw [hw8]; simp
          have HO8 := Lib.hid (ownA3 (show w8.heap[w6.heap.size]? = some (.cells #[.int .i64 (j : Int)] 3 (0, 0)) by rw [hw8]; exact heap_alloc_new w6 _) (Nat.le_refl _))
          have hB58 := bl_trans hb6 hb8
          have HW8 := Lib.hid hw8
          have HNX0 := Lib.hid hnx
          clear hcyc hl0 hw8 hnx
          go_wp2_with fail
          rw [← HW8.out]
          obtain ⟨whole, hwh⟩ : ∃ z, z = (j : Int) :: l0 := ⟨_, rfl⟩
          have hwl : whole.length ≤ 3001 := by rw [hwh, List.length_cons]; omega
          have HWH := Lib.hid (show [(j : Int)] ++ l0 = whole from hwh.symm)
          have HRES := Lib.hid (show erL N dd T = whole ∧ erB N dd T = true by rw [hwh]; exact HSM.out)
          clear hwh hll
          rw [HNX0.out]
          go_loopw [8, 9] (fun xv ov wr' => EmRel N dd D T j whole w6.heap.size w8 xv ov wr') (fun _ ov _ => whole.length + 1 - lenOf ov)
          case atStart => exact ⟨[(j : Int)], l0, j, rfl, hlt, HDJ.out, HO8.out, by simp, HER.out, HWH.out, Below.refl _ _⟩
          case round =>
            obtain ⟨out, l, a, rfl, haT, hda, hown, hne, her, hwo, hblq⟩ := hrel
            have HOW := Lib.hid hown
            have HWO := Lib.hid hwo
            have hol : out.length ≤ whole.length := by rw [← hwo, List.length_append]; omega
            have hBq : Below w5.heap.size w5 _ := hB58.trans (hblq.mono (by omega))
            have HBRQ := Lib.hid (HBR5.out.trans (hBq.mono (by have := HBR5.out.size; omega)))
            have hszq := hblq.size
            obtain ⟨Ao, mo, co, rfl⟩ := own_ne hown hne
            have hmo : mo = out.length := by obtain ⟨A, c, e⟩ := own_sl hown; injection e
            subst hmo
            have hebd := her.bd HM.out.in_
            clear hown hwo
            cases her with
            | stop h =>
              rw [h]
              have HFO := Lib.hid (show wr.ownsRow w.heap.size 3 1 (.slice (some Ao) out.length co) (erL N dd T).length ((erL N dd T).map intV) by
                have h2 := HWO.out
                rw [List.append_nil] at h2
                rw [HRES.out.1, ← h2]
                exact own_mono HOW.out (show w.heap.size ≤ w6.heap.size by have := HBR6.out.size; omega))
              clear h hebd
              go_wp2_with fail
              go_ret
              exact ⟨_, rfl, HFO.out, .inr ⟨HRES.out.2, _, _, _, rfl⟩, HBRQ.out⟩
            | go h hne' hr =>
              rename_i b l'
              rw [h]
              have hb := hebd _ List.mem_cons_self
              have hbT : b < T := by omega
              have hbj : (((b : Nat) : Int) == (j : Int)) = false := by rw [beq_eq_false_iff_ne]; omega
              have hdb : dd.getD b false = false := by
                rcases nr_ok (D := D) (l := badL N dd a) fun y hy => (HM.out.in_.bad hy).1 with ⟨h3, _⟩ | ⟨h3, _⟩
                · rw [h] at h3; omega
                · rw [h] at h3
                  have := (bad_mem.1 h3).2
                  rwa [Int.toNat_natCast] at this
              have HDB := Lib.hid hdb
              have HABB := Lib.hid (aft_bad (N := N) hdb)
              have HRR := Lib.hid hr
              have hwl2 : out.length + 1 ≤ whole.length := by rw [← HWO.out, List.length_append, List.length_cons]; omega
              have hwz : w6.heap.size ≤ wr.heap.size := by omega
              clear h hebd hr hdb hb
              go_wp2_with ((at_builtin; refine wpList_append1 _ rfl (.tmp 46) (.tmp 48) 23 rfl w6.heap.size 3 _ 8 Tryz.underlying23 intInfo rfl _ _ _ rfl _ rfl rfl HOW.out (by unfold maxLen; omega) (by omega) hwz ?_; intro v' w' hown' hbl' hgr' hlt' hob'))
              have hBq' := hBq.trans (hbl'.mono (by omega))
              have hsz' := hbl'.size
              have HOW' := Lib.hid hown'
              refine (near_call w1.heap.size w4.heap.size P1 g T j b N dd D w' HM.out ((HR5.out.below hBq').more hBq'.size) ((hBq'.cell (p := ⟨w1.heap.size, 0, none⟩) (World.block_lt_of_cell? _ _ HP3'.out)).trans HP3'.out) ((hBq'.cell (p := ⟨w4.heap.size, 0, none⟩) hz5).trans HP6.out) (HN5.out.keep (hBq'.block g HN5.out.lt)) HBD.out hbT).mono ?_
              rintro e w11 ⟨rfl, hb11⟩
              rw [HABB.out]
              have HOW11 := Lib.hid (kept_below HOW'.out hb11)
              have hblq2 := (hblq.trans hbl').trans (hb11.mono (by omega))
              go_wp2_with fail
              go_roundw
              case rel => exact ⟨out ++ [((b : Nat) : Int)], l', b, rfl, hbT, HDB.out, by rw [List.length_append, List.map_append]; exact HOW11.out, by simp, HRR.out, by rw [List.append_assoc]; exact HWO.out, hblq2⟩
              case measure =>
                obtain ⟨A, c, e⟩ := own_sl HOW11.out
                rw [e]
                show whole.length + 1 - (out.length + 1) < whole.length + 1 - out.length
                omega
    · obtain rfl : j = T := by omega
      obtain ⟨hf1, hf2⟩ := HNO.out.none
      have HF1 := Lib.hid hf1
      have HF2 := Lib.hid hf2
      clear hf1 hf2
      go_wp2_with fail
      go_ret
      exact ⟨_, rfl, by rw [HF1.out]; exact World.ownsRow_nil _ _ _ _, .inl ⟨HF2.out, rfl⟩, HBR.out⟩
set_option maxRecDepth 100000 in
theorem impl_EndlessRun (ve vi vn : Value) (n : Net) (r d : Int) (w : World) (h : NetR w w.heap.size ve vi vn n) (hz : n.es.length ≤ 2000000) (hzi : n.ids.length ≤ 2000000) :
    Calls Tryz.prog 28 #[.agg #[ve, vi, vn], .int .i64 r, .int .i64 d] w fun e w' => ∃ u, e = .returned (.tuple #[u, .bool (enB n r d)]) ∧ (∃ A m c, u = .slice A m c) ∧ IntsR w' w'.heap.size u (enL n r d) ∧ w'.ownsRow w.heap.size 3 1 u (enL n r d).length ((enL n r d).map intV) ∧ Below w.heap.size w w' := by
  have H64 := Lib.hid (enL_bd n r d).2
  obtain ⟨⟨A0, m0, c0, rfl⟩, ⟨A1, m1, c1, rfl⟩, A2, m2, c2, rfl⟩ := h.slices
  obtain ⟨w0, hw0, hB, HD, hz0, HS0⟩ := box3 w (.slice A0 m0 c0) (.slice A1 m1 c1) (.slice A2 m2 c2) 31
  have HN0 := Lib.hid h; have HN := Lib.hid (h.up hB); clear h
  have HW0 := Lib.hid hw0; clear hw0
  obtain ⟨q0, q1, q2, qf⟩ := cells3 HD
  go_enter Tryz.func28, Tryz.ntmps28
  go_wp2_with fail
  rw [← HW0.out]
  refine (impl_explored _ _ _ n r d w0 HN.out hz hzi).mono ?_
  rintro e w1 ⟨hb1, hx⟩
  have hzhb1 := hb1.size
  clear q0 q1 q2 qf
  replace HD := bk HD hb1
  replace HN := Lib.hid (HN.out.up hb1)
  replace hB := bl_trans hB hb1
  obtain ⟨q0, q1, q2, qf⟩ := cells3 HD
  rcases hx with ⟨h1, p, rfl⟩ | ⟨h1, G, T, lv, nv, hT, rfl, hX⟩
  · have HF := Lib.hid (show enB n r d = false by unfold enB; rw [h1]; rfl)
    go_wp2_with fail
    go_ret2
    exact ⟨_, ret2b HF.out.symm, ⟨_, _, _, rfl⟩, by rw [en_f HF.out]; exact ints_nil _ _, by rw [en_f HF.out]; exact World.ownsRow_nil _ _ _ _, hB⟩
  · have HF := Lib.hid (show enB n r d = erB (nxL n r d T) (legL n r T) T by unfold enB; rw [h1, hT]; rfl)
    have HL := Lib.hid (fun hb : enB n r d = true => show enL n r d = erL (nxL n r d T) (legL n r T) T by rw [en_t hb, hT]; rfl)
    have HX := Lib.hid hX
    clear hX hT
    go_wp2_with fail
    refine (impl_endlessRun G T lv nv _ _ w1 HX.out).mono ?_
    rintro e w2 ⟨u, rfl, ho, hcase, hb2⟩
    have hsz := hB.size
    rcases hcase with ⟨hro, rfl⟩ | ⟨hro, A7, m7, c7, rfl⟩
    · have HF2 := Lib.hid (HF.out.trans hro)
      clear hro ho
      go_wp2_with fail
      go_ret2
      exact ⟨_, ret2b HF2.out.symm, ⟨_, _, _, rfl⟩, by rw [en_f HF2.out]; exact ints_nil _ _, by rw [en_f HF2.out]; exact World.ownsRow_nil _ _ _ _, bl_trans hB hb2⟩
    · have HF2 := Lib.hid (HF.out.trans hro)
      rw [← HL.out HF2.out] at ho
      have HO := Lib.hid (own_mono ho hsz)
      have HI := Lib.hid (own_intsR ho H64.out)
      clear hro ho
      go_wp2_with fail
      go_ret2
      exact ⟨_, ret2b HF2.out.symm, ⟨_, _, _, rfl⟩, HI.out, HO.out, bl_trans hB hb2⟩
end Go.Proofs.YthfgklckmedggaaGreat
