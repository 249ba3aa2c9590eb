/-
  Walk problems, the program's side: the ranks, periods and residues of labels.
-/
import Derived.Test.YtjhljipehnmbnaaGreatCwI9
import Derived.Test.YtjhljipehnmbnaaGreatPlainRk
import Derived.Test.YtjhljipehnmbnaaGreatOnlyB
namespace Go.Proofs.YtjhljipehnmbnaaGreat
open Go.RowKit
set_option linter.unusedVariables false
set_option linter.unusedSimpArgs false
def R1Rel (n : Nat) (xss : List (List Int)) (w1 : World) (v i : Value) (wr : World) : Prop :=
  ∃ (k : Nat) (gs : List Nat), k ≤ n ∧ i = .int .i64 k ∧ gs.length = k ∧ OwnMI wr w1.heap.size v 3 gs (fR n xss []) ∧ Below w1.heap.size w1 wr
def R2Rel (n : Nat) (xss : List (List Int)) (base : Nat) (v : Value) (gs : List Nat) (w2 : World) (i : Value) (wr : World) : Prop :=
  ∃ k : Nat, k ≤ (roots xss n).length ∧ i = .int .i64 k ∧ OwnMI wr base v 3 gs (fR n xss (catL xss ((roots xss n).take k))) ∧ Only gs w2 wr ∧ Below base w2 wr
def R3Rel (n : Nat) (xss : List (List Int)) (base : Nat) (v : Value) (gs : List Nat) (D K : List Nat) (w3 : World) (i : Value) (wr : World) : Prop :=
  ∃ j : Nat, j ≤ K.length ∧ i = .int .i64 j ∧ OwnMI wr base v 3 gs (fR n xss (D ++ K.take j)) ∧ Only gs w3 wr ∧ Below base w3 wr
def RkPost (n : Nat) (xss : List (List Int)) (w : World) (e : Ending) (w' : World) : Prop :=
  ∃ v bs, e = .returned v ∧ OwnRows w' 28 3 v (rksL n xss) bs ∧ bs.Nodup ∧ (∀ b ∈ bs, w.heap.size ≤ b ∧ b < w'.heap.size) ∧ Below w.heap.size w w'
theorem iRow3 (n : Nat) (xss : List (List Int)) (a : Nat) : iRow 3 (fR n xss [] a) = #[.int .i64 (rkN n xss a : Int), .int .i64 0, .int .i64 0] := by
  unfold iRow
  rw [show List.range 3 = [0, 1, 2] from rfl]
  simp [fR_nil]
set_option maxRecDepth 100000 in
set_option maxHeartbeats 2000000 in
theorem impl_ranks (n : Nat) (v : Value) (xss : List (List Int)) (w : World) (h : RowsR w w.heap.size v xss) (hg : Good n xss) (hv : ∃ A m c, v = .slice A m c) :
    Calls Tryz.prog 27 #[.agg #[.int .i64 (n : Int), v]] w (RkPost n xss w) := by
  have hn := good_n hg
  have HH := Lib.hid h; clear h
  have HG := Lib.hid hg; clear hg
  have hrl := roots_len xss n
  obtain ⟨w0, hw0⟩ : ∃ z, z = w.alloc (.cells #[.int .i64 (n : Int), v] 26) := ⟨_, rfl⟩
  have hb0 : Below w.heap.size w w0 := by rw [hw0]; exact bl_alloc (Below.refl _ _) _
  have hz0 : w0.heap.size = w.heap.size + 1 := by rw [hw0]; simp
  have HB0 := Lib.hid (show w0.heap[w.heap.size]? = some (.cells #[.int .i64 (n : Int), v] 26 (0, 0)) by rw [hw0]; exact heap_alloc_new _ _)
  have HW0 := Lib.hid hw0
  have hzz : w.heap.size < w0.heap.size := by omega
  clear hw0 hz0
  obtain ⟨b0, b1, bf⟩ := cells2 HB0
  go_enter Tryz.func27, Tryz.ntmps27
  go_wp2_with fail
  rw [← HW0.out]
  refine (impl_closure n v xss w0 ((HH.out.below hb0).more hb0.size) HG.out hv).mono ?_
  rintro e w1 ⟨g, rfl, hg2, hnum, hb1⟩
  have HN1 := Lib.hid hnum
  have hgl := hnum.lt
  have HB1 := bk HB0 hb1 (by omega)
  have hb01 := bl_trans hb0 hb1
  have hz1 := hb1.size
  clear hnum b0 b1 bf
  have hst : R1Rel n xss w1 (.slice none 0 0) (.int .i64 0) w1 := ⟨0, [], Nat.zero_le _, rfl, rfl, ⟨World.ownsRow_nil _ _ _ _, List.nodup_nil, (fun _ h => by cases h), (fun _ _ h => by simp at h)⟩, Below.refl _ _⟩
  have HST := Lib.hid hst
  clear hst
  go_wp2_with fail
  go_loopw [4, 17] (fun v i wr => R1Rel n xss w1 v i wr) (fun _ i _ => n - (intOf i).toNat)
  case atStart => exact HST.out
  case round =>
    clear HST
    obtain ⟨k, gs, hk, rfl, hgs, hown, hbl⟩ := hrel
    have HO := Lib.hid hown
    have hsz := hbl.size
    have HBr := bk HB1 hbl (by omega)
    have hb0r := bl_trans hb01 hbl
    by_cases hlt : k < n
    · have kc := (hbl.cell (p := ⟨g, k, none⟩) hgl).trans (HN1.out.cell (closL_at (xss := xss) hlt))
      have hcl := closN_lt n xss k
      have hcle := clos_len HG.out hlt
      have hkn : (k : Int) < (n : Int) := by omega
      have HRK := Lib.hid (show ((n : Int) - ((bl (closN n xss k) 12).length : Int)) = (rkN n xss k : Int) by unfold rkN; omega)
      have hwrap : IntKind.i64.wrap ((n : Int) - ((bl (closN n xss k) 12).length : Int)) = (n : Int) - ((bl (closN n xss k) 12).length : Int) := IntWalk.i64_in _ (by omega)
      have HI3 := Lib.hid (iRow3 n xss k)
      obtain ⟨b0, b1, bf⟩ := cells2 HBr
      obtain ⟨R, hR⟩ : ∃ R, R = closN n xss k := ⟨_, rfl⟩
      rw [← hR] at kc hcl hcle HRK hwrap
      clear hR hown
      go_wp2_with fail
      refine wp_region_held_drew (S := fun w' => w'.cell? ⟨w.heap.size, 0, none⟩ = some (.int .i64 (n : Int)) ∧ w'.cell? ⟨g, k, none⟩ = some (.int .i64 (R : Int))) (by kernel_rfl) ?_ (fun hHeld => ?_)
      · go_keep
      refine tk 0 20 rfl rfl ?_
      try simp only [Act.put, pu]
      refine tk 1 21 rfl rfl ?_
      try simp only [Act.put, pu]
      refine tk 2 22 rfl rfl ?_
      try simp only [Act.put, pu]
      refine tk 3 23 rfl rfl ?_
      try simp only [Act.put, pu]
      refine tk 4 24 rfl rfl ?_
      try simp only [Act.put, pu]
      refine tk 5 25 rfl rfl ?_
      try simp only [Act.put, pu]
      refine tk 6 26 rfl rfl ?_
      try simp only [Act.put, pu]
      refine wpAnyH_ready (rs := [7]) (by kernel_rfl) (by simp) ?_
      refine AllReadyH.cons rfl (fun K hK => ?_) AllReadyH.nil
      go_simp
      go_at_call 49
      refine (impl_labelsIn R wr.drew hcl).mono ?_
      rintro e w3 ⟨u, rfl, hl, hb3'⟩
      have hb3 : Below wr.heap.size wr w3 := (Below.refl _ _).drew.trans hb3'
      clear hb3'
      obtain ⟨Au, cu, rfl⟩ := own_sl hl
      replace b0 := (hb3.cell (p := ⟨w.heap.size, 0, none⟩) (by show w.heap.size < _; omega)).trans b0
      replace kc := (hb3.cell (p := ⟨g, k, none⟩) (by show g < _; omega)).trans kc
      have hz3 := hb3.size
      clear hl b1 bf
      refine hK.out _ _ ?_ (fun hHeld => ?_)
      · go_keep
      clear hK K
      try simp only [Act.put, pu]
      refine tk 8 28 rfl rfl ?_
      try simp only [Act.put, pu]
      refine tk 9 29 rfl rfl ?_
      try simp only [Act.put, pu]
      refine wpAnyH_ready (rs := [10]) (by kernel_rfl) (by simp) ?_
      refine AllReadyH.cons rfl (fun K hK => ?_) AllReadyH.nil
      go_simp
      rw [HRK.out]
      obtain ⟨w4, hw4⟩ : ∃ z, z = w3.alloc (.cells #[.int .i64 (rkN n xss k : Int), .int .i64 0, .int .i64 0] 3) := ⟨_, rfl⟩
      have hnew : w4.heap[w3.heap.size]? = some (.cells (iRow 3 (fR n xss [] gs.length)) 3 (0, 0)) := by rw [hw4, hgs, HI3.out]; exact heap_alloc_new _ _
      have hb34 : Below w3.heap.size w3 w4 := by rw [hw4]; exact bl_alloc (Below.refl _ _) _
      have hz4 : w3.heap.size < w4.heap.size := by rw [hw4]; simp
      rw [← hw4]
      clear hw4
      have HNW := Lib.hid hnew
      have hb4 := bl_trans hb3 hb34
      have HO4 := Lib.hid (own_keep4 HO.out.row hb4.size fun b _ hl => hb4.block b hl)
      rw [hgs] at HO4
      replace b0 := (hb34.cell (p := ⟨w.heap.size, 0, none⟩) (by show w.heap.size < _; omega)).trans b0
      replace kc := (hb34.cell (p := ⟨g, k, none⟩) (by show g < _; omega)).trans kc
      clear hnew
      refine hK.out _ _ ?_ (fun hHeld => ?_)
      · go_keep
      clear hK K
      try simp only [Act.put, pu]
      refine wpAnyH_ready (rs := [11]) (by kernel_rfl) (by simp) ?_
      refine AllReadyH.cons rfl (fun K hK => ?_) AllReadyH.nil
      go_simp
      have c0 := Lib.cell?_alloc_some (.cells #[.slice (some ⟨w3.heap.size, 0, none⟩) 3 3] 28) b0
      have c1 := Lib.cell?_alloc_some (.cells #[.slice (some ⟨w3.heap.size, 0, none⟩) 3 3] 28) kc
      refine hK.out _ _ ?_ (fun hHeld => ?_)
      · go_keep
      clear hK K
      try simp only [Act.put, pu]
      refine wpAnyH_ready (rs := [12]) (by kernel_rfl) (by simp) ?_
      refine AllReadyH.cons rfl (fun K hK => ?_) AllReadyH.nil
      rw [if_pos (by rfl)]
      refine oper_append1 w4 (.tmp 20) (.tmp 31) 24 rfl w1.heap.size 28 _ 24 Tryz.underlying24 sliceInfo rfl _ _ _ rfl _ rfl rfl HO4.out (by unfold maxLen; omega) (by omega) (by omega) ?_
      intro v6 w6 hown6 hbl6 hgr6 hlt6 hob6
      have HP := Lib.hid (HO.out.push (g := w3.heap.size) hb4 hz3 hz4 HNW.out (by rw [hgs]; exact hown6) hgr6 hsz)
      replace b0 := (hbl6.cell (p := ⟨w.heap.size, 0, none⟩) (by show w.heap.size < _; omega)).trans b0
      replace kc := (hbl6.cell (p := ⟨g, k, none⟩) (by show g < _; omega)).trans kc
      have hbl7 := (hbl.trans (hb4.mono hsz)).trans hbl6
      clear hown6 hgr6 hob6 c0 c1
      refine hK.out _ _ ?_ (fun hHeld => ?_)
      · go_keep
      clear hK K
      try simp only [Act.put, pu]
      refine tk 13 4 rfl rfl ?_
      try simp only [Act.put, pu]
      refine wpAnyH_done (by kernel_rfl) ?_ _
      go_wp2_with fail
      go_roundw
      case rel => exact ⟨k + 1, gs ++ [w3.heap.size], by omega, by go_num, by rw [List.length_append, hgs]; rfl, HP.out, hbl7⟩
      case measure => simp [intOf]; omega
    · obtain rfl : k = n := by omega
      obtain ⟨wa, hwa⟩ : ∃ z, z = wr := ⟨_, rfl⟩
      subst hwa
      obtain ⟨b0, b1, bf⟩ := cells2 HBr
      go_wp2_with fail
      refine (impl_walkComponents k v xss wa ((HH.out.below hb0r).more hb0r.size) HG.out hv).mono ?_
      rintro e w2 ⟨lv, pv, rfl, hlv, hpv, hb2⟩
      have hpr := own_intsR hpv (nats64 (M := 13) (fun x hx => by obtain ⟨r, _, rfl⟩ := List.mem_map.1 hx; have := perA_le k xss r; omega) (by omega))
      have HL := Lib.hid hlv
      have HPV := Lib.hid hpv
      obtain ⟨Al, cl, rfl⟩ := hlv.sl
      obtain ⟨Ap, cp, rfl, p1, p2, p3⟩ := hpr.open_
      rw [natsI_len, pers_len] at p1 p3 ⊢
      have P3 := Lib.hid p3
      have HOU := Lib.hid (HO.out.up hb2)
      have HGL := Lib.hid (fun g hg => HO.out.lt (g := g) hg)
      have HGE := Lib.hid HO.out.ge
      have hb02 := bl_trans hb0r hb2
      have hbl2 := hbl.trans (hb2.mono hsz)
      have hz2 := hb2.size
      have HB2 := bk HBr hb2 (by omega)
      obtain ⟨go, capo, rfl, go1, go2, go3, go4⟩ := own_some HOU.out.row (by omega)
      rw [hgs] at go1
      have hst : R2Rel k xss w1.heap.size _ gs w2 (.int .i64 0) w2 := ⟨0, Nat.zero_le _, rfl, HOU.out, Only.refl _ _, Below.refl _ _⟩
      have HST := Lib.hid hst
      clear p3 hlv hpv hpr hst hown b0 b1 bf
      go_wp2_with fail
      go_loopw [41] (fun i wr => R2Rel k xss w1.heap.size (.slice (some ⟨go, 0, none⟩) gs.length capo) gs w2 i wr) (fun i _ => (roots xss k).length - (intOf i).toNat)
      case atStart => exact HST.out
      case round =>
        clear HST
        obtain ⟨i, hi, rfl, hown, honly, hbl3⟩ := hrel
        have HO2 := Lib.hid hown
        have HON := Lib.hid honly
        have hb03 := hb02.trans (hbl3.mono (by omega))
        clear hown honly
        by_cases hli : i < (roots xss k).length
        · obtain ⟨r, hr⟩ : ∃ r, (roots xss k)[i]? = some r := ⟨_, List.getElem?_eq_getElem hli⟩
          obtain ⟨gl, cl', u, e1, hglb, hgl2, -, -, hcu, hR⟩ := HL.out.at_ hli
          obtain ⟨hIu, hub⟩ := hR r hr
          cases e1
          obtain ⟨Au, cu, rfl, u1, u2, u3⟩ := hIu.open_
          rw [natsI_len] at u1 u3 hcu
          have hroot : isRoot xss r := (mem_lsTo.1 (List.mem_of_getElem? hr)).2
          have hrc := root_head HG.out hroot
          have hrn := root_lt HG.out hroot
          have hcl0 : 0 < (compL xss r).length := (List.getElem?_eq_some_iff.1 hrc).1
          have hcl12 : (compL xss r).length ≤ 12 := lsP_len _
          obtain ⟨au, rfl, hubl, huc⟩ := u3 hcl0
          have hau := hub au.block rfl
          have kcu := HON.out.cell hcu (fun h => by have := HGL.out _ h; simp only at this; omega)
          have ku0 := HON.out.cell (huc 0 _ (natsI_at hrc)) (fun h => by rw [block_add] at h; have := HGL.out _ h; omega)
          rw [show au.add 0 = au from by unfold Addr.add; simp] at ku0
          have HUC := Lib.hid huc
          have HPR := Lib.hid (show (natsI (pers k xss k))[i]? = some (perA k xss r : Int) from natsI_at (by unfold pers; rw [List.getElem?_map, hr]; rfl))
          have HTK := Lib.hid (show (roots xss k).take (i + 1) = (roots xss k).take i ++ [r] by
            obtain ⟨hk', rfl⟩ := List.getElem?_eq_some_iff.1 hr
            exact List.take_succ_eq_append_getElem hk')
          have HROOT := Lib.hid hroot
          have HB3 := bk HB2 hbl3 (by omega)
          have hwsz := hbl3.size
          clear hIu hub hR hr u3 hroot hrc huc hcu
          obtain ⟨b0, b1, bf⟩ := cells2 HB3
          go_wp2_with fail
          refine wp_region_held_drew (S := fun w' => w'.cell? ⟨w.heap.size, 0, none⟩ = some (.int .i64 (k : Int)) ∧ w'.cell? ⟨w.heap.size, 1, none⟩ = some v ∧ w'.cell? au = some (.int .i64 (r : Int))) (by kernel_rfl) ?_ (fun hHeld => ?_)
          · go_keep
          refine tk 0 46 rfl rfl ?_
          try simp only [Act.put, pu]
          refine tk 1 47 rfl rfl ?_
          try simp only [Act.put, pu]
          refine tk 2 48 rfl rfl ?_
          try simp only [Act.put, pu]
          refine tk 3 49 rfl rfl ?_
          try simp only [Act.put, pu]
          refine tr 4 rfl (by kernel_rfl) (fun K hK => ?_)
          go_simp
          go_at_call 53
          refine (impl_distancesIn k v xss r wr.drew ((HH.out.below hb03.drew).more hb03.drew.size) HG.out hrn hv).mono ?_
          rintro e w3 ⟨g3, rfl, hg3, hnum3, hb3'⟩
          have hb3 : Below wr.heap.size wr w3 := (Below.refl _ _).drew.trans hb3'
          clear hb3'
          have hg3' : wr.heap.size ≤ g3 := hg3
          have HN3 := Lib.hid hnum3
          have HB4 := bk HB3 hb3 (by omega)
          replace ku0 := (hb3.cell (by omega)).trans ku0
          have HO3 := Lib.hid (HO2.out.up hb3)
          have HON3 := Lib.hid (HON.out.tr (Only.below hb3))
          have hbl4 := hbl3.trans (hb3.mono (by omega))
          have hz3 := hb3.size
          clear b0 b1 bf hnum3 kcu
          obtain ⟨b0, b1, bf⟩ := cells2 HB4
          refine hK.out _ _ ?_ (fun hHeld => ?_)
          · go_keep
          clear hK K
          try simp only [Act.put, pu]
          refine tk 5 10 rfl rfl ?_
          try simp only [Act.put, pu]
          refine wpAnyH_done (by kernel_rfl) ?_ _
          clear hHeld
          have HCM := Lib.hid (fun x => mem_comp (b := x) (a := r) HG.out)
          have HDS := Lib.hid (fun x => dF_some (b := x) (a := r) HG.out)
          have HRE := Lib.hid (fun x => rootN_eq (a := x) HG.out HROOT.out)
          have hpp := perA_pos HG.out HROOT.out.1
          have hpl := perA_le k xss r
          have hst : R3Rel k xss w1.heap.size (.slice (some ⟨go, 0, none⟩) gs.length capo) gs (catL xss ((roots xss k).take i)) (compL xss r) w3 (.int .i64 0) w3 := ⟨0, Nat.zero_le _, rfl, by rw [List.take_zero, List.append_nil]; exact HO3.out, Only.refl _ _, Below.refl _ _⟩
          have HST := Lib.hid hst
          clear hst b0 b1 bf ku0
          go_wp2_with fail
          go_loopw [53] (fun i' wr => R3Rel k xss w1.heap.size (.slice (some ⟨go, 0, none⟩) gs.length capo) gs (catL xss ((roots xss k).take i)) (compL xss r) w3 i' wr) (fun i' _ => (compL xss r).length - (intOf i').toNat)
          case atStart => exact HST.out
          case round =>
            clear HST
            obtain ⟨j, hj, rfl, hown, honly, hbl5⟩ := hrel
            have HO4 := Lib.hid hown
            have HON4 := Lib.hid honly
            clear hown honly
            by_cases hlj : j < (compL xss r).length
            · obtain ⟨x, hx⟩ : ∃ x, (compL xss r)[j]? = some x := ⟨_, List.getElem?_eq_getElem hlj⟩
              have hxm := (HCM.out x).1 (List.mem_of_getElem? hx)
              have hxn := comp_lt HG.out (List.mem_of_getElem? hx)
              obtain ⟨gx, hgx⟩ : ∃ gx, gs[x]? = some gx := ⟨gs[x]'(by omega), List.getElem?_eq_getElem (by omega)⟩
              have hgxl := HGL.out gx (List.mem_of_getElem? hgx)
              have HGX := Lib.hid hgx
              have kcx := HON4.out.cell (HON3.out.cell (HUC.out j _ (natsI_at hx)) (fun h => by rw [block_add] at h; have := HGL.out _ h; omega)) (fun h => by rw [block_add] at h; have := HGL.out _ h; omega)
              have krow := HO4.out.row.cells (g := go) rfl x _ (by rw [List.getElem?_map, hgx]; rfl)
              rw [addr0] at krow
              unfold rowV at krow
              obtain ⟨ap, rfl, hbp, hcp⟩ := P3.out (by omega)
              have hapg := (HPV.out.lt ap.block rfl).1
              have kper := HON4.out.cell (HON3.out.cell (hcp i _ HPR.out) (fun h => by rw [block_add] at h; have := HGL.out _ h; omega)) (fun h => by rw [block_add] at h; have := HGL.out _ h; omega)
              have kds := HON4.out.cell (HN3.out.cell (dL_at (xss := xss) (a := r) (k := k + 1) hxn)) (fun h => by have := HGL.out _ h; simp only at this; omega)
              rw [HDS.out x hxm] at kds
              have hblk := HO4.out.blk x gx hgx
              have k1 : wr.cell? ⟨gx, 1, none⟩ = some (.int .i64 (fR k xss (catL xss ((roots xss k).take i) ++ (compL xss r).take j) x 1)) := by rw [cell_of_row wr gx 1 _ _ (0, 0) hblk]; exact iRow_at (by omega)
              have f1 : ∀ o, wr.frozen? ⟨gx, o, none⟩ = false := fun o => frozen_of_row _ _ o _ _ hblk
              have HFN := Lib.hid (fR_next (n := k) (D := catL xss ((roots xss k).take i) ++ (compL xss r).take j) (x := x) (p := perA k xss r) (q := dF k xss r x % perA k xss r) (by rw [HRE.out x hxm]) (by rw [HRE.out x hxm]))
              have HTJ := Lib.hid (show (compL xss r).take (j + 1) = (compL xss r).take j ++ [x] by
                obtain ⟨hk', rfl⟩ := List.getElem?_eq_some_iff.1 hx
                exact List.take_succ_eq_append_getElem hk')
              have hdl := dF_le k xss r x
              clear hx hgx hcp hblk hxm
              generalize dF k xss r x = dx at *
              generalize perA k xss r = pr at *
              have hp0 : ((pr : Int) == 0) = false := by rw [beq_eq_false_iff_ne]; omega
              have hp1 : ¬ pr = 0 := by omega
              have hxi : (x : Int) < (gs.length : Int) := by omega
              have hxk : (x : Int) < (k : Int) := by omega
              have hii : (i : Int) < ((roots xss k).length : Int) := by omega
              go_wp2_with fail
              refine wp_region_held_drew (S := fun w' => w'.cell? ⟨go, x, none⟩ = some (.slice (some ⟨gx, 0, none⟩) 3 3) ∧ w'.cell? (ap.add i) = some (.int .i64 (pr : Int)) ∧ w'.cell? ⟨g3, x, none⟩ = some (.int .i64 (dx : Int))) (by kernel_rfl) ?_ (fun hHeld => ?_)
              · go_keep
              refine tk 0 57 rfl rfl ?_
              try simp only [Act.put, pu]
              refine tk 1 58 rfl rfl ?_
              try simp only [Act.put, pu]
              refine tk 2 59 rfl rfl ?_
              try simp only [Act.put, pu]
              refine tk 3 60 rfl rfl ?_
              try simp only [Act.put, pu]
              refine tk 4 61 rfl rfl ?_
              try simp only [Act.put, pu]
              refine tk 5 62 rfl rfl ?_
              try simp only [Act.put, pu]
              refine tk 6 63 rfl rfl ?_
              try simp only [Act.put, pu]
              refine tk 7 64 rfl rfl ?_
              try simp only [Act.put, pu]
              refine tk 8 65 rfl rfl ?_
              try simp only [Act.put, pu]
              refine tk 9 66 rfl rfl ?_
              try simp only [Act.put, pu]
              refine tk 10 67 rfl rfl ?_
              try simp only [Act.put, pu]
              refine tk 11 68 rfl rfl ?_
              try simp only [Act.put, pu]
              refine tk 12 69 rfl rfl ?_
              try simp only [Act.put, pu]
              refine tk 13 70 rfl rfl ?_
              try simp only [Act.put, pu]
              refine tk 14 71 rfl rfl ?_
              try simp only [Act.put, pu]
              refine tk 15 72 rfl rfl ?_
              try simp only [Act.put, pu]
              refine tk 16 73 rfl rfl ?_
              try simp only [Act.put, pu]
              refine tk 17 74 rfl rfl ?_
              try simp only [Act.put, pu]
              refine tk 18 75 rfl rfl ?_
              try simp only [Act.put, pu]
              refine tk 19 76 rfl rfl ?_
              try simp only [Act.put, pu]
              refine tk 20 77 rfl rfl ?_
              try simp only [Act.put, pu]
              refine tk 21 78 rfl rfl ?_
              try simp only [Act.put, pu]
              refine wpAnyH_ready (rs := [22]) (by kernel_rfl) (by simp) ?_
              refine AllReadyH.cons rfl (fun K hK => ?_) AllReadyH.nil
              go_simp
              obtain ⟨wA, hwA⟩ : ∃ z, z = (wr.setCell ⟨gx, 1, none⟩ (.int .i64 (pr : Int))).drew := ⟨_, rfl⟩
              rw [← hwA]
              have HNA := Lib.hid (show Only gs wr wA by rw [hwA]; exact ((Only.refl gs wr).set (List.mem_of_getElem? HGX.out) _).drew)
              have HBA := Lib.hid (show Below w1.heap.size wr wA by rw [hwA]; exact ((Below.refl _ _).setCell (p := ⟨gx, 1, none⟩) (HGE.out gx (List.mem_of_getElem? HGX.out)) _).drew)
              have HOA := Lib.hid (show OwnMI wA w1.heap.size (.slice (some ⟨go, 0, none⟩) gs.length capo) 3 gs (fun a c => if a = x ∧ c = 1 then (pr : Int) else fR k xss (catL xss ((roots xss k).take i) ++ (compL xss r).take j) a c) by
                rw [hwA]
                have h := HO4.out.store HGX.out (y := 1) (by omega) (pr : Int)
                exact ⟨h.row, h.nodup, h.ge, h.blk⟩)
              have hgoN : go ∉ gs := fun h => HO4.out.far h rfl
              have k2 : wA.cell? ⟨gx, 2, none⟩ = some (.int .i64 (if x = x ∧ 2 = 1 then (pr : Int) else fR k xss (catL xss ((roots xss k).take i) ++ (compL xss r).take j) x 2)) := by rw [cell_of_row wA gx 2 _ _ (0, 0) (HOA.out.blk x gx HGX.out)]; exact iRow_at (by omega)
              have f2 : ∀ o, wA.frozen? ⟨gx, o, none⟩ = false := fun o => frozen_of_row _ _ o _ _ (HOA.out.blk x gx HGX.out)
              replace krow := HNA.out.cell krow hgoN
              replace kper := HNA.out.cell kper (fun h => by rw [block_add] at h; have := HGL.out _ h; omega)
              replace kds := HNA.out.cell kds (fun h => by have := HGL.out _ h; simp only at this; omega)
              clear hwA k1 f1 kcx
              generalize (if x = x ∧ 2 = 1 then (pr : Int) else fR k xss (catL xss ((roots xss k).take i) ++ (compL xss r).take j) x 2) = old2 at k2
              refine hK.out _ _ ?_ (fun hHeld => ?_)
              · go_keep
              clear hK K
              try simp only [Act.put, pu]
              refine tk 23 79 rfl rfl ?_
              try simp only [Act.put, pu]
              refine wpAnyH_ready (rs := [24]) (by kernel_rfl) (by simp) ?_
              refine AllReadyH.cons rfl (fun K hK => ?_) AllReadyH.nil
              go_simp
              rw [show (dx : Int).tmod (pr : Int) = ((dx % pr : Nat) : Int) by rw [Int.tmod_eq_emod_of_nonneg (by omega)]; push_cast; rfl]
              obtain ⟨wB, hwB⟩ : ∃ z, z = wA.setCell ⟨gx, 2, none⟩ (.int .i64 ((dx % pr : Nat) : Int)) := ⟨_, rfl⟩
              rw [← hwB]
              have HNB := Lib.hid (show Only gs wA wB by rw [hwB]; exact (Only.refl gs wA).set (List.mem_of_getElem? HGX.out) _)
              have HBB := Lib.hid (show Below w1.heap.size wA wB by rw [hwB]; exact (Below.refl _ _).setCell (p := ⟨gx, 2, none⟩) (HGE.out gx (List.mem_of_getElem? HGX.out)) _)
              have HOB := Lib.hid (show OwnMI wB w1.heap.size (.slice (some ⟨go, 0, none⟩) gs.length capo) 3 gs (fR k xss (catL xss ((roots xss k).take i) ++ (compL xss r).take j ++ [x])) by
                rw [hwB]
                exact (HOA.out.store HGX.out (y := 2) (by omega) ((dx % pr : Nat) : Int)).congr fun a _ b hb => HFN.out a b hb)
              replace krow := HNB.out.cell krow hgoN
              replace kper := HNB.out.cell kper (fun h => by rw [block_add] at h; have := HGL.out _ h; omega)
              replace kds := HNB.out.cell kds (fun h => by have := HGL.out _ h; simp only at this; omega)
              clear hwB k2 f2
              refine hK.out _ _ ?_ (fun hHeld => ?_)
              · go_keep
              clear hK K
              try simp only [Act.put, pu]
              refine wpAnyH_done (by kernel_rfl) ?_ _
              go_wp2_with fail
              go_roundw
              case rel => exact ⟨j + 1, by omega, by go_num, by rw [HTJ.out, ← List.append_assoc]; exact HOB.out, HON4.out.tr (HNA.out.tr HNB.out), hbl5.trans (HBA.out.trans HBB.out)⟩
              case measure => simp [intOf]; omega
            · have e1 : (compL xss r).take j = compL xss r := List.take_of_length_le (by omega)
              rw [e1] at HO4
              clear e1
              go_wp2_with fail
              go_roundw
              case rel => exact ⟨i + 1, by omega, by go_num, by rw [HTK.out, cat_snoc]; exact HO4.out, HON3.out.tr HON4.out, hbl4.trans hbl5⟩
              case measure => simp [intOf]; omega
        · have e1 : (roots xss k).take i = roots xss k := List.take_of_length_le (by omega)
          rw [e1] at HO2
          obtain ⟨bs, hr1, hr2, hr3⟩ := HO2.out.rows (by omega) fun a _ b _ => by have := fR_bd k xss (catL xss (roots xss k)) a b; unfold I64; omega
          rw [hgs] at hr1
          have HR1 := Lib.hid hr1
          have HR2 := Lib.hid hr2
          have HR3 := Lib.hid hr3
          clear hr1 hr2 hr3 e1
          go_wp2_with fail
          go_ret
          refine ⟨_, bs, rfl, ?_, HR2.out, fun b hb => ⟨by have := (HR3.out b hb).1; have := hb01.size; omega, (HR3.out b hb).2⟩, hb03⟩
          exact HR1.out
end Go.Proofs.YtjhljipehnmbnaaGreat
