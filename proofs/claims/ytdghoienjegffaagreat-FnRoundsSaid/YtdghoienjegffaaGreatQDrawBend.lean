/-
  The draw neBend: a network that is seldom changed, its own. Condition: at most 20 nodes with at most 6 ports, as many inputs as nodes.
-/
import Derived.Test.YtdghoienjegffaaGreatQDrawFit
import Derived.Deep.Cut
namespace Go.Proofs.YtdghoienjegffaaGreat
open Go.RowKit
set_option linter.all false
noncomputable def slLen (w : World) (a : Addr) : Nat := match w.cell? a with | some (.slice _ n _) => n | _ => 0
theorem slLen_eq {w : World} {a : Addr} {A : Option Addr} {n c : Nat} (h : w.cell? a = some (.slice A n c)) : slLen w a = n := by unfold slLen; rw [h]
def BpRel (w : World) (P PB PR base : Nat) (cv : Value) (m N v ge ce : Nat) (wr : World) : Prop :=
  ∃ (n : Net) (val : NKey → Value), NAt w P PB PR base cv (m + 2 * degA n v) (fun n' => FitN n' 200 10) wr ∧ NetB wr base val n PB ∧ FitN n 20 8 ∧ n.es.length = N ∧ val .e = .slice (some ⟨ge, 0, none⟩) n.es.length ce
def BnRel (w : World) (P PB PR base : Nat) (cv : Value) (m N : Nat) (wr : World) : Prop :=
  ∃ (n : Net) (val : NKey → Value), NAt w P PB PR base cv (m + 2 * n.es.length) (fun n' => FitN n' 200 10) wr ∧ NetB wr base val n PB ∧ FitN n (N + 2 * n.es.length) 6 ∧ N ≤ n.es.length ∧ n.es.length ≤ 41
set_option maxRecDepth 100000 in
set_option maxHeartbeats 4000000 in
theorem cur_neBend (P m N : Nat) (cv ve vi vn : Value) (n : Net) (w : World) (h : CurR w P cv m) (hm : m ≤ 576460752303420000) (hn : NetR w w.heap.size ve vi vn n) (hf : FitN n N 6) (hN1 : 1 ≤ N) (hN : N ≤ 20) (hE : n.es.length = N) (hI : n.ins.length = N) :
    Calls Tryz.prog 156 #[.pointer (some ⟨P, 0, none⟩), .agg #[ve, vi, vn]] w (DrawnN w P cv (m + 1000) w.heap.size fun n' => FitN n' 200 10) := by
  have H := Lib.hid h
  have HN := Lib.hid hn
  have HF := Lib.hid hf
  have HEI := Lib.hid (And.intro hE hI)
  have hP := h.lt
  obtain ⟨⟨A0, m0, c0, rfl⟩, ⟨A1, m1, c1, rfl⟩, A2, m2, c2, rfl⟩ := hn.slices
  clear h hn hf hE hI
  obtain ⟨w0, hw0, hb0, HD, hz0, HS0⟩ := box3 w (.slice A0 m0 c0) (.slice A1 m1 c1) (.slice A2 m2 c2) 27
  obtain ⟨w1, hw1, hb1, HQ, hz1, HS1⟩ := box3 w0 (.slice none 0 0) (.slice none 0 0) (.slice none 0 0) 27
  have HW1 := Lib.hid (show w1 = (w.alloc (.cells #[.slice A0 m0 c0, .slice A1 m1 c1, .slice A2 m2 c2] 27)).alloc (.cells #[.slice none 0 0, .slice none 0 0, .slice none 0 0] 27) by rw [hw1, hw0])
  obtain ⟨PB, hPB⟩ : ∃ z, z = w.heap.size := ⟨_, rfl⟩
  obtain ⟨PR, hPR⟩ : ∃ z, z = w0.heap.size := ⟨_, rfl⟩
  have HPR := Lib.hid (show w.heap.size + 1 = PR by rw [hPR, HS0.out])
  have HPB := Lib.hid hPB
  have hPl : w.heap.size ≤ PB ∧ PB ≤ w.heap.size ∧ PB < PR := by rw [← HPR.out]; omega
  have HPR' := Lib.hid (show PB + 1 = PR by rw [hPB]; exact HPR.out)
  rw [← hPR] at HQ hz1
  rw [← hPB] at HD hz0
  have HD1 := bk HD hb1
  have hB := bl_trans hb0 hb1
  obtain ⟨base, hbase⟩ : ∃ z, z = w.heap.size := ⟨_, rfl⟩
  have hbl : base ≤ w.heap.size ∧ w.heap.size ≤ base := by omega
  obtain ⟨q0, q1, q2, qf⟩ := cells3 HD1
  have eq0 := q0
  have eq1 := q1
  have eq2 := q2
  rw [HW1.out, HPB.out] at eq0 eq1 eq2
  have HBS := Lib.hid hbase
  clear hw0 hw1 hPB hPR hb0 hb1 q0 q1 q2 hbase
  go_enter Tryz.func156, Tryz.ntmps156
  go_wp2_with fail
  rw [← HW1.out, ← HPB.out, HPR'.out]
  clear eq0 eq1 eq2
  refine (spec_neOwn _ _ _ n w1 (HN.out.up hB) (HF.out.small (by omega) (by omega))).mono ?_
  rintro e w2 ⟨val, rfl, hk2, hb2⟩
  obtain ⟨ge, ce, x0⟩ : ∃ g c, val .e = .slice (some ⟨g, 0, none⟩) N c := by
    obtain ⟨g, c, e, -⟩ := hk2.outer (by rw [HEI.out.1]; omega)
    exact ⟨g, c, by rw [e, HEI.out.1]⟩
  obtain ⟨C1, k1, x1⟩ := own_slN (hk2.own .i trivial)
  obtain ⟨gn, cn, x2⟩ : ∃ g c, val .n = .slice (some ⟨g, 0, none⟩) N c := by
    obtain ⟨g, c, e, -⟩ := hk2.insSlice (by rw [HEI.out.2]; omega)
    exact ⟨g, c, by rw [e, HEI.out.2]⟩
  have HV := Lib.hid (And.intro x0 (And.intro x1 x2))
  rw [x0, x1, x2]
  clear x0 x1 x2
  generalize (rowN n val .i).len = n1 at HV ⊢
  have HD2 := bk HD1 hb2
  have HQ2 := bk HQ hb2
  have HB2 := Lib.hid (bl_trans hB hb2)
  have hz2 := hb2.size
  obtain ⟨wa, hwa, HA, hga⟩ := set3 HD2 (.slice (some ⟨ge, 0, none⟩) N ce) (.slice C1 n1 k1) (.slice (some ⟨gn, 0, none⟩) N cn)
  have HWA := Lib.hid hwa
  have HNA := Lib.hid (show NetB wa base val n PB from NetB.of (OwnN.mono (NetK.past hk2 HD2.out no_tyN_net hga) (by have := hB.size; omega)) (by rw [HV.out.1, HV.out.2.1, HV.out.2.2]; exact HA.out))
  have H2 := Lib.hid (show NAt w P PB PR base cv m (fun n' => n' = n) wa from
    ⟨(H.out.below HB2.out hP).keep (Nat.le_refl _) fun b hb => hga.block b (by omega) (fun e => by have e' : b = PB := Option.some.inj e; omega), ⟨_, _, rfl, HNA.out⟩, (hga.block PR (heap_ltN HQ2.out) (fun e => by have e' : PR = PB := Option.some.inj e; omega)).trans HQ2.out, (Bp.below (HB2.out.mono hbl.1)).trans (Bp.other hga (by have := HB2.out.size; omega) (by omega)), by omega, by omega, by omega, by omega⟩)
  have hza := hga.size
  obtain ⟨q0, q1, q2, qf⟩ := cells3 HD2
  clear hk2 hb2 hwa hga
  go_wp2_with fail
  rw [← HWA.out]
  clear q0 q1 q2 qf
  obtain ⟨q0, q1, q2, qf⟩ := cells3 HA
  go_wp2_with fail
  refine (cur_pick P m cv _ wa H2.out.cur (by omega)).mono ?_
  rintro e w3 ⟨v, rfl, hv, hc3, hg3⟩
  have hvN : v < N := by omega
  have HN3 := Lib.hid (HNA.out.drawn hg3 (by omega) (by omega))
  have H3 := Lib.hid (H2.out.draw hc3 hg3 (by have := H2.out.bp.size; omega))
  have hz3 := hg3.size
  clear hv hc3 hg3 q0 q1 q2 qf
  go_wp2_with fail
  refine (cur_pick P (m + 2) cv _ w3 H3.out.cur (by omega)).mono ?_
  rintro e w4 ⟨x, rfl, hx, hc4, hg4⟩
  have hx40 : x < 40 := by omega
  have HNB := Lib.hid (HN3.out.drawn hg4 (by omega) (by omega))
  have H4 := Lib.hid (H3.out.draw hc4 hg4 (by have := H3.out.bp.size; omega))
  have hbs : base ≤ w4.heap.size := by have := H4.out.bp.size; omega
  have hz4 := hg4.size
  have hPB4 : PB < w4.heap.size := HNB.out.lt
  have hPR4 : PR < w4.heap.size := heap_ltN H4.out.res
  have HBX := Lib.hid (show w4.heap[PB]? = some (.cells #[.slice (some ⟨ge, 0, none⟩) N ce, .slice C1 n1 k1, .slice (some ⟨gn, 0, none⟩) N cn] 27 (0, 0)) by rw [HNB.out.box, HV.out.1, HV.out.2.1, HV.out.2.2])
  clear hx hc4 hg4
  obtain ⟨q0, q1, q2, qf⟩ := cells3 HBX
  have hvi : (v : Int) < (N : Int) := by omega
  obtain rfl | rfl | rfl | rfl | rfl | rfl | rfl | rfl | rfl | hx9 : x = 0 ∨ x = 1 ∨ x = 2 ∨ x = 3 ∨ x = 4 ∨ x = 5 ∨ x = 6 ∨ x = 7 ∨ x = 8 ∨ 9 ≤ x := by omega
  · go_wp2_with fail
    refine till_region (S := fun w' => w'.cell? ⟨PB, 2, none⟩ = some (.slice (some ⟨gn, 0, none⟩) N cn)) (st := 7) (by kernel_rfl) q2 (fun hHeld => ?_)
    refine utf 0 17 ?_
    refine utk 1 18 ?_
    refine utf 2 19 ?_
    refine utf 3 20 ?_
    refine ur 4 rfl (by kernel_rfl) (fun K hK => ?_)
    go_simp
    obtain ⟨w5, hw5⟩ : ∃ z, z = (w4.alloc (.cells #[.int .i64 (-1), .int .i64 9, .int .i64 10] 3)).drew := ⟨_, rfl⟩
    have hb5 : Below w4.heap.size w4 w5 := by rw [hw5]; exact (bl_alloc (Below.refl _ _) _).drew
    have hl5 : w5.heap[w4.heap.size]? = some (.cells (([-1, 9, 10] : List Int).map intV).toArray 3 (0, 0)) := by rw [hw5]; exact heap_alloc_new _ _
    rw [← hw5]
    have H5 := Lib.hid (H4.out.up hb5 hbs)
    have HN5 := Lib.hid (HNB.out.up hb5)
    have HL5 := Lib.hid hl5
    have q2 := (hb5.cell (p := ⟨PB, 2, none⟩) hPB4).trans q2
    have hz5 := hb5.size
    clear hw5 hb5 hl5
    refine hK.out (fun _ => q2) ?_
    clear hK K
    try simp only [Act.put, pu]
    refine ur 5 rfl (by kernel_rfl) (fun K hK => ?_)
    go_simp
    go_at_call 41
    refine (cur_among P _ cv w4.heap.size [-1, 9, 10] w5 H5.out.cur (by omega) HL5.out (by omega) (by simp) (by simp)).mono ?_
    rintro e w6 ⟨y, rfl, hy, hc6, hg6⟩
    have hy64 : -1 ≤ y ∧ y ≤ 20020000 := by simp at hy; omega
    have H6 := Lib.hid (H5.out.draw hc6 hg6 (by omega))
    have HN6 := Lib.hid (HN5.out.drawn hg6 (by omega) (by omega))
    have q2 := (World.cell?_of_block (a := ⟨PB, 2, none⟩) (hg6.block PB (by have h5 := hPB4; omega) (fun e => (by omega : PB ≠ P) (Option.some.inj e)))).trans q2
    clear hy hc6 hg6
    obtain ⟨y0, hy0⟩ : ∃ y, n.ins[v]? = some y := ⟨_, List.getElem?_eq_getElem (by rw [HEI.out.2]; exact hvN)⟩
    have hon : w6.ownsRow base 3 1 (val .n) n.ins.length (n.ins.map intV) := HN6.out.k.own .n trivial
    rw [HV.out.2.2, HEI.out.2] at hon
    have ci := own_cellI hon (by omega) hy0
    have fi := own_thaw hon v
    clear hon hy0
    refine hK.out (fun _ => q2) ?_
    clear hK K
    try simp only [Act.put, pu]
    refine utf 6 23 ?_
    refine ur 7 rfl (by kernel_rfl) (fun K hK => ?_)
    go_simp
    obtain ⟨w7, hw7⟩ : ∃ z, z = w6.setCell ⟨gn, v, none⟩ (.int .i64 y) := ⟨_, rfl⟩
    rw [← hw7]
    have H7 := Lib.hid (show NAt w P PB PR base cv _ (fun n' => FitN n' 200 10) w7 by
      have h1 := HN6.out.apart H6.out.res .n trivial gn (by rw [HV.out.2.2]; rfl)
      rw [hw7]
      exact H6.out.step ⟨_, _, (HF.out.setIn v ⟨by omega, by omega⟩).more (by omega) (by omega), HN6.out.setIn (by rw [HV.out.2.2, HEI.out.2]) v y⟩ (Kp.cell h1.1 h1.2 _ _))
    clear hw7 q2 ci fi
    refine hK.out (fun h' => till_no h' (by kernel_rfl)) ?_
    clear hK K
    try simp only [Act.put, pu]
    refine wpTill_done (by kernel_rfl) ?_ _
    obtain ⟨nz, valz, hQz, hnz⟩ := H7.out.net
    obtain ⟨Z0, l0, ez0⟩ := own_slN (hnz.k.own .e trivial)
    obtain ⟨Z1, l1, ez1⟩ := own_slN (hnz.k.own .i trivial)
    obtain ⟨Z2, l2, ez2⟩ := own_slN (hnz.k.own .n trivial)
    have hbz := hnz.box
    rw [ez0, ez1, ez2] at hbz
    have HEZ := Lib.hid (And.intro ez0 (And.intro ez1 ez2))
    have HNZ := Lib.hid hnz.k
    have HQZ := Lib.hid hQz
    clear ez0 ez1 ez2 hnz hQz
    generalize (rowN nz valz .e).len = s0 at HEZ hbz
    generalize (rowN nz valz .i).len = s1 at HEZ hbz
    generalize (rowN nz valz .n).len = s2 at HEZ hbz
    have HRZ := Lib.hid H7.out.res
    obtain ⟨b0, b1, b2, bf⟩ := cells3 (Lib.hid hbz)
    obtain ⟨p0, p1, p2, pf⟩ := cells3 HRZ
    obtain ⟨we, hwe, HE, hge⟩ := set3 HRZ (.slice Z0 s0 l0) (.slice Z1 s1 l1) (.slice Z2 s2 l2)
    have HWE := Lib.hid hwe
    clear hwe hbz
    go_wp2_with fail
    rw [← HWE.out]
    obtain ⟨z0, z1, z2, -⟩ := cells3 HE
    have hRb : base ≤ PR := by omega
    have hKz := NetK.past HNZ.out HRZ.out no_tyN_net hge
    have hCz : CurR we P cv _ := H7.out.cur.keep (show _ ≤ m + 1000 from by omega) fun b hb' => hge.block b (by have := H7.out.cur.lt; omega) (fun e => by have e' : b = PR := Option.some.inj e; have := H7.out.hP; omega)
    have hBz := H7.out.bp.trans (Bp.other hge (by have := H7.out.bp.size; omega) hRb)
    exact bodyPost_ret (v := .agg #[.slice Z0 s0 l0, .slice Z1 s1 l1, .slice Z2 s2 l2]) (by simp [results, Tryz.results156, go_sem, z0, z1, z2]) rfl ⟨nz, valz, by rw [HEZ.out.1, HEZ.out.2.1, HEZ.out.2.2], HQZ.out, OwnN.mono hKz hbl.2, hCz, hBz.mono hbl.2⟩
  · have hoi : w4.ownsRow base 3 1 (val .n) n.ins.length (n.ins.map intV) := HNB.out.k.own .n trivial
    rw [HV.out.2.2, HEI.out.2] at hoi
    have HOI := Lib.hid hoi
    clear hoi
    go_upto_region 29 with (at_builtin; refine wpList_append1 w4 rfl (.tmp 27) (.tmp 28) 25 rfl base 3 _ 8 Tryz.underlying25 intInfo rfl _ _ _ rfl _ rfl rfl HOI.out (by unfold maxLen; omega) (by omega) hbs ?_; intro v8 w8 hown8 hbl8 hgr8 hlt8 hob8; obtain ⟨A8, c8, rfl⟩ := own_slN hown8; have hg8 : w4.grownBy w8 (val .n).ownBlock := (by rw [HV.out.2.2]; exact hgr8); have hkB := (hg8.block PB HNB.out.lt (fun e => HNB.out.ne .n trivial e.symm)); have q2' := (World.cell?_of_block (a := ⟨PB, 2, none⟩) hkB).trans q2; have f2' := (World.frozen?_of_block (a := ⟨PB, 2, none⟩) hkB).trans (qf 2); clear q0 q1 q2 qf hkB)
    obtain ⟨w9, hw9⟩ : ∃ z, z = w8.setCell ⟨PB, 2, none⟩ (.slice A8 (N + 1) c8) := ⟨_, rfl⟩
    rw [← hw9]
    have H7 := Lib.hid (show NAt w P PB PR base cv _ (fun n' => FitN n' 200 10) w9 by
      have h1 := HNB.out.growIns (v7 := .slice A8 (N + 1) c8) (xs := n.ins ++ [0]) hg8 (by rw [List.length_append, HEI.out.2, List.map_append]; exact hown8) (by rw [HV.out.2.2]; exact hob8.imp id fun ⟨g, h1, h2, _⟩ => ⟨g, h1, h2⟩)
      rw [hw9]
      exact H4.out.step ⟨_, _, (HF.out.addIn (K' := 100) (by omega) ⟨by omega, by omega⟩).more (by omega) (by omega), h1⟩ ((Kp.grown hg8 (HNB.out.apart H4.out.res .n trivial) hbs hPR4).trans (Kp.cell (by omega) (by omega) _ _)))
    clear hw9 hown8 hbl8 hgr8 hob8 hg8 q2' f2'
    obtain ⟨nz, valz, hQz, hnz⟩ := H7.out.net
    obtain ⟨Z0, l0, ez0⟩ := own_slN (hnz.k.own .e trivial)
    obtain ⟨Z1, l1, ez1⟩ := own_slN (hnz.k.own .i trivial)
    obtain ⟨Z2, l2, ez2⟩ := own_slN (hnz.k.own .n trivial)
    have hbz := hnz.box
    rw [ez0, ez1, ez2] at hbz
    have HEZ := Lib.hid (And.intro ez0 (And.intro ez1 ez2))
    have HNZ := Lib.hid hnz.k
    have HQZ := Lib.hid hQz
    clear ez0 ez1 ez2 hnz hQz
    generalize (rowN nz valz .e).len = s0 at HEZ hbz
    generalize (rowN nz valz .i).len = s1 at HEZ hbz
    generalize (rowN nz valz .n).len = s2 at HEZ hbz
    have HRZ := Lib.hid H7.out.res
    obtain ⟨b0, b1, b2, bf⟩ := cells3 (Lib.hid hbz)
    obtain ⟨p0, p1, p2, pf⟩ := cells3 HRZ
    obtain ⟨we, hwe, HE, hge⟩ := set3 HRZ (.slice Z0 s0 l0) (.slice Z1 s1 l1) (.slice Z2 s2 l2)
    have HWE := Lib.hid hwe
    clear hwe hbz
    go_wp2_with fail
    rw [← HWE.out]
    obtain ⟨z0, z1, z2, -⟩ := cells3 HE
    have hRb : base ≤ PR := by omega
    have hKz := NetK.past HNZ.out HRZ.out no_tyN_net hge
    have hCz : CurR we P cv _ := H7.out.cur.keep (show _ ≤ m + 1000 from by omega) fun b hb' => hge.block b (by have := H7.out.cur.lt; omega) (fun e => by have e' : b = PR := Option.some.inj e; have := H7.out.hP; omega)
    have hBz := H7.out.bp.trans (Bp.other hge (by have := H7.out.bp.size; omega) hRb)
    exact bodyPost_ret (v := .agg #[.slice Z0 s0 l0, .slice Z1 s1 l1, .slice Z2 s2 l2]) (by simp [results, Tryz.results156, go_sem, z0, z1, z2]) rfl ⟨nz, valz, by rw [HEZ.out.1, HEZ.out.2.1, HEZ.out.2.2], HQZ.out, OwnN.mono hKz hbl.2, hCz, hBz.mono hbl.2⟩
  · skip
    obtain ⟨l, hl⟩ : ∃ l, n.es[v]? = some l := ⟨_, rowAt_lt (by rw [HEI.out.1]; exact hvN)⟩
    have hll : l.length ≤ 6 := by have h1 := HF.out.deg v; unfold degA at h1; rw [rowAt_eq hl] at h1; exact h1
    have hro := HNB.out.k.rowOwn hl
    obtain ⟨Av, cv', ev⟩ := own_slN hro
    have yk := HNB.out.k.outerCell (g := ge) (cap := ce) (k := v) (by rw [HV.out.1, HEI.out.1]) (by rw [HEI.out.1]; exact hvN)
    rw [ev] at yk
    obtain ⟨iv, hiv⟩ : ∃ z, z = l.length := ⟨_, rfl⟩
    rw [← hiv] at yk ev hll
    have HRO := Lib.hid hro
    have HL := Lib.hid hl
    have HEV := Lib.hid ev
    have HIV := Lib.hid hiv
    have hgl : ge < w4.heap.size ∧ base ≤ ge := by
      have h1 := (HNB.out.k.own .e trivial).lt ge (by rw [HV.out.1]; rfl)
      exact ⟨h1.2, h1.1⟩
    clear hl hro ev hiv
    by_cases h0 : iv = 0
    · subst h0
      have HZ := Lib.hid (H4.out.more (m' := m + 4) (Q' := fun n' => FitN n' 200 10) (by omega) fun n' h => by rw [h]; exact HF.out.more (by omega) (by omega))
      go_upto_region 29 with fail
      clear q0 q1 q2 qf yk
      obtain ⟨nz, valz, hQz, hnz⟩ := HZ.out.net
      obtain ⟨Z0, l0, ez0⟩ := own_slN (hnz.k.own .e trivial)
      obtain ⟨Z1, l1, ez1⟩ := own_slN (hnz.k.own .i trivial)
      obtain ⟨Z2, l2, ez2⟩ := own_slN (hnz.k.own .n trivial)
      have hbz := hnz.box
      rw [ez0, ez1, ez2] at hbz
      have HEZ := Lib.hid (And.intro ez0 (And.intro ez1 ez2))
      have HNZ := Lib.hid hnz.k
      have HQZ := Lib.hid hQz
      clear ez0 ez1 ez2 hnz hQz
      generalize (rowN nz valz .e).len = s0 at HEZ hbz
      generalize (rowN nz valz .i).len = s1 at HEZ hbz
      generalize (rowN nz valz .n).len = s2 at HEZ hbz
      have HRZ := Lib.hid HZ.out.res
      obtain ⟨b0, b1, b2, bf⟩ := cells3 (Lib.hid hbz)
      obtain ⟨p0, p1, p2, pf⟩ := cells3 HRZ
      obtain ⟨we, hwe, HE, hge⟩ := set3 HRZ (.slice Z0 s0 l0) (.slice Z1 s1 l1) (.slice Z2 s2 l2)
      have HWE := Lib.hid hwe
      clear hwe hbz
      go_wp2_with fail
      rw [← HWE.out]
      obtain ⟨z0, z1, z2, -⟩ := cells3 HE
      have hRb : base ≤ PR := by omega
      have hKz := NetK.past HNZ.out HRZ.out no_tyN_net hge
      have hCz : CurR we P cv _ := HZ.out.cur.keep (show _ ≤ m + 1000 from by omega) fun b hb' => hge.block b (by have := HZ.out.cur.lt; omega) (fun e => by have e' : b = PR := Option.some.inj e; have := HZ.out.hP; omega)
      have hBz := HZ.out.bp.trans (Bp.other hge (by have := HZ.out.bp.size; omega) hRb)
      exact bodyPost_ret (v := .agg #[.slice Z0 s0 l0, .slice Z1 s1 l1, .slice Z2 s2 l2]) (by simp [results, Tryz.results156, go_sem, z0, z1, z2]) rfl ⟨nz, valz, by rw [HEZ.out.1, HEZ.out.2.1, HEZ.out.2.2], HQZ.out, OwnN.mono hKz hbl.2, hCz, hBz.mono hbl.2⟩
    · have hip : ((iv : Int) > 0) = True := eq_true (by omega)
      have hip2 : (0 : Int) < (iv : Int) := by omega
      have hip3 : 0 < iv := by omega
      obtain ⟨gr, cr, er⟩ : ∃ g c, Value.slice Av iv cv' = .slice (some ⟨g, 0, none⟩) iv c := by
        have h1 := HRO.out
        rw [HEV.out, ← HIV.out] at h1
        rcases h1.2 with ⟨_, e⟩ | ⟨g, cap, cur, e, _⟩
        · omega
        · exact ⟨g, cap, e⟩
      obtain ⟨rfl, -, rfl⟩ := Value.slice.inj er
      clear er
      go_wp2_with fail
      refine till_region (S := fun w' => w'.cell? ⟨PB, 0, none⟩ = some (.slice (some ⟨ge, 0, none⟩) N ce) ∧ w'.cell? ⟨ge, v, none⟩ = some (.slice (some ⟨gr, 0, none⟩) iv cv')) (st := 10) (by kernel_rfl) ⟨q0, yk⟩ (fun hHeld => ?_)
      refine utf 0 40 ?_
      refine utk 1 41 ?_
      refine utf 2 42 ?_
      refine utf 3 43 ?_
      refine utk 4 44 ?_
      refine utf 5 45 ?_
      refine ur 6 rfl (by kernel_rfl) (fun K hK => ?_)
      go_simp
      obtain ⟨w5, hw5⟩ : ∃ z, z = (w4.alloc (.cells #[.int .i64 (-1), .int .i64 0, .int .i64 1, .int .i64 6] 3)).drew := ⟨_, rfl⟩
      have hb5 : Below w4.heap.size w4 w5 := by rw [hw5]; exact (bl_alloc (Below.refl _ _) _).drew
      have hl5 : w5.heap[w4.heap.size]? = some (.cells (([-1, 0, 1, 6] : List Int).map intV).toArray 3 (0, 0)) := by rw [hw5]; exact heap_alloc_new _ _
      rw [← hw5]
      have H5 := Lib.hid (H4.out.up hb5 hbs)
      have HN5 := Lib.hid (HNB.out.up hb5)
      have HL5 := Lib.hid hl5
      have q0 := (hb5.cell (p := ⟨PB, 0, none⟩) hPB4).trans q0
      have yk := (hb5.cell (p := ⟨ge, v, none⟩) hgl.1).trans yk
      have hz5 := hb5.size
      clear hw5 hb5 hl5
      refine hK.out (fun _ => ⟨q0, yk⟩) ?_
      clear hK K
      try simp only [Act.put, pu]
      refine ur 7 rfl (by kernel_rfl) (fun K hK => ?_)
      go_simp
      go_at_call 41
      refine (cur_among P _ cv w4.heap.size [-1, 0, 1, 6] w5 H5.out.cur (by omega) HL5.out (by omega) (by simp) (by simp)).mono ?_
      rintro e w6 ⟨y, rfl, hy, hc6, hg6⟩
      have hy64 : -1 ≤ y ∧ y ≤ 20020000 := by simp at hy; omega
      have H6 := Lib.hid (H5.out.draw hc6 hg6 (by omega))
      have HN6 := Lib.hid (HN5.out.drawn hg6 (by omega) (by omega))
      have q0 := (World.cell?_of_block (a := ⟨PB, 0, none⟩) (hg6.block PB (by have h5 := hPB4; omega) (fun e => (by omega : PB ≠ P) (Option.some.inj e)))).trans q0
      have yk := (World.cell?_of_block (a := ⟨ge, v, none⟩) (hg6.block ge (by have h5 := hgl.1; omega) (fun e => (by omega : ge ≠ P) (Option.some.inj e)))).trans yk
      clear hy hc6 hg6
      obtain ⟨⟨e0, e1⟩, r, hlr⟩ : ∃ e r, l = e :: r := by
        cases l with
        | nil => have := HIV.out; simp at this; omega
        | cons e r => exact ⟨e, r, rfl⟩
      have HLR := Lib.hid hlr
      have hon : w6.ownsRow base 74 2 (val (.r v)) l.length (endCells l) := HN6.out.k.rowOwn HL.out
      rw [HEV.out, ← HIV.out] at hon
      have ci : ∃ z, w6.cell? ⟨gr, 1, none⟩ = some z := by
        have h1 := World.ownsRow.cellAt hon 1 (by omega)
        rw [hlr] at h1
        exact ⟨_, h1⟩
      have fi := own_thaw hon 1
      obtain ⟨z, ci⟩ := ci
      clear hon hlr
      refine hK.out (fun _ => ⟨q0, yk⟩) ?_
      clear hK K
      try simp only [Act.put, pu]
      refine utf 8 48 ?_
      refine utf 9 49 ?_
      refine ur 10 rfl (by kernel_rfl) (fun K hK => ?_)
      go_simp
      obtain ⟨w7, hw7⟩ : ∃ z, z = w6.setCell ⟨gr, 1, none⟩ (.int .i64 y) := ⟨_, rfl⟩
      rw [← hw7]
      have H7 := Lib.hid (show NAt w P PB PR base cv _ (fun n' => FitN n' 200 10) w7 by
        have hk : v < n.es.length := by rw [HEI.out.1]; exact hvN
        have h1 := HN6.out.apart H6.out.res (.r v) hk gr (by rw [HEV.out]; rfl)
        have h64 := HF.out.i64.e l (List.mem_of_getElem? HL.out)
        rw [hw7]
        exact H6.out.step ⟨_, _, (HF.out.setRow hk (l := (e0, y) :: r) (d' := 6) (by have := HIV.out; rw [HLR.out] at this; simp at this; simp; omega) (Nat.le_refl _) (fun e he => by
          rcases List.mem_cons.1 he with rfl | he
          · have h2 := h64 (e0, e1) (by rw [HLR.out]; simp)
            exact ⟨h2.1, by show I64 y; exact ⟨by omega, by omega⟩⟩
          · exact h64 e (by rw [HLR.out]; exact List.mem_cons_of_mem _ he))).more (by omega) (by omega), HN6.out.setOne HL.out (by rw [HEV.out, HIV.out]) (by rw [HLR.out]; rfl) (by rw [HLR.out]; rfl)⟩ (Kp.cell h1.1 h1.2 _ _))
      clear hw7 q0 yk ci fi
      refine hK.out (fun h' => till_no h' (by kernel_rfl)) ?_
      clear hK K
      try simp only [Act.put, pu]
      refine wpTill_done (by kernel_rfl) ?_ _
      obtain ⟨nz, valz, hQz, hnz⟩ := H7.out.net
      obtain ⟨Z0, l0, ez0⟩ := own_slN (hnz.k.own .e trivial)
      obtain ⟨Z1, l1, ez1⟩ := own_slN (hnz.k.own .i trivial)
      obtain ⟨Z2, l2, ez2⟩ := own_slN (hnz.k.own .n trivial)
      have hbz := hnz.box
      rw [ez0, ez1, ez2] at hbz
      have HEZ := Lib.hid (And.intro ez0 (And.intro ez1 ez2))
      have HNZ := Lib.hid hnz.k
      have HQZ := Lib.hid hQz
      clear ez0 ez1 ez2 hnz hQz
      generalize (rowN nz valz .e).len = s0 at HEZ hbz
      generalize (rowN nz valz .i).len = s1 at HEZ hbz
      generalize (rowN nz valz .n).len = s2 at HEZ hbz
      have HRZ := Lib.hid H7.out.res
      obtain ⟨b0, b1, b2, bf⟩ := cells3 (Lib.hid hbz)
      obtain ⟨p0, p1, p2, pf⟩ := cells3 HRZ
      obtain ⟨we, hwe, HE, hge⟩ := set3 HRZ (.slice Z0 s0 l0) (.slice Z1 s1 l1) (.slice Z2 s2 l2)
      have HWE := Lib.hid hwe
      clear hwe hbz
      go_wp2_with fail
      rw [← HWE.out]
      obtain ⟨z0, z1, z2, -⟩ := cells3 HE
      have hRb : base ≤ PR := by omega
      have hKz := NetK.past HNZ.out HRZ.out no_tyN_net hge
      have hCz : CurR we P cv _ := H7.out.cur.keep (show _ ≤ m + 1000 from by omega) fun b hb' => hge.block b (by have := H7.out.cur.lt; omega) (fun e => by have e' : b = PR := Option.some.inj e; have := H7.out.hP; omega)
      have hBz := H7.out.bp.trans (Bp.other hge (by have := H7.out.bp.size; omega) hRb)
      exact bodyPost_ret (v := .agg #[.slice Z0 s0 l0, .slice Z1 s1 l1, .slice Z2 s2 l2]) (by simp [results, Tryz.results156, go_sem, z0, z1, z2]) rfl ⟨nz, valz, by rw [HEZ.out.1, HEZ.out.2.1, HEZ.out.2.2], HQZ.out, OwnN.mono hKz hbl.2, hCz, hBz.mono hbl.2⟩
  · skip
    obtain ⟨l, hl⟩ : ∃ l, n.es[v]? = some l := ⟨_, rowAt_lt (by rw [HEI.out.1]; exact hvN)⟩
    have hll : l.length ≤ 6 := by have h1 := HF.out.deg v; unfold degA at h1; rw [rowAt_eq hl] at h1; exact h1
    have hro := HNB.out.k.rowOwn hl
    obtain ⟨Av, cv', ev⟩ := own_slN hro
    have yk := HNB.out.k.outerCell (g := ge) (cap := ce) (k := v) (by rw [HV.out.1, HEI.out.1]) (by rw [HEI.out.1]; exact hvN)
    rw [ev] at yk
    obtain ⟨iv, hiv⟩ : ∃ z, z = l.length := ⟨_, rfl⟩
    rw [← hiv] at yk ev hll
    have HRO := Lib.hid hro
    have HL := Lib.hid hl
    have HEV := Lib.hid ev
    have HIV := Lib.hid hiv
    have hgl : ge < w4.heap.size ∧ base ≤ ge := by
      have h1 := (HNB.out.k.own .e trivial).lt ge (by rw [HV.out.1]; rfl)
      exact ⟨h1.2, h1.1⟩
    clear hl hro ev hiv
    by_cases h0 : iv = 0
    · subst h0
      have HZ := Lib.hid (H4.out.more (m' := m + 4) (Q' := fun n' => FitN n' 200 10) (by omega) fun n' h => by rw [h]; exact HF.out.more (by omega) (by omega))
      go_upto_region 29 with fail
      clear q0 q1 q2 qf yk
      obtain ⟨nz, valz, hQz, hnz⟩ := HZ.out.net
      obtain ⟨Z0, l0, ez0⟩ := own_slN (hnz.k.own .e trivial)
      obtain ⟨Z1, l1, ez1⟩ := own_slN (hnz.k.own .i trivial)
      obtain ⟨Z2, l2, ez2⟩ := own_slN (hnz.k.own .n trivial)
      have hbz := hnz.box
      rw [ez0, ez1, ez2] at hbz
      have HEZ := Lib.hid (And.intro ez0 (And.intro ez1 ez2))
      have HNZ := Lib.hid hnz.k
      have HQZ := Lib.hid hQz
      clear ez0 ez1 ez2 hnz hQz
      generalize (rowN nz valz .e).len = s0 at HEZ hbz
      generalize (rowN nz valz .i).len = s1 at HEZ hbz
      generalize (rowN nz valz .n).len = s2 at HEZ hbz
      have HRZ := Lib.hid HZ.out.res
      obtain ⟨b0, b1, b2, bf⟩ := cells3 (Lib.hid hbz)
      obtain ⟨p0, p1, p2, pf⟩ := cells3 HRZ
      obtain ⟨we, hwe, HE, hge⟩ := set3 HRZ (.slice Z0 s0 l0) (.slice Z1 s1 l1) (.slice Z2 s2 l2)
      have HWE := Lib.hid hwe
      clear hwe hbz
      go_wp2_with fail
      rw [← HWE.out]
      obtain ⟨z0, z1, z2, -⟩ := cells3 HE
      have hRb : base ≤ PR := by omega
      have hKz := NetK.past HNZ.out HRZ.out no_tyN_net hge
      have hCz : CurR we P cv _ := HZ.out.cur.keep (show _ ≤ m + 1000 from by omega) fun b hb' => hge.block b (by have := HZ.out.cur.lt; omega) (fun e => by have e' : b = PR := Option.some.inj e; have := HZ.out.hP; omega)
      have hBz := HZ.out.bp.trans (Bp.other hge (by have := HZ.out.bp.size; omega) hRb)
      exact bodyPost_ret (v := .agg #[.slice Z0 s0 l0, .slice Z1 s1 l1, .slice Z2 s2 l2]) (by simp [results, Tryz.results156, go_sem, z0, z1, z2]) rfl ⟨nz, valz, by rw [HEZ.out.1, HEZ.out.2.1, HEZ.out.2.2], HQZ.out, OwnN.mono hKz hbl.2, hCz, hBz.mono hbl.2⟩
    · have hip : ((iv : Int) > 0) = True := eq_true (by omega)
      have hip2 : (0 : Int) < (iv : Int) := by omega
      have hip3 : 0 < iv := by omega
      obtain ⟨gr, cr, er⟩ : ∃ g c, Value.slice Av iv cv' = .slice (some ⟨g, 0, none⟩) iv c := by
        have h1 := HRO.out
        rw [HEV.out, ← HIV.out] at h1
        rcases h1.2 with ⟨_, e⟩ | ⟨g, cap, cur, e, _⟩
        · omega
        · exact ⟨g, cap, e⟩
      obtain ⟨rfl, -, rfl⟩ := Value.slice.inj er
      clear er
      go_wp2_with fail
      refine till_region (S := fun w' => w'.cell? ⟨PB, 0, none⟩ = some (.slice (some ⟨ge, 0, none⟩) N ce) ∧ w'.cell? ⟨ge, v, none⟩ = some (.slice (some ⟨gr, 0, none⟩) iv cv')) (st := 13) (by kernel_rfl) ⟨q0, yk⟩ (fun hHeld => ?_)
      refine utf 0 59 ?_
      refine utk 1 60 ?_
      refine utf 2 61 ?_
      refine utf 3 62 ?_
      refine utk 4 63 ?_
      refine utf 5 64 ?_
      refine utf 6 65 ?_
      refine utk 7 66 ?_
      refine utf 8 67 ?_
      refine ur 9 rfl (by kernel_rfl) (fun K hK => ?_)
      go_simp
      obtain ⟨w5, hw5⟩ : ∃ z, z = (w4.alloc (.cells #[.int .i64 (-1), .int .i64 0, .int .i64 (N : Int)] 3)).drew := ⟨_, rfl⟩
      have hb5 : Below w4.heap.size w4 w5 := by rw [hw5]; exact (bl_alloc (Below.refl _ _) _).drew
      have hl5 : w5.heap[w4.heap.size]? = some (.cells (([-1, 0, (N : Int)] : List Int).map intV).toArray 3 (0, 0)) := by rw [hw5]; exact heap_alloc_new _ _
      rw [← hw5]
      have H5 := Lib.hid (H4.out.up hb5 hbs)
      have HN5 := Lib.hid (HNB.out.up hb5)
      have HL5 := Lib.hid hl5
      have q0 := (hb5.cell (p := ⟨PB, 0, none⟩) hPB4).trans q0
      have yk := (hb5.cell (p := ⟨ge, v, none⟩) hgl.1).trans yk
      have hz5 := hb5.size
      clear hw5 hb5 hl5
      refine hK.out (fun _ => ⟨q0, yk⟩) ?_
      clear hK K
      try simp only [Act.put, pu]
      refine ur 10 rfl (by kernel_rfl) (fun K hK => ?_)
      go_simp
      go_at_call 41
      refine (cur_among P _ cv w4.heap.size [-1, 0, (N : Int)] w5 H5.out.cur (by omega) HL5.out (by omega) (by simp) (by simp)).mono ?_
      rintro e w6 ⟨y, rfl, hy, hc6, hg6⟩
      have hy64 : -1 ≤ y ∧ y ≤ 20020000 := by simp at hy; omega
      have H6 := Lib.hid (H5.out.draw hc6 hg6 (by omega))
      have HN6 := Lib.hid (HN5.out.drawn hg6 (by omega) (by omega))
      have q0 := (World.cell?_of_block (a := ⟨PB, 0, none⟩) (hg6.block PB (by have h5 := hPB4; omega) (fun e => (by omega : PB ≠ P) (Option.some.inj e)))).trans q0
      have yk := (World.cell?_of_block (a := ⟨ge, v, none⟩) (hg6.block ge (by have h5 := hgl.1; omega) (fun e => (by omega : ge ≠ P) (Option.some.inj e)))).trans yk
      clear hy hc6 hg6
      obtain ⟨⟨e0, e1⟩, r, hlr⟩ : ∃ e r, l = e :: r := by
        cases l with
        | nil => have := HIV.out; simp at this; omega
        | cons e r => exact ⟨e, r, rfl⟩
      have HLR := Lib.hid hlr
      have hon : w6.ownsRow base 74 2 (val (.r v)) l.length (endCells l) := HN6.out.k.rowOwn HL.out
      rw [HEV.out, ← HIV.out] at hon
      have ci : ∃ z, w6.cell? ⟨gr, 0, none⟩ = some z := by
        have h1 := World.ownsRow.cellAt hon 0 (by omega)
        rw [hlr] at h1
        exact ⟨_, h1⟩
      have fi := own_thaw hon 0
      obtain ⟨z, ci⟩ := ci
      clear hon hlr
      refine hK.out (fun _ => ⟨q0, yk⟩) ?_
      clear hK K
      try simp only [Act.put, pu]
      refine utf 11 70 ?_
      refine utf 12 71 ?_
      refine ur 13 rfl (by kernel_rfl) (fun K hK => ?_)
      go_simp
      obtain ⟨w7, hw7⟩ : ∃ z, z = w6.setCell ⟨gr, 0, none⟩ (.int .i64 y) := ⟨_, rfl⟩
      rw [← hw7]
      have H7 := Lib.hid (show NAt w P PB PR base cv _ (fun n' => FitN n' 200 10) w7 by
        have hk : v < n.es.length := by rw [HEI.out.1]; exact hvN
        have h1 := HN6.out.apart H6.out.res (.r v) hk gr (by rw [HEV.out]; rfl)
        have h64 := HF.out.i64.e l (List.mem_of_getElem? HL.out)
        rw [hw7]
        exact H6.out.step ⟨_, _, (HF.out.setRow hk (l := (y, e1) :: r) (d' := 6) (by have := HIV.out; rw [HLR.out] at this; simp at this; simp; omega) (Nat.le_refl _) (fun e he => by
          rcases List.mem_cons.1 he with rfl | he
          · have h2 := h64 (e0, e1) (by rw [HLR.out]; simp)
            exact ⟨by show I64 y; exact ⟨by omega, by omega⟩, h2.2⟩
          · exact h64 e (by rw [HLR.out]; exact List.mem_cons_of_mem _ he))).more (by omega) (by omega), HN6.out.setOne HL.out (by rw [HEV.out, HIV.out]) (by rw [HLR.out]; rfl) (by rw [HLR.out]; rfl)⟩ (Kp.cell h1.1 h1.2 _ _))
      clear hw7 q0 yk ci fi
      refine hK.out (fun h' => till_no h' (by kernel_rfl)) ?_
      clear hK K
      try simp only [Act.put, pu]
      refine wpTill_done (by kernel_rfl) ?_ _
      obtain ⟨nz, valz, hQz, hnz⟩ := H7.out.net
      obtain ⟨Z0, l0, ez0⟩ := own_slN (hnz.k.own .e trivial)
      obtain ⟨Z1, l1, ez1⟩ := own_slN (hnz.k.own .i trivial)
      obtain ⟨Z2, l2, ez2⟩ := own_slN (hnz.k.own .n trivial)
      have hbz := hnz.box
      rw [ez0, ez1, ez2] at hbz
      have HEZ := Lib.hid (And.intro ez0 (And.intro ez1 ez2))
      have HNZ := Lib.hid hnz.k
      have HQZ := Lib.hid hQz
      clear ez0 ez1 ez2 hnz hQz
      generalize (rowN nz valz .e).len = s0 at HEZ hbz
      generalize (rowN nz valz .i).len = s1 at HEZ hbz
      generalize (rowN nz valz .n).len = s2 at HEZ hbz
      have HRZ := Lib.hid H7.out.res
      obtain ⟨b0, b1, b2, bf⟩ := cells3 (Lib.hid hbz)
      obtain ⟨p0, p1, p2, pf⟩ := cells3 HRZ
      obtain ⟨we, hwe, HE, hge⟩ := set3 HRZ (.slice Z0 s0 l0) (.slice Z1 s1 l1) (.slice Z2 s2 l2)
      have HWE := Lib.hid hwe
      clear hwe hbz
      go_wp2_with fail
      rw [← HWE.out]
      obtain ⟨z0, z1, z2, -⟩ := cells3 HE
      have hRb : base ≤ PR := by omega
      have hKz := NetK.past HNZ.out HRZ.out no_tyN_net hge
      have hCz : CurR we P cv _ := H7.out.cur.keep (show _ ≤ m + 1000 from by omega) fun b hb' => hge.block b (by have := H7.out.cur.lt; omega) (fun e => by have e' : b = PR := Option.some.inj e; have := H7.out.hP; omega)
      have hBz := H7.out.bp.trans (Bp.other hge (by have := H7.out.bp.size; omega) hRb)
      exact bodyPost_ret (v := .agg #[.slice Z0 s0 l0, .slice Z1 s1 l1, .slice Z2 s2 l2]) (by simp [results, Tryz.results156, go_sem, z0, z1, z2]) rfl ⟨nz, valz, by rw [HEZ.out.1, HEZ.out.2.1, HEZ.out.2.2], HQZ.out, OwnN.mono hKz hbl.2, hCz, hBz.mono hbl.2⟩
  · go_wp2_with fail
    clear q0 q1 q2 qf
    go_loopw [] (fun wr => BpRel w P PB PR base cv (m + 4) N v ge ce wr) (fun wr => 10 - slLen wr ⟨ge, v, none⟩)
    case atStart => exact ⟨n, val, H4.out.more (by omega) fun n' h => by (rw [h]; exact HF.out.more (by omega) (by omega)), HNB.out, HF.out.more hN (by omega), HEI.out.1, by rw [HV.out.1, HEI.out.1]⟩
    case round =>
      obtain ⟨n', val', hat, hnb, hfi, hen, hve⟩ := hrel
      have hvN' : v < n'.es.length := by rw [hen]; exact hvN
      obtain ⟨iv, hiv⟩ : ∃ z, z = (rowAt n' v).length := ⟨_, rfl⟩
      have hiv8 : iv ≤ 8 := by rw [hiv]; exact hfi.deg v
      obtain ⟨Av, cv', ev⟩ := own_slN (hnb.k.own (.r v) hvN')
      replace ev : val' (.r v) = .slice Av iv cv' := by rw [ev, hiv]; rfl
      have HA := Lib.hid hat
      have HB' := Lib.hid hnb
      have HFI := Lib.hid hfi
      have HEN := Lib.hid hen
      have HVE := Lib.hid hve
      have HVR := Lib.hid ev
      have HRL := Lib.hid hiv
      have q0 : wr.cell? ⟨PB, 0, none⟩ = some (.slice (some ⟨ge, 0, none⟩) n'.es.length ce) := by rw [cell_of_row _ _ 0 _ _ (0, 0) hnb.box, ← hve]; rfl
      have yk : wr.cell? ⟨ge, v, none⟩ = some (.slice Av iv cv') := by rw [← ev]; exact hnb.k.outerCell hve hvN'
      have HYR := Lib.hid yk
      have hge : ge < wr.heap.size ∧ base ≤ ge := by
        have h1 := (hnb.k.own .e trivial).lt ge (by rw [hve]; rfl)
        exact ⟨h1.2, h1.1⟩
      have hbr : base ≤ wr.heap.size := by have := hat.bp.size; omega
      have hPBr : PB < wr.heap.size := hnb.lt
      have hPRr : PR < wr.heap.size := heap_ltN hat.res
      have hdg : degA n' v ≤ 8 := hfi.deg v
      have hvi' : (v : Int) < (n'.es.length : Int) := by omega
      clear hat hnb hfi hen hve ev hiv
      go_wp2_with fail
      refine wp_region_held_drew (S := fun w' => w'.cell? ⟨PB, 0, none⟩ = some (.slice (some ⟨ge, 0, none⟩) n'.es.length ce) ∧ w'.cell? ⟨ge, v, none⟩ = some (.slice Av iv cv')) (by kernel_rfl) ?_ (fun hHeld => ?_)
      · go_keep
      refine stk 0 74 ?_
      refine stk 1 75 ?_
      refine stk 2 76 ?_
      refine stk 3 77 ?_
      refine stk 4 78 ?_
      refine stk 5 79 ?_
      refine stk 6 80 ?_
      refine tr 7 rfl (by kernel_rfl) (fun K hK => ?_)
      go_simp
      go_at_call 40
      refine (cur_pick P _ cv _ wr.drew (HA.out.cur.below (Below.refl base wr).drew (by omega)) (by omega)).mono ?_
      rintro e w5 ⟨x5, rfl, hx5, hc5, hg5'⟩
      have hx2 : x5 < 2 := by omega
      have hg5 : wr.grownBy w5 (some P) := ⟨hg5'.os, hg5'.tape, hg5'.output, hg5'.size, hg5'.block⟩
      have H5 := Lib.hid (HA.out.draw hc5 hg5 hbr)
      have HB5 := Lib.hid (HB'.out.drawn hg5 (by omega) (by omega))
      have hz5 := hg5.size
      have q0 := (World.cell?_of_block (a := ⟨PB, 0, none⟩) (hg5.block PB hPBr (fun e => (by omega : PB ≠ P) (Option.some.inj e)))).trans q0
      have yk := (World.cell?_of_block (a := ⟨ge, v, none⟩) (hg5.block ge hge.1 (fun e => (by omega : ge ≠ P) (Option.some.inj e)))).trans yk
      have hw6 : IntKind.i64.wrap (6 + (x5 : Int)) = 6 + (x5 : Int) := IntWalk.i64_in _ (by omega)
      clear hx5 hc5 hg5 hg5'
      refine hK.out _ _ ?_ (fun hHeld => ?_)
      · go_keep
      clear hK K
      try simp only [Act.put, pu]
      refine stk 8 82 ?_
      refine stk 9 83 ?_
      refine wpAnyH_done (by kernel_rfl) ?_ _
      by_cases hlt : iv < 6 + x5
      · have hltT : (iv : Int) < 6 + (x5 : Int) := by omega
        clear q0 yk
        go_wp2_with fail
        obtain ⟨W0, hW0⟩ : ∃ z, z = w5.drew := ⟨_, rfl⟩
        have HB0 := Lib.hid (show NetB W0 base val' n' PB by rw [hW0]; exact ⟨OwnN.keep HB5.out.k ⟨rfl, rfl, rfl, Nat.le_refl _, fun _ _ _ => rfl⟩, HB5.out.ne, HB5.out.box⟩)
        have HWA := Lib.hid (show (w5.alloc (.cells #[.int .i64 (v : Int), .int .i64 (iv : Int)] 74)).drew = W0.alloc (.cells #[.int .i64 (v : Int), .int .i64 (iv : Int)] 74) by rw [hW0]; rfl)
        have HWS := Lib.hid (show W0.heap.size = w5.heap.size by rw [hW0]; rfl)
        have hWB : Below w5.heap.size w5 W0 := by rw [hW0]; exact (Below.refl _ _).drew
        have y0 : w5.cell? ⟨PB, 0, none⟩ = some (.slice (some ⟨ge, 0, none⟩) n'.es.length ce) := by rw [cell_of_row _ _ 0 _ _ (0, 0) HB5.out.box, ← HVE.out]; rfl
        have yk : w5.cell? ⟨ge, v, none⟩ = some (.slice Av iv cv') := by rw [← HVR.out]; exact HB5.out.k.outerCell HVE.out (by omega)
        have HYK := Lib.hid (show W0.cell? ⟨ge, v, none⟩ = some (.slice Av iv cv') by rw [hW0]; exact yk)
        have HY0 := Lib.hid (show W0.cell? ⟨PB, 0, none⟩ = some (.slice (some ⟨ge, 0, none⟩) n'.es.length ce) by rw [hW0]; exact y0)
        have fk0 : W0.frozen? ⟨ge, v, none⟩ = false := by
          have h1 := HB0.out.k.own .e trivial
          rw [HVE.out] at h1
          exact own_thaw h1 v
        have hgne : ge ≠ PB := fun e => HB0.out.ne .e trivial (by rw [HVE.out, ← e]; rfl)
        clear hW0
        refine till_region (S := fun w' => w'.cell? ⟨PB, 0, none⟩ = some (.slice (some ⟨ge, 0, none⟩) n'.es.length ce) ∧ w'.cell? ⟨ge, v, none⟩ = some (.slice Av iv cv')) (st := 19) (by kernel_rfl) ⟨y0, yk⟩ (fun hHeld => ?_)
        refine utf 0 84 ?_
        refine utk 1 85 ?_
        refine utf 2 86 ?_
        refine utf 3 87 ?_
        refine utk 4 88 ?_
        refine utf 5 89 ?_
        refine utf 6 90 ?_
        refine utk 7 91 ?_
        refine utf 8 92 ?_
        refine utf 9 93 ?_
        refine utk 10 94 ?_
        refine utf 11 95 ?_
        refine utf 12 96 ?_
        refine utk 13 97 ?_
        refine utf 14 98 ?_
        refine utf 15 99 ?_
        refine ur 16 rfl (by kernel_rfl) (fun K hK => ?_)
        go_simp
        replace y0 := Lib.cell?_alloc_some (.cells #[.int .i64 (v : Int), .int .i64 (iv : Int)] 74) y0
        replace yk := Lib.cell?_alloc_some (.cells #[.int .i64 (v : Int), .int .i64 (iv : Int)] 74) yk
        refine hK.out (fun _ => ⟨y0, yk⟩) ?_
        clear hK K
        try simp only [Act.put, pu]
        refine ur 17 rfl (by kernel_rfl) (fun K hK => ?_)
        rw [if_pos (by rfl), HWA.out, ← HWS.out]
        refine oper_app2 W0 (.tmp 91) (.tmp 100) 75 rfl base 74 _ 16 Tryz.underlying75 endInfo rfl _ _ _ rfl _ _ rfl rfl rfl (by have h1 := HB0.out.k.rowOwn (rowAt_lt (k := v) (by omega)); rw [HVR.out, ← HRL.out] at h1; exact h1) (by unfold maxLen; omega) (by omega) (by have := hWB.size; omega) ?_
        intro v7 w7 hown7 hbl7 hgr7 hlt7 hob7
        obtain ⟨A7, c7, rfl⟩ := own_slN hown7
        have hkA := hgr7.block ge (HB0.out.k.own .e trivial |>.lt _ (by rw [HVE.out]; rfl)).2 (fun e => by
          have h1 := HB0.out.k.sep .e (.r v) trivial (by show _ < _; omega) (by simp)
          rw [HVE.out, HVR.out] at h1
          rcases h1 with h1 | h1
          · cases h1
          · exact h1 e)
        clear y0 yk
        have y0 := (World.cell?_of_block (a := ⟨PB, 0, none⟩) (hgr7.block PB HB0.out.lt (fun e => HB0.out.ne (.r v) (by show _ < _; omega) (by rw [HVR.out]; exact e.symm)))).trans HY0.out
        have yk := (World.cell?_of_block (a := ⟨ge, v, none⟩) hkA).trans HYK.out
        have fk : w7.frozen? ⟨ge, v, none⟩ = false := (World.frozen?_of_block (a := ⟨ge, v, none⟩) hkA).trans fk0
        refine hK.out (fun _ => ⟨y0, yk⟩) ?_
        clear hK K
        try simp only [Act.put, pu]
        refine utf 18 102 ?_
        refine ur 19 rfl (by kernel_rfl) (fun K hK => ?_)
        go_simp
        obtain ⟨w9, hw9⟩ : ∃ z, z = w7.setCell ⟨ge, v, none⟩ (.slice A7 (iv + 1) c7) := ⟨_, rfl⟩
        rw [← hw9]
        have hp7 := HB0.out.push (k := v) (by omega) HVE.out (v7 := .slice A7 (iv + 1) c7) (e := ((v : Int), (iv : Int))) (by rw [HVR.out]; exact hgr7) (by rw [← HRL.out]; exact hown7) (by rw [HVR.out]; exact hob7.imp id fun ⟨g, h1, h2, _⟩ => ⟨g, h1, h2⟩)
        rw [← hw9] at hp7
        have Hw9 := Lib.hid hp7
        have HBw9 := Lib.hid (show Below base w5 w9 by rw [hw9]; exact ((hWB.mono (by omega)).trans hbl7).setCell (p := ⟨ge, v, none⟩) (by show base ≤ ge; exact (HB0.out.k.own .e trivial |>.lt _ (by rw [HVE.out]; rfl)).1) _)
        have HF9 := Lib.hid (show FitN (pushN n' v ((v : Int), (iv : Int))) 20 8 from HFI.out.setRow hvN' (l := rowAt n' v ++ [((v : Int), (iv : Int))]) (d' := 8) (by rw [List.length_append, List.length_singleton, ← HRL.out]; omega) (Nat.le_refl _) (fun e he => by
          rcases List.mem_append.1 he with he | he
          · exact HFI.out.i64.e _ (List.mem_of_getElem? (rowAt_lt hvN')) e he
          · rw [List.mem_singleton.1 he]; exact ⟨⟨by show (-9223372036854775808 : Int) ≤ (v : Int); omega, by show (v : Int) ≤ _; omega⟩, by show (-9223372036854775808 : Int) ≤ (iv : Int); omega, by show (iv : Int) ≤ _; omega⟩))
        have HK9 := Lib.hid (show Kp base PR w5 w9 by
          have hz0 := hWB.size
          have hR0 := (hWB.block PR (by omega)).trans H5.out.res
          rw [hw9]
          exact ((Kp.below hWB (by omega) (by omega)).trans (Kp.grown hgr7 (fun g e => HB0.out.apart hR0 (.r v) hvN' g (by rw [HVR.out]; exact e)) (by omega) (by omega))).trans (Kp.cell hge.2 (HB0.out.apart hR0 .e trivial ge (by rw [HVE.out]; rfl)).2 _ _))
        clear hp7 hw9 y0 yk fk fk0 hown7 hbl7 hgr7 hob7 hkA
        refine hK.out (fun h' => till_no h' (by kernel_rfl)) ?_
        clear hK K
        try simp only [Act.put, pu]
        refine wpTill_done (by kernel_rfl) ?_ _
        go_wp2_with fail
        go_roundw
        case rel => exact ⟨pushN n' v ((v : Int), (iv : Int)), _, (H5.out.step ⟨_, _, HF9.out.more (by omega) (by omega), Hw9.out⟩ HK9.out).more (by rw [degA_push hvN', if_pos rfl]; omega) fun _ h => h, Hw9.out, HF9.out, by rw [pushN_len]; exact HEN.out, by rw [updN_ne _ _ (by simp), pushN_len]; exact HVE.out⟩
        case measure =>
          have h1 := slLen_eq HYR.out
          have h2 := slLen_eq ((Hw9.out.k.outerCell (g := ge) (cap := ce) (k := v) (by rw [updN_ne _ _ (by simp), pushN_len]; exact HVE.out) (by rw [pushN_len]; exact hvN')).trans (by rw [updN_same]))
          rw [h1, h2]
          omega
      · have hltF : ((iv : Int) < 6 + (x5 : Int)) = False := eq_false (by omega)
        go_upto_region 29 with fail
        clear q0 yk hHeld
        have HZ := Lib.hid (H5.out.more (m' := m + 100) (by omega) fun _ h => h)
        obtain ⟨nz, valz, hQz, hnz⟩ := HZ.out.net
        obtain ⟨Z0, l0, ez0⟩ := own_slN (hnz.k.own .e trivial)
        obtain ⟨Z1, l1, ez1⟩ := own_slN (hnz.k.own .i trivial)
        obtain ⟨Z2, l2, ez2⟩ := own_slN (hnz.k.own .n trivial)
        have hbz := hnz.box
        rw [ez0, ez1, ez2] at hbz
        have HEZ := Lib.hid (And.intro ez0 (And.intro ez1 ez2))
        have HNZ := Lib.hid hnz.k
        have HQZ := Lib.hid hQz
        clear ez0 ez1 ez2 hnz hQz
        generalize (rowN nz valz .e).len = s0 at HEZ hbz
        generalize (rowN nz valz .i).len = s1 at HEZ hbz
        generalize (rowN nz valz .n).len = s2 at HEZ hbz
        have HRZ := Lib.hid HZ.out.res
        obtain ⟨b0, b1, b2, bf⟩ := cells3 (Lib.hid hbz)
        obtain ⟨p0, p1, p2, pf⟩ := cells3 HRZ
        obtain ⟨we, hwe, HE, hge⟩ := set3 HRZ (.slice Z0 s0 l0) (.slice Z1 s1 l1) (.slice Z2 s2 l2)
        have HWE := Lib.hid hwe
        clear hwe hbz
        go_wp2_with fail
        rw [← HWE.out]
        obtain ⟨z0, z1, z2, -⟩ := cells3 HE
        have hRb : base ≤ PR := by omega
        have hKz := NetK.past HNZ.out HRZ.out no_tyN_net hge
        have hCz : CurR we P cv _ := HZ.out.cur.keep (show _ ≤ m + 1000 from by omega) fun b hb' => hge.block b (by have := HZ.out.cur.lt; omega) (fun e => by have e' : b = PR := Option.some.inj e; have := HZ.out.hP; omega)
        have hBz := HZ.out.bp.trans (Bp.other hge (by have := HZ.out.bp.size; omega) hRb)
        exact bodyPost_ret (v := .agg #[.slice Z0 s0 l0, .slice Z1 s1 l1, .slice Z2 s2 l2]) (by simp [results, Tryz.results156, go_sem, z0, z1, z2]) rfl ⟨nz, valz, by rw [HEZ.out.1, HEZ.out.2.1, HEZ.out.2.2], HQZ.out, OwnN.mono hKz hbl.2, hCz, hBz.mono hbl.2⟩
  · have hr4 := HNB.out.k.reads HF.out.i64
    rw [HV.out.1, HV.out.2.1, HV.out.2.2] at hr4
    have HR4 := Lib.hid hr4
    clear hr4
    go_wp2_with fail
    refine (cur_withIds P (m + 2 + 2) cv _ _ _ n w4 H4.out.cur (by omega) HR4.out (HF.out.small (by omega) (by omega))).mono ?_
    rintro e w8 ⟨n8, val8, rfl, hid8, hk8, hc8, hb8⟩
    obtain ⟨E0, f0, x0⟩ := own_slN (hk8.own .e trivial)
    obtain ⟨E1, f1, x1⟩ := own_slN (hk8.own .i trivial)
    obtain ⟨E2, f2, x2⟩ := own_slN (hk8.own .n trivial)
    have HE8 := Lib.hid (And.intro x0 (And.intro x1 x2))
    rw [x0, x1, x2]
    clear x0 x1 x2
    generalize (rowN n8 val8 .e).len = j0 at HE8 ⊢
    generalize (rowN n8 val8 .i).len = j1 at HE8 ⊢
    generalize (rowN n8 val8 .n).len = j2 at HE8 ⊢
    have hg8 := hb8.grows
    have H8 := Lib.hid ((H4.out.draw hc8 hg8 hbs).more (m' := m + 200) (by rw [HEI.out.1]; omega) fun _ h => h)
    have hz8 := hg8.size
    have H9 := Lib.hid (H8.out.put (Q' := fun n' => (FitN n' N 6 ∧ n'.ids.length = N) ∧ ∀ x ∈ n'.ids, 0 ≤ x ∧ x ≤ 20020000) (OwnN.mono hk8 hbs) ⟨⟨HF.out.idd hid8, by rw [hid8.len]; exact HEI.out.1⟩, hid8.ids⟩ (by omega) HE8.out.1 HE8.out.2.1 HE8.out.2.2)
    have HBX8 := Lib.hid ((hg8.block PB hPB4 (fun e => (by omega : PB ≠ P) (Option.some.inj e))).trans HBX.out)
    obtain ⟨w9, hw9⟩ : ∃ z, z = (((w8.setCell ⟨PB, 0, none⟩ (.slice E0 j0 f0)).setCell ⟨PB, 1, none⟩ (.slice E1 j1 f1)).setCell ⟨PB, 2, none⟩ (.slice E2 j2 f2)) := ⟨_, rfl⟩
    rw [← hw9] at H9
    have hz9 : w9.heap.size = w8.heap.size := by rw [hw9]; simp
    have hz9' : w8.heap.size ≤ w9.heap.size := by omega
    have HW9 := Lib.hid hw9
    clear hk8 hb8 hw9 hz9 hid8 hc8 hg8 q0 q1 q2 qf
    obtain ⟨q0, q1, q2, qf⟩ := cells3 HBX8
    go_wp2_with fail
    rw [← HW9.out]
    clear q0 q1 q2 qf
    obtain ⟨n9, val9, ⟨⟨hF9, hl9⟩, hx9⟩, hnb9⟩ := H9.out.net
    obtain ⟨gi, ci', x1, -, -, hgi1, hgi2⟩ := hnb9.k.idsSlice (by omega)
    rw [hl9] at x1
    obtain ⟨y0, hy0⟩ : ∃ y, n9.ids[0]? = some y := ⟨_, List.getElem?_eq_getElem (by omega)⟩
    obtain ⟨y1, hy1⟩ : ∃ y, n9.ids[v]? = some y := ⟨_, List.getElem?_eq_getElem (by omega)⟩
    have hy064 := hx9 y0 (List.mem_of_getElem? hy0)
    have hoi : w9.ownsRow base 3 1 (val9 .i) n9.ids.length (n9.ids.map intV) := hnb9.k.own .i trivial
    rw [x1, hl9] at hoi
    have yk : w9.cell? ⟨gi, 0, none⟩ = some (.int .i64 y0) := own_cellI hoi (by omega) hy0
    have q1 : w9.cell? ⟨PB, 1, none⟩ = some (.slice (some ⟨gi, 0, none⟩) N ci') := by rw [cell_of_row _ _ 1 _ _ (0, 0) hnb9.box, ← x1]; rfl
    have HNB9 := Lib.hid hnb9
    have HF9 := Lib.hid hF9
    have HL9 := Lib.hid hl9
    have HX1 := Lib.hid x1
    have HY1 := Lib.hid hy1
    have hPB9 : PB < w9.heap.size := hnb9.lt
    have hPR9 : PR < w9.heap.size := heap_ltN H9.out.res
    have hbs : base ≤ w9.heap.size := by omega
    have h0N : (0 : Int) < (N : Int) := by omega
    have h0N' : 0 < N := by omega
    clear hF9 hl9 hx9 hnb9 x1 hoi hy0 hy1
    refine till_region (S := fun w' => w'.cell? ⟨PB, 1, none⟩ = some (.slice (some ⟨gi, 0, none⟩) N ci') ∧ w'.cell? ⟨gi, 0, none⟩ = some (.int .i64 y0)) (st := 11) (by kernel_rfl) ⟨q1, yk⟩ (fun hHeld => ?_)
    refine utf 0 108 ?_
    refine utk 1 109 ?_
    refine utf 2 110 ?_
    refine utf 3 111 ?_
    refine utf 4 112 ?_
    refine utk 5 113 ?_
    refine utf 6 114 ?_
    refine utk 7 115 ?_
    refine ur 8 rfl (by kernel_rfl) (fun K hK => ?_)
    go_simp
    obtain ⟨w5, hw5⟩ : ∃ z, z = (w9.alloc (.cells #[.int .i64 0, .int .i64 1, .int .i64 999999, .int .i64 1000000, .int .i64 y0] 3)).drew := ⟨_, rfl⟩
    have hb5 : Below w9.heap.size w9 w5 := by rw [hw5]; exact (bl_alloc (Below.refl _ _) _).drew
    have hl5 : w5.heap[w9.heap.size]? = some (.cells (([0, 1, 999999, 1000000, y0] : List Int).map intV).toArray 3 (0, 0)) := by rw [hw5]; exact heap_alloc_new _ _
    rw [← hw5]
    have H5 := Lib.hid (H9.out.up hb5 hbs)
    have HN5 := Lib.hid (HNB9.out.up hb5)
    have HL5 := Lib.hid hl5
    have q1 := (hb5.cell (p := ⟨PB, 1, none⟩) hPB9).trans q1
    have yk := (hb5.cell (p := ⟨gi, 0, none⟩) hgi2).trans yk
    have hz5 := hb5.size
    clear hw5 hb5 hl5
    refine hK.out (fun _ => ⟨q1, yk⟩) ?_
    clear hK K
    try simp only [Act.put, pu]
    refine ur 9 rfl (by kernel_rfl) (fun K hK => ?_)
    go_simp
    go_at_call 41
    refine (cur_among P _ cv w9.heap.size [0, 1, 999999, 1000000, y0] w5 H5.out.cur (by omega) HL5.out (by omega) (by simp) (by simp)).mono ?_
    rintro e w6 ⟨y, rfl, hy, hc6, hg6⟩
    have hy64 : -1 ≤ y ∧ y ≤ 20020000 := by simp at hy; omega
    have H6 := Lib.hid (H5.out.draw hc6 hg6 (by omega))
    have HN6 := Lib.hid (HN5.out.drawn hg6 (by omega) (by omega))
    have q1 := (World.cell?_of_block (a := ⟨PB, 1, none⟩) (hg6.block PB (by have h5 := hPB9; omega) (fun e => (by omega : PB ≠ P) (Option.some.inj e)))).trans q1
    have yk := (World.cell?_of_block (a := ⟨gi, 0, none⟩) (hg6.block gi (by have h5 := hgi2; omega) (fun e => (by omega : gi ≠ P) (Option.some.inj e)))).trans yk
    clear hy hc6 hg6
    have hon : w6.ownsRow base 3 1 (val9 .i) n9.ids.length (n9.ids.map intV) := HN6.out.k.own .i trivial
    rw [HX1.out, HL9.out] at hon
    have ci := own_cellI hon (by omega) HY1.out
    have fi := own_thaw hon v
    clear hon
    refine hK.out (fun _ => ⟨q1, yk⟩) ?_
    clear hK K
    try simp only [Act.put, pu]
    refine utf 10 118 ?_
    refine ur 11 rfl (by kernel_rfl) (fun K hK => ?_)
    go_simp
    obtain ⟨w7, hw7⟩ : ∃ z, z = w6.setCell ⟨gi, v, none⟩ (.int .i64 y) := ⟨_, rfl⟩
    rw [← hw7]
    have H7 := Lib.hid (show NAt w P PB PR base cv _ (fun n' => FitN n' 200 10) w7 by
      have h1 := HN6.out.apart H6.out.res .i trivial gi (by rw [HX1.out]; rfl)
      rw [hw7]
      exact H6.out.step ⟨_, _, (HF9.out.withIds (xs := n9.ids.set v y) (by rw [List.length_set, HL9.out]; exact Nat.le_refl _) (fun x hx => by
        rcases List.mem_or_eq_of_mem_set hx with h1 | h1
        · exact HF9.out.i64.i x h1
        · rw [h1]; exact ⟨by omega, by omega⟩)).more (by omega) (by omega), HN6.out.setId (by rw [HX1.out, HL9.out]) v y⟩ (Kp.cell h1.1 h1.2 _ _))
    clear hw7 q1 yk ci fi
    refine hK.out (fun h' => till_no h' (by kernel_rfl)) ?_
    clear hK K
    try simp only [Act.put, pu]
    refine wpTill_done (by kernel_rfl) ?_ _
    obtain ⟨nz, valz, hQz, hnz⟩ := H7.out.net
    obtain ⟨Z0, l0, ez0⟩ := own_slN (hnz.k.own .e trivial)
    obtain ⟨Z1, l1, ez1⟩ := own_slN (hnz.k.own .i trivial)
    obtain ⟨Z2, l2, ez2⟩ := own_slN (hnz.k.own .n trivial)
    have hbz := hnz.box
    rw [ez0, ez1, ez2] at hbz
    have HEZ := Lib.hid (And.intro ez0 (And.intro ez1 ez2))
    have HNZ := Lib.hid hnz.k
    have HQZ := Lib.hid hQz
    clear ez0 ez1 ez2 hnz hQz
    generalize (rowN nz valz .e).len = s0 at HEZ hbz
    generalize (rowN nz valz .i).len = s1 at HEZ hbz
    generalize (rowN nz valz .n).len = s2 at HEZ hbz
    have HRZ := Lib.hid H7.out.res
    obtain ⟨b0, b1, b2, bf⟩ := cells3 (Lib.hid hbz)
    obtain ⟨p0, p1, p2, pf⟩ := cells3 HRZ
    obtain ⟨we, hwe, HE, hge⟩ := set3 HRZ (.slice Z0 s0 l0) (.slice Z1 s1 l1) (.slice Z2 s2 l2)
    have HWE := Lib.hid hwe
    clear hwe hbz
    go_wp2_with fail
    rw [← HWE.out]
    obtain ⟨z0, z1, z2, -⟩ := cells3 HE
    have hRb : base ≤ PR := by omega
    have hKz := NetK.past HNZ.out HRZ.out no_tyN_net hge
    have hCz : CurR we P cv _ := H7.out.cur.keep (show _ ≤ m + 1000 from by omega) fun b hb' => hge.block b (by have := H7.out.cur.lt; omega) (fun e => by have e' : b = PR := Option.some.inj e; have := H7.out.hP; omega)
    have hBz := H7.out.bp.trans (Bp.other hge (by have := H7.out.bp.size; omega) hRb)
    exact bodyPost_ret (v := .agg #[.slice Z0 s0 l0, .slice Z1 s1 l1, .slice Z2 s2 l2]) (by simp [results, Tryz.results156, go_sem, z0, z1, z2]) rfl ⟨nz, valz, by rw [HEZ.out.1, HEZ.out.2.1, HEZ.out.2.2], HQZ.out, OwnN.mono hKz hbl.2, hCz, hBz.mono hbl.2⟩
  · have HB5 := bk HBX (bl_alloc (Below.refl w4.heap.size w4) (.cells #[.int .i64 5] 3))
    obtain ⟨r0, r1, r2, rf⟩ := cells3 HB5
    clear q0 q1 q2 qf r0 r2
    go_upto_region 29 with fail
    obtain ⟨w9, hw9⟩ : ∃ z, z = (w4.setCell ⟨PB, 1, none⟩ (.slice (some ⟨w4.heap.size, 0, none⟩) 1 1)).alloc (.cells #[.int .i64 5] 3) := ⟨_, rfl⟩
    rw [← hw9]
    have H7 := Lib.hid (show NAt w P PB PR base cv _ (fun n' => FitN n' 200 10) w9 by
      have h1 := own_madeN w4 3 1 (.int .i64 5) (by decide)
      rw [show rowOf [] 1 (Value.int .i64 5) = #[.int .i64 5] from rfl] at h1
      have h2 := HNB.out.newIds (xs := [5]) (World.grownBy_alloc w4 (.cells #[.int .i64 5] 3) none) (own_mono h1 hbs) (.inr ⟨_, rfl, Nat.le_refl _⟩)
      rw [hw9, ← World.setCell_alloc_past _ _ _ _ hPB4]
      exact H4.out.step ⟨_, _, (HF.out.withIds (xs := [5]) hN1 (fun x hx => by rw [List.mem_singleton.1 hx]; exact ⟨by omega, by omega⟩)).more (by omega) (by omega), h2⟩ ((Kp.below (bl_alloc (Below.refl _ _) _) hbs hPR4).trans (Kp.cell (by omega) (by omega) _ _)))
    clear hw9 r1 rf
    obtain ⟨nz, valz, hQz, hnz⟩ := H7.out.net
    obtain ⟨Z0, l0, ez0⟩ := own_slN (hnz.k.own .e trivial)
    obtain ⟨Z1, l1, ez1⟩ := own_slN (hnz.k.own .i trivial)
    obtain ⟨Z2, l2, ez2⟩ := own_slN (hnz.k.own .n trivial)
    have hbz := hnz.box
    rw [ez0, ez1, ez2] at hbz
    have HEZ := Lib.hid (And.intro ez0 (And.intro ez1 ez2))
    have HNZ := Lib.hid hnz.k
    have HQZ := Lib.hid hQz
    clear ez0 ez1 ez2 hnz hQz
    generalize (rowN nz valz .e).len = s0 at HEZ hbz
    generalize (rowN nz valz .i).len = s1 at HEZ hbz
    generalize (rowN nz valz .n).len = s2 at HEZ hbz
    have HRZ := Lib.hid H7.out.res
    obtain ⟨b0, b1, b2, bf⟩ := cells3 (Lib.hid hbz)
    obtain ⟨p0, p1, p2, pf⟩ := cells3 HRZ
    obtain ⟨we, hwe, HE, hge⟩ := set3 HRZ (.slice Z0 s0 l0) (.slice Z1 s1 l1) (.slice Z2 s2 l2)
    have HWE := Lib.hid hwe
    clear hwe hbz
    go_wp2_with fail
    rw [← HWE.out]
    obtain ⟨z0, z1, z2, -⟩ := cells3 HE
    have hRb : base ≤ PR := by omega
    have hKz := NetK.past HNZ.out HRZ.out no_tyN_net hge
    have hCz : CurR we P cv _ := H7.out.cur.keep (show _ ≤ m + 1000 from by omega) fun b hb' => hge.block b (by have := H7.out.cur.lt; omega) (fun e => by have e' : b = PR := Option.some.inj e; have := H7.out.hP; omega)
    have hBz := H7.out.bp.trans (Bp.other hge (by have := H7.out.bp.size; omega) hRb)
    exact bodyPost_ret (v := .agg #[.slice Z0 s0 l0, .slice Z1 s1 l1, .slice Z2 s2 l2]) (by simp [results, Tryz.results156, go_sem, z0, z1, z2]) rfl ⟨nz, valz, by rw [HEZ.out.1, HEZ.out.2.1, HEZ.out.2.2], HQZ.out, OwnN.mono hKz hbl.2, hCz, hBz.mono hbl.2⟩
  · go_wp2_with fail
    clear q0 q1 q2 qf
    go_loopw [] (fun wr => BnRel w P PB PR base cv (m + 4) N wr) (fun wr => 50 - slLen wr ⟨PB, 0, none⟩)
    case atStart => exact ⟨n, val, H4.out.more (by omega) fun n' h => by (rw [h]; exact HF.out.more (by omega) (by omega)), HNB.out, HF.out.more (by omega) (Nat.le_refl _), by rw [HEI.out.1]; exact Nat.le_refl _, by rw [HEI.out.1]; omega⟩
    case round =>
      obtain ⟨n', val', hat, hnb, hfi, hln, hlm⟩ := hrel
      obtain ⟨ge', ce', eke, -, -, -, -⟩ := hnb.k.outer (by omega)
      obtain ⟨LE, hLE⟩ : ∃ z, z = n'.es.length := ⟨_, rfl⟩
      have hoe : wr.ownsRow base 75 1 (val' .e) n'.es.length (valsN val' n'.es.length) := hnb.k.own .e trivial
      rw [← hLE] at eke hoe hln hlm
      rw [eke] at hoe
      have HA := Lib.hid hat
      have HB' := Lib.hid hnb
      have HFI := Lib.hid hfi
      have HVE := Lib.hid eke
      have HLE := Lib.hid hLE
      have q0 : wr.cell? ⟨PB, 0, none⟩ = some (.slice (some ⟨ge', 0, none⟩) LE ce') := by rw [cell_of_row _ _ 0 _ _ (0, 0) hnb.box, ← eke]; rfl
      have HYR := Lib.hid q0
      have hbr : base ≤ wr.heap.size := by have := hat.bp.size; omega
      have hPBr : PB < wr.heap.size := hnb.lt
      have hPRr : PR < wr.heap.size := heap_ltN hat.res
      have hMk : m + 4 + 2 * n'.es.length ≤ m + 100 := by rw [← hLE]; omega
      clear hat hnb hfi eke hLE hoe
      go_wp2_with fail
      refine wp_region_held_drew (S := fun w' => w'.cell? ⟨PB, 0, none⟩ = some (.slice (some ⟨ge', 0, none⟩) LE ce')) (by kernel_rfl) ?_ (fun hHeld => ?_)
      · go_keep
      refine stk 0 125 ?_
      refine stk 1 126 ?_
      refine stk 2 127 ?_
      refine stk 3 128 ?_
      refine tr 4 rfl (by kernel_rfl) (fun K hK => ?_)
      go_simp
      go_at_call 40
      refine (cur_pick P _ cv _ wr.drew (HA.out.cur.below (Below.refl base wr).drew (by omega)) (by omega)).mono ?_
      rintro e w5 ⟨x5, rfl, hx5, hc5, hg5'⟩
      have hx2 : x5 < 2 := by omega
      have hg5 : wr.grownBy w5 (some P) := ⟨hg5'.os, hg5'.tape, hg5'.output, hg5'.size, hg5'.block⟩
      have H5 := Lib.hid (HA.out.draw hc5 hg5 hbr)
      have HB5 := Lib.hid (HB'.out.drawn hg5 (by omega) (by omega))
      have hz5 := hg5.size
      have q0 := (World.cell?_of_block (a := ⟨PB, 0, none⟩) (hg5.block PB hPBr (fun e => (by omega : PB ≠ P) (Option.some.inj e)))).trans q0
      have hw6 : IntKind.i64.wrap (40 + (x5 : Int)) = 40 + (x5 : Int) := IntWalk.i64_in _ (by omega)
      clear hx5 hc5 hg5 hg5'
      refine hK.out _ _ ?_ (fun hHeld => ?_)
      · go_keep
      clear hK K
      try simp only [Act.put, pu]
      refine stk 5 130 ?_
      refine stk 6 131 ?_
      refine wpAnyH_done (by kernel_rfl) ?_ _
      obtain ⟨-, -, -, qf⟩ := cells3 (Lib.hid HB5.out.box)
      have hbs5 : base ≤ w5.heap.size := by omega
      by_cases hlt : LE < 40 + x5
      · have hltT : (LE : Int) < 40 + (x5 : Int) := by omega
        have hoe : w5.ownsRow base 75 1 (val' .e) n'.es.length (valsN val' n'.es.length) := HB5.out.k.own .e trivial
        rw [← HLE.out, HVE.out] at hoe
        have HOE := Lib.hid hoe
        have hf0 := qf 0
        clear hoe qf
        go_upto_region 25 with (at_builtin; refine wpList_append1 w5 rfl (.tmp 133) (.tmp 134) 24 rfl base 75 _ 24 Tryz.underlying24 rowInfo rfl _ _ _ rfl _ rfl rfl HOE.out (by unfold maxLen; omega) (by omega) hbs5 ?_; intro v8 w8 hown8 hbl8 hgr8 hlt8 hob8; obtain ⟨A8, c8, rfl⟩ := own_slN hown8; have hg8 : w5.grownBy w8 (val' .e).ownBlock := (by rw [HVE.out]; exact hgr8); have hkB := (hg8.block PB HB5.out.lt (fun e => HB5.out.ne .e trivial e.symm)); have q0' := (World.cell?_of_block (a := ⟨PB, 0, none⟩) hkB).trans q0; have f0' := (World.frozen?_of_block (a := ⟨PB, 0, none⟩) hkB).trans hf0; clear q0 hf0 hkB)
        obtain ⟨w9, hw9⟩ : ∃ z, z = w8.setCell ⟨PB, 0, none⟩ (.slice A8 (LE + 1) c8) := ⟨_, rfl⟩
        rw [← hw9]
        obtain ⟨val9, hnb9⟩ := HB5.out.addRow (v := .slice none 0 0) (s := []) (w2 := w8) (v2 := .slice A8 (LE + 1) c8) (Below.refl _ _) hbs5 (World.ownsRow_nil _ _ _ _) hg8 (by rw [← HLE.out]; exact hown8) (by rw [HVE.out]; exact hob8.imp id fun ⟨g, h1, h2, _⟩ => ⟨g, h1, h2⟩)
        rw [← hw9] at hnb9
        have HN9 := Lib.hid hnb9
        have HF9 := Lib.hid (HFI.out.addNil (K' := N + 2 * n'.es.length + 1) (by omega))
        have HK9 := Lib.hid (show Kp base PR w5 w9 by rw [hw9]; exact (Kp.grown hg8 (HB5.out.apart H5.out.res .e trivial) hbs5 (by omega)).trans (Kp.cell (by omega) (by omega) _ _))
        have hC9 : w9.cell? ⟨PB, 0, none⟩ = some (.slice A8 (LE + 1) c8) := by rw [hw9]; exact World.cell?_setCell_same _ _ _ (by rw [q0'])
        have HC9 := Lib.hid hC9
        clear hw9 hown8 hbl8 hgr8 hob8 hg8 q0' f0' hC9 hnb9
        obtain ⟨A2', c2', en⟩ := own_slN (HN9.out.k.own .n trivial)
        obtain ⟨LI, hLI⟩ : ∃ z, z = n'.ins.length := ⟨_, rfl⟩
        replace en : val9 .n = .slice A2' LI c2' := by rw [en, hLI]; rfl
        have hoi : w9.ownsRow base 3 1 (val9 .n) n'.ins.length (n'.ins.map intV) := HN9.out.k.own .n trivial
        rw [← hLI, en] at hoi
        have hLI100 : LI ≤ 100 := by rw [hLI]; have := HFI.out.ins; rw [← HLE.out] at this; omega
        have HOI := Lib.hid hoi
        have HEN := Lib.hid en
        have HLI := Lib.hid hLI
        have q2 : w9.cell? ⟨PB, 2, none⟩ = some (.slice A2' LI c2') := by rw [cell_of_row _ _ 2 _ _ (0, 0) HN9.out.box, ← en]; rfl
        obtain ⟨-, -, -, qf⟩ := cells3 (Lib.hid HN9.out.box)
        have hf2 := qf 2
        have hz9 := HK9.out.size
        have hbs9 : base ≤ w9.heap.size := by omega
        clear hoi en hLI qf
        go_wp2_with (at_builtin; refine wpList_append1 w9 rfl (.tmp 138) (.tmp 139) 25 rfl base 3 _ 8 Tryz.underlying25 intInfo rfl _ _ _ rfl _ rfl rfl HOI.out (by unfold maxLen; omega) (by omega) hbs9 ?_; intro v10 w10 hown8 hbl8 hgr8 hlt8 hob8; obtain ⟨A10, c10, rfl⟩ := own_slN hown8; have hg8 : w9.grownBy w10 (val9 .n).ownBlock := (by rw [HEN.out]; exact hgr8); have hkB := (hg8.block PB HN9.out.lt (fun e => HN9.out.ne .n trivial e.symm)); have q2' := (World.cell?_of_block (a := ⟨PB, 2, none⟩) hkB).trans q2; have f2' := (World.frozen?_of_block (a := ⟨PB, 2, none⟩) hkB).trans hf2; clear q2 hf2)
        obtain ⟨wb, hwb⟩ : ∃ z, z = w10.setCell ⟨PB, 2, none⟩ (.slice A10 (LI + 1) c10) := ⟨_, rfl⟩
        have hnbb := HN9.out.growIns (v7 := .slice A10 (LI + 1) c10) (xs := n'.ins ++ [0]) hg8 (by rw [List.length_append, ← HLI.out, List.map_append]; exact hown8) (by rw [HEN.out]; exact hob8.imp id fun ⟨g, h1, h2, _⟩ => ⟨g, h1, h2⟩)
        have HCB := Lib.hid (show wb.cell? ⟨PB, 0, none⟩ = some (.slice A8 (LE + 1) c8) by rw [hwb]; exact (World.cell?_setCell_other _ _ _ _ (by simp)).trans ((World.cell?_of_block (a := ⟨PB, 0, none⟩) hkB).trans HC9.out))
        have HKB := Lib.hid (show Kp base PR w9 wb by rw [hwb]; exact (Kp.grown hg8 (HN9.out.apart ((HK9.out.block PR (.inr rfl)).trans H5.out.res) .n trivial) hbs9 (by omega)).trans (Kp.cell (by omega) (by omega) _ _))
        rw [← hwb] at hnbb ⊢
        have HNBB := Lib.hid hnbb
        have HFB := Lib.hid (HF9.out.addIn (y := 0) (K' := N + 2 * n'.es.length + 2) (by omega) ⟨by omega, by omega⟩)
        clear hwb hown8 hbl8 hgr8 hob8 hg8 q2' f2' hkB hnbb
        go_roundw
        case rel => exact ⟨_, _, ((H5.out.step (Q' := fun n' => FitN n' 200 10) ⟨_, _, HF9.out.more (by rw [← HLE.out]; omega) (by omega), HN9.out⟩ HK9.out).step (Q' := fun n' => FitN n' 200 10) ⟨_, _, HFB.out.more (by rw [← HLE.out]; omega) (by omega), HNBB.out⟩ HKB.out).more (by show _ ≤ m + 4 + 2 * (n'.es ++ [[]]).length; rw [List.length_append, List.length_singleton]; omega) fun _ h => h, HNBB.out, HFB.out.more (by show _ ≤ N + 2 * (n'.es ++ [[]]).length; rw [List.length_append, List.length_singleton]; omega) (Nat.le_refl _), by show _ ≤ (n'.es ++ [[]]).length; rw [List.length_append, List.length_singleton, ← HLE.out]; omega, by show (n'.es ++ [[]]).length ≤ 41; rw [List.length_append, List.length_singleton, ← HLE.out]; omega⟩
        case measure =>
          have h1 := slLen_eq HYR.out
          have h2 := slLen_eq HCB.out
          rw [h1, h2]
          omega
      · have hltF : ((LE : Int) < 40 + (x5 : Int)) = False := eq_false (by omega)
        obtain ⟨q0', q1, q2, -⟩ := cells3 (Lib.hid HB5.out.box)
        clear q0 q0' q2
        go_upto_region 29 with fail
        obtain ⟨w9, hw9⟩ : ∃ z, z = w5.setCell ⟨PB, 1, none⟩ (.slice none 0 0) := ⟨_, rfl⟩
        rw [← hw9]
        have H7 := Lib.hid (show NAt w P PB PR base cv _ (fun n' => FitN n' 200 10) w9 by
          rw [hw9]
          exact H5.out.step ⟨_, _, (HFI.out.withIds (xs := []) (Nat.zero_le _) (fun x hx => by cases hx)).more (by rw [← HLE.out]; omega) (by omega), HB5.out.noIds⟩ (Kp.cell (by omega) (by omega) _ _))
        clear hw9 q1 qf
        obtain ⟨nz, valz, hQz, hnz⟩ := H7.out.net
        obtain ⟨Z0, l0, ez0⟩ := own_slN (hnz.k.own .e trivial)
        obtain ⟨Z1, l1, ez1⟩ := own_slN (hnz.k.own .i trivial)
        obtain ⟨Z2, l2, ez2⟩ := own_slN (hnz.k.own .n trivial)
        have hbz := hnz.box
        rw [ez0, ez1, ez2] at hbz
        have HEZ := Lib.hid (And.intro ez0 (And.intro ez1 ez2))
        have HNZ := Lib.hid hnz.k
        have HQZ := Lib.hid hQz
        clear ez0 ez1 ez2 hnz hQz
        generalize (rowN nz valz .e).len = s0 at HEZ hbz
        generalize (rowN nz valz .i).len = s1 at HEZ hbz
        generalize (rowN nz valz .n).len = s2 at HEZ hbz
        have HRZ := Lib.hid H7.out.res
        obtain ⟨b0, b1, b2, bf⟩ := cells3 (Lib.hid hbz)
        obtain ⟨p0, p1, p2, pf⟩ := cells3 HRZ
        obtain ⟨we, hwe, HE, hge⟩ := set3 HRZ (.slice Z0 s0 l0) (.slice Z1 s1 l1) (.slice Z2 s2 l2)
        have HWE := Lib.hid hwe
        clear hwe hbz
        go_wp2_with fail
        rw [← HWE.out]
        obtain ⟨z0, z1, z2, -⟩ := cells3 HE
        have hRb : base ≤ PR := by omega
        have hKz := NetK.past HNZ.out HRZ.out no_tyN_net hge
        have hCz : CurR we P cv _ := H7.out.cur.keep (show _ ≤ m + 1000 from by omega) fun b hb' => hge.block b (by have := H7.out.cur.lt; omega) (fun e => by have e' : b = PR := Option.some.inj e; have := H7.out.hP; omega)
        have hBz := H7.out.bp.trans (Bp.other hge (by have := H7.out.bp.size; omega) hRb)
        exact bodyPost_ret (v := .agg #[.slice Z0 s0 l0, .slice Z1 s1 l1, .slice Z2 s2 l2]) (by simp [results, Tryz.results156, go_sem, z0, z1, z2]) rfl ⟨nz, valz, by rw [HEZ.out.1, HEZ.out.2.1, HEZ.out.2.2], HQZ.out, OwnN.mono hKz hbl.2, hCz, hBz.mono hbl.2⟩
  · have HRZ := Lib.hid H4.out.res
    obtain ⟨p0, p1, p2, pf⟩ := cells3 HRZ
    obtain ⟨we, hwe, HE, hge⟩ := set3 HRZ (.slice none 0 0) (.slice none 0 0) (.slice none 0 0)
    have HWE := Lib.hid hwe
    clear hwe q0 q1 q2 qf
    go_wp2_with fail
    rw [← HWE.out]
    obtain ⟨z0, z1, z2, -⟩ := cells3 HE
    have hCz : CurR we P cv _ := H4.out.cur.keep (show _ ≤ m + 1000 from by omega) fun b hb' => hge.block b (by omega) (fun e => by have e' : b = PR := Option.some.inj e; omega)
    have hBz := H4.out.bp.trans (Bp.other hge hbs (by omega))
    exact bodyPost_ret (v := .agg #[.slice none 0 0, .slice none 0 0, .slice none 0 0]) (by simp [results, Tryz.results156, go_sem, z0, z1, z2]) rfl ⟨⟨[], [], []⟩, fun _ => .slice none 0 0, rfl, FitN.nil _ _, ⟨fun j hj => by
      cases j with
      | r k => exact absurd (show k < 0 from hj) (by omega)
      | _ => exact World.ownsRow_nil _ _ _ _, fun _ _ _ _ _ => .inl rfl⟩, hCz, hBz.mono hbl.2⟩
  · have hxf : ∀ k : Nat, k < 9 → ((x : Int) = (k : Int)) = False := fun k hk => eq_false (by omega)
    have HZ := Lib.hid (H4.out.more (m' := m + 4) (Q' := fun n' => FitN n' 200 10) (by omega) fun n' h => by rw [h]; exact HF.out.more (by omega) (by omega))
    have e0 : ((x : Int) = 0) = False := eq_false (by omega)
    have e1 : ((x : Int) = 1) = False := eq_false (by omega)
    have e2 : ((x : Int) = 2) = False := eq_false (by omega)
    have e3 : ((x : Int) = 3) = False := eq_false (by omega)
    have e4 : ((x : Int) = 4) = False := eq_false (by omega)
    have e5 : ((x : Int) = 5) = False := eq_false (by omega)
    have e6 : ((x : Int) = 6) = False := eq_false (by omega)
    have e7 : ((x : Int) = 7) = False := eq_false (by omega)
    have e8 : ((x : Int) = 8) = False := eq_false (by omega)
    go_upto_region 29 with fail
    clear hxf q0 q1 q2 qf
    obtain ⟨nz, valz, hQz, hnz⟩ := HZ.out.net
    obtain ⟨Z0, l0, ez0⟩ := own_slN (hnz.k.own .e trivial)
    obtain ⟨Z1, l1, ez1⟩ := own_slN (hnz.k.own .i trivial)
    obtain ⟨Z2, l2, ez2⟩ := own_slN (hnz.k.own .n trivial)
    have hbz := hnz.box
    rw [ez0, ez1, ez2] at hbz
    have HEZ := Lib.hid (And.intro ez0 (And.intro ez1 ez2))
    have HNZ := Lib.hid hnz.k
    have HQZ := Lib.hid hQz
    clear ez0 ez1 ez2 hnz hQz
    generalize (rowN nz valz .e).len = s0 at HEZ hbz
    generalize (rowN nz valz .i).len = s1 at HEZ hbz
    generalize (rowN nz valz .n).len = s2 at HEZ hbz
    have HRZ := Lib.hid HZ.out.res
    obtain ⟨b0, b1, b2, bf⟩ := cells3 (Lib.hid hbz)
    obtain ⟨p0, p1, p2, pf⟩ := cells3 HRZ
    obtain ⟨we, hwe, HE, hge⟩ := set3 HRZ (.slice Z0 s0 l0) (.slice Z1 s1 l1) (.slice Z2 s2 l2)
    have HWE := Lib.hid hwe
    clear hwe hbz
    go_wp2_with fail
    rw [← HWE.out]
    obtain ⟨z0, z1, z2, -⟩ := cells3 HE
    have hRb : base ≤ PR := by omega
    have hKz := NetK.past HNZ.out HRZ.out no_tyN_net hge
    have hCz : CurR we P cv _ := HZ.out.cur.keep (show _ ≤ m + 1000 from by omega) fun b hb' => hge.block b (by have := HZ.out.cur.lt; omega) (fun e => by have e' : b = PR := Option.some.inj e; have := HZ.out.hP; omega)
    have hBz := HZ.out.bp.trans (Bp.other hge (by have := HZ.out.bp.size; omega) hRb)
    exact bodyPost_ret (v := .agg #[.slice Z0 s0 l0, .slice Z1 s1 l1, .slice Z2 s2 l2]) (by simp [results, Tryz.results156, go_sem, z0, z1, z2]) rfl ⟨nz, valz, by rw [HEZ.out.1, HEZ.out.2.1, HEZ.out.2.2], HQZ.out, OwnN.mono hKz hbl.2, hCz, hBz.mono hbl.2⟩
end Go.Proofs.YtdghoienjegffaaGreat
