/-
  The reference's srApply and ApplyLab: what a store is after an entry.
  The program's copyItems, findItem and slices.BinarySearchFunc of items: the place of a name.
  slices.Delete and slices.Insert of items, on a row of the call's own.
  The program's putItem, applyLab and ApplyLab: what a store is after an entry, in memory of its own.
  The program's applyLab and ApplyLab: what a store is after an entry, in memory of its own.
-/
import Derived.Test.YtcfbkickiijjkaaGreatDoorVApplyA
import Derived.Test.YtcfbkickiijjkaaGreatDoorVShelf4
import Derived.Lib.Walk
namespace Go.Proofs.YtcfbkickiijjkaaGreatDoor
section
open Go.RowKit
set_option linter.all false
theorem ItemsSt.slice {base : Nat} {w : World} {v : Value} {xs : List Item} (h : ItemsSt base w v xs) : ∃ A c, v = .slice A xs.length c ∧ xs.length ≤ c ∧ c ≤ maxLen := by
  obtain ⟨vs, bs, h1, _⟩ := h
  rcases h1.2 with ⟨e, h⟩ | ⟨g, c, cur, e, _, _, k1, k2, _⟩
  · exact ⟨none, 0, by rw [e, h], by omega, Nat.zero_le _⟩
  · exact ⟨_, _, e, k1, k2⟩
theorem ItemsR.slice {w : World} {B : Nat} {v : Value} {xs : List Item} (h : ItemsR w B v xs) : ∃ A c, v = .slice A xs.length c := by
  obtain ⟨A, c, e, _⟩ := h
  exact ⟨A, c, e⟩
theorem name3 {e : Entry} (h : entryP e) (h3 : e.kd = 3) : nameP e.tn.data.toList := by
  rcases h with h | h | h
  · have := h.1; omega
  · have := h.1; omega
  · exact h.2.2.1
theorem itemP.sz' {x : Item} (h : itemP x) : szItem x ≤ 1000 := by
  have h1 := h.good.sz
  have h2 := h.cert.sz
  have h3 := h.1.2.2
  have h4 := Lib.size_eq x.nm
  unfold szItem
  omega
def ApiPost (xs : List Item) (en : Entry) (w : World) (e : Ending) (w' : World) : Prop :=
  ∃ v, e = .returned (.tuple #[v, .bool (apB xs en)]) ∧ (∃ A n c, v = .slice A n c) ∧ (apB xs en = true → ∃ bs, OwnItems w' v (apX xs en) bs ∧ bs.Nodup ∧ ∀ b ∈ bs, w.heap.size ≤ b ∧ b < w'.heap.size) ∧ Below w.heap.size w w'
theorem api_f {xs : List Item} {en : Entry} {w W : World} {A : Option Addr} {n c : Nat} (h : apB xs en = false) (hb : Below w.heap.size w W) : ApiPost xs en w (.returned (.tuple #[.slice A n c, .bool false])) W := by
  unfold ApiPost
  rw [h]
  exact ⟨_, rfl, ⟨_, _, _, rfl⟩, (fun h => by cases h), hb⟩
theorem api_t {base : Nat} {xs ys : List Item} {en : Entry} {w W : World} {A : Option Addr} {n c : Nat} (b : Bool) (h : apB xs en = b) (hx : apX xs en = ys) (hr : ItemsSt base W (.slice A n c) ys) (hb0 : w.heap.size ≤ base) (hb : Below w.heap.size w W) : ApiPost xs en w (.returned (.tuple #[.slice A n c, .bool b])) W := by
  unfold ApiPost
  rw [h]
  refine ⟨_, rfl, ⟨_, _, _, rfl⟩, (fun h => ?_), hb⟩
  obtain ⟨bs, ho, hn, hr⟩ := hr.fin
  exact ⟨bs, by rw [hx]; exact ho, hn, fun b hb => by have := hr b hb; omega⟩
set_option maxRecDepth 100000 in
set_option maxHeartbeats 1000000 in
theorem spec_srApply (v : Value) (xs : List Item) (en : Entry) (va vf vs vr : Value) (w : World) (h : ItemsR w w.heap.size v xs) (hst : storeP xs) (hi : ItemR w w.heap.size en.it va vf vs vr) (hz : szEntry en ≤ 1048576) (hlb : I64 en.it.lb) :
  Calls Tryz.prog 37 #[v, entryV en va vf vs vr] w (ApiPost xs en w) := by
 obtain ⟨Aa, ma, ca, rfl⟩ := hi.a.isSlice'
 obtain ⟨Af, mf, cf, rfl⟩ := hi.f.isSlice
 obtain ⟨As, ms, cs, rfl⟩ := hi.s.isSlice
 obtain ⟨Ar, mr, cr, rfl⟩ := hi.r.isSlice'
 obtain ⟨Ax, cx, rfl⟩ := h.slice
 have Ri := Lib.hid h; clear h
 have Re := Lib.hid hi; clear hi
 have ST := Lib.hid hst; clear hst
 have hxl : xs.length ≤ 8 := ST.out.2
 have HOK := Lib.hid (storeP.okI ST.out.all)
 have hzA : szEntry en ≤ 2000000 := Nat.le_trans hz (by omega)
 have hzB : szItem en.it ≤ 2000000 := by unfold szEntry at hz; omega
 have hzC : en.nm.size ≤ maxLen ∧ en.tn.size ≤ maxLen := ⟨(nm_len hzA).1, (nm_len hzA).2.1⟩
 have hzx : ∀ x ∈ xs, szItem x ≤ 2000000 := fun x hx => Nat.le_trans (HOK.out x hx).1 (by omega)
 have HZX := Lib.hid hzx; clear hzx
 have HLB := Lib.hid hlb; clear hlb
 have hB := Below.refl w.heap.size w
 obtain ⟨w0, hw0⟩ : ∃ x, x = w.alloc (.cells #[.int .i64 en.kd, .string en.nm, .string en.tn, .string en.it.nm, .int .i64 en.it.n, .slice Aa ma ca, .int .i64 en.it.cl, .int .i64 en.it.lb, .slice Af mf cf, .slice As ms cs, .slice Ar mr cr] 55) := ⟨_, rfl⟩
 have hba0 : Below w.heap.size w w0 := by rw [hw0]; exact bl_alloc (Below.refl _ _) _
 have HE0 := Lib.hid (show w0.heap[w.heap.size]? = some (.cells #[.int .i64 en.kd, .string en.nm, .string en.tn, .string en.it.nm, .int .i64 en.it.n, .slice Aa ma ca, .int .i64 en.it.cl, .int .i64 en.it.lb, .slice Af mf cf, .slice As ms cs, .slice Ar mr cr] 55) by rw [hw0]; exact heap_alloc_new w _)
 have hl0 : w.heap.size < w0.heap.size := by rw [hw0]; simp
 have HW0 := Lib.hid hw0; clear hw0
 have hz1 := hba0.size
 replace hB := bl_trans hB hba0
 replace Ri := Lib.hid (Ri.out.below (hba0.mono (by omega)))
 replace Re := Lib.hid (Re.out.below (hba0.mono (by omega)))
 go_enter Tryz.func37, Tryz.ntmps37
 go_wp2_with fail
 rw [← HW0.out]
 have e01 := cells11 HE0
 refine (spec_srEntry en _ _ _ _ w0 (Re.out.more (show w.heap.size ≤ w0.heap.size by omega)) hzA HLB.out).mono ?_
 rintro e w1 ⟨rfl, hb1⟩
 have hz2 := hb1.size
 replace hB := bl_trans hB hb1
 clear e01
 replace HE0 := bk HE0 hb1
 replace Ri := Lib.hid (Ri.out.below (hb1.mono (by omega)))
 replace Re := Lib.hid (Re.out.below (hb1.mono (by omega)))
 have e02 := cells11 HE0
 cases q0 : entryB en with
 | false =>
  have HN := Lib.hid (ap_not (xs := xs) (fun h => propB_ff q0 h)); clear q0
  go_wp2_with fail
  go_ret2
  exact api_f HN.out hB
 | true =>
  have HE := Lib.hid (show entryP en from propB_iff.1 q0); clear q0
  by_cases hk : en.kd = 1
  ·
   obtain ⟨e1, e2⟩ := ap_1 (xs := xs) HE.out hk
   have E1 := Lib.hid e1; clear e1
   have E2 := Lib.hid e2; clear e2
   have k1 : (en.kd == 1) = true := by rw [hk]; rfl
   clear hk
   obtain ⟨kk, hkk⟩ : ∃ kk, kk = fN en.it.nm xs := ⟨_, rfl⟩
   obtain ⟨YS, hYS⟩ : ∃ ys, ys = delI xs kk := ⟨_, rfl⟩
   obtain ⟨ZS, hZS⟩ : ∃ zs, zs = insI en.it YS := ⟨_, rfl⟩
   rw [← hkk, ← hYS, ← hZS] at E1 E2
   have hyl : YS.length ≤ 8 := by rw [hYS]; exact Nat.le_trans (delI_le _ _) hxl
   have HYM := Lib.hid (show ∀ x ∈ YS, szItem x ≤ 2000000 from fun x hx => HZX.out x (delI_mem (by rw [← hYS]; exact hx)))
   have hzl : ZS.length = YS.length + 1 := by rw [hZS]; exact ins_len _ _
   have HZL := Lib.hid hzl; clear hzl
   have HK := Lib.hid hkk; clear hkk
   have HY := Lib.hid hYS; clear hYS
   have HZ := Lib.hid hZS; clear hZS
   go_wp2_with fail
   refine wp_region_held_drew (S := (fun w' => w'.cell? ⟨w.heap.size, 3, none⟩ = some (.string en.it.nm) ∧ w'.cell? ⟨w.heap.size, 4, none⟩ = some (.int .i64 en.it.n) ∧ w'.cell? ⟨w.heap.size, 5, none⟩ = some (.slice Aa ma ca) ∧ w'.cell? ⟨w.heap.size, 6, none⟩ = some (.int .i64 en.it.cl) ∧ w'.cell? ⟨w.heap.size, 7, none⟩ = some (.int .i64 en.it.lb) ∧ w'.cell? ⟨w.heap.size, 8, none⟩ = some (.slice Af mf cf) ∧ w'.cell? ⟨w.heap.size, 9, none⟩ = some (.slice As ms cs) ∧ w'.cell? ⟨w.heap.size, 10, none⟩ = some (.slice Ar mr cr))) (by kernel_rfl) ?_ (fun hHeld => ?_)
   ·
    go_keep
   have hz3 := (Below.refl w1.heap.size w1).drew.size
   replace hB := bl_trans hB (Below.refl w1.heap.size w1).drew
   clear e02
   replace HE0 := Lib.hid (((Below.refl w1.heap.size w1).drew.block (w.heap.size) (show w.heap.size < w1.heap.size by omega)).trans HE0.out)
   replace Ri := Lib.hid (Ri.out.below ((Below.refl w1.heap.size w1).drew.mono (by omega)))
   replace Re := Lib.hid (Re.out.below ((Below.refl w1.heap.size w1).drew.mono (by omega)))
   have e03 := cells11 HE0
   refine tk 0 15 rfl rfl ?_
   try simp only [pu]
   refine tk 1 16 rfl rfl ?_
   try simp only [pu]
   refine tk 2 17 rfl rfl ?_
   try simp only [pu]
   refine tk 3 18 rfl rfl ?_
   try simp only [pu]
   refine tk 4 19 rfl rfl ?_
   try simp only [pu]
   refine tk 7 22 rfl rfl ?_
   try simp only [pu]
   refine tk 8 23 rfl rfl ?_
   try simp only [pu]
   refine take_ready 5 rfl (by kernel_rfl) (fun K hK => ?_)
   go_simp
   go_at_call 56
   refine (spec_srFind _ xs en.it.nm w1.drew (Ri.out.more (show w.heap.size ≤ w1.drew.heap.size by omega)) ST.out.sd (by omega)).mono ?_
   rintro e w2 ⟨he, hb2⟩
   rw [← HK.out] at he
   subst he
   have hz4 := hb2.size
   replace hB := bl_trans hB hb2
   clear e03
   replace HE0 := bk HE0 hb2
   replace Ri := Lib.hid (Ri.out.below (hb2.mono (by omega)))
   replace Re := Lib.hid (Re.out.below (hb2.mono (by omega)))
   have e04 := cells11 HE0
   refine hK.out _ _ ?_ (fun hHeld => ?_)
   ·
    go_keep
   clear hK K
   try simp only [pu]
   refine take_ready 6 rfl (by kernel_rfl) (fun K hK => ?_)
   go_simp
   go_at_call 55
   refine (spec_srWithout _ xs kk w2 (Ri.out.more (show w.heap.size ≤ w2.heap.size by omega)) HZX.out (by omega)).mono ?_
   rintro e w3 ⟨v2, rfl, hst2, hb3⟩
   have hz5 := hb3.size
   replace hB := bl_trans hB hb3
   clear e04
   replace HE0 := bk HE0 hb3
   replace Ri := Lib.hid (Ri.out.below (hb3.mono (by omega)))
   replace Re := Lib.hid (Re.out.below (hb3.mono (by omega)))
   have e05 := cells11 HE0
   rw [← HY.out] at hst2
   obtain ⟨A2, c2, rfl, -, -⟩ := hst2.slice
   have Ry := Lib.hid hst2.reads; clear hst2
   refine hK.out _ _ ?_ (fun hHeld => ?_)
   ·
    go_keep
   clear hK K
   try simp only [pu]
   refine take_ready 9 rfl (by kernel_rfl) (fun K hK => ?_)
   go_simp
   go_at_call 54
   refine (spec_srWith _ YS en.it _ _ _ _ w3 (Ry.out.more (show w3.heap.size ≤ w3.heap.size by omega)) (Re.out.more (show w.heap.size ≤ w3.heap.size by omega)) HYM.out hzB (by omega)).mono ?_
   rintro e w4 ⟨v3, rfl, hst3, hb4⟩
   have hz6 := hb4.size
   replace hB := bl_trans hB hb4
   clear e05
   replace HE0 := bk HE0 hb4
   replace Ri := Lib.hid (Ri.out.below (hb4.mono (by omega)))
   replace Re := Lib.hid (Re.out.below (hb4.mono (by omega)))
   replace Ry := Lib.hid (Ry.out.below (hb4.mono (by omega)))
   obtain ⟨e06_0, e06_1, e06_2, e06_3, e06_4, e06_5, e06_6, e06_7, e06_8, e06_9, e06_10, e06_f⟩ := cells11 HE0
   rw [← HZ.out] at hst3
   obtain ⟨A3, c3, rfl, -, -⟩ := hst3.slice
   have HZ3 := Lib.hid hst3; clear hst3
   refine hK.out _ _ ?_ (fun hHeld => ?_)
   ·
    go_keep
   clear hK K
   try simp only [pu]
   refine tk 10 6 rfl rfl ?_
   try simp only [pu]
   refine wpAnyH_done (by kernel_rfl) ?_ _
   go_wp2_with fail
   go_ret2
   exact api_t _ E2.out E1.out HZ3.out (by omega) hB
  ·
   have k1 : (en.kd == 1) = false := by rw [beq_eq_false_iff_ne]; exact hk
   go_wp2_with fail
   refine (spec_srFind _ xs en.nm w1 (Ri.out.more (show w.heap.size ≤ w1.heap.size by omega)) ST.out.sd (by omega)).mono ?_
   rintro e w2 ⟨he, hb2⟩
   have hz3 := hb2.size
   replace hB := bl_trans hB hb2
   clear e02
   replace HE0 := bk HE0 hb2
   replace Ri := Lib.hid (Ri.out.below (hb2.mono (by omega)))
   replace Re := Lib.hid (Re.out.below (hb2.mono (by omega)))
   have e03 := cells11 HE0
   cases q1 : hasN en.nm xs with
   | false =>
    rw [fN_f q1] at he
    subst he
    have HN := Lib.hid (ap_none hk q1); clear q1 hk
    go_wp2_with fail
    go_ret2
    exact api_f HN.out hB
   | true =>
    obtain ⟨x, hx, -⟩ := has_cnt ST.out.sd q1
    have hkl := (List.getElem?_eq_some_iff.1 hx).1
    have HF := Lib.hid (fN_t q1)
    rw [HF.out] at he
    subst he
    obtain ⟨kk, hkk⟩ : ∃ kk, kk = cntN en.nm xs := ⟨_, rfl⟩
    rw [← hkk] at HF hx hkl ⊢
    have HK := Lib.hid hkk; clear hkk
    have HX := Lib.hid hx; clear hx
    have Q1 := Lib.hid q1; clear q1
    obtain ⟨YS, hYS⟩ : ∃ ys, ys = delI xs (kk : Int) := ⟨_, rfl⟩
    have hyl : YS.length ≤ 8 := by rw [hYS]; exact Nat.le_trans (delI_le _ _) hxl
    have HYM := Lib.hid (show ∀ x ∈ YS, szItem x ≤ 2000000 from fun x hx => HZX.out x (delI_mem (by rw [← hYS]; exact hx)))
    have HYS := Lib.hid (show Sd YS by rw [hYS]; exact delI_sd ST.out.sd)
    have HY := Lib.hid hYS; clear hYS
    have hn0 : ¬ ((kk : Int) < 0) := by omega
    go_wp2_with fail
    refine (spec_srWithout _ xs (kk : Int) w2 (Ri.out.more (show w.heap.size ≤ w2.heap.size by omega)) HZX.out (by omega)).mono ?_
    rintro e w3 ⟨v2, rfl, hst2, hb3⟩
    have hz4 := hb3.size
    replace hB := bl_trans hB hb3
    clear e03
    replace HE0 := bk HE0 hb3
    replace Ri := Lib.hid (Ri.out.below (hb3.mono (by omega)))
    replace Re := Lib.hid (Re.out.below (hb3.mono (by omega)))
    have e04 := cells11 HE0
    rw [← HY.out] at hst2
    obtain ⟨A2, c2, rfl, -, -⟩ := hst2.slice
    have HY2 := Lib.hid hst2
    have Ry := Lib.hid hst2.reads; clear hst2
    by_cases hk3 : en.kd = 3
    ·
     have k3 : (en.kd == 3) = true := by rw [hk3]; rfl
     have HK3 := Lib.hid hk3; clear hk3 hk k1
     go_wp2_with fail
     refine (spec_srFind _ YS en.tn w3 (Ry.out.more (show w3.heap.size ≤ w3.heap.size by omega)) HYS.out (by omega)).mono ?_
     rintro e w4 ⟨he, hb4⟩
     have hz5 := hb4.size
     replace hB := bl_trans hB hb4
     clear e04
     replace HE0 := bk HE0 hb4
     replace Ri := Lib.hid (Ri.out.below (hb4.mono (by omega)))
     replace Re := Lib.hid (Re.out.below (hb4.mono (by omega)))
     replace Ry := Lib.hid (Ry.out.below (hb4.mono (by omega)))
     have e05 := cells11 HE0
     cases q2 : hasN en.tn YS with
     | true =>
      rw [fN_t q2] at he
      subst he
      have HN := Lib.hid (ap_taken (xs := xs) HK3.out (by rw [HF.out, ← HY.out]; exact q2)); clear q2
      have hn1 : (0 : Int) ≤ (cntN en.tn YS : Int) := by omega
      go_wp2_with fail
      go_ret2
      exact api_f HN.out hB
     | false =>
      rw [fN_f q2] at he
      subst he
      obtain ⟨e1, e2⟩ := ap_3 (xs := xs) HE.out HK3.out Q1.out (by rw [HF.out, ← HY.out]; exact q2) (by rw [← HK.out]; exact HX.out)
      rw [HF.out, ← HY.out] at e1
      obtain ⟨ZS, hZS⟩ : ∃ zs, zs = insI (rnI x en.tn) YS := ⟨_, rfl⟩
      rw [← hZS] at e1
      have hzl : ZS.length ≤ 8 := by rw [← e1]; exact ap_len ST.out e2
      have HZ := Lib.hid hZS; clear hZS q2
      have E1 := Lib.hid e1; clear e1
      have E2 := Lib.hid e2; clear e2
      obtain ⟨A0, c0, e0, -, -, hcs⟩ := Ri.out.more (show w.heap.size ≤ w4.heap.size by omega)
      obtain ⟨b0, o0, hA, hbb, hcx⟩ := hcs (by omega)
      obtain ⟨rfl, rfl⟩ : Ax = A0 ∧ cx = c0 := by cases e0; exact ⟨rfl, rfl⟩
      subst hA
      clear e0
      obtain ⟨ua, uf, us, ur, hcl, hr⟩ := hcx kk x HX.out
      obtain ⟨Ba, ma2, da, rfl⟩ := hr.a.isSlice'
      obtain ⟨Bf, mf2, df, rfl⟩ := hr.f.isSlice
      obtain ⟨Bs, ms2, ds, rfl⟩ := hr.s.isSlice
      obtain ⟨Br, mr2, dr, rfl⟩ := hr.r.isSlice'
      have q0 : w4.cell? ⟨b0, o0 + kk * 8, none⟩ = some (.string x.nm) := hcl 0 _ rfl
      have q1 : w4.cell? ⟨b0, o0 + kk * 8 + 1, none⟩ = some (.int .i64 x.n) := hcl 1 _ rfl
      have q2 : w4.cell? ⟨b0, o0 + kk * 8 + 2, none⟩ = some (.slice Ba ma2 da) := hcl 2 _ rfl
      have q3 : w4.cell? ⟨b0, o0 + kk * 8 + 3, none⟩ = some (.int .i64 x.cl) := hcl 3 _ rfl
      have q4 : w4.cell? ⟨b0, o0 + kk * 8 + 4, none⟩ = some (.int .i64 x.lb) := hcl 4 _ rfl
      have q5 : w4.cell? ⟨b0, o0 + kk * 8 + 5, none⟩ = some (.slice Bf mf2 df) := hcl 5 _ rfl
      have q6 : w4.cell? ⟨b0, o0 + kk * 8 + 6, none⟩ = some (.slice Bs ms2 ds) := hcl 6 _ rfl
      have q7 : w4.cell? ⟨b0, o0 + kk * 8 + 7, none⟩ = some (.slice Br mr2 dr) := hcl 7 _ rfl
      have Rx := Lib.hid hr; clear hr hcl hcs hcx
      have hxz := HZX.out x (List.mem_of_getElem? HX.out)
      have hkk0 : (0 : Int) ≤ (kk : Int) := by omega
      have hkk1 : (kk : Int) < (xs.length : Int) := by omega
      go_wp2_with fail
      refine (spec_srOwn x _ _ _ _ w4 (Rx.out.more (show w4.heap.size ≤ w4.heap.size by omega)) hxz).mono ?_
      rintro e w5 ⟨za, zf, zs, zr, bo, rfl, ho, hnd, hrg, hb5⟩
      have hz6 := hb5.size
      replace hB := bl_trans hB hb5
      clear e05
      replace HE0 := bk HE0 hb5
      replace Ri := Lib.hid (Ri.out.below (hb5.mono (by omega)))
      replace Re := Lib.hid (Re.out.below (hb5.mono (by omega)))
      replace Ry := Lib.hid (Ry.out.below (hb5.mono (by omega)))
      replace Rx := Lib.hid (Rx.out.below (hb5.mono (by omega)))
      obtain ⟨e06_0, e06_1, e06_2, e06_3, e06_4, e06_5, e06_6, e06_7, e06_8, e06_9, e06_10, e06_f⟩ := cells11 HE0
      clear q0 q1 q2 q3 q4 q5 q6 q7
      obtain ⟨ba, bf, bz, br, oa, of, oz, or, hbs⟩ := id ho
      obtain ⟨Ca, na, ea, rfl⟩ := oa.isSlice
      obtain ⟨Cf, nf, ef, rfl⟩ := of.1.isSlice
      obtain ⟨Cs, ns, es, rfl⟩ := oz.1.isSlice
      obtain ⟨Cr, nr, er, rfl⟩ := or.isSlice
      clear oa of oz or hbs
      have Ro := Lib.hid (ho.reads (B := w5.heap.size) (fun b hb => (hrg b hb).2)); clear ho hnd hrg
      have e5 : w5.cell? ⟨w.heap.size, 2, none⟩ = some (.string en.tn) := e06_2
      have hl5 : w.heap.size < w5.heap.size := by omega
      have hba7 := bl_alloc (Below.refl w5.heap.size w5) (.cells #[.string en.tn, .int .i64 x.n, .slice Ca na ea, .int .i64 x.cl, .int .i64 x.lb, .slice Cf nf ef, .slice Cs ns es, .slice Cr nr er] 53)
      have HO0 := Lib.hid (heap_alloc_new w5 (.cells #[.string en.tn, .int .i64 x.n, .slice Ca na ea, .int .i64 x.cl, .int .i64 x.lb, .slice Cf nf ef, .slice Cs ns es, .slice Cr nr er] 53))
      have hs7 : w5.heap.size < (w5.alloc (.cells #[.string en.tn, .int .i64 x.n, .slice Ca na ea, .int .i64 x.cl, .int .i64 x.lb, .slice Cf nf ef, .slice Cs ns es, .slice Cr nr er] 53)).heap.size := by simp
      have HS7 := Lib.hid hs7; clear hs7; have hs7 := HS7.out
      have hz8 := hba7.size
      replace hB := bl_trans hB hba7
      clear e06_0 e06_1 e06_2 e06_3 e06_4 e06_5 e06_6 e06_7 e06_8 e06_9 e06_10 e06_f
      replace HE0 := bk HE0 hba7
      replace Ri := Lib.hid (Ri.out.below (hba7.mono (by omega)))
      replace Re := Lib.hid (Re.out.below (hba7.mono (by omega)))
      replace Ry := Lib.hid (Ry.out.below (hba7.mono (by omega)))
      replace Rx := Lib.hid (Rx.out.below (hba7.mono (by omega)))
      replace Ro := Lib.hid (Ro.out.below (hba7.mono (by omega)))
      have e07 := cells11 HE0
      have o01 := cells8 HO0
      go_wp2_with fail
      generalize w5.alloc (.cells #[.string en.tn, .int .i64 x.n, .slice Ca na ea, .int .i64 x.cl, .int .i64 x.lb, .slice Cf nf ef, .slice Cs ns es, .slice Cr nr er] 53) = w7 at *
      have hnp : itemP (rnI x en.tn) := rn_item (ST.out.all x (List.mem_of_getElem? HX.out)) (name3 HE.out HK3.out)
      have hnz := itemP.sz' hnp
      refine (spec_srWith _ YS (rnI x en.tn) _ _ _ _ w7 (Ry.out.more (show w3.heap.size ≤ w7.heap.size by omega)) (show ItemR w7 w7.heap.size (rnI x en.tn) _ _ _ _ from ⟨(Ro.out.more (show w5.heap.size ≤ w7.heap.size by omega)).a, (Ro.out.more (show w5.heap.size ≤ w7.heap.size by omega)).f, (Ro.out.more (show w5.heap.size ≤ w7.heap.size by omega)).s, (Ro.out.more (show w5.heap.size ≤ w7.heap.size by omega)).r⟩) HYM.out (by omega) (by omega)).mono ?_
      rintro e w8 ⟨v3, rfl, hst3, hb8⟩
      have hz9 := hb8.size
      replace hB := bl_trans hB hb8
      clear e07
      replace HE0 := bk HE0 hb8
      clear o01
      replace HO0 := bk HO0 hb8
      replace Ri := Lib.hid (Ri.out.below (hb8.mono (by omega)))
      replace Re := Lib.hid (Re.out.below (hb8.mono (by omega)))
      replace Ry := Lib.hid (Ry.out.below (hb8.mono (by omega)))
      replace Rx := Lib.hid (Rx.out.below (hb8.mono (by omega)))
      replace Ro := Lib.hid (Ro.out.below (hb8.mono (by omega)))
      rw [← HZ.out] at hst3
      obtain ⟨A3, c3, rfl, -, -⟩ := hst3.slice
      have HZ3 := Lib.hid hst3; clear hst3
      have d8 : decide ((ZS.length : Int) ≤ 8) = true := decide_eq_true (by omega)
      go_wp2_with fail
      go_ret2
      exact api_t _ E2.out E1.out HZ3.out (by omega) hB
    ·
     have hk2 : en.kd = 2 := by rcases entryP.kinds HE.out with h | h | h; exact absurd h hk; exact h; exact absurd h hk3
     have k3 : (en.kd == 3) = false := by rw [beq_eq_false_iff_ne]; exact hk3
     obtain ⟨e1, e2⟩ := ap_2 (xs := xs) HE.out hk2 Q1.out
     rw [HF.out, ← HY.out] at e1
     have E1 := Lib.hid e1; clear e1
     have E2 := Lib.hid e2; clear e2
     clear hk3 hk k1 hk2
     have d8 : decide ((YS.length : Int) ≤ 8) = true := decide_eq_true (by omega)
     go_wp2_with fail
     go_ret2
     exact api_t _ E2.out E1.out HY2.out (by omega) hB
end
section
open Go.RowKit
set_option linter.all false
theorem cmpB_iff : ∀ (a b : List UInt8), (Lib.compareBytes a b < 0 ↔ a < b) ∧ (Lib.compareBytes a b = 0 ↔ a = b)
  | [], [] => by simp [Lib.compareBytes]
  | [], _ :: _ => by simp [Lib.compareBytes]
  | _ :: _, [] => by simp [Lib.compareBytes]
  | x :: a, y :: b => by
    obtain ⟨h1, h2⟩ := cmpB_iff a b
    unfold Lib.compareBytes
    rw [List.cons_lt_cons_iff]
    by_cases hl : x < y
    · have hne : x ≠ y := fun e => UInt8.lt_irrefl y (e ▸ hl)
      simp [hl, hne]
    · by_cases hg : y < x
      · have hne : x ≠ y := fun e => UInt8.lt_irrefl y (e ▸ hg)
        simp [hl, hg, hne]
      · have he : x = y := UInt8.le_antisymm (UInt8.not_lt.1 hg) (UInt8.not_lt.1 hl)
        rw [if_neg hl, if_neg hg, h1, h2]
        simp [hl, he]
def cmpN (x : Item) (nm : ByteArray) : Int := Lib.compareBytes x.nm.data.toList nm.data.toList
theorem cmpN_lt {x : Item} {nm : ByteArray} : cmpN x nm < 0 ↔ x.nm.toList < nm.toList := by
  unfold cmpN; rw [Lib.toList_data, Lib.toList_data]; exact (cmpB_iff _ _).1
theorem cmpN_eq {x : Item} {nm : ByteArray} : cmpN x nm = 0 ↔ x.nm.toList = nm.toList := by
  unfold cmpN; rw [Lib.toList_data, Lib.toList_data]; exact (cmpB_iff _ _).2
theorem closure_find (x : Item) (va vf vs vr : Value) (nm : ByteArray) (w : World) (h : ItemR w w.heap.size x va vf vs vr) :
    Calls Tryz.prog 105 #[itemV x va vf vs vr, .string nm] w fun e w' => e = .returned (.int .i64 (cmpN x nm)) ∧ Below w.heap.size w w' := by
  obtain ⟨Aa, ma, ca, rfl⟩ := h.a.isSlice'
  obtain ⟨Af, mf, cf, rfl⟩ := h.f.isSlice
  obtain ⟨As, ms, cs, rfl⟩ := h.s.isSlice
  obtain ⟨Ar, mr, cr, rfl⟩ := h.r.isSlice'
  clear h
  have hb := bl_alloc (Below.refl w.heap.size w) (.cells #[.string x.nm, .int .i64 x.n, .slice Aa ma ca, .int .i64 x.cl, .int .i64 x.lb, .slice Af mf cf, .slice As ms cs, .slice Ar mr cr] 53)
  have J := Lib.hid (fun W => Tryz.strings_Compare x.nm nm W)
  go_enter Tryz.func105, Tryz.ntmps105
  go_wp2_with fail
  refine (J.out _).mono ?_
  rintro e w2 ⟨rfl, rfl⟩
  go_wp2_with fail
  go_ret
  exact ⟨rfl, hb⟩
def BsRel (nm : ByteArray) (xs : List Item) (w : World) (i j : Value) (wr : World) : Prop :=
  ∃ lo hi : Nat, i = .int .i64 lo ∧ j = .int .i64 hi ∧ lo ≤ hi ∧ hi ≤ xs.length ∧ (∀ t x, t < lo → xs[t]? = some x → x.nm.toList < nm.toList) ∧ (∀ t x, hi ≤ t → xs[t]? = some x → ¬ x.nm.toList < nm.toList) ∧ Below w.heap.size w wr
theorem sd_at {xs : List Item} (h : Sd xs) {a b : Nat} {x y : Item} (hx : xs[a]? = some x) (hy : xs[b]? = some y) (hab : a ≤ b) : x.nm.toList = y.nm.toList ∨ x.nm.toList < y.nm.toList := by
  obtain ⟨ha, ea⟩ := List.getElem?_eq_some_iff.1 hx
  obtain ⟨hb, eb⟩ := List.getElem?_eq_some_iff.1 hy
  rcases Nat.lt_or_ge a b with h1 | h1
  · have h2 := List.pairwise_iff_getElem.1 h a b ha hb h1
    rw [ea, eb] at h2
    exact .inr h2
  · obtain rfl : a = b := by omega
    exact .inl (by rw [← ea, ← eb])
theorem cnt_of {nm : ByteArray} {xs : List Item} (h : Sd xs) {k : Nat} (hk : k ≤ xs.length) (h1 : ∀ t x, t < k → xs[t]? = some x → x.nm.toList < nm.toList) (h2 : ∀ t x, k ≤ t → xs[t]? = some x → ¬ x.nm.toList < nm.toList) : cntN nm xs = k := by
  obtain ⟨c1, c2⟩ := cnt_cases (nm := nm) h
  have hl := cntI_le nm xs
  rcases Nat.lt_trichotomy (cntN nm xs) k with h | h | h
  · have hx := List.getElem?_eq_getElem (show cntN nm xs < xs.length by omega)
    exact absurd (h1 _ _ h hx) (c2 _ _ hx (Nat.le_refl _))
  · exact h
  · have hx := List.getElem?_eq_getElem (show k < xs.length by omega)
    exact absurd (c1 _ _ hx h) (h2 _ _ (Nat.le_refl _) hx)
set_option maxHeartbeats 1000000 in
theorem search_items (v : Value) (xs : List Item) (nm : ByteArray) (w : World) (h : ItemsR w w.heap.size v xs) (hs : Sd xs) (hl : xs.length ≤ 1000000) :
  Calls Tryz.prog 104 #[v, .string nm, .func (.func 105) #[] #[]] w fun e w' => e = .returned (.tuple #[.int .i64 (cntN nm xs), .bool (hasN nm xs)]) ∧ Below w.heap.size w w' := by
 obtain ⟨A, c, rfl, h1, h2, h3⟩ := h
 have SD := Lib.hid hs; clear hs
 unfold maxLen at h2
 go_enter Tryz.func104, Tryz.ntmps104
 go_wp2
 go_loopw [9, 10] (fun i j wr => BsRel nm xs w i j wr) (fun i j _ => (intOf j - intOf i).toNat)
 case atStart => exact ⟨0, xs.length, rfl, rfl, Nat.zero_le _, Nat.le_refl _, (fun t x ht => by omega), (fun t x ht hx => by have := (List.getElem?_eq_some_iff.1 hx).1; omega), Below.refl _ _⟩
 case round =>
  obtain ⟨lo, hi, rfl, rfl, hlh, hin, hlo, hhi, hbl⟩ := hrel
  have HL := Lib.hid hlo; clear hlo
  have HH := Lib.hid hhi; clear hhi
  by_cases hlt : lo < hi
  ·
   obtain ⟨x, hx⟩ : ∃ x, xs[(lo + hi) / 2]? = some x := ⟨xs[(lo + hi) / 2]'(by omega), List.getElem?_eq_getElem _⟩
   obtain ⟨b, o, rfl, hb, hc⟩ := h3 (by omega)
   obtain ⟨va, vf, vs, vr, hcl, hr⟩ := hc _ x hx
   obtain ⟨Aa, ma, ca, rfl⟩ := hr.a.isSlice'
   obtain ⟨Af, mf, cf, rfl⟩ := hr.f.isSlice
   obtain ⟨As, ms, cs, rfl⟩ := hr.s.isSlice
   obtain ⟨Ar, mr, cr, rfl⟩ := hr.r.isSlice'
   have q0 : wr.cell? ⟨b, o + ((lo + hi) / 2) * 8, none⟩ = some _ := (hbl.cell (p := ⟨b, o + ((lo + hi) / 2) * 8, none⟩) hb).trans (hcl 0 _ rfl)
   have q1 : wr.cell? ⟨b, o + ((lo + hi) / 2) * 8 + 1, none⟩ = some _ := (hbl.cell (p := ⟨b, o + ((lo + hi) / 2) * 8 + 1, none⟩) hb).trans (hcl 1 _ rfl)
   have q2 : wr.cell? ⟨b, o + ((lo + hi) / 2) * 8 + 2, none⟩ = some _ := (hbl.cell (p := ⟨b, o + ((lo + hi) / 2) * 8 + 2, none⟩) hb).trans (hcl 2 _ rfl)
   have q3 : wr.cell? ⟨b, o + ((lo + hi) / 2) * 8 + 3, none⟩ = some _ := (hbl.cell (p := ⟨b, o + ((lo + hi) / 2) * 8 + 3, none⟩) hb).trans (hcl 3 _ rfl)
   have q4 : wr.cell? ⟨b, o + ((lo + hi) / 2) * 8 + 4, none⟩ = some _ := (hbl.cell (p := ⟨b, o + ((lo + hi) / 2) * 8 + 4, none⟩) hb).trans (hcl 4 _ rfl)
   have q5 : wr.cell? ⟨b, o + ((lo + hi) / 2) * 8 + 5, none⟩ = some _ := (hbl.cell (p := ⟨b, o + ((lo + hi) / 2) * 8 + 5, none⟩) hb).trans (hcl 5 _ rfl)
   have q6 : wr.cell? ⟨b, o + ((lo + hi) / 2) * 8 + 6, none⟩ = some _ := (hbl.cell (p := ⟨b, o + ((lo + hi) / 2) * 8 + 6, none⟩) hb).trans (hcl 6 _ rfl)
   have q7 : wr.cell? ⟨b, o + ((lo + hi) / 2) * 8 + 7, none⟩ = some _ := (hbl.cell (p := ⟨b, o + ((lo + hi) / 2) * 8 + 7, none⟩) hb).trans (hcl 7 _ rfl)
   have RY := Lib.hid ((hr.below hbl).more hbl.size)
   have HX := Lib.hid hx
   clear hr hcl hc h3 hx
   have hm1 : (lo + hi) / 2 < xs.length := by omega
   have J := Lib.hid (show Calls Tryz.prog 105 #[itemV x (.slice Aa ma ca) (.slice Af mf cf) (.slice As ms cs) (.slice Ar mr cr), .string nm] wr fun e w' => e = .returned (.int .i64 (cmpN x nm)) ∧ Below wr.heap.size wr w' from closure_find x _ _ _ _ nm wr RY.out)
   by_cases e : cmpN x nm < 0
   ·
    have HE := Lib.hid (cmpN_lt.1 e)
    go_wp2_with fail
    go_at_call 105
    refine J.out.mono ?_
    rintro e w2 ⟨rfl, hb2⟩
    go_wp2_with fail
    go_roundw
    case rel => exact ⟨(lo + hi) / 2 + 1, hi, by go_num, rfl, by omega, hin, (fun t y ht hy => by
     rcases sd_at SD.out hy HX.out (show t ≤ (lo + hi) / 2 by omega) with h | h
     ·
      rw [h]; exact HE.out
     ·
      exact lt_tr h HE.out), HH.out, hbl.trans (hb2.mono hbl.size)⟩
    case measure => simp [intOf]; omega
   ·
    have HE := Lib.hid (fun h => e (cmpN_lt.2 h) : ¬ x.nm.toList < nm.toList)
    go_wp2_with fail
    go_at_call 105
    refine J.out.mono ?_
    rintro e w2 ⟨rfl, hb2⟩
    go_wp2_with fail
    go_roundw
    case rel => exact ⟨lo, (lo + hi) / 2, rfl, by go_num, by omega, by omega, HL.out, (fun t y ht hy hc => HE.out (by
     rcases sd_at SD.out HX.out hy ht with h | h
     ·
      rw [h]; exact hc
     ·
      exact lt_tr h hc)), hbl.trans (hb2.mono hbl.size)⟩
    case measure => simp [intOf]; omega
  ·
   obtain rfl : hi = lo := by omega
   have HC := Lib.hid (cnt_of SD.out hin HL.out HH.out)
   by_cases hn : hi < xs.length
   ·
    obtain ⟨x, hx⟩ : ∃ x, xs[hi]? = some x := ⟨xs[hi], List.getElem?_eq_getElem hn⟩
    obtain ⟨b, o, rfl, hb, hc⟩ := h3 (by omega)
    obtain ⟨va, vf, vs, vr, hcl, hr⟩ := hc _ x hx
    obtain ⟨Aa, ma, ca, rfl⟩ := hr.a.isSlice'
    obtain ⟨Af, mf, cf, rfl⟩ := hr.f.isSlice
    obtain ⟨As, ms, cs, rfl⟩ := hr.s.isSlice
    obtain ⟨Ar, mr, cr, rfl⟩ := hr.r.isSlice'
    have q0 : wr.cell? ⟨b, o + hi * 8, none⟩ = some _ := (hbl.cell (p := ⟨b, o + hi * 8, none⟩) hb).trans (hcl 0 _ rfl)
    have q1 : wr.cell? ⟨b, o + hi * 8 + 1, none⟩ = some _ := (hbl.cell (p := ⟨b, o + hi * 8 + 1, none⟩) hb).trans (hcl 1 _ rfl)
    have q2 : wr.cell? ⟨b, o + hi * 8 + 2, none⟩ = some _ := (hbl.cell (p := ⟨b, o + hi * 8 + 2, none⟩) hb).trans (hcl 2 _ rfl)
    have q3 : wr.cell? ⟨b, o + hi * 8 + 3, none⟩ = some _ := (hbl.cell (p := ⟨b, o + hi * 8 + 3, none⟩) hb).trans (hcl 3 _ rfl)
    have q4 : wr.cell? ⟨b, o + hi * 8 + 4, none⟩ = some _ := (hbl.cell (p := ⟨b, o + hi * 8 + 4, none⟩) hb).trans (hcl 4 _ rfl)
    have q5 : wr.cell? ⟨b, o + hi * 8 + 5, none⟩ = some _ := (hbl.cell (p := ⟨b, o + hi * 8 + 5, none⟩) hb).trans (hcl 5 _ rfl)
    have q6 : wr.cell? ⟨b, o + hi * 8 + 6, none⟩ = some _ := (hbl.cell (p := ⟨b, o + hi * 8 + 6, none⟩) hb).trans (hcl 6 _ rfl)
    have q7 : wr.cell? ⟨b, o + hi * 8 + 7, none⟩ = some _ := (hbl.cell (p := ⟨b, o + hi * 8 + 7, none⟩) hb).trans (hcl 7 _ rfl)
    have RY := Lib.hid ((hr.below hbl).more hbl.size)
    have HX := Lib.hid hx
    clear hr hcl hc h3 hx
    have J := Lib.hid (show Calls Tryz.prog 105 #[itemV x (.slice Aa ma ca) (.slice Af mf cf) (.slice As ms cs) (.slice Ar mr cr), .string nm] wr fun e w' => e = .returned (.int .i64 (cmpN x nm)) ∧ Below wr.heap.size wr w' from closure_find x _ _ _ _ nm wr RY.out)
    by_cases e : cmpN x nm = 0
    ·
     have HE := Lib.hid (show hasN nm xs = true from hasI_iff.2 ⟨x, List.mem_of_getElem? HX.out, cmpN_eq.1 e⟩)
     have k0 : (cmpN x nm == 0) = true := by rw [e]; rfl
     clear e
     go_wp2_with fail
     go_at_call 105
     refine J.out.mono ?_
     rintro e w2 ⟨rfl, hb2⟩
     go_wp2_with fail
     go_ret2
     exact ⟨by rw [HC.out, HE.out]; rfl, hbl.trans (hb2.mono hbl.size)⟩
    ·
     have HE := Lib.hid (show hasN nm xs = false from by
      cases q : hasN nm xs with
      | false => rfl
      | true =>
       obtain ⟨y, hy, ey⟩ := has_cnt SD.out q
       rw [HC.out, HX.out] at hy
       obtain rfl : x = y := Option.some.inj hy
       exact absurd (cmpN_eq.2 ey) e)
     have k0 : (cmpN x nm == 0) = false := by rw [beq_eq_false_iff_ne]; exact e
     clear e
     go_wp2_with fail
     go_at_call 105
     refine J.out.mono ?_
     rintro e w2 ⟨rfl, hb2⟩
     go_wp2_with fail
     go_ret2
     exact ⟨by rw [HC.out, HE.out]; rfl, hbl.trans (hb2.mono hbl.size)⟩
   ·
    have HE := Lib.hid (show hasN nm xs = false from by
     cases q : hasN nm xs with
     | false => rfl
     | true =>
      obtain ⟨y, hy, ey⟩ := has_cnt SD.out q
      rw [HC.out] at hy
      have := (List.getElem?_eq_some_iff.1 hy).1
      omega)
    go_wp2_with fail
    go_ret2
    exact ⟨by rw [HC.out, HE.out]; rfl, hbl⟩
theorem impl_findItem (v : Value) (xs : List Item) (nm : ByteArray) (w : World) (h : ItemsR w w.heap.size v xs) (hs : Sd xs) (hl : xs.length ≤ 1000000) :
    Calls Tryz.prog 66 #[v, .string nm] w fun e w' => e = .returned (.tuple #[.int .i64 (cntN nm xs), .bool (hasN nm xs)]) ∧ Below w.heap.size w w' := by
  have J := Lib.hid (search_items v xs nm w h hs hl)
  clear h hs hl
  go_enter Tryz.func66, Tryz.ntmps66
  go_wp2_with fail
  refine J.out.mono ?_
  rintro e w2 ⟨rfl, hb2⟩
  go_wp2_with fail
  go_ret2
  exact ⟨rfl, hb2⟩
def CiRel (xs : List Item) (w : World) (v i : Value) (wr : World) : Prop :=
  ∃ k : Nat, k ≤ xs.length ∧ i = .int .i64 k ∧ ItemsSt w.heap.size wr v (xs.take k) ∧ Below w.heap.size w wr
set_option maxHeartbeats 1000000 in
theorem impl_copyItems (v : Value) (xs : List Item) (w : World) (h : ItemsR w w.heap.size v xs) (hok : ∀ x ∈ xs, szItem x ≤ 2000000) (hl : xs.length ≤ 1000000) :
  Calls Tryz.prog 64 #[v] w (ItsPost xs w) := by
 obtain ⟨A, c, rfl, h1, h2, h3⟩ := h
 have HOK := Lib.hid hok; clear hok
 unfold maxLen at h2
 go_enter Tryz.func64, Tryz.ntmps64
 go_wp2
 go_loopw [3, 8] (fun v i wr => CiRel xs w v i wr) (fun _ i _ => xs.length - (intOf i).toNat)
 case atStart => exact ⟨0, Nat.zero_le _, rfl, by rw [List.take_zero]; exact ItemsSt.nil _ _, Below.refl _ _⟩
 case round =>
  obtain ⟨k, hk, rfl, hst, hbl⟩ := hrel
  have HS := Lib.hid hst; clear hst
  obtain ⟨Av, mv, cv, rfl⟩ := HS.out.isSlice
  by_cases hlt : k < xs.length
  ·
   obtain ⟨y, hy⟩ : ∃ y, xs[k]? = some y := ⟨xs[k], List.getElem?_eq_getElem hlt⟩
   obtain ⟨b, o, rfl, hb, hc⟩ := h3 (by omega)
   obtain ⟨va, vf, vs, vr, hcl, hr⟩ := hc k y hy
   obtain ⟨Aa, ma, ca, rfl⟩ := hr.a.isSlice'
   obtain ⟨Af, mf, cf, rfl⟩ := hr.f.isSlice
   obtain ⟨As, ms, cs, rfl⟩ := hr.s.isSlice
   obtain ⟨Ar, mr, cr, rfl⟩ := hr.r.isSlice'
   have q0 := (hbl.cell (p := ⟨b, o + k * 8, none⟩) hb).trans (hcl 0 _ rfl)
   have q1 := (hbl.cell (p := ⟨b, o + k * 8 + 1, none⟩) hb).trans (hcl 1 _ rfl)
   have q2 := (hbl.cell (p := ⟨b, o + k * 8 + 2, none⟩) hb).trans (hcl 2 _ rfl)
   have q3 := (hbl.cell (p := ⟨b, o + k * 8 + 3, none⟩) hb).trans (hcl 3 _ rfl)
   have q4 := (hbl.cell (p := ⟨b, o + k * 8 + 4, none⟩) hb).trans (hcl 4 _ rfl)
   have q5 := (hbl.cell (p := ⟨b, o + k * 8 + 5, none⟩) hb).trans (hcl 5 _ rfl)
   have q6 := (hbl.cell (p := ⟨b, o + k * 8 + 6, none⟩) hb).trans (hcl 6 _ rfl)
   have q7 := (hbl.cell (p := ⟨b, o + k * 8 + 7, none⟩) hb).trans (hcl 7 _ rfl)
   have RY := Lib.hid ((hr.below hbl).more hbl.size)
   have RY0 := Lib.hid hr; clear hr hcl hc h3
   have HY := Lib.hid hy; clear hy
   have HE := Lib.hid (take_one HY.out)
   have hzy := HOK.out y (List.mem_of_getElem? HY.out)
   have hln : (xs.take k).length ≤ k := by rw [List.length_take]; omega
   obtain ⟨ww, hww⟩ : ∃ x, x = wr.alloc (.cells #[.string y.nm, .int .i64 y.n, .slice Aa ma ca, .int .i64 y.cl, .int .i64 y.lb, .slice Af mf cf, .slice As ms cs, .slice Ar mr cr] 53) := ⟨_, rfl⟩
   have hb0 : Below wr.heap.size wr ww := by rw [hww]; exact bl_alloc (Below.refl _ _) _
   have HW := Lib.hid hww; clear hww
   have hz0 := hb0.size
   go_wp2_with fail
   rw [← HW.out]
   refine (show Calls Tryz.prog 102 #[itemV y (.slice Aa ma ca) (.slice Af mf cf) (.slice As ms cs) (.slice Ar mr cr)] ww (ItPost y ww) from impl_copyItem y _ _ _ _ ww (RY.out.up hb0) hzy).mono ?_
   rintro e w2 ⟨va2, vf2, vs2, vr2, b1, rfl, ho, hnd1, hr1, hb2⟩
   obtain ⟨ba, bf, bz, br, oa, of, oz, or, hbs⟩ := id ho
   obtain ⟨Aa1, ma1, ca1, rfl⟩ := oa.isSlice
   obtain ⟨Af1, mf1, cf1, rfl⟩ := of.1.isSlice
   obtain ⟨As1, ms1, cs1, rfl⟩ := oz.1.isSlice
   obtain ⟨Ar1, mr1, cr1, rfl⟩ := or.isSlice
   clear oa of oz or hbs
   have O1 := Lib.hid ho; clear ho
   have hb02 := hb0.trans (hb2.mono hz0)
   have hw2 : w.heap.size ≤ w2.heap.size := by have := hbl.size; have := hb2.size; omega
   obtain ⟨D, hD⟩ : ∃ D, D = xs.take k := ⟨_, rfl⟩
   rw [← hD] at HS HE hln
   clear hD
   obtain ⟨vs1, hown1, hstep⟩ := HS.out.step hbl.size hb02 O1.out hnd1 (fun b hb => by have := hr1 b hb; omega)
   have HST1 := Lib.hid hstep; clear hstep hnd1 hr1 O1
   have HONE1 := Lib.hid (one8 y Aa1 ma1 ca1 Af1 mf1 cf1 As1 ms1 cs1 Ar1 mr1 cr1)
   go_wp2_with ((at_builtin; refine wpList_appendK w2 rfl (.tmp 12) (.tmp 15) 33 rfl w.heap.size 53 _ 8 136 Tryz.underlying33 itemInfo rfl (by decide) _ _ _ rfl (itemL y (.slice Aa1 ma1 ca1) (.slice Af1 mf1 cf1) (.slice As1 ms1 cs1) (.slice Ar1 mr1 cr1)) rfl HONE1.out rfl hown1 (by unfold maxLen; omega) (by omega) hw2 ?_; intro v' w' hown1' hbl1' hgr1' hlt1' hob1'))
   go_roundw
   case rel => exact ⟨k + 1, by omega, by go_num, by rw [HE.out]; exact HST1.out _ _ hown1' hgr1' hob1', (hbl.trans (hb02.mono hbl.size)).trans hbl1'⟩
   case measure => simp [intOf]; omega
  ·
   have e1 : xs.take k = xs := List.take_of_length_le (by omega)
   have hst := HS.out
   rw [e1] at hst
   have HF := Lib.hid hst; clear hst e1
   go_wp2_with fail
   go_ret
   exact ⟨_, rfl, HF.out, hbl⟩
end
section
open Go.RowKit
set_option linter.all false
def zIt : Value := .agg #[.string ⟨#[]⟩, .int .i64 0, .slice none 0 0, .int .i64 0, .int .i64 0, .slice none 0 0, .slice none 0 0, .slice none 0 0]
theorem zIt_run (w : World) : (zeroValue 53).run Tryz.prog w = .ok zIt w := by
  obtain ⟨i, hi, hz0, hz1, hz2⟩ := info_parts itemInfo
  simp [zeroValue, typeInfo, hi, hz0, zIt]
theorem zIt_ones : ∀ v ∈ zIt.cells, v.oneCell' = true := by
  intro v hv
  simp [zIt, Value.cells] at hv
  rcases hv with rfl | rfl | rfl | rfl | rfl | rfl | rfl | rfl <;> rfl
theorem zIt_size : zIt.cells.size = 8 := rfl
set_option maxRecDepth 100000 in
set_option maxHeartbeats 4000000 in
theorem delete_items (base : Nat) (v : Value) (vs : List Value) (m k : Nat) (w : World) (h : w.ownsRow base 53 8 v (m + 1) vs) (hone : ∀ u ∈ vs, u.oneCell' = true) (hk : k ≤ m) (hm : m ≤ 1000000) :
  Calls Tryz.prog 67 #[v, .int .i64 k, .int .i64 ((k : Int) + 1)] w fun e w' => ∃ v', e = .returned v' ∧ w'.ownsRow base 53 8 v' m (vs.take (k * 8) ++ vs.drop ((k + 1) * 8)) ∧ w.grownBy w' v.ownBlock ∧ v'.ownBlock = v.ownBlock := by
 obtain ⟨g, cap, cur, rfl, hbg, hg, hnc, hcm, hcs, ht, hvl⟩ := row_open h (by omega)
 obtain ⟨i, hi, hz0, hz1, hz2⟩ := info_parts itemInfo
 have hcell : ∀ j u, vs[j]? = some u → w.drew.cell? ⟨g, j, none⟩ = some u := fun j u hu => by
  rw [← ht] at hu
  have hlt := (List.getElem?_eq_some_iff.1 hu).1
  rw [List.getElem?_take_of_lt (by rw [List.length_take] at hlt; omega)] at hu
  rw [cell_of_row w.drew _ _ _ _ (0, 0) hg]
  simpa using hu
 obtain ⟨news, hnews⟩ : ∃ l, l = vs.drop ((k + 1) * 8) := ⟨_, rfl⟩
 have hnl : news.length = (m - k) * 8 := by rw [hnews, List.length_drop, hvl]; omega
 obtain ⟨AD, hA, hsrc⟩ : ∃ AD : Addr, (if cap = k + 1 then some (⟨g, 0, none⟩ : Addr) else some ⟨g, (k + 1) * 8, none⟩) = some AD ∧ Hid (∀ j u, news[j]? = some u → w.drew.cell? (AD.add j) = some u) := by
  by_cases hc : cap = k + 1
  ·
   refine ⟨⟨g, 0, none⟩, by simp [hc], fun j u hu => ?_⟩
   have h0 : news.length = 0 := by rw [hnl]; omega
   rw [List.length_eq_zero_iff.1 h0] at hu
   simp at hu
  ·
   refine ⟨⟨g, (k + 1) * 8, none⟩, by simp [hc], fun j u hu => ?_⟩
   rw [add_lit]
   rw [hnews, List.getElem?_drop] at hu
   exact hcell _ _ hu
 have hsz : cur.size = cap * 8 := hcs
 have hr := run_append_room (P := Tryz.prog) w.drew 33 33 53 i Tryz.underlying33 hi g k cap cur hg AD (m - k) (cap - (k + 1)) news (by rw [hz1]; exact hnl) hsrc.out
  (fun u hu => hone u (by rw [hnews] at hu; exact List.mem_of_mem_drop hu)) (by omega) (by rw [hz1, hnl]; omega)
 rw [hz1, show k + (m - k) = m by omega, hnl] at hr
 obtain ⟨C1, hC1⟩ : ∃ C : Array Value, C = (cur.toList.take (k * 8) ++ news ++ cur.toList.drop (k * 8 + (m - k) * 8)).toArray := ⟨_, rfl⟩
 rw [← hC1] at hr
 have hs1 : C1.size = cap * 8 := by rw [hC1]; simp only [List.size_toArray, List.length_append, List.length_take, List.length_drop, Array.length_toList, hnl, hsz]; omega
 have ht1 : C1.toList.take (m * 8) = vs.take (k * 8) ++ news := by
  rw [hC1]
  show (cur.toList.take (k * 8) ++ news ++ cur.toList.drop (k * 8 + (m - k) * 8)).take (m * 8) = _
  have hl : (cur.toList.take (k * 8) ++ news).length = m * 8 := by rw [List.length_append, hnl, List.length_take, Array.length_toList]; omega
  rw [← hl, List.take_left, ← ht, List.take_take, Nat.min_eq_left (by omega)]
 obtain ⟨W1, hW1⟩ : ∃ W, W = w.drew.setRow g C1 := ⟨_, rfl⟩
 have hg1 : W1.heap[g]? = some (.cells C1 53 (0, 0)) := by rw [hW1]; exact setRow_heap w.drew g cur _ _ _ hg
 have hcl := fun ty => run_clear_row (P := Tryz.prog) W1 33 53 ty 53 zIt Tryz.underlying33 zIt_run zIt_ones g (m * 8) 1 (cap - m) (by omega) C1 hg1 (by rw [zIt_size, hs1]; omega)
 obtain ⟨C2, hC2⟩ : ∃ C : Array Value, C = (C1.toList.take (m * 8) ++ (Builtin.zeroCells zIt.cells 1).toList ++ C1.toList.drop (m * 8 + 1 * zIt.cells.size)).toArray := ⟨_, rfl⟩
 rw [← hC2] at hcl
 have hzl : (Builtin.zeroCells zIt.cells 1).toList.length = 8 := by rw [Array.length_toList, size_zeroCells]; rfl
 have hs2 : C2.size = cap * 8 := by rw [hC2]; simp only [List.size_toArray, List.length_append, List.length_take, List.length_drop, Array.length_toList, hs1, zIt_size] at hzl ⊢; rw [hzl]; omega
 have ht2 : C2.toList.take (m * 8) = vs.take (k * 8) ++ vs.drop ((k + 1) * 8) := by
  rw [hC2]
  show (C1.toList.take (m * 8) ++ (Builtin.zeroCells zIt.cells 1).toList ++ C1.toList.drop (m * 8 + 1 * zIt.cells.size)).take (m * 8) = _
  have hl : (C1.toList.take (m * 8)).length = m * 8 := by rw [List.length_take, Array.length_toList]; omega
  rw [List.append_assoc, List.take_append_of_le_length (by omega), List.take_of_length_le (by omega), ht1, hnews]
 have FIN := Lib.hid (show (W1.setRow g C2).ownsRow base 53 8 (.slice (some ⟨g, 0, none⟩) m cap) m (vs.take (k * 8) ++ vs.drop ((k + 1) * 8)) ∧ w.grownBy (W1.setRow g C2) (some g) from by
  have hl : (vs.take (k * 8) ++ vs.drop ((k + 1) * 8)).length = m * 8 := by rw [List.length_append, List.length_take, List.length_drop, hvl]; omega
  obtain ⟨f1, f2⟩ := row_set (base := base) (k := 8) (cap := cap) (n := m) hg1 hbg (by omega) hcm hs2 hl ht2
  refine ⟨f1, ?_⟩
  have f0 : w.drew.grownBy W1 (some g) := by rw [hW1]; exact ⟨rfl, rfl, rfl, by simp, fun j _ hj => setRow_other w.drew g j _ fun e => hj (by rw [e])⟩
  exact grown_drew (grown_tr f0 f2))
 have HR := Lib.hid hr; clear hr
 have HCL := Lib.hid hcl; clear hcl
 have HW := Lib.hid hW1; clear hW1
 clear hcell hsz hs1 ht1 hg1 hs2 ht2 hC1 hC2 hzl ht hnews hnl hsrc hone hg hcs hvl h hi hz0 hz1 hz2
 unfold maxLen at hcm
 have d1 : ¬ ((k : Int) = (k : Int) + 1) := by omega
 have mixed : Tryz.prog.follows .mixedOrders = true := by kernel_rfl
 have i1 : k ≤ cap := by omega
 have i2 : k + 1 ≤ cap := by omega
 have i3 : (0 : Int) ≤ (k : Int) + 1 := by omega
 have i4 : ((k : Int) + 1).toNat = k + 1 := by omega
 have i5 : k + 1 ≤ m + 1 := by omega
 have i6 : m + 1 - (k + 1) = m - k := by omega
 have i7 : (k : Int) + 1 ≤ (m : Int) + 1 := by omega
 go_enter Tryz.func67, Tryz.ntmps67
 go_wp2_with fail
 go_region_law_o (refine step_append_runK rfl (.tmp 22) (.tmp 25) 33 33 rfl (.slice (some ⟨g, 0, none⟩) k cap) (.slice (some AD) (m - k) (cap - (k + 1))) (by simp [Act.eval, Act.put]) (by simp [Act.eval, Act.put]) HR.out ?_; rw [← HW.out])
 have HX := HCL.out
 go_wp2_with fail
 go_ret
 exact ⟨_, rfl, FIN.out.1, FIN.out.2, rfl⟩
def InsPost (base : Nat) (v : Value) (vs us : List Value) (n k : Nat) (w : World) (e : Ending) (w' : World) : Prop :=
  ∃ v', e = .returned v' ∧ w'.ownsRow base 53 8 v' (n + 1) (vs.take (k * 8) ++ us ++ vs.drop (k * 8)) ∧ w.grownBy w' v.ownBlock ∧ (v'.ownBlock = v.ownBlock ∨ ∃ g, v'.ownBlock = some g ∧ w.heap.size ≤ g ∧ g < w'.heap.size)
set_option maxRecDepth 100000 in
set_option maxHeartbeats 4000000 in
theorem ins_end (base : Nat) (v : Value) (vs us : List Value) (n vb : Nat) (w : World) (h : w.ownsRow base 53 8 v n vs) (hbase : base ≤ w.heap.size) (hn : n ≤ 1000000)
  (hu8 : us.length = 8) (hu1 : ∀ u ∈ us, u.oneCell' = true) (hvb : w.heap[vb]? = some (.cells us.toArray 53 (0, 0))) :
  Calls Tryz.prog 103 #[v, .int .i64 n, .slice (some ⟨vb, 0, none⟩) 1 1] w (InsPost base v vs us n n w) := by
 obtain ⟨i, hi, hz0, hz1, hz2⟩ := info_parts itemInfo
 have hvl := h.1
 have hnews : ∀ j u, us[j]? = some u → w.cell? ((⟨vb, 0, none⟩ : Addr).add j) = some u := fun j u hu => by
  rw [add_lit, Nat.zero_add, cell_of_row w _ _ _ _ (0, 0) hvb]
  simpa using hu
 have HN := Lib.hid hnews; clear hnews
 have HI := Lib.hid hi; clear hi
 have HO := Lib.hid h
 have Z0 := Lib.hid hz0; clear hz0
 have Z1 := Lib.hid hz1; clear hz1
 have Z2 := Lib.hid hz2; clear hz2
 have HU1 := Lib.hid hu1; clear hu1
 have HV := Lib.hid hvl; clear hvl
 have HU8 := Lib.hid hu8; clear hu8
 have FIN := Lib.hid (fun v' w' (h1 : w'.ownsRow base 53 8 v' (n + 1) (vs ++ us)) (h2 : w.grownBy w' v.ownBlock) (h3 : v'.ownBlock = v.ownBlock ∨ v'.ownBlock = some w.heap.size) => show InsPost base v vs us n n w (.returned v') w' from by
  refine ⟨v', rfl, ?_, h2, ?_⟩
  ·
   rw [List.take_of_length_le (by rw [HV.out]; exact Nat.le_refl _), List.drop_of_length_le (by rw [HV.out]; exact Nat.le_refl _), List.append_nil]
   exact h1
  ·
   rcases h3 with h3 | h3
   ·
    exact .inl h3
   ·
    refine .inr ⟨_, h3, Nat.le_refl _, ?_⟩
    exact (h1.lt _ h3).2)
 have i0 : (0 : Int) ≤ (n : Int) := by omega
 have d1 : ¬ ((1 : Int) = 0) := by omega
 rcases h.2 with ⟨rfl, rfl⟩ | ⟨g, cap, cur, rfl, hb1, hb2, hb3, hb4, hb5, hb6⟩
 ·
  clear h hvb
  go_enter Tryz.func103, Tryz.ntmps103
  go_wp2_with (at_builtin; refine wpList_append_own_at _ rfl _ _ 33 rfl base 53 i _ 8 136 Tryz.underlying33 HI.out Z0.out Z1.out Z2.out rfl (by decide) _ _ _ rfl HO.out ⟨vb, 0, none⟩ 1 1 us rfl HU8.out HN.out HU1.out (by unfold maxLen; omega) (by omega) hbase ?_; intro v' w1 hown1 hgrow hnil hat)
  go_ret
  exact FIN.out _ _ hown1 hgrow hat
 ·
  clear h hvb hb2 hb5 hb6
  unfold maxLen at hb4
  have i1 : n ≤ cap := hb3
  go_enter Tryz.func103, Tryz.ntmps103
  go_wp2_with (at_builtin; refine wpList_append_own_at _ rfl _ _ 33 rfl base 53 i _ 8 136 Tryz.underlying33 HI.out Z0.out Z1.out Z2.out rfl (by decide) _ _ _ rfl HO.out ⟨vb, 0, none⟩ 1 1 us rfl HU8.out HN.out HU1.out (by unfold maxLen; omega) (by omega) hbase ?_; intro v' w1 hown1 hgrow hnil hat)
  all_goals (go_ret; exact FIN.out _ _ hown1 hgrow hat)
set_option maxRecDepth 100000 in
set_option maxHeartbeats 4000000 in
theorem ins_shift (base : Nat) (v : Value) (vs us : List Value) (n k vb : Nat) (w : World) (h : w.ownsRow base 53 8 v n vs) (hone : ∀ u ∈ vs, u.oneCell' = true) (hk : k < n) (hn : n ≤ 1000000) (hroom : ∀ A m c, v = .slice A m c → n + 1 ≤ c)
  (hu8 : us.length = 8) (hu1 : ∀ u ∈ us, u.oneCell' = true) (hvb : w.heap[vb]? = some (.cells us.toArray 53 (0, 0))) (hap : v.ownBlock ≠ some vb) :
  Calls Tryz.prog 103 #[v, .int .i64 k, .slice (some ⟨vb, 0, none⟩) 1 1] w (InsPost base v vs us n k w) := by
 obtain ⟨g, cap, cur, rfl, hbg, hg, hnc, hcm, hcs, ht, hvl⟩ := row_open h (by omega)
 obtain ⟨i, hi, hz0, hz1, hz2⟩ := info_parts itemInfo
 have hsz : (Tryz.prog.info? 53).map (·.size) = some 8 := by rw [hi]; simp [hz1]
 have hgl : g < w.heap.size := (Array.getElem?_eq_some_iff.1 hg).1
 have hvl2 : vb < w.heap.size := (Array.getElem?_eq_some_iff.1 hvb).1
 have hcell : ∀ j u, vs[j]? = some u → w.cell? ⟨g, j, none⟩ = some u := fun j u hu => by
  rw [← ht] at hu
  have hlt := (List.getElem?_eq_some_iff.1 hu).1
  rw [List.getElem?_take_of_lt (by rw [List.length_take] at hlt; omega)] at hu
  rw [cell_of_row w _ _ _ _ (0, 0) hg]
  simpa using hu
 have hne : vb ≠ g := fun e => hap (by rw [e]; rfl)
 have htl : (vs.take (k * 8)).length = k * 8 := by rw [List.length_take]; omega
 have hdl : (vs.drop (k * 8)).length = (n - k) * 8 := by rw [List.length_drop, hvl]; omega
 have hrm := hroom _ _ _ rfl
 clear hroom
 have hov : ∀ lb cb, (callFunc 126 #[.slice (some ⟨vb, 0, none⟩) 1 1, .slice (some ⟨g, (k + 1) * 8, none⟩) lb cb]).run Tryz.prog w = .ok (.value (.bool false)) w := fun lb cb => by
  rw [run_callFunc_extern Tryz.func126 (by kernel_rfl) (by kernel_rfl) (by kernel_rfl) (e := Extern.SlicesOverlaps.overlaps #[33, 33] #[4]) (by kernel_rfl),
   Lib.run_overlaps_apart w 33 4 53 Tryz.underlying33 8 (fun w => by simp [sizeOf, typeInfo, hi, hz1]) ⟨vb, 0, none⟩ ⟨g, (k + 1) * 8, none⟩ 1 1 lb cb hne 53 53 us.toArray.size cur.size (by unfold World.shape?; rw [hvb]) (by unfold World.shape?; rw [hg]) (by omega) (by simp [World.frozen?, hvb]) (by simp [World.frozen?, hvb])]
  rfl
 -- the first copy: what stands from k on goes up by one
 have hr1 := fun ty => run_copy_row (P := Tryz.prog) w.drew 33 33 ty 53 53 g ((k + 1) * 8) (n + 1 - (k + 1)) (cap - (k + 1)) cur hg ⟨g, k * 8, none⟩ (n + 1 - k) (cap - k) (vs.drop (k * 8)) 8 Tryz.underlying33 hsz
  (by rw [hdl]; simp only [Nat.min_def]; split <;> omega) (fun j u hu => by rw [add_lit]; rw [List.getElem?_drop] at hu; exact hcell _ _ hu) (by rw [hdl, hcs]; omega) (fun u hu => hone u (List.mem_of_mem_drop hu))
 rw [hdl] at hr1
 obtain ⟨C1, hC1⟩ : ∃ C : Array Value, C = (cur.toList.take ((k + 1) * 8) ++ vs.drop (k * 8) ++ cur.toList.drop ((k + 1) * 8 + (n - k) * 8)).toArray := ⟨_, rfl⟩
 rw [← hC1] at hr1
 have hl1 : (cur.toList.take ((k + 1) * 8)).length = (k + 1) * 8 := by rw [List.length_take, Array.length_toList]; omega
 have hs1 : C1.size = cap * 8 := by rw [hC1]; simp only [List.size_toArray, List.length_append, List.length_drop, Array.length_toList, hl1, hdl, hcs]; omega
 obtain ⟨W1, hW1⟩ : ∃ W, W = w.drew.setRow g C1 := ⟨_, rfl⟩
 rw [← hW1] at hr1
 have hg1 : W1.heap[g]? = some (.cells C1 53 (0, 0)) := by rw [hW1]; exact setRow_heap w.drew g cur _ _ _ hg
 have hv1 : W1.heap[vb]? = some (.cells us.toArray 53 (0, 0)) := by rw [hW1]; exact (setRow_other w.drew g vb _ hne).trans hvb
 -- the second copy: the new one
 have hr2 := fun ty => run_copy_row (P := Tryz.prog) W1 33 33 ty 53 53 g (k * 8) (n + 1 - k) (cap - k) C1 hg1 ⟨vb, 0, none⟩ 1 1 us 8 Tryz.underlying33 hsz
  (by rw [hu8]; simp only [Nat.min_def]; split <;> omega) (fun j u hu => by rw [add_lit, Nat.zero_add, cell_of_row W1 _ _ _ _ (0, 0) hv1]; simpa using hu) (by rw [hu8, hs1]; omega) hu1
 obtain ⟨C2, hC2⟩ : ∃ C : Array Value, C = (C1.toList.take (k * 8) ++ us ++ C1.toList.drop (k * 8 + us.length)).toArray := ⟨_, rfl⟩
 rw [← hC2] at hr2
 have hs2 : C2.size = cap * 8 := by rw [hC2]; simp only [List.size_toArray, List.length_append, List.length_take, List.length_drop, Array.length_toList, hs1, hu8]; omega
 have ht2 : C2.toList.take ((n + 1) * 8) = vs.take (k * 8) ++ us ++ vs.drop (k * 8) := by
  have e1 : C1.toList = cur.toList.take ((k + 1) * 8) ++ (vs.drop (k * 8) ++ cur.toList.drop ((k + 1) * 8 + (n - k) * 8)) := by rw [hC1, List.append_assoc]
  have e2 : C1.toList.take (k * 8) = vs.take (k * 8) := by
   rw [e1, List.take_append_of_le_length (by rw [hl1]; omega), List.take_take, Nat.min_eq_left (by omega), ← ht, List.take_take, Nat.min_eq_left (by omega)]
  have e3 : C1.toList.drop (k * 8 + us.length) = vs.drop (k * 8) ++ cur.toList.drop ((k + 1) * 8 + (n - k) * 8) := by
   rw [e1, hu8, show k * 8 + 8 = (cur.toList.take ((k + 1) * 8)).length by rw [hl1]; omega, List.drop_left]
  rw [hC2]
  show (C1.toList.take (k * 8) ++ us ++ C1.toList.drop (k * 8 + us.length)).take ((n + 1) * 8) = _
  rw [e2, e3, ← List.append_assoc]
  have hl : (vs.take (k * 8) ++ us ++ vs.drop (k * 8)).length = (n + 1) * 8 := by rw [List.length_append, List.length_append, htl, hdl, hu8]; omega
  rw [← hl, List.take_left]
 have FIN := Lib.hid (show InsPost base (.slice (some ⟨g, 0, none⟩) n cap) vs us n k w (.returned (.slice (some ⟨g, 0, none⟩) (n + 1) cap)) (W1.setRow g C2) from by
  have hl : (vs.take (k * 8) ++ us ++ vs.drop (k * 8)).length = (n + 1) * 8 := by rw [List.length_append, List.length_append, htl, hdl, hu8]; omega
  obtain ⟨f1, f2⟩ := row_set (base := base) (k := 8) (cap := cap) (n := n + 1) hg1 hbg hrm hcm hs2 hl ht2
  have f0 : w.drew.grownBy W1 (some g) := by rw [hW1]; exact ⟨rfl, rfl, rfl, by simp, fun j _ hj => setRow_other w.drew g j _ fun e => hj (by rw [e])⟩
  exact ⟨_, rfl, f1, grown_drew (grown_tr f0 f2), .inl rfl⟩)
 have H1 := Lib.hid hr1; clear hr1
 have H2 := Lib.hid hr2; clear hr2
 have HW := Lib.hid hW1; clear hW1
 have HO := Lib.hid hov; clear hov
 clear hcell hs1 hg1 hs2 ht2 hC1 hC2 ht hone hg hcs hvl h hi hz0 hz1 hz2 hsz hl1 hv1 htl hdl hu8 hu1 hvb hap hne hgl hvl2
 unfold maxLen at hcm
 have mixed : Tryz.prog.follows .mixedOrders = true := by kernel_rfl
 have d0 : ¬ ((1 : Int) = 0) := by omega
 have d1 : ¬ ((k : Int) = (n : Int)) := by omega
 have d2 : ¬ ((cap : Int) < (n : Int) + 1) := by omega
 have i1 : k ≤ cap := by omega
 have i2 : ¬ cap = k := by omega
 have i3 : (0 : Int) ≤ (k : Int) + 1 := by omega
 have i4 : ((k : Int) + 1).toNat = k + 1 := by omega
 have i5 : ¬ cap = k + 1 := by omega
 have i6 : (k : Int) + 1 ≤ (n : Int) + 1 := by omega
 have i7 : ((n : Int) + 1).toNat = n + 1 := by omega
 have i8 : (0 : Int) ≤ (n : Int) + 1 := by omega
 have i9 : (n : Int) + 1 ≤ (cap : Int) := by omega
 have j1 : (k : Int) ≤ (n : Int) + 1 := by omega
 have hwr : IntKind.i64.wrap ((k : Int) + 1) = (k : Int) + 1 := by rw [IntKind.wrap_i64]; omega
 go_enter Tryz.func103, Tryz.ntmps103
 go_wp2_with (simp only [HO.out])
 go_region_law_o (refine step_copy_runK rfl (.tmp 73) (.tmp 76) 33 33 rfl (.slice (some ⟨g, (k + 1) * 8, none⟩) (n + 1 - (k + 1)) (cap - (k + 1))) (.slice (some ⟨g, k * 8, none⟩) (n + 1 - k) (cap - k)) (by simp [Act.eval, Act.put]) (by simp [Act.eval, Act.put]) (H1.out _) ?_)
 have HX := H2.out
 go_wp2_with fail
 go_ret
 exact FIN.out
set_option maxRecDepth 100000 in
set_option maxHeartbeats 4000000 in
theorem ins_grow (base : Nat) (v : Value) (vs us : List Value) (n k vb : Nat) (w : World) (h : w.ownsRow base 53 8 v n vs) (hbase : base ≤ w.heap.size) (hone : ∀ u ∈ vs, u.oneCell' = true) (hk : k < n) (hn : n ≤ 1000000) (hroom : ∀ A m c, v = .slice A m c → c < n + 1)
  (hu8 : us.length = 8) (hu1 : ∀ u ∈ us, u.oneCell' = true) (hvb : w.heap[vb]? = some (.cells us.toArray 53 (0, 0))) (hap : v.ownBlock ≠ some vb) :
  Calls Tryz.prog 103 #[v, .int .i64 k, .slice (some ⟨vb, 0, none⟩) 1 1] w (InsPost base v vs us n k w) := by
 obtain ⟨g, cap, cur, rfl, hbg, hg, hnc, hcm, hcs, ht, hvl⟩ := row_open h (by omega)
 obtain ⟨i, hi, hz0, hz1, hz2⟩ := info_parts itemInfo
 have hsz : (Tryz.prog.info? 53).map (·.size) = some 8 := by rw [hi]; simp [hz1]
 have hgl : g < w.heap.size := (Array.getElem?_eq_some_iff.1 hg).1
 have hvl2 : vb < w.heap.size := (Array.getElem?_eq_some_iff.1 hvb).1
 have hcell : ∀ j u, vs[j]? = some u → w.cell? ⟨g, j, none⟩ = some u := fun j u hu => by
  rw [← ht] at hu
  have hlt := (List.getElem?_eq_some_iff.1 hu).1
  rw [List.getElem?_take_of_lt (by rw [List.length_take] at hlt; omega)] at hu
  rw [cell_of_row w _ _ _ _ (0, 0) hg]
  simpa using hu
 have hne : vb ≠ g := fun e => hap (by rw [e]; rfl)
 have htl : (vs.take (k * 8)).length = k * 8 := by rw [List.length_take]; omega
 have hdl : (vs.drop (k * 8)).length = (n - k) * 8 := by rw [List.length_drop, hvl]; omega
 have hrm := hroom _ _ _ rfl
 clear hroom
 obtain rfl : cap = n := by omega
 have hold : (Builtin.firstCells i.size k (.slice (some ⟨g, 0, none⟩) k cap)).run Tryz.prog w.drew = .ok (vs.take (k * 8)).toArray w.drew := by
  rw [hz1]
  exact run_firstCells_some w.drew 8 k ⟨g, 0, none⟩ k cap (vs.take (k * 8)) htl (fun j u hj => by
   rw [add_lit, Nat.zero_add]
   rw [List.getElem?_take] at hj
   split at hj
   ·
    exact hcell j u hj
   ·
    cases hj)
 have hrz := fun ty => Lib.run_append_grow_zeros w 33 3 ty 53 i _ .i64 .i64 Tryz.underlying33 Tryz.underlying3 hi hz0 (some ⟨g, 0, none⟩) k cap (vs.take (k * 8)) hold (cap + 1 - k) (by omega) (by omega) (by omega) (by omega) (by rw [hz2]; omega) (by rw [hz2]; exact growslice_fits (by omega) (by omega))
 have hkk : ((cap + 1 - k : Nat) : Int) = (cap : Int) + 1 - (k : Int) := by omega
 rw [hkk, show k + (cap + 1 - k) = cap + 1 by omega] at hrz
 obtain ⟨G, hG⟩ : ∃ G, G = grownCap w (cap + 1) cap 53 := ⟨_, rfl⟩
 obtain ⟨R0, hR0⟩ : ∃ R : Array Value, R = (vs.take (k * 8)).toArray ++ Builtin.zeroCells (Value.agg #[.string ⟨#[]⟩, .int .i64 0, .slice none 0 0, .int .i64 0, .int .i64 0, .slice none 0 0, .slice none 0 0, .slice none 0 0]).cells (cap + 1 - k) ++ Builtin.zeroCells (Value.agg #[.string ⟨#[]⟩, .int .i64 0, .slice none 0 0, .int .i64 0, .int .i64 0, .slice none 0 0, .slice none 0 0, .slice none 0 0]).cells (G - (cap + 1)) := ⟨_, rfl⟩
 rw [← hG, ← hR0] at hrz
 have hGn : cap + 1 ≤ G := by rw [hG]; exact grownCap_ge w _ _ _
 have hGm : G ≤ maxLen := by rw [hG]; exact grownCap_le_maxLen w _ _ _ (by unfold maxLen; omega)
 have hs0 : R0.size = G * 8 := by
  rw [hR0]
  simp only [Array.size_append, List.size_toArray, htl, size_zeroCells]
  show k * 8 + (cap + 1 - k) * 8 + (G - (cap + 1)) * 8 = G * 8
  omega
 have h0t : R0.toList.take (k * 8) = vs.take (k * 8) := by
  rw [hR0, Array.toList_append, Array.toList_append, List.append_assoc]
  show (vs.take (k * 8) ++ _).take (k * 8) = _
  rw [List.take_append_of_le_length (by rw [htl]; exact Nat.le_refl _), List.take_of_length_le (by rw [htl]; exact Nat.le_refl _)]
 obtain ⟨N, hN⟩ : ∃ N, N = w.heap.size := ⟨_, rfl⟩
 obtain ⟨W0, hW0⟩ : ∃ W, W = w.drew.alloc (.cells R0 53) := ⟨_, rfl⟩
 rw [← hW0, ← hN] at hrz
 have hgN : W0.heap[N]? = some (.cells R0 53 (0, 0)) := by rw [hW0, hN]; exact heap_alloc_new w.drew _
 have hv0 : W0.heap[vb]? = some (.cells us.toArray 53 (0, 0)) := by rw [hW0]; exact (heap_alloc_old w.drew _ hvl2).trans hvb
 have hg0 : W0.heap[g]? = some (.cells cur 53 (0, 0)) := by rw [hW0]; exact (heap_alloc_old w.drew _ hgl).trans hg
 -- the new one
 have hr1 := fun ty => run_copy_row (P := Tryz.prog) W0 33 33 ty 53 53 N (k * 8) (cap + 1 - k) (G - k) R0 hgN ⟨vb, 0, none⟩ 1 1 us 8 Tryz.underlying33 hsz
  (by rw [hu8]; simp only [Nat.min_def]; split <;> omega) (fun j u hu => by rw [add_lit, Nat.zero_add, cell_of_row W0 _ _ _ _ (0, 0) hv0]; simpa using hu) (by rw [hu8, hs0]; omega) hu1
 obtain ⟨R1, hR1⟩ : ∃ C : Array Value, C = (R0.toList.take (k * 8) ++ us ++ R0.toList.drop (k * 8 + us.length)).toArray := ⟨_, rfl⟩
 rw [← hR1] at hr1
 have hs1 : R1.size = G * 8 := by rw [hR1]; simp only [List.size_toArray, List.length_append, List.length_take, List.length_drop, Array.length_toList, hs0, hu8]; omega
 obtain ⟨W1, hW1⟩ : ∃ W, W = W0.setRow N R1 := ⟨_, rfl⟩
 rw [← hW1] at hr1
 have hg1 : W1.heap[N]? = some (.cells R1 53 (0, 0)) := by rw [hW1]; exact setRow_heap W0 N R0 _ _ _ hgN
 have hgg1 : W1.heap[g]? = some (.cells cur 53 (0, 0)) := by rw [hW1]; exact (setRow_other W0 N g _ (by omega)).trans hg0
 -- what stands from k on
 have hr2 := fun ty => run_copy_row (P := Tryz.prog) W1.drew 33 33 ty 53 53 N ((k + 1) * 8) (cap + 1 - (k + 1)) (G - (k + 1)) R1 hg1 ⟨g, k * 8, none⟩ (cap - k) (cap - k) (vs.drop (k * 8)) 8 Tryz.underlying33 hsz
  (by rw [hdl]; simp only [Nat.min_def]; split <;> omega) (fun j u hu => by
   rw [add_lit]; rw [List.getElem?_drop] at hu
   have h1 := hcell _ _ hu
   rw [cell_of_row w _ _ _ _ (0, 0) hg] at h1
   rw [cell_of_row W1.drew _ _ _ _ (0, 0) hgg1]
   exact h1) (by rw [hdl, hs1]; omega) (fun u hu => hone u (List.mem_of_mem_drop hu))
 obtain ⟨R2, hR2⟩ : ∃ C : Array Value, C = (R1.toList.take ((k + 1) * 8) ++ vs.drop (k * 8) ++ R1.toList.drop ((k + 1) * 8 + (vs.drop (k * 8)).length)).toArray := ⟨_, rfl⟩
 rw [← hR2] at hr2
 have hs2 : R2.size = G * 8 := by rw [hR2]; simp only [List.size_toArray, List.length_append, List.length_take, List.length_drop, Array.length_toList, hs1, hvl]; omega
 have ht2 : R2.toList.take ((cap + 1) * 8) = vs.take (k * 8) ++ us ++ vs.drop (k * 8) := by
  have e1 : R1.toList = (vs.take (k * 8) ++ us) ++ R0.toList.drop (k * 8 + us.length) := by rw [hR1, ← h0t]
  have hl1 : (vs.take (k * 8) ++ us).length = (k + 1) * 8 := by rw [List.length_append, htl, hu8]; omega
  have e2 : R1.toList.take ((k + 1) * 8) = vs.take (k * 8) ++ us := by rw [e1, ← hl1, List.take_left]
  rw [hR2]
  show (R1.toList.take ((k + 1) * 8) ++ vs.drop (k * 8) ++ R1.toList.drop ((k + 1) * 8 + (vs.drop (k * 8)).length)).take ((cap + 1) * 8) = _
  rw [e2]
  have hl : (vs.take (k * 8) ++ us ++ vs.drop (k * 8)).length = (cap + 1) * 8 := by rw [List.length_append, hl1, hdl]; omega
  rw [← hl, List.take_left]
 have FIN := Lib.hid (show InsPost base (.slice (some ⟨g, 0, none⟩) cap cap) vs us cap k w (.returned (.slice (some ⟨N, 0, none⟩) (cap + 1) G)) (W1.drew.setRow N R2) from by
  have hl : (vs.take (k * 8) ++ us ++ vs.drop (k * 8)).length = (cap + 1) * 8 := by rw [List.length_append, List.length_append, htl, hdl, hu8]; omega
  obtain ⟨f1, f2⟩ := row_set (base := base) (w := W1.drew) (k := 8) (cap := G) (n := cap + 1) hg1 (by omega) hGn hGm hs2 hl ht2
  have k1 : ∀ j, j < w.heap.size → W1.heap[j]? = w.heap[j]? := fun j hj => by
   rw [hW1, setRow_other W0 N j _ (by omega), hW0]
   exact heap_alloc_old w.drew _ hj
  have hsz1 : W1.heap.size = w.heap.size + 1 := by rw [hW1, setRow_size, hW0]; simp
  have k2 : w.os = W1.os ∧ w.tape = W1.tape ∧ w.output = W1.output := by rw [hW1, hW0]; exact ⟨rfl, rfl, rfl⟩
  refine ⟨_, rfl, f1, ⟨k2.1.symm, k2.2.1.symm, k2.2.2.symm, by rw [setRow_size]; show w.heap.size ≤ W1.heap.size; omega, fun j hj _ => ?_⟩, .inr ⟨N, rfl, by omega, ?_⟩⟩
  ·
   rw [setRow_other W1.drew N j _ (by omega)]
   exact k1 j hj
  ·
   rw [setRow_size]; show N < W1.heap.size; omega)
 have HZ := Lib.hid hrz; clear hrz
 have H1 := Lib.hid hr1; clear hr1
 have H2 := Lib.hid hr2; clear hr2
 have HNN := Lib.hid hN; clear hN
 clear hcell hs1 hg1 hs2 ht2 hR2 hR1 hR0 ht hone hg hcs hvl h hi hz0 hz1 hz2 hsz hv0 hg0 hgg1 hgN h0t hs0 htl hdl hu8 hu1 hvb hap hne hgl hvl2 hW1 hW0 hG hold hkk
 unfold maxLen at hcm hGm
 have mixed : Tryz.prog.follows .mixedOrders = true := by kernel_rfl
 have d0 : ¬ ((1 : Int) = 0) := by omega
 have d1 : ¬ ((k : Int) = (cap : Int)) := by omega
 have d2 : (cap : Int) < (cap : Int) + 1 := by omega
 have i1 : k ≤ cap := by omega
 have i2 : ¬ cap = k := by omega
 have i3 : (0 : Int) ≤ (k : Int) + 1 := by omega
 have i4 : ((k : Int) + 1).toNat = k + 1 := by omega
 have i5 : ¬ G = k + 1 := by omega
 have i5' : ¬ G = k := by omega
 have i6 : (k : Int) + 1 ≤ (cap : Int) + 1 := by omega
 have i7 : (k : Int) ≤ (cap : Int) + 1 := by omega
 have hwr : IntKind.i64.wrap ((k : Int) + 1) = (k : Int) + 1 := by rw [IntKind.wrap_i64]; omega
 go_enter Tryz.func103, Tryz.ntmps103
 go_wp2_with (at_builtin; refine Lib.wpList_append_run _ rfl _ _ _ _ rfl _ _ rfl rfl _ _ (HZ.out _) ?_; have HX := H1.out)
 go_region_law_o (refine step_copy_runK rfl (.tmp 50) (.tmp 53) 33 33 rfl (.slice (some ⟨N, (k + 1) * 8, none⟩) (cap + 1 - (k + 1)) (G - (k + 1))) (.slice (some ⟨g, k * 8, none⟩) (cap - k) (cap - k)) (by simp [Act.eval, Act.put]) (by simp [Act.eval, Act.put]) (H2.out _) ?_)
 go_wp2_with fail
 go_ret
 exact FIN.out
theorem insert_items (base : Nat) (v : Value) (vs us : List Value) (n k vb : Nat) (w : World) (h : w.ownsRow base 53 8 v n vs) (hbase : base ≤ w.heap.size) (hone : ∀ u ∈ vs, u.oneCell' = true) (hk : k ≤ n) (hn : n ≤ 1000000)
    (hu8 : us.length = 8) (hu1 : ∀ u ∈ us, u.oneCell' = true) (hvb : w.heap[vb]? = some (.cells us.toArray 53 (0, 0))) (hap : v.ownBlock ≠ some vb) :
    Calls Tryz.prog 103 #[v, .int .i64 k, .slice (some ⟨vb, 0, none⟩) 1 1] w (InsPost base v vs us n k w) := by
  rcases Nat.lt_or_ge k n with hlt | hge
  · obtain ⟨g, cap, cur, rfl, _⟩ := row_open h (by omega)
    rcases Nat.lt_or_ge cap (n + 1) with hc | hc
    · exact ins_grow base _ vs us n k vb w h hbase hone hlt hn (fun A m c e => by cases e; exact hc) hu8 hu1 hvb hap
    · exact ins_shift base _ vs us n k vb w h hone hlt hn (fun A m c e => by cases e; exact hc) hu8 hu1 hvb hap
  · obtain rfl : k = n := by omega
    exact ins_end base v vs us k vb w h hbase hn hu8 hu1 hvb
end
section
open Go.RowKit
set_option linter.all false
theorem grown_set {w W : World} {g : Nat} (h : w.grownBy W (some g)) (i : Nat) (u : Value) : w.grownBy (W.setCell ⟨g, i, none⟩ u) (some g) :=
  ⟨h.os, h.tape, h.output, Nat.le_trans h.size (Nat.le_of_eq (size_setCell W _ u).symm), fun j hj hne => (Below.heap_setCell _ _ _ _ (fun e => hne (by rw [e]))).trans (h.block j hj hne)⟩
theorem over8 {w : World} {base g cap n k : Nat} {cur : Array Value} {vs : List Value} (hg : w.heap[g]? = some (.cells cur 53 (0, 0))) (hb : base ≤ g) (hn : n ≤ cap) (hc : cap ≤ maxLen) (hs : cur.size = cap * 8) (ht : cur.toList.take (n * 8) = vs) (hvl : vs.length = n * 8) (hk : k < n) (v0 v1 v2 v3 v4 v5 v6 v7 : Value) :
  ((((((((w.setCell ⟨g, k * 8, none⟩ v0).setCell ⟨g, k * 8 + 1, none⟩ v1).setCell ⟨g, k * 8 + 2, none⟩ v2).setCell ⟨g, k * 8 + 3, none⟩ v3).setCell ⟨g, k * 8 + 4, none⟩ v4).setCell ⟨g, k * 8 + 5, none⟩ v5).setCell ⟨g, k * 8 + 6, none⟩ v6).setCell ⟨g, k * 8 + 7, none⟩ v7).ownsRow base 53 8 (.slice (some ⟨g, 0, none⟩) n cap) n (vs.take (k * 8) ++ [v0, v1, v2, v3, v4, v5, v6, v7] ++ vs.drop ((k + 1) * 8)) ∧
  w.grownBy ((((((((w.setCell ⟨g, k * 8, none⟩ v0).setCell ⟨g, k * 8 + 1, none⟩ v1).setCell ⟨g, k * 8 + 2, none⟩ v2).setCell ⟨g, k * 8 + 3, none⟩ v3).setCell ⟨g, k * 8 + 4, none⟩ v4).setCell ⟨g, k * 8 + 5, none⟩ v5).setCell ⟨g, k * 8 + 6, none⟩ v6).setCell ⟨g, k * 8 + 7, none⟩ v7) (some g) := by
 have h8 := set8 hg (k * 8) v0 v1 v2 v3 v4 v5 v6 v7
 have hot := fun i h => put8_other cur (k * 8) v0 v1 v2 v3 v4 v5 v6 v7 i h
 have hat := fun i u h => put8_at cur (k * 8) v0 v1 v2 v3 v4 v5 v6 v7 (by omega) i u h
 have hps := put8_size cur (k * 8) v0 v1 v2 v3 v4 v5 v6 v7
 obtain ⟨us, hus⟩ : ∃ us, us = [v0, v1, v2, v3, v4, v5, v6, v7] := ⟨_, rfl⟩
 have hul : us.length = 8 := by rw [hus]; rfl
 rw [← hus] at hat ⊢
 generalize put8 cur (k * 8) v0 v1 v2 v3 v4 v5 v6 v7 = C at *
 have hl : (vs.take (k * 8) ++ us ++ vs.drop ((k + 1) * 8)).length = n * 8 := by
  rw [List.length_append, List.length_append, List.length_take, List.length_drop, hvl, hul]; omega
 refine ⟨⟨hl, .inr ⟨g, cap, C, rfl, hb, h8, hn, hc, by rw [hps]; exact hs, ?_⟩⟩, ?_⟩
 ·
  have hv : ∀ j, j < n * 8 → vs[j]? = cur[j]? := fun j hj => by rw [← ht, List.getElem?_take_of_lt hj, Array.getElem?_toList]
  have htk : (vs.take (k * 8)).length = k * 8 := by rw [List.length_take]; omega
  clear h8 hus hg
  apply List.ext_getElem?
  intro i
  by_cases hi : i < n * 8
  ·
   rw [List.getElem?_take_of_lt hi, Array.getElem?_toList]
   by_cases h1 : i < k * 8
   ·
    rw [hot i (.inl h1), List.append_assoc, List.getElem?_append_left (by rw [htk]; exact h1), List.getElem?_take_of_lt h1]
    exact (hv i hi).symm
   ·
    by_cases h2 : i < k * 8 + 8
    ·
     have e : us[i - k * 8]? = some (us[i - k * 8]'(by omega)) := List.getElem?_eq_getElem _
     have h3 := hat (i - k * 8) _ e
     rw [show k * 8 + (i - k * 8) = i by omega] at h3
     rw [h3, List.append_assoc, List.getElem?_append_right (by rw [htk]; omega), List.getElem?_append_left (by rw [htk]; omega), htk]
     exact e.symm
    ·
     rw [hot i (.inr (by omega)), List.getElem?_append_right (by rw [List.length_append, htk, hul]; omega), List.getElem?_drop, ← hv i hi]
     congr 1
     rw [List.length_append, htk, hul]
     omega
  ·
   rw [List.getElem?_eq_none (by rw [List.length_take]; omega), List.getElem?_eq_none (by rw [hl]; omega)]
 ·
  iterate 8 (refine grown_set ?_ _ _)
  exact ⟨rfl, rfl, rfl, Nat.le_refl _, fun _ _ _ => rfl⟩
def putI (xs : List Item) (x : Item) : List Item := if hasN x.nm xs = true then xs.set (cntN x.nm xs) x else xs.take (cntN x.nm xs) ++ [x] ++ xs.drop (cntN x.nm xs)
def PutPost (base : Nat) (ys : List Item) (w : World) (e : Ending) (w' : World) : Prop := ∃ v', e = .returned v' ∧ ItemsSt base w' v' ys ∧ Below base w w'
set_option maxRecDepth 100000 in
set_option maxHeartbeats 1000000 in
theorem impl_putItem (base : Nat) (v : Value) (xs : List Item) (x : Item) (va vf vs vr : Value) (w : World) (h : ItemsSt base w v xs) (hbase : base ≤ w.heap.size) (hs : Sd xs) (hi : ItemR w w.heap.size x va vf vs vr) (hz : szItem x ≤ 2000000) (hl : xs.length ≤ 1000000) :
  Calls Tryz.prog 65 #[v, itemV x va vf vs vr] w (PutPost base (putI xs x) w) := by
 obtain ⟨Aa, ma, ca, rfl⟩ := hi.a.isSlice'
 obtain ⟨Af, mf, cf, rfl⟩ := hi.f.isSlice
 obtain ⟨As, ms, cs, rfl⟩ := hi.s.isSlice
 obtain ⟨Ar, mr, cr, rfl⟩ := hi.r.isSlice'
 have Rx := Lib.hid hi; clear hi
 have HS := Lib.hid h; clear h
 have SD := Lib.hid hs; clear hs
 have HC := Lib.hid (show ∀ ys, ys = putI xs x → ys = putI xs x from fun _ h => h)
 have hB := Below.refl w.heap.size w
 obtain ⟨w0, hw0⟩ : ∃ z, z = w.alloc (.cells #[.string x.nm, .int .i64 x.n, .slice Aa ma ca, .int .i64 x.cl, .int .i64 x.lb, .slice Af mf cf, .slice As ms cs, .slice Ar mr cr] 53) := ⟨_, rfl⟩
 have hba0 : Below w.heap.size w w0 := by rw [hw0]; exact bl_alloc (Below.refl _ _) _
 have HX0 := Lib.hid (show w0.heap[w.heap.size]? = some (.cells #[.string x.nm, .int .i64 x.n, .slice Aa ma ca, .int .i64 x.cl, .int .i64 x.lb, .slice Af mf cf, .slice As ms cs, .slice Ar mr cr] 53) by rw [hw0]; exact heap_alloc_new w _)
 have hl0 : w.heap.size < w0.heap.size := by rw [hw0]; simp
 have HW0 := Lib.hid hw0; clear hw0
 have hz1 := hba0.size
 replace hB := bl_trans hB hba0
 replace Rx := Lib.hid (Rx.out.below (hba0.mono (by omega)))
 obtain ⟨Av, nv, cv, rfl⟩ := HS.out.isSlice
 go_enter Tryz.func65, Tryz.ntmps65
 go_wp2_with fail
 rw [← HW0.out]
 have x01 := cells8 HX0
 refine (impl_findItem _ xs x.nm w0 (HS.out.below hB).reads SD.out hl).mono ?_
 rintro e w1 ⟨rfl, hb1⟩
 have hz2 := hb1.size
 replace hB := bl_trans hB hb1
 clear x01
 replace HX0 := bk HX0 hb1
 replace Rx := Lib.hid (Rx.out.below (hb1.mono (by omega)))
 have x02 := cells8 HX0
 have HS1 := Lib.hid (HS.out.below hB)
 have hkl := cntI_le x.nm xs
 obtain ⟨k, hk⟩ : ∃ k, k = cntN x.nm xs := ⟨_, rfl⟩
 cases q1 : hasN x.nm xs with
 | true =>
  have HP := Lib.hid (show putI xs x = xs.set k x by unfold putI; rw [if_pos q1, hk])
  obtain ⟨y, hy, -⟩ := has_cnt SD.out q1
  rw [← hk] at hy ⊢
  have hkn := (List.getElem?_eq_some_iff.1 hy).1
  clear hk q1 hy hkl
  go_wp2_with fail
  refine (impl_copyItem x _ _ _ _ w1 (Rx.out.more (show w.heap.size ≤ w1.heap.size by omega)) hz).mono ?_
  rintro e w2 ⟨za, zf, zs, zr, bo, rfl, ho, hnd, hrg, hb2⟩
  have hz3 := hb2.size
  replace hB := bl_trans hB hb2
  clear x02
  replace HX0 := bk HX0 hb2
  replace Rx := Lib.hid (Rx.out.below (hb2.mono (by omega)))
  obtain ⟨ba, bf, bz, br, oa, of, oz, or, hbs⟩ := id ho
  obtain ⟨Ca, na, ea, rfl⟩ := oa.isSlice
  obtain ⟨Cf, nf, ef, rfl⟩ := of.1.isSlice
  obtain ⟨Cs, ns, es, rfl⟩ := oz.1.isSlice
  obtain ⟨Cr, nr, er, rfl⟩ := or.isSlice
  clear oa of oz or hbs
  obtain ⟨vs, hown, hone, hfin⟩ := HS1.out.over (show base ≤ w1.heap.size by omega) hb2 ho hnd hrg k hkn
  have HF := Lib.hid hfin; clear hfin ho hnd hrg hone
  obtain ⟨g, cap, cur, e0, hbg, hg, hnc, hcm, hcs, ht, hvl⟩ := row_open hown (by omega)
  obtain ⟨rfl, rfl, rfl⟩ : Av = some ⟨g, 0, none⟩ ∧ nv = xs.length ∧ cv = cap := by cases e0; exact ⟨rfl, rfl, rfl⟩
  clear e0
  have hcell : ∀ j, j < 8 → ∃ u, w2.cell? ⟨g, k * 8 + j, none⟩ = some u := by
   intro j hj
   rw [cell_of_row w2 _ (k * 8 + j) _ _ (0, 0) hg, Array.getElem?_eq_getElem (by rw [hcs]; omega)]
   exact ⟨_, rfl⟩
  have hfr : ∀ j, w2.frozen? ⟨g, j, none⟩ = false := by intro j; simp [World.frozen?, hg]
  obtain ⟨o0, z0⟩ := hcell 0 (by omega)
  obtain ⟨o1, z1⟩ := hcell 1 (by omega)
  obtain ⟨o2, z2⟩ := hcell 2 (by omega)
  obtain ⟨o3, z3⟩ := hcell 3 (by omega)
  obtain ⟨o4, z4⟩ := hcell 4 (by omega)
  obtain ⟨o5, z5⟩ := hcell 5 (by omega)
  obtain ⟨o6, z6⟩ := hcell 6 (by omega)
  obtain ⟨o7, z7⟩ := hcell 7 (by omega)
  rw [Nat.add_zero] at z0
  have y0 := hfr (k * 8)
  have y1 := hfr (k * 8 + 1)
  have y2 := hfr (k * 8 + 2)
  have y3 := hfr (k * 8 + 3)
  have y4 := hfr (k * 8 + 4)
  have y5 := hfr (k * 8 + 5)
  have y6 := hfr (k * 8 + 6)
  have y7 := hfr (k * 8 + 7)
  have hov := over8 hg hbg hnc hcm hcs ht hvl hkn (.string x.nm) (.int .i64 x.n) (.slice Ca na ea) (.int .i64 x.cl) (.int .i64 x.lb) (.slice Cf nf ef) (.slice Cs ns es) (.slice Cr nr er)
  have HOV := Lib.hid hov; clear hov
  have HB2 := Lib.hid (show Below base w w2 from hB.mono hbase)
  clear hcell hfr hown hg hcs ht hvl
  have i1 : (0 : Int) ≤ (k : Int) := by omega
  have i2 : (k : Int) < (xs.length : Int) := by omega
  go_wp2_with fail
  go_ret
  refine ⟨_, rfl, ?_, HB2.out.grown HOV.out.2 (by omega) (fun j hj => by have e := Option.some.inj (show some g = some j from hj); omega)⟩
  rw [HP.out]
  exact HF.out _ HOV.out.1 HOV.out.2
 | false =>
  have HP := Lib.hid (show putI xs x = xs.take k ++ [x] ++ xs.drop k by unfold putI; rw [if_neg (by simp [q1]), hk])
  rw [← hk] at hkl ⊢
  clear hk q1
  go_wp2_with fail
  refine (impl_copyItem x _ _ _ _ w1 (Rx.out.more (show w.heap.size ≤ w1.heap.size by omega)) hz).mono ?_
  rintro e w2 ⟨za, zf, zs, zr, bo, rfl, ho, hnd, hrg, hb2⟩
  have hz3 := hb2.size
  replace hB := bl_trans hB hb2
  clear x02
  replace HX0 := bk HX0 hb2
  replace Rx := Lib.hid (Rx.out.below (hb2.mono (by omega)))
  obtain ⟨ba, bf, bz, br, oa, of, oz, or, hbs⟩ := id ho
  obtain ⟨Ca, na, ea, rfl⟩ := oa.isSlice
  obtain ⟨Cf, nf, ef, rfl⟩ := of.1.isSlice
  obtain ⟨Cs, ns, es, rfl⟩ := oz.1.isSlice
  obtain ⟨Cr, nr, er, rfl⟩ := or.isSlice
  clear oa of oz or hbs
  obtain ⟨vs, hown, hone, hap, hfin⟩ := HS1.out.put (show base ≤ w1.heap.size by omega) hb2 ho hnd hrg k hkl
  have HF := Lib.hid hfin; clear hfin ho hnd hrg
  have HB2 := Lib.hid (show Below base w w2 from hB.mono hbase)
  have hga := World.grownBy_alloc w2 (.cells #[.string x.nm, .int .i64 x.n, .slice Ca na ea, .int .i64 x.cl, .int .i64 x.lb, .slice Cf nf ef, .slice Cs ns es, .slice Cr nr er] 53) (Value.slice Av nv cv).ownBlock
  have hoa := hown.alloc (.cells #[.string x.nm, .int .i64 x.n, .slice Ca na ea, .int .i64 x.cl, .int .i64 x.lb, .slice Cf nf ef, .slice Cs ns es, .slice Cr nr er] 53)
  have J := Lib.hid (insert_items base _ vs (itemL x (.slice Ca na ea) (.slice Cf nf ef) (.slice Cs ns es) (.slice Cr nr er)) xs.length k w2.heap.size _ hoa (by simp; omega) hone hkl hl rfl (one8 x _ _ _ _ _ _ _ _ _ _ _ _) (heap_alloc_new w2 _) (fun e => by have := hap _ e; omega))
  have HG := Lib.hid hga; clear hga hoa
  have HO := Lib.hid hown; clear hown hone
  have HAP := Lib.hid hap; clear hap
  go_wp2_with fail
  refine J.out.mono ?_
  rintro e w3 ⟨v', rfl, hown3, hgr3, hob3⟩
  have hgr := grown_tr HG.out hgr3
  have hbf : Below base w w3 := HB2.out.grown hgr (by omega) (fun j hj => (HO.out.lt j hj).1)
  have hss := HF.out v' w3 hown3 hgr (by
   rcases hob3 with h | ⟨g, h1, h2, h3⟩
   ·
    exact .inl h
   ·
    exact .inr ⟨g, h1, by simp at h2; omega, h3⟩)
  have HSS := Lib.hid hss; clear hss hown3 hgr3 hob3 hgr
  obtain ⟨A3, n3, c3, rfl⟩ := HSS.out.isSlice
  go_wp2_with fail
  go_ret
  exact ⟨_, rfl, by rw [HP.out]; exact HSS.out, hbf⟩
end
section
open Go.RowKit
set_option linter.all false
theorem put_ins {xs : List Item} {x : Item} (h : Sd xs) : putI xs x = insI x (delI xs (fN x.nm xs)) := by
  unfold putI
  cases q : hasN x.nm xs with
  | true => rw [if_pos rfl, ins_over h q]
  | false =>
    rw [if_neg (by simp), delI_none q, ins_at x xs h fun z hz e => by
      have : hasN x.nm xs = true := hasI_iff.2 ⟨z, hz, e⟩
      rw [q] at this
      cases this]
    simp
theorem put_new {xs : List Item} {x : Item} (h : Sd xs) (q : hasN x.nm xs = false) : putI xs x = insI x xs := by rw [put_ins h, delI_none q]
theorem ItemsSt.item {base : Nat} {w : World} {v : Value} {xs : List Item} (h : ItemsSt base w v xs) {k : Nat} {x : Item} (hx : xs[k]? = some x) :
    ∃ g cap va vf vz vr b1, v = .slice (some ⟨g, 0, none⟩) xs.length cap ∧ base ≤ g ∧ g < w.heap.size ∧ xs.length ≤ cap ∧ cap ≤ maxLen ∧ (∀ j u, (itemL x va vf vz vr)[j]? = some u → w.cell? ⟨g, k * 8 + j, none⟩ = some u) ∧ OwnItem w x va vf vz vr b1 ∧ ∀ b ∈ b1, b < w.heap.size ∧ b ≠ g := by
  obtain ⟨vs, bs, h1, h2, h3, h4⟩ := h
  have hk := (List.getElem?_eq_some_iff.1 hx).1
  obtain ⟨g, cap, cur, rfl, hbg, hg, hnc, hcm, hcs, ht, hvl⟩ := row_open h1 (by omega)
  obtain ⟨va, vf, vz, vr, b1, g1, g2, g3⟩ := h2.at_ hx
  refine ⟨g, cap, va, vf, vz, vr, b1, rfl, hbg, (Array.getElem?_eq_some_iff.1 hg).1, hnc, hcm, fun j u hu => ?_, g2, fun b hb => ?_⟩
  · have e := g1 j u hu
    rw [← ht] at e
    have hlt := (List.getElem?_eq_some_iff.1 e).1
    rw [List.getElem?_take_of_lt (by rw [List.length_take] at hlt; omega)] at e
    rw [cell_of_row _ _ _ _ _ _ hg]
    simpa using e
  · have h5 := h4 b (g3 b hb)
    exact ⟨h5.2.1, fun e => h5.2.2 (by rw [e]; rfl)⟩
def ItemsStU (base U : Nat) (w : World) (v : Value) (xs : List Item) : Prop :=
  ∃ vs bs, w.ownsRow base 53 8 v xs.length vs ∧ OwnIts w vs xs bs ∧ bs.Nodup ∧ (∀ b ∈ bs, base ≤ b ∧ b < U ∧ v.ownBlock ≠ some b) ∧ ∀ g, v.ownBlock = some g → g < U
theorem ItemsSt.u {base : Nat} {w : World} {v : Value} {xs : List Item} (h : ItemsSt base w v xs) : ItemsStU base w.heap.size w v xs := by
  obtain ⟨vs, bs, h1, h2, h3, h4⟩ := h
  exact ⟨vs, bs, h1, h2, h3, h4, fun g hg => (h1.lt g hg).2⟩
theorem ItemsStU.st {base U : Nat} {w : World} {v : Value} {xs : List Item} (h : ItemsStU base U w v xs) (hU : U ≤ w.heap.size) : ItemsSt base w v xs := by
  obtain ⟨vs, bs, h1, h2, h3, h4, _⟩ := h
  exact ⟨vs, bs, h1, h2, h3, fun b hb => by have := h4 b hb; exact ⟨this.1, by omega, this.2.2⟩⟩
theorem ItemsStU.keep {base U : Nat} {w w' : World} {v : Value} {xs : List Item} (h : ItemsStU base U w v xs) (hk : ∀ b, b < U → w'.heap[b]? = w.heap[b]?) : ItemsStU base U w' v xs := by
  obtain ⟨vs, bs, h1, h2, h3, h4, h5⟩ := h
  refine ⟨vs, bs, ⟨h1.1, ?_⟩, h2.keep fun b hb => hk b (h4 b hb).2.1, h3, h4, h5⟩
  rcases h1.2 with h | ⟨g, cap, cur, e, k1, k2, k3⟩
  · exact .inl h
  · exact .inr ⟨g, cap, cur, e, k1, (hk g (h5 g (by rw [e]; rfl))).trans k2, k3⟩
theorem ItemsStU.drop1 {base U : Nat} {wr : World} {v : Value} {xs : List Item} (h : ItemsStU base U wr v xs) (hU : U ≤ wr.heap.size) (k : Nat) (hk : k < xs.length) :
  ∃ vs, wr.ownsRow base 53 8 v xs.length vs ∧ (∀ u ∈ vs, u.oneCell' = true) ∧ ∀ v' w2, w2.ownsRow base 53 8 v' (xs.length - 1) (vs.take (k * 8) ++ vs.drop ((k + 1) * 8)) → wr.grownBy w2 v.ownBlock → v'.ownBlock = v.ownBlock → ItemsStU base U w2 v' (xs.eraseIdx k) := by
 obtain ⟨vs, bs, h1, h2, h3, h4, h5⟩ := h
 refine ⟨vs, h1, h2.ones, fun v' w2 k1 k2 k3 => ?_⟩
 obtain ⟨c1, c2, g1, g2, g3⟩ := h2.cut k (by omega)
 obtain ⟨d1, d2, f1, f2, f3⟩ := g2.cut 1 (by rw [List.length_drop]; omega)
 rw [List.drop_drop, List.drop_drop, ← Nat.add_mul] at f2
 have hall := g1.join f2
 have hin : ∀ b ∈ c1 ++ d2, b ∈ bs := by
  intro b hb'
  rw [g3, f3]
  simp only [List.mem_append] at hb' ⊢
  rcases hb' with h | h
  ·
   exact .inl h
  ·
   exact .inr (.inr h)
 have hlen : (xs.eraseIdx k).length = xs.length - 1 := List.length_eraseIdx_of_lt hk
 refine ⟨_, c1 ++ d2, by rw [hlen]; exact k1, ?_, ?_, (fun b hb' => ?_), fun g hg => h5 g (k3 ▸ hg)⟩
 ·
  rw [List.eraseIdx_eq_take_drop_succ]
  exact hall.keep fun b hb' => k2.block b (by have := h4 b (hin b hb'); omega) (fun e => (h4 b (hin b hb')).2.2 e.symm)
 ·
  rw [g3, f3] at h3
  have n1 := List.nodup_append.1 h3
  exact List.nodup_append.2 ⟨n1.1, (List.nodup_append.1 n1.2.1).2.1, fun a ha b hb' => n1.2.2 a ha b (by simp [hb'])⟩
 ·
  have h6 := h4 b (hin b hb')
  exact ⟨h6.1, h6.2.1, fun e => h6.2.2 (k3 ▸ e)⟩
set_option maxRecDepth 100000 in
set_option maxHeartbeats 1000000 in
theorem impl_applyLab (v : Value) (xs : List Item) (en : Entry) (va vf vs vr : Value) (w : World) (h : ItemsR w w.heap.size v xs) (hst : storeP xs) (hi : ItemR w w.heap.size en.it va vf vs vr) (hz : szEntry en ≤ 1048576) (hlb : I64 en.it.lb) :
  Calls Tryz.prog 40 #[v, entryV en va vf vs vr] w (ApiPost xs en w) := by
 obtain ⟨Aa, ma, ca, rfl⟩ := hi.a.isSlice'
 obtain ⟨Af, mf, cf, rfl⟩ := hi.f.isSlice
 obtain ⟨As, ms, cs, rfl⟩ := hi.s.isSlice
 obtain ⟨Ar, mr, cr, rfl⟩ := hi.r.isSlice'
 obtain ⟨Ax, cx, rfl⟩ := h.slice
 have Ri := Lib.hid h; clear h
 have Re := Lib.hid hi; clear hi
 have ST := Lib.hid hst; clear hst
 have hxl : xs.length ≤ 8 := ST.out.2
 have HOK := Lib.hid (storeP.okI ST.out.all)
 have hzA : szEntry en ≤ 2000000 := Nat.le_trans hz (by omega)
 have hzB : szItem en.it ≤ 2000000 := by unfold szEntry at hz; omega
 have hzC : en.nm.size ≤ maxLen ∧ en.tn.size ≤ maxLen := ⟨(nm_len hzA).1, (nm_len hzA).2.1⟩
 have hzx : ∀ x ∈ xs, szItem x ≤ 2000000 := fun x hx => Nat.le_trans (HOK.out x hx).1 (by omega)
 have HZX := Lib.hid hzx; clear hzx
 have HLB := Lib.hid hlb; clear hlb
 have hB := Below.refl w.heap.size w
 obtain ⟨w0, hw0⟩ : ∃ x, x = w.alloc (.cells #[.int .i64 en.kd, .string en.nm, .string en.tn, .string en.it.nm, .int .i64 en.it.n, .slice Aa ma ca, .int .i64 en.it.cl, .int .i64 en.it.lb, .slice Af mf cf, .slice As ms cs, .slice Ar mr cr] 55) := ⟨_, rfl⟩
 have hba0 : Below w.heap.size w w0 := by rw [hw0]; exact bl_alloc (Below.refl _ _) _
 have HE0 := Lib.hid (show w0.heap[w.heap.size]? = some (.cells #[.int .i64 en.kd, .string en.nm, .string en.tn, .string en.it.nm, .int .i64 en.it.n, .slice Aa ma ca, .int .i64 en.it.cl, .int .i64 en.it.lb, .slice Af mf cf, .slice As ms cs, .slice Ar mr cr] 55) by rw [hw0]; exact heap_alloc_new w _)
 have hl0 : w.heap.size < w0.heap.size := by rw [hw0]; simp
 have HW0 := Lib.hid hw0; clear hw0
 have hz1 := hba0.size
 replace hB := bl_trans hB hba0
 replace Ri := Lib.hid (Ri.out.below (hba0.mono (by omega)))
 replace Re := Lib.hid (Re.out.below (hba0.mono (by omega)))
 go_enter Tryz.func40, Tryz.ntmps40
 go_wp2_with fail
 rw [← HW0.out]
 have e01 := cells11 HE0
 refine (impl_entryOk en _ _ _ _ w0 (Re.out.more (show w.heap.size ≤ w0.heap.size by omega)) hzA HLB.out).mono ?_
 rintro e w1 ⟨rfl, hb1⟩
 have hz2 := hb1.size
 replace hB := bl_trans hB hb1
 clear e01
 replace HE0 := bk HE0 hb1
 replace Ri := Lib.hid (Ri.out.below (hb1.mono (by omega)))
 replace Re := Lib.hid (Re.out.below (hb1.mono (by omega)))
 have e02 := cells11 HE0
 cases q0 : entryB en with
 | false =>
  have HN := Lib.hid (ap_not (xs := xs) (fun h => propB_ff q0 h)); clear q0
  go_wp2_with fail
  go_ret2
  exact api_f HN.out hB
 | true =>
  have HE := Lib.hid (show entryP en from propB_iff.1 q0); clear q0
  go_wp2_with fail
  refine (impl_copyItems _ xs w1 (Ri.out.more (show w.heap.size ≤ w1.heap.size by omega)) HZX.out (by omega)).mono ?_
  rintro e w2 ⟨v1, rfl, hst1, hb2⟩
  have hz3 := hb2.size
  replace hB := bl_trans hB hb2
  clear e02
  replace HE0 := bk HE0 hb2
  replace Ri := Lib.hid (Ri.out.below (hb2.mono (by omega)))
  replace Re := Lib.hid (Re.out.below (hb2.mono (by omega)))
  have e03 := cells11 HE0
  have HB1 := Lib.hid hb2
  have HS := Lib.hid hst1; clear hst1
  obtain ⟨A1, c1, rfl, hnc1, hcm1⟩ := HS.out.slice
  have hlb1 : w.heap.size < w1.heap.size := by omega
  by_cases hk : en.kd = 1
  ·
   obtain ⟨e1, e2⟩ := ap_1 (xs := xs) HE.out hk
   rw [← put_ins ST.out.sd] at e1 e2
   have hpl : (putI xs en.it).length = (putI xs en.it).length := rfl
   obtain ⟨ZS, hZS⟩ : ∃ zs, zs = putI xs en.it := ⟨_, rfl⟩
   rw [← hZS] at e1 e2
   clear hpl
   have HZ := Lib.hid hZS; clear hZS
   have E1 := Lib.hid e1; clear e1
   have E2 := Lib.hid e2; clear e2
   have k1 : (en.kd == 1) = true := by rw [hk]; rfl
   clear hk
   go_wp2_with fail
   refine (impl_putItem w1.heap.size _ xs en.it _ _ _ _ w2 HS.out (by omega) ST.out.sd (Re.out.more (show w.heap.size ≤ w2.heap.size by omega)) hzB (by omega)).mono ?_
   rintro e w3 ⟨v3, rfl, hst3, hb3⟩
   rw [← HZ.out] at hst3
   obtain ⟨A3, c3, rfl, -, -⟩ := hst3.slice
   have HS3 := Lib.hid hst3; clear hst3
   replace hB := hB.trans (hb3.mono (by omega))
   go_wp2_with fail
   go_ret2
   exact api_t _ E2.out E1.out HS3.out (by omega) hB
  ·
   have k1 : (en.kd == 1) = false := by rw [beq_eq_false_iff_ne]; exact hk
   go_wp2_with fail
   refine (impl_findItem _ xs en.nm w2 HS.out.reads ST.out.sd (by omega)).mono ?_
   rintro e w3 ⟨he, hb3⟩
   have hz4 := hb3.size
   replace hB := bl_trans hB hb3
   clear e03
   replace HE0 := bk HE0 hb3
   replace Ri := Lib.hid (Ri.out.below (hb3.mono (by omega)))
   replace Re := Lib.hid (Re.out.below (hb3.mono (by omega)))
   have e04 := cells11 HE0
   replace HS := Lib.hid (HS.out.below hb3)
   cases q1 : hasN en.nm xs with
   | false =>
    rw [q1] at he
    subst he
    have HN := Lib.hid (ap_none hk q1); clear q1 hk
    go_wp2_with fail
    go_ret2
    exact api_f HN.out hB
   | true =>
    rw [q1] at he
    obtain ⟨x, hx, -⟩ := has_cnt ST.out.sd q1
    have hkl := (List.getElem?_eq_some_iff.1 hx).1
    have HF := Lib.hid (fN_t q1)
    obtain ⟨kk, hkk⟩ : ∃ kk, kk = cntN en.nm xs := ⟨_, rfl⟩
    rw [← hkk] at HF hx hkl he
    subst he
    have HK := Lib.hid hkk; clear hkk
    have HX := Lib.hid hx; clear hx
    have Q1 := Lib.hid q1; clear q1
    obtain ⟨YS, hYS⟩ : ∃ ys, ys = delI xs (kk : Int) := ⟨_, rfl⟩
    have hyl : YS.length ≤ 8 := by rw [hYS]; exact Nat.le_trans (delI_le _ _) hxl
    have HYS := Lib.hid (show Sd YS by rw [hYS]; exact delI_sd ST.out.sd)
    have HYE := Lib.hid (show xs.eraseIdx kk = YS by rw [hYS]; unfold delI; rw [if_pos (by omega), Int.toNat_natCast])
    have HY := Lib.hid hYS; clear hYS
    obtain ⟨g, cap, ua, uf, us, ur, b1, e0, hbg, hgl, hnc, hcm, hcl, ho, hob⟩ := HS.out.item HX.out
    obtain ⟨rfl, rfl⟩ : A1 = some ⟨g, 0, none⟩ ∧ c1 = cap := by cases e0; exact ⟨rfl, rfl⟩
    clear e0
    obtain ⟨ba, bf, bz, br, oa, of, oz, or, hbs⟩ := id ho
    obtain ⟨Ba, ma2, da, rfl⟩ := oa.isSlice
    obtain ⟨Bf, mf2, df, rfl⟩ := of.1.isSlice
    obtain ⟨Bs, ms2, ds, rfl⟩ := oz.1.isSlice
    obtain ⟨Br, mr2, dr, rfl⟩ := or.isSlice
    have q0 : w3.cell? ⟨g, kk * 8, none⟩ = some (.string x.nm) := hcl 0 _ rfl
    have q1 : w3.cell? ⟨g, kk * 8 + 1, none⟩ = some (.int .i64 x.n) := hcl 1 _ rfl
    have q2 : w3.cell? ⟨g, kk * 8 + 2, none⟩ = some (.slice Ba ma2 da) := hcl 2 _ rfl
    have q3 : w3.cell? ⟨g, kk * 8 + 3, none⟩ = some (.int .i64 x.cl) := hcl 3 _ rfl
    have q4 : w3.cell? ⟨g, kk * 8 + 4, none⟩ = some (.int .i64 x.lb) := hcl 4 _ rfl
    have q5 : w3.cell? ⟨g, kk * 8 + 5, none⟩ = some (.slice Bf mf2 df) := hcl 5 _ rfl
    have q6 : w3.cell? ⟨g, kk * 8 + 6, none⟩ = some (.slice Bs ms2 ds) := hcl 6 _ rfl
    have q7 : w3.cell? ⟨g, kk * 8 + 7, none⟩ = some (.slice Br mr2 dr) := hcl 7 _ rfl
    clear oa of oz or hbs hcl
    have OX := Lib.hid ho; clear ho
    have OB := Lib.hid hob; clear hob
    have hxz := HZX.out x (List.mem_of_getElem? HX.out)
    have hkk0 : (0 : Int) ≤ (kk : Int) := by omega
    have hkk1 : (kk : Int) < (xs.length : Int) := by omega
    unfold maxLen at hcm
    have hba5 := bl_alloc (Below.refl w3.heap.size w3) (.cells #[.string x.nm, .int .i64 x.n, .slice Ba ma2 da, .int .i64 x.cl, .int .i64 x.lb, .slice Bf mf2 df, .slice Bs ms2 ds, .slice Br mr2 dr] 53)
    have HO0 := Lib.hid (heap_alloc_new w3 (.cells #[.string x.nm, .int .i64 x.n, .slice Ba ma2 da, .int .i64 x.cl, .int .i64 x.lb, .slice Bf mf2 df, .slice Bs ms2 ds, .slice Br mr2 dr] 53))
    have hs5 : w3.heap.size < (w3.alloc (.cells #[.string x.nm, .int .i64 x.n, .slice Ba ma2 da, .int .i64 x.cl, .int .i64 x.lb, .slice Bf mf2 df, .slice Bs ms2 ds, .slice Br mr2 dr] 53)).heap.size := by simp
    have HS5 := Lib.hid hs5; clear hs5; have hs5 := HS5.out
    have hz6 := hba5.size
    replace hB := bl_trans hB hba5
    clear e04
    replace HE0 := bk HE0 hba5
    replace Ri := Lib.hid (Ri.out.below (hba5.mono (by omega)))
    replace Re := Lib.hid (Re.out.below (hba5.mono (by omega)))
    have e05 := cells11 HE0
    have o01 := cells8 HO0
    go_wp2_with fail
    generalize w3.alloc (.cells #[.string x.nm, .int .i64 x.n, .slice Ba ma2 da, .int .i64 x.cl, .int .i64 x.lb, .slice Bf mf2 df, .slice Bs ms2 ds, .slice Br mr2 dr] 53) = w4 at *
    clear q0 q1 q2 q3 q4 q5 q6 q7
    have HBA := Lib.hid hba5
    have HS4 := Lib.hid (HS.out.u.keep fun b hb => HBA.out.block b hb)
    obtain ⟨vs, hown, hone, hfin⟩ := HS4.out.drop1 HBA.out.size kk hkl
    rw [HYE.out] at hfin
    have hyn : YS.length = xs.length - 1 := by rw [← HYE.out]; exact List.length_eraseIdx_of_lt hkl
    have HYN := Lib.hid hyn; clear hyn
    have HF5 := Lib.hid hfin; clear hfin
    refine (delete_items w1.heap.size _ vs (xs.length - 1) kk w4 (by rw [show xs.length - 1 + 1 = xs.length by omega]; exact hown) hone (by omega) (by omega)).mono ?_
    rintro e w5 ⟨v5, rfl, hown5, hgr5, hob5⟩
    have hst5 := HF5.out v5 w5 hown5 hgr5 hob5
    clear hown hone hown5 hob5
    have HU5 := Lib.hid hst5; clear hst5
    have hu5 : w3.heap.size ≤ w5.heap.size := Nat.le_trans HBA.out.size hgr5.size
    have HS5 := Lib.hid (HU5.out.st hu5)
    obtain ⟨A5, c5, rfl, hnc5, hcm5⟩ := HS5.out.slice
    have OX5 := Lib.hid (OX.out.keep (w' := w5) fun b hb => (hgr5.block b (by have := OB.out b hb; have := HBA.out.size; omega) (fun e => (OB.out b hb).2 (Option.some.inj e))).trans (HBA.out.block b (OB.out b hb).1))
    have HG5 := Lib.hid (show ∀ b ∈ [g], w1.heap.size ≤ b ∧ b < w3.heap.size from fun b hb => by simp only [List.mem_singleton] at hb; subst hb; exact ⟨hbg, hgl⟩)
    have hk5 : Kept [g] w4 w5 := ⟨hgr5.os, hgr5.tape, hgr5.output, hgr5.size, fun b hb hm => hgr5.block b hb (fun e => hm (by simp [Option.some.inj e]))⟩
    clear hgr5
    have hz7 := hk5.size
    have hk5x := hk5.below (fun b hb' => by have := HG5.out b hb'; omega) (show w.heap.size ≤ w4.heap.size by omega)
    replace hB := hB.trans hk5x
    clear e05
    replace HE0 := Lib.hid ((hk5.block (w.heap.size) (by omega) (fun hm => by have := HG5.out _ hm; omega)).trans HE0.out)
    clear o01
    replace HO0 := Lib.hid ((hk5.block (w3.heap.size) (by omega) (fun hm => by have := HG5.out _ hm; omega)).trans HO0.out)
    replace Ri := Lib.hid (Ri.out.below hk5x)
    replace Re := Lib.hid (Re.out.below hk5x)
    have e06 := cells11 HE0
    have o02 := cells8 HO0
    have OBx := Lib.hid (show ∀ b ∈ b1, b < w5.heap.size from fun b hb => by have := OB.out b hb; have := HBA.out.size; omega)
    by_cases hk3 : en.kd = 3
    ·
     have k3 : (en.kd == 3) = true := by rw [hk3]; rfl
     have HK3 := Lib.hid hk3; clear hk3 hk k1
     go_wp2_with fail
     refine (impl_findItem _ YS en.tn w5 HS5.out.reads HYS.out (by omega)).mono ?_
     rintro e w6 ⟨he, hb6⟩
     have hz8 := hb6.size
     replace hB := bl_trans hB hb6
     clear e06
     replace HE0 := bk HE0 hb6
     clear o02
     replace HO0 := bk HO0 hb6
     replace Ri := Lib.hid (Ri.out.below (hb6.mono (by omega)))
     replace Re := Lib.hid (Re.out.below (hb6.mono (by omega)))
     have e07 := cells11 HE0
     have o03 := cells8 HO0
     replace HU5 := Lib.hid (HU5.out.keep fun b hb => hb6.block b (by omega))
     clear HS5
     have HS5 := Lib.hid (HU5.out.st (by have := hb6.size; omega))
     replace OX5 := Lib.hid (OX5.out.keep fun b hb => hb6.block b (OBx.out b hb))
     cases q2 : hasN en.tn YS with
     | true =>
      rw [q2] at he
      subst he
      have HN := Lib.hid (ap_taken (xs := xs) HK3.out (by rw [HF.out, ← HY.out]; exact q2)); clear q2
      go_wp2_with fail
      go_ret2
      exact api_f HN.out hB
     | false =>
      rw [q2] at he
      subst he
      obtain ⟨e1, e2⟩ := ap_3 (xs := xs) HE.out HK3.out Q1.out (by rw [HF.out, ← HY.out]; exact q2) (by rw [← HK.out]; exact HX.out)
      rw [HF.out, ← HY.out, ← put_new HYS.out (x := rnI x en.tn) q2] at e1
      obtain ⟨ZS, hZS⟩ : ∃ zs, zs = putI YS (rnI x en.tn) := ⟨_, rfl⟩
      rw [← hZS] at e1
      have HZ := Lib.hid hZS; clear hZS q2
      have E1 := Lib.hid e1; clear e1
      have E2 := Lib.hid e2; clear e2
      have hnp : itemP (rnI x en.tn) := rn_item (ST.out.all x (List.mem_of_getElem? HX.out)) (name3 HE.out HK3.out)
      have hnz := itemP.sz' hnp
      clear hnp
      go_wp2_with fail
      have hk9 : Kept [w3.heap.size] w6 (w6.setCell ⟨w3.heap.size, 0, none⟩ (.string en.tn)) := kept_set w6 _ _ _
      have HG9 := Lib.hid (show ∀ b ∈ [w3.heap.size], w3.heap.size ≤ b ∧ b < w3.heap.size + 1 from fun b hb' => by simp only [List.mem_singleton] at hb'; omega)
      have HN9 := Lib.hid (show (w6.setCell ⟨w3.heap.size, 0, none⟩ (.string en.tn)).heap[w3.heap.size]? = some (.cells #[.string en.tn, .int .i64 x.n, .slice Ba ma2 da, .int .i64 x.cl, .int .i64 x.lb, .slice Bf mf2 df, .slice Bs ms2 ds, .slice Br mr2 dr] 53 (0, 0)) from heap_set_same HO0.out _)
      clear o03
      have hz10 := hk9.size
      have hk9x := hk9.below (fun b hb' => by have := HG9.out b hb'; omega) (show w.heap.size ≤ w6.heap.size by omega)
      replace hB := hB.trans hk9x
      clear e07
      replace HE0 := Lib.hid ((hk9.block (w.heap.size) (by omega) (fun hm => by have := HG9.out _ hm; omega)).trans HE0.out)
      replace Ri := Lib.hid (Ri.out.below hk9x)
      replace Re := Lib.hid (Re.out.below hk9x)
      replace HO0 := HN9; clear HN9 HG9
      generalize w6.setCell ⟨w3.heap.size, 0, none⟩ (.string en.tn) = w7 at *
      have HK7 := Lib.hid hk9
      have OX7 := Lib.hid (OX5.out.keep (w' := w7) fun b hb => HK7.out.block b (by have := OBx.out b hb; have := hb6.size; omega) (fun hm => by simp only [List.mem_singleton] at hm; have := OB.out b hb; omega))
      have HU7 := Lib.hid (HU5.out.keep (w' := w7) fun b hb => HK7.out.block b (by have := hb6.size; omega) (fun hm => by simp only [List.mem_singleton] at hm; omega))
      have HS7 := Lib.hid (HU7.out.st (by have := hb6.size; have := HK7.out.size; omega))
      refine (impl_putItem w1.heap.size _ YS (rnI x en.tn) _ _ _ _ w7 HS7.out (by omega) HYS.out (show ItemR w7 w7.heap.size (rnI x en.tn) _ _ _ _ from ⟨(OX7.out.reads (B := w7.heap.size) (fun b hb => by have := OBx.out b hb; omega)).a, (OX7.out.reads (B := w7.heap.size) (fun b hb => by have := OBx.out b hb; omega)).f, (OX7.out.reads (B := w7.heap.size) (fun b hb => by have := OBx.out b hb; omega)).s, (OX7.out.reads (B := w7.heap.size) (fun b hb => by have := OBx.out b hb; omega)).r⟩) (by omega) (by omega)).mono ?_
      rintro e w8 ⟨v8, rfl, hst8, hb8⟩
      rw [← HZ.out] at hst8
      obtain ⟨A8, c8, rfl, -, -⟩ := hst8.slice
      have HS8 := Lib.hid hst8; clear hst8
      replace hB := hB.trans (hb8.mono (by omega))
      go_wp2_with fail
      go_ret2
      exact api_t _ E2.out E1.out HS8.out (by omega) hB
    ·
     have hk2 : en.kd = 2 := by rcases entryP.kinds HE.out with h | h | h; exact absurd h hk; exact h; exact absurd h hk3
     have k3 : (en.kd == 3) = false := by rw [beq_eq_false_iff_ne]; exact hk3
     obtain ⟨e1, e2⟩ := ap_2 (xs := xs) HE.out hk2 Q1.out
     rw [HF.out, ← HY.out] at e1
     have E1 := Lib.hid e1; clear e1
     have E2 := Lib.hid e2; clear e2
     clear hk3 hk k1 hk2
     go_wp2_with fail
     go_ret2
     exact api_t _ E2.out E1.out HS5.out (by omega) hB
end
end Go.Proofs.YtcfbkickiijjkaaGreatDoor
