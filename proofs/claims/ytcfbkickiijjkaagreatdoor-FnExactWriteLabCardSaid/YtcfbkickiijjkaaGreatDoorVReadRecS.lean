/-
  The reference's srReadRecord: a line is read as the record that it is, if it is one.
-/
import Derived.Test.YtcfbkickiijjkaaGreatDoorVReadRecord
namespace Go.Proofs.YtcfbkickiijjkaaGreatDoor
open Go.RowKit
set_option linter.all false
theorem nr_mark {g : Int} {l : List UInt8} {k : Nat} (h : LH l k) (hk : k ≤ (numT g ++ [32]).length) : recB g l = false :=
  propB_f fun ⟨e, he, ht⟩ => by
    subst ht
    have := (rec_text h).2.2
    omega
theorem nr_head {g : Int} {l : List UInt8} {k : Nat} (h : LH l k) (hq : l.take (numT g ++ [32]).length ≠ numT g ++ [32]) : recB g l = false :=
  propB_f fun ⟨e, he, ht⟩ => by
    subst ht
    exact hq (rec_text h).2.1
theorem rec_part {g : Int} {l : List UInt8} {k : Nat} (h : LH l k) {e : Entry} (he : entryP e) (ht : recT g e = l) : (l.take (k - 1)).drop (numT g ++ [32]).length = entryT e := by
  subst ht
  exact (rec_text h).1
theorem rr_none {g : Int} {l : List UInt8} {w W : World} (hb : recB g l = false) (hbl : Below w.heap.size w W) : RrPost g l w (.returned (.tuple #[.agg #[.int .i64 0, .string ⟨#[]⟩, .string ⟨#[]⟩, .string ⟨#[]⟩, .int .i64 0, .slice none 0 0, .int .i64 0, .int .i64 0, .slice none 0 0, .slice none 0 0, .slice none 0 0], .bool false])) W := by
  unfold RrPost
  rw [hb]
  exact ⟨zE, ip_none hbl, fun h => by cases h⟩
def PePostS (s : ByteArray) (i j : Nat) (t : List UInt8) (W : World) : Prop := Calls Tryz.prog 75 #[.string (s.extract i j)] W fun e w' => PePost t W e w'
def SrMark (l : List UInt8) (m : Value) : Prop := ∃ k : Nat, m = .int .i64 k ∧ k < l.length ∧ ∀ j b, k < j → l[j]? = some b → b ≠ 35
set_option maxRecDepth 100000 in
set_option maxHeartbeats 2000000 in
theorem spec_srReadRecord (s : ByteArray) (g : Int) (w : World) (hs0 : 1 ≤ s.size) (hs : s.size ≤ 20001) (hg0 : 0 ≤ g) (hg : g ≤ 100000) :
  Calls Tryz.prog 45 #[.string s, .int .i64 g] w (RrPost g s.data.toList w) := by
 have hss := Lib.size_eq s
 obtain ⟨l, hl⟩ : ∃ l, l = s.data.toList := ⟨_, rfl⟩
 rw [← hl] at hss ⊢
 obtain ⟨NG, hNG⟩ : ∃ T, T = numT g := ⟨_, rfl⟩
 have hlN := numT_len (M := 100000) (x := g) hg0 hg
 have JN := Lib.hid (fun (W : World) => show Calls Tryz.prog 58 #[.int .i64 g] W fun e w' => e = .returned (strV NG) ∧ Below W.heap.size W w' by rw [hNG]; exact spec_l1Num g W hg0 (by omega))
 rw [← hNG] at hlN
 obtain ⟨H, hH⟩ : ∃ T, T = NG ++ [32] := ⟨_, rfl⟩
 have hHl : H.length ≤ 100002 := by rw [hH, List.length_append, List.length_singleton]; omega
 have kH : ∀ W, (binOp .add 9 (strV NG) (.string ⟨#[32]⟩)).run Tryz.prog W = .ok (.string ⟨H.toArray⟩) W := by rw [hH]; exact cat_vc NG ⟨#[32]⟩ (by have : (ByteArray.mk #[32]).size = 1 := rfl; omega)
 have HHE := Lib.hid (show H = numT g ++ [32] by rw [hH, hNG])
 clear hNG hH
 have HL := Lib.hid hl; clear hl
 have hB := Below.refl w.heap.size w
 obtain ⟨w0, hw0⟩ : ∃ z, z = w.alloc (.cells #[.int .i64 0, .string ⟨#[]⟩, .string ⟨#[]⟩, .string ⟨#[]⟩, .int .i64 0, .slice none 0 0, .int .i64 0, .int .i64 0, .slice none 0 0, .slice none 0 0, .slice none 0 0] 55) := ⟨_, rfl⟩
 have hba0 : Below w.heap.size w w0 := by rw [hw0]; exact bl_alloc (Below.refl _ _) _
 have HZ0 := Lib.hid (show w0.heap[w.heap.size]? = some (.cells #[.int .i64 0, .string ⟨#[]⟩, .string ⟨#[]⟩, .string ⟨#[]⟩, .int .i64 0, .slice none 0 0, .int .i64 0, .int .i64 0, .slice none 0 0, .slice none 0 0, .slice none 0 0] 55) by rw [hw0]; exact heap_alloc_new w _)
 have hl0 : w.heap.size < w0.heap.size := by rw [hw0]; simp
 have HW0 := Lib.hid hw0; clear hw0
 have hz1 := hba0.size
 replace hB := bl_trans hB hba0
 go_enter Tryz.func45, Tryz.ntmps45
 go_wp2_with fail
 rw [← HW0.out]
 refine (JN.out w0).mono ?_
 rintro e w1 ⟨rfl, hb1⟩
 have hz2 := hb1.size
 replace hB := bl_trans hB hb1
 replace HZ0 := bk HZ0 hb1
 have z01 := cells11 HZ0
 clear JN
 have HSS := Lib.hid hss; clear hss
 have hs1 : (1 : Int) ≤ (s.size : Int) := by omega
 go_wp2_with fail
 go_loop [7] (fun m => SrMark l m) (fun m => (intOf m).toNat)
 case atStart => exact ⟨s.size - 1, by rw [show ((s.size - 1 : Nat) : Int) = (s.size : Int) - 1 by omega], by have := HSS.out; omega, fun j b hj hb => by have := (List.getElem?_eq_some_iff.1 hb).1; have := HSS.out; omega⟩
 case round =>
  obtain ⟨k, rfl, hkl, hno⟩ := hrel
  have HNO := Lib.hid hno; clear hno
  by_cases h0 : 0 < k
  ·
   have hkb : k < s.size := by have := HSS.out; omega
   have hat : l[k]? = some s[k] := by rw [HL.out]; exact at_of s k hkb
   by_cases hb : s[k] = 35
   ·
    have HLH := Lib.hid (show LH l k from ⟨hkl, HNO.out, .inr (by rw [hat, hb])⟩)
    have kq : ((s[k].toNat : Int) != 35) = false := by rw [hb]; rfl
    clear hat
    by_cases qm : k ≤ H.length
    ·
     have HN := Lib.hid (nr_mark (g := g) HLH.out (by rw [← HHE.out]; exact qm))
     go_wp2_with fail
     refine bodyPost_ret (v := .tuple #[.agg #[.int .i64 0, .string ⟨#[]⟩, .string ⟨#[]⟩, .string ⟨#[]⟩, .int .i64 0, .slice none 0 0, .int .i64 0, .int .i64 0, .slice none 0 0, .slice none 0 0, .slice none 0 0], .bool false]) (by simp [results, Tryz.results45, go_sem, z01]) rfl ?_
     refine rr_none HN.out ?_
     iterate 11 (refine Below.setCell ?_ (by simp) _)
     exact hB
    ·
     have hmk : H.length < k := by omega
     clear qm
     have xE := Lib.extract_data s 0 H.length
     by_cases q : l.take H.length = H
     ·
      have q2 : ((s.extract 0 H.length).toList == H) = true := by rw [Lib.toList_data, xE, ← HL.out]; simpa using q
      clear xE
      obtain ⟨t, htt⟩ : ∃ t, t = (l.take (k - 1)).drop H.length := ⟨_, rfl⟩
      have ht : ∀ e, entryP e → recT g e = l → t = entryT e := fun e he h => by rw [htt, HHE.out]; exact rec_part HLH.out he h
      have JP := Lib.hid (fun (W : World) => show PePostS s H.length (k - 1) t W from by
       have hx := Lib.extract_data s H.length (k - 1)
       have h := spec_srRead (s.extract H.length (k - 1)) W (by rw [Lib.size_eq, hx]; simp only [List.length_drop, List.length_take]; have := HSS.out; omega)
       rw [hx, ← HL.out, ← List.drop_take, ← htt] at h
       exact h)
      unfold PePostS at JP
      clear htt
      have HI := Lib.hid (rec_iff (g := g) (l := l) (t := t) ht)
      have HSM := Lib.hid (fun h => rec_same (g := g) (l := l) (t := t) h)
      have HEN := Lib.hid (fun h => entry_of (t := t) h)
      unfold PePost at JP
      generalize peB t = ok at *
      generalize peE t = E at *
      clear ht
      go_wp2_with fail
      refine (JP.out w1).mono ?_
      rintro e w3 ⟨va, vf, vs, vr, bs, rfl, ho, hn, hrg, hbw3⟩
      have hz3 := hbw3.size
      replace hB := bl_trans hB hbw3
      clear z01
      replace HZ0 := bk HZ0 hbw3
      obtain ⟨ba, bf, bz, br, oa, of, oz, or, hbs⟩ := id ho
      obtain ⟨Aa, ma, ca, rfl⟩ := oa.isSlice
      obtain ⟨Af, mf, cf, rfl⟩ := of.1.isSlice
      obtain ⟨As, ms, cs, rfl⟩ := oz.1.isSlice
      obtain ⟨Ar, mr, cr, rfl⟩ := or.isSlice
      clear oa of oz or hbs
      have OE := Lib.hid ho; clear ho
      have GE := Lib.hid hrg; clear hrg
      have hba4 := bl_alloc (Below.refl w3.heap.size w3) (.cells #[.int .i64 E.kd, .string E.nm, .string E.tn, .string E.it.nm, .int .i64 E.it.n, .slice Aa ma ca, .int .i64 E.it.cl, .int .i64 E.it.lb, .slice Af mf cf, .slice As ms cs, .slice Ar mr cr] 55)
      have HE1 := Lib.hid (heap_alloc_new w3 (.cells #[.int .i64 E.kd, .string E.nm, .string E.tn, .string E.it.nm, .int .i64 E.it.n, .slice Aa ma ca, .int .i64 E.it.cl, .int .i64 E.it.lb, .slice Af mf cf, .slice As ms cs, .slice Ar mr cr] 55))
      have hs4 : w3.heap.size < (w3.alloc (.cells #[.int .i64 E.kd, .string E.nm, .string E.tn, .string E.it.nm, .int .i64 E.it.n, .slice Aa ma ca, .int .i64 E.it.cl, .int .i64 E.it.lb, .slice Af mf cf, .slice As ms cs, .slice Ar mr cr] 55)).heap.size := by simp
      have HS4 := Lib.hid hs4; clear hs4; have hs4 := HS4.out
      have hz5 := hba4.size
      replace hB := bl_trans hB hba4
      replace HZ0 := bk HZ0 hba4
      replace OE := Lib.hid (OE.out.keep fun b hb' => hba4.block b (by have := GE.out b hb'; omega))
      have z02 := cells11 HZ0
      have e11 := cells11 HE1
      go_wp2_with fail
      generalize w3.alloc (.cells #[.int .i64 E.kd, .string E.nm, .string E.tn, .string E.it.nm, .int .i64 E.it.n, .slice Aa ma ca, .int .i64 E.it.cl, .int .i64 E.it.lb, .slice Af mf cf, .slice As ms cs, .slice Ar mr cr] 55) = w4 at *
      cases ok with
      | false =>
       have HN := Lib.hid (show recB g l = false from propB_f fun h => by have := (HI.out.2 h).1; cases this)
       refine wp_region_held_drew (S := (fun w' => w'.cell? ⟨w3.heap.size, 0, none⟩ = some (.int .i64 E.kd) ∧ w'.cell? ⟨w3.heap.size, 1, none⟩ = some (.string E.nm) ∧ w'.cell? ⟨w3.heap.size, 2, none⟩ = some (.string E.tn) ∧ w'.cell? ⟨w3.heap.size, 3, none⟩ = some (.string E.it.nm) ∧ w'.cell? ⟨w3.heap.size, 4, none⟩ = some (.int .i64 E.it.n) ∧ w'.cell? ⟨w3.heap.size, 5, none⟩ = some (.slice Aa ma ca) ∧ w'.cell? ⟨w3.heap.size, 6, none⟩ = some (.int .i64 E.it.cl) ∧ w'.cell? ⟨w3.heap.size, 7, none⟩ = some (.int .i64 E.it.lb) ∧ w'.cell? ⟨w3.heap.size, 8, none⟩ = some (.slice Af mf cf) ∧ w'.cell? ⟨w3.heap.size, 9, none⟩ = some (.slice As ms cs) ∧ w'.cell? ⟨w3.heap.size, 10, none⟩ = some (.slice Ar mr cr))) (by kernel_rfl) ?_ (fun hHeld => ?_)
       ·
        go_keep
       have hB0 := hB
       have hz6 := (Below.refl w4.heap.size w4).drew.size
       replace hB := bl_trans hB (Below.refl w4.heap.size w4).drew
       clear z02
       replace HZ0 := Lib.hid (((Below.refl w4.heap.size w4).drew.block (w.heap.size) (show w.heap.size < w4.heap.size by omega)).trans HZ0.out)
       clear e11
       replace HE1 := Lib.hid (((Below.refl w4.heap.size w4).drew.block (w3.heap.size) (show w3.heap.size < w4.heap.size by omega)).trans HE1.out)
       replace OE := Lib.hid (OE.out.keep fun b hb' => (Below.refl w4.heap.size w4).drew.block b (by have := GE.out b hb'; omega))
       obtain ⟨z03_0, z03_1, z03_2, z03_3, z03_4, z03_5, z03_6, z03_7, z03_8, z03_9, z03_10, z03_f⟩ := cells11 HZ0
       have e12 := cells11 HE1
       have dz0 : w4.cell? ⟨w.heap.size, 0, none⟩ = some (.int .i64 0) := z03_0
       have dz1 : w4.cell? ⟨w.heap.size, 1, none⟩ = some (.string ⟨#[]⟩) := z03_1
       have dz2 : w4.cell? ⟨w.heap.size, 2, none⟩ = some (.string ⟨#[]⟩) := z03_2
       have dz3 : w4.cell? ⟨w.heap.size, 3, none⟩ = some (.string ⟨#[]⟩) := z03_3
       have dz4 : w4.cell? ⟨w.heap.size, 4, none⟩ = some (.int .i64 0) := z03_4
       have dz5 : w4.cell? ⟨w.heap.size, 5, none⟩ = some (.slice none 0 0) := z03_5
       have dz6 : w4.cell? ⟨w.heap.size, 6, none⟩ = some (.int .i64 0) := z03_6
       have dz7 : w4.cell? ⟨w.heap.size, 7, none⟩ = some (.int .i64 0) := z03_7
       have dz8 : w4.cell? ⟨w.heap.size, 8, none⟩ = some (.slice none 0 0) := z03_8
       have dz9 : w4.cell? ⟨w.heap.size, 9, none⟩ = some (.slice none 0 0) := z03_9
       have dz10 : w4.cell? ⟨w.heap.size, 10, none⟩ = some (.slice none 0 0) := z03_10
       have dzf : ∀ i, w4.frozen? ⟨w.heap.size, i, none⟩ = false := z03_f
       have hne11 : w.heap.size ≠ w3.heap.size := by omega
       refine tk 0 49 rfl rfl ?_
       try simp only [pu]
       refine tk 1 50 rfl rfl ?_
       try simp only [pu]
       refine tk 2 51 rfl rfl ?_
       try simp only [pu]
       refine tn 3 52 rfl rfl ?_
       try simp only [pu]
       refine tn 4 53 rfl rfl ?_
       try simp only [pu]
       refine tn 5 54 rfl rfl ?_
       try simp only [pu]
       refine tn 6 55 rfl rfl ?_
       try simp only [pu]
       refine tn 7 56 rfl rfl ?_
       try simp only [pu]
       refine tk 8 57 rfl rfl ?_
       try simp only [pu]
       refine take_ready 9 rfl (by kernel_rfl) (fun K hK => ?_)
       go_simp
       refine hK.out _ _ ?_ (fun hHeld => ?_)
       ·
        exact keep11 hne11 hHeld (fun _ => rfl)
       clear hK K
       try simp only [pu]
       refine tk 10 5 rfl rfl ?_
       try simp only [pu]
       refine wpAnyH_done (by kernel_rfl) ?_ _
       go_wp2_with fail
       refine bodyPost_ret (v := .tuple #[.agg #[.int .i64 E.kd, .string E.nm, .string E.tn, .string E.it.nm, .int .i64 E.it.n, .slice Aa ma ca, .int .i64 E.it.cl, .int .i64 E.it.lb, .slice Af mf cf, .slice As ms cs, .slice Ar mr cr], .bool false]) (by simp [results, Tryz.results45, go_sem, dz0, dz1, dz2, dz3, dz4, dz5, dz6, dz7, dz8, dz9, dz10]) rfl ?_
       refine rr_drew ?_
       exact rr_end HN.out (fun h => by cases h) (OE.out.keep fun _ _ => rfl) hn (fun x hx => by have := GE.out x hx; omega) hB0 rfl
      | true =>
       have hen := HEN.out rfl
       have hsz := entryP.sz hen
       have HENT := Lib.hid hen; clear hen
       obtain ⟨T, hT⟩ : ∃ T, T = recT g E := ⟨_, rfl⟩
       rw [← hT] at HI HSM
       have JR := Lib.hid (fun (W : World) (hW : Below w.heap.size w W) (h : ItemR W W.heap.size E.it (.slice Aa ma ca) (.slice Af mf cf) (.slice As ms cs) (.slice Ar mr cr)) => show Calls Tryz.prog 38 #[entryV E (.slice Aa ma ca) (.slice Af mf cf) (.slice As ms cs) (.slice Ar mr cr), .int .i64 g] W fun e w' => e = .returned (.string ⟨T.toArray⟩) ∧ Below W.heap.size W w' by rw [hT]; exact spec_srRecord E _ _ _ _ g W h hsz HENT.out hg0 hg)
       have HT := Lib.hid hT; clear hT
       by_cases qe : T = l
       ·
        have HN := Lib.hid (show recB g l = true from propB_t (HI.out.1 ⟨rfl, qe⟩))
        have HX := Lib.hid (HSM.out ⟨rfl, qe⟩)
        have k1 : (T == s.toList) = true := by rw [Lib.toList_data, ← HL.out]; rw [qe]; simp
        clear qe
        refine wp_region_held_drew (S := (fun w' => w'.cell? ⟨w3.heap.size, 0, none⟩ = some (.int .i64 E.kd) ∧ w'.cell? ⟨w3.heap.size, 1, none⟩ = some (.string E.nm) ∧ w'.cell? ⟨w3.heap.size, 2, none⟩ = some (.string E.tn) ∧ w'.cell? ⟨w3.heap.size, 3, none⟩ = some (.string E.it.nm) ∧ w'.cell? ⟨w3.heap.size, 4, none⟩ = some (.int .i64 E.it.n) ∧ w'.cell? ⟨w3.heap.size, 5, none⟩ = some (.slice Aa ma ca) ∧ w'.cell? ⟨w3.heap.size, 6, none⟩ = some (.int .i64 E.it.cl) ∧ w'.cell? ⟨w3.heap.size, 7, none⟩ = some (.int .i64 E.it.lb) ∧ w'.cell? ⟨w3.heap.size, 8, none⟩ = some (.slice Af mf cf) ∧ w'.cell? ⟨w3.heap.size, 9, none⟩ = some (.slice As ms cs) ∧ w'.cell? ⟨w3.heap.size, 10, none⟩ = some (.slice Ar mr cr))) (by kernel_rfl) ?_ (fun hHeld => ?_)
        ·
         go_keep
        have hB0 := hB
        have hz6 := (Below.refl w4.heap.size w4).drew.size
        replace hB := bl_trans hB (Below.refl w4.heap.size w4).drew
        clear z02
        replace HZ0 := Lib.hid (((Below.refl w4.heap.size w4).drew.block (w.heap.size) (show w.heap.size < w4.heap.size by omega)).trans HZ0.out)
        clear e11
        replace HE1 := Lib.hid (((Below.refl w4.heap.size w4).drew.block (w3.heap.size) (show w3.heap.size < w4.heap.size by omega)).trans HE1.out)
        replace OE := Lib.hid (OE.out.keep fun b hb' => (Below.refl w4.heap.size w4).drew.block b (by have := GE.out b hb'; omega))
        obtain ⟨z03_0, z03_1, z03_2, z03_3, z03_4, z03_5, z03_6, z03_7, z03_8, z03_9, z03_10, z03_f⟩ := cells11 HZ0
        have e12 := cells11 HE1
        have hne11 : w.heap.size ≠ w3.heap.size := by omega
        refine tk 0 49 rfl rfl ?_
        try simp only [pu]
        refine tk 1 50 rfl rfl ?_
        try simp only [pu]
        refine tk 2 51 rfl rfl ?_
        try simp only [pu]
        refine tk 3 52 rfl rfl ?_
        try simp only [pu]
        refine tk 4 53 rfl rfl ?_
        try simp only [pu]
        refine tk 6 55 rfl rfl ?_
        try simp only [pu]
        refine take_ready 5 rfl (by kernel_rfl) (fun K hK => ?_)
        go_simp
        go_at_call 38
        refine (JR.out w4.drew hB (OE.out.reads (B := w4.drew.heap.size) (fun b hb' => by have := GE.out b hb'; omega))).mono ?_
        rintro e wr ⟨rfl, hbr⟩
        have hz7 := hbr.size
        replace hB := bl_trans hB hbr
        clear z03_0 z03_1 z03_2 z03_3 z03_4 z03_5 z03_6 z03_7 z03_8 z03_9 z03_10 z03_f
        replace HZ0 := bk HZ0 hbr
        clear e12
        replace HE1 := bk HE1 hbr
        replace OE := Lib.hid (OE.out.keep fun b hb' => hbr.block b (by have := GE.out b hb'; omega))
        have z04 := cells11 HZ0
        have e13 := cells11 HE1
        refine hK.out _ _ ?_ (fun hHeld => ?_)
        ·
         go_keep
        clear hK K
        try simp only [pu]
        refine tk 7 56 rfl rfl ?_
        try simp only [pu]
        refine tk 8 57 rfl rfl ?_
        try simp only [pu]
        refine take_ready 9 rfl (by kernel_rfl) (fun K hK => ?_)
        go_simp
        refine hK.out _ _ ?_ (fun hHeld => ?_)
        ·
         exact keep11n hne11 hHeld
        clear hK K
        try simp only [pu]
        refine tk 10 5 rfl rfl ?_
        try simp only [pu]
        refine wpAnyH_done (by kernel_rfl) ?_ _
        go_wp2_with fail
        refine bodyPost_ret (v := .tuple #[.agg #[.int .i64 E.kd, .string E.nm, .string E.tn, .string E.it.nm, .int .i64 E.it.n, .slice Aa ma ca, .int .i64 E.it.cl, .int .i64 E.it.lb, .slice Af mf cf, .slice As ms cs, .slice Ar mr cr], .bool true]) (by simp [results, Tryz.results45, go_sem, z04]) rfl ?_
        exact rr_end HN.out (fun _ => HX.out.symm) OE.out hn (fun x hx => by have := GE.out x hx; omega) hB rfl
       ·
        have HN := Lib.hid (show recB g l = false from propB_f fun h => qe (HI.out.2 h).2)
        have k1 : (T == s.toList) = false := by rw [Lib.toList_data, ← HL.out]; rw [beq_eq_false_iff_ne]; exact qe
        clear qe
        refine wp_region_held_drew (S := (fun w' => w'.cell? ⟨w3.heap.size, 0, none⟩ = some (.int .i64 E.kd) ∧ w'.cell? ⟨w3.heap.size, 1, none⟩ = some (.string E.nm) ∧ w'.cell? ⟨w3.heap.size, 2, none⟩ = some (.string E.tn) ∧ w'.cell? ⟨w3.heap.size, 3, none⟩ = some (.string E.it.nm) ∧ w'.cell? ⟨w3.heap.size, 4, none⟩ = some (.int .i64 E.it.n) ∧ w'.cell? ⟨w3.heap.size, 5, none⟩ = some (.slice Aa ma ca) ∧ w'.cell? ⟨w3.heap.size, 6, none⟩ = some (.int .i64 E.it.cl) ∧ w'.cell? ⟨w3.heap.size, 7, none⟩ = some (.int .i64 E.it.lb) ∧ w'.cell? ⟨w3.heap.size, 8, none⟩ = some (.slice Af mf cf) ∧ w'.cell? ⟨w3.heap.size, 9, none⟩ = some (.slice As ms cs) ∧ w'.cell? ⟨w3.heap.size, 10, none⟩ = some (.slice Ar mr cr))) (by kernel_rfl) ?_ (fun hHeld => ?_)
        ·
         go_keep
        have hB0 := hB
        have hz6 := (Below.refl w4.heap.size w4).drew.size
        replace hB := bl_trans hB (Below.refl w4.heap.size w4).drew
        clear z02
        replace HZ0 := Lib.hid (((Below.refl w4.heap.size w4).drew.block (w.heap.size) (show w.heap.size < w4.heap.size by omega)).trans HZ0.out)
        clear e11
        replace HE1 := Lib.hid (((Below.refl w4.heap.size w4).drew.block (w3.heap.size) (show w3.heap.size < w4.heap.size by omega)).trans HE1.out)
        replace OE := Lib.hid (OE.out.keep fun b hb' => (Below.refl w4.heap.size w4).drew.block b (by have := GE.out b hb'; omega))
        obtain ⟨z03_0, z03_1, z03_2, z03_3, z03_4, z03_5, z03_6, z03_7, z03_8, z03_9, z03_10, z03_f⟩ := cells11 HZ0
        have e12 := cells11 HE1
        have hne11 : w.heap.size ≠ w3.heap.size := by omega
        refine tk 0 49 rfl rfl ?_
        try simp only [pu]
        refine tk 1 50 rfl rfl ?_
        try simp only [pu]
        refine tk 2 51 rfl rfl ?_
        try simp only [pu]
        refine tk 3 52 rfl rfl ?_
        try simp only [pu]
        refine tk 4 53 rfl rfl ?_
        try simp only [pu]
        refine tk 6 55 rfl rfl ?_
        try simp only [pu]
        refine take_ready 5 rfl (by kernel_rfl) (fun K hK => ?_)
        go_simp
        go_at_call 38
        refine (JR.out w4.drew hB (OE.out.reads (B := w4.drew.heap.size) (fun b hb' => by have := GE.out b hb'; omega))).mono ?_
        rintro e wr ⟨rfl, hbr⟩
        have hz7 := hbr.size
        replace hB := bl_trans hB hbr
        clear z03_0 z03_1 z03_2 z03_3 z03_4 z03_5 z03_6 z03_7 z03_8 z03_9 z03_10 z03_f
        replace HZ0 := bk HZ0 hbr
        clear e12
        replace HE1 := bk HE1 hbr
        replace OE := Lib.hid (OE.out.keep fun b hb' => hbr.block b (by have := GE.out b hb'; omega))
        have z04 := cells11 HZ0
        have e13 := cells11 HE1
        refine hK.out _ _ ?_ (fun hHeld => ?_)
        ·
         go_keep
        clear hK K
        try simp only [pu]
        refine tk 7 56 rfl rfl ?_
        try simp only [pu]
        refine tk 8 57 rfl rfl ?_
        try simp only [pu]
        refine take_ready 9 rfl (by kernel_rfl) (fun K hK => ?_)
        go_simp
        refine hK.out _ _ ?_ (fun hHeld => ?_)
        ·
         exact keep11n hne11 hHeld
        clear hK K
        try simp only [pu]
        refine tk 10 5 rfl rfl ?_
        try simp only [pu]
        refine wpAnyH_done (by kernel_rfl) ?_ _
        go_wp2_with fail
        refine bodyPost_ret (v := .tuple #[.agg #[.int .i64 E.kd, .string E.nm, .string E.tn, .string E.it.nm, .int .i64 E.it.n, .slice Aa ma ca, .int .i64 E.it.cl, .int .i64 E.it.lb, .slice Af mf cf, .slice As ms cs, .slice Ar mr cr], .bool false]) (by simp [results, Tryz.results45, go_sem, z04]) rfl ?_
        exact rr_end HN.out (fun h => by cases h) OE.out hn (fun x hx => by have := GE.out x hx; omega) hB rfl
     ·
      have HN := Lib.hid (nr_head (g := g) HLH.out (by rw [← HHE.out]; exact q))
      have q2 : ((s.extract 0 H.length).toList == H) = false := by rw [Lib.toList_data, xE, ← HL.out]; simpa using q
      clear xE
      go_wp2_with fail
      refine bodyPost_ret (v := .tuple #[.agg #[.int .i64 0, .string ⟨#[]⟩, .string ⟨#[]⟩, .string ⟨#[]⟩, .int .i64 0, .slice none 0 0, .int .i64 0, .int .i64 0, .slice none 0 0, .slice none 0 0, .slice none 0 0], .bool false]) (by simp [results, Tryz.results45, go_sem, z01]) rfl ?_
      refine rr_none HN.out ?_
      iterate 11 (refine Below.setCell ?_ (by simp) _)
      exact hB
   ·
    have HX := Lib.hid (show ∀ j b, k - 1 < j → l[j]? = some b → b ≠ 35 from fun j b hj hb' => by
     rcases Nat.lt_or_ge k j with h | h
     ·
      exact HNO.out j b h hb'
     ·
      obtain rfl : j = k := by omega
      obtain rfl : s[j] = b := Option.some.inj (hat.symm.trans hb')
      exact hb)
    have kq : ((s[k].toNat : Int) != 35) = true := by
     rw [bne_iff_ne]
     intro e
     exact hb (UInt8.toNat_inj.1 (by have : (35 : UInt8).toNat = 35 := rfl; omega))
    clear hat
    go_wp2_with fail
    go_round
    case rel => exact ⟨k - 1, by rw [show ((k - 1 : Nat) : Int) = (k : Int) - 1 by omega], by omega, HX.out⟩
    case measure => simp [intOf]; omega
  ·
   obtain rfl : k = 0 := by omega
   have HN := Lib.hid (nr_mark (g := g) (show LH l 0 from ⟨hkl, HNO.out, .inl rfl⟩) (Nat.zero_le _))
   go_wp2_with fail
   refine bodyPost_ret (v := .tuple #[.agg #[.int .i64 0, .string ⟨#[]⟩, .string ⟨#[]⟩, .string ⟨#[]⟩, .int .i64 0, .slice none 0 0, .int .i64 0, .int .i64 0, .slice none 0 0, .slice none 0 0, .slice none 0 0], .bool false]) (by simp [results, Tryz.results45, go_sem, z01]) rfl ?_
   refine rr_none HN.out ?_
   iterate 11 (refine Below.setCell ?_ (by simp) _)
   exact hB
end Go.Proofs.YtcfbkickiijjkaaGreatDoor
