/-
  The laws' own functions over items of a store: szLabItem, toLabItem, eqLabItem.
-/
import Derived.Test.YtcfbkickiijjkaaGreatDoorVArgsWalk
import Derived.Test.YtcfbkickiijjkaaGreatDoorVItem
namespace Go.Proofs.YtcfbkickiijjkaaGreatDoor
open Go.RowKit
set_option linter.all false
theorem sz_Item (x : Item) (va vf vs vr : Value) (left : Int) (w : World) (h : ItemR w w.heap.size x va vf vs vr) (hnm : x.nm.size ≤ maxLen) (hl : 0 ≤ left) (hl' : left ≤ 1048576) :
  Calls Tryz.prog 36 #[itemV x va vf vs vr, .int .i64 left] w fun e w' => e = .returned (.int .i64 (szR left (szItem x))) ∧ Below w.heap.size w w' := by
 unfold maxLen at hnm
 have HH := Lib.hid h; clear h
 have hb0 := bl_alloc (Below.refl w.heap.size w) (.cells #[.string x.nm, .int .i64 x.n, va, .int .i64 x.cl, .int .i64 x.lb, vf, vs, vr] 45)
 have HB := Lib.hid (Box8.new w 45 (.string x.nm) (.int .i64 x.n) va (.int .i64 x.cl) (.int .i64 x.lb) vf vs vr)
 have HZ := Lib.hid (show w.heap.size < (w.alloc (.cells #[.string x.nm, .int .i64 x.n, va, .int .i64 x.cl, .int .i64 x.lb, vf, vs, vr] 45)).heap.size by simp)
 have HS := Lib.hid (show szItem x = x.nm.size + szRows x.xss + szCert x.f x.s x.rs from rfl)
 obtain ⟨nm, n, xss, cl, lb, f, s, rs⟩ := x
 dsimp only at *
 generalize szItem ⟨nm, n, xss, cl, lb, f, s, rs⟩ = N at *
 by_cases q0 : (nm.size : Int) ≤ left
 ·
  go_enter Tryz.func36, Tryz.ntmps36
  go_wp2_with fail
  generalize w.alloc (.cells #[.string nm, .int .i64 n, va, .int .i64 cl, .int .i64 lb, vf, vs, vr] 45) = w0 at *
  refine (sz_Walk n va xss (left - nm.size) w0 (HH.out.up hb0).a (by omega) (by omega)).mono ?_
  rintro e w1 ⟨rfl, hb1⟩
  have hB1 := bl_trans hb0 hb1
  obtain ⟨d0, d1, d2, d3, d4, d5, d6, d7⟩ := HB.out.below hb1 HZ.out
  have E1 := Lib.hid (szR_add (n := szRows xss) q0)
  rw [E1.out]
  by_cases q1 : szR left (nm.size + szRows xss) < 0
  ·
   have H := Lib.hid (show szR left N = -1 by rw [HS.out]; exact szR_neg q1 hl)
   go_wp2_with fail
   go_ret
   exact ⟨ret_int H.out.symm, hB1⟩
  ·
   obtain ⟨k1, k2⟩ := szR_pos q1
   have K2 := Lib.hid k2; clear k2
   have b1 : 0 ≤ szR left (nm.size + szRows xss) ∧ szR left (nm.size + szRows xss) ≤ 1048576 := by rw [K2.out]; omega
   go_wp2_with fail
   refine (sz_Cert cl lb vf vs vr f s rs (szR left (nm.size + szRows xss)) w1 (HH.out.up hB1).f (HH.out.up hB1).s (HH.out.up hB1).r b1.1 b1.2).mono ?_
   rintro e w2 ⟨rfl, hb2⟩
   have hB2 := bl_trans hB1 hb2
   have E2 := Lib.hid (show szR (szR left (nm.size + szRows xss)) (szCert f s rs) = szR left N by rw [K2.out, szR_add k1, HS.out])
   rw [E2.out]
   have hz := szR_le (left := left) (n := N) hl
   by_cases q3 : szR left N < 0
   ·
    have H := Lib.hid (show szR left N = -1 from szR_m1 q3)
    go_wp2_with fail
    go_ret
    exact ⟨ret_int H.out.symm, hB2⟩
   ·
    go_wp2_with fail
    go_ret
    exact ⟨rfl, hB2⟩
 ·
  have H := Lib.hid (show szR left N = -1 by rw [HS.out]; unfold szR; rw [if_neg (by omega)])
  go_enter Tryz.func36, Tryz.ntmps36
  go_wp2_with fail
  go_ret
  exact ⟨ret_int H.out.symm, hb0⟩
theorem eq_Item (x : Item) (va vf vs vr va' vf' vs' vr' : Value) (w : World) (h : ItemR w w.heap.size x va vf vs vr) (h' : ItemR w w.heap.size x va' vf' vs' vr') :
  Calls Tryz.prog 30 #[itemV x va vf vs vr, itemV x va' vf' vs' vr'] w fun e w' => e = .returned (.bool true) ∧ Below w.heap.size w w' := by
 have HH := Lib.hid h; clear h
 have HH' := Lib.hid h'; clear h'
 have hb0 := bl_alloc (bl_alloc (Below.refl w.heap.size w) (.cells #[.string x.nm, .int .i64 x.n, va, .int .i64 x.cl, .int .i64 x.lb, vf, vs, vr] 53)) (.cells #[.string x.nm, .int .i64 x.n, va', .int .i64 x.cl, .int .i64 x.lb, vf', vs', vr'] 53)
 obtain ⟨nm, n, xss, cl, lb, f, s, rs⟩ := x
 dsimp only at *
 have HB := Lib.hid ((Box8.new w 53 (.string nm) (.int .i64 n) va (.int .i64 cl) (.int .i64 lb) vf vs vr).below (bl_alloc (Below.refl _ _) (.cells #[.string nm, .int .i64 n, va', .int .i64 cl, .int .i64 lb, vf', vs', vr'] 53)) (by simp))
 have HB' := Lib.hid (Box8.new (w.alloc (.cells #[.string nm, .int .i64 n, va, .int .i64 cl, .int .i64 lb, vf, vs, vr] 53)) 53 (.string nm) (.int .i64 n) va' (.int .i64 cl) (.int .i64 lb) vf' vs' vr')
 rw [show (w.alloc (.cells #[.string nm, .int .i64 n, va, .int .i64 cl, .int .i64 lb, vf, vs, vr] 53)).heap.size = w.heap.size + 1 by simp] at HB'
 have HZ := Lib.hid (show w.heap.size + 1 < ((w.alloc (.cells #[.string nm, .int .i64 n, va, .int .i64 cl, .int .i64 lb, vf, vs, vr] 53)).alloc (.cells #[.string nm, .int .i64 n, va', .int .i64 cl, .int .i64 lb, vf', vs', vr'] 53)).heap.size by simp)
 have hq : (nm.toList == nm.toList) = true := by simp
 go_enter Tryz.func30, Tryz.ntmps30
 go_wp2_with fail
 generalize (w.alloc (.cells #[.string nm, .int .i64 n, va, .int .i64 cl, .int .i64 lb, vf, vs, vr] 53)).alloc (.cells #[.string nm, .int .i64 n, va', .int .i64 cl, .int .i64 lb, vf', vs', vr'] 53) = w0 at *
 refine (eq_Walk n va va' xss w0 (HH.out.up hb0).a (HH'.out.up hb0).a).mono ?_
 rintro e w1 ⟨rfl, hb1⟩
 have hB1 := bl_trans hb0 hb1
 obtain ⟨d0, d1, d2, d3, d4, d5, d6, d7⟩ := HB.out.below hb1 (by have := HZ.out; omega)
 obtain ⟨g0, g1, g2, g3, g4, g5, g6, g7⟩ := HB'.out.below hb1 HZ.out
 go_wp2_with fail
 refine (eq_Cert cl lb vf vs vr vf' vs' vr' f s rs w1 (HH.out.up hB1).f (HH.out.up hB1).s (HH.out.up hB1).r (HH'.out.up hB1).f (HH'.out.up hB1).s (HH'.out.up hB1).r).mono ?_
 rintro e w2 ⟨rfl, hb2⟩
 go_wp2_with fail
 go_ret
 exact ⟨rfl, bl_trans hB1 hb2⟩
def OwnItem (w : World) (x : Item) (va vf vs vr : Value) (bs : List Nat) : Prop :=
  ∃ ba bf bz br, OwnRows w 41 3 va x.xss ba ∧ OwnInts w 3 vf x.f bf ∧ OwnInts w 3 vs x.s bz ∧ OwnRows w 41 3 vr x.rs br ∧ bs = ba ++ (bf ++ bz ++ br)
theorem OwnItem.keep {w w' : World} {x : Item} {va vf vs vr : Value} {bs : List Nat} (h : OwnItem w x va vf vs vr bs) (hk : ∀ b ∈ bs, w'.heap[b]? = w.heap[b]?) : OwnItem w' x va vf vs vr bs := by
  obtain ⟨ba, bf, bz, br, h1, h2, h3, h4, rfl⟩ := h
  exact ⟨ba, bf, bz, br, h1.keep fun b hb => hk b (by simp [hb]), h2.keep fun b hb => hk b (by simp [hb]), h3.keep fun b hb => hk b (by simp [hb]), h4.keep fun b hb => hk b (by simp [hb]), rfl⟩
theorem OwnItem.reads {w : World} {x : Item} {va vf vs vr : Value} {bs : List Nat} (h : OwnItem w x va vf vs vr bs) {B : Nat} (hB : ∀ b ∈ bs, b < B) : ItemR w B x va vf vs vr := by
  obtain ⟨ba, bf, bz, br, h1, h2, h3, h4, rfl⟩ := h
  exact ⟨h1.reads fun b hb => hB b (by simp [hb]), h2.reads fun b hb => hB b (by simp [hb]), h3.reads fun b hb => hB b (by simp [hb]), h4.reads fun b hb => hB b (by simp [hb])⟩
theorem to_Item (x : Item) (va vf vs vr : Value) (w : World) (h : ItemR w w.heap.size x va vf vs vr) (hz : szItem x ≤ 1048576) :
  Calls Tryz.prog 39 #[itemV x va vf vs vr] w fun e w' => ∃ va' vf' vs' vr' bs, e = .returned (itemV x va' vf' vs' vr') ∧ OwnItem w' x va' vf' vs' vr' bs ∧ bs.Nodup ∧ (∀ b ∈ bs, w.heap.size ≤ b ∧ b < w'.heap.size) ∧ Below w.heap.size w w' := by
 have HH := Lib.hid h; clear h
 have hz1 : szRows x.xss ≤ 1048576 := by unfold szItem at hz; omega
 have hz2 : szCert x.f x.s x.rs ≤ 1048576 := by unfold szItem at hz; omega
 have HZ := Lib.hid hz; clear hz
 obtain ⟨nm, n, xss, cl, lb, f, s, rs⟩ := x
 dsimp only at *
 go_enter Tryz.func39, Tryz.ntmps39
 go_wp2_with fail
 refine (to_Walk n va xss _ ((HH.out.below (by repeat (first | exact Below.refl _ _ | refine bl_alloc ?_ _ | refine Below.setCell ?_ (by simp <;> omega) _))).more (by simp; omega)).a hz1).mono ?_
 rintro e w1 ⟨v1, b1, rfl, ho1, hn1, hbs1, hb1⟩
 obtain ⟨A1, m1, k1, rfl⟩ := ho1.isSlice
 obtain ⟨hc0, hf0⟩ := bx w.heap.size hb1 (by simp; omega)
 obtain ⟨hc1, hf1⟩ := bx (w.heap.size + 1) hb1 (by simp)
 obtain ⟨hc2, hf2⟩ := bx (w.heap.size + 1 + 1) hb1 (by simp)
 have hs1 := hb1.size
 simp at hs1 hbs1
 have hall1 := bl_trans (show Below w.heap.size w _ by repeat (first | exact Below.refl _ _ | refine bl_alloc ?_ _ | refine Below.setCell ?_ (by simp <;> omega) _)) hb1
 go_wp2_with fail
 have hB2 : Below w.heap.size w ((w1.setCell ⟨w.heap.size + 1 + 1, 1, none⟩ (.int .i64 n)).setCell ⟨w.heap.size + 1 + 1, 2, none⟩ (.slice A1 m1 k1)) := (hall1.setCell (by simp; omega) _).setCell (by simp; omega) _
 refine (to_Cert cl lb vf vs vr f s rs _ (HH.out.up hB2).f (HH.out.up hB2).s (HH.out.up hB2).r hz2).mono ?_
 rintro e w2 ⟨vf2, vs2, vr2, bf, bz, br, rfl, hof, hos, hor, hn2, hbs2, hb2⟩
 obtain ⟨A2, m2, k2, rfl⟩ := hof.1.isSlice
 obtain ⟨A3, m3, k3, rfl⟩ := hos.1.isSlice
 obtain ⟨A4, m4, k4, rfl⟩ := hor.isSlice
 have hs2 := hb2.size
 simp [size_setCell] at hs2 hbs2
 have hall2 := bl_trans hB2 hb2
 obtain ⟨hc1', hf1'⟩ := bx (w.heap.size + 1) hb2 (by simp [size_setCell]; omega)
 obtain ⟨hc2', hf2'⟩ := bx (w.heap.size + 1 + 1) hb2 (by simp [size_setCell]; omega)
 have ho1' : OwnRows w2 41 3 (.slice A1 m1 k1) xss b1 := ho1.keep fun b hb => by
  have := hbs1 b hb
  rw [hb2.block b (by simp [size_setCell]; omega), Below.heap_setCell _ _ _ _ (by simp; omega), Below.heap_setCell _ _ _ _ (by simp; omega)]
 have HO := Lib.hid (show OwnItem w2 ⟨nm, n, xss, cl, lb, f, s, rs⟩ (.slice A1 m1 k1) (.slice A2 m2 k2) (.slice A3 m3 k3) (.slice A4 m4 k4) (b1 ++ (bf ++ bz ++ br)) from ⟨b1, bf, bz, br, ho1', hof, hos, hor, rfl⟩)
 have HN := Lib.hid (show (b1 ++ (bf ++ bz ++ br)).Nodup by
  rw [List.nodup_append]
  refine ⟨hn1, hn2, fun a ha b hb => ?_⟩
  have h1 := hbs1 a ha
  have h2 := hbs2 b (by simpa [List.append_assoc] using hb)
  omega)
 have HBS := Lib.hid (show ∀ b ∈ b1 ++ (bf ++ bz ++ br), w.heap.size + 2 < b ∧ b < w2.heap.size by
  intro b hb
  rcases List.mem_append.1 hb with h | h
  ·
   have := hbs1 b h; omega
  ·
   have := hbs2 b (by simpa [List.append_assoc] using h); omega)
 clear hof hos hor ho1 ho1' hn1 hn2 hbs1 hbs2 HZ
 go_wp2_with fail
 refine bodyPost_ret (v := itemV ⟨nm, n, xss, cl, lb, f, s, rs⟩ (.slice A1 m1 k1) (.slice A2 m2 k2) (.slice A3 m3 k3) (.slice A4 m4 k4)) (by simp [results, Tryz.results39, go_sem, hc1', hc1]) rfl ⟨_, _, _, _, _, rfl, ?_, HN.out, ?_, ?_⟩
 ·
  refine HO.out.keep fun b hb => ?_
  have := HBS.out b hb
  repeat rw [Below.heap_setCell _ _ _ _ (by simp; omega)]
 ·
  intro b hb
  have := HBS.out b hb
  simp only [size_setCell]
  omega
 ·
  iterate 13 (refine Below.setCell ?_ (by simp <;> omega) _)
  exact hall2
end Go.Proofs.YtcfbkickiijjkaaGreatDoor
