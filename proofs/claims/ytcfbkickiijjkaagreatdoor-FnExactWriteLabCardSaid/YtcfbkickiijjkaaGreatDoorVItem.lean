/-
  Items of a store: what an item is, how its value reads in memory, and what the reference's srItem and the program's isItem return.
-/
import Derived.Test.YtcfbkickiijjkaaGreatDoorVArgsCert
import Derived.Test.YtcfbkickiijjkaaGreatDoorVCertImpl
import Derived.Test.YtcfbkickiijjkaaGreatDoorVNames
namespace Go.Proofs.YtcfbkickiijjkaaGreatDoor
open Go.RowKit
set_option linter.all false
structure Item where
  nm : ByteArray
  n : Int
  xss : List (List Int)
  cl : Int
  lb : Int
  f : List Int
  s : List Int
  rs : List (List Int)
structure ItemR (w : World) (B : Nat) (x : Item) (va vf vs vr : Value) : Prop where
  a : RowsR w B va x.xss
  f : IntsR w B vf x.f
  s : IntsR w B vs x.s
  r : RowsR w B vr x.rs
theorem ItemR.below {w w' : World} {B : Nat} {x : Item} {va vf vs vr : Value} (h : ItemR w B x va vf vs vr) (hb : Below B w w') : ItemR w' B x va vf vs vr := ⟨h.a.below hb, h.f.below hb, h.s.below hb, h.r.below hb⟩
theorem ItemR.more {w : World} {B B' : Nat} {x : Item} {va vf vs vr : Value} (h : ItemR w B x va vf vs vr) (hB : B ≤ B') : ItemR w B' x va vf vs vr := ⟨h.a.more hB, h.f.more hB, h.s.more hB, h.r.more hB⟩
theorem ItemR.up {w w' : World} {x : Item} {va vf vs vr : Value} (h : ItemR w w.heap.size x va vf vs vr) (hb : Below w.heap.size w w') : ItemR w' w'.heap.size x va vf vs vr := (h.below hb).more hb.size
theorem RowsR.isSlice' {w : World} {B : Nat} {v : Value} {xss : List (List Int)} (h : RowsR w B v xss) : ∃ A m c, v = .slice A m c := by
  obtain ⟨A, c, e, _⟩ := h.open_
  exact ⟨A, _, c, e⟩
theorem IntsR.isSlice {w : World} {B : Nat} {v : Value} {xs : List Int} (h : IntsR w B v xs) : ∃ A m c, v = .slice A m c := by
  obtain ⟨A, c, e, _⟩ := h.open_
  exact ⟨A, _, c, e⟩
abbrev itemV (x : Item) (va vf vs vr : Value) : Value := .agg #[.string x.nm, .int .i64 x.n, va, .int .i64 x.cl, .int .i64 x.lb, vf, vs, vr]
def szItem (x : Item) : Nat := x.nm.size + szRows x.xss + szCert x.f x.s x.rs
def itemP (x : Item) : Prop := nameP x.nm.data.toList ∧ Good x.n x.xss ∧ certP x.n.toNat x.xss x.cl x.lb x.f x.s x.rs
noncomputable def itemB (x : Item) : Bool := propB (itemP x)
structure Box8 (w : World) (b : Nat) (v0 v1 v2 v3 v4 v5 v6 v7 : Value) : Prop where
  c0 : w.cell? ⟨b, 0, none⟩ = some v0
  c1 : w.cell? ⟨b, 1, none⟩ = some v1
  c2 : w.cell? ⟨b, 2, none⟩ = some v2
  c3 : w.cell? ⟨b, 3, none⟩ = some v3
  c4 : w.cell? ⟨b, 4, none⟩ = some v4
  c5 : w.cell? ⟨b, 5, none⟩ = some v5
  c6 : w.cell? ⟨b, 6, none⟩ = some v6
  c7 : w.cell? ⟨b, 7, none⟩ = some v7
theorem Box8.below {w w' : World} {b B : Nat} {v0 v1 v2 v3 v4 v5 v6 v7 : Value} (h : Box8 w b v0 v1 v2 v3 v4 v5 v6 v7) (hb : Below B w w') (hB : b < B) : Box8 w' b v0 v1 v2 v3 v4 v5 v6 v7 :=
  ⟨(hb.cell (p := ⟨b, 0, none⟩) hB).trans h.c0, (hb.cell (p := ⟨b, 1, none⟩) hB).trans h.c1, (hb.cell (p := ⟨b, 2, none⟩) hB).trans h.c2, (hb.cell (p := ⟨b, 3, none⟩) hB).trans h.c3,
   (hb.cell (p := ⟨b, 4, none⟩) hB).trans h.c4, (hb.cell (p := ⟨b, 5, none⟩) hB).trans h.c5, (hb.cell (p := ⟨b, 6, none⟩) hB).trans h.c6, (hb.cell (p := ⟨b, 7, none⟩) hB).trans h.c7⟩
theorem Box8.new (w : World) (t : TypeId) (v0 v1 v2 v3 v4 v5 v6 v7 : Value) : Box8 (w.alloc (.cells #[v0, v1, v2, v3, v4, v5, v6, v7] t)) w.heap.size v0 v1 v2 v3 v4 v5 v6 v7 := by
  refine ⟨?_, ?_, ?_, ?_, ?_, ?_, ?_, ?_⟩
  all_goals
    rw [World.cell?_alloc_at _ _ _ _ rfl]; rfl
theorem item_len {x : Item} (h : szItem x ≤ 2000000) : x.f.length ≤ 1000000000 ∧ x.s.length ≤ 1000000000 ∧ x.rs.length ≤ 1000000000 := by
  unfold szItem szCert szRows at h; omega
theorem spec_srItem (x : Item) (va vf vs vr : Value) (w : World) (h : ItemR w w.heap.size x va vf vs vr) (hz : szItem x ≤ 2000000) (hlb : I64 x.lb) :
  Calls Tryz.prog 90 #[itemV x va vf vs vr] w fun e w' => e = .returned (.bool (itemB x)) ∧ Below w.heap.size w w' := by
 have hlen := item_len hz
 have hnm : x.nm.size ≤ maxLen := by unfold szItem at hz; unfold maxLen; omega
 have HH := Lib.hid h; clear h
 have HP := Lib.hid (show itemB x = propB (nameP x.nm.data.toList ∧ Good x.n x.xss ∧ certP x.n.toNat x.xss x.cl x.lb x.f x.s x.rs) from rfl)
 have hb0 := bl_alloc (Below.refl w.heap.size w) (.cells #[.string x.nm, .int .i64 x.n, va, .int .i64 x.cl, .int .i64 x.lb, vf, vs, vr] 53)
 have HB := Lib.hid (Box8.new w 53 (.string x.nm) (.int .i64 x.n) va (.int .i64 x.cl) (.int .i64 x.lb) vf vs vr)
 have HZ := Lib.hid (show w.heap.size < (w.alloc (.cells #[.string x.nm, .int .i64 x.n, va, .int .i64 x.cl, .int .i64 x.lb, vf, vs, vr] 53)).heap.size by simp)
 have HZS := Lib.hid hz; clear hz
 obtain ⟨nm, n, xss, cl, lb, f, s, rs⟩ := x
 dsimp only at *
 go_enter Tryz.func90, Tryz.ntmps90
 go_wp2_with fail
 generalize w.alloc (.cells #[.string nm, .int .i64 n, va, .int .i64 cl, .int .i64 lb, vf, vs, vr] 53) = w0 at *
 obtain ⟨c0, c1, c2, c3, c4, c5, c6, c7⟩ := HB.out
 refine (spec_srName nm w0 hnm).mono ?_
 rintro e w1 ⟨rfl, rfl⟩
 cases q : nameB nm.data.toList with
 | false =>
  have H := Lib.hid (show itemB ⟨nm, n, xss, cl, lb, f, s, rs⟩ = false by rw [HP.out]; exact propB_f fun h => by rw [nameB, propB_t h.1] at q; cases q)
  go_wp2_with fail
  go_ret
  exact ⟨ret_bool H.out.symm, hb0⟩
 | true =>
  have HN := Lib.hid (propB_iff.1 q); clear q
  go_wp2_with fail
  refine (spec_waGood n va xss w0 (HH.out.up hb0).a).mono ?_
  rintro e w1 ⟨rfl, hb1⟩
  have hB1 := bl_trans hb0 hb1
  have HB1 := Lib.hid (HB.out.below hb1 HZ.out)
  obtain ⟨d0, d1, d2, d3, d4, d5, d6, d7⟩ := HB1.out
  cases q : goodB n xss with
  | false =>
   have H := Lib.hid (show itemB ⟨nm, n, xss, cl, lb, f, s, rs⟩ = false by rw [HP.out]; exact propB_f fun h => by rw [goodB_t h.2.1] at q; cases q)
   go_wp2_with fail
   go_ret
   exact ⟨ret_bool H.out.symm, hB1⟩
  | true =>
   have HG := Lib.hid (goodB_iff.1 q); clear q
   obtain ⟨n, rfl⟩ := Int.eq_ofNat_of_zero_le (show 0 ≤ n by have := HG.out.1; unfold inB at this; simp at this; omega)
   have H := Lib.hid (show itemB ⟨nm, n, xss, cl, lb, f, s, rs⟩ = propB (certP n xss cl lb f s rs) by rw [HP.out]; exact propB_congr ⟨fun h => h.2.2, fun h => ⟨HN.out, HG.out, h⟩⟩)
   go_wp2_with fail
   refine (spec_waCheck n va vf vs vr xss cl lb f s rs w1 (HH.out.up hB1).a (HH.out.up hB1).f (HH.out.up hB1).s (HH.out.up hB1).r HG.out hlen hlb).mono ?_
   rintro e w2 ⟨rfl, hb2⟩
   go_wp2_with fail
   go_ret
   exact ⟨ret_bool H.out.symm, bl_trans hB1 hb2⟩
theorem impl_isItem (x : Item) (va vf vs vr : Value) (w : World) (h : ItemR w w.heap.size x va vf vs vr) (hz : szItem x ≤ 2000000) (hlb : I64 x.lb) :
  Calls Tryz.prog 99 #[itemV x va vf vs vr] w fun e w' => e = .returned (.bool (itemB x)) ∧ Below w.heap.size w w' := by
 have hlen := item_len hz
 have hnm : x.nm.size ≤ maxLen := by unfold szItem at hz; unfold maxLen; omega
 obtain ⟨Av, mv, cv, rfl⟩ := h.a.isSlice'
 have HH := Lib.hid h; clear h
 have HP := Lib.hid (show itemB x = propB (nameP x.nm.data.toList ∧ Good x.n x.xss ∧ certP x.n.toNat x.xss x.cl x.lb x.f x.s x.rs) from rfl)
 have hb0 := bl_alloc (Below.refl w.heap.size w) (.cells #[.string x.nm, .int .i64 x.n, .slice Av mv cv, .int .i64 x.cl, .int .i64 x.lb, vf, vs, vr] 53)
 have HB := Lib.hid (Box8.new w 53 (.string x.nm) (.int .i64 x.n) (.slice Av mv cv) (.int .i64 x.cl) (.int .i64 x.lb) vf vs vr)
 have HZ := Lib.hid (show w.heap.size < (w.alloc (.cells #[.string x.nm, .int .i64 x.n, .slice Av mv cv, .int .i64 x.cl, .int .i64 x.lb, vf, vs, vr] 53)).heap.size by simp)
 have HZS := Lib.hid hz; clear hz
 obtain ⟨nm, n, xss, cl, lb, f, s, rs⟩ := x
 dsimp only at *
 go_enter Tryz.func99, Tryz.ntmps99
 go_wp2_with fail
 generalize w.alloc (.cells #[.string nm, .int .i64 n, .slice Av mv cv, .int .i64 cl, .int .i64 lb, vf, vs, vr] 53) = w0 at *
 obtain ⟨c0, c1, c2, c3, c4, c5, c6, c7⟩ := HB.out
 refine (impl_isName nm w0 hnm).mono ?_
 rintro e w0' ⟨rfl, hb0'⟩
 have HB := Lib.hid (HB.out.below hb0' HZ.out)
 have HZ := Lib.hid (Nat.lt_of_lt_of_le HZ.out hb0'.size)
 have hb0 := bl_trans hb0 hb0'
 obtain ⟨c0, c1, c2, c3, c4, c5, c6, c7⟩ := HB.out
 clear hb0'
 cases q : nameB nm.data.toList with
 | false =>
  have H := Lib.hid (show itemB ⟨nm, n, xss, cl, lb, f, s, rs⟩ = false by rw [HP.out]; exact propB_f fun h => by rw [nameB, propB_t h.1] at q; cases q)
  go_wp2_with fail
  go_ret
  exact ⟨ret_bool H.out.symm, hb0⟩
 | true =>
  have HN := Lib.hid (propB_iff.1 q); clear q
  go_wp2_with fail
  refine (impl_IsWalkProblem n (.slice Av mv cv) xss w0' (HH.out.up hb0).a).mono ?_
  rintro e w1 ⟨rfl, hb1⟩
  have hB1 := bl_trans hb0 hb1
  have HB1 := Lib.hid (HB.out.below hb1 HZ.out)
  obtain ⟨d0, d1, d2, d3, d4, d5, d6, d7⟩ := HB1.out
  cases q : goodB n xss with
  | false =>
   have H := Lib.hid (show itemB ⟨nm, n, xss, cl, lb, f, s, rs⟩ = false by rw [HP.out]; exact propB_f fun h => by rw [goodB_t h.2.1] at q; cases q)
   go_wp2_with fail
   go_ret
   exact ⟨ret_bool H.out.symm, hB1⟩
  | true =>
   have HG := Lib.hid (goodB_iff.1 q); clear q
   obtain ⟨n, rfl⟩ := Int.eq_ofNat_of_zero_le (show 0 ≤ n by have := HG.out.1; unfold inB at this; simp at this; omega)
   have H := Lib.hid (show itemB ⟨nm, n, xss, cl, lb, f, s, rs⟩ = propB (certP n xss cl lb f s rs) by rw [HP.out]; exact propB_congr ⟨fun h => h.2.2, fun h => ⟨HN.out, HG.out, h⟩⟩)
   go_wp2_with fail
   refine (impl_isCertificate n (.slice Av mv cv) vf vs vr xss cl lb f s rs w1 (HH.out.up hB1).a (HH.out.up hB1).f (HH.out.up hB1).s (HH.out.up hB1).r HG.out ⟨_, _, _, rfl⟩ hlen hlb).mono ?_
   rintro e w2 ⟨rfl, hb2⟩
   go_wp2_with fail
   go_ret
   exact ⟨ret_bool H.out.symm, bl_trans hB1 hb2⟩
end Go.Proofs.YtcfbkickiijjkaaGreatDoor
