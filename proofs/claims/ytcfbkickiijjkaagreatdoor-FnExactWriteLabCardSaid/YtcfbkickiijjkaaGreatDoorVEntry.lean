/-
  Entries of the store's log: what an entry is, and what the reference's srEmpty, srEntry and the program's isZeroItem, entryOk return.
-/
import Derived.Test.YtcfbkickiijjkaaGreatDoorVItem
namespace Go.Proofs.YtcfbkickiijjkaaGreatDoor
open Go.RowKit
set_option linter.all false
structure Entry where
  kd : Int
  nm : ByteArray
  tn : ByteArray
  it : Item
abbrev entryV (e : Entry) (va vf vs vr : Value) : Value := .agg #[.int .i64 e.kd, .string e.nm, .string e.tn, .string e.it.nm, .int .i64 e.it.n, va, .int .i64 e.it.cl, .int .i64 e.it.lb, vf, vs, vr]
def szEntry (e : Entry) : Nat := e.nm.size + e.tn.size + szItem e.it
def emptyP (x : Item) : Prop := x.nm.data.toList = [] ∧ x.n = 0 ∧ x.cl = 0 ∧ x.lb = 0 ∧ x.xss.length + x.f.length + x.s.length + x.rs.length = 0
noncomputable def emptyB (x : Item) : Bool := propB (emptyP x)
def entryP (e : Entry) : Prop :=
  (e.kd = 1 ∧ e.nm.data.toList = [] ∧ e.tn.data.toList = [] ∧ itemP e.it) ∨ (e.kd = 2 ∧ nameP e.nm.data.toList ∧ e.tn.data.toList = [] ∧ emptyP e.it) ∨
  (e.kd = 3 ∧ nameP e.nm.data.toList ∧ nameP e.tn.data.toList ∧ emptyP e.it)
noncomputable def entryB (e : Entry) : Bool := propB (entryP e)
structure Box11 (w : World) (b : Nat) (v0 v1 v2 v3 v4 v5 v6 v7 v8 v9 v10 : Value) : Prop where
  c0 : w.cell? ⟨b, 0, none⟩ = some v0
  c1 : w.cell? ⟨b, 1, none⟩ = some v1
  c2 : w.cell? ⟨b, 2, none⟩ = some v2
  c3 : w.cell? ⟨b, 3, none⟩ = some v3
  c4 : w.cell? ⟨b, 4, none⟩ = some v4
  c5 : w.cell? ⟨b, 5, none⟩ = some v5
  c6 : w.cell? ⟨b, 6, none⟩ = some v6
  c7 : w.cell? ⟨b, 7, none⟩ = some v7
  c8 : w.cell? ⟨b, 8, none⟩ = some v8
  c9 : w.cell? ⟨b, 9, none⟩ = some v9
  c10 : w.cell? ⟨b, 10, none⟩ = some v10
theorem Box11.below {w w' : World} {b B : Nat} {v0 v1 v2 v3 v4 v5 v6 v7 v8 v9 v10 : Value} (h : Box11 w b v0 v1 v2 v3 v4 v5 v6 v7 v8 v9 v10) (hb : Below B w w') (hB : b < B) : Box11 w' b v0 v1 v2 v3 v4 v5 v6 v7 v8 v9 v10 :=
  ⟨(hb.cell (p := ⟨b, 0, none⟩) hB).trans h.c0, (hb.cell (p := ⟨b, 1, none⟩) hB).trans h.c1, (hb.cell (p := ⟨b, 2, none⟩) hB).trans h.c2, (hb.cell (p := ⟨b, 3, none⟩) hB).trans h.c3,
   (hb.cell (p := ⟨b, 4, none⟩) hB).trans h.c4, (hb.cell (p := ⟨b, 5, none⟩) hB).trans h.c5, (hb.cell (p := ⟨b, 6, none⟩) hB).trans h.c6, (hb.cell (p := ⟨b, 7, none⟩) hB).trans h.c7,
   (hb.cell (p := ⟨b, 8, none⟩) hB).trans h.c8, (hb.cell (p := ⟨b, 9, none⟩) hB).trans h.c9, (hb.cell (p := ⟨b, 10, none⟩) hB).trans h.c10⟩
theorem Box11.new (w : World) (t : TypeId) (v0 v1 v2 v3 v4 v5 v6 v7 v8 v9 v10 : Value) : Box11 (w.alloc (.cells #[v0, v1, v2, v3, v4, v5, v6, v7, v8, v9, v10] t)) w.heap.size v0 v1 v2 v3 v4 v5 v6 v7 v8 v9 v10 := by
  refine ⟨?_, ?_, ?_, ?_, ?_, ?_, ?_, ?_, ?_, ?_, ?_⟩
  all_goals
    rw [World.cell?_alloc_at _ _ _ _ rfl]; rfl
theorem isEmpty_iff (s : ByteArray) : s.toList.isEmpty = true ↔ s.data.toList = [] := by
  rw [Lib.toList_data]; simp
theorem isEmpty_f {s : ByteArray} (h : s.data.toList ≠ []) : s.toList.isEmpty = false := by
  rw [Lib.toList_data]
  cases hl : s.data.toList with
  | nil => exact absurd hl h
  | cons => rfl
theorem nm_len {e : Entry} (h : szEntry e ≤ 2000000) : e.nm.size ≤ maxLen ∧ e.tn.size ≤ maxLen ∧ e.it.nm.size ≤ maxLen ∧ szItem e.it ≤ 2000000 := by
  unfold szEntry at h
  have : e.it.nm.size ≤ szItem e.it := by unfold szItem; omega
  unfold maxLen
  omega
theorem spec_srEmpty (x : Item) (va vf vs vr : Value) (w : World) (h : ItemR w w.heap.size x va vf vs vr) (hz : szItem x ≤ 2000000) :
  Calls Tryz.prog 92 #[itemV x va vf vs vr] w fun e w' => e = .returned (.bool (emptyB x)) ∧ Below w.heap.size w w' := by
 obtain ⟨Aa, ca, rfl, a1, a2, -⟩ := h.a.open_
 obtain ⟨Af, cf, rfl, f1, f2, -⟩ := h.f.open_
 obtain ⟨As, cs, rfl, s1, s2, -⟩ := h.s.open_
 obtain ⟨Ar, cr, rfl, r1, r2, -⟩ := h.r.open_
 have hl : x.xss.length + x.f.length + x.s.length + x.rs.length ≤ 2000000 := by unfold szItem szCert szRows at hz; omega
 clear a1 a2 f1 f2 s1 s2 r1 r2 h hz
 have HP := Lib.hid (show emptyB x = propB (emptyP x) from rfl)
 unfold emptyP at HP
 have hb0 := bl_alloc (bl_alloc (Below.refl w.heap.size w) (.cells #[.string x.nm, .int .i64 x.n, .slice Aa x.xss.length ca, .int .i64 x.cl, .int .i64 x.lb, .slice Af x.f.length cf, .slice As x.s.length cs, .slice Ar x.rs.length cr] 53)) (.cells #[.int .i64 x.cl, .int .i64 x.lb, .slice Af x.f.length cf, .slice As x.s.length cs, .slice Ar x.rs.length cr] 51)
 obtain ⟨nm, n, xss, cl, lb, f, s, rs⟩ := x
 dsimp only at *
 generalize emptyB ⟨nm, n, xss, cl, lb, f, s, rs⟩ = R at *
 by_cases c1 : nm.data.toList = []
 ·
  have e1 := (isEmpty_iff nm).2 c1
  have C1 := Lib.hid c1; clear c1
  by_cases c2 : n = 0
  ·
   subst c2
   by_cases c3 : cl = 0
   ·
    subst c3
    by_cases c4 : lb = 0
    ·
     subst c4
     have g1 : IntKind.i64.wrap ((xss.length : Int) + (f.length : Int)) = (xss.length : Int) + (f.length : Int) := IntWalk.i64_in _ (by omega)
     have g2 : IntKind.i64.wrap ((xss.length : Int) + (f.length : Int) + (s.length : Int)) = (xss.length : Int) + (f.length : Int) + (s.length : Int) := IntWalk.i64_in _ (by omega)
     have g3 : IntKind.i64.wrap ((xss.length : Int) + (f.length : Int) + (s.length : Int) + (rs.length : Int)) = (xss.length : Int) + (f.length : Int) + (s.length : Int) + (rs.length : Int) := IntWalk.i64_in _ (by omega)
     by_cases c5 : xss.length + f.length + s.length + rs.length = 0
     ·
      have g4 : (((xss.length : Int) + (f.length : Int) + (s.length : Int) + (rs.length : Int)) == 0) = true := by rw [beq_iff_eq]; omega
      have H := Lib.hid (show R = true by rw [HP.out]; exact propB_t ⟨C1.out, rfl, rfl, rfl, c5⟩)
      clear c5
      go_enter Tryz.func92, Tryz.ntmps92
      go_wp2_with fail
      go_ret
      exact ⟨ret_bool H.out.symm, hb0⟩
     ·
      have g4 : (((xss.length : Int) + (f.length : Int) + (s.length : Int) + (rs.length : Int)) == 0) = false := by rw [beq_eq_false_iff_ne]; omega
      have H := Lib.hid (show R = false by rw [HP.out]; exact propB_f fun h => c5 h.2.2.2.2)
      clear c5
      go_enter Tryz.func92, Tryz.ntmps92
      go_wp2_with fail
      go_ret
      exact ⟨ret_bool H.out.symm, hb0⟩
    ·
     have g : (lb == 0) = false := by rw [beq_eq_false_iff_ne]; exact c4
     have H := Lib.hid (show R = false by rw [HP.out]; exact propB_f fun h => c4 h.2.2.2.1)
     clear c4
     go_enter Tryz.func92, Tryz.ntmps92
     go_wp2_with fail
     go_ret
     exact ⟨ret_bool H.out.symm, hb0⟩
   ·
    have g : (cl == 0) = false := by rw [beq_eq_false_iff_ne]; exact c3
    have H := Lib.hid (show R = false by rw [HP.out]; exact propB_f fun h => c3 h.2.2.1)
    clear c3
    go_enter Tryz.func92, Tryz.ntmps92
    go_wp2_with fail
    go_ret
    exact ⟨ret_bool H.out.symm, hb0⟩
  ·
   have g : (n == 0) = false := by rw [beq_eq_false_iff_ne]; exact c2
   have H := Lib.hid (show R = false by rw [HP.out]; exact propB_f fun h => c2 h.2.1)
   clear c2
   go_enter Tryz.func92, Tryz.ntmps92
   go_wp2_with fail
   go_ret
   exact ⟨ret_bool H.out.symm, hb0⟩
 ·
  have g := isEmpty_f c1
  have H := Lib.hid (show R = false by rw [HP.out]; exact propB_f fun h => c1 h.1)
  clear c1
  go_enter Tryz.func92, Tryz.ntmps92
  go_wp2_with fail
  go_ret
  exact ⟨ret_bool H.out.symm, hb0⟩
theorem impl_isZeroItem (x : Item) (va vf vs vr : Value) (w : World) (h : ItemR w w.heap.size x va vf vs vr) (hz : szItem x ≤ 2000000) :
  Calls Tryz.prog 101 #[itemV x va vf vs vr] w fun e w' => e = .returned (.bool (emptyB x)) ∧ Below w.heap.size w w' := by
 obtain ⟨Aa, ca, rfl, a1, a2, -⟩ := h.a.open_
 obtain ⟨Af, cf, rfl, f1, f2, -⟩ := h.f.open_
 obtain ⟨As, cs, rfl, s1, s2, -⟩ := h.s.open_
 obtain ⟨Ar, cr, rfl, r1, r2, -⟩ := h.r.open_
 have hl : x.xss.length + x.f.length + x.s.length + x.rs.length ≤ 2000000 := by unfold szItem szCert szRows at hz; omega
 clear a1 a2 f1 f2 s1 s2 r1 r2 h hz
 have HP := Lib.hid (show emptyB x = propB (emptyP x) from rfl)
 unfold emptyP at HP
 have hb0 := bl_alloc (bl_alloc (Below.refl w.heap.size w) (.cells #[.string x.nm, .int .i64 x.n, .slice Aa x.xss.length ca, .int .i64 x.cl, .int .i64 x.lb, .slice Af x.f.length cf, .slice As x.s.length cs, .slice Ar x.rs.length cr] 53)) (.cells #[.int .i64 x.cl, .int .i64 x.lb, .slice Af x.f.length cf, .slice As x.s.length cs, .slice Ar x.rs.length cr] 51)
 obtain ⟨nm, n, xss, cl, lb, f, s, rs⟩ := x
 dsimp only at *
 generalize emptyB ⟨nm, n, xss, cl, lb, f, s, rs⟩ = R at *
 by_cases c1 : nm.data.toList = []
 ·
  have e1 := (isEmpty_iff nm).2 c1
  have C1 := Lib.hid c1; clear c1
  by_cases c2 : n = 0
  ·
   subst c2
   by_cases c3 : cl = 0
   ·
    subst c3
    by_cases c4 : lb = 0
    ·
     subst c4
     have g1 : IntKind.i64.wrap ((xss.length : Int) + (f.length : Int)) = (xss.length : Int) + (f.length : Int) := IntWalk.i64_in _ (by omega)
     have g2 : IntKind.i64.wrap ((xss.length : Int) + (f.length : Int) + (s.length : Int)) = (xss.length : Int) + (f.length : Int) + (s.length : Int) := IntWalk.i64_in _ (by omega)
     have g3 : IntKind.i64.wrap ((xss.length : Int) + (f.length : Int) + (s.length : Int) + (rs.length : Int)) = (xss.length : Int) + (f.length : Int) + (s.length : Int) + (rs.length : Int) := IntWalk.i64_in _ (by omega)
     by_cases c5 : xss.length + f.length + s.length + rs.length = 0
     ·
      have g4 : (((xss.length : Int) + (f.length : Int) + (s.length : Int) + (rs.length : Int)) == 0) = true := by rw [beq_iff_eq]; omega
      have H := Lib.hid (show R = true by rw [HP.out]; exact propB_t ⟨C1.out, rfl, rfl, rfl, c5⟩)
      clear c5
      go_enter Tryz.func101, Tryz.ntmps101
      go_wp2_with fail
      go_ret
      exact ⟨ret_bool H.out.symm, hb0⟩
     ·
      have g4 : (((xss.length : Int) + (f.length : Int) + (s.length : Int) + (rs.length : Int)) == 0) = false := by rw [beq_eq_false_iff_ne]; omega
      have H := Lib.hid (show R = false by rw [HP.out]; exact propB_f fun h => c5 h.2.2.2.2)
      clear c5
      go_enter Tryz.func101, Tryz.ntmps101
      go_wp2_with fail
      go_ret
      exact ⟨ret_bool H.out.symm, hb0⟩
    ·
     have g : (lb == 0) = false := by rw [beq_eq_false_iff_ne]; exact c4
     have H := Lib.hid (show R = false by rw [HP.out]; exact propB_f fun h => c4 h.2.2.2.1)
     clear c4
     go_enter Tryz.func101, Tryz.ntmps101
     go_wp2_with fail
     go_ret
     exact ⟨ret_bool H.out.symm, hb0⟩
   ·
    have g : (cl == 0) = false := by rw [beq_eq_false_iff_ne]; exact c3
    have H := Lib.hid (show R = false by rw [HP.out]; exact propB_f fun h => c3 h.2.2.1)
    clear c3
    go_enter Tryz.func101, Tryz.ntmps101
    go_wp2_with fail
    go_ret
    exact ⟨ret_bool H.out.symm, hb0⟩
  ·
   have g : (n == 0) = false := by rw [beq_eq_false_iff_ne]; exact c2
   have H := Lib.hid (show R = false by rw [HP.out]; exact propB_f fun h => c2 h.2.1)
   clear c2
   go_enter Tryz.func101, Tryz.ntmps101
   go_wp2_with fail
   go_ret
   exact ⟨ret_bool H.out.symm, hb0⟩
 ·
  have g := isEmpty_f c1
  have H := Lib.hid (show R = false by rw [HP.out]; exact propB_f fun h => c1 h.1)
  clear c1
  go_enter Tryz.func101, Tryz.ntmps101
  go_wp2_with fail
  go_ret
  exact ⟨ret_bool H.out.symm, hb0⟩
set_option maxRecDepth 100000 in
theorem spec_srEntry (en : Entry) (va vf vs vr : Value) (w : World) (h : ItemR w w.heap.size en.it va vf vs vr) (hz : szEntry en ≤ 2000000) (hlb : I64 en.it.lb) :
  Calls Tryz.prog 53 #[entryV en va vf vs vr] w fun e w' => e = .returned (.bool (entryB en)) ∧ Below w.heap.size w w' := by
 obtain ⟨z1, z2, z3, z4⟩ := nm_len hz
 obtain ⟨Aa, ma, ca, rfl⟩ := h.a.isSlice'
 obtain ⟨Af, mf, cf, rfl⟩ := h.f.isSlice
 obtain ⟨As, ms, cs, rfl⟩ := h.s.isSlice
 obtain ⟨Ar, mr, cr, rfl⟩ := h.r.isSlice'
 have HH := Lib.hid h; clear h
 have HP := Lib.hid (show entryB en = propB (entryP en) from rfl)
 unfold entryP at HP
 have HZS := Lib.hid hz; clear hz
 have HZI := Lib.hid z4; clear z4
 obtain ⟨kd, nm, tn, ⟨inm, n, xss, cl, lb, f, s, rs⟩⟩ := en
 dsimp only at *
 generalize entryB ⟨kd, nm, tn, ⟨inm, n, xss, cl, lb, f, s, rs⟩⟩ = R at *
 have hb0 := bl_alloc (Below.refl w.heap.size w) (.cells #[.int .i64 kd, .string nm, .string tn, .string inm, .int .i64 n, .slice Aa ma ca, .int .i64 cl, .int .i64 lb, .slice Af mf cf, .slice As ms cs, .slice Ar mr cr] 55)
 have HX0 := Lib.hid (Box11.new w 55 (.int .i64 kd) (.string nm) (.string tn) (.string inm) (.int .i64 n) (.slice Aa ma ca) (.int .i64 cl) (.int .i64 lb) (.slice Af mf cf) (.slice As ms cs) (.slice Ar mr cr))
 have HZw0 := Lib.hid (show w.heap.size < (w.alloc (.cells #[.int .i64 kd, .string nm, .string tn, .string inm, .int .i64 n, .slice Aa ma ca, .int .i64 cl, .int .i64 lb, .slice Af mf cf, .slice As ms cs, .slice Ar mr cr] 55)).heap.size by simp)
 by_cases e1 : kd = 1
 ·
  subst e1
  by_cases c1 : nm.data.toList = []
  ·
   have g1 := (isEmpty_iff nm).2 c1
   have C1 := Lib.hid c1; clear c1
   by_cases c2 : tn.data.toList = []
   ·
    have g2 := (isEmpty_iff tn).2 c2
    have H := Lib.hid (show R = itemB ⟨inm, n, xss, cl, lb, f, s, rs⟩ by rw [HP.out]; exact propB_congr ⟨fun h => by rcases h with h | h | h; exact h.2.2.2; exact absurd h.1 (by decide); exact absurd h.1 (by decide), fun h => .inl ⟨rfl, C1.out, c2, h⟩⟩)
    clear c2
    go_enter Tryz.func53, Tryz.ntmps53
    go_wp2_with fail
    generalize w.alloc (.cells #[.int .i64 1, .string nm, .string tn, .string inm, .int .i64 n, .slice Aa ma ca, .int .i64 cl, .int .i64 lb, .slice Af mf cf, .slice As ms cs, .slice Ar mr cr] 55) = w0 at *
    obtain ⟨y0, y1, y2, y3, y4, y5, y6, y7, y8, y9, ya⟩ := HX0.out
    refine (spec_srItem ⟨inm, n, xss, cl, lb, f, s, rs⟩ _ _ _ _ w0 (HH.out.up hb0) HZI.out hlb).mono ?_
    rintro e w1 ⟨rfl, hb1⟩
    go_wp2_with fail
    go_ret
    exact ⟨ret_bool H.out.symm, bl_trans hb0 hb1⟩
   ·
    have g2 := isEmpty_f c2
    have H := Lib.hid (show R = false by rw [HP.out]; exact propB_f fun h => by rcases h with h | h | h; exact c2 h.2.2.1; exact absurd h.1 (by decide); exact absurd h.1 (by decide))
    clear c2
    go_enter Tryz.func53, Tryz.ntmps53
    go_wp2_with fail
    go_ret
    exact ⟨ret_bool H.out.symm, hb0⟩
  ·
   have g1 := isEmpty_f c1
   have H := Lib.hid (show R = false by rw [HP.out]; exact propB_f fun h => by rcases h with h | h | h; exact c1 h.2.1; exact absurd h.1 (by decide); exact absurd h.1 (by decide))
   clear c1
   go_enter Tryz.func53, Tryz.ntmps53
   go_wp2_with fail
   go_ret
   exact ⟨ret_bool H.out.symm, hb0⟩
 ·
  by_cases e2 : kd = 2
  ·
   subst e2
   go_enter Tryz.func53, Tryz.ntmps53
   go_wp2_with fail
   generalize w.alloc (.cells #[.int .i64 2, .string nm, .string tn, .string inm, .int .i64 n, .slice Aa ma ca, .int .i64 cl, .int .i64 lb, .slice Af mf cf, .slice As ms cs, .slice Ar mr cr] 55) = w0 at *
   obtain ⟨y0, y1, y2, y3, y4, y5, y6, y7, y8, y9, ya⟩ := HX0.out
   refine (spec_srName nm w0 z1).mono ?_
   rintro e w1 ⟨rfl, hw_w1⟩
   subst hw_w1
   have hBw1 := hb0
   have HXw1 := HX0
   have HZw1 := HZw0
   cases q : nameB nm.data.toList with
   | false =>
    have H := Lib.hid (show R = false by rw [HP.out]; exact propB_f fun h => by rcases h with h | h | h; exact absurd h.1 (by decide); exact propB_ff q h.2.1; exact absurd h.1 (by decide))
    clear q
    go_wp2_with fail
    go_ret
    exact ⟨ret_bool H.out.symm, hBw1⟩
   | true =>
    have HN := Lib.hid (propB_iff.1 q); clear q
    by_cases c2 : tn.data.toList = []
    ·
     have g2 := (isEmpty_iff tn).2 c2
     have H := Lib.hid (show R = emptyB ⟨inm, n, xss, cl, lb, f, s, rs⟩ by rw [HP.out]; exact propB_congr ⟨fun h => by rcases h with h | h | h; exact absurd h.1 (by decide); exact h.2.2.2; exact absurd h.1 (by decide), fun h => .inr (.inl ⟨by first | rfl | trivial, HN.out, c2, h⟩)⟩)
     clear c2
     go_wp2_with fail
     refine (spec_srEmpty ⟨inm, n, xss, cl, lb, f, s, rs⟩ _ _ _ _ _ (HH.out.up hBw1) HZI.out).mono ?_
     rintro e w2 ⟨rfl, hb2⟩
     go_wp2_with fail
     go_ret
     exact ⟨ret_bool H.out.symm, bl_trans hBw1 hb2⟩
    ·
     have g2 := isEmpty_f c2
     have H := Lib.hid (show R = false by rw [HP.out]; exact propB_f fun h => by rcases h with h | h | h; exact absurd h.1 (by decide); exact c2 h.2.2.1; exact absurd h.1 (by decide))
     clear c2
     go_wp2_with fail
     go_ret
     exact ⟨ret_bool H.out.symm, hBw1⟩
  ·
   by_cases e3 : kd = 3
   ·
    subst e3
    go_enter Tryz.func53, Tryz.ntmps53
    go_wp2_with fail
    generalize w.alloc (.cells #[.int .i64 3, .string nm, .string tn, .string inm, .int .i64 n, .slice Aa ma ca, .int .i64 cl, .int .i64 lb, .slice Af mf cf, .slice As ms cs, .slice Ar mr cr] 55) = w0 at *
    obtain ⟨y0, y1, y2, y3, y4, y5, y6, y7, y8, y9, ya⟩ := HX0.out
    refine (spec_srName nm w0 z1).mono ?_
    rintro e w1 ⟨rfl, hw_w1⟩
    subst hw_w1
    have hBw1 := hb0
    have HXw1 := HX0
    have HZw1 := HZw0
    cases q : nameB nm.data.toList with
    | false =>
     have H := Lib.hid (show R = false by rw [HP.out]; exact propB_f fun h => by rcases h with h | h | h; exact absurd h.1 (by decide); exact absurd h.1 (by decide); exact propB_ff q h.2.1)
     clear q
     go_wp2_with fail
     go_ret
     exact ⟨ret_bool H.out.symm, hBw1⟩
    | true =>
     have HN := Lib.hid (propB_iff.1 q); clear q
     go_wp2_with fail
     refine (spec_srName tn w0 z2).mono ?_
     rintro e w2 ⟨rfl, hw_w2⟩
     subst hw_w2
     have hBw2 := hBw1
     have HXw2 := HXw1
     have HZw2 := HZw0
     cases q : nameB tn.data.toList with
     | false =>
      have H := Lib.hid (show R = false by rw [HP.out]; exact propB_f fun h => by rcases h with h | h | h; exact absurd h.1 (by decide); exact absurd h.1 (by decide); exact propB_ff q h.2.2.1)
      clear q
      go_wp2_with fail
      go_ret
      exact ⟨ret_bool H.out.symm, hBw2⟩
     | true =>
      have HM := Lib.hid (propB_iff.1 q); clear q
      have H := Lib.hid (show R = emptyB ⟨inm, n, xss, cl, lb, f, s, rs⟩ by rw [HP.out]; exact propB_congr ⟨fun h => by rcases h with h | h | h; exact absurd h.1 (by decide); exact absurd h.1 (by decide); exact h.2.2.2, fun h => .inr (.inr ⟨by first | rfl | trivial, HN.out, HM.out, h⟩)⟩)
      go_wp2_with fail
      refine (spec_srEmpty ⟨inm, n, xss, cl, lb, f, s, rs⟩ _ _ _ _ _ (HH.out.up hBw2) HZI.out).mono ?_
      rintro e w3 ⟨rfl, hb3⟩
      go_wp2_with fail
      go_ret
      exact ⟨ret_bool H.out.symm, bl_trans hBw2 hb3⟩
   ·
    have g1 : (kd == 1) = false := by rw [beq_eq_false_iff_ne]; exact e1
    have g2 : (kd == 2) = false := by rw [beq_eq_false_iff_ne]; exact e2
    have g3 : (kd == 3) = false := by rw [beq_eq_false_iff_ne]; exact e3
    have H := Lib.hid (show R = false by rw [HP.out]; exact propB_f fun h => by rcases h with h | h | h; exact e1 h.1; exact e2 h.1; exact e3 h.1)
    clear e1 e2 e3
    go_enter Tryz.func53, Tryz.ntmps53
    go_wp2_with fail
    go_ret
    exact ⟨ret_bool H.out.symm, hb0⟩
set_option maxRecDepth 100000 in
theorem impl_entryOk (en : Entry) (va vf vs vr : Value) (w : World) (h : ItemR w w.heap.size en.it va vf vs vr) (hz : szEntry en ≤ 2000000) (hlb : I64 en.it.lb) :
  Calls Tryz.prog 63 #[entryV en va vf vs vr] w fun e w' => e = .returned (.bool (entryB en)) ∧ Below w.heap.size w w' := by
 obtain ⟨z1, z2, z3, z4⟩ := nm_len hz
 obtain ⟨Aa, ma, ca, rfl⟩ := h.a.isSlice'
 obtain ⟨Af, mf, cf, rfl⟩ := h.f.isSlice
 obtain ⟨As, ms, cs, rfl⟩ := h.s.isSlice
 obtain ⟨Ar, mr, cr, rfl⟩ := h.r.isSlice'
 have HH := Lib.hid h; clear h
 have HP := Lib.hid (show entryB en = propB (entryP en) from rfl)
 unfold entryP at HP
 have HZS := Lib.hid hz; clear hz
 have HZI := Lib.hid z4; clear z4
 obtain ⟨kd, nm, tn, ⟨inm, n, xss, cl, lb, f, s, rs⟩⟩ := en
 dsimp only at *
 generalize entryB ⟨kd, nm, tn, ⟨inm, n, xss, cl, lb, f, s, rs⟩⟩ = R at *
 have hb0 := bl_alloc (Below.refl w.heap.size w) (.cells #[.int .i64 kd, .string nm, .string tn, .string inm, .int .i64 n, .slice Aa ma ca, .int .i64 cl, .int .i64 lb, .slice Af mf cf, .slice As ms cs, .slice Ar mr cr] 55)
 have HX0 := Lib.hid (Box11.new w 55 (.int .i64 kd) (.string nm) (.string tn) (.string inm) (.int .i64 n) (.slice Aa ma ca) (.int .i64 cl) (.int .i64 lb) (.slice Af mf cf) (.slice As ms cs) (.slice Ar mr cr))
 have HZw0 := Lib.hid (show w.heap.size < (w.alloc (.cells #[.int .i64 kd, .string nm, .string tn, .string inm, .int .i64 n, .slice Aa ma ca, .int .i64 cl, .int .i64 lb, .slice Af mf cf, .slice As ms cs, .slice Ar mr cr] 55)).heap.size by simp)
 by_cases e1 : kd = 1
 ·
  subst e1
  by_cases c1 : nm.data.toList = []
  ·
   have g1 := (isEmpty_iff nm).2 c1
   have C1 := Lib.hid c1; clear c1
   by_cases c2 : tn.data.toList = []
   ·
    have g2 := (isEmpty_iff tn).2 c2
    have H := Lib.hid (show R = itemB ⟨inm, n, xss, cl, lb, f, s, rs⟩ by rw [HP.out]; exact propB_congr ⟨fun h => by rcases h with h | h | h; exact h.2.2.2; exact absurd h.1 (by decide); exact absurd h.1 (by decide), fun h => .inl ⟨rfl, C1.out, c2, h⟩⟩)
    clear c2
    go_enter Tryz.func63, Tryz.ntmps63
    go_wp2_with fail
    generalize w.alloc (.cells #[.int .i64 1, .string nm, .string tn, .string inm, .int .i64 n, .slice Aa ma ca, .int .i64 cl, .int .i64 lb, .slice Af mf cf, .slice As ms cs, .slice Ar mr cr] 55) = w0 at *
    obtain ⟨y0, y1, y2, y3, y4, y5, y6, y7, y8, y9, ya⟩ := HX0.out
    refine (impl_isItem ⟨inm, n, xss, cl, lb, f, s, rs⟩ _ _ _ _ w0 (HH.out.up hb0) HZI.out hlb).mono ?_
    rintro e w1 ⟨rfl, hb1⟩
    go_wp2_with fail
    go_ret
    exact ⟨ret_bool H.out.symm, bl_trans hb0 hb1⟩
   ·
    have g2 := isEmpty_f c2
    have H := Lib.hid (show R = false by rw [HP.out]; exact propB_f fun h => by rcases h with h | h | h; exact c2 h.2.2.1; exact absurd h.1 (by decide); exact absurd h.1 (by decide))
    clear c2
    go_enter Tryz.func63, Tryz.ntmps63
    go_wp2_with fail
    go_ret
    exact ⟨ret_bool H.out.symm, hb0⟩
  ·
   have g1 := isEmpty_f c1
   have H := Lib.hid (show R = false by rw [HP.out]; exact propB_f fun h => by rcases h with h | h | h; exact c1 h.2.1; exact absurd h.1 (by decide); exact absurd h.1 (by decide))
   clear c1
   go_enter Tryz.func63, Tryz.ntmps63
   go_wp2_with fail
   go_ret
   exact ⟨ret_bool H.out.symm, hb0⟩
 ·
  by_cases e2 : kd = 2
  ·
   subst e2
   go_enter Tryz.func63, Tryz.ntmps63
   go_wp2_with fail
   generalize w.alloc (.cells #[.int .i64 2, .string nm, .string tn, .string inm, .int .i64 n, .slice Aa ma ca, .int .i64 cl, .int .i64 lb, .slice Af mf cf, .slice As ms cs, .slice Ar mr cr] 55) = w0 at *
   obtain ⟨y0, y1, y2, y3, y4, y5, y6, y7, y8, y9, ya⟩ := HX0.out
   refine (impl_isName nm w0 z1).mono ?_
   rintro e w1 ⟨rfl, hb_w1⟩
   have hBw1 := bl_trans hb0 hb_w1
   have HXw1 := Lib.hid (HX0.out.below hb_w1 HZw0.out)
   have HZw1 := Lib.hid (Nat.lt_of_lt_of_le HZw0.out hb_w1.size)
   obtain ⟨dw10, dw11, dw12, dw13, dw14, dw15, dw16, dw17, dw18, dw19, dw1a⟩ := HXw1.out
   cases q : nameB nm.data.toList with
   | false =>
    have H := Lib.hid (show R = false by rw [HP.out]; exact propB_f fun h => by rcases h with h | h | h; exact absurd h.1 (by decide); exact propB_ff q h.2.1; exact absurd h.1 (by decide))
    clear q
    go_wp2_with fail
    go_ret
    exact ⟨ret_bool H.out.symm, hBw1⟩
   | true =>
    have HN := Lib.hid (propB_iff.1 q); clear q
    by_cases c2 : tn.data.toList = []
    ·
     have g2 := (isEmpty_iff tn).2 c2
     have H := Lib.hid (show R = emptyB ⟨inm, n, xss, cl, lb, f, s, rs⟩ by rw [HP.out]; exact propB_congr ⟨fun h => by rcases h with h | h | h; exact absurd h.1 (by decide); exact h.2.2.2; exact absurd h.1 (by decide), fun h => .inr (.inl ⟨by first | rfl | trivial, HN.out, c2, h⟩)⟩)
     clear c2
     go_wp2_with fail
     refine (impl_isZeroItem ⟨inm, n, xss, cl, lb, f, s, rs⟩ _ _ _ _ _ (HH.out.up hBw1) HZI.out).mono ?_
     rintro e w2 ⟨rfl, hb2⟩
     go_wp2_with fail
     go_ret
     exact ⟨ret_bool H.out.symm, bl_trans hBw1 hb2⟩
    ·
     have g2 := isEmpty_f c2
     have H := Lib.hid (show R = false by rw [HP.out]; exact propB_f fun h => by rcases h with h | h | h; exact absurd h.1 (by decide); exact c2 h.2.2.1; exact absurd h.1 (by decide))
     clear c2
     go_wp2_with fail
     go_ret
     exact ⟨ret_bool H.out.symm, hBw1⟩
  ·
   by_cases e3 : kd = 3
   ·
    subst e3
    go_enter Tryz.func63, Tryz.ntmps63
    go_wp2_with fail
    generalize w.alloc (.cells #[.int .i64 3, .string nm, .string tn, .string inm, .int .i64 n, .slice Aa ma ca, .int .i64 cl, .int .i64 lb, .slice Af mf cf, .slice As ms cs, .slice Ar mr cr] 55) = w0 at *
    obtain ⟨y0, y1, y2, y3, y4, y5, y6, y7, y8, y9, ya⟩ := HX0.out
    refine (impl_isName nm w0 z1).mono ?_
    rintro e w1 ⟨rfl, hb_w1⟩
    have hBw1 := bl_trans hb0 hb_w1
    have HXw1 := Lib.hid (HX0.out.below hb_w1 HZw0.out)
    have HZw1 := Lib.hid (Nat.lt_of_lt_of_le HZw0.out hb_w1.size)
    obtain ⟨dw10, dw11, dw12, dw13, dw14, dw15, dw16, dw17, dw18, dw19, dw1a⟩ := HXw1.out
    cases q : nameB nm.data.toList with
    | false =>
     have H := Lib.hid (show R = false by rw [HP.out]; exact propB_f fun h => by rcases h with h | h | h; exact absurd h.1 (by decide); exact absurd h.1 (by decide); exact propB_ff q h.2.1)
     clear q
     go_wp2_with fail
     go_ret
     exact ⟨ret_bool H.out.symm, hBw1⟩
    | true =>
     have HN := Lib.hid (propB_iff.1 q); clear q
     go_wp2_with fail
     refine (impl_isName tn w1 z2).mono ?_
     rintro e w2 ⟨rfl, hb_w2⟩
     have hBw2 := bl_trans hBw1 hb_w2
     have HXw2 := Lib.hid (HXw1.out.below hb_w2 HZw1.out)
     have HZw2 := Lib.hid (Nat.lt_of_lt_of_le HZw1.out hb_w2.size)
     obtain ⟨dw20, dw21, dw22, dw23, dw24, dw25, dw26, dw27, dw28, dw29, dw2a⟩ := HXw2.out
     cases q : nameB tn.data.toList with
     | false =>
      have H := Lib.hid (show R = false by rw [HP.out]; exact propB_f fun h => by rcases h with h | h | h; exact absurd h.1 (by decide); exact absurd h.1 (by decide); exact propB_ff q h.2.2.1)
      clear q
      go_wp2_with fail
      go_ret
      exact ⟨ret_bool H.out.symm, hBw2⟩
     | true =>
      have HM := Lib.hid (propB_iff.1 q); clear q
      have H := Lib.hid (show R = emptyB ⟨inm, n, xss, cl, lb, f, s, rs⟩ by rw [HP.out]; exact propB_congr ⟨fun h => by rcases h with h | h | h; exact absurd h.1 (by decide); exact absurd h.1 (by decide); exact h.2.2.2, fun h => .inr (.inr ⟨by first | rfl | trivial, HN.out, HM.out, h⟩)⟩)
      go_wp2_with fail
      refine (impl_isZeroItem ⟨inm, n, xss, cl, lb, f, s, rs⟩ _ _ _ _ _ (HH.out.up hBw2) HZI.out).mono ?_
      rintro e w3 ⟨rfl, hb3⟩
      go_wp2_with fail
      go_ret
      exact ⟨ret_bool H.out.symm, bl_trans hBw2 hb3⟩
   ·
    have g1 : (kd == 1) = false := by rw [beq_eq_false_iff_ne]; exact e1
    have g2 : (kd == 2) = false := by rw [beq_eq_false_iff_ne]; exact e2
    have g3 : (kd == 3) = false := by rw [beq_eq_false_iff_ne]; exact e3
    have H := Lib.hid (show R = false by rw [HP.out]; exact propB_f fun h => by rcases h with h | h | h; exact e1 h.1; exact e2 h.1; exact e3 h.1)
    clear e1 e2 e3
    go_enter Tryz.func63, Tryz.ntmps63
    go_wp2_with fail
    go_ret
    exact ⟨ret_bool H.out.symm, hb0⟩
end Go.Proofs.YtcfbkickiijjkaaGreatDoor
