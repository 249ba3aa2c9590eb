/-
  The reference's srRecover: what is recovered from a disk.
-/
import Derived.Test.YtcfbkickiijjkaaGreatDoorVPlainRecover
import Derived.Test.YtcfbkickiijjkaaGreatDoorVReadRecS
import Derived.Test.YtcfbkickiijjkaaGreatDoorVApplyB
namespace Go.Proofs.YtcfbkickiijjkaaGreatDoor
open Go.RowKit
set_option linter.all false
noncomputable def fX (a b l : List UInt8) : List Item := if rvOk a b l = true then (rvR a b l).1 else []
noncomputable def fNn (a b l : List UInt8) : Nat := if rvOk a b l = true then (rvR a b l).2.1 else 0
noncomputable def fBy (a b l : List UInt8) : Nat := if rvOk a b l = true then (rvR a b l).2.2 else 0
noncomputable def fGn (a b l : List UInt8) : Int := if rvOk a b l = true then rvG a b else 0
noncomputable def fSc (a b l : List UInt8) : Bool := if rvOk a b l = true then rvS a b else false
theorem entryP.lb {e : Entry} (h : entryP e) : I64 e.it.lb := by
  rcases kd_text h with ⟨h1, h2, h3, h4, h5⟩ | ⟨h1, h2, h3, h4, h5⟩ | ⟨h1, h2, h3, h4, h5⟩
  · exact (storeP.okI (xs := [e.it]) (fun x hx => by simp at hx; subst hx; exact h4) e.it (by simp)).2
  · rw [h4]; exact ⟨by show _ ≤ (0 : Int); omega, by show (0 : Int) ≤ _; omega⟩
  · rw [h4]; exact ⟨by show _ ≤ (0 : Int); omega, by show (0 : Int) ≤ _; omega⟩
def CutR (g : Int) (l : List UInt8) (w : World) (s10 s11 : Value) (wx : World) : Prop :=
  ∃ (bb : Nat) (E : Entry) (va vf vs vr : Value) (bs : List Nat), s10 = .pointer (some ⟨bb, 0, none⟩) ∧ s11 = .bool (recB g l) ∧ (recB g l = true → E = recE g l) ∧
    wx.heap[bb]? = some (.cells #[.int .i64 E.kd, .string E.nm, .string E.tn, .string E.it.nm, .int .i64 E.it.n, va, .int .i64 E.it.cl, .int .i64 E.it.lb, vf, vs, vr] 55 (0, 0)) ∧ OwnItem wx E.it va vf vs vr bs ∧ (∀ x ∈ bs, w.heap.size ≤ x ∧ x < wx.heap.size) ∧ Below w.heap.size w wx ∧ w.heap.size ≤ bb ∧ bb < wx.heap.size
theorem cutR_mk0 {g : Int} {l : List UInt8} {ok : Bool} {E : Entry} {w W : World} {va vf vs vr : Value} {bs : List Nat} {o : Obj} (hok : recB g l = ok) (hE : ok = true → E = recE g l) (hc : (W.alloc o).heap[W.heap.size]? = some (.cells #[.int .i64 E.kd, .string E.nm, .string E.tn, .string E.it.nm, .int .i64 E.it.n, va, .int .i64 E.it.cl, .int .i64 E.it.lb, vf, vs, vr] 55 (0, 0))) (ho : OwnItem W E.it va vf vs vr bs) (hr : ∀ x ∈ bs, w.heap.size ≤ x ∧ x < W.heap.size) (hb : Below w.heap.size w W) :
    CutR g l w (.pointer (some ⟨W.heap.size, 0, none⟩)) (.bool ok) (W.alloc o) :=
  ⟨W.heap.size, E, va, vf, vs, vr, bs, rfl, by rw [hok], fun h => hE (hok ▸ h), hc, ho.keep fun x hx => (bl_alloc (Below.refl _ W) o).block x (hr x hx).2, fun x hx => ⟨(hr x hx).1, by have := (hr x hx).2; simp; omega⟩, bl_alloc hb o, hb.size, by simp⟩
theorem cutR_mk {g : Int} {l : List UInt8} {ok : Bool} {E : Entry} {b : Nat} {w W : World} {a0 a1 a2 a3 a4 a5 a6 a7 a8 a9 a10 va vf vs vr : Value} {bs : List Nat} (hok : recB g l = ok) (hE : ok = true → E = recE g l) (hc : W.heap[b]? = some (.cells #[a0, a1, a2, a3, a4, a5, a6, a7, a8, a9, a10] 55 (0, 0))) (ho : OwnItem W E.it va vf vs vr bs) (hr : ∀ x ∈ bs, w.heap.size ≤ x ∧ x < W.heap.size ∧ x ≠ b) (hb : Below w.heap.size w W) (hbb : w.heap.size ≤ b) (hlt : b < W.heap.size) :
    CutR g l w (.pointer (some ⟨b, 0, none⟩)) (.bool ok) ((((((((((((W.setCell ⟨b, 0, none⟩ (.int .i64 E.kd)).setCell ⟨b, 1, none⟩ (.string E.nm)).setCell ⟨b, 2, none⟩ (.string E.tn)).setCell ⟨b, 3, none⟩ (.string E.it.nm)).setCell ⟨b, 4, none⟩ (.int .i64 E.it.n)).setCell ⟨b, 5, none⟩ va).setCell ⟨b, 6, none⟩ (.int .i64 E.it.cl)).setCell ⟨b, 7, none⟩ (.int .i64 E.it.lb)).setCell ⟨b, 8, none⟩ vf).setCell ⟨b, 9, none⟩ vs).setCell ⟨b, 10, none⟩ vr)) := by
  obtain ⟨h1, h2, h3, h4⟩ := sets11 W b (.int .i64 E.kd) (.string E.nm) (.string E.tn) (.string E.it.nm) (.int .i64 E.it.n) va (.int .i64 E.it.cl) (.int .i64 E.it.lb) vf vs vr
  refine ⟨b, E, va, vf, vs, vr, bs, rfl, by rw [hok], fun h => hE (hok ▸ h), h4 _ _ _ _ _ _ _ _ _ _ _ _ _ hc, ho.keep fun x hx => h1 x (hr x hx).2.2, fun x hx => ⟨(hr x hx).1, by rw [h2]; exact (hr x hx).2.1⟩, h3 _ _ hbb hb, hbb, by rw [h2]; exact hlt⟩
def RrCs (s : ByteArray) (i j : Nat) (g : Int) (l : List UInt8) (W : World) : Prop := Calls Tryz.prog 45 #[.string (s.extract i j), .int .i64 g] W (RrPost g l W)
def NlRel (l : List UInt8) (bt : Nat) (m : Value) : Prop := ∃ e : Nat, m = .int .i64 e ∧ bt ≤ e ∧ e ≤ l.length ∧ ∀ j b, bt ≤ j → j < e → l[j]? = some b → b ≠ 10
theorem nl_drop {l : List UInt8} {bt e : Nat} {c : UInt8} (h : l[e]? = some c) (hc : c = 10) (hb : bt ≤ e) (hn : ∀ (j : Nat) (b : UInt8), bt ≤ j → j < e → l[j]? = some b → b ≠ 10) : nlI (l.drop bt) = ((e - bt : Nat) : Int) :=
  nl_some (by rw [List.getElem?_drop, show bt + (e - bt) = e by omega, h, hc]) fun j b hj hb' => by rw [List.getElem?_drop] at hb'; exact hn (bt + j) b (by omega) (by omega) hb'
theorem nl_dropn {l : List UInt8} {bt : Nat} (hn : ∀ (j : Nat) (b : UInt8), bt ≤ j → j < l.length → l[j]? = some b → b ≠ 10) : nlI (l.drop bt) = -1 :=
  nl_none fun j b hb => by rw [List.getElem?_drop] at hb; exact hn (bt + j) b (by omega) (List.getElem?_eq_some_iff.1 hb).1 hb
theorem rvG_nn {a b : List UInt8} (h : ¬ (rsB a = false ∧ rsB b = false)) : 0 ≤ rvG a b := by
  have pa : rsB a = true → 0 ≤ rsG a := fun h => (rs_store h).2.1
  have pb : rsB b = true → 0 ≤ rsG b := fun h => (rs_store h).2.1
  unfold rvG rvS
  cases qa : rsB a <;> cases qb : rsB b <;> simp only [qa, qb] at h pa pb ⊢
  · simp at h
  · simpa using pb trivial
  · simpa using pa trivial
  · by_cases q : rsG a < rsG b
    · simpa [q] using pb trivial
    · simpa [q] using pa trivial
theorem rvOk_t {a b l : List UInt8} (h : ¬ (rsB a = false ∧ rsB b = false)) (hl : l.length ≤ 20000) : rvOk a b l = true := by
  unfold rvOk
  rw [decide_eq_true hl, Bool.true_and]
  cases qa : rsB a <;> cases qb : rsB b <;> simp_all
theorem rvOk_f {a b l : List UInt8} (hl : ¬ l.length ≤ 20000) : rvOk a b l = false := by unfold rvOk; rw [decide_eq_false hl, Bool.false_and]
theorem rv_gens {a b : List UInt8} {ga gb : Int} (ha : ga = (if rsB a = true then rsG a else -1)) (hb : gb = (if rsB b = true then rsG b else -1)) :
    (rsB a = false ∧ rsB b = false → ga = -1 ∧ gb = -1) ∧ (¬ (rsB a = false ∧ rsB b = false) → ((ga < gb) ↔ rvS a b = true) ∧ rvG a b = (if rvS a b = true then gb else ga)) := by
  have pa : rsB a = true → 0 ≤ rsG a := fun h => (rs_store h).2.1
  have pb : rsB b = true → 0 ≤ rsG b := fun h => (rs_store h).2.1
  unfold rvG rvS
  cases qa : rsB a <;> cases qb : rsB b <;> simp only [qa, qb] at ha hb pa pb ⊢ <;> subst ha hb
  · simp
  · have := pb trivial; simp; omega
  · have := pa trivial; simp; omega
  · by_cases h : rsG a < rsG b <;> simp [h]
def RvsRel (a b lg : List UInt8) (w1 w3 wr : World) : Prop :=
  ∃ (v : Value) (xs : List Item) (n bt : Nat) (bs : List Nat), wr.heap[w3.heap.size]? = some (.cells #[v, .int .i64 (rvG a b), .bool (rvS a b), .int .i64 (n : Int), .int .i64 (bt : Int)] 60 (0, 0)) ∧ OwnItems wr v xs bs ∧ bs.Nodup ∧ (∀ x ∈ bs, w1.heap.size ≤ x ∧ x < wr.heap.size ∧ x ≠ w3.heap.size) ∧ GoTo (rvG a b) lg (rvR a b lg) xs n bt ∧ Below w3.heap.size w3 wr ∧ w3.heap.size < wr.heap.size
def RvsPost (a b l : List UInt8) (w : World) (e : Ending) (w' : World) : Prop :=
  ∃ v bs, e = .returned (.tuple #[.agg #[v, .int .i64 (fGn a b l), .bool (fSc a b l), .int .i64 (fNn a b l : Int), .int .i64 (fBy a b l : Int)], .bool (rvOk a b l)]) ∧ OwnItems w' v (fX a b l) bs ∧ bs.Nodup ∧ (∀ x ∈ bs, w.heap.size ≤ x ∧ x < w'.heap.size) ∧ Below w.heap.size w w'
theorem Rvs_none {a b l : List UInt8} {w W : World} (h : rvOk a b l = false) (hb : Below w.heap.size w W) : RvsPost a b l w (.returned (.tuple #[.agg #[.slice none 0 0, .int .i64 0, .bool false, .int .i64 0, .int .i64 0], .bool false])) W := by
  unfold RvsPost fX fNn fBy fGn fSc
  rw [h]
  exact ⟨_, [], rfl, own_items_zero _, List.nodup_nil, (fun _ h => by cases h), hb⟩
theorem Rvs_end {a b l : List UInt8} {w W : World} {B : Nat} {v : Value} {xs : List Item} {n bt : Nat} {bs : List Nat} (h : rvOk a b l = true) (hR : rvR a b l = (xs, n, bt)) (ho : OwnItems W v xs bs) (hn : bs.Nodup) (hr : ∀ x ∈ bs, w.heap.size ≤ x ∧ x < W.heap.size ∧ x ≠ B) (hb : Below w.heap.size w W) (hB : w.heap.size ≤ B) :
    RvsPost a b l w (.returned (.tuple #[.agg #[v, .int .i64 (rvG a b), .bool (rvS a b), .int .i64 (n : Int), .int .i64 (bt : Int)], .bool true])) ((((((W.setCell ⟨B, 0, none⟩ v).setCell ⟨B, 1, none⟩ (.int .i64 (rvG a b))).setCell ⟨B, 2, none⟩ (.bool (rvS a b))).setCell ⟨B, 3, none⟩ (.int .i64 (n : Int))).setCell ⟨B, 4, none⟩ (.int .i64 (bt : Int)))) := by
  unfold RvsPost fX fNn fBy fGn fSc
  rw [h, hR]
  refine ⟨v, bs, rfl, ho.keep fun x hx => ?_, hn, fun x hx => ?_, ?_⟩
  · have := hr x hx
    iterate 5 rw [Below.heap_setCell _ _ _ _ (by simp; omega)]
  · have := hr x hx
    simp only [size_setCell]
    omega
  · iterate 5 (refine Below.setCell ?_ (by simp <;> omega) _)
    exact hb
theorem Rvs_cellb {a b : List UInt8} {W : World} {B : Nat} {a0 a1 a2 v : Value} {N M : Int} (hc : W.heap[B]? = some (.cells #[a0, .int .i64 (rvG a b), .bool (rvS a b), a1, a2] 60 (0, 0))) : (((W.setCell ⟨B, 0, none⟩ v).setCell ⟨B, 3, none⟩ (.int .i64 N)).setCell ⟨B, 4, none⟩ (.int .i64 M)).cell? ⟨B, 4, none⟩ = some (.int .i64 M) :=
  cell_of_row _ _ 4 _ _ (0, 0) (heap_set_same (heap_set_same (heap_set_same hc _) _) _)
theorem Rvs_next {a b lg : List UInt8} {w1 w3 W : World} {B n t : Nat} {a0 a1 a2 v : Value} {N M : Int} {xs : List Item} {bs : List Nat} (hB : B = w3.heap.size) (hN : N = (n : Int)) (hM : M = (t : Int)) (hc : W.heap[B]? = some (.cells #[a0, .int .i64 (rvG a b), .bool (rvS a b), a1, a2] 60 (0, 0))) (ho : OwnItems W v xs bs) (hn : bs.Nodup) (hr : ∀ x ∈ bs, w1.heap.size ≤ x ∧ x < W.heap.size ∧ x ≠ B) (hg : GoTo (rvG a b) lg (rvR a b lg) xs n t) (hb : Below w3.heap.size w3 W) (hl : B < W.heap.size) :
    RvsRel a b lg w1 w3 (((W.setCell ⟨B, 0, none⟩ v).setCell ⟨B, 3, none⟩ (.int .i64 N)).setCell ⟨B, 4, none⟩ (.int .i64 M)) := by
  subst hB hN hM
  refine ⟨v, xs, n, t, bs, heap_set_same (heap_set_same (heap_set_same hc _) _) _, ho.keep fun x hx => ?_, hn, fun x hx => ?_, hg, ?_, by simp only [size_setCell]; exact hl⟩
  · have := hr x hx
    iterate 3 rw [Below.heap_setCell _ _ _ _ (by simp; omega)]
  · have := hr x hx
    simp only [size_setCell]
    exact this
  · iterate 3 (refine Below.setCell ?_ (by simp) _)
    exact hb
def RvsCut (a b : List UInt8) (w1 w3 wx : World) : Prop :=
  ∃ v bs, wx.heap[w3.heap.size]? = some (.cells #[v, .int .i64 (rvG a b), .bool (rvS a b), .int .i64 0, .int .i64 0] 60 (0, 0)) ∧ OwnItems wx v (rvX a b) bs ∧ bs.Nodup ∧ (∀ x ∈ bs, w1.heap.size ≤ x ∧ x < w3.heap.size) ∧ Below w3.heap.size w3 wx ∧ w3.heap.size < wx.heap.size
theorem Rvs_cut0 {a b : List UInt8} {w1 w3 W : World} {v : Value} {G : Int} {S : Bool} {bs : List Nat} (hG : rvG a b = G) (hS : rvS a b = S) (hc : W.heap[w3.heap.size]? = some (.cells #[v, .int .i64 G, .bool S, .int .i64 0, .int .i64 0] 60 (0, 0))) (ho : OwnItems W v (rvX a b) bs) (hn : bs.Nodup) (hr : ∀ x ∈ bs, w1.heap.size ≤ x ∧ x < w3.heap.size) (hb : Below w3.heap.size w3 W) (hlt : w3.heap.size < W.heap.size) : RvsCut a b w1 w3 W :=
  ⟨v, bs, by rw [hG, hS]; exact hc, ho, hn, hr, hb, hlt⟩
theorem Rvs_cut {a b : List UInt8} {w1 w3 W : World} {v a0 a1 a2 a3 a4 : Value} {G : Int} {S : Bool} {bs : List Nat} (hG : rvG a b = G) (hS : rvS a b = S) (hc : W.heap[w3.heap.size]? = some (.cells #[a0, a1, a2, a3, a4] 60 (0, 0))) (ho : OwnItems W v (rvX a b) bs) (hn : bs.Nodup) (hr : ∀ x ∈ bs, w1.heap.size ≤ x ∧ x < w3.heap.size) (hb : Below w3.heap.size w3 W) (hlt : w3.heap.size < W.heap.size) : RvsCut a b w1 w3 (((((W.setCell ⟨w3.heap.size, 0, none⟩ v).setCell ⟨w3.heap.size, 1, none⟩ (.int .i64 G)).setCell ⟨w3.heap.size, 2, none⟩ (.bool S)).setCell ⟨w3.heap.size, 3, none⟩ (.int .i64 0)).setCell ⟨w3.heap.size, 4, none⟩ (.int .i64 0)) := by
  refine Rvs_cut0 (v := v) (bs := bs) hG hS (heap_set_same (heap_set_same (heap_set_same (heap_set_same (heap_set_same hc _) _) _) _) _) (ho.keep fun x hx => ?_) hn hr ?_ (by simp only [size_setCell]; exact hlt)
  · have := hr x hx
    iterate 5 rw [Below.heap_setCell _ _ _ _ (by simp; omega)]
  · iterate 5 (refine Below.setCell ?_ (by simp) _)
    exact hb
set_option maxRecDepth 100000 in
set_option maxHeartbeats 2000000 in
theorem spec_srRecover (a b lg : ByteArray) (w : World) (ha : a.size ≤ 1048576) (hb : b.size ≤ 1048576) (hl : lg.size ≤ 1048576) :
  Calls Tryz.prog 28 #[.agg #[.string a, .string b, .string lg]] w (RvsPost a.data.toList b.data.toList lg.data.toList w) := by
 have hB := Below.refl w.heap.size w
 have hsa := Lib.size_eq a
 have hsl := Lib.size_eq lg
 obtain ⟨LA, hLA⟩ : ∃ l, l = a.data.toList := ⟨_, rfl⟩
 obtain ⟨LB, hLB⟩ : ∃ l, l = b.data.toList := ⟨_, rfl⟩
 obtain ⟨LL, hLL⟩ : ∃ l, l = lg.data.toList := ⟨_, rfl⟩
 rw [← hLA, ← hLB, ← hLL]
 rw [← hLL] at hsl
 have hsle : lg.size ≤ LL.length := by omega
 have hsge : LL.length ≤ lg.size := by omega
 clear hsl
 have HLA := Lib.hid hLA; clear hLA
 have HLB := Lib.hid hLB; clear hLB
 have HLL := Lib.hid hLL; clear hLL
 clear hsa
 obtain ⟨ga, hga⟩ : ∃ g, g = (if rsB LA = true then rsG LA else -1) := ⟨_, rfl⟩
 obtain ⟨gb, hgb⟩ : ∃ g, g = (if rsB LB = true then rsG LB else -1) := ⟨_, rfl⟩
 have HG := Lib.hid (rv_gens hga hgb)
 have HGA := Lib.hid hga; clear hga
 have HGB := Lib.hid hgb; clear hgb
 obtain ⟨w0, hw0⟩ : ∃ z, z = w.alloc (.cells #[.string a, .string b, .string lg] 25) := ⟨_, rfl⟩
 have hbaw0 : Below w.heap.size w w0 := by rw [hw0]; exact bl_alloc (Below.refl _ _) _
 have hszw0 : w0.heap.size = w.heap.size + 1 := by rw [hw0]; simp
 have HD0 := Lib.hid (show w0.heap[w.heap.size]? = some (.cells #[.string a, .string b, .string lg] 25) by have h := heap_alloc_new w (.cells #[.string a, .string b, .string lg] 25); rw [← hw0] at h; exact h)
 have hz1 := hbaw0.size
 replace hB := bl_trans hB hbaw0
 obtain ⟨w1, hw1⟩ : ∃ z, z = w0.alloc (.cells #[.slice none 0 0, .int .i64 0, .bool false, .int .i64 0, .int .i64 0] 60) := ⟨_, rfl⟩
 have hbaw1 : Below w0.heap.size w0 w1 := by rw [hw1]; exact bl_alloc (Below.refl _ _) _
 have hszw1 : w1.heap.size = w.heap.size + 1 + 1 := by rw [hw1]; simp [hszw0]
 have HZ0 := Lib.hid (show w1.heap[w.heap.size + 1]? = some (.cells #[.slice none 0 0, .int .i64 0, .bool false, .int .i64 0, .int .i64 0] 60) by have h := heap_alloc_new w0 (.cells #[.slice none 0 0, .int .i64 0, .bool false, .int .i64 0, .int .i64 0] 60); rw [← hw1, hszw0] at h; exact h)
 have hz2 := hbaw1.size
 replace hB := bl_trans hB hbaw1
 replace HD0 := bk HD0 hbaw1
 have HQw0 := Lib.hid hw0; clear hw0
 have HQw1 := Lib.hid hw1; clear hw1
 have hlw : w.heap.size + 1 < w1.heap.size := by omega
 clear hszw0 hszw1
 go_enter Tryz.func28, Tryz.ntmps28
 go_wp2_with fail
 rw [← HQw0.out, ← HQw1.out]
 have d01 := cells3 HD0
 have z01 := cells5 HZ0
 have J := Lib.hid (spec_srReadSnapshot a w1 ha)
 unfold RsPost0 at J
 rw [← HLA.out, ← HGA.out] at J
 refine (J.out).mono ?_
 rintro e w2 ⟨va, bsa, rfl, ho, hna, hrg, hbw2⟩
 have hz3 := hbw2.size
 replace hB := bl_trans hB hbw2
 clear d01
 replace HD0 := bk HD0 hbw2
 clear z01
 replace HZ0 := bk HZ0 hbw2
 have d02 := cells3 HD0
 have z02 := cells5 HZ0
 clear J
 obtain ⟨Aa, ma, ca, rfl⟩ := ho.isSlice
 have Oa := Lib.hid ho; clear ho
 have Ga := Lib.hid hrg; clear hrg
 go_wp2_with fail
 have J := Lib.hid (spec_srReadSnapshot b w2 hb)
 unfold RsPost0 at J
 rw [← HLB.out, ← HGB.out] at J
 refine (J.out).mono ?_
 rintro e w3 ⟨vb, bsb, rfl, ho, hnb, hrg, hbw3⟩
 have hz4 := hbw3.size
 replace hB := bl_trans hB hbw3
 clear d02
 replace HD0 := bk HD0 hbw3
 clear z02
 replace HZ0 := bk HZ0 hbw3
 replace Oa := Lib.hid (Oa.out.keep fun b hb' => hbw3.block b (by have := Ga.out b hb'; omega))
 have d03 := cells3 HD0
 have z03 := cells5 HZ0
 clear J
 obtain ⟨Ab, mb, cb, rfl⟩ := ho.isSlice
 have Ob := Lib.hid ho; clear ho
 have Gb := Lib.hid hrg; clear hrg
 by_cases hab : rsB LA = false ∧ rsB LB = false
 ·
  obtain ⟨e1, e2⟩ := HG.out.1 hab
  subst e1 e2
  have HN := Lib.hid (show rvOk LA LB LL = false from by unfold rvOk; rw [hab.1, hab.2]; simp)
  clear hab HG
  have hba5 := bl_alloc (Below.refl w3.heap.size w3) (.cells #[.slice Aa ma ca, .int .i64 (-1), .bool false, .int .i64 0, .int .i64 0] 60)
  have HR0 := Lib.hid (heap_alloc_new w3 (.cells #[.slice Aa ma ca, .int .i64 (-1), .bool false, .int .i64 0, .int .i64 0] 60))
  have hs5 : w3.heap.size < (w3.alloc (.cells #[.slice Aa ma ca, .int .i64 (-1), .bool false, .int .i64 0, .int .i64 0] 60)).heap.size := by simp
  have HS5 := Lib.hid hs5; clear hs5; have hs5 := HS5.out
  have hz6 := hba5.size
  replace hB := bl_trans hB hba5
  clear d03
  replace HD0 := bk HD0 hba5
  clear z03
  replace HZ0 := bk HZ0 hba5
  replace Oa := Lib.hid (Oa.out.keep fun b hb' => hba5.block b (by have := Ga.out b hb'; omega))
  replace Ob := Lib.hid (Ob.out.keep fun b hb' => hba5.block b (by have := Gb.out b hb'; omega))
  have d04 := cells3 HD0
  have z04 := cells5 HZ0
  obtain ⟨r01_0, r01_1, r01_2, r01_3, r01_4, r01_f⟩ := cells5 HR0
  go_wp2_with fail
  generalize w3.alloc (.cells #[.slice Aa ma ca, .int .i64 (-1), .bool false, .int .i64 0, .int .i64 0] 60) = w4 at *
  refine bodyPost_ret (v := .tuple #[.agg #[.slice none 0 0, .int .i64 0, .bool false, .int .i64 0, .int .i64 0], .bool false]) (by simp [results, Tryz.results28, go_sem, z04]) rfl ?_
  refine Rvs_none HN.out ?_
  iterate 5 (refine Below.setCell ?_ (by simp) _)
  exact hB
 ·
  obtain ⟨g1, g2⟩ := HG.out.2 hab
  have HAB := Lib.hid hab; clear hab HG
  have HD3 := HD0
  have HZ3 := HZ0
  have hB3 := hB
  have hba5 := bl_alloc (Below.refl w3.heap.size w3) (.cells #[.slice Aa ma ca, .int .i64 ga, .bool false, .int .i64 0, .int .i64 0] 60)
  have HR0 := Lib.hid (heap_alloc_new w3 (.cells #[.slice Aa ma ca, .int .i64 ga, .bool false, .int .i64 0, .int .i64 0] 60))
  have hs5 : w3.heap.size < (w3.alloc (.cells #[.slice Aa ma ca, .int .i64 ga, .bool false, .int .i64 0, .int .i64 0] 60)).heap.size := by simp
  have HS5 := Lib.hid hs5; clear hs5; have hs5 := HS5.out
  have hz6 := hba5.size
  replace hB := bl_trans hB hba5
  clear d03
  replace HD0 := bk HD0 hba5
  clear z03
  replace HZ0 := bk HZ0 hba5
  replace Oa := Lib.hid (Oa.out.keep fun b hb' => hba5.block b (by have := Ga.out b hb'; omega))
  replace Ob := Lib.hid (Ob.out.keep fun b hb' => hba5.block b (by have := Gb.out b hb'; omega))
  have d04 := cells3 HD0
  have z04 := cells5 HZ0
  obtain ⟨r01_0, r01_1, r01_2, r01_3, r01_4, r01_f⟩ := cells5 HR0
  go_upto_if 31 with fail
  generalize w3.alloc (.cells #[.slice Aa ma ca, .int .i64 ga, .bool false, .int .i64 0, .int .i64 0] 60) = w4 at *
  go_cut [] (fun wx => RvsCut LA LB w1 w3 wx)
  case first =>
   cases hS : rvS LA LB with
   | true =>
    have hlt := g1.2 hS
    have HS := Lib.hid hS; clear hS g1
    go_wp2_with fail
    go_meet
    exact Rvs_cut (G := gb) (S := true) (g2.trans (by rw [HS.out]; rfl)) HS.out HR0.out (by unfold rvX; rw [HS.out]; exact Ob.out) hnb (fun x hx => by have := Gb.out x hx; omega) hba5 (by omega)
   | false =>
    have hlt : ¬ (ga < gb) := fun h => by have := g1.1 h; rw [hS] at this; cases this
    have HS := Lib.hid hS; clear hS g1
    go_wp2_with fail
    go_meet
    exact Rvs_cut0 (G := ga) (S := false) (g2.trans (by rw [HS.out]; rfl)) HS.out HR0.out (by unfold rvX; rw [HS.out]; exact Oa.out) hna (fun x hx => by have := Ga.out x hx; omega) hba5 (by omega)
  case rest =>
   clear g1 g2 Oa Ob HR0
   replace HD0 := HD3
   replace HZ0 := HZ3
   replace hB := hB3
   obtain ⟨v, bsv, hc5, ho5, hn5, hr5, hb5, hl5⟩ := hcut
   obtain ⟨w5, rfl⟩ : ∃ x, x = wc := ⟨_, rfl⟩
   obtain ⟨Av, mv, cv, rfl⟩ := ho5.isSlice
   have HO5 := Lib.hid ho5; clear ho5
   have hz107 := hb5.size
   replace hB := bl_trans hB hb5
   replace HD0 := bk HD0 hb5
   replace HZ0 := bk HZ0 hb5
   have HR0 := Lib.hid hc5; clear hc5
   have d04 := cells3 HD0
   have z04 := cells5 HZ0
   obtain ⟨r01_0, r01_1, r01_2, r01_3, r01_4, r01_f⟩ := cells5 HR0
   have hgn := rvG_nn HAB.out
   have hgn' : ¬ (rvG LA LB < 0) := by omega
   by_cases h20 : LL.length ≤ 20000
   ·
    have hl20 : ¬ ((lg.size : Int) > 20000) := by omega
    have HOK := Lib.hid (show rvOk LA LB LL = true from rvOk_t HAB.out h20)
    obtain ⟨hst0, hg0, hg1⟩ := rv_start HOK.out
    have HST0 := Lib.hid hst0; clear hst0
    go_wp2_with fail
    go_loopw [9] (fun _ wr => RvsRel LA LB LL w1 w3 wr) (fun _ wr => LL.length - (intOf ((wr.cell? ⟨w3.heap.size, 4, none⟩).getD undef)).toNat)
    case atStart => exact ⟨_, rvX LA LB, 0, 0, bsv, HR0.out, HO5.out, hn5, (fun x hx => by have := hr5 x hx; omega), HST0.out, hb5, hl5⟩
    case round =>
     clear d04 z04 r01_0 r01_1 r01_2 r01_3 r01_4 r01_f
     clear HR0 HO5 hn5 hr5 hb5 hl5 HST0
     replace HD0 := HD3
     replace HZ0 := HZ3
     replace hB := hB3
     obtain ⟨v, xs, n, bt, bsv, hcr, hov, hnv, hrv, hgo, hbl, hlr⟩ := hrel
     obtain ⟨Av, mv, cv, rfl⟩ := hov.isSlice
     have Ov := Lib.hid hov; clear hov
     have Gv := Lib.hid hrv; clear hrv
     have GO := Lib.hid hgo; clear hgo
     have HR0 := Lib.hid hcr; clear hcr
     have HR00 := HR0
     have hbl0 := Lib.hid hbl
     have hbt : bt ≤ LL.length ∧ n ≤ bt := by obtain ⟨f, h1, h2, h3, h4, h5⟩ := GO.out; exact ⟨h3, h4⟩
     have hz108 := hbl.size
     replace hB := bl_trans hB hbl
     replace HD0 := bk HD0 hbl
     replace HZ0 := bk HZ0 hbl
     obtain ⟨d05_0, d05_1, d05_2, d05_f⟩ := cells3 HD0
     have z05 := cells5 HZ0
     obtain ⟨r01_0, r01_1, r01_2, r01_3, r01_4, r01_f⟩ := cells5 HR0
     go_wp2_with fail
     go_loop [9] (fun m => NlRel LL bt m) (fun m => LL.length - (intOf m).toNat)
     case atStart => exact ⟨bt, rfl, Nat.le_refl _, hbt.1, fun j b hj hj2 => by omega⟩
     case round =>
      obtain ⟨e, rfl, hbe, hel, hno⟩ := hrel
      have HNO := Lib.hid hno; clear hno
      by_cases he : e < LL.length
      ·
       have heb : e < lg.size := by omega
       have hat : LL[e]? = some lg[e] := by rw [HLL.out]; exact at_of lg e heb
       by_cases hq : lg[e] = 10
       ·
        have hnl := nl_drop hat hq hbe HNO.out
        have kq : ((lg[e].toNat : Int) != 10) = false := by rw [hq]; rfl
        obtain ⟨k, hk⟩ : ∃ k, k = e - bt := ⟨_, rfl⟩
        rw [← hk] at hnl
        have hek : e = bt + k := by omega
        have HEK := Lib.hid hek; clear hek hat hk
        have HNL := Lib.hid hnl; clear hnl
        obtain ⟨l, hl⟩ : ∃ l, l = (LL.drop bt).take (k + 1) := ⟨_, rfl⟩
        have JRR := Lib.hid (fun (W : World) => show RrCs lg bt (e + 1) (rvG LA LB) l W from by
         have hx := Lib.extract_data lg bt (e + 1)
         have h := spec_srReadRecord (lg.extract bt (e + 1)) (rvG LA LB) W (by rw [Lib.size_eq, hx, ← HLL.out]; simp only [List.length_drop, List.length_take]; omega) (by rw [Lib.size_eq, hx, ← HLL.out]; simp only [List.length_drop, List.length_take]; omega) hg0 hg1
         rw [hx, ← HLL.out, show e + 1 - bt = k + 1 by have := HEK.out; omega, ← hl] at h
         exact h)
        unfold RrCs at JRR
        have HLN := Lib.hid hl; clear hl
        have dne : ¬ ((e : Int) = (lg.size : Int)) := by omega
        go_upto_region 13 with fail
        go_cut [10, 11] (fun s10 s11 wx => CutR (rvG LA LB) l wr s10 s11 wx)
        case first =>
         clear z05
         have kd := d05_2
         have kb := r01_4
         have kg := r01_1
         clear d05_0 d05_1 d05_2 d05_f r01_0 r01_1 r01_2 r01_3 r01_4 r01_f
         have hb0 := Below.refl wr.heap.size wr
         have hq1 : w.heap.size < wr.heap.size := by omega
         have hq3 : w3.heap.size < wr.heap.size := by omega
         have kw2 : 0 ≤ (e : Int) + 1 := by omega
         have kw4 : (e : Int) + 1 ≤ (lg.size : Int) := by omega
         have kw5 : (bt : Int) ≤ (e : Int) + 1 := by omega
         have kw3 : ((e : Int) + 1).toNat = e + 1 := by omega
         have kw1 : IntKind.i64.wrap ((e : Int) + 1) = (e : Int) + 1 := IntWalk.i64_in _ (by omega)
         refine wp_region_held_drew (S := fun x => Below wr.heap.size wr x) (by kernel_rfl) hb0.drew (fun hHeld => ?_)
         refine take_wanted 0 68 (v := ?v1) rfl rfl (by kernel_rfl) (by kernel_rfl) (by kernel_rfl) (fun _ _ _ h => h) (by rfl) ?y1 (by assumption) ?r1
         case y1 => intro wz hSw; have q1 := (hSw.cell (p := ⟨w.heap.size, 2, none⟩) hq1).trans kd; have q2 := (hSw.cell (p := ⟨w3.heap.size, 4, none⟩) hq3).trans kb; have q3 := (hSw.cell (p := ⟨w3.heap.size, 1, none⟩) hq3).trans kg; go_simp <;> with_reducible rfl
         try simp only [pu]
         refine take_wanted 1 69 (v := ?v2) rfl rfl (by kernel_rfl) (by kernel_rfl) (by kernel_rfl) (fun _ _ _ h => h) (by rfl) ?y2 (by assumption) ?r2
         case y2 => intro wz hSw; have q1 := (hSw.cell (p := ⟨w.heap.size, 2, none⟩) hq1).trans kd; have q2 := (hSw.cell (p := ⟨w3.heap.size, 4, none⟩) hq3).trans kb; have q3 := (hSw.cell (p := ⟨w3.heap.size, 1, none⟩) hq3).trans kg; go_simp <;> with_reducible rfl
         try simp only [pu]
         refine take_wanted 2 70 (v := ?v3) rfl rfl (by kernel_rfl) (by kernel_rfl) (by kernel_rfl) (fun _ _ _ h => h) (by rfl) ?y3 (by assumption) ?r3
         case y3 => intro wz hSw; have q1 := (hSw.cell (p := ⟨w.heap.size, 2, none⟩) hq1).trans kd; have q2 := (hSw.cell (p := ⟨w3.heap.size, 4, none⟩) hq3).trans kb; have q3 := (hSw.cell (p := ⟨w3.heap.size, 1, none⟩) hq3).trans kg; go_simp <;> with_reducible rfl
         try simp only [pu]
         refine take_wanted 3 71 (v := ?v4) rfl rfl (by kernel_rfl) (by kernel_rfl) (by kernel_rfl) (fun _ _ _ h => h) (by rfl) ?y4 (by assumption) ?r4
         case y4 => intro wz hSw; have q1 := (hSw.cell (p := ⟨w.heap.size, 2, none⟩) hq1).trans kd; have q2 := (hSw.cell (p := ⟨w3.heap.size, 4, none⟩) hq3).trans kb; have q3 := (hSw.cell (p := ⟨w3.heap.size, 1, none⟩) hq3).trans kg; go_simp <;> with_reducible rfl
         try simp only [pu]
         refine take_wanted 4 72 (v := ?v5) rfl rfl (by kernel_rfl) (by kernel_rfl) (by kernel_rfl) (fun _ _ _ h => h) (by rfl) ?y5 (by assumption) ?r5
         case y5 => intro wz hSw; have q1 := (hSw.cell (p := ⟨w.heap.size, 2, none⟩) hq1).trans kd; have q2 := (hSw.cell (p := ⟨w3.heap.size, 4, none⟩) hq3).trans kb; have q3 := (hSw.cell (p := ⟨w3.heap.size, 1, none⟩) hq3).trans kg; go_simp <;> with_reducible rfl
         try simp only [pu]
         refine take_wanted 5 73 (v := ?v6) rfl rfl (by kernel_rfl) (by kernel_rfl) (by kernel_rfl) (fun _ _ _ h => h) (by rfl) ?y6 (by assumption) ?r6
         case y6 => intro wz hSw; have q1 := (hSw.cell (p := ⟨w.heap.size, 2, none⟩) hq1).trans kd; have q2 := (hSw.cell (p := ⟨w3.heap.size, 4, none⟩) hq3).trans kb; have q3 := (hSw.cell (p := ⟨w3.heap.size, 1, none⟩) hq3).trans kg; go_simp <;> with_reducible rfl
         try simp only [pu]
         refine take_wanted 6 74 (v := ?v7) rfl rfl (by kernel_rfl) (by kernel_rfl) (by kernel_rfl) (fun _ _ _ h => h) (by rfl) ?y7 (by assumption) ?r7
         case y7 => intro wz hSw; have q1 := (hSw.cell (p := ⟨w.heap.size, 2, none⟩) hq1).trans kd; have q2 := (hSw.cell (p := ⟨w3.heap.size, 4, none⟩) hq3).trans kb; have q3 := (hSw.cell (p := ⟨w3.heap.size, 1, none⟩) hq3).trans kg; go_simp <;> with_reducible rfl
         try simp only [pu]
         refine take_wanted 7 75 (v := ?v8) rfl rfl (by kernel_rfl) (by kernel_rfl) (by kernel_rfl) (fun _ _ _ h => h) (by rfl) ?y8 (by assumption) ?r8
         case y8 => intro wz hSw; have q1 := (hSw.cell (p := ⟨w.heap.size, 2, none⟩) hq1).trans kd; have q2 := (hSw.cell (p := ⟨w3.heap.size, 4, none⟩) hq3).trans kb; have q3 := (hSw.cell (p := ⟨w3.heap.size, 1, none⟩) hq3).trans kg; go_simp <;> with_reducible rfl
         try simp only [pu]
         refine take_wanted 8 76 (v := ?v9) rfl rfl (by kernel_rfl) (by kernel_rfl) (by kernel_rfl) (fun _ _ _ h => h) (by rfl) ?y9 (by assumption) ?r9
         case y9 => intro wz hSw; have q1 := (hSw.cell (p := ⟨w.heap.size, 2, none⟩) hq1).trans kd; have q2 := (hSw.cell (p := ⟨w3.heap.size, 4, none⟩) hq3).trans kb; have q3 := (hSw.cell (p := ⟨w3.heap.size, 1, none⟩) hq3).trans kg; go_simp <;> with_reducible rfl
         try simp only [pu]
         clear kw1 kw2 kw3 kw4 kw5
         refine take_ready2 9 13 rfl rfl (by kernel_rfl) (fun K hK => ?_) (fun K hK => ?_)
         ·
          go_simp
          go_at_call 45
          refine (JRR.out _).mono ?_
          rintro e w4 ⟨E, ⟨va, vf, vs, vr, bse, rfl, ho, hn, hrg, hb4⟩, hE⟩
          have hW4 : Below wr.heap.size wr w4 := (hb0.drew).trans (hb4.mono (by simp))
          obtain ⟨ya, yf, yz, yr, oa, of, oz, or, hbs⟩ := id ho
          obtain ⟨xa, na, da, rfl⟩ := oa.isSlice
          obtain ⟨xf, nf, df, rfl⟩ := of.1.isSlice
          obtain ⟨xs', ns, ds, rfl⟩ := oz.1.isSlice
          obtain ⟨xr, nr, dr, rfl⟩ := or.isSlice
          clear oa of oz or hbs
          refine hK.out _ _ ?_ (fun hHeld => ?_)
          ·
           exact hW4
          clear hK K
          try simp only [pu]
          refine take_wanted 10 67 (v := ?v10) rfl rfl (by kernel_rfl) (by kernel_rfl) (by kernel_rfl) (fun _ _ _ h => h) (by rfl) ?y10 (by assumption) ?r10
          case y10 => intro wz hSw; have q1 := (hSw.cell (p := ⟨w.heap.size, 2, none⟩) hq1).trans kd; have q2 := (hSw.cell (p := ⟨w3.heap.size, 4, none⟩) hq3).trans kb; have q3 := (hSw.cell (p := ⟨w3.heap.size, 1, none⟩) hq3).trans kg; go_simp <;> with_reducible rfl
          try simp only [pu]
          refine take_wanted 11 78 (v := ?v11) rfl rfl (by kernel_rfl) (by kernel_rfl) (by kernel_rfl) (fun _ _ _ h => h) (by rfl) ?y11 (by assumption) ?r11
          case y11 => intro wz hSw; have q1 := (hSw.cell (p := ⟨w.heap.size, 2, none⟩) hq1).trans kd; have q2 := (hSw.cell (p := ⟨w3.heap.size, 4, none⟩) hq3).trans kb; have q3 := (hSw.cell (p := ⟨w3.heap.size, 1, none⟩) hq3).trans kg; go_simp <;> with_reducible rfl
          try simp only [pu]
          refine take_wanted 12 79 (v := ?v12) rfl rfl (by kernel_rfl) (by kernel_rfl) (by kernel_rfl) (fun _ _ _ h => h) (by rfl) ?y12 (by assumption) ?r12
          case y12 => intro wz hSw; have q1 := (hSw.cell (p := ⟨w.heap.size, 2, none⟩) hq1).trans kd; have q2 := (hSw.cell (p := ⟨w3.heap.size, 4, none⟩) hq3).trans kb; have q3 := (hSw.cell (p := ⟨w3.heap.size, 1, none⟩) hq3).trans kg; go_simp <;> with_reducible rfl
          try simp only [pu]
          refine take_ready 13 rfl (by kernel_rfl) (fun K hK => ?_)
          go_simp
          have hA := bl_alloc hW4 (.cells #[.int .i64 0, .string ⟨#[]⟩, .string ⟨#[]⟩, .string ⟨#[]⟩, .int .i64 0, .slice none 0 0, .int .i64 0, .int .i64 0, .slice none 0 0, .slice none 0 0, .slice none 0 0] 55)
          refine hK.out _ _ ?_ (fun hHeld => ?_)
          ·
           exact hA
          clear hK K
          try simp only [pu]
          refine take_ready 14 rfl (by kernel_rfl) (fun K hK => ?_)
          go_simp
          refine hK.out _ _ ?_ (fun hHeld => ?_)
          ·
           first | exact bl_alloc hW4 _ | exact (sets11 _ _ _ _ _ _ _ _ _ _ _ _ _).2.2.1 _ _ hW4.size hA
          clear hK K
          try simp only [pu]
          refine take_ready 15 rfl (by kernel_rfl) (fun K hK => ?_)
          go_simp
          refine hK.out _ _ ?_ (fun hHeld => ?_)
          ·
           exact hHeld
          clear hK K
          try simp only [pu]
          refine wpAnyH_done (by kernel_rfl) ?_ _
          go_wp2_with fail
          go_meet
          exact cutR_mk0 rfl hE (heap_alloc_new _ _) ho (fun x hx => by have := hrg x hx; simp at this; omega) hW4
         ·
          go_simp
          have hA := bl_alloc hb0.drew (.cells #[.int .i64 0, .string ⟨#[]⟩, .string ⟨#[]⟩, .string ⟨#[]⟩, .int .i64 0, .slice none 0 0, .int .i64 0, .int .i64 0, .slice none 0 0, .slice none 0 0, .slice none 0 0] 55)
          refine hK.out _ _ ?_ (fun hHeld => ?_)
          ·
           exact hA
          clear hK K
          try simp only [pu]
          refine take_ready 9 rfl (by kernel_rfl) (fun K hK => ?_)
          go_simp
          go_at_call 45
          refine (JRR.out _).mono ?_
          rintro e w4 ⟨E, ⟨va, vf, vs, vr, bse, rfl, ho, hn, hrg, hb4⟩, hE⟩
          have hW4 : Below wr.heap.size wr w4 := (hA).trans (hb4.mono (by simp))
          obtain ⟨ya, yf, yz, yr, oa, of, oz, or, hbs⟩ := id ho
          obtain ⟨xa, na, da, rfl⟩ := oa.isSlice
          obtain ⟨xf, nf, df, rfl⟩ := of.1.isSlice
          obtain ⟨xs', ns, ds, rfl⟩ := oz.1.isSlice
          obtain ⟨xr, nr, dr, rfl⟩ := or.isSlice
          clear oa of oz or hbs
          have hbx : w4.heap[wr.heap.size]? = some (.cells #[.int .i64 0, .string ⟨#[]⟩, .string ⟨#[]⟩, .string ⟨#[]⟩, .int .i64 0, .slice none 0 0, .int .i64 0, .int .i64 0, .slice none 0 0, .slice none 0 0, .slice none 0 0] 55 (0, 0)) := (hb4.block wr.heap.size (by simp)).trans (heap_alloc_new wr (.cells #[.int .i64 0, .string ⟨#[]⟩, .string ⟨#[]⟩, .string ⟨#[]⟩, .int .i64 0, .slice none 0 0, .int .i64 0, .int .i64 0, .slice none 0 0, .slice none 0 0, .slice none 0 0] 55))
          have hlt4 : wr.heap.size < w4.heap.size := by have := hb4.size; simp at this; omega
          obtain ⟨zz0, zz1, zz2, zz3, zz4, zz5, zz6, zz7, zz8, zz9, zz10, zzf⟩ := cells11 hbx
          have HBX := Lib.hid hbx; clear hbx
          refine hK.out _ _ ?_ (fun hHeld => ?_)
          ·
           exact hW4
          clear hK K
          try simp only [pu]
          refine take_wanted 10 67 (v := ?v13) rfl rfl (by kernel_rfl) (by kernel_rfl) (by kernel_rfl) (fun _ _ _ h => h) (by rfl) ?y13 (by assumption) ?r13
          case y13 => intro wz hSw; have q1 := (hSw.cell (p := ⟨w.heap.size, 2, none⟩) hq1).trans kd; have q2 := (hSw.cell (p := ⟨w3.heap.size, 4, none⟩) hq3).trans kb; have q3 := (hSw.cell (p := ⟨w3.heap.size, 1, none⟩) hq3).trans kg; go_simp <;> with_reducible rfl
          try simp only [pu]
          refine take_wanted 11 78 (v := ?v14) rfl rfl (by kernel_rfl) (by kernel_rfl) (by kernel_rfl) (fun _ _ _ h => h) (by rfl) ?y14 (by assumption) ?r14
          case y14 => intro wz hSw; have q1 := (hSw.cell (p := ⟨w.heap.size, 2, none⟩) hq1).trans kd; have q2 := (hSw.cell (p := ⟨w3.heap.size, 4, none⟩) hq3).trans kb; have q3 := (hSw.cell (p := ⟨w3.heap.size, 1, none⟩) hq3).trans kg; go_simp <;> with_reducible rfl
          try simp only [pu]
          refine take_wanted 12 79 (v := ?v15) rfl rfl (by kernel_rfl) (by kernel_rfl) (by kernel_rfl) (fun _ _ _ h => h) (by rfl) ?y15 (by assumption) ?r15
          case y15 => intro wz hSw; have q1 := (hSw.cell (p := ⟨w.heap.size, 2, none⟩) hq1).trans kd; have q2 := (hSw.cell (p := ⟨w3.heap.size, 4, none⟩) hq3).trans kb; have q3 := (hSw.cell (p := ⟨w3.heap.size, 1, none⟩) hq3).trans kg; go_simp <;> with_reducible rfl
          try simp only [pu]
          refine take_ready 14 rfl (by kernel_rfl) (fun K hK => ?_)
          go_simp
          refine hK.out _ _ ?_ (fun hHeld => ?_)
          ·
           exact (sets11 _ _ _ _ _ _ _ _ _ _ _ _ _).2.2.1 _ _ (Nat.le_refl _) hW4
          clear hK K
          try simp only [pu]
          refine take_ready 15 rfl (by kernel_rfl) (fun K hK => ?_)
          go_simp
          refine hK.out _ _ ?_ (fun hHeld => ?_)
          ·
           exact hHeld
          clear hK K
          try simp only [pu]
          refine wpAnyH_done (by kernel_rfl) ?_ _
          go_wp2_with fail
          go_meet
          exact cutR_mk rfl hE HBX.out ho (fun x hx => by have := hrg x hx; simp at this; omega) hW4 (Nat.le_refl _) hlt4
        case rest =>
         obtain ⟨bb, E, va, vf, vs, vr, bse, rfl, rfl, hE, hbx, ho, hrg, hbr, hbb1, hbb2⟩ := hcut
         obtain ⟨ba, bf, bz, br, oa, of, oz, or, hbs⟩ := id ho
         obtain ⟨Aa, ma, ca, rfl⟩ := oa.isSlice
         obtain ⟨Af, mf, cf, rfl⟩ := of.1.isSlice
         obtain ⟨As, ms, cs, rfl⟩ := oz.1.isSlice
         obtain ⟨Ar, mr, cr, rfl⟩ := or.isSlice
         clear oa of oz or hbs
         have OE := Lib.hid ho; clear ho
         have GE := Lib.hid hrg; clear hrg
         have HB1 := Lib.hid hbx; clear hbx
         have HEE := Lib.hid hE; clear hE
         have hz109 := hbr.size
         replace hB := bl_trans hB hbr
         clear d05_0 d05_1 d05_2 d05_f
         replace HD0 := bk HD0 hbr
         clear z05
         replace HZ0 := bk HZ0 hbr
         clear r01_0 r01_1 r01_2 r01_3 r01_4 r01_f
         replace HR0 := bk HR0 hbr
         replace Ov := Lib.hid (Ov.out.keep fun b hb' => hbr.block b (by have := Gv.out b hb'; omega))
         have HE1 := Lib.hid HB1.out; clear HB1
         have d06 := cells3 HD0
         have z06 := cells5 HZ0
         have r02 := cells5 HR0
         have e11 := cells11 HE1
         have hll : LL.drop bt ≠ [] ∨ True := .inr trivial
         clear hll
         cases hrb : recB (rvG LA LB) l with
         | false =>
          have HRB := Lib.hid (show recB (rvG LA LB) ((LL.drop bt).take (k + 1)) = false by rw [← HLN.out]; exact hrb)
          clear hrb
          have HR := Lib.hid (GO.out.nr HNL.out HRB.out)
          go_wp2_with fail
          refine bodyPost_ret (v := .tuple #[.agg #[.slice Av mv cv, .int .i64 (rvG LA LB), .bool (rvS LA LB), .int .i64 (n : Int), .int .i64 (bt : Int)], .bool true]) (by simp [results, Tryz.results28, go_sem, z06]) rfl ?_
          exact Rvs_end HOK.out HR.out Ov.out hnv (fun x hx => by have := Gv.out x hx; omega) hB (by omega)
         | true =>
          have heE := HEE.out hrb
          obtain ⟨hen, -⟩ := recE_p hrb
          rw [← heE] at hen
          have hsz := entryP.sz hen
          have hlb := entryP.lb hen
          have HRB := Lib.hid (show recB (rvG LA LB) ((LL.drop bt).take (k + 1)) = true by rw [← HLN.out]; exact hrb)
          have HRE := Lib.hid (show E = recE (rvG LA LB) ((LL.drop bt).take (k + 1)) by rw [← HLN.out]; exact heE)
          clear hrb heE hen HEE
          have hst : storeP xs := by obtain ⟨f, h1, h2, h3, h4, h5⟩ := GO.out; exact h5
          have JA := Lib.hid (spec_srApply _ xs E _ _ _ _ wc (Ov.out.reads (B := wc.heap.size) (fun b hb' => by have := Gv.out b hb'; omega)) hst (OE.out.reads (B := wc.heap.size) (fun b hb' => by have := GE.out b hb'; omega)) hsz hlb)
          clear hst hsz hlb
          unfold ApiPost at JA
          go_wp2_with fail
          refine (JA.out).mono ?_
          rintro e wn ⟨vn, rfl, ⟨An, mn, cn, rfl⟩, hown, hbn⟩
          have hz110 := hbn.size
          replace hB := bl_trans hB hbn
          clear d06
          replace HD0 := bk HD0 hbn
          clear z06
          replace HZ0 := bk HZ0 hbn
          clear r02
          replace HR0 := bk HR0 hbn
          clear e11
          replace HE1 := bk HE1 hbn
          replace Ov := Lib.hid (Ov.out.keep fun b hb' => hbn.block b (by have := Gv.out b hb'; omega))
          replace OE := Lib.hid (OE.out.keep fun b hb' => hbn.block b (by have := GE.out b hb'; omega))
          have d07 := cells3 HD0
          have z07 := cells5 HZ0
          have r03 := cells5 HR0
          have e12 := cells11 HE1
          clear JA
          have HOW := Lib.hid hown; clear hown
          cases hap : apB xs E with
          | false =>
           have HAP := Lib.hid (show apB xs (recE (rvG LA LB) ((LL.drop bt).take (k + 1))) = false by rw [← HRE.out]; exact hap)
           clear hap
           have HR := Lib.hid (GO.out.na HNL.out HAP.out)
           go_wp2_with fail
           refine bodyPost_ret (v := .tuple #[.agg #[.slice Av mv cv, .int .i64 (rvG LA LB), .bool (rvS LA LB), .int .i64 (n : Int), .int .i64 (bt : Int)], .bool true]) (by simp [results, Tryz.results28, go_sem, z07]) rfl ?_
           exact Rvs_end HOK.out HR.out Ov.out hnv (fun x hx => by have := Gv.out x hx; omega) hB (by omega)
          | true =>
           obtain ⟨bsn, hon, hnn, hrn⟩ := HOW.out hap
           have HON := Lib.hid hon; clear hon
           have HRN := Lib.hid hrn; clear hrn
           have HGO := Lib.hid (show GoTo (rvG LA LB) LL (rvR LA LB LL) (apX xs E) (n + 1) (bt + (k + 1)) from by rw [HRE.out]; exact GO.out.next HNL.out HRB.out (by rw [← HRE.out]; exact hap))
           clear hap HOW
           have hbt2 : bt + (k + 1) ≤ LL.length := by obtain ⟨f, h1, h2, h3, h4, h5⟩ := HGO.out; exact h3
           have M0 := Lib.hid (show wr.cell? ⟨w3.heap.size, 4, none⟩ = some (.int .i64 (bt : Int)) from cell_of_row _ _ 4 _ _ (0, 0) HR00.out)
           go_wp2_with fail
           go_roundw
           case rel => exact Rvs_next (B := w3.heap.size) rfl (by omega) (by have := HEK.out; omega) HR0.out HON.out hnn (fun x hx => by have := HRN.out x hx; omega) HGO.out ((hbl0.out.trans (hbr.mono (by omega))).trans (hbn.mono (by omega))) (by omega)
           case measure =>
            rw [Rvs_cellb (B := w3.heap.size) HR0.out, M0.out]
            simp only [Option.getD_some, intOf]
            omega
       ·
        have HX := Lib.hid (show ∀ j b, bt ≤ j → j < e + 1 → LL[j]? = some b → b ≠ 10 from fun j b h1 h2 h3 => by
         rcases Nat.lt_or_ge j e with h | h
         ·
          exact HNO.out j b h1 h h3
         ·
          obtain rfl : j = e := by omega
          obtain rfl : lg[j] = b := Option.some.inj (hat.symm.trans h3)
          exact hq)
        have kq : ((lg[e].toNat : Int) != 10) = true := by
         rw [bne_iff_ne]
         intro e1
         exact hq (UInt8.toNat_inj.1 (by have : (10 : UInt8).toNat = 10 := rfl; omega))
        clear hat
        go_wp2_with fail
        go_round
        case rel => exact ⟨e + 1, by go_num, by omega, by omega, HX.out⟩
        case measure => simp [intOf]; omega
      ·
       obtain rfl : e = lg.size := by omega
       have HNL := Lib.hid (show nlI (LL.drop bt) = -1 from nl_dropn fun j b h1 h2 h3 => HNO.out j b h1 (by omega) h3)
       have HR := Lib.hid (GO.out.no HNL.out)
       go_wp2_with fail
       refine bodyPost_ret (v := .tuple #[.agg #[.slice Av mv cv, .int .i64 (rvG LA LB), .bool (rvS LA LB), .int .i64 (n : Int), .int .i64 (bt : Int)], .bool true]) (by simp [results, Tryz.results28, go_sem, z05]) rfl ?_
       exact Rvs_end HOK.out HR.out Ov.out hnv (fun x hx => by have := Gv.out x hx; omega) hB (by omega)
   ·
    have hl20 : (lg.size : Int) > 20000 := by omega
    have HN := Lib.hid (show rvOk LA LB LL = false from rvOk_f h20)
    go_wp2_with fail
    refine bodyPost_ret (v := .tuple #[.agg #[.slice none 0 0, .int .i64 0, .bool false, .int .i64 0, .int .i64 0], .bool false]) (by simp [results, Tryz.results28, go_sem, z04]) rfl ?_
    refine Rvs_none HN.out ?_
    iterate 5 (refine Below.setCell ?_ (by simp) _)
    exact hB
end Go.Proofs.YtcfbkickiijjkaaGreatDoor
