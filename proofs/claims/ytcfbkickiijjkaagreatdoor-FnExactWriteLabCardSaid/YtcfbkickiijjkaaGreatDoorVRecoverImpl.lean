/-
  The program's recoverLab: what is recovered from a disk.
-/
import Derived.Test.YtcfbkickiijjkaaGreatDoorVRecoverSpec
namespace Go.Proofs.YtcfbkickiijjkaaGreatDoor
open Go.RowKit
set_option linter.all false
def RrCi (s : ByteArray) (i j : Nat) (g : Int) (l : List UInt8) (W : World) : Prop := Calls Tryz.prog 48 #[.string (s.extract i j), .int .i64 g] W (RrPost g l W)
def NlC (s : ByteArray) (i j : Nat) (l : List UInt8) (W : World) : Prop := Calls Tryz.prog 47 #[.string (s.extract i j), .int .u8 10] W fun e w' => e = .returned (.int .i64 (nlI l)) ∧ W = w'
def RviRel (a b lg : List UInt8) (w1 w3 wr : World) : Prop :=
  ∃ (v : Value) (xs : List Item) (n bt : Nat) (bs : List Nat), wr.heap[w3.heap.size]? = some (.cells #[v, .int .i64 (rvG a b), .int .i64 (n : Int), .int .i64 (bt : Int), .bool (rvS a b)] 68 (0, 0)) ∧ OwnItems wr v xs bs ∧ bs.Nodup ∧ (∀ x ∈ bs, w1.heap.size ≤ x ∧ x < wr.heap.size ∧ x ≠ w3.heap.size) ∧ GoTo (rvG a b) lg (rvR a b lg) xs n bt ∧ Below w3.heap.size w3 wr ∧ w3.heap.size < wr.heap.size
def RviPost (a b l : List UInt8) (w : World) (e : Ending) (w' : World) : Prop :=
  ∃ v bs, e = .returned (.tuple #[.agg #[v, .int .i64 (fGn a b l), .int .i64 (fNn a b l : Int), .int .i64 (fBy a b l : Int), .bool (fSc a b l)], .bool (rvOk a b l)]) ∧ OwnItems w' v (fX a b l) bs ∧ bs.Nodup ∧ (∀ x ∈ bs, w.heap.size ≤ x ∧ x < w'.heap.size) ∧ Below w.heap.size w w'
theorem Rvi_none {a b l : List UInt8} {w W : World} (h : rvOk a b l = false) (hb : Below w.heap.size w W) : RviPost a b l w (.returned (.tuple #[.agg #[.slice none 0 0, .int .i64 0, .int .i64 0, .int .i64 0, .bool false], .bool false])) W := by
  unfold RviPost fX fNn fBy fGn fSc
  rw [h]
  exact ⟨_, [], rfl, own_items_zero _, List.nodup_nil, (fun _ h => by cases h), hb⟩
theorem Rvi_end {a b l : List UInt8} {w W : World} {B : Nat} {v : Value} {xs : List Item} {n bt : Nat} {bs : List Nat} (h : rvOk a b l = true) (hR : rvR a b l = (xs, n, bt)) (ho : OwnItems W v xs bs) (hn : bs.Nodup) (hr : ∀ x ∈ bs, w.heap.size ≤ x ∧ x < W.heap.size ∧ x ≠ B) (hb : Below w.heap.size w W) (hB : w.heap.size ≤ B) :
    RviPost a b l w (.returned (.tuple #[.agg #[v, .int .i64 (rvG a b), .int .i64 (n : Int), .int .i64 (bt : Int), .bool (rvS a b)], .bool true])) ((((((W.setCell ⟨B, 0, none⟩ v).setCell ⟨B, 1, none⟩ (.int .i64 (rvG a b))).setCell ⟨B, 2, none⟩ (.int .i64 (n : Int))).setCell ⟨B, 3, none⟩ (.int .i64 (bt : Int))).setCell ⟨B, 4, none⟩ (.bool (rvS a b)))) := by
  unfold RviPost fX fNn fBy fGn fSc
  rw [h, hR]
  refine ⟨v, bs, rfl, ho.keep fun x hx => ?_, hn, fun x hx => ?_, ?_⟩
  · have := hr x hx
    iterate 5 rw [Below.heap_setCell _ _ _ _ (by simp; omega)]
  · have := hr x hx
    simp only [size_setCell]
    omega
  · iterate 5 (refine Below.setCell ?_ (by simp <;> omega) _)
    exact hb
theorem Rvi_cellb {a b : List UInt8} {W : World} {B : Nat} {a0 a1 a2 v : Value} {N M : Int} (hc : W.heap[B]? = some (.cells #[a0, .int .i64 (rvG a b), a1, a2, .bool (rvS a b)] 68 (0, 0))) : (((W.setCell ⟨B, 0, none⟩ v).setCell ⟨B, 2, none⟩ (.int .i64 N)).setCell ⟨B, 3, none⟩ (.int .i64 M)).cell? ⟨B, 3, none⟩ = some (.int .i64 M) :=
  cell_of_row _ _ 3 _ _ (0, 0) (heap_set_same (heap_set_same (heap_set_same hc _) _) _)
theorem Rvi_next {a b lg : List UInt8} {w1 w3 W : World} {B n t : Nat} {a0 a1 a2 v : Value} {N M : Int} {xs : List Item} {bs : List Nat} (hB : B = w3.heap.size) (hN : N = (n : Int)) (hM : M = (t : Int)) (hc : W.heap[B]? = some (.cells #[a0, .int .i64 (rvG a b), a1, a2, .bool (rvS a b)] 68 (0, 0))) (ho : OwnItems W v xs bs) (hn : bs.Nodup) (hr : ∀ x ∈ bs, w1.heap.size ≤ x ∧ x < W.heap.size ∧ x ≠ B) (hg : GoTo (rvG a b) lg (rvR a b lg) xs n t) (hb : Below w3.heap.size w3 W) (hl : B < W.heap.size) :
    RviRel a b lg w1 w3 (((W.setCell ⟨B, 0, none⟩ v).setCell ⟨B, 2, none⟩ (.int .i64 N)).setCell ⟨B, 3, none⟩ (.int .i64 M)) := by
  subst hB hN hM
  refine ⟨v, xs, n, t, bs, heap_set_same (heap_set_same (heap_set_same hc _) _) _, ho.keep fun x hx => ?_, hn, fun x hx => ?_, hg, ?_, by simp only [size_setCell]; exact hl⟩
  · have := hr x hx
    iterate 3 rw [Below.heap_setCell _ _ _ _ (by simp; omega)]
  · have := hr x hx
    simp only [size_setCell]
    exact this
  · iterate 3 (refine Below.setCell ?_ (by simp) _)
    exact hb
def RviCut (a b : List UInt8) (w1 w3 wx : World) : Prop :=
  ∃ v bs, wx.heap[w3.heap.size]? = some (.cells #[v, .int .i64 (rvG a b), .int .i64 0, .int .i64 0, .bool (rvS a b)] 68 (0, 0)) ∧ OwnItems wx v (rvX a b) bs ∧ bs.Nodup ∧ (∀ x ∈ bs, w1.heap.size ≤ x ∧ x < w3.heap.size) ∧ Below w3.heap.size w3 wx ∧ w3.heap.size < wx.heap.size
theorem Rvi_cut0 {a b : List UInt8} {w1 w3 W : World} {v : Value} {G : Int} {S : Bool} {bs : List Nat} (hG : rvG a b = G) (hS : rvS a b = S) (hc : W.heap[w3.heap.size]? = some (.cells #[v, .int .i64 G, .int .i64 0, .int .i64 0, .bool S] 68 (0, 0))) (ho : OwnItems W v (rvX a b) bs) (hn : bs.Nodup) (hr : ∀ x ∈ bs, w1.heap.size ≤ x ∧ x < w3.heap.size) (hb : Below w3.heap.size w3 W) (hlt : w3.heap.size < W.heap.size) : RviCut a b w1 w3 W :=
  ⟨v, bs, by rw [hG, hS]; exact hc, ho, hn, hr, hb, hlt⟩
theorem Rvi_cut {a b : List UInt8} {w1 w3 W : World} {v a0 a1 a2 a3 a4 : Value} {G : Int} {S : Bool} {bs : List Nat} (hG : rvG a b = G) (hS : rvS a b = S) (hc : W.heap[w3.heap.size]? = some (.cells #[a0, a1, a2, a3, a4] 68 (0, 0))) (ho : OwnItems W v (rvX a b) bs) (hn : bs.Nodup) (hr : ∀ x ∈ bs, w1.heap.size ≤ x ∧ x < w3.heap.size) (hb : Below w3.heap.size w3 W) (hlt : w3.heap.size < W.heap.size) : RviCut a b w1 w3 (((((W.setCell ⟨w3.heap.size, 0, none⟩ v).setCell ⟨w3.heap.size, 1, none⟩ (.int .i64 G)).setCell ⟨w3.heap.size, 2, none⟩ (.int .i64 0)).setCell ⟨w3.heap.size, 3, none⟩ (.int .i64 0)).setCell ⟨w3.heap.size, 4, none⟩ (.bool S)) := by
  refine Rvi_cut0 (v := v) (bs := bs) hG hS (heap_set_same (heap_set_same (heap_set_same (heap_set_same (heap_set_same hc _) _) _) _) _) (ho.keep fun x hx => ?_) hn hr ?_ (by simp only [size_setCell]; exact hlt)
  · have := hr x hx
    iterate 5 rw [Below.heap_setCell _ _ _ _ (by simp; omega)]
  · iterate 5 (refine Below.setCell ?_ (by simp) _)
    exact hb
set_option maxRecDepth 100000 in
set_option maxHeartbeats 2000000 in
theorem impl_recoverLab (a b lg : ByteArray) (w : World) (ha : a.size ≤ 1048576) (hb : b.size ≤ 1048576) (hl : lg.size ≤ 1048576) (hm : MaxAt w) (hp : Pow10 w) (he : ErrAt w) :
  Calls Tryz.prog 29 #[.agg #[.string a, .string b, .string lg]] w (RviPost a.data.toList b.data.toList lg.data.toList w) := by
 have HM := Lib.hid hm; clear hm
 have HP := Lib.hid hp; clear hp
 have HE := Lib.hid he; clear he
 have hB := Below.refl w.heap.size w
 have hsa := Lib.size_eq a
 have hsl := Lib.size_eq lg
 obtain ⟨LA, hLA⟩ : ∃ l, l = a.data.toList := ⟨_, rfl⟩
 obtain ⟨LB, hLB⟩ : ∃ l, l = b.data.toList := ⟨_, rfl⟩
 obtain ⟨LL, hLL⟩ : ∃ l, l = lg.data.toList := ⟨_, rfl⟩
 rw [← hLA, ← hLB, ← hLL]
 rw [← hLL] at hsl
 have hsle : lg.size ≤ LL.length := by omega
 have hsge : LL.length ≤ lg.size := by omega
 clear hsl
 have HLA := Lib.hid hLA; clear hLA
 have HLB := Lib.hid hLB; clear hLB
 have HLL := Lib.hid hLL; clear hLL
 clear hsa
 obtain ⟨ga, hga⟩ : ∃ g, g = rsG LA := ⟨_, rfl⟩
 obtain ⟨gb, hgb⟩ : ∃ g, g = rsG LB := ⟨_, rfl⟩
 obtain ⟨qa, hqa⟩ : ∃ g, g = rsB LA := ⟨_, rfl⟩
 obtain ⟨qb, hqb⟩ : ∃ g, g = rsB LB := ⟨_, rfl⟩
 have HQA := Lib.hid hqa
 have HQB := Lib.hid hqb
 have HGA := Lib.hid hga
 have HGB := Lib.hid hgb
 obtain ⟨S, hS⟩ : ∃ S, S = (!qa || (qb && decide (ga < gb))) := ⟨_, rfl⟩
 have HSS := Lib.hid (show rvS LA LB = S by rw [hS]; unfold rvS; rw [← hqa, ← hqb, ← hga, ← hgb])
 have HGG := Lib.hid (show rvG LA LB = if rvS LA LB = true then gb else ga by unfold rvG; rw [← hga, ← hgb])
 have HS := Lib.hid hS
 clear hS hga hgb hqa hqb
 obtain ⟨w0, hw0⟩ : ∃ z, z = w.alloc (.cells #[.string a, .string b, .string lg] 25) := ⟨_, rfl⟩
 have hbaw0 : Below w.heap.size w w0 := by rw [hw0]; exact bl_alloc (Below.refl _ _) _
 have hszw0 : w0.heap.size = w.heap.size + 1 := by rw [hw0]; simp
 have HD0 := Lib.hid (show w0.heap[w.heap.size]? = some (.cells #[.string a, .string b, .string lg] 25) by have h := heap_alloc_new w (.cells #[.string a, .string b, .string lg] 25); rw [← hw0] at h; exact h)
 have hz1 := hbaw0.size
 replace hB := bl_trans hB hbaw0
 obtain ⟨w1, hw1⟩ : ∃ z, z = w0.alloc (.cells #[.slice none 0 0, .int .i64 0, .int .i64 0, .int .i64 0, .bool false] 68) := ⟨_, rfl⟩
 have hbaw1 : Below w0.heap.size w0 w1 := by rw [hw1]; exact bl_alloc (Below.refl _ _) _
 have hszw1 : w1.heap.size = w.heap.size + 1 + 1 := by rw [hw1]; simp [hszw0]
 have HZ0 := Lib.hid (show w1.heap[w.heap.size + 1]? = some (.cells #[.slice none 0 0, .int .i64 0, .int .i64 0, .int .i64 0, .bool false] 68) by have h := heap_alloc_new w0 (.cells #[.slice none 0 0, .int .i64 0, .int .i64 0, .int .i64 0, .bool false] 68); rw [← hw1, hszw0] at h; exact h)
 have hz2 := hbaw1.size
 replace hB := bl_trans hB hbaw1
 replace HD0 := bk HD0 hbaw1
 have HQw0 := Lib.hid hw0; clear hw0
 have HQw1 := Lib.hid hw1; clear hw1
 have hlw : w.heap.size + 1 < w1.heap.size := by omega
 clear hszw0 hszw1
 go_enter Tryz.func29, Tryz.ntmps29
 go_upto_region 1 with fail
 rw [← HQw0.out, ← HQw1.out]
 have d01 := cells3 HD0
 have z01 := cells5 HZ0
 by_cases h20 : LL.length ≤ 20000
 ·
  have hl20 : ¬ ((lg.size : Int) > 20000) := by omega
  go_wp2_with fail
  have J := Lib.hid (impl_ReadSnapshot a w1 ha (HM.out.below hB) (HP.out.below hB) (HE.out.below hB))
  unfold RsPost at J
  rw [← HLA.out, ← HGA.out, ← HQA.out] at J
  refine (J.out).mono ?_
  rintro e w2 ⟨va, bsa, rfl, ho, hna, hrg, hbw2⟩
  have hz3 := hbw2.size
  replace hB := bl_trans hB hbw2
  clear d01
  replace HD0 := bk HD0 hbw2
  clear z01
  replace HZ0 := bk HZ0 hbw2
  have d02 := cells3 HD0
  have z02 := cells5 HZ0
  clear J
  obtain ⟨Aa, ma, ca, rfl⟩ := ho.isSlice
  have Oa := Lib.hid ho; clear ho
  have Ga := Lib.hid hrg; clear hrg
  go_wp2_with fail
  have J := Lib.hid (impl_ReadSnapshot b w2 hb (HM.out.below hB) (HP.out.below hB) (HE.out.below hB))
  unfold RsPost at J
  rw [← HLB.out, ← HGB.out, ← HQB.out] at J
  refine (J.out).mono ?_
  rintro e w3 ⟨vb, bsb, rfl, ho, hnb, hrg, hbw3⟩
  have hz4 := hbw3.size
  replace hB := bl_trans hB hbw3
  clear d02
  replace HD0 := bk HD0 hbw3
  clear z02
  replace HZ0 := bk HZ0 hbw3
  replace Oa := Lib.hid (Oa.out.keep fun b hb' => hbw3.block b (by have := Ga.out b hb'; omega))
  have d03 := cells3 HD0
  have z03 := cells5 HZ0
  clear J
  obtain ⟨Ab, mb, cb, rfl⟩ := ho.isSlice
  have Ob := Lib.hid ho; clear ho
  have Gb := Lib.hid hrg; clear hrg
  by_cases hab : qa = false ∧ qb = false
  ·
   obtain ⟨rfl, rfl⟩ := hab
   have HN := Lib.hid (show rvOk LA LB LL = false from by unfold rvOk; rw [← HQA.out, ← HQB.out]; simp)
   go_wp2_with fail
   refine bodyPost_ret (v := .tuple #[.agg #[.slice none 0 0, .int .i64 0, .int .i64 0, .int .i64 0, .bool false], .bool false]) (by simp [results, Tryz.results29, go_sem, z03]) rfl ?_
   refine Rvi_none HN.out ?_
   iterate 5 (refine Below.setCell ?_ (by simp) _)
   exact hB
  ·
   have HAB := Lib.hid (show ¬ (rsB LA = false ∧ rsB LB = false) by rw [← HQA.out, ← HQB.out]; exact hab)
   have HAB0 := Lib.hid hab; clear hab
   have HD3 := HD0
   have HZ3 := HZ0
   have hB3 := hB
   go_upto_region 5 with fail
   go_cut [39] (fun s39 wx => w3 = wx ∧ s39 = .bool false)
   case first =>
    cases qa with
    | false =>
     cases qb with
     | false => exact absurd ⟨rfl, rfl⟩ HAB0.out
     | true =>
      go_wp2_with fail
      go_meet
      exact ⟨rfl, rfl⟩
    | true =>
     go_wp2_with fail
     go_meet
     exact ⟨rfl, rfl⟩
   case rest =>
    obtain ⟨rfl, rfl⟩ := hcut
    have hba5 := bl_alloc (Below.refl w3.heap.size w3) (.cells #[.slice Aa ma ca, .int .i64 ga, .int .i64 0, .int .i64 0, .bool false] 68)
    have HR0 := Lib.hid (heap_alloc_new w3 (.cells #[.slice Aa ma ca, .int .i64 ga, .int .i64 0, .int .i64 0, .bool false] 68))
    have hs5 : w3.heap.size < (w3.alloc (.cells #[.slice Aa ma ca, .int .i64 ga, .int .i64 0, .int .i64 0, .bool false] 68)).heap.size := by simp
    have HS5 := Lib.hid hs5; clear hs5; have hs5 := HS5.out
    have hz6 := hba5.size
    replace hB := bl_trans hB hba5
    clear d03
    replace HD0 := bk HD0 hba5
    clear z03
    replace HZ0 := bk HZ0 hba5
    replace Oa := Lib.hid (Oa.out.keep fun b hb' => hba5.block b (by have := Ga.out b hb'; omega))
    replace Ob := Lib.hid (Ob.out.keep fun b hb' => hba5.block b (by have := Gb.out b hb'; omega))
    have d04 := cells3 HD0
    have z04 := cells5 HZ0
    obtain ⟨r01_0, r01_1, r01_2, r01_3, r01_4, r01_f⟩ := cells5 HR0
    go_upto_region 8 with fail
    generalize w3.alloc (.cells #[.slice Aa ma ca, .int .i64 ga, .int .i64 0, .int .i64 0, .bool false] 68) = w4 at *
    go_cut [53] (fun s53 wx => w4 = wx ∧ s53 = .bool S)
    case first =>
     cases qa with
     | false =>
      go_wp2_with fail
      go_meet
      exact ⟨rfl, by rw [HS.out]; rfl⟩
     | true =>
      cases qb with
      | false =>
       go_wp2_with fail
       go_meet
       exact ⟨rfl, by rw [HS.out]; rfl⟩
      | true =>
       by_cases hlt : ga < gb
       ·
        go_wp2_with fail
        go_meet
        exact ⟨rfl, by rw [HS.out]; simp [hlt]⟩
       ·
        go_wp2_with fail
        go_meet
        exact ⟨rfl, by rw [HS.out]; simp [hlt]⟩
    case rest =>
     obtain ⟨rfl, rfl⟩ := hcut
     go_upto_if 53 with fail
     go_cut [] (fun wx => RviCut LA LB w1 w3 wx)
     case first =>
      cases S with
      | true =>
       go_wp2_with fail
       go_meet
       exact Rvi_cut (G := gb) (S := true) (HGG.out.trans (by rw [HSS.out]; rfl)) HSS.out HR0.out (by unfold rvX; rw [HSS.out]; exact Ob.out) hnb (fun x hx => by have := Gb.out x hx; omega) hba5 (by omega)
      | false =>
       go_wp2_with fail
       go_meet
       exact Rvi_cut0 (G := ga) (S := false) (HGG.out.trans (by rw [HSS.out]; rfl)) HSS.out HR0.out (by unfold rvX; rw [HSS.out]; exact Oa.out) hna (fun x hx => by have := Ga.out x hx; omega) hba5 (by omega)
     case rest =>
      clear Oa Ob HR0
      replace HD0 := HD3
      replace HZ0 := HZ3
      replace hB := hB3
      obtain ⟨v, bsv, hc5, ho5, hn5, hr5, hb5, hl5⟩ := hcut
      obtain ⟨w5, rfl⟩ : ∃ x, x = wc := ⟨_, rfl⟩
      obtain ⟨Av, mv, cv, rfl⟩ := ho5.isSlice
      have HO5 := Lib.hid ho5; clear ho5
      have hz107 := hb5.size
      replace hB := bl_trans hB hb5
      replace HD0 := bk HD0 hb5
      replace HZ0 := bk HZ0 hb5
      have HR0 := Lib.hid hc5; clear hc5
      have d04 := cells3 HD0
      have z04 := cells5 HZ0
      obtain ⟨r01_0, r01_1, r01_2, r01_3, r01_4, r01_f⟩ := cells5 HR0
      have hgn := rvG_nn HAB.out
      have HOK := Lib.hid (show rvOk LA LB LL = true from rvOk_t HAB.out h20)
      obtain ⟨hst0, hg0, hg1⟩ := rv_start HOK.out
      have HST0 := Lib.hid hst0; clear hst0
      go_wp2_with fail
      go_loopw [11] (fun _ wr => RviRel LA LB LL w1 w3 wr) (fun _ wr => LL.length - (intOf ((wr.cell? ⟨w3.heap.size, 3, none⟩).getD undef)).toNat)
      case atStart => exact ⟨_, rvX LA LB, 0, 0, bsv, HR0.out, HO5.out, hn5, (fun x hx => by have := hr5 x hx; omega), HST0.out, hb5, hl5⟩
      case round =>
       clear d04 z04 r01_0 r01_1 r01_2 r01_3 r01_4 r01_f
       clear HR0 HO5 hn5 hr5 hb5 hl5 HST0
       replace HD0 := HD3
       replace HZ0 := HZ3
       replace hB := hB3
       obtain ⟨v, xs, n, bt, bsv, hcr, hov, hnv, hrv, hgo, hbl, hlr⟩ := hrel
       obtain ⟨Av, mv, cv, rfl⟩ := hov.isSlice
       have Ov := Lib.hid hov; clear hov
       have Gv := Lib.hid hrv; clear hrv
       have GO := Lib.hid hgo; clear hgo
       have HR0 := Lib.hid hcr; clear hcr
       have HR00 := HR0
       have hbl0 := Lib.hid hbl
       have hbt : bt ≤ LL.length ∧ n ≤ bt := by obtain ⟨f, h1, h2, h3, h4, h5⟩ := GO.out; exact ⟨h3, h4⟩
       have hz108 := hbl.size
       replace hB := bl_trans hB hbl
       replace HD0 := bk HD0 hbl
       replace HZ0 := bk HZ0 hbl
       obtain ⟨d05_0, d05_1, d05_2, d05_f⟩ := cells3 HD0
       have z05 := cells5 HZ0
       obtain ⟨r01_0, r01_1, r01_2, r01_3, r01_4, r01_f⟩ := cells5 HR0
       have xE := Lib.extract_data lg bt lg.size
       have xL : (lg.extract bt lg.size).data.toList = LL.drop bt := by rw [xE, ← HLL.out, List.take_of_length_le (by rw [List.length_drop]; omega)]
       clear xE
       have JI := Lib.hid (fun (W : World) => show NlC lg bt lg.size (LL.drop bt) W from by
        have h := Tryz.strings_IndexByte (lg.extract bt lg.size) 10 W
        rw [xL] at h
        exact h.mono fun e w' h => ⟨h.1, h.2.symm⟩)
       unfold NlC at JI
       have hng := nlI_ge (LL.drop bt)
       obtain ⟨f, hf⟩ : ∃ f, f = nlI (LL.drop bt) := ⟨_, rfl⟩
       rw [← hf] at JI hng
       have HF := Lib.hid hf.symm; clear hf xL
       have hbs : bt ≤ lg.size := by omega
       go_wp2_with fail
       refine (JI.out _).mono ?_
       rintro e wz ⟨rfl, rfl⟩
       clear JI
       by_cases hneg : f < 0
       ·
        obtain rfl : f = -1 := by omega
        have HR := Lib.hid (GO.out.no HF.out)
        go_wp2_with fail
        refine bodyPost_ret (v := .tuple #[.agg #[.slice Av mv cv, .int .i64 (rvG LA LB), .int .i64 (n : Int), .int .i64 (bt : Int), .bool (rvS LA LB)], .bool true]) (by simp [results, Tryz.results29, go_sem, z05]) rfl ?_
        exact Rvi_end HOK.out HR.out Ov.out hnv (fun x hx => by have := Gv.out x hx; omega) hB (by omega)
       ·
        obtain ⟨k, rfl⟩ : ∃ k : Nat, f = (k : Int) := ⟨f.toNat, by omega⟩
        have HNL := Lib.hid (show nlI (LL.drop bt) = (k : Int) from HF.out)
        have hkn := (nl_at HNL.out).1
        rw [List.length_drop] at hkn
        clear hneg hng
        obtain ⟨l, hl⟩ : ∃ l, l = (LL.drop bt).take (k + 1) := ⟨_, rfl⟩
        have JRR := Lib.hid (fun (W : World) (hW : Below w.heap.size w W) => show RrCi lg bt (bt + k) (rvG LA LB) l W from by
         have hx := Lib.extract_data lg bt (bt + k)
         have h := impl_readRecord (lg.extract bt (bt + k)) (rvG LA LB) W (by rw [Lib.size_eq, hx, ← HLL.out]; simp only [List.length_drop, List.length_take]; omega) hg0 hg1 (HM.out.below hW) (HP.out.below hW) (HE.out.below hW)
         rw [hx, ← HLL.out, show bt + k - bt = k by omega, ← nl_take HNL.out, ← hl] at h
         exact h)
        unfold RrCi at JRR
        have HLN := Lib.hid hl; clear hl
        go_upto_region 13 with fail
        go_cut [12, 13] (fun s10 s11 wx => CutR (rvG LA LB) l wr s10 s11 wx)
        case first =>
         clear z05
         have kd := d05_2
         have kb := r01_3
         have kg := r01_1
         clear d05_0 d05_1 d05_2 d05_f r01_0 r01_1 r01_2 r01_3 r01_4 r01_f
         have hb0 := Below.refl wr.heap.size wr
         have hq1 : w.heap.size < wr.heap.size := by omega
         have hq3 : w3.heap.size < wr.heap.size := by omega
         have kw2 : 0 ≤ (bt : Int) + (k : Int) := by omega
         have kw4 : (bt : Int) + (k : Int) ≤ (lg.size : Int) := by omega
         have kw5 : (bt : Int) ≤ (bt : Int) + (k : Int) := by omega
         have kw3 : ((bt : Int) + (k : Int)).toNat = bt + k := by omega
         have kw1 : IntKind.i64.wrap ((bt : Int) + (k : Int)) = (bt : Int) + (k : Int) := IntWalk.i64_in _ (by omega)
         refine wp_region_held_drew (S := fun x => Below wr.heap.size wr x) (by kernel_rfl) hb0.drew (fun hHeld => ?_)
         refine take_wanted 0 67 (v := ?v16) rfl rfl (by kernel_rfl) (by kernel_rfl) (by kernel_rfl) (fun _ _ _ h => h) (by rfl) ?y16 (by assumption) ?r16
         case y16 => intro wz hSw; have q1 := (hSw.cell (p := ⟨w.heap.size, 2, none⟩) hq1).trans kd; have q2 := (hSw.cell (p := ⟨w3.heap.size, 3, none⟩) hq3).trans kb; have q3 := (hSw.cell (p := ⟨w3.heap.size, 1, none⟩) hq3).trans kg; go_simp <;> with_reducible rfl
         try simp only [pu]
         refine take_wanted 1 68 (v := ?v17) rfl rfl (by kernel_rfl) (by kernel_rfl) (by kernel_rfl) (fun _ _ _ h => h) (by rfl) ?y17 (by assumption) ?r17
         case y17 => intro wz hSw; have q1 := (hSw.cell (p := ⟨w.heap.size, 2, none⟩) hq1).trans kd; have q2 := (hSw.cell (p := ⟨w3.heap.size, 3, none⟩) hq3).trans kb; have q3 := (hSw.cell (p := ⟨w3.heap.size, 1, none⟩) hq3).trans kg; go_simp <;> with_reducible rfl
         try simp only [pu]
         refine take_wanted 2 69 (v := ?v18) rfl rfl (by kernel_rfl) (by kernel_rfl) (by kernel_rfl) (fun _ _ _ h => h) (by rfl) ?y18 (by assumption) ?r18
         case y18 => intro wz hSw; have q1 := (hSw.cell (p := ⟨w.heap.size, 2, none⟩) hq1).trans kd; have q2 := (hSw.cell (p := ⟨w3.heap.size, 3, none⟩) hq3).trans kb; have q3 := (hSw.cell (p := ⟨w3.heap.size, 1, none⟩) hq3).trans kg; go_simp <;> with_reducible rfl
         try simp only [pu]
         refine take_wanted 3 70 (v := ?v19) rfl rfl (by kernel_rfl) (by kernel_rfl) (by kernel_rfl) (fun _ _ _ h => h) (by rfl) ?y19 (by assumption) ?r19
         case y19 => intro wz hSw; have q1 := (hSw.cell (p := ⟨w.heap.size, 2, none⟩) hq1).trans kd; have q2 := (hSw.cell (p := ⟨w3.heap.size, 3, none⟩) hq3).trans kb; have q3 := (hSw.cell (p := ⟨w3.heap.size, 1, none⟩) hq3).trans kg; go_simp <;> with_reducible rfl
         try simp only [pu]
         refine take_wanted 4 71 (v := ?v20) rfl rfl (by kernel_rfl) (by kernel_rfl) (by kernel_rfl) (fun _ _ _ h => h) (by rfl) ?y20 (by assumption) ?r20
         case y20 => intro wz hSw; have q1 := (hSw.cell (p := ⟨w.heap.size, 2, none⟩) hq1).trans kd; have q2 := (hSw.cell (p := ⟨w3.heap.size, 3, none⟩) hq3).trans kb; have q3 := (hSw.cell (p := ⟨w3.heap.size, 1, none⟩) hq3).trans kg; go_simp <;> with_reducible rfl
         try simp only [pu]
         refine take_wanted 5 72 (v := ?v21) rfl rfl (by kernel_rfl) (by kernel_rfl) (by kernel_rfl) (fun _ _ _ h => h) (by rfl) ?y21 (by assumption) ?r21
         case y21 => intro wz hSw; have q1 := (hSw.cell (p := ⟨w.heap.size, 2, none⟩) hq1).trans kd; have q2 := (hSw.cell (p := ⟨w3.heap.size, 3, none⟩) hq3).trans kb; have q3 := (hSw.cell (p := ⟨w3.heap.size, 1, none⟩) hq3).trans kg; go_simp <;> with_reducible rfl
         try simp only [pu]
         refine take_wanted 6 73 (v := ?v22) rfl rfl (by kernel_rfl) (by kernel_rfl) (by kernel_rfl) (fun _ _ _ h => h) (by rfl) ?y22 (by assumption) ?r22
         case y22 => intro wz hSw; have q1 := (hSw.cell (p := ⟨w.heap.size, 2, none⟩) hq1).trans kd; have q2 := (hSw.cell (p := ⟨w3.heap.size, 3, none⟩) hq3).trans kb; have q3 := (hSw.cell (p := ⟨w3.heap.size, 1, none⟩) hq3).trans kg; go_simp <;> with_reducible rfl
         try simp only [pu]
         refine take_wanted 7 74 (v := ?v23) rfl rfl (by kernel_rfl) (by kernel_rfl) (by kernel_rfl) (fun _ _ _ h => h) (by rfl) ?y23 (by assumption) ?r23
         case y23 => intro wz hSw; have q1 := (hSw.cell (p := ⟨w.heap.size, 2, none⟩) hq1).trans kd; have q2 := (hSw.cell (p := ⟨w3.heap.size, 3, none⟩) hq3).trans kb; have q3 := (hSw.cell (p := ⟨w3.heap.size, 1, none⟩) hq3).trans kg; go_simp <;> with_reducible rfl
         try simp only [pu]
         refine take_wanted 8 75 (v := ?v24) rfl rfl (by kernel_rfl) (by kernel_rfl) (by kernel_rfl) (fun _ _ _ h => h) (by rfl) ?y24 (by assumption) ?r24
         case y24 => intro wz hSw; have q1 := (hSw.cell (p := ⟨w.heap.size, 2, none⟩) hq1).trans kd; have q2 := (hSw.cell (p := ⟨w3.heap.size, 3, none⟩) hq3).trans kb; have q3 := (hSw.cell (p := ⟨w3.heap.size, 1, none⟩) hq3).trans kg; go_simp <;> with_reducible rfl
         try simp only [pu]
         refine take_wanted 9 76 (v := ?v25) rfl rfl (by kernel_rfl) (by kernel_rfl) (by kernel_rfl) (fun _ _ _ h => h) (by rfl) ?y25 (by assumption) ?r25
         case y25 => intro wz hSw; have q1 := (hSw.cell (p := ⟨w.heap.size, 2, none⟩) hq1).trans kd; have q2 := (hSw.cell (p := ⟨w3.heap.size, 3, none⟩) hq3).trans kb; have q3 := (hSw.cell (p := ⟨w3.heap.size, 1, none⟩) hq3).trans kg; go_simp <;> with_reducible rfl
         try simp only [pu]
         refine take_wanted 10 77 (v := ?v26) rfl rfl (by kernel_rfl) (by kernel_rfl) (by kernel_rfl) (fun _ _ _ h => h) (by rfl) ?y26 (by assumption) ?r26
         case y26 => intro wz hSw; have q1 := (hSw.cell (p := ⟨w.heap.size, 2, none⟩) hq1).trans kd; have q2 := (hSw.cell (p := ⟨w3.heap.size, 3, none⟩) hq3).trans kb; have q3 := (hSw.cell (p := ⟨w3.heap.size, 1, none⟩) hq3).trans kg; go_simp <;> with_reducible rfl
         try simp only [pu]
         clear kw1 kw2 kw3 kw4 kw5
         refine take_ready2 11 15 rfl rfl (by kernel_rfl) (fun K hK => ?_) (fun K hK => ?_)
         ·
          go_simp
          go_at_call 48
          refine (JRR.out _ (hB.trans ((hb0.drew).mono (by omega)))).mono ?_
          rintro e w4 ⟨E, ⟨va, vf, vs, vr, bse, rfl, ho, hn, hrg, hb4⟩, hE⟩
          have hW4 : Below wr.heap.size wr w4 := (hb0.drew).trans (hb4.mono (by simp))
          obtain ⟨ya, yf, yz, yr, oa, of, oz, or, hbs⟩ := id ho
          obtain ⟨xa, na, da, rfl⟩ := oa.isSlice
          obtain ⟨xf, nf, df, rfl⟩ := of.1.isSlice
          obtain ⟨xs', ns, ds, rfl⟩ := oz.1.isSlice
          obtain ⟨xr, nr, dr, rfl⟩ := or.isSlice
          clear oa of oz or hbs
          refine hK.out _ _ ?_ (fun hHeld => ?_)
          ·
           exact hW4
          clear hK K
          try simp only [pu]
          refine take_wanted 12 66 (v := ?v27) rfl rfl (by kernel_rfl) (by kernel_rfl) (by kernel_rfl) (fun _ _ _ h => h) (by rfl) ?y27 (by assumption) ?r27
          case y27 => intro wz hSw; have q1 := (hSw.cell (p := ⟨w.heap.size, 2, none⟩) hq1).trans kd; have q2 := (hSw.cell (p := ⟨w3.heap.size, 3, none⟩) hq3).trans kb; have q3 := (hSw.cell (p := ⟨w3.heap.size, 1, none⟩) hq3).trans kg; go_simp <;> with_reducible rfl
          try simp only [pu]
          refine take_wanted 13 79 (v := ?v28) rfl rfl (by kernel_rfl) (by kernel_rfl) (by kernel_rfl) (fun _ _ _ h => h) (by rfl) ?y28 (by assumption) ?r28
          case y28 => intro wz hSw; have q1 := (hSw.cell (p := ⟨w.heap.size, 2, none⟩) hq1).trans kd; have q2 := (hSw.cell (p := ⟨w3.heap.size, 3, none⟩) hq3).trans kb; have q3 := (hSw.cell (p := ⟨w3.heap.size, 1, none⟩) hq3).trans kg; go_simp <;> with_reducible rfl
          try simp only [pu]
          refine take_wanted 14 80 (v := ?v29) rfl rfl (by kernel_rfl) (by kernel_rfl) (by kernel_rfl) (fun _ _ _ h => h) (by rfl) ?y29 (by assumption) ?r29
          case y29 => intro wz hSw; have q1 := (hSw.cell (p := ⟨w.heap.size, 2, none⟩) hq1).trans kd; have q2 := (hSw.cell (p := ⟨w3.heap.size, 3, none⟩) hq3).trans kb; have q3 := (hSw.cell (p := ⟨w3.heap.size, 1, none⟩) hq3).trans kg; go_simp <;> with_reducible rfl
          try simp only [pu]
          refine take_ready 15 rfl (by kernel_rfl) (fun K hK => ?_)
          go_simp
          have hA := bl_alloc hW4 (.cells #[.int .i64 0, .string ⟨#[]⟩, .string ⟨#[]⟩, .string ⟨#[]⟩, .int .i64 0, .slice none 0 0, .int .i64 0, .int .i64 0, .slice none 0 0, .slice none 0 0, .slice none 0 0] 55)
          refine hK.out _ _ ?_ (fun hHeld => ?_)
          ·
           exact hA
          clear hK K
          try simp only [pu]
          refine take_ready 16 rfl (by kernel_rfl) (fun K hK => ?_)
          go_simp
          refine hK.out _ _ ?_ (fun hHeld => ?_)
          ·
           first | exact bl_alloc hW4 _ | exact (sets11 _ _ _ _ _ _ _ _ _ _ _ _ _).2.2.1 _ _ hW4.size hA
          clear hK K
          try simp only [pu]
          refine take_ready 17 rfl (by kernel_rfl) (fun K hK => ?_)
          go_simp
          refine hK.out _ _ ?_ (fun hHeld => ?_)
          ·
           exact hHeld
          clear hK K
          try simp only [pu]
          refine wpAnyH_done (by kernel_rfl) ?_ _
          go_wp2_with fail
          go_meet
          exact cutR_mk0 rfl hE (heap_alloc_new _ _) ho (fun x hx => by have := hrg x hx; simp at this; omega) hW4
         ·
          go_simp
          have hA := bl_alloc hb0.drew (.cells #[.int .i64 0, .string ⟨#[]⟩, .string ⟨#[]⟩, .string ⟨#[]⟩, .int .i64 0, .slice none 0 0, .int .i64 0, .int .i64 0, .slice none 0 0, .slice none 0 0, .slice none 0 0] 55)
          refine hK.out _ _ ?_ (fun hHeld => ?_)
          ·
           exact hA
          clear hK K
          try simp only [pu]
          refine take_ready 11 rfl (by kernel_rfl) (fun K hK => ?_)
          go_simp
          go_at_call 48
          refine (JRR.out _ (hB.trans ((hA).mono (by omega)))).mono ?_
          rintro e w4 ⟨E, ⟨va, vf, vs, vr, bse, rfl, ho, hn, hrg, hb4⟩, hE⟩
          have hW4 : Below wr.heap.size wr w4 := (hA).trans (hb4.mono (by simp))
          obtain ⟨ya, yf, yz, yr, oa, of, oz, or, hbs⟩ := id ho
          obtain ⟨xa, na, da, rfl⟩ := oa.isSlice
          obtain ⟨xf, nf, df, rfl⟩ := of.1.isSlice
          obtain ⟨xs', ns, ds, rfl⟩ := oz.1.isSlice
          obtain ⟨xr, nr, dr, rfl⟩ := or.isSlice
          clear oa of oz or hbs
          have hbx : w4.heap[wr.heap.size]? = some (.cells #[.int .i64 0, .string ⟨#[]⟩, .string ⟨#[]⟩, .string ⟨#[]⟩, .int .i64 0, .slice none 0 0, .int .i64 0, .int .i64 0, .slice none 0 0, .slice none 0 0, .slice none 0 0] 55 (0, 0)) := (hb4.block wr.heap.size (by simp)).trans (heap_alloc_new wr (.cells #[.int .i64 0, .string ⟨#[]⟩, .string ⟨#[]⟩, .string ⟨#[]⟩, .int .i64 0, .slice none 0 0, .int .i64 0, .int .i64 0, .slice none 0 0, .slice none 0 0, .slice none 0 0] 55))
          have hlt4 : wr.heap.size < w4.heap.size := by have := hb4.size; simp at this; omega
          obtain ⟨zz0, zz1, zz2, zz3, zz4, zz5, zz6, zz7, zz8, zz9, zz10, zzf⟩ := cells11 hbx
          have HBX := Lib.hid hbx; clear hbx
          refine hK.out _ _ ?_ (fun hHeld => ?_)
          ·
           exact hW4
          clear hK K
          try simp only [pu]
          refine take_wanted 12 66 (v := ?v30) rfl rfl (by kernel_rfl) (by kernel_rfl) (by kernel_rfl) (fun _ _ _ h => h) (by rfl) ?y30 (by assumption) ?r30
          case y30 => intro wz hSw; have q1 := (hSw.cell (p := ⟨w.heap.size, 2, none⟩) hq1).trans kd; have q2 := (hSw.cell (p := ⟨w3.heap.size, 3, none⟩) hq3).trans kb; have q3 := (hSw.cell (p := ⟨w3.heap.size, 1, none⟩) hq3).trans kg; go_simp <;> with_reducible rfl
          try simp only [pu]
          refine take_wanted 13 79 (v := ?v31) rfl rfl (by kernel_rfl) (by kernel_rfl) (by kernel_rfl) (fun _ _ _ h => h) (by rfl) ?y31 (by assumption) ?r31
          case y31 => intro wz hSw; have q1 := (hSw.cell (p := ⟨w.heap.size, 2, none⟩) hq1).trans kd; have q2 := (hSw.cell (p := ⟨w3.heap.size, 3, none⟩) hq3).trans kb; have q3 := (hSw.cell (p := ⟨w3.heap.size, 1, none⟩) hq3).trans kg; go_simp <;> with_reducible rfl
          try simp only [pu]
          refine take_wanted 14 80 (v := ?v32) rfl rfl (by kernel_rfl) (by kernel_rfl) (by kernel_rfl) (fun _ _ _ h => h) (by rfl) ?y32 (by assumption) ?r32
          case y32 => intro wz hSw; have q1 := (hSw.cell (p := ⟨w.heap.size, 2, none⟩) hq1).trans kd; have q2 := (hSw.cell (p := ⟨w3.heap.size, 3, none⟩) hq3).trans kb; have q3 := (hSw.cell (p := ⟨w3.heap.size, 1, none⟩) hq3).trans kg; go_simp <;> with_reducible rfl
          try simp only [pu]
          refine take_ready 16 rfl (by kernel_rfl) (fun K hK => ?_)
          go_simp
          refine hK.out _ _ ?_ (fun hHeld => ?_)
          ·
           exact (sets11 _ _ _ _ _ _ _ _ _ _ _ _ _).2.2.1 _ _ (Nat.le_refl _) hW4
          clear hK K
          try simp only [pu]
          refine take_ready 17 rfl (by kernel_rfl) (fun K hK => ?_)
          go_simp
          refine hK.out _ _ ?_ (fun hHeld => ?_)
          ·
           exact hHeld
          clear hK K
          try simp only [pu]
          refine wpAnyH_done (by kernel_rfl) ?_ _
          go_wp2_with fail
          go_meet
          exact cutR_mk rfl hE HBX.out ho (fun x hx => by have := hrg x hx; simp at this; omega) hW4 (Nat.le_refl _) hlt4
        case rest =>
         obtain ⟨bb, E, va, vf, vs, vr, bse, rfl, rfl, hE, hbx, ho, hrg, hbr, hbb1, hbb2⟩ := hcut
         obtain ⟨ba, bf, bz, br, oa, of, oz, or, hbs⟩ := id ho
         obtain ⟨Aa, ma, ca, rfl⟩ := oa.isSlice
         obtain ⟨Af, mf, cf, rfl⟩ := of.1.isSlice
         obtain ⟨As, ms, cs, rfl⟩ := oz.1.isSlice
         obtain ⟨Ar, mr, cr, rfl⟩ := or.isSlice
         clear oa of oz or hbs
         have OE := Lib.hid ho; clear ho
         have GE := Lib.hid hrg; clear hrg
         have HB1 := Lib.hid hbx; clear hbx
         have HEE := Lib.hid hE; clear hE
         have hz109 := hbr.size
         replace hB := bl_trans hB hbr
         clear d05_0 d05_1 d05_2 d05_f
         replace HD0 := bk HD0 hbr
         clear z05
         replace HZ0 := bk HZ0 hbr
         clear r01_0 r01_1 r01_2 r01_3 r01_4 r01_f
         replace HR0 := bk HR0 hbr
         replace Ov := Lib.hid (Ov.out.keep fun b hb' => hbr.block b (by have := Gv.out b hb'; omega))
         have HE1 := Lib.hid HB1.out; clear HB1
         have d06 := cells3 HD0
         have z06 := cells5 HZ0
         have r02 := cells5 HR0
         have e11 := cells11 HE1
         have hll : LL.drop bt ≠ [] ∨ True := .inr trivial
         clear hll
         cases hrb : recB (rvG LA LB) l with
         | false =>
          have HRB := Lib.hid (show recB (rvG LA LB) ((LL.drop bt).take (k + 1)) = false by rw [← HLN.out]; exact hrb)
          clear hrb
          have HR := Lib.hid (GO.out.nr HNL.out HRB.out)
          go_wp2_with fail
          refine bodyPost_ret (v := .tuple #[.agg #[.slice Av mv cv, .int .i64 (rvG LA LB), .int .i64 (n : Int), .int .i64 (bt : Int), .bool (rvS LA LB)], .bool true]) (by simp [results, Tryz.results29, go_sem, z06]) rfl ?_
          exact Rvi_end HOK.out HR.out Ov.out hnv (fun x hx => by have := Gv.out x hx; omega) hB (by omega)
         | true =>
          have heE := HEE.out hrb
          obtain ⟨hen, -⟩ := recE_p hrb
          rw [← heE] at hen
          have hsz := entryP.sz hen
          have hlb := entryP.lb hen
          have HRB := Lib.hid (show recB (rvG LA LB) ((LL.drop bt).take (k + 1)) = true by rw [← HLN.out]; exact hrb)
          have HRE := Lib.hid (show E = recE (rvG LA LB) ((LL.drop bt).take (k + 1)) by rw [← HLN.out]; exact heE)
          clear hrb heE hen HEE
          have hst : storeP xs := by obtain ⟨f, h1, h2, h3, h4, h5⟩ := GO.out; exact h5
          have JA := Lib.hid (impl_applyLab _ xs E _ _ _ _ wc (Ov.out.reads (B := wc.heap.size) (fun b hb' => by have := Gv.out b hb'; omega)) hst (OE.out.reads (B := wc.heap.size) (fun b hb' => by have := GE.out b hb'; omega)) hsz hlb)
          clear hst hsz hlb
          unfold ApiPost at JA
          go_wp2_with fail
          refine (JA.out).mono ?_
          rintro e wn ⟨vn, rfl, ⟨An, mn, cn, rfl⟩, hown, hbn⟩
          have hz110 := hbn.size
          replace hB := bl_trans hB hbn
          clear d06
          replace HD0 := bk HD0 hbn
          clear z06
          replace HZ0 := bk HZ0 hbn
          clear r02
          replace HR0 := bk HR0 hbn
          clear e11
          replace HE1 := bk HE1 hbn
          replace Ov := Lib.hid (Ov.out.keep fun b hb' => hbn.block b (by have := Gv.out b hb'; omega))
          replace OE := Lib.hid (OE.out.keep fun b hb' => hbn.block b (by have := GE.out b hb'; omega))
          have d07 := cells3 HD0
          have z07 := cells5 HZ0
          have r03 := cells5 HR0
          have e12 := cells11 HE1
          clear JA
          have HOW := Lib.hid hown; clear hown
          cases hap : apB xs E with
          | false =>
           have HAP := Lib.hid (show apB xs (recE (rvG LA LB) ((LL.drop bt).take (k + 1))) = false by rw [← HRE.out]; exact hap)
           clear hap
           have HR := Lib.hid (GO.out.na HNL.out HAP.out)
           go_wp2_with fail
           refine bodyPost_ret (v := .tuple #[.agg #[.slice Av mv cv, .int .i64 (rvG LA LB), .int .i64 (n : Int), .int .i64 (bt : Int), .bool (rvS LA LB)], .bool true]) (by simp [results, Tryz.results29, go_sem, z07]) rfl ?_
           exact Rvi_end HOK.out HR.out Ov.out hnv (fun x hx => by have := Gv.out x hx; omega) hB (by omega)
          | true =>
           obtain ⟨bsn, hon, hnn, hrn⟩ := HOW.out hap
           have HON := Lib.hid hon; clear hon
           have HRN := Lib.hid hrn; clear hrn
           have HGO := Lib.hid (show GoTo (rvG LA LB) LL (rvR LA LB LL) (apX xs E) (n + 1) (bt + (k + 1)) from by rw [HRE.out]; exact GO.out.next HNL.out HRB.out (by rw [← HRE.out]; exact hap))
           clear hap HOW
           have hbt2 : bt + (k + 1) ≤ LL.length := by obtain ⟨f, h1, h2, h3, h4, h5⟩ := HGO.out; exact h3
           have hc0 : (0 : Int) ≤ (k : Int) := by omega
           have M0 := Lib.hid (show wr.cell? ⟨w3.heap.size, 3, none⟩ = some (.int .i64 (bt : Int)) from cell_of_row _ _ 3 _ _ (0, 0) HR00.out)
           go_wp2_with fail
           go_roundw
           case rel => exact Rvi_next (B := w3.heap.size) rfl (by omega) (by omega) HR0.out HON.out hnn (fun x hx => by have := HRN.out x hx; omega) HGO.out ((hbl0.out.trans (hbr.mono (by omega))).trans (hbn.mono (by omega))) (by omega)
           case measure =>
            rw [Rvi_cellb (B := w3.heap.size) HR0.out, M0.out]
            simp only [Option.getD_some, intOf]
            omega
 ·
  have hl20 : (lg.size : Int) > 20000 := by omega
  have HN := Lib.hid (show rvOk LA LB LL = false from rvOk_f h20)
  go_wp2_with fail
  refine bodyPost_ret (v := .tuple #[.agg #[.slice none 0 0, .int .i64 0, .int .i64 0, .int .i64 0, .bool false], .bool false]) (by simp [results, Tryz.results29, go_sem, z01]) rfl ?_
  refine Rvi_none HN.out ?_
  iterate 5 (refine Below.setCell ?_ (by simp) _)
  exact hB
end Go.Proofs.YtcfbkickiijjkaaGreatDoor
