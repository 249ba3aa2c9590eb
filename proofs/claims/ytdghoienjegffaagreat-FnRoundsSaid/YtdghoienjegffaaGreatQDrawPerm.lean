/-
  The draw perm: numbers below n, n of them, in memory of one's own. Condition: at most 1000.
-/
import Derived.Test.YtdghoienjegffaaGreatQNePorts
import Derived.Test.YtdghoienjegffaaGreatQCur
namespace Go.Proofs.YtdghoienjegffaaGreat
open Go.RowKit
set_option linter.all false
theorem PermN.set {xs : List Int} {d : Nat} (h : PermN xs d) (k : Nat) {p : Nat} (hp : p < d) : PermN (xs.set k (p : Int)) d := by
  refine ⟨by rw [List.length_set]; exact h.1, fun j x hx => ?_⟩
  rw [List.getElem?_set] at hx
  by_cases e : k = j
  · rw [if_pos e] at hx
    split at hx
    · exact ⟨p, (Option.some.inj hx).symm, hp⟩
    · cases hx
  · rw [if_neg e] at hx
    exact h.2 j x hx
theorem own_setI {w : World} {base g cap n k : Nat} {xs : List Int} (h : w.ownsRow base 3 1 (.slice (some ⟨g, 0, none⟩) n cap) n (xs.map intV)) (x : Int) : (w.setCell ⟨g, k, none⟩ (.int .i64 x)).ownsRow base 3 1 (.slice (some ⟨g, 0, none⟩) n cap) n ((xs.set k x).map intV) := by
  have h1 := (World.ownsRow.stored h k (.int .i64 x)).1
  rw [List.map_set]
  exact h1
theorem own_cellI {w : World} {base g cap n j : Nat} {xs : List Int} {x : Int} (h : w.ownsRow base 3 1 (.slice (some ⟨g, 0, none⟩) n cap) n (xs.map intV)) (hj : j < n) (hx : xs[j]? = some x) : w.cell? ⟨g, j, none⟩ = some (.int .i64 x) := by
  refine (World.ownsRow.cellAt h j (by omega)).trans ?_
  rw [List.getElem?_map, hx]
  rfl
structure PmAt (w : World) (P : Nat) (cv : Value) (m g n : Nat) (wr : World) : Prop where
  cur : CurR wr P cv m
  row : ∃ xs : List Int, PermN xs n ∧ wr.ownsRow w.heap.size 3 1 (.slice (some ⟨g, 0, none⟩) n n) n (xs.map intV)
  grown : w.grownBy wr (some P)
  p : P < w.heap.size
def Pm1 (w : World) (P : Nat) (cv : Value) (m g n : Nat) (i : Value) (wr : World) : Prop := ∃ j : Nat, j ≤ n ∧ i = .int .i64 (j : Int) ∧ PmAt w P cv m g n wr
def Pm2 (w : World) (P : Nat) (cv : Value) (m g n : Nat) (i : Value) (wr : World) : Prop := ∃ j : Int, -1 ≤ j ∧ j < n ∧ i = .int .i64 j ∧ PmAt w P cv (m + 2 * (n - j.toNat)) g n wr
theorem PmAt.set {w wr : World} {P m g n : Nat} {cv : Value} (h : PmAt w P cv m g n wr) (k : Nat) {p : Nat} (hp : p < n) : PmAt w P cv m g n (wr.setCell ⟨g, k, none⟩ (.int .i64 (p : Int))) := by
  obtain ⟨xs, h1, h2⟩ := h.row
  have hg := (h2.lt g rfl).1
  have hP := h.p
  have hb : ∀ b, b < w.heap.size → (wr.setCell ⟨g, k, none⟩ (.int .i64 (p : Int))).heap[b]? = wr.heap[b]? := fun b hb => Below.heap_setCell _ _ _ _ (fun e : b = g => by omega)
  refine ⟨h.cur.keep (Nat.le_refl _) fun b hb' => hb b (by omega), ⟨_, h1.set k hp, own_setI h2 _⟩, ⟨h.grown.os, h.grown.tape, h.grown.output, by have := h.grown.size; simp only [size_setCell]; exact this, fun b hb' hne => (hb b hb').trans (h.grown.block b hb' hne)⟩, hP⟩
set_option maxRecDepth 100000 in
set_option maxHeartbeats 4000000 in
theorem cur_perm (P m : Nat) (cv : Value) (n : Nat) (w : World) (h : CurR w P cv m) (hm : m ≤ 1152921504606846976) (hn : n ≤ 1000) :
  Calls Tryz.prog 85 #[.pointer (some ⟨P, 0, none⟩), .int .i64 (n : Int)] w fun e w' => ∃ u xs, e = .returned u ∧ w'.ownsRow w.heap.size 3 1 u n (xs.map intV) ∧ PermN xs n ∧ CurR w' P cv (m + 2 * n + 2) ∧ w.grownBy w' (some P) := by
 have H := Lib.hid h
 have hP := h.lt
 clear h
 have hm2 := fun W => run_make1 (P := Tryz.prog) 25 3 (.int .i64 0) 8 Tryz.underlying25 intInfo rfl n (by omega) (by omega) W
 obtain ⟨w1, hw1⟩ : ∃ z, z = w.alloc (.cells (rowOf [] n (.int .i64 0)) 3) := ⟨_, rfl⟩
 obtain ⟨g, hg⟩ : ∃ z, z = w.heap.size := ⟨_, rfl⟩
 have H1 := Lib.hid (show PmAt w P cv m g n w1 by
  have ho := own_madeN w 3 n (.int .i64 0) (by unfold maxLen; omega)
  rw [← hw1, ← hg] at ho
  have hb : Below w.heap.size w w1 := by rw [hw1]; exact bl_alloc (Below.refl _ _) _
  refine ⟨H.out.below hb hP, ⟨List.replicate n 0, ⟨List.length_replicate, fun j x hx => ?_⟩, ?_⟩, grown_belowN hb _, hP⟩
  ·
   have hj := (List.getElem?_eq_some_iff.1 hx).1
   rw [List.length_replicate] at hj
   rw [List.getElem?_replicate, if_pos hj] at hx
   exact ⟨0, (Option.some.inj hx).symm, by omega⟩
  ·
   rw [List.map_replicate, ← hg]; exact ho)
 have HW1 := Lib.hid hw1
 have HG := Lib.hid hg
 have hgl : w.heap.size ≤ g := by omega
 clear hw1 hg
 go_enter Tryz.func85, Tryz.ntmps85
 go_wp2_with fail
 rw [← HW1.out, ← HG.out]
 clear hm2
 go_loopw [14] (fun i wr => Pm1 w P cv m g n i wr) (fun i _ => n - (intOf i).toNat)
 case atStart => exact ⟨0, Nat.zero_le _, rfl, H1.out⟩
 case round =>
  obtain ⟨j, hj, rfl, hpm⟩ := hrel
  have HP := Lib.hid hpm
  clear hpm
  by_cases hlt : j < n
  ·
   obtain ⟨xs, hx, ho⟩ := HP.out.row
   obtain ⟨x, hxj⟩ : ∃ x, xs[j]? = some x := ⟨_, List.getElem?_eq_getElem (by rw [hx.1]; exact hlt)⟩
   have c0 := own_cellI ho hlt hxj
   have f0 := own_thaw ho j
   have hji : (j : Int) < (n : Int) := by omega
   have HS := Lib.hid (HP.out.set j hlt)
   clear hx ho hxj
   go_wp2_with fail
   go_roundw
   case rel => exact ⟨j + 1, by omega, by go_num, HS.out⟩
   case measure => simp [intOf]; omega
  ·
   obtain rfl : j = n := by omega
   have hjj : ((j : Int) < (j : Int)) = False := eq_false (by omega)
   have hwr : IntKind.i64.wrap ((j : Int) - 1) = (j : Int) - 1 := IntWalk.i64_in _ (by omega)
   go_wp2_with fail
   clear hjj hwr
   go_loopw [7] (fun i wr' => Pm2 w P cv m g j i wr') (fun i _ => (intOf i).toNat)
   case atStart => exact ⟨(j : Int) - 1, by omega, by omega, rfl, by
    have h1 := HP.out
    exact ⟨h1.cur.keep (by omega) fun _ _ => rfl, h1.row, h1.grown, h1.p⟩⟩
   case round =>
    obtain ⟨i, hi1, hi2, rfl, hpm⟩ := hrel
    have HR := Lib.hid hpm
    clear hpm
    by_cases h0 : 0 < i
    ·
     obtain ⟨q, rfl⟩ := Int.eq_ofNat_of_zero_le (show 0 ≤ i by omega)
     have hq : q < j := by omega
     have hg0 : ((q : Int) > 0) = True := eq_true (by omega)
     have hwr : IntKind.i64.wrap ((q : Int) + 1) = (q : Int) + 1 := IntWalk.i64_in _ (by omega)
     have hcur := HR.out.cur
     have HC := Lib.hid hcur
     clear hcur
     go_wp2_with fail
     refine (cur_pick P _ cv _ _ HC.out (by omega)).mono ?_
     rintro e w2 ⟨x, rfl, hx, hc2, hg2⟩
     have hxq : x ≤ q := by omega
     have hpr := HR.out.p
     have hrs := HR.out.grown.size
     obtain ⟨xs, hxs, ho⟩ := HR.out.row
     have ho2 : w2.ownsRow w.heap.size 3 1 (.slice (some ⟨g, 0, none⟩) j j) j (xs.map intV) := World.ownsRow.kept ho hg2 (.inr fun e => by
      have h1 := (ho.lt g rfl).1
      have h2 : g = P := Option.some.inj e
      omega)
     have H2 := Lib.hid (show PmAt w P cv (m + 2 * (j - (q - 1))) g j w2 from ⟨hc2.keep (by have : ((q : Int)).toNat = q := Int.toNat_natCast q; omega) fun _ _ => rfl, ⟨xs, hxs, ho2⟩, grownT HR.out.grown hg2, hpr⟩)
     obtain ⟨yq, hyq⟩ : ∃ x, xs[q]? = some x := ⟨_, List.getElem?_eq_getElem (by rw [hxs.1]; exact hq)⟩
     obtain ⟨yx, hyx⟩ : ∃ y, xs[x]? = some y := ⟨_, List.getElem?_eq_getElem (by rw [hxs.1]; omega)⟩
     obtain ⟨p, rfl, hp⟩ := hxs.2 q yq hyq
     obtain ⟨p', rfl, hp'⟩ := hxs.2 x yx hyx
     have c0 := own_cellI ho2 hq hyq
     have c1 := own_cellI ho2 (show x < j by omega) hyx
     have fz := fun k => own_thaw ho2 k
     have hqi : (q : Int) < (j : Int) := by omega
     have hxi : (x : Int) < (j : Int) := by omega
     have H3 := Lib.hid (H2.out.set q hp')
     obtain ⟨w3, hw3⟩ : ∃ z, z = w2.setCell ⟨g, q, none⟩ (.int .i64 (p' : Int)) := ⟨_, rfl⟩
     rw [← hw3] at H3
     have HW3 := Lib.hid hw3
     have c2 : ∃ u, w3.cell? ⟨g, x, none⟩ = some u := by
      obtain ⟨ys, hy1, hy2⟩ := H3.out.row
      obtain ⟨y, hy⟩ : ∃ y, ys[x]? = some y := ⟨_, List.getElem?_eq_getElem (by rw [hy1.1]; omega)⟩
      exact ⟨_, own_cellI hy2 (by omega) hy⟩
     have fz3 : ∀ k, w3.frozen? ⟨g, k, none⟩ = false := by
      obtain ⟨ys, hy1, hy2⟩ := H3.out.row
      exact fun k => own_thaw hy2 k
     obtain ⟨u2, hu2⟩ := c2
     have H4 := Lib.hid (H3.out.set x hp)
     have hwr2 : IntKind.i64.wrap ((q : Int) - 1) = (q : Int) - 1 := IntWalk.i64_in _ (by omega)
     have f3 := fz3 x
     rw [HW3.out] at hu2 f3
     obtain ⟨w4, hw4⟩ : ∃ z, z = w3.setCell ⟨g, x, none⟩ (.int .i64 (p : Int)) := ⟨_, rfl⟩
     rw [← hw4] at H4
     have HW4 := Lib.hid hw4
     clear hxs ho ho2 hyq hyx hw3 hw4 hc2 hx fz3
     go_wp2_with fail
     rw [← HW3.out, ← HW4.out]
     clear c0 c1 fz hu2 f3
     go_roundw
     case rel => exact ⟨(q : Int) - 1, by omega, by omega, by go_num, by
      have h1 := H4.out
      rw [show ((q : Int) - 1).toNat = q - 1 by omega]
      exact h1⟩
     case measure => simp [intOf]; omega
    ·
     obtain ⟨xs, hxs, ho⟩ := HR.out.row
     have HO := Lib.hid ho
     have HX := Lib.hid hxs
     have hg0 : (i > 0) = False := eq_false (by omega)
     clear ho hxs
     go_wp2_with fail
     go_ret
     exact ⟨_, rfl, xs, HO.out, HX.out, HR.out.cur.keep (by omega) fun _ _ => rfl, HR.out.grown⟩
end Go.Proofs.YtdghoienjegffaaGreat
