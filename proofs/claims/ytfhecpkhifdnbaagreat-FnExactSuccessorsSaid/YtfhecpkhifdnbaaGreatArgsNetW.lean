/-
  A network copied for the program, with what may be written of the copy: the rows, the identifiers, the inputs lie in blocks of their own.
-/
import Derived.Test.YtfhecpkhifdnbaaGreatMarkNet
import Derived.Test.YtfhecpkhifdnbaaGreatArgsNet
namespace Go.Proofs.YtfhecpkhifdnbaaGreat
open Go.RowKit
set_option linter.unusedVariables false
set_option linter.unusedSimpArgs false
theorem to_EndW (v : Value) (xs : Ends) (w : World) (h : EndsB w w.heap.size v xs) (hn : xs.length ≤ 1048576) :
    Calls Tryz.prog 96 #[v] w fun e w' => ∃ v', e = .returned v' ∧ (∃ A m c, v' = .slice A m c) ∧ EndsR w' (fun b => w.heap.size ≤ b ∧ b < w'.heap.size) v' xs ∧ Below w.heap.size w w' ∧ w.heap.size < w'.heap.size ∧ RowW w' (fun b => w.heap.size ≤ b ∧ b < w'.heap.size) v' xs.length := by
  obtain ⟨A, c, rfl, h1, h2, h4, h3⟩ := h
  have H4 := Lib.hid h4; clear h4
  have hmk := fun W => run_make2 (P := Tryz.prog) 121 144 _ 16 Tryz.underlying121 endInfo xs.length (by omega) (by omega) W
  go_enter Tryz.func96, Tryz.ntmps96
  go_wp2
  clear hmk
  go_loopw [4] (fun i wr => ToERel xs w i wr) (fun i _ => xs.length - (intOf i).toNat)
  case atStart => exact ⟨0, _, Nat.zero_le _, rfl, heap_alloc_new w _, by simp [madeCells], bl_alloc (Below.refl _ _) _, by simp, fun j x hj => by omega⟩
  case round =>
    obtain ⟨k, C, hk, rfl, hblk, hC, hbl, hgt, hits⟩ := hrel
    have hsz := hbl.size
    have HI := Lib.hid hits; clear hits
    have HB := Lib.hid hblk; clear hblk
    have HC := Lib.hid hC; clear hC
    by_cases hlt : k < xs.length
    · obtain ⟨x, hx⟩ : ∃ x, xs[k]? = some x := ⟨xs[k], List.getElem?_eq_getElem hlt⟩
      obtain ⟨b, o, rfl, hb, hc⟩ := h3 (by omega)
      have q0 := (hbl.cell (p := ⟨b, o + k * 2, none⟩) hb).trans (hc k x hx).1
      have q1 := (hbl.cell (p := ⟨b, o + k * 2 + 1, none⟩) hb).trans (hc k x hx).2
      have HX := Lib.hid hx
      clear h3 hc hx
      go_wp2_with fail
      refine (to_End x wr).mono ?_
      rintro e w1 ⟨rfl, hb1⟩
      have hblk1 : w1.heap[w.heap.size]? = some (.cells C 144 (0, 0)) := (hb1.block _ hgt).trans HB.out
      have hcell : ∀ j, j < 2 → ∃ u, w1.cell? ⟨w.heap.size, k * 2 + j, none⟩ = some u := by
        intro j hj
        rw [cell_of_row w1 _ (k * 2 + j) _ _ (0, 0) hblk1, Array.getElem?_eq_getElem (by rw [HC.out]; omega)]
        exact ⟨_, rfl⟩
      have hfr : ∀ j, w1.frozen? ⟨w.heap.size, j, none⟩ = false := by intro j; simp [World.frozen?, hblk1]
      obtain ⟨o0, z0⟩ := hcell 0 (by omega)
      obtain ⟨o1, z1⟩ := hcell 1 (by omega)
      rw [Nat.add_zero] at z0
      have y0 := hfr (k * 2)
      have y1 := hfr (k * 2 + 1)
      clear hcell hfr
      have hB1 := hbl.trans (hb1.mono hsz)
      have hgt1 : w.heap.size < w1.heap.size := by have := hb1.size; omega
      have HB1 := Lib.hid hblk1; clear hblk1
      go_wp2_with fail
      go_roundw
      case rel =>
        refine ⟨k + 1, _, by omega, by go_num, heap_set_same (heap_set_same HB1.out _) _, by simp [HC.out], ?_, by simp only [size_setCell]; exact hgt1, HI.out.next HX.out HC.out hlt⟩
        iterate 2 (refine Below.setCell ?_ (by simp) _)
        exact hB1
      case measure => simp [intOf]; omega
    · go_wp2
      go_ret
      refine ⟨_, rfl, ⟨_, _, _, rfl⟩, ⟨_, _, rfl, Nat.le_refl _, by unfold maxLen; omega, H4.out, fun hn => ⟨_, 0, rfl, ⟨Nat.le_refl _, hgt⟩, fun j e he => ?_⟩⟩, hbl, hgt, ⟨_, _, rfl, Nat.le_refl _, by unfold maxLen; omega, fun hn => ⟨_, C, rfl, ⟨Nat.le_refl _, hgt⟩, HB.out, by rw [HC.out]; exact Nat.le_refl _⟩⟩⟩
      have hj : j < xs.length := (List.getElem?_eq_some_iff.1 he).1
      obtain ⟨k1, k2⟩ := HI.out j e (by omega) he
      exact ⟨by rw [cell_of_row _ _ (0 + j * 2) _ _ (0, 0) HB.out, Nat.zero_add]; exact k1, by rw [cell_of_row _ _ (0 + j * 2 + 1) _ _ (0, 0) HB.out, Nat.zero_add]; exact k2⟩
def ToEwRel (xss : List Ends) (w : World) (i : Value) (wr : World) : Prop :=
  ∃ (k : Nat) (C : Array Value), k ≤ xss.length ∧ i = .int .i64 k ∧ wr.heap[w.heap.size]? = some (.cells C 121 (0, 0)) ∧ C.size = xss.length ∧ Below w.heap.size w wr ∧ w.heap.size < wr.heap.size ∧
    (∀ (j : Nat) (u : Value), C[j]? = some u → ∃ A m c, u = .slice A m c) ∧ ∀ j xs, j < k → xss[j]? = some xs → ∃ u, C[j]? = some u ∧ EndsR wr (fun b => w.heap.size < b ∧ b < wr.heap.size) u xs ∧ RowW wr (fun b => w.heap.size < b ∧ b < wr.heap.size) u xs.length
theorem to_EndWS (v : Value) (xss : List Ends) (w : World) (h : EndssR w (· < w.heap.size) v xss) (hn : szEnds xss ≤ 1048576) :
    Calls Tryz.prog 51 #[v] w fun e w' => ∃ v', e = .returned v' ∧ EndssR w' (fun b => w.heap.size ≤ b ∧ b < w'.heap.size) v' xss ∧ Below w.heap.size w w' ∧ w.heap.size < w'.heap.size ∧ RowsW w' w.heap.size (fun b => w.heap.size < b ∧ b < w'.heap.size) v' (xss.map List.length) := by
  obtain ⟨A, c, rfl, h1, h2, h3⟩ := h
  have hn' : xss.length ≤ 1048576 := by unfold szEnds at hn; omega
  have HSZ := Lib.hid (show ∀ (k : Nat) (x : Ends), xss[k]? = some x → x.length ≤ 1048576 from fun k x hx => by
    have := lensE_snoc xss k x hx
    have := lensE_split xss (k + 1)
    unfold szEnds at hn
    omega)
  clear hn
  have hmk := fun W => run_make1 (P := Tryz.prog) 29 121 (.slice none 0 0) 24 Tryz.underlying29 endsInfo rfl xss.length (by omega) (by omega) W
  go_enter Tryz.func51, Tryz.ntmps51
  go_wp2
  clear hmk
  go_loopw [4] (fun i wr => ToEwRel xss w i wr) (fun i _ => xss.length - (intOf i).toNat)
  case atStart => exact ⟨0, _, Nat.zero_le _, rfl, heap_alloc_new w _, by simp [rowOf], bl_alloc (Below.refl _ _) _, by simp, fun j u hu => ⟨none, 0, 0, by have h := hu; simp [rowOf, Array.getElem?_replicate] at h; exact h.2.symm⟩, fun j x hj => by omega⟩
  case round =>
    obtain ⟨k, C, hk, rfl, hblk, hC, hbl, hgt, hsl, hits⟩ := hrel
    have hsz := hbl.size
    have HI := Lib.hid hits; clear hits
    have HB := Lib.hid hblk; clear hblk
    have HC := Lib.hid hC; clear hC
    have HL := Lib.hid hsl; clear hsl
    by_cases hlt : k < xss.length
    · obtain ⟨xs, hx⟩ : ∃ x, xss[k]? = some x := ⟨xss[k], List.getElem?_eq_getElem hlt⟩
      obtain ⟨ad, rfl, hb, hc⟩ := h3 (by omega)
      obtain ⟨u, hu, hr⟩ := hc k xs hx
      have hcell : wr.cell? (ad.add k) = some u := (hbl.cell (p := ad.add k) (by rw [block_add]; exact hb)).trans hu
      have HR := Lib.hid ((hr.below hbl).more hsz)
      have hxz := HSZ.out k xs hx
      have HX := Lib.hid hx
      clear h3 hc hx hr hu
      go_wp2_with fail
      refine (to_EndW u xs wr HR.out hxz).mono ?_
      rintro e w1 ⟨v', rfl, ⟨A', m', c', rfl⟩, ho, hb1, hs1, hrw⟩
      have hblk1 : w1.heap[w.heap.size]? = some (.cells C 121 (0, 0)) := (hb1.block _ hgt).trans HB.out
      obtain ⟨o0, z00⟩ : ∃ u, C[k]? = some u := ⟨_, Array.getElem?_eq_getElem (by rw [HC.out]; omega)⟩
      obtain ⟨Ao, mo, co, rfl⟩ := HL.out k _ z00
      have z0 : w1.cell? ⟨w.heap.size, k, none⟩ = some (.slice Ao mo co) := by rw [cell_of_row w1 _ k _ _ (0, 0) hblk1]; exact z00
      have hfr : w1.frozen? ⟨w.heap.size, k, none⟩ = false := by simp [World.frozen?, hblk1]
      have hB1 := hbl.trans (hb1.mono hsz)
      have HB1 := Lib.hid hblk1; clear hblk1 z00
      have HO := Lib.hid (And.intro ho hrw); clear ho hrw
      have hz1 := hb1.size
      go_wp2_with fail
      go_roundw
      case rel =>
        refine ⟨k + 1, _, by omega, by go_num, heap_set_same HB1.out _, by simp [HC.out], Below.setCell hB1 (by simp) _, by simp only [size_setCell]; omega, fun j u hu => ?_, fun j y hj hy => ?_⟩
        · by_cases hjk : j = k
          · subst hjk
            rw [Array.getElem?_setIfInBounds_self_of_lt (by rw [HC.out]; omega)] at hu
            exact ⟨_, _, _, (Option.some.inj hu).symm⟩
          · rw [Array.getElem?_setIfInBounds_ne (by omega)] at hu
            exact HL.out j u hu
        · have hk1 : ∀ b, w.heap.size < b → (w1.setCell ⟨w.heap.size, k, none⟩ (.slice A' m' c')).heap[b]? = w1.heap[b]? := fun b hb => Below.heap_setCell _ _ _ _ (by simp; omega)
          by_cases hjk : j < k
          · obtain ⟨u', hu', hr', hq'⟩ := HI.out j y hjk hy
            refine ⟨u', by rw [Array.getElem?_setIfInBounds_ne (by omega)]; exact hu', hr'.keep (fun b hb => ⟨hb.1, by simp only [size_setCell]; omega⟩) fun b hb => (hk1 b hb.1).trans (hb1.block b hb.2), hq'.keep (fun b hb => ⟨hb.1, by simp only [size_setCell]; omega⟩) fun b hb => (hk1 b hb.1).trans (hb1.block b hb.2)⟩
          · obtain rfl : j = k := by omega
            obtain rfl := Option.some.inj (HX.out.symm.trans hy)
            exact ⟨_, Array.getElem?_setIfInBounds_self_of_lt (by rw [HC.out]; omega), HO.out.1.keep (fun b hb => ⟨by omega, by simp only [size_setCell]; omega⟩) fun b hb => hk1 b (by omega), HO.out.2.keep (fun b hb => ⟨by omega, by simp only [size_setCell]; omega⟩) fun b hb => hk1 b (by omega)⟩
      case measure => simp [intOf]; omega
    · go_wp2
      go_ret
      refine ⟨_, rfl, ⟨_, _, rfl, Nat.le_refl _, by unfold maxLen; omega, fun hn => ⟨_, rfl, ⟨Nat.le_refl _, hgt⟩, fun j xs hx => ?_⟩⟩, hbl, hgt, ⟨_, xss.length, by rw [List.length_map]; rfl, by rw [List.length_map]; exact Nat.le_refl _, by unfold maxLen; omega, fun hn => ⟨rfl, fun h => absurd h.1 (Nat.lt_irrefl _), fun j n hj => ?_⟩⟩⟩
      rotate_left
      · rw [List.getElem?_map] at hj
        obtain ⟨xs, hx, rfl⟩ := Option.map_eq_some_iff.1 hj
        have hjl : j < xss.length := (List.getElem?_eq_some_iff.1 hx).1
        obtain ⟨u, k1, -, k3⟩ := HI.out j xs (by omega) hx
        exact ⟨u, by rw [cell_of_row _ _ j _ _ (0, 0) HB.out]; exact k1, k3⟩
      have hj : j < xss.length := (List.getElem?_eq_some_iff.1 hx).1
      obtain ⟨u, k1, k2, -⟩ := HI.out j xs (by omega) hx
      refine ⟨u, ?_, k2.keep (fun b hb => ⟨by omega, hb.2⟩) fun _ _ => rfl⟩
      rw [show (⟨w.heap.size, 0, none⟩ : Addr).add j = ⟨w.heap.size, j, none⟩ by unfold Addr.add; split <;> simp_all, cell_of_row _ _ j _ _ (0, 0) HB.out]
      exact k1
/-- What may be written of a network. -/
structure NetW (w : World) (g hi : Nat) (ve vi vn : Value) (n : Net) : Prop where
  e : RowsW w g (fun b => g < b ∧ b < hi) ve (n.es.map List.length)
  i : IntsW w (fun b => g < b ∧ b < hi) vi n.ids.length
  n : IntsW w (fun b => g < b ∧ b < hi) vn n.ins.length
theorem to_NetW (ve vi vn : Value) (n : Net) (w : World) (h : NetR w w.heap.size ve vi vn n) (hz : szNet n ≤ 1048576) :
    Calls Tryz.prog 14 #[.agg #[ve, vi, vn]] w fun e w' => ∃ ve' vi' vn', e = .returned (.agg #[ve', vi', vn']) ∧ NetR w' w'.heap.size ve' vi' vn' n ∧ Below w.heap.size w w' ∧ ∃ g0, w.heap.size ≤ g0 ∧ g0 ≤ w'.heap.size ∧ NetW w' g0 w'.heap.size ve' vi' vn' n := by
  obtain ⟨⟨A0, m0, c0, rfl⟩, ⟨A1, m1, c1, rfl⟩, A2, m2, c2, rfl⟩ := h.slices
  have HZ := Lib.hid (show szEnds n.es ≤ 1048576 ∧ n.ids.length ≤ 1048576 ∧ n.ins.length ≤ 1048576 by unfold szNet at hz; omega)
  clear hz
  obtain ⟨w0, hw0⟩ : ∃ z, z = w.alloc (.cells #[.slice A0 m0 c0, .slice A1 m1 c1, .slice A2 m2 c2] 25) := ⟨_, rfl⟩
  obtain ⟨w1, hw1⟩ : ∃ z, z = w0.alloc (.cells #[.slice none 0 0, .slice none 0 0, .slice none 0 0] 31) := ⟨_, rfl⟩
  obtain ⟨w2, hw2⟩ : ∃ z, z = w1.alloc (.cells #[.slice none 0 0, .slice none 0 0, .slice none 0 0] 31) := ⟨_, rfl⟩
  have hb0 : Below w.heap.size w w0 := by rw [hw0]; exact bl_alloc (Below.refl _ _) _
  have hb1 : Below w0.heap.size w0 w1 := by rw [hw1]; exact bl_alloc (Below.refl _ _) _
  have hb2 : Below w1.heap.size w1 w2 := by rw [hw2]; exact bl_alloc (Below.refl _ _) _
  have hs0 : w0.heap.size = w.heap.size + 1 := by rw [hw0]; simp
  have hs1 : w1.heap.size = w.heap.size + 1 + 1 := by rw [hw1]; simp [hs0]
  have hs2 : w2.heap.size = w.heap.size + 1 + 1 + 1 := by rw [hw2]; simp [hs1]
  have HD0 := Lib.hid (show w0.heap[w.heap.size]? = some (.cells #[.slice A0 m0 c0, .slice A1 m1 c1, .slice A2 m2 c2] 25 (0, 0)) by rw [hw0]; exact heap_alloc_new w _)
  have HD1 := Lib.hid (show w1.heap[w.heap.size + 1]? = some (.cells #[.slice none 0 0, .slice none 0 0, .slice none 0 0] 31 (0, 0)) by rw [hw1, ← hs0]; exact heap_alloc_new w0 _)
  have HD2 := Lib.hid (show w2.heap[w.heap.size + 1 + 1]? = some (.cells #[.slice none 0 0, .slice none 0 0, .slice none 0 0] 31 (0, 0)) by rw [hw2, ← hs1]; exact heap_alloc_new w1 _)
  replace HD0 := bk (bk HD0 hb1) hb2
  replace HD1 := bk HD1 hb2
  have hB := bl_trans (bl_trans hb0 hb1) hb2
  have HW0 := Lib.hid hw0; clear hw0
  have HW1 := Lib.hid hw1; clear hw1
  have HW2 := Lib.hid hw2; clear hw2
  have hlt : w.heap.size + 1 + 1 < w2.heap.size := by omega
  clear hs0 hs1 hs2
  have HN := Lib.hid h; clear h
  clear hb0 hb1 hb2
  obtain ⟨q0, q1, q2, qf⟩ := cells3 HD0
  go_enter Tryz.func14, Tryz.ntmps14
  go_wp2_with fail
  rw [← HW0.out, ← HW1.out, ← HW2.out]
  refine (to_EndWS _ n.es w2 ((HN.out.below hB).more hB.size).e HZ.out.1).mono ?_
  rintro e w3 ⟨v0, rfl, ho, hb3, hg3, hrw⟩
  obtain ⟨B0, n0, d0, rfl⟩ := ho.isSlice
  have HG3 := Lib.hid hg3; clear hg3
  have HO := Lib.hid ho; clear ho
  have HRW := Lib.hid hrw; clear hrw
  clear q0 q1 q2 qf
  replace HD0 := bk HD0 hb3
  replace HD1 := bk HD1 hb3
  replace HD2 := bk HD2 hb3
  replace hB := bl_trans hB hb3
  have hz3 := hb3.size
  obtain ⟨q0, q1, q2, qf⟩ := cells3 HD0
  obtain ⟨p0, p1, p2, pf⟩ := cells3 HD2
  obtain ⟨w4, hw4⟩ : ∃ z, z = w3.setCell ⟨w.heap.size + 1 + 1, 0, none⟩ (.slice B0 n0 d0) := ⟨_, rfl⟩
  have HW4 := Lib.hid hw4
  go_wp2_with fail
  rw [← HW4.out]
  obtain ⟨hB4, ho4, HD4, hz4, hy4⟩ := setB hB (by omega) HD2.out hw4
  clear hw4 q0 q1 q2 qf p0 p1 p2 pf HD2
  replace HD0 := Lib.hid ((ho4 _ (by omega)).trans HD0.out)
  replace HD1 := Lib.hid ((ho4 _ (by omega)).trans HD1.out)
  replace HRW := Lib.hid (HRW.out.keep (w' := w4) (by omega) fun b h1 h2 => ho4 b (by omega))
  replace HO := Lib.hid (HO.out.keep (w' := w4) (fun b hb => hb) fun b hb => ho4 b (by omega))
  refine (to_IntS _ n.ids w4 ((HN.out.below hB4).more hB4.size).i HZ.out.2.1).mono ?_
  rintro e w5 ⟨rfl, hw5⟩
  have hb5 : Below w4.heap.size w4 w5 := by rw [hw5]; exact bl_alloc (Below.refl _ _) _
  have HI := Lib.hid (show w5.heap[w4.heap.size]? = some (.cells (n.ids.map intV).toArray 3 (0, 0)) by rw [hw5]; exact heap_alloc_new w4 _)
  have hz5 : w5.heap.size ≤ w4.heap.size + 1 := by rw [hw5]; simp
  have hy5 : w4.heap.size < w5.heap.size := by rw [hw5]; simp
  clear hw5
  replace HD0 := bk HD0 hb5
  replace HD1 := bk HD1 hb5
  replace HD4 := bk HD4 hb5
  have hB5 := bl_trans hB4 hb5
  replace HRW := Lib.hid (HRW.out.keep (w' := w5) (by omega) fun b h1 h2 => hb5.block b h2)
  replace HO := Lib.hid (HO.out.keep (w' := w5) (fun b hb => hb) fun b hb => hb5.block b (by omega))
  obtain ⟨q0, q1, q2, qf⟩ := cells3 HD0
  obtain ⟨p0, p1, p2, pf⟩ := cells3 HD4
  obtain ⟨w6, hw6⟩ : ∃ z, z = w5.setCell ⟨w.heap.size + 1 + 1, 1, none⟩ (.slice (some ⟨w4.heap.size, 0, none⟩) n.ids.length n.ids.length) := ⟨_, rfl⟩
  have HW6 := Lib.hid hw6
  go_wp2_with fail
  rw [← HW6.out]
  obtain ⟨hB6, ho6, HD6, hz6, hy6⟩ := setB hB5 (by omega) HD4.out hw6
  clear hw6 q0 q1 q2 qf p0 p1 p2 pf HD4
  replace HD0 := Lib.hid ((ho6 _ (by omega)).trans HD0.out)
  replace HD1 := Lib.hid ((ho6 _ (by omega)).trans HD1.out)
  replace HI := Lib.hid ((ho6 _ (by omega)).trans HI.out)
  replace HRW := Lib.hid (HRW.out.keep (w' := w6) (by omega) fun b h1 h2 => ho6 b (by omega))
  replace HO := Lib.hid (HO.out.keep (w' := w6) (fun b hb => hb) fun b hb => ho6 b (by omega))
  refine (to_IntS _ n.ins w6 ((HN.out.below hB6).more hB6.size).n HZ.out.2.2).mono ?_
  rintro e w7 ⟨rfl, hw7⟩
  have hb7 : Below w6.heap.size w6 w7 := by rw [hw7]; exact bl_alloc (Below.refl _ _) _
  have HJ := Lib.hid (show w7.heap[w6.heap.size]? = some (.cells (n.ins.map intV).toArray 3 (0, 0)) by rw [hw7]; exact heap_alloc_new w6 _)
  have hz7 : w7.heap.size ≤ w6.heap.size + 1 := by rw [hw7]; simp
  have hy7 : w6.heap.size < w7.heap.size := by rw [hw7]; simp
  clear hw7
  replace HD0 := bk HD0 hb7
  replace HD1 := bk HD1 hb7
  replace HD6 := bk HD6 hb7
  replace HI := bk HI hb7
  have hB7 := bl_trans hB6 hb7
  replace HRW := Lib.hid (HRW.out.keep (w' := w7) (by omega) fun b h1 h2 => hb7.block b h2)
  replace HO := Lib.hid (HO.out.keep (w' := w7) (fun b hb => hb) fun b hb => hb7.block b (by omega))
  obtain ⟨q0, q1, q2, qf⟩ := cells3 HD0
  obtain ⟨p0, p1, p2, pf⟩ := cells3 HD6
  obtain ⟨r0, r1, r2, rf⟩ := cells3 HD1
  obtain ⟨w8, hw8⟩ : ∃ z, z = w7.setCell ⟨w.heap.size + 1 + 1, 2, none⟩ (.slice (some ⟨w6.heap.size, 0, none⟩) n.ins.length n.ins.length) := ⟨_, rfl⟩
  have HW8 := Lib.hid hw8
  obtain ⟨hB8, ho8, HD8, hz8, hy8⟩ := setB hB7 (by omega) HD6.out hw8
  clear hw8
  replace HI := Lib.hid ((ho8 _ (by omega)).trans HI.out)
  replace HJ := Lib.hid ((ho8 _ (by omega)).trans HJ.out)
  replace HD1 := Lib.hid ((ho8 _ (by omega)).trans HD1.out)
  replace HRW := Lib.hid (HRW.out.keep (w' := w8) (by omega) fun b h1 h2 => ho8 b (by omega))
  replace HO := Lib.hid (HO.out.keep (w' := w8) (fun b hb => hb) fun b hb => ho8 b (by omega))
  have HB8 := Lib.hid hB8
  have HZ0 := Lib.hid (And.intro hz3 (And.intro (And.intro hz4 hy4) (And.intro (And.intro hz5 hy5) (And.intro (And.intro hz6 hy6) (And.intro (And.intro hz7 hy7) (And.intro hz8 hy8))))))
  go_wp2_with fail
  rw [← HW8.out]
  obtain ⟨s0, s1, s2, sf⟩ := cells3 HD1
  refine bodyPost_ret (v := .agg #[.slice B0 n0 d0, .slice (some ⟨w4.heap.size, 0, none⟩) n.ids.length n.ids.length, .slice (some ⟨w6.heap.size, 0, none⟩) n.ins.length n.ins.length]) (by simp [results, Tryz.results14, go_sem, s0, s1, s2]) rfl ?_
  obtain ⟨k3, ⟨k4, j4⟩, ⟨k5, j5⟩, ⟨k6, j6⟩, ⟨k7, j7⟩, k8, j8⟩ := HZ0.out
  have hk : ∀ b, b ≠ w.heap.size + 1 → (((w8.setCell ⟨w.heap.size + 1, 0, none⟩ (.slice B0 n0 d0)).setCell ⟨w.heap.size + 1, 1, none⟩ (.slice (some ⟨w4.heap.size, 0, none⟩) n.ids.length n.ids.length)).setCell ⟨w.heap.size + 1, 2, none⟩ (.slice (some ⟨w6.heap.size, 0, none⟩) n.ins.length n.ins.length)).heap[b]? = w8.heap[b]? := fun b hb => by
    iterate 3 rw [Below.heap_setCell _ _ _ _ (by simpa using hb)]
  refine ⟨_, _, _, rfl, ⟨HO.out.keep (fun b hb => by simp only [size_setCell]; omega) fun b hb => hk b (by omega), ints_row ((hk _ (by omega)).trans HI.out) (by have := HZ.out.2.1; unfold maxLen; omega) HN.out.i.2 (by simp only [size_setCell]; omega), ints_row ((hk _ (by omega)).trans HJ.out) (by have := HZ.out.2.2; unfold maxLen; omega) HN.out.n.2 (by simp only [size_setCell]; omega)⟩, ?_, w2.heap.size, by have := HG3.out; omega, by have := HG3.out; simp only [size_setCell]; omega, ?_, ?_, ?_⟩
  · iterate 3 (refine Below.setCell ?_ (by simp) _)
    exact HB8.out
  · exact (HRW.out.keep (by omega) fun b h1 h2 => hk b (by omega)).stretch (by simp only [size_setCell]; omega)
  · exact ⟨_, _, rfl, Nat.le_refl _, by have := HZ.out.2.1; unfold maxLen; omega, fun _ => ⟨w4.heap.size, _, rfl, ⟨by have := HG3.out; omega, by simp only [size_setCell]; omega⟩, (hk _ (by omega)).trans HI.out, by simp⟩⟩
  · exact ⟨_, _, rfl, Nat.le_refl _, by have := HZ.out.2.2; unfold maxLen; omega, fun _ => ⟨w6.heap.size, _, rfl, ⟨by have := HG3.out; omega, by simp only [size_setCell]; omega⟩, (hk _ (by omega)).trans HJ.out, by simp⟩⟩
end Go.Proofs.YtfhecpkhifdnbaaGreat
