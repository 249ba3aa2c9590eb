/-
  Copies of lists, the program's side: slices.Clone of letters, copyLists. No condition.
-/
import Derived.Test.YtcpbbjocaimocaaGreatEAsyOwn6
namespace Go.Proofs.YtcpbbjocaimocaaGreat
open Go.RowKit
set_option linter.all false
set_option maxRecDepth 100000 in
theorem lets_Clone (v : Value) (ls : Ends) (w : World) (h : EndsR w (· < w.heap.size) v ls) (hl : ls.length ≤ 2000000) :
  Calls Tryz.prog 118 #[v] w fun e w' => ∃ v', e = .returned v' ∧ w'.ownsRow w.heap.size 156 2 v' ls.length (letCells ls) ∧ Below w.heap.size w w' := by
 obtain ⟨v', w', hrun, ho, hb⟩ := run_ownLets w v ls 120 h hl
 have HR := Lib.hid hrun
 obtain ⟨A0, c, rfl, h1, h2, h3, h4⟩ := h
 have q22 : ∀ (W : World) (a : Option Addr) (n c n' c' : Nat), (binOp .eql 120 (.slice a n c) (.slice none n' c')).run Tryz.prog W = .ok (.bool a.isNone) W := fun W a n c n' c' => Lib.run_eql_slice_nil W _ _ a n c n' c' Tryz.underlying120
 cases A0 with
 | none =>
  have h0 : ls.length = 0 := by
   rcases Nat.eq_zero_or_pos ls.length with h | h
   ·
    exact h
   ·
    obtain ⟨b, o, e, -⟩ := h4 h
    cases e
  obtain rfl : ls = [] := List.eq_nil_of_length_eq_zero h0
  have FIN := Lib.hid (show (w.ownsRow w.heap.size 156 2 (.slice none 0 0) 0 (letCells []) ∧ Below w.heap.size w w) from ⟨World.ownsRow_nil _ _ _ _, Below.refl _ _⟩)
  clear hrun ho hb h4 HR h0
  simp only [List.length_nil]
  go_enter Tryz.func118, Tryz.ntmps118
  go_wp2_with fail
  go_ret
  exact ⟨_, rfl, FIN.out.1, FIN.out.2⟩
 | some ad =>
  have FIN := Lib.hid (⟨ho, hb⟩ : w'.ownsRow w.heap.size 156 2 v' ls.length (letCells ls) ∧ Below w.heap.size w w')
  clear hrun ho hb h4
  go_enter Tryz.func118, Tryz.ntmps118
  go_wp2_with (at_builtin; refine Lib.wpList_append_run _ rfl _ _ _ _ rfl _ _ rfl rfl _ _ HR.out ?_)
  go_ret
  exact ⟨_, rfl, FIN.out.1, FIN.out.2⟩
theorem rowOf_nil2 (n : Nat) (z : Value) : rowOf [] n z = (List.replicate n z).toArray := by simp [rowOf]
theorem own_made1 (w : World) (e : TypeId) (n : Nat) (hn : n ≤ maxLen) : (w.alloc (.cells (rowOf [] n nilV) e)).ownsRow w.heap.size e 1 (.slice (some ⟨w.heap.size, 0, none⟩) n n) n (List.replicate n nilV) := by
  rw [rowOf_nil2]
  exact ⟨by simp, .inr ⟨w.heap.size, n, _, rfl, Nat.le_refl _, heap_alloc_new w _, Nat.le_refl _, hn, by simp, by simp⟩⟩
theorem pack_cell {w1 : World} {N n j g cap : Nat} {ty : TypeId} {val : Key → Value} (h : w1.ownsRow N ty 1 (.slice (some ⟨g, 0, none⟩) n cap) n (valsOf .sl val j ++ List.replicate (n - j) nilV)) (hj : j < n) :
    w1.cell? ⟨g, j, none⟩ = some (.slice none 0 0) ∧ w1.frozen? ⟨g, j, none⟩ = false := by
  rcases h.2 with ⟨e, -⟩ | ⟨g', cap', cur, e, q1, q2, q3, q4, q5, q6⟩
  · cases e
  · cases e
    have e1 : cur.toList[j]? = some nilV := by
      have h1 : (cur.toList.take (n * 1))[j]? = some nilV := by
        rw [q6, List.getElem?_append_right (by rw [valsOf_len]; exact Nat.le_refl _), valsOf_len, Nat.sub_self, List.getElem?_replicate, if_pos (by omega)]
      rwa [List.getElem?_take_of_lt (by omega)] at h1
    exact ⟨by rw [cell_of_row w1 _ j _ _ (0, 0) q2]; simpa [nilV] using e1, by simp [World.frozen?, q2]⟩
theorem rows_at {w W : World} {v : Value} {xss : List (List Int)} (h : RowsR w w.heap.size v xss) (hb : Below w.heap.size w W) : RowsR W W.heap.size v xss := (h.below hb).more hb.size
def ClRel (xss : List (List Int)) (w : World) (i : Value) (wr : World) : Prop := Below w.heap.size w wr ∧ ∃ (k : Nat) (val : Key → Value), k ≤ xss.length ∧ i = .int .i64 k ∧ val .s = .slice (some ⟨w.heap.size, 0, none⟩) xss.length xss.length ∧ Pack wr w.heap.size 24 (intD xss) xss.length k val
theorem getD_some {α : Type} {l : List α} {k : Nat} {y d : α} (h : l[k]? = some y) : l.getD k d = y := by rw [List.getD_eq_getElem?_getD, h]; rfl
set_option maxRecDepth 100000 in
theorem impl_copyLists (v : Value) (xss : List (List Int)) (w : World) (h : RowsR w w.heap.size v xss) (h40 : xss.length ≤ 40) (hl : ∀ s ∈ xss, s.length ≤ 2000000) :
  Calls Tryz.prog 117 #[v] w fun e w' => ∃ val, e = .returned (val .s) ∧ Pack w' w.heap.size 24 (intD xss) xss.length xss.length val ∧ Below w.heap.size w w' := by
 obtain ⟨A0, c, rfl, h1, h2, h3⟩ := h.open_
 have HL := Lib.hid hl
 have H3 := Lib.hid h3
 clear h hl h3
 have hmk := fun W => run_make1 (P := Tryz.prog) 22 24 (.slice none 0 0) 24 Tryz.underlying22 sliceInfo1 rfl xss.length (by omega) (by omega) W
 obtain ⟨val0, hv0, hp0⟩ := Pack.start (intD xss) (own_made1 w 24 xss.length (by unfold maxLen; omega))
 unfold nilV at hp0
 have HP0 := Lib.hid hp0
 have HV0 := Lib.hid hv0
 clear hp0 hv0
 go_enter Tryz.func117, Tryz.ntmps117
 go_wp2
 clear hmk
 go_loopw [10] (fun i wr => ClRel xss w i wr) (fun i _ => xss.length - (intOf i).toNat)
 case atStart => exact ⟨bl_alloc (Below.refl _ _) _, 0, val0, Nat.zero_le _, rfl, HV0.out, HP0.out⟩
 case round =>
  obtain ⟨hbl, k, val, hk, rfl, hvs, hp⟩ := hrel
  have hsz := hbl.size
  have HVS := Lib.hid hvs
  have hps := hp.top
  rw [hvs] at hps
  have hgt := ((hps.lt w.heap.size rfl).2)
  have HP := Lib.hid hp
  by_cases hlt : k < xss.length
  ·
   obtain ⟨xs, hxs⟩ : ∃ xs, xss[k]? = some xs := ⟨xss[k], List.getElem?_eq_getElem hlt⟩
   obtain ⟨ad, rfl, hb, hc⟩ := H3.out (by omega)
   obtain ⟨u, hu, hr⟩ := hc k xs hxs
   have hcell : wr.cell? (ad.add k) = some u := (hbl.cell (p := ad.add k) (by rw [block_add]; exact hb)).trans hu
   obtain ⟨Au, mu, cu, rfl⟩ := hr.isSlice
   have HR := Lib.hid ((hr.below hbl).more hsz)
   have hxl := HL.out xs (List.mem_of_getElem? hxs)
   have HXS := Lib.hid (getD_some (d := []) hxs)
   clear hc hr hu hxs hp hps hvs
   have h0k : (0 : Int) ≤ (k : Int) := by omega
   go_wp2_with fail
   refine (impl_Clone _ xs wr HR.out hxl).mono ?_
   rintro e w1 ⟨u2, rfl, ho, -, hb1⟩
   obtain ⟨A1, c1, rfl⟩ := own_sl1 ho
   have hs1 := hb1.size
   obtain ⟨val', hv', hp'⟩ := HP.out.step hlt HVS.out (grown_below hb1) (u := .slice A1 xs.length c1) (by show w1.ownsRow _ 3 1 _ (xss.getD k []).length ((xss.getD k []).map intV); rw [HXS.out]; exact own_mono ho hsz) (fresh_of ho)
   have hown1 := own_up (HP.out.top) hb1
   rw [HVS.out] at hown1
   obtain ⟨hc1, hf1⟩ := pack_cell hown1 hlt
   have HP' := Lib.hid hp'
   have HV' := Lib.hid (hv'.trans HVS.out)
   have HB1 := Lib.hid hb1
   clear hp' hv' hown1 ho hb1
   go_wp2_with fail
   go_roundw
   case rel => exact ⟨(hbl.trans (HB1.out.mono hsz)).setCell (Nat.le_refl _) _, k + 1, val', by omega, by go_num, HV'.out, HP'.out⟩
   case measure => simp [intOf]; omega
  ·
   obtain rfl : k = xss.length := by omega
   clear hp hps
   go_wp2
   go_ret
   exact ⟨val, by rw [HVS.out]; rfl, HP.out, hbl⟩
end Go.Proofs.YtcpbbjocaimocaaGreat
