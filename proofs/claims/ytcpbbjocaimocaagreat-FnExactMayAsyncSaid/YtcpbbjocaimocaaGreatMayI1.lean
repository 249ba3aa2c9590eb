/-
  Which acts are possible, the program's side: mayAsync.
-/
import Derived.Test.YtcpbbjocaimocaaGreatAsOk
import Derived.Test.YtcpbbjocaimocaaGreatPlainMay
namespace Go.Proofs.YtcpbbjocaimocaaGreat
open Go.RowKit
set_option linter.unusedVariables false
set_option linter.unusedSimpArgs false
theorem box4a (w : World) (a b c d : Value) (t : TypeId) : ∃ w0, w0 = w.alloc (.cells #[a, b, c, d] t) ∧ Below w.heap.size w w0 ∧ Hid (w0.heap[w.heap.size]? = some (.cells #[a, b, c, d] t (0, 0))) ∧ w.heap.size < w0.heap.size ∧ Hid (w0.heap.size = w.heap.size + 1) :=
  ⟨_, rfl, bl_alloc (Below.refl _ _) _, Lib.hid (heap_alloc_new w _), by simp, Lib.hid (by simp)⟩
theorem cells4a {w : World} {b : Nat} {v0 v1 v2 v3 : Value} {t : TypeId} (H : Hid (w.heap[b]? = some (.cells #[v0, v1, v2, v3] t (0, 0)))) :
    (w.cell? ⟨b, 0, none⟩ = some v0 ∧ w.cell? ⟨b, 1, none⟩ = some v1) ∧ (w.cell? ⟨b, 2, none⟩ = some v2 ∧ w.cell? ⟨b, 3, none⟩ = some v3) ∧ ∀ i, w.frozen? ⟨b, i, none⟩ = false :=
  ⟨⟨cell_of_row _ _ 0 _ _ (0, 0) H.out, cell_of_row _ _ 1 _ _ (0, 0) H.out⟩, ⟨cell_of_row _ _ 2 _ _ (0, 0) H.out, cell_of_row _ _ 3 _ _ (0, 0) H.out⟩, fun i => frozen_of_row _ _ i _ _ H.out⟩
set_option maxRecDepth 100000 in
theorem impl_may_no1 (ne ni nn : Value) (n : Net) (xr xb xn xs xf : Value) (x : Asy) (ak an ap aa : Int) (w : World) (hn : NetR w w.heap.size ne ni nn n) (hx : AsyR w w.heap.size xr xb xn xs xf x) (hz : n.es.length ≤ 2000000)
    (hno : inB an 0 ((n.es.length : Int) - 1) = false) :
    Calls Tryz.prog 58 #[.agg #[ne, ni, nn], .agg #[xr, xb, xn, xs, xf], .agg #[.int .i64 ak, .int .i64 an, .int .i64 ap, .int .i64 aa]] w fun e w' => e = .returned (.bool (mayB n x ⟨ak, an, ap, aa⟩)) ∧ Below w.heap.size w w' := by
  obtain ⟨⟨A4, m4, c4, rfl⟩, ⟨A5, m5, c5, rfl⟩, A6, m6, c6, rfl⟩ := hn.slices
  obtain ⟨⟨A10, m10, c10, rfl⟩, ⟨A11, m11, c11, rfl⟩, ⟨A12, m12, c12, rfl⟩, ⟨A8, m8, c8, rfl⟩, A9, m9, c9, rfl⟩ := hx.slices
  have HF := Lib.hid (may_no1 (x := x) (ak := ak) (ap := ap) (aa := aa) hno).symm
  obtain ⟨w0, hw0, hb0, HD, hz0, HS0⟩ := box3 w (.slice A4 m4 c4) (.slice A5 m5 c5) (.slice A6 m6 c6) 46
  obtain ⟨w1, hw1, hb1, HY, hz1, HS1⟩ := box5 w0 (.slice A10 m10 c10) (.slice A11 m11 c11) (.slice A12 m12 c12) (.slice A8 m8 c8) (.slice A9 m9 c9) 50
  replace HD := bk HD hb1
  obtain ⟨w2, hw2, hb2, HA, hz2, HS2⟩ := box4a w1 (.int .i64 ak) (.int .i64 an) (.int .i64 ap) (.int .i64 aa) 52
  replace HD := bk HD hb2
  replace HY := bk HY hb2
  have hB : Below w.heap.size w w2 := bl_trans (bl_trans (hb0) hb1) hb2
  have HW := Lib.hid (show w2 = ((w.alloc (.cells #[.slice A4 m4 c4, .slice A5 m5 c5, .slice A6 m6 c6] 46)).alloc (.cells #[.slice A10 m10 c10, .slice A11 m11 c11, .slice A12 m12 c12, .slice A8 m8 c8, .slice A9 m9 c9] 50)).alloc (.cells #[.int .i64 ak, .int .i64 an, .int .i64 ap, .int .i64 aa] 52) by rw [hw2, hw1, hw0])
  obtain ⟨P1, hP1⟩ : ∃ z, z = w0.heap.size := ⟨_, rfl⟩
  have HP1 := Lib.hid (show w.heap.size + 1 = P1 by rw [hP1, HS0.out])
  have hPl1 : w.heap.size < P1 := by rw [← HP1.out]; omega
  rw [← hP1] at HY hz1
  obtain ⟨P2, hP2⟩ : ∃ z, z = w1.heap.size := ⟨_, rfl⟩
  have HP2 := Lib.hid (show w.heap.size + 1 + 1 = P2 by rw [hP2, HS1.out, HS0.out])
  have hPl2 : w.heap.size < P2 := by rw [← HP2.out]; omega
  rw [← hP2] at HA hz2
  obtain ⟨q0, q1, q2, qf⟩ := cells3 HD
  obtain ⟨⟨y0, y1, y2⟩, ⟨y3, y4⟩, yf⟩ := cells5 HY
  obtain ⟨⟨u0, u1⟩, ⟨u2, u3⟩, uf⟩ := cells4a HA
  have eq0 := q0
  have eq1 := q1
  have eq2 := q2
  have ey0 := y0
  have ey1 := y1
  have ey2 := y2
  have ey3 := y3
  have ey4 := y4
  have eu0 := u0
  have eu1 := u1
  have eu2 := u2
  have eu3 := u3
  rw [HW.out] at eq0 eq1 eq2 ey0 ey1 ey2 ey3 ey4 eu0 eu1 eu2 eu3
  rw [← HP1.out] at ey0 ey1 ey2 ey3 ey4
  rw [← HP2.out] at eu0 eu1 eu2 eu3
  have hzb0 : w.heap.size < w2.heap.size := by omega
  have hzb1 : P1 < w2.heap.size := by omega
  have hzb2 : P2 < w2.heap.size := by omega
  have HN := Lib.hid (hn.up hB)
  have HX := Lib.hid (hx.up hB)
  clear hw2 hw1 hw0 hP1 hP2
  go_enter Tryz.func58, Tryz.ntmps58
  go_wp2_with fail
  rw [HP2.out, HP1.out, ← HW.out]
  clear eq0 eq1 eq2 ey0 ey1 ey2 ey3 ey4 eu0 eu1 eu2 eu3
  refine (impl_hasNode _ _ _ n an w2 HN.out hz).mono ?_
  rintro e w5 ⟨rfl, hb5⟩
  rw [hno]
  go_wp2_with fail
  go_ret
  exact ⟨ret_bool HF.out, bl_trans hB hb5⟩
set_option maxRecDepth 100000 in
set_option maxHeartbeats 2000000 in
theorem impl_may5 (ne ni nn : Value) (n : Net) (xr xb xn xs xf : Value) (x : Asy) (k : Nat) (l : Ends) (s : List Int) (f : List Ends) (r : Int) (ap aa : Int) (w : World) (hn : NetR w w.heap.size ne ni nn n) (hx : AsyR w w.heap.size xr xb xn xs xf x) (hz : n.es.length ≤ 2000000)
    (hat : AtP n x k l s f r) :
    Calls Tryz.prog 58 #[.agg #[ne, ni, nn], .agg #[xr, xb, xn, xs, xf], .agg #[.int .i64 5, .int .i64 k, .int .i64 ap, .int .i64 aa]] w fun e w' => e = .returned (.bool (mayB n x ⟨5, (k : Int), ap, aa⟩)) ∧ Below w.heap.size w w' := by
  have HMS := Lib.hid (may_step hat ap aa)
  have hk := hat.lt
  have hne := hn.e
  have hxs := hx.s.open_
  have hxf := hx.f
  have hxr := hx.r.open_
  obtain ⟨A4, c4, rfl, hc4, hM4, hr4⟩ := hne
  obtain ⟨⟨-, -, -, -⟩, ⟨A5, m5, c5, rfl⟩, A6, m6, c6, rfl⟩ := hn.slices
  obtain ⟨A10, c10, rfl, hc10, hM10, hr10⟩ := hxr
  obtain ⟨-, ⟨A11, m11, c11, rfl⟩, ⟨A12, m12, c12, rfl⟩, -, -⟩ := hx.slices
  obtain ⟨A8, c8, rfl, hc8, hM8, hr8⟩ := hxs
  obtain ⟨A9, c9, rfl, hc9, hM9, hr9⟩ := hxf
  unfold maxLen at hM4 hM8 hM9 hM10
  have hk8 := (List.getElem?_eq_some_iff.1 hat.hs).1
  have hk9 := (List.getElem?_eq_some_iff.1 hat.hf).1
  have hk10 := (List.getElem?_eq_some_iff.1 hat.hr).1
  obtain ⟨ad4, rfl, ha4, hrow4⟩ := hr4 (by omega)
  obtain ⟨ad8, rfl, ha8, hrow8⟩ := hr8 (by omega)
  obtain ⟨ad9, rfl, ha9, hrow9⟩ := hr9 (by omega)
  obtain ⟨ad10, rfl, ha10, hrow10⟩ := hr10 (by omega)
  obtain ⟨u4, hu4, hz4⟩ := hrow4 k l hat.hl
  obtain ⟨u8, hu8, hz8⟩ := hrow8 k s hat.hs
  obtain ⟨u9, hu9, hz9⟩ := hrow9 k f hat.hf
  have hu10 := hrow10 k r hat.hr
  have hin : inB (k : Int) 0 ((n.es.length : Int) - 1) = true := inB_t (by omega)
  clear hrow4 hrow8 hrow9 hrow10 hr4 hr8 hr9 hr10
  have HZ8 := Lib.hid hz8
  obtain ⟨B8, d8, rfl, hd8, hD8, -⟩ := hz8.open_
  unfold maxLen at hD8
  have HC8 := Lib.hid hu8
  have HC10 := Lib.hid hu10
  clear hz8 hu8 hu10 hu9 hz9 hu4 hz4
  obtain ⟨w0, hw0, hb0, HD, hz0, HS0⟩ := box3 w (.slice (some ad4) n.es.length c4) (.slice A5 m5 c5) (.slice A6 m6 c6) 46
  obtain ⟨w1, hw1, hb1, HY, hz1, HS1⟩ := box5 w0 (.slice (some ad10) x.rounds.length c10) (.slice A11 m11 c11) (.slice A12 m12 c12) (.slice (some ad8) x.slots.length c8) (.slice (some ad9) x.flight.length c9) 50
  replace HD := bk HD hb1
  obtain ⟨w2, hw2, hb2, HA, hz2, HS2⟩ := box4a w1 (.int .i64 5) (.int .i64 k) (.int .i64 ap) (.int .i64 aa) 52
  replace HD := bk HD hb2
  replace HY := bk HY hb2
  have hB : Below w.heap.size w w2 := bl_trans (bl_trans (hb0) hb1) hb2
  have HW := Lib.hid (show w2 = ((w.alloc (.cells #[.slice (some ad4) n.es.length c4, .slice A5 m5 c5, .slice A6 m6 c6] 46)).alloc (.cells #[.slice (some ad10) x.rounds.length c10, .slice A11 m11 c11, .slice A12 m12 c12, .slice (some ad8) x.slots.length c8, .slice (some ad9) x.flight.length c9] 50)).alloc (.cells #[.int .i64 5, .int .i64 k, .int .i64 ap, .int .i64 aa] 52) by rw [hw2, hw1, hw0])
  obtain ⟨P1, hP1⟩ : ∃ z, z = w0.heap.size := ⟨_, rfl⟩
  have HP1 := Lib.hid (show w.heap.size + 1 = P1 by rw [hP1, HS0.out])
  have hPl1 : w.heap.size < P1 := by rw [← HP1.out]; omega
  rw [← hP1] at HY hz1
  obtain ⟨P2, hP2⟩ : ∃ z, z = w1.heap.size := ⟨_, rfl⟩
  have HP2 := Lib.hid (show w.heap.size + 1 + 1 = P2 by rw [hP2, HS1.out, HS0.out])
  have hPl2 : w.heap.size < P2 := by rw [← HP2.out]; omega
  rw [← hP2] at HA hz2
  obtain ⟨q0, q1, q2, qf⟩ := cells3 HD
  obtain ⟨⟨y0, y1, y2⟩, ⟨y3, y4⟩, yf⟩ := cells5 HY
  obtain ⟨⟨u0, u1⟩, ⟨u2, u3⟩, uf⟩ := cells4a HA
  have eq0 := q0
  have eq1 := q1
  have eq2 := q2
  have ey0 := y0
  have ey1 := y1
  have ey2 := y2
  have ey3 := y3
  have ey4 := y4
  have eu0 := u0
  have eu1 := u1
  have eu2 := u2
  have eu3 := u3
  rw [HW.out] at eq0 eq1 eq2 ey0 ey1 ey2 ey3 ey4 eu0 eu1 eu2 eu3
  rw [← HP1.out] at ey0 ey1 ey2 ey3 ey4
  rw [← HP2.out] at eu0 eu1 eu2 eu3
  have hzb0 : w.heap.size < w2.heap.size := by omega
  have hzb1 : P1 < w2.heap.size := by omega
  have hzb2 : P2 < w2.heap.size := by omega
  have HN := Lib.hid (hn.up hB)
  have HX := Lib.hid (hx.up hB)
  clear hw2 hw1 hw0 hP1 hP2
  by_cases h1 : ap = 0
  · have k1 : (ap == 0) = true := by rw [beq_iff_eq]; exact h1
    by_cases h2 : aa = 0
    · have k2 : (aa == 0) = true := by rw [beq_iff_eq]; exact h2
      by_cases h3 : r < 40
      · have HF := Lib.hid (show (!s.contains (-1)) = mayB n x ⟨5, (k : Int), ap, aa⟩ by rw [HMS.out, decide_eq_true h1, decide_eq_true h2, decide_eq_true h3]; rfl)
        clear h1 h2
        go_enter Tryz.func58, Tryz.ntmps58
        go_wp2_with fail
        rw [HP2.out, HP1.out, ← HW.out]
        clear eq0 eq1 eq2 ey0 ey1 ey2 ey3 ey4 eu0 eu1 eu2 eu3
        refine (impl_hasNode _ _ _ n k w2 HN.out hz).mono ?_
        rintro e w5 ⟨rfl, hb5⟩
        rw [hin]
        have hzhb5 := hb5.size
        clear q0 q1 q2 qf y0 y1 y2 y3 y4 yf u0 u1 u2 u3 uf
        replace HD := bk HD hb5
        replace HY := bk HY hb5
        replace HA := bk HA hb5
        replace hB := bl_trans hB hb5
        obtain ⟨q0, q1, q2, qf⟩ := cells3 HD
        obtain ⟨⟨y0, y1, y2⟩, ⟨y3, y4⟩, yf⟩ := cells5 HY
        obtain ⟨⟨u0, u1⟩, ⟨u2, u3⟩, uf⟩ := cells4a HA
        replace HN := Lib.hid (HN.out.up hb5)
        have hc8' := (hB.cell (p := ad8.add k) (by rw [block_add]; exact ha8)).trans HC8.out
        have hc10' := (hB.cell (p := ad10.add k) (by rw [block_add]; exact ha10)).trans HC10.out
        replace HZ8 := Lib.hid ((HZ8.out.below hB).more hB.size)
        go_wp2_with fail
        refine (impl_Contains _ s (-1) w5 HZ8.out).mono ?_
        rintro e w' ⟨rfl, rfl⟩
        go_wp2_with fail
        go_ret
        exact ⟨ret_bool (by rw [← HF.out]; simp), hB⟩
      · have HF := Lib.hid (show false = mayB n x ⟨5, (k : Int), ap, aa⟩ by rw [HMS.out, decide_eq_true h1, decide_eq_true h2, decide_eq_false h3]; rfl)
        clear h1 h2
        go_enter Tryz.func58, Tryz.ntmps58
        go_wp2_with fail
        rw [HP2.out, HP1.out, ← HW.out]
        clear eq0 eq1 eq2 ey0 ey1 ey2 ey3 ey4 eu0 eu1 eu2 eu3
        refine (impl_hasNode _ _ _ n k w2 HN.out hz).mono ?_
        rintro e w5 ⟨rfl, hb5⟩
        rw [hin]
        have hzhb5 := hb5.size
        clear q0 q1 q2 qf y0 y1 y2 y3 y4 yf u0 u1 u2 u3 uf
        replace HD := bk HD hb5
        replace HY := bk HY hb5
        replace HA := bk HA hb5
        replace hB := bl_trans hB hb5
        obtain ⟨q0, q1, q2, qf⟩ := cells3 HD
        obtain ⟨⟨y0, y1, y2⟩, ⟨y3, y4⟩, yf⟩ := cells5 HY
        obtain ⟨⟨u0, u1⟩, ⟨u2, u3⟩, uf⟩ := cells4a HA
        replace HN := Lib.hid (HN.out.up hb5)
        have hc8' := (hB.cell (p := ad8.add k) (by rw [block_add]; exact ha8)).trans HC8.out
        have hc10' := (hB.cell (p := ad10.add k) (by rw [block_add]; exact ha10)).trans HC10.out
        go_wp2_with fail
        go_ret
        exact ⟨ret_bool HF.out, hB⟩
    · have k2 : (aa == 0) = false := by rw [beq_eq_false_iff_ne]; exact h2
      have HF := Lib.hid (show false = mayB n x ⟨5, (k : Int), ap, aa⟩ by rw [HMS.out, decide_eq_true h1, decide_eq_false h2]; rfl)
      clear h1
      go_enter Tryz.func58, Tryz.ntmps58
      go_wp2_with fail
      rw [HP2.out, HP1.out, ← HW.out]
      clear eq0 eq1 eq2 ey0 ey1 ey2 ey3 ey4 eu0 eu1 eu2 eu3
      refine (impl_hasNode _ _ _ n k w2 HN.out hz).mono ?_
      rintro e w5 ⟨rfl, hb5⟩
      rw [hin]
      have hzhb5 := hb5.size
      clear q0 q1 q2 qf y0 y1 y2 y3 y4 yf u0 u1 u2 u3 uf
      replace HD := bk HD hb5
      replace HY := bk HY hb5
      replace HA := bk HA hb5
      replace hB := bl_trans hB hb5
      obtain ⟨q0, q1, q2, qf⟩ := cells3 HD
      obtain ⟨⟨y0, y1, y2⟩, ⟨y3, y4⟩, yf⟩ := cells5 HY
      obtain ⟨⟨u0, u1⟩, ⟨u2, u3⟩, uf⟩ := cells4a HA
      replace HN := Lib.hid (HN.out.up hb5)
      have hc8' := (hB.cell (p := ad8.add k) (by rw [block_add]; exact ha8)).trans HC8.out
      have hc10' := (hB.cell (p := ad10.add k) (by rw [block_add]; exact ha10)).trans HC10.out
      go_wp2_with fail
      go_ret
      exact ⟨ret_bool HF.out, hB⟩
  · have k1 : (ap == 0) = false := by rw [beq_eq_false_iff_ne]; exact h1
    have HF := Lib.hid (show false = mayB n x ⟨5, (k : Int), ap, aa⟩ by rw [HMS.out, decide_eq_false h1]; rfl)
    go_enter Tryz.func58, Tryz.ntmps58
    go_wp2_with fail
    rw [HP2.out, HP1.out, ← HW.out]
    clear eq0 eq1 eq2 ey0 ey1 ey2 ey3 ey4 eu0 eu1 eu2 eu3
    refine (impl_hasNode _ _ _ n k w2 HN.out hz).mono ?_
    rintro e w5 ⟨rfl, hb5⟩
    rw [hin]
    have hzhb5 := hb5.size
    clear q0 q1 q2 qf y0 y1 y2 y3 y4 yf u0 u1 u2 u3 uf
    replace HD := bk HD hb5
    replace HY := bk HY hb5
    replace HA := bk HA hb5
    replace hB := bl_trans hB hb5
    obtain ⟨q0, q1, q2, qf⟩ := cells3 HD
    obtain ⟨⟨y0, y1, y2⟩, ⟨y3, y4⟩, yf⟩ := cells5 HY
    obtain ⟨⟨u0, u1⟩, ⟨u2, u3⟩, uf⟩ := cells4a HA
    replace HN := Lib.hid (HN.out.up hb5)
    have hc8' := (hB.cell (p := ad8.add k) (by rw [block_add]; exact ha8)).trans HC8.out
    have hc10' := (hB.cell (p := ad10.add k) (by rw [block_add]; exact ha10)).trans HC10.out
    go_wp2_with fail
    go_ret
    exact ⟨ret_bool HF.out, hB⟩
set_option maxRecDepth 100000 in
set_option maxHeartbeats 2000000 in
theorem impl_may_no2 (ne ni nn : Value) (n : Net) (xr xb xn xs xf : Value) (x : Asy) (k : Nat) (l : Ends) (s : List Int) (f : List Ends) (r : Int) (ak ap aa : Int) (w : World) (hn : NetR w w.heap.size ne ni nn n) (hx : AsyR w w.heap.size xr xb xn xs xf x) (hz : n.es.length ≤ 2000000)
    (hat : AtP n x k l s f r) (h5 : ak ≠ 5) (hp : portB n k ap = false) :
    Calls Tryz.prog 58 #[.agg #[ne, ni, nn], .agg #[xr, xb, xn, xs, xf], .agg #[.int .i64 ak, .int .i64 k, .int .i64 ap, .int .i64 aa]] w fun e w' => e = .returned (.bool (mayB n x ⟨ak, (k : Int), ap, aa⟩)) ∧ Below w.heap.size w w' := by
  have HF := Lib.hid (may_no2 (aa := aa) hat h5 fun hh => by
    rw [port_at hat.hl, inB_t ⟨hh.1, by omega⟩] at hp
    cases hp).symm
  have k5 : (ak == 5) = false := by rw [beq_eq_false_iff_ne]; exact h5
  have hk := hat.lt
  have hne := hn.e
  have hxs := hx.s.open_
  have hxf := hx.f
  have hxr := hx.r.open_
  obtain ⟨A4, c4, rfl, hc4, hM4, hr4⟩ := hne
  obtain ⟨⟨-, -, -, -⟩, ⟨A5, m5, c5, rfl⟩, A6, m6, c6, rfl⟩ := hn.slices
  obtain ⟨A10, c10, rfl, hc10, hM10, hr10⟩ := hxr
  obtain ⟨-, ⟨A11, m11, c11, rfl⟩, ⟨A12, m12, c12, rfl⟩, -, -⟩ := hx.slices
  obtain ⟨A8, c8, rfl, hc8, hM8, hr8⟩ := hxs
  obtain ⟨A9, c9, rfl, hc9, hM9, hr9⟩ := hxf
  unfold maxLen at hM4 hM8 hM9 hM10
  have hk8 := (List.getElem?_eq_some_iff.1 hat.hs).1
  have hk9 := (List.getElem?_eq_some_iff.1 hat.hf).1
  have hk10 := (List.getElem?_eq_some_iff.1 hat.hr).1
  obtain ⟨ad4, rfl, ha4, hrow4⟩ := hr4 (by omega)
  obtain ⟨ad8, rfl, ha8, hrow8⟩ := hr8 (by omega)
  obtain ⟨ad9, rfl, ha9, hrow9⟩ := hr9 (by omega)
  obtain ⟨ad10, rfl, ha10, hrow10⟩ := hr10 (by omega)
  obtain ⟨u4, hu4, hz4⟩ := hrow4 k l hat.hl
  obtain ⟨u8, hu8, hz8⟩ := hrow8 k s hat.hs
  obtain ⟨u9, hu9, hz9⟩ := hrow9 k f hat.hf
  have hu10 := hrow10 k r hat.hr
  have hin : inB (k : Int) 0 ((n.es.length : Int) - 1) = true := inB_t (by omega)
  clear hrow4 hrow8 hrow9 hrow10 hr4 hr8 hr9 hr10
  clear hz8 hu8 hu10 hu9 hz9 hu4 hz4
  obtain ⟨w0, hw0, hb0, HD, hz0, HS0⟩ := box3 w (.slice (some ad4) n.es.length c4) (.slice A5 m5 c5) (.slice A6 m6 c6) 46
  obtain ⟨w1, hw1, hb1, HY, hz1, HS1⟩ := box5 w0 (.slice (some ad10) x.rounds.length c10) (.slice A11 m11 c11) (.slice A12 m12 c12) (.slice (some ad8) x.slots.length c8) (.slice (some ad9) x.flight.length c9) 50
  replace HD := bk HD hb1
  obtain ⟨w2, hw2, hb2, HA, hz2, HS2⟩ := box4a w1 (.int .i64 ak) (.int .i64 k) (.int .i64 ap) (.int .i64 aa) 52
  replace HD := bk HD hb2
  replace HY := bk HY hb2
  have hB : Below w.heap.size w w2 := bl_trans (bl_trans (hb0) hb1) hb2
  have HW := Lib.hid (show w2 = ((w.alloc (.cells #[.slice (some ad4) n.es.length c4, .slice A5 m5 c5, .slice A6 m6 c6] 46)).alloc (.cells #[.slice (some ad10) x.rounds.length c10, .slice A11 m11 c11, .slice A12 m12 c12, .slice (some ad8) x.slots.length c8, .slice (some ad9) x.flight.length c9] 50)).alloc (.cells #[.int .i64 ak, .int .i64 k, .int .i64 ap, .int .i64 aa] 52) by rw [hw2, hw1, hw0])
  obtain ⟨P1, hP1⟩ : ∃ z, z = w0.heap.size := ⟨_, rfl⟩
  have HP1 := Lib.hid (show w.heap.size + 1 = P1 by rw [hP1, HS0.out])
  have hPl1 : w.heap.size < P1 := by rw [← HP1.out]; omega
  rw [← hP1] at HY hz1
  obtain ⟨P2, hP2⟩ : ∃ z, z = w1.heap.size := ⟨_, rfl⟩
  have HP2 := Lib.hid (show w.heap.size + 1 + 1 = P2 by rw [hP2, HS1.out, HS0.out])
  have hPl2 : w.heap.size < P2 := by rw [← HP2.out]; omega
  rw [← hP2] at HA hz2
  obtain ⟨q0, q1, q2, qf⟩ := cells3 HD
  obtain ⟨⟨y0, y1, y2⟩, ⟨y3, y4⟩, yf⟩ := cells5 HY
  obtain ⟨⟨u0, u1⟩, ⟨u2, u3⟩, uf⟩ := cells4a HA
  have eq0 := q0
  have eq1 := q1
  have eq2 := q2
  have ey0 := y0
  have ey1 := y1
  have ey2 := y2
  have ey3 := y3
  have ey4 := y4
  have eu0 := u0
  have eu1 := u1
  have eu2 := u2
  have eu3 := u3
  rw [HW.out] at eq0 eq1 eq2 ey0 ey1 ey2 ey3 ey4 eu0 eu1 eu2 eu3
  rw [← HP1.out] at ey0 ey1 ey2 ey3 ey4
  rw [← HP2.out] at eu0 eu1 eu2 eu3
  have hzb0 : w.heap.size < w2.heap.size := by omega
  have hzb1 : P1 < w2.heap.size := by omega
  have hzb2 : P2 < w2.heap.size := by omega
  have HN := Lib.hid (hn.up hB)
  have HX := Lib.hid (hx.up hB)
  clear hw2 hw1 hw0 hP1 hP2
  go_enter Tryz.func58, Tryz.ntmps58
  go_wp2_with fail
  rw [HP2.out, HP1.out, ← HW.out]
  clear eq0 eq1 eq2 ey0 ey1 ey2 ey3 ey4 eu0 eu1 eu2 eu3
  refine (impl_hasNode _ _ _ n k w2 HN.out hz).mono ?_
  rintro e w5 ⟨rfl, hb5⟩
  rw [hin]
  have hzhb5 := hb5.size
  clear q0 q1 q2 qf y0 y1 y2 y3 y4 yf u0 u1 u2 u3 uf
  replace HD := bk HD hb5
  replace HY := bk HY hb5
  replace HA := bk HA hb5
  replace hB := bl_trans hB hb5
  obtain ⟨q0, q1, q2, qf⟩ := cells3 HD
  obtain ⟨⟨y0, y1, y2⟩, ⟨y3, y4⟩, yf⟩ := cells5 HY
  obtain ⟨⟨u0, u1⟩, ⟨u2, u3⟩, uf⟩ := cells4a HA
  replace HN := Lib.hid (HN.out.up hb5)
  go_wp2_with fail
  refine (impl_hasPort _ _ _ n k ap w5 HN.out hz).mono ?_
  rintro e w6 ⟨rfl, hb6⟩
  rw [hp]
  go_wp2_with fail
  go_ret
  exact ⟨ret_bool HF.out, bl_trans hB hb6⟩
end Go.Proofs.YtcpbbjocaimocaaGreat
