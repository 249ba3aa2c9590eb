/-
  Which acts are possible, the program's side: mayAsync.
  Which acts are possible, the program's side: mayAsync at a port that there is.
  Which acts are possible, the program's side: mayAsync of a valid state, MayAsync.
-/
import Derived.Test.YtehkcodbcnhhoaaGreatEAsOk
namespace Go.Proofs.YtehkcodbcnhhoaaGreat
section
open Go.RowKit
set_option linter.all false
theorem box4a (w : World) (a b c d : Value) (t : TypeId) : ∃ w0, w0 = w.alloc (.cells #[a, b, c, d] t) ∧ Below w.heap.size w w0 ∧ Hid (w0.heap[w.heap.size]? = some (.cells #[a, b, c, d] t (0, 0))) ∧ w.heap.size < w0.heap.size ∧ Hid (w0.heap.size = w.heap.size + 1) :=
  ⟨_, rfl, bl_alloc (Below.refl _ _) _, Lib.hid (heap_alloc_new w _), by simp, Lib.hid (by simp)⟩
theorem cells4a {w : World} {b : Nat} {v0 v1 v2 v3 : Value} {t : TypeId} (H : Hid (w.heap[b]? = some (.cells #[v0, v1, v2, v3] t (0, 0)))) :
    (w.cell? ⟨b, 0, none⟩ = some v0 ∧ w.cell? ⟨b, 1, none⟩ = some v1) ∧ (w.cell? ⟨b, 2, none⟩ = some v2 ∧ w.cell? ⟨b, 3, none⟩ = some v3) ∧ ∀ i, w.frozen? ⟨b, i, none⟩ = false :=
  ⟨⟨cell_of_row _ _ 0 _ _ (0, 0) H.out, cell_of_row _ _ 1 _ _ (0, 0) H.out⟩, ⟨cell_of_row _ _ 2 _ _ (0, 0) H.out, cell_of_row _ _ 3 _ _ (0, 0) H.out⟩, fun i => frozen_of_row _ _ i _ _ H.out⟩
set_option maxRecDepth 100000 in
theorem impl_may_no1 (ne ni nn : Value) (n : Net) (xr xb xn xs xf : Value) (x : Asy) (ak an ap aa : Int) (w : World) (hn : NetR w w.heap.size ne ni nn n) (hx : AsyR w w.heap.size xr xb xn xs xf x) (hz : n.es.length ≤ 2000000)
  (hno : inB an 0 ((n.es.length : Int) - 1) = false) :
  Calls Tryz.prog 63 #[.agg #[ne, ni, nn], .agg #[xr, xb, xn, xs, xf], .agg #[.int .i64 ak, .int .i64 an, .int .i64 ap, .int .i64 aa]] w fun e w' => e = .returned (.bool (mayB n x ⟨ak, an, ap, aa⟩)) ∧ Below w.heap.size w w' := by
 obtain ⟨⟨A4, m4, c4, rfl⟩, ⟨A5, m5, c5, rfl⟩, A6, m6, c6, rfl⟩ := hn.slices
 obtain ⟨⟨A10, m10, c10, rfl⟩, ⟨A11, m11, c11, rfl⟩, ⟨A12, m12, c12, rfl⟩, ⟨A8, m8, c8, rfl⟩, A9, m9, c9, rfl⟩ := hx.slices
 have HF := Lib.hid (may_no1 (x := x) (ak := ak) (ap := ap) (aa := aa) hno).symm
 obtain ⟨w0, hw0, hb0, HD, hz0, HS0⟩ := box3 w (.slice A4 m4 c4) (.slice A5 m5 c5) (.slice A6 m6 c6) 43
 obtain ⟨w1, hw1, hb1, HY, hz1, HS1⟩ := box5 w0 (.slice A10 m10 c10) (.slice A11 m11 c11) (.slice A12 m12 c12) (.slice A8 m8 c8) (.slice A9 m9 c9) 34
 replace HD := bk HD hb1
 obtain ⟨w2, hw2, hb2, HA, hz2, HS2⟩ := box4a w1 (.int .i64 ak) (.int .i64 an) (.int .i64 ap) (.int .i64 aa) 69
 replace HD := bk HD hb2
 replace HY := bk HY hb2
 have hB : Below w.heap.size w w2 := bl_trans (bl_trans (hb0) hb1) hb2
 have HW := Lib.hid (show w2 = ((w.alloc (.cells #[.slice A4 m4 c4, .slice A5 m5 c5, .slice A6 m6 c6] 43)).alloc (.cells #[.slice A10 m10 c10, .slice A11 m11 c11, .slice A12 m12 c12, .slice A8 m8 c8, .slice A9 m9 c9] 34)).alloc (.cells #[.int .i64 ak, .int .i64 an, .int .i64 ap, .int .i64 aa] 69) by rw [hw2, hw1, hw0])
 obtain ⟨P1, hP1⟩ : ∃ z, z = w0.heap.size := ⟨_, rfl⟩
 have HP1 := Lib.hid (show w.heap.size + 1 = P1 by rw [hP1, HS0.out])
 have hPl1 : w.heap.size < P1 := by rw [← HP1.out]; omega
 rw [← hP1] at HY hz1
 obtain ⟨P2, hP2⟩ : ∃ z, z = w1.heap.size := ⟨_, rfl⟩
 have HP2 := Lib.hid (show w.heap.size + 1 + 1 = P2 by rw [hP2, HS1.out, HS0.out])
 have hPl2 : w.heap.size < P2 := by rw [← HP2.out]; omega
 rw [← hP2] at HA hz2
 obtain ⟨q0, q1, q2, qf⟩ := cells3 HD
 obtain ⟨⟨y0, y1, y2⟩, ⟨y3, y4⟩, yf⟩ := cells5 HY
 obtain ⟨⟨u0, u1⟩, ⟨u2, u3⟩, uf⟩ := cells4a HA
 have eq0 := q0
 have eq1 := q1
 have eq2 := q2
 have ey0 := y0
 have ey1 := y1
 have ey2 := y2
 have ey3 := y3
 have ey4 := y4
 have eu0 := u0
 have eu1 := u1
 have eu2 := u2
 have eu3 := u3
 rw [HW.out] at eq0 eq1 eq2 ey0 ey1 ey2 ey3 ey4 eu0 eu1 eu2 eu3
 rw [← HP1.out] at ey0 ey1 ey2 ey3 ey4
 rw [← HP2.out] at eu0 eu1 eu2 eu3
 have hzb0 : w.heap.size < w2.heap.size := by omega
 have hzb1 : P1 < w2.heap.size := by omega
 have hzb2 : P2 < w2.heap.size := by omega
 have HN := Lib.hid (hn.up hB)
 have HX := Lib.hid (hx.up hB)
 clear hw2 hw1 hw0 hP1 hP2
 go_enter Tryz.func63, Tryz.ntmps63
 go_wp2_with fail
 rw [HP2.out, HP1.out, ← HW.out]
 clear eq0 eq1 eq2 ey0 ey1 ey2 ey3 ey4 eu0 eu1 eu2 eu3
 refine (impl_hasNode _ _ _ n an w2 HN.out hz).mono ?_
 rintro e w5 ⟨rfl, hb5⟩
 rw [hno]
 go_wp2_with fail
 go_ret
 exact ⟨ret_bool HF.out, bl_trans hB hb5⟩
set_option maxRecDepth 100000 in
set_option maxHeartbeats 2000000 in
theorem impl_may5 (ne ni nn : Value) (n : Net) (xr xb xn xs xf : Value) (x : Asy) (k : Nat) (l : Ends) (s : List Int) (f : List Ends) (r : Int) (ap aa : Int) (w : World) (hn : NetR w w.heap.size ne ni nn n) (hx : AsyR w w.heap.size xr xb xn xs xf x) (hz : n.es.length ≤ 2000000)
  (hat : AtP n x k l s f r) :
  Calls Tryz.prog 63 #[.agg #[ne, ni, nn], .agg #[xr, xb, xn, xs, xf], .agg #[.int .i64 5, .int .i64 k, .int .i64 ap, .int .i64 aa]] w fun e w' => e = .returned (.bool (mayB n x ⟨5, (k : Int), ap, aa⟩)) ∧ Below w.heap.size w w' := by
 have HMS := Lib.hid (may_step hat ap aa)
 have hk := hat.lt
 have hne := hn.e
 have hxs := hx.s.open_
 have hxf := hx.f
 have hxr := hx.r.open_
 obtain ⟨A4, c4, rfl, hc4, hM4, hr4⟩ := hne
 obtain ⟨⟨-, -, -, -⟩, ⟨A5, m5, c5, rfl⟩, A6, m6, c6, rfl⟩ := hn.slices
 obtain ⟨A10, c10, rfl, hc10, hM10, hr10⟩ := hxr
 obtain ⟨-, ⟨A11, m11, c11, rfl⟩, ⟨A12, m12, c12, rfl⟩, -, -⟩ := hx.slices
 obtain ⟨A8, c8, rfl, hc8, hM8, hr8⟩ := hxs
 obtain ⟨A9, c9, rfl, hc9, hM9, hr9⟩ := hxf
 unfold maxLen at hM4 hM8 hM9 hM10
 have hk8 := (List.getElem?_eq_some_iff.1 hat.hs).1
 have hk9 := (List.getElem?_eq_some_iff.1 hat.hf).1
 have hk10 := (List.getElem?_eq_some_iff.1 hat.hr).1
 obtain ⟨ad4, rfl, ha4, hrow4⟩ := hr4 (by omega)
 obtain ⟨ad8, rfl, ha8, hrow8⟩ := hr8 (by omega)
 obtain ⟨ad9, rfl, ha9, hrow9⟩ := hr9 (by omega)
 obtain ⟨ad10, rfl, ha10, hrow10⟩ := hr10 (by omega)
 obtain ⟨u4, hu4, hz4⟩ := hrow4 k l hat.hl
 obtain ⟨u8, hu8, hz8⟩ := hrow8 k s hat.hs
 obtain ⟨u9, hu9, hz9⟩ := hrow9 k f hat.hf
 have hu10 := hrow10 k r hat.hr
 have hin : inB (k : Int) 0 ((n.es.length : Int) - 1) = true := inB_t (by omega)
 clear hrow4 hrow8 hrow9 hrow10 hr4 hr8 hr9 hr10
 have HZ8 := Lib.hid hz8
 obtain ⟨B8, d8, rfl, hd8, hD8, -⟩ := hz8.open_
 unfold maxLen at hD8
 have HC8 := Lib.hid hu8
 have HC10 := Lib.hid hu10
 clear hz8 hu8 hu10 hu9 hz9 hu4 hz4
 obtain ⟨w0, hw0, hb0, HD, hz0, HS0⟩ := box3 w (.slice (some ad4) n.es.length c4) (.slice A5 m5 c5) (.slice A6 m6 c6) 43
 obtain ⟨w1, hw1, hb1, HY, hz1, HS1⟩ := box5 w0 (.slice (some ad10) x.rounds.length c10) (.slice A11 m11 c11) (.slice A12 m12 c12) (.slice (some ad8) x.slots.length c8) (.slice (some ad9) x.flight.length c9) 34
 replace HD := bk HD hb1
 obtain ⟨w2, hw2, hb2, HA, hz2, HS2⟩ := box4a w1 (.int .i64 5) (.int .i64 k) (.int .i64 ap) (.int .i64 aa) 69
 replace HD := bk HD hb2
 replace HY := bk HY hb2
 have hB : Below w.heap.size w w2 := bl_trans (bl_trans (hb0) hb1) hb2
 have HW := Lib.hid (show w2 = ((w.alloc (.cells #[.slice (some ad4) n.es.length c4, .slice A5 m5 c5, .slice A6 m6 c6] 43)).alloc (.cells #[.slice (some ad10) x.rounds.length c10, .slice A11 m11 c11, .slice A12 m12 c12, .slice (some ad8) x.slots.length c8, .slice (some ad9) x.flight.length c9] 34)).alloc (.cells #[.int .i64 5, .int .i64 k, .int .i64 ap, .int .i64 aa] 69) by rw [hw2, hw1, hw0])
 obtain ⟨P1, hP1⟩ : ∃ z, z = w0.heap.size := ⟨_, rfl⟩
 have HP1 := Lib.hid (show w.heap.size + 1 = P1 by rw [hP1, HS0.out])
 have hPl1 : w.heap.size < P1 := by rw [← HP1.out]; omega
 rw [← hP1] at HY hz1
 obtain ⟨P2, hP2⟩ : ∃ z, z = w1.heap.size := ⟨_, rfl⟩
 have HP2 := Lib.hid (show w.heap.size + 1 + 1 = P2 by rw [hP2, HS1.out, HS0.out])
 have hPl2 : w.heap.size < P2 := by rw [← HP2.out]; omega
 rw [← hP2] at HA hz2
 obtain ⟨q0, q1, q2, qf⟩ := cells3 HD
 obtain ⟨⟨y0, y1, y2⟩, ⟨y3, y4⟩, yf⟩ := cells5 HY
 obtain ⟨⟨u0, u1⟩, ⟨u2, u3⟩, uf⟩ := cells4a HA
 have eq0 := q0
 have eq1 := q1
 have eq2 := q2
 have ey0 := y0
 have ey1 := y1
 have ey2 := y2
 have ey3 := y3
 have ey4 := y4
 have eu0 := u0
 have eu1 := u1
 have eu2 := u2
 have eu3 := u3
 rw [HW.out] at eq0 eq1 eq2 ey0 ey1 ey2 ey3 ey4 eu0 eu1 eu2 eu3
 rw [← HP1.out] at ey0 ey1 ey2 ey3 ey4
 rw [← HP2.out] at eu0 eu1 eu2 eu3
 have hzb0 : w.heap.size < w2.heap.size := by omega
 have hzb1 : P1 < w2.heap.size := by omega
 have hzb2 : P2 < w2.heap.size := by omega
 have HN := Lib.hid (hn.up hB)
 have HX := Lib.hid (hx.up hB)
 clear hw2 hw1 hw0 hP1 hP2
 by_cases h1 : ap = 0
 ·
  have k1 : (ap == 0) = true := by rw [beq_iff_eq]; exact h1
  by_cases h2 : aa = 0
  ·
   have k2 : (aa == 0) = true := by rw [beq_iff_eq]; exact h2
   by_cases h3 : r < 40
   ·
    have HF := Lib.hid (show (!s.contains (-1)) = mayB n x ⟨5, (k : Int), ap, aa⟩ by rw [HMS.out, decide_eq_true h1, decide_eq_true h2, decide_eq_true h3]; rfl)
    clear h1 h2
    go_enter Tryz.func63, Tryz.ntmps63
    go_wp2_with fail
    rw [HP2.out, HP1.out, ← HW.out]
    clear eq0 eq1 eq2 ey0 ey1 ey2 ey3 ey4 eu0 eu1 eu2 eu3
    refine (impl_hasNode _ _ _ n k w2 HN.out hz).mono ?_
    rintro e w5 ⟨rfl, hb5⟩
    rw [hin]
    have hzhb5 := hb5.size
    clear q0 q1 q2 qf y0 y1 y2 y3 y4 yf u0 u1 u2 u3 uf
    replace HD := bk HD hb5
    replace HY := bk HY hb5
    replace HA := bk HA hb5
    replace hB := bl_trans hB hb5
    obtain ⟨q0, q1, q2, qf⟩ := cells3 HD
    obtain ⟨⟨y0, y1, y2⟩, ⟨y3, y4⟩, yf⟩ := cells5 HY
    obtain ⟨⟨u0, u1⟩, ⟨u2, u3⟩, uf⟩ := cells4a HA
    replace HN := Lib.hid (HN.out.up hb5)
    have hc8' := (hB.cell (p := ad8.add k) (by rw [block_add]; exact ha8)).trans HC8.out
    have hc10' := (hB.cell (p := ad10.add k) (by rw [block_add]; exact ha10)).trans HC10.out
    replace HZ8 := Lib.hid ((HZ8.out.below hB).more hB.size)
    go_wp2_with fail
    refine (impl_Contains _ s (-1) w5 HZ8.out).mono ?_
    rintro e w' ⟨rfl, rfl⟩
    go_wp2_with fail
    go_ret
    exact ⟨ret_bool (by rw [← HF.out]; simp), hB⟩
   ·
    have HF := Lib.hid (show false = mayB n x ⟨5, (k : Int), ap, aa⟩ by rw [HMS.out, decide_eq_true h1, decide_eq_true h2, decide_eq_false h3]; rfl)
    clear h1 h2
    go_enter Tryz.func63, Tryz.ntmps63
    go_wp2_with fail
    rw [HP2.out, HP1.out, ← HW.out]
    clear eq0 eq1 eq2 ey0 ey1 ey2 ey3 ey4 eu0 eu1 eu2 eu3
    refine (impl_hasNode _ _ _ n k w2 HN.out hz).mono ?_
    rintro e w5 ⟨rfl, hb5⟩
    rw [hin]
    have hzhb5 := hb5.size
    clear q0 q1 q2 qf y0 y1 y2 y3 y4 yf u0 u1 u2 u3 uf
    replace HD := bk HD hb5
    replace HY := bk HY hb5
    replace HA := bk HA hb5
    replace hB := bl_trans hB hb5
    obtain ⟨q0, q1, q2, qf⟩ := cells3 HD
    obtain ⟨⟨y0, y1, y2⟩, ⟨y3, y4⟩, yf⟩ := cells5 HY
    obtain ⟨⟨u0, u1⟩, ⟨u2, u3⟩, uf⟩ := cells4a HA
    replace HN := Lib.hid (HN.out.up hb5)
    have hc8' := (hB.cell (p := ad8.add k) (by rw [block_add]; exact ha8)).trans HC8.out
    have hc10' := (hB.cell (p := ad10.add k) (by rw [block_add]; exact ha10)).trans HC10.out
    go_wp2_with fail
    go_ret
    exact ⟨ret_bool HF.out, hB⟩
  ·
   have k2 : (aa == 0) = false := by rw [beq_eq_false_iff_ne]; exact h2
   have HF := Lib.hid (show false = mayB n x ⟨5, (k : Int), ap, aa⟩ by rw [HMS.out, decide_eq_true h1, decide_eq_false h2]; rfl)
   clear h1
   go_enter Tryz.func63, Tryz.ntmps63
   go_wp2_with fail
   rw [HP2.out, HP1.out, ← HW.out]
   clear eq0 eq1 eq2 ey0 ey1 ey2 ey3 ey4 eu0 eu1 eu2 eu3
   refine (impl_hasNode _ _ _ n k w2 HN.out hz).mono ?_
   rintro e w5 ⟨rfl, hb5⟩
   rw [hin]
   have hzhb5 := hb5.size
   clear q0 q1 q2 qf y0 y1 y2 y3 y4 yf u0 u1 u2 u3 uf
   replace HD := bk HD hb5
   replace HY := bk HY hb5
   replace HA := bk HA hb5
   replace hB := bl_trans hB hb5
   obtain ⟨q0, q1, q2, qf⟩ := cells3 HD
   obtain ⟨⟨y0, y1, y2⟩, ⟨y3, y4⟩, yf⟩ := cells5 HY
   obtain ⟨⟨u0, u1⟩, ⟨u2, u3⟩, uf⟩ := cells4a HA
   replace HN := Lib.hid (HN.out.up hb5)
   have hc8' := (hB.cell (p := ad8.add k) (by rw [block_add]; exact ha8)).trans HC8.out
   have hc10' := (hB.cell (p := ad10.add k) (by rw [block_add]; exact ha10)).trans HC10.out
   go_wp2_with fail
   go_ret
   exact ⟨ret_bool HF.out, hB⟩
 ·
  have k1 : (ap == 0) = false := by rw [beq_eq_false_iff_ne]; exact h1
  have HF := Lib.hid (show false = mayB n x ⟨5, (k : Int), ap, aa⟩ by rw [HMS.out, decide_eq_false h1]; rfl)
  go_enter Tryz.func63, Tryz.ntmps63
  go_wp2_with fail
  rw [HP2.out, HP1.out, ← HW.out]
  clear eq0 eq1 eq2 ey0 ey1 ey2 ey3 ey4 eu0 eu1 eu2 eu3
  refine (impl_hasNode _ _ _ n k w2 HN.out hz).mono ?_
  rintro e w5 ⟨rfl, hb5⟩
  rw [hin]
  have hzhb5 := hb5.size
  clear q0 q1 q2 qf y0 y1 y2 y3 y4 yf u0 u1 u2 u3 uf
  replace HD := bk HD hb5
  replace HY := bk HY hb5
  replace HA := bk HA hb5
  replace hB := bl_trans hB hb5
  obtain ⟨q0, q1, q2, qf⟩ := cells3 HD
  obtain ⟨⟨y0, y1, y2⟩, ⟨y3, y4⟩, yf⟩ := cells5 HY
  obtain ⟨⟨u0, u1⟩, ⟨u2, u3⟩, uf⟩ := cells4a HA
  replace HN := Lib.hid (HN.out.up hb5)
  have hc8' := (hB.cell (p := ad8.add k) (by rw [block_add]; exact ha8)).trans HC8.out
  have hc10' := (hB.cell (p := ad10.add k) (by rw [block_add]; exact ha10)).trans HC10.out
  go_wp2_with fail
  go_ret
  exact ⟨ret_bool HF.out, hB⟩
set_option maxRecDepth 100000 in
set_option maxHeartbeats 2000000 in
theorem impl_may_no2 (ne ni nn : Value) (n : Net) (xr xb xn xs xf : Value) (x : Asy) (k : Nat) (l : Ends) (s : List Int) (f : List Ends) (r : Int) (ak ap aa : Int) (w : World) (hn : NetR w w.heap.size ne ni nn n) (hx : AsyR w w.heap.size xr xb xn xs xf x) (hz : n.es.length ≤ 2000000)
  (hat : AtP n x k l s f r) (h5 : ak ≠ 5) (hp : portB n k ap = false) :
  Calls Tryz.prog 63 #[.agg #[ne, ni, nn], .agg #[xr, xb, xn, xs, xf], .agg #[.int .i64 ak, .int .i64 k, .int .i64 ap, .int .i64 aa]] w fun e w' => e = .returned (.bool (mayB n x ⟨ak, (k : Int), ap, aa⟩)) ∧ Below w.heap.size w w' := by
 have HF := Lib.hid (may_no2 (aa := aa) hat h5 fun hh => by
  rw [port_at hat.hl, inB_t ⟨hh.1, by omega⟩] at hp
  cases hp).symm
 have k5 : (ak == 5) = false := by rw [beq_eq_false_iff_ne]; exact h5
 have hk := hat.lt
 have hne := hn.e
 have hxs := hx.s.open_
 have hxf := hx.f
 have hxr := hx.r.open_
 obtain ⟨A4, c4, rfl, hc4, hM4, hr4⟩ := hne
 obtain ⟨⟨-, -, -, -⟩, ⟨A5, m5, c5, rfl⟩, A6, m6, c6, rfl⟩ := hn.slices
 obtain ⟨A10, c10, rfl, hc10, hM10, hr10⟩ := hxr
 obtain ⟨-, ⟨A11, m11, c11, rfl⟩, ⟨A12, m12, c12, rfl⟩, -, -⟩ := hx.slices
 obtain ⟨A8, c8, rfl, hc8, hM8, hr8⟩ := hxs
 obtain ⟨A9, c9, rfl, hc9, hM9, hr9⟩ := hxf
 unfold maxLen at hM4 hM8 hM9 hM10
 have hk8 := (List.getElem?_eq_some_iff.1 hat.hs).1
 have hk9 := (List.getElem?_eq_some_iff.1 hat.hf).1
 have hk10 := (List.getElem?_eq_some_iff.1 hat.hr).1
 obtain ⟨ad4, rfl, ha4, hrow4⟩ := hr4 (by omega)
 obtain ⟨ad8, rfl, ha8, hrow8⟩ := hr8 (by omega)
 obtain ⟨ad9, rfl, ha9, hrow9⟩ := hr9 (by omega)
 obtain ⟨ad10, rfl, ha10, hrow10⟩ := hr10 (by omega)
 obtain ⟨u4, hu4, hz4⟩ := hrow4 k l hat.hl
 obtain ⟨u8, hu8, hz8⟩ := hrow8 k s hat.hs
 obtain ⟨u9, hu9, hz9⟩ := hrow9 k f hat.hf
 have hu10 := hrow10 k r hat.hr
 have hin : inB (k : Int) 0 ((n.es.length : Int) - 1) = true := inB_t (by omega)
 clear hrow4 hrow8 hrow9 hrow10 hr4 hr8 hr9 hr10
 clear hz8 hu8 hu10 hu9 hz9 hu4 hz4
 obtain ⟨w0, hw0, hb0, HD, hz0, HS0⟩ := box3 w (.slice (some ad4) n.es.length c4) (.slice A5 m5 c5) (.slice A6 m6 c6) 43
 obtain ⟨w1, hw1, hb1, HY, hz1, HS1⟩ := box5 w0 (.slice (some ad10) x.rounds.length c10) (.slice A11 m11 c11) (.slice A12 m12 c12) (.slice (some ad8) x.slots.length c8) (.slice (some ad9) x.flight.length c9) 34
 replace HD := bk HD hb1
 obtain ⟨w2, hw2, hb2, HA, hz2, HS2⟩ := box4a w1 (.int .i64 ak) (.int .i64 k) (.int .i64 ap) (.int .i64 aa) 69
 replace HD := bk HD hb2
 replace HY := bk HY hb2
 have hB : Below w.heap.size w w2 := bl_trans (bl_trans (hb0) hb1) hb2
 have HW := Lib.hid (show w2 = ((w.alloc (.cells #[.slice (some ad4) n.es.length c4, .slice A5 m5 c5, .slice A6 m6 c6] 43)).alloc (.cells #[.slice (some ad10) x.rounds.length c10, .slice A11 m11 c11, .slice A12 m12 c12, .slice (some ad8) x.slots.length c8, .slice (some ad9) x.flight.length c9] 34)).alloc (.cells #[.int .i64 ak, .int .i64 k, .int .i64 ap, .int .i64 aa] 69) by rw [hw2, hw1, hw0])
 obtain ⟨P1, hP1⟩ : ∃ z, z = w0.heap.size := ⟨_, rfl⟩
 have HP1 := Lib.hid (show w.heap.size + 1 = P1 by rw [hP1, HS0.out])
 have hPl1 : w.heap.size < P1 := by rw [← HP1.out]; omega
 rw [← hP1] at HY hz1
 obtain ⟨P2, hP2⟩ : ∃ z, z = w1.heap.size := ⟨_, rfl⟩
 have HP2 := Lib.hid (show w.heap.size + 1 + 1 = P2 by rw [hP2, HS1.out, HS0.out])
 have hPl2 : w.heap.size < P2 := by rw [← HP2.out]; omega
 rw [← hP2] at HA hz2
 obtain ⟨q0, q1, q2, qf⟩ := cells3 HD
 obtain ⟨⟨y0, y1, y2⟩, ⟨y3, y4⟩, yf⟩ := cells5 HY
 obtain ⟨⟨u0, u1⟩, ⟨u2, u3⟩, uf⟩ := cells4a HA
 have eq0 := q0
 have eq1 := q1
 have eq2 := q2
 have ey0 := y0
 have ey1 := y1
 have ey2 := y2
 have ey3 := y3
 have ey4 := y4
 have eu0 := u0
 have eu1 := u1
 have eu2 := u2
 have eu3 := u3
 rw [HW.out] at eq0 eq1 eq2 ey0 ey1 ey2 ey3 ey4 eu0 eu1 eu2 eu3
 rw [← HP1.out] at ey0 ey1 ey2 ey3 ey4
 rw [← HP2.out] at eu0 eu1 eu2 eu3
 have hzb0 : w.heap.size < w2.heap.size := by omega
 have hzb1 : P1 < w2.heap.size := by omega
 have hzb2 : P2 < w2.heap.size := by omega
 have HN := Lib.hid (hn.up hB)
 have HX := Lib.hid (hx.up hB)
 clear hw2 hw1 hw0 hP1 hP2
 go_enter Tryz.func63, Tryz.ntmps63
 go_wp2_with fail
 rw [HP2.out, HP1.out, ← HW.out]
 clear eq0 eq1 eq2 ey0 ey1 ey2 ey3 ey4 eu0 eu1 eu2 eu3
 refine (impl_hasNode _ _ _ n k w2 HN.out hz).mono ?_
 rintro e w5 ⟨rfl, hb5⟩
 rw [hin]
 have hzhb5 := hb5.size
 clear q0 q1 q2 qf y0 y1 y2 y3 y4 yf u0 u1 u2 u3 uf
 replace HD := bk HD hb5
 replace HY := bk HY hb5
 replace HA := bk HA hb5
 replace hB := bl_trans hB hb5
 obtain ⟨q0, q1, q2, qf⟩ := cells3 HD
 obtain ⟨⟨y0, y1, y2⟩, ⟨y3, y4⟩, yf⟩ := cells5 HY
 obtain ⟨⟨u0, u1⟩, ⟨u2, u3⟩, uf⟩ := cells4a HA
 replace HN := Lib.hid (HN.out.up hb5)
 go_wp2_with fail
 refine (impl_hasPort _ _ _ n k ap w5 HN.out hz).mono ?_
 rintro e w6 ⟨rfl, hb6⟩
 rw [hp]
 go_wp2_with fail
 go_ret
 exact ⟨ret_bool HF.out, bl_trans hB hb6⟩
end
section
open Go.RowKit
set_option linter.all false
set_option maxRecDepth 100000 in
set_option maxHeartbeats 2000000 in
theorem impl_mayK (ne ni nn : Value) (n : Net) (xr xb xn xs xf : Value) (x : Asy) (k : Nat) (l : Ends) (s : List Int) (f : List Ends) (r : Int) (p : Nat) (ls : Ends) (ak aa : Int) (w : World) (hn : NetR w w.heap.size ne ni nn n) (hx : AsyR w w.heap.size xr xb xn xs xf x) (hz : n.es.length ≤ 2000000)
  (hat : AtP n x k l s f r) (hp : f[p]? = some ls) (h5 : ak ≠ 5) (h1 : ak ≠ 1) :
  Calls Tryz.prog 63 #[.agg #[ne, ni, nn], .agg #[xr, xb, xn, xs, xf], .agg #[.int .i64 ak, .int .i64 k, .int .i64 p, .int .i64 aa]] w fun e w' => e = .returned (.bool (mayB n x ⟨ak, (k : Int), (p : Int), aa⟩)) ∧ Below w.heap.size w w' := by
 have k5 : (ak == 5) = false := by rw [beq_eq_false_iff_ne]; exact h5
 have k1 : (ak == 1) = false := by rw [beq_eq_false_iff_ne]; exact h1
 have HM2 := Lib.hid (fun ha => may_let (ak := ak) hat hp ha aa)
 have HM4 := Lib.hid (may_copy hat hp aa)
 have HME := Lib.hid (fun h2 h3 h4 => may_else (ap := (p : Int)) (aa := aa) hat h5 h1 h2 h3 h4)
 have HPB := Lib.hid (show portB n k (p : Int) = true by rw [port_at hat.hl]; exact inB_t (by have := hat.lp hp; omega))
 have h12 := hat.ls ls (List.mem_of_getElem? hp)
 have hk := hat.lt
 have hne := hn.e
 have hxs := hx.s.open_
 have hxf := hx.f
 have hxr := hx.r.open_
 obtain ⟨A4, c4, rfl, hc4, hM4, hr4⟩ := hne
 obtain ⟨⟨-, -, -, -⟩, ⟨A5, m5, c5, rfl⟩, A6, m6, c6, rfl⟩ := hn.slices
 obtain ⟨A10, c10, rfl, hc10, hM10, hr10⟩ := hxr
 obtain ⟨-, ⟨A11, m11, c11, rfl⟩, ⟨A12, m12, c12, rfl⟩, -, -⟩ := hx.slices
 obtain ⟨A8, c8, rfl, hc8, hM8, hr8⟩ := hxs
 obtain ⟨A9, c9, rfl, hc9, hM9, hr9⟩ := hxf
 unfold maxLen at hM4 hM8 hM9 hM10
 have hk8 := (List.getElem?_eq_some_iff.1 hat.hs).1
 have hk9 := (List.getElem?_eq_some_iff.1 hat.hf).1
 have hk10 := (List.getElem?_eq_some_iff.1 hat.hr).1
 obtain ⟨ad4, rfl, ha4, hrow4⟩ := hr4 (by omega)
 obtain ⟨ad8, rfl, ha8, hrow8⟩ := hr8 (by omega)
 obtain ⟨ad9, rfl, ha9, hrow9⟩ := hr9 (by omega)
 obtain ⟨ad10, rfl, ha10, hrow10⟩ := hr10 (by omega)
 obtain ⟨u4, hu4, hz4⟩ := hrow4 k l hat.hl
 obtain ⟨u8, hu8, hz8⟩ := hrow8 k s hat.hs
 obtain ⟨u9, hu9, hz9⟩ := hrow9 k f hat.hf
 have hu10 := hrow10 k r hat.hr
 have hin : inB (k : Int) 0 ((n.es.length : Int) - 1) = true := inB_t (by omega)
 clear hrow4 hrow8 hrow9 hrow10 hr4 hr8 hr9 hr10
 obtain ⟨B9, d9, rfl, hd9, hD9, hrf⟩ := hz9
 unfold maxLen at hD9
 have hpl := (List.getElem?_eq_some_iff.1 hp).1
 obtain ⟨adf, rfl, haf, hrowf⟩ := hrf (by omega)
 obtain ⟨ul, hul, hzl⟩ := hrowf p ls hp
 obtain ⟨Bl, dl, rfl, hdl, hDl, -, -⟩ := hzl
 unfold maxLen at hDl
 have HC9 := Lib.hid hu9
 have HC9P := Lib.hid hul
 clear hz8 hu8 hu10 hu9 hu4 hz4 hul hrowf hrf h5 h1 hp
 obtain ⟨w0, hw0, hb0, HD, hz0, HS0⟩ := box3 w (.slice (some ad4) n.es.length c4) (.slice A5 m5 c5) (.slice A6 m6 c6) 43
 obtain ⟨w1, hw1, hb1, HY, hz1, HS1⟩ := box5 w0 (.slice (some ad10) x.rounds.length c10) (.slice A11 m11 c11) (.slice A12 m12 c12) (.slice (some ad8) x.slots.length c8) (.slice (some ad9) x.flight.length c9) 34
 replace HD := bk HD hb1
 obtain ⟨w2, hw2, hb2, HA, hz2, HS2⟩ := box4a w1 (.int .i64 ak) (.int .i64 k) (.int .i64 p) (.int .i64 aa) 69
 replace HD := bk HD hb2
 replace HY := bk HY hb2
 have hB : Below w.heap.size w w2 := bl_trans (bl_trans (hb0) hb1) hb2
 have HW := Lib.hid (show w2 = ((w.alloc (.cells #[.slice (some ad4) n.es.length c4, .slice A5 m5 c5, .slice A6 m6 c6] 43)).alloc (.cells #[.slice (some ad10) x.rounds.length c10, .slice A11 m11 c11, .slice A12 m12 c12, .slice (some ad8) x.slots.length c8, .slice (some ad9) x.flight.length c9] 34)).alloc (.cells #[.int .i64 ak, .int .i64 k, .int .i64 p, .int .i64 aa] 69) by rw [hw2, hw1, hw0])
 obtain ⟨P1, hP1⟩ : ∃ z, z = w0.heap.size := ⟨_, rfl⟩
 have HP1 := Lib.hid (show w.heap.size + 1 = P1 by rw [hP1, HS0.out])
 have hPl1 : w.heap.size < P1 := by rw [← HP1.out]; omega
 rw [← hP1] at HY hz1
 obtain ⟨P2, hP2⟩ : ∃ z, z = w1.heap.size := ⟨_, rfl⟩
 have HP2 := Lib.hid (show w.heap.size + 1 + 1 = P2 by rw [hP2, HS1.out, HS0.out])
 have hPl2 : w.heap.size < P2 := by rw [← HP2.out]; omega
 rw [← hP2] at HA hz2
 obtain ⟨q0, q1, q2, qf⟩ := cells3 HD
 obtain ⟨⟨y0, y1, y2⟩, ⟨y3, y4⟩, yf⟩ := cells5 HY
 obtain ⟨⟨u0, u1⟩, ⟨u2, u3⟩, uf⟩ := cells4a HA
 have eq0 := q0
 have eq1 := q1
 have eq2 := q2
 have ey0 := y0
 have ey1 := y1
 have ey2 := y2
 have ey3 := y3
 have ey4 := y4
 have eu0 := u0
 have eu1 := u1
 have eu2 := u2
 have eu3 := u3
 rw [HW.out] at eq0 eq1 eq2 ey0 ey1 ey2 ey3 ey4 eu0 eu1 eu2 eu3
 rw [← HP1.out] at ey0 ey1 ey2 ey3 ey4
 rw [← HP2.out] at eu0 eu1 eu2 eu3
 have hzb0 : w.heap.size < w2.heap.size := by omega
 have hzb1 : P1 < w2.heap.size := by omega
 have hzb2 : P2 < w2.heap.size := by omega
 have HN := Lib.hid (hn.up hB)
 have HX := Lib.hid (hx.up hB)
 clear hw2 hw1 hw0 hP1 hP2
 have hwr : IntKind.i64.wrap ((ls.length : Int) - 1) = (ls.length : Int) - 1 := IntWalk.i64_in _ (by omega)
 go_enter Tryz.func63, Tryz.ntmps63
 go_wp2_with fail
 rw [HP2.out, HP1.out, ← HW.out]
 clear eq0 eq1 eq2 ey0 ey1 ey2 ey3 ey4 eu0 eu1 eu2 eu3
 refine (impl_hasNode _ _ _ n k w2 HN.out hz).mono ?_
 rintro e w5 ⟨rfl, hb5⟩
 rw [hin]
 have hzhb5 := hb5.size
 clear q0 q1 q2 qf y0 y1 y2 y3 y4 yf u0 u1 u2 u3 uf
 replace HD := bk HD hb5
 replace HY := bk HY hb5
 replace HA := bk HA hb5
 replace hB := bl_trans hB hb5
 obtain ⟨q0, q1, q2, qf⟩ := cells3 HD
 obtain ⟨⟨y0, y1, y2⟩, ⟨y3, y4⟩, yf⟩ := cells5 HY
 obtain ⟨⟨u0, u1⟩, ⟨u2, u3⟩, uf⟩ := cells4a HA
 replace HN := Lib.hid (HN.out.up hb5)
 go_wp2_with fail
 refine (impl_hasPort _ _ _ n k p w5 HN.out hz).mono ?_
 rintro e w6 ⟨rfl, hb6⟩
 rw [HPB.out]
 have hzhb6 := hb6.size
 clear q0 q1 q2 qf y0 y1 y2 y3 y4 yf u0 u1 u2 u3 uf
 replace HD := bk HD hb6
 replace HY := bk HY hb6
 replace HA := bk HA hb6
 replace hB := bl_trans hB hb6
 obtain ⟨q0, q1, q2, qf⟩ := cells3 HD
 obtain ⟨⟨y0, y1, y2⟩, ⟨y3, y4⟩, yf⟩ := cells5 HY
 obtain ⟨⟨u0, u1⟩, ⟨u2, u3⟩, uf⟩ := cells4a HA
 have hc9' := (hB.cell (p := ad9.add k) (by rw [block_add]; exact ha9)).trans HC9.out
 have hc9p := (hB.cell (p := adf.add p) (by rw [block_add]; exact haf)).trans HC9P.out
 go_wp2_with fail
 refine wp_region_held_drew (S := fun w' => w'.cell? ⟨P1, 4, none⟩ = some (.slice (some ad9) x.flight.length c9) ∧ w'.cell? ⟨P2, 1, none⟩ = some (.int .i64 (k : Int)) ∧ w'.cell? ⟨P2, 2, none⟩ = some (.int .i64 (p : Int)) ∧ w'.cell? (ad9.add k) = some (.slice (some adf) f.length d9) ∧ w'.cell? (adf.add p) = some (.slice Bl ls.length dl)) (by kernel_rfl) ?_ (fun hHeld => ?_)
 ·
  go_keep
 refine stk 0 51 ?_
 refine stk 1 52 ?_
 refine stk 2 53 ?_
 refine stk 3 54 ?_
 refine stk 4 55 ?_
 refine stk 5 56 ?_
 refine stk 6 57 ?_
 refine stk 7 58 ?_
 refine stk 8 59 ?_
 refine stk 9 60 ?_
 refine stk 10 61 ?_
 refine stk 11 7 ?_
 refine wpAnyH_done (by kernel_rfl) ?_ _
 by_cases h2 : ak = 2 ∨ ak = 3
 ·
  have HF := Lib.hid (show inB aa 0 ((ls.length : Int) - 1) = mayB n x ⟨ak, (k : Int), (p : Int), aa⟩ by
   rw [HM2.out h2]
   by_cases hh : 0 ≤ aa ∧ aa < ls.length
   ·
    rw [decide_eq_true hh, inB_t (by omega)]
   ·
    rw [decide_eq_false hh, inB_f (by omega)])
  by_cases h3 : ak = 2
  ·
   have k2 : (ak == 2) = true := by rw [beq_iff_eq]; exact h3
   clear h2 h3
   go_wp2_with (go_at_call 31; (try rw [hwr]); refine (impl_within _ _ _ _).mono ?_; rintro e w' ⟨rfl, rfl⟩)
   go_ret
   exact ⟨ret_bool HF.out, hB.drew⟩
  ·
   have k2 : (ak == 2) = false := by rw [beq_eq_false_iff_ne]; exact h3
   have k3 : (ak == 3) = true := by rw [beq_iff_eq]; omega
   clear h2 h3
   go_wp2_with (go_at_call 31; (try rw [hwr]); refine (impl_within _ _ _ _).mono ?_; rintro e w' ⟨rfl, rfl⟩)
   go_ret
   exact ⟨ret_bool HF.out, hB.drew⟩
 ·
  have k2 : (ak == 2) = false := by rw [beq_eq_false_iff_ne]; omega
  have k3 : (ak == 3) = false := by rw [beq_eq_false_iff_ne]; omega
  by_cases h4 : ak = 4
  ·
   have k4 : (ak == 4) = true := by rw [beq_iff_eq]; exact h4
   cases q : inB aa 0 ((ls.length : Int) - 1) with
   | true =>
    by_cases h3 : ls.length < 12
    ·
     have HF := Lib.hid (show true = mayB n x ⟨ak, (k : Int), (p : Int), aa⟩ by
      rw [h4, HM4.out, decide_eq_true (by have := inBt q; omega), decide_eq_true h3]; rfl)
     clear h2 h4
     go_wp2_with (go_at_call 31; (try rw [hwr]); refine (impl_within _ _ _ _).mono ?_; rintro e w' ⟨rfl, rfl⟩; rw [q])
     go_ret
     exact ⟨ret_bool (by rw [← HF.out]; exact decide_eq_true (by omega)), hB.drew⟩
    ·
     have HF := Lib.hid (show false = mayB n x ⟨ak, (k : Int), (p : Int), aa⟩ by
      rw [h4, HM4.out, decide_eq_true (by have := inBt q; omega), decide_eq_false h3]; rfl)
     clear h2 h4
     go_wp2_with (go_at_call 31; (try rw [hwr]); refine (impl_within _ _ _ _).mono ?_; rintro e w' ⟨rfl, rfl⟩; rw [q])
     go_ret
     exact ⟨ret_bool (by rw [← HF.out]; exact decide_eq_false (by omega)), hB.drew⟩
   | false =>
    have HF := Lib.hid (show false = mayB n x ⟨ak, (k : Int), (p : Int), aa⟩ by
     rw [h4, HM4.out, decide_eq_false (fun hh => inBf q (by omega))]; rfl)
    clear h2 h4
    go_wp2_with (go_at_call 31; (try rw [hwr]); refine (impl_within _ _ _ _).mono ?_; rintro e w' ⟨rfl, rfl⟩; rw [q])
    go_ret
    exact ⟨ret_bool HF.out, hB.drew⟩
  ·
   have k4 : (ak == 4) = false := by rw [beq_eq_false_iff_ne]; exact h4
   have HF := Lib.hid (HME.out (fun h => h2 (Or.inl h)) (fun h => h2 (Or.inr h)) h4).symm
   clear h2 h4
   go_wp2_with fail
   go_ret
   exact ⟨ret_bool HF.out, hB.drew⟩
set_option maxRecDepth 100000 in
set_option maxHeartbeats 2000000 in
theorem impl_may1 (ne ni nn : Value) (n : Net) (xr xb xn xs xf : Value) (x : Asy) (k : Nat) (l : Ends) (s : List Int) (f : List Ends) (r : Int) (p : Nat) (ls : Ends) (aa : Int) (w : World) (hn : NetR w w.heap.size ne ni nn n) (hx : AsyR w w.heap.size xr xb xn xs xf x) (hz : n.es.length ≤ 2000000)
  (hat : AtP n x k l s f r) (hp : f[p]? = some ls) (k2 p2 : Nat) (l2 : Ends) (s2 : List Int) (f2 : List Ends) (r2 : Int) (ls2 : Ends) (he : l[p]? = some ((k2 : Int), (p2 : Int))) (hat2 : AtP n x k2 l2 s2 f2 r2) (hp2 : f2[p2]? = some ls2) :
  Calls Tryz.prog 63 #[.agg #[ne, ni, nn], .agg #[xr, xb, xn, xs, xf], .agg #[.int .i64 1, .int .i64 k, .int .i64 p, .int .i64 aa]] w fun e w' => e = .returned (.bool (mayB n x ⟨1, (k : Int), (p : Int), aa⟩)) ∧ Below w.heap.size w w' := by
 have HM1 := Lib.hid (may_send hat hp he hat2 hp2 rfl rfl aa)
 have HPB := Lib.hid (show portB n k (p : Int) = true by rw [port_at hat.hl]; exact inB_t (by have := hat.lp hp; omega))
 have h12 := hat.ls ls (List.mem_of_getElem? hp)
 have h212 := hat2.ls ls2 (List.mem_of_getElem? hp2)
 have HR9 := Lib.hid hx.f
 have hk := hat.lt
 have hne := hn.e
 have hxs := hx.s.open_
 have hxf := hx.f
 have hxr := hx.r.open_
 obtain ⟨A4, c4, rfl, hc4, hM4, hr4⟩ := hne
 obtain ⟨⟨-, -, -, -⟩, ⟨A5, m5, c5, rfl⟩, A6, m6, c6, rfl⟩ := hn.slices
 obtain ⟨A10, c10, rfl, hc10, hM10, hr10⟩ := hxr
 obtain ⟨-, ⟨A11, m11, c11, rfl⟩, ⟨A12, m12, c12, rfl⟩, -, -⟩ := hx.slices
 obtain ⟨A8, c8, rfl, hc8, hM8, hr8⟩ := hxs
 obtain ⟨A9, c9, rfl, hc9, hM9, hr9⟩ := hxf
 unfold maxLen at hM4 hM8 hM9 hM10
 have hk8 := (List.getElem?_eq_some_iff.1 hat.hs).1
 have hk9 := (List.getElem?_eq_some_iff.1 hat.hf).1
 have hk10 := (List.getElem?_eq_some_iff.1 hat.hr).1
 obtain ⟨ad4, rfl, ha4, hrow4⟩ := hr4 (by omega)
 obtain ⟨ad8, rfl, ha8, hrow8⟩ := hr8 (by omega)
 obtain ⟨ad9, rfl, ha9, hrow9⟩ := hr9 (by omega)
 obtain ⟨ad10, rfl, ha10, hrow10⟩ := hr10 (by omega)
 obtain ⟨u4, hu4, hz4⟩ := hrow4 k l hat.hl
 obtain ⟨u8, hu8, hz8⟩ := hrow8 k s hat.hs
 obtain ⟨u9, hu9, hz9⟩ := hrow9 k f hat.hf
 have hu10 := hrow10 k r hat.hr
 have hin : inB (k : Int) 0 ((n.es.length : Int) - 1) = true := inB_t (by omega)
 clear hrow4 hrow8 hrow9 hrow10 hr4 hr8 hr9 hr10
 obtain ⟨B9, d9, rfl, hd9, hD9, hrf⟩ := hz9
 unfold maxLen at hD9
 have hpl := (List.getElem?_eq_some_iff.1 hp).1
 obtain ⟨adf, rfl, haf, hrowf⟩ := hrf (by omega)
 obtain ⟨ul, hul, hzl⟩ := hrowf p ls hp
 obtain ⟨Bl, dl, rfl, hdl, hDl, -, -⟩ := hzl
 unfold maxLen at hDl
 have hlp4 : p < l.length := by have := hat.lp hp; omega
 obtain ⟨B4, d4, rfl, hd4, hD4, -, hrl⟩ := hz4
 obtain ⟨b4, o4, rfl, hb4, hrowl⟩ := hrl (by omega)
 obtain ⟨hu40, hu41⟩ := hrowl p _ he
 unfold maxLen at hD4
 have hlen9 := (List.getElem?_eq_some_iff.1 hat2.hf).1
 obtain ⟨A9b, c9b, e9, -, -, hr9b⟩ := HR9.out
 cases e9
 have hk2' := (List.getElem?_eq_some_iff.1 hat2.hf).1
 obtain ⟨ad9b, e9b, -, hrow9b⟩ := hr9b (by omega)
 obtain rfl := Option.some.inj e9b
 obtain ⟨u29, hu29, hz29⟩ := hrow9b k2 f2 hat2.hf
 obtain ⟨B29, d29, rfl, hd29, hD29, hrf2⟩ := hz29
 unfold maxLen at hD29
 have hpl2 := (List.getElem?_eq_some_iff.1 hp2).1
 obtain ⟨adg, rfl, hag, hrowg⟩ := hrf2 (by omega)
 obtain ⟨ug, hug, hzg⟩ := hrowg p2 ls2 hp2
 obtain ⟨Bg, dg, rfl, hdg, hDg, -, -⟩ := hzg
 unfold maxLen at hDg
 have HC9 := Lib.hid hu9
 have HC9P := Lib.hid hul
 have HC10 := Lib.hid hu10
 have HC4 := Lib.hid hu4
 have HC40 := Lib.hid hu40
 have HC41 := Lib.hid hu41
 have HC29 := Lib.hid hu29
 have HCG := Lib.hid hug
 have hk2 := hat2.lt
 clear hz8 hu8 hu10 hu9 hu4 hul hrowf hrf hrl hrowl hu40 hu41 hrow9b hu29 hrf2 hrowg hug hp
 obtain ⟨w0, hw0, hb0, HD, hz0, HS0⟩ := box3 w (.slice (some ad4) n.es.length c4) (.slice A5 m5 c5) (.slice A6 m6 c6) 43
 obtain ⟨w1, hw1, hb1, HY, hz1, HS1⟩ := box5 w0 (.slice (some ad10) x.rounds.length c10) (.slice A11 m11 c11) (.slice A12 m12 c12) (.slice (some ad8) x.slots.length c8) (.slice (some ad9) x.flight.length c9) 34
 replace HD := bk HD hb1
 obtain ⟨w2, hw2, hb2, HA, hz2, HS2⟩ := box4a w1 (.int .i64 1) (.int .i64 k) (.int .i64 p) (.int .i64 aa) 69
 replace HD := bk HD hb2
 replace HY := bk HY hb2
 have hB : Below w.heap.size w w2 := bl_trans (bl_trans (hb0) hb1) hb2
 have HW := Lib.hid (show w2 = ((w.alloc (.cells #[.slice (some ad4) n.es.length c4, .slice A5 m5 c5, .slice A6 m6 c6] 43)).alloc (.cells #[.slice (some ad10) x.rounds.length c10, .slice A11 m11 c11, .slice A12 m12 c12, .slice (some ad8) x.slots.length c8, .slice (some ad9) x.flight.length c9] 34)).alloc (.cells #[.int .i64 1, .int .i64 k, .int .i64 p, .int .i64 aa] 69) by rw [hw2, hw1, hw0])
 obtain ⟨P1, hP1⟩ : ∃ z, z = w0.heap.size := ⟨_, rfl⟩
 have HP1 := Lib.hid (show w.heap.size + 1 = P1 by rw [hP1, HS0.out])
 have hPl1 : w.heap.size < P1 := by rw [← HP1.out]; omega
 rw [← hP1] at HY hz1
 obtain ⟨P2, hP2⟩ : ∃ z, z = w1.heap.size := ⟨_, rfl⟩
 have HP2 := Lib.hid (show w.heap.size + 1 + 1 = P2 by rw [hP2, HS1.out, HS0.out])
 have hPl2 : w.heap.size < P2 := by rw [← HP2.out]; omega
 rw [← hP2] at HA hz2
 obtain ⟨q0, q1, q2, qf⟩ := cells3 HD
 obtain ⟨⟨y0, y1, y2⟩, ⟨y3, y4⟩, yf⟩ := cells5 HY
 obtain ⟨⟨u0, u1⟩, ⟨u2, u3⟩, uf⟩ := cells4a HA
 have eq0 := q0
 have eq1 := q1
 have eq2 := q2
 have ey0 := y0
 have ey1 := y1
 have ey2 := y2
 have ey3 := y3
 have ey4 := y4
 have eu0 := u0
 have eu1 := u1
 have eu2 := u2
 have eu3 := u3
 rw [HW.out] at eq0 eq1 eq2 ey0 ey1 ey2 ey3 ey4 eu0 eu1 eu2 eu3
 rw [← HP1.out] at ey0 ey1 ey2 ey3 ey4
 rw [← HP2.out] at eu0 eu1 eu2 eu3
 have hzb0 : w.heap.size < w2.heap.size := by omega
 have hzb1 : P1 < w2.heap.size := by omega
 have hzb2 : P2 < w2.heap.size := by omega
 have HN := Lib.hid (hn.up hB)
 have HX := Lib.hid (hx.up hB)
 clear hw2 hw1 hw0 hP1 hP2
 have hwr : IntKind.i64.wrap ((ls.length : Int) - 1) = (ls.length : Int) - 1 := IntWalk.i64_in _ (by omega)
 go_enter Tryz.func63, Tryz.ntmps63
 go_wp2_with fail
 rw [HP2.out, HP1.out, ← HW.out]
 clear eq0 eq1 eq2 ey0 ey1 ey2 ey3 ey4 eu0 eu1 eu2 eu3
 refine (impl_hasNode _ _ _ n k w2 HN.out hz).mono ?_
 rintro e w5 ⟨rfl, hb5⟩
 rw [hin]
 have hzhb5 := hb5.size
 clear q0 q1 q2 qf y0 y1 y2 y3 y4 yf u0 u1 u2 u3 uf
 replace HD := bk HD hb5
 replace HY := bk HY hb5
 replace HA := bk HA hb5
 replace hB := bl_trans hB hb5
 obtain ⟨q0, q1, q2, qf⟩ := cells3 HD
 obtain ⟨⟨y0, y1, y2⟩, ⟨y3, y4⟩, yf⟩ := cells5 HY
 obtain ⟨⟨u0, u1⟩, ⟨u2, u3⟩, uf⟩ := cells4a HA
 replace HN := Lib.hid (HN.out.up hb5)
 go_wp2_with fail
 refine (impl_hasPort _ _ _ n k p w5 HN.out hz).mono ?_
 rintro e w6 ⟨rfl, hb6⟩
 rw [HPB.out]
 have hzhb6 := hb6.size
 clear q0 q1 q2 qf y0 y1 y2 y3 y4 yf u0 u1 u2 u3 uf
 replace HD := bk HD hb6
 replace HY := bk HY hb6
 replace HA := bk HA hb6
 replace hB := bl_trans hB hb6
 obtain ⟨q0, q1, q2, qf⟩ := cells3 HD
 obtain ⟨⟨y0, y1, y2⟩, ⟨y3, y4⟩, yf⟩ := cells5 HY
 obtain ⟨⟨u0, u1⟩, ⟨u2, u3⟩, uf⟩ := cells4a HA
 have hc9' := (hB.cell (p := ad9.add k) (by rw [block_add]; exact ha9)).trans HC9.out
 have hc9p := (hB.cell (p := adf.add p) (by rw [block_add]; exact haf)).trans HC9P.out
 go_wp2_with fail
 refine wp_region_held_drew (S := fun w' => w'.cell? ⟨P1, 4, none⟩ = some (.slice (some ad9) x.flight.length c9) ∧ w'.cell? ⟨P2, 1, none⟩ = some (.int .i64 (k : Int)) ∧ w'.cell? ⟨P2, 2, none⟩ = some (.int .i64 (p : Int)) ∧ w'.cell? (ad9.add k) = some (.slice (some adf) f.length d9) ∧ w'.cell? (adf.add p) = some (.slice Bl ls.length dl)) (by kernel_rfl) ?_ (fun hHeld => ?_)
 ·
  go_keep
 refine stk 0 51 ?_
 refine stk 1 52 ?_
 refine stk 2 53 ?_
 refine stk 3 54 ?_
 refine stk 4 55 ?_
 refine stk 5 56 ?_
 refine stk 6 57 ?_
 refine stk 7 58 ?_
 refine stk 8 59 ?_
 refine stk 9 60 ?_
 refine stk 10 61 ?_
 refine stk 11 7 ?_
 refine wpAnyH_done (by kernel_rfl) ?_ _
 have hc4' := (hB.cell (p := ad4.add k) (by rw [block_add]; exact ha4)).trans HC4.out
 have hc40 := (hB.cell (p := ⟨b4, o4 + p * 2, none⟩) hb4).trans HC40.out
 have hc41 := (hB.cell (p := ⟨b4, o4 + p * 2 + 1, none⟩) hb4).trans HC41.out
 go_wp2_with fail
 refine wp_region_held_drew (S := fun w' => w'.cell? ⟨w.heap.size, 0, none⟩ = some (.slice (some ad4) n.es.length c4) ∧ w'.cell? ⟨P2, 1, none⟩ = some (.int .i64 (k : Int)) ∧ w'.cell? ⟨P2, 2, none⟩ = some (.int .i64 (p : Int)) ∧ w'.cell? (ad4.add k) = some (.slice (some ⟨b4, o4, none⟩) l.length d4) ∧ w'.cell? ⟨b4, o4 + p * 2, none⟩ = some (.int .i64 (k2 : Int)) ∧ w'.cell? ⟨b4, o4 + p * 2 + 1, none⟩ = some (.int .i64 (p2 : Int))) (by kernel_rfl) ?_ (fun hHeld => ?_)
 ·
  go_keep
 refine stk 0 66 ?_
 refine stk 1 67 ?_
 refine stk 2 68 ?_
 refine stk 3 69 ?_
 refine stk 4 70 ?_
 refine stk 5 71 ?_
 refine stk 6 72 ?_
 refine stk 7 73 ?_
 refine stk 8 74 ?_
 refine stk 9 75 ?_
 refine tr 10 rfl (by kernel_rfl) (fun K hK => ?_)
 go_simp
 have v0 := Lib.cell?_alloc_some (.cells #[.int .i64 0, .int .i64 0] 106) q0
 have v1 := Lib.cell?_alloc_some (.cells #[.int .i64 0, .int .i64 0] 106) u1
 have v2 := Lib.cell?_alloc_some (.cells #[.int .i64 0, .int .i64 0] 106) u2
 have v3 := Lib.cell?_alloc_some (.cells #[.int .i64 0, .int .i64 0] 106) hc4'
 have v4 := Lib.cell?_alloc_some (.cells #[.int .i64 0, .int .i64 0] 106) hc40
 have v5 := Lib.cell?_alloc_some (.cells #[.int .i64 0, .int .i64 0] 106) hc41
 refine hK.out _ _ ?_ (fun hHeld => ?_)
 ·
  go_keep
 clear hK K
 try simp only [Act.put, pu]
 refine tr 11 rfl (by kernel_rfl) (fun K hK => ?_)
 go_simp
 clear v0 v1 v2 v3 v4 v5
 have v0 := Lib.cell?_alloc_some (.cells #[.int .i64 (k2 : Int), .int .i64 (p2 : Int)] 106) q0
 have v1 := Lib.cell?_alloc_some (.cells #[.int .i64 (k2 : Int), .int .i64 (p2 : Int)] 106) u1
 have v2 := Lib.cell?_alloc_some (.cells #[.int .i64 (k2 : Int), .int .i64 (p2 : Int)] 106) u2
 have v3 := Lib.cell?_alloc_some (.cells #[.int .i64 (k2 : Int), .int .i64 (p2 : Int)] 106) hc4'
 have v4 := Lib.cell?_alloc_some (.cells #[.int .i64 (k2 : Int), .int .i64 (p2 : Int)] 106) hc40
 have v5 := Lib.cell?_alloc_some (.cells #[.int .i64 (k2 : Int), .int .i64 (p2 : Int)] 106) hc41
 refine hK.out _ _ ?_ (fun hHeld => ?_)
 ·
  go_keep
 clear hK K
 try simp only [Act.put, pu]
 refine wpAnyH_done (by kernel_rfl) ?_ _
 obtain ⟨wv, hwv, hb7, HK, hzv, HSV⟩ := box2 w6 (.int .i64 (k2 : Int)) (.int .i64 (p2 : Int)) 106
 rw [← hwv]
 clear v0 v1 v2 v3 v4 v5 hc4' hc40 hc41 hwv
 have hzhb7 := hb7.size
 clear q0 q1 q2 qf y0 y1 y2 y3 y4 yf u0 u1 u2 u3 uf
 replace HD := bk HD hb7
 replace HY := bk HY hb7
 replace HA := bk HA hb7
 replace hB := bl_trans hB hb7
 obtain ⟨q0, q1, q2, qf⟩ := cells3 HD
 obtain ⟨⟨y0, y1, y2⟩, ⟨y3, y4⟩, yf⟩ := cells5 HY
 obtain ⟨⟨u0, u1⟩, ⟨u2, u3⟩, uf⟩ := cells4a HA
 obtain ⟨z0, z1, zf⟩ := cells2 HK
 have hc10' := (hB.cell (p := ad10.add k) (by rw [block_add]; exact ha10)).trans HC10.out
 have hc29' := (hB.cell (p := ad9.add k2) (by rw [block_add]; exact ha9)).trans HC29.out
 have hcg' := (hB.cell (p := adg.add p2) (by rw [block_add]; exact hag)).trans HCG.out
 go_wp2_with fail
 cases q : inB aa 0 1 with
 | false =>
  have HF := Lib.hid (show false = mayB n x ⟨1, (k : Int), (p : Int), aa⟩ by rw [HM1.out, decide_eq_false (inBf q)]; rfl)
  refine wp_region_held_drew (S := fun w' => w'.cell? ⟨P2, 3, none⟩ = some (.int .i64 aa) ∧ w'.cell? ⟨P1, 0, none⟩ = some (.slice (some ad10) x.rounds.length c10) ∧ w'.cell? ⟨P2, 1, none⟩ = some (.int .i64 (k : Int)) ∧ w'.cell? (ad10.add k) = some (.int .i64 r) ∧ w'.cell? ⟨P1, 4, none⟩ = some (.slice (some ad9) x.flight.length c9) ∧ w'.cell? ⟨w6.heap.size, 0, none⟩ = some (.int .i64 (k2 : Int)) ∧ w'.cell? ⟨w6.heap.size, 1, none⟩ = some (.int .i64 (p2 : Int)) ∧ w'.cell? (ad9.add k2) = some (.slice (some adg) f2.length d29) ∧ w'.cell? (adg.add p2) = some (.slice Bg ls2.length dg)) (by kernel_rfl) ?_ (fun hHeld => ?_)
  ·
   go_keep
  refine stk 0 76 ?_
  refine stk 1 77 ?_
  refine tr 2 rfl (by kernel_rfl) (fun K hK => ?_)
  go_simp
  go_at_call 31
  refine (impl_within _ _ _ _).mono ?_
  rintro e w' ⟨rfl, rfl⟩
  rw [q]
  refine hK.out _ _ ?_ (fun hHeld => ?_)
  ·
   go_keep
  clear hK K
  try simp only [Act.put, pu]
  refine stk 3 79 ?_
  refine stn 4 80 ?_
  refine stn 5 81 ?_
  refine stn 6 82 ?_
  refine stn 7 83 ?_
  refine stn 8 84 ?_
  refine stn 9 85 ?_
  refine stn 10 86 ?_
  refine stn 11 87 ?_
  refine stn 12 88 ?_
  refine stk 13 89 ?_
  refine stk 14 90 ?_
  refine stn 15 91 ?_
  refine stn 16 92 ?_
  refine stn 17 93 ?_
  refine stn 18 94 ?_
  refine stn 19 95 ?_
  refine stn 20 96 ?_
  refine stn 21 97 ?_
  refine stn 22 98 ?_
  refine stn 23 99 ?_
  refine stn 24 100 ?_
  refine stn 25 101 ?_
  refine stn 26 102 ?_
  refine stk 27 103 ?_
  refine stk 28 6 ?_
  refine wpAnyH_done (by kernel_rfl) ?_ _
  go_wp2_with fail
  go_ret
  exact ⟨ret_bool HF.out, hB.drew.drew.drew⟩
 | true =>
  by_cases h3 : aa ≤ r
  ·
   have x3 : decide (aa ≤ r) = true := decide_eq_true h3
   have x4 : (r ≥ aa) = True := eq_true (by omega)
   have HF := Lib.hid (show decide (ls2.length < 12) = mayB n x ⟨1, (k : Int), (p : Int), aa⟩ by rw [HM1.out, decide_eq_true (inBt q), x3]; rfl)
   have HFI := Lib.hid (show decide ((ls2.length : Int) < 12) = decide (ls2.length < 12) by
    by_cases hh : ls2.length < 12
    ·
     rw [decide_eq_true hh, decide_eq_true (by omega)]
    ·
     rw [decide_eq_false hh, decide_eq_false (by omega)])
   refine wp_region_held_drew (S := fun w' => w'.cell? ⟨P2, 3, none⟩ = some (.int .i64 aa) ∧ w'.cell? ⟨P1, 0, none⟩ = some (.slice (some ad10) x.rounds.length c10) ∧ w'.cell? ⟨P2, 1, none⟩ = some (.int .i64 (k : Int)) ∧ w'.cell? (ad10.add k) = some (.int .i64 r) ∧ w'.cell? ⟨P1, 4, none⟩ = some (.slice (some ad9) x.flight.length c9) ∧ w'.cell? ⟨w6.heap.size, 0, none⟩ = some (.int .i64 (k2 : Int)) ∧ w'.cell? ⟨w6.heap.size, 1, none⟩ = some (.int .i64 (p2 : Int)) ∧ w'.cell? (ad9.add k2) = some (.slice (some adg) f2.length d29) ∧ w'.cell? (adg.add p2) = some (.slice Bg ls2.length dg)) (by kernel_rfl) ?_ (fun hHeld => ?_)
   ·
    go_keep
   refine stk 0 76 ?_
   refine stk 1 77 ?_
   refine tr 2 rfl (by kernel_rfl) (fun K hK => ?_)
   go_simp
   go_at_call 31
   refine (impl_within _ _ _ _).mono ?_
   rintro e w' ⟨rfl, rfl⟩
   rw [q]
   refine hK.out _ _ ?_ (fun hHeld => ?_)
   ·
    go_keep
   clear hK K
   try simp only [Act.put, pu]
   refine stk 3 79 ?_
   refine stk 4 80 ?_
   refine stk 5 81 ?_
   refine stk 6 82 ?_
   refine stk 7 83 ?_
   refine stk 8 84 ?_
   refine stk 9 85 ?_
   refine stk 10 86 ?_
   refine stk 11 87 ?_
   refine stk 12 88 ?_
   refine stk 13 89 ?_
   refine stk 14 90 ?_
   refine stk 15 91 ?_
   refine stk 16 92 ?_
   refine stk 17 93 ?_
   refine stk 18 94 ?_
   refine stk 19 95 ?_
   refine stk 20 96 ?_
   refine stk 21 97 ?_
   refine stk 22 98 ?_
   refine stk 23 99 ?_
   refine stk 24 100 ?_
   refine stk 25 101 ?_
   refine stk 26 102 ?_
   refine stk 27 103 ?_
   refine stk 28 6 ?_
   refine wpAnyH_done (by kernel_rfl) ?_ _
   go_wp2_with fail
   go_ret
   exact ⟨ret_bool (by rw [← HF.out]; exact HFI.out), hB.drew.drew.drew⟩
  ·
   have x3 : decide (aa ≤ r) = false := decide_eq_false h3
   have x4 : (r ≥ aa) = False := eq_false (by omega)
   have HF := Lib.hid (show false = mayB n x ⟨1, (k : Int), (p : Int), aa⟩ by rw [HM1.out, decide_eq_true (inBt q), x3]; rfl)
   refine wp_region_held_drew (S := fun w' => w'.cell? ⟨P2, 3, none⟩ = some (.int .i64 aa) ∧ w'.cell? ⟨P1, 0, none⟩ = some (.slice (some ad10) x.rounds.length c10) ∧ w'.cell? ⟨P2, 1, none⟩ = some (.int .i64 (k : Int)) ∧ w'.cell? (ad10.add k) = some (.int .i64 r) ∧ w'.cell? ⟨P1, 4, none⟩ = some (.slice (some ad9) x.flight.length c9) ∧ w'.cell? ⟨w6.heap.size, 0, none⟩ = some (.int .i64 (k2 : Int)) ∧ w'.cell? ⟨w6.heap.size, 1, none⟩ = some (.int .i64 (p2 : Int)) ∧ w'.cell? (ad9.add k2) = some (.slice (some adg) f2.length d29) ∧ w'.cell? (adg.add p2) = some (.slice Bg ls2.length dg)) (by kernel_rfl) ?_ (fun hHeld => ?_)
   ·
    go_keep
   refine stk 0 76 ?_
   refine stk 1 77 ?_
   refine tr 2 rfl (by kernel_rfl) (fun K hK => ?_)
   go_simp
   go_at_call 31
   refine (impl_within _ _ _ _).mono ?_
   rintro e w' ⟨rfl, rfl⟩
   rw [q]
   refine hK.out _ _ ?_ (fun hHeld => ?_)
   ·
    go_keep
   clear hK K
   try simp only [Act.put, pu]
   refine stk 3 79 ?_
   refine stk 4 80 ?_
   refine stk 5 81 ?_
   refine stk 6 82 ?_
   refine stk 7 83 ?_
   refine stk 8 84 ?_
   refine stk 9 85 ?_
   refine stk 10 86 ?_
   refine stk 11 87 ?_
   refine stk 12 88 ?_
   refine stk 13 89 ?_
   refine stk 14 90 ?_
   refine stn 15 91 ?_
   refine stn 16 92 ?_
   refine stn 17 93 ?_
   refine stn 18 94 ?_
   refine stn 19 95 ?_
   refine stn 20 96 ?_
   refine stn 21 97 ?_
   refine stn 22 98 ?_
   refine stn 23 99 ?_
   refine stn 24 100 ?_
   refine stn 25 101 ?_
   refine stn 26 102 ?_
   refine stk 27 103 ?_
   refine stk 28 6 ?_
   refine wpAnyH_done (by kernel_rfl) ?_ _
   go_wp2_with fail
   go_ret
   exact ⟨ret_bool HF.out, hB.drew.drew.drew⟩
end
section
open Go.RowKit
set_option linter.all false
theorem impl_mayAsync (m : Mach) (ne ni nn : Value) (n : Net) (xr xb xn xs xf : Value) (x : Asy) (ak an ap aa : Int) (w : World) (hn : NetR w w.heap.size ne ni nn n) (hx : AsyR w w.heap.size xr xb xn xs xf x) (hz : n.es.length ≤ 2000000) (hq : netP n) (ha : asyP m n x) :
  Calls Tryz.prog 63 #[.agg #[ne, ni, nn], .agg #[xr, xb, xn, xs, xf], .agg #[.int .i64 ak, .int .i64 an, .int .i64 ap, .int .i64 aa]] w fun e w' => e = .returned (.bool (mayB n x ⟨ak, an, ap, aa⟩)) ∧ Below w.heap.size w w' := by
 cases h1 : inB an 0 ((n.es.length : Int) - 1) with
 | false => exact impl_may_no1 ne ni nn n xr xb xn xs xf x ak an ap aa w hn hx hz h1
 | true =>
  obtain ⟨k, rfl, hk⟩ := inB_nat h1
  obtain ⟨l, s, f, r, hat⟩ := at_of ha hk
  by_cases h5 : ak = 5
  ·
   subst h5
   exact impl_may5 ne ni nn n xr xb xn xs xf x k l s f r ap aa w hn hx hz hat
  ·
   cases hp : portB n k ap with
   | false => exact impl_may_no2 ne ni nn n xr xb xn xs xf x k l s f r ak ap aa w hn hx hz hat h5 hp
   | true =>
    rw [port_at hat.hl] at hp
    obtain ⟨p, rfl, hpp⟩ := inB_nat hp
    obtain ⟨ls, hls⟩ : ∃ y, f[p]? = some y := ⟨_, List.getElem?_eq_getElem (by rw [hat.fl]; exact hpp)⟩
    by_cases h1 : ak = 1
    ·
     subst h1
     obtain ⟨e, he⟩ : ∃ y, l[p]? = some y := ⟨_, List.getElem?_eq_getElem hpp⟩
     obtain ⟨k2, p2, l2, s2, f2, r2, ls2, e1, e2, hat2, hp2, -⟩ := at_end ha hq hat he
     have ee : e = ((k2 : Int), (p2 : Int)) := by rw [← e1, ← e2]
     rw [ee] at he
     exact impl_may1 ne ni nn n xr xb xn xs xf x k l s f r p ls aa w hn hx hz hat hls k2 p2 l2 s2 f2 r2 ls2 he hat2 hp2
    ·
     exact impl_mayK ne ni nn n xr xb xn xs xf x k l s f r p ls ak aa w hn hx hz hat hls h5 h1
end
end Go.Proofs.YtehkcodbcnhhoaaGreat
