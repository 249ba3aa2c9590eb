/-
  Networks, the program's side: how far the nodes are from one of them; whether a network hangs together.
-/
import Derived.Test.YtfhecpkhifdnbaaGreatNetRep
import Derived.ArgAppend
namespace Go.Proofs.YtfhecpkhifdnbaaGreat
open Go.RowKit
set_option linter.unusedVariables false
set_option linter.unusedSimpArgs false
/-- A queue: the slice v, in a block of the call's own, from some place on, reads as q. -/
def QRow (w : World) (base : Nat) (v : Value) (q : List Int) : Prop :=
  ∃ (g o m cap : Nat) (cur : Array Value), v = .slice (some ⟨g, o, none⟩) m cap ∧ m = q.length ∧ base ≤ g ∧ w.heap[g]? = some (.cells cur 3 (0, 0)) ∧ m ≤ cap ∧ cap ≤ maxLen ∧ o + cap ≤ cur.size ∧ ∀ j x, q[j]? = some x → cur[o + j]? = some (.int .i64 x)
theorem QRow.keep {w w' : World} {base : Nat} {v : Value} {q : List Int} (h : QRow w base v q) (hk : ∀ b, base ≤ b → b < w.heap.size → w'.heap[b]? = w.heap[b]?) : QRow w' base v q := by
  obtain ⟨g, o, m, cap, cur, rfl, rfl, h1, h2, h3, h4, h5, h6⟩ := h
  exact ⟨g, o, _, cap, cur, rfl, rfl, h1, (hk g h1 (by
    rcases Nat.lt_or_ge g w.heap.size with h | h
    · exact h
    · rw [Array.getElem?_eq_none h] at h2; cases h2)).trans h2, h3, h4, h5, h6⟩
theorem QRow.start {w : World} {base g : Nat} {x : Int} (h : w.heap[g]? = some (.cells #[.int .i64 x] 3 (0, 0))) (hb : base ≤ g) : QRow w base (.slice (some ⟨g, 0, none⟩) 1 1) [x] :=
  ⟨g, 0, 1, 1, _, rfl, rfl, hb, h, Nat.le_refl _, by unfold maxLen; omega, by simp, fun j y hj => by
    rcases j with _ | j
    · simp only [List.getElem?_cons_zero, Option.some.injEq] at hj
      subst hj
      rfl
    · simp at hj⟩
theorem QRow.own {w : World} {base n : Nat} {v : Value} {q : List Int} (h : w.ownsRow base 3 1 v n (q.map intV)) (hq : q ≠ []) : QRow w base v q := by
  have hl : q.length = n := by simpa using h.1
  have hp : 0 < q.length := List.length_pos_iff.2 hq
  rcases h.2 with ⟨_, e0⟩ | ⟨g, cap, cur, rfl, hb, hg, hn, hm, hs, ht⟩
  · omega
  · refine ⟨g, 0, n, cap, cur, rfl, hl.symm, hb, hg, hn, hm, by omega, fun j x hx => ?_⟩
    have h1 : (cur.toList.take (n * 1))[j]? = some (intV x) := by rw [ht, List.getElem?_map, hx]; rfl
    have hj := (List.getElem?_eq_some_iff.1 hx).1
    rw [List.getElem?_take_of_lt (by omega), Array.getElem?_toList] at h1
    rw [Nat.zero_add]
    exact h1
theorem wpList_append_q {w : World} {ops : Array Oper} {rest : List Oper} {o : Oper} {a : Act} {Q : Exit → Act → World → Prop} (hgd : o.guard = none) (s x : Operand)
    (ho : o.op = .call { callee := .builtin .append, args := #[s, x], argTypes := #[23, 23] }) {base : Nat} {v : Value} {q : List Int} (hs : a.eval s = v) (hq : QRow w base v q)
    (b : Nat) (y : Int) (hx : a.eval x = .slice (some ⟨b, 0, none⟩) 1 1) (hy : w.cell? ⟨b, 0, none⟩ = some (.int .i64 y)) (hl : q.length ≤ 2000000) (hbs : base ≤ w.heap.size)
    (hK : ∀ v' w', QRow w' base v' (q ++ [y]) → Below base w w' → wpList Tryz.prog ops Q rest (a.put o.dst v') w') : wpList Tryz.prog ops Q (o :: rest) a w := by
  obtain ⟨i, hi, hz0, hz1, hz2⟩ := info_parts intInfo
  obtain ⟨g, off, m, cap, cur, rfl, rfl, h1, h2, h3, h4, h5, h6⟩ := hq
  have hgl : g < w.heap.size := by
    rcases Nat.lt_or_ge g w.heap.size with h | h
    · exact h
    · rw [Array.getElem?_eq_none h] at h2; cases h2
  have hcel : ∀ (j : Nat) (u : Value), cur[j]? = some u → w.cell? ⟨g, j, none⟩ = some u := fun j u hu => by rw [cell_of_row _ _ j _ _ (0, 0) h2]; exact hu
  refine wpList_append_arg w hgd s x 23 ho 3 i _ 1 8 Tryz.underlying23 hi hz0 hz1 hz2 rfl (by decide) g off q.length cap (q.map intV) hs (by simp) (fun j u hu => ?_)
    ⟨b, 0, none⟩ 1 1 [.int .i64 y] hx rfl (fun j u hu => ?_) (fun u hu => ?_) (fun hr j hj => ?_) (by unfold maxLen; omega) (by omega) (fun hr => ?_) (fun hr v' w' hown hgr => ?_)
  · rw [List.getElem?_map] at hu
    obtain ⟨z, hz, rfl⟩ := Option.map_eq_some_iff.1 hu
    exact hcel _ _ (h6 j z hz)
  · rcases j with _ | j
    · simp only [List.getElem?_cons_zero, Option.some.injEq] at hu
      subst hu
      exact hy
    · simp at hu
  · rw [List.mem_singleton] at hu
    subst hu
    rfl
  · obtain rfl : j = 0 := by simp at hj; omega
    refine ⟨?_, frozen_of_row _ _ _ _ _ h2⟩
    rw [hcel _ _ (Array.getElem?_eq_getElem (show off + q.length * 1 + 0 < cur.size by omega))]
    rfl
  · refine hK _ _ ⟨g, off, q.length + 1, cap, cur.setIfInBounds (off + q.length) (.int .i64 y), rfl, by simp, h1, ?_, hr, h4, by simpa using h5, fun j z hz => ?_⟩ ?_
    · simp [World.setCells, World.setCell, Array.getElem?_modify, h2]
    · rw [Array.getElem?_setIfInBounds]
      by_cases hj : j < q.length
      · rw [if_neg (by omega)]
        rw [List.getElem?_append_left hj] at hz
        exact h6 j z hz
      · rw [List.getElem?_append_right (by omega)] at hz
        have hj2 : j - q.length = 0 := by
          have := (List.getElem?_eq_some_iff.1 hz).1
          simp at this
          omega
        rw [hj2] at hz
        simp only [List.getElem?_cons_zero, Option.some.injEq] at hz
        subst hz
        rw [if_pos (by omega), if_pos (by omega)]
    · simp only [World.setCells]
      exact (Below.refl _ _).setCell h1 _
  · have hq' := QRow.own (q := q ++ [y]) (by rw [List.map_append]; exact hown) (by simp)
    obtain ⟨g', o', m', c', cur', e, r1, r2, r3⟩ := hq'
    exact hK _ _ ⟨g', o', m', c', cur', e, r1, by omega, r3⟩ ⟨hgr.os, hgr.tape, hgr.output, hgr.size, fun k hk => hgr.block k (by omega) (by simp)⟩
/-- How many numbers of a block lie below 0; how long a slice is: what the loop over the queue counts down. -/
def negAt (w : World) (g : Nat) : Nat := match w.heap[g]? with | some (.cells c _ _) => neg (c.toList.map intOf) | _ => 0
def lenOf (v : Value) : Nat := match v with | .slice _ n _ => n | _ => 0
theorem negAt_eq {w : World} {g : Nat} {d : List Int} (h : NumsAt w g d) : negAt w g = neg d := by
  unfold negAt
  rw [show w.heap[g]? = _ from h]
  simp only [List.map_map]
  congr 1
  conv => rhs; rw [← List.map_id d]
  exact List.map_congr_left fun x _ => rfl
theorem QRow.len {w : World} {base : Nat} {v : Value} {q : List Int} (h : QRow w base v q) : lenOf v = q.length := by
  obtain ⟨g, o, m, cap, cur, rfl, rfl, -⟩ := h
  rfl
/-- The queue without its first. -/
theorem QRow.tail {w : World} {base g o m cap : Nat} {cur : Array Value} {x : Int} {q : List Int} (hm : m = (x :: q).length) (h1 : base ≤ g) (h2 : w.heap[g]? = some (.cells cur 3 (0, 0))) (h3 : m ≤ cap) (h4 : cap ≤ maxLen) (h5 : o + cap ≤ cur.size) (h6 : ∀ j y, (x :: q)[j]? = some y → cur[o + j]? = some (.int .i64 y)) :
    QRow w base (.slice (if cap = 1 then some ⟨g, o, none⟩ else some ⟨g, o + 1, none⟩) (m - 1) (cap - 1)) q := by
  have hq : m - 1 = q.length := by simp at hm; omega
  have hm1 : 1 ≤ m := by simp at hm; omega
  by_cases hc : cap = 1
  · rw [if_pos hc]
    exact ⟨g, o, _, _, cur, rfl, hq, h1, h2, by omega, by omega, by omega, fun j y hj => by have := (List.getElem?_eq_some_iff.1 hj).1; omega⟩
  · rw [if_neg hc]
    exact ⟨g, o + 1, _, _, cur, rfl, hq, h1, h2, by omega, by omega, by omega, fun j y hj => by rw [show o + 1 + j = o + (j + 1) by omega]; exact h6 (j + 1) y hj⟩
theorem MiP.less {n : Net} {D d0 q0 : List Int} {es : Ends} {w : Int} {k : Nat} {d wk : List Int} {j : Nat} (h : MiP n d0 q0 es w k d wk j) (hj : es.length ≤ j) (hes : EndsIn n.es) (hl : n.es[w.toNat]? = some es) (hb : Bfs n.es D d0 (w :: q0)) :
    neg d + (wk.drop (k + 1)).length = neg d0 + q0.length := by
  obtain ⟨h1, h2, h3, h4, h5, h6, h7⟩ := h
  have hs := (bfs_step hes hb.dist).2
  have e : n.es.getD w.toNat [] = es := by simp [List.getD, hl]
  rw [e, h4, List.drop_of_length_le hj] at hs
  simp only [visit, List.length_cons] at hs
  omega
theorem run_tail (g o m cap : Nat) (hm : 1 ≤ m) (W : World) : (Instr.slice 23 (.slice (some ⟨g, o, none⟩) m cap) (some (.int .i64 1)) none none).run Tryz.prog W = .ok (.slice (if cap = 1 then some ⟨g, o, none⟩ else some ⟨g, o + 1, none⟩) (m - 1) (cap - 1)) W := by
  rw [Go.run_slice_l (w := W) 23 (some ⟨g, o, none⟩) m cap (by kernel_rfl) .i64 1 (by omega) (by omega)]
  rw [show ((sizeOf (Tryz.prog.elem 23)).run Tryz.prog W) = .ok 1 W by kernel_rfl]
  simp [Result.andThen, sliced, Addr.add]
/-- What the search knows, before and within a round. -/
def DfRel (n : Net) (D : List Int) (ws : World) (g : Nat) (v : Value) (wr : World) : Prop :=
  ∃ d q : List Int, NumsAt wr g d ∧ QRow wr (g + 1) v q ∧ Bfs n.es D d q ∧ neg d + q.length ≤ n.es.length ∧ Below g ws wr
def DiRel (n : Net) (d0 q0 : List Int) (es : Ends) (x : Int) (ws : World) (g : Nat) (v i : Value) (wr : World) : Prop :=
  ∃ (d wk : List Int) (j : Nat), i = .int .i64 j ∧ MiP n d0 q0 es x 0 d wk j ∧ NumsAt wr g d ∧ QRow wr (g + 1) v (wk.drop 1) ∧ Below g ws wr
set_option maxRecDepth 100000 in
set_option maxHeartbeats 2000000 in
theorem impl_distancesFrom (ve vi vn : Value) (n : Net) (v : Nat) (w : World) (h : NetR w w.heap.size ve vi vn n) (hp : netP n) (hv : v < n.es.length) :
    Calls Tryz.prog 182 #[.agg #[ve, vi, vn], .int .i64 (v : Int)] w fun e w' => ∃ u, e = .returned u ∧ (∃ A m c, u = .slice A m c) ∧ IntsR w' w'.heap.size u (far n.es v) ∧ Below w.heap.size w w' := by
  have h40 := hp.1.2
  have HP := Lib.hid hp; clear hp
  have HST := Lib.hid (far_start hv)
  have HFO := Lib.hid (far_ok HP.out.endsIn hv)
  generalize far n.es v = D at *
  obtain ⟨⟨A0, m0, c0, rfl⟩, ⟨A1, m1, c1, rfl⟩, A2, m2, c2, rfl⟩ := h.slices
  obtain ⟨w0, hw0, hB, HD, hz0, HS0⟩ := box3 w (.slice A0 m0 c0) (.slice A1 m1 c1) (.slice A2 m2 c2) 31
  have HN0 := Lib.hid h; have HN := Lib.hid (h.up hB); clear h
  have HW0 := Lib.hid hw0; clear hw0
  obtain ⟨q0, q1, q2, qf⟩ := cells3 HD
  obtain ⟨hm0, -, -⟩ := HN.out.e.len_slice
  subst hm0
  obtain ⟨w1, hw1⟩ : ∃ z, z = w0.alloc (.cells #[.int .i64 (-1)] 3) := ⟨_, rfl⟩
  have HQ1 := Lib.hid hw1
  have hz1 : w1.heap.size = w0.heap.size + 1 := by rw [hw1]; simp
  have HZ1 := Lib.hid hz1
  have hn1 : NumsAt w1 (w.heap.size + 1) [-1] := by rw [hw1, ← HS0.out]; exact heap_alloc_new w0 _
  have HN1 := Lib.hid hn1
  have hb1 : Below w0.heap.size w0 w1 := by rw [hw1]; exact bl_alloc (Below.refl _ _) _
  clear hw1 hz1 hn1
  go_enter Tryz.func182, Tryz.ntmps182
  go_wp2_with fail
  rw [← HW0.out, ← HQ1.out]
  have hzhb1 := hb1.size
  clear q0 q1 q2 qf
  replace HD := bk HD hb1
  replace HN := Lib.hid (HN.out.up hb1)
  replace hB := bl_trans hB hb1
  obtain ⟨q0, q1, q2, qf⟩ := cells3 HD
  refine (impl_Repeat (-1) n.es.length (w.heap.size + 1) w1 HN1.out (by omega) (by omega)).mono ?_
  rintro e w2 ⟨rfl, hnum, hb2⟩
  have hgl := hnum.lt
  have hcell := hnum.cell (i := v) (x := -1) (by rw [List.getElem?_replicate, if_pos hv])
  have hfz := hnum.frozen v
  have hzhb2 := hb2.size
  clear q0 q1 q2 qf
  replace HD := bk HD hb2
  replace HN := Lib.hid (HN.out.up hb2)
  replace hB := bl_trans hB hb2
  obtain ⟨q0, q1, q2, qf⟩ := cells3 HD
  have hgd : ∃ z, z = w1.heap.size := ⟨_, rfl⟩
  obtain ⟨g, hg⟩ := hgd
  rw [← hg] at hnum hgl hcell hfz hb2 hzhb2 hzhb1 ⊢
  have hgw : w.heap.size < g := by omega
  have HGD := Lib.hid hg; clear hg
  obtain ⟨w3, hw3⟩ : ∃ z, z = w2.setCell ⟨g, v, none⟩ (.int .i64 0) := ⟨_, rfl⟩
  obtain ⟨w4, hw4⟩ : ∃ z, z = w3.alloc (.cells #[.int .i64 (v : Int)] 3) := ⟨_, rfl⟩
  have hz3 : w3.heap.size = w2.heap.size := by rw [hw3, size_setCell]
  have hN4 : NumsAt w4 g ((List.replicate n.es.length (-1)).set v 0) := by
    have h2 := hnum.set v 0
    rw [← hw3] at h2
    rw [hw4]
    exact h2.keep ((bl_alloc (Below.refl _ w3) _).block _ (by rw [hz3]; exact hgl))
  have hQ4 : QRow w4 (g + 1) (.slice (some ⟨w2.heap.size, 0, none⟩) 1 1) [(v : Int)] := QRow.start (by rw [hw4, ← hz3]; exact heap_alloc_new w3 _) (by omega)
  have hB4 : Below g w2 w4 := by rw [hw4, hw3]; exact (Below.setCell (p := ⟨g, v, none⟩) (Below.refl g w2) (Nat.le_refl _) (.int .i64 0)).alloc (by rw [size_setCell]; omega) _
  have H3 := Lib.hid hw3; clear hw3 hz3
  have H4 := Lib.hid hw4; clear hw4
  have HNU := Lib.hid hnum; clear hnum
  go_wp2_with fail
  rw [← H3.out, ← H4.out]
  have hz4 := hB4.size
  have hB' : Below w.heap.size w w4 := hB.trans (hB4.mono (by omega))
  replace HD := bk HD hB4 (by omega)
  replace HN := Lib.hid ((HN0.out.below hB').more hB'.size)
  clear hB q0 q1 q2 qf hcell hfz
  have hB := hB'; clear hB'
  go_loopw [6] (fun v wr => DfRel n D w4 g v wr) (fun v wr => negAt wr g + lenOf v)
  case atStart => exact ⟨_, [(v : Int)], hN4, hQ4, HST.out, by have := far_neg hv; simp only [List.length_singleton]; omega, Below.refl _ _⟩
  case round =>
    clear hN4 hQ4
    obtain ⟨d, q, hnum, hq, hbfs, hneg, hbl⟩ := hrel
    have hzr := hbl.size
    have hB2 := hB.trans (hbl.mono (by omega))
    have hglr := hnum.lt
    replace HD := bk HD hbl (by omega)
    replace HN := Lib.hid ((HN0.out.below hB2).more hB2.size)
    have HM := Lib.hid hnum; clear hnum
    have HB2 := Lib.hid hB2; clear hB2
    obtain ⟨q0, q1, q2, qf⟩ := cells3 HD
    cases q with
    | nil =>
      obtain ⟨gq, o, m, cap, cur, rfl, hm, -⟩ := hq
      obtain rfl : m = 0 := by simpa using hm
      have HFF := Lib.hid (show D = d from hbfs.fin.1)
      clear hbfs hm
      go_wp2_with fail
      go_ret
      refine ⟨_, rfl, ⟨_, _, _, rfl⟩, ?_, HB2.out⟩
      obtain ⟨k1, k2⟩ := HFO.out
      have h1 := HM.out
      rw [← HFF.out] at h1
      have h2 := ints_row (B := wr.heap.size) h1 (by unfold maxLen; omega) (fun x hx => by rcases k2 x hx with h | h <;> unfold I64 <;> omega) hglr
      rw [k1] at h2
      exact h2
    | cons x q =>
      obtain ⟨gq, o, m, cap, cur, rfl, hm, hgq, hcur, hmc, hcm, hoc, hcc⟩ := hq
      have hcx : wr.cell? ⟨gq, o, none⟩ = some (.int .i64 x) := by rw [cell_of_row _ _ o _ _ (0, 0) hcur]; exact hcc 0 x rfl
      have hqt := QRow.tail hm hgq hcur hmc hcm hoc hcc
      have hm1 : 1 ≤ m := by simp at hm; omega
      have hsl := run_tail gq o m cap hm1
      generalize Value.slice (if cap = 1 then some ⟨gq, o, none⟩ else some ⟨gq, o + 1, none⟩) (m - 1) (cap - 1) = v2 at hqt hsl
      have HQT := Lib.hid hqt; clear hqt
      have hsa : ∀ W, (Instr.sliceAt 23 (.slice (some ⟨gq, o, none⟩) m cap) (some (.int .i64 1)) none none).run Tryz.prog W = .ok v2 W := fun W => (Go.run_sliceAt_slice (P := Tryz.prog) (w := W) 23 _ _ _ _ (by kernel_rfl)).trans (hsl W)
      have hml : m - 1 = q.length := by simp at hm; omega
      obtain ⟨hx0, y, hy, hy0⟩ := hbfs.dist.2.2 x (by simp)
      obtain ⟨wn, rfl⟩ : ∃ wn : Nat, x = wn := ⟨x.toNat, by omega⟩
      rw [Int.toNat_natCast] at hy
      have hwn : wn < n.es.length := by rw [← hbfs.dist.1]; exact (List.getElem?_eq_some_iff.1 hy).1
      obtain ⟨l, hl⟩ : ∃ l, n.es[wn]? = some l := ⟨_, List.getElem?_eq_getElem hwn⟩
      obtain ⟨ad, rfl⟩ := HN.out.e.some_ (by omega)
      obtain ⟨hbb, u, hu, hr⟩ := (HN0.out.below HB2.out).e.at_ hl
      have HR := Lib.hid hr
      obtain ⟨A', c', rfl, hlc, hlm, -, h4⟩ := hr
      unfold maxLen at hlm hcm
      have HL := Lib.hid hl; clear hl
      have HY := Lib.hid (And.intro hy hy0); clear hy hy0
      have HBF := Lib.hid hbfs; clear hbfs
      have HML := Lib.hid hml; clear hml hm
      have HCC := Lib.hid (And.intro hcur hcc); clear hcur hcc
      go_wp2_with fail
      obtain ⟨wq, rfl⟩ : ∃ z, z = wr := ⟨_, rfl⟩
      go_loopw [6, 34] (fun v i wr' => DiRel n d q l (wn : Int) wq g v i wr') (fun _ i _ => l.length - (intOf i).toNat)
      case atStart => exact ⟨d, (wn : Int) :: q, 0, rfl, MiP.start rfl HBF.out (by simpa using hneg), HM.out, HQT.out, Below.refl _ _⟩
      case round =>
        clear hsl hsa hcx
        obtain ⟨d', wk', j, rfl, hmi, hnum, hq', hbl2⟩ := hrel
        have hz2 := hbl2.size
        replace HD := bk HD hbl2 (by omega)
        have HB3 := Lib.hid (HB2.out.trans (hbl2.mono (by omega)))
        replace HN := Lib.hid ((HN0.out.below HB3.out).more HB3.out.size)
        have hglr' := hnum.lt
        clear q0 q1 q2 qf
        obtain ⟨q0, q1, q2, qf⟩ := cells3 HD
        have HM2 := Lib.hid hnum; clear hnum
        have HMI := Lib.hid hmi; clear hmi
        have HQ2 := Lib.hid hq'; clear hq'
        by_cases hlt : j < l.length
        · obtain ⟨e, he⟩ : ∃ e, l[j]? = some e := ⟨_, List.getElem?_eq_getElem hlt⟩
          obtain ⟨b, o', rfl, -, -⟩ := h4 (by omega)
          obtain ⟨hbb', p0, p1⟩ := (HR.out.below (hbl2.mono (by omega))).at_ he
          have hein := HP.out.endsIn l (List.mem_of_getElem? HL.out) e (List.mem_of_getElem? he)
          obtain ⟨mm, hm⟩ : ∃ m : Nat, e.1 = m := ⟨e.1.toNat, by omega⟩
          rw [hm] at p0 hein
          rw [Int.toNat_natCast] at hein
          have hml := hein.2
          have HEM := Lib.hid hm
          have HE := Lib.hid he
          clear he hm hein
          obtain ⟨wv, hwv, hbv, HEB, hzv, HSV⟩ := box2 wr (.int .i64 (mm : Int)) (.int .i64 e.2) 144
          have HWV := Lib.hid hwv
          obtain ⟨hj1, hj2, hj3, -, hj5, ⟨x, hx, hx0⟩, hj7⟩ := HMI.out
          rw [Int.toNat_natCast] at hx
          obtain ⟨y', hy'⟩ : ∃ y, d'[mm]? = some y := ⟨_, List.getElem?_eq_getElem (by rw [hj5.1]; exact hml)⟩
          have HMV := Lib.hid (HM2.out.keep (hbv.block g hglr'))
          have hc2 := HMV.out.cell hy'
          have hf2 := HMV.out.frozen mm
          have hc3 := HMV.out.cell hx
          obtain ⟨e0, e1, ef⟩ := cells2 HEB
          have hxn := hj5.2.1 x (List.mem_of_getElem? hx)
          have hql : (wk'.drop 1).length ≤ 2000000 := by rw [List.length_drop]; omega
          have hbnd : neg d' < n.es.length := by omega
          have HX1 := Lib.hid hx
          have HY1 := Lib.hid hy'
          clear hx hy' hj3 hj5 hj7
          have d2 := hc2; have d3 := e0
          rw [hwv] at d2 d3
          clear hwv
          by_cases hyn : y' < 0
          · go_wp2_with fail
            clear d2 d3
            rw [← HWV.out]
            have hne : mm ≠ wn := fun h => by
              rw [h] at HY1
              have := Option.some.inj (HX1.out.symm.trans HY1.out)
              omega
            obtain ⟨wa, hwa⟩ : ∃ z, z = (wv.setCell ⟨g, mm, none⟩ (.int .i64 (x + 1))).drew := ⟨_, rfl⟩
            have hwr : IntKind.i64.wrap (x + 1) = x + 1 := IntWalk.i64_in _ (by omega)
            have hNA : NumsAt wa g (d'.set mm (x + 1)) := by rw [hwa]; exact NumsAt.set HMV.out mm (x + 1)
            have ha1 : wa.cell? ⟨g, wn, none⟩ = some (.int .i64 x) := hNA.cell (by rw [List.getElem?_set_ne hne]; exact HX1.out)
            have hka : ∀ b, b ≠ g → wa.heap[b]? = wv.heap[b]? := fun b hb => by rw [hwa]; exact Below.heap_setCell wv _ _ _ (by simpa using hb)
            have ha0 : wa.cell? ⟨wr.heap.size, 0, none⟩ = some (.int .i64 (mm : Int)) := (World.cell?_of_block (a := ⟨wr.heap.size, 0, none⟩) (hka _ (by show wr.heap.size ≠ g; omega))).trans e0
            have hza : wa.heap.size = wv.heap.size := by rw [hwa]; exact size_setCell wv _ _
            have hqa : QRow wa (g + 1) u6 (wk'.drop 1) := HQ2.out.keep fun b h1 h2 => (hka b (by omega)).trans (hbv.block b h2)
            have hba : Below g wq wa := by
              rw [hwa]
              exact ((hbl2.trans (hbv.mono (by omega))).setCell (Nat.le_refl _) _).drew
            have HWA := Lib.hid hwa; clear hwa
            have HNA := Lib.hid hNA; clear hNA
            have HQA := Lib.hid hqa; clear hqa
            have HBA := Lib.hid hba; clear hba
            have HZA := Lib.hid hza; clear hza hka
            refine wp_region_held_drew (S := fun w' => w'.cell? ⟨wr.heap.size, 0, none⟩ = some (.int .i64 (mm : Int)) ∧ w'.cell? ⟨g, wn, none⟩ = some (.int .i64 x)) (by kernel_rfl) ?_ (fun hHeld => ?_)
            · exact ⟨e0, hc3⟩
            refine tk 0 44 rfl rfl ?_
            try simp only [Act.put, pu]
            refine tk 1 45 rfl rfl ?_
            try simp only [Act.put, pu]
            refine tk 2 46 rfl rfl ?_
            try simp only [Act.put, pu]
            refine tk 3 47 rfl rfl ?_
            try simp only [Act.put, pu]
            refine tk 4 48 rfl rfl ?_
            try simp only [Act.put, pu]
            refine tk 5 49 rfl rfl ?_
            try simp only [Act.put, pu]
            refine tk 6 50 rfl rfl ?_
            try simp only [Act.put, pu]
            refine tk 7 51 rfl rfl ?_
            try simp only [Act.put, pu]
            refine tk 8 52 rfl rfl ?_
            try simp only [Act.put, pu]
            refine tr 9 rfl (by kernel_rfl) (fun K hK => ?_)
            go_simp
            rw [← HWA.out]
            refine hK.out _ _ ⟨ha0, ha1⟩ (fun hHeld => ?_)
            clear hK K
            try simp only [Act.put, pu]
            refine wpAnyH_done (by kernel_rfl) ?_ _
            clear e0 e1 ef hc2 hf2 hc3 q0 q1 q2 qf
            have hbs : g + 1 ≤ wa.heap.size := by rw [HZA.out]; omega
            have HC0 := Lib.hid (show (wa.alloc (.cells #[.int .i64 (mm : Int)] 3)).cell? ⟨wa.heap.size, 0, none⟩ = some (.int .i64 (mm : Int)) by
              rw [World.cell?_alloc_at _ _ _ _ rfl]; rfl)
            have HQB := Lib.hid (HQA.out.keep (w' := wa.alloc (.cells #[.int .i64 (mm : Int)] 3)) fun b h1 h2 => (bl_alloc (Below.refl wa.heap.size wa) _).block b h2)
            have HBB := Lib.hid (bl_alloc (Below.refl wa.heap.size wa) (.cells #[.int .i64 (mm : Int)] 3))
            go_wp2_with ((at_builtin; refine wpList_append_q rfl (.tmp 53) (.tmp 56) rfl rfl HQB.out wa.heap.size (mm : Int) rfl HC0.out hql (by simp; omega) ?_; intro v' w' hq'' hb''))
            go_roundw
            case rel =>
              refine ⟨d'.set mm (x + 1), wk' ++ [(mm : Int)], j + 1, by go_num, ?_, ?_, ?_, ?_⟩
              · have h1 := HMI.out.yes HE.out (by rw [HEM.out]; omega) (by rw [Int.toNat_natCast]; exact HX1.out) (by rw [HEM.out, Int.toNat_natCast]; exact HY1.out) hyn
                rw [HEM.out, Int.toNat_natCast] at h1
                exact h1
              · have hga := HNA.out.lt
                exact (HNA.out.keep (HBB.out.block g hga)).keep (hb''.block g (by omega))
              · rw [List.drop_append_of_le_length (by have := HMI.out.2.1; omega)]
                exact hq''
              · exact HBA.out.trans ((HBB.out.mono (by omega)).trans (hb''.mono (by omega)))
            case measure => simp [intOf]; omega
          · go_wp2_with fail
            clear d2 d3
            rw [← HWV.out]
            go_roundw
            case rel => exact ⟨d', wk', j + 1, by go_num, HMI.out.no HE.out (by rw [HEM.out, Int.toNat_natCast]; exact HY1.out) hyn, HMV.out, HQ2.out.keep (fun b _ hb => hbv.block b hb), hbl2.trans (hbv.mono (by omega))⟩
            case measure => simp [intOf]; omega
        · have hlj : l.length ≤ j := by omega
          have hls : neg d' + (wk'.drop 1).length = neg d + q.length := HMI.out.less hlj HP.out.endsIn (by rw [Int.toNat_natCast]; exact HL.out) HBF.out
          have hq7 := HMI.out.2.2.2.2.2.2
          have hk2 := HMI.out.2.1
          go_wp2_with fail
          refine ⟨⟨d', wk'.drop 1, HM2.out, HQ2.out, HMI.out.fin hlj HP.out.endsIn (by rw [Int.toNat_natCast]; exact HL.out) HBF.out, by rw [List.length_drop]; omega, hbl.trans hbl2⟩, ?_⟩
          have k1 := negAt_eq HM2.out
          have k2 := negAt_eq HM.out
          have k3 := HQ2.out.len
          have k4 := HML.out
          show negAt wr g + lenOf _ < negAt wq g + lenOf (.slice (some ⟨gq, o, none⟩) m cap)
          rw [k1, k2]
          show neg d' + lenOf u6 < neg d + m
          rw [k3]
          omega
end Go.Proofs.YtfhecpkhifdnbaaGreat
