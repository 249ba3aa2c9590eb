/-
  Networks, the reference's side: degrees, counts of states, distances, rings.
-/
import Derived.Test.YtfhecpkhifdnbaaGreatNetSpec
import Derived.IntWalk
namespace Go.Proofs.YtfhecpkhifdnbaaGreat
open Go.RowKit
set_option linter.unusedVariables false
set_option linter.unusedSimpArgs false
theorem spec_l1Most (a b : Int) (w : World) :
    Calls Tryz.prog 200 #[.int .i64 a, .int .i64 b] w fun e w' => e = .returned (.int .i64 (if a > b then a else b)) ∧ w = w' := by
  by_cases h : a > b
  · go_enter Tryz.func200, Tryz.ntmps200
    go_wp2
    go_ret
    exact ⟨rfl, rfl⟩
  · go_enter Tryz.func200, Tryz.ntmps200
    go_wp2
    go_ret
    exact ⟨rfl, rfl⟩
theorem spec_l1Least (a b : Int) (w : World) :
    Calls Tryz.prog 135 #[.int .i64 a, .int .i64 b] w fun e w' => e = .returned (.int .i64 (if a < b then a else b)) ∧ w = w' := by
  by_cases h : a < b
  · go_enter Tryz.func135, Tryz.ntmps135
    go_wp2
    go_ret
    exact ⟨rfl, rfl⟩
  · go_enter Tryz.func135, Tryz.ntmps135
    go_wp2
    go_ret
    exact ⟨rfl, rfl⟩
def MostRel (xs : List Int) (w : World) (o i : Value) (wr : World) : Prop := w = wr ∧ ∃ k : Nat, k ≤ xs.length ∧ i = .int .i64 k ∧ o = .int .i64 (most (xs.take k))
theorem most_snoc {xs : List Int} {k : Nat} {x : Int} (h : xs[k]? = some x) : most (xs.take (k + 1)) = if most (xs.take k) > x then most (xs.take k) else x := by
  obtain ⟨hk, rfl⟩ := List.getElem?_eq_some_iff.1 h
  rw [List.take_succ_eq_append_getElem hk]
  unfold most
  rw [List.foldl_append]
  rfl
theorem spec_meMost (v : Value) (xs : List Int) (w : World) (h : IntsR w w.heap.size v xs) :
    Calls Tryz.prog 155 #[v] w fun e w' => e = .returned (.int .i64 (most xs)) ∧ w = w' := by
  obtain ⟨A, c, rfl, h1, h2, h3⟩ := h.open_
  unfold maxLen at h2
  clear h
  go_enter Tryz.func155, Tryz.ntmps155
  go_wp2_with fail
  go_loopw [3, 5, 8] (fun o _ i wr => MostRel xs w o i wr) (fun _ _ i _ => xs.length - (intOf i).toNat)
  case atStart => exact ⟨rfl, 0, Nat.zero_le _, rfl, rfl⟩
  case round =>
    obtain ⟨rfl, k, hk, rfl, rfl⟩ := hrel
    by_cases hlt : k < xs.length
    · obtain ⟨y, hy⟩ : ∃ y, xs[k]? = some y := ⟨xs[k], List.getElem?_eq_getElem hlt⟩
      obtain ⟨ad, rfl, hb, hc⟩ := h3 (by omega)
      have hcell := hc k y hy
      have HM := Lib.hid (most_snoc hy)
      clear h3 hc hy
      generalize most (xs.take k) = q at *
      go_wp2_with (go_at_call 200; refine (spec_l1Most _ _ _).mono ?_; rintro e w' ⟨rfl, rfl⟩)
      go_roundw
      case rel => exact ⟨rfl, k + 1, by omega, by go_num, by rw [HM.out]⟩
      case measure => simp [intOf]; omega
    · have e1 : xs.take k = xs := List.take_of_length_le (by omega)
      rw [e1]
      go_wp2
      go_ret
      exact ⟨rfl, rfl⟩
theorem degs_snoc (n : Net) (k : Nat) (l : Ends) (h : n.es[k]? = some l) : ((degs n).take (k + 1)).map intV = ((degs n).take k).map intV ++ [.int .i64 (l.length : Int)] := by
  have h' : (degs n)[k]? = some (l.length : Int) := by unfold degs; rw [List.getElem?_map, h]; rfl
  obtain ⟨hk', e⟩ := List.getElem?_eq_some_iff.1 h'
  rw [List.take_succ_eq_append_getElem hk', List.map_append, e]; rfl
def IntsRel (xs : List Int) (w : World) (v i : Value) (wr : World) : Prop :=
  ∃ k : Nat, k ≤ xs.length ∧ i = .int .i64 k ∧ wr.ownsRow w.heap.size 3 1 v k ((xs.take k).map intV) ∧ Below w.heap.size w wr
theorem IntsRel.fin {xs : List Int} {w wr : World} {v : Value} {k : Nat} (h : wr.ownsRow w.heap.size 3 1 v k ((xs.take k).map intV)) (hk : xs.length ≤ k) (hx : ∀ x ∈ xs, I64 x) : IntsR wr wr.heap.size v xs := by
  rw [List.take_of_length_le hk] at h
  exact own_intsR h hx
theorem ints_snoc {xs : List Int} {k : Nat} {x : Int} (h : xs[k]? = some x) : (xs.take (k + 1)).map intV = (xs.take k).map intV ++ [.int .i64 x] := by
  obtain ⟨hk', e⟩ := List.getElem?_eq_some_iff.1 h
  rw [List.take_succ_eq_append_getElem hk', List.map_append, e]; rfl
theorem small_I64 {x a b : Int} (h : a ≤ x ∧ x ≤ b) (ha : -1000000000 ≤ a) (hb : b ≤ 1000000000) : I64 x := by unfold I64; omega
theorem spec_neDegrees (ve vi vn : Value) (n : Net) (w : World) (h : NetR w w.heap.size ve vi vn n) (hp : netP n) :
    Calls Tryz.prog 156 #[.agg #[ve, vi, vn]] w fun e w' => ∃ u, e = .returned u ∧ (∃ A m c, u = .slice A m c) ∧ IntsR w' w'.heap.size u (degs n) ∧ Below w.heap.size w w' := by
  have h40 := hp.1.2
  have HP := Lib.hid hp; clear hp
  obtain ⟨⟨A0, m0, c0, rfl⟩, ⟨A1, m1, c1, rfl⟩, A2, m2, c2, rfl⟩ := h.slices
  obtain ⟨w0, hw0, hB, HD, hz0, HS0⟩ := box3 w (.slice A0 m0 c0) (.slice A1 m1 c1) (.slice A2 m2 c2) 31
  have HN0 := Lib.hid h; have HN := Lib.hid (h.up hB); clear h
  have HW0 := Lib.hid hw0; clear hw0
  obtain ⟨q0, q1, q2, qf⟩ := cells3 HD
  obtain ⟨hm0, -, -⟩ := HN.out.e.len_slice
  subst hm0
  have hdl : (degs n).length = n.es.length := by unfold degs; simp
  have HDL := Lib.hid hdl; clear hdl
  go_enter Tryz.func156, Tryz.ntmps156
  go_wp2_with fail
  rw [← HW0.out]
  go_loopw [3, 5, 9] (fun v _ i wr => IntsRel (degs n) w0 v i wr) (fun _ _ i _ => n.es.length - (intOf i).toNat)
  case atStart => exact ⟨0, Nat.zero_le _, rfl, World.ownsRow_nil _ _ _ _, Below.refl _ _⟩
  case round =>
    obtain ⟨k, hk, rfl, hown, hb1⟩ := hrel
    rw [HDL.out] at hk
    have hzhb1 := hb1.size
    clear q0 q1 q2 qf
    replace HD := bk HD hb1
    replace HN := Lib.hid (HN.out.up hb1)
    replace hB := bl_trans hB hb1
    obtain ⟨q0, q1, q2, qf⟩ := cells3 HD
    by_cases hlt : k < n.es.length
    · obtain ⟨l, hl⟩ : ∃ y, n.es[k]? = some y := ⟨n.es[k], List.getElem?_eq_getElem hlt⟩
      obtain ⟨ad, rfl⟩ : ∃ ad, A0 = some ad := by
        obtain ⟨A', c', e, -, -, h3⟩ := HN.out.e
        obtain ⟨ad, e', -⟩ := h3 (by omega)
        cases e
        exact ⟨ad, e'⟩
      obtain ⟨hbb, u, hu, hr⟩ := HN.out.e.at_ hl
      obtain ⟨A', c', rfl, -⟩ := hr
      have hl6 := HP.out.len hl
      have HS := Lib.hid (degs_snoc n k l hl)
      clear hl hbb
      go_wp2_with ((at_builtin; refine wpList_append1 wr rfl (.tmp 13) (.tmp 16) 23 rfl w0.heap.size 3 _ 8 Tryz.underlying23 intInfo rfl _ _ _ rfl _ rfl rfl hown (by unfold maxLen; omega) (by omega) hb1.size ?_; intro v' w' hown' hbl' hgr' hlt' hob'))
      go_roundw
      case rel => exact ⟨k + 1, by rw [HDL.out]; omega, by go_num, by rw [HS.out]; exact hown', hb1.trans hbl'⟩
      case measure => simp [intOf]; omega
    · have hI := IntsRel.fin hown (by rw [HDL.out]; omega) (fun x hx => small_I64 (degs_bd HP.out x hx) (by omega) (by omega))
      have HO := Lib.hid hI; clear hI hown
      go_wp2_with fail
      go_ret
      exact ⟨_, rfl, HO.out.isSlice, HO.out, hB⟩
theorem spec_ssRule (r : Int) (w : World) : Calls Tryz.prog 153 #[.int .i64 r] w fun e w' => e = .returned (.bool (inB r 1 5)) ∧ w = w' := by
  go_enter Tryz.func153, Tryz.ntmps153
  go_wp2_with (go_at_call 72; refine (spec_l1In _ _ _ _).mono ?_; rintro e w' ⟨rfl, rfl⟩)
  go_ret
  exact ⟨rfl, rfl⟩
/-! ### Distances -/
theorem rowOf_map (k n : Nat) (h : k ≤ n) (x : Int) : rowOf ((List.replicate k x).map intV) n (.int .i64 0) = ((List.replicate k x ++ List.replicate (n - k) 0).map intV).toArray := by
  unfold rowOf
  simp [intV]
theorem set_map (d : List Int) (i : Nat) (x : Int) : ((d.map intV).toArray).setIfInBounds i (.int .i64 x) = ((d.set i x).map intV).toArray := by
  simp [List.map_set, intV]
theorem fill_set {k n : Nat} (h : k < n) : (List.replicate k (-1 : Int) ++ List.replicate (n - k) 0).set k (-1) = List.replicate (k + 1) (-1) ++ List.replicate (n - (k + 1)) 0 := by
  obtain ⟨m, hm⟩ : ∃ m, n - k = m + 1 := ⟨n - k - 1, by omega⟩
  rw [hm, show n - (k + 1) = m by omega, List.replicate_succ, List.replicate_succ', List.set_append_right _ _ (by simp), List.length_replicate, Nat.sub_self, List.set_cons_zero, List.append_assoc]
  rfl
/-- A row of numbers in a block of one's own. -/
def NumsAt (w : World) (g : Nat) (d : List Int) : Prop := w.heap[g]? = some (.cells (d.map intV).toArray 3 (0, 0))
theorem NumsAt.cell {w : World} {g : Nat} {d : List Int} (h : NumsAt w g d) {i : Nat} {x : Int} (hx : d[i]? = some x) : w.cell? ⟨g, i, none⟩ = some (.int .i64 x) := by
  rw [cell_of_row _ _ i _ _ (0, 0) h, ← Array.getElem?_toList]
  simp [hx, intV]
theorem NumsAt.frozen {w : World} {g : Nat} {d : List Int} (h : NumsAt w g d) (i : Nat) : w.frozen? ⟨g, i, none⟩ = false := frozen_of_row _ _ i _ _ h
theorem NumsAt.set {w : World} {g : Nat} {d : List Int} (h : NumsAt w g d) (i : Nat) (x : Int) : NumsAt (w.setCell ⟨g, i, none⟩ (.int .i64 x)) g (d.set i x) := by
  unfold NumsAt
  rw [heap_set_same h, set_map]
theorem NumsAt.keep {w w' : World} {g : Nat} {d : List Int} (h : NumsAt w g d) (hk : w'.heap[g]? = w.heap[g]?) : NumsAt w' g d := hk.trans h
theorem NumsAt.lt {w : World} {g : Nat} {d : List Int} (h : NumsAt w g d) : g < w.heap.size := by
  rcases Nat.lt_or_ge g w.heap.size with h' | h'
  · exact h'
  · unfold NumsAt at h
    rw [Array.getElem?_eq_none h'] at h
    cases h
theorem own_keep {w w' : World} {base n : Nat} {v : Value} {vs : List Value} (h : w.ownsRow base 3 1 v n vs) (hs : w.heap.size ≤ w'.heap.size) (hk : ∀ b, base ≤ b → w'.heap[b]? = w.heap[b]?) : w'.ownsRow base 3 1 v n vs := by
  obtain ⟨h1, h2⟩ := h
  refine ⟨h1, ?_⟩
  rcases h2 with h2 | ⟨g, cap, cur, e, k1, k2, k3⟩
  · exact .inl h2
  · exact .inr ⟨g, cap, cur, e, k1, (hk g k1).trans k2, k3⟩
theorem own_set {w : World} {base n g i : Nat} {v u : Value} {vs : List Value} (h : w.ownsRow base 3 1 v n vs) (hg : g < base) : (w.setCell ⟨g, i, none⟩ u).ownsRow base 3 1 v n vs :=
  own_keep h (by simp [World.setCell]) fun b hb => Below.heap_setCell _ _ _ _ (by simp; omega)
theorem kept_below {w w' : World} {base : Nat} {e : TypeId} {v : Value} {n : Nat} {vs : List Value} (h : w.ownsRow base e 1 v n vs) (hb : Below w.heap.size w w') : w'.ownsRow base e 1 v n vs :=
  h.kept (row := none) ⟨hb.os, hb.tape, hb.output, hb.size, fun j hj _ => hb.block j hj⟩ (by cases h : Value.ownBlock v <;> simp)
def FillRel (n g : Nat) (w0 : World) (i : Value) (wr : World) : Prop := ∃ k : Nat, k ≤ n ∧ i = .int .i64 k ∧ NumsAt wr g (List.replicate k (-1) ++ List.replicate (n - k) 0) ∧ Below w0.heap.size w0 wr
theorem own_cells {w : World} {base n : Nat} {v : Value} {xs : List Int} (h : w.ownsRow base 3 1 v n (xs.map intV)) (hn : 0 < xs.length) :
    ∃ g c, v = .slice (some ⟨g, 0, none⟩) xs.length c ∧ c ≤ maxLen ∧ xs.length ≤ c ∧ base ≤ g ∧ g < w.heap.size ∧ ∀ j x, xs[j]? = some x → w.cell? ⟨g, j, none⟩ = some (.int .i64 x) := by
  have hl : xs.length = n := by have := h.1; simp at this; omega
  rw [← hl] at h
  obtain ⟨g, cap, e, h1, h2, h3, h4⟩ := own_some h hn
  subst e
  obtain ⟨bs, k1, k2, k3⟩ := OwnRow.of_owns h
  obtain ⟨A, c, e, m1, m2, m3⟩ := k1.reads (B := w.heap.size) k1.lt
  rw [List.length_map] at e m1 m3
  obtain ⟨ad, e', m4, m5⟩ := m3 hn
  cases e
  cases e'
  refine ⟨g, _, rfl, m2, m1, h3, h4, fun j x hx => ?_⟩
  have := m5 j (.int .i64 x) (by rw [List.getElem?_map, hx]; rfl)
  rwa [show (⟨g, 0, none⟩ : Addr).add j = ⟨g, j, none⟩ by unfold Addr.add; split <;> simp_all] at this
theorem own_slice {w : World} {base n : Nat} {v : Value} {vs : List Value} (h : w.ownsRow base 3 1 v n vs) : ∃ A c, v = .slice A n c := by
  rcases h.2 with ⟨e, e'⟩ | ⟨g, cap, cur, e, _⟩
  · exact ⟨none, 0, by rw [e, e']⟩
  · exact ⟨_, _, e⟩
theorem own_start {w : World} {base g : Nat} {x : Int} (h : w.heap[g]? = some (.cells #[.int .i64 x] 3 (0, 0))) (hb : base ≤ g) : w.ownsRow base 3 1 (.slice (some ⟨g, 0, none⟩) 1 1) 1 ([x].map intV) := by
  exact ⟨by simp, .inr ⟨g, 1, #[.int .i64 x], rfl, hb, h, Nat.le_refl _, by unfold maxLen; omega, by simp, by simp [intV]⟩⟩
theorem far_neg {k v : Nat} (hv : v < k) : neg ((List.replicate k (-1 : Int)).set v 0) + 1 = k := by
  have h1 := neg_set (d := List.replicate k (-1 : Int)) (j := v) (x := 0) (y := -1) (by simp [List.getElem?_replicate, hv]) (by omega) (by omega)
  have hn : neg (List.replicate k (-1 : Int)) = k := by
    unfold neg
    rw [List.countP_replicate]
    simp
  omega
theorem Bfs.dist {es : List Ends} {D d q : List Int} (h : Bfs es D d q) : DistOk es.length d q := by
  obtain ⟨f, _, _, h⟩ := h
  exact h
theorem near_at {es : Ends} {j : Nat} {x : Int} (h : (nearL es)[j]? = some x) : ∃ e, es[j]? = some e ∧ e.1 = x := by
  unfold nearL at h
  rw [List.getElem?_map] at h
  cases he : es[j]? with
  | none => rw [he] at h; cases h
  | some e => rw [he] at h; exact ⟨e, rfl, Option.some.inj h⟩
/-- What the search knows: D the distances in the end, d those at hand, in block g; wk the nodes in the order of their finding, at of which are done. -/
def MeRel (n : Net) (D : List Int) (w3 : World) (g : Nat) (v a : Value) (wr : World) : Prop :=
  ∃ (d wk : List Int) (k : Nat), a = .int .i64 k ∧ k ≤ wk.length ∧ NumsAt wr g d ∧ wr.ownsRow (g + 1) 3 1 v wk.length (wk.map intV) ∧ Bfs n.es D d (wk.drop k) ∧ neg d + wk.length ≤ n.es.length ∧ Below g w3 wr
/-- Within a round: j of the node's ends are done. -/
def MiP (n : Net) (d0 q0 : List Int) (es : Ends) (w : Int) (k : Nat) (d wk : List Int) (j : Nat) : Prop :=
  j ≤ es.length ∧ k < wk.length ∧ wk[k]? = some w ∧ visit w.toNat es (d0, q0) = visit w.toNat (es.drop j) (d, wk.drop (k + 1)) ∧ DistOk n.es.length d (wk.drop (k + 1)) ∧ (∃ x, d[w.toNat]? = some x ∧ 0 ≤ x) ∧ neg d + wk.length ≤ n.es.length
theorem drop_at_ {es : Ends} {j : Nat} {e : Int × Int} (h : es[j]? = some e) : es.drop j = e :: es.drop (j + 1) := by
  obtain ⟨hj, e1⟩ := List.getElem?_eq_some_iff.1 h
  rw [List.drop_eq_getElem_cons hj, e1]
theorem MiP.yes {n : Net} {d0 q0 : List Int} {es : Ends} {w : Int} {k : Nat} {d wk : List Int} {j : Nat} {e : Int × Int} {x y : Int} (h : MiP n d0 q0 es w k d wk j) (he : es[j]? = some e) (h0 : 0 ≤ e.1) (hx : d[w.toNat]? = some x) (hy : d[e.1.toNat]? = some y) (hy0 : y < 0) :
    MiP n d0 q0 es w k (d.set e.1.toNat (x + 1)) (wk ++ [e.1]) (j + 1) := by
  obtain ⟨h1, h2, h3, h4, h5, ⟨x', hx', hx0⟩, h7⟩ := h
  obtain rfl := Option.some.inj (hx.symm.trans hx')
  obtain ⟨k1, k2, k3⟩ := h5.step hx hx0 h0 ⟨y, hy, hy0⟩
  have hj : j < es.length := (List.getElem?_eq_some_iff.1 he).1
  have hd : (wk ++ [e.1]).drop (k + 1) = wk.drop (k + 1) ++ [e.1] := by rw [List.drop_append_of_le_length (by omega)]
  refine ⟨by omega, by simp; omega, by rw [List.getElem?_append_left h2]; exact h3, ?_, by rw [hd]; exact k1, ⟨x, k2, hx0⟩, by simp; omega⟩
  rw [h4, drop_at_ he, hd]
  conv => lhs; unfold visit
  have e1 : d.getD e.1.toNat 0 = y := by simp [List.getD, hy]
  have e2 : d.getD w.toNat 0 = x := by simp [List.getD, hx]
  simp only [e1, e2, if_pos hy0]
theorem MiP.no {n : Net} {d0 q0 : List Int} {es : Ends} {w : Int} {k : Nat} {d wk : List Int} {j : Nat} {e : Int × Int} {y : Int} (h : MiP n d0 q0 es w k d wk j) (he : es[j]? = some e) (hy : d[e.1.toNat]? = some y) (hy0 : ¬ y < 0) :
    MiP n d0 q0 es w k d wk (j + 1) := by
  obtain ⟨h1, h2, h3, h4, h5, h6, h7⟩ := h
  have hj : j < es.length := (List.getElem?_eq_some_iff.1 he).1
  refine ⟨by omega, h2, h3, ?_, h5, h6, h7⟩
  rw [h4, drop_at_ he]
  conv => lhs; unfold visit
  have e1 : d.getD e.1.toNat 0 = y := by simp [List.getD, hy]
  simp only [e1, if_neg hy0]
theorem MiP.fin {n : Net} {D d0 q0 : List Int} {es : Ends} {w : Int} {k : Nat} {d wk : List Int} {j : Nat} (h : MiP n d0 q0 es w k d wk j) (hj : es.length ≤ j) (hes : EndsIn n.es) (hl : n.es[w.toNat]? = some es) (hb : Bfs n.es D d0 (w :: q0)) :
    Bfs n.es D d (wk.drop (k + 1)) := by
  obtain ⟨h1, h2, h3, h4, h5, h6, h7⟩ := h
  have hs := hb.step hes
  have e : n.es.getD w.toNat [] = es := by simp [List.getD, hl]
  rw [e, h4, List.drop_of_length_le hj] at hs
  exact hs
theorem MiP.start {n : Net} {D d wk : List Int} {es : Ends} {w : Int} {k : Nat} (hw : wk[k]? = some w) (hb : Bfs n.es D d (w :: wk.drop (k + 1))) (hn : neg d + wk.length ≤ n.es.length) : MiP n d (wk.drop (k + 1)) es w k d wk 0 := by
  obtain ⟨h1, h2, h3⟩ := hb.dist
  obtain ⟨w0, x, hx, hx0⟩ := h3 w (by simp)
  exact ⟨Nat.zero_le _, (List.getElem?_eq_some_iff.1 hw).1, hw, rfl, ⟨h1, h2, fun z hz => h3 z (by simp [hz])⟩, ⟨x, hx, hx0⟩, hn⟩
/-- The inner loop: w4 the world at its start; what lies between lo and hi stays. -/
def MiRel (n : Net) (d0 q0 : List Int) (es : Ends) (w : Int) (k : Nat) (w3 w4 : World) (g lo hi : Nat) (v i : Value) (wr : World) : Prop :=
  ∃ (d wk : List Int) (j : Nat), i = .int .i64 j ∧ MiP n d0 q0 es w k d wk j ∧ NumsAt wr g d ∧ wr.ownsRow (g + 1) 3 1 v wk.length (wk.map intV) ∧ Below g w3 wr ∧
    (∀ b, lo ≤ b → b < hi → wr.heap[b]? = w4.heap[b]?) ∧ (∀ b, v.ownBlock = some b → b < lo ∨ hi ≤ b) ∧ hi ≤ wr.heap.size
set_option maxRecDepth 100000 in
set_option maxHeartbeats 2000000 in
theorem spec_meFrom (ve vi vn : Value) (n : Net) (v : Nat) (w : World) (h : NetR w w.heap.size ve vi vn n) (hp : netP n) (hv : v < n.es.length) :
    Calls Tryz.prog 212 #[.agg #[ve, vi, vn], .int .i64 (v : Int)] w fun e w' => ∃ u, e = .returned u ∧ (∃ A m c, u = .slice A m c) ∧ IntsR w' w'.heap.size u (far n.es v) ∧ Below w.heap.size w w' := by
  have h40 := hp.1.2
  have HP := Lib.hid hp; clear hp
  have HST := Lib.hid (far_start hv)
  have HFO := Lib.hid (far_ok HP.out.endsIn hv)
  generalize far n.es v = D at *
  obtain ⟨⟨A0, m0, c0, rfl⟩, ⟨A1, m1, c1, rfl⟩, A2, m2, c2, rfl⟩ := h.slices
  obtain ⟨w0, hw0, hB, HD, hz0, HS0⟩ := box3 w (.slice A0 m0 c0) (.slice A1 m1 c1) (.slice A2 m2 c2) 31
  have HN0 := Lib.hid h; have HN := Lib.hid (h.up hB); clear h
  have HW0 := Lib.hid hw0; clear hw0
  obtain ⟨q0, q1, q2, qf⟩ := cells3 HD
  obtain ⟨hm0, -, -⟩ := HN.out.e.len_slice
  subst hm0
  have hmk := fun W => run_make1 (P := Tryz.prog) 23 3 (.int .i64 0) 8 Tryz.underlying23 intInfo rfl n.es.length (by omega) (by omega) W
  have HW1 := Lib.hid (show w.alloc (.cells #[.slice A0 n.es.length c0, .slice A1 m1 c1, .slice A2 m2 c2] 31) = w0 from HW0.out.symm)
  obtain ⟨w1, hw1⟩ : ∃ z, z = w0.alloc (.cells (rowOf [] n.es.length (.int .i64 0)) 3) := ⟨_, rfl⟩
  have HQ1 := Lib.hid hw1; clear hw1
  go_enter Tryz.func212, Tryz.ntmps212
  go_wp2_with fail
  clear hmk
  rw [← HW0.out, ← HQ1.out]
  have hb1 : Below w0.heap.size w0 w1 := by rw [HQ1.out]; exact bl_alloc (Below.refl _ _) _
  have hN1 : NumsAt w1 (w.heap.size + 1) (List.replicate 0 (-1) ++ List.replicate (n.es.length - 0) 0) := by
    unfold NumsAt
    rw [HQ1.out, ← HS0.out, heap_alloc_new, ← rowOf_map 0 n.es.length (Nat.zero_le _)]
    rfl
  have hgw : w0.heap.size ≤ w.heap.size + 1 := by rw [HS0.out]; exact Nat.le_refl _
  go_loopw [6, 17] (fun _ i wr => FillRel n.es.length (w.heap.size + 1) w0 i wr) (fun _ i _ => n.es.length - (intOf i).toNat)
  case atStart => exact ⟨0, Nat.zero_le _, rfl, hN1, hb1⟩
  case round =>
    clear hb1 hN1
    obtain ⟨k, hk, rfl, hnum, hbl⟩ := hrel
    have hzhbl := hbl.size
    clear q0 q1 q2 qf
    replace HD := bk HD hbl
    replace HN := Lib.hid (HN.out.up hbl)
    replace hB := bl_trans hB hbl
    obtain ⟨q0, q1, q2, qf⟩ := cells3 HD
    by_cases hlt : k < n.es.length
    · have hcell := hnum.cell (i := k) (x := 0) (by rw [List.getElem?_append_right (by simp), List.length_replicate, Nat.sub_self, List.getElem?_replicate, if_pos (by omega)])
      have hfz := hnum.frozen k
      have HX := Lib.hid hnum; clear hnum
      go_wp2_with fail
      go_roundw
      case rel => exact ⟨k + 1, by omega, by go_num, by rw [← fill_set hlt]; exact HX.out.set k (-1), hbl.setCell hgw _⟩
      case measure => simp [intOf]; omega
    · have e : List.replicate k (-1 : Int) ++ List.replicate (n.es.length - k) 0 = List.replicate n.es.length (-1) := by rw [show n.es.length - k = 0 by omega, show k = n.es.length by omega]; simp
      rw [e] at hnum
      have hcell := hnum.cell (i := v) (x := -1) (by rw [List.getElem?_replicate, if_pos hv])
      have hfz := hnum.frozen v
      have hgl := hnum.lt
      have HX := Lib.hid hnum; clear hnum e
      obtain ⟨w2, hw2⟩ : ∃ z, z = wr.setCell ⟨w.heap.size + 1, v, none⟩ (.int .i64 0) := ⟨_, rfl⟩
      obtain ⟨w3, hw3⟩ : ∃ z, z = w2.alloc (.cells #[.int .i64 (v : Int)] 3) := ⟨_, rfl⟩
      have hN3 : NumsAt w3 (w.heap.size + 1) ((List.replicate n.es.length (-1)).set v 0) := by
        have h2 := HX.out.set v 0
        rw [← hw2] at h2
        rw [hw3]
        exact h2.keep ((bl_alloc (Below.refl _ w2) _).block _ (by rw [hw2, size_setCell]; exact hgl))
      have hz2 : w2.heap.size = wr.heap.size := by rw [hw2, size_setCell]
      have hO3 := own_start (base := w.heap.size + 1 + 1) (x := (v : Int)) (show w3.heap[w2.heap.size]? = _ by rw [hw3]; exact heap_alloc_new w2 _) (by omega)
      have hB3 : Below (w.heap.size + 1) wr w3 := by rw [hw3, hw2]; exact (Below.setCell (p := ⟨w.heap.size + 1, v, none⟩) (Below.refl (w.heap.size + 1) wr) (Nat.le_refl _) (.int .i64 0)).alloc (by rw [size_setCell]; omega) _
      have hz3 : wr.heap.size < w3.heap.size := by rw [hw3]; simp; omega
      rw [hz2] at hO3
      have H2 := Lib.hid hw2
      have H3 := Lib.hid hw3
      clear hw2 hw3 hz2
      go_wp2_with fail
      rw [← H2.out, ← H3.out]
      have hB' : Below w.heap.size w w3 := hB.trans (hB3.mono (by omega))
      replace HD := bk HD hB3 (by omega)
      replace HN := Lib.hid ((HN0.out.below hB').more hB'.size)
      have hz3' : w.heap.size + 1 < w3.heap.size := by omega
      clear hB hB3 hz3 H2 H3 HX q0 q1 q2 qf hcell hfz hbl hzhbl
      have hB := hB'; clear hB'
      go_loopw [7, 8] (fun v a wr => MeRel n D w3 (w.heap.size + 1) v a wr) (fun _ a _ => n.es.length - (intOf a).toNat)
      case atStart => exact ⟨_, [(v : Int)], 0, rfl, Nat.zero_le _, hN3, hO3, HST.out, by have := far_neg hv; simp only [List.length_singleton]; omega, Below.refl _ _⟩
      case round =>
        clear hO3 hN3
        obtain ⟨d, wk, at_, rfl, hle, hnum, hown, hbfs, hneg, hbl2⟩ := hrel
        have hzr := hbl2.size
        replace hB := hB.trans (hbl2.mono (by omega))
        replace HD := bk HD hbl2 (by omega)
        replace HN := Lib.hid ((HN0.out.below hB).more hB.size)
        have hgl2 := hnum.lt
        have HM := Lib.hid hnum; clear hnum
        by_cases hlt2 : at_ < wk.length
        · obtain ⟨gq, cq, e7, hcm, hcl, hgq, hgq2, hcells⟩ := own_cells hown (by omega)
          subst e7
          obtain ⟨x, hx⟩ : ∃ x, wk[at_]? = some x := ⟨_, List.getElem?_eq_getElem hlt2⟩
          have hdrop : wk.drop at_ = x :: wk.drop (at_ + 1) := by
            obtain ⟨_, e⟩ := List.getElem?_eq_some_iff.1 hx
            rw [List.drop_eq_getElem_cons hlt2, e]
          rw [hdrop] at hbfs
          obtain ⟨hx0, y, hy, hy0⟩ := hbfs.dist.2.2 x (by simp)
          obtain ⟨wn, rfl⟩ : ∃ wn : Nat, x = wn := ⟨x.toNat, by omega⟩
          rw [Int.toNat_natCast] at hy
          have hwn : wn < n.es.length := by rw [← hbfs.dist.1]; exact (List.getElem?_eq_some_iff.1 hy).1
          obtain ⟨l, hl⟩ : ∃ l, n.es[wn]? = some l := ⟨_, List.getElem?_eq_getElem hwn⟩
          have hcx := hcells at_ _ hx
          obtain ⟨q0, q1, q2, qf⟩ := cells3 HD
          have HC := Lib.hid hcells; clear hcells
          have HX := Lib.hid hx; clear hx
          have HL := Lib.hid hl; clear hl
          have HY := Lib.hid (And.intro hy hy0); clear hy hy0
          have HBF := Lib.hid hbfs; clear hbfs hdrop
          have hb0 := Below.refl wr.heap.size wr
          unfold maxLen at hcm
          go_wp2_with fail
          refine wp_region_held_drew (S := fun w' => w'.cell? ⟨w.heap.size, 0, none⟩ = some (.slice A0 n.es.length c0) ∧ w'.cell? ⟨w.heap.size, 1, none⟩ = some (.slice A1 m1 c1) ∧ w'.cell? ⟨w.heap.size, 2, none⟩ = some (.slice A2 m2 c2) ∧ w'.cell? ⟨gq, at_, none⟩ = some (.int .i64 (wn : Int))) (by kernel_rfl) ?_ (fun hHeld => ?_)
          · go_keep
          refine tk 0 35 rfl rfl ?_
          refine tk 1 36 rfl rfl ?_
          refine tk 2 37 rfl rfl ?_
          refine tk 3 38 rfl rfl ?_
          refine tk 4 39 rfl rfl ?_
          refine tk 7 42 rfl rfl ?_
          try simp only [Act.put, pu]
          refine tr 5 rfl (by kernel_rfl) (fun K hK => ?_)
          go_simp
          go_at_call 213
          have hd : Below wr.heap.size wr wr.drew := (Below.refl _ _).drew
          refine (spec_neNear _ _ _ n wn l wr.drew (HN.out.below hd) HL.out (by have := HP.out.len HL.out; omega)).mono ?_
          rintro e w4 ⟨u, rfl, ⟨A', m', c', rfl⟩, hu, hb4, hwo⟩
          obtain ⟨A'', c'', hue, g1, g2, g3⟩ := hu.open_
          cases hue
          have HWO := Lib.hid (show w4.ownsRow wr.heap.size 3 1 (.slice A' (nearL l).length c') l.length ((nearL l).map intV) from hwo); clear hwo
          have HU := Lib.hid (And.intro g3 hu.2); clear g3 hu
          have hB4 : Below wr.heap.size wr w4 := hd.trans hb4
          have hz4 := hB4.size
          have t0 := (hB4.cell (p := ⟨w.heap.size, 0, none⟩) (show w.heap.size < wr.heap.size by omega)).trans q0
          have t1 := (hB4.cell (p := ⟨w.heap.size, 1, none⟩) (show w.heap.size < wr.heap.size by omega)).trans q1
          have t2 := (hB4.cell (p := ⟨w.heap.size, 2, none⟩) (show w.heap.size < wr.heap.size by omega)).trans q2
          have t3 := (hB4.cell (p := ⟨gq, at_, none⟩) hgq2).trans hcx
          clear hb4 hd
          refine hK.out _ _ ?_ (fun hHeld => ?_)
          · go_keep
          clear hK K
          try simp only [Act.put, pu]
          refine tk 6 41 rfl rfl ?_
          try simp only [Act.put, pu]
          refine wpAnyH_done (by kernel_rfl) ?_ _
          have HM4 := Lib.hid (HM.out.keep (hB4.block _ hgl2))
          have hown4 := kept_below hown hB4
          replace HD := bk HD hB4 (by omega)
          replace hbl2 := hbl2.trans (hB4.mono (by omega))
          clear t0 t1 t2 t3 q0 q1 q2 qf hcx hHeld hown
          have hlo : wr.heap.size ≤ w4.heap.size := hB4.size
          have hnb : ∀ b, (Value.slice (some ⟨gq, 0, none⟩) wk.length cq).ownBlock = some b → b < wr.heap.size ∨ w4.heap.size ≤ b := fun b hb => by
            obtain rfl : gq = b := Option.some.inj hb
            exact .inl hgq2
          have HB2 := Lib.hid hbl2; clear hbl2
          go_wp2_with fail
          have HLL2 := Lib.hid (show (nearL l).length = l.length by unfold nearL; simp)
          have hlr : l.length ≤ (nearL l).length ∧ (nearL l).length ≤ l.length := by rw [HLL2.out]; exact ⟨Nat.le_refl _, Nat.le_refl _⟩
          have hl6 : l.length ≤ 6 := HP.out.len HL.out
          obtain ⟨wq, rfl⟩ : ∃ z, z = wr := ⟨_, rfl⟩
          go_loopw [7, 42] (fun v i wr' => MiRel n d (wk.drop (at_ + 1)) l (wn : Int) at_ w3 w4 (w.heap.size + 1) wq.heap.size w4.heap.size v i wr') (fun _ i _ => l.length - (intOf i).toNat)
          case atStart => exact ⟨d, wk, 0, rfl, MiP.start HX.out HBF.out hneg, HM4.out, hown4, HB2.out, fun _ _ _ => rfl, hnb, Nat.le_refl _⟩
          case round =>
            clear hnb hown4 HM4 HM
            obtain ⟨d', wk', j, rfl, hmi, hnum, hown, hbl3, hsame, hob, hhi⟩ := hrel
            have hgl3 := hnum.lt
            have HM := Lib.hid hnum; clear hnum
            have HMI := Lib.hid hmi; clear hmi
            have HSM := Lib.hid hsame; clear hsame
            by_cases hlt3 : j < l.length
            · obtain ⟨e, he⟩ : ∃ e, l[j]? = some e := ⟨_, List.getElem?_eq_getElem hlt3⟩
              have hne : (nearL l)[j]? = some e.1 := by unfold nearL; rw [List.getElem?_map, he]; rfl
              obtain ⟨gn, cn, en, -, -, hgn, hgn2, hncell⟩ := own_cells (HLL2.out ▸ HWO.out : w4.ownsRow wq.heap.size 3 1 (.slice A' (nearL l).length c') (nearL l).length ((nearL l).map intV)) (by omega)
              cases en
              have hc1 := (World.cell?_of_block (a := ⟨gn, j, none⟩) (HSM.out gn hgn hgn2)).trans (hncell j e.1 hne)
              have hein := HP.out.endsIn l (List.mem_of_getElem? HL.out) e (List.mem_of_getElem? he)
              obtain ⟨m, hm⟩ : ∃ m : Nat, e.1 = m := ⟨e.1.toNat, by omega⟩
              have HEM := Lib.hid hm
              rw [hm] at hc1 hein
              rw [Int.toNat_natCast] at hein
              have HE := Lib.hid he
              clear hncell hne he hm
              obtain ⟨hj1, hj2, hj3, -, hj5, ⟨x, hx, hx0⟩, hj7⟩ := HMI.out
              rw [Int.toNat_natCast] at hx
              obtain ⟨y', hy⟩ : ∃ y, d'[m]? = some y := ⟨_, List.getElem?_eq_getElem (by rw [hj5.1]; exact hein.2)⟩
              have hc2 := HM.out.cell hy
              have hf2 := HM.out.frozen m
              have hc3 := HM.out.cell hx
              obtain ⟨gw, cw, ew, hwm, hwl, hgw1, hgw2, hwcell⟩ := own_cells hown (by omega)
              subst ew
              have hc4 := hwcell at_ _ hj3
              have hxn := hj5.2.1 x (List.mem_of_getElem? hx)
              have hdl := hj5.1
              have HX1 := Lib.hid hx
              have HY1 := Lib.hid hy
              have HDL := Lib.hid hdl
              unfold maxLen at hwm
              clear hwcell hx hy hj3 hj5 hdl
              by_cases hy0 : y' < 0
              · obtain ⟨wa, hwa⟩ : ∃ z, z = wr.setCell ⟨w.heap.size + 1, m, none⟩ (.int .i64 (x + 1)) := ⟨_, rfl⟩
                have HWA := Lib.hid hwa
                have hza : wa.heap.size ≤ wr.heap.size := by rw [hwa, size_setCell]; exact Nat.le_refl _
                have hza' : wr.heap.size ≤ wa.heap.size := by rw [hwa, size_setCell]; exact Nat.le_refl _
                have hka : ∀ b, b ≠ w.heap.size + 1 → wa.heap[b]? = wr.heap[b]? := fun b hb => by rw [hwa]; exact Below.heap_setCell _ _ _ _ (by simpa using hb)
                have howna : wa.ownsRow (w.heap.size + 1 + 1) 3 1 (.slice (some ⟨gw, 0, none⟩) wk'.length cw) wk'.length (wk'.map intV) := own_keep hown hza' fun b hb => hka b (by omega)
                have hbla : Below (w.heap.size + 1) w3 wa := by rw [hwa]; exact hbl3.setCell (Nat.le_refl _) _
                have HMA := Lib.hid (show NumsAt wa (w.heap.size + 1) (d'.set m (x + 1)) by rw [hwa]; exact HM.out.set m (x + 1))
                have hex : wr.setCell ⟨w.heap.size + 1, m, none⟩ (.int .i64 (x + 1)) = wa := hwa.symm
                have HEX := Lib.hid hex
                clear hwa hex
                go_wp2_with ((at_builtin; rw [HEX.out]; refine wpList_append1 wa rfl (.tmp 62) (.tmp 64) 23 rfl (w.heap.size + 1 + 1) 3 _ 8 Tryz.underlying23 intInfo rfl _ _ _ rfl _ rfl (by show Value.slice (some ⟨wr.heap.size, 0, none⟩) 1 1 = _; rw [show wr.heap.size = wa.heap.size by omega]) howna (by unfold maxLen; omega) (by omega) (by omega) ?_; intro v' w' hown' hbl' hgr' hlt' hob'))
                go_roundw
                case rel =>
                  refine ⟨d'.set m (x + 1), wk' ++ [e.1], j + 1, by go_num, ?_, HMA.out.keep (hbl'.block _ (by omega)), ?_, hbla.trans (hbl'.mono (by omega)), fun b h1 h2 => ?_, fun b hb => ?_, by omega⟩
                  · have h1 := HMI.out.yes HE.out (by rw [HEM.out]; omega) (by rw [Int.toNat_natCast]; exact HX1.out) (by rw [HEM.out, Int.toNat_natCast]; exact HY1.out) hy0
                    rw [HEM.out, Int.toNat_natCast] at h1
                    rw [HEM.out]
                    exact h1
                  · rw [HEM.out]
                    rw [List.length_append, List.map_append]
                    exact hown'
                  · have hne : (Value.slice (some ⟨gw, 0, none⟩) wk'.length cw).ownBlock ≠ some b := fun h => by rcases hob b h with h | h <;> omega
                    rw [hgr'.block b (by omega) (fun h => hne h.symm), hka b (by omega)]
                    exact HSM.out b h1 h2
                  · rcases hob' with h | ⟨g', h, h1, h2⟩
                    · exact hob b (h ▸ hb)
                    · obtain rfl : g' = b := Option.some.inj (h.symm.trans hb)
                      right; omega
                case measure => simp [intOf]; omega
              · go_wp2_with fail
                go_roundw
                case rel => exact ⟨d', wk', j + 1, by go_num, HMI.out.no HE.out (by rw [HEM.out, Int.toNat_natCast]; exact HY1.out) hy0, HM.out, hown, hbl3, HSM.out, hob, hhi⟩
                case measure => simp [intOf]; omega
            · have hlj : l.length ≤ j := by omega
              have hmb := And.intro HMI.out.2.1 HMI.out.2.2.2.2.2.2
              go_wp2_with fail
              refine ⟨⟨d', wk', at_ + 1, by go_num, HMI.out.2.1, HM.out, hown, HMI.out.fin hlj HP.out.endsIn (by rw [Int.toNat_natCast]; exact HL.out) HBF.out, HMI.out.2.2.2.2.2.2, hbl3⟩, ?_⟩
              simp [intOf]
              omega
        · obtain ⟨Aw, cw0, hw7⟩ := own_slice hown
          subst hw7
          have HFF := Lib.hid (show D = d by
            rw [List.drop_of_length_le (by omega)] at hbfs
            exact hbfs.fin.1)
          go_wp2_with fail
          go_ret
          refine ⟨_, rfl, ⟨_, _, _, rfl⟩, ?_, hB⟩
          obtain ⟨k1, k2⟩ := HFO.out
          have h1 := HM.out
          rw [← HFF.out] at h1
          have h2 := ints_row (B := wr.heap.size) h1 (by unfold maxLen; omega) (fun x hx => by rcases k2 x hx with h | h <;> unfold I64 <;> omega) hgl2
          rw [k1] at h2
          exact h2
theorem spec_meConnected (ve vi vn : Value) (n : Net) (w : World) (h : NetR w w.heap.size ve vi vn n) (hp : netP n) :
    Calls Tryz.prog 239 #[.agg #[ve, vi, vn]] w fun e w' => e = .returned (.bool (connB n)) ∧ Below w.heap.size w w' := by
  have HP := Lib.hid hp
  have HC := Lib.hid (show allB (far n.es 0) 0 40 = connB n by
    by_cases hc : connP n
    · rw [show connB n = true from propB_t hc]
      exact allB_iff.2 ((conn_all hp).1 hc)
    · rw [show connB n = false from propB_f hc]
      cases e : allB (far n.es 0) 0 40 with
      | false => rfl
      | true => exact absurd ((conn_all hp).2 (allB_iff.1 e)) hc)
  clear hp
  obtain ⟨⟨A0, m0, c0, rfl⟩, ⟨A1, m1, c1, rfl⟩, A2, m2, c2, rfl⟩ := h.slices
  obtain ⟨w0, hw0, hB, HD, hz0, HS0⟩ := box3 w (.slice A0 m0 c0) (.slice A1 m1 c1) (.slice A2 m2 c2) 31
  have HN0 := Lib.hid h; have HN := Lib.hid (h.up hB); clear h
  have HW0 := Lib.hid hw0; clear hw0
  obtain ⟨q0, q1, q2, qf⟩ := cells3 HD
  go_enter Tryz.func239, Tryz.ntmps239
  go_wp2_with fail
  rw [← HW0.out]
  refine (spec_meFrom _ _ _ n 0 w0 HN.out HP.out (by have := HP.out.1.1; omega)).mono ?_
  rintro e w1 ⟨u, rfl, ⟨A', m', c', rfl⟩, hu, hb1⟩
  have HU := Lib.hid hu; clear hu
  have hzhb1 := hb1.size
  clear q0 q1 q2 qf
  replace HD := bk HD hb1
  replace HN := Lib.hid (HN.out.up hb1)
  replace hB := bl_trans hB hb1
  obtain ⟨q0, q1, q2, qf⟩ := cells3 HD
  go_wp2_with fail
  refine (spec_l1All _ (far n.es 0) 0 40 w1 HU.out).mono ?_
  rintro e w2 ⟨rfl, rfl⟩
  go_wp2_with fail
  go_ret
  exact ⟨ret_bool HC.out, hB⟩
end Go.Proofs.YtfhecpkhifdnbaaGreat
