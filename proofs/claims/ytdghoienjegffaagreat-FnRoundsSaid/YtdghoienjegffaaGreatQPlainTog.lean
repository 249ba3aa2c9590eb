/-
  Rounds in which all enabled nodes move: the states behind them; the tree rule reaches the distances in as many rounds as there are nodes, and one. No program in sight; the network is valid.
-/
import Derived.Test.YtdghoienjegffaaGreatQPlainLegal
namespace Go.Proofs.YtdghoienjegffaaGreat
open Go.RowKit
set_option linter.all false
noncomputable def roundT (n : Net) (r : Int) (ss : List Int) : List Int := moveS n r ss (enS n r ss)
noncomputable def roundsT (n : Net) (r : Int) : Nat → List Int → List Int
  | 0, ss => ss
  | k + 1, ss => roundT n r (roundsT n r k ss)
theorem roundT_len (n : Net) (r : Int) (ss : List Int) : (roundT n r ss).length = ss.length := moveS_len n r ss _
theorem roundsT_len (n : Net) (r : Int) (ss : List Int) : ∀ k, (roundsT n r k ss).length = ss.length
  | 0 => rfl
  | k + 1 => (roundT_len n r _).trans (roundsT_len n r ss k)
theorem move_at {n : Net} {r : Int} {ss : List Int} (f : Nat → Int) : ∀ (vs : List Nat) (out : List Int) (v : Nat), v < out.length → (vs.foldl (fun out u => out.set u (f u)) out).getD v 0 = if v ∈ vs then f v else out.getD v 0
  | [], out, v, _ => by simp
  | u :: vs, out, v, hv => by
    rw [List.foldl_cons, move_at (n := n) (r := r) (ss := ss) f vs (out.set u (f u)) v (by rw [List.length_set]; exact hv)]
    by_cases h1 : v ∈ vs
    · rw [if_pos h1, if_pos (List.mem_cons_of_mem _ h1)]
    · rw [if_neg h1]
      by_cases h2 : v = u
      · subst h2
        rw [if_pos (by simp), List.getD_eq_getElem?_getD, List.getElem?_set, if_pos rfl, if_pos hv]
        rfl
      · rw [if_neg (by simp [h1, h2]), List.getD_eq_getElem?_getD, List.getElem?_set, if_neg (fun e => h2 e.symm), ← List.getD_eq_getElem?_getD]
theorem roundT_at (n : Net) (r : Int) (ss : List Int) {v : Nat} (hv : v < ss.length) : (roundT n r ss).getD v 0 = nextS n r ss v := by
  have e : roundT n r ss = (enN n r ss).foldl (fun out u => out.set u (nextS n r ss u)) ss := by
    unfold roundT moveS enS
    rw [List.foldl_map]
    rfl
  rw [e, move_at (n := n) (r := r) (ss := ss) (nextS n r ss) (enN n r ss) ss v hv]
  by_cases h : v ∈ enN n r ss
  · rw [if_pos h]
  · rw [if_neg h]
    unfold enN at h
    apply Classical.byContradiction
    intro hc
    exact h (List.mem_filter.2 ⟨List.mem_range.2 hv, by simpa using fun e => hc e.symm⟩)
theorem roundT_calm {n : Net} {r : Int} {ss : List Int} (h : enS n r ss = []) : roundT n r ss = ss := by unfold roundT; rw [h]; rfl
theorem roundsT_calm {n : Net} {r : Int} {ss : List Int} {j : Nat} (h : enS n r (roundsT n r j ss) = []) : ∀ k, roundsT n r (j + k) ss = roundsT n r j ss
  | 0 => rfl
  | k + 1 => by
    show roundT n r (roundsT n r (j + k) ss) = _
    rw [roundsT_calm h k, roundT_calm h]
theorem leastD_spec (d : List Int) : ∀ (set : List Int) (p : Int), (p < 0 ∨ 0 ≤ p) →
  let q := set.foldl (fun out w => if 0 ≤ gd d w.toNat ∧ (out < 0 ∨ gd d w.toNat < out) then gd d w.toNat else out) p
  (0 ≤ p → 0 ≤ q ∧ q ≤ p) ∧ (∀ w ∈ set, 0 ≤ gd d w.toNat → 0 ≤ q ∧ q ≤ gd d w.toNat) ∧ (q = p ∨ ∃ w ∈ set, 0 ≤ gd d w.toNat ∧ q = gd d w.toNat)
 | [], p, _ => ⟨fun h => ⟨h, Int.le_refl _⟩, fun w hw _ => absurd hw (by simp), .inl rfl⟩
 | x :: set, p, hp => by
  intro q
  have ih := leastD_spec d set (if 0 ≤ gd d x.toNat ∧ (p < 0 ∨ gd d x.toNat < p) then gd d x.toNat else p) (by omega)
  obtain ⟨i1, i2, i3⟩ := ih
  have hq : q = set.foldl (fun out w => if 0 ≤ gd d w.toNat ∧ (out < 0 ∨ gd d w.toNat < out) then gd d w.toNat else out) (if 0 ≤ gd d x.toNat ∧ (p < 0 ∨ gd d x.toNat < p) then gd d x.toNat else p) := rfl
  rw [← hq] at i1 i2 i3
  clear hq
  by_cases hc : 0 ≤ gd d x.toNat ∧ (p < 0 ∨ gd d x.toNat < p)
  ·
   rw [if_pos hc] at i1 i3
   refine ⟨fun h => ?_, fun w hw h0 => ?_, ?_⟩
   ·
    have := i1 hc.1; omega
   ·
    rcases List.mem_cons.1 hw with rfl | hw
    ·
     exact i1 h0
    ·
     exact i2 w hw h0
   ·
    rcases i3 with h | ⟨w, hw, h1, h2⟩
    ·
     exact .inr ⟨x, List.mem_cons_self, hc.1, h⟩
    ·
     exact .inr ⟨w, List.mem_cons_of_mem _ hw, h1, h2⟩
  ·
   rw [if_neg hc] at i1 i3
   refine ⟨i1, fun w hw h0 => ?_, ?_⟩
   ·
    rcases List.mem_cons.1 hw with rfl | hw
    ·
     have := i1 (by omega); omega
    ·
     exact i2 w hw h0
   ·
    rcases i3 with h | ⟨w, hw, h1, h2⟩
    ·
     exact .inl h
    ·
     exact .inr ⟨w, List.mem_cons_of_mem _ hw, h1, h2⟩
theorem leastD_le {d set : List Int} {w : Int} (hw : w ∈ set) (h : 0 ≤ gd d w.toNat) : 0 ≤ leastD d set ∧ leastD d set ≤ gd d w.toNat := (leastD_spec d set (-1) (.inl (by decide))).2.1 w hw h
theorem leastD_mem {d set : List Int} (h : 0 ≤ leastD d set) : ∃ w ∈ set, 0 ≤ gd d w.toNat ∧ leastD d set = gd d w.toNat := by
  rcases (leastD_spec d set (-1) (.inl (by decide))).2.2 with h1 | h1
  · have h2 : leastD d set = -1 := h1
    omega
  · exact h1
def rootP (n : Net) (b : Nat) : Prop := n.ins.getD b 0 = 1
theorem root_in {n : Net} (h : netP n) {b : Nat} (hb : rootP n b) : b < n.es.length ∧ ((b : Int)) ∈ rootsL n.ins := by
  have hl : b < n.ins.length := by
    apply Classical.byContradiction
    intro hc
    unfold rootP at hb
    rw [List.getD_eq_getElem?_getD, List.getElem?_eq_none (by omega)] at hb
    exact absurd hb (by decide)
  refine ⟨by rw [← h.2.2.1]; exact hl, ?_⟩
  unfold rootsL
  exact List.mem_map.2 ⟨b, List.mem_filter.2 ⟨List.mem_range.2 hl, by unfold rootP at hb; simpa using hb⟩, rfl⟩
theorem root_of {n : Net} {z : Int} (hz : z ∈ rootsL n.ins) : rootP n z.toNat := by
  unfold rootsL at hz
  obtain ⟨v, hv, rfl⟩ := List.mem_map.1 hz
  have := (List.mem_filter.1 hv).2
  unfold rootP
  simpa using this
theorem farV_le {n : Net} (h : netP n) {v b k : Nat} (hv : v < n.es.length) (hw : Wk n.es v b k) (hb : rootP n b) : farV n v ≤ k := by
  have hl := (far_lab h.endsIn hv).walk hw
  obtain ⟨hbl, hm⟩ := root_in h hb
  have := leastD_le (d := far n.es v) hm (by simpa using hl.1)
  unfold farV
  rw [if_neg (by omega)]
  have h2 := hl.2
  simp only [Int.toNat_natCast] at this
  omega
theorem farV_ex {n : Net} (h : netP n) {v : Nat} (hv : v < n.es.length) : (0 ≤ farV n v ∧ farV n v ≤ n.es.length) ∧ (farV n v = n.es.length ∨ ∃ (m b : Nat), farV n v = m ∧ Wk n.es v b m ∧ rootP n b) := by
  unfold farV
  by_cases hc : leastD (far n.es v) (rootsL n.ins) < 0
  · rw [if_pos hc]; exact ⟨⟨by omega, by omega⟩, .inl rfl⟩
  · rw [if_neg hc]
    obtain ⟨z, hz, h0, he⟩ := leastD_mem (show 0 ≤ leastD (far n.es v) (rootsL n.ins) by omega)
    obtain ⟨m, hm⟩ := Int.eq_ofNat_of_zero_le h0
    have hf := (far_lab h.endsIn hv).found m z.toNat hm
    have hok := (far_ok h.endsIn hv).2
    have hlt := gd_lt h0
    have hx : gd (far n.es v) z.toNat ∈ far n.es v := by
      unfold gd
      rw [List.getD_eq_getElem?_getD, List.getElem?_eq_getElem hlt]
      exact List.getElem_mem hlt
    have := hok _ hx
    rw [he]
    exact ⟨⟨by omega, by omega⟩, .inr ⟨m, z.toNat, hm, hf, root_of hz⟩⟩
theorem leastOf_spec (k : Int) : ∀ (xs : List Int), leastOf k xs ≤ k ∧ (∀ x ∈ xs, leastOf k xs ≤ x + 1) ∧ (leastOf k xs = k ∨ ∃ x ∈ xs, leastOf k xs = x + 1) := by
  intro xs
  induction xs generalizing k with
  | nil => exact ⟨Int.le_refl _, fun x hx => (by cases hx), .inl rfl⟩
  | cons y r ih =>
    have e : leastOf k (y :: r) = leastOf (if k < y + 1 then k else y + 1) r := rfl
    rw [e]
    have hp : (if k < y + 1 then k else y + 1) ≤ k ∧ (if k < y + 1 then k else y + 1) ≤ y + 1 ∧ ((if k < y + 1 then k else y + 1) = k ∨ (if k < y + 1 then k else y + 1) = y + 1) := by split <;> omega
    generalize (if k < y + 1 then k else y + 1) = p at hp
    obtain ⟨i1, i2, i3⟩ := ih p
    obtain ⟨p1, p2, p3⟩ := hp
    refine ⟨by omega, fun x hx => ?_, ?_⟩
    · rcases List.mem_cons.1 hx with rfl | hx
      · omega
      · exact i2 x hx
    · rcases i3 with h | ⟨x, hx, h⟩
      · rcases p3 with h' | h'
        · exact .inl (h.trans h')
        · exact .inr ⟨y, List.mem_cons_self, h.trans h'⟩
      · exact .inr ⟨x, List.mem_cons_of_mem _ hx, h⟩
theorem tree_next {n : Net} {ss : List Int} {v : Nat} : nextS n 1 ss v = treeS n (n.es.getD v []) ss v := by unfold nextS nextAt; rw [if_pos rfl]
theorem adj_ends {n : Net} {v : Nat} {e : Int × Int} (h : netP n) (hv : v < n.es.length) (he : e ∈ n.es.getD v []) : e.1.toNat < n.es.length ∧ Adj n.es v e.1.toNat := by
  have hl : n.es[v]? = some (n.es.getD v []) := by rw [List.getD_eq_getElem?_getD, List.getElem?_eq_getElem hv]; rfl
  have := h.endsIn _ (List.mem_of_getElem? hl) e he
  exact ⟨this.2, _, hl, e, he, rfl⟩
theorem far_step {n : Net} (h : netP n) {v u : Nat} (hv : v < n.es.length) (hu : u < n.es.length) (ha : Adj n.es v u) : farV n v ≤ farV n u + 1 := by
  have h1 := farV_ex h hv
  rcases (farV_ex h hu).2 with h2 | ⟨m, b, h2, h3, h4⟩
  · omega
  · have := farV_le h hv (h3.cons ha) h4
    omega
theorem tree_low {n : Net} (h : netP n) {ss : List Int} (hl : ss.length = n.es.length) (h0 : ∀ x ∈ ss, 0 ≤ x) : ∀ (t v : Nat), v < n.es.length → min (t : Int) (farV n v) ≤ (roundsT n 1 t ss).getD v 0
  | 0, v, hv => by
    have h1 := (farV_ex h hv).1
    have h2 : 0 ≤ ss.getD v 0 := by
      rw [List.getD_eq_getElem?_getD, List.getElem?_eq_getElem (by omega)]
      exact h0 _ (List.getElem_mem _)
    show min _ _ ≤ ss.getD v 0
    omega
  | t + 1, v, hv => by
    show _ ≤ (roundT n 1 (roundsT n 1 t ss)).getD v 0
    rw [roundT_at _ _ _ (by rw [roundsT_len]; omega), tree_next]
    unfold treeS
    by_cases hr : n.ins.getD v 0 = 1
    · rw [if_pos hr]
      have := farV_le h hv (Wk.nil v) hr
      omega
    · rw [if_neg hr]
      have h1 := (farV_ex h hv).1
      rcases (leastOf_spec n.es.length (nearSt (n.es.getD v []) (roundsT n 1 t ss))).2.2 with h2 | ⟨x, hx, h2⟩
      · omega
      · obtain ⟨e, he, rfl⟩ := nearSt_mem.1 hx
        obtain ⟨hu, ha⟩ := adj_ends h hv he
        have h3 := tree_low h hl h0 t e.1.toNat hu
        have h4 := far_step h hv hu ha
        omega
theorem tree_max {n : Net} (h : netP n) {ss : List Int} (hl : ss.length = n.es.length) (t v : Nat) (hv : v < n.es.length) : (roundsT n 1 (t + 1) ss).getD v 0 ≤ n.es.length := by
  show (roundT n 1 (roundsT n 1 t ss)).getD v 0 ≤ _
  rw [roundT_at _ _ _ (by rw [roundsT_len]; omega), tree_next]
  unfold treeS
  split
  · omega
  · exact (leastOf_spec _ _).1
theorem tree_up {n : Net} (h : netP n) {ss : List Int} (hl : ss.length = n.es.length) {b : Nat} (hb : rootP n b) : ∀ (m v t : Nat), v < n.es.length → Wk n.es b v m → m + 1 ≤ t → (roundsT n 1 t ss).getD v 0 ≤ m := by
  intro m
  induction m with
  | zero =>
    intro v t hv hw ht
    cases hw
    obtain ⟨t, rfl⟩ : ∃ z, t = z + 1 := ⟨t - 1, by omega⟩
    show (roundT n 1 (roundsT n 1 t ss)).getD _ 0 ≤ _
    rw [roundT_at _ _ _ (by rw [roundsT_len]; omega), tree_next]
    unfold treeS
    rw [if_pos (show n.ins.getD b 0 = 1 from hb)]
    exact Int.le_refl _
  | succ m ih =>
    intro v t hv hw ht
    cases hw with
    | snoc h1 h2 =>
      rename_i u
      obtain ⟨t, rfl⟩ : ∃ z, t = z + 1 := ⟨t - 1, by omega⟩
      have h3 := h.adj_symm _ _ h2
      obtain ⟨l, hll, e, he, hev⟩ := h3
      have hu : u < n.es.length := by
        obtain ⟨l', hl', _⟩ := h2
        exact (List.getElem?_eq_some_iff.1 hl').1
      have h4 := ih u t hu h1 (by omega)
      show (roundT n 1 (roundsT n 1 t ss)).getD _ 0 ≤ _
      rw [roundT_at _ _ _ (by rw [roundsT_len]; omega), tree_next]
      unfold treeS
      split
      · omega
      · have hgd : n.es.getD v [] = l := by rw [List.getD_eq_getElem?_getD, hll]; rfl
        have h5 := (leastOf_spec n.es.length (nearSt (n.es.getD v []) (roundsT n 1 t ss))).2.1 ((roundsT n 1 t ss).getD u 0) (nearSt_mem.2 ⟨e, by rw [hgd]; exact he, by rw [hev]⟩)
        omega
theorem tree_conv {n : Net} (h : netP n) {ss : List Int} (hl : ss.length = n.es.length) (h0 : ∀ x ∈ ss, 0 ≤ x) {t : Nat} (ht : n.es.length + 1 ≤ t) : roundsT n 1 t ss = farT n := by
  have e1 : (roundsT n 1 t ss).length = n.es.length := (roundsT_len n 1 ss t).trans hl
  have e2 : (farT n).length = n.es.length := by unfold farT; simp
  refine List.ext_getElem? fun v => ?_
  by_cases hv : v < n.es.length
  · have g1 : (roundsT n 1 t ss)[v]? = some ((roundsT n 1 t ss).getD v 0) := by rw [List.getD_eq_getElem?_getD, List.getElem?_eq_getElem (by omega)]; rfl
    have g2 : (farT n)[v]? = some (farV n v) := by unfold farT; rw [List.getElem?_map, List.getElem?_range hv]; rfl
    rw [g1, g2]
    have h1 := tree_low h hl h0 t v hv
    have h2 := (farV_ex h hv).1
    have h3 : (roundsT n 1 t ss).getD v 0 ≤ farV n v := by
      rcases (farV_ex h hv).2 with h4 | ⟨m, b, h4, h5, h6⟩
      · obtain ⟨t', rfl⟩ : ∃ z, t = z + 1 := ⟨t - 1, by omega⟩
        rw [h4]; exact tree_max h hl t' v hv
      · rw [h4]
        exact tree_up h hl h6 m v t hv (h5.rev h.adj_symm) (by omega)
    congr 1
    omega
  · rw [List.getElem?_eq_none (by omega), List.getElem?_eq_none (by omega)]
end Go.Proofs.YtdghoienjegffaaGreat
