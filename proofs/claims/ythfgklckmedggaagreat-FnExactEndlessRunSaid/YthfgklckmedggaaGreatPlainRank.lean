/-
  Plain law: ranks of situations. A situation has a rank if every run from it ends in legal situations. No condition.
-/
import Derived.Test.YthfgklckmedggaaGreatSpecA
namespace Go.Proofs.YthfgklckmedggaaGreat
set_option linter.unusedVariables false
set_option linter.unusedSimpArgs false
/-- Situation x has the rank k: legal ones have 0, others one more than the most of their successors, which all have ranks. -/
inductive Rk (N : List (List Int)) (d : List Bool) : Nat → Nat → Prop
  | legal {x : Nat} (h : d.getD x false = true) : Rk N d x 0
  | step {x : Nat} {l : List Int} (f : Int → Nat) (m : Nat) (h : d.getD x false = false) (hl : N[x]? = some l) (hne : l ≠ []) (hf : ∀ y ∈ l, Rk N d y.toNat (f y)) (hm : ∀ y ∈ l, f y ≤ m) (hx : ∃ y ∈ l, f y = m) : Rk N d x (m + 1)
theorem Rk.unique {N : List (List Int)} {d : List Bool} {x k : Nat} (h : Rk N d x k) : ∀ {j : Nat}, Rk N d x j → k = j := by
  induction h with
  | legal h =>
    intro j hj
    cases hj with
    | legal _ => rfl
    | step f m h' => rw [h] at h'; cases h'
  | step f m h hl hne hf hm hx ih =>
    intro j hj
    cases hj with
    | legal h' => rw [h] at h'; cases h'
    | step f' m' h' hl' hne' hf' hm' hx' =>
      obtain rfl := Option.some.inj (hl.symm.trans hl')
      have he : ∀ y ∈ _, f y = f' y := fun y hy => ih y hy (hf' y hy)
      obtain ⟨y, hy, e⟩ := hx
      obtain ⟨y', hy', e'⟩ := hx'
      have h1 := hm' y hy
      have h2 := hm y' hy'
      rw [← he y hy] at h1
      rw [he y' hy'] at h2
      omega
/-- A situation without a successor, which is not legal, has no rank. -/
theorem Rk.stuck {N : List (List Int)} {d : List Bool} {x k : Nat} (hd : d.getD x false = false) (hl : N[x]? = some []) : ¬ Rk N d x k := by
  intro h
  cases h with
  | legal h => rw [hd] at h; cases h
  | step f m _ hl' hne => exact hne (Option.some.inj (hl'.symm.trans hl))
/-- From a situation that is not legal a move leads to one of its successors. -/
def Mv (N : List (List Int)) (d : List Bool) (x y : Nat) : Prop := d.getD x false = false ∧ ∃ l, N[x]? = some l ∧ ∃ z ∈ l, z.toNat = y
theorem Rk.move {N : List (List Int)} {d : List Bool} {x y k : Nat} (h : Rk N d x k) (hm : Mv N d x y) : ∃ j, j < k ∧ Rk N d y j := by
  obtain ⟨hd, l, hl, z, hz, rfl⟩ := hm
  cases h with
  | legal h => rw [hd] at h; cases h
  | step f m _ hl' hne hf hm _ =>
    obtain rfl := Option.some.inj (hl'.symm.trans hl)
    exact ⟨f z, by have := hm z hz; omega, hf z hz⟩
/-- A run of moves. -/
inductive Run (N : List (List Int)) (d : List Bool) : Nat → Nat → Prop
  | one {x y : Nat} (h : Mv N d x y) : Run N d x y
  | more {x y z : Nat} (h : Run N d x y) (h' : Mv N d y z) : Run N d x z
theorem Rk.run {N : List (List Int)} {d : List Bool} {x y : Nat} (h : Run N d x y) : ∀ {k : Nat}, Rk N d x k → ∃ j, j < k ∧ Rk N d y j := by
  induction h with
  | one h => exact fun hk => hk.move h
  | more _ h' ih =>
    intro k hk
    obtain ⟨j, h1, h2⟩ := ih hk
    obtain ⟨i, h3, h4⟩ := h2.move h'
    exact ⟨i, by omega, h4⟩
/-- A situation that comes back to itself has no rank. -/
theorem Rk.cycle {N : List (List Int)} {d : List Bool} {x k : Nat} (h : Run N d x x) : ¬ Rk N d x k := by
  intro hk
  obtain ⟨j, h1, h2⟩ := hk.run h
  have := hk.unique h2
  omega
/-- A row of what is known so far: each number in it is a rank. -/
def KnownOk (N : List (List Int)) (d : List Bool) (o : List Int) : Prop := ∀ (x : Nat) (v : Int), o[x]? = some v → 0 ≤ v → Rk N d x v.toNat
/-- Where nothing more can be found, what has no number has no rank. -/
theorem known_all {N : List (List Int)} {d : List Bool} {o : List Int} (hok : KnownOk N d o) (hlen : o.length = N.length)
    (hleg : ∀ x, x < N.length → d.getD x false = true → 0 ≤ o.getD x (-1))
    (hfix : ∀ (x : Nat) (l : List Int), N[x]? = some l → o.getD x (-1) < 0 → l ≠ [] → ∃ y ∈ l, o.getD y.toNat (-1) < 0)
    (hin : ∀ l ∈ N, ∀ y ∈ l, 0 ≤ y ∧ y < N.length) {x k : Nat} (h : Rk N d x k) : x < N.length → o.getD x (-1) = k := by
  have main : x < N.length → 0 ≤ o.getD x (-1) := by
    induction h with
    | legal h => exact fun hx => hleg _ hx h
    | step f m h hl hne hf hm hx ih =>
      intro hx'
      rcases Int.lt_or_le (o.getD _ (-1)) 0 with hlt | hge
      · obtain ⟨y, hy, hy0⟩ := hfix _ _ hl hlt hne
        have hyb := hin _ (List.mem_of_getElem? hl) y hy
        have := ih y hy (by omega)
        omega
      · exact hge
  intro hx
  have h0 := main hx
  have hx' : x < o.length := by omega
  have hg : o[x]? = some (o.getD x (-1)) := by rw [List.getD_eq_getElem?_getD, List.getElem?_eq_getElem hx']; rfl
  have := (hok x _ hg h0).unique h
  omega
noncomputable def rkV (N : List (List Int)) (d : List Bool) (x : Nat) : Int := @dite Int (∃ k, Rk N d x k) (Classical.propDecidable _) (fun h => ((Classical.choose h : Nat) : Int)) (fun _ => -1)
theorem rkV_of {N : List (List Int)} {d : List Bool} {x k : Nat} (h : Rk N d x k) : rkV N d x = k := by
  have hx : ∃ k, Rk N d x k := ⟨k, h⟩
  have e : rkV N d x = ((Classical.choose hx : Nat) : Int) := by unfold rkV; exact dif_pos hx
  rw [e, (Classical.choose_spec hx).unique h]
theorem rkV_none {N : List (List Int)} {d : List Bool} {x : Nat} (h : ¬ ∃ k, Rk N d x k) : rkV N d x = -1 := by unfold rkV; exact dif_neg h
/-- All ranks, -1 where there is none. -/
noncomputable def rkL (N : List (List Int)) (d : List Bool) (T : Nat) : List Int := (List.range T).map (rkV N d)
theorem rkL_len (N : List (List Int)) (d : List Bool) (T : Nat) : (rkL N d T).length = T := by simp [rkL]
theorem rkL_at {N : List (List Int)} {d : List Bool} {T k : Nat} (h : k < T) : (rkL N d T)[k]? = some (rkV N d k) := by unfold rkL; rw [List.getElem?_map, List.getElem?_range h]; rfl
/-- Every situation has a rank. -/
def rkP (N : List (List Int)) (d : List Bool) (T : Nat) : Prop := ∀ x, x < T → ∃ k, Rk N d x k
theorem rk_has {N : List (List Int)} {d : List Bool} {T : Nat} : hasB (rkL N d T) (-1) = !propB (rkP N d T) := by
  by_cases h : rkP N d T
  · rw [propB_t h]
    refine propB_f fun hm => ?_
    unfold rkL at hm
    obtain ⟨x, hx, e⟩ := List.mem_map.1 hm
    obtain ⟨k, hk⟩ := h x (List.mem_range.1 hx)
    rw [rkV_of hk] at e
    omega
  · rw [propB_f h]
    refine propB_t ?_
    obtain ⟨x, hx⟩ := Classical.not_forall.1 h
    obtain ⟨hx, hn⟩ := Classical.not_imp.1 hx
    exact List.mem_map.2 ⟨x, List.mem_range.2 hx, rkV_none hn⟩
theorem rmost_from {l : List Int} : ∀ {a : Int}, a ≤ l.foldl (fun a x => if a > x then a else x) a ∧ (∀ y ∈ l, y ≤ l.foldl (fun a x => if a > x then a else x) a) ∧ (l.foldl (fun a x => if a > x then a else x) a = a ∨ l.foldl (fun a x => if a > x then a else x) a ∈ l) := by
  induction l with
  | nil => intro a; exact ⟨Int.le_refl _, fun y hy => (by cases hy), .inl rfl⟩
  | cons x r ih =>
    intro a
    rw [List.foldl_cons]
    by_cases h : a > x
    · rw [if_pos h]
      obtain ⟨h1, h2, h3⟩ := ih (a := a)
      refine ⟨h1, fun y hy => ?_, h3.elim .inl fun h => .inr (List.mem_cons_of_mem _ h)⟩
      rcases List.mem_cons.1 hy with rfl | hy
      · omega
      · exact h2 y hy
    · rw [if_neg h]
      obtain ⟨h1, h2, h3⟩ := ih (a := x)
      refine ⟨by omega, fun y hy => ?_, .inr (h3.elim (fun e => by rw [e]; exact List.mem_cons_self) fun h => List.mem_cons_of_mem _ h)⟩
      rcases List.mem_cons.1 hy with rfl | hy
      · exact h1
      · exact h2 y hy
theorem rmost_nn (l : List Int) : 0 ≤ most l := rmost_from.1
theorem rmost_ge {l : List Int} {y : Int} (h : y ∈ l) : y ≤ most l := rmost_from.2.1 y h
theorem rmost_in {l : List Int} (hne : l ≠ []) (h0 : ∀ y ∈ l, 0 ≤ y) : most l ∈ l := by
  rcases (rmost_from (l := l) (a := 0)).2.2 with h | h
  · cases l with
    | nil => exact absurd rfl hne
    | cons x r =>
      have h1 := rmost_ge (l := x :: r) (y := x) List.mem_cons_self
      have h2 := h0 x List.mem_cons_self
      have h3 : most (x :: r) = x := by unfold most at h1 ⊢; omega
      rw [h3]
      exact List.mem_cons_self
  · exact h
/-- The rank of a situation whose successors have theirs. -/
theorem Rk.of_all {N : List (List Int)} {d : List Bool} {x : Nat} {l : List Int} (h : d.getD x false = false) (hl : N[x]? = some l) (hne : l ≠ []) (hf : ∀ y ∈ l, ∃ k, Rk N d y.toNat k) : Rk N d x ((most (l.map fun y => rkV N d y.toNat)).toNat + 1) := by
  have h0 : ∀ v ∈ l.map (fun y => rkV N d y.toNat), 0 ≤ v := fun v hv => by
    obtain ⟨y, hy, rfl⟩ := List.mem_map.1 hv
    obtain ⟨k, hk⟩ := hf y hy
    rw [rkV_of hk]
    omega
  refine .step (fun y => (rkV N d y.toNat).toNat) _ h hl hne (fun y hy => ?_) (fun y hy => ?_) ?_
  · obtain ⟨k, hk⟩ := hf y hy
    rw [rkV_of hk]
    exact hk
  · have := rmost_ge (List.mem_map.2 ⟨y, hy, rfl⟩ : rkV N d y.toNat ∈ l.map (fun y => rkV N d y.toNat))
    omega
  · have := rmost_in (l := l.map fun y => rkV N d y.toNat) (by simpa using hne) h0
    obtain ⟨y, hy, e⟩ := List.mem_map.1 this
    exact ⟨y, hy, by rw [e]⟩
def negs (o : List Int) : Nat := o.countP fun v => decide (v < 0)
theorem negs_le (o : List Int) : negs o ≤ o.length := List.countP_le_length
theorem negs_set {o : List Int} {x : Nat} {v : Int} (hx : x < o.length) (h : o.getD x 0 < 0) (hv : 0 ≤ v) : negs (o.set x v) + 1 = negs o := by
  unfold negs
  rw [List.countP_set hx]
  have e : o[x] < 0 := by rw [List.getD_eq_getElem?_getD, List.getElem?_eq_getElem hx] at h; exact h
  have h1 : 0 < o.countP fun v => decide (v < 0) := List.countP_pos_iff.2 ⟨o[x], List.getElem_mem hx, decide_eq_true e⟩
  rw [if_pos (decide_eq_true e), if_neg (by simp; omega)]
  omega
theorem negs_same {o : List Int} {x : Nat} {v : Int} (hx : x < o.length) (h : o.getD x 0 < 0) (hv : v < 0) : negs (o.set x v) = negs o := by
  unfold negs
  rw [List.countP_set hx]
  have e : o[x] < 0 := by rw [List.getD_eq_getElem?_getD, List.getElem?_eq_getElem hx] at h; exact h
  have h1 : 0 < o.countP fun v => decide (v < 0) := List.countP_pos_iff.2 ⟨o[x], List.getElem_mem hx, decide_eq_true e⟩
  rw [if_pos (decide_eq_true e), if_pos (decide_eq_true hv)]
  omega
/-- What the reference knows while it peels. -/
structure PeelOk (N : List (List Int)) (d : List Bool) (T : Nat) (o : List Int) : Prop where
  len : o.length = T
  ok : KnownOk N d o
  leg : ∀ x, x < T → d.getD x false = true → 0 ≤ o.getD x (-1)
  low : ∀ v ∈ o, -1 ≤ v
  top : ∀ v ∈ o, v + negs o ≤ T
theorem getDi {o : List Int} {x : Nat} {v e : Int} (h : o[x]? = some v) : o.getD x e = v := by rw [List.getD_eq_getElem?_getD, h]; rfl
theorem PeelOk.start (N : List (List Int)) (d : List Bool) (T : Nat) : PeelOk N d T ((List.range T).map fun x => if d.getD x false = true then 0 else -1) := by
  have hat : ∀ x, x < T → ((List.range T).map fun x => if d.getD x false = true then (0 : Int) else -1)[x]? = some (if d.getD x false = true then 0 else -1) := fun x hx => by rw [List.getElem?_map, List.getElem?_range hx]; rfl
  have hm : ∀ v ∈ (List.range T).map (fun x => if d.getD x false = true then (0 : Int) else -1), -1 ≤ v ∧ v ≤ 0 := fun v hv => by
    obtain ⟨x, _, rfl⟩ := List.mem_map.1 hv
    split <;> omega
  refine ⟨by simp, fun x v hv h0 => ?_, fun x hx hd => ?_, fun v hv => (hm v hv).1, fun v hv => ?_⟩
  · have hx : x < T := by have := (List.getElem?_eq_some_iff.1 hv).1; simpa using this
    rw [hat x hx] at hv
    by_cases hd : d.getD x false = true
    · rw [if_pos hd] at hv
      obtain rfl := Option.some.inj hv
      exact .legal hd
    · rw [if_neg hd] at hv
      obtain rfl := Option.some.inj hv
      omega
  · rw [getDi (hat x hx), if_pos hd]
    exact Int.le_refl _
  · have h1 := (hm v hv).2
    have h2 := negs_le ((List.range T).map fun x => if d.getD x false = true then (0 : Int) else -1)
    rw [List.length_map, List.length_range] at h2
    omega
theorem map_known {N : List (List Int)} {d : List Bool} {o l : List Int} (hok : KnownOk N d o) (hin : ∀ y ∈ l, 0 ≤ y ∧ y.toNat < o.length) (h0 : ∀ y ∈ l, 0 ≤ o.getD y.toNat 0) : (∀ y ∈ l, ∃ k, Rk N d y.toNat k) ∧ (l.map fun y => o.getD y.toNat 0) = l.map fun y => rkV N d y.toNat := by
  have h1 : ∀ y ∈ l, Rk N d y.toNat (o.getD y.toNat 0).toNat := fun y hy => by
    obtain ⟨_, h2⟩ := hin y hy
    have hg : o[y.toNat]? = some (o.getD y.toNat 0) := by rw [List.getD_eq_getElem?_getD, List.getElem?_eq_getElem h2]; rfl
    exact hok _ _ hg (h0 y hy)
  refine ⟨fun y hy => ⟨_, h1 y hy⟩, List.map_congr_left fun y hy => ?_⟩
  rw [rkV_of (h1 y hy)]
  have := h0 y hy
  omega
theorem KnownOk.set {N : List (List Int)} {d : List Bool} {o : List Int} {x : Nat} {v : Int} (h : KnownOk N d o) (hv : 0 ≤ v → Rk N d x v.toNat) : KnownOk N d (o.set x v) := fun y u hu h0 => by
  rw [List.getElem?_set] at hu
  by_cases e : x = y
  · subst e
    rw [if_pos rfl] at hu
    split at hu
    · obtain rfl := Option.some.inj hu; exact hv h0
    · cases hu
  · rw [if_neg e] at hu
    exact h y u hu h0
theorem mem_set_of {o : List Int} {x : Nat} {v u : Int} (h : u ∈ o.set x v) : u = v ∨ u ∈ o := by
  rcases List.mem_or_eq_of_mem_set h with h | h
  · exact .inr h
  · exact .inl h
theorem PeelOk.set {N : List (List Int)} {d : List Bool} {T : Nat} {o l : List Int} {x : Nat} (h : PeelOk N d T o) (hx : x < T) (hneg : o.getD x 0 < 0) (hl : N[x]? = some l) (hne : l ≠ []) (hin : ∀ y ∈ l, 0 ≤ y ∧ y < T) (hall : ¬ (-1 : Int) ∈ l.map fun y => o.getD y.toNat 0) :
    PeelOk N d T (o.set x (1 + most (l.map fun y => o.getD y.toNat 0))) ∧ negs (o.set x (1 + most (l.map fun y => o.getD y.toNat 0))) + 1 = negs o ∧ 0 ≤ most (l.map fun y => o.getD y.toNat 0) ∧ most (l.map fun y => o.getD y.toNat 0) ≤ T := by
  have hxl : x < o.length := by rw [h.len]; exact hx
  have hin' : ∀ y ∈ l, 0 ≤ y ∧ y.toNat < o.length := fun y hy => by have := hin y hy; rw [h.len]; omega
  have hmem : ∀ y ∈ l, o.getD y.toNat 0 ∈ o := fun y hy => by
    have h2 := (hin' y hy).2
    rw [List.getD_eq_getElem?_getD, List.getElem?_eq_getElem h2]
    exact List.getElem_mem h2
  have h0 : ∀ y ∈ l, 0 ≤ o.getD y.toNat 0 := fun y hy => by
    have h1 := h.low _ (hmem y hy)
    have h2 : o.getD y.toNat 0 ≠ -1 := fun e => hall (List.mem_map.2 ⟨y, hy, e⟩)
    omega
  obtain ⟨hf, he⟩ := map_known h.ok hin' h0
  have hd : d.getD x false = false := by
    rcases Bool.eq_false_or_eq_true (d.getD x false) with hd | hd
    · have := h.leg x hx hd
      have hg : o[x]? = some (o.getD x 0) := by rw [List.getD_eq_getElem?_getD, List.getElem?_eq_getElem hxl]; rfl
      rw [getDi hg] at this
      omega
    · exact hd
  have hr := Rk.of_all hd hl hne hf
  have hmn := rmost_nn (l.map fun y => o.getD y.toNat 0)
  have hmm : most (l.map fun y => o.getD y.toNat 0) ∈ o := by
    have := rmost_in (l := l.map fun y => o.getD y.toNat 0) (by simpa using hne) fun v hv => by
      obtain ⟨y, hy, rfl⟩ := List.mem_map.1 hv
      exact h0 y hy
    obtain ⟨y, hy, e⟩ := List.mem_map.1 this
    rw [← e]
    exact hmem y hy
  have htop := h.top _ hmm
  rw [← he] at hr
  generalize most (l.map fun y => o.getD y.toNat 0) = m at *
  have hn := negs_set (v := 1 + m) hxl hneg (by omega)
  refine ⟨⟨by rw [List.length_set]; exact h.len, h.ok.set fun _ => by rw [show (1 + m).toNat = m.toNat + 1 by omega]; exact hr, fun y hy hdy => ?_, fun v hv => ?_, fun v hv => ?_⟩, hn, hmn, by omega⟩
  · have := h.leg y hy hdy
    have hne' : x ≠ y := fun e => by subst e; rw [hd] at hdy; cases hdy
    rw [List.getD_eq_getElem?_getD, List.getElem?_set_ne hne', ← List.getD_eq_getElem?_getD]
    exact this
  · rcases mem_set_of hv with rfl | hv
    · omega
    · exact h.low v hv
  · rcases mem_set_of hv with rfl | hv
    · omega
    · have := h.top v hv
      omega
/-- Below j nothing can be found out any more. -/
def FixTo (N : List (List Int)) (o : List Int) (j : Nat) : Prop := ∀ (x : Nat) (l : List Int), x < j → N[x]? = some l → o.getD x 0 < 0 → l ≠ [] → (-1 : Int) ∈ l.map fun y => o.getD y.toNat 0
theorem FixTo.next {N : List (List Int)} {o l : List Int} {j : Nat} (h : FixTo N o j) (hl : N[j]? = some l) (hj : o.getD j 0 < 0 → l ≠ [] → (-1 : Int) ∈ l.map fun y => o.getD y.toNat 0) : FixTo N o (j + 1) := fun x m hx hm => by
  rcases Nat.lt_or_ge x j with h1 | h1
  · exact h x m h1 hm
  · obtain rfl : x = j := by omega
    obtain rfl := Option.some.inj (hl.symm.trans hm)
    exact hj
theorem PeelOk.fin {N : List (List Int)} {d : List Bool} {T : Nat} {o : List Int} (h : PeelOk N d T o) (hN : N.length = T) (hfix : FixTo N o N.length) (hin : ∀ l ∈ N, ∀ y ∈ l, 0 ≤ y ∧ y < (T : Int)) : o = rkL N d T := by
  have hg : ∀ x e, x < T → o[x]? = some (o.getD x e) := fun x e hx => by
    have h2 : x < o.length := by rw [h.len]; exact hx
    rw [List.getD_eq_getElem?_getD, List.getElem?_eq_getElem h2]; rfl
  have hge : ∀ x, x < T → ∀ e e', o.getD x e = o.getD x e' := fun x hx e e' => by rw [getDi (hg x e' hx)]
  refine List.ext_getElem? fun x => ?_
  rcases Nat.lt_or_ge x T with hx | hx
  · rw [rkL_at hx, hg x (-1) hx]
    congr 1
    rcases Int.lt_or_le (o.getD x (-1)) 0 with hlt | hge0
    · have hno : ¬ ∃ k, Rk N d x k := fun ⟨k, hk⟩ => by
        have := known_all h.ok (by rw [h.len, hN]) (fun y hy => h.leg y (by omega)) (fun y l hl h0 hne => by
          have hy : y < T := by have := (List.getElem?_eq_some_iff.1 hl).1; omega
          have := hfix y l (by omega) hl (by rw [hge y hy 0 (-1)]; exact h0) hne
          obtain ⟨z, hz, e⟩ := List.mem_map.1 this
          have hzb := hin _ (List.mem_of_getElem? hl) z hz
          exact ⟨z, hz, by rw [hge z.toNat (by omega) (-1) 0, e]; omega⟩) (fun l hl y hy => by have := hin l hl y hy; omega) hk (by omega)
        omega
      rw [rkV_none hno]
      have := h.low _ (List.mem_of_getElem? (hg x (-1) hx))
      omega
    · rw [rkV_of (h.ok x _ (hg x (-1) hx) hge0)]
      omega
  · rw [List.getElem?_eq_none (by rw [h.len]; exact hx), List.getElem?_eq_none (by rw [rkL_len]; exact hx)]
/-- What the program knows while it ranks: -1 stands for unknown, -2 for under way. -/
structure RsOk (N : List (List Int)) (d : List Bool) (T : Nat) (o : List Int) : Prop where
  len : o.length = T
  ok : KnownOk N d o
  low : ∀ v ∈ o, -2 ≤ v
  top : ∀ v ∈ o, v + negs o ≤ T
/-- What is under way at a situation leads to it. -/
def Opn (N : List (List Int)) (d : List Bool) (o : List Int) (k : Nat) : Prop := ∀ x : Nat, o[x]? = some (-2) → Run N d x k
/-- A later row: the same under way, nothing forgotten. -/
structure RsExt (o o' : List Int) : Prop where
  opn : ∀ x : Nat, o'[x]? = some (-2) ↔ o[x]? = some (-2)
  unk : ∀ x : Nat, o'[x]? = some (-1) → o[x]? = some (-1)
theorem RsExt.refl (o : List Int) : RsExt o o := ⟨fun _ => Iff.rfl, fun _ h => h⟩
theorem RsExt.trans {o o1 o2 : List Int} (h : RsExt o o1) (h' : RsExt o1 o2) : RsExt o o2 := ⟨fun x => (h'.opn x).trans (h.opn x), fun x hx => h.unk x (h'.unk x hx)⟩
theorem countP_le_of {p q : Int → Bool} : ∀ {o o' : List Int}, o'.length = o.length → (∀ (x : Nat) (v : Int), o'[x]? = some v → p v = true → ∃ u, o[x]? = some u ∧ q u = true) → o'.countP p ≤ o.countP q
  | [], [], _, _ => Nat.le_refl _
  | u :: r, v :: r', h, hp => by
    have hr := countP_le_of (o := r) (o' := r') (p := p) (q := q) (by simpa using h) fun x w hx hw => by
      obtain ⟨u', h1, h2⟩ := hp (x + 1) w (by simpa using hx) hw
      exact ⟨u', by simpa using h1, h2⟩
    rw [List.countP_cons, List.countP_cons]
    by_cases hv : p v = true
    · obtain ⟨u', h1, h2⟩ := hp 0 v rfl hv
      obtain rfl : u = u' := by simpa using h1
      rw [if_pos hv, if_pos h2]
      omega
    · rw [if_neg hv]
      omega
  | [], _ :: _, h, _ => by simp at h
  | _ :: _, [], h, _ => by simp at h
theorem RsExt.negs {N : List (List Int)} {d : List Bool} {T : Nat} {o o' : List Int} (h : RsExt o o') (ho : RsOk N d T o) (ho' : RsOk N d T o') : negs o' ≤ negs o := by
  unfold Go.Proofs.YthfgklckmedggaaGreat.negs
  refine countP_le_of (by rw [ho.len, ho'.len]) fun x v hv hneg => ?_
  have hneg := of_decide_eq_true hneg
  have := ho'.low v (List.mem_of_getElem? hv)
  rcases (show v = -1 ∨ v = -2 by omega) with rfl | rfl
  · exact ⟨_, h.unk x hv, rfl⟩
  · exact ⟨_, (h.opn x).1 hv, rfl⟩
/-- How many are unknown. -/
def unks (o : List Int) : Nat := o.countP fun v => decide (v = -1)
theorem RsExt.unks {o o' : List Int} (h : RsExt o o') (hl : o'.length = o.length) : unks o' ≤ unks o := by
  unfold Go.Proofs.YthfgklckmedggaaGreat.unks
  exact countP_le_of hl fun x v hv hu => by
    obtain rfl := of_decide_eq_true hu
    exact ⟨_, h.unk x hv, rfl⟩
theorem unks_le (o : List Int) : unks o ≤ o.length := List.countP_le_length
theorem RsOk.at_ {N : List (List Int)} {d : List Bool} {T : Nat} {o : List Int} (h : RsOk N d T o) {k : Nat} (hk : k < T) : ∃ v, o[k]? = some v ∧ -2 ≤ v ∧ v ≤ T := by
  have hl : k < o.length := by rw [h.len]; exact hk
  have hm := List.getElem_mem hl
  have := h.top _ hm
  exact ⟨o[k], List.getElem?_eq_getElem hl, h.low _ hm, by omega⟩
theorem RsOk.start (N : List (List Int)) (d : List Bool) (T : Nat) : RsOk N d T (List.replicate T (-1)) := by
  refine ⟨by simp, fun x v hv h0 => ?_, fun v hv => ?_, fun v hv => ?_⟩
  · have := List.eq_of_mem_replicate (List.mem_of_getElem? hv)
    omega
  · have := List.eq_of_mem_replicate hv
    omega
  · have := List.eq_of_mem_replicate hv
    have h := negs_le (List.replicate T (-1 : Int))
    rw [List.length_replicate] at h
    omega
theorem Opn.start (N : List (List Int)) (d : List Bool) (T k : Nat) : Opn N d (List.replicate T (-1)) k := fun x hx => by
  have := List.eq_of_mem_replicate (List.mem_of_getElem? hx)
  omega
theorem Run.first {N : List (List Int)} {d : List Bool} {x y : Nat} (h : Run N d x y) : d.getD x false = false := by
  induction h with
  | one h => exact h.1
  | more _ _ ih => exact ih
/-- A legal situation. -/
theorem RsOk.legal {N : List (List Int)} {d : List Bool} {T k : Nat} {o : List Int} (h : RsOk N d T o) (hop : Opn N d o k) (hk : k < T) (hd : d.getD k false = true) : RsOk N d T (o.set k 0) ∧ RsExt o (o.set k 0) := by
  have hl : k < o.length := by rw [h.len]; exact hk
  obtain ⟨v, hv, hv2, hvT⟩ := h.at_ hk
  have hne : v ≠ -2 := fun e => by
    subst e
    have := (hop k hv).first
    rw [hd] at this; cases this
  rcases Int.lt_or_le v 0 with h0 | h0
  · have hn := negs_set (v := 0) hl (by rw [getDi hv]; exact h0) (Int.le_refl _)
    refine ⟨⟨by rw [List.length_set]; exact h.len, h.ok.set fun _ => .legal hd, fun u hu => ?_, fun u hu => ?_⟩, fun x => ?_, fun x hx => ?_⟩
    · rcases mem_set_of hu with rfl | hu
      · omega
      · exact h.low u hu
    · rcases mem_set_of hu with rfl | hu
      · have := h.top v (List.mem_of_getElem? hv)
        have := negs_le o
        have := h.len
        omega
      · have := h.top u hu
        omega
    · rw [List.getElem?_set]
      by_cases e : k = x
      · subst e
        rw [if_pos rfl, if_pos hl, hv]
        constructor
        · intro h; cases h
        · intro h; exact absurd (Option.some.inj h) hne
      · rw [if_neg e]
    · rw [List.getElem?_set] at hx
      by_cases e : k = x
      · subst e
        rw [if_pos rfl, if_pos hl] at hx
        cases hx
      · rwa [if_neg e] at hx
  · have hr := h.ok k v hv h0
    have := hr.unique (.legal hd)
    obtain rfl : v = 0 := by omega
    have e : o.set k 0 = o := by
      obtain ⟨_, e⟩ := List.getElem?_eq_some_iff.1 hv
      conv => lhs; rw [← e]
      exact List.set_getElem_self hl
    rw [e]
    exact ⟨h, RsExt.refl o⟩
/-- A situation gets under way. -/
theorem RsOk.under {N : List (List Int)} {d : List Bool} {T k : Nat} {o : List Int} (h : RsOk N d T o) (hk : k < T) (hu : o[k]? = some (-1)) : RsOk N d T (o.set k (-2)) ∧ unks (o.set k (-2)) + 1 = unks o := by
  have hl : k < o.length := by rw [h.len]; exact hk
  have hn := negs_same (v := -2) hl (by rw [getDi hu]; omega) (by omega)
  refine ⟨⟨by rw [List.length_set]; exact h.len, h.ok.set fun h => by omega, fun u hu => ?_, fun u hu => ?_⟩, ?_⟩
  · rcases mem_set_of hu with rfl | hu
    · omega
    · exact h.low u hu
  · rw [hn]
    rcases mem_set_of hu with rfl | hu
    · have := negs_le o
      have := h.len
      omega
    · exact h.top u hu
  · unfold unks
    obtain ⟨_, e⟩ := List.getElem?_eq_some_iff.1 hu
    rw [List.countP_set hl]
    have h1 : 0 < o.countP fun v => decide (v = -1) := List.countP_pos_iff.2 ⟨o[k], List.getElem_mem hl, by rw [e]; rfl⟩
    rw [if_pos (by rw [e]; rfl), if_neg (by simp)]
    omega
theorem Opn.under {N : List (List Int)} {d : List Bool} {o o' l : List Int} {k : Nat} {y : Int} (h : Opn N d o k) (hk : k < o.length) (hd : d.getD k false = false) (hl : N[k]? = some l) (hy : y ∈ l) (he : RsExt (o.set k (-2)) o') : Opn N d o' y.toNat := fun x hx => by
  have hm : Mv N d k y.toNat := ⟨hd, l, hl, y, hy, rfl⟩
  have := (he.opn x).1 hx
  rw [List.getElem?_set] at this
  by_cases e : k = x
  · subst e; exact .one hm
  · rw [if_neg e] at this
    exact .more (h x this) hm
/-- A situation gets its rank. -/
theorem RsOk.done {N : List (List Int)} {d : List Bool} {T k : Nat} {o o' l : List Int} {m : Int} (h : RsOk N d T o) (h' : RsOk N d T o') (hk : k < T) (hu : o[k]? = some (-1)) (he : RsExt (o.set k (-2)) o') (hm : 0 ≤ m) (hr : Rk N d k (m.toNat + 1)) (ht : m + negs o' ≤ T) :
    RsOk N d T (o'.set k (m + 1)) ∧ RsExt o (o'.set k (m + 1)) := by
  have hl : k < o.length := by rw [h.len]; exact hk
  have hl' : k < o'.length := by rw [h'.len]; exact hk
  have h2 : o'[k]? = some (-2) := (he.opn k).2 (List.getElem?_set_self hl)
  have hn := negs_set (v := m + 1) hl' (by rw [getDi h2]; omega) (by omega)
  refine ⟨⟨by rw [List.length_set]; exact h'.len, h'.ok.set fun _ => by rw [show (m + 1).toNat = m.toNat + 1 by omega]; exact hr, fun u hu => ?_, fun u hu => ?_⟩, fun x => ?_, fun x hx => ?_⟩
  · rcases mem_set_of hu with rfl | hu
    · omega
    · exact h'.low u hu
  · rcases mem_set_of hu with rfl | hu
    · omega
    · have := h'.top u hu
      omega
  · rw [List.getElem?_set]
    by_cases e : k = x
    · subst e
      rw [if_pos rfl, if_pos hl', hu]
      constructor
      · intro h; have := Option.some.inj h; omega
      · intro h; have := Option.some.inj h; omega
    · rw [if_neg e]
      have := he.opn x
      rwa [List.getElem?_set, if_neg e] at this
  · rw [List.getElem?_set] at hx
    by_cases e : k = x
    · subst e
      rw [if_pos rfl, if_pos hl'] at hx
      have := Option.some.inj hx
      omega
    · rw [if_neg e] at hx
      have := he.unk x hx
      rwa [List.getElem?_set, if_neg e] at this
/-- Nothing under way, nothing unknown: these are the ranks. -/
theorem RsOk.fin {N : List (List Int)} {d : List Bool} {T : Nat} {o : List Int} (h : RsOk N d T o) (h0 : ∀ x, x < T → 0 ≤ o.getD x 0 ∧ o[x]? ≠ none) : o = rkL N d T ∧ rkP N d T := by
  have hg : ∀ x, x < T → o[x]? = some (o.getD x 0) := fun x hx => by
    have h2 : x < o.length := by rw [h.len]; exact hx
    rw [List.getD_eq_getElem?_getD, List.getElem?_eq_getElem h2]; rfl
  have hr : ∀ x, x < T → Rk N d x (o.getD x 0).toNat := fun x hx => h.ok x _ (hg x hx) (h0 x hx).1
  refine ⟨List.ext_getElem? fun x => ?_, fun x hx => ⟨_, hr x hx⟩⟩
  rcases Nat.lt_or_ge x T with hx | hx
  · rw [rkL_at hx, hg x hx, rkV_of (hr x hx)]
    have := (h0 x hx).1
    congr 1
    omega
  · rw [List.getElem?_eq_none (by rw [h.len]; exact hx), List.getElem?_eq_none (by rw [rkL_len]; exact hx)]
end Go.Proofs.YthfgklckmedggaaGreat
