/-
  Moves among situations that are not legal, in both directions, as they are collected; rows that are all of the call's own. No program in sight.
-/
import Derived.Test.YthfgklckmedggaaGreatNetWbI
namespace Go.Proofs.YthfgklckmedggaaGreat
open Go.RowKit
set_option linter.unusedVariables false
set_option linter.unusedSimpArgs false
def aftL (N : List (List Int)) (dd : List Bool) (x : Nat) : List Int := if dd.getD x false = true then [] else badL N dd x
def aftM (N : List (List Int)) (dd : List Bool) (T : Nat) : List (List Int) := (List.range T).map (aftL N dd)
theorem aftM_len (N : List (List Int)) (dd : List Bool) (T : Nat) : (aftM N dd T).length = T := by simp [aftM]
theorem aftM_at {N : List (List Int)} {dd : List Bool} {T k : Nat} (h : k < T) : (aftM N dd T)[k]? = some (aftL N dd k) := by unfold aftM; rw [List.getElem?_map, List.getElem?_range h]; rfl
/-- The moves from k, as far as its first j successors. -/
def pj (N : List (List Int)) (dd : List Bool) (k j : Nat) : List Int := if dd.getD k false = true then [] else ((N.getD k []).take j).filter (nlB dd)
def aT (N : List (List Int)) (dd : List Bool) (k j x : Nat) : List Int := if x < k then aftL N dd x else if x = k then pj N dd k j else []
def bk1 (N : List (List Int)) (dd : List Bool) (s x : Nat) : List Int := ((aftL N dd x).filter fun y => y == (s : Int)).map fun _ => (x : Int)
def bT (N : List (List Int)) (dd : List Bool) (k j s : Nat) : List Int := (List.range k).flatMap (bk1 N dd s) ++ ((pj N dd k j).filter fun y => y == (s : Int)).map fun _ => (k : Int)
theorem pj_zero (N : List (List Int)) (dd : List Bool) (k : Nat) : pj N dd k 0 = [] := by unfold pj; split <;> simp
theorem pj_end {N : List (List Int)} {dd : List Bool} {k : Nat} {l : List Int} (hl : N[k]? = some l) : pj N dd k l.length = aftL N dd k := by
  unfold pj aftL badL
  have : N.getD k [] = l := by rw [List.getD_eq_getElem?_getD, hl]; rfl
  rw [this, List.take_length]
theorem pj_skip {N : List (List Int)} {dd : List Bool} {k j : Nat} {l : List Int} {y : Int} (hl : N[k]? = some l) (hy : l[j]? = some y) (h : dd.getD k false = true ∨ dd.getD y.toNat false = true) : pj N dd k (j + 1) = pj N dd k j := by
  unfold pj
  have : N.getD k [] = l := by rw [List.getD_eq_getElem?_getD, hl]; rfl
  rw [this]
  split
  · rfl
  · rename_i hd
    rw [bad_take hy, if_neg, List.append_nil]
    unfold nlB
    rcases h with h | h
    · exact absurd h hd
    · rw [h]; simp
theorem pj_more {N : List (List Int)} {dd : List Bool} {k j : Nat} {l : List Int} {y : Int} (hl : N[k]? = some l) (hy : l[j]? = some y) (h : dd.getD k false = false) (h' : dd.getD y.toNat false = false) : pj N dd k (j + 1) = pj N dd k j ++ [y] := by
  unfold pj
  have : N.getD k [] = l := by rw [List.getD_eq_getElem?_getD, hl]; rfl
  rw [this, if_neg (by rw [h]; simp), if_neg (by rw [h]; simp), bad_take hy, if_pos (by unfold nlB; rw [h']; rfl)]
theorem aT_start (N : List (List Int)) (dd : List Bool) (x : Nat) : aT N dd 0 0 x = [] := by
  unfold aT
  rw [if_neg (Nat.not_lt_zero x), pj_zero]
  split <;> rfl
theorem bT_start (N : List (List Int)) (dd : List Bool) (s : Nat) : bT N dd 0 0 s = [] := by
  unfold bT
  rw [pj_zero]
  rfl
theorem aT_row {N : List (List Int)} {dd : List Bool} {k : Nat} {l : List Int} (hl : N[k]? = some l) (x : Nat) : aT N dd k l.length x = aT N dd (k + 1) 0 x := by
  unfold aT
  rw [pj_end hl, pj_zero]
  by_cases h1 : x < k
  · rw [if_pos h1, if_pos (by omega)]
  · rw [if_neg h1]
    by_cases h2 : x = k
    · subst h2; rw [if_pos rfl, if_pos (by omega)]
    · rw [if_neg h2, if_neg (by omega)]
      split <;> rfl
theorem bT_row {N : List (List Int)} {dd : List Bool} {k : Nat} {l : List Int} (hl : N[k]? = some l) (s : Nat) : bT N dd k l.length s = bT N dd (k + 1) 0 s := by
  unfold bT
  rw [pj_end hl, pj_zero, List.range_succ, List.flatMap_append]
  simp [bk1]
theorem aT_end {N : List (List Int)} {dd : List Bool} {T x : Nat} (h : x < T) : aT N dd T 0 x = aftL N dd x := by unfold aT; rw [if_pos h]
theorem bT_end (N : List (List Int)) (dd : List Bool) (T s : Nat) : bT N dd T 0 s = befL N dd T s := by
  unfold bT befL
  rw [pj_zero]
  simp only [List.filter_nil, List.map_nil, List.append_nil]
  congr 1
  funext x
  unfold bk1 aftL
  by_cases h : dd.getD x false = true
  · rw [if_pos h, if_pos h]; rfl
  · rw [if_neg h, if_neg h]
theorem aT_skip {N : List (List Int)} {dd : List Bool} {k j : Nat} (h : pj N dd k (j + 1) = pj N dd k j) (x : Nat) : aT N dd k (j + 1) x = aT N dd k j x := by unfold aT; rw [h]
theorem bT_skip {N : List (List Int)} {dd : List Bool} {k j : Nat} (h : pj N dd k (j + 1) = pj N dd k j) (s : Nat) : bT N dd k (j + 1) s = bT N dd k j s := by unfold bT; rw [h]
theorem aT_more {N : List (List Int)} {dd : List Bool} {k j : Nat} {y : Int} (h : pj N dd k (j + 1) = pj N dd k j ++ [y]) : aT N dd k (j + 1) k = aT N dd k j k ++ [y] ∧ ∀ x, x ≠ k → aT N dd k (j + 1) x = aT N dd k j x := by
  unfold aT
  refine ⟨by rw [if_neg (Nat.lt_irrefl k), if_pos rfl, if_neg (Nat.lt_irrefl k), if_pos rfl]; exact h, fun x hx => ?_⟩
  rw [if_neg hx, if_neg hx]
theorem bT_more {N : List (List Int)} {dd : List Bool} {k j s : Nat} (h : pj N dd k (j + 1) = pj N dd k j ++ [(s : Int)]) : bT N dd k (j + 1) s = bT N dd k j s ++ [(k : Int)] ∧ ∀ x, x ≠ s → bT N dd k (j + 1) x = bT N dd k j x := by
  unfold bT
  refine ⟨?_, fun x hx => ?_⟩
  · rw [h, List.filter_append, List.map_append, List.append_assoc]
    simp
  · rw [h, List.filter_append, List.map_append]
    have : ((s : Int) == (x : Int)) = false := by rw [beq_eq_false_iff_ne]; omega
    simp [this]
theorem map_set {f g : Nat → List Int} {T k : Nat} {v : List Int} (hg : g k = v) (ho : ∀ x, x ≠ k → g x = f x) : (List.range T).map g = ((List.range T).map f).set k v := by
  refine List.ext_getElem? fun x => ?_
  rw [List.getElem?_set, List.getElem?_map, List.getElem?_map, List.length_map, List.length_range]
  by_cases hx : x < T
  · rw [List.getElem?_range hx]
    by_cases e : k = x
    · subst e
      rw [if_pos rfl, if_pos hx, ← hg]
      rfl
    · rw [if_neg e]
      simp only [Option.map_some]
      rw [ho x (Ne.symm e)]
  · rw [List.getElem?_eq_none (by simpa using hx)]
    by_cases e : k = x
    · subst e; rw [if_pos rfl, if_neg hx]; rfl
    · rw [if_neg e]; rfl
theorem map_at {f : Nat → List Int} {T k : Nat} (hk : k < T) : ((List.range T).map f)[k]? = some (f k) := by rw [List.getElem?_map, List.getElem?_range hk]; rfl
theorem pj_len {N : List (List Int)} {dd : List Bool} {T k j : Nat} (hm : MapOk N dd T) (hk : k < T) : (pj N dd k j).length ≤ 3000 := by
  unfold pj
  split
  · exact Nat.zero_le _
  · obtain ⟨l, hl⟩ : ∃ l, N[k]? = some l := ⟨_, List.getElem?_eq_getElem (by rw [hm.n]; exact hk)⟩
    have := (hm.r l (List.mem_of_getElem? hl)).1
    refine Nat.le_trans (List.length_filter_le _ _) (Nat.le_trans (List.length_take_le' _ _) ?_)
    rw [List.getD_eq_getElem?_getD, hl]
    exact this
theorem aftL_len {N : List (List Int)} {dd : List Bool} {T x : Nat} (hm : MapOk N dd T) (hx : x < T) : (aftL N dd x).length ≤ 3000 := by
  unfold aftL
  split
  · exact Nat.zero_le _
  · exact badL_len hm hx
theorem aT_len {N : List (List Int)} {dd : List Bool} {T k j x : Nat} (hm : MapOk N dd T) (hx : x < T) (hk : k < T) : (aT N dd k j x).length ≤ 3000 := by
  unfold aT
  split
  · exact aftL_len hm hx
  · split
    · exact pj_len hm hk
    · exact Nat.zero_le _
theorem flat_len {N : List (List Int)} {dd : List Bool} {T s : Nat} (hm : MapOk N dd T) : ∀ k, k ≤ T → ((List.range k).flatMap (bk1 N dd s)).length ≤ 3000 * k
  | 0, _ => by simp
  | k + 1, h => by
    have h1 := flat_len (s := s) hm k (by omega)
    rw [List.range_succ, List.flatMap_append, List.length_append]
    have h2 : ([k].flatMap (bk1 N dd s)).length ≤ 3000 := by
      simp only [List.flatMap_cons, List.flatMap_nil, List.append_nil, bk1, List.length_map]
      exact Nat.le_trans (List.length_filter_le _ _) (aftL_len hm (by omega))
    omega
theorem bT_len {N : List (List Int)} {dd : List Bool} {T k j s : Nat} (hm : MapOk N dd T) (hk : k < T) : (bT N dd k j s).length ≤ 20000000 := by
  have h1 := flat_len (s := s) hm k (by omega)
  have h2 := pj_len (j := j) hm hk
  have h3 := hm.t
  unfold bT
  rw [List.length_append, List.length_map]
  have h4 := Nat.le_trans (List.length_filter_le (fun y => y == (s : Int)) (pj N dd k j)) h2
  omega
theorem aftL_bd {N : List (List Int)} {dd : List Bool} {T x : Nat} {y : Int} (hm : MapOk N dd T) (hy : y ∈ aftL N dd x) : 0 ≤ y ∧ y < (T : Int) := by
  unfold aftL at hy
  split at hy
  · cases hy
  · exact hm.in_.bad hy
/-- Rows that are all the call's own, no two of them in one block. -/
structure Owned (w : World) (base : Nat) (vs : List Value) (xss : List (List Int)) : Prop where
  len : vs.length = xss.length
  own : ∀ (k : Nat) (v : Value) (xs : List Int), vs[k]? = some v → xss[k]? = some xs → w.ownsRow base 3 1 v xs.length (xs.map intV)
  sep : ∀ (i j : Nat) (u v : Value), i ≠ j → vs[i]? = some u → vs[j]? = some v → u.ownBlock = none ∨ u.ownBlock ≠ v.ownBlock
theorem Owned.keep {w w' : World} {base : Nat} {vs : List Value} {xss : List (List Int)} (h : Owned w base vs xss) (hs : w.heap.size ≤ w'.heap.size) (hk : ∀ b, base ≤ b → b < w.heap.size → w'.heap[b]? = w.heap[b]?) : Owned w' base vs xss :=
  ⟨h.len, fun k v xs h1 h2 => own_keep4 (h.own k v xs h1 h2) hs hk, h.sep⟩
theorem Owned.start (w : World) (base m : Nat) : Owned w base (List.replicate m (.slice none 0 0)) (List.replicate m []) :=
  ⟨by simp, fun k v xs h1 h2 => by
    rw [List.eq_of_mem_replicate (List.mem_of_getElem? h1), List.eq_of_mem_replicate (List.mem_of_getElem? h2)]
    exact World.ownsRow_nil _ _ _ _, fun i j u v _ h1 _ => by
    rw [List.eq_of_mem_replicate (List.mem_of_getElem? h1)]
    exact .inl rfl⟩
theorem Owned.step {w w' : World} {base k : Nat} {vs : List Value} {xss : List (List Int)} {v v' : Value} {xs : List Int} {y : Int} (h : Owned w base vs xss) (hv : vs[k]? = some v) (hx : xss[k]? = some xs)
    (ho : w'.ownsRow base 3 1 v' (xs.length + 1) (xs.map intV ++ [intV y])) (hg : w.grownBy w' v.ownBlock) (hb : v'.ownBlock = v.ownBlock ∨ ∃ g, v'.ownBlock = some g ∧ w.heap.size ≤ g ∧ g < w'.heap.size) : Owned w' base (vs.set k v') (xss.set k (xs ++ [y])) := by
  have hlt : ∀ (i : Nat) (u : Value), vs[i]? = some u → ∀ b, u.ownBlock = some b → b < w.heap.size := fun i u hu b hb => by
    obtain ⟨ys, hys⟩ : ∃ ys, xss[i]? = some ys := ⟨_, List.getElem?_eq_getElem (by rw [← h.len]; exact (List.getElem?_eq_some_iff.1 hu).1)⟩
    exact ((h.own i u ys hu hys).lt b hb).2
  refine ⟨by rw [List.length_set, List.length_set]; exact h.len, fun i u ys hu hys => ?_, fun i j u u' hij hu hu' => ?_⟩
  · rw [List.getElem?_set] at hu hys
    by_cases e : k = i
    · subst e
      rw [if_pos rfl] at hu hys
      split at hu
      · split at hys
        · obtain rfl := Option.some.inj hu
          obtain rfl := Option.some.inj hys
          rw [List.length_append, List.map_append]
          exact ho
        · cases hys
      · cases hu
    · rw [if_neg e] at hu hys
      exact (h.own i u ys hu hys).kept hg (h.sep i k u v (Ne.symm e) hu hv)
  · rw [List.getElem?_set] at hu hu'
    by_cases e : k = i
    · subst e
      rw [if_pos rfl] at hu
      rw [if_neg hij] at hu'
      split at hu
      · obtain rfl := Option.some.inj hu
        rcases hb with hb | ⟨g, hb, hg1, hg2⟩
        · rw [hb]; exact h.sep k j v u' hij hv hu'
        · refine .inr fun e => ?_
          rw [hb] at e
          have := hlt j u' hu' g e.symm
          omega
      · cases hu
    · rw [if_neg e] at hu
      by_cases e' : k = j
      · subst e'
        rw [if_pos rfl] at hu'
        split at hu'
        · obtain rfl := Option.some.inj hu'
          rcases hb with hb | ⟨g, hb, hg1, hg2⟩
          · rw [hb]; exact h.sep i k u v hij hu hv
          · refine .inr fun e => ?_
            rw [hb] at e
            have := hlt i u hu g e
            omega
        · cases hu'
      · rw [if_neg e'] at hu'
        exact h.sep i j u u' hij hu hu'
theorem allR_of {w : World} {B : Nat} : ∀ {vs : List Value} {xss : List (List Int)}, vs.length = xss.length → (∀ (k : Nat) (v : Value) (xs : List Int), vs[k]? = some v → xss[k]? = some xs → IntsR w B v xs) → AllR w B vs xss
  | [], [], _, _ => trivial
  | v :: vs, xs :: xss, h, hk => ⟨hk 0 v xs rfl rfl, allR_of (by simpa using h) fun k v xs h1 h2 => hk (k + 1) v xs (by simpa using h1) (by simpa using h2)⟩
  | [], _ :: _, h, _ => by simp at h
  | _ :: _, [], h, _ => by simp at h
theorem Owned.rows {w : World} {base P : Nat} {vs : List Value} {xss : List (List Int)} (hP : w.heap[P]? = some (.cells vs.toArray 23 (0, 0))) (hl : vs.length = xss.length) (hl3 : vs.length ≤ 3000)
    (h : ∀ (k : Nat) (v : Value) (xs : List Int), vs[k]? = some v → xss[k]? = some xs → w.ownsRow base 3 1 v xs.length (xs.map intV)) (h64 : ∀ xs ∈ xss, ∀ x ∈ xs, I64 x) : RowsR w w.heap.size (.slice (some ⟨P, 0, none⟩) vs.length vs.length) xss := by
  refine ⟨vs, ⟨some ⟨P, 0, none⟩, vs.length, rfl, Nat.le_refl _, by unfold maxLen; omega, fun _ => ⟨_, rfl, (Array.getElem?_eq_some_iff.1 hP).1, fun j u hj => ?_⟩⟩, allR_of hl fun k v xs h1 h2 => own_intsR (h k v xs h1 h2) (h64 xs (List.mem_of_getElem? h2))⟩
  rw [Addr.add_lit, Nat.zero_add, cell_of_row _ _ j _ _ (0, 0) hP]
  simpa using hj
end Go.Proofs.YthfgklckmedggaaGreat
