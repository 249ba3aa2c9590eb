/-
  Networks as the draws make them: every end lies in the network; what joins, stubs, changed ports and unions leave of that. No program in sight, no condition.
-/
import Derived.Test.YtdghoienjegffaaGreatQNetK
namespace Go.Proofs.YtdghoienjegffaaGreat
open Go.RowKit
set_option linter.all false
def degA (n : Net) (u : Nat) : Nat := (rowAt n u).length
def EndsOk (n : Net) : Prop := ∀ (u : Nat) (e : Int × Int), e ∈ rowAt n u → ∃ a b : Nat, e = ((a : Int), (b : Int)) ∧ a < n.es.length ∧ b < degA n a
structure MadeN (n : Net) (N d : Nat) : Prop where
  len : n.es.length = N
  ins : n.ins.length = N
  ids : n.ids = []
  in9 : ∀ x ∈ n.ins, 0 ≤ x ∧ x ≤ 9
  ok : EndsOk n
  deg : ∀ u, degA n u ≤ d
theorem MadeN.more {n : Net} {N d d' : Nat} (h : MadeN n N d) (hd : d ≤ d') : MadeN n N d' := ⟨h.len, h.ins, h.ids, h.in9, h.ok, fun u => Nat.le_trans (h.deg u) hd⟩
theorem rowAt_out {n : Net} {u : Nat} (h : n.es.length ≤ u) : rowAt n u = [] := by unfold rowAt; rw [List.getD_eq_getElem?_getD, List.getElem?_eq_none h]; rfl
theorem rowAt_mem {n : Net} {l : Ends} (h : l ∈ n.es) : ∃ u, u < n.es.length ∧ rowAt n u = l := by
  obtain ⟨u, hu⟩ := List.getElem?_of_mem h
  exact ⟨u, (List.getElem?_eq_some_iff.1 hu).1, rowAt_eq hu⟩
theorem MadeN.i64 {n : Net} {N d : Nat} (h : MadeN n N d) (hN : N ≤ 1000000) (hd : d ≤ 1000000) : I64N n := by
  refine ⟨fun l hl e he => ?_, fun x hx => ?_, fun x hx => ?_⟩
  · obtain ⟨u, hu, rfl⟩ := rowAt_mem hl
    obtain ⟨a, b, rfl, h1, h2⟩ := h.ok u e he
    have := h.len
    have := h.deg a
    exact ⟨⟨by show (-9223372036854775808 : Int) ≤ (a : Int); omega, by show (a : Int) ≤ _; omega⟩, by show (-9223372036854775808 : Int) ≤ (b : Int); omega, by show (b : Int) ≤ _; omega⟩
  · rw [h.ids] at hx; cases hx
  · have := h.in9 x hx
    exact ⟨by omega, by omega⟩
def pushN (n : Net) (u : Nat) (e : Int × Int) : Net := { n with es := n.es.set u (rowAt n u ++ [e]) }
theorem pushN_len (n : Net) (u : Nat) (e : Int × Int) : (pushN n u e).es.length = n.es.length := List.length_set
theorem rowAt_push {n : Net} {u : Nat} (hu : u < n.es.length) (e : Int × Int) (x : Nat) : rowAt (pushN n u e) x = if x = u then rowAt n u ++ [e] else rowAt n x := rowAt_set hu _ x
theorem degA_push {n : Net} {u : Nat} (hu : u < n.es.length) (e : Int × Int) (x : Nat) : degA (pushN n u e) x = degA n x + if x = u then 1 else 0 := by
  unfold degA
  rw [rowAt_push hu]
  by_cases h : x = u
  · rw [if_pos h, if_pos h, h, List.length_append, List.length_singleton]
  · rw [if_neg h, if_neg h, Nat.add_zero]
theorem push_mem {n : Net} {u : Nat} (hu : u < n.es.length) {e f : Int × Int} {x : Nat} (h : f ∈ rowAt (pushN n u e) x) : f ∈ rowAt n x ∨ x = u ∧ f = e := by
  rw [rowAt_push hu] at h
  by_cases hx : x = u
  · rw [if_pos hx] at h
    rcases List.mem_append.1 h with h | h
    · exact .inl (hx ▸ h)
    · exact .inr ⟨hx, List.mem_singleton.1 h⟩
  · rw [if_neg hx] at h
    exact .inl h
def joinN (n : Net) (v w : Nat) : Net := pushN (pushN n v ((w : Int), ((degA n w + if v = w then 1 else 0 : Nat) : Int))) w ((v : Int), (degA n v : Int))
def stubN (n : Net) (v : Nat) : Net := pushN n v ((v : Int), (degA n v : Int))
section
variable {n : Net} {v w : Nat}
theorem joinN_len : (joinN n v w).es.length = n.es.length := by unfold joinN; rw [pushN_len, pushN_len]
theorem degA_join (hv : v < n.es.length) (hw : w < n.es.length) (x : Nat) : degA (joinN n v w) x = degA n x + (if x = v then 1 else 0) + if x = w then 1 else 0 := by
  unfold joinN
  rw [degA_push (by rw [pushN_len]; exact hw), degA_push hv]
theorem ok_join (h : EndsOk n) (hv : v < n.es.length) (hw : w < n.es.length) : EndsOk (joinN n v w) := fun u e he => by
  have hd := degA_join (n := n) hv hw
  rw [joinN_len]
  rcases push_mem (by rw [pushN_len]; exact hw) he with he | ⟨-, rfl⟩
  · rcases push_mem hv he with he | ⟨-, rfl⟩
    · obtain ⟨a, b, e1, h1, h2⟩ := h u e he
      exact ⟨a, b, e1, h1, by rw [hd]; omega⟩
    · refine ⟨w, _, rfl, hw, ?_⟩
      rw [hd, if_pos rfl]
      by_cases e : v = w
      · rw [if_pos e, if_pos e.symm]; omega
      · rw [if_neg e, if_neg (fun h => e h.symm)]; omega
  · refine ⟨v, _, rfl, hv, ?_⟩
    rw [hd, if_pos rfl]
    omega
theorem ok_stub (h : EndsOk n) (hv : v < n.es.length) : EndsOk (stubN n v) := fun u e he => by
  have hd := degA_push (n := n) hv ((v : Int), (degA n v : Int))
  rw [show (stubN n v).es.length = n.es.length from pushN_len _ _ _]
  rcases push_mem hv he with he | ⟨-, rfl⟩
  · obtain ⟨a, b, e1, h1, h2⟩ := h u e he
    exact ⟨a, b, e1, h1, by show b < degA (pushN _ _ _) a; rw [hd]; omega⟩
  · exact ⟨v, _, rfl, hv, by show _ < degA (pushN _ _ _) v; rw [hd, if_pos rfl]; omega⟩
theorem MadeN.join {N d d' : Nat} (h : MadeN n N d) (hv : v < N) (hw : w < N) (hd : ∀ u, (u = v ∨ u = w) → degA (joinN n v w) u ≤ d') (hdd : d ≤ d') : MadeN (joinN n v w) N d' := by
  have hv' : v < n.es.length := by rw [h.len]; exact hv
  have hw' : w < n.es.length := by rw [h.len]; exact hw
  refine ⟨joinN_len.trans h.len, h.ins, h.ids, h.in9, ok_join h.ok hv' hw', fun u => ?_⟩
  by_cases e1 : u = v
  · exact hd u (.inl e1)
  · by_cases e2 : u = w
    · exact hd u (.inr e2)
    · rw [degA_join hv' hw', if_neg e1, if_neg e2]
      exact Nat.le_trans (h.deg u) hdd
theorem MadeN.stub {N d : Nat} (h : MadeN n N d) (hv : v < N) : MadeN (stubN n v) N (d + 1) := by
  have hv' : v < n.es.length := by rw [h.len]; exact hv
  refine ⟨(pushN_len _ _ _).trans h.len, h.ins, h.ids, h.in9, ok_stub h.ok hv', fun u => ?_⟩
  show degA (pushN _ _ _) u ≤ _
  have := h.deg u
  rw [degA_push hv']
  split <;> omega
end
def setN (n : Net) (u p : Nat) (e : Int × Int) : Net := { n with es := n.es.set u ((rowAt n u).set p e) }
section
variable {n : Net} {u p : Nat}
theorem setN_len (e : Int × Int) : (setN n u p e).es.length = n.es.length := List.length_set
theorem degA_set (hu : u < n.es.length) (e : Int × Int) (x : Nat) : degA (setN n u p e) x = degA n x := by
  unfold degA setN
  rw [rowAt_set hu]
  by_cases h : x = u
  · rw [if_pos h, h, List.length_set]
  · rw [if_neg h]
theorem ok_set (h : EndsOk n) (hu : u < n.es.length) {a b : Nat} (ha : a < n.es.length) (hb : b < degA n a) : EndsOk (setN n u p ((a : Int), (b : Int))) := fun x e he => by
  rw [setN_len]
  have he' : e ∈ rowAt n x ∨ e = ((a : Int), (b : Int)) := by
    unfold setN at he
    rw [rowAt_set hu] at he
    by_cases hx : x = u
    · rw [if_pos hx] at he
      rcases List.mem_or_eq_of_mem_set he with h1 | h1
      · exact .inl (hx ▸ h1)
      · exact .inr h1
    · rw [if_neg hx] at he
      exact .inl he
  rcases he' with he' | rfl
  · obtain ⟨c, d, e1, h1, h2⟩ := h x e he'
    exact ⟨c, d, e1, h1, by rw [degA_set hu]; exact h2⟩
  · exact ⟨a, b, rfl, ha, by rw [degA_set hu]; exact hb⟩
end
def unionN (a b : Net) : Net := ⟨a.es ++ b.es.map (fun l => l.map fun e => (e.1 + (a.es.length : Int), e.2)), a.ids ++ b.ids, a.ins ++ b.ins⟩
theorem rowAt_union (a b : Net) (u : Nat) : rowAt (unionN a b) u = if u < a.es.length then rowAt a u else (rowAt b (u - a.es.length)).map fun e => (e.1 + (a.es.length : Int), e.2) := by
  unfold rowAt unionN
  rw [List.getD_eq_getElem?_getD, List.getD_eq_getElem?_getD, List.getD_eq_getElem?_getD, List.getElem?_append]
  by_cases h : u < a.es.length
  · rw [if_pos h, if_pos h]
  · rw [if_neg h, if_neg h, List.getElem?_map]
    cases b.es[u - a.es.length]? <;> rfl
theorem degA_union (a b : Net) (u : Nat) : degA (unionN a b) u = if u < a.es.length then degA a u else degA b (u - a.es.length) := by
  unfold degA
  rw [rowAt_union]
  split
  · rfl
  · rw [List.length_map]
theorem MadeN.union {a b : Net} {N M d : Nat} (ha : MadeN a N d) (hb : MadeN b M d) : MadeN (unionN a b) (N + M) d := by
  refine ⟨?_, ?_, ?_, fun x hx => ?_, fun u e he => ?_, fun u => ?_⟩
  · show (a.es ++ b.es.map _).length = _
    rw [List.length_append, List.length_map, ha.len, hb.len]
  · show (a.ins ++ b.ins).length = _
    rw [List.length_append, ha.ins, hb.ins]
  · show a.ids ++ b.ids = []
    rw [ha.ids, hb.ids]; rfl
  · rcases List.mem_append.1 hx with h | h
    · exact ha.in9 x h
    · exact hb.in9 x h
  · have hl : (unionN a b).es.length = a.es.length + b.es.length := by show (a.es ++ b.es.map _).length = _; rw [List.length_append, List.length_map]
    rw [rowAt_union] at he
    by_cases h : u < a.es.length
    · rw [if_pos h] at he
      obtain ⟨c, d', e1, h1, h2⟩ := ha.ok u e he
      exact ⟨c, d', e1, by rw [hl]; omega, by rw [degA_union, if_pos h1]; exact h2⟩
    · rw [if_neg h] at he
      obtain ⟨e0, he0, rfl⟩ := List.mem_map.1 he
      obtain ⟨c, d', rfl, h1, h2⟩ := hb.ok _ e0 he0
      refine ⟨c + a.es.length, d', ?_, by rw [hl]; omega, ?_⟩
      · show ((c : Int) + (a.es.length : Int), (d' : Int)) = _
        rw [Int.natCast_add]
      · rw [degA_union, if_neg (by omega), Nat.add_sub_cancel]; exact h2
  · rw [degA_union]
    split
    · exact ha.deg u
    · exact hb.deg _
def sumD (n : Net) : Nat → Nat
  | 0 => 0
  | k + 1 => sumD n k + degA n k
theorem sumD_join {n : Net} {v w : Nat} (hv : v < n.es.length) (hw : w < n.es.length) : ∀ k, sumD (joinN n v w) k = sumD n k + (if v < k then 1 else 0) + if w < k then 1 else 0
 | 0 => rfl
 | k + 1 => by
  show sumD (joinN n v w) k + degA (joinN n v w) k = sumD n k + degA n k + _ + _
  rw [sumD_join hv hw k, degA_join hv hw]
  by_cases h1 : v < k
  ·
   by_cases h2 : w < k
   ·
    rw [if_pos h1, if_pos h2, if_neg (show ¬ k = v by omega), if_neg (show ¬ k = w by omega), if_pos (show v < k + 1 by omega), if_pos (show w < k + 1 by omega)]; omega
   ·
    by_cases h3 : k = w
    ·
     rw [if_pos h1, if_neg h2, if_neg (show ¬ k = v by omega), if_pos h3, if_pos (show v < k + 1 by omega), if_pos (show w < k + 1 by omega)]; omega
    ·
     rw [if_pos h1, if_neg h2, if_neg (show ¬ k = v by omega), if_neg h3, if_pos (show v < k + 1 by omega), if_neg (show ¬ w < k + 1 by omega)]; omega
  ·
   by_cases h4 : k = v
   ·
    by_cases h2 : w < k
    ·
     rw [if_neg h1, if_pos h2, if_pos h4, if_neg (show ¬ k = w by omega), if_pos (show v < k + 1 by omega), if_pos (show w < k + 1 by omega)]; omega
    ·
     by_cases h3 : k = w
     ·
      rw [if_neg h1, if_neg h2, if_pos h4, if_pos h3, if_pos (show v < k + 1 by omega), if_pos (show w < k + 1 by omega)]; omega
     ·
      rw [if_neg h1, if_neg h2, if_pos h4, if_neg h3, if_pos (show v < k + 1 by omega), if_neg (show ¬ w < k + 1 by omega)]; omega
   ·
    by_cases h2 : w < k
    ·
     rw [if_neg h1, if_pos h2, if_neg h4, if_neg (show ¬ k = w by omega), if_neg (show ¬ v < k + 1 by omega), if_pos (show w < k + 1 by omega)]; omega
    ·
     by_cases h3 : k = w
     ·
      rw [if_neg h1, if_neg h2, if_neg h4, if_pos h3, if_neg (show ¬ v < k + 1 by omega), if_pos (show w < k + 1 by omega)]; omega
     ·
      rw [if_neg h1, if_neg h2, if_neg h4, if_neg h3, if_neg (show ¬ v < k + 1 by omega), if_neg (show ¬ w < k + 1 by omega)]; omega
theorem sumD_ge {n : Net} : ∀ k, (∀ t, t < k → 4 ≤ degA n t) → 4 * k ≤ sumD n k
  | 0, _ => Nat.le_refl _
  | k + 1, h => by
    have h1 := sumD_ge k fun t ht => h t (by omega)
    have h2 := h k (by omega)
    show 4 * (k + 1) ≤ sumD n k + degA n k
    omega
theorem tree_free {n : Net} {v : Nat} (hv : 1 ≤ v) (h : sumD n v = 2 * (v - 1)) : ∃ t, t < v ∧ degA n t < 4 := by
  apply Classical.byContradiction
  intro hc
  have := sumD_ge (n := n) v fun t ht => Nat.le_of_not_lt fun h' => hc ⟨t, ht, h'⟩
  omega
def emptyN (k : Nat) : Net := ⟨List.replicate k [], [], List.replicate k 0⟩
theorem rowAt_empty (k u : Nat) : rowAt (emptyN k) u = [] := by
  unfold rowAt emptyN
  rw [List.getD_eq_getElem?_getD, List.getElem?_replicate]
  split <;> rfl
theorem made_empty (k : Nat) : MadeN (emptyN k) k 0 := by
  refine ⟨List.length_replicate, List.length_replicate, rfl, fun x hx => ?_, fun u e he => ?_, fun u => ?_⟩
  · rw [List.eq_of_mem_replicate hx]; decide
  · rw [rowAt_empty] at he; cases he
  · unfold degA; rw [rowAt_empty]; exact Nat.le_refl _
theorem sumD_empty (k : Nat) : ∀ j, sumD (emptyN k) j = 0
  | 0 => rfl
  | j + 1 => by
    show sumD (emptyN k) j + degA (emptyN k) j = 0
    rw [sumD_empty k j]
    unfold degA
    rw [rowAt_empty]
    rfl
end Go.Proofs.YtdghoienjegffaaGreat
