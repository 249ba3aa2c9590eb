/-
  Situations of a rule: what nodes do next stays within the counts of states; successors of a situation. No program in sight, no condition.
-/
import Derived.Test.YtdghoienjegffaaGreatQPlainNext
import Derived.Test.YtdghoienjegffaaGreatQPlainPut
namespace Go.Proofs.YtdghoienjegffaaGreat
set_option linter.all false
theorem row_in {n : Net} (h : netP n) {v : Nat} {l : Ends} (hl : n.es[v]? = some l) {e : Int × Int} (he : e ∈ l) : 0 ≤ e.1 ∧ e.1.toNat < n.es.length := h.endsIn l (List.mem_of_getElem? hl) e he
theorem sts_at {n : Net} {r : Int} {ss : List Int} (hs : Sts (cnts n r) ss) {v : Nat} {l : Ends} (hl : n.es[v]? = some l) : ∃ s, ss[v]? = some s ∧ 0 ≤ s ∧ s < cntAt n r l := by
  have hv : v < ss.length := by rw [← hs.1, cnts_len]; exact (List.getElem?_eq_some_iff.1 hl).1
  exact ⟨_, List.getElem?_eq_getElem hv, hs.2 v _ _ (cnts_at hl) (List.getElem?_eq_getElem hv)⟩
theorem cntAt_bd {n : Net} (h : netP n) (r : Int) {v : Nat} {l : Ends} (hl : n.es[v]? = some l) : 1 ≤ cntAt n r l ∧ cntAt n r l ≤ 41 := cnts_bd h r _ (List.mem_of_getElem? (cnts_at (r := r) hl))
theorem near_bd {n : Net} {r : Int} {ss : List Int} (h : netP n) (hs : Sts (cnts n r) ss) {v : Nat} {l : Ends} (hl : n.es[v]? = some l) {x : Int} (hx : x ∈ nearSt l ss) : 0 ≤ x ∧ x ≤ 40 := by
  obtain ⟨e, he, rfl⟩ := List.mem_map.1 hx
  obtain ⟨e0, e1⟩ := row_in h hl he
  obtain ⟨s, hs1, hs2, hs3⟩ := sts_at hs (List.getElem?_eq_getElem e1)
  have := cntAt_bd h r (List.getElem?_eq_getElem e1)
  rw [List.getD_eq_getElem?_getD, hs1]
  show 0 ≤ s ∧ s ≤ 40
  omega
theorem leastOf_bd (k : Int) : ∀ (xs : List Int) (a : Int), 0 ≤ a → a ≤ k → (∀ x ∈ xs, 0 ≤ x) → 0 ≤ leastOf a xs ∧ leastOf a xs ≤ k
  | [], a, h0, h1, _ => ⟨h0, h1⟩
  | x :: r, a, h0, h1, hx => by
    have hx0 := hx x (by simp)
    show 0 ≤ leastOf (if a < x + 1 then a else x + 1) r ∧ leastOf (if a < x + 1 then a else x + 1) r ≤ k
    exact leastOf_bd k r _ (by split <;> omega) (by split <;> omega) fun y hy => hx y (by simp [hy])
theorem portI_bd {α : Type} (p : α → Bool) (l : List α) : -1 ≤ portI p l ∧ portI p l < l.length := by
  unfold portI
  cases h : l.findIdx? p with
  | none => dsimp only; omega
  | some i =>
    have := (List.findIdx?_eq_some_iff_getElem.1 h).1
    dsimp only
    omega
theorem next_bd {n : Net} {r : Int} {ss : List Int} {v : Nat} {l : Ends} {s : Int} (ha : askP n r) (hs : Sts (cnts n r) ss) (hl : n.es[v]? = some l) (hv : ss[v]? = some s) :
  0 ≤ nextAt n r ss v l s ∧ nextAt n r ss v l s < cntAt n r l := by
 obtain ⟨hn, hr, hp, hring⟩ := ha
 have hb := hs.2 v _ _ (cnts_at hl) hv
 have hlm := List.mem_of_getElem? hl
 have hnear : ∀ x ∈ nearSt l ss, 0 ≤ x ∧ x ≤ 40 := fun x hx => near_bd hn hs hl hx
 unfold nextAt
 by_cases h1 : r = 1
 ·
  subst h1
  rw [if_pos rfl]
  have hc : cntAt n 1 l = n.es.length + 1 := rfl
  rw [hc]
  unfold treeS
  split
  ·
   omega
  ·
   have := leastOf_bd n.es.length (nearSt l ss) n.es.length (by omega) (by omega) fun x hx => (hnear x hx).1
   omega
 rw [if_neg h1]
 by_cases h2 : r = 2
 ·
  subst h2
  rw [if_pos rfl]
  have hc : cntAt n 2 l = most (degs n) + 1 := rfl
  rw [hc] at hb ⊢
  split
  ·
   have hd : (l.length : Int) ≤ most (degs n) := most_ge _ (List.mem_map.2 ⟨l, hlm, rfl⟩)
   have hlf : leastN (nearSt l ss) ≤ l.length := by
    by_cases hx : ∃ c, LeastFree (nearSt l ss) c
    ·
     obtain ⟨c, hc⟩ := hx
     rw [leastN_eq hc, ← nearSt_len l ss]
     exact pigeon c _ hc.1
    ·
     unfold leastN
     rw [dif_neg hx]
     omega
   omega
  ·
   exact hb
 rw [if_neg h2]
 by_cases h3 : r = 3
 ·
  subst h3
  rw [if_pos rfl]
  have hc : cntAt n 3 l = 2 := rfl
  rw [hc]
  split <;> omega
 rw [if_neg h3]
 by_cases h4 : r = 4
 ·
  subst h4
  rw [if_pos rfl]
  have hc : cntAt n 4 l = l.length + 1 := rfl
  rw [hc] at hb ⊢
  unfold matchS
  have b1 := portI_bd (pointsTo ss) l
  have b2 := portI_bd (isFree ss) l
  split
  ·
   split <;> omega
  ·
   split <;> omega
 rw [if_neg h4]
 have h5 : r = 5 := by omega
 subst h5
 have hc : cntAt n 5 l = n.es.length + 1 := rfl
 rw [hc] at hb ⊢
 obtain ⟨hl2, -⟩ := (hring rfl).2.2.2 l hlm
 have hm : ss.getD (l.getD 1 (0, 0)).1.toNat 0 ∈ nearSt l ss := by
  refine List.mem_map.2 ⟨l.getD 1 (0, 0), ?_, rfl⟩
  rw [List.getD_eq_getElem?_getD, List.getElem?_eq_getElem (by omega : 1 < l.length)]
  exact List.getElem_mem _
 obtain ⟨e, he, hee⟩ := List.mem_map.1 hm
 obtain ⟨e0, e1⟩ := row_in hn hl he
 obtain ⟨t, ht1, ht2, ht3⟩ := sts_at hs (List.getElem?_eq_getElem e1)
 have hc' : ∀ m : Ends, cntAt n 5 m = n.es.length + 1 := fun _ => rfl
 rw [hc'] at ht3
 have hee' : ss.getD (l.getD 1 (0, 0)).1.toNat 0 = t := by rw [← hee, List.getD_eq_getElem?_getD, ht1]; rfl
 unfold tokenS
 rw [hee']
 split
 ·
  omega
 ·
  split
  ·
   exact ⟨Int.tmod_nonneg _ (by omega), Int.tmod_lt_of_pos _ (by omega)⟩
  ·
   exact hb
theorem nextS_bd {n : Net} {r : Int} {ss : List Int} {v : Nat} (ha : askP n r) (hs : Sts (cnts n r) ss) (hv : v < ss.length) :
    ∃ k, (cnts n r)[v]? = some k ∧ 0 ≤ nextS n r ss v ∧ nextS n r ss v < k ∧ k ≤ 41 := by
  have hl : v < n.es.length := by rw [← cnts_len n r, hs.1]; exact hv
  rw [nextS_at (List.getElem?_eq_getElem hl) (List.getElem?_eq_getElem hv)]
  obtain ⟨h1, h2⟩ := next_bd ha hs (List.getElem?_eq_getElem hl) (List.getElem?_eq_getElem hv)
  exact ⟨_, cnts_at (List.getElem?_eq_getElem hl), h1, h2, (cntAt_bd ha.1 r (List.getElem?_eq_getElem hl)).2⟩
theorem Sts.put {cs ss : List Int} (h : Sts cs ss) {v : Nat} {k x : Int} (hk : cs[v]? = some k) (h0 : 0 ≤ x) (h1 : x < k) : Sts cs (ss.set v x) := by
  refine ⟨by rw [List.length_set]; exact h.1, fun u a b ha hb => ?_⟩
  by_cases e : u = v
  · subst e
    rw [hk] at ha
    obtain rfl := Option.some.inj ha
    have hu : u < ss.length := by rw [← h.1]; exact (List.getElem?_eq_some_iff.1 hk).1
    rw [List.getElem?_set_self hu] at hb
    obtain rfl := Option.some.inj hb
    exact ⟨h0, h1⟩
  · rw [List.getElem?_set_ne (Ne.symm e)] at hb
    exact h.2 u a b ha hb
theorem moveS_sts {n : Net} {r : Int} {ss : List Int} (ha : askP n r) (hs : Sts (cnts n r) ss) (set : List Int) (hset : ∀ v ∈ set, 0 ≤ v ∧ v.toNat < ss.length) : Sts (cnts n r) (moveS n r ss set) := by
  suffices h : ∀ (set out : List Int), Sts (cnts n r) out → (∀ v ∈ set, 0 ≤ v ∧ v.toNat < ss.length) → Sts (cnts n r) (set.foldl (fun out v => out.set v.toNat (nextS n r ss v.toNat)) out) from h set ss hs hset
  intro set
  induction set with
  | nil => intro out ho _; exact ho
  | cons v t ih =>
    intro out ho hv
    rw [List.foldl_cons]
    obtain ⟨k, hk, h0, h1, -⟩ := nextS_bd ha hs (hv v (by simp)).2
    exact ih _ (ho.put hk h0 h1) fun u hu => hv u (by simp [hu])
end Go.Proofs.YtdghoienjegffaaGreat
