/-
  The states that ssLegalOf makes are legal. No program in sight.
-/
import Derived.Test.YtdghoienjegffaaGreatRPlainCalmG
namespace Go.Proofs.YtdghoienjegffaaGreat
open Go.RowKit
set_option linter.all false
theorem adj_row {n : Net} {a b : Nat} : Adj n.es a b ↔ ∃ e ∈ rowAt n a, e.1.toNat = b := by
  constructor
  · rintro ⟨l, hl, e, he, rfl⟩
    rw [rowAt_eq hl]; exact ⟨e, he, rfl⟩
  · rintro ⟨e, he, rfl⟩
    by_cases ha : a < n.es.length
    · exact ⟨_, rowAt_lt ha, e, he, rfl⟩
    · rw [rowAt_out (by omega)] at he; cases he
theorem adj_lt {n : Net} (hp : netP n) {a b : Nat} (h : Adj n.es a b) : a < n.es.length ∧ b < n.es.length := by obtain ⟨l, hl, e, he, rfl⟩ := h;exact ⟨(List.getElem?_eq_some_iff.1 hl).1, (hp.endsIn l (List.mem_of_getElem? hl) e he).2⟩
theorem adj_ne {n : Net} (hp : netP n) (hq : plainP n) {a b : Nat} (h : Adj n.es a b) : a ≠ b := by obtain ⟨l, hl, e, he, rfl⟩ := h;have h1 := hq a l hl e he;have h2 := (hp.endsIn l (List.mem_of_getElem? hl) e he).1;omega
theorem near_set {n : Net} (hp : netP n) {k : Nat} (hk : k < n.es.length) {S : List Int} (hS : ∀ x ∈ S, 0 ≤ x ∧ x.toNat < k) : inB (leastD (far n.es k) S) 0 1 = true ↔ ∃ x ∈ S, Adj n.es k x.toNat := by
  have hl := far_lab hp.endsIn hk;constructor
  · intro h
    have h1 : 0 ≤ leastD (far n.es k) S ∧ leastD (far n.es k) S ≤ 1 := by unfold inB at h; simpa using h
    obtain ⟨x, hx, h2, h3⟩ := leastD_mem h1.1;refine ⟨x, hx, ?_⟩;have h4 := (hS x hx).2;rcases hl.back _ h2 with ⟨-, h5⟩ | ⟨a, h5, h6, h7⟩
    · omega
    · rcases hl.back a h7 with ⟨-, rfl⟩ | ⟨b, -, h8, h9⟩
      · exact h5
      · omega
  · rintro ⟨x, hx, h⟩
    have h1 := hl.walk (.snoc (.nil k) h);have h2 := leastD_le hx h1.1;exact inB_t (by omega)
theorem gr_ok {n : Net} (hp : netP n) (hq : plainP n) : ∀ k, k ≤ n.es.length → (∀ x ∈ grTo n k, ∀ y ∈ grTo n k, ¬ Adj n.es x.toNat y.toNat) ∧ ∀ v, v < k → (v : Int) ∈ grTo n k ∨ ∃ x ∈ grTo n k, Adj n.es v x.toNat
  | 0, _ => ⟨fun x hx => absurd hx List.not_mem_nil, fun v hv => absurd hv (by omega)⟩
  | k + 1, hk => by
    obtain ⟨h1, h2⟩ := gr_ok hp hq k (by omega);have h3 := near_set hp (k := k) (by omega) (grTo_mem n k);rw [grTo];by_cases hc : inB (leastD (far n.es k) (grTo n k)) 0 1 = true
    · rw [if_pos hc]
      refine ⟨h1, fun v hv => ?_⟩;by_cases e : v = k
      · subst e; exact .inr (h3.1 hc)
      · exact h2 v (by omega)
    · rw [if_neg hc]
      have h4 : ∀ x ∈ grTo n k, ¬ Adj n.es k x.toNat := fun x hx h => hc (h3.2 ⟨x, hx, h⟩)
      refine ⟨fun x hx y hy h => ?_, fun v hv => ?_⟩
      · rcases (putS_mem _ _ _).1 hx with rfl | hx <;> rcases (putS_mem _ _ _).1 hy with rfl | hy
        · exact adj_ne hp hq h rfl
        · exact h4 y hy (by simpa using h)
        · exact h4 x hx (hp.adj_symm _ _ (by simpa using h))
        · exact h1 x hx y hy h
      · by_cases e : v = k
        · subst e; exact .inl ((putS_mem _ _ _).2 (.inl rfl))
        · rcases h2 v (by omega) with h5 | ⟨x, hx, h5⟩
          · exact .inl ((putS_mem _ _ _).2 (.inr h5))
          · exact .inr ⟨x, (putS_mem _ _ _).2 (.inr hx), h5⟩
theorem ones_at {S : List Int} {N : Nat} (hS : ∀ x ∈ S, 0 ≤ x ∧ x.toNat < N) : ∀ k, k ≤ S.length → ∀ v, (onesTo S N k).getD v 0 = if ∃ x ∈ S.take k, x.toNat = v then 1 else 0
  | 0, _, v => by rw [if_neg (by simp)];unfold onesTo;rw [List.take_zero, List.foldl_nil, List.getD_eq_getElem?_getD, List.getElem?_replicate];split <;> rfl
  | k + 1, hk, v => by
    obtain ⟨x, hx⟩ : ∃ x, S[k]? = some x := ⟨_, List.getElem?_eq_getElem (by omega)⟩
    have h1 := hS x (List.mem_of_getElem? hx);rw [onesTo_succ hx, List.getD_eq_getElem?_getD, List.getElem?_set];have hm : (∃ y ∈ S.take (k + 1), y.toNat = v) ↔ (∃ y ∈ S.take k, y.toNat = v) ∨ x.toNat = v := by
      obtain ⟨hk', rfl⟩ := List.getElem?_eq_some_iff.1 hx;rw [List.take_succ_eq_append_getElem hk'];constructor
      · rintro ⟨y, hy, e⟩
        rcases List.mem_append.1 hy with hy | hy
        · exact .inl ⟨y, hy, e⟩
        · exact .inr (by rw [← List.mem_singleton.1 hy]; exact e)
      · rintro (⟨y, hy, e⟩ | e)
        · exact ⟨y, List.mem_append_left _ hy, e⟩
        · exact ⟨_, List.mem_append_right _ (List.mem_singleton.2 rfl), e⟩
    by_cases e : x.toNat = v
    · rw [if_pos e, if_pos (by rw [onesTo_len]; omega), if_pos (hm.2 (.inr e))]; rfl
    · rw [if_neg e, ← List.getD_eq_getElem?_getD, ones_at hS k (by omega) v]
      by_cases h2 : ∃ y ∈ S.take k, y.toNat = v
      · rw [if_pos h2, if_pos (hm.2 (.inl h2))]
      · rw [if_neg h2, if_neg (fun h => (hm.1 h).elim h2 e)]
theorem cnts_rep {n : Net} {r : Int} {K : Int} {ss : List Int} (hc : cnts n r = List.replicate n.es.length K) (hl : ss.length = n.es.length) (h : ∀ x ∈ ss, 0 ≤ x ∧ x < K) : Sts (cnts n r) ss := by
  refine ⟨by rw [cnts_len, hl], fun v k s hk hs => ?_⟩;rw [hc, List.getElem?_replicate] at hk;split at hk
  · obtain rfl := Option.some.inj hk
    exact h s (List.mem_of_getElem? hs)
  · cases hk
theorem set_sts (n : Net) : Sts (cnts n 3) (legL n 3) := by
  refine cnts_rep (K := 2) (by unfold cnts; rw [if_neg (by omega), if_pos rfl]) (legL_len n 3) fun x hx => ?_
  unfold legL at hx;rw [if_neg (by omega), if_neg (by omega), if_pos rfl] at hx;have := onesTo_bd _ _ _ x hx;omega
theorem set_calm {n : Net} (hp : netP n) (hq : plainP n) : enS n 3 (legL n 3) = [] := by
  rw [set_legal hp (set_sts n)];have hm := grTo_mem n n.es.length;have ho := ones_at hm (grTo n n.es.length).length (Nat.le_refl _);rw [List.take_length] at ho;obtain ⟨h1, h2⟩ := gr_ok hp hq n.es.length (Nat.le_refl _);have el : legL n 3 = onesTo (grTo n n.es.length) n.es.length (grTo n n.es.length).length := by unfold legL;rw [if_neg (by omega), if_neg (by omega), if_pos rfl]
  rw [el];refine ⟨fun v l s hl hs => ?_, ?_⟩
  · have hv := (List.getElem?_eq_some_iff.1 hl).1
    rw [← getD_at hs, ho];rcases h2 v hv with h3 | ⟨x, hx, l', hl', e, he, hex⟩
    · exact .inl (if_pos ⟨_, h3, Int.toNat_natCast v⟩)
    · obtain rfl := Option.some.inj (hl.symm.trans hl')
      refine .inr ⟨e, he, ?_⟩;rw [ho, if_pos ⟨x, hx, hex.symm⟩]
  · rintro ⟨v, l, e, hl, he, h3, h4⟩
    replace h3 : (onesTo (grTo n n.es.length) n.es.length (grTo n n.es.length).length).getD v 0 = 1 := h3;replace h4 : (onesTo (grTo n n.es.length) n.es.length (grTo n n.es.length).length).getD e.1.toNat 0 = 1 := h4;rw [ho] at h3 h4;split at h3
    · rename_i hx
      split at h4
      · rename_i hy
        obtain ⟨x, hx, rfl⟩ := hx;obtain ⟨y, hy, hy2⟩ := hy;exact h1 x hx y hy ⟨l, hl, e, he, hy2.symm⟩
      · omega
    · omega
theorem seen_plain {n : Net} (hq : plainP n) {k : Nat} : ∀ y, y ∈ seenL (rowAt n k) k ↔ ∃ e ∈ rowAt n k, e.1 = y := fun y => by
  unfold seenL lessL nearL;simp only [List.mem_filter, List.mem_map];constructor
  · rintro ⟨⟨e, he, h⟩, -⟩; exact ⟨e, he, h⟩
  · rintro ⟨e, he, rfl⟩
    refine ⟨⟨e, he, rfl⟩, ?_⟩;by_cases hk : k < n.es.length
    · have := hq k _ (rowAt_lt hk) e he
      rw [hasB_f (by simpa using this)]; rfl
    · rw [rowAt_out (by omega)] at he; cases he
theorem col_ok {n : Net} (hp : netP n) (hq : plainP n) : ∀ k, k ≤ n.es.length → (∀ v, v < k → 0 ≤ (colTo n k).getD v 0 ∧ (colTo n k).getD v 0 ≤ (rowAt n v).length) ∧ ∀ v u, v < k → u < k → Adj n.es v u → (colTo n k).getD v 0 ≠ (colTo n k).getD u 0
 | 0, _ => ⟨fun v hv => absurd hv (by omega), fun v u hv => absurd hv (by omega)⟩
 | k + 1, hk => by
  obtain ⟨h1, h2⟩ := col_ok hp hq k (by omega);obtain ⟨xs, hxs⟩ : ∃ xs, xs = (seenL (rowAt n k) k).map fun a => (colTo n k).getD a.toNat 0 := ⟨_, rfl⟩
  have hat : ∀ x, (colTo n (k + 1)).getD x 0 = if x = k then ((leastN xs : Nat) : Int) else (colTo n k).getD x 0 := fun x => by
   rw [colTo, ← hxs, List.getD_eq_getElem?_getD, List.getElem?_set];by_cases e : k = x
   · rw [if_pos e, if_pos e.symm, if_pos (by rw [colTo_len]; omega)]; rfl
   · rw [if_neg e, if_neg (fun h => e h.symm), List.getD_eq_getElem?_getD]
  have hno : ∀ u, Adj n.es k u → ((leastN xs : Nat) : Int) ≠ (colTo n k).getD u 0 := fun u hu h => by refine (leastN_free xs).2 ?_;rw [h, hxs];obtain ⟨e, he, rfl⟩ := adj_row.1 hu;exact List.mem_map.2 ⟨e.1, (seen_plain hq _).2 ⟨e, he, rfl⟩, rfl⟩
  refine ⟨fun v hv => ?_, fun v u hv hu h => ?_⟩
  ·
   rw [hat];by_cases e : v = k
   ·
    rw [if_pos e, e];have h3 := leastN_len xs;have h4 : xs.length ≤ (rowAt n k).length := by rw [hxs, List.length_map];refine Nat.le_trans (List.length_filter_le _ _) ?_;unfold nearL;rw [List.length_map];exact Nat.le_refl _
    omega
   · rw [if_neg e]; exact h1 v (by omega)
  ·
   rw [hat, hat];by_cases e : v = k
   · rw [if_pos e];subst e;rw [if_neg (fun e => adj_ne hp hq h e.symm)];exact hno u h
   ·
    rw [if_neg e];by_cases e2 : u = k
    · rw [if_pos e2];subst e2;exact fun h3 => hno v (hp.adj_symm _ _ h) h3.symm
    · rw [if_neg e2];exact h2 v u (by omega) (by omega) h
theorem col_leg (n : Net) : legL n 2 = colTo n n.es.length := by unfold legL;rw [if_neg (by omega), if_pos rfl]
theorem col_sts {n : Net} (hp : netP n) (hq : plainP n) : Sts (cnts n 2) (legL n 2) := by
  refine cnts_rep (K := most (degs n) + 1) (by unfold cnts; rw [if_pos rfl]) (legL_len n 2) fun x hx => ?_
  rw [col_leg] at hx;obtain ⟨v, hv⟩ := List.getElem?_of_mem hx;have hvl := (List.getElem?_eq_some_iff.1 hv).1;rw [colTo_len] at hvl;have h1 := (col_ok hp hq n.es.length (Nat.le_refl _)).1 v hvl;rw [getD_at hv] at h1;have h2 : ((rowAt n v).length : Int) ≤ most (degs n) := most_ge _ (List.mem_map.2 ⟨_, List.mem_of_getElem? (rowAt_lt hvl), rfl⟩);omega
theorem col_calm {n : Net} (hp : netP n) (hq : plainP n) : enS n 2 (legL n 2) = [] := by
  rw [calm_col hp (col_sts hp hq), col_leg];rintro ⟨v, l, e, hl, he, h⟩;have ha : Adj n.es v e.1.toNat := ⟨l, hl, e, he, rfl⟩
  have hb := adj_lt hp ha;exact (col_ok hp hq n.es.length (Nat.le_refl _)).2 v _ hb.1 hb.2 ha h
def MatOk (n : Net) (o : List Int) : Prop := o.length = n.es.length ∧ ∀ (v : Nat) (s : Int), o[v]? = some s → 0 ≤ s ∧ (0 < s → ∃ e, (rowAt n v)[(s - 1).toNat]? = some e ∧ o.getD e.1.toNat 0 = e.2 + 1)
theorem matE_ok {n : Net} (hp : netP n) (hq : plainP n) {o : List Int} (h : MatOk n o) {v i : Nat} {e : Int × Int} (hv : v < n.es.length) (hi : (rowAt n v)[i]? = some e) : MatOk n (matE o ((v : Int), (i : Int), e.1, e.2)) := by
 unfold matE;simp only [Int.toNat_natCast];split
 ·
  rename_i hc;obtain ⟨h0, h1, m, hm, hme⟩ := (hp.2.2.2.2 v _ (rowAt_lt hv)).2 i e hi;have hw := (List.getElem?_eq_some_iff.1 hm).1;have hne : v ≠ e.1.toNat := adj_ne hp hq ⟨_, rowAt_lt hv, e, List.mem_of_getElem? hi, rfl⟩;have hat : ∀ x, ((o.set v ((i : Int) + 1)).set e.1.toNat (e.2 + 1)).getD x 0 = if x = e.1.toNat then e.2 + 1 else if x = v then (i : Int) + 1 else o.getD x 0 := fun x => by
   rw [List.getD_eq_getElem?_getD, List.getElem?_set];by_cases c1 : e.1.toNat = x
   · rw [if_pos c1, if_pos c1.symm, if_pos (by rw [List.length_set, h.1]; omega)]; rfl
   ·
    rw [if_neg c1, if_neg (fun h => c1 h.symm), List.getElem?_set];by_cases c2 : v = x
    · rw [if_pos c2, if_pos c2.symm, if_pos (by rw [h.1]; omega)]; rfl
    · rw [if_neg c2, if_neg (fun h => c2 h.symm), List.getD_eq_getElem?_getD]
  refine ⟨by rw [List.length_set, List.length_set]; exact h.1, fun x s hs => ?_⟩;have hxl := (List.getElem?_eq_some_iff.1 hs).1;rw [List.length_set, List.length_set, h.1] at hxl;have hs2 := getD_at hs;rw [hat] at hs2;by_cases c1 : x = e.1.toNat
  ·
   rw [if_pos c1] at hs2;refine ⟨by omega, fun _ => ⟨((v : Int), (i : Int)), ?_, ?_⟩⟩
   · rw [c1, rowAt_eq hm, ← hs2, show (e.2 + 1 - 1).toNat = e.2.toNat by omega]; exact hme
   · rw [hat];rw [show ((v : Int), (i : Int)).1.toNat = v from Int.toNat_natCast v, if_neg hne, if_pos rfl]
  ·
   rw [if_neg c1] at hs2;by_cases c2 : x = v
   ·
    rw [if_pos c2] at hs2;refine ⟨by omega, fun _ => ⟨e, ?_, ?_⟩⟩
    · rw [c2, ← hs2, show ((i : Int) + 1 - 1).toNat = i by omega]; exact hi
    · rw [hat, if_pos rfl]
   ·
    rw [if_neg c2] at hs2;obtain ⟨s', hs'⟩ : ∃ s', o[x]? = some s' := ⟨_, List.getElem?_eq_getElem (by rw [h.1]; exact hxl)⟩
    rw [getD_at hs'] at hs2;subst hs2;obtain ⟨k1, k2⟩ := h.2 x s' hs';refine ⟨k1, fun k0 => ?_⟩;obtain ⟨f, hf, hf2⟩ := k2 k0;obtain ⟨-, f1, -⟩ := (hp.2.2.2.2 x _ (rowAt_lt hxl)).2 _ f hf;refine ⟨f, hf, ?_⟩;rw [hat, if_neg (fun c => by rw [c, hc.2] at hf2; omega), if_neg (fun c => by rw [c, hc.1] at hf2; omega)];exact hf2
 · exact h
theorem mat_ok {n : Net} (hp : netP n) (hq : plainP n) : ∀ k, MatOk n (matTo (edV n n.es.length) n.es.length k)
  | 0 => by
    unfold matTo;rw [List.take_zero, List.foldl_nil];refine ⟨List.length_replicate, fun v s hs => ?_⟩;rw [List.getElem?_replicate] at hs;split at hs
    · obtain rfl := Option.some.inj hs
      exact ⟨Int.le_refl _, fun h => absurd h (by omega)⟩
    · cases hs
  | k + 1 => by
    cases h : (edV n n.es.length)[k]? with
    | some x =>
      rw [matTo_succ h];obtain ⟨v, i, e, hv, hi, -, rfl⟩ := edV_mem (List.mem_of_getElem? h);exact matE_ok hp hq (mat_ok hp hq k) hv hi
    | none =>
      have : matTo (edV n n.es.length) n.es.length (k + 1) = matTo (edV n n.es.length) n.es.length k := by unfold matTo;rw [List.take_of_length_le (by rw [List.getElem?_eq_none_iff] at h; omega), List.take_of_length_le (by rw [List.getElem?_eq_none_iff] at h; omega)]
      rw [this]; exact mat_ok hp hq k
theorem matE_keep {o : List Int} {x : Edge} (h1 : 0 ≤ x.2.1) (h2 : 0 ≤ x.2.2.2) (h3 : x.1.toNat < o.length) (h4 : x.2.2.1.toNat < o.length) : (∀ v, o.getD v 0 ≠ 0 → (matE o x).getD v 0 ≠ 0) ∧ ¬ ((matE o x).getD x.1.toNat 0 = 0 ∧ (matE o x).getD x.2.2.1.toNat 0 = 0) := by
  unfold matE;split
  · have hat : ∀ v, ((o.set x.1.toNat (x.2.1 + 1)).set x.2.2.1.toNat (x.2.2.2 + 1)).getD v 0 = if x.2.2.1.toNat = v then x.2.2.2 + 1 else if x.1.toNat = v then x.2.1 + 1 else o.getD v 0 := fun v => by
      rw [List.getD_eq_getElem?_getD, List.getElem?_set];by_cases c1 : x.2.2.1.toNat = v
      · rw [if_pos c1, if_pos c1, if_pos (by rw [List.length_set]; exact h4)]; rfl
      · rw [if_neg c1, if_neg c1, List.getElem?_set]
        by_cases c2 : x.1.toNat = v
        · rw [if_pos c2, if_pos c2, if_pos h3]; rfl
        · rw [if_neg c2, if_neg c2, List.getD_eq_getElem?_getD]
    refine ⟨fun v hv => ?_, fun h => ?_⟩
    · rw [hat]
      split
      · omega
      · split
        · omega
        · exact hv
    · have := h.2
      rw [hat, if_pos rfl] at this;omega
  · rename_i hc
    exact ⟨fun v hv => hv, hc⟩
theorem mat_max {n : Net} (hp : netP n) : ∀ k, k ≤ (edV n n.es.length).length → ∀ x ∈ (edV n n.es.length).take k, ¬ ((matTo (edV n n.es.length) n.es.length k).getD x.1.toNat 0 = 0 ∧ (matTo (edV n n.es.length) n.es.length k).getD x.2.2.1.toNat 0 = 0)
  | 0, _ => fun x hx => by rw [List.take_zero] at hx; cases hx
  | k + 1, hk => fun x hx => by
    obtain ⟨y, hy⟩ : ∃ y, (edV n n.es.length)[k]? = some y := ⟨_, List.getElem?_eq_getElem (by omega)⟩
    obtain ⟨⟨-, g1⟩, ⟨g2, -⟩, ⟨-, g3⟩, g4, -⟩ := edgeOk hp (List.mem_of_getElem? hy);have hke := matE_keep (o := matTo (edV n n.es.length) n.es.length k) g2 g4 (by rw [matTo_len]; exact g1) (by rw [matTo_len]; exact g3);rw [matTo_succ hy];obtain ⟨hk', rfl⟩ := List.getElem?_eq_some_iff.1 hy;rw [List.take_succ_eq_append_getElem hk'] at hx;rcases List.mem_append.1 hx with hx | hx
    · have h1 := mat_max hp k (by omega) x hx
      intro h2;refine h1 ⟨?_, ?_⟩
      · exact Classical.byContradiction fun h3 => hke.1 _ h3 h2.1
      · exact Classical.byContradiction fun h3 => hke.1 _ h3 h2.2
    · rw [List.mem_singleton.1 hx]; exact hke.2
theorem edI_all {v : Nat} {l : Ends} : ∀ {j i : Nat} {e : Int × Int}, i < j → l[i]? = some e → firstE v i e → ((v : Int), (i : Int), e.1, e.2) ∈ edI v l j
  | 0, i, e, h, _, _ => absurd h (by omega)
  | j + 1, i, e, h, he, hf => by
    rw [edI];by_cases c : i = j
    · subst c
      rw [he];refine List.mem_append_right _ ?_;show _ ∈ (if firstB v i e = true then _ else _);rw [if_pos (show firstB v i e = true from propB_t hf)];exact List.mem_singleton.2 rfl
    · exact List.mem_append_left _ (edI_all (by omega) he hf)
theorem edV_all {n : Net} : ∀ {k v i : Nat} {e : Int × Int}, v < k → (rowAt n v)[i]? = some e → firstE v i e → ((v : Int), (i : Int), e.1, e.2) ∈ edV n k
  | 0, v, i, e, h, _, _ => absurd h (by omega)
  | k + 1, v, i, e, h, he, hf => by
    rw [edV];by_cases c : v = k
    · subst c
      exact List.mem_append_right _ (edI_all (List.getElem?_eq_some_iff.1 he).1 he hf)
    · exact List.mem_append_left _ (edV_all (by omega) he hf)
theorem mat_leg (n : Net) : legL n 4 = matTo (edV n n.es.length) n.es.length (edV n n.es.length).length := by unfold legL;rw [if_neg (by omega), if_neg (by omega), if_neg (by omega), if_pos rfl]
theorem mat_sts {n : Net} (hp : netP n) (hq : plainP n) : Sts (cnts n 4) (legL n 4) := by
  refine ⟨by rw [cnts_len, legL_len], fun v k s hk hs => ?_⟩;have hv := (List.getElem?_eq_some_iff.1 hs).1;rw [legL_len] at hv;rw [mat_leg] at hs;obtain ⟨h1, h2⟩ := (mat_ok hp hq (edV n n.es.length).length).2 v s hs;unfold cnts degs at hk;rw [if_neg (by omega), if_neg (by omega), if_pos rfl, List.getElem?_map, List.getElem?_map, rowAt_lt hv] at hk;obtain rfl := Option.some.inj hk;refine ⟨h1, ?_⟩;by_cases h0 : 0 < s
  · obtain ⟨e, he, -⟩ := h2 h0
    have := (List.getElem?_eq_some_iff.1 he).1;show s < ((rowAt n v).length : Int) + 1;omega
  · show s < ((rowAt n v).length : Int) + 1
    omega
theorem mat_calm {n : Net} (hp : netP n) (hq : plainP n) : enS n 4 (legL n 4) = [] := by
  have hm : mutP n (legL n 4) := fun v s hs h0 => by have hs' := hs;rw [mat_leg] at hs';obtain ⟨e, he, h1⟩ := ((mat_ok hp hq (edV n n.es.length).length).2 v s hs').2 h0;have : (n.es.getD v []).getD (s - 1).toNat (0, 0) = e := getDa he;rw [this, mat_leg];unfold pointsTo;rw [h1];simp
  rw [match_legal hp (mat_sts hp hq) hm];rintro ⟨v, l, e, hl, he, h1, h2⟩;replace h1 : (legL n 4).getD v 0 = 0 := h1;replace h2 : (legL n 4).getD e.1.toNat 0 = 0 := h2;rw [mat_leg] at h1 h2;have hx := mat_max hp (edV n n.es.length).length (Nat.le_refl _);rw [List.take_length] at hx;obtain ⟨i, hi⟩ := List.getElem?_of_mem he;have hv := (List.getElem?_eq_some_iff.1 hl).1;obtain rfl := rowAt_eq hl;obtain ⟨h0, h3, m, hm1, hm2⟩ := (hp.2.2.2.2 v _ hl).2 i e hi;have hw := (List.getElem?_eq_some_iff.1 hm1).1;by_cases hf : firstE v i e
  · exact hx _ (edV_all hv hi hf) ⟨by rw [show (((v : Int), (i : Int), e.1, e.2) : Edge).1.toNat = v from Int.toNat_natCast v]; exact h1, h2⟩
  · obtain rfl := rowAt_eq hm1
    refine hx _ (edV_all hw hm2 ?_) ⟨by rw [show (((e.1.toNat : Int), (e.2.toNat : Int), (v : Int), (i : Int)) : Edge).1.toNat = e.1.toNat from Int.toNat_natCast _]; exact h2, by rw [show (((e.1.toNat : Int), (e.2.toNat : Int), (v : Int), (i : Int)) : Edge).2.2.1.toNat = v from Int.toNat_natCast v]; exact h1⟩;unfold firstE at hf ⊢;simp only;omega
theorem far_sts {n : Net} (hp : netP n) : Sts (cnts n 1) (legL n 1) := by
  refine cnts_rep (K := (n.es.length : Int) + 1) (by unfold cnts; rw [if_neg (by omega), if_neg (by omega), if_neg (by omega)]) (legL_len n 1) fun x hx => ?_
  have hl : legL n 1 = farT n := by unfold legL; rw [if_pos rfl]
  rw [hl] at hx;unfold farT at hx;obtain ⟨v, hv, rfl⟩ := List.mem_map.1 hx;have h1 := (farV_ex hp (List.mem_range.1 hv)).1;omega
theorem zero_leg (n : Net) : legL n 5 = List.replicate n.es.length 0 := by unfold legL;rw [if_neg (by omega), if_neg (by omega), if_neg (by omega), if_neg (by omega)]
theorem zero_sts (n : Net) : Sts (cnts n 5) (legL n 5) := by
  refine cnts_rep (K := (n.es.length : Int) + 1) (by unfold cnts; rw [if_neg (by omega), if_neg (by omega), if_neg (by omega)]) (legL_len n 5) fun x hx => ?_
  rw [zero_leg] at hx;rw [List.eq_of_mem_replicate hx];omega
theorem rule_five {n : Net} {r : Int} (ha : askP n r) : r = 1 ∨ r = 2 ∨ r = 3 ∨ r = 4 ∨ r = 5 := by have := ha.2.1;omega
theorem leg_sts {n : Net} {r : Int} (ha : askP n r) : Sts (cnts n r) (legL n r) := by
  rcases rule_five ha with rfl | rfl | rfl | rfl | rfl
  · exact far_sts ha.1
  · exact col_sts ha.1 ha.2.2.1
  · exact set_sts n
  · exact mat_sts ha.1 ha.2.2.1
  · exact zero_sts n
theorem leg_calm {n : Net} {r : Int} (ha : askP n r) (hr : r ≠ 5) : enS n r (legL n r) = [] := by
  rcases rule_five ha with rfl | rfl | rfl | rfl | rfl
  · have hl : legL n 1 = farT n := by unfold legL; rw [if_pos rfl]
    rw [hl]; exact far_calm ha.1
  · exact col_calm ha.1 ha.2.2.1
  · exact set_calm ha.1 ha.2.2.1
  · exact mat_calm ha.1 ha.2.2.1
  · exact absurd rfl hr
theorem leg_ok {n : Net} {r : Int} (ha : askP n r) : legP n r (legL n r) ∧ (enS n r (legL n r) = [] ↔ r ≠ 5) := by
  by_cases hr : r = 5
  · subst hr
    have h1 := tok_zero ha;rw [← zero_leg] at h1;refine ⟨by unfold legP; rw [if_neg (by omega), if_neg (by omega), if_pos rfl]; exact h1, fun h => ?_, fun h => absurd rfl h⟩;rw [h] at h1; cases h1
  · have h1 := leg_calm ha hr
    exact ⟨(legal_calm ha hr (leg_sts ha)).2 h1, fun _ => hr, fun _ => h1⟩
end Go.Proofs.YtdghoienjegffaaGreat
