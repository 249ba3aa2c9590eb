/-
  Small lemmas and contracts that the texts of this claim share. No condition.
-/
import Derived.Test.YtdghoienjegffaaGreatRDrawAtG
namespace Go.Proofs.YtdghoienjegffaaGreat
open Go.RowKit
set_option linter.all false
theorem leastFree_ex (xs : List Int) : ∃ c, LeastFree xs c := by
  have h : ∀ k : Nat, (∀ j, j < k → (j : Int) ∈ xs) ∨ ∃ c, LeastFree xs c := fun k => by
    induction k with
    | zero => exact .inl fun j hj => absurd hj (by omega)
    | succ k ih =>
      rcases ih with ih | ih
      · by_cases hk : (k : Int) ∈ xs
        · refine .inl fun j hj => ?_
          by_cases e : j = k
          · rw [e]; exact hk
          · exact ih j (by omega)
        · exact .inr ⟨k, ih, hk⟩
      · exact .inr ih
  rcases h (xs.length + 1) with h | h
  · have := pigeon _ xs h; omega
  · exact h
theorem leastN_free (xs : List Int) : LeastFree xs (leastN xs) := by obtain ⟨c, hc⟩ := leastFree_ex xs;rw [leastN_eq hc];exact hc
theorem sts_cell {n : Net} {r : Int} {ss : List Int} (hS : Sts (cnts n r) ss) {v : Nat} (hv : v < n.es.length) : ss.length = n.es.length ∧ ∃ s, ss[v]? = some s ∧ 0 ≤ s := by
  have hl : ss.length = n.es.length := by rw [← hS.1, cnts_len]
  obtain ⟨s, hs⟩ : ∃ s, ss[v]? = some s := ⟨_, List.getElem?_eq_getElem (by omega)⟩
  obtain ⟨k, hk⟩ : ∃ k, (cnts n r)[v]? = some k := ⟨_, List.getElem?_eq_getElem (by rw [cnts_len]; exact hv)⟩
  exact ⟨hl, s, hs, (hS.2 v k s hk hs).1⟩
theorem sts_len {n : Net} {r : Int} {ss : List Int} (hS : Sts (cnts n r) ss) : ss.length = n.es.length := by rw [← hS.1, cnts_len]
theorem sts_nn {n : Net} {r : Int} {ss : List Int} (hS : Sts (cnts n r) ss) : ∀ x ∈ ss, 0 ≤ x := fun x hx => by obtain ⟨v, hv⟩ := List.getElem?_of_mem hx;have hvl := (List.getElem?_eq_some_iff.1 hv).1;have hl := sts_len hS;obtain ⟨-, s, hs, h0⟩ := sts_cell hS (v := v) (by omega);obtain rfl := Option.some.inj (hv.symm.trans hs);exact h0
theorem rounds_calm {n : Net} {r : Int} {ss : List Int} (h : enS n r ss = []) (t : Nat) : roundsT n r t ss = ss := by have h1 := roundsT_calm (n := n) (r := r) (ss := ss) (j := 0) h t;rw [Nat.zero_add] at h1;exact h1
theorem farT_nn {n : Net} (h : netP n) : ∀ x ∈ farT n, 0 ≤ x := fun x hx => by unfold farT at hx;obtain ⟨v, hv, rfl⟩ := List.mem_map.1 hx;exact (farV_ex h (List.mem_range.1 hv)).1.1
theorem farT_len' (n : Net) : (farT n).length = n.es.length := by simp [farT]
theorem far_calm {n : Net} (h : netP n) : enS n 1 (farT n) = [] := by
  have h1 := tree_conv h (farT_len' n) (farT_nn h) (Nat.le_refl (n.es.length + 1));have h2 := tree_conv h (farT_len' n) (farT_nn h) (Nat.le_succ (n.es.length + 1));have h3 : roundT n 1 (farT n) = farT n := by have e : roundsT n 1 (n.es.length + 1 + 1) (farT n) = roundT n 1 (roundsT n 1 (n.es.length + 1) (farT n)) := rfl;rw [h1] at e;rw [← e]; exact h2
  rw [enS_nil];intro v hv;rw [← roundT_at n 1 (farT n) hv, h3]
theorem calm_tree {n : Net} {ss : List Int} (h : netP n) (hS : Sts (cnts n 1) ss) : enS n 1 ss = [] ↔ ss = farT n := by
  constructor
  · intro hc
    have h1 := tree_conv h (sts_len hS) (sts_nn hS) (Nat.le_refl (n.es.length + 1));rw [rounds_calm hc] at h1;exact h1
  · rintro rfl
    exact far_calm h
theorem next_col {n : Net} {ss : List Int} {v : Nat} {l : List (Int × Int)} {s : Int} (hl : n.es[v]? = some l) (hs : ss[v]? = some s) : nextS n 2 ss v = if s ∈ nearSt l ss then (leastN (nearSt l ss) : Int) else s := by rw [nextS_at hl hs];unfold nextAt;rw [if_neg (by omega), if_pos rfl]
theorem calm_col {n : Net} {ss : List Int} (h : netP n) (hS : Sts (cnts n 2) ss) : enS n 2 ss = [] ↔ ¬ clashP n ss := by
  have hl := sts_len hS;rw [enS_nil];constructor
  · rintro hc ⟨v, l, e, hv, he, hq⟩
    have hvl := (List.getElem?_eq_some_iff.1 hv).1;obtain ⟨-, s, hs, -⟩ := sts_cell hS hvl;have h1 := hc v (by omega);rw [next_col hv hs, getD_at hs] at h1;have hm : s ∈ nearSt l ss := nearSt_mem.2 ⟨e, he, by rw [← hq, getD_at hs]⟩;rw [if_pos hm] at h1;have h2 := (leastN_free (nearSt l ss)).2;rw [h1] at h2;exact h2 hm
  · intro hc v hv
    obtain ⟨l, hl'⟩ : ∃ l, n.es[v]? = some l := ⟨_, List.getElem?_eq_getElem (by omega)⟩
    obtain ⟨-, s, hs, -⟩ := sts_cell hS (v := v) (by omega);rw [next_col hl' hs, getD_at hs, if_neg];intro hm;obtain ⟨e, he, hq⟩ := nearSt_mem.1 hm;exact hc ⟨v, l, e, hl', he, by show ss.getD v 0 = ss.getD e.1.toNat 0; rw [hq, getD_at hs]⟩
theorem next_mat {n : Net} {ss : List Int} {v : Nat} {l : List (Int × Int)} {s : Int} (hl : n.es[v]? = some l) (hs : ss[v]? = some s) : nextS n 4 ss v = matchS l ss s := by rw [nextS_at hl hs];unfold nextAt;rw [if_neg (by omega), if_neg (by omega), if_neg (by omega), if_pos rfl]
theorem portI_som {α : Type} {p : α → Bool} {l : List α} {e : α} (he : e ∈ l) (h : p e = true) : 0 ≤ portI p l := by
  unfold portI;cases hf : l.findIdx? p with
  | some i => show (0 : Int) ≤ (i : Int); omega
  | none =>
    have := List.findIdx?_eq_none_iff.1 hf e he;rw [h] at this;cases this
theorem calm_mut {n : Net} {ss : List Int} (h : netP n) (hS : Sts (cnts n 4) ss) (hc : enS n 4 ss = []) : mutP n ss := by
 have hln := sts_len hS;rw [enS_nil] at hc;intro v s hs h0;have hvl := (List.getElem?_eq_some_iff.1 hs).1;obtain ⟨l, hl⟩ : ∃ l, n.es[v]? = some l := ⟨_, List.getElem?_eq_getElem (by omega)⟩
 have hcn : (cnts n 4)[v]? = some ((l.length : Int) + 1) := by unfold cnts degs;rw [if_neg (by omega), if_neg (by omega), if_pos rfl, List.getElem?_map, List.getElem?_map, hl];rfl
 have hsl := (hS.2 v _ s hcn hs).2;obtain ⟨e, he⟩ : ∃ e, l[(s - 1).toNat]? = some e := ⟨_, List.getElem?_eq_getElem (by omega)⟩
 have h1 := hc v hvl;rw [next_mat hl hs, getD_at hs] at h1;unfold matchS at h1;rw [if_pos h0, getDa he] at h1;rw [getDa hl, getDa he];cases hp : pointsTo ss e with
 | true => rfl
 | false =>
  rw [hp, Bool.or_false] at h1;cases hf : isFree ss e with
  | false => rw [hf] at h1; simp at h1; omega
  | true =>
   obtain ⟨ha, hb, m, hm, hme⟩ := (h.2.2.2.2 v l hl).2 _ e he;have hul := (List.getElem?_eq_some_iff.1 hm).1;obtain ⟨-, t, ht, -⟩ := sts_cell hS hul;have ht0 : t = 0 := by unfold isFree at hf;rw [getD_at ht] at hf;simpa using hf
   subst ht0;have h2 := hc e.1.toNat (by omega);rw [next_mat hm ht, getD_at ht] at h2;unfold matchS at h2;have hpo : pointsTo ss ((v : Int), (((s - 1).toNat : Nat) : Int)) = true := by unfold pointsTo;rw [show ((v : Int), (((s - 1).toNat : Nat) : Int)).1.toNat = v by simp, getD_at hs];simp only [beq_iff_eq];omega
   have h3 := portI_som (List.mem_of_getElem? hme) hpo;rw [if_neg (by omega), if_pos h3] at h2;omega
theorem legal_calm {n : Net} {r : Int} {ss : List Int} (ha : askP n r) (hr : r ≠ 5) (hS : Sts (cnts n r) ss) : legP n r ss ↔ enS n r ss = [] := by
  have hp := ha.1;have h1 := ha.2.1;unfold legP;by_cases r1 : r = 1
  · subst r1; rw [if_pos rfl]; exact (calm_tree hp hS).symm
  · rw [if_neg r1]
    by_cases r2 : r = 2
    · subst r2; rw [if_pos rfl]; exact (calm_col hp hS).symm
    · rw [if_neg r2, if_neg hr]
      refine ⟨fun h => h.1, fun h => ⟨h, fun h4 => ?_⟩⟩;subst h4;exact calm_mut hp hS h
end Go.Proofs.YtdghoienjegffaaGreat
namespace Go.Proofs.YtdghoienjegffaaGreat
open Go.RowKit
set_option linter.all false
theorem pigeonF : ∀ (N : Nat) (f : Nat → Nat), (∀ i, i ≤ N → f i < N) → ∃ i j, i < j ∧ j ≤ N ∧ f i = f j
  | 0, f, h => absurd (h 0 (Nat.le_refl _)) (by omega)
  | k + 1, f, h => by
    by_cases hx : ∃ i, i ≤ k ∧ f i = f (k + 1)
    · obtain ⟨i, hi, e⟩ := hx
      exact ⟨i, k + 1, by omega, Nat.le_refl _, e⟩
    · have hn : ∀ i, i ≤ k → f i ≠ f (k + 1) := fun i hi e => hx ⟨i, hi, e⟩
      obtain ⟨i, j, h1, h2, h3⟩ := pigeonF k (fun i => if f i = k then f (k + 1) else f i) fun i hi => by have a := h i (by omega);have b := h (k + 1) (Nat.le_refl _);have c := hn i hi;show (if f i = k then f (k + 1) else f i) < k;split <;> omega
      refine ⟨i, j, h1, by omega, ?_⟩;have a := hn i (by omega);have b := hn j h2;replace h3 : (if f i = k then f (k + 1) else f i) = if f j = k then f (k + 1) else f j := h3;split at h3 <;> split at h3 <;> omega
def itF (f : Nat → Nat) : Nat → Nat → Nat
  | 0, v => v
  | k + 1, v => f (itF f k v)
theorem itF_back {f : Nat → Nat} {N : Nat} (hf : ∀ v, v < N → f v < N) (hi : ∀ a b, a < N → b < N → f a = f b → a = b) {v : Nat} (hv : v < N) : (∀ k, itF f k v < N) ∧ ∃ m, itF f (m + 1) v = v := by
  have hb : ∀ k, itF f k v < N := fun k => by
    induction k with
    | zero => exact hv
    | succ k ih => exact hf _ ih
  refine ⟨hb, ?_⟩;obtain ⟨i, j, h1, -, h2⟩ := pigeonF N (fun k => itF f k v) fun k _ => hb k
  have key : ∀ i d, itF f i v = itF f (i + d) v → itF f d v = v := fun i => by
    induction i with
    | zero => intro d h; rw [Nat.zero_add] at h; exact h.symm
    | succ i ih =>
      intro d h;refine ih d (hi _ _ (hb _) (hb _) ?_);rw [show i + 1 + d = (i + d) + 1 by omega] at h;exact h
  have h3 := key i (j - i) (by rw [show i + (j - i) = j by omega]; exact h2);exact ⟨j - i - 1, by rw [show j - i - 1 + 1 = j - i by omega]; exact h3⟩
theorem count_pos {l : List Int} (h : onesN l = 1) : ∃ b, l.getD b 0 = 1 := by
  have h1 : 0 < l.countP (· == 1) := by unfold onesN at h; omega
  obtain ⟨x, hx, hb⟩ := List.countP_pos_iff.1 h1;obtain ⟨b, hb'⟩ := List.getElem?_of_mem hx;exact ⟨b, by rw [List.getD_eq_getElem?_getD, hb']; simpa using hb⟩
theorem count_two : ∀ {l : List Int} {i j : Nat}, i < j → l.getD i 0 = 1 → l.getD j 0 = 1 → 2 ≤ onesN l
  | [], i, j, _, h, _ => by simp at h
  | x :: r, 0, j + 1, _, h, h' => by
    have hx : x = 1 := by simpa using h
    have h2 : r.getD j 0 = 1 := by simpa using h'
    have h3 : 0 < r.countP (· == 1) := List.countP_pos_iff.2 (by
      by_cases hj : j < r.length
      · exact ⟨r[j], List.getElem_mem hj, by rw [List.getD_eq_getElem?_getD, List.getElem?_eq_getElem hj] at h2; simpa using h2⟩
      · rw [List.getD_eq_getElem?_getD, List.getElem?_eq_none (by omega)] at h2; simp at h2)
    unfold onesN;rw [List.countP_cons, if_pos (by rw [hx]; rfl)];omega
  | x :: r, i + 1, j + 1, h, h1, h2 => by have := count_two (l := r) (i := i) (j := j) (by omega) (by simpa using h1) (by simpa using h2);unfold onesN at this ⊢;rw [List.countP_cons];omega
theorem ones_eq {l : List Int} {i j : Nat} (h : onesN l = 1) (hi : l.getD i 0 = 1) (hj : l.getD j 0 = 1) : i = j := by
  rcases Nat.lt_trichotomy i j with h1 | h1 | h1
  · have := count_two h1 hi hj; omega
  · exact h1
  · have := count_two h1 hj hi; omega
def sucN (n : Net) (v : Nat) : Nat := (((n.es.getD v []).getD 0 (0, 0)).1).toNat
def preN (n : Net) (v : Nat) : Nat := (((n.es.getD v []).getD 1 (0, 0)).1).toNat
section
variable {n : Net} (hp : netP n) (hr : ringP n)
include hp hr
theorem ring_suc {v : Nat} (hv : v < n.es.length) : sucN n v < n.es.length ∧ preN n (sucN n v) = v := by
  obtain ⟨l, hl⟩ : ∃ l, n.es[v]? = some l := ⟨_, List.getElem?_eq_getElem hv⟩
  obtain ⟨h2, e, he, he2⟩ := hr.2.2.2 l (List.mem_of_getElem? hl);obtain ⟨ha, hb, m, hm, hme⟩ := (hp.2.2.2.2 v l hl).2 0 e he;have e1 : sucN n v = e.1.toNat := by unfold sucN; rw [getDa hl, getDa he]
  rw [e1];refine ⟨(List.getElem?_eq_some_iff.1 hm).1, ?_⟩;unfold preN;rw [he2] at hme;rw [getDa hm, getDa (show m[1]? = some ((v : Int), ((0 : Nat) : Int)) from hme)];exact Int.toNat_natCast v
theorem ring_inj : ∀ a b, a < n.es.length → b < n.es.length → sucN n a = sucN n b → a = b := fun a b ha hb h => by have h1 := (ring_suc hp hr ha).2;have h2 := (ring_suc hp hr hb).2;rw [h] at h1;exact h1.symm.trans h2
theorem ring_pre {v : Nat} (hv : v < n.es.length) : preN n v < n.es.length ∧ sucN n (preN n v) = v := by obtain ⟨hb, m, hm⟩ := itF_back (f := sucN n) (fun v hv => (ring_suc hp hr hv).1) (ring_inj hp hr) hv;have h1 : sucN n (itF (sucN n) m v) = v := hm;have h2 := (ring_suc hp hr (hb m)).2;rw [h1] at h2;rw [h2];exact ⟨hb m, h1⟩
theorem next_tok {ss : List Int} {v : Nat} (hv : v < n.es.length) (hl : ss.length = n.es.length) : nextS n 5 ss v = if n.ins.getD v 0 ≠ 1 then ss.getD (preN n v) 0 else if ss.getD (preN n v) 0 = ss.getD v 0 then (ss.getD v 0 + 1).tmod (n.es.length + 1) else ss.getD v 0 := by
  obtain ⟨l, hl'⟩ : ∃ l, n.es[v]? = some l := ⟨_, List.getElem?_eq_getElem hv⟩
  obtain ⟨s, hs⟩ : ∃ s, ss[v]? = some s := ⟨_, List.getElem?_eq_getElem (by omega)⟩
  rw [nextS_at hl' hs, getD_at hs];unfold nextAt tokenS preN;rw [if_neg (by omega), if_neg (by omega), if_neg (by omega), if_neg (by omega), getDa hl']
theorem tok_root (hS : ∃ s : Int, True) : ∃ b, b < n.es.length ∧ n.ins.getD b 0 = 1 := by obtain ⟨b, hb⟩ := count_pos hr.2.2.1;refine ⟨b, ?_, hb⟩;have := (root_in hp hb).1;exact this
theorem tok_turn {s : Int} (h0 : 0 ≤ s) (h1 : s ≤ n.es.length) : (s + 1).tmod (n.es.length + 1) ≠ s := by
  have h2 := hr.1;obtain ⟨a, rfl⟩ := Int.eq_ofNat_of_zero_le h0;rw [show ((a : Int) + 1) = ((a + 1 : Nat) : Int) by omega, show ((n.es.length : Int) + 1) = ((n.es.length + 1 : Nat) : Int) by omega, ← Int.ofNat_tmod];intro h;have h3 : (a + 1) % (n.es.length + 1) = a := by exact_mod_cast h
  by_cases ha : a = n.es.length
  · rw [ha, Nat.mod_self] at h3; omega
  · rw [Nat.mod_eq_of_lt (by omega)] at h3; omega
theorem tok_some {ss : List Int} (hS : Sts (cnts n 5) ss) : enS n 5 ss ≠ [] := fun hc => by
  have hl := sts_len hS;rw [enS_nil] at hc;obtain ⟨b, hb, hroot⟩ := tok_root hp hr ⟨0, trivial⟩;obtain ⟨hbd, m, hm⟩ := itF_back (f := sucN n) (fun v hv => (ring_suc hp hr hv).1) (ring_inj hp hr) hb;have hall : ∀ k, ss.getD (itF (sucN n) k b) 0 = ss.getD b 0 := fun k => by
    induction k with
    | zero => rfl
    | succ k ih =>
      by_cases e : itF (sucN n) (k + 1) b = b
      · rw [e]
      · have h1 := hc _ (by rw [hl]; exact hbd (k + 1))
        rw [next_tok hp hr (hbd _) hl, if_pos (fun h => e (ones_eq hr.2.2.1 h hroot))] at h1;have h2 : preN n (itF (sucN n) (k + 1) b) = itF (sucN n) k b := (ring_suc hp hr (hbd k)).2;rw [h2] at h1;rw [← h1]; exact ih
  have h3 : preN n b = itF (sucN n) m b := by have h4 := (ring_suc hp hr (hbd m)).2;rw [show sucN n (itF (sucN n) m b) = b from hm] at h4;exact h4
  have h5 := hc b (by omega);rw [next_tok hp hr hb hl, if_neg (fun h => h hroot), h3, hall m, if_pos rfl] at h5;obtain ⟨-, s, hs, h0⟩ := sts_cell hS hb;have h6 : s < n.es.length + 1 := by refine (hS.2 b ((n.es.length : Int) + 1) s ?_ hs).2;unfold cnts;rw [if_neg (by omega), if_neg (by omega), if_neg (by omega), List.getElem?_replicate, if_pos hb]
  rw [getD_at hs] at h5;exact tok_turn hp hr h0 (by omega) h5
end
theorem all_one {l : List Nat} {b : Nat} (hn : l.Nodup) (h : ∀ x ∈ l, x = b) : l.length ≤ 1 := by
  match l, hn, h with
  | [], _, _ => exact Nat.zero_le _
  | [x], _, _ => exact Nat.le_refl _
  | x :: y :: r, hn, h =>
    have h1 := h x (by simp);have h2 := h y (by simp);simp only [List.nodup_cons, List.mem_cons] at hn;exact absurd (.inl (h1.trans h2.symm)) hn.1
theorem enS_one {n : Net} {r : Int} {ss : List Int} {b : Nat} (h : ∀ v, v < ss.length → v ≠ b → nextS n r ss v = ss.getD v 0) (hne : enS n r ss ≠ []) : (enS n r ss).length = 1 := by
  have h1 : (enS n r ss).length ≤ 1 := by
    unfold enS;rw [List.length_map];refine all_one (b := b) (List.Pairwise.filter _ List.nodup_range) fun x hx => ?_
    have hx1 := List.mem_range.1 (List.mem_filter.1 hx).1;have hx2 := (List.mem_filter.1 hx).2;apply Classical.byContradiction;intro hb;have := h x hx1 hb;simp [this] at hx2
  have h2 : 0 < (enS n r ss).length := List.length_pos_iff.2 hne;omega
theorem enS_two {n : Net} {r : Int} {ss : List Int} (h : (enS n r ss).length = 1) {v : Int} (hv : v ∈ enS n r ss) {x : Nat} (hx : x < ss.length) (hne : x ≠ v.toNat) : nextS n r ss x = ss.getD x 0 := by apply Classical.byContradiction;intro hq;have hm : (x : Int) ∈ enS n r ss := List.mem_map.2 ⟨x, List.mem_filter.2 ⟨List.mem_range.2 hx, by simpa using hq⟩, rfl⟩;obtain ⟨y, hy⟩ := List.length_eq_one_iff.1 h;rw [hy] at hv hm;have h1 := List.mem_singleton.1 hv;have h2 := List.mem_singleton.1 hm;omega
theorem tok_move {n : Net} {ss : List Int} (ha : askP n 5) (hS : Sts (cnts n 5) ss) (h1 : (enS n 5 ss).length = 1) {v : Int} (hv : v ∈ enS n 5 ss) : (enS n 5 (moveS n 5 ss [v])).length = 1 := by
 have hp := ha.1;have hr := ha.2.2.2 rfl;have hl := sts_len hS;obtain ⟨w, hw, rfl⟩ := List.mem_map.1 hv;have hwl : w < n.es.length := by have := List.mem_range.1 (List.mem_filter.1 hw).1; omega
 have hwe : nextS n 5 ss w ≠ ss.getD w 0 := by simpa using (List.mem_filter.1 hw).2
 have hS' := moveS_sts ha hS [(w : Int)] (fun x hx => by rw [List.mem_singleton.1 hx]; omega);have hl' := sts_len hS';have e0 : moveS n 5 ss [(w : Int)] = ss.set w (nextS n 5 ss w) := by unfold moveS;simp
 have hat : ∀ x, (moveS n 5 ss [(w : Int)]).getD x 0 = if x = w then nextS n 5 ss w else ss.getD x 0 := fun x => by
  rw [e0, List.getD_eq_getElem?_getD, List.getElem?_set];by_cases e : w = x
  · rw [if_pos e, if_pos e.symm, if_pos (by omega)]; rfl
  · rw [if_neg e, if_neg (fun h => e h.symm), List.getD_eq_getElem?_getD]
 have hpw := (ring_pre hp hr hwl)
 have hpne : preN n w ≠ w := by
  intro e;obtain ⟨l, hl2⟩ : ∃ l, n.es[w]? = some l := ⟨_, List.getElem?_eq_getElem hwl⟩
  obtain ⟨h2, -⟩ := hr.2.2.2 l (List.mem_of_getElem? hl2);obtain ⟨f, hf⟩ : ∃ f, l[1]? = some f := ⟨_, List.getElem?_eq_getElem (by omega)⟩
  have h3 := ha.2.2.1 w l hl2 f (List.mem_of_getElem? hf);have h4 : preN n w = f.1.toNat := by unfold preN; rw [getDa hl2, getDa hf]
  have h5 := (hp.endsIn l (List.mem_of_getElem? hl2) f (List.mem_of_getElem? hf)).1;omega
 refine enS_one (b := sucN n w) (fun x hx hne => ?_) (tok_some hp hr hS');rw [hl'] at hx;rw [next_tok hp hr hx hl', hat, hat];have hnw := next_tok hp hr hwl hl;by_cases hxw : x = w
 ·
  subst hxw;rw [if_neg hpne, if_pos rfl];by_cases hro : n.ins.getD x 0 ≠ 1
  · rw [if_pos hro];rw [if_pos hro] at hnw;exact hnw.symm
  ·
   rw [if_neg hro];rw [if_neg hro] at hnw;by_cases hb : ss.getD (preN n x) 0 = ss.getD x 0
   · rw [if_pos hb] at hnw;rw [if_neg (fun e => hwe (by rw [← hb, e]))]
   · rw [if_neg hb] at hnw;exact absurd hnw hwe
 ·
  have hpx : preN n x ≠ w := fun e => hne (by rw [← e]; exact (ring_pre hp hr hx).2.symm)
  rw [if_neg hpx, if_neg hxw];have h2 := enS_two h1 hv (x := x) (by omega) (by simpa using hxw);rw [next_tok hp hr hx hl] at h2;exact h2
theorem tok_zero {n : Net} (ha : askP n 5) : (enS n 5 (List.replicate n.es.length 0)).length = 1 := by
  have hp := ha.1;have hr := ha.2.2.2 rfl;obtain ⟨b, hb, hroot⟩ := tok_root hp hr ⟨0, trivial⟩;have hl : (List.replicate n.es.length (0 : Int)).length = n.es.length := List.length_replicate;have hz : ∀ x, (List.replicate n.es.length (0 : Int)).getD x 0 = 0 := fun x => by rw [List.getD_eq_getElem?_getD, List.getElem?_replicate];split <;> rfl
  have hS : Sts (cnts n 5) (List.replicate n.es.length 0) := by
    refine ⟨by rw [cnts_len, hl], fun v k s hk hs => ?_⟩;have hv : v < n.es.length := by have := (List.getElem?_eq_some_iff.1 hs).1; omega
    unfold cnts at hk;rw [if_neg (by omega), if_neg (by omega), if_neg (by omega), List.getElem?_replicate, if_pos hv] at hk;rw [List.getElem?_replicate, if_pos hv] at hs;obtain rfl := Option.some.inj hs;obtain rfl := Option.some.inj hk;omega
  refine enS_one (b := b) (fun x hx hne => ?_) (tok_some hp hr hS);rw [hl] at hx;rw [next_tok hp hr hx hl, if_pos (fun h => hne (ones_eq hr.2.2.1 h hroot)), hz, hz]
end Go.Proofs.YtdghoienjegffaaGreat
namespace Go.Proofs.YtdghoienjegffaaGreat
open Go.RowKit
set_option linter.all false
noncomputable def pickK (n : Net) (r : Int) (ps : List Int) (j : Nat) (ss : List Int) : Nat := (ps.getD (j % ps.length) 0).toNat % (enS n r ss).length
noncomputable def pickV (n : Net) (r : Int) (ps : List Int) (j : Nat) (ss : List Int) : Int := (enS n r ss).getD (pickK n r ps j ss) 0
noncomputable def cenS (n : Net) (r : Int) (ps ss : List Int) : Nat → List Int
  | 0 => ss
  | j + 1 => @ite (List Int) (enS n r (cenS n r ps ss j) = []) (Classical.propDecidable _) (cenS n r ps ss j) (moveS n r (cenS n r ps ss j) [pickV n r ps j (cenS n r ps ss j)])
noncomputable def cenN (n : Net) (r : Int) (ps ss : List Int) : Nat → Nat → Nat
  | 0, j => j
  | d + 1, j => @ite Nat (enS n r (cenS n r ps ss j) = []) (Classical.propDecidable _) j (cenN n r ps ss d (j + 1))
noncomputable def cenB (n : Net) (r : Int) (ss ps : List Int) (most : Int) : Bool := sitB n r ss && (inB ps.length 1 100 && (inB most 0 2000 && ps.all fun x => decide (0 ≤ x)))
section
variable {n : Net} {r : Int} {ps ss : List Int}
theorem cenS_step {j : Nat} (h : ¬ enS n r (cenS n r ps ss j) = []) : cenS n r ps ss (j + 1) = moveS n r (cenS n r ps ss j) [pickV n r ps j (cenS n r ps ss j)] := by rw [cenS, if_neg h]
theorem cenN_calm {d j : Nat} (h : enS n r (cenS n r ps ss j) = []) : cenN n r ps ss d j = j := by
  cases d with
  | zero => rfl
  | succ d => unfold cenN; rw [if_pos h]
theorem cenN_step {d j : Nat} (h : ¬ enS n r (cenS n r ps ss j) = []) : cenN n r ps ss (d + 1) j = cenN n r ps ss d (j + 1) := by rw [cenN, if_neg h]
theorem pickK_lt {j : Nat} {xs : List Int} (h : ¬ enS n r xs = []) : pickK n r ps j xs < (enS n r xs).length := Nat.mod_lt _ (List.length_pos_iff.2 h)
theorem pickV_at {j : Nat} {xs : List Int} (h : ¬ enS n r xs = []) : (enS n r xs)[pickK n r ps j xs]? = some (pickV n r ps j xs) := by have h1 := pickK_lt (ps := ps) (j := j) h;unfold pickV;rw [List.getD_eq_getElem?_getD, List.getElem?_eq_getElem h1];rfl
theorem pickV_mem {j : Nat} {xs : List Int} (h : ¬ enS n r xs = []) : pickV n r ps j xs ∈ enS n r xs := List.mem_of_getElem? (pickV_at h)
theorem cenS_sts (ha : askP n r) (hs : Sts (cnts n r) ss) : ∀ j, Sts (cnts n r) (cenS n r ps ss j)
  | 0 => hs
  | j + 1 => by
    by_cases h : enS n r (cenS n r ps ss j) = []
    · rw [cenS, if_pos h]; exact cenS_sts ha hs j
    · rw [cenS_step h]
      exact moveS_sts ha (cenS_sts ha hs j) _ fun v hv => by rw [List.mem_singleton.1 hv];exact enS_mem (pickV_mem h)
theorem cenS_len : ∀ j, (cenS n r ps ss j).length = ss.length
  | 0 => rfl
  | j + 1 => by
    by_cases h : enS n r (cenS n r ps ss j) = []
    · rw [cenS, if_pos h]; exact cenS_len j
    · rw [cenS_step h, moveS_len]; exact cenS_len j
theorem cenN_le : ∀ d j, cenN n r ps ss d j ≤ j + d ∧ (cenN n r ps ss d j < j + d → enS n r (cenS n r ps ss (cenN n r ps ss d j)) = [])
  | 0, j => ⟨Nat.le_refl _, fun h => absurd h (Nat.lt_irrefl _)⟩
  | d + 1, j => by
    by_cases h : enS n r (cenS n r ps ss j) = []
    · rw [cenN_calm h]; exact ⟨by omega, fun _ => h⟩
    · rw [cenN_step h]
      have h1 := cenN_le d (j + 1);exact ⟨by omega, fun h2 => h1.2 (by omega)⟩
theorem move_legal {xs : List Int} (ha : askP n r) (hs : Sts (cnts n r) xs) (hl : legP n r xs) {v : Int} (hv : v ∈ enS n r xs) : legP n r (moveS n r xs [v]) := by
  by_cases hr : r = 5
  · subst hr
    unfold legP at hl ⊢;rw [if_neg (by omega), if_neg (by omega), if_pos rfl] at hl ⊢;exact tok_move ha hs hl hv
  · rw [(legal_calm ha hr hs).1 hl] at hv
    cases hv
theorem cenS_legal (ha : askP n r) (hs : Sts (cnts n r) ss) (hl : legP n r ss) : ∀ j, legP n r (cenS n r ps ss j)
  | 0 => hl
  | j + 1 => by
    by_cases h : enS n r (cenS n r ps ss j) = []
    · rw [cenS, if_pos h]; exact cenS_legal ha hs hl j
    · rw [cenS_step h]
      exact move_legal ha (cenS_sts ha hs j) (cenS_legal ha hs hl j) (pickV_mem h)
theorem calm_legal {xs : List Int} (ha : askP n r) (hs : Sts (cnts n r) xs) (hc : enS n r xs = []) : legP n r xs := by
  by_cases hr : r = 5
  · subst hr
    exact absurd hc (tok_some ha.1 (ha.2.2.2 rfl) hs)
  · exact (legal_calm ha hr hs).2 hc
theorem cenB_all {most : Int} (h : cenB n r ss ps most = true) : (askP n r ∧ Sts (cnts n r) ss) ∧ (1 ≤ ps.length ∧ ps.length ≤ 100) ∧ (0 ≤ most ∧ most ≤ 2000) ∧ ∀ x ∈ ps, 0 ≤ x := by
  unfold cenB at h;rw [Bool.and_eq_true, Bool.and_eq_true, Bool.and_eq_true] at h;obtain ⟨h1, h2, h3, h4⟩ := h;have h2' : 1 ≤ (ps.length : Int) ∧ (ps.length : Int) ≤ 100 := by unfold inB at h2; simpa using h2
  have h3' : 0 ≤ most ∧ most ≤ 2000 := by unfold inB at h3; simpa using h3
  exact ⟨propB_iff.1 h1, ⟨by omega, by omega⟩, h3', fun x hx => of_decide_eq_true (List.all_eq_true.1 h4 x hx)⟩
theorem pick_at {j : Nat} (h1 : 1 ≤ ps.length) : ∃ x, ps[j % ps.length]? = some x ∧ ps.getD (j % ps.length) 0 = x := by have h := Nat.mod_lt j (show ps.length > 0 by omega);exact ⟨_, List.getElem?_eq_getElem h, by rw [List.getD_eq_getElem?_getD, List.getElem?_eq_getElem h]; rfl⟩
end
end Go.Proofs.YtdghoienjegffaaGreat
