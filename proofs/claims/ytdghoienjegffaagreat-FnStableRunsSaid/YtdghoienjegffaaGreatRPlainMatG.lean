/-
  Small lemmas and contracts that the texts of this claim share. No condition.
-/
import Derived.Test.YtdghoienjegffaaGreatRPlainLeg
import Derived.Test.YtdghoienjegffaaGreatRNetLegB
namespace Go.Proofs.YtdghoienjegffaaGreat
open Go.RowKit
set_option linter.all false
def EdLt (x y : Edge) : Prop := x.1 < y.1 ∨ x.1 = y.1 ∧ x.2.1 < y.2.1
theorem edI_lt (v : Nat) (l : Ends) : ∀ j, (edI v l j).Pairwise EdLt ∧ ∀ x ∈ edI v l j, x.1 = (v : Int) ∧ x.2.1 < (j : Int)
  | 0 => ⟨List.Pairwise.nil, fun x hx => absurd hx List.not_mem_nil⟩
  | j + 1 => by
    obtain ⟨h1, h2⟩ := edI_lt v l j;cases he : l[j]? with
    | none =>
      rw [edI, he];show (edI v l j ++ []).Pairwise EdLt ∧ ∀ x ∈ edI v l j ++ [], _;rw [List.append_nil];exact ⟨h1, fun x hx => by have := h2 x hx; omega⟩
    | some e =>
      rw [edI_at he];by_cases hf : firstB v j e = true
      · rw [if_pos hf, List.pairwise_append]
        refine ⟨⟨h1, List.pairwise_singleton _ _, fun x hx y hy => ?_⟩, fun x hx => ?_⟩
        · rw [List.mem_singleton.1 hy]
          have := h2 x hx;exact .inr this
        · rcases List.mem_append.1 hx with hx | hx
          · have := h2 x hx; omega
          · rw [List.mem_singleton.1 hx]
            exact ⟨rfl, by show (j : Int) < ((j + 1 : Nat) : Int); omega⟩
      · rw [if_neg hf, List.append_nil]
        exact ⟨h1, fun x hx => by have := h2 x hx; omega⟩
theorem edV_lt (n : Net) : ∀ k, (edV n k).Pairwise EdLt
  | 0 => List.Pairwise.nil
  | k + 1 => by rw [edV, List.pairwise_append];refine ⟨edV_lt n k, (edI_lt k _ _).1, fun x hx y hy => .inl ?_⟩;obtain ⟨v, i, e, hv, -, -, rfl⟩ := edV_mem hx;have := ((edI_lt k _ _).2 y hy).1;show (v : Int) < y.1;omega
def FstOk (n : Net) (o : List Int) : Prop := ∀ (v : Nat) (s : Int) (e : Int × Int), o[v]? = some s → 0 < s → (rowAt n v)[(s - 1).toNat]? = some e → (v : Int) < e.1 → ∀ i f, i < (s - 1).toNat → (rowAt n v)[i]? = some f → f.1 ≠ e.1
theorem mat_fst {n : Net} (hp : netP n) (hq : plainP n) : ∀ k, k ≤ (edV n n.es.length).length → FstOk n (matTo (edV n n.es.length) n.es.length k)
 | 0, _ => fun v s e hs h0 => by
  unfold matTo at hs;rw [List.take_zero, List.foldl_nil, List.getElem?_replicate] at hs;split at hs
  · obtain rfl := Option.some.inj hs; omega
  · cases hs
 | k + 1, hk => by
  obtain ⟨x, hx⟩ : ∃ x, (edV n n.es.length)[k]? = some x := ⟨_, List.getElem?_eq_getElem (by omega)⟩
  have ih := mat_fst hp hq k (by omega);have hmx := mat_max hp k (by omega);have hl := matTo_len (edV n n.es.length) n.es.length k;rw [matTo_succ hx];obtain ⟨v, i, e, hv, hi, hf, hxe⟩ := edV_mem (List.mem_of_getElem? hx);generalize matTo (edV n n.es.length) n.es.length k = o at *;unfold matE;split
  ·
   rename_i hc;rw [hxe] at hc ⊢;simp only [Int.toNat_natCast] at hc ⊢;have hw := adj_lt hp ⟨_, rowAt_lt hv, e, List.mem_of_getElem? hi, rfl⟩;have hne := adj_ne hp hq ⟨_, rowAt_lt hv, e, List.mem_of_getElem? hi, rfl⟩;have h0 := (hp.endsIn _ (List.mem_of_getElem? (rowAt_lt hv)) e (List.mem_of_getElem? hi)).1;have hlt : (v : Int) < e.1 := by unfold firstE at hf;omega
   obtain ⟨-, hb, m, hm, hme⟩ := (hp.2.2.2.2 v _ (rowAt_lt hv)).2 i e hi;intro u s g hs hs0 hg hug j f hj hfj;rw [List.getElem?_set] at hs;by_cases c1 : e.1.toNat = u
   · rw [if_pos c1, if_pos (by rw [List.length_set, hl]; omega)] at hs;obtain rfl := Option.some.inj hs;obtain rfl := rowAt_eq hm;rw [← c1, show (e.2 + 1 - 1).toNat = e.2.toNat by omega, hme] at hg;obtain rfl := Option.some.inj hg;have hug' : (u : Int) < (v : Int) := hug;omega
   ·
    rw [if_neg c1, List.getElem?_set] at hs;by_cases c2 : v = u
    ·
     rw [if_pos c2, if_pos (by rw [hl]; omega)] at hs;obtain rfl := Option.some.inj hs;subst c2;have hji : j < i := by omega
     rw [show ((i : Int) + 1 - 1).toNat = i by omega, hi] at hg;obtain rfl := Option.some.inj hg;intro hfe;have hmem := edV_all hv hfj (show firstE v j f from .inl (by omega));obtain ⟨t, ht⟩ := List.getElem?_of_mem hmem;have htk : t < k := by
      apply Classical.byContradiction;intro hn;by_cases etk : t = k
      · subst etk;have := Option.some.inj (ht.symm.trans hx);rw [hxe] at this;have h3 := (Prod.mk.inj (Prod.mk.inj this).2).1;omega
      ·
       obtain ⟨t1, t2⟩ := List.getElem?_eq_some_iff.1 ht;obtain ⟨k1, k2⟩ := List.getElem?_eq_some_iff.1 hx;have h3 := List.pairwise_iff_getElem.1 (edV_lt n n.es.length) k t k1 t1 (by omega);rw [t2, k2, hxe] at h3;rcases h3 with h3 | h3
       · have h4 : (v : Int) < (v : Int) := h3;omega
       · have h4 : (i : Int) < (j : Int) := h3.2;omega
     have h5 := hmx _ (List.mem_of_getElem? (show ((edV n n.es.length).take k)[t]? = some _ by rw [List.getElem?_take, if_pos htk]; exact ht));refine h5 ⟨?_, ?_⟩
     · rw [show (((v : Int), (j : Int), f.1, f.2) : Edge).1.toNat = v from Int.toNat_natCast v]; exact hc.1
     · show o.getD f.1.toNat 0 = 0;rw [hfe]; exact hc.2
    · rw [if_neg c2] at hs;exact ih u s g hs hs0 hg hug j f hj hfj
  · exact ih
def parN (n : Net) (M : List Int) (x : Nat) : Nat := ((rowAt n x).getD (M.getD x 0 - 1).toNat (0, 0)).1.toNat
def outTo (n : Net) (M : List Int) (k : Nat) : List Int := (List.range n.es.length).map fun x => if 0 < M.getD x 0 ∧ (x < k ∨ parN n M x < k) then M.getD x 0 else 0
theorem outTo_len (n : Net) (M : List Int) (k : Nat) : (outTo n M k).length = n.es.length := by simp [outTo]
theorem outTo_at {n : Net} {M : List Int} {k x : Nat} (hx : x < n.es.length) : (outTo n M k)[x]? = some (if 0 < M.getD x 0 ∧ (x < k ∨ parN n M x < k) then M.getD x 0 else 0) := by unfold outTo;rw [List.getElem?_map, List.getElem?_range hx];rfl
theorem outTo_zero (n : Net) (M : List Int) : outTo n M 0 = List.replicate n.es.length 0 := by
  refine List.ext_getElem? fun x => ?_
  by_cases hx : x < n.es.length
  · rw [outTo_at hx, if_neg (by omega), List.getElem?_replicate, if_pos hx]
  · rw [List.getElem?_eq_none (by rw [outTo_len]; omega), List.getElem?_eq_none (by rw [List.length_replicate]; omega)]
section
variable {n : Net} {M : List Int} (hM : MatOk n M)
include hM
theorem outTo_all : outTo n M n.es.length = M := by
  refine List.ext_getElem? fun x => ?_
  by_cases hx : x < n.es.length
  · obtain ⟨s, hs⟩ : ∃ s, M[x]? = some s := ⟨_, List.getElem?_eq_getElem (by rw [hM.1]; exact hx)⟩
    have h0 := (hM.2 x s hs).1;rw [outTo_at hx, getD_at hs, hs];by_cases h : 0 < s
    · rw [if_pos ⟨h, .inl hx⟩]
    · rw [if_neg (fun c => h c.1), show s = 0 by omega]
  · rw [List.getElem?_eq_none (by rw [outTo_len]; omega), List.getElem?_eq_none (by rw [hM.1]; omega)]
theorem par_end {x : Nat} {s : Int} (hs : M[x]? = some s) (h0 : 0 < s) : ∃ e, (rowAt n x)[(s - 1).toNat]? = some e ∧ parN n M x = e.1.toNat ∧ M.getD e.1.toNat 0 = e.2 + 1 := by obtain ⟨e, he, h1⟩ := (hM.2 x s hs).2 h0;exact ⟨e, he, by unfold parN; rw [getD_at hs, getDa he], h1⟩
theorem par_back (hp : netP n) {x : Nat} {s : Int} (hs : M[x]? = some s) (h0 : 0 < s) : parN n M x < n.es.length ∧ 0 < M.getD (parN n M x) 0 ∧ parN n M (parN n M x) = x := by
  have hx : x < n.es.length := by rw [← hM.1]; exact (List.getElem?_eq_some_iff.1 hs).1
  obtain ⟨e, he, h1, h2⟩ := par_end hM hs h0;obtain ⟨-, hb, m, hm, hme⟩ := (hp.2.2.2.2 x _ (rowAt_lt hx)).2 _ e he;obtain rfl := rowAt_eq hm;rw [h1];refine ⟨(List.getElem?_eq_some_iff.1 hm).1, by rw [h2]; omega, ?_⟩;unfold parN;rw [h2, show (e.2 + 1 - 1).toNat = e.2.toNat by omega, getDa hme];exact Int.toNat_natCast x
theorem out_skip (hp : netP n) {k : Nat} (h : ∀ s, M[k]? = some s → 0 < s → parN n M k < k) : outTo n M (k + 1) = outTo n M k := by
  refine List.ext_getElem? fun x => ?_
  by_cases hx : x < n.es.length
  · obtain ⟨s, hs⟩ : ∃ s, M[x]? = some s := ⟨_, List.getElem?_eq_getElem (by rw [hM.1]; exact hx)⟩
    rw [outTo_at hx, outTo_at hx, getD_at hs];by_cases h0 : 0 < s
    · have hb := par_back hM hp hs h0
      by_cases c : x < k ∨ parN n M x < k
      · rw [if_pos ⟨h0, by omega⟩, if_pos ⟨h0, c⟩]
      · rw [if_neg (c := 0 < s ∧ (x < k ∨ parN n M x < k)) (fun d => c d.2), if_neg]
        rintro ⟨-, d⟩;by_cases e1 : x = k
        · have := h s (by rw [← e1]; exact hs) h0
          rw [← e1] at this;exact c (.inr (by omega))
        · have e2 : parN n M x = k := by omega
          obtain ⟨t, ht⟩ : ∃ t, M[k]? = some t := ⟨_, List.getElem?_eq_getElem (by rw [hM.1, ← e2]; exact hb.1)⟩
          have h3 := h t ht (by rw [e2, getD_at ht] at hb; exact hb.2.1);rw [← e2, hb.2.2] at h3;omega
    · rw [if_neg (fun d => h0 d.1), if_neg (fun d => h0 d.1)]
  · rw [List.getElem?_eq_none (by rw [outTo_len]; omega), List.getElem?_eq_none (by rw [outTo_len]; omega)]
theorem out_set (hp : netP n) {k : Nat} {s : Int} (hs : M[k]? = some s) (h0 : 0 < s) (hk : k < parN n M k) : outTo n M (k + 1) = ((outTo n M k).set k s).set (parN n M k) (M.getD (parN n M k) 0) := by
 have hkl : k < n.es.length := by rw [← hM.1]; exact (List.getElem?_eq_some_iff.1 hs).1
 have hb := par_back hM hp hs h0;refine List.ext_getElem? fun x => ?_
 rw [List.getElem?_set, List.length_set, outTo_len];by_cases hx : x < n.es.length
 ·
  obtain ⟨t, ht⟩ : ∃ t, M[x]? = some t := ⟨_, List.getElem?_eq_getElem (by rw [hM.1]; exact hx)⟩
  rw [outTo_at hx];by_cases c1 : parN n M k = x
  · rw [if_pos c1, if_pos (show parN n M k < n.es.length from hb.1), if_pos (show 0 < M.getD x 0 ∧ (x < k + 1 ∨ parN n M x < k + 1) from ⟨by rw [← c1]; exact hb.2.1, .inr (by rw [← c1, hb.2.2]; omega)⟩), c1]
  ·
   rw [if_neg c1, List.getElem?_set, outTo_len];by_cases c2 : k = x
   · subst c2;rw [if_pos rfl, if_pos hkl, getD_at hs, if_pos ⟨h0, .inl (by omega)⟩]
   ·
    rw [if_neg c2, outTo_at hx];by_cases h1 : 0 < M.getD x 0
    ·
     have hbx := par_back hM hp ht (by rw [← getD_at ht]; exact h1);have hpk : parN n M x ≠ k := fun e => c1 (by rw [← e]; exact hbx.2.2)
     by_cases c : x < k ∨ parN n M x < k
     · rw [if_pos ⟨h1, by omega⟩, if_pos ⟨h1, c⟩]
     · rw [if_neg (c := 0 < M.getD x 0 ∧ (x < k + 1 ∨ parN n M x < k + 1)) (fun d => c (by omega)), if_neg (fun d => c d.2)]
    · rw [if_neg (fun d => h1 d.1), if_neg (fun d => h1 d.1)]
 · rw [List.getElem?_eq_none (by rw [outTo_len]; omega), if_neg (by omega), List.getElem?_eq_none (by rw [List.length_set, outTo_len]; omega)]
end
theorem portI_at {α : Type} {p : α → Bool} {l : List α} {i : Nat} {e : α} (hi : l[i]? = some e) (he : p e = true) (hlt : ∀ j f, j < i → l[j]? = some f → p f = false) : portI p l = (i : Int) := by
  unfold portI;cases hf : l.findIdx? p with
  | none =>
    have := List.findIdx?_eq_none_iff.1 hf e (List.mem_of_getElem? hi);rw [he] at this; cases this
  | some j =>
    obtain ⟨hj, h1, h2⟩ := List.findIdx?_eq_some_iff_getElem.1 hf;obtain ⟨hil, hie⟩ := List.getElem?_eq_some_iff.1 hi;rcases Nat.lt_trichotomy j i with c | c | c
    · have h3 := hlt j _ c (List.getElem?_eq_getElem hj)
      rw [h1] at h3; cases h3
    · rw [c]
    · have h3 := h2 i c
      rw [hie, he] at h3;exact absurd rfl h3
noncomputable def mtL (n : Net) (k : Nat) : List Int := (matTo (edV n n.es.length) n.es.length k).map (· - 1)
theorem mtL_zero (n : Net) : mtL n 0 = List.replicate n.es.length (-1) := by unfold mtL matTo;rw [List.take_zero, List.foldl_nil, List.map_replicate];rfl
theorem mtL_at {n : Net} {k v : Nat} (hv : v < n.es.length) : (mtL n k)[v]? = some ((matTo (edV n n.es.length) n.es.length k).getD v 0 - 1) := by
  obtain ⟨s, hs⟩ : ∃ s, (matTo (edV n n.es.length) n.es.length k)[v]? = some s := ⟨_, List.getElem?_eq_getElem (by rw [matTo_len]; exact hv)⟩
  unfold mtL;rw [List.getElem?_map, hs, getD_at hs];rfl
theorem mtL_take {n : Net} {k : Nat} {x : Edge} (hx : (edV n n.es.length)[k]? = some x) (h1 : (matTo (edV n n.es.length) n.es.length k).getD x.1.toNat 0 = 0) (h2 : (matTo (edV n n.es.length) n.es.length k).getD x.2.2.1.toNat 0 = 0) : mtL n (k + 1) = ((mtL n k).set x.1.toNat x.2.1).set x.2.2.1.toNat x.2.2.2 := by unfold mtL;rw [matTo_succ hx, matE, if_pos ⟨h1, h2⟩, List.map_set, List.map_set, Int.add_sub_cancel, Int.add_sub_cancel]
theorem mtL_pass {n : Net} {k : Nat} {x : Edge} (hx : (edV n n.es.length)[k]? = some x) (h : ¬ ((matTo (edV n n.es.length) n.es.length k).getD x.1.toNat 0 = 0 ∧ (matTo (edV n n.es.length) n.es.length k).getD x.2.2.1.toNat 0 = 0)) : mtL n (k + 1) = mtL n k := by unfold mtL;rw [matTo_succ hx, matE, if_neg h]
theorem mtL_bd {n : Net} (hp : netP n) (k : Nat) : ∀ x ∈ mtL n k, -1 ≤ x ∧ x ≤ 6 := fun x hx => by unfold mtL at hx;obtain ⟨y, hy, rfl⟩ := List.mem_map.1 hx;have := matTo_bd (fun z hz => edgeOk hp hz) k y hy;omega
theorem port_par {n : Net} (hp : netP n) (hq : plainP n) {v : Nat} {s : Int} {e : Int × Int} (hs : (matTo (edV n n.es.length) n.es.length (edV n n.es.length).length)[v]? = some s) (h0 : 0 < s) (he : (rowAt n v)[(s - 1).toNat]? = some e) (hlt : (v : Int) < e.1) : portI (isE e.1.toNat) (rowAt n v) = s - 1 := by
  have h1 := mat_fst hp hq _ (Nat.le_refl _) v s e hs h0 he hlt;have hv : v < n.es.length := by have := (List.getElem?_eq_some_iff.1 hs).1; rw [matTo_len] at this; exact this
  have hn := hp.endsIn _ (List.mem_of_getElem? (rowAt_lt hv))
  rw [portI_at (i := (s - 1).toNat) he (by
    have := hn e (List.mem_of_getElem? he);unfold isE;simp only [beq_iff_eq]
    omega) fun j f hj hf => by
    have h2 := h1 j f hj hf;have h3 := hn f (List.mem_of_getElem? hf);have h4 := hn e (List.mem_of_getElem? he);unfold isE;simp only [beq_eq_false_iff_ne]
    omega]
  omega
end Go.Proofs.YtdghoienjegffaaGreat
namespace Go.Proofs.YtdghoienjegffaaGreat
open Go.RowKit
set_option linter.all false
def EdX (n : Net) (k j : Nat) (E : List Edge) : Prop := E = edV n k ++ edI k (rowAt n k) j
section
variable {n : Net} {k j : Nat} {E : List Edge} {l : Ends} {e : Int × Int}
theorem EdX.start (n : Net) : EdX n 0 0 [] := rfl
theorem EdX.yes (h : EdX n k j E) (hl : n.es[k]? = some l) (he : l[j]? = some e) (ho : edOk k j e) : EdX n k (j + 1) (E ++ [((k : Int), (j : Int), e.1, e.2)]) := by obtain rfl := rowAt_eq hl;unfold EdX at h ⊢;rw [edI_at he, if_pos (show firstB k j e = true from propB_t ho), h, List.append_assoc]
theorem EdX.no (h : EdX n k j E) (hl : n.es[k]? = some l) (he : l[j]? = some e) (ho : ¬ edOk k j e) : EdX n k (j + 1) E := by obtain rfl := rowAt_eq hl;unfold EdX at h ⊢;rw [edI_at he, if_neg (by rw [show firstB k j e = false from propB_f ho]; decide), h, List.append_nil]
theorem edI_past {v : Nat} {l : Ends} : ∀ {j : Nat}, l.length ≤ j → edI v l j = edI v l l.length
  | 0, h => by rw [show l.length = 0 by omega]
  | j + 1, h => by
    by_cases c : l.length = j + 1
    · rw [c]
    · rw [edI, List.getElem?_eq_none (by omega)]
      show edI v l j ++ [] = _;rw [List.append_nil];exact edI_past (by omega)
theorem EdX.row (h : EdX n k j E) (hl : n.es[k]? = some l) (hj : l.length ≤ j) (hj6 : j ≤ 6) : EdX n (k + 1) 0 E := by obtain rfl := rowAt_eq hl;unfold EdX at h ⊢;rw [h, edI_past hj, edV, show edI (k + 1) (rowAt n (k + 1)) 0 = [] from rfl, List.append_nil]
theorem EdX.fin (h : EdX n k 0 E) : E = edV n k := by unfold EdX at h;rw [h, show edI k (rowAt n k) 0 = [] from rfl, List.append_nil]
theorem EdX.len (h : EdX n k j E) (hp : netP n) (hj : j ≤ 6) : E.length ≤ 6 * k + j := by unfold EdX at h;rw [h, List.length_append];have := edV_len hp k;have := edI_len k (rowAt n k) j;omega
end
def EgRelX (n : Net) (w : World) (v i : Value) (wr : World) : Prop :=
  ∃ (E : List Edge) (k : Nat), k ≤ n.es.length ∧ i = .int .i64 k ∧ EdX n k 0 E ∧ wr.ownsRow w.heap.size 87 4 v E.length (edCells E) ∧ Below w.heap.size w wr
def EiRelX (n : Net) (k : Nat) (l : Ends) (w wq : World) (v i : Value) (wr : World) : Prop :=
  ∃ (E : List Edge) (j : Nat), j ≤ l.length ∧ i = .int .i64 j ∧ EdX n k j E ∧ wr.ownsRow w.heap.size 87 4 v E.length (edCells E) ∧ Below w.heap.size wq wr
set_option maxRecDepth 100000 in
set_option maxHeartbeats 2000000 in
theorem impl_edgesX (ve vi vn : Value) (n : Net) (w : World) (h : NetR w w.heap.size ve vi vn n) (hp : netP n) :
  Calls Tryz.prog 72 #[.agg #[ve, vi, vn]] w fun e w' => ∃ u, e = .returned u ∧ w'.ownsRow w.heap.size 87 4 u (edV n n.es.length).length (edCells (edV n n.es.length)) ∧ Below w.heap.size w w' := by
 have h40 := hp.1.2;have HP := Lib.hid hp; clear hp;obtain ⟨⟨A0, m0, c0, rfl⟩, ⟨A1, m1, c1, rfl⟩, A2, m2, c2, rfl⟩ := h.slices;obtain ⟨w0, hw0, hB, HD, hz0, HS0⟩ := box3 w (.slice A0 m0 c0) (.slice A1 m1 c1) (.slice A2 m2 c2) 27;have HN0 := Lib.hid h; have HN := Lib.hid (h.up hB); clear h;have HW0 := Lib.hid hw0; clear hw0;obtain ⟨q0, q1, q2, qf⟩ := cells3 HD;obtain ⟨hm0, -, -⟩ := HN.out.e.len_slice;subst hm0;go_enter Tryz.func72, Tryz.ntmps72;go_wp2_with fail;rw [← HW0.out];go_loopw [3, 4, 5, 11] (fun v _ _ i wr => EgRelX n w0 v i wr) (fun _ _ _ i _ => n.es.length - (intOf i).toNat)
 case atStart => exact ⟨[], 0, Nat.zero_le _, rfl, EdX.start n, World.ownsRow_nil _ _ _ _, Below.refl _ _⟩
 case round =>
  obtain ⟨E, k, hk, rfl, hed, hown, hb1⟩ := hrel;have HED := Lib.hid hed; clear hed;have hzhb1 := hb1.size;clear q0 q1 q2 qf;replace HD := bk HD hb1;replace HN := Lib.hid (HN.out.up hb1);replace hB := bl_trans hB hb1;obtain ⟨q0, q1, q2, qf⟩ := cells3 HD;by_cases hlt : k < n.es.length
  ·
   obtain ⟨l, hl⟩ : ∃ y, n.es[k]? = some y := ⟨n.es[k], List.getElem?_eq_getElem hlt⟩
   obtain ⟨ad, rfl⟩ := HN.out.e.some_ (by omega);obtain ⟨hbb, u, hu, hr⟩ := (HN0.out.below hB).e.at_ hl;have HR := Lib.hid hr;obtain ⟨A', c', rfl, hlc, hlm, -, h4⟩ := hr;unfold maxLen at hlm;have hl6 := HP.out.len hl;have HL := Lib.hid hl; clear hl;have HO := Lib.hid hown; clear hown;have HB1 := Lib.hid hb1; clear hb1;go_wp2_with fail;obtain ⟨wq, rfl⟩ : ∃ z, z = wr := ⟨_, rfl⟩
   go_loopw [3, 6, 7, 18] (fun v _ _ i wr' => EiRelX n k l w0 wq v i wr') (fun _ _ _ i _ => l.length - (intOf i).toNat)
   case atStart => exact ⟨E, 0, Nat.zero_le _, rfl, HED.out, HO.out, Below.refl _ _⟩
   case round =>
    obtain ⟨E, j, hj, rfl, hed, hown, hbl⟩ := hrel;have hz2 := hbl.size;have HED2 := Lib.hid hed; clear hed;by_cases hlt2 : j < l.length
    ·
     obtain ⟨e, he⟩ : ∃ e, l[j]? = some e := ⟨_, List.getElem?_eq_getElem hlt2⟩
     obtain ⟨b, o', rfl, -, -⟩ := h4 (by omega);obtain ⟨hbb', p0, p1⟩ := (HR.out.below (hbl.mono (by omega))).at_ he;obtain ⟨wv, hwv, hbv, HEB, hzv, HSV⟩ := box2 wr (.int .i64 e.1) (.int .i64 e.2) 74;have HWV := Lib.hid hwv;obtain ⟨d2, d3, ef⟩ := cells2 HEB;rw [hwv] at d2 d3;clear hwv ef;have hbv0 : w0.heap.size ≤ wv.heap.size := by have := HB1.out.size; omega
     have HOV := Lib.hid (show wv.ownsRow w0.heap.size 87 4 u3 E.length (edCells E) from own_keep4 hown hbv.size (fun b _ hb => hbv.block b hb)); clear hown;have HBV := Lib.hid (hbl.trans (hbv.mono (by have := HB1.out.size; omega))); clear hbl;have HE := Lib.hid he; clear he;have hel := HED2.out.len HP.out (by omega);by_cases c1 : (k : Int) < e.1
     ·
      have HNO := Lib.hid (show edOk k j e from .inl c1);go_wp2_with ((at_builtin; rw [← HWV.out]; refine wpList_appendK wv rfl (.tmp 39) (.tmp 47) 85 rfl w0.heap.size 87 _ 4 32 Tryz.underlying85 edgeInfo rfl (by decide) _ E.length (edCells E) rfl (edC ((k : Int), (j : Int), e.1, e.2)) rfl (fun u hu => by simp [edC] at hu; rcases hu with rfl | rfl | rfl | rfl <;> rfl) (by show Value.slice (some ⟨wr.heap.size + 1, 0, none⟩) 1 1 = _; rw [HSV.out]) HOV.out (by unfold maxLen; omega) (by omega) hbv0 ?_; intro v' w' hown' hbl' hgr' hlt' hob'))
      go_roundw
      case rel => exact ⟨E ++ [((k : Int), (j : Int), e.1, e.2)], j + 1, by omega, by go_num, HED2.out.yes HL.out HE.out HNO.out, by rw [edCells_snoc, List.length_append]; exact hown', HBV.out.trans hbl'⟩
      case measure => simp [intOf]; omega
     ·
      by_cases c2 : (k : Int) = e.1
      ·
       have hq : ((k : Int) == e.1) = true := by rw [beq_iff_eq]; exact c2
       by_cases c3 : (j : Int) ≤ e.2
       ·
        have HNO := Lib.hid (show edOk k j e from .inr ⟨c2, c3⟩);clear c2;go_wp2_with ((at_builtin; rw [← HWV.out]; refine wpList_appendK wv rfl (.tmp 39) (.tmp 47) 85 rfl w0.heap.size 87 _ 4 32 Tryz.underlying85 edgeInfo rfl (by decide) _ E.length (edCells E) rfl (edC ((k : Int), (j : Int), e.1, e.2)) rfl (fun u hu => by simp [edC] at hu; rcases hu with rfl | rfl | rfl | rfl <;> rfl) (by show Value.slice (some ⟨wr.heap.size + 1, 0, none⟩) 1 1 = _; rw [HSV.out]) HOV.out (by unfold maxLen; omega) (by omega) hbv0 ?_; intro v' w' hown' hbl' hgr' hlt' hob'))
        go_roundw
        case rel => exact ⟨E ++ [((k : Int), (j : Int), e.1, e.2)], j + 1, by omega, by go_num, HED2.out.yes HL.out HE.out HNO.out, by rw [edCells_snoc, List.length_append]; exact hown', HBV.out.trans hbl'⟩
        case measure => simp [intOf]; omega
       ·
        have HNO := Lib.hid (show ¬ edOk k j e from fun h => by rcases h with h | h; exact c1 h; exact c3 h.2);clear c2;go_wp2_with fail;clear d2 d3;rw [← HWV.out];go_roundw
        case rel => exact ⟨E, j + 1, by omega, by go_num, HED2.out.no HL.out HE.out HNO.out, HOV.out, HBV.out⟩
        case measure => simp [intOf]; omega
      ·
       have hq : ((k : Int) == e.1) = false := by rw [beq_eq_false_iff_ne]; exact c2
       have HNO := Lib.hid (show ¬ edOk k j e from fun h => by rcases h with h | h; exact c1 h; exact c2 h.1);go_wp2_with fail;clear d2 d3;rw [← HWV.out];go_roundw
       case rel => exact ⟨E, j + 1, by omega, by go_num, HED2.out.no HL.out HE.out HNO.out, HOV.out, HBV.out⟩
       case measure => simp [intOf]; omega
    ·
     have hlj : l.length ≤ j := by omega
     have HO2 := Lib.hid hown; clear hown;go_wp2_with fail;refine ⟨⟨E, k + 1, by omega, by go_num, HED2.out.row HL.out hlj (by omega), HO2.out, HB1.out.trans hbl⟩, ?_⟩;simp [intOf];omega
  · have HF := Lib.hid (show E = edV n n.es.length by rw [HED.out.fin, show k = n.es.length by omega]);have HO := Lib.hid hown; clear hown;go_wp2_with fail;go_ret;exact ⟨_, rfl, by rw [← HF.out]; exact own_mono HO.out (by omega), hB⟩
end Go.Proofs.YtdghoienjegffaaGreat
