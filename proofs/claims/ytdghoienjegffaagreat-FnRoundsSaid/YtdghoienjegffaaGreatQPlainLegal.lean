/-
  Which states are legal, told in two ways: the plain law, with no program in sight.
-/
import Derived.Test.YtdghoienjegffaaGreatQNextS
import Derived.Test.YtdghoienjegffaaGreatQPlainFar
namespace Go.Proofs.YtdghoienjegffaaGreat
open Go.RowKit
set_option linter.all false
def JoinP (n : Net) (R : Nat → Nat → Prop) : Prop := ∃ (v : Nat) (l : List (Int × Int)) (e : Int × Int), n.es[v]? = some l ∧ e ∈ l ∧ R v e.1.toNat
theorem EdAll.join {n : Net} {E : List Edge} (h : EdAll n E) (hp : netP n) (R : Nat → Nat → Prop) (hR : ∀ a b, R a b → R b a) : (∃ x ∈ E, R x.1.toNat x.2.2.1.toNat) ↔ JoinP n R := by
  obtain ⟨k, hk, h1, h2, -⟩ := h
  have key : ∀ (v : Nat) (l : List (Int × Int)) (i : Nat) (e : Int × Int), n.es[v]? = some l → l[i]? = some e → edOk v i e → ((v : Int), (i : Int), e.1, e.2) ∈ E := fun v l i e hv hi ho =>
    h2 v l i e (.inl (by have := (List.getElem?_eq_some_iff.1 hv).1; omega)) hv hi ho
  constructor
  · rintro ⟨x, hx, hr⟩
    obtain ⟨v, l, i, e, hv, hi, -, rfl⟩ := h1 x hx
    exact ⟨v, l, e, hv, List.mem_of_getElem? hi, by simpa using hr⟩
  · rintro ⟨v, l, e, hv, he, hr⟩
    obtain ⟨i, hi⟩ := List.mem_iff_getElem?.1 he
    by_cases ho : edOk v i e
    · exact ⟨_, key v l i e hv hi ho, by simpa using hr⟩
    · obtain ⟨h0, h1', m, hm, hm2⟩ := (hp.2.2.2.2 v l hv).2 i e hi
      refine ⟨_, key e.1.toNat m e.2.toNat _ hm hm2 ?_, by simp only [Int.toNat_natCast]; exact hR _ _ hr⟩
      unfold edOk at ho ⊢
      simp only
      omega
def clashP (n : Net) (ss : List Int) : Prop := JoinP n fun a b => ss.getD a 0 = ss.getD b 0
def bothP (n : Net) (ss : List Int) (x : Int) : Prop := JoinP n fun a b => ss.getD a 0 = x ∧ ss.getD b 0 = x
def mutP (n : Net) (ss : List Int) : Prop := ∀ (v : Nat) (s : Int), ss[v]? = some s → 0 < s → pointsTo ss ((n.es.getD v []).getD (s - 1).toNat (0, 0)) = true
def maxP (n : Net) (ss : List Int) : Prop := ∀ (v : Nat) (l : List (Int × Int)) (s : Int), n.es[v]? = some l → ss[v]? = some s → s = 1 ∨ ∃ e ∈ l, ss.getD e.1.toNat 0 = 1
def legP (n : Net) (r : Int) (ss : List Int) : Prop :=
  if r = 1 then ss = farT n else if r = 2 then ¬ clashP n ss else if r = 5 then (enS n r ss).length = 1 else enS n r ss = [] ∧ (r = 4 → mutP n ss)
noncomputable def legB (n : Net) (r : Int) (ss : List Int) : Bool := propB (legP n r ss)
theorem enS_nil {n : Net} {r : Int} {ss : List Int} : enS n r ss = [] ↔ ∀ v, v < ss.length → nextS n r ss v = ss.getD v 0 := by
  unfold enS enN
  rw [List.map_eq_nil_iff, List.filter_eq_nil_iff]
  constructor
  · intro h v hv
    have := h v (List.mem_range.2 hv)
    simpa using this
  · intro h v hv
    have := h v (List.mem_range.1 hv)
    simpa using this
theorem nearSt_mem {l : List (Int × Int)} {ss : List Int} {x : Int} : x ∈ nearSt l ss ↔ ∃ e ∈ l, ss.getD e.1.toNat 0 = x := by
  unfold nearSt; simp
theorem getDa {α : Type} {l : List α} {v : Nat} {s d : α} (h : l[v]? = some s) : l.getD v d = s := by rw [List.getD_eq_getElem?_getD, h]; rfl
theorem getD_at {ss : List Int} {v : Nat} {s : Int} (h : ss[v]? = some s) : ss.getD v 0 = s := by rw [List.getD_eq_getElem?_getD, h]; rfl
theorem set_legal {n : Net} {ss : List Int} (hp : netP n) (hS : Sts (cnts n 3) ss) : enS n 3 ss = [] ↔ maxP n ss ∧ ¬ bothP n ss 1 := by
 have hb := Sts.stB hp hS
 have hc : ∀ x ∈ ss, x = 0 ∨ x = 1 := fun x hx => by
  obtain ⟨v, hv⟩ := List.mem_iff_getElem?.1 hx
  have hvl := (List.getElem?_eq_some_iff.1 hv).1
  have := hS.2 v 2 x (by unfold cnts; rw [if_neg (by omega), if_pos rfl, List.getElem?_replicate, if_pos (by rw [← hb.1]; exact hvl)]) hv
  omega
 rw [enS_nil]
 have hnx : ∀ (v : Nat) (l : List (Int × Int)) (s : Int), n.es[v]? = some l → ss[v]? = some s → nextS n 3 ss v = if (1 : Int) ∈ nearSt l ss then 0 else 1 := fun v l s hl hs => by
  rw [nextS_at hl hs]; unfold nextAt
  rw [if_neg (by omega), if_neg (by omega), if_pos rfl]
 constructor
 ·
  intro h
  refine ⟨fun v l s hl hs => ?_, ?_⟩
  ·
   have h1 := h v (List.getElem?_eq_some_iff.1 hs).1
   rw [hnx v l s hl hs, getD_at hs] at h1
   by_cases hm : (1 : Int) ∈ nearSt l ss
   ·
    exact .inr (nearSt_mem.1 hm)
   ·
    rw [if_neg hm] at h1; exact .inl h1.symm
  ·
   rintro ⟨v, l, e, hl, he, h1, h2⟩
   have hvl : v < ss.length := by rw [hb.1]; exact (List.getElem?_eq_some_iff.1 hl).1
   have hs : ss[v]? = some (ss.getD v 0) := by rw [List.getD_eq_getElem?_getD, List.getElem?_eq_getElem hvl]; rfl
   have h3 := h v hvl
   rw [hnx v l _ hl hs, if_pos (nearSt_mem.2 ⟨e, he, h2⟩)] at h3
   omega
 ·
  rintro ⟨hm, hn⟩ v hv
  obtain ⟨s, hs⟩ : ∃ s, ss[v]? = some s := ⟨_, List.getElem?_eq_getElem hv⟩
  obtain ⟨l, hl⟩ : ∃ l, n.es[v]? = some l := ⟨_, List.getElem?_eq_getElem (by rw [← hb.1]; exact hv)⟩
  rw [hnx v l s hl hs, getD_at hs]
  rcases hc s (List.mem_of_getElem? hs) with rfl | rfl
  ·
   rcases hm v l 0 hl hs with h1 | h1
   ·
    omega
   ·
    rw [if_pos (nearSt_mem.2 h1)]
  ·
   rw [if_neg fun h1 => ?_]
   obtain ⟨e, he, h2⟩ := nearSt_mem.1 h1
   exact hn ⟨v, l, e, hl, he, getD_at hs, h2⟩
theorem portI_none {α : Type} {p : α → Bool} {l : List α} (h : ∀ e ∈ l, p e = false) : portI p l = -1 := by
  unfold portI
  rw [List.findIdx?_eq_none_iff.2 h]
theorem portI_some {α : Type} {p : α → Bool} {l : List α} (h : ∃ e ∈ l, p e = true) : 0 ≤ portI p l := by
  unfold portI
  obtain ⟨e, he, hp⟩ := h
  cases hq : l.findIdx? p with
  | none => rw [List.findIdx?_eq_none_iff.1 hq e he] at hp; cases hp
  | some i => simp
theorem match_legal {n : Net} {ss : List Int} (hp : netP n) (hS : Sts (cnts n 4) ss) (hm : mutP n ss) : enS n 4 ss = [] ↔ ¬ bothP n ss 0 := by
 have hb := Sts.stB hp hS
 rw [enS_nil]
 have hat : ∀ v, v < ss.length → ∃ s l, ss[v]? = some s ∧ n.es[v]? = some l := fun v hv => ⟨_, _, List.getElem?_eq_getElem hv, List.getElem?_eq_getElem (by rw [← hb.1]; exact hv)⟩
 have hnx : ∀ (v : Nat) (l : List (Int × Int)) (s : Int), n.es[v]? = some l → ss[v]? = some s → nextS n 4 ss v = matchS l ss s := fun v l s hl hs => by
  rw [nextS_at hl hs]; unfold nextAt
  rw [if_neg (by omega), if_neg (by omega), if_neg (by omega), if_pos rfl]
 have hpos : ∀ (v : Nat) (l : List (Int × Int)) (s : Int), n.es[v]? = some l → ss[v]? = some s → 0 < s → matchS l ss s = s := fun v l s hl hs h0 => by
  have h1 := hm v s hs h0
  rw [getDa hl] at h1
  unfold matchS
  rw [if_pos h0, if_pos]
  rw [h1, Bool.or_true]
 have hzero : ∀ (v : Nat) (l : List (Int × Int)), n.es[v]? = some l → ss[v]? = some 0 → portI (pointsTo ss) l = -1 := fun v l hl hs => portI_none fun e he => by
  rcases Bool.eq_false_or_eq_true (pointsTo ss e) with h1 | h1
  ·
   exfalso
   obtain ⟨i, hi⟩ := List.mem_iff_getElem?.1 he
   obtain ⟨h0, h2, m, hm1, hm2⟩ := (hp.2.2.2.2 v l hl).2 i e hi
   have hul : e.1.toNat < ss.length := by rw [hb.1]; exact (List.getElem?_eq_some_iff.1 hm1).1
   obtain ⟨s, m', hs1, hm1'⟩ := hat _ hul
   obtain rfl := Option.some.inj (hm1.symm.trans hm1')
   unfold pointsTo at h1
   rw [getD_at hs1] at h1
   have h1 : s = e.2 + 1 := by simpa using h1
   have h3 := hm e.1.toNat s hs1 (by omega)
   rw [getDa hm1, show (s - 1).toNat = e.2.toNat by omega, getDa hm2] at h3
   unfold pointsTo at h3
   simp only [Int.toNat_natCast] at h3
   rw [getD_at hs] at h3
   have h3 : (0 : Int) = (i : Int) + 1 := by simpa using h3
   omega
  ·
   exact h1
 constructor
 ·
  rintro h ⟨v, l, e, hl, he, h1, h2⟩
  have hvl : v < ss.length := by rw [hb.1]; exact (List.getElem?_eq_some_iff.1 hl).1
  obtain ⟨s, l', hs, hl'⟩ := hat v hvl
  rw [getD_at hs] at h1
  subst h1
  have h3 := h v hvl
  rw [hnx v l _ hl hs, getD_at hs] at h3
  unfold matchS at h3
  rw [if_neg (by omega), hzero v l hl hs, if_neg (by omega)] at h3
  have := portI_some (p := isFree ss) (l := l) ⟨e, he, by unfold isFree; simpa using h2⟩
  omega
 ·
  intro h v hv
  obtain ⟨s, l, hs, hl⟩ := hat v hv
  rw [hnx v l s hl hs, getD_at hs]
  have h0 := (hb.2 s (List.mem_of_getElem? hs)).1
  by_cases hs0 : 0 < s
  ·
   exact hpos v l s hl hs hs0
  ·
   obtain rfl : s = 0 := by omega
   unfold matchS
   rw [if_neg (by omega), hzero v l hl hs, if_neg (by omega), portI_none fun e he => ?_]
   ·
    rfl
   ·
    rcases Bool.eq_false_or_eq_true (isFree ss e) with h1 | h1
    ·
     exact absurd ⟨v, l, e, hl, he, getD_at hs, by unfold isFree at h1; simpa using h1⟩ h
    ·
     exact h1
end Go.Proofs.YtdghoienjegffaaGreat
