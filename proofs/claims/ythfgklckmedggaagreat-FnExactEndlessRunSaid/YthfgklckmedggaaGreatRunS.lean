/-
  Plain law: endless runs among situations that are not legal: the moves back, told by levels and by a search; the least way round. No condition.
  Queues: a queue that may still be nil; a row appended to a queue. No condition but on sizes.
  Endless runs that are looked for, the reference's side: bad, around, back, EndlessRun.
  Endless runs that are looked for, the reference's side: back.
  Endless runs that are looked for, the reference's side: EndlessRun.
-/
import Derived.Test.YthfgklckmedggaaGreatPlainRank
import Derived.Test.YthfgklckmedggaaGreatPlainFar
import Derived.Test.YthfgklckmedggaaGreatImplA
import Derived.Test.YthfgklckmedggaaGreatBits
import Derived.Lib.AppendZeros
import Derived.Test.YthfgklckmedggaaGreatNetRkS
namespace Go.Proofs.YthfgklckmedggaaGreat
section
set_option linter.unusedVariables false
set_option linter.unusedSimpArgs false
def nlB (d : List Bool) (y : Int) : Bool := !d.getD y.toNat false
theorem nlB_iff {d : List Bool} {y : Int} : nlB d y = true ↔ d.getD y.toNat false = false := by
  unfold nlB
  cases d.getD y.toNat false <;> simp
/-- The successors of a situation that are not legal, in order. -/
def badL (N : List (List Int)) (d : List Bool) (x : Nat) : List Int := (N.getD x []).filter (nlB d)
theorem bad_mem {N : List (List Int)} {d : List Bool} {x : Nat} {y : Int} : y ∈ badL N d x ↔ y ∈ N.getD x [] ∧ d.getD y.toNat false = false := by
  unfold badL
  rw [List.mem_filter, nlB_iff]
def MapIn (N : List (List Int)) (T : Nat) : Prop := ∀ l ∈ N, ∀ y ∈ l, 0 ≤ y ∧ y < (T : Int)
theorem MapIn.get {N : List (List Int)} {T x : Nat} {y : Int} (h : MapIn N T) (hy : y ∈ N.getD x []) : 0 ≤ y ∧ y < (T : Int) := by
  rw [List.getD_eq_getElem?_getD] at hy
  cases hl : N[x]? with
  | none => rw [hl] at hy; cases hy
  | some l => rw [hl] at hy; exact h l (List.mem_of_getElem? hl) y hy
theorem MapIn.bad {N : List (List Int)} {d : List Bool} {T x : Nat} {y : Int} (h : MapIn N T) (hy : y ∈ badL N d x) : 0 ≤ y ∧ y < (T : Int) := h.get (bad_mem.1 hy).1
/-- A move between situations that are not legal. -/
def Bd (N : List (List Int)) (d : List Bool) (x y : Nat) : Prop := d.getD x false = false ∧ (y : Int) ∈ badL N d x
theorem Bd.to {N : List (List Int)} {d : List Bool} {x y : Nat} (h : Bd N d x y) : d.getD y false = false := by
  have := (bad_mem.1 h.2).2
  rwa [Int.toNat_natCast] at this
theorem Bd.mv {N : List (List Int)} {d : List Bool} {x y : Nat} (h : Bd N d x y) : Mv N d x y := by
  refine ⟨h.1, ?_⟩
  have hm := (bad_mem.1 h.2).1
  rw [List.getD_eq_getElem?_getD] at hm
  cases hl : N[x]? with
  | none => rw [hl] at hm; cases hm
  | some l => rw [hl] at hm; exact ⟨l, rfl, _, hm, Int.toNat_natCast y⟩
/-- Where moves to a situation come from, in order. -/
def befL (N : List (List Int)) (d : List Bool) (T s : Nat) : List Int := (List.range T).flatMap fun k => if d.getD k false = true then [] else ((badL N d k).filter fun y => y == (s : Int)).map fun _ => (k : Int)
theorem bef_mem {N : List (List Int)} {d : List Bool} {T s : Nat} {z : Int} : z ∈ befL N d T s ↔ ∃ k : Nat, k < T ∧ z = k ∧ Bd N d k s := by
  unfold befL
  rw [List.mem_flatMap]
  constructor
  · rintro ⟨k, hk, hz⟩
    have hk := List.mem_range.1 hk
    by_cases hd : d.getD k false = true
    · rw [if_pos hd] at hz; cases hz
    · rw [if_neg hd] at hz
      obtain ⟨y, hy, rfl⟩ := List.mem_map.1 hz
      obtain ⟨h1, h2⟩ := List.mem_filter.1 hy
      obtain rfl : y = (s : Int) := by simpa using h2
      exact ⟨k, hk, rfl, by simpa using hd, h1⟩
  · rintro ⟨k, hk, rfl, hd, hb⟩
    refine ⟨k, List.mem_range.2 hk, ?_⟩
    rw [if_neg (by rw [hd]; simp)]
    exact List.mem_map.2 ⟨(s : Int), List.mem_filter.2 ⟨hb, by simp⟩, rfl⟩
/-- The moves back, as the ends of a network. -/
def esB (N : List (List Int)) (d : List Bool) (T : Nat) : List (List (Int × Int)) := (List.range T).map fun s => (befL N d T s).map fun k => (k, 0)
theorem esB_len (N : List (List Int)) (d : List Bool) (T : Nat) : (esB N d T).length = T := by simp [esB]
theorem esB_at {N : List (List Int)} {d : List Bool} {T s : Nat} (h : s < T) : (esB N d T)[s]? = some ((befL N d T s).map fun k => (k, 0)) := by
  unfold esB
  rw [List.getElem?_map, List.getElem?_range h]
  rfl
theorem esB_in (N : List (List Int)) (d : List Bool) (T : Nat) : EndsIn (esB N d T) := fun l hl e he => by
  unfold esB at hl
  obtain ⟨s, _, rfl⟩ := List.mem_map.1 hl
  obtain ⟨z, hz, rfl⟩ := List.mem_map.1 he
  obtain ⟨k, hk, rfl, _⟩ := bef_mem.1 hz
  rw [esB_len]
  exact ⟨by omega, by simpa using hk⟩
theorem adjB {N : List (List Int)} {d : List Bool} {T s k : Nat} : Adj (esB N d T) s k ↔ s < T ∧ k < T ∧ Bd N d k s := by
  constructor
  · rintro ⟨l, hl, e, he, rfl⟩
    have hs : s < T := by have := (List.getElem?_eq_some_iff.1 hl).1; rwa [esB_len] at this
    rw [esB_at hs] at hl
    obtain rfl := Option.some.inj hl
    obtain ⟨z, hz, rfl⟩ := List.mem_map.1 he
    obtain ⟨k, hk, rfl, hb⟩ := bef_mem.1 hz
    refine ⟨hs, ?_, ?_⟩
    · show ((k : Int)).toNat < T
      omega
    · show Bd N d ((k : Int)).toNat s
      rw [Int.toNat_natCast]
      exact hb
  · rintro ⟨hs, hk, hb⟩
    exact ⟨_, esB_at hs, ((k : Int), 0), List.mem_map.2 ⟨(k : Int), bef_mem.2 ⟨k, hk, rfl, hb⟩, rfl⟩, Int.toNat_natCast k⟩
/-- The least number of moves to g, -1 where there is none. -/
def bkL (N : List (List Int)) (d : List Bool) (T g : Nat) : List Int := far (esB N d T) g
structure BkD (N : List (List Int)) (d : List Bool) (T g : Nat) (D : List Int) : Prop where
  len : D.length = T
  low : ∀ x, -1 ≤ gd D x
  top : ∀ x, gd D x < T
  root : gd D g = 0
  back : ∀ b, 0 ≤ gd D b → (gd D b = 0 ∧ b = g) ∨ ∃ a, Bd N d b a ∧ gd D a + 1 = gd D b ∧ 0 ≤ gd D a
  fwd : ∀ a b, 0 ≤ gd D a → b < T → Bd N d b a → 0 ≤ gd D b ∧ gd D b ≤ gd D a + 1
theorem gd_out {D : List Int} {x : Nat} (h : D.length ≤ x) : gd D x = -1 := by
  unfold gd
  rw [List.getD_eq_getElem?_getD, List.getElem?_eq_none h]
  rfl
theorem gd_mem {D : List Int} {x : Nat} (h : x < D.length) : gd D x ∈ D ∧ D[x]? = some (gd D x) := by
  unfold gd
  rw [List.getD_eq_getElem?_getD, List.getElem?_eq_getElem h]
  exact ⟨List.getElem_mem h, rfl⟩
theorem gd_ext {a b : List Int} (hl : a.length = b.length) (h : ∀ x, gd a x = gd b x) : a = b := by
  refine List.ext_getElem? fun x => ?_
  rcases Nat.lt_or_ge x a.length with hx | hx
  · rw [(gd_mem hx).2, (gd_mem (show x < b.length by omega)).2, h x]
  · rw [List.getElem?_eq_none hx, List.getElem?_eq_none (by omega)]
theorem bk_ok {N : List (List Int)} {d : List Bool} {T g : Nat} (hg : g < T) : BkD N d T g (bkL N d T g) := by
  have hin := esB_in N d T
  have hgl : g < (esB N d T).length := by rw [esB_len]; exact hg
  have hL := far_lab hin hgl
  obtain ⟨h1, h2⟩ := far_ok hin hgl
  rw [esB_len] at h1 h2
  have hv : ∀ x, gd (bkL N d T g) x = -1 ∨ (0 ≤ gd (bkL N d T g) x ∧ gd (bkL N d T g) x < T) := fun x => by
    rcases Nat.lt_or_ge x (bkL N d T g).length with hx | hx
    · exact h2 _ (gd_mem hx).1
    · exact .inl (gd_out hx)
  refine ⟨h1, fun x => ?_, fun x => ?_, hL.root, fun b hb => ?_, fun a b ha hb hbd => ?_⟩
  · have := hv x; omega
  · have := hv x; omega
  · rcases hL.back b hb with h | ⟨a, h3, h4, h5⟩
    · exact .inl h
    · exact .inr ⟨a, (adjB.1 h3).2.2, h4, h5⟩
  · have ha' : a < T := by have := gd_lt ha; rwa [show (bkL N d T g).length = T from h1] at this
    rcases hL.fwd a ha with h | h
    · cases h
    · exact h b (adjB.2 ⟨ha', hb, hbd⟩)
theorem BkD.il {N : List (List Int)} {d : List Bool} {T g : Nat} {D : List Int} (h : BkD N d T g D) (hg : d.getD g false = false) {x : Nat} (hx : 0 ≤ gd D x) : d.getD x false = false := by
  rcases h.back x hx with ⟨_, rfl⟩ | ⟨a, hb, _⟩
  · exact hg
  · exact hb.1
theorem BkD.down {N : List (List Int)} {d : List Bool} {T g : Nat} {D : List Int} (h : BkD N d T g D) {k : Nat} : ∀ (m x : Nat), gd D x = m → k + 1 ≤ m → ∃ y, gd D y = (k : Int) + 1 := by
  intro m
  induction m with
  | zero => intro x _ hk; omega
  | succ m ih =>
    intro x hx hk
    rcases h.back x (by omega) with ⟨h0, _⟩ | ⟨a, _, h2, h3⟩
    · omega
    · rcases Nat.lt_or_ge k m with h4 | h4
      · exact ih a (by omega) h4
      · exact ⟨x, by omega⟩
/-- What the reference knows in pass k at situation j: the moves up to k, and those that are k + 1 below j. -/
def BkTo (D : List Int) (k j : Nat) (o : List Int) : Prop := o.length = D.length ∧ ∀ x, gd o x = if gd D x ≤ (k : Int) ∨ (x < j ∧ gd D x = (k : Int) + 1) then gd D x else -1
theorem BkTo.start {N : List (List Int)} {d : List Bool} {T g : Nat} {D : List Int} (h : BkD N d T g D) (hg : g < T) : BkTo D 0 0 ((List.replicate T (-1)).set g 0) := by
  refine ⟨by rw [List.length_set, List.length_replicate, h.len], fun x => ?_⟩
  rw [gd_set (by simpa using hg)]
  have hr : gd (List.replicate T (-1)) x = -1 := by
    unfold gd
    rw [List.getD_eq_getElem?_getD, List.getElem?_replicate]
    split <;> rfl
  by_cases e : x = g
  · subst e
    rw [if_pos rfl, h.root, if_pos (.inl (by omega))]
  · rw [if_neg e, hr]
    split
    · rename_i hc
      rcases hc with hc | hc
      · have h1 := h.low x
        rcases Int.lt_or_le (gd D x) 0 with h2 | h2
        · omega
        · rcases h.back x h2 with ⟨_, h3⟩ | ⟨a, _, h3, h4⟩
          · exact absurd h3 e
          · omega
      · omega
    · rfl
theorem BkTo.get {D o : List Int} {k j : Nat} (h : BkTo D k j o) (x : Nat) : gd o x = if gd D x ≤ (k : Int) ∨ (x < j ∧ gd D x = (k : Int) + 1) then gd D x else -1 := h.2 x
theorem BkTo.same {D o : List Int} {k j : Nat} (h : BkTo D k j o) {x : Nat} (hx : 0 ≤ gd o x) : gd D x = gd o x := by
  have := h.2 x
  split at this
  · exact this.symm
  · omega
theorem BkTo.has {N : List (List Int)} {d : List Bool} {T g : Nat} {D o l : List Int} {k j : Nat} (h : BkD N d T g D) (hg : d.getD g false = false) (hin : MapIn N T) (ho : BkTo D k j o) (hl : N[j]? = some l) (hjT : j < T) (hneg : gd o j < 0) (hd : d.getD j false = false) :
    (k : Int) ∈ l.map (fun y => o.getD y.toNat 0) ↔ gd D j = (k : Int) + 1 := by
  have hNj : N.getD j [] = l := by rw [List.getD_eq_getElem?_getD, hl]; rfl
  have hol : o.length = T := by rw [ho.1, h.len]
  have hoj := ho.2 j
  constructor
  · intro hm
    obtain ⟨y, hy, e⟩ := List.mem_map.1 hm
    have hyb := hin l (List.mem_of_getElem? hl) y hy
    rw [gd_in (by omega)] at e
    have h1 := ho.same (x := y.toNat) (by omega)
    have hyd := h.il hg (x := y.toNat) (by omega)
    have hbd : Bd N d j y.toNat := ⟨hd, bad_mem.2 ⟨by rw [hNj, show ((y.toNat : Nat) : Int) = y by omega]; exact hy, by rw [Int.toNat_natCast]; exact hyd⟩⟩
    have h2 := h.fwd y.toNat j (by omega) hjT hbd
    split at hoj
    · omega
    · rename_i hc
      have : ¬ gd D j ≤ (k : Int) := fun hh => hc (.inl hh)
      omega
  · intro hD
    rcases h.back j (by omega) with ⟨h0, _⟩ | ⟨a, hb, h2, h3⟩
    · omega
    · have ha : a < D.length := gd_lt h3
      have hm := (bad_mem.1 hb.2).1
      rw [hNj] at hm
      refine List.mem_map.2 ⟨(a : Int), hm, ?_⟩
      rw [Int.toNat_natCast, gd_in (by rw [ho.1]; exact ha), ho.2 a, if_pos (.inl (by omega))]
      omega
theorem BkTo.yes {D o : List Int} {k j : Nat} (h : BkTo D k j o) (hj : j < D.length) (hD : gd D j = (k : Int) + 1) : BkTo D k (j + 1) (o.set j ((k : Int) + 1)) := by
  refine ⟨by rw [List.length_set]; exact h.1, fun x => ?_⟩
  rw [gd_set (by rw [h.1]; exact hj)]
  by_cases e : x = j
  · subst e
    rw [if_pos rfl, if_pos (.inr ⟨by omega, hD⟩), hD]
  · rw [if_neg e, h.2 x]
    have : (gd D x ≤ (k : Int) ∨ (x < j ∧ gd D x = (k : Int) + 1)) ↔ (gd D x ≤ (k : Int) ∨ (x < j + 1 ∧ gd D x = (k : Int) + 1)) := by omega
    simp only [this]
theorem BkTo.no {D o : List Int} {k j : Nat} (h : BkTo D k j o) (hD : gd D j ≠ (k : Int) + 1) : BkTo D k (j + 1) o := by
  refine ⟨h.1, fun x => ?_⟩
  rw [h.2 x]
  have : (gd D x ≤ (k : Int) ∨ (x < j ∧ gd D x = (k : Int) + 1)) ↔ (gd D x ≤ (k : Int) ∨ (x < j + 1 ∧ gd D x = (k : Int) + 1)) := by
    by_cases e : x = j
    · subst e; omega
    · omega
  simp only [this]
theorem BkTo.next {D o : List Int} {k j : Nat} (h : BkTo D k j o) (hj : D.length ≤ j) : BkTo D (k + 1) 0 o := by
  refine ⟨h.1, fun x => ?_⟩
  rw [h.2 x]
  rcases Nat.lt_or_ge x D.length with hx | hx
  · have : (gd D x ≤ (k : Int) ∨ (x < j ∧ gd D x = (k : Int) + 1)) ↔ (gd D x ≤ ((k + 1 : Nat) : Int) ∨ (x < 0 ∧ gd D x = ((k + 1 : Nat) : Int) + 1)) := by omega
    simp only [this]
  · rw [gd_out hx]
    split <;> split <;> rfl
theorem BkTo.fin {N : List (List Int)} {d : List Bool} {T g : Nat} {D o : List Int} {k j : Nat} (h : BkD N d T g D) (ho : BkTo D k j o) (hno : ∀ x, x < T → gd D x ≠ (k : Int) + 1) : o = D := by
  refine gd_ext ho.1 fun x => ?_
  rw [ho.2 x]
  rcases Nat.lt_or_ge x D.length with hx | hx
  · have hle : gd D x ≤ (k : Int) := by
      rcases Int.lt_or_le (k : Int) (gd D x) with h1 | h1
      · obtain ⟨y, hy⟩ := h.down (k := k) (gd D x).toNat x (by omega) (by omega)
        have hyl : y < D.length := gd_lt (show 0 ≤ gd D y by omega)
        exact absurd hy (hno y (by have := h.len; omega))
      · exact h1
    rw [if_pos (.inl hle)]
  · rw [gd_out hx]
    split <;> rfl
/-! ### The next situation on the way back -/
def nrS (D : List Int) (best y : Int) : Int := if 0 ≤ D.getD y.toNat 0 ∧ (best < 0 ∨ D.getD y.toNat 0 < D.getD best.toNat 0) then y else best
def nrL (D l : List Int) : Int := l.foldl (nrS D) (-1)
def NrOk (D seen : List Int) (b : Int) : Prop := (b = -1 ∧ ∀ y ∈ seen, D.getD y.toNat 0 < 0) ∨ (b ∈ seen ∧ 0 ≤ b ∧ 0 ≤ D.getD b.toNat 0 ∧ ∀ y ∈ seen, 0 ≤ D.getD y.toNat 0 → D.getD b.toNat 0 ≤ D.getD y.toNat 0)
theorem NrOk.step {D seen : List Int} {b y : Int} (h : NrOk D seen b) (hy : 0 ≤ y) : NrOk D (seen ++ [y]) (nrS D b y) := by
  unfold nrS
  by_cases hc : 0 ≤ D.getD y.toNat 0 ∧ (b < 0 ∨ D.getD y.toNat 0 < D.getD b.toNat 0)
  · rw [if_pos hc]
    refine .inr ⟨by simp, hy, hc.1, fun z hz h0 => ?_⟩
    rcases List.mem_append.1 hz with hz | hz
    · rcases h with ⟨_, h2⟩ | ⟨_, h1, h2, h3⟩
      · have := h2 z hz; omega
      · have := h3 z hz h0
        rcases hc.2 with h4 | h4 <;> omega
    · rw [List.mem_singleton] at hz
      subst hz
      exact Int.le_refl _
  · rw [if_neg hc]
    rcases h with ⟨rfl, h2⟩ | ⟨h0, h1, h2, h3⟩
    · refine .inl ⟨rfl, fun z hz => ?_⟩
      rcases List.mem_append.1 hz with hz | hz
      · exact h2 z hz
      · rw [List.mem_singleton] at hz
        subst hz
        have : ¬ 0 ≤ D.getD z.toNat 0 := fun h => hc ⟨h, .inl (by omega)⟩
        omega
    · refine .inr ⟨List.mem_append.2 (.inl h0), h1, h2, fun z hz hz0 => ?_⟩
      rcases List.mem_append.1 hz with hz | hz
      · exact h3 z hz hz0
      · rw [List.mem_singleton] at hz
        subst hz
        have : ¬ D.getD z.toNat 0 < D.getD b.toNat 0 := fun h => hc ⟨hz0, .inr h⟩
        omega
theorem nr_from {D : List Int} : ∀ (l seen : List Int) (b : Int), NrOk D seen b → (∀ y ∈ l, 0 ≤ y) → NrOk D (seen ++ l) (l.foldl (nrS D) b)
  | [], seen, b, h, _ => by rw [List.append_nil]; exact h
  | y :: r, seen, b, h, hl => by
    have := nr_from r (seen ++ [y]) _ (h.step (hl y (by simp))) fun z hz => hl z (by simp [hz])
    rw [List.append_assoc] at this
    exact this
theorem nr_ok {D l : List Int} (hl : ∀ y ∈ l, 0 ≤ y) : NrOk D l (nrL D l) := by
  have := nr_from (D := D) l [] (-1) (.inl ⟨rfl, fun _ h => by cases h⟩) hl
  rwa [List.nil_append] at this
theorem nr_bd {D l : List Int} {T : Int} (h0 : -1 < T) (hl : ∀ y ∈ l, 0 ≤ y ∧ y < T) : -1 ≤ nrL D l ∧ nrL D l < T := by
  rcases nr_ok (D := D) (l := l) fun y hy => (hl y hy).1 with ⟨h, _⟩ | ⟨h, _⟩
  · omega
  · have := hl _ h; omega
theorem nr_take {D l : List Int} {j : Nat} {y : Int} (h : l[j]? = some y) : nrL D (l.take (j + 1)) = nrS D (nrL D (l.take j)) y := by
  unfold nrL
  rw [List.take_add_one, h, List.foldl_append]
  rfl
/-- The way from a to g. -/
inductive Er (N : List (List Int)) (d : List Bool) (D : List Int) (g : Nat) : Nat → List Int → Prop
  | stop {a : Nat} (h : nrL D (badL N d a) = (g : Int)) : Er N d D g a []
  | go {a b : Nat} {l : List Int} (h : nrL D (badL N d a) = (b : Int)) (hne : b ≠ g) (hr : Er N d D g b l) : Er N d D g a ((b : Int) :: l)
theorem Er.unique {N : List (List Int)} {d : List Bool} {D : List Int} {g a : Nat} {l : List Int} (h : Er N d D g a l) : ∀ {l' : List Int}, Er N d D g a l' → l = l' := by
  induction h with
  | stop h =>
    intro l' h'
    cases h' with
    | stop _ => rfl
    | go h1 hne _ => rw [h] at h1; exact absurd (by omega) hne
  | go h hne _ ih =>
    intro l' h'
    cases h' with
    | stop h1 => rw [h] at h1; exact absurd (by omega) hne
    | go h1 _ hr =>
      rw [h] at h1
      have e := Int.ofNat.inj h1
      subst e
      rw [ih hr]
theorem Er.bd {N : List (List Int)} {d : List Bool} {D : List Int} {T g a : Nat} {l : List Int} (hin : MapIn N T) (h : Er N d D g a l) : ∀ y ∈ l, 0 ≤ y ∧ y < (T : Int) := by
  induction h with
  | stop _ => intro y hy; cases hy
  | go h _ _ ih =>
    intro y hy
    rcases List.mem_cons.1 hy with rfl | hy
    · rcases nr_ok (D := D) fun y hy => (hin.bad hy).1 with ⟨h1, _⟩ | ⟨h1, _⟩
      · rw [h] at h1; omega
      · rw [h] at h1; exact hin.bad h1
    · exact ih y hy
/-- The next on the way from a situation whose least number of moves is m + 1 has m. -/
theorem nr_step {N : List (List Int)} {d : List Bool} {T g : Nat} {D : List Int} (h : BkD N d T g D) (hin : MapIn N T) {m a : Nat} (ha : gd D a = (m : Int) + 1) : ∃ b : Nat, nrL D (badL N d a) = b ∧ gd D b = m := by
  have haT : a < T := by rw [← h.len]; exact gd_lt (show 0 ≤ gd D a by omega)
  rcases h.back a (by omega) with ⟨h0, _⟩ | ⟨c, hb, h2, h3⟩
  · omega
  · have hcl : c < D.length := gd_lt h3
    have hcg : D.getD ((c : Int)).toNat 0 = gd D c := by rw [Int.toNat_natCast]; exact gd_in hcl
    rcases nr_ok (D := D) fun y (hy : y ∈ badL N d a) => (hin.bad hy).1 with ⟨_, h4⟩ | ⟨h4, h5, h6, h7⟩
    · have := h4 _ hb.2
      rw [hcg] at this
      omega
    · have h8 := h7 _ hb.2 (by rw [hcg]; exact h3)
      have hbb := hin.bad h4
      obtain ⟨b, hbe⟩ : ∃ b : Nat, nrL D (badL N d a) = b := ⟨_, (Int.toNat_of_nonneg h5).symm⟩
      rw [hbe] at h4 h6 h8 hbb
      rw [hcg] at h8
      rw [Int.toNat_natCast, gd_in (by rw [h.len]; omega)] at h6 h8
      refine ⟨b, hbe, ?_⟩
      have := h.fwd b a h6 haT ⟨hb.1, h4⟩
      omega
theorem er_ex {N : List (List Int)} {d : List Bool} {T g : Nat} {D : List Int} (h : BkD N d T g D) (hin : MapIn N T) : ∀ (m a : Nat), gd D a = (m : Int) + 1 → ∃ l, Er N d D g a l ∧ l.length ≤ m := by
  intro m
  induction m with
  | zero =>
    intro a ha
    obtain ⟨b, hb, h0⟩ := nr_step h hin (m := 0) (a := a) ha
    rcases h.back b (by omega) with ⟨_, rfl⟩ | ⟨c, _, h2, h3⟩
    · exact ⟨[], .stop hb, Nat.le_refl _⟩
    · omega
  | succ m ih =>
    intro a ha
    obtain ⟨b, hb, h0⟩ := nr_step h hin (m := m + 1) (a := a) ha
    obtain ⟨l, hl, hll⟩ := ih b (by omega)
    exact ⟨(b : Int) :: l, .go hb (fun e => by subst e; have := h.root; omega) hl, by simp; omega⟩
/-- A situation that comes back to itself. -/
def cycP (N : List (List Int)) (d : List Bool) (T x : Nat) : Prop := d.getD x false = false ∧ ∃ y ∈ badL N d x, 0 ≤ gd (bkL N d T x) y.toNat
theorem cyc_er {N : List (List Int)} {d : List Bool} {T x : Nat} (hin : MapIn N T) (hx : x < T) (h : cycP N d T x) : ∃ l, Er N d (bkL N d T x) x x l ∧ l.length ≤ T := by
  have hB := bk_ok (N := N) (d := d) hx
  obtain ⟨hd, y, hy, h0⟩ := h
  have hyb := hin.bad hy
  rcases nr_ok (D := bkL N d T x) fun y (hy : y ∈ badL N d x) => (hin.bad hy).1 with ⟨_, h4⟩ | ⟨h4, h5, h6, h7⟩
  · have := h4 y hy
    rw [gd_in (by rw [hB.len]; omega)] at this
    omega
  · have hbb := hin.bad h4
    obtain ⟨b, hbe⟩ : ∃ b : Nat, nrL (bkL N d T x) (badL N d x) = b := ⟨_, (Int.toNat_of_nonneg h5).symm⟩
    rw [hbe] at h4 h6 hbb
    rw [Int.toNat_natCast, gd_in (by rw [hB.len]; omega)] at h6
    by_cases e : b = x
    · subst e; exact ⟨[], .stop hbe, Nat.zero_le _⟩
    · have htop := hB.top b
      rcases hB.back b h6 with ⟨_, rfl⟩ | ⟨c, _, h2, h3⟩
      · exact absurd rfl e
      · obtain ⟨l, hl, hll⟩ := er_ex hB hin ((gd (bkL N d T x) b).toNat - 1) b (by omega)
        exact ⟨(b : Int) :: l, .go hbe e hl, by simp; omega⟩
theorem nr_cyc {N : List (List Int)} {d : List Bool} {T x : Nat} (hin : MapIn N T) (hx : x < T) (hd : d.getD x false = false) : 0 ≤ nrL (bkL N d T x) (badL N d x) ↔ cycP N d T x := by
  have hB := bk_ok (N := N) (d := d) hx
  rcases nr_ok (D := bkL N d T x) fun y (hy : y ∈ badL N d x) => (hin.bad hy).1 with ⟨h3, h4⟩ | ⟨h4, h5, h6, h7⟩
  · constructor
    · intro h; omega
    · rintro ⟨_, y, hy, h0⟩
      have := h4 y hy
      have hyb := hin.bad hy
      rw [gd_in (by rw [hB.len]; omega)] at this
      omega
  · refine ⟨fun _ => ⟨hd, _, h4, ?_⟩, fun _ => h5⟩
    have hbb := hin.bad h4
    rwa [gd_in (by rw [hB.len]; omega)] at h6
theorem Run.cons {N : List (List Int)} {d : List Bool} {a b c : Nat} (h : Mv N d a b) (h' : Run N d b c) : Run N d a c := by
  induction h' with
  | one h2 => exact .more (.one h) h2
  | more _ h3 ih => exact .more ih h3
theorem wk_run {N : List (List Int)} {d : List Bool} {T g b n : Nat} (h : Wk (esB N d T) g b n) : ∀ a, Mv N d a b → Run N d a g := by
  induction h with
  | nil => exact fun a h => .one h
  | snoc h1 h2 ih => exact fun a h => .cons h (ih _ (adjB.1 h2).2.2.mv)
theorem bk_wk {N : List (List Int)} {d : List Bool} {T g b : Nat} (hg : g < T) : 0 ≤ gd (bkL N d T g) b ↔ ∃ n, Wk (esB N d T) g b n := by
  have hL := far_lab (esB_in N d T) (show g < (esB N d T).length by rw [esB_len]; exact hg)
  exact ⟨fun h => ⟨_, hL.found (gd (bkL N d T g) b).toNat b (by show gd (bkL N d T g) b = _; omega)⟩, fun ⟨n, hn⟩ => (hL.walk hn).1⟩
theorem cyc_rk {N : List (List Int)} {d : List Bool} {T x k : Nat} (hin : MapIn N T) (hx : x < T) (h : cycP N d T x) : ¬ Rk N d x k := by
  obtain ⟨hd, y, hy, h0⟩ := h
  obtain ⟨n, hn⟩ := (bk_wk hx).1 h0
  have hyb := hin.bad hy
  exact Rk.cycle (wk_run hn x (Bd.mv ⟨hd, by rw [show ((y.toNat : Nat) : Int) = y by omega]; exact hy⟩))
/-! ### What can be reached from a situation through such ones -/
def Aft (N : List (List Int)) (d : List Bool) (T x z : Nat) : Prop := ∃ y : Nat, (y : Int) ∈ badL N d x ∧ ∃ n, Wk (esB N d T) z y n
theorem wk_il {N : List (List Int)} {d : List Bool} {T z y n : Nat} (h : Wk (esB N d T) z y n) : d.getD y false = false → d.getD z false = false := by
  induction h with
  | nil => exact id
  | snoc h1 h2 ih => exact fun _ => ih (adjB.1 h2).2.2.to
theorem Aft.il {N : List (List Int)} {d : List Bool} {T x z : Nat} (h : Aft N d T x z) : d.getD z false = false := by
  obtain ⟨y, hy, n, hn⟩ := h
  have := (bad_mem.1 hy).2
  rw [Int.toNat_natCast] at this
  exact wk_il hn this
theorem Aft.more {N : List (List Int)} {d : List Bool} {T x z u : Nat} (hin : MapIn N T) (hz : z < T) (h : Aft N d T x z) (hu : (u : Int) ∈ badL N d z) : Aft N d T x u := by
  have hd := h.il
  obtain ⟨y, hy, n, hn⟩ := h
  have hub := hin.bad hu
  exact ⟨y, hy, n + 1, .cons (adjB.2 ⟨by omega, hz, hd, hu⟩) hn⟩
/-- What the reference knows of S, the situations seen, and q, those still to do. -/
structure Arn (N : List (List Int)) (d : List Bool) (T x : Nat) (S : Nat → Prop) (q : List Int) : Prop where
  src : ∀ z, S z → z < T ∧ Aft N d T x z
  todo : ∀ z ∈ q, 0 ≤ z ∧ z < (T : Int) ∧ Aft N d T x z.toNat
  first : ∀ y ∈ badL N d x, S y.toNat ∨ y ∈ q
  next : ∀ z, S z → ∀ u ∈ badL N d z, S u.toNat ∨ u ∈ q
theorem Arn.start {N : List (List Int)} {d : List Bool} {T x : Nat} (hin : MapIn N T) : Arn N d T x (fun _ => False) (badL N d x) :=
  ⟨fun _ h => h.elim, fun z hz => by
    have hb := hin.bad hz
    exact ⟨hb.1, hb.2, z.toNat, by rw [show ((z.toNat : Nat) : Int) = z by omega]; exact hz, 0, .nil _⟩, fun y hy => .inr hy, fun _ h => h.elim⟩
theorem Arn.skip {N : List (List Int)} {d : List Bool} {T x : Nat} {S : Nat → Prop} {z : Int} {q : List Int} (h : Arn N d T x S (z :: q)) (hz : S z.toNat) : Arn N d T x S q :=
  ⟨h.src, fun u hu => h.todo u (by simp [hu]), fun y hy => (h.first y hy).elim .inl fun hm => (List.mem_cons.1 hm).elim (fun e => .inl (by rw [e]; exact hz)) .inr,
    fun v hv u hu => (h.next v hv u hu).elim .inl fun hm => (List.mem_cons.1 hm).elim (fun e => .inl (by rw [e]; exact hz)) .inr⟩
theorem Arn.see {N : List (List Int)} {d : List Bool} {T x : Nat} {S : Nat → Prop} {z : Int} {q : List Int} (hin : MapIn N T) (h : Arn N d T x S (z :: q)) : Arn N d T x (fun u => u = z.toNat ∨ S u) (q ++ badL N d z.toNat) := by
  obtain ⟨z0, z1, za⟩ := h.todo z (by simp)
  refine ⟨fun u hu => ?_, fun u hu => ?_, fun y hy => ?_, fun v hv u hu => ?_⟩
  · rcases hu with rfl | hu
    · exact ⟨by omega, za⟩
    · exact h.src u hu
  · rcases List.mem_append.1 hu with hu | hu
    · exact h.todo u (by simp [hu])
    · have hb := hin.bad hu
      exact ⟨hb.1, hb.2, za.more hin (by omega) (by rw [show ((u.toNat : Nat) : Int) = u by omega]; exact hu)⟩
  · rcases h.first y hy with h1 | h1
    · exact .inl (.inr h1)
    · rcases List.mem_cons.1 h1 with rfl | h1
      · exact .inl (.inl rfl)
      · exact .inr (List.mem_append.2 (.inl h1))
  · rcases hv with rfl | hv
    · exact .inr (List.mem_append.2 (.inr hu))
    · rcases h.next v hv u hu with h1 | h1
      · exact .inl (.inr h1)
      · rcases List.mem_cons.1 h1 with rfl | h1
        · exact .inl (.inl rfl)
        · exact .inr (List.mem_append.2 (.inl h1))
theorem Arn.same {N : List (List Int)} {d : List Bool} {T x : Nat} {S S' : Nat → Prop} {q : List Int} (h : Arn N d T x S q) (hS : ∀ z, S z ↔ S' z) : Arn N d T x S' q :=
  ⟨fun z hz => h.src z ((hS z).2 hz), h.todo, fun y hy => (h.first y hy).imp (hS _).1 id, fun z hz u hu => (h.next z ((hS z).2 hz) u hu).imp (hS _).1 id⟩
theorem Arn.fin {N : List (List Int)} {d : List Bool} {T x : Nat} {S : Nat → Prop} (h : Arn N d T x S []) (z : Nat) : S z ↔ Aft N d T x z := by
  refine ⟨fun hz => (h.src z hz).2, ?_⟩
  rintro ⟨y, hy, n, hn⟩
  have key : ∀ {y n : Nat}, Wk (esB N d T) z y n → S y → S z := by
    intro y n hn
    induction hn with
    | nil => exact id
    | snoc h1 h2 ih =>
      intro hs
      rcases h.next _ hs _ (adjB.1 h2).2.2.2 with h3 | h3
      · rw [Int.toNat_natCast] at h3; exact ih h3
      · cases h3
  rcases h.first _ hy with h1 | h1
  · rw [Int.toNat_natCast] at h1; exact key hn h1
  · cases h1
theorem cyc_aft {N : List (List Int)} {d : List Bool} {T x : Nat} (hin : MapIn N T) (hx : x < T) (hd : d.getD x false = false) : cycP N d T x ↔ Aft N d T x x := by
  constructor
  · rintro ⟨_, y, hy, h0⟩
    have hb := hin.bad hy
    exact ⟨y.toNat, by rw [show ((y.toNat : Nat) : Int) = y by omega]; exact hy, (bk_wk hx).1 h0⟩
  · rintro ⟨y, hy, hn⟩
    exact ⟨hd, y, hy, by rw [Int.toNat_natCast]; exact (bk_wk hx).2 hn⟩
/-- The reference looks for a situation without a rank that comes back to itself. -/
theorem cyc_ref {N : List (List Int)} {d : List Bool} {T x : Nat} (hin : MapIn N T) (hx : x < T) : cycP N d T x ↔ rkV N d x < 0 ∧ Aft N d T x x := by
  constructor
  · intro h
    refine ⟨?_, (cyc_aft hin hx h.1).1 h⟩
    rw [rkV_none fun ⟨k, hk⟩ => cyc_rk hin hx h hk]
    omega
  · rintro ⟨h1, h2⟩
    refine (cyc_aft hin hx ?_).2 h2
    rcases Bool.eq_false_or_eq_true (d.getD x false) with hd | hd
    · rw [rkV_of (.legal hd)] at h1; omega
    · exact hd
/-! ### The first endless run -/
noncomputable def wayL (N : List (List Int)) (d : List Bool) (T x : Nat) : List Int := @dite (List Int) (∃ l, Er N d (bkL N d T x) x x l) (Classical.propDecidable _) (fun h => Classical.choose h) (fun _ => [])
theorem wayL_of {N : List (List Int)} {d : List Bool} {T x : Nat} {l : List Int} (h : Er N d (bkL N d T x) x x l) : wayL N d T x = l := by
  have hx : ∃ l, Er N d (bkL N d T x) x x l := ⟨l, h⟩
  have e : wayL N d T x = Classical.choose hx := by unfold wayL; exact dif_pos hx
  rw [e]
  exact (Classical.choose_spec hx).unique h
noncomputable def erX (N : List (List Int)) (d : List Bool) (T : Nat) : Option Nat := (List.range T).find? fun x => propB (cycP N d T x)
noncomputable def erL (N : List (List Int)) (d : List Bool) (T : Nat) : List Int := match erX N d T with | none => [] | some x => (x : Int) :: wayL N d T x
noncomputable def erB (N : List (List Int)) (d : List Bool) (T : Nat) : Bool := (erX N d T).isSome
def NoTo (N : List (List Int)) (d : List Bool) (T j : Nat) : Prop := ∀ x, x < j → ¬ cycP N d T x
theorem NoTo.next {N : List (List Int)} {d : List Bool} {T j : Nat} (h : NoTo N d T j) (hj : ¬ cycP N d T j) : NoTo N d T (j + 1) := fun x hx => by
  rcases Nat.lt_or_ge x j with h1 | h1
  · exact h x h1
  · obtain rfl : x = j := by omega
    exact hj
theorem NoTo.none {N : List (List Int)} {d : List Bool} {T : Nat} (h : NoTo N d T T) : erL N d T = [] ∧ erB N d T = false := by
  have e : erX N d T = Option.none := by
    unfold erX
    rw [List.find?_eq_none]
    intro x hx
    rw [propB_f (h x (List.mem_range.1 hx))]
    simp
  unfold erL erB
  rw [e]
  exact ⟨rfl, rfl⟩
theorem NoTo.some {N : List (List Int)} {d : List Bool} {T j : Nat} {l : List Int} (h : NoTo N d T j) (hj : j < T) (hc : cycP N d T j) (hl : Er N d (bkL N d T j) j j l) : erL N d T = (j : Int) :: l ∧ erB N d T = true := by
  have e : erX N d T = Option.some j := by
    unfold erX
    rw [List.find?_eq_some_iff_append]
    refine ⟨propB_t hc, List.range j, (List.range (T - (j + 1))).map fun x => (j + 1) + x, ?_, fun x hx => ?_⟩
    · rw [show T = (j + 1) + (T - (j + 1)) by omega, List.range_add, List.range_succ]
      simp
    · rw [propB_f (h x (List.mem_range.1 hx))]
      rfl
  unfold erL erB
  rw [e]
  exact ⟨by simp only [wayL_of hl], rfl⟩
theorem er_len {N : List (List Int)} {d : List Bool} {T : Nat} (hin : MapIn N T) : (erL N d T).length ≤ T + 1 ∧ ∀ y ∈ erL N d T, 0 ≤ y ∧ y < (T : Int) := by
  unfold erL
  cases e : erX N d T with
  | none => exact ⟨Nat.zero_le _, fun y hy => by cases hy⟩
  | some x =>
    unfold erX at e
    have hc := List.find?_some e
    have hx := List.mem_range.1 (List.mem_of_find?_eq_some e)
    obtain ⟨l, hl, hll⟩ := cyc_er hin hx (propB_iff.1 hc)
    simp only [wayL_of hl]
    refine ⟨by simp; omega, fun y hy => ?_⟩
    rcases List.mem_cons.1 hy with rfl | hy
    · omega
    · exact hl.bd hin y hy
end
section
open Go.RowKit
set_option linter.unusedVariables false
set_option linter.unusedSimpArgs false
theorem size_setCells (b : Nat) : ∀ (vs : List Value) (o : Nat) (w : World), (w.setCells b o vs).heap.size = w.heap.size
  | [], _, _ => rfl
  | v :: r, o, w => by rw [World.setCells, size_setCells b r, size_setCell]
theorem Below.setCells {base b : Nat} (hb : base ≤ b) : ∀ (vs : List Value) (o : Nat) {w0 w : World}, Below base w0 w → Below base w0 (w.setCells b o vs)
  | [], _, _, _, h => h
  | v :: r, o, _, _, h => Below.setCells hb r (o + 1) (h.setCell (p := ⟨b, o, none⟩) hb v)
theorem heap_setCells_ne (b : Nat) : ∀ (vs : List Value) (o : Nat) (w : World) (k : Nat), k ≠ b → (w.setCells b o vs).heap[k]? = w.heap[k]?
  | [], _, _, _, _ => rfl
  | v :: r, o, w, k, h => by rw [World.setCells, heap_setCells_ne b r (o + 1) _ k h]; exact Below.heap_setCell _ _ _ _ (fun e => h (by rw [e]))
theorem heap_setCells_at {b : Nat} {t : TypeId} {f : Nat × Nat} : ∀ (vs : List Value) (o : Nat) (w : World) (cur : Array Value), w.heap[b]? = some (.cells cur t f) → o + vs.length ≤ cur.size →
    ∃ cur', (w.setCells b o vs).heap[b]? = some (.cells cur' t f) ∧ cur'.size = cur.size ∧ (∀ j, j < o → cur'[j]? = cur[j]?) ∧ ∀ j v, vs[j]? = some v → cur'[o + j]? = some v
  | [], o, w, cur, h, _ => ⟨cur, h, rfl, fun _ _ => rfl, fun j v hj => by simp at hj⟩
  | v :: r, o, w, cur, h, hl => by
    obtain ⟨cur', h1, h2, h3, h4⟩ := heap_setCells_at r (o + 1) (w.setCell ⟨b, o, none⟩ v) (cur.setIfInBounds o v) (heap_set_same h v) (by simp at hl ⊢; omega)
    refine ⟨cur', h1, by rw [h2]; simp, fun j hj => ?_, fun j u hj => ?_⟩
    · rw [h3 j (by omega), Array.getElem?_setIfInBounds, if_neg (by omega)]
    · rcases j with _ | j
      · simp only [List.getElem?_cons_zero, Option.some.injEq] at hj
        subst hj
        simp at hl
        rw [Nat.add_zero, h3 o (by omega), Array.getElem?_setIfInBounds, if_pos rfl, if_pos (by omega)]
      · rw [List.getElem?_cons_succ] at hj
        rw [show o + (j + 1) = o + 1 + j by omega]
        exact h4 j u hj
/-- append(v, nil...), wherever v begins. -/
theorem run_append_nil5 {P : Program} (w : World) (t ty e : TypeId) (i : TypeInfo) (ht : P.underlying t = some (.slice e)) (hi : P.info? e = some i) (g o n c m : Nat) (hc : n ≤ c) :
    (Builtin.append_ #[t, t] ty #[.slice (some ⟨g, o, none⟩) n c, .slice none 0 m]).run P w = .ok (.slice (some ⟨g, o, none⟩) n c) w := by
  simp [Builtin.append_, run_underlying ht, sizeOf, typeInfo, hi, Builtin.lenOf, Builtin.firstCells, loadCells, loadCellsFrom, storeCells, hc]
theorem own_cases {w : World} {base n : Nat} {v : Value} {xs : List Int} (h : w.ownsRow base 3 1 v n (xs.map intV)) : (v = .slice none 0 0 ∧ xs = []) ∨ ∃ b c, v = .slice (some ⟨b, 0, none⟩) n c ∧ base ≤ b ∧ b < w.heap.size ∧ ∀ j x, xs[j]? = some x → w.cell? ⟨b, j, none⟩ = some (.int .i64 x) := by
  have hl : xs.length = n := by simpa using h.1
  rcases h.2 with ⟨e1, e2⟩ | ⟨g, cap, cur, e1, hb, hg, hn, hm, hs, ht⟩
  · exact .inl ⟨e1, List.eq_nil_of_length_eq_zero (by omega)⟩
  · refine .inr ⟨g, cap, e1, hb, (Array.getElem?_eq_some_iff.1 hg).1, fun j x hx => ?_⟩
    have h1 : (cur.toList.take (n * 1))[j]? = some (intV x) := by rw [ht, List.getElem?_map, hx]; rfl
    have hj := (List.getElem?_eq_some_iff.1 hx).1
    rw [List.getElem?_take_of_lt (by omega), Array.getElem?_toList] at h1
    rw [cell_of_row _ _ j _ _ (0, 0) hg]
    exact h1
/-- A row appended to a queue. -/
theorem wpList_append_qs {w : World} {ops : Array Oper} {rest : List Oper} {o : Oper} {a : Act} {Q : Exit → Act → World → Prop} (hgd : o.guard = none) (s x : Operand)
    (ho : o.op = .call { callee := .builtin .append, args := #[s, x], argTypes := #[23, 23] }) {base : Nat} {v : Value} {q : List Int} (hs : a.eval s = v) (hq : QRow w base v q)
    {u : Value} {base' : Nat} {ys : List Int} (hx : a.eval x = u) (hu : w.ownsRow base' 3 1 u ys.length (ys.map intV)) (hl : q.length + ys.length ≤ 20000000) (hbs : base ≤ w.heap.size)
    (hK : ∀ v' w', QRow w' base v' (q ++ ys) → Below base w w' → wpList Tryz.prog ops Q rest (a.put o.dst v') w') : wpList Tryz.prog ops Q (o :: rest) a w := by
  obtain ⟨i, hi, hz0, hz1, hz2⟩ := info_parts intInfo
  rcases own_cases hu with ⟨rfl, rfl⟩ | ⟨b, c, rfl, hb1, hb2, hbc⟩
  · have hq' := hq
    obtain ⟨g, off, m, cap, cur, rfl, rfl, h1, h2, h3, h4, h5, h6⟩ := hq'
    refine Lib.wpList_append_run _ hgd s x _ _ ho _ _ hs hx _ _ (run_append_nil5 w 23 o.type 3 i Tryz.underlying23 hi g off q.length cap 0 h3) ?_
    exact hK _ _ (by rw [List.append_nil]; exact hq) (Below.refl _ _)
  · obtain ⟨g, off, m, cap, cur, rfl, rfl, h1, h2, h3, h4, h5, h6⟩ := hq
    have hgl : g < w.heap.size := (Array.getElem?_eq_some_iff.1 h2).1
    have hcel : ∀ (j : Nat) (u : Value), cur[j]? = some u → w.cell? ⟨g, j, none⟩ = some u := fun j u hu => by rw [cell_of_row _ _ j _ _ (0, 0) h2]; exact hu
    refine wpList_append_arg w hgd s x 23 ho 3 i _ 1 8 Tryz.underlying23 hi hz0 hz1 hz2 rfl (by decide) g off q.length cap (q.map intV) hs (by simp) (fun j u hu => ?_)
      ⟨b, 0, none⟩ ys.length c (ys.map intV) hx (by simp) (fun j u hu => ?_) (fun u hu => ?_) (fun hr j hj => ?_) (by unfold maxLen; omega) (by omega) (fun hr => ?_) (fun hr v' w' hown hgr => ?_)
    · rw [List.getElem?_map] at hu
      obtain ⟨z, hz, rfl⟩ := Option.map_eq_some_iff.1 hu
      exact hcel _ _ (h6 j z hz)
    · rw [List.getElem?_map] at hu
      obtain ⟨z, hz, rfl⟩ := Option.map_eq_some_iff.1 hu
      rw [Addr.add_lit, Nat.zero_add]
      exact hbc j z hz
    · obtain ⟨z, _, rfl⟩ := List.mem_map.1 hu
      rfl
    · rw [List.length_map] at hj
      refine ⟨?_, frozen_of_row _ _ _ _ _ h2⟩
      rw [hcel _ _ (Array.getElem?_eq_getElem (show off + q.length * 1 + j < cur.size by omega))]
      rfl
    · obtain ⟨cur', k1, k2, k3, k4⟩ := heap_setCells_at (b := g) (ys.map intV) (off + q.length * 1) w cur h2 (by rw [List.length_map]; omega)
      refine hK _ _ ⟨g, off, q.length + ys.length, cap, cur', rfl, by simp, h1, k1, hr, h4, by omega, fun j z hz => ?_⟩ (Below.setCells h1 _ _ (Below.refl _ _))
      by_cases hj : j < q.length
      · rw [List.getElem?_append_left hj] at hz
        rw [k3 _ (by omega)]
        exact h6 j z hz
      · rw [List.getElem?_append_right (by omega)] at hz
        have := k4 (j - q.length) (intV z) (by rw [List.getElem?_map, hz]; rfl)
        rw [show off + q.length * 1 + (j - q.length) = off + j by omega] at this
        exact this
    · by_cases hne : q ++ ys = []
      · exfalso
        have h7 : (q ++ ys).length = 0 := by rw [hne]; rfl
        rw [List.length_append] at h7
        omega
      · have hq' := QRow.own (q := q ++ ys) (by rw [List.map_append]; exact hown) hne
        obtain ⟨g', o', m', c', cur', rfl, r1, r2, r3⟩ := hq'
        exact hK _ _ ⟨g', o', m', c', cur', rfl, r1, by omega, r3⟩ ⟨hgr.os, hgr.tape, hgr.output, hgr.size, fun k hk => hgr.block k (by omega) (by simp)⟩
/-- A queue that may still be nil. -/
def QN (w : World) (base : Nat) (v : Value) (q : List Int) : Prop := (v = .slice none 0 0 ∧ q = []) ∨ QRow w base v q
theorem QN.keep {w w' : World} {base : Nat} {v : Value} {q : List Int} (h : QN w base v q) (hk : ∀ b, base ≤ b → b < w.heap.size → w'.heap[b]? = w.heap[b]?) : QN w' base v q := h.imp id fun h => h.keep hk
theorem QN.row {w : World} {base : Nat} {v : Value} {x : Int} {q : List Int} (h : QN w base v (x :: q)) : QRow w base v (x :: q) := h.elim (fun h => by cases h.2) id
theorem QN.nil {w : World} {base : Nat} {v : Value} (h : QN w base v []) : ∃ A c, v = .slice A 0 c := by
  rcases h with ⟨rfl, _⟩ | ⟨g, o, m, cap, cur, rfl, hm, _⟩
  · exact ⟨_, _, rfl⟩
  · obtain rfl : m = 0 := by simpa using hm
    exact ⟨_, _, rfl⟩
theorem QN.len {w : World} {base : Nat} {v : Value} {q : List Int} (h : QN w base v q) : lenOf v = q.length := by
  rcases h with ⟨rfl, rfl⟩ | h
  · rfl
  · exact h.len
theorem QN.own {w : World} {base n : Nat} {v : Value} {q : List Int} (h : w.ownsRow base 3 1 v n (q.map intV)) : QN w base v q := by
  by_cases hq : q = []
  · rcases own_cases h with h' | ⟨b, c, rfl, hb1, hb2, hbc⟩
    · exact .inl h'
    · subst hq
      rcases h.2 with ⟨e1, e2⟩ | ⟨g, cap, cur, e1, hb, hg, hn, hm, hs, ht⟩
      · cases e1
      · refine .inr ⟨g, 0, n, cap, cur, e1, ?_, hb, hg, by omega, hm, by omega, fun j x hx => by simp at hx⟩
        have := h.1
        simp at this
        simpa using this.symm
  · exact .inr (QRow.own h hq)
theorem ownA3 {w : World} {base g : Nat} {x : Int} (h : w.heap[g]? = some (.cells #[.int .i64 x] 3 (0, 0))) (hb : base ≤ g) : w.ownsRow base 3 1 (.slice (some ⟨g, 0, none⟩) 1 1) [x].length ([x].map intV) :=
  ⟨by simp, .inr ⟨g, 1, _, rfl, hb, h, Nat.le_refl _, by unfold maxLen; omega, rfl, rfl⟩⟩
/-- How many truths of a row are false. -/
def nos (s : List Bool) : Nat := s.countP (! ·)
def nosAt (w : World) (g : Nat) : Nat := match w.heap[g]? with | some (.cells c _ _) => c.toList.countP (fun v => match v with | .bool false => true | _ => false) | _ => 0
theorem nosAt_eq {w : World} {g : Nat} {d : List Bool} (h : BitsAt w g d) : nosAt w g = nos d := by
  unfold nosAt nos
  rw [show w.heap[g]? = _ from h]
  simp only [List.countP_map]
  refine List.countP_congr fun x _ => ?_
  cases x <;> simp
theorem nos_le (s : List Bool) : nos s ≤ s.length := List.countP_le_length
theorem nos_set {s : List Bool} {j : Nat} (h : s[j]? = some false) : nos (s.set j true) + 1 = nos s := by
  obtain ⟨hj, e⟩ := List.getElem?_eq_some_iff.1 h
  unfold nos
  rw [List.countP_set hj]
  have h1 : 0 < s.countP (! ·) := List.countP_pos_iff.2 ⟨s[j], List.getElem_mem hj, by rw [e]; rfl⟩
  rw [if_pos (by rw [e]; rfl), if_neg (by simp)]
  omega
end
section
open Go.RowKit
set_option linter.unusedVariables false
set_option linter.unusedSimpArgs false
theorem MapOk.in_ {N : List (List Int)} {d : List Bool} {T : Nat} (h : MapOk N d T) : MapIn N T := fun l hl y hy => (h.r l hl).2 y hy
theorem bad_take {d : List Bool} {l : List Int} {m : Nat} {y : Int} (hy : l[m]? = some y) : (l.take (m + 1)).filter (nlB d) = (l.take m).filter (nlB d) ++ if nlB d y = true then [y] else [] := by
  rw [List.take_add_one, hy, Option.toList_some, List.filter_append, List.filter_cons, List.filter_nil]
theorem bad_len (d : List Bool) (l : List Int) (m : Nat) : ((l.take m).filter (nlB d)).length ≤ m := Nat.le_trans (List.length_filter_le _ _) (List.length_take_le _ _)
def BadRel (d : List Bool) (l : List Int) (w : World) (v i : Value) (wr : World) : Prop :=
  ∃ m : Nat, m ≤ l.length ∧ i = .int .i64 m ∧ wr.ownsRow w.heap.size 3 1 v ((l.take m).filter (nlB d)).length (((l.take m).filter (nlB d)).map intV) ∧ Below w.heap.size w wr
set_option maxRecDepth 100000 in
set_option maxHeartbeats 1000000 in
theorem spec_bad (nv lv : Value) (N : List (List Int)) (d : List Bool) (T x : Nat) (w : World) (hn : RowsR w w.heap.size nv N) (hd : BoolsR w w.heap.size lv d) (hm : MapOk N d T) (hx : x < T) :
    Calls Tryz.prog 51 #[.agg #[nv, lv], .int .i64 (x : Int)] w fun e w' => ∃ v, e = .returned v ∧ w'.ownsRow w.heap.size 3 1 v (badL N d x).length ((badL N d x).map intV) ∧ Below w.heap.size w w' := by
  obtain ⟨mn, md, mt, mr⟩ := hm
  obtain ⟨A8, c8, rfl, hc8, hcm, hrow⟩ := hn.open_
  obtain ⟨A9, c9, rfl, hc9, hcm9, hrow9⟩ := hd.open_
  unfold maxLen at hcm hcm9
  have hdT : T ≤ d.length ∧ d.length ≤ T := by omega
  have hNT : T ≤ N.length ∧ N.length ≤ T := by omega
  clear mn md hn hd
  obtain ⟨w1, hw1, hb1, HB1, hz1, HS1⟩ := box2 w (.slice A8 N.length c8) (.slice A9 d.length c9) 50
  obtain ⟨p0, p1, pf⟩ := cells2 HB1
  obtain ⟨l, hl⟩ : ∃ l, N[x]? = some l := ⟨_, List.getElem?_eq_getElem (by omega)⟩
  obtain ⟨ad, rfl, hab, hrow⟩ := hrow (by omega)
  obtain ⟨u, hcu, hru⟩ := hrow x l hl
  obtain ⟨A5, c5, rfl, hc5, hcm5, hrow5⟩ := hru.open_
  unfold maxLen at hcm5
  have HR5 := Lib.hid hrow5
  obtain ⟨hl3, hly⟩ := mr l (List.mem_of_getElem? hl)
  have HLY := Lib.hid hly
  have hcr := (hb1.cell (p := ad.add x) (by rw [block_add]; exact hab)).trans hcu
  obtain ⟨a9, rfl, hab9, hr9⟩ := hrow9 (by omega)
  have HR9 := Lib.hid hr9
  have HBD := Lib.hid (show badL N d x = l.filter (nlB d) by unfold badL; rw [List.getD_eq_getElem?_getD, hl]; rfl)
  have hxN : x < N.length := by omega
  have e0 := p0
  have e1 := hcr
  rw [hw1] at e0 e1
  have HW1 := Lib.hid hw1
  have HP1 := Lib.hid p1
  clear hw1 p0 p1 pf hrow hrow5 hrow9 hcu hru hl hly hr9 hcr mr
  go_enter Tryz.func51, Tryz.ntmps51
  go_wp2_with fail
  rw [← HW1.out]
  clear e0 e1
  go_loopw [5, 7, 14] (fun v _ i wr => BadRel d l w1 v i wr) (fun _ _ i _ => l.length - (intOf i).toNat)
  case atStart => exact ⟨0, Nat.zero_le _, rfl, World.ownsRow_nil _ _ _ _, Below.refl _ _⟩
  case round =>
    obtain ⟨m, hm, rfl, hown, hbl⟩ := hrel
    have hlo := bad_len d l m
    have HO := Lib.hid hown
    have hwz := hbl.size
    have hB := bl_trans hb1 hbl
    by_cases hlt : m < l.length
    · obtain ⟨y, hy⟩ : ∃ y, l[m]? = some y := ⟨_, List.getElem?_eq_getElem hlt⟩
      obtain ⟨hy0, hy1⟩ := HLY.out y (List.mem_of_getElem? hy)
      obtain ⟨yn, rfl⟩ : ∃ yn : Nat, y = yn := ⟨y.toNat, by omega⟩
      obtain ⟨a5, rfl, hab5, hr5⟩ := HR5.out (by omega)
      have hcy := (hB.cell (p := a5.add m) (by rw [block_add]; exact hab5)).trans (hr5 m _ hy)
      obtain ⟨c, hc⟩ : ∃ c, d[yn]? = some c := ⟨_, List.getElem?_eq_getElem (by omega)⟩
      have hcc := (hB.cell (p := a9.add yn) (by rw [block_add]; exact hab9)).trans (HR9.out yn c hc)
      have k1 := (hbl.cell (p := ⟨w.heap.size, 1, none⟩) hz1).trans HP1.out
      have HT := Lib.hid (bad_take (d := d) hy)
      have HIL := Lib.hid (show nlB d ((yn : Nat) : Int) = !c by unfold nlB; rw [Int.toNat_natCast, getDa hc])
      have hyd : yn < d.length := by omega
      clear hy hc hr5 hown
      cases c with
      | false =>
        have HE := Lib.hid (show (l.take (m + 1)).filter (nlB d) = (l.take m).filter (nlB d) ++ [((yn : Nat) : Int)] by rw [HT.out, if_pos (by rw [HIL.out]; rfl)])
        go_wp2_with ((at_builtin; refine wpList_append1 _ rfl (.tmp 24) (.tmp 26) 23 rfl w1.heap.size 3 _ 8 Tryz.underlying23 intInfo rfl _ _ _ rfl _ rfl rfl HO.out (by unfold maxLen; omega) (by omega) hwz ?_; intro v' w' hown' hbl' hgr' hlt' hob'))
        go_roundw
        case rel => exact ⟨m + 1, by omega, by go_num, by rw [HE.out, List.length_append, List.map_append]; exact hown', hbl.trans hbl'⟩
        case measure => simp [intOf]; omega
      | true =>
        have HE := Lib.hid (show (l.take (m + 1)).filter (nlB d) = (l.take m).filter (nlB d) by rw [HT.out, if_neg (by rw [HIL.out]; simp), List.append_nil])
        go_wp2_with fail
        go_roundw
        case rel => exact ⟨m + 1, by omega, by go_num, by rw [HE.out]; exact HO.out, hbl⟩
        case measure => simp [intOf]; omega
    · obtain rfl : m = l.length := by omega
      rw [List.take_length, ← HBD.out] at hown
      have HF := Lib.hid (own_mono hown (show w.heap.size ≤ w1.heap.size by omega))
      clear hown
      go_wp2_with fail
      go_ret
      exact ⟨_, rfl, HF.out, hB⟩
/-- What the reference's search holds: the truths and the queue. -/
def ArRel (N : List (List Int)) (d : List Bool) (T x g : Nat) (w : World) (v : Value) (wr : World) : Prop :=
  ∃ (s : List Bool) (q : List Int), BitsAt wr g s ∧ s.length = T ∧ QN wr (g + 1) v q ∧ Arn N d T x (fun z => s.getD z false = true) q ∧ q.length + 3000 * nos s ≤ 3000 * (T + 1) ∧ Below g w wr
theorem seen_set {s : List Bool} {z : Nat} (hz : z < s.length) (u : Nat) : (u = z ∨ s.getD u false = true) ↔ (s.set z true).getD u false = true := by
  rw [List.getD_eq_getElem?_getD, List.getD_eq_getElem?_getD, List.getElem?_set]
  by_cases e : z = u
  · subst e
    rw [if_pos rfl, if_pos hz]
    simp
  · rw [if_neg e]
    constructor
    · rintro (h | h)
      · exact absurd h.symm e
      · exact h
    · exact .inr
theorem badL_len {N : List (List Int)} {d : List Bool} {T x : Nat} (h : MapOk N d T) (hx : x < T) : (badL N d x).length ≤ 3000 := by
  obtain ⟨l, hl⟩ : ∃ l, N[x]? = some l := ⟨_, List.getElem?_eq_getElem (by rw [h.n]; exact hx)⟩
  have := (h.r l (List.mem_of_getElem? hl)).1
  refine Nat.le_trans (List.length_filter_le _ _) ?_
  rw [List.getD_eq_getElem?_getD, hl]
  exact this
set_option maxRecDepth 100000 in
set_option maxHeartbeats 1000000 in
theorem spec_around (nv lv : Value) (N : List (List Int)) (d : List Bool) (T x : Nat) (w : World) (hn : RowsR w w.heap.size nv N) (hd : BoolsR w w.heap.size lv d) (hm : MapOk N d T) (hx : x < T) :
    Calls Tryz.prog 49 #[.agg #[nv, lv], .int .i64 (x : Int)] w fun e w' => ∃ (g : Nat) (s : List Bool), e = .returned (.slice (some ⟨g, 0, none⟩) T T) ∧ BitsAt w' g s ∧ s.length = T ∧ (∀ z, s.getD z false = true ↔ Aft N d T x z) ∧ Below w.heap.size w w' := by
  have hT3 := hm.t
  have hNT : N.length ≤ T ∧ T ≤ N.length := by have := hm.n; omega
  have HM := Lib.hid hm
  obtain ⟨A8, c8, rfl, -, -, -⟩ := hn.open_
  obtain ⟨A9, c9, rfl, -, -, -⟩ := hd.open_
  obtain ⟨w1, hw1, hb1, HB1, hz1, HS1⟩ := box2 w (.slice A8 N.length c8) (.slice A9 d.length c9) 50
  have HNV := Lib.hid ((hn.below hb1).more hb1.size)
  have HLV := Lib.hid ((hd.below hb1).more hb1.size)
  clear hn hd hm
  have hmk := fun W => run_make1 (P := Tryz.prog) 48 4 (.bool false) 1 Tryz.underlying48 boolInf rfl N.length (by omega) (by omega) W
  obtain ⟨w2, hw2⟩ : ∃ z, z = w1.alloc (.cells (rowOf [] N.length (.bool false)) 4) := ⟨_, rfl⟩
  have hb2 : Below w1.heap.size w1 w2 := by rw [hw2]; exact bl_alloc (Below.refl _ _) _
  have hbits : BitsAt w2 w1.heap.size (List.replicate N.length false) := by
    rw [hw2]
    refine (heap_alloc_new w1 _).trans ?_
    unfold rowOf
    simp
  obtain ⟨p0, p1, pf⟩ := cells2 HB1
  have f0 := (hb2.cell (p := ⟨w.heap.size, 0, none⟩) hz1).trans p0
  have f1 := (hb2.cell (p := ⟨w.heap.size, 1, none⟩) hz1).trans p1
  have e0 := p0
  have e2 := f0
  have e3 := f1
  rw [hw1] at e0
  rw [hw2, hw1] at e2 e3
  have HW1 := Lib.hid hw1
  have HW2 := Lib.hid hw2
  have HP0 := Lib.hid p0
  have HP1 := Lib.hid p1
  clear hw1 hw2 p0 p1 pf f0 f1
  go_enter Tryz.func49, Tryz.ntmps49
  go_wp2_with fail
  rw [← HW1.out, ← HW2.out]
  clear e0 e2 e3 hmk
  obtain ⟨g, hg⟩ : ∃ z, z = w1.heap.size := ⟨_, rfl⟩
  rw [show w.heap.size + 1 = g by rw [hg, HS1.out]]
  rw [← hg] at hbits hb2 hz1 HNV HLV
  have hgw : w.heap.size ≤ g := by have := hb1.size; omega
  have hB2 : Below w.heap.size w w2 := hb1.trans (hb2.mono hgw)
  have hgl := hbits.lt
  clear hg
  refine (spec_bad _ _ N d T x w2 ((HNV.out.below hb2).more (by omega)) ((HLV.out.below hb2).more (by omega)) HM.out hx).mono ?_
  rintro e w3 ⟨v3, rfl, hown3, hb3⟩
  have HQ3 := Lib.hid ((QN.own hown3).elim .inl fun ⟨g', h'⟩ => .inr ⟨g', h'⟩ : QN w3 w2.heap.size v3 (badL N d x))
  have HBI := Lib.hid (hbits.keep (hb3.block g hgl))
  have hb13 : Below g w1 w3 := hb2.trans (hb3.mono (by omega))
  have hz3 := hb3.size
  have HBL := Lib.hid (badL_len (x := x) HM.out hx)
  clear hown3 hbits
  go_wp2_with fail
  go_loopw [6, 7] (fun v _ wr => ArRel N d T x g w3 v wr) (fun v _ wr => 3001 * nosAt wr g + lenOf v)
  case atStart =>
    refine ⟨_, badL N d x, HBI.out, by rw [List.length_replicate]; exact HM.out.n, ?_, (Arn.start HM.out.in_).same fun z => ?_, ?_, Below.refl _ _⟩
    · rcases HQ3.out with h | ⟨g', o', m', c', cur', h1, h2, h3, h4⟩
      · exact .inl h
      · exact .inr ⟨g', o', m', c', cur', h1, h2, by omega, h4⟩
    · rw [List.getD_eq_getElem?_getD, List.getElem?_replicate]
      split <;> simp
    · have h1 := HBL.out
      have h2 := nos_le (List.replicate N.length false)
      rw [List.length_replicate] at h2
      omega
  case round =>
    obtain ⟨s, q, hbits, hsl, hq, harn, hql, hbl⟩ := hrel
    have hgr := hbits.lt
    have hBr := hb13.trans hbl
    have hBw : Below w.heap.size w _ := hb1.trans (hBr.mono hgw)
    have hsz := hBr.size
    have HBI2 := Lib.hid hbits
    have HARN := Lib.hid harn
    have HBW := Lib.hid hBw
    have hsT : s.length ≤ T ∧ T ≤ s.length := by omega
    cases q with
    | nil =>
      obtain ⟨Aq, cq, rfl⟩ := hq.nil
      have HF := Lib.hid harn.fin
      have hSL := Lib.hid hsl
      clear hbits harn hq hBr hBw hsl
      go_wp2_with fail
      go_ret
      exact ⟨g, s, by rw [HM.out.n]; rfl, HBI2.out, hSL.out, HF.out, HBW.out⟩
    | cons z q =>
      obtain ⟨hz0, hzT, -⟩ := harn.todo z (by simp)
      obtain ⟨zn, rfl⟩ : ∃ zn : Nat, z = zn := ⟨z.toNat, by omega⟩
      obtain ⟨gq, o, m, cap, cur, rfl, hm, hgq, hcur, hmc, hcm, hoc, hcc⟩ := hq.row
      have hcx : World.cell? _ ⟨gq, o, none⟩ = some (.int .i64 ((zn : Nat) : Int)) := (cell_of_row _ _ o _ _ (0, 0) hcur).trans (hcc 0 _ rfl)
      have hqt := QRow.tail hm hgq hcur hmc hcm hoc hcc
      have hm1 : 1 ≤ m := by simp at hm; omega
      have hsl2 := run_tail gq o m cap hm1
      generalize Value.slice (if cap = 1 then some ⟨gq, o, none⟩ else some ⟨gq, o + 1, none⟩) (m - 1) (cap - 1) = v2 at hqt hsl2
      have HQT := Lib.hid hqt; clear hqt
      have hsa : ∀ W, (Instr.sliceAt 23 (.slice (some ⟨gq, o, none⟩) m cap) (some (.int .i64 1)) none none).run Tryz.prog W = .ok v2 W := fun W => (Go.run_sliceAt_slice (P := Tryz.prog) (w := W) 23 _ _ _ _ (by kernel_rfl)).trans (hsl2 W)
      have hml : m - 1 = q.length := by simp at hm; omega
      have HML := Lib.hid hml
      simp only [List.length_cons] at hql
      unfold maxLen at hcm
      obtain ⟨b, hb⟩ : ∃ b, s[zn]? = some b := ⟨_, List.getElem?_eq_getElem (by omega)⟩
      have hcb := hbits.cell hb
      have hfb := hbits.frozen zn
      have hzs : zn < s.length := by omega
      have HB := Lib.hid hb
      have k0 := (hBr.cell (p := ⟨w.heap.size, 0, none⟩) hz1).trans HP0.out
      have k1 := (hBr.cell (p := ⟨w.heap.size, 1, none⟩) hz1).trans HP1.out
      have HSL := Lib.hid hsl
      clear hcur hcc hbits harn hq hb hml hm hsl
      cases b with
      | true =>
        have HA := Lib.hid (HARN.out.skip (by rw [Int.toNat_natCast]; exact getDa HB.out))
        go_wp2_with fail
        go_roundw
        case rel => exact ⟨s, q, HBI2.out, HSL.out, .inr HQT.out, HA.out, by omega, hbl⟩
        case measure =>
          have h1 := HQT.out.len
          have h2 := HML.out
          show 3001 * nosAt _ g + lenOf v2 < 3001 * nosAt _ g + m
          omega
      | false =>
        obtain ⟨w5, hw5⟩ : ∃ z, z = wr.setCell ⟨g, zn, none⟩ (.bool true) := ⟨_, rfl⟩
        have hb5 : Below g wr w5 := by rw [hw5]; exact Below.setCell (p := ⟨g, zn, none⟩) (Below.refl _ _) (Nat.le_refl _) _
        have hbits5 : BitsAt w5 g (s.set zn true) := by rw [hw5]; exact HBI2.out.set zn true
        have hk5 : ∀ b, b ≠ g → w5.heap[b]? = wr.heap[b]? := fun b hb => by rw [hw5]; exact Below.heap_setCell _ _ _ _ (by simpa using hb)
        have hz5 : w5.heap.size = wr.heap.size := by rw [hw5, size_setCell]
        have hB15 := hBr.trans hb5
        have g0 := (hb5.cell (p := ⟨w.heap.size, 0, none⟩) (show w.heap.size < g by omega)).trans k0
        have g1 := (hb5.cell (p := ⟨w.heap.size, 1, none⟩) (by show w.heap.size < g; omega)).trans k1
        have t0 := g0
        have t1 := g1
        rw [hw5] at t0 t1
        have HW5 := Lib.hid hw5
        have HQ5 := Lib.hid (HQT.out.keep (w' := w5) fun b h1 h2 => hk5 b (by omega))
        have HB5 := Lib.hid hbits5
        have HNS := Lib.hid (nos_set HB.out)
        have HA := Lib.hid (show Arn N d T x (fun u => (s.set zn true).getD u false = true) (q ++ badL N d zn) by
          have := HARN.out.see HM.out.in_
          rw [Int.toNat_natCast] at this
          exact this.same fun u => seen_set hzs u)
        have hzz : w5.heap.size ≤ wr.heap.size ∧ wr.heap.size ≤ w5.heap.size := by omega
        clear hw5 hbits5 hk5 g0 g1 hz5
        go_wp2_with fail
        rw [← HW5.out]
        clear t0 t1
        refine (spec_bad _ _ N d T zn w5 ((HNV.out.below hB15).more (by omega)) ((HLV.out.below hB15).more (by omega)) HM.out (by omega)).mono ?_
        rintro e w6 ⟨v6, rfl, hown6, hb6⟩
        have HO6 := Lib.hid hown6
        have HQ6 := Lib.hid (HQ5.out.keep (w' := w6) fun b h1 h2 => hb6.block b h2)
        have HB6 := Lib.hid (HB5.out.keep (hb6.block g (by omega)))
        have hz6 := hb6.size
        have hl6 := badL_len (x := zn) HM.out (by omega)
        obtain ⟨A6, c6, rfl⟩ := own_sl hown6
        clear hown6
        have hqb : q.length + (badL N d zn).length ≤ 20000000 := by omega
        have hgs : g + 1 ≤ w6.heap.size := by omega
        go_wp2_with ((at_builtin; refine wpList_append_qs rfl (.tmp 31) (.tmp 34) rfl rfl HQ6.out rfl HO6.out hqb hgs ?_; intro v' w' hq' hb'))
        go_roundw
        case rel =>
          have h1 := HNS.out
          have h2 := HA.out
          refine ⟨s.set zn true, q ++ badL N d zn, HB6.out.keep (hb'.block g (by omega)), by rw [List.length_set]; exact HSL.out, .inr hq', h2, by rw [List.length_append]; omega, ?_⟩
          exact (hbl.trans hb5).trans ((hb6.mono (by omega)).trans (hb'.mono (by omega)))
        case measure =>
          have h1 := HNS.out
          have h2 := hq'.len
          have h3 := nosAt_eq (HB6.out.keep (hb'.block g (by omega)))
          have h4 := nosAt_eq HBI2.out
          have h5 := HML.out
          rw [List.length_append] at h2
          show 3001 * nosAt _ g + lenOf v' < 3001 * nosAt _ g + m
          rw [h3, h4]
          omega
end
section
open Go.RowKit
set_option linter.unusedVariables false
set_option linter.unusedSimpArgs false
theorem bf_step {T j : Nat} (h : j < T) : (List.replicate j (-1 : Int) ++ List.replicate (T - j) 0).set j (-1) = List.replicate (j + 1) (-1) ++ List.replicate (T - (j + 1)) 0 := by
  refine List.ext_getElem? fun x => ?_
  rw [List.getElem?_set]
  by_cases e : j = x
  · subst e
    rw [if_pos rfl, if_pos (by simp; omega), List.getElem?_append_left (by simp), List.getElem?_replicate, if_pos (by omega)]
  · rw [if_neg e]
    rcases Nat.lt_or_ge x j with h1 | h1
    · rw [List.getElem?_append_left (by simpa using h1), List.getElem?_append_left (by simp; omega), List.getElem?_replicate, List.getElem?_replicate, if_pos h1, if_pos (by omega)]
    · rw [List.getElem?_append_right (by simpa using h1), List.getElem?_append_right (by simp; omega), List.getElem?_replicate, List.getElem?_replicate, List.length_replicate, List.length_replicate]
      by_cases h2 : x - j < T - j
      · rw [if_pos h2, if_pos (by omega)]
      · rw [if_neg h2, if_neg (by omega)]
theorem bf_zero (T : Nat) : List.replicate 0 (-1 : Int) ++ List.replicate (T - 0) 0 = List.replicate T 0 := by simp
theorem bf_end (T : Nat) : List.replicate T (-1 : Int) ++ List.replicate (T - T) 0 = List.replicate T (-1) := by simp
theorem bf_len {T j : Nat} (h : j ≤ T) : (List.replicate j (-1 : Int) ++ List.replicate (T - j) 0).length = T := by simp; omega
theorem BkTo.ne_of_nn {D o : List Int} {k j : Nat} (h : BkTo D k j o) (hx : 0 ≤ gd o j) : gd D j ≠ (k : Int) + 1 := fun e => by
  have := h.2 j
  rw [if_neg (by omega)] at this
  omega
theorem BkTo.bd {N : List (List Int)} {d : List Bool} {T g : Nat} {D o : List Int} {k j : Nat} (h : BkD N d T g D) (ho : BkTo D k j o) {x : Nat} {v : Int} (hv : o[x]? = some v) : gd o x = v ∧ -1 ≤ v ∧ v < T := by
  have e : gd o x = v := getDi hv
  have h1 := ho.2 x
  have h2 := h.low x
  have h3 := h.top x
  refine ⟨e, ?_⟩
  rw [← e, h1]
  split <;> omega
theorem BkTo.i64 {N : List (List Int)} {d : List Bool} {T g : Nat} {D o : List Int} {k j : Nat} (h : BkD N d T g D) (ho : BkTo D k j o) (hT : T ≤ 3000) : ∀ v ∈ o, I64 v := fun v hv => by
  obtain ⟨x, hx⟩ := List.mem_iff_getElem?.1 hv
  have := ho.bd h hx
  unfold I64
  omega
def BfRel (T g : Nat) (w : World) (i : Value) (wr : World) : Prop := ∃ j : Nat, j ≤ T ∧ i = .int .i64 j ∧ NumsAt wr g (List.replicate j (-1) ++ List.replicate (T - j) 0) ∧ Below g w wr
def ByRel (D : List Int) (T g : Nat) (w : World) (kv ag : Value) (wr : World) : Prop :=
  ∃ (o : List Int) (k : Nat) (b : Bool), kv = .int .i64 k ∧ ag = .bool b ∧ NumsAt wr g o ∧ BkTo D k 0 o ∧ (b = true → k ≤ T) ∧ k ≤ T + 1 ∧ (b = false → o = D) ∧ Below g w wr
def BxRel (D : List Int) (k T g : Nat) (w : World) (ag i : Value) (wr : World) : Prop :=
  ∃ (o : List Int) (j : Nat) (b : Bool), ag = .bool b ∧ i = .int .i64 j ∧ j ≤ T ∧ NumsAt wr g o ∧ BkTo D k j o ∧ (b = false → ∀ x, x < j → gd D x ≠ (k : Int) + 1) ∧ (b = true → ∃ x, gd D x = (k : Int) + 1) ∧ Below g w wr
theorem no_next {D : List Int} {k j : Nat} {b : Bool} (h : b = false → ∀ x, x < j → gd D x ≠ (k : Int) + 1) (hj : gd D j ≠ (k : Int) + 1) : b = false → ∀ x, x < j + 1 → gd D x ≠ (k : Int) + 1 := fun hb x hx => by
  rcases Nat.lt_or_ge x j with h1 | h1
  · exact h hb x h1
  · obtain rfl : x = j := by omega
    exact hj
set_option maxRecDepth 100000 in
set_option maxHeartbeats 2000000 in
theorem spec_back (nv lv : Value) (N : List (List Int)) (d : List Bool) (T q : Nat) (w : World) (hn : RowsR w w.heap.size nv N) (hd : BoolsR w w.heap.size lv d) (hm : MapOk N d T) (hq : q < T) (hil : d.getD q false = false) :
    Calls Tryz.prog 50 #[.agg #[nv, lv], .int .i64 (q : Int)] w fun e w' => ∃ g, e = .returned (.slice (some ⟨g, 0, none⟩) T T) ∧ NumsAt w' g (bkL N d T q) ∧ w.heap.size ≤ g ∧ Below w.heap.size w w' := by
  have HIN := Lib.hid hm.in_
  have HBD := Lib.hid (bk_ok (N := N) (d := d) hq)
  obtain ⟨D, hD⟩ : ∃ z, z = bkL N d T q := ⟨_, rfl⟩
  rw [← hD] at HBD ⊢
  clear hD
  have HIL := Lib.hid hil; clear hil
  obtain ⟨mn, md, mt, mr⟩ := hm
  obtain ⟨A8, c8, rfl, hc8, hcm, hrow⟩ := hn.open_
  obtain ⟨A9, c9, rfl, hc9, hcm9, hrow9⟩ := hd.open_
  have HROW := Lib.hid hrow; clear hrow hn
  have HROW9 := Lib.hid hrow9; clear hrow9 hd
  have HMR := Lib.hid mr; clear mr
  unfold maxLen at hcm hcm9
  have hdT : T ≤ d.length ∧ d.length ≤ T := by omega
  clear md
  subst mn
  obtain ⟨w1, hw1, hb1, HB1, hz1, HS1⟩ := box2 w (.slice A8 N.length c8) (.slice A9 d.length c9) 50
  have hmk := fun W => run_make1 (P := Tryz.prog) 23 3 (.int .i64 0) 8 Tryz.underlying23 intInfo rfl N.length (by omega) (by omega) W
  obtain ⟨w2, hw2⟩ : ∃ z, z = w1.alloc (.cells (rowOf [] N.length (.int .i64 0)) 3) := ⟨_, rfl⟩
  have hb2 : Below w1.heap.size w1 w2 := by rw [hw2]; exact bl_alloc (Below.refl _ _) _
  have hnum : NumsAt w2 w1.heap.size (List.replicate 0 (-1) ++ List.replicate (N.length - 0) 0) := by
    rw [hw2, bf_zero]
    refine (heap_alloc_new w1 _).trans ?_
    unfold rowOf
    simp [intV]
  obtain ⟨p0, p1, pf⟩ := cells2 HB1
  have e0 := p0
  rw [hw1] at e0
  have HW1 := Lib.hid hw1
  have HW2 := Lib.hid hw2
  have HP0 := Lib.hid p0
  have HP1 := Lib.hid p1
  clear hw1 hw2 p0 p1 pf
  go_enter Tryz.func50, Tryz.ntmps50
  go_wp2_with fail
  rw [← HW1.out, ← HW2.out]
  clear e0 hmk
  obtain ⟨g, hg⟩ : ∃ z, z = w1.heap.size := ⟨_, rfl⟩
  rw [show w.heap.size + 1 = g by rw [hg, HS1.out]]
  rw [← hg] at hnum hb2 hz1
  have HG := Lib.hid hg; clear hg
  have hg1 : w1.heap.size ≤ g := by rw [HG.out]; exact Nat.le_refl _
  have HNU := Lib.hid hnum; clear hnum
  go_loopw [6, 17] (fun _ i wr => BfRel N.length g w2 i wr) (fun _ i _ => N.length - (intOf i).toNat)
  case atStart => exact ⟨0, Nat.zero_le _, rfl, HNU.out, Below.refl _ _⟩
  case round =>
    obtain ⟨j, hj, rfl, hnum, hbl⟩ := hrel
    by_cases hlt : j < N.length
    · have hST := Lib.hid (bf_step hlt)
      have hlen := bf_len hj
      have hx0 : j < (List.replicate j (-1 : Int) ++ List.replicate (N.length - j) 0).length := by omega
      obtain ⟨x, hx⟩ : ∃ x, (List.replicate j (-1 : Int) ++ List.replicate (N.length - j) 0)[j]? = some x := ⟨_, List.getElem?_eq_getElem hx0⟩
      have kc := hnum.cell hx
      have kf := hnum.frozen j
      have HN2 := Lib.hid hnum
      clear hnum hx hx0 hlen
      go_wp2_with fail
      go_roundw
      case rel => exact ⟨j + 1, by omega, by go_num, by have := HN2.out.set j (-1); rw [hST.out] at this; exact this, hbl.setCell (p := ⟨g, j, none⟩) (Nat.le_refl _) _⟩
      case measure => simp [intOf]; omega
    · obtain rfl : j = N.length := by omega
      rw [bf_end] at hnum
      have hnl : q < (List.replicate N.length (-1 : Int)).length := by simpa using hq
      have kc := hnum.cell (i := q) (x := -1) (by rw [List.getElem?_replicate, if_pos hq])
      have kf := hnum.frozen q
      obtain ⟨w3, hw3⟩ : ∃ z, z = wr.setCell ⟨g, q, none⟩ (.int .i64 0) := ⟨_, rfl⟩
      have hn3 : NumsAt w3 g ((List.replicate N.length (-1)).set q 0) := by rw [hw3]; exact hnum.set q 0
      have HBR := Lib.hid (show Below g w1 w3 by rw [hw3]; exact (hb2.trans hbl).setCell (p := ⟨g, q, none⟩) (Nat.le_refl _) _)
      have HN3 := Lib.hid hn3
      have HW3 := Lib.hid hw3
      have HST := Lib.hid (BkTo.start HBD.out hq)
      clear hnum hn3 hw3 HNU hnl
      go_wp2_with fail
      rw [← HW3.out]
      clear kc kf
      go_loopw [7, 8] (fun kv ag wr' => ByRel D N.length g w3 kv ag wr') (fun kv ag wr' => N.length + 2 - (intOf kv).toNat)
      case atStart => exact ⟨_, 0, true, rfl, rfl, HN3.out, HST.out, (fun _ => Nat.zero_le _), Nat.zero_le _, (fun h => by cases h), Below.refl _ _⟩
      case round =>
        obtain ⟨o, k, b, rfl, rfl, hnum, hto, hk1, hk2, hfx, hbl2⟩ := hrel
        have HNO := Lib.hid hnum
        have HTO := Lib.hid hto
        have HBQ := Lib.hid (HBR.out.trans hbl2)
        cases b with
        | false =>
          have HF := Lib.hid (show o = D from hfx rfl)
          clear hnum hto hfx hk1
          go_wp2_with fail
          go_ret
          exact ⟨g, rfl, by rw [← HF.out]; exact HNO.out, by have := hb1.size; omega, bl_trans hb1 (HBQ.out.mono hg1)⟩
        | true =>
          have hkT : k ≤ N.length := hk1 rfl
          have k0 : World.cell? _ ⟨w.heap.size, 0, none⟩ = some (.slice A8 N.length c8) := (HBQ.out.cell (p := ⟨w.heap.size, 0, none⟩) hz1).trans HP0.out
          clear hnum hto hfx hk1
          go_wp2_with fail
          clear k0
          obtain ⟨wp, hwp⟩ : ∃ z, z = wr := ⟨_, rfl⟩
          go_loopw [8, 9, 10, 33] (fun ag _ _ i wr'' => BxRel D k N.length g wr ag i wr'') (fun _ _ _ i _ => N.length - (intOf i).toNat)
          case atStart => exact ⟨o, 0, false, rfl, rfl, Nat.zero_le _, HNO.out, HTO.out, (fun _ x hx => by omega), (fun h => by cases h), Below.refl _ _⟩
          case round =>
            clear HNO HTO
            obtain ⟨o', j, b', rfl, rfl, hj, hnum, hto, hno, hyes, hbl3⟩ := hrel
            have HNO := Lib.hid hnum
            have HTO := Lib.hid hto
            have HNX := Lib.hid hno
            have HYX := Lib.hid hyes
            have HBS := Lib.hid (HBQ.out.trans hbl3)
            have hol : N.length ≤ o'.length ∧ o'.length ≤ N.length := by have := hto.1; have := HBD.out.len; omega
            have hgl := hnum.lt
            by_cases hltj : j < N.length
            · obtain ⟨l, hl⟩ : ∃ l, N[j]? = some l := ⟨_, List.getElem?_eq_getElem hltj⟩
              obtain ⟨ad, rfl, hab, hrow⟩ := HROW.out (by omega)
              obtain ⟨a9, rfl, hab9, hr9⟩ := HROW9.out (by omega)
              obtain ⟨u, hcu, hru⟩ := hrow j l hl
              have hbr : Below w.heap.size w _ := bl_trans hb1 (HBS.out.mono hg1)
              have HRU := Lib.hid ((hru.below hbr).more hbr.size)
              obtain ⟨A5, c5, rfl, -, hcm5, -⟩ := hru.open_
              unfold maxLen at hcm5
              obtain ⟨hl3, hly⟩ := HMR.out l (List.mem_of_getElem? hl)
              have HLY := Lib.hid hly
              have hcr := (hbr.cell (p := ad.add j) (by rw [block_add]; exact hab)).trans hcu
              obtain ⟨c, hc⟩ : ∃ c, d[j]? = some c := ⟨_, List.getElem?_eq_getElem (by omega)⟩
              have hcc := (hbr.cell (p := a9.add j) (by rw [block_add]; exact hab9)).trans (hr9 j c hc)
              have k1 : World.cell? _ ⟨w.heap.size, 1, none⟩ = some (.slice (some a9) d.length c9) := (HBS.out.cell (p := ⟨w.heap.size, 1, none⟩) hz1).trans HP1.out
              obtain ⟨v, hv⟩ : ∃ v, o'[j]? = some v := ⟨_, List.getElem?_eq_getElem (by omega)⟩
              have kc := hnum.cell hv
              have kf := hnum.frozen j
              obtain ⟨hgv, hv1, hv2⟩ := hto.bd HBD.out hv
              have HGV := Lib.hid hgv
              have HC := Lib.hid (show d.getD j false = c from getDa hc)
              have HL := Lib.hid hl
              have hjo : j < o'.length := by omega
              have hjd : j < d.length := by omega
              clear hrow hcu hru hly hl hv hnum hto hno hyes hbr hr9 hc hgv
              by_cases hv0 : 0 ≤ v
              · have HNE := Lib.hid (HTO.out.ne_of_nn (by rw [HGV.out]; exact hv0))
                go_wp2_with fail
                go_roundw
                case rel => exact ⟨o', j + 1, b', rfl, by go_num, by omega, HNO.out, HTO.out.no HNE.out, no_next HNX.out HNE.out, HYX.out, hbl3⟩
                case measure => simp [intOf]; omega
              · cases c with
                | true =>
                  have HNE := Lib.hid (show gd D j ≠ (k : Int) + 1 from fun e => by
                    have := HBD.out.il HIL.out (x := j) (by omega)
                    rw [HC.out] at this; cases this)
                  go_wp2_with fail
                  go_roundw
                  case rel => exact ⟨o', j + 1, b', rfl, by go_num, by omega, HNO.out, HTO.out.no HNE.out, no_next HNX.out HNE.out, HYX.out, hbl3⟩
                  case measure => simp [intOf]; omega
                | false =>
                  have HHAS := Lib.hid (BkTo.has HBD.out HIL.out HIN.out HTO.out HL.out hltj (by rw [HGV.out]; omega) HC.out)
                  have hio := ints_row (B := _) HNO.out (by unfold maxLen; omega) (HTO.out.i64 HBD.out mt) hgl
                  rw [show o'.length = N.length from HTO.out.1.trans HBD.out.len] at hio
                  have HIO := Lib.hid hio
                  clear hio
                  go_wp2_with fail
                  refine (spec_coThrough _ _ o' l _ HIO.out HRU.out (by omega) (fun a ha => by have := HLY.out a ha; omega)).mono ?_
                  rintro e w5 ⟨u5, rfl, ⟨A6, m6, c6, rfl⟩, hu5, hb5⟩
                  have HU5 := Lib.hid hu5; clear hu5
                  have HN5 := Lib.hid (HNO.out.keep (hb5.block g hgl))
                  have HB5 := Lib.hid (hbl3.trans (hb5.mono (by omega)))
                  replace kc := (hb5.cell (p := ⟨g, j, none⟩) hgl).trans kc
                  replace kf := (hb5.frozen (p := ⟨g, j, none⟩) hgl).trans kf
                  cases hh : hasB (l.map fun y => o'.getD y.toNat 0) (k : Int) with
                  | true =>
                    have HEQ := Lib.hid (HHAS.out.1 (propB_iff.1 hh))
                    go_wp2_with fail
                    refine (spec_l1Has _ _ (k : Int) w5 HU5.out).mono ?_
                    rintro e w' ⟨rfl, rfl⟩
                    rw [hh]
                    clear hh
                    go_wp2_with fail
                    go_roundw
                    case rel => exact ⟨o'.set j ((k : Int) + 1), j + 1, true, rfl, by go_num, by omega, HN5.out.set j _, HTO.out.yes (by have := HBD.out.len; omega) HEQ.out, (fun h => by cases h), (fun _ => ⟨j, HEQ.out⟩), HB5.out.setCell (p := ⟨g, j, none⟩) (Nat.le_refl _) _⟩
                    case measure => simp [intOf]; omega
                  | false =>
                    have HNE := Lib.hid (show gd D j ≠ (k : Int) + 1 from fun e => by rw [hasB_t (HHAS.out.2 e)] at hh; cases hh)
                    go_wp2_with fail
                    refine (spec_l1Has _ _ (k : Int) w5 HU5.out).mono ?_
                    rintro e w' ⟨rfl, rfl⟩
                    rw [hh]
                    clear hh
                    go_wp2_with fail
                    go_roundw
                    case rel => exact ⟨o', j + 1, b', rfl, by go_num, by omega, HN5.out, HTO.out.no HNE.out, no_next HNX.out HNE.out, HYX.out, HB5.out⟩
                    case measure => simp [intOf]; omega
            · obtain rfl : j = N.length := by omega
              have HBL := Lib.hid (hbl2.trans hbl3)
              clear hnum hto hno hyes
              go_wp2_with fail
              go_roundw
              case rel =>
                refine ⟨o', k + 1, b', by go_num, rfl, HNO.out, HTO.out.next (by have := HBD.out.len; omega), (fun hb => ?_), by omega, (fun hb => HTO.out.fin HBD.out (HNX.out hb)), HBL.out⟩
                obtain ⟨x, hx⟩ := HYX.out hb
                have := HBD.out.top x
                omega
              case measure => simp [intOf]; omega
end
section
open Go.RowKit
set_option linter.unusedVariables false
set_option linter.unusedSimpArgs false
noncomputable def enB (n : Net) (r d : Int) : Bool := dmB n r d && erB (nxL n r d (prodI (cnts n r)).toNat) (legL n r (prodI (cnts n r)).toNat) (prodI (cnts n r)).toNat
noncomputable def enL (n : Net) (r d : Int) : List Int := if enB n r d = true then erL (nxL n r d (prodI (cnts n r)).toNat) (legL n r (prodI (cnts n r)).toNat) (prodI (cnts n r)).toNat else []
theorem en_f {n : Net} {r d : Int} (h : enB n r d = false) : enL n r d = [] := if_neg (by rw [h]; simp)
theorem en_t {n : Net} {r d : Int} (h : enB n r d = true) : enL n r d = erL (nxL n r d (prodI (cnts n r)).toNat) (legL n r (prodI (cnts n r)).toNat) (prodI (cnts n r)).toNat := if_pos h
theorem enL_bd (n : Net) (r d : Int) : (enL n r d).length ≤ 3001 ∧ ∀ x ∈ enL n r d, I64 x := by
  cases h : enB n r d with
  | false => rw [en_f h]; exact ⟨Nat.zero_le _, fun x hx => nomatch hx⟩
  | true =>
    rw [en_t h]
    unfold enB at h
    rw [Bool.and_eq_true] at h
    obtain ⟨T, hT⟩ := prod_nat h.1
    have hm := map_ok h.1 hT
    rw [hT, Int.toNat_natCast]
    obtain ⟨h1, h2⟩ := er_len (d := legL n r T) hm.in_
    have h3 := hm.t
    exact ⟨by omega, fun x hx => by have := h2 x hx; unfold I64; omega⟩
def EroRel (N : List (List Int)) (dd : List Bool) (T : Nat) (w : World) (i : Value) (wr : World) : Prop := Below w.heap.size w wr ∧ ∃ j : Nat, j ≤ T ∧ i = .int .i64 j ∧ NoTo N dd T j
def ErqRel (N : List (List Int)) (dd : List Bool) (D : List Int) (T j : Nat) (whole : List Int) (base : Nat) (w : World) (ov av : Value) (wr : World) : Prop :=
  ∃ (out l : List Int) (a : Nat), av = .int .i64 a ∧ a < T ∧ wr.ownsRow base 3 1 ov out.length (out.map intV) ∧ Er N dd D j a l ∧ out ++ l = whole ∧ Below base w wr
def EriRel (D bl : List Int) (w : World) (bv i : Value) (wr : World) : Prop := Below w.heap.size w wr ∧ ∃ m : Nat, m ≤ bl.length ∧ i = .int .i64 m ∧ bv = .int .i64 (nrL D (bl.take m))
theorem nr_in {D bl : List Int} {T : Nat} {m : Nat} (h : ∀ y ∈ bl, 0 ≤ y ∧ y < (T : Int)) : -1 ≤ nrL D (bl.take m) ∧ nrL D (bl.take m) < T := nr_bd (by omega) fun y hy => h y (List.mem_of_mem_take hy)
theorem nr_no {D : List Int} {b y : Int} {f : Int} (hf : D.getD y.toNat 0 = f) (h : f < 0 ∨ (0 ≤ b ∧ D.getD b.toNat 0 ≤ f)) : nrS D b y = b := by
  unfold nrS
  rw [if_neg (by rw [hf]; omega)]
theorem nr_yes {D : List Int} {b y : Int} {f : Int} (hf : D.getD y.toNat 0 = f) (h0 : 0 ≤ f) (h : b < 0 ∨ f < D.getD b.toNat 0) : nrS D b y = y := by
  unfold nrS
  rw [if_pos (by rw [hf]; exact ⟨h0, h⟩)]
theorem bkD_bd {N : List (List Int)} {d : List Bool} {T g : Nat} {D : List Int} (h : BkD N d T g D) {x : Nat} (hx : x < T) : ∃ v, D[x]? = some v ∧ D.getD x 0 = v ∧ -1 ≤ v ∧ v < T := by
  have hl : x < D.length := by rw [h.len]; exact hx
  refine ⟨gd D x, (gd_mem hl).2, gd_in hl, h.low x, h.top x⟩
set_option maxRecDepth 100000 in
set_option maxHeartbeats 4000000 in
theorem spec_EndlessRun (ve vi vn : Value) (n : Net) (r d : Int) (w : World) (h : NetR w w.heap.size ve vi vn n) (hz : n.es.length ≤ 2000000) :
    Calls Tryz.prog 27 #[.agg #[ve, vi, vn], .int .i64 r, .int .i64 d] w fun e w' => ∃ u, e = .returned (.tuple #[u, .bool (enB n r d)]) ∧ (∃ A m c, u = .slice A m c) ∧ IntsR w' w'.heap.size u (enL n r d) ∧ Below w.heap.size w w' := by
  have HEB := Lib.hid (enL_bd n r d)
  obtain ⟨⟨A0, m0, c0, rfl⟩, ⟨A1, m1, c1, rfl⟩, A2, m2, c2, rfl⟩ := h.slices
  obtain ⟨w0, hw0, hB, HD, hz0, HS0⟩ := box3 w (.slice A0 m0 c0) (.slice A1 m1 c1) (.slice A2 m2 c2) 31
  have HN0 := Lib.hid h; have HN := Lib.hid (h.up hB); clear h
  have HW0 := Lib.hid hw0; clear hw0
  obtain ⟨q0, q1, q2, qf⟩ := cells3 HD
  go_enter Tryz.func27, Tryz.ntmps27
  go_wp2_with fail
  rw [← HW0.out]
  refine (spec_cvDaemons _ _ _ n r d w0 HN.out hz).mono ?_
  rintro e w1 ⟨rfl, hb1⟩
  have hzhb1 := hb1.size
  clear q0 q1 q2 qf
  replace HD := bk HD hb1
  replace HN := Lib.hid (HN.out.up hb1)
  replace hB := bl_trans hB hb1
  obtain ⟨q0, q1, q2, qf⟩ := cells3 HD
  cases h1 : dmB n r d with
  | false =>
    have HF := Lib.hid (show enB n r d = false by unfold enB; rw [h1]; rfl)
    go_wp2_with fail
    go_ret2
    exact ⟨_, ret2b HF.out.symm, ⟨_, _, _, rfl⟩, by rw [en_f HF.out]; exact ints_nil _ _, hB⟩
  | true =>
    have HQ := Lib.hid h1
    obtain ⟨T, hT⟩ := prod_nat h1
    have HT := Lib.hid hT
    have HF := Lib.hid (show enB n r d = erB (nxL n r d T) (legL n r T) T by unfold enB; rw [h1, hT]; rfl)
    have HM := Lib.hid (map_ok h1 hT)
    have HL := Lib.hid (fun hb : enB n r d = true => show enL n r d = erL (nxL n r d T) (legL n r T) T by rw [en_t hb, hT]; rfl)
    clear hT
    go_wp2_with fail
    refine (spec_cvAll _ _ _ n r d T w1 HN.out HQ.out HT.out).mono ?_
    rintro e w2 ⟨nv, lv, rfl, hn, hd, hb2⟩
    have hzhb2 := hb2.size
    clear q0 q1 q2 qf
    replace HD := bk HD hb2
    replace HN := Lib.hid (HN.out.up hb2)
    replace hB := bl_trans hB hb2
    obtain ⟨q0, q1, q2, qf⟩ := cells3 HD
    generalize nxL n r d T = N at *
    generalize legL n r T = dd at *
    obtain ⟨A8, c8, rfl, -, -, -⟩ := hn.open_
    obtain ⟨A9, c9, rfl, -, -, -⟩ := hd.open_
    have hT3 := HM.out.t
    obtain ⟨w3, hw3, hb3, HB3, hz3, HS3⟩ := box2 w2 (.slice A8 N.length c8) (.slice A9 dd.length c9) 50
    have HNV := Lib.hid ((hn.below hb3).more hb3.size)
    have HLV := Lib.hid ((hd.below hb3).more hb3.size)
    have hB3 := bl_trans hB hb3
    obtain ⟨p0, p1, pf⟩ := cells2 HB3
    have e0 := p0
    have e1 := p1
    rw [hw3] at e0 e1
    have HW3 := Lib.hid hw3
    clear hn hd hw3 q0 q1 q2 qf
    go_wp2_with fail
    rw [← HW3.out]
    clear e0 e1
    refine (spec_peel _ _ N dd T w3 HNV.out HLV.out HM.out).mono ?_
    rintro e w4 ⟨g, rfl, hnum, hg, hlo, hb4⟩
    have HNU := Lib.hid hnum
    have hgl := hnum.lt
    have hb34 := hb4.size
    have HP0 := Lib.hid ((hb4.cell (p := ⟨w2.heap.size, 0, none⟩) hz3).trans p0)
    have HP1 := Lib.hid ((hb4.cell (p := ⟨w2.heap.size, 1, none⟩) hz3).trans p1)
    replace HNV := Lib.hid ((HNV.out.below hb4).more hb4.size)
    replace HLV := Lib.hid ((HLV.out.below hb4).more hb4.size)
    have hB4 := bl_trans hB3 hb4
    clear hnum hlo p0 p1 pf
    go_wp2_with fail
    go_loopw [29] (fun i wr => EroRel N dd T w4 i wr) (fun i _ => T - (intOf i).toNat)
    case atStart => exact ⟨Below.refl _ _, 0, Nat.zero_le _, rfl, fun x hx => by omega⟩
    case round =>
      obtain ⟨hbl, j, hj, rfl, hno⟩ := hrel
      have HNO := Lib.hid hno; clear hno
      have HBR := Lib.hid (bl_trans hB4 hbl)
      have hsz := hbl.size
      by_cases hlt : j < T
      · have kc := (HNU.out.keep (hbl.block g hgl)).cell (rkL_at (N := N) (d := dd) hlt)
        have k0 := (hbl.cell (p := ⟨w2.heap.size, 0, none⟩) (by show w2.heap.size < w4.heap.size; omega)).trans HP0.out
        have k1 := (hbl.cell (p := ⟨w2.heap.size, 1, none⟩) (by show w2.heap.size < w4.heap.size; omega)).trans HP1.out
        have hrl : j < (rkL N dd T).length := by rw [rkL_len]; exact hlt
        have HREF := Lib.hid (cyc_ref (d := dd) HM.out.in_ hlt)
        generalize rkV N dd j = rk at *
        by_cases hrk : 0 ≤ rk
        · have HNX := Lib.hid (HNO.out.next fun hc => by have := (HREF.out.1 hc).1; omega)
          go_wp2_with fail
          go_roundw
          case rel => exact ⟨hbl, j + 1, by omega, by go_num, HNX.out⟩
          case measure => simp [intOf]; omega
        · go_wp2_with fail
          refine (spec_around _ _ N dd T j _ ((HNV.out.below hbl).more hbl.size) ((HLV.out.below hbl).more hbl.size) HM.out hlt).mono ?_
          rintro e w6 ⟨g6, s, rfl, hbits, hsl, hiff, hb6⟩
          have hbl6 := bl_trans hbl hb6
          have HBR6 := Lib.hid (bl_trans HBR.out hb6)
          obtain ⟨b, hb⟩ : ∃ b, s[j]? = some b := ⟨_, List.getElem?_eq_getElem (by omega)⟩
          have hcb := hbits.cell hb
          have HAF := Lib.hid (show b = true ↔ Aft N dd T j j by rw [← hiff j, getDa hb])
          replace k0 := (hb6.cell (p := ⟨w2.heap.size, 0, none⟩) (by show w2.heap.size < _; omega)).trans k0
          replace k1 := (hb6.cell (p := ⟨w2.heap.size, 1, none⟩) (by show w2.heap.size < _; omega)).trans k1
          have hz6 := hb6.size
          clear hbits hb hiff kc
          cases b with
          | false =>
            have HNX := Lib.hid (HNO.out.next fun hc => by have := HAF.out.2 (HREF.out.1 hc).2; cases this)
            go_wp2_with fail
            go_roundw
            case rel => exact ⟨hbl6, j + 1, by omega, by go_num, HNX.out⟩
            case measure => simp [intOf]; omega
          | true =>
            have hcyc := HREF.out.2 ⟨by omega, HAF.out.1 rfl⟩
            obtain ⟨l0, hl0, hll⟩ := cyc_er HM.out.in_ hlt hcyc
            obtain ⟨hf1, hf2⟩ := HNO.out.some hlt hcyc hl0
            have HE := Lib.hid (show enB n r d = true from HF.out.trans hf2)
            have HW := Lib.hid (show enL n r d = (j : Int) :: l0 from (HL.out HE.out).trans hf1)
            have HIL := Lib.hid hcyc.1
            have HBD := Lib.hid (bk_ok (N := N) (d := dd) hlt)
            have HER := Lib.hid hl0
            clear hcyc hl0 hf1 hf2
            go_wp2_with fail
            refine (spec_back _ _ N dd T j w6 ((HNV.out.below hbl6).more hbl6.size) ((HLV.out.below hbl6).more hbl6.size) HM.out hlt HIL.out).mono ?_
            rintro e w7 ⟨g7, rfl, hnum7, hg7, hb7⟩
            generalize bkL N dd T j = D at *
            have hbl7 := bl_trans hbl6 hb7
            have HBR7 := Lib.hid (bl_trans HBR6.out hb7)
            have HN7 := Lib.hid hnum7
            have hgl7 := hnum7.lt
            have hz7 := hb7.size
            replace k0 := (hb7.cell (p := ⟨w2.heap.size, 0, none⟩) (by show w2.heap.size < _; omega)).trans k0
            replace k1 := (hb7.cell (p := ⟨w2.heap.size, 1, none⟩) (by show w2.heap.size < _; omega)).trans k1
            obtain ⟨w8, hw8⟩ : ∃ z, z = w7.alloc (.cells #[.int .i64 (j : Int)] 3) := ⟨_, rfl⟩
            have hb8 : Below w7.heap.size w7 w8 := by rw [hw8]; exact bl_alloc (Below.refl _ _) _
            have hz8 : w7.heap.size < w8.heap.size := by rw [hw8]; simp
            have HO8 := Lib.hid (ownA3 (show w8.heap[w7.heap.size]? = some (.cells #[.int .i64 (j : Int)] 3 (0, 0)) by rw [hw8]; exact heap_alloc_new w7 _) (Nat.le_refl _))
            have HK0 := Lib.hid ((hb8.cell (p := ⟨w2.heap.size, 0, none⟩) (by show w2.heap.size < _; omega)).trans k0)
            have HK1 := Lib.hid ((hb8.cell (p := ⟨w2.heap.size, 1, none⟩) (by show w2.heap.size < _; omega)).trans k1)
            have HN8 := Lib.hid (hnum7.keep (hb8.block g7 hgl7))
            have hbl8 := bl_trans hbl7 hb8
            have HBR8 := Lib.hid (bl_trans HBR7.out hb8)
            have HW8 := Lib.hid hw8
            clear hw8 hnum7 k0 k1
            go_wp2_with fail
            rw [← HW8.out]
            obtain ⟨whole, hwh⟩ : ∃ z, z = (j : Int) :: l0 := ⟨_, rfl⟩
            have hwl : whole.length ≤ 3001 := by rw [hwh, List.length_cons]; omega
            have HWH := Lib.hid (show [(j : Int)] ++ l0 = whole from hwh.symm)
            rw [← hwh] at HW
            clear hwh hll
            go_loopw [12, 13] (fun ov av wr' => ErqRel N dd D T j whole w7.heap.size w8 ov av wr') (fun ov _ _ => whole.length + 1 - lenOf ov)
            case atStart => exact ⟨[(j : Int)], l0, j, rfl, hlt, HO8.out, HER.out, HWH.out, Below.refl _ _⟩
            case round =>
              obtain ⟨out, l, a, rfl, haT, hown, her, hwo, hblq⟩ := hrel
              have HOW := Lib.hid hown
              have HEA := Lib.hid her
              have HWO := Lib.hid hwo
              have hol : out.length ≤ whole.length := by rw [← hwo, List.length_append]; omega
              have hlo := (show lenOf u12 = out.length by obtain ⟨A, c, e⟩ := own_sl hown; rw [e]; rfl)
              have hszq := hblq.size
              have hbq := hbl8.trans (hblq.mono (by omega))
              have m0 := (hblq.cell (p := ⟨w2.heap.size, 0, none⟩) (by show w2.heap.size < _; omega)).trans HK0.out
              have m1 := (hblq.cell (p := ⟨w2.heap.size, 1, none⟩) (by show w2.heap.size < _; omega)).trans HK1.out
              have HNQ := Lib.hid (HN8.out.keep (hblq.block g7 hgl7))
              have HBQ := Lib.hid (HBR8.out.trans (hblq.mono (by have := HBR7.out.size; omega)))
              have hbd := fun y (hy : y ∈ badL N dd a) => HM.out.in_.bad hy
              have HBDL := Lib.hid hbd
              have hbln := badL_len HM.out haT
              obtain ⟨Ao, co, rfl⟩ := own_sl hown
              clear hown her hwo hbd
              go_wp2_with fail
              refine (spec_bad _ _ N dd T a _ ((HNV.out.below hbq).more hbq.size) ((HLV.out.below hbq).more hbq.size) HM.out haT).mono ?_
              rintro e w9 ⟨v9, rfl, hown9, hb9⟩
              have HO9 := Lib.hid hown9
              have HOW9 := Lib.hid (kept_below HOW.out hb9)
              have HN9 := Lib.hid (HNQ.out.keep (hb9.block g7 (by omega)))
              have HB9 := Lib.hid (bl_trans HBQ.out hb9)
              have hz9 := hb9.size
              have hbl9 := hblq.trans (hb9.mono (by omega))
              obtain ⟨A9', c9', rfl⟩ := own_sl hown9
              obtain ⟨bl, hbl'⟩ : ∃ z, z = badL N dd a := ⟨_, rfl⟩
              rw [← hbl'] at HO9 HBDL hbln ⊢
              have HBLE := Lib.hid hbl'
              clear hown9 hbl'
              go_wp2_with fail
              go_loopw [14, 55] (fun bv i wr'' => EriRel D bl w9 bv i wr'') (fun _ i _ => bl.length - (intOf i).toNat)
              case atStart => exact ⟨Below.refl _ _, 0, Nat.zero_le _, rfl, rfl⟩
              case round =>
                obtain ⟨hbli, m, hm, rfl, rfl⟩ := hrel
                have hnr := nr_in (D := D) (m := m) HBDL.out
                by_cases hltm : m < bl.length
                · obtain ⟨y, hy⟩ : ∃ y, bl[m]? = some y := ⟨_, List.getElem?_eq_getElem hltm⟩
                  obtain ⟨hy0, hy1⟩ := HBDL.out y (List.mem_of_getElem? hy)
                  obtain ⟨yn, rfl⟩ : ∃ yn : Nat, y = yn := ⟨y.toNat, by omega⟩
                  have HNT := Lib.hid (nr_take (D := D) hy)
                  obtain ⟨bb, hbb⟩ : ∃ z, z = nrL D (bl.take m) := ⟨_, rfl⟩
                  rw [← hbb] at HNT hnr ⊢
                  clear hbb
                  obtain ⟨f, hf, hfg, hf0, hfT⟩ := bkD_bd HBD.out (x := yn) (by omega)
                  have HFG := Lib.hid (show D.getD ((yn : Nat) : Int).toNat 0 = f by rw [Int.toNat_natCast]; exact hfg)
                  have HNI := Lib.hid (HN9.out.keep (hbli.block g7 (by omega)))
                  have ky := HNI.out.cell hf
                  have hDl : T ≤ D.length ∧ D.length ≤ T := by have := HBD.out.len; omega
                  have hyD : yn < T := by omega
                  rcases own_cases HO9.out with ⟨e, e'⟩ | ⟨gb, c', e, hgb1, hgb2, hcc⟩
                  · rw [e'] at hltm; simp at hltm
                  · cases e
                    have kb := (hbli.cell (p := ⟨gb, m, none⟩) hgb2).trans (hcc m _ hy)
                    clear hcc hy hf hfg
                    by_cases hf1 : f < 0
                    · have hf4 : decide (0 ≤ f) = false := decide_eq_false (by omega)
                      have hf5 : decide (f ≥ 0) = false := decide_eq_false (by omega)
                      have hf6 : (f ≥ 0) = False := eq_false (by omega)
                      have HNS := Lib.hid (show nrL D (bl.take (m + 1)) = bb by rw [HNT.out]; exact nr_no HFG.out (.inl hf1))
                      go_wp2_with fail
                      refine wp_region_held_drew (S := fun w' => w'.cell? ⟨g7, yn, none⟩ = some (.int .i64 f)) (by kernel_rfl) ?_ (fun hHeld => ?_)
                      · go_keep
                      refine tk 0 59 rfl rfl ?_
                      try simp only [Act.put, pu]
                      refine tk 1 60 rfl rfl ?_
                      try simp only [Act.put, pu]
                      refine tk 2 61 rfl rfl ?_
                      try simp only [Act.put, pu]
                      refine tk 3 62 rfl rfl ?_
                      try simp only [Act.put, pu]
                      refine tk 4 63 rfl rfl ?_
                      try simp only [Act.put, pu]
                      refine tk 5 64 rfl rfl ?_
                      try simp only [Act.put, pu]
                      refine tn 6 65 rfl rfl ?_
                      try simp only [Act.put, pu]
                      refine tn 7 66 rfl rfl ?_
                      try simp only [Act.put, pu]
                      refine tn 8 67 rfl rfl ?_
                      try simp only [Act.put, pu]
                      refine tn 9 68 rfl rfl ?_
                      try simp only [Act.put, pu]
                      refine tn 10 69 rfl rfl ?_
                      try simp only [Act.put, pu]
                      refine tn 11 70 rfl rfl ?_
                      try simp only [Act.put, pu]
                      refine tn 12 71 rfl rfl ?_
                      try simp only [Act.put, pu]
                      refine tn 13 72 rfl rfl ?_
                      try simp only [Act.put, pu]
                      refine tn 14 73 rfl rfl ?_
                      try simp only [Act.put, pu]
                      refine tn 15 74 rfl rfl ?_
                      try simp only [Act.put, pu]
                      refine tn 16 75 rfl rfl ?_
                      try simp only [Act.put, pu]
                      refine tn 17 76 rfl rfl ?_
                      try simp only [Act.put, pu]
                      refine tn 18 77 rfl rfl ?_
                      try simp only [Act.put, pu]
                      refine tk 19 78 rfl rfl ?_
                      try simp only [Act.put, pu]
                      refine wpAnyH_done (by kernel_rfl) ?_ _
                      go_wp2_with fail
                      go_roundw
                      case rel => exact ⟨bl_drewN hbli _, m + 1, by omega, by go_num, by rw [HNS.out]⟩
                      case measure => simp [intOf]; omega
                    · by_cases hb0 : bb < 0
                      · skip
                        have HNS := Lib.hid (show nrL D (bl.take (m + 1)) = ((yn : Nat) : Int) by rw [HNT.out]; exact nr_yes HFG.out (by omega) (.inl hb0))
                        go_wp2_with fail
                        refine wp_region_held_drew (S := fun w' => w'.cell? ⟨g7, yn, none⟩ = some (.int .i64 f)) (by kernel_rfl) ?_ (fun hHeld => ?_)
                        · go_keep
                        refine tk 0 59 rfl rfl ?_
                        try simp only [Act.put, pu]
                        refine tk 1 60 rfl rfl ?_
                        try simp only [Act.put, pu]
                        refine tk 2 61 rfl rfl ?_
                        try simp only [Act.put, pu]
                        refine tk 3 62 rfl rfl ?_
                        try simp only [Act.put, pu]
                        refine tk 4 63 rfl rfl ?_
                        try simp only [Act.put, pu]
                        refine tk 5 64 rfl rfl ?_
                        try simp only [Act.put, pu]
                        refine tk 6 65 rfl rfl ?_
                        try simp only [Act.put, pu]
                        refine tk 7 66 rfl rfl ?_
                        try simp only [Act.put, pu]
                        refine tk 8 67 rfl rfl ?_
                        try simp only [Act.put, pu]
                        refine tn 9 68 rfl rfl ?_
                        try simp only [Act.put, pu]
                        refine tn 10 69 rfl rfl ?_
                        try simp only [Act.put, pu]
                        refine tn 11 70 rfl rfl ?_
                        try simp only [Act.put, pu]
                        refine tn 12 71 rfl rfl ?_
                        try simp only [Act.put, pu]
                        refine tn 13 72 rfl rfl ?_
                        try simp only [Act.put, pu]
                        refine tn 14 73 rfl rfl ?_
                        try simp only [Act.put, pu]
                        refine tn 15 74 rfl rfl ?_
                        try simp only [Act.put, pu]
                        refine tn 16 75 rfl rfl ?_
                        try simp only [Act.put, pu]
                        refine tn 17 76 rfl rfl ?_
                        try simp only [Act.put, pu]
                        refine tk 18 77 rfl rfl ?_
                        try simp only [Act.put, pu]
                        refine tk 19 78 rfl rfl ?_
                        try simp only [Act.put, pu]
                        refine wpAnyH_done (by kernel_rfl) ?_ _
                        go_wp2_with fail
                        go_roundw
                        case rel => exact ⟨bl_drewN hbli _, m + 1, by omega, by go_num, by rw [HNS.out]⟩
                        case measure => simp [intOf]; omega
                      · obtain ⟨bn, rfl⟩ : ∃ bn : Nat, bb = bn := ⟨bb.toNat, by omega⟩
                        obtain ⟨fb, hfb, hfbg, hfb0, hfbT⟩ := bkD_bd HBD.out (x := bn) (by omega)
                        have HFB := Lib.hid (show D.getD ((bn : Nat) : Int).toNat 0 = fb by rw [Int.toNat_natCast]; exact hfbg)
                        have kbn := HNI.out.cell hfb
                        have hbT : bn < T := by omega
                        clear hfb hfbg
                        by_cases hlf : f < fb
                        · skip
                          have HNS := Lib.hid (show nrL D (bl.take (m + 1)) = ((yn : Nat) : Int) by rw [HNT.out]; exact nr_yes HFG.out (by omega) (.inr (by rw [HFB.out]; exact hlf)))
                          go_wp2_with fail
                          refine wp_region_held_drew (S := fun w' => w'.cell? ⟨g7, yn, none⟩ = some (.int .i64 f) ∧ w'.cell? ⟨g7, bn, none⟩ = some (.int .i64 fb)) (by kernel_rfl) ?_ (fun hHeld => ?_)
                          · go_keep
                          refine tk 0 59 rfl rfl ?_
                          try simp only [Act.put, pu]
                          refine tk 1 60 rfl rfl ?_
                          try simp only [Act.put, pu]
                          refine tk 2 61 rfl rfl ?_
                          try simp only [Act.put, pu]
                          refine tk 3 62 rfl rfl ?_
                          try simp only [Act.put, pu]
                          refine tk 4 63 rfl rfl ?_
                          try simp only [Act.put, pu]
                          refine tk 5 64 rfl rfl ?_
                          try simp only [Act.put, pu]
                          refine tk 6 65 rfl rfl ?_
                          try simp only [Act.put, pu]
                          refine tk 7 66 rfl rfl ?_
                          try simp only [Act.put, pu]
                          refine tk 8 67 rfl rfl ?_
                          try simp only [Act.put, pu]
                          refine tk 9 68 rfl rfl ?_
                          try simp only [Act.put, pu]
                          refine tk 10 69 rfl rfl ?_
                          try simp only [Act.put, pu]
                          refine tk 11 70 rfl rfl ?_
                          try simp only [Act.put, pu]
                          refine tk 12 71 rfl rfl ?_
                          try simp only [Act.put, pu]
                          refine tk 13 72 rfl rfl ?_
                          try simp only [Act.put, pu]
                          refine tk 14 73 rfl rfl ?_
                          try simp only [Act.put, pu]
                          refine tk 15 74 rfl rfl ?_
                          try simp only [Act.put, pu]
                          refine tk 16 75 rfl rfl ?_
                          try simp only [Act.put, pu]
                          refine tk 17 76 rfl rfl ?_
                          try simp only [Act.put, pu]
                          refine tk 18 77 rfl rfl ?_
                          try simp only [Act.put, pu]
                          refine tk 19 78 rfl rfl ?_
                          try simp only [Act.put, pu]
                          refine wpAnyH_done (by kernel_rfl) ?_ _
                          go_wp2_with fail
                          go_roundw
                          case rel => exact ⟨bl_drewN hbli _, m + 1, by omega, by go_num, by rw [HNS.out]⟩
                          case measure => simp [intOf]; omega
                        · skip
                          have HNS := Lib.hid (show nrL D (bl.take (m + 1)) = ((bn : Nat) : Int) by rw [HNT.out]; exact nr_no HFG.out (.inr ⟨by omega, by rw [HFB.out]; omega⟩))
                          go_wp2_with fail
                          refine wp_region_held_drew (S := fun w' => w'.cell? ⟨g7, yn, none⟩ = some (.int .i64 f) ∧ w'.cell? ⟨g7, bn, none⟩ = some (.int .i64 fb)) (by kernel_rfl) ?_ (fun hHeld => ?_)
                          · go_keep
                          refine tk 0 59 rfl rfl ?_
                          try simp only [Act.put, pu]
                          refine tk 1 60 rfl rfl ?_
                          try simp only [Act.put, pu]
                          refine tk 2 61 rfl rfl ?_
                          try simp only [Act.put, pu]
                          refine tk 3 62 rfl rfl ?_
                          try simp only [Act.put, pu]
                          refine tk 4 63 rfl rfl ?_
                          try simp only [Act.put, pu]
                          refine tk 5 64 rfl rfl ?_
                          try simp only [Act.put, pu]
                          refine tk 6 65 rfl rfl ?_
                          try simp only [Act.put, pu]
                          refine tk 7 66 rfl rfl ?_
                          try simp only [Act.put, pu]
                          refine tk 8 67 rfl rfl ?_
                          try simp only [Act.put, pu]
                          refine tk 9 68 rfl rfl ?_
                          try simp only [Act.put, pu]
                          refine tk 10 69 rfl rfl ?_
                          try simp only [Act.put, pu]
                          refine tk 11 70 rfl rfl ?_
                          try simp only [Act.put, pu]
                          refine tk 12 71 rfl rfl ?_
                          try simp only [Act.put, pu]
                          refine tk 13 72 rfl rfl ?_
                          try simp only [Act.put, pu]
                          refine tk 14 73 rfl rfl ?_
                          try simp only [Act.put, pu]
                          refine tk 15 74 rfl rfl ?_
                          try simp only [Act.put, pu]
                          refine tk 16 75 rfl rfl ?_
                          try simp only [Act.put, pu]
                          refine tk 17 76 rfl rfl ?_
                          try simp only [Act.put, pu]
                          refine tk 18 77 rfl rfl ?_
                          try simp only [Act.put, pu]
                          refine tk 19 78 rfl rfl ?_
                          try simp only [Act.put, pu]
                          refine wpAnyH_done (by kernel_rfl) ?_ _
                          go_wp2_with fail
                          go_roundw
                          case rel => exact ⟨bl_drewN hbli _, m + 1, by omega, by go_num, by rw [HNS.out]⟩
                          case measure => simp [intOf]; omega
                · obtain rfl : m = bl.length := by omega
                  rw [List.take_length]
                  have HOW3 := Lib.hid (kept_below HOW9.out hbli)
                  have HB3 := Lib.hid (bl_trans HB9.out hbli)
                  have hbl3 := hbl9.trans (hbli.mono (by omega))
                  have hz3 := hbli.size
                  have hwz := Nat.le_trans (show w7.heap.size ≤ w9.heap.size by omega) hz3
                  have her := HEA.out
                  have hebd := her.bd HM.out.in_
                  cases her with
                  | stop h =>
                    rw [← HBLE.out] at h
                    rw [h]
                    have HFO := Lib.hid (show IntsR _ _ _ (enL n r d) from by
                      have h1 := HOW3.out
                      have h2 := HWO.out
                      rw [List.append_nil] at h2
                      have h3 := HEB.out.2
                      rw [HW.out] at h3
                      rw [HW.out, ← h2]
                      rw [← h2] at h3
                      exact own_intsR h1 h3)
                    clear h hnr hebd
                    go_wp2_with fail
                    go_ret2
                    exact ⟨_, ret2b HE.out.symm, ⟨_, _, _, rfl⟩, HFO.out, HB3.out⟩
                  | go h hne hr =>
                    rename_i b l'
                    rw [← HBLE.out] at h
                    rw [h]
                    have hbT := (hebd _ List.mem_cons_self).2
                    have hbj : (((b : Nat) : Int) == (j : Int)) = false := by rw [beq_eq_false_iff_ne]; omega
                    have HRR := Lib.hid hr
                    have hwl2 : out.length + 1 ≤ whole.length := by rw [← HWO.out, List.length_append, List.length_cons]; omega
                    clear h hnr hebd hr
                    go_wp2_with ((at_builtin; refine wpList_append1 _ rfl (.tmp 85) (.tmp 87) 23 rfl w7.heap.size 3 _ 8 Tryz.underlying23 intInfo rfl _ _ _ rfl _ rfl rfl HOW3.out (by unfold maxLen; omega) (by omega) hwz ?_; intro v' w' hown' hbl' hgr' hlt' hob'))
                    go_roundw
                    case rel => exact ⟨out ++ [((b : Nat) : Int)], l', b, rfl, by omega, by rw [List.length_append, List.map_append]; exact hown', HRR.out, by rw [List.append_assoc]; exact HWO.out, hbl3.trans hbl'⟩
                    case measure =>
                      obtain ⟨A, c, e⟩ := own_sl hown'
                      rw [e]
                      show whole.length + 1 - (out.length + 1) < whole.length + 1 - out.length
                      omega
      · obtain rfl : j = T := by omega
        obtain ⟨hf1, hf2⟩ := HNO.out.none
        have HE := Lib.hid (show enB n r d = false from HF.out.trans hf2)
        clear hf1 hf2
        go_wp2_with fail
        go_ret2
        exact ⟨_, ret2b HE.out.symm, ⟨_, _, _, rfl⟩, by rw [en_f HE.out]; exact ints_nil _ _, HBR.out⟩
end
end Go.Proofs.YthfgklckmedggaaGreat
