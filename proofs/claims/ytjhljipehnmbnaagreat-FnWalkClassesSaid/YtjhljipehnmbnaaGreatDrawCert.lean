/-
  The draws of certificates of walk problems: DrawCheckWalkCertificate, whatever the bytes are.
-/
import Derived.Test.YtjhljipehnmbnaaGreatDrawA
import Derived.Test.YtjhljipehnmbnaaGreatPlainOK
import Derived.Test.YtjhljipehnmbnaaGreatCwTS
namespace Go.Proofs.YtjhljipehnmbnaaGreat
open Go.RowKit
set_option linter.unusedVariables false
set_option linter.unusedSimpArgs false
/-! ### plain -/
theorem certP_bd {n : Nat} {xss : List (List Int)} {cl lb : Int} {f s : List Int} {rs : List (List Int)} (hg : Good n xss) (h : certP n xss cl lb f s rs) : f.length ≤ 200 ∧ s.length ≤ 200 ∧ rs.length ≤ 12 ∧ (∀ r ∈ rs, r.length = 3) ∧ 0 ≤ lb ∧ lb ≤ 12 := by
  have hn : (1 : Int) ≤ n ∧ (n : Int) ≤ 12 := by have := hg.1; unfold inB at this; simpa using this
  have hlb : inB lb 0 ((n : Int) - 1) = true → 0 ≤ lb ∧ lb ≤ 12 := fun h => by unfold inB at h; simp at h; omega
  have hcl : ∀ {l : List Int} {a : Int}, closedP n xss l a → l.length ≤ 200 := fun h => by have := h.1; unfold inB at this; simp at this; omega
  have hrk : ∀ {ar : Bool}, RanksP ar n xss rs → rs.length ≤ 12 ∧ ∀ r ∈ rs, r.length = 3 := fun h => ⟨by have := h.1; omega, fun r hr => by
    obtain ⟨i, hi⟩ := List.mem_iff_getElem?.1 hr
    exact (h.2.1 i r (List.getElem?_eq_some_iff.1 hi).1 hi).1⟩
  rcases h with ⟨_, h1, h2, _⟩ | ⟨_, h1, h2, _, h3, h4, _⟩ | ⟨_, h1, h2, h3, h4⟩ | ⟨_, h1, h2, h3⟩
  · have := hlb h1
    obtain rfl : rs = [] := List.eq_nil_of_length_eq_zero (by omega)
    exact ⟨by omega, by omega, by simp, fun r hr => (by cases hr), by omega, by omega⟩
  · have := hlb h1
    have e1 := hcl h3
    have e2 := hcl h4
    obtain rfl : rs = [] := List.eq_nil_of_length_eq_zero h2
    exact ⟨by omega, by omega, by simp, fun r hr => (by cases hr), by omega, by omega⟩
  · have := hlb h1
    have e1 := hcl h3
    have e2 := hrk h4
    exact ⟨by omega, by omega, e2.1, e2.2, by omega, by omega⟩
  · have e2 := hrk h3
    exact ⟨by omega, by omega, e2.1, e2.2, by omega, by omega⟩
/-! ### memory -/
theorem OwnInts.poke {w : World} {e : TypeId} {v : Value} {xs : List Int} {bs : List Nat} (h : OwnInts w e v xs bs) {g l c i : Nat} {x : Int} (hv : v = .slice (some ⟨g, 0, none⟩) l c) (hi : i < xs.length) (hx : I64 x) :
    OwnInts (w.setCell ⟨g, i, none⟩ (.int .i64 x)) e v (xs.set i x) bs ∧ g ∈ bs := by
  obtain ⟨h1, h2⟩ := h
  rcases h1 with ⟨h1, _⟩ | ⟨g', c', cur, h1, h3, h4, h5, h6, h7, h8⟩
  · have : xs = [] := by simpa using h1
    subst this; simp at hi
  · rw [hv] at h1
    obtain ⟨e1, -, -⟩ := Value.slice.inj h1
    obtain rfl : g = g' := by have := Option.some.inj e1; exact (Addr.mk.inj this).1
    refine ⟨⟨.inr ⟨g, c', cur.setIfInBounds i (.int .i64 x), ?_, by simpa using h3, h4, heap_set_same h5 _, by simpa using h6, ?_, h8⟩, fun y hy => ?_⟩, by rw [h8]; simp⟩
    · rw [hv, h1]; simp
    · rw [Array.toList_setIfInBounds, List.length_map, List.length_set, List.take_set, ← List.length_map (f := intV), h7, List.map_set]; rfl
    · rcases List.mem_or_eq_of_mem_set hy with h | rfl
      · exact h2 y h
      · exact hx
theorem OwnAll.poke {w : World} {e : TypeId} {g l c i : Nat} {x : Int} (hx : I64 x) : ∀ {vs : List Value} {xss : List (List Int)} {bs : List Nat} (_ : OwnAll w e vs xss bs) (_ : bs.Nodup) {k : Nat} {xs : List Int}, vs[k]? = some (.slice (some ⟨g, 0, none⟩) l c) → xss[k]? = some xs → i < xs.length →
    ∃ yss, OwnAll (w.setCell ⟨g, i, none⟩ (.int .i64 x)) e vs yss bs ∧ yss.length = xss.length ∧ g ∈ bs ∧ ((∀ r ∈ xss, r.length = 3) → ∀ r ∈ yss, r.length = 3)
  | [], _, _, _, _, _, _, h, _, _ => by simp at h
  | v :: vs, xs0 :: xss, _, ⟨b1, b2, h1, h2, rfl⟩, hnd, 0, xs, hv, hxs, hi => by
    have hv' : v = .slice (some ⟨g, 0, none⟩) l c := by simpa using hv
    have hxs' : xs0 = xs := by simpa using hxs
    subst hxs'
    obtain ⟨p1, p2⟩ := h1.poke hv' hi hx
    have hd := (List.nodup_append.1 hnd).2.2
    refine ⟨xs0.set i x :: xss, ⟨b1, b2, p1, h2.keep fun b hb => Below.heap_setCell _ _ _ _ (fun e => hd g p2 b hb e.symm), rfl⟩, by simp, by simp [p2], fun h3 r hr => ?_⟩
    rcases List.mem_cons.1 hr with rfl | hr
    · rw [List.length_set]; exact h3 _ (by simp)
    · exact h3 r (by simp [hr])
  | v :: vs, xs0 :: xss, _, ⟨b1, b2, h1, h2, rfl⟩, hnd, k + 1, xs, hv, hxs, hi => by
    obtain ⟨yss, q1, q2, q3, q4⟩ := h2.poke hx (List.nodup_append.1 hnd).2.1 (k := k) (by simpa using hv) (by simpa using hxs) hi
    have hd := (List.nodup_append.1 hnd).2.2
    refine ⟨xs0 :: yss, ⟨b1, b2, h1.keep fun b hb => Below.heap_setCell _ _ _ _ (fun e => hd b hb g q3 e), q1, rfl⟩, by simp [q2], by simp [q3], fun h3 r hr => ?_⟩
    rcases List.mem_cons.1 hr with rfl | hr
    · exact h3 _ (by simp)
    · exact q4 (fun r h => h3 r (by simp [h])) r hr
  | _ :: _, [], _, h, _, _, _, _, _, _ => h.elim
theorem OwnAll.slice3 {w : World} {e : TypeId} : ∀ {vs : List Value} {xss : List (List Int)} {bs : List Nat} (_ : OwnAll w e vs xss bs) (_ : ∀ r ∈ xss, r.length = 3) {k : Nat}, k < xss.length → ∃ g c, vs[k]? = some (.slice (some ⟨g, 0, none⟩) 3 c) ∧ 3 ≤ c ∧ g ∈ bs ∧ ∃ cs, w.heap[g]? = some (.cells cs e (0, 0)) ∧ cs.size = c
  | v :: vs, xs :: xss, _, ⟨b1, b2, h1, h2, rfl⟩, hr, 0, _ => by
    have h3 := hr xs (by simp)
    rcases h1.1 with ⟨h1, _⟩ | ⟨g', c', cur, h1, h3', h4, h5, h6, h7, h8⟩
    · have : xs = [] := by simpa using h1
      subst this; simp at h3
    · refine ⟨g', c', ?_, ?_, by simp [h8], cur, h5, h6⟩
      · rw [h1, List.length_map, h3]; rfl
      · rw [List.length_map, h3] at h3'; exact h3'
  | v :: vs, xs :: xss, _, ⟨b1, b2, h1, h2, rfl⟩, hr, k + 1, hk => by
    obtain ⟨g, c, e1, e2, e3, e4⟩ := h2.slice3 (fun r h => hr r (by simp [h])) (k := k) (by simpa using hk)
    exact ⟨g, c, by simpa using e1, e2, by simp [e3], e4⟩
  | [], [], _, _, _, k, hk => by simp at hk
  | [], _ :: _, _, h, _, _, _ => h.elim
  | _ :: _, [], _, h, _, _, _ => h.elim
/-- The blocks of rows of one's own. -/
theorem ArcsIn.owns {base : Nat} {w : World} {v : Value} {xss : List (List Int)} (h : ArcsIn base w v xss) :
    ∃ bs, OwnRows w 28 3 v xss bs ∧ ∀ b ∈ bs, base ≤ b ∧ b < w.heap.size ∧ ∃ cs t, w.heap[b]? = some (.cells cs t (0, 0)) ∧ (t = 3 ∨ t = 28) := by
  obtain ⟨vs, ho, hr⟩ := h
  obtain ⟨b0, h1, h2, h3⟩ := OwnRow.of_owns ho
  have all : ∀ {vs : List Value} {xss : List (List Int)}, All2 (RowP base w) vs xss → ∃ bs, OwnAll w 3 vs xss bs ∧ ∀ b ∈ bs, base ≤ b ∧ b < w.heap.size ∧ ∃ cs t, w.heap[b]? = some (.cells cs t (0, 0)) ∧ (t = 3 ∨ t = 28) := by
    intro vs
    induction vs with
    | nil =>
      intro xss h
      cases xss with
      | nil => exact ⟨[], rfl, fun b hb => by cases hb⟩
      | cons _ _ => exact h.elim
    | cons v vs ih =>
      intro xss h
      cases xss with
      | nil => exact h.elim
      | cons xs xss =>
        obtain ⟨⟨b, e, k1, k2, k3, k4⟩, hr⟩ := h
        obtain ⟨bs, i1, i2⟩ := ih hr
        refine ⟨b :: bs, ⟨[b], bs, ⟨.inr ⟨b, xs.length, (xs.map intV).toArray, by rw [List.length_map]; exact e, by rw [List.length_map]; exact Nat.le_refl _, by unfold maxLen; omega, k1, by simp, List.take_of_length_le (by simp), rfl⟩, k4⟩, i1, rfl⟩, fun x hx => ?_⟩
        rcases List.mem_cons.1 hx with rfl | hx
        · exact ⟨k2, heap_lt k1, _, _, k1, .inl rfl⟩
        · exact i2 x hx
  obtain ⟨b1, a1, a2⟩ := all hr
  refine ⟨b0 ++ b1, ⟨vs, b0, b1, h1, a1, rfl⟩, fun b hb => ?_⟩
  rcases List.mem_append.1 hb with hb | hb
  · refine ⟨h2 b hb, h1.lt b hb, ?_⟩
    rcases h1 with ⟨_, e, _⟩ | ⟨g, c, cur, _, _, _, e4, _, _, e7⟩
    · rw [e] at hb; cases hb
    · rw [e7] at hb
      obtain rfl : b = g := by simpa using hb
      exact ⟨_, _, e4, .inr rfl⟩
  · exact a2 b hb
/-- The draw's own boxes and the problem that it has drawn: results at w, w+1, the cursor at w+2, the problem's box at B4; all below M. -/
structure Pq (w : World) (B4 M m n : Nat) (cv v : Value) (W : World) : Prop where
  r1 : W.heap[w.heap.size]? = some (.cells #[.int .i64 0, .slice none 0 0] 26 (0, 0))
  r2 : W.heap[w.heap.size + 1]? = some (.cells #[.int .i64 0, .int .i64 0, .slice none 0 0, .slice none 0 0, .slice none 0 0] 30 (0, 0))
  box : W.heap[B4]? = some (.cells #[.int .i64 (n : Int), v] 26 (0, 0))
  cur : CurR W (w.heap.size + 2) cv m
  arcs : ∃ xss bp, OwnRows W 28 3 v xss bp ∧ xss.length ≤ 200 ∧ ∀ b ∈ bp, b < M ∧ b ≠ w.heap.size ∧ b ≠ w.heap.size + 1 ∧ b ≠ w.heap.size + 2
  low : Below w.heap.size w W
  b4 : w.heap.size + 2 < B4 ∧ B4 < M ∧ M ≤ W.heap.size
  n13 : n ≤ 13
/-- The certificate in its box. -/
def Cx (M B5 : Nat) (cl lb : Int) (vf vs vr : Value) (W : World) : Prop :=
  ∃ F S R bf bs br, OwnInts W 3 vf F bf ∧ OwnInts W 3 vs S bs ∧ OwnRows W 28 3 vr R br ∧ (bf ++ br).Nodup ∧ (∀ x ∈ bs, ∀ y ∈ bf ++ br, x ≠ y) ∧ (∀ x ∈ bf ++ bs ++ br, M ≤ x ∧ x < W.heap.size ∧ x ≠ B5) ∧ F.length ≤ 1000 ∧ S.length ≤ 1000 ∧ R.length ≤ 1000 ∧ (∀ r ∈ R, r.length = 3) ∧ I64 cl ∧ I64 lb ∧
    W.heap[B5]? = some (.cells #[.int .i64 cl, .int .i64 lb, vf, vs, vr] 30 (0, 0)) ∧ M ≤ B5
section
variable {w W W' : World} {B4 M m m' n B5 : Nat} {cv v vf vs vr : Value} {cl lb : Int}
theorem Pq.draw (h : Pq w B4 M m n cv v W) (hc : CurR W' (w.heap.size + 2) cv m') (hg : W.grownBy W' (some (w.heap.size + 2))) : Pq w B4 M m' n cv v W' := by
  have hb := h.b4
  have hk : ∀ b, b < W.heap.size → b ≠ w.heap.size + 2 → W'.heap[b]? = W.heap[b]? := fun b h1 h2 => hg.block b h1 fun e => h2 (Option.some.inj e)
  obtain ⟨xss, bp, a1, a2, a3⟩ := h.arcs
  exact ⟨(hk _ (by omega) (by omega)).trans h.r1, (hk _ (by omega) (by omega)).trans h.r2, (hk _ (by omega) (by omega)).trans h.box, hc, ⟨xss, bp, a1.keep fun b hb => hk b (by have := a3 b hb; omega) (a3 b hb).2.2.2, a2, a3⟩,
    h.low.grown hg h.low.size (fun b e => by have := Option.some.inj e; omega), ⟨hb.1, hb.2.1, Nat.le_trans hb.2.2 hg.size⟩, h.n13⟩
/-- What turns at M or above leaves it. -/
theorem Pq.high (h : Pq w B4 M m n cv v W) (hb : Below M W W') (hs : W.heap.size ≤ W'.heap.size) : Pq w B4 M m n cv v W' := by
  have hb4 := h.b4
  obtain ⟨xss, bp, a1, a2, a3⟩ := h.arcs
  exact ⟨(hb.block _ (by omega)).trans h.r1, (hb.block _ (by omega)).trans h.r2, (hb.block _ (by omega)).trans h.box, h.cur.below hb (by omega), ⟨xss, bp, a1.keep fun b hb' => hb.block b (a3 b hb').1, a2, a3⟩, h.low.trans (hb.mono (by omega)), ⟨hb4.1, hb4.2.1, by omega⟩, h.n13⟩
theorem Cx.keep (h : Cx M B5 cl lb vf vs vr W) (hk : ∀ b, M ≤ b → b < W.heap.size → W'.heap[b]? = W.heap[b]?) (hs : W.heap.size ≤ W'.heap.size) : Cx M B5 cl lb vf vs vr W' := by
  obtain ⟨F, S, R, bf, bs, br, h1, h2, h3, h4, h84, h5, h6, h7, h8, h83, h9, h10, h11, h12⟩ := h
  have hk' : ∀ b ∈ bf ++ bs ++ br, W'.heap[b]? = W.heap[b]? := fun b hb => hk b (h5 b hb).1 (h5 b hb).2.1
  exact ⟨F, S, R, bf, bs, br, h1.keep fun b hb => hk' b (by simp [hb]), h2.keep fun b hb => hk' b (by simp [hb]), h3.keep fun b hb => hk' b (by simp [hb]), h4, h84, fun x hx => ⟨(h5 x hx).1, Nat.lt_of_lt_of_le (h5 x hx).2.1 hs, (h5 x hx).2.2⟩, h6, h7, h8, h83, h9, h10, (hk _ h12 (heap_lt h11)).trans h11, h12⟩
theorem Cx.draw (h : Cx M B5 cl lb vf vs vr W) {P : Nat} (hg : W.grownBy W' (some P)) (hP : P < M) : Cx M B5 cl lb vf vs vr W' := h.keep (fun b h1 h2 => hg.block b h2 fun e => by have := Option.some.inj e; omega) hg.size
theorem Cx.below (h : Cx M B5 cl lb vf vs vr W) (hb : Below W.heap.size W W') : Cx M B5 cl lb vf vs vr W' := h.keep (fun b _ h2 => hb.block b h2) hb.size
theorem Pq.below (h : Pq w B4 M m n cv v W) (hb : Below W.heap.size W W') : Pq w B4 M m n cv v W' := h.high (hb.mono h.b4.2.2) hb.size
/-- One of the certificate's numbers is written. -/
theorem Cx.num (h : Cx M B5 cl lb vf vs vr W) {i : Nat} {x cl' lb' : Int} (he : (#[.int .i64 cl, .int .i64 lb, vf, vs, vr] : Array Value).setIfInBounds i (.int .i64 x) = #[.int .i64 cl', .int .i64 lb', vf, vs, vr]) (h1' : I64 cl') (h2' : I64 lb') : Cx M B5 cl' lb' vf vs vr (W.setCell ⟨B5, i, none⟩ (.int .i64 x)) := by
  obtain ⟨F, S, R, bf, bs, br, h1, h2, h3, h4, h84, h5, h6, h7, h8, h83, h9, h10, h11, h12⟩ := h
  have hk' : ∀ b ∈ bf ++ bs ++ br, (W.setCell ⟨B5, i, none⟩ (.int .i64 x)).heap[b]? = W.heap[b]? := fun b hb => Below.heap_setCell _ _ _ _ (h5 b hb).2.2
  exact ⟨F, S, R, bf, bs, br, h1.keep fun b hb => hk' b (by simp [hb]), h2.keep fun b hb => hk' b (by simp [hb]), h3.keep fun b hb => hk' b (by simp [hb]), h4, h84, fun x hx => by rw [size_setCell]; exact h5 x hx, h6, h7, h8, h83, h1', h2', by rw [heap_set_same h11, he], h12⟩
theorem OwnInts.len {w : World} {e : TypeId} {xs : List Int} {bs : List Nat} {A : Option Addr} {l c : Nat} (h : OwnInts w e (.slice A l c) xs bs) : l = xs.length := by
  rcases h.1 with ⟨h1, _, A', c', e2, _⟩ | ⟨g, c', cur, e2, _⟩
  · rw [(Value.slice.inj e2).2.1]
    have := congrArg List.length h1
    simpa using this.symm
  · rw [(Value.slice.inj e2).2.1, List.length_map]
/-- A cell of First is written. -/
theorem Cx.first {g l c i : Nat} {x : Int} (h : Cx M B5 cl lb (.slice (some ⟨g, 0, none⟩) l c) vs vr W) (hi : i < l) (hx : I64 x) :
    Cx M B5 cl lb (.slice (some ⟨g, 0, none⟩) l c) vs vr (W.setCell ⟨g, i, none⟩ (.int .i64 x)) ∧ M ≤ g ∧ g ≠ B5 := by
  obtain ⟨F, S, R, bf, bs, br, h1, h2, h3, h4, h84, h5, h6, h7, h8, h83, h9, h10, h11, h12⟩ := h
  have hlen := h1.len
  obtain ⟨p1, p2⟩ := h1.poke (i := i) rfl (by omega) hx
  have hg := h5 g (by simp [p2])
  have hnd := List.nodup_append.1 h4
  have hk' : ∀ b, b ≠ g → (W.setCell ⟨g, i, none⟩ (.int .i64 x)).heap[b]? = W.heap[b]? := fun b hb => Below.heap_setCell _ _ _ _ hb
  exact ⟨⟨F.set i x, S, R, bf, bs, br, p1, h2.keep fun b hb => hk' b (h84 b hb g (by simp [p2])), h3.keep fun b hb => hk' b fun e => (hnd.2.2 g p2 b hb e.symm), h4, h84, fun x hx => by rw [size_setCell]; exact h5 x hx, by simpa using h6, h7, h8, h83, h9, h10, (hk' _ (fun e => hg.2.2 e.symm)).trans h11, h12⟩, hg.1, hg.2.2⟩
theorem OwnRow.len {w : World} {e : TypeId} {us : List Value} {bs : List Nat} {A : Option Addr} {l c : Nat} (h : OwnRow w e (.slice A l c) us bs) : l = us.length := by
  rcases h with ⟨h1, _, A', c', e2, _⟩ | ⟨g, c', cur, e2, _⟩
  · rw [(Value.slice.inj e2).2.1, h1]; rfl
  · rw [(Value.slice.inj e2).2.1]
/-- The rows of Ranks. -/
theorem Cx.rows {g0 l0 c0 : Nat} (h : Cx M B5 cl lb vf vs (.slice (some ⟨g0, 0, none⟩) l0 c0) W) :
    ∃ gi ci : Nat → Nat, ∀ k, k < l0 → W.cell? ⟨g0, k, none⟩ = some (.slice (some ⟨gi k, 0, none⟩) 3 (ci k)) ∧ 3 ≤ ci k ∧ M ≤ gi k ∧ gi k ≠ B5 ∧ gi k ≠ g0 ∧ gi k < W.heap.size ∧ (∃ cs, W.heap[gi k]? = some (.cells cs 3 (0, 0)) ∧ cs.size = ci k) ∧
      ∀ i x, i < 3 → I64 x → Cx M B5 cl lb vf vs (.slice (some ⟨g0, 0, none⟩) l0 c0) (W.setCell ⟨gi k, i, none⟩ (.int .i64 x)) := by
  obtain ⟨F, S, R, bf, bs, br, h1, h2, h3, h4, h84, h5, h6, h7, h8, h83, h9, h10, h11, h12⟩ := h
  obtain ⟨us, b0, b1, o1, o2, rfl⟩ := h3
  have hl0 := o1.len
  have hlr := o2.len
  have hnd := List.nodup_append.1 h4
  have hndr := List.nodup_append.1 hnd.2.1
  have hex : ∀ k, ∃ p : Nat × Nat, k < l0 → us[k]? = some (.slice (some ⟨p.1, 0, none⟩) 3 p.2) ∧ 3 ≤ p.2 ∧ p.1 ∈ b1 ∧ ∃ cs, W.heap[p.1]? = some (.cells cs 3 (0, 0)) ∧ cs.size = p.2 := by
    intro k
    by_cases hk : k < l0
    · obtain ⟨g, c, e1, e2, e3, e4⟩ := o2.slice3 h83 (k := k) (by omega)
      exact ⟨(g, c), fun _ => ⟨e1, e2, e3, e4⟩⟩
    · exact ⟨(0, 0), fun h => absurd h hk⟩
  obtain ⟨f, hf⟩ := Classical.axiomOfChoice hex
  refine ⟨fun k => (f k).1, fun k => (f k).2, fun k hk => ?_⟩
  obtain ⟨e1, e2, e3, cs, e4, e5⟩ := hf k hk
  have hg := h5 (f k).1 (by simp [e3])
  rcases o1 with ⟨q1, _⟩ | ⟨g, c', cur, q1, q3, q4, q5, q6, q7, q8⟩
  · rw [q1] at hl0; simp at hl0; omega
  · have q9 := (Value.slice.inj q1).1
    obtain rfl : g0 = g := by have := Option.some.inj q9; exact (Addr.mk.inj this).1
    have hne : (f k).1 ≠ g0 := fun e => hndr.2.2 g0 (by simp [q8]) (f k).1 e3 e.symm
    refine ⟨?_, e2, hg.1, hg.2.2, hne, hg.2.1, ⟨cs, e4, e5⟩, fun i x hi hx => ?_⟩
    · have hlt : k < us.length := by omega
      rw [cell_of_row W g0 k cur 28 (0, 0) q5, ← Array.getElem?_toList, ← e1]
      conv => rhs; rw [← q7]
      rw [List.getElem?_take, if_pos hlt]
    · obtain ⟨xs, hxs⟩ : ∃ xs, R[k]? = some xs := ⟨_, List.getElem?_eq_getElem (show k < R.length by omega)⟩
      have h3l := h83 xs (List.mem_of_getElem? hxs)
      obtain ⟨yss, p1, p2, p3, p4⟩ := o2.poke hx hndr.2.1 e1 hxs (i := i) (by omega)
      have hk' : ∀ b, b ≠ (f k).1 → (W.setCell ⟨(f k).1, i, none⟩ (.int .i64 x)).heap[b]? = W.heap[b]? := fun b hb => Below.heap_setCell _ _ _ _ hb
      refine ⟨F, S, yss, bf, bs, b0 ++ b1, h1.keep fun b hb => hk' b (fun e => hnd.2.2 b hb (f k).1 (by simp [e3]) e), h2.keep fun b hb => hk' b (h84 b hb (f k).1 (by simp [e3])), ⟨us, b0, b1, ?_, p1, rfl⟩, h4, h84, fun x hx => by rw [size_setCell]; exact h5 x hx, h6, h7, by omega, p4 h83, h9, h10, (hk' _ (fun e => hg.2.2 e.symm)).trans h11, h12⟩
      exact OwnRow.keep (.inr ⟨g0, c', cur, q1, q3, q4, q5, q6, q7, q8⟩) fun b hb => hk' b (fun e => hndr.2.2 b hb (f k).1 e3 e)
/-- Second is written. -/
theorem Cx.second {v2 : Value} {ys : List Int} (h : Cx M B5 cl lb vf vs vr W) (hb : Below W.heap.size W W') (hM : M ≤ W.heap.size) (hy : W'.ownsRow W.heap.size 3 1 v2 ys.length (ys.map intV)) (h64 : ∀ y ∈ ys, I64 y) (hl : ys.length ≤ 1000) : Cx M B5 cl lb vf v2 vr (W'.setCell ⟨B5, 3, none⟩ v2) := by
  have hz := hb.size
  obtain ⟨F, S, R, bf, bs, br, h1, h2, h3, h4, h84, h5, h6, h7, h8, h83, h9, h10, h11, h12⟩ := h
  have hB5 := heap_lt h11
  obtain ⟨b2, k1, k2, k3⟩ := OwnRow.of_owns hy
  have hlt : ∀ x ∈ bf ++ br, x < W.heap.size := fun x hx => (h5 x (by rcases List.mem_append.1 hx with h | h <;> simp [h])).2.1
  replace h5 : ∀ x ∈ bf ++ bs ++ br, M ≤ x ∧ x < W'.heap.size ∧ x ≠ B5 := fun x hx => ⟨(h5 x hx).1, Nat.lt_of_lt_of_le (h5 x hx).2.1 hz, (h5 x hx).2.2⟩
  replace h1 := h1.keep (w' := W') fun b hb' => hb.block b (hlt b (by simp [hb']))
  replace h3 := h3.keep (w' := W') fun b hb' => hb.block b (hlt b (by simp [hb']))
  replace h11 := (hb.block _ hB5).trans h11
  have hk' : ∀ b, b ≠ B5 → (W'.setCell ⟨B5, 3, none⟩ v2).heap[b]? = W'.heap[b]? := fun b hb => Below.heap_setCell _ _ _ _ hb
  refine ⟨F, ys, R, bf, b2, br, h1.keep fun b hb => hk' b (h5 b (by simp [hb])).2.2, ⟨k1.keep fun b hb => hk' b (by have := k2 b hb; omega), h64⟩, h3.keep fun b hb => hk' b (h5 b (by simp [hb])).2.2, h4, fun x hx y hy e => ?_, fun x hx => ?_, h6, hl, h8, h83, h9, h10, ?_, h12⟩
  · have := k2 x hx; have := hlt y hy; omega
  · rw [size_setCell]
    rcases List.mem_append.1 hx with hx | hx
    · rcases List.mem_append.1 hx with hx | hx
      · exact h5 x (by simp [hx])
      · have := k2 x hx; have := k1.lt x hx; exact ⟨by omega, by omega, by omega⟩
    · exact h5 x (by simp [hx])
  · rw [heap_set_same h11]; rfl
theorem Pq.raise (h : Pq w B4 M m n cv v W) {M' : Nat} (hM : M ≤ M') (hs : M' ≤ W.heap.size) : Pq w B4 M' m n cv v W := by
  obtain ⟨xss, bp, a1, a2, a3⟩ := h.arcs
  exact ⟨h.r1, h.r2, h.box, h.cur, ⟨xss, bp, a1, a2, fun b hb => ⟨Nat.lt_of_lt_of_le (a3 b hb).1 hM, (a3 b hb).2⟩⟩, h.low, ⟨h.b4.1, Nat.lt_of_lt_of_le h.b4.2.1 hM, hs⟩, h.n13⟩
theorem Cx.firstBlk {A : Option Addr} {l c : Nat} (h : Cx M B5 cl lb (.slice A l c) vs vr W) (hl : 0 < l) : ∃ g cs, A = some ⟨g, 0, none⟩ ∧ W.heap[g]? = some (.cells cs 3 (0, 0)) ∧ cs.size = c ∧ l ≤ c ∧ M ≤ g ∧ g ≠ B5 := by
  obtain ⟨F, S, R, bf, bs, br, h1, h2, h3, h4, h84, h5, h6, h7, h8, h83, h9, h10, h11, h12⟩ := h
  have hlen := h1.len
  rcases h1.1 with ⟨q1, _⟩ | ⟨g, c', cur, q1, q3, q4, q5, q6, q7, q8⟩
  · have : F = [] := by simpa using q1
    rw [this] at hlen; simp at hlen; omega
  · obtain ⟨e1, e2, e3⟩ := Value.slice.inj q1
    have := h5 g (by simp [q8])
    exact ⟨g, cur, e1, q5, by omega, by omega, this.1, this.2.2⟩
theorem Cx.firstR (h : Cx M B5 cl lb vf vs vr W) : ∃ F, IntsR W W.heap.size vf F ∧ F.length ≤ 1000 := by
  obtain ⟨F, S, R, bf, bs, br, h1, h2, h3, h4, h84, h5, h6, _⟩ := h
  exact ⟨F, h1.reads fun b hb => (h5 b (by simp [hb])).2.1, h6⟩
theorem Cx.ranksBlk {A : Option Addr} {l c : Nat} (h : Cx M B5 cl lb vf vs (.slice A l c) W) (hl : 0 < l) : ∃ g, A = some ⟨g, 0, none⟩ := by
  obtain ⟨F, S, R, bf, bs, br, h1, h2, ⟨us, b0, b1, o1, o2, rfl⟩, _⟩ := h
  have hlen := o1.len
  rcases o1 with ⟨q1, _⟩ | ⟨g, c', cur, q1, _⟩
  · rw [q1] at hlen; simp at hlen; omega
  · exact ⟨g, (Value.slice.inj q1).1⟩
theorem Cx.ranksM {g l c : Nat} (h : Cx M B5 cl lb vf vs (.slice (some ⟨g, 0, none⟩) l c) W) (hl : 0 < l) : M ≤ g ∧ g ≠ B5 := by
  obtain ⟨F, S, R, bf, bs, br, h1, h2, ⟨us, b0, b1, o1, o2, rfl⟩, h4, h84, h5, _⟩ := h
  have hlen := o1.len
  rcases o1 with ⟨q1, _⟩ | ⟨g', c', cur, q1, _, _, _, _, _, q8⟩
  · rw [q1] at hlen; simp at hlen; omega
  · have q9 := (Value.slice.inj q1).1
    obtain rfl : g = g' := by have := Option.some.inj q9; exact (Addr.mk.inj this).1
    have := h5 g (by simp [q8])
    exact ⟨this.1, this.2.2⟩
/-- The certificate's lists alone. -/
def Cd (M : Nat) (vf vs vr : Value) (W : World) : Prop :=
  ∃ F S R bf bs br, OwnInts W 3 vf F bf ∧ OwnInts W 3 vs S bs ∧ OwnRows W 28 3 vr R br ∧ (∀ x ∈ bf ++ bs ++ br, M ≤ x ∧ x < W.heap.size) ∧ F.length ≤ 1000 ∧ S.length ≤ 1000 ∧ R.length ≤ 1000
theorem Cx.cd (h : Cx M B5 cl lb vf vs vr W) : Cd M vf vs vr W ∧ I64 cl ∧ I64 lb := by
  obtain ⟨F, S, R, bf, bs, br, h1, h2, h3, h4, h84, h5, h6, h7, h8, h83, h9, h10, h11, h12⟩ := h
  exact ⟨⟨F, S, R, bf, bs, br, h1, h2, h3, fun x hx => ⟨(h5 x hx).1, (h5 x hx).2.1⟩, h6, h7, h8⟩, h9, h10⟩
theorem Cx.slices (h : Cx M B5 cl lb vf vs vr W) : (∃ A l c, vf = .slice A l c) ∧ (∃ A l c, vs = .slice A l c) ∧ ∃ A l c, vr = .slice A l c := by
  obtain ⟨F, S, R, bf, bs, br, h1, h2, h3, _⟩ := h
  exact ⟨h1.1.isSlice, h2.1.isSlice, h3.isSlice⟩
theorem Cx.box (h : Cx M B5 cl lb vf vs vr W) : W.heap[B5]? = some (.cells #[.int .i64 cl, .int .i64 lb, vf, vs, vr] 30 (0, 0)) ∧ M ≤ B5 := by
  obtain ⟨F, S, R, bf, bs, br, h1, h2, h3, h4, h84, h5, h6, h7, h8, h83, h9, h10, h11, h12⟩ := h
  exact ⟨h11, h12⟩
theorem cd_nil (M : Nat) (W : World) : Cd M (.slice none 0 0) (.slice none 0 0) (.slice none 0 0) W := ⟨[], [], [], [], [], [], ints_nil0 _ _, ints_nil0 _ _, rows_nil0 _ _ _, (fun x h => by cases h), by simp, by simp, by simp⟩
def DcPost (w : World) (e : Ending) (w' : World) : Prop :=
  ∃ (n : Nat) (v : Value) (cl lb : Int) (vf vs vr : Value) (xss : List (List Int)) (F S : List Int) (R : List (List Int)), e = .returned (.tuple #[.agg #[.int .i64 (n : Int), v], certVw cl lb vf vs vr]) ∧ RowsR w' w'.heap.size v xss ∧ IntsR w' w'.heap.size vf F ∧ IntsR w' w'.heap.size vs S ∧ RowsR w' w'.heap.size vr R ∧
    n ≤ 13 ∧ xss.length ≤ 200 ∧ F.length ≤ 1000 ∧ S.length ≤ 1000 ∧ R.length ≤ 1000 ∧ I64 cl ∧ I64 lb ∧ Below w.heap.size w w'
/-- The results are written. -/
theorem dc_done (h : Pq w B4 M m n cv v W) (k : Cd M vf vs vr W) (hcl : I64 cl) (hlb : I64 lb) : ∃ wf,
    wf = ((((((W.setCell ⟨w.heap.size, 0, none⟩ (.int .i64 (n : Int))).setCell ⟨w.heap.size, 1, none⟩ v).setCell ⟨w.heap.size + 1, 0, none⟩ (.int .i64 cl)).setCell ⟨w.heap.size + 1, 1, none⟩ (.int .i64 lb)).setCell ⟨w.heap.size + 1, 2, none⟩ vf).setCell ⟨w.heap.size + 1, 3, none⟩ vs).setCell ⟨w.heap.size + 1, 4, none⟩ vr ∧
    DcPost w (.returned (.tuple #[.agg #[.int .i64 (n : Int), v], certVw cl lb vf vs vr])) wf ∧
    wf.heap[w.heap.size]? = some (.cells #[.int .i64 (n : Int), v] 26 (0, 0)) ∧ wf.heap[w.heap.size + 1]? = some (.cells #[.int .i64 cl, .int .i64 lb, vf, vs, vr] 30 (0, 0)) := by
  obtain ⟨Wa, eA, hA⟩ : ∃ z, z = (W.setCell ⟨w.heap.size, 0, none⟩ (.int .i64 (n : Int))).setCell ⟨w.heap.size, 1, none⟩ v ∧ z.heap[w.heap.size]? = some (.cells #[.int .i64 (n : Int), v] 26 (0, 0)) := ⟨_, rfl, heap_set_same (i := 1) (heap_set_same (i := 0) h.r1 (.int .i64 (n : Int))) v⟩
  have gA : W.grownBy Wa (some w.heap.size) := by rw [eA]; exact grownT (grownP _ _ _ _) (grownP _ _ _ _)
  have hb4 := h.b4
  have r2 := (gA.block (w.heap.size + 1) (by omega) (fun e => by have := Option.some.inj e; omega)).trans h.r2
  obtain ⟨wf, ef, HF, gf⟩ := set5 (Lib.hid r2) (.int .i64 cl) (.int .i64 lb) vf vs vr
  have hzA := gA.size
  have hk : ∀ b, b < W.heap.size → b ≠ w.heap.size → b ≠ w.heap.size + 1 → wf.heap[b]? = W.heap[b]? := fun b h1 h2 h3 =>
    (gf.block b (by omega) (fun e => h3 (Option.some.inj e))).trans (gA.block b h1 (fun e => h2 (Option.some.inj e)))
  have hsz : W.heap.size ≤ wf.heap.size := Nat.le_trans gA.size gf.size
  have hbl : Below w.heap.size w wf := (h.low.grown gA h.low.size (fun b e => by have := Option.some.inj e; omega)).grown gf (Nat.le_trans h.low.size gA.size) (fun b e => by have := Option.some.inj e; omega)
  obtain ⟨xss, bp, a1, a2, a3⟩ := h.arcs
  obtain ⟨F, S, R, bf, bs, br, c1, c2, c3, c4, c5, c6, c7⟩ := k
  have hc : ∀ b ∈ bf ++ bs ++ br, wf.heap[b]? = W.heap[b]? := fun b hb => hk b (c4 b hb).2 (by have := (c4 b hb).1; omega) (by have := (c4 b hb).1; omega)
  have ha : ∀ b ∈ bp, wf.heap[b]? = W.heap[b]? := fun b hb => hk b (by have := (a3 b hb).1; omega) (a3 b hb).2.1 (a3 b hb).2.2.1
  refine ⟨wf, by rw [ef, eA], ⟨n, v, cl, lb, vf, vs, vr, xss, F, S, R, rfl, (a1.keep ha).reads (fun b hb => by have := (a3 b hb).1; omega), (c1.keep fun b hb => hc b (by simp [hb])).reads (fun b hb => by have := (c4 b (by simp [hb])).2; omega), (c2.keep fun b hb => hc b (by simp [hb])).reads (fun b hb => by have := (c4 b (by simp [hb])).2; omega), (c3.keep fun b hb => hc b (by simp [hb])).reads (fun b hb => by have := (c4 b (by simp [hb])).2; omega), h.n13, a2, c5, c6, c7, hcl, hlb, hbl⟩, ?_, HF.out⟩
  exact (gf.block _ (by omega) (fun e => by have := Option.some.inj e; omega)).trans hA
end
theorem DcPost.drew {w w' : World} {e : Ending} (h : DcPost w e w') : DcPost w e w'.drew := by
  obtain ⟨n, v, cl, lb, vf, vs, vr, xss, F, S, R, h1, h2, h3, h4, h5, h6, h7, h8, h9, h10, h11, h12, h13⟩ := h
  have hb : Below w'.heap.size w' w'.drew := (Below.refl _ _).drew
  exact ⟨n, v, cl, lb, vf, vs, vr, xss, F, S, R, h1, h2.below hb, h3.below hb, h4.below hb, h5.below hb, h6, h7, h8, h9, h10, h11, h12, h13.drew⟩
theorem ne_blk {a b : Nat} (h : a ≠ b) : some a ≠ some b := fun e => h (Option.some.inj e)
set_option maxRecDepth 100000 in
set_option maxHeartbeats 3000000 in
theorem spec_DrawCheckWalkCertificate (v : Value) (w : World) (h : BytesR w w.heap.size v) : Calls Tryz.prog 16 #[v] w (DcPost w) := by
  have HV := Lib.hid h
  obtain ⟨A, nb, c, rfl, -⟩ := h
  obtain ⟨w0, hw0⟩ : ∃ z, z = (w.alloc (.cells #[.int .i64 0, .slice none 0 0] 26)).alloc (.cells #[.int .i64 0, .int .i64 0, .slice none 0 0, .slice none 0 0, .slice none 0 0] 30) := ⟨_, rfl⟩
  have hb0 : Below w.heap.size w w0 := by rw [hw0]; exact bl_alloc (bl_alloc (Below.refl _ _) _) _
  have hz0 : w0.heap.size = w.heap.size + 2 := by rw [hw0]; simp
  have hza : (w.alloc (.cells #[.int .i64 0, .slice none 0 0] 26)).heap.size = w.heap.size + 1 := by simp
  have hA0 : w0.heap[w.heap.size]? = some (.cells #[.int .i64 0, .slice none 0 0] 26 (0, 0)) := by
    rw [hw0]; exact ((bl_alloc (Below.refl _ _) _).block _ (by omega)).trans (heap_alloc_new _ _)
  have hA1 : w0.heap[w.heap.size + 1]? = some (.cells #[.int .i64 0, .int .i64 0, .slice none 0 0, .slice none 0 0, .slice none 0 0] 30 (0, 0)) := by rw [hw0, ← hza]; exact heap_alloc_new _ _
  obtain ⟨w1, hw1⟩ : ∃ z, z = w0.alloc (.cells #[.slice A nb c, .int .i64 0, .int .u64 0] 62) := ⟨_, rfl⟩
  have hb01 : Below w0.heap.size w0 w1 := by rw [hw1]; exact bl_alloc (Below.refl _ _) _
  have hb1 := bl_trans hb0 hb01
  have hc1 : CurR w1 (w.heap.size + 2) (.slice A nb c) 0 := curR_new HV.out hb1 (by omega) (by rw [hw1, ← hz0]; exact heap_alloc_new _ _)
  have HR1 := Lib.hid ((hb01.block _ (heap_lt hA0)).trans hA0)
  have HR2 := Lib.hid ((hb01.block _ (heap_lt hA1)).trans hA1)
  have HW0 := Lib.hid hw0
  have HW1 := Lib.hid hw1
  have HC1 := Lib.hid hc1
  have hz1 := hb1.size
  have hl1 : w.heap.size + 2 < w1.heap.size := hc1.lt
  clear hw0 hw1 hc1 hA0 hA1 hz0 hza hb01 hb0
  go_enter Tryz.func16, Tryz.ntmps16
  go_wp2_with fail
  rw [← HW0.out, ← HW1.out]
  refine (cur_anyWalk (w.heap.size + 2) 0 (.slice A nb c) w1 HC1.out (by omega)).mono ?_
  rintro e w2 ⟨n, v', xss, rfl, ha, hn13, hl, hc2, hg⟩
  have hb2 : Below w.heap.size w w2 := hb1.grown hg hb1.size (fun b e => by have := Option.some.inj e; omega)
  obtain ⟨Av, lv, kv, rfl⟩ := ha.reads.sl
  have hz2 := hg.size
  obtain ⟨w3, hw3⟩ : ∃ z, z = w2.alloc (.cells #[.int .i64 (n : Int), .slice Av lv kv] 26) := ⟨_, rfl⟩
  have hb23 : Below w2.heap.size w2 w3 := by rw [hw3]; exact bl_alloc (Below.refl _ _) _
  have hz3 : w3.heap.size = w2.heap.size + 1 := by rw [hw3]; simp
  have hpq : Pq w w2.heap.size w3.heap.size 2000 n (.slice A nb c) (.slice Av lv kv) w3 := by
    obtain ⟨bp, o1, o2⟩ := ha.owns
    have hr1 := (hg.block w.heap.size (by omega) (fun e => by have := Option.some.inj e; omega)).trans HR1.out
    have hr2 := (hg.block (w.heap.size + 1) (by omega) (fun e => by have := Option.some.inj e; omega)).trans HR2.out
    refine ⟨(hb23.block _ (by omega)).trans hr1, (hb23.block _ (by omega)).trans hr2, by rw [hw3]; exact heap_alloc_new _ _, hc2.below hb23 (by omega), ⟨xss, bp, o1.keep fun b hb => hb23.block b (o2 b hb).2.1, hl, fun b hb => ?_⟩, bl_trans hb2 hb23, ⟨by omega, by omega, Nat.le_refl _⟩, hn13⟩
    obtain ⟨o3, o4, -⟩ := o2 b hb
    exact ⟨by omega, by omega, by omega, by omega⟩
  have HW3 := Lib.hid hw3
  have hgood := (ha.reads.below hb23).more hb23.size
  have HXR := Lib.hid hgood
  have HPQ := Lib.hid hpq
  obtain ⟨k0, k1, kf⟩ := cells2 (Lib.hid hpq.box)
  clear hw3 hb23 hpq ha hc2 hg hb2 hgood HR1 HR2 HC1 hl
  go_wp2_with fail
  rw [← HW3.out]
  refine (spec_waGood (n : Int) (.slice Av lv kv) xss w3 HXR.out).mono ?_
  rintro e w4 ⟨rfl, hb4⟩
  have HP4 := Lib.hid (HPQ.out.below hb4)
  have HX4 := Lib.hid ((HXR.out.below hb4).more hb4.size)
  have hz4 := hb4.size
  clear k0 k1 kf
  obtain ⟨k0, k1, kf⟩ := cells2 (Lib.hid HP4.out.box)
  clear HPQ HXR hb4 HW3
  cases q : goodB n xss with
  | false =>
    obtain ⟨wf, ef, f1, f2, f3⟩ := dc_done HP4.out (cd_nil _ _) (show I64 0 by unfold I64; omega) (show I64 0 by unfold I64; omega)
    obtain ⟨d0, d1, df⟩ := cells2 (Lib.hid HP4.out.r1)
    obtain ⟨⟨e0, e1, e2⟩, ⟨e3, e4⟩, ef'⟩ := cells5 (Lib.hid HP4.out.r2)
    have HF1 := Lib.hid f1
    have HF2 := Lib.hid f2
    have HF3 := Lib.hid f3
    have HWF := Lib.hid ef
    clear f1 f2 f3 ef q
    go_wp2_with fail
    rw [← HWF.out]
    obtain ⟨z0, z1, zf⟩ := cells2 HF2
    obtain ⟨⟨y0, y1, y2⟩, ⟨y3, y4⟩, yf⟩ := cells5 HF3
    refine bodyPost_ret (v := .tuple #[.agg #[.int .i64 (n : Int), .slice Av lv kv], certVw 0 0 (.slice none 0 0) (.slice none 0 0) (.slice none 0 0)]) (by simp [results, Tryz.results16, go_sem, z0, z1, y0, y1, y2, y3, y4]) rfl HF1.out
  | true =>
    have HG := Lib.hid (goodB_iff.1 q); clear q
    go_wp2_with fail
    refine (spec_waCertify n (.slice Av lv kv) xss w4 HX4.out HG.out).mono ?_
    rintro e w5 ⟨vf, vs, vr, bf, bs, br, rfl, c1, c2, c3, c4, c5, hb5⟩
    have hbd := certP_bd HG.out (made_ok HG.out)
    obtain ⟨Af, mf, cf, rfl⟩ := c1.1.isSlice
    obtain ⟨As, ms, cs, rfl⟩ := c2.1.isSlice
    obtain ⟨Ar, mr, cr, rfl⟩ := c3.isSlice
    obtain ⟨w6, hw6⟩ : ∃ z, z = w5.alloc (.cells #[.int .i64 (classN n xss : Int), .int .i64 (cwLb n xss : Int), .slice Af mf cf, .slice As ms cs, .slice Ar mr cr] 30) := ⟨_, rfl⟩
    have hb56 : Below w5.heap.size w5 w6 := by rw [hw6]; exact bl_alloc (Below.refl _ _) _
    have hz5 := hb5.size
    have hz6 : w6.heap.size = w5.heap.size + 1 := by rw [hw6]; simp
    have hcx : Cx w4.heap.size w5.heap.size (classN n xss : Int) (cwLb n xss : Int) (.slice Af mf cf) (.slice As ms cs) (.slice Ar mr cr) w6 := by
      have hk : ∀ b ∈ bf ++ bs ++ br, w6.heap[b]? = w5.heap[b]? := fun b hb => hb56.block b (c5 b hb).2
      have hnd := List.nodup_append.1 c4
      have hnd2 := List.nodup_append.1 hnd.1
      have hcl3 : classN n xss ≤ 3 := by unfold classN; split; · omega
                                         · split; · omega
                                           · split <;> omega
      refine ⟨_, _, _, bf, bs, br, c1.keep fun b hb => hk b (by simp [hb]), c2.keep fun b hb => hk b (by simp [hb]), c3.keep fun b hb => hk b (by simp [hb]), ?_, ?_, fun x hx => ⟨(c5 x hx).1, by have := (c5 x hx).2; omega, by have := (c5 x hx).2; omega⟩, by omega, by omega, by omega, hbd.2.2.2.1, by unfold I64; omega, by unfold I64; omega, by rw [hw6]; exact heap_alloc_new _ _, by omega⟩
      · exact List.nodup_append.2 ⟨hnd2.1, hnd.2.1, fun a ha b hb => hnd.2.2 a (by simp [ha]) b hb⟩
      · intro x hx y hy e
        rcases List.mem_append.1 hy with hy | hy
        · exact hnd2.2.2 y hy x hx e.symm
        · exact hnd.2.2 x (by simp [hx]) y hy e
    have hb46 := bl_trans hb5 hb56
    have HP6 := Lib.hid ((HP4.out.raise (M' := w4.heap.size) hz4 (Nat.le_refl _)).below hb46)
    have HX6 := Lib.hid hcx
    have HW6 := Lib.hid hw6
    have hB4 := HP6.out.b4
    have hB5 : w4.heap.size ≤ w5.heap.size := hz5
    clear hbd c1 c2 c3 c4 c5 hb5 hb56 hcx hw6 hb46 k0 k1 kf HX4
    go_wp2_with fail
    rw [← HW6.out]
    clear HW6 HP4
    obtain ⟨B4, hB4e⟩ : ∃ z, z = w2.heap.size := ⟨_, rfl⟩
    obtain ⟨B5, hB5e⟩ : ∃ z, z = w5.heap.size := ⟨_, rfl⟩
    obtain ⟨M, hMe⟩ : ∃ z, z = w4.heap.size := ⟨_, rfl⟩
    rw [← hB4e, ← hMe] at HP6 hB4
    rw [← hMe, ← hB5e] at HX6 hB5
    rw [← hB4e, ← hB5e]
    generalize (classN n xss : Int) = cl at *
    generalize (cwLb n xss : Int) = lb at *
    clear hB4e hB5e hMe hz5 hz6 hz4 hz3 hz2 HG
    refine (cur_pick (w.heap.size + 2) 2000 (.slice A nb c) 12 w6 HP6.out.cur (by omega)).mono ?_
    rintro e w7 ⟨y, rfl, hy, hc7, hg7⟩
    have HP := Lib.hid (HP6.out.draw hc7 hg7)
    have HX := Lib.hid (HX6.out.draw hg7 (by omega))
    have hz7 := hg7.size
    clear HP6 HX6 hc7 hg7
    by_cases y0 : y = 0
    · subst y0
      go_wp2_with fail
      refine (cur_pick (w.heap.size + 2) (2000 + 2) (.slice A nb c) 6 w7 HP.out.cur (by omega)).mono ?_
      rintro e w8 ⟨z, rfl, hz, hc8, hg8⟩
      have hz5 : z ≤ 5 := by omega
      have HP8 := Lib.hid (HP.out.draw hc8 hg8)
      have HX8 := Lib.hid (HX.out.draw hg8 (by omega))
      clear HP HX hc8 hg8 hz
      obtain ⟨⟨x0, x1, x2⟩, ⟨x3, x4⟩, xf⟩ := cells5 (Lib.hid HX8.out.box.1)
      go_wp2_with fail
      obtain ⟨w9, hw9⟩ : ∃ q, q = w8.setCell ⟨B5, 0, none⟩ (.int .i64 ((z : Int) - 1)) := ⟨_, rfl⟩
      rw [← hw9]
      have HP := Lib.hid (show Pq w B4 M (2000 + 2 + 2) n (.slice A nb c) (.slice Av lv kv) w9 by rw [hw9]; exact HP8.out.high ((Below.refl _ _).setCell hB5 _) (by rw [size_setCell]; exact Nat.le_refl _))
      have HX := Lib.hid (show Cx M B5 ((z : Int) - 1) lb (.slice Af mf cf) (.slice As ms cs) (.slice Ar mr cr) w9 by rw [hw9]; exact HX8.out.num rfl (by unfold I64; omega) HX8.out.cd.2.2)
      clear hw9 HP8 HX8 x0 x1 x2 x3 x4 xf
      obtain ⟨k0, k1, kf⟩ := cells2 (Lib.hid HP.out.box)
      obtain ⟨⟨x0, x1, x2⟩, ⟨x3, x4⟩, xf⟩ := cells5 (Lib.hid HX.out.box.1)
      obtain ⟨d0, d1, df⟩ := cells2 (Lib.hid HP.out.r1)
      obtain ⟨⟨y0', y1', y2'⟩, ⟨y3', y4'⟩, yf⟩ := cells5 (Lib.hid HP.out.r2)
      obtain ⟨wf, ef, f1, f2, f3⟩ := dc_done HP.out HX.out.cd.1 HX.out.cd.2.1 HX.out.cd.2.2
      have HF1 := Lib.hid f1.drew
      have HF2 := Lib.hid f2
      have HF3 := Lib.hid f3
      have HWF := Lib.hid ef
      have hwd : w.heap.size < w9.heap.size := by have := HP.out.b4; omega
      have hbb5 := HX.out.box.2
      clear f1 f2 f3 ef
      refine wp_region_held_drew (S := fun w' => w'.cell? ⟨B4, 0, none⟩ = some (.int .i64 (n : Int)) ∧ w'.cell? ⟨B4, 1, none⟩ = some (.slice Av lv kv) ∧ w'.cell? ⟨B5, 0, none⟩ = some (.int .i64 ((z : Int) - 1)) ∧ w'.cell? ⟨B5, 1, none⟩ = some (.int .i64 lb) ∧ w'.cell? ⟨B5, 2, none⟩ = some (.slice Af mf cf) ∧ w'.cell? ⟨B5, 3, none⟩ = some (.slice As ms cs) ∧ w'.cell? ⟨B5, 4, none⟩ = some (.slice Ar mr cr)) (by kernel_rfl) ?_ (fun hHeld => ?_)
      · go_keep
      refine tk 0 91 rfl rfl ?_
      try simp only [Act.put, pu]
      refine tk 1 92 rfl rfl ?_
      try simp only [Act.put, pu]
      refine tr 2 rfl (by kernel_rfl) (fun K hK => ?_)
      go_simp
      have gA := grownT (grownP w9 w.heap.size 0 (.int .i64 (n : Int))) (grownP _ w.heap.size 1 (.slice Av lv kv))
      replace k0 := gA.cell k0 (ne_blk (show B4 ≠ w.heap.size by omega))
      replace k1 := gA.cell k1 (ne_blk (show B4 ≠ w.heap.size by omega))
      replace x0 := gA.cell x0 (ne_blk (show B5 ≠ w.heap.size by omega))
      replace x1 := gA.cell x1 (ne_blk (show B5 ≠ w.heap.size by omega))
      replace x2 := gA.cell x2 (ne_blk (show B5 ≠ w.heap.size by omega))
      replace x3 := gA.cell x3 (ne_blk (show B5 ≠ w.heap.size by omega))
      replace x4 := gA.cell x4 (ne_blk (show B5 ≠ w.heap.size by omega))
      replace y0' := gA.cell y0' (ne_blk (show w.heap.size + 1 ≠ w.heap.size by omega))
      replace y1' := gA.cell y1' (ne_blk (show w.heap.size + 1 ≠ w.heap.size by omega))
      replace y2' := gA.cell y2' (ne_blk (show w.heap.size + 1 ≠ w.heap.size by omega))
      replace y3' := gA.cell y3' (ne_blk (show w.heap.size + 1 ≠ w.heap.size by omega))
      replace y4' := gA.cell y4' (ne_blk (show w.heap.size + 1 ≠ w.heap.size by omega))
      have hqf : ∀ i, ((w9.setCell ⟨w.heap.size, 0, none⟩ (.int .i64 (n : Int))).setCell ⟨w.heap.size, 1, none⟩ (.slice Av lv kv)).frozen? ⟨w.heap.size + 1, i, none⟩ = false := fun i => (World.frozen?_of_block (gA.block _ (by have := HP.out.b4; show w.heap.size + 1 < _; omega) (ne_blk (show w.heap.size + 1 ≠ w.heap.size by omega)))).trans (yf i)
      refine hK.out _ _ ?_ (fun hHeld => ?_)
      · go_keep
      clear hK K
      try simp only [Act.put, pu]
      refine tr 3 rfl (by kernel_rfl) (fun K hK => ?_)
      go_simp
      have gB := (grownT (grownT (grownT (grownT (grownP ((w9.setCell ⟨w.heap.size, 0, none⟩ (.int .i64 (n : Int))).setCell ⟨w.heap.size, 1, none⟩ (.slice Av lv kv)) (w.heap.size + 1) 0 (.int .i64 ((z : Int) - 1))) (grownP _ (w.heap.size + 1) 1 (.int .i64 lb))) (grownP _ (w.heap.size + 1) 2 (.slice Af mf cf))) (grownP _ (w.heap.size + 1) 3 (.slice As ms cs))) (grownP _ (w.heap.size + 1) 4 (.slice Ar mr cr)))
      replace k0 := gB.cell k0 (ne_blk (show B4 ≠ w.heap.size + 1 by omega))
      replace k1 := gB.cell k1 (ne_blk (show B4 ≠ w.heap.size + 1 by omega))
      replace x0 := gB.cell x0 (ne_blk (show B5 ≠ w.heap.size + 1 by omega))
      replace x1 := gB.cell x1 (ne_blk (show B5 ≠ w.heap.size + 1 by omega))
      replace x2 := gB.cell x2 (ne_blk (show B5 ≠ w.heap.size + 1 by omega))
      replace x3 := gB.cell x3 (ne_blk (show B5 ≠ w.heap.size + 1 by omega))
      replace x4 := gB.cell x4 (ne_blk (show B5 ≠ w.heap.size + 1 by omega))
      refine hK.out _ _ ?_ (fun hHeld => ?_)
      · go_keep
      clear hK K
      try simp only [Act.put, pu]
      refine wpAnyH_done (by kernel_rfl) ?_ _
      go_wp2_with fail
      rw [← HWF.out]
      obtain ⟨z0, z1, -⟩ := cells2 HF2
      obtain ⟨⟨u0, u1, u2⟩, ⟨u3, u4⟩, -⟩ := cells5 HF3
      have hdz : ∀ a, wf.drew.cell? a = wf.cell? a := fun _ => rfl
      refine bodyPost_ret (v := .tuple #[.agg #[.int .i64 (n : Int), .slice Av lv kv], certVw ((z : Int) - 1) lb (.slice Af mf cf) (.slice As ms cs) (.slice Ar mr cr)]) (by simp [results, Tryz.results16, go_sem, hdz, z0, z1, u0, u1, u2, u3, u4]) rfl HF1.out
    · have e0 : ((y : Int) == 0) = false := by simpa using y0
      by_cases y1 : y = 1
      · subst y1
        obtain ⟨k0, k1, kf⟩ := cells2 (Lib.hid HP.out.box)
        go_wp2_with fail
        refine (cur_pick (w.heap.size + 2) (2000 + 2) (.slice A nb c) ((n : Int) + 1) w7 HP.out.cur (by omega)).mono ?_
        rintro e w8 ⟨z, rfl, hz, hc8, hg8⟩
        have hz5 : z ≤ 13 := by omega
        have HP8 := Lib.hid (HP.out.draw hc8 hg8)
        have HX8 := Lib.hid (HX.out.draw hg8 (by omega))
        clear HP HX hc8 hg8 hz k0 k1 kf
        go_wp2_with fail
        refine (cur_pick (w.heap.size + 2) (2000 + 2 + 2) (.slice A nb c) 8 w8 HP8.out.cur (by omega)).mono ?_
        rintro e w9 ⟨u, rfl, hu, hc9, hg9⟩
        have hu7 : u ≤ 7 := by omega
        have HP9 := Lib.hid (HP8.out.draw hc9 hg9)
        have HX9 := Lib.hid (HX8.out.draw hg9 (by omega))
        clear HP8 HX8 hc9 hg9 hu
        obtain ⟨⟨x0, x1, x2⟩, ⟨x3, x4⟩, xf⟩ := cells5 (Lib.hid HX9.out.box.1)
        go_wp2_with fail
        obtain ⟨wA, hwA⟩ : ∃ q, q = w9.setCell ⟨B5, 1, none⟩ (.int .i64 ((z : Int) - (u : Int) / 7)) := ⟨_, rfl⟩
        rw [← hwA]
        have HP := Lib.hid (show Pq w B4 M (2000 + 2 + 2 + 2) n (.slice A nb c) (.slice Av lv kv) wA by rw [hwA]; exact HP9.out.high ((Below.refl _ _).setCell hB5 _) (by rw [size_setCell]; exact Nat.le_refl _))
        have HX := Lib.hid (show Cx M B5 cl ((z : Int) - (u : Int) / 7) (.slice Af mf cf) (.slice As ms cs) (.slice Ar mr cr) wA by rw [hwA]; exact HX9.out.num rfl HX9.out.cd.2.1 (by unfold I64; omega))
        clear hwA HP9 HX9 x0 x1 x2 x3 x4 xf
        obtain ⟨k0, k1, kf⟩ := cells2 (Lib.hid HP.out.box)
        obtain ⟨⟨x0, x1, x2⟩, ⟨x3, x4⟩, xf⟩ := cells5 (Lib.hid HX.out.box.1)
        obtain ⟨d0, d1, df⟩ := cells2 (Lib.hid HP.out.r1)
        obtain ⟨⟨y0', y1', y2'⟩, ⟨y3', y4'⟩, yf⟩ := cells5 (Lib.hid HP.out.r2)
        obtain ⟨wf, ef, f1, f2, f3⟩ := dc_done HP.out HX.out.cd.1 HX.out.cd.2.1 HX.out.cd.2.2
        have HF1 := Lib.hid f1.drew
        have HF2 := Lib.hid f2
        have HF3 := Lib.hid f3
        have HWF := Lib.hid ef
        have hwd : w.heap.size < wA.heap.size := by have := HP.out.b4; omega
        have hbb5 := HX.out.box.2
        clear f1 f2 f3 ef
        refine wp_region_held_drew (S := fun w' => w'.cell? ⟨B4, 0, none⟩ = some (.int .i64 (n : Int)) ∧ w'.cell? ⟨B4, 1, none⟩ = some (.slice Av lv kv) ∧ w'.cell? ⟨B5, 0, none⟩ = some (.int .i64 cl) ∧ w'.cell? ⟨B5, 1, none⟩ = some (.int .i64 ((z : Int) - (u : Int) / 7)) ∧ w'.cell? ⟨B5, 2, none⟩ = some (.slice Af mf cf) ∧ w'.cell? ⟨B5, 3, none⟩ = some (.slice As ms cs) ∧ w'.cell? ⟨B5, 4, none⟩ = some (.slice Ar mr cr)) (by kernel_rfl) ?_ (fun hHeld => ?_)
        · go_keep
        refine tk 0 91 rfl rfl ?_
        try simp only [Act.put, pu]
        refine tk 1 92 rfl rfl ?_
        try simp only [Act.put, pu]
        refine tr 2 rfl (by kernel_rfl) (fun K hK => ?_)
        go_simp
        have gA := grownT (grownP wA w.heap.size 0 (.int .i64 (n : Int))) (grownP _ w.heap.size 1 (.slice Av lv kv))
        replace k0 := gA.cell k0 (ne_blk (show B4 ≠ w.heap.size by omega))
        replace k1 := gA.cell k1 (ne_blk (show B4 ≠ w.heap.size by omega))
        replace x0 := gA.cell x0 (ne_blk (show B5 ≠ w.heap.size by omega))
        replace x1 := gA.cell x1 (ne_blk (show B5 ≠ w.heap.size by omega))
        replace x2 := gA.cell x2 (ne_blk (show B5 ≠ w.heap.size by omega))
        replace x3 := gA.cell x3 (ne_blk (show B5 ≠ w.heap.size by omega))
        replace x4 := gA.cell x4 (ne_blk (show B5 ≠ w.heap.size by omega))
        replace y0' := gA.cell y0' (ne_blk (show w.heap.size + 1 ≠ w.heap.size by omega))
        replace y1' := gA.cell y1' (ne_blk (show w.heap.size + 1 ≠ w.heap.size by omega))
        replace y2' := gA.cell y2' (ne_blk (show w.heap.size + 1 ≠ w.heap.size by omega))
        replace y3' := gA.cell y3' (ne_blk (show w.heap.size + 1 ≠ w.heap.size by omega))
        replace y4' := gA.cell y4' (ne_blk (show w.heap.size + 1 ≠ w.heap.size by omega))
        have hqf : ∀ i, ((wA.setCell ⟨w.heap.size, 0, none⟩ (.int .i64 (n : Int))).setCell ⟨w.heap.size, 1, none⟩ (.slice Av lv kv)).frozen? ⟨w.heap.size + 1, i, none⟩ = false := fun i => (World.frozen?_of_block (gA.block _ (by have := HP.out.b4; show w.heap.size + 1 < _; omega) (ne_blk (show w.heap.size + 1 ≠ w.heap.size by omega)))).trans (yf i)
        refine hK.out _ _ ?_ (fun hHeld => ?_)
        · go_keep
        clear hK K
        try simp only [Act.put, pu]
        refine tr 3 rfl (by kernel_rfl) (fun K hK => ?_)
        go_simp
        have gB := (grownT (grownT (grownT (grownT (grownP ((wA.setCell ⟨w.heap.size, 0, none⟩ (.int .i64 (n : Int))).setCell ⟨w.heap.size, 1, none⟩ (.slice Av lv kv)) (w.heap.size + 1) 0 (.int .i64 cl)) (grownP _ (w.heap.size + 1) 1 (.int .i64 ((z : Int) - (u : Int) / 7)))) (grownP _ (w.heap.size + 1) 2 (.slice Af mf cf))) (grownP _ (w.heap.size + 1) 3 (.slice As ms cs))) (grownP _ (w.heap.size + 1) 4 (.slice Ar mr cr)))
        replace k0 := gB.cell k0 (ne_blk (show B4 ≠ w.heap.size + 1 by omega))
        replace k1 := gB.cell k1 (ne_blk (show B4 ≠ w.heap.size + 1 by omega))
        replace x0 := gB.cell x0 (ne_blk (show B5 ≠ w.heap.size + 1 by omega))
        replace x1 := gB.cell x1 (ne_blk (show B5 ≠ w.heap.size + 1 by omega))
        replace x2 := gB.cell x2 (ne_blk (show B5 ≠ w.heap.size + 1 by omega))
        replace x3 := gB.cell x3 (ne_blk (show B5 ≠ w.heap.size + 1 by omega))
        replace x4 := gB.cell x4 (ne_blk (show B5 ≠ w.heap.size + 1 by omega))
        refine hK.out _ _ ?_ (fun hHeld => ?_)
        · go_keep
        clear hK K
        try simp only [Act.put, pu]
        refine wpAnyH_done (by kernel_rfl) ?_ _
        go_wp2_with fail
        rw [← HWF.out]
        obtain ⟨z0, z1, -⟩ := cells2 HF2
        obtain ⟨⟨u0, u1, u2⟩, ⟨u3, u4⟩, -⟩ := cells5 HF3
        have hdz : ∀ a, wf.drew.cell? a = wf.cell? a := fun _ => rfl
        refine bodyPost_ret (v := .tuple #[.agg #[.int .i64 (n : Int), .slice Av lv kv], certVw cl ((z : Int) - (u : Int) / 7) (.slice Af mf cf) (.slice As ms cs) (.slice Ar mr cr)]) (by simp [results, Tryz.results16, go_sem, hdz, z0, z1, u0, u1, u2, u3, u4]) rfl HF1.out
      · have e1 : ((y : Int) == 1) = false := by rw [beq_eq_false_iff_ne]; omega
        by_cases y2 : y = 2
        · subst y2
          obtain ⟨⟨x0, x1, x2⟩, ⟨x3, x4⟩, xf⟩ := cells5 (Lib.hid HX.out.box.1)
          by_cases hm0 : mf = 0
          · subst hm0
            go_wp2_with fail
            clear x0 x1 x2 x3 x4 xf
            obtain ⟨k0, k1, kf⟩ := cells2 (Lib.hid HP.out.box)
            obtain ⟨⟨x0, x1, x2⟩, ⟨x3, x4⟩, xf⟩ := cells5 (Lib.hid HX.out.box.1)
            obtain ⟨d0, d1, df⟩ := cells2 (Lib.hid HP.out.r1)
            obtain ⟨⟨y0', y1', y2'⟩, ⟨y3', y4'⟩, yf⟩ := cells5 (Lib.hid HP.out.r2)
            obtain ⟨wf, ef, f1, f2, f3⟩ := dc_done HP.out HX.out.cd.1 HX.out.cd.2.1 HX.out.cd.2.2
            have HF1 := Lib.hid f1.drew
            have HF2 := Lib.hid f2
            have HF3 := Lib.hid f3
            have HWF := Lib.hid ef
            have hwd : w.heap.size < w7.heap.size := by have := HP.out.b4; omega
            have hbb5 := HX.out.box.2
            clear f1 f2 f3 ef
            refine wp_region_held_drew (S := fun w' => w'.cell? ⟨B4, 0, none⟩ = some (.int .i64 (n : Int)) ∧ w'.cell? ⟨B4, 1, none⟩ = some (.slice Av lv kv) ∧ w'.cell? ⟨B5, 0, none⟩ = some (.int .i64 cl) ∧ w'.cell? ⟨B5, 1, none⟩ = some (.int .i64 lb) ∧ w'.cell? ⟨B5, 2, none⟩ = some (.slice Af 0 cf) ∧ w'.cell? ⟨B5, 3, none⟩ = some (.slice As ms cs) ∧ w'.cell? ⟨B5, 4, none⟩ = some (.slice Ar mr cr)) (by kernel_rfl) ?_ (fun hHeld => ?_)
            · go_keep
            refine tk 0 91 rfl rfl ?_
            try simp only [Act.put, pu]
            refine tk 1 92 rfl rfl ?_
            try simp only [Act.put, pu]
            refine tr 2 rfl (by kernel_rfl) (fun K hK => ?_)
            go_simp
            have gA := grownT (grownP w7 w.heap.size 0 (.int .i64 (n : Int))) (grownP _ w.heap.size 1 (.slice Av lv kv))
            replace k0 := gA.cell k0 (ne_blk (show B4 ≠ w.heap.size by omega))
            replace k1 := gA.cell k1 (ne_blk (show B4 ≠ w.heap.size by omega))
            replace x0 := gA.cell x0 (ne_blk (show B5 ≠ w.heap.size by omega))
            replace x1 := gA.cell x1 (ne_blk (show B5 ≠ w.heap.size by omega))
            replace x2 := gA.cell x2 (ne_blk (show B5 ≠ w.heap.size by omega))
            replace x3 := gA.cell x3 (ne_blk (show B5 ≠ w.heap.size by omega))
            replace x4 := gA.cell x4 (ne_blk (show B5 ≠ w.heap.size by omega))
            replace y0' := gA.cell y0' (ne_blk (show w.heap.size + 1 ≠ w.heap.size by omega))
            replace y1' := gA.cell y1' (ne_blk (show w.heap.size + 1 ≠ w.heap.size by omega))
            replace y2' := gA.cell y2' (ne_blk (show w.heap.size + 1 ≠ w.heap.size by omega))
            replace y3' := gA.cell y3' (ne_blk (show w.heap.size + 1 ≠ w.heap.size by omega))
            replace y4' := gA.cell y4' (ne_blk (show w.heap.size + 1 ≠ w.heap.size by omega))
            have hqf : ∀ i, ((w7.setCell ⟨w.heap.size, 0, none⟩ (.int .i64 (n : Int))).setCell ⟨w.heap.size, 1, none⟩ (.slice Av lv kv)).frozen? ⟨w.heap.size + 1, i, none⟩ = false := fun i => (World.frozen?_of_block (gA.block _ (by have := HP.out.b4; show w.heap.size + 1 < _; omega) (ne_blk (show w.heap.size + 1 ≠ w.heap.size by omega)))).trans (yf i)
            refine hK.out _ _ ?_ (fun hHeld => ?_)
            · go_keep
            clear hK K
            try simp only [Act.put, pu]
            refine tr 3 rfl (by kernel_rfl) (fun K hK => ?_)
            go_simp
            have gB := (grownT (grownT (grownT (grownT (grownP ((w7.setCell ⟨w.heap.size, 0, none⟩ (.int .i64 (n : Int))).setCell ⟨w.heap.size, 1, none⟩ (.slice Av lv kv)) (w.heap.size + 1) 0 (.int .i64 cl)) (grownP _ (w.heap.size + 1) 1 (.int .i64 lb))) (grownP _ (w.heap.size + 1) 2 (.slice Af 0 cf))) (grownP _ (w.heap.size + 1) 3 (.slice As ms cs))) (grownP _ (w.heap.size + 1) 4 (.slice Ar mr cr)))
            replace k0 := gB.cell k0 (ne_blk (show B4 ≠ w.heap.size + 1 by omega))
            replace k1 := gB.cell k1 (ne_blk (show B4 ≠ w.heap.size + 1 by omega))
            replace x0 := gB.cell x0 (ne_blk (show B5 ≠ w.heap.size + 1 by omega))
            replace x1 := gB.cell x1 (ne_blk (show B5 ≠ w.heap.size + 1 by omega))
            replace x2 := gB.cell x2 (ne_blk (show B5 ≠ w.heap.size + 1 by omega))
            replace x3 := gB.cell x3 (ne_blk (show B5 ≠ w.heap.size + 1 by omega))
            replace x4 := gB.cell x4 (ne_blk (show B5 ≠ w.heap.size + 1 by omega))
            refine hK.out _ _ ?_ (fun hHeld => ?_)
            · go_keep
            clear hK K
            try simp only [Act.put, pu]
            refine wpAnyH_done (by kernel_rfl) ?_ _
            go_wp2_with fail
            rw [← HWF.out]
            obtain ⟨z0, z1, -⟩ := cells2 HF2
            obtain ⟨⟨u0, u1, u2⟩, ⟨u3, u4⟩, -⟩ := cells5 HF3
            have hdz : ∀ a, wf.drew.cell? a = wf.cell? a := fun _ => rfl
            refine bodyPost_ret (v := .tuple #[.agg #[.int .i64 (n : Int), .slice Av lv kv], certVw cl lb (.slice Af 0 cf) (.slice As ms cs) (.slice Ar mr cr)]) (by simp [results, Tryz.results16, go_sem, hdz, z0, z1, u0, u1, u2, u3, u4]) rfl HF1.out
          · have hmp : (0 : Int) < (mf : Int) := by omega
            obtain ⟨g, cs', rfl, b1, b2, b3, b4, b5⟩ := HX.out.firstBlk (by omega)
            obtain ⟨k0, k1, kf⟩ := cells2 (Lib.hid HP.out.box)
            clear b1 b2 b3 x0 x1 x3 x4 xf k1 kf
            have f1 : IntKind.i64.wrap ((n : Int) + 1) = (n : Int) + 1 := IntWalk.i64_in _ (by omega)
            go_wp2_with fail
            refine wp_region_held_drew (S := fun w' => w'.cell? ⟨B5, 2, none⟩ = some (.slice (some ⟨g, 0, none⟩) mf cf) ∧ w'.cell? ⟨B4, 0, none⟩ = some (.int .i64 (n : Int))) (by kernel_rfl) ?_ (fun hHeld => ?_)
            · go_keep
            refine tk 0 45 rfl rfl ?_
            try simp only [Act.put, pu]
            refine tk 1 46 rfl rfl ?_
            try simp only [Act.put, pu]
            refine tk 2 47 rfl rfl ?_
            try simp only [Act.put, pu]
            refine tk 3 48 rfl rfl ?_
            try simp only [Act.put, pu]
            refine tk 4 49 rfl rfl ?_
            try simp only [Act.put, pu]
            refine tk 5 50 rfl rfl ?_
            try simp only [Act.put, pu]
            refine tk 7 52 rfl rfl ?_
            try simp only [Act.put, pu]
            refine tk 8 53 rfl rfl ?_
            try simp only [Act.put, pu]
            refine tk 9 54 rfl rfl ?_
            try simp only [Act.put, pu]
            refine tk 10 55 rfl rfl ?_
            try simp only [Act.put, pu]
            refine tr 6 rfl (by kernel_rfl) (fun K hK => ?_)
            go_simp
            go_at_call 35
            have hd : Below w7.heap.size w7 w7.drew := (Below.refl _ _).drew
            refine (cur_pick (w.heap.size + 2) (2000 + 2) (.slice A nb c) (mf : Int) w7.drew (HP.out.below hd).cur (by omega)).mono ?_
            rintro e w8 ⟨i, rfl, hi, hc8, hg8⟩
            have him : i < mf := by omega
            have HP8 := Lib.hid ((HP.out.below hd).draw hc8 hg8)
            have HX8 := Lib.hid ((HX.out.below hd).draw hg8 (by omega))
            clear x2 k0 hd hc8 hg8 hi
            obtain ⟨⟨-, -, x2⟩, -, -⟩ := cells5 (Lib.hid HX8.out.box.1)
            obtain ⟨k0, -, -⟩ := cells2 (Lib.hid HP8.out.box)
            refine hK.out _ _ ?_ (fun hHeld => ?_)
            · go_keep
            clear hK K
            try simp only [Act.put, pu]
            refine tr 11 rfl (by kernel_rfl) (fun K hK => ?_)
            go_simp
            go_at_call 35
            refine (cur_pick (w.heap.size + 2) (2000 + 2 + 2) (.slice A nb c) ((n : Int) + 1) w8 HP8.out.cur (by omega)).mono ?_
            rintro e w9 ⟨u, rfl, hu, hc9, hg9⟩
            have hu13 : u ≤ 13 := by omega
            have HP9 := Lib.hid (HP8.out.draw hc9 hg9)
            have HX9 := Lib.hid (HX8.out.draw hg9 (by omega))
            clear x2 k0 hc9 hg9 hu
            obtain ⟨⟨-, -, x2⟩, -, -⟩ := cells5 (Lib.hid HX9.out.box.1)
            obtain ⟨k0, -, -⟩ := cells2 (Lib.hid HP9.out.box)
            obtain ⟨g', cs', e1, b1, b2, b3, b4, b5⟩ := HX9.out.firstBlk (by omega)
            obtain rfl : g' = g := by have := Option.some.inj e1; exact ((Addr.mk.inj this).1).symm
            obtain ⟨ov, b6⟩ : ∃ v, w9.cell? ⟨g', i, none⟩ = some v := ⟨cs'[i]'(by omega), by rw [cell_of_row _ _ i _ _ (0, 0) b1]; exact Array.getElem?_eq_getElem _⟩
            have b7 := frozen_of_row _ _ i _ _ b1
            obtain ⟨hx9, -⟩ := HX9.out.first (i := i) (x := (u : Int)) him (by unfold I64; omega)
            have q1 := (grownP w9 g' i (.int .i64 (u : Int))).cell x2 (ne_blk (show B5 ≠ g' by omega))
            have q2 := (grownP w9 g' i (.int .i64 (u : Int))).cell k0 (ne_blk (show B4 ≠ g' by omega))
            have HXA := Lib.hid hx9
            clear b1 b2 b3 e1 hx9
            refine hK.out _ _ ?_ (fun hHeld => ?_)
            · go_keep
            clear hK K
            try simp only [Act.put, pu]
            refine tk 12 57 rfl rfl ?_
            try simp only [Act.put, pu]
            refine tr 13 rfl (by kernel_rfl) (fun K hK => ?_)
            go_simp
            
            refine hK.out _ _ ?_ (fun hHeld => ?_)
            · go_keep
            clear hK K
            try simp only [Act.put, pu]
            refine wpAnyH_done (by kernel_rfl) ?_ _
            go_wp2_with fail
            obtain ⟨wA, hwA⟩ : ∃ q, q = w9.setCell ⟨g', i, none⟩ (.int .i64 (u : Int)) := ⟨_, rfl⟩
            rw [← hwA]
            have HPA := Lib.hid (show Pq w B4 M (2000 + 2 + 2 + 2) n (.slice A nb c) (.slice Av lv kv) wA by rw [hwA]; exact HP9.out.high ((Below.refl _ _).setCell b4 _) (by rw [size_setCell]; exact Nat.le_refl _))
            have HXB := Lib.hid (show Cx M B5 cl lb (.slice (some ⟨g', 0, none⟩) mf cf) (.slice As ms cs) (.slice Ar mr cr) wA by rw [hwA]; exact HXA.out)
            clear hwA HP9 HX9 x2 k0 b6 b7 q1 q2 f1 HXA HP HX
            have HP := HPA
            have HX := HXB
            clear HPA HXB
            obtain ⟨k0, k1, kf⟩ := cells2 (Lib.hid HP.out.box)
            obtain ⟨⟨x0, x1, x2⟩, ⟨x3, x4⟩, xf⟩ := cells5 (Lib.hid HX.out.box.1)
            obtain ⟨d0, d1, df⟩ := cells2 (Lib.hid HP.out.r1)
            obtain ⟨⟨y0', y1', y2'⟩, ⟨y3', y4'⟩, yf⟩ := cells5 (Lib.hid HP.out.r2)
            obtain ⟨wf, ef, f1, f2, f3⟩ := dc_done HP.out HX.out.cd.1 HX.out.cd.2.1 HX.out.cd.2.2
            have HF1 := Lib.hid f1.drew
            have HF2 := Lib.hid f2
            have HF3 := Lib.hid f3
            have HWF := Lib.hid ef
            have hwd : w.heap.size < wA.heap.size := by have := HP.out.b4; omega
            have hbb5 := HX.out.box.2
            clear f1 f2 f3 ef
            refine wp_region_held_drew (S := fun w' => w'.cell? ⟨B4, 0, none⟩ = some (.int .i64 (n : Int)) ∧ w'.cell? ⟨B4, 1, none⟩ = some (.slice Av lv kv) ∧ w'.cell? ⟨B5, 0, none⟩ = some (.int .i64 cl) ∧ w'.cell? ⟨B5, 1, none⟩ = some (.int .i64 lb) ∧ w'.cell? ⟨B5, 2, none⟩ = some (.slice (some ⟨g', 0, none⟩) mf cf) ∧ w'.cell? ⟨B5, 3, none⟩ = some (.slice As ms cs) ∧ w'.cell? ⟨B5, 4, none⟩ = some (.slice Ar mr cr)) (by kernel_rfl) ?_ (fun hHeld => ?_)
            · go_keep
            refine tk 0 91 rfl rfl ?_
            try simp only [Act.put, pu]
            refine tk 1 92 rfl rfl ?_
            try simp only [Act.put, pu]
            refine tr 2 rfl (by kernel_rfl) (fun K hK => ?_)
            go_simp
            have gA := grownT (grownP wA w.heap.size 0 (.int .i64 (n : Int))) (grownP _ w.heap.size 1 (.slice Av lv kv))
            replace k0 := gA.cell k0 (ne_blk (show B4 ≠ w.heap.size by omega))
            replace k1 := gA.cell k1 (ne_blk (show B4 ≠ w.heap.size by omega))
            replace x0 := gA.cell x0 (ne_blk (show B5 ≠ w.heap.size by omega))
            replace x1 := gA.cell x1 (ne_blk (show B5 ≠ w.heap.size by omega))
            replace x2 := gA.cell x2 (ne_blk (show B5 ≠ w.heap.size by omega))
            replace x3 := gA.cell x3 (ne_blk (show B5 ≠ w.heap.size by omega))
            replace x4 := gA.cell x4 (ne_blk (show B5 ≠ w.heap.size by omega))
            replace y0' := gA.cell y0' (ne_blk (show w.heap.size + 1 ≠ w.heap.size by omega))
            replace y1' := gA.cell y1' (ne_blk (show w.heap.size + 1 ≠ w.heap.size by omega))
            replace y2' := gA.cell y2' (ne_blk (show w.heap.size + 1 ≠ w.heap.size by omega))
            replace y3' := gA.cell y3' (ne_blk (show w.heap.size + 1 ≠ w.heap.size by omega))
            replace y4' := gA.cell y4' (ne_blk (show w.heap.size + 1 ≠ w.heap.size by omega))
            have hqf : ∀ i, ((wA.setCell ⟨w.heap.size, 0, none⟩ (.int .i64 (n : Int))).setCell ⟨w.heap.size, 1, none⟩ (.slice Av lv kv)).frozen? ⟨w.heap.size + 1, i, none⟩ = false := fun i => (World.frozen?_of_block (gA.block _ (by have := HP.out.b4; show w.heap.size + 1 < _; omega) (ne_blk (show w.heap.size + 1 ≠ w.heap.size by omega)))).trans (yf i)
            refine hK.out _ _ ?_ (fun hHeld => ?_)
            · go_keep
            clear hK K
            try simp only [Act.put, pu]
            refine tr 3 rfl (by kernel_rfl) (fun K hK => ?_)
            go_simp
            have gB := (grownT (grownT (grownT (grownT (grownP ((wA.setCell ⟨w.heap.size, 0, none⟩ (.int .i64 (n : Int))).setCell ⟨w.heap.size, 1, none⟩ (.slice Av lv kv)) (w.heap.size + 1) 0 (.int .i64 cl)) (grownP _ (w.heap.size + 1) 1 (.int .i64 lb))) (grownP _ (w.heap.size + 1) 2 (.slice (some ⟨g', 0, none⟩) mf cf))) (grownP _ (w.heap.size + 1) 3 (.slice As ms cs))) (grownP _ (w.heap.size + 1) 4 (.slice Ar mr cr)))
            replace k0 := gB.cell k0 (ne_blk (show B4 ≠ w.heap.size + 1 by omega))
            replace k1 := gB.cell k1 (ne_blk (show B4 ≠ w.heap.size + 1 by omega))
            replace x0 := gB.cell x0 (ne_blk (show B5 ≠ w.heap.size + 1 by omega))
            replace x1 := gB.cell x1 (ne_blk (show B5 ≠ w.heap.size + 1 by omega))
            replace x2 := gB.cell x2 (ne_blk (show B5 ≠ w.heap.size + 1 by omega))
            replace x3 := gB.cell x3 (ne_blk (show B5 ≠ w.heap.size + 1 by omega))
            replace x4 := gB.cell x4 (ne_blk (show B5 ≠ w.heap.size + 1 by omega))
            refine hK.out _ _ ?_ (fun hHeld => ?_)
            · go_keep
            clear hK K
            try simp only [Act.put, pu]
            refine wpAnyH_done (by kernel_rfl) ?_ _
            go_wp2_with fail
            rw [← HWF.out]
            obtain ⟨z0, z1, -⟩ := cells2 HF2
            obtain ⟨⟨u0, u1, u2⟩, ⟨u3, u4⟩, -⟩ := cells5 HF3
            have hdz : ∀ a, wf.drew.cell? a = wf.cell? a := fun _ => rfl
            refine bodyPost_ret (v := .tuple #[.agg #[.int .i64 (n : Int), .slice Av lv kv], certVw cl lb (.slice (some ⟨g', 0, none⟩) mf cf) (.slice As ms cs) (.slice Ar mr cr)]) (by simp [results, Tryz.results16, go_sem, hdz, z0, z1, u0, u1, u2, u3, u4]) rfl HF1.out
        · have e2 : ((y : Int) == 2) = false := by rw [beq_eq_false_iff_ne]; omega
          by_cases y3 : y = 3
          · subst y3
            obtain ⟨⟨x0, x1, x2⟩, ⟨x3, x4⟩, xf⟩ := cells5 (Lib.hid HX.out.box.1)
            by_cases hm0 : mr = 0
            · subst hm0
              go_wp2_with fail
              clear x0 x1 x2 x3 x4 xf
              obtain ⟨k0, k1, kf⟩ := cells2 (Lib.hid HP.out.box)
              obtain ⟨⟨x0, x1, x2⟩, ⟨x3, x4⟩, xf⟩ := cells5 (Lib.hid HX.out.box.1)
              obtain ⟨d0, d1, df⟩ := cells2 (Lib.hid HP.out.r1)
              obtain ⟨⟨y0', y1', y2'⟩, ⟨y3', y4'⟩, yf⟩ := cells5 (Lib.hid HP.out.r2)
              obtain ⟨wf, ef, f1, f2, f3⟩ := dc_done HP.out HX.out.cd.1 HX.out.cd.2.1 HX.out.cd.2.2
              have HF1 := Lib.hid f1.drew
              have HF2 := Lib.hid f2
              have HF3 := Lib.hid f3
              have HWF := Lib.hid ef
              have hwd : w.heap.size < w7.heap.size := by have := HP.out.b4; omega
              have hbb5 := HX.out.box.2
              clear f1 f2 f3 ef
              refine wp_region_held_drew (S := fun w' => w'.cell? ⟨B4, 0, none⟩ = some (.int .i64 (n : Int)) ∧ w'.cell? ⟨B4, 1, none⟩ = some (.slice Av lv kv) ∧ w'.cell? ⟨B5, 0, none⟩ = some (.int .i64 cl) ∧ w'.cell? ⟨B5, 1, none⟩ = some (.int .i64 lb) ∧ w'.cell? ⟨B5, 2, none⟩ = some (.slice Af mf cf) ∧ w'.cell? ⟨B5, 3, none⟩ = some (.slice As ms cs) ∧ w'.cell? ⟨B5, 4, none⟩ = some (.slice Ar 0 cr)) (by kernel_rfl) ?_ (fun hHeld => ?_)
              · go_keep
              refine tk 0 91 rfl rfl ?_
              try simp only [Act.put, pu]
              refine tk 1 92 rfl rfl ?_
              try simp only [Act.put, pu]
              refine tr 2 rfl (by kernel_rfl) (fun K hK => ?_)
              go_simp
              have gA := grownT (grownP w7 w.heap.size 0 (.int .i64 (n : Int))) (grownP _ w.heap.size 1 (.slice Av lv kv))
              replace k0 := gA.cell k0 (ne_blk (show B4 ≠ w.heap.size by omega))
              replace k1 := gA.cell k1 (ne_blk (show B4 ≠ w.heap.size by omega))
              replace x0 := gA.cell x0 (ne_blk (show B5 ≠ w.heap.size by omega))
              replace x1 := gA.cell x1 (ne_blk (show B5 ≠ w.heap.size by omega))
              replace x2 := gA.cell x2 (ne_blk (show B5 ≠ w.heap.size by omega))
              replace x3 := gA.cell x3 (ne_blk (show B5 ≠ w.heap.size by omega))
              replace x4 := gA.cell x4 (ne_blk (show B5 ≠ w.heap.size by omega))
              replace y0' := gA.cell y0' (ne_blk (show w.heap.size + 1 ≠ w.heap.size by omega))
              replace y1' := gA.cell y1' (ne_blk (show w.heap.size + 1 ≠ w.heap.size by omega))
              replace y2' := gA.cell y2' (ne_blk (show w.heap.size + 1 ≠ w.heap.size by omega))
              replace y3' := gA.cell y3' (ne_blk (show w.heap.size + 1 ≠ w.heap.size by omega))
              replace y4' := gA.cell y4' (ne_blk (show w.heap.size + 1 ≠ w.heap.size by omega))
              have hqf : ∀ i, ((w7.setCell ⟨w.heap.size, 0, none⟩ (.int .i64 (n : Int))).setCell ⟨w.heap.size, 1, none⟩ (.slice Av lv kv)).frozen? ⟨w.heap.size + 1, i, none⟩ = false := fun i => (World.frozen?_of_block (gA.block _ (by have := HP.out.b4; show w.heap.size + 1 < _; omega) (ne_blk (show w.heap.size + 1 ≠ w.heap.size by omega)))).trans (yf i)
              refine hK.out _ _ ?_ (fun hHeld => ?_)
              · go_keep
              clear hK K
              try simp only [Act.put, pu]
              refine tr 3 rfl (by kernel_rfl) (fun K hK => ?_)
              go_simp
              have gB := (grownT (grownT (grownT (grownT (grownP ((w7.setCell ⟨w.heap.size, 0, none⟩ (.int .i64 (n : Int))).setCell ⟨w.heap.size, 1, none⟩ (.slice Av lv kv)) (w.heap.size + 1) 0 (.int .i64 cl)) (grownP _ (w.heap.size + 1) 1 (.int .i64 lb))) (grownP _ (w.heap.size + 1) 2 (.slice Af mf cf))) (grownP _ (w.heap.size + 1) 3 (.slice As ms cs))) (grownP _ (w.heap.size + 1) 4 (.slice Ar 0 cr)))
              replace k0 := gB.cell k0 (ne_blk (show B4 ≠ w.heap.size + 1 by omega))
              replace k1 := gB.cell k1 (ne_blk (show B4 ≠ w.heap.size + 1 by omega))
              replace x0 := gB.cell x0 (ne_blk (show B5 ≠ w.heap.size + 1 by omega))
              replace x1 := gB.cell x1 (ne_blk (show B5 ≠ w.heap.size + 1 by omega))
              replace x2 := gB.cell x2 (ne_blk (show B5 ≠ w.heap.size + 1 by omega))
              replace x3 := gB.cell x3 (ne_blk (show B5 ≠ w.heap.size + 1 by omega))
              replace x4 := gB.cell x4 (ne_blk (show B5 ≠ w.heap.size + 1 by omega))
              refine hK.out _ _ ?_ (fun hHeld => ?_)
              · go_keep
              clear hK K
              try simp only [Act.put, pu]
              refine wpAnyH_done (by kernel_rfl) ?_ _
              go_wp2_with fail
              rw [← HWF.out]
              obtain ⟨z0, z1, -⟩ := cells2 HF2
              obtain ⟨⟨u0, u1, u2⟩, ⟨u3, u4⟩, -⟩ := cells5 HF3
              have hdz : ∀ a, wf.drew.cell? a = wf.cell? a := fun _ => rfl
              refine bodyPost_ret (v := .tuple #[.agg #[.int .i64 (n : Int), .slice Av lv kv], certVw cl lb (.slice Af mf cf) (.slice As ms cs) (.slice Ar 0 cr)]) (by simp [results, Tryz.results16, go_sem, hdz, z0, z1, u0, u1, u2, u3, u4]) rfl HF1.out
            · have hmp : (0 : Int) < (mr : Int) := by omega
              obtain ⟨g0, rfl⟩ := HX.out.ranksBlk (by omega)
              obtain ⟨gi, ci, hrow⟩ := HX.out.rows
              have hr : ∀ k, k < mr → w7.cell? ⟨g0, k, none⟩ = some (.slice (some ⟨gi k, 0, none⟩) 3 (ci k)) := fun k hk => (hrow k hk).1
              have hg0M := HX.out.ranksM (by omega)
              have HPc := HP
              have HXc := HX
              have hzc := HPc.out.b4.2.2
              clear hrow x0 x1 x2 x3 xf HP HX
              go_wp2_with fail
              refine wp_region_held_drew (S := fun w' => w'.cell? ⟨B5, 4, none⟩ = some (.slice (some ⟨g0, 0, none⟩) mr cr) ∧ (∀ k, k < mr → w'.cell? ⟨g0, k, none⟩ = some (.slice (some ⟨gi k, 0, none⟩) 3 (ci k)))) (by kernel_rfl) ?_ (fun hHeld => ?_)
              · go_keep <;> first | exact hr | exact q2
              refine tk 0 64 rfl rfl ?_
              try simp only [Act.put, pu]
              refine tk 1 65 rfl rfl ?_
              try simp only [Act.put, pu]
              refine tk 2 66 rfl rfl ?_
              try simp only [Act.put, pu]
              refine tk 3 67 rfl rfl ?_
              try simp only [Act.put, pu]
              refine tk 4 68 rfl rfl ?_
              try simp only [Act.put, pu]
              refine tk 5 69 rfl rfl ?_
              try simp only [Act.put, pu]
              refine tk 9 73 rfl rfl ?_
              try simp only [Act.put, pu]
              refine tk 11 75 rfl rfl ?_
              try simp only [Act.put, pu]
              refine wpAnyH_ready (rs := [6, 12]) (by kernel_rfl) (by simp) ?_
              refine AllReadyH.cons rfl (fun K hK => ?_) (AllReadyH.cons rfl (fun K hK => ?_) AllReadyH.nil)
              · go_simp
                go_at_call 35
                have hd : Below w7.heap.size w7 w7.drew := (Below.refl _ _).drew
                replace hr := fun k hk => (hd.cell (p := ⟨g0, k, none⟩) (World.block_lt_of_cell? _ _ (hr k hk))).trans (hr k hk)
                refine (cur_pick (w.heap.size + 2) (2000 + 2) (.slice A nb c) (mr : Int) w7.drew (HPc.out.below hd).cur (by omega)).mono ?_
                rintro e wc ⟨k, rfl, hv, hc8, hg8⟩
                have hkm : k < mr := by omega
                replace HPc := Lib.hid ((HPc.out.below hd).draw hc8 hg8)
                replace HXc := Lib.hid ((HXc.out.below hd).draw hg8 (by omega))
                replace hr := fun k hk => hg8.cell (hr k hk) (ne_blk (show g0 ≠ w.heap.size + 2 by omega))
                clear x4 hv hc8 hg8
                obtain ⟨-, ⟨-, x4⟩, -⟩ := cells5 (Lib.hid HXc.out.box.1)
                have hzc := HPc.out.b4.2.2
                refine hK.out _ _ ?_ (fun hHeld => ?_)
                · go_keep <;> first | exact hr | exact q2
                clear hK K
                try simp only [Act.put, pu]
                refine tk 7 71 rfl rfl ?_
                try simp only [Act.put, pu]
                refine tk 8 72 rfl rfl ?_
                try simp only [Act.put, pu]
                refine wpAnyH_ready (rs := [10, 12]) (by kernel_rfl) (by simp) ?_
                refine AllReadyH.cons rfl (fun K hK => ?_) (AllReadyH.cons rfl (fun K hK => ?_) AllReadyH.nil)
                · go_simp
                  go_at_call 35
                  refine (cur_pick (w.heap.size + 2) (2000 + 2 + 2) (.slice A nb c) 3 wc HPc.out.cur (by omega)).mono ?_
                  rintro e wc ⟨j, rfl, hv, hc8, hg8⟩
                  have hj3 : j < 3 := by omega
                  have hj3i : (j : Int) < 3 := by omega
                  replace HPc := Lib.hid (HPc.out.draw hc8 hg8)
                  replace HXc := Lib.hid (HXc.out.draw hg8 (by omega))
                  replace hr := fun k hk => hg8.cell (hr k hk) (ne_blk (show g0 ≠ w.heap.size + 2 by omega))
                  clear x4 hv hc8 hg8
                  obtain ⟨-, ⟨-, x4⟩, -⟩ := cells5 (Lib.hid HXc.out.box.1)
                  have hzc := HPc.out.b4.2.2
                  refine hK.out _ _ ?_ (fun hHeld => ?_)
                  · go_keep <;> first | exact hr | exact q2
                  clear hK K
                  try simp only [Act.put, pu]
                  refine wpAnyH_ready (rs := [12]) (by kernel_rfl) (by simp) ?_
                  refine AllReadyH.cons rfl (fun K hK => ?_) AllReadyH.nil
                  go_simp
                  have hbd : Below wc.heap.size wc (wc.alloc (.cells #[.int .i64 0, .int .i64 1, .int .i64 2, .int .i64 3, .int .i64 1000, .int .i64 1001, .int .i64 (-1)] 3)) := (bl_alloc (Below.refl _ _) _)
                  have hl : (wc.alloc (.cells #[.int .i64 0, .int .i64 1, .int .i64 2, .int .i64 3, .int .i64 1000, .int .i64 1001, .int .i64 (-1)] 3)).heap[wc.heap.size]? = some (.cells (([0, 1, 2, 3, 1000, 1001, -1] : List Int).map intV).toArray 3 (0, 0)) := heap_alloc_new wc (.cells #[.int .i64 0, .int .i64 1, .int .i64 2, .int .i64 3, .int .i64 1000, .int .i64 1001, .int .i64 (-1)] 3)
                  generalize wc.alloc (.cells #[.int .i64 0, .int .i64 1, .int .i64 2, .int .i64 3, .int .i64 1000, .int .i64 1001, .int .i64 (-1)] 3) = wc at hbd hl ⊢
                  replace HPc := Lib.hid (HPc.out.below hbd)
                  replace HXc := Lib.hid (HXc.out.below hbd)
                  replace hr := fun k hk => (hbd.cell (p := ⟨g0, k, none⟩) (World.block_lt_of_cell? _ _ (hr k hk))).trans (hr k hk)
                  have HL := Lib.hid hl
                  clear x4 hl hbd
                  obtain ⟨-, ⟨-, x4⟩, -⟩ := cells5 (Lib.hid HXc.out.box.1)
                  have hzc := HPc.out.b4.2.2
                  skip
                  refine hK.out _ _ ?_ (fun hHeld => ?_)
                  · go_keep <;> first | exact hr | exact q2
                  clear hK K
                  try simp only [Act.put, pu]
                  refine wpAnyH_ready (rs := [13]) (by kernel_rfl) (by simp) ?_
                  refine AllReadyH.cons rfl (fun K hK => ?_) AllReadyH.nil
                  go_simp
                  go_at_call 36
                  refine (cur_among (w.heap.size + 2) (2000 + 2 + 2 + 2) (.slice A nb c) _ [0, 1, 2, 3, 1000, 1001, -1] wc HPc.out.cur (by omega) HL.out (by omega) (by simp) (by simp)).mono ?_
                  rintro e wc ⟨u, rfl, hv, hc8, hg8⟩
                  have hu64 : I64 u := by simp at hv; unfold I64; omega
                  replace HPc := Lib.hid (HPc.out.draw hc8 hg8)
                  replace HXc := Lib.hid (HXc.out.draw hg8 (by omega))
                  replace hr := fun k hk => hg8.cell (hr k hk) (ne_blk (show g0 ≠ w.heap.size + 2 by omega))
                  clear x4 hv hc8 hg8 HL
                  obtain ⟨-, ⟨-, x4⟩, -⟩ := cells5 (Lib.hid HXc.out.box.1)
                  have hzc := HPc.out.b4.2.2
                  obtain ⟨gi', ci', hrow⟩ := HXc.out.rows
                  obtain ⟨e1, e2, e3, e4, e5, e6, ⟨cs8, e7, e8⟩, e9⟩ := hrow k hkm
                  have hgk : gi' k = gi k := by
                    have h1 := (hr k hkm).symm.trans e1
                    have h2 := (Value.slice.inj (Option.some.inj h1)).1
                    exact ((Addr.mk.inj (Option.some.inj h2)).1).symm
                  rw [hgk] at e1 e3 e4 e5 e6 e7 e9
                  obtain ⟨ov, b6⟩ : ∃ v, wc.cell? ⟨gi k, j, none⟩ = some v := ⟨cs8[j]'(by omega), by rw [cell_of_row _ _ j _ _ (0, 0) e7]; exact Array.getElem?_eq_getElem _⟩
                  have b7 := frozen_of_row _ _ j _ _ e7
                  have hbM : Below M wc (wc.setCell ⟨gi k, j, none⟩ (.int .i64 u)) := (Below.refl _ _).setCell e3 _
                  have HPn := Lib.hid (HPc.out.high hbM (by rw [size_setCell]; exact Nat.le_refl _))
                  have HXn := Lib.hid (e9 j u hj3 hu64)
                  have q1 := (grownP wc (gi k) j (.int .i64 u)).cell x4 (ne_blk (show B5 ≠ gi k by omega))
                  have q2 : ∀ k', k' < mr → (wc.setCell ⟨gi k, j, none⟩ (.int .i64 u)).cell? ⟨g0, k', none⟩ = some (.slice (some ⟨gi k', 0, none⟩) 3 (ci k')) := fun k' hk' => (grownP wc (gi k) j (.int .i64 u)).cell (hr k' hk') (ne_blk (show g0 ≠ gi k by omega))
                  have q3 := hrow
                  clear e1 e2 e4 e5 e6 e7 e8 e9 hrow hgk hbM
                  refine hK.out _ _ ?_ (fun hHeld => ?_)
                  · go_keep <;> first | exact hr | exact q2
                  clear hK K
                  try simp only [Act.put, pu]
                  refine tk 14 78 rfl rfl ?_
                  try simp only [Act.put, pu]
                  refine wpAnyH_ready (rs := [15]) (by kernel_rfl) (by simp) ?_
                  refine AllReadyH.cons rfl (fun K hK => ?_) AllReadyH.nil
                  go_simp
                  refine hK.out _ _ ?_ (fun hHeld => ?_)
                  · go_keep <;> first | exact hr | exact q2
                  clear hK K
                  try simp only [Act.put, pu]
                  refine wpAnyH_done (by kernel_rfl) ?_ _
                  go_wp2_with fail
                  obtain ⟨we, hwe⟩ : ∃ q, q = wc.setCell ⟨gi k, j, none⟩ (.int .i64 u) := ⟨_, rfl⟩
                  rw [← hwe] at HPn HXn ⊢
                  clear x4 hr q1 q2 q3 b6 b7 HPc HXc hwe
                  have HP := HPn
                  have HX := HXn
                  clear HPn HXn
                  obtain ⟨k0, k1, kf⟩ := cells2 (Lib.hid HP.out.box)
                  obtain ⟨⟨x0, x1, x2⟩, ⟨x3, x4⟩, xf⟩ := cells5 (Lib.hid HX.out.box.1)
                  obtain ⟨d0, d1, df⟩ := cells2 (Lib.hid HP.out.r1)
                  obtain ⟨⟨y0', y1', y2'⟩, ⟨y3', y4'⟩, yf⟩ := cells5 (Lib.hid HP.out.r2)
                  obtain ⟨wf, ef, f1, f2, f3⟩ := dc_done HP.out HX.out.cd.1 HX.out.cd.2.1 HX.out.cd.2.2
                  have HF1 := Lib.hid f1.drew
                  have HF2 := Lib.hid f2
                  have HF3 := Lib.hid f3
                  have HWF := Lib.hid ef
                  have hwd : w.heap.size < we.heap.size := by have := HP.out.b4; omega
                  have hbb5 := HX.out.box.2
                  clear f1 f2 f3 ef
                  refine wp_region_held_drew (S := fun w' => w'.cell? ⟨B4, 0, none⟩ = some (.int .i64 (n : Int)) ∧ w'.cell? ⟨B4, 1, none⟩ = some (.slice Av lv kv) ∧ w'.cell? ⟨B5, 0, none⟩ = some (.int .i64 cl) ∧ w'.cell? ⟨B5, 1, none⟩ = some (.int .i64 lb) ∧ w'.cell? ⟨B5, 2, none⟩ = some (.slice Af mf cf) ∧ w'.cell? ⟨B5, 3, none⟩ = some (.slice As ms cs) ∧ w'.cell? ⟨B5, 4, none⟩ = some (.slice (some ⟨g0, 0, none⟩) mr cr)) (by kernel_rfl) ?_ (fun hHeld => ?_)
                  · go_keep <;> first | exact hr | exact q2
                  refine tk 0 91 rfl rfl ?_
                  try simp only [Act.put, pu]
                  refine tk 1 92 rfl rfl ?_
                  try simp only [Act.put, pu]
                  refine tr 2 rfl (by kernel_rfl) (fun K hK => ?_)
                  go_simp
                  have gA := grownT (grownP we w.heap.size 0 (.int .i64 (n : Int))) (grownP _ w.heap.size 1 (.slice Av lv kv))
                  replace k0 := gA.cell k0 (ne_blk (show B4 ≠ w.heap.size by omega))
                  replace k1 := gA.cell k1 (ne_blk (show B4 ≠ w.heap.size by omega))
                  replace x0 := gA.cell x0 (ne_blk (show B5 ≠ w.heap.size by omega))
                  replace x1 := gA.cell x1 (ne_blk (show B5 ≠ w.heap.size by omega))
                  replace x2 := gA.cell x2 (ne_blk (show B5 ≠ w.heap.size by omega))
                  replace x3 := gA.cell x3 (ne_blk (show B5 ≠ w.heap.size by omega))
                  replace x4 := gA.cell x4 (ne_blk (show B5 ≠ w.heap.size by omega))
                  replace y0' := gA.cell y0' (ne_blk (show w.heap.size + 1 ≠ w.heap.size by omega))
                  replace y1' := gA.cell y1' (ne_blk (show w.heap.size + 1 ≠ w.heap.size by omega))
                  replace y2' := gA.cell y2' (ne_blk (show w.heap.size + 1 ≠ w.heap.size by omega))
                  replace y3' := gA.cell y3' (ne_blk (show w.heap.size + 1 ≠ w.heap.size by omega))
                  replace y4' := gA.cell y4' (ne_blk (show w.heap.size + 1 ≠ w.heap.size by omega))
                  have hqf : ∀ i, ((we.setCell ⟨w.heap.size, 0, none⟩ (.int .i64 (n : Int))).setCell ⟨w.heap.size, 1, none⟩ (.slice Av lv kv)).frozen? ⟨w.heap.size + 1, i, none⟩ = false := fun i => (World.frozen?_of_block (gA.block _ (by have := HP.out.b4; show w.heap.size + 1 < _; omega) (ne_blk (show w.heap.size + 1 ≠ w.heap.size by omega)))).trans (yf i)
                  refine hK.out _ _ ?_ (fun hHeld => ?_)
                  · go_keep <;> first | exact hr | exact q2
                  clear hK K
                  try simp only [Act.put, pu]
                  refine tr 3 rfl (by kernel_rfl) (fun K hK => ?_)
                  go_simp
                  have gB := (grownT (grownT (grownT (grownT (grownP ((we.setCell ⟨w.heap.size, 0, none⟩ (.int .i64 (n : Int))).setCell ⟨w.heap.size, 1, none⟩ (.slice Av lv kv)) (w.heap.size + 1) 0 (.int .i64 cl)) (grownP _ (w.heap.size + 1) 1 (.int .i64 lb))) (grownP _ (w.heap.size + 1) 2 (.slice Af mf cf))) (grownP _ (w.heap.size + 1) 3 (.slice As ms cs))) (grownP _ (w.heap.size + 1) 4 (.slice (some ⟨g0, 0, none⟩) mr cr)))
                  replace k0 := gB.cell k0 (ne_blk (show B4 ≠ w.heap.size + 1 by omega))
                  replace k1 := gB.cell k1 (ne_blk (show B4 ≠ w.heap.size + 1 by omega))
                  replace x0 := gB.cell x0 (ne_blk (show B5 ≠ w.heap.size + 1 by omega))
                  replace x1 := gB.cell x1 (ne_blk (show B5 ≠ w.heap.size + 1 by omega))
                  replace x2 := gB.cell x2 (ne_blk (show B5 ≠ w.heap.size + 1 by omega))
                  replace x3 := gB.cell x3 (ne_blk (show B5 ≠ w.heap.size + 1 by omega))
                  replace x4 := gB.cell x4 (ne_blk (show B5 ≠ w.heap.size + 1 by omega))
                  refine hK.out _ _ ?_ (fun hHeld => ?_)
                  · go_keep <;> first | exact hr | exact q2
                  clear hK K
                  try simp only [Act.put, pu]
                  refine wpAnyH_done (by kernel_rfl) ?_ _
                  go_wp2_with fail
                  rw [← HWF.out]
                  obtain ⟨z0, z1, -⟩ := cells2 HF2
                  obtain ⟨⟨u0, u1, u2⟩, ⟨u3, u4⟩, -⟩ := cells5 HF3
                  have hdz : ∀ a, wf.drew.cell? a = wf.cell? a := fun _ => rfl
                  refine bodyPost_ret (v := .tuple #[.agg #[.int .i64 (n : Int), .slice Av lv kv], certVw cl lb (.slice Af mf cf) (.slice As ms cs) (.slice (some ⟨g0, 0, none⟩) mr cr)]) (by simp [results, Tryz.results16, go_sem, hdz, z0, z1, u0, u1, u2, u3, u4]) rfl HF1.out
                · go_simp
                  have hbd : Below wc.heap.size wc (wc.alloc (.cells #[.int .i64 0, .int .i64 1, .int .i64 2, .int .i64 3, .int .i64 1000, .int .i64 1001, .int .i64 (-1)] 3)) := (bl_alloc (Below.refl _ _) _)
                  have hl : (wc.alloc (.cells #[.int .i64 0, .int .i64 1, .int .i64 2, .int .i64 3, .int .i64 1000, .int .i64 1001, .int .i64 (-1)] 3)).heap[wc.heap.size]? = some (.cells (([0, 1, 2, 3, 1000, 1001, -1] : List Int).map intV).toArray 3 (0, 0)) := heap_alloc_new wc (.cells #[.int .i64 0, .int .i64 1, .int .i64 2, .int .i64 3, .int .i64 1000, .int .i64 1001, .int .i64 (-1)] 3)
                  generalize wc.alloc (.cells #[.int .i64 0, .int .i64 1, .int .i64 2, .int .i64 3, .int .i64 1000, .int .i64 1001, .int .i64 (-1)] 3) = wc at hbd hl ⊢
                  replace HPc := Lib.hid (HPc.out.below hbd)
                  replace HXc := Lib.hid (HXc.out.below hbd)
                  replace hr := fun k hk => (hbd.cell (p := ⟨g0, k, none⟩) (World.block_lt_of_cell? _ _ (hr k hk))).trans (hr k hk)
                  have HL := Lib.hid hl
                  clear x4 hl hbd
                  obtain ⟨-, ⟨-, x4⟩, -⟩ := cells5 (Lib.hid HXc.out.box.1)
                  have hzc := HPc.out.b4.2.2
                  skip
                  refine hK.out _ _ ?_ (fun hHeld => ?_)
                  · go_keep <;> first | exact hr | exact q2
                  clear hK K
                  try simp only [Act.put, pu]
                  refine wpAnyH_ready (rs := [10]) (by kernel_rfl) (by simp) ?_
                  refine AllReadyH.cons rfl (fun K hK => ?_) AllReadyH.nil
                  go_simp
                  go_at_call 35
                  refine (cur_pick (w.heap.size + 2) (2000 + 2 + 2) (.slice A nb c) 3 wc HPc.out.cur (by omega)).mono ?_
                  rintro e wc ⟨j, rfl, hv, hc8, hg8⟩
                  have hj3 : j < 3 := by omega
                  have hj3i : (j : Int) < 3 := by omega
                  replace HPc := Lib.hid (HPc.out.draw hc8 hg8)
                  replace HXc := Lib.hid (HXc.out.draw hg8 (by omega))
                  replace hr := fun k hk => hg8.cell (hr k hk) (ne_blk (show g0 ≠ w.heap.size + 2 by omega))
                  replace HL := Lib.hid ((hg8.block _ (heap_lt HL.out) (ne_blk (by omega))).trans HL.out)
                  clear x4 hv hc8 hg8
                  obtain ⟨-, ⟨-, x4⟩, -⟩ := cells5 (Lib.hid HXc.out.box.1)
                  have hzc := HPc.out.b4.2.2
                  refine hK.out _ _ ?_ (fun hHeld => ?_)
                  · go_keep <;> first | exact hr | exact q2
                  clear hK K
                  try simp only [Act.put, pu]
                  refine wpAnyH_ready (rs := [13]) (by kernel_rfl) (by simp) ?_
                  refine AllReadyH.cons rfl (fun K hK => ?_) AllReadyH.nil
                  go_simp
                  go_at_call 36
                  refine (cur_among (w.heap.size + 2) (2000 + 2 + 2 + 2) (.slice A nb c) _ [0, 1, 2, 3, 1000, 1001, -1] wc HPc.out.cur (by omega) HL.out (by omega) (by simp) (by simp)).mono ?_
                  rintro e wc ⟨u, rfl, hv, hc8, hg8⟩
                  have hu64 : I64 u := by simp at hv; unfold I64; omega
                  replace HPc := Lib.hid (HPc.out.draw hc8 hg8)
                  replace HXc := Lib.hid (HXc.out.draw hg8 (by omega))
                  replace hr := fun k hk => hg8.cell (hr k hk) (ne_blk (show g0 ≠ w.heap.size + 2 by omega))
                  clear x4 hv hc8 hg8 HL
                  obtain ⟨-, ⟨-, x4⟩, -⟩ := cells5 (Lib.hid HXc.out.box.1)
                  have hzc := HPc.out.b4.2.2
                  obtain ⟨gi', ci', hrow⟩ := HXc.out.rows
                  obtain ⟨e1, e2, e3, e4, e5, e6, ⟨cs8, e7, e8⟩, e9⟩ := hrow k hkm
                  have hgk : gi' k = gi k := by
                    have h1 := (hr k hkm).symm.trans e1
                    have h2 := (Value.slice.inj (Option.some.inj h1)).1
                    exact ((Addr.mk.inj (Option.some.inj h2)).1).symm
                  rw [hgk] at e1 e3 e4 e5 e6 e7 e9
                  obtain ⟨ov, b6⟩ : ∃ v, wc.cell? ⟨gi k, j, none⟩ = some v := ⟨cs8[j]'(by omega), by rw [cell_of_row _ _ j _ _ (0, 0) e7]; exact Array.getElem?_eq_getElem _⟩
                  have b7 := frozen_of_row _ _ j _ _ e7
                  have hbM : Below M wc (wc.setCell ⟨gi k, j, none⟩ (.int .i64 u)) := (Below.refl _ _).setCell e3 _
                  have HPn := Lib.hid (HPc.out.high hbM (by rw [size_setCell]; exact Nat.le_refl _))
                  have HXn := Lib.hid (e9 j u hj3 hu64)
                  have q1 := (grownP wc (gi k) j (.int .i64 u)).cell x4 (ne_blk (show B5 ≠ gi k by omega))
                  have q2 : ∀ k', k' < mr → (wc.setCell ⟨gi k, j, none⟩ (.int .i64 u)).cell? ⟨g0, k', none⟩ = some (.slice (some ⟨gi k', 0, none⟩) 3 (ci k')) := fun k' hk' => (grownP wc (gi k) j (.int .i64 u)).cell (hr k' hk') (ne_blk (show g0 ≠ gi k by omega))
                  have q3 := hrow
                  clear e1 e2 e4 e5 e6 e7 e8 e9 hrow hgk hbM
                  refine hK.out _ _ ?_ (fun hHeld => ?_)
                  · go_keep <;> first | exact hr | exact q2
                  clear hK K
                  try simp only [Act.put, pu]
                  refine tk 14 78 rfl rfl ?_
                  try simp only [Act.put, pu]
                  refine wpAnyH_ready (rs := [15]) (by kernel_rfl) (by simp) ?_
                  refine AllReadyH.cons rfl (fun K hK => ?_) AllReadyH.nil
                  go_simp
                  refine hK.out _ _ ?_ (fun hHeld => ?_)
                  · go_keep <;> first | exact hr | exact q2
                  clear hK K
                  try simp only [Act.put, pu]
                  refine wpAnyH_done (by kernel_rfl) ?_ _
                  go_wp2_with fail
                  obtain ⟨we, hwe⟩ : ∃ q, q = wc.setCell ⟨gi k, j, none⟩ (.int .i64 u) := ⟨_, rfl⟩
                  rw [← hwe] at HPn HXn ⊢
                  clear x4 hr q1 q2 q3 b6 b7 HPc HXc hwe
                  have HP := HPn
                  have HX := HXn
                  clear HPn HXn
                  obtain ⟨k0, k1, kf⟩ := cells2 (Lib.hid HP.out.box)
                  obtain ⟨⟨x0, x1, x2⟩, ⟨x3, x4⟩, xf⟩ := cells5 (Lib.hid HX.out.box.1)
                  obtain ⟨d0, d1, df⟩ := cells2 (Lib.hid HP.out.r1)
                  obtain ⟨⟨y0', y1', y2'⟩, ⟨y3', y4'⟩, yf⟩ := cells5 (Lib.hid HP.out.r2)
                  obtain ⟨wf, ef, f1, f2, f3⟩ := dc_done HP.out HX.out.cd.1 HX.out.cd.2.1 HX.out.cd.2.2
                  have HF1 := Lib.hid f1.drew
                  have HF2 := Lib.hid f2
                  have HF3 := Lib.hid f3
                  have HWF := Lib.hid ef
                  have hwd : w.heap.size < we.heap.size := by have := HP.out.b4; omega
                  have hbb5 := HX.out.box.2
                  clear f1 f2 f3 ef
                  refine wp_region_held_drew (S := fun w' => w'.cell? ⟨B4, 0, none⟩ = some (.int .i64 (n : Int)) ∧ w'.cell? ⟨B4, 1, none⟩ = some (.slice Av lv kv) ∧ w'.cell? ⟨B5, 0, none⟩ = some (.int .i64 cl) ∧ w'.cell? ⟨B5, 1, none⟩ = some (.int .i64 lb) ∧ w'.cell? ⟨B5, 2, none⟩ = some (.slice Af mf cf) ∧ w'.cell? ⟨B5, 3, none⟩ = some (.slice As ms cs) ∧ w'.cell? ⟨B5, 4, none⟩ = some (.slice (some ⟨g0, 0, none⟩) mr cr)) (by kernel_rfl) ?_ (fun hHeld => ?_)
                  · go_keep <;> first | exact hr | exact q2
                  refine tk 0 91 rfl rfl ?_
                  try simp only [Act.put, pu]
                  refine tk 1 92 rfl rfl ?_
                  try simp only [Act.put, pu]
                  refine tr 2 rfl (by kernel_rfl) (fun K hK => ?_)
                  go_simp
                  have gA := grownT (grownP we w.heap.size 0 (.int .i64 (n : Int))) (grownP _ w.heap.size 1 (.slice Av lv kv))
                  replace k0 := gA.cell k0 (ne_blk (show B4 ≠ w.heap.size by omega))
                  replace k1 := gA.cell k1 (ne_blk (show B4 ≠ w.heap.size by omega))
                  replace x0 := gA.cell x0 (ne_blk (show B5 ≠ w.heap.size by omega))
                  replace x1 := gA.cell x1 (ne_blk (show B5 ≠ w.heap.size by omega))
                  replace x2 := gA.cell x2 (ne_blk (show B5 ≠ w.heap.size by omega))
                  replace x3 := gA.cell x3 (ne_blk (show B5 ≠ w.heap.size by omega))
                  replace x4 := gA.cell x4 (ne_blk (show B5 ≠ w.heap.size by omega))
                  replace y0' := gA.cell y0' (ne_blk (show w.heap.size + 1 ≠ w.heap.size by omega))
                  replace y1' := gA.cell y1' (ne_blk (show w.heap.size + 1 ≠ w.heap.size by omega))
                  replace y2' := gA.cell y2' (ne_blk (show w.heap.size + 1 ≠ w.heap.size by omega))
                  replace y3' := gA.cell y3' (ne_blk (show w.heap.size + 1 ≠ w.heap.size by omega))
                  replace y4' := gA.cell y4' (ne_blk (show w.heap.size + 1 ≠ w.heap.size by omega))
                  have hqf : ∀ i, ((we.setCell ⟨w.heap.size, 0, none⟩ (.int .i64 (n : Int))).setCell ⟨w.heap.size, 1, none⟩ (.slice Av lv kv)).frozen? ⟨w.heap.size + 1, i, none⟩ = false := fun i => (World.frozen?_of_block (gA.block _ (by have := HP.out.b4; show w.heap.size + 1 < _; omega) (ne_blk (show w.heap.size + 1 ≠ w.heap.size by omega)))).trans (yf i)
                  refine hK.out _ _ ?_ (fun hHeld => ?_)
                  · go_keep <;> first | exact hr | exact q2
                  clear hK K
                  try simp only [Act.put, pu]
                  refine tr 3 rfl (by kernel_rfl) (fun K hK => ?_)
                  go_simp
                  have gB := (grownT (grownT (grownT (grownT (grownP ((we.setCell ⟨w.heap.size, 0, none⟩ (.int .i64 (n : Int))).setCell ⟨w.heap.size, 1, none⟩ (.slice Av lv kv)) (w.heap.size + 1) 0 (.int .i64 cl)) (grownP _ (w.heap.size + 1) 1 (.int .i64 lb))) (grownP _ (w.heap.size + 1) 2 (.slice Af mf cf))) (grownP _ (w.heap.size + 1) 3 (.slice As ms cs))) (grownP _ (w.heap.size + 1) 4 (.slice (some ⟨g0, 0, none⟩) mr cr)))
                  replace k0 := gB.cell k0 (ne_blk (show B4 ≠ w.heap.size + 1 by omega))
                  replace k1 := gB.cell k1 (ne_blk (show B4 ≠ w.heap.size + 1 by omega))
                  replace x0 := gB.cell x0 (ne_blk (show B5 ≠ w.heap.size + 1 by omega))
                  replace x1 := gB.cell x1 (ne_blk (show B5 ≠ w.heap.size + 1 by omega))
                  replace x2 := gB.cell x2 (ne_blk (show B5 ≠ w.heap.size + 1 by omega))
                  replace x3 := gB.cell x3 (ne_blk (show B5 ≠ w.heap.size + 1 by omega))
                  replace x4 := gB.cell x4 (ne_blk (show B5 ≠ w.heap.size + 1 by omega))
                  refine hK.out _ _ ?_ (fun hHeld => ?_)
                  · go_keep <;> first | exact hr | exact q2
                  clear hK K
                  try simp only [Act.put, pu]
                  refine wpAnyH_done (by kernel_rfl) ?_ _
                  go_wp2_with fail
                  rw [← HWF.out]
                  obtain ⟨z0, z1, -⟩ := cells2 HF2
                  obtain ⟨⟨u0, u1, u2⟩, ⟨u3, u4⟩, -⟩ := cells5 HF3
                  have hdz : ∀ a, wf.drew.cell? a = wf.cell? a := fun _ => rfl
                  refine bodyPost_ret (v := .tuple #[.agg #[.int .i64 (n : Int), .slice Av lv kv], certVw cl lb (.slice Af mf cf) (.slice As ms cs) (.slice (some ⟨g0, 0, none⟩) mr cr)]) (by simp [results, Tryz.results16, go_sem, hdz, z0, z1, u0, u1, u2, u3, u4]) rfl HF1.out
              · go_simp
                have hbd : Below w7.heap.size w7 (w7.alloc (.cells #[.int .i64 0, .int .i64 1, .int .i64 2, .int .i64 3, .int .i64 1000, .int .i64 1001, .int .i64 (-1)] 3)).drew := (bl_alloc (Below.refl _ _) _).drew
                have hl : (w7.alloc (.cells #[.int .i64 0, .int .i64 1, .int .i64 2, .int .i64 3, .int .i64 1000, .int .i64 1001, .int .i64 (-1)] 3)).drew.heap[w7.heap.size]? = some (.cells (([0, 1, 2, 3, 1000, 1001, -1] : List Int).map intV).toArray 3 (0, 0)) := heap_alloc_new w7 (.cells #[.int .i64 0, .int .i64 1, .int .i64 2, .int .i64 3, .int .i64 1000, .int .i64 1001, .int .i64 (-1)] 3)
                generalize (w7.alloc (.cells #[.int .i64 0, .int .i64 1, .int .i64 2, .int .i64 3, .int .i64 1000, .int .i64 1001, .int .i64 (-1)] 3)).drew = wc at hbd hl ⊢
                replace HPc := Lib.hid (HPc.out.below hbd)
                replace HXc := Lib.hid (HXc.out.below hbd)
                replace hr := fun k hk => (hbd.cell (p := ⟨g0, k, none⟩) (World.block_lt_of_cell? _ _ (hr k hk))).trans (hr k hk)
                have HL := Lib.hid hl
                clear x4 hl hbd
                obtain ⟨-, ⟨-, x4⟩, -⟩ := cells5 (Lib.hid HXc.out.box.1)
                have hzc := HPc.out.b4.2.2
                skip
                refine hK.out _ _ ?_ (fun hHeld => ?_)
                · go_keep <;> first | exact hr | exact q2
                clear hK K
                try simp only [Act.put, pu]
                refine wpAnyH_ready (rs := [6]) (by kernel_rfl) (by simp) ?_
                refine AllReadyH.cons rfl (fun K hK => ?_) AllReadyH.nil
                go_simp
                go_at_call 35
                refine (cur_pick (w.heap.size + 2) (2000 + 2) (.slice A nb c) (mr : Int) wc HPc.out.cur (by omega)).mono ?_
                rintro e wc ⟨k, rfl, hv, hc8, hg8⟩
                have hkm : k < mr := by omega
                replace HPc := Lib.hid (HPc.out.draw hc8 hg8)
                replace HXc := Lib.hid (HXc.out.draw hg8 (by omega))
                replace hr := fun k hk => hg8.cell (hr k hk) (ne_blk (show g0 ≠ w.heap.size + 2 by omega))
                replace HL := Lib.hid ((hg8.block _ (heap_lt HL.out) (ne_blk (by omega))).trans HL.out)
                clear x4 hv hc8 hg8
                obtain ⟨-, ⟨-, x4⟩, -⟩ := cells5 (Lib.hid HXc.out.box.1)
                have hzc := HPc.out.b4.2.2
                refine hK.out _ _ ?_ (fun hHeld => ?_)
                · go_keep <;> first | exact hr | exact q2
                clear hK K
                try simp only [Act.put, pu]
                refine tk 7 71 rfl rfl ?_
                try simp only [Act.put, pu]
                refine tk 8 72 rfl rfl ?_
                try simp only [Act.put, pu]
                refine wpAnyH_ready (rs := [10]) (by kernel_rfl) (by simp) ?_
                refine AllReadyH.cons rfl (fun K hK => ?_) AllReadyH.nil
                go_simp
                go_at_call 35
                refine (cur_pick (w.heap.size + 2) (2000 + 2 + 2) (.slice A nb c) 3 wc HPc.out.cur (by omega)).mono ?_
                rintro e wc ⟨j, rfl, hv, hc8, hg8⟩
                have hj3 : j < 3 := by omega
                have hj3i : (j : Int) < 3 := by omega
                replace HPc := Lib.hid (HPc.out.draw hc8 hg8)
                replace HXc := Lib.hid (HXc.out.draw hg8 (by omega))
                replace hr := fun k hk => hg8.cell (hr k hk) (ne_blk (show g0 ≠ w.heap.size + 2 by omega))
                replace HL := Lib.hid ((hg8.block _ (heap_lt HL.out) (ne_blk (by omega))).trans HL.out)
                clear x4 hv hc8 hg8
                obtain ⟨-, ⟨-, x4⟩, -⟩ := cells5 (Lib.hid HXc.out.box.1)
                have hzc := HPc.out.b4.2.2
                refine hK.out _ _ ?_ (fun hHeld => ?_)
                · go_keep <;> first | exact hr | exact q2
                clear hK K
                try simp only [Act.put, pu]
                refine wpAnyH_ready (rs := [13]) (by kernel_rfl) (by simp) ?_
                refine AllReadyH.cons rfl (fun K hK => ?_) AllReadyH.nil
                go_simp
                go_at_call 36
                refine (cur_among (w.heap.size + 2) (2000 + 2 + 2 + 2) (.slice A nb c) _ [0, 1, 2, 3, 1000, 1001, -1] wc HPc.out.cur (by omega) HL.out (by omega) (by simp) (by simp)).mono ?_
                rintro e wc ⟨u, rfl, hv, hc8, hg8⟩
                have hu64 : I64 u := by simp at hv; unfold I64; omega
                replace HPc := Lib.hid (HPc.out.draw hc8 hg8)
                replace HXc := Lib.hid (HXc.out.draw hg8 (by omega))
                replace hr := fun k hk => hg8.cell (hr k hk) (ne_blk (show g0 ≠ w.heap.size + 2 by omega))
                clear x4 hv hc8 hg8 HL
                obtain ⟨-, ⟨-, x4⟩, -⟩ := cells5 (Lib.hid HXc.out.box.1)
                have hzc := HPc.out.b4.2.2
                obtain ⟨gi', ci', hrow⟩ := HXc.out.rows
                obtain ⟨e1, e2, e3, e4, e5, e6, ⟨cs8, e7, e8⟩, e9⟩ := hrow k hkm
                have hgk : gi' k = gi k := by
                  have h1 := (hr k hkm).symm.trans e1
                  have h2 := (Value.slice.inj (Option.some.inj h1)).1
                  exact ((Addr.mk.inj (Option.some.inj h2)).1).symm
                rw [hgk] at e1 e3 e4 e5 e6 e7 e9
                obtain ⟨ov, b6⟩ : ∃ v, wc.cell? ⟨gi k, j, none⟩ = some v := ⟨cs8[j]'(by omega), by rw [cell_of_row _ _ j _ _ (0, 0) e7]; exact Array.getElem?_eq_getElem _⟩
                have b7 := frozen_of_row _ _ j _ _ e7
                have hbM : Below M wc (wc.setCell ⟨gi k, j, none⟩ (.int .i64 u)) := (Below.refl _ _).setCell e3 _
                have HPn := Lib.hid (HPc.out.high hbM (by rw [size_setCell]; exact Nat.le_refl _))
                have HXn := Lib.hid (e9 j u hj3 hu64)
                have q1 := (grownP wc (gi k) j (.int .i64 u)).cell x4 (ne_blk (show B5 ≠ gi k by omega))
                have q2 : ∀ k', k' < mr → (wc.setCell ⟨gi k, j, none⟩ (.int .i64 u)).cell? ⟨g0, k', none⟩ = some (.slice (some ⟨gi k', 0, none⟩) 3 (ci k')) := fun k' hk' => (grownP wc (gi k) j (.int .i64 u)).cell (hr k' hk') (ne_blk (show g0 ≠ gi k by omega))
                have q3 := hrow
                clear e1 e2 e4 e5 e6 e7 e8 e9 hrow hgk hbM
                refine hK.out _ _ ?_ (fun hHeld => ?_)
                · go_keep <;> first | exact hr | exact q2
                clear hK K
                try simp only [Act.put, pu]
                refine tk 14 78 rfl rfl ?_
                try simp only [Act.put, pu]
                refine wpAnyH_ready (rs := [15]) (by kernel_rfl) (by simp) ?_
                refine AllReadyH.cons rfl (fun K hK => ?_) AllReadyH.nil
                go_simp
                refine hK.out _ _ ?_ (fun hHeld => ?_)
                · go_keep <;> first | exact hr | exact q2
                clear hK K
                try simp only [Act.put, pu]
                refine wpAnyH_done (by kernel_rfl) ?_ _
                go_wp2_with fail
                obtain ⟨we, hwe⟩ : ∃ q, q = wc.setCell ⟨gi k, j, none⟩ (.int .i64 u) := ⟨_, rfl⟩
                rw [← hwe] at HPn HXn ⊢
                clear x4 hr q1 q2 q3 b6 b7 HPc HXc hwe
                have HP := HPn
                have HX := HXn
                clear HPn HXn
                obtain ⟨k0, k1, kf⟩ := cells2 (Lib.hid HP.out.box)
                obtain ⟨⟨x0, x1, x2⟩, ⟨x3, x4⟩, xf⟩ := cells5 (Lib.hid HX.out.box.1)
                obtain ⟨d0, d1, df⟩ := cells2 (Lib.hid HP.out.r1)
                obtain ⟨⟨y0', y1', y2'⟩, ⟨y3', y4'⟩, yf⟩ := cells5 (Lib.hid HP.out.r2)
                obtain ⟨wf, ef, f1, f2, f3⟩ := dc_done HP.out HX.out.cd.1 HX.out.cd.2.1 HX.out.cd.2.2
                have HF1 := Lib.hid f1.drew
                have HF2 := Lib.hid f2
                have HF3 := Lib.hid f3
                have HWF := Lib.hid ef
                have hwd : w.heap.size < we.heap.size := by have := HP.out.b4; omega
                have hbb5 := HX.out.box.2
                clear f1 f2 f3 ef
                refine wp_region_held_drew (S := fun w' => w'.cell? ⟨B4, 0, none⟩ = some (.int .i64 (n : Int)) ∧ w'.cell? ⟨B4, 1, none⟩ = some (.slice Av lv kv) ∧ w'.cell? ⟨B5, 0, none⟩ = some (.int .i64 cl) ∧ w'.cell? ⟨B5, 1, none⟩ = some (.int .i64 lb) ∧ w'.cell? ⟨B5, 2, none⟩ = some (.slice Af mf cf) ∧ w'.cell? ⟨B5, 3, none⟩ = some (.slice As ms cs) ∧ w'.cell? ⟨B5, 4, none⟩ = some (.slice (some ⟨g0, 0, none⟩) mr cr)) (by kernel_rfl) ?_ (fun hHeld => ?_)
                · go_keep <;> first | exact hr | exact q2
                refine tk 0 91 rfl rfl ?_
                try simp only [Act.put, pu]
                refine tk 1 92 rfl rfl ?_
                try simp only [Act.put, pu]
                refine tr 2 rfl (by kernel_rfl) (fun K hK => ?_)
                go_simp
                have gA := grownT (grownP we w.heap.size 0 (.int .i64 (n : Int))) (grownP _ w.heap.size 1 (.slice Av lv kv))
                replace k0 := gA.cell k0 (ne_blk (show B4 ≠ w.heap.size by omega))
                replace k1 := gA.cell k1 (ne_blk (show B4 ≠ w.heap.size by omega))
                replace x0 := gA.cell x0 (ne_blk (show B5 ≠ w.heap.size by omega))
                replace x1 := gA.cell x1 (ne_blk (show B5 ≠ w.heap.size by omega))
                replace x2 := gA.cell x2 (ne_blk (show B5 ≠ w.heap.size by omega))
                replace x3 := gA.cell x3 (ne_blk (show B5 ≠ w.heap.size by omega))
                replace x4 := gA.cell x4 (ne_blk (show B5 ≠ w.heap.size by omega))
                replace y0' := gA.cell y0' (ne_blk (show w.heap.size + 1 ≠ w.heap.size by omega))
                replace y1' := gA.cell y1' (ne_blk (show w.heap.size + 1 ≠ w.heap.size by omega))
                replace y2' := gA.cell y2' (ne_blk (show w.heap.size + 1 ≠ w.heap.size by omega))
                replace y3' := gA.cell y3' (ne_blk (show w.heap.size + 1 ≠ w.heap.size by omega))
                replace y4' := gA.cell y4' (ne_blk (show w.heap.size + 1 ≠ w.heap.size by omega))
                have hqf : ∀ i, ((we.setCell ⟨w.heap.size, 0, none⟩ (.int .i64 (n : Int))).setCell ⟨w.heap.size, 1, none⟩ (.slice Av lv kv)).frozen? ⟨w.heap.size + 1, i, none⟩ = false := fun i => (World.frozen?_of_block (gA.block _ (by have := HP.out.b4; show w.heap.size + 1 < _; omega) (ne_blk (show w.heap.size + 1 ≠ w.heap.size by omega)))).trans (yf i)
                refine hK.out _ _ ?_ (fun hHeld => ?_)
                · go_keep <;> first | exact hr | exact q2
                clear hK K
                try simp only [Act.put, pu]
                refine tr 3 rfl (by kernel_rfl) (fun K hK => ?_)
                go_simp
                have gB := (grownT (grownT (grownT (grownT (grownP ((we.setCell ⟨w.heap.size, 0, none⟩ (.int .i64 (n : Int))).setCell ⟨w.heap.size, 1, none⟩ (.slice Av lv kv)) (w.heap.size + 1) 0 (.int .i64 cl)) (grownP _ (w.heap.size + 1) 1 (.int .i64 lb))) (grownP _ (w.heap.size + 1) 2 (.slice Af mf cf))) (grownP _ (w.heap.size + 1) 3 (.slice As ms cs))) (grownP _ (w.heap.size + 1) 4 (.slice (some ⟨g0, 0, none⟩) mr cr)))
                replace k0 := gB.cell k0 (ne_blk (show B4 ≠ w.heap.size + 1 by omega))
                replace k1 := gB.cell k1 (ne_blk (show B4 ≠ w.heap.size + 1 by omega))
                replace x0 := gB.cell x0 (ne_blk (show B5 ≠ w.heap.size + 1 by omega))
                replace x1 := gB.cell x1 (ne_blk (show B5 ≠ w.heap.size + 1 by omega))
                replace x2 := gB.cell x2 (ne_blk (show B5 ≠ w.heap.size + 1 by omega))
                replace x3 := gB.cell x3 (ne_blk (show B5 ≠ w.heap.size + 1 by omega))
                replace x4 := gB.cell x4 (ne_blk (show B5 ≠ w.heap.size + 1 by omega))
                refine hK.out _ _ ?_ (fun hHeld => ?_)
                · go_keep <;> first | exact hr | exact q2
                clear hK K
                try simp only [Act.put, pu]
                refine wpAnyH_done (by kernel_rfl) ?_ _
                go_wp2_with fail
                rw [← HWF.out]
                obtain ⟨z0, z1, -⟩ := cells2 HF2
                obtain ⟨⟨u0, u1, u2⟩, ⟨u3, u4⟩, -⟩ := cells5 HF3
                have hdz : ∀ a, wf.drew.cell? a = wf.cell? a := fun _ => rfl
                refine bodyPost_ret (v := .tuple #[.agg #[.int .i64 (n : Int), .slice Av lv kv], certVw cl lb (.slice Af mf cf) (.slice As ms cs) (.slice (some ⟨g0, 0, none⟩) mr cr)]) (by simp [results, Tryz.results16, go_sem, hdz, z0, z1, u0, u1, u2, u3, u4]) rfl HF1.out
          · have e3 : ((y : Int) == 3) = false := by rw [beq_eq_false_iff_ne]; omega
            by_cases y4 : y = 4
            · subst y4
              obtain ⟨⟨x0, x1, x2⟩, ⟨x3, x4⟩, xf⟩ := cells5 (Lib.hid HX.out.box.1)
              obtain ⟨F, hF, hF2⟩ := HX.out.firstR
              go_wp2_with fail
              refine (spec_l1Own (.slice Af mf cf) F w7 hF (by omega)).mono ?_
              rintro e w8 ⟨v2, rfl, ho, hb8⟩
              have hx9 := HX.out.second hb8 HP.out.b4.2.2 ho hF.2 hF2
              have HP8 := Lib.hid (HP.out.below hb8)
              obtain ⟨b0, o1, -⟩ := OwnRow.of_owns ho
              obtain ⟨A2, l2, c2, rfl⟩ := o1.isSlice
              have hx8 := HX.out.below hb8
              clear x0 x1 x2 x3 x4 xf
              obtain ⟨⟨x0, x1, x2⟩, ⟨x3, x4⟩, xf⟩ := cells5 (Lib.hid hx8.box.1)
              have HX9 := Lib.hid hx9
              clear ho o1 hb8 hx8 hx9 HP HX
              go_wp2_with fail
              obtain ⟨wA, hwA⟩ : ∃ q, q = w8.setCell ⟨B5, 3, none⟩ (.slice A2 l2 c2) := ⟨_, rfl⟩
              rw [← hwA]
              have HP := Lib.hid (show Pq w B4 M (2000 + 2) n (.slice A nb c) (.slice Av lv kv) wA by rw [hwA]; exact HP8.out.high ((Below.refl _ _).setCell hB5 _) (by rw [size_setCell]; exact Nat.le_refl _))
              have HX := Lib.hid (show Cx M B5 cl lb (.slice Af mf cf) (.slice A2 l2 c2) (.slice Ar mr cr) wA by rw [hwA]; exact HX9.out)
              clear hwA HP8 HX9 x0 x1 x2 x3 x4 xf
              obtain ⟨k0, k1, kf⟩ := cells2 (Lib.hid HP.out.box)
              obtain ⟨⟨x0, x1, x2⟩, ⟨x3, x4⟩, xf⟩ := cells5 (Lib.hid HX.out.box.1)
              obtain ⟨d0, d1, df⟩ := cells2 (Lib.hid HP.out.r1)
              obtain ⟨⟨y0', y1', y2'⟩, ⟨y3', y4'⟩, yf⟩ := cells5 (Lib.hid HP.out.r2)
              obtain ⟨wf, ef, f1, f2, f3⟩ := dc_done HP.out HX.out.cd.1 HX.out.cd.2.1 HX.out.cd.2.2
              have HF1 := Lib.hid f1.drew
              have HF2 := Lib.hid f2
              have HF3 := Lib.hid f3
              have HWF := Lib.hid ef
              have hwd : w.heap.size < wA.heap.size := by have := HP.out.b4; omega
              have hbb5 := HX.out.box.2
              clear f1 f2 f3 ef
              refine wp_region_held_drew (S := fun w' => w'.cell? ⟨B4, 0, none⟩ = some (.int .i64 (n : Int)) ∧ w'.cell? ⟨B4, 1, none⟩ = some (.slice Av lv kv) ∧ w'.cell? ⟨B5, 0, none⟩ = some (.int .i64 cl) ∧ w'.cell? ⟨B5, 1, none⟩ = some (.int .i64 lb) ∧ w'.cell? ⟨B5, 2, none⟩ = some (.slice Af mf cf) ∧ w'.cell? ⟨B5, 3, none⟩ = some (.slice A2 l2 c2) ∧ w'.cell? ⟨B5, 4, none⟩ = some (.slice Ar mr cr)) (by kernel_rfl) ?_ (fun hHeld => ?_)
              · go_keep
              refine tk 0 91 rfl rfl ?_
              try simp only [Act.put, pu]
              refine tk 1 92 rfl rfl ?_
              try simp only [Act.put, pu]
              refine tr 2 rfl (by kernel_rfl) (fun K hK => ?_)
              go_simp
              have gA := grownT (grownP wA w.heap.size 0 (.int .i64 (n : Int))) (grownP _ w.heap.size 1 (.slice Av lv kv))
              replace k0 := gA.cell k0 (ne_blk (show B4 ≠ w.heap.size by omega))
              replace k1 := gA.cell k1 (ne_blk (show B4 ≠ w.heap.size by omega))
              replace x0 := gA.cell x0 (ne_blk (show B5 ≠ w.heap.size by omega))
              replace x1 := gA.cell x1 (ne_blk (show B5 ≠ w.heap.size by omega))
              replace x2 := gA.cell x2 (ne_blk (show B5 ≠ w.heap.size by omega))
              replace x3 := gA.cell x3 (ne_blk (show B5 ≠ w.heap.size by omega))
              replace x4 := gA.cell x4 (ne_blk (show B5 ≠ w.heap.size by omega))
              replace y0' := gA.cell y0' (ne_blk (show w.heap.size + 1 ≠ w.heap.size by omega))
              replace y1' := gA.cell y1' (ne_blk (show w.heap.size + 1 ≠ w.heap.size by omega))
              replace y2' := gA.cell y2' (ne_blk (show w.heap.size + 1 ≠ w.heap.size by omega))
              replace y3' := gA.cell y3' (ne_blk (show w.heap.size + 1 ≠ w.heap.size by omega))
              replace y4' := gA.cell y4' (ne_blk (show w.heap.size + 1 ≠ w.heap.size by omega))
              have hqf : ∀ i, ((wA.setCell ⟨w.heap.size, 0, none⟩ (.int .i64 (n : Int))).setCell ⟨w.heap.size, 1, none⟩ (.slice Av lv kv)).frozen? ⟨w.heap.size + 1, i, none⟩ = false := fun i => (World.frozen?_of_block (gA.block _ (by have := HP.out.b4; show w.heap.size + 1 < _; omega) (ne_blk (show w.heap.size + 1 ≠ w.heap.size by omega)))).trans (yf i)
              refine hK.out _ _ ?_ (fun hHeld => ?_)
              · go_keep
              clear hK K
              try simp only [Act.put, pu]
              refine tr 3 rfl (by kernel_rfl) (fun K hK => ?_)
              go_simp
              have gB := (grownT (grownT (grownT (grownT (grownP ((wA.setCell ⟨w.heap.size, 0, none⟩ (.int .i64 (n : Int))).setCell ⟨w.heap.size, 1, none⟩ (.slice Av lv kv)) (w.heap.size + 1) 0 (.int .i64 cl)) (grownP _ (w.heap.size + 1) 1 (.int .i64 lb))) (grownP _ (w.heap.size + 1) 2 (.slice Af mf cf))) (grownP _ (w.heap.size + 1) 3 (.slice A2 l2 c2))) (grownP _ (w.heap.size + 1) 4 (.slice Ar mr cr)))
              replace k0 := gB.cell k0 (ne_blk (show B4 ≠ w.heap.size + 1 by omega))
              replace k1 := gB.cell k1 (ne_blk (show B4 ≠ w.heap.size + 1 by omega))
              replace x0 := gB.cell x0 (ne_blk (show B5 ≠ w.heap.size + 1 by omega))
              replace x1 := gB.cell x1 (ne_blk (show B5 ≠ w.heap.size + 1 by omega))
              replace x2 := gB.cell x2 (ne_blk (show B5 ≠ w.heap.size + 1 by omega))
              replace x3 := gB.cell x3 (ne_blk (show B5 ≠ w.heap.size + 1 by omega))
              replace x4 := gB.cell x4 (ne_blk (show B5 ≠ w.heap.size + 1 by omega))
              refine hK.out _ _ ?_ (fun hHeld => ?_)
              · go_keep
              clear hK K
              try simp only [Act.put, pu]
              refine wpAnyH_done (by kernel_rfl) ?_ _
              go_wp2_with fail
              rw [← HWF.out]
              obtain ⟨z0, z1, -⟩ := cells2 HF2
              obtain ⟨⟨u0, u1, u2⟩, ⟨u3, u4⟩, -⟩ := cells5 HF3
              have hdz : ∀ a, wf.drew.cell? a = wf.cell? a := fun _ => rfl
              refine bodyPost_ret (v := .tuple #[.agg #[.int .i64 (n : Int), .slice Av lv kv], certVw cl lb (.slice Af mf cf) (.slice A2 l2 c2) (.slice Ar mr cr)]) (by simp [results, Tryz.results16, go_sem, hdz, z0, z1, u0, u1, u2, u3, u4]) rfl HF1.out
            · have e4' : ((y : Int) == 4) = false := by rw [beq_eq_false_iff_ne]; omega
              by_cases y5 : y = 5
              · subst y5
                go_wp2_with fail
                obtain ⟨k0, k1, kf⟩ := cells2 (Lib.hid HP.out.box)
                have hwd0 := HP.out.b4
                refine wp_region_held_drew (S := fun w' => w'.cell? ⟨B4, 0, none⟩ = some (.int .i64 (n : Int)) ∧ w'.cell? ⟨B4, 1, none⟩ = some (.slice Av lv kv)) (by kernel_rfl) ?_ (fun hHeld => ?_)
                · go_keep
                refine tk 0 87 rfl rfl ?_
                try simp only [Act.put, pu]
                refine tk 1 88 rfl rfl ?_
                try simp only [Act.put, pu]
                refine tr 2 rfl (by kernel_rfl) (fun K hK => ?_)
                go_simp
                go_at_call 38
                have hd : Below w7.heap.size w7 w7.drew := (Below.refl _ _).drew
                refine (cur_walk (w.heap.size + 2) (2000 + 2) (.slice A nb c) w7.drew (HP.out.below hd).cur (by omega)).mono ?_
                rintro e w8 ⟨n8, v8, xs8, rfl, a1, a2, a3, a4, a5, hc8, hg8⟩
                have HP8 := Lib.hid ((HP.out.below hd).draw hc8 hg8)
                have HR8 := Lib.hid a1.reads
                have HG8 := Lib.hid (show Good n8 xs8 from ⟨inB_t (by omega), a2⟩)
                clear k0 k1 hd hc8 hg8 a1 a2
                obtain ⟨k0, k1, -⟩ := cells2 (Lib.hid HP8.out.box)
                refine hK.out _ _ ?_ (fun hHeld => ?_)
                · go_keep
                clear hK K
                try simp only [Act.put, pu]
                refine tr 3 rfl (by kernel_rfl) (fun K hK => ?_)
                go_simp
                go_at_call 29
                refine (spec_waCertify n8 v8 xs8 w8 HR8.out HG8.out).mono ?_
                rintro e w9 ⟨vf9, vs9, vr9, bf9, bs9, br9, rfl, c1, c2, c3, c4, c5, hb9⟩
                have hbd := certP_bd HG8.out (made_ok HG8.out)
                have hcl3 : classN n8 xs8 ≤ 3 := by
                  unfold classN
                  split
                  · omega
                  · split
                    · omega
                    · split <;> omega
                obtain ⟨Af9, mf9, cf9, rfl⟩ := c1.1.isSlice
                obtain ⟨As9, ms9, cs9, rfl⟩ := c2.1.isSlice
                obtain ⟨Ar9, mr9, cr9, rfl⟩ := c3.isSlice
                have hcd : Cd M (.slice Af9 mf9 cf9) (.slice As9 ms9 cs9) (.slice Ar9 mr9 cr9) w9 := ⟨_, _, _, bf9, bs9, br9, c1, c2, c3, fun x hx => ⟨by have := (c5 x hx).1; have := HP8.out.b4.2.2; omega, (c5 x hx).2⟩, by omega, by omega, by omega⟩
                have HP9 := Lib.hid (HP8.out.below hb9)
                obtain ⟨cl9, hcl9⟩ : ∃ q : Int, q = (classN n8 xs8 : Int) := ⟨_, rfl⟩
                obtain ⟨lb9, hlb9⟩ : ∃ q : Int, q = (cwLb n8 xs8 : Int) := ⟨_, rfl⟩
                have hi1 : I64 cl9 := by unfold I64; omega
                have hi2 : I64 lb9 := by unfold I64; omega
                rw [← hcl9, ← hlb9]
                obtain ⟨wf, ef, f1, f2, f3⟩ := dc_done HP9.out hcd hi1 hi2
                have HF1 := Lib.hid f1
                have HF2 := Lib.hid f2
                have HF3 := Lib.hid f3
                have HWF := Lib.hid ef
                clear k0 k1 f1 f2 f3 ef hbd hcl3 hcl9 hlb9 hi1 hi2 hcd c1 c2 c3 c4 c5 hb9
                obtain ⟨k0, k1, -⟩ := cells2 (Lib.hid HP9.out.box)
                obtain ⟨d0, d1, df⟩ := cells2 (Lib.hid HP9.out.r1)
                obtain ⟨⟨y0', y1', y2'⟩, ⟨y3', y4'⟩, yf⟩ := cells5 (Lib.hid HP9.out.r2)
                refine hK.out _ _ ?_ (fun hHeld => ?_)
                · go_keep
                clear hK K
                try simp only [Act.put, pu]
                refine tr 4 rfl (by kernel_rfl) (fun K hK => ?_)
                go_simp
                have gA := grownT (grownP w9 w.heap.size 0 (.int .i64 (n : Int))) (grownP _ w.heap.size 1 (.slice Av lv kv))
                replace k0 := gA.cell k0 (ne_blk (show B4 ≠ w.heap.size by omega))
                replace k1 := gA.cell k1 (ne_blk (show B4 ≠ w.heap.size by omega))
                replace y0' := gA.cell y0' (ne_blk (show w.heap.size + 1 ≠ w.heap.size by omega))
                replace y1' := gA.cell y1' (ne_blk (show w.heap.size + 1 ≠ w.heap.size by omega))
                replace y2' := gA.cell y2' (ne_blk (show w.heap.size + 1 ≠ w.heap.size by omega))
                replace y3' := gA.cell y3' (ne_blk (show w.heap.size + 1 ≠ w.heap.size by omega))
                replace y4' := gA.cell y4' (ne_blk (show w.heap.size + 1 ≠ w.heap.size by omega))
                have hqf : ∀ i, ((w9.setCell ⟨w.heap.size, 0, none⟩ (.int .i64 (n : Int))).setCell ⟨w.heap.size, 1, none⟩ (.slice Av lv kv)).frozen? ⟨w.heap.size + 1, i, none⟩ = false := fun i => (World.frozen?_of_block (gA.block _ (by have := HP9.out.b4; show w.heap.size + 1 < _; omega) (ne_blk (show w.heap.size + 1 ≠ w.heap.size by omega)))).trans (yf i)
                refine hK.out _ _ ?_ (fun hHeld => ?_)
                · go_keep
                clear hK K
                try simp only [Act.put, pu]
                refine tr 5 rfl (by kernel_rfl) (fun K hK => ?_)
                go_simp
                have gB := (grownT (grownT (grownT (grownT (grownP ((w9.setCell ⟨w.heap.size, 0, none⟩ (.int .i64 (n : Int))).setCell ⟨w.heap.size, 1, none⟩ (.slice Av lv kv)) (w.heap.size + 1) 0 (.int .i64 cl9)) (grownP _ (w.heap.size + 1) 1 (.int .i64 lb9))) (grownP _ (w.heap.size + 1) 2 (.slice Af9 mf9 cf9))) (grownP _ (w.heap.size + 1) 3 (.slice As9 ms9 cs9))) (grownP _ (w.heap.size + 1) 4 (.slice Ar9 mr9 cr9)))
                replace k0 := gB.cell k0 (ne_blk (show B4 ≠ w.heap.size + 1 by omega))
                replace k1 := gB.cell k1 (ne_blk (show B4 ≠ w.heap.size + 1 by omega))
                refine hK.out _ _ ?_ (fun hHeld => ?_)
                · go_keep
                clear hK K
                try simp only [Act.put, pu]
                refine wpAnyH_done (by kernel_rfl) ?_ _
                go_wp2_with fail
                rw [← HWF.out]
                obtain ⟨z0, z1, -⟩ := cells2 HF2
                obtain ⟨⟨u0, u1, u2⟩, ⟨u3, u4⟩, -⟩ := cells5 HF3
                refine bodyPost_ret (v := .tuple #[.agg #[.int .i64 (n : Int), .slice Av lv kv], certVw cl9 lb9 (.slice Af9 mf9 cf9) (.slice As9 ms9 cs9) (.slice Ar9 mr9 cr9)]) (by simp [results, Tryz.results16, go_sem, z0, z1, u0, u1, u2, u3, u4]) rfl HF1.out
              · have e5 : ((y : Int) == 5) = false := by rw [beq_eq_false_iff_ne]; omega
                go_wp2_with fail
                obtain ⟨k0, k1, kf⟩ := cells2 (Lib.hid HP.out.box)
                obtain ⟨⟨x0, x1, x2⟩, ⟨x3, x4⟩, xf⟩ := cells5 (Lib.hid HX.out.box.1)
                obtain ⟨d0, d1, df⟩ := cells2 (Lib.hid HP.out.r1)
                obtain ⟨⟨y0', y1', y2'⟩, ⟨y3', y4'⟩, yf⟩ := cells5 (Lib.hid HP.out.r2)
                obtain ⟨wf, ef, f1, f2, f3⟩ := dc_done HP.out HX.out.cd.1 HX.out.cd.2.1 HX.out.cd.2.2
                have HF1 := Lib.hid f1.drew
                have HF2 := Lib.hid f2
                have HF3 := Lib.hid f3
                have HWF := Lib.hid ef
                have hwd : w.heap.size < w7.heap.size := by have := HP.out.b4; omega
                have hbb5 := HX.out.box.2
                clear f1 f2 f3 ef
                refine wp_region_held_drew (S := fun w' => w'.cell? ⟨B4, 0, none⟩ = some (.int .i64 (n : Int)) ∧ w'.cell? ⟨B4, 1, none⟩ = some (.slice Av lv kv) ∧ w'.cell? ⟨B5, 0, none⟩ = some (.int .i64 cl) ∧ w'.cell? ⟨B5, 1, none⟩ = some (.int .i64 lb) ∧ w'.cell? ⟨B5, 2, none⟩ = some (.slice Af mf cf) ∧ w'.cell? ⟨B5, 3, none⟩ = some (.slice As ms cs) ∧ w'.cell? ⟨B5, 4, none⟩ = some (.slice Ar mr cr)) (by kernel_rfl) ?_ (fun hHeld => ?_)
                · go_keep
                refine tk 0 91 rfl rfl ?_
                try simp only [Act.put, pu]
                refine tk 1 92 rfl rfl ?_
                try simp only [Act.put, pu]
                refine tr 2 rfl (by kernel_rfl) (fun K hK => ?_)
                go_simp
                have gA := grownT (grownP w7 w.heap.size 0 (.int .i64 (n : Int))) (grownP _ w.heap.size 1 (.slice Av lv kv))
                replace k0 := gA.cell k0 (ne_blk (show B4 ≠ w.heap.size by omega))
                replace k1 := gA.cell k1 (ne_blk (show B4 ≠ w.heap.size by omega))
                replace x0 := gA.cell x0 (ne_blk (show B5 ≠ w.heap.size by omega))
                replace x1 := gA.cell x1 (ne_blk (show B5 ≠ w.heap.size by omega))
                replace x2 := gA.cell x2 (ne_blk (show B5 ≠ w.heap.size by omega))
                replace x3 := gA.cell x3 (ne_blk (show B5 ≠ w.heap.size by omega))
                replace x4 := gA.cell x4 (ne_blk (show B5 ≠ w.heap.size by omega))
                replace y0' := gA.cell y0' (ne_blk (show w.heap.size + 1 ≠ w.heap.size by omega))
                replace y1' := gA.cell y1' (ne_blk (show w.heap.size + 1 ≠ w.heap.size by omega))
                replace y2' := gA.cell y2' (ne_blk (show w.heap.size + 1 ≠ w.heap.size by omega))
                replace y3' := gA.cell y3' (ne_blk (show w.heap.size + 1 ≠ w.heap.size by omega))
                replace y4' := gA.cell y4' (ne_blk (show w.heap.size + 1 ≠ w.heap.size by omega))
                have hqf : ∀ i, ((w7.setCell ⟨w.heap.size, 0, none⟩ (.int .i64 (n : Int))).setCell ⟨w.heap.size, 1, none⟩ (.slice Av lv kv)).frozen? ⟨w.heap.size + 1, i, none⟩ = false := fun i => (World.frozen?_of_block (gA.block _ (by have := HP.out.b4; show w.heap.size + 1 < _; omega) (ne_blk (show w.heap.size + 1 ≠ w.heap.size by omega)))).trans (yf i)
                refine hK.out _ _ ?_ (fun hHeld => ?_)
                · go_keep
                clear hK K
                try simp only [Act.put, pu]
                refine tr 3 rfl (by kernel_rfl) (fun K hK => ?_)
                go_simp
                have gB := (grownT (grownT (grownT (grownT (grownP ((w7.setCell ⟨w.heap.size, 0, none⟩ (.int .i64 (n : Int))).setCell ⟨w.heap.size, 1, none⟩ (.slice Av lv kv)) (w.heap.size + 1) 0 (.int .i64 cl)) (grownP _ (w.heap.size + 1) 1 (.int .i64 lb))) (grownP _ (w.heap.size + 1) 2 (.slice Af mf cf))) (grownP _ (w.heap.size + 1) 3 (.slice As ms cs))) (grownP _ (w.heap.size + 1) 4 (.slice Ar mr cr)))
                replace k0 := gB.cell k0 (ne_blk (show B4 ≠ w.heap.size + 1 by omega))
                replace k1 := gB.cell k1 (ne_blk (show B4 ≠ w.heap.size + 1 by omega))
                replace x0 := gB.cell x0 (ne_blk (show B5 ≠ w.heap.size + 1 by omega))
                replace x1 := gB.cell x1 (ne_blk (show B5 ≠ w.heap.size + 1 by omega))
                replace x2 := gB.cell x2 (ne_blk (show B5 ≠ w.heap.size + 1 by omega))
                replace x3 := gB.cell x3 (ne_blk (show B5 ≠ w.heap.size + 1 by omega))
                replace x4 := gB.cell x4 (ne_blk (show B5 ≠ w.heap.size + 1 by omega))
                refine hK.out _ _ ?_ (fun hHeld => ?_)
                · go_keep
                clear hK K
                try simp only [Act.put, pu]
                refine wpAnyH_done (by kernel_rfl) ?_ _
                go_wp2_with fail
                rw [← HWF.out]
                obtain ⟨z0, z1, -⟩ := cells2 HF2
                obtain ⟨⟨u0, u1, u2⟩, ⟨u3, u4⟩, -⟩ := cells5 HF3
                have hdz : ∀ a, wf.drew.cell? a = wf.cell? a := fun _ => rfl
                refine bodyPost_ret (v := .tuple #[.agg #[.int .i64 (n : Int), .slice Av lv kv], certVw cl lb (.slice Af mf cf) (.slice As ms cs) (.slice Ar mr cr)]) (by simp [results, Tryz.results16, go_sem, hdz, z0, z1, u0, u1, u2, u3, u4]) rfl HF1.out
end Go.Proofs.YtjhljipehnmbnaaGreat
