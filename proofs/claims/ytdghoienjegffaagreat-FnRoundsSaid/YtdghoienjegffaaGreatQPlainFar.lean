/-
  Distances that a search finds are symmetric where the ends are paired; the distance from the marked nodes, told in two ways: the plain law, with no program in sight. No condition.
-/
import Derived.Test.YtdghoienjegffaaGreatQZ
namespace Go.Proofs.YtdghoienjegffaaGreat
set_option linter.all false
def Adj (es : List (List (Int × Int))) (a b : Nat) : Prop := ∃ l, es[a]? = some l ∧ ∃ e ∈ l, e.1.toNat = b
def gd (d : List Int) (a : Nat) : Int := d.getD a (-1)
theorem gd_in {d : List Int} {a : Nat} (h : a < d.length) : d.getD a 0 = gd d a := by
  unfold gd
  rw [List.getD_eq_getElem?_getD, List.getD_eq_getElem?_getD, List.getElem?_eq_getElem h]
  rfl
theorem gd_lt {d : List Int} {a : Nat} (h : 0 ≤ gd d a) : a < d.length := by
  rcases Nat.lt_or_ge a d.length with h' | h'
  · exact h'
  · unfold gd at h
    rw [List.getD_eq_getElem?_getD, List.getElem?_eq_none h'] at h
    simp at h
theorem gd_set {d : List Int} {b : Nat} {x : Int} (hb : b < d.length) (a : Nat) : gd (d.set b x) a = if a = b then x else gd d a := by
  unfold gd
  rw [List.getD_eq_getElem?_getD, List.getD_eq_getElem?_getD, List.getElem?_set]
  by_cases e : b = a
  · subst e
    rw [if_pos rfl, if_pos hb, if_pos rfl]; rfl
  · rw [if_neg e, if_neg (fun h => e h.symm)]
structure Vis (es : List (List (Int × Int))) (v w : Nat) (l : List (Int × Int)) (d q : List Int) : Prop where
  len : d.length = es.length
  root : gd d v = 0
  back : ∀ b, 0 ≤ gd d b → (gd d b = 0 ∧ b = v) ∨ ∃ a, Adj es a b ∧ gd d a + 1 = gd d b ∧ 0 ≤ gd d a
  qlab : ∀ a ∈ q, 0 ≤ a ∧ 0 ≤ gd d a.toNat
  sort : q.Pairwise fun a b => gd d a.toNat ≤ gd d b.toNat
  bound : ∀ a ∈ q, ∀ x, gd d x ≤ gd d a.toNat + 1
  wl : 0 ≤ gd d w
  wb : ∀ x, gd d x ≤ gd d w + 1
  wq : ∀ a ∈ q, gd d w ≤ gd d a.toNat
  fwd : ∀ a, 0 ≤ gd d a → (a : Int) ∈ q ∨ a = w ∨ ∀ b, Adj es a b → 0 ≤ gd d b ∧ gd d b ≤ gd d a + 1
  done : ∀ b, Adj es w b → (∃ e ∈ l, e.1.toNat = b) ∨ (0 ≤ gd d b ∧ gd d b ≤ gd d w + 1)
theorem Vis.old {es : List (List (Int × Int))} {v w : Nat} {e : Int × Int} {l : List (Int × Int)} {d q : List Int} (h : Vis es v w (e :: l) d q) (he : 0 ≤ gd d e.1.toNat) : Vis es v w l d q :=
  ⟨h.len, h.root, h.back, h.qlab, h.sort, h.bound, h.wl, h.wb, h.wq, h.fwd, fun b hb => by
    rcases h.done b hb with ⟨e', he', rfl⟩ | h1
    · rcases List.mem_cons.1 he' with rfl | he'
      · exact .inr ⟨he, h.wb _⟩
      · exact .inl ⟨e', he', rfl⟩
    · exact .inr h1⟩
theorem Vis.new {es : List (List (Int × Int))} {v w : Nat} {e : Int × Int} {l : List (Int × Int)} {d q : List Int} (h : Vis es v w (e :: l) d q) (he : gd d e.1.toNat < 0) (h0 : 0 ≤ e.1) (hl : e.1.toNat < es.length) (ha : Adj es w e.1.toNat) :
  Vis es v w l (d.set e.1.toNat (gd d w + 1)) (q ++ [e.1]) := by
 have hbl : e.1.toNat < d.length := by rw [h.len]; exact hl
 have hs := gd_set (d := d) (x := gd d w + 1) hbl
 have hk : ∀ a, 0 ≤ gd d a → gd (d.set e.1.toNat (gd d w + 1)) a = gd d a := fun a ha => by
  rw [hs, if_neg]; rintro rfl; omega
 have hn : gd (d.set e.1.toNat (gd d w + 1)) e.1.toNat = gd d w + 1 := by rw [hs, if_pos rfl]
 have hw := hk w h.wl
 have hwl := h.wl
 have hle : ∀ x, gd (d.set e.1.toNat (gd d w + 1)) x ≤ gd d w + 1 := fun x => by
  rw [hs]; split
  ·
   omega
  ·
   exact h.wb x
 refine ⟨by rw [List.length_set]; exact h.len, by rw [hk _ (by rw [h.root]; omega)]; exact h.root, fun b hb => ?_, fun a ha' => ?_, ?_, fun a ha' x => ?_, by rw [hw]; exact h.wl, fun x => by rw [hw]; exact hle x, fun a ha' => ?_, fun a ha' => ?_, fun b hb => ?_⟩
 ·
  by_cases eb : b = e.1.toNat
  ·
   subst eb
   exact .inr ⟨w, ha, by rw [hw, hn], by rw [hw]; exact hwl⟩
  ·
   rw [hs, if_neg eb] at hb
   rw [hk b hb]
   rcases h.back b hb with h1 | ⟨a, h1, h2, h3⟩
   ·
    exact .inl h1
   ·
    exact .inr ⟨a, h1, by rw [hk a h3]; exact h2, by rw [hk a h3]; exact h3⟩
 ·
  rcases List.mem_append.1 ha' with h1 | h1
  ·
   obtain ⟨k1, k2⟩ := h.qlab a h1
   exact ⟨k1, by rw [hk _ k2]; exact k2⟩
  ·
   rw [List.mem_singleton] at h1
   subst h1
   exact ⟨h0, by rw [hn]; omega⟩
 ·
  refine List.pairwise_append.2 ⟨?_, List.pairwise_singleton _ _, fun a h1 b h2 => ?_⟩
  ·
   refine h.sort.imp_of_mem fun {a b} h1 h2 h3 => ?_
   rw [hk _ (h.qlab a h1).2, hk _ (h.qlab b h2).2]
   exact h3
  ·
   rw [List.mem_singleton] at h2
   subst h2
   rw [hn]
   exact hle _
 ·
  rcases List.mem_append.1 ha' with h1 | h1
  ·
   rw [hk _ (h.qlab a h1).2]
   have := h.wq a h1
   have := hle x
   omega
  ·
   rw [List.mem_singleton] at h1
   subst h1
   rw [hn]
   have := hle x
   omega
 ·
  rcases List.mem_append.1 ha' with h1 | h1
  ·
   rw [hk _ (h.qlab a h1).2, hw]
   exact h.wq a h1
  ·
   rw [List.mem_singleton] at h1
   subst h1
   rw [hn, hw]; omega
 ·
  by_cases eb : a = e.1.toNat
  ·
   left
   rw [List.mem_append, List.mem_singleton]
   right; omega
  ·
   rw [hs, if_neg eb] at ha'
   rcases h.fwd a ha' with h1 | h1 | h1
   ·
    exact .inl (List.mem_append.2 (.inl h1))
   ·
    exact .inr (.inl h1)
   ·
    refine .inr (.inr fun b hb => ?_)
    obtain ⟨k1, k2⟩ := h1 b hb
    rw [hk a ha', hk b k1]
    exact ⟨k1, k2⟩
 ·
  rw [hw]
  rcases h.done b hb with ⟨e', he', rfl⟩ | ⟨h1, h2⟩
  ·
   rcases List.mem_cons.1 he' with rfl | he'
   ·
    exact .inr ⟨by rw [hn]; omega, by rw [hn]; omega⟩
   ·
    exact .inl ⟨e', he', rfl⟩
  ·
   exact .inr ⟨by rw [hk b h1]; exact h1, by rw [hk b h1]; exact h2⟩
theorem visit_vis {es : List (List (Int × Int))} {v w : Nat} : ∀ (l : List (Int × Int)) {d q : List Int}, Vis es v w l d q → (∀ e ∈ l, 0 ≤ e.1 ∧ e.1.toNat < es.length ∧ Adj es w e.1.toNat) → Vis es v w [] (visit w l (d, q)).1 (visit w l (d, q)).2
  | [], d, q, h, _ => h
  | e :: r, d, q, h, hl => by
    obtain ⟨e0, e1, e2⟩ := hl e (by simp)
    unfold visit
    simp only
    rw [gd_in (by rw [h.len]; exact e1), gd_in (gd_lt h.wl)]
    by_cases hc : gd d e.1.toNat < 0
    · rw [if_pos hc]
      exact visit_vis r (h.new hc e0 e1 e2) fun e' he' => hl e' (by simp [he'])
    · rw [if_neg hc]
      exact visit_vis r (h.old (by omega)) fun e' he' => hl e' (by simp [he'])
structure Lab (es : List (List (Int × Int))) (v : Nat) (d q : List Int) : Prop where
  len : d.length = es.length
  root : gd d v = 0
  back : ∀ b, 0 ≤ gd d b → (gd d b = 0 ∧ b = v) ∨ ∃ a, Adj es a b ∧ gd d a + 1 = gd d b ∧ 0 ≤ gd d a
  qlab : ∀ a ∈ q, 0 ≤ a ∧ 0 ≤ gd d a.toNat
  sort : q.Pairwise fun a b => gd d a.toNat ≤ gd d b.toNat
  bound : ∀ a ∈ q, ∀ x, gd d x ≤ gd d a.toNat + 1
  fwd : ∀ a, 0 ≤ gd d a → (a : Int) ∈ q ∨ ∀ b, Adj es a b → 0 ≤ gd d b ∧ gd d b ≤ gd d a + 1
theorem Lab.step {es : List (List (Int × Int))} {v : Nat} {d q : List Int} {w : Int} (hes : EndsIn es) (h : Lab es v d (w :: q)) :
    Lab es v (visit w.toNat (es.getD w.toNat []) (d, q)).1 (visit w.toNat (es.getD w.toNat []) (d, q)).2 := by
  obtain ⟨w0, hw⟩ := h.qlab w (by simp)
  have hwl : w.toNat < es.length := by rw [← h.len]; exact gd_lt hw
  obtain ⟨l, hl⟩ : ∃ l, es[w.toNat]? = some l := ⟨_, List.getElem?_eq_getElem hwl⟩
  have hg : es.getD w.toNat [] = l := by rw [List.getD_eq_getElem?_getD, hl]; rfl
  obtain ⟨s1, s2⟩ := List.pairwise_cons.1 h.sort
  have hv : Vis es v w.toNat l d q := ⟨h.len, h.root, h.back, fun a ha => h.qlab a (by simp [ha]), s2, fun a ha => h.bound a (by simp [ha]), hw, h.bound w (by simp), s1, fun a ha => by
    rcases h.fwd a ha with h1 | h1
    · rcases List.mem_cons.1 h1 with h1 | h1
      · exact .inr (.inl (by omega))
      · exact .inl h1
    · exact .inr (.inr h1), fun b hb => by
    obtain ⟨l', h1, e, he, rfl⟩ := hb
    obtain rfl := Option.some.inj (hl.symm.trans h1)
    exact .inl ⟨e, he, rfl⟩⟩
  rw [hg]
  have hm := visit_vis l hv fun e he => ⟨(hes l (List.mem_of_getElem? hl) e he).1, (hes l (List.mem_of_getElem? hl) e he).2, l, hl, e, he, rfl⟩
  exact ⟨hm.len, hm.root, hm.back, hm.qlab, hm.sort, hm.bound, fun a ha => by
    rcases hm.fwd a ha with h1 | rfl | h1
    · exact .inl h1
    · refine .inr fun b hb => ?_
      rcases hm.done b hb with ⟨e, he, _⟩ | h1
      · cases he
      · exact h1
    · exact .inr h1⟩
theorem bfs_lab {es : List (List (Int × Int))} {v : Nat} (hes : EndsIn es) : ∀ (f : Nat) (d q : List Int), Lab es v d q → DistOk es.length d q → neg d + q.length ≤ f → Lab es v (bfs es f d q) []
  | 0, d, q, h, _, hf => by
    obtain rfl : q = [] := List.length_eq_zero_iff.1 (by omega)
    exact h
  | _ + 1, d, [], h, _, _ => h
  | f + 1, d, w :: q, h, hd, hf => by
    obtain ⟨k1, k2⟩ := bfs_step hes hd
    exact bfs_lab hes f _ _ (h.step hes) k1 (by omega)
theorem far_lab {es : List (List (Int × Int))} {v : Nat} (hes : EndsIn es) (hv : v < es.length) : Lab es v (far es v) [] := by
  obtain ⟨f, h1, h2, h3⟩ := far_start hv
  rw [← h1]
  have hg : ∀ a, gd ((List.replicate es.length (-1)).set v 0) a = if a = v then 0 else -1 := fun a => by
    rw [gd_set (by simpa using hv)]
    split
    · rfl
    · unfold gd
      rw [List.getD_eq_getElem?_getD, List.getElem?_replicate]
      split <;> rfl
  refine bfs_lab hes f _ _ ⟨by simp, by rw [hg, if_pos rfl], fun b hb => ?_, fun a ha => ?_, List.pairwise_singleton _ _, fun a ha x => ?_, fun a ha => ?_⟩ h3 h2
  · rw [hg] at hb ⊢
    split at hb
    · rename_i e; rw [if_pos e]; exact .inl ⟨rfl, e⟩
    · omega
  · rw [List.mem_singleton] at ha
    subst ha
    exact ⟨by omega, by rw [hg, if_pos (by omega)]; omega⟩
  · rw [List.mem_singleton] at ha
    subst ha
    rw [hg, hg, if_pos (show (v : Int).toNat = v by omega)]
    split <;> omega
  · rw [hg] at ha
    split at ha
    · rename_i e; subst e; exact .inl (by simp)
    · omega
inductive Wk (es : List (List (Int × Int))) : Nat → Nat → Nat → Prop
  | nil (a : Nat) : Wk es a a 0
  | snoc {a b c n : Nat} : Wk es a b n → Adj es b c → Wk es a c (n + 1)
theorem Wk.cons {es : List (List (Int × Int))} {a b c n : Nat} (ha : Adj es a b) (h : Wk es b c n) : Wk es a c (n + 1) := by
  induction h with
  | nil => exact (Wk.nil a).snoc ha
  | snoc h1 h2 ih => exact ih.snoc h2
theorem Wk.rev {es : List (List (Int × Int))} (hs : ∀ a b, Adj es a b → Adj es b a) {a b n : Nat} (h : Wk es a b n) : Wk es b a n := by
  induction h with
  | nil => exact .nil _
  | snoc h1 h2 ih => exact .cons (hs _ _ h2) ih
theorem Lab.walk {es : List (List (Int × Int))} {v : Nat} {d : List Int} (h : Lab es v d []) {b n : Nat} (hw : Wk es v b n) : 0 ≤ gd d b ∧ gd d b ≤ n := by
  induction hw with
  | nil => rw [h.root]; omega
  | snoc h1 h2 ih =>
    obtain ⟨k1, k2⟩ := ih
    rcases h.fwd _ k1 with h3 | h3
    · cases h3
    · have := h3 _ h2
      omega
theorem Lab.found {es : List (List (Int × Int))} {v : Nat} {d : List Int} (h : Lab es v d []) : ∀ (m b : Nat), gd d b = m → Wk es v b m := by
  intro m
  induction m with
  | zero =>
    intro b hb
    rcases h.back b (by omega) with ⟨_, rfl⟩ | ⟨a, _, h2, h3⟩
    · exact .nil _
    · omega
  | succ m ih =>
    intro b hb
    rcases h.back b (by omega) with ⟨h1, _⟩ | ⟨a, h1, h2, h3⟩
    · omega
    · exact (ih a (by omega)).snoc h1
theorem netP.adj_symm {n : Net} (h : netP n) (a b : Nat) (hab : Adj n.es a b) : Adj n.es b a := by
  obtain ⟨l, hl, e, he, rfl⟩ := hab
  obtain ⟨i, hi⟩ := List.mem_iff_getElem?.1 he
  obtain ⟨h0, h1, m, hm, hm2⟩ := (h.2.2.2.2 a l hl).2 i e hi
  exact ⟨m, hm, _, List.mem_of_getElem? hm2, by simp⟩
theorem far_symm {n : Net} (h : netP n) {v w : Nat} (hv : v < n.es.length) (hw : w < n.es.length) : gd (far n.es v) w = gd (far n.es w) v := by
  have lv := far_lab h.endsIn hv
  have lw := far_lab h.endsIn hw
  have key : ∀ {v w : Nat}, Lab n.es v (far n.es v) [] → Lab n.es w (far n.es w) [] → 0 ≤ gd (far n.es v) w → 0 ≤ gd (far n.es w) v ∧ gd (far n.es w) v ≤ gd (far n.es v) w := by
    intro v w lv lw h0
    have hk := lv.found (gd (far n.es v) w).toNat w (by omega)
    have := lw.walk (hk.rev h.adj_symm)
    omega
  have m1 : ∀ {v w : Nat}, v < n.es.length → w < n.es.length → -1 ≤ gd (far n.es v) w := by
    intro v w hv hw
    obtain ⟨k1, k2⟩ := far_ok h.endsIn hv
    have hwl : w < (far n.es v).length := by omega
    have := k2 _ (List.getElem_mem hwl)
    unfold gd
    rw [List.getD_eq_getElem?_getD, List.getElem?_eq_getElem hwl]
    simp only [Option.getD_some]
    omega
  have := m1 hv hw
  have := m1 hw hv
  rcases Int.lt_or_le (gd (far n.es v) w) 0 with h1 | h1
  · rcases Int.lt_or_le (gd (far n.es w) v) 0 with h2 | h2
    · omega
    · have := key lw lv h2; omega
  · have k1 := key lv lw h1
    have := key lw lv k1.1
    omega
def rootsL (ins : List Int) : List Int := ((List.range ins.length).filter fun v => ins.getD v 0 == 1).map fun (v : Nat) => (v : Int)
theorem roots_mem {ins : List Int} {z : Int} (h : z ∈ rootsL ins) : 0 ≤ z ∧ z.toNat < ins.length := by
  unfold rootsL at h
  obtain ⟨v, hv, rfl⟩ := List.mem_map.1 h
  have := List.mem_range.1 (List.mem_filter.1 hv).1
  omega
def leastD (d : List Int) (set : List Int) : Int := set.foldl (fun out w => if 0 ≤ gd d w.toNat ∧ (out < 0 ∨ gd d w.toNat < out) then gd d w.toNat else out) (-1)
def farV (n : Net) (v : Nat) : Int := if leastD (far n.es v) (rootsL n.ins) < 0 then n.es.length else leastD (far n.es v) (rootsL n.ins)
def farT (n : Net) : List Int := (List.range n.es.length).map (farV n)
def rowMin (out d : List Int) : List Int := List.zipWith (fun a x => if 0 ≤ x then min a x else a) out d
def treeL (n : Net) (roots : List Int) : List Int := roots.foldl (fun out r => rowMin out (far n.es r.toNat)) (List.replicate n.es.length (n.es.length : Int))
theorem rowMin_len (out d : List Int) : (rowMin out d).length = min out.length d.length := by unfold rowMin; rw [List.length_zipWith]
theorem rowMin_at {out d : List Int} {v : Nat} {a : Int} (h : out[v]? = some a) (hd : v < d.length) : (rowMin out d)[v]? = some (if 0 ≤ gd d v then min a (gd d v) else a) := by
  unfold rowMin gd
  rw [List.getElem?_zipWith, h, List.getD_eq_getElem?_getD, List.getElem?_eq_getElem hd]
  rfl
theorem tree_at {n : Net} (h : netP n) {v : Nat} (hv : v < n.es.length) : ∀ (roots : List Int), (∀ r ∈ roots, 0 ≤ r ∧ r.toNat < n.es.length) → (treeL n roots)[v]? = some (if leastD (far n.es v) roots < 0 then (n.es.length : Int) else leastD (far n.es v) roots) := by
 suffices hs : ∀ (roots : List Int), (∀ r ∈ roots, 0 ≤ r ∧ r.toNat < n.es.length) → ∀ (out : List Int) (p : Int), out.length = n.es.length → (out[v]? = some (if p < 0 then (n.es.length : Int) else p)) → (p < n.es.length) →
   (roots.foldl (fun out r => rowMin out (far n.es r.toNat)) out)[v]? = some (if roots.foldl (fun out w => if 0 ≤ gd (far n.es v) w.toNat ∧ (out < 0 ∨ gd (far n.es v) w.toNat < out) then gd (far n.es v) w.toNat else out) p < 0 then (n.es.length : Int) else roots.foldl (fun out w => if 0 ≤ gd (far n.es v) w.toNat ∧ (out < 0 ∨ gd (far n.es v) w.toNat < out) then gd (far n.es v) w.toNat else out) p) by
  intro roots hr
  exact hs roots hr _ (-1) (by simp) (by rw [List.getElem?_replicate, if_pos hv]; rfl) (by omega)
 intro roots
 induction roots with
 | nil => intro _ out p _ h2 _; exact h2
 | cons r t ih =>
  intro hr out p h1 h2 h3
  obtain ⟨r0, r1⟩ := hr r (by simp)
  obtain ⟨k1, k2⟩ := far_ok h.endsIn r1
  have hsy := far_symm h hv r1
  have hlt : gd (far n.es v) r.toNat < n.es.length := by
   rw [hsy]
   have hvl : v < (far n.es r.toNat).length := by omega
   have := k2 _ (List.getElem_mem hvl)
   unfold gd
   rw [List.getD_eq_getElem?_getD, List.getElem?_eq_getElem hvl]
   simp only [Option.getD_some]
   omega
  simp only [List.foldl_cons]
  refine ih (fun r' hr' => hr r' (by simp [hr'])) _ _ (by rw [rowMin_len]; omega) ?_ ?_
  ·
   rw [rowMin_at h2 (by omega), ← hsy]
   generalize gd (far n.es v) r.toNat = f at *
   congr 1
   split <;> split <;> (try split) <;> (try split) <;> omega
  ·
   split
   ·
    exact hlt
   ·
    exact h3
theorem tree_far {n : Net} (h : netP n) : treeL n (rootsL n.ins) = farT n := by
  have hin := h.2.2.1
  have hr : ∀ r ∈ rootsL n.ins, 0 ≤ r ∧ r.toNat < n.es.length := fun r hr => by have := roots_mem hr; omega
  refine List.ext_getElem? fun v => ?_
  by_cases hv : v < n.es.length
  · rw [tree_at h hv _ hr]
    unfold farT farV
    rw [List.getElem?_map, List.getElem?_range hv]
    rfl
  · have h1 : (treeL n (rootsL n.ins)).length ≤ n.es.length := by
      unfold treeL
      suffices hs : ∀ (roots out : List Int), out.length ≤ n.es.length → (roots.foldl (fun out r => rowMin out (far n.es r.toNat)) out).length ≤ n.es.length from hs _ _ (by simp)
      intro roots
      induction roots with
      | nil => intro out h; exact h
      | cons r t ih => intro out h; exact ih _ (by rw [rowMin_len]; omega)
    rw [List.getElem?_eq_none (by omega), List.getElem?_eq_none (by unfold farT; simp; omega)]
end Go.Proofs.YtdghoienjegffaaGreat
