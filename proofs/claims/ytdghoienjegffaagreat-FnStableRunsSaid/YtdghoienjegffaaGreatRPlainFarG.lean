/-
  Small lemmas and contracts that the texts of this claim share. No condition.
-/
import Derived.Test.YtdghoienjegffaaGreatRNextS
namespace Go.Proofs.YtdghoienjegffaaGreat
set_option linter.all false
def Adj (es : List (List (Int × Int))) (a b : Nat) : Prop := ∃ l, es[a]? = some l ∧ ∃ e ∈ l, e.1.toNat = b
def gd (d : List Int) (a : Nat) : Int := d.getD a (-1)
theorem gd_in {d : List Int} {a : Nat} (h : a < d.length) : d.getD a 0 = gd d a := by unfold gd;rw [List.getD_eq_getElem?_getD, List.getD_eq_getElem?_getD, List.getElem?_eq_getElem h];rfl
theorem gd_lt {d : List Int} {a : Nat} (h : 0 ≤ gd d a) : a < d.length := by
  rcases Nat.lt_or_ge a d.length with h' | h'
  · exact h'
  · unfold gd at h
    rw [List.getD_eq_getElem?_getD, List.getElem?_eq_none h'] at h;simp at h
theorem gd_set {d : List Int} {b : Nat} {x : Int} (hb : b < d.length) (a : Nat) : gd (d.set b x) a = if a = b then x else gd d a := by
  unfold gd;rw [List.getD_eq_getElem?_getD, List.getD_eq_getElem?_getD, List.getElem?_set];by_cases e : b = a
  · subst e
    rw [if_pos rfl, if_pos hb, if_pos rfl]; rfl
  · rw [if_neg e, if_neg (fun h => e h.symm)]
structure Vis (es : List (List (Int × Int))) (v w : Nat) (l : List (Int × Int)) (d q : List Int) : Prop where
  len : d.length = es.length
  root : gd d v = 0
  back : ∀ b, 0 ≤ gd d b → (gd d b = 0 ∧ b = v) ∨ ∃ a, Adj es a b ∧ gd d a + 1 = gd d b ∧ 0 ≤ gd d a
  qlab : ∀ a ∈ q, 0 ≤ a ∧ 0 ≤ gd d a.toNat
  sort : q.Pairwise fun a b => gd d a.toNat ≤ gd d b.toNat
  bound : ∀ a ∈ q, ∀ x, gd d x ≤ gd d a.toNat + 1
  wl : 0 ≤ gd d w
  wb : ∀ x, gd d x ≤ gd d w + 1
  wq : ∀ a ∈ q, gd d w ≤ gd d a.toNat
  fwd : ∀ a, 0 ≤ gd d a → (a : Int) ∈ q ∨ a = w ∨ ∀ b, Adj es a b → 0 ≤ gd d b ∧ gd d b ≤ gd d a + 1
  done : ∀ b, Adj es w b → (∃ e ∈ l, e.1.toNat = b) ∨ (0 ≤ gd d b ∧ gd d b ≤ gd d w + 1)
theorem Vis.old {es : List (List (Int × Int))} {v w : Nat} {e : Int × Int} {l : List (Int × Int)} {d q : List Int} (h : Vis es v w (e :: l) d q) (he : 0 ≤ gd d e.1.toNat) : Vis es v w l d q :=
  ⟨h.len, h.root, h.back, h.qlab, h.sort, h.bound, h.wl, h.wb, h.wq, h.fwd, fun b hb => by
    rcases h.done b hb with ⟨e', he', rfl⟩ | h1
    · rcases List.mem_cons.1 he' with rfl | he'
      · exact .inr ⟨he, h.wb _⟩
      · exact .inl ⟨e', he', rfl⟩
    · exact .inr h1⟩
theorem Vis.new {es : List (List (Int × Int))} {v w : Nat} {e : Int × Int} {l : List (Int × Int)} {d q : List Int} (h : Vis es v w (e :: l) d q) (he : gd d e.1.toNat < 0) (h0 : 0 ≤ e.1) (hl : e.1.toNat < es.length) (ha : Adj es w e.1.toNat) :
  Vis es v w l (d.set e.1.toNat (gd d w + 1)) (q ++ [e.1]) := by
 have hbl : e.1.toNat < d.length := by rw [h.len]; exact hl
 have hs := gd_set (d := d) (x := gd d w + 1) hbl;have hk : ∀ a, 0 ≤ gd d a → gd (d.set e.1.toNat (gd d w + 1)) a = gd d a := fun a ha => by rw [hs, if_neg]; rintro rfl; omega
 have hn : gd (d.set e.1.toNat (gd d w + 1)) e.1.toNat = gd d w + 1 := by rw [hs, if_pos rfl]
 have hw := hk w h.wl;have hwl := h.wl;have hle : ∀ x, gd (d.set e.1.toNat (gd d w + 1)) x ≤ gd d w + 1 := fun x => by
  rw [hs]; split
  · omega
  · exact h.wb x
 refine ⟨by rw [List.length_set]; exact h.len, by rw [hk _ (by rw [h.root]; omega)]; exact h.root, fun b hb => ?_, fun a ha' => ?_, ?_, fun a ha' x => ?_, by rw [hw]; exact h.wl, fun x => by rw [hw]; exact hle x, fun a ha' => ?_, fun a ha' => ?_, fun b hb => ?_⟩
 ·
  by_cases eb : b = e.1.toNat
  · subst eb;exact .inr ⟨w, ha, by rw [hw, hn], by rw [hw]; exact hwl⟩
  ·
   rw [hs, if_neg eb] at hb;rw [hk b hb];rcases h.back b hb with h1 | ⟨a, h1, h2, h3⟩
   · exact .inl h1
   · exact .inr ⟨a, h1, by rw [hk a h3]; exact h2, by rw [hk a h3]; exact h3⟩
 ·
  rcases List.mem_append.1 ha' with h1 | h1
  · obtain ⟨k1, k2⟩ := h.qlab a h1;exact ⟨k1, by rw [hk _ k2]; exact k2⟩
  · rw [List.mem_singleton] at h1;subst h1;exact ⟨h0, by rw [hn]; omega⟩
 ·
  refine List.pairwise_append.2 ⟨?_, List.pairwise_singleton _ _, fun a h1 b h2 => ?_⟩
  ·
   refine h.sort.imp_of_mem fun {a b} h1 h2 h3 => ?_
   rw [hk _ (h.qlab a h1).2, hk _ (h.qlab b h2).2];exact h3
  · rw [List.mem_singleton] at h2;subst h2;rw [hn];exact hle _
 ·
  rcases List.mem_append.1 ha' with h1 | h1
  · rw [hk _ (h.qlab a h1).2];have := h.wq a h1;have := hle x;omega
  · rw [List.mem_singleton] at h1;subst h1;rw [hn];have := hle x;omega
 ·
  rcases List.mem_append.1 ha' with h1 | h1
  · rw [hk _ (h.qlab a h1).2, hw];exact h.wq a h1
  · rw [List.mem_singleton] at h1;subst h1;rw [hn, hw]; omega
 ·
  by_cases eb : a = e.1.toNat
  · left;rw [List.mem_append, List.mem_singleton];right; omega
  ·
   rw [hs, if_neg eb] at ha';rcases h.fwd a ha' with h1 | h1 | h1
   · exact .inl (List.mem_append.2 (.inl h1))
   · exact .inr (.inl h1)
   · refine .inr (.inr fun b hb => ?_);obtain ⟨k1, k2⟩ := h1 b hb;rw [hk a ha', hk b k1];exact ⟨k1, k2⟩
 ·
  rw [hw];rcases h.done b hb with ⟨e', he', rfl⟩ | ⟨h1, h2⟩
  ·
   rcases List.mem_cons.1 he' with rfl | he'
   · exact .inr ⟨by rw [hn]; omega, by rw [hn]; omega⟩
   · exact .inl ⟨e', he', rfl⟩
  · exact .inr ⟨by rw [hk b h1]; exact h1, by rw [hk b h1]; exact h2⟩
theorem visit_vis {es : List (List (Int × Int))} {v w : Nat} : ∀ (l : List (Int × Int)) {d q : List Int}, Vis es v w l d q → (∀ e ∈ l, 0 ≤ e.1 ∧ e.1.toNat < es.length ∧ Adj es w e.1.toNat) → Vis es v w [] (visit w l (d, q)).1 (visit w l (d, q)).2
  | [], d, q, h, _ => h
  | e :: r, d, q, h, hl => by
    obtain ⟨e0, e1, e2⟩ := hl e (by simp);unfold visit;simp only;rw [gd_in (by rw [h.len]; exact e1), gd_in (gd_lt h.wl)];by_cases hc : gd d e.1.toNat < 0
    · rw [if_pos hc]
      exact visit_vis r (h.new hc e0 e1 e2) fun e' he' => hl e' (by simp [he'])
    · rw [if_neg hc]
      exact visit_vis r (h.old (by omega)) fun e' he' => hl e' (by simp [he'])
structure Lab (es : List (List (Int × Int))) (v : Nat) (d q : List Int) : Prop where
  len : d.length = es.length
  root : gd d v = 0
  back : ∀ b, 0 ≤ gd d b → (gd d b = 0 ∧ b = v) ∨ ∃ a, Adj es a b ∧ gd d a + 1 = gd d b ∧ 0 ≤ gd d a
  qlab : ∀ a ∈ q, 0 ≤ a ∧ 0 ≤ gd d a.toNat
  sort : q.Pairwise fun a b => gd d a.toNat ≤ gd d b.toNat
  bound : ∀ a ∈ q, ∀ x, gd d x ≤ gd d a.toNat + 1
  fwd : ∀ a, 0 ≤ gd d a → (a : Int) ∈ q ∨ ∀ b, Adj es a b → 0 ≤ gd d b ∧ gd d b ≤ gd d a + 1
theorem Lab.step {es : List (List (Int × Int))} {v : Nat} {d q : List Int} {w : Int} (hes : EndsIn es) (h : Lab es v d (w :: q)) :
    Lab es v (visit w.toNat (es.getD w.toNat []) (d, q)).1 (visit w.toNat (es.getD w.toNat []) (d, q)).2 := by
  obtain ⟨w0, hw⟩ := h.qlab w (by simp);have hwl : w.toNat < es.length := by rw [← h.len]; exact gd_lt hw
  obtain ⟨l, hl⟩ : ∃ l, es[w.toNat]? = some l := ⟨_, List.getElem?_eq_getElem hwl⟩
  have hg : es.getD w.toNat [] = l := by rw [List.getD_eq_getElem?_getD, hl]; rfl
  obtain ⟨s1, s2⟩ := List.pairwise_cons.1 h.sort
  have hv : Vis es v w.toNat l d q := ⟨h.len, h.root, h.back, fun a ha => h.qlab a (by simp [ha]), s2, fun a ha => h.bound a (by simp [ha]), hw, h.bound w (by simp), s1, fun a ha => by
    rcases h.fwd a ha with h1 | h1
    · rcases List.mem_cons.1 h1 with h1 | h1
      · exact .inr (.inl (by omega))
      · exact .inl h1
    · exact .inr (.inr h1), fun b hb => by
    obtain ⟨l', h1, e, he, rfl⟩ := hb;obtain rfl := Option.some.inj (hl.symm.trans h1)
    exact .inl ⟨e, he, rfl⟩⟩
  rw [hg];have hm := visit_vis l hv fun e he => ⟨(hes l (List.mem_of_getElem? hl) e he).1, (hes l (List.mem_of_getElem? hl) e he).2, l, hl, e, he, rfl⟩
  exact ⟨hm.len, hm.root, hm.back, hm.qlab, hm.sort, hm.bound, fun a ha => by
    rcases hm.fwd a ha with h1 | rfl | h1
    · exact .inl h1
    · refine .inr fun b hb => ?_
      rcases hm.done b hb with ⟨e, he, _⟩ | h1
      · cases he
      · exact h1
    · exact .inr h1⟩
theorem bfs_lab {es : List (List (Int × Int))} {v : Nat} (hes : EndsIn es) : ∀ (f : Nat) (d q : List Int), Lab es v d q → DistOk es.length d q → neg d + q.length ≤ f → Lab es v (bfs es f d q) []
  | 0, d, q, h, _, hf => by obtain rfl : q = [] := List.length_eq_zero_iff.1 (by omega);exact h
  | _ + 1, d, [], h, _, _ => h
  | f + 1, d, w :: q, h, hd, hf => by obtain ⟨k1, k2⟩ := bfs_step hes hd;exact bfs_lab hes f _ _ (h.step hes) k1 (by omega)
theorem far_lab {es : List (List (Int × Int))} {v : Nat} (hes : EndsIn es) (hv : v < es.length) : Lab es v (far es v) [] := by
  obtain ⟨f, h1, h2, h3⟩ := far_start hv;rw [← h1];have hg : ∀ a, gd ((List.replicate es.length (-1)).set v 0) a = if a = v then 0 else -1 := fun a => by
    rw [gd_set (by simpa using hv)];split
    · rfl
    · unfold gd
      rw [List.getD_eq_getElem?_getD, List.getElem?_replicate];split <;> rfl
  refine bfs_lab hes f _ _ ⟨by simp, by rw [hg, if_pos rfl], fun b hb => ?_, fun a ha => ?_, List.pairwise_singleton _ _, fun a ha x => ?_, fun a ha => ?_⟩ h3 h2
  · rw [hg] at hb ⊢
    split at hb
    · rename_i e; rw [if_pos e]; exact .inl ⟨rfl, e⟩
    · omega
  · rw [List.mem_singleton] at ha
    subst ha;exact ⟨by omega, by rw [hg, if_pos (by omega)]; omega⟩
  · rw [List.mem_singleton] at ha
    subst ha;rw [hg, hg, if_pos (show (v : Int).toNat = v by omega)];split <;> omega
  · rw [hg] at ha
    split at ha
    · rename_i e; subst e; exact .inl (by simp)
    · omega
inductive Wk (es : List (List (Int × Int))) : Nat → Nat → Nat → Prop
  | nil (a : Nat) : Wk es a a 0
  | snoc {a b c n : Nat} : Wk es a b n → Adj es b c → Wk es a c (n + 1)
theorem Wk.cons {es : List (List (Int × Int))} {a b c n : Nat} (ha : Adj es a b) (h : Wk es b c n) : Wk es a c (n + 1) := by
  induction h with
  | nil => exact (Wk.nil a).snoc ha
  | snoc h1 h2 ih => exact ih.snoc h2
theorem Wk.rev {es : List (List (Int × Int))} (hs : ∀ a b, Adj es a b → Adj es b a) {a b n : Nat} (h : Wk es a b n) : Wk es b a n := by
  induction h with
  | nil => exact .nil _
  | snoc h1 h2 ih => exact .cons (hs _ _ h2) ih
theorem Lab.walk {es : List (List (Int × Int))} {v : Nat} {d : List Int} (h : Lab es v d []) {b n : Nat} (hw : Wk es v b n) : 0 ≤ gd d b ∧ gd d b ≤ n := by
  induction hw with
  | nil => rw [h.root]; omega
  | snoc h1 h2 ih =>
    obtain ⟨k1, k2⟩ := ih;rcases h.fwd _ k1 with h3 | h3
    · cases h3
    · have := h3 _ h2
      omega
theorem Lab.found {es : List (List (Int × Int))} {v : Nat} {d : List Int} (h : Lab es v d []) : ∀ (m b : Nat), gd d b = m → Wk es v b m := by
  intro m;induction m with
  | zero =>
    intro b hb;rcases h.back b (by omega) with ⟨_, rfl⟩ | ⟨a, _, h2, h3⟩
    · exact .nil _
    · omega
  | succ m ih =>
    intro b hb;rcases h.back b (by omega) with ⟨h1, _⟩ | ⟨a, h1, h2, h3⟩
    · omega
    · exact (ih a (by omega)).snoc h1
theorem netP.adj_symm {n : Net} (h : netP n) (a b : Nat) (hab : Adj n.es a b) : Adj n.es b a := by obtain ⟨l, hl, e, he, rfl⟩ := hab;obtain ⟨i, hi⟩ := List.mem_iff_getElem?.1 he;obtain ⟨h0, h1, m, hm, hm2⟩ := (h.2.2.2.2 a l hl).2 i e hi;exact ⟨m, hm, _, List.mem_of_getElem? hm2, by simp⟩
theorem far_symm {n : Net} (h : netP n) {v w : Nat} (hv : v < n.es.length) (hw : w < n.es.length) : gd (far n.es v) w = gd (far n.es w) v := by
  have lv := far_lab h.endsIn hv;have lw := far_lab h.endsIn hw;have key : ∀ {v w : Nat}, Lab n.es v (far n.es v) [] → Lab n.es w (far n.es w) [] → 0 ≤ gd (far n.es v) w → 0 ≤ gd (far n.es w) v ∧ gd (far n.es w) v ≤ gd (far n.es v) w := by intro v w lv lw h0;have hk := lv.found (gd (far n.es v) w).toNat w (by omega);have := lw.walk (hk.rev h.adj_symm);omega
  have m1 : ∀ {v w : Nat}, v < n.es.length → w < n.es.length → -1 ≤ gd (far n.es v) w := by
    intro v w hv hw;obtain ⟨k1, k2⟩ := far_ok h.endsIn hv;have hwl : w < (far n.es v).length := by omega
    have := k2 _ (List.getElem_mem hwl);unfold gd;rw [List.getD_eq_getElem?_getD, List.getElem?_eq_getElem hwl];simp only [Option.getD_some];omega
  have := m1 hv hw;have := m1 hw hv;rcases Int.lt_or_le (gd (far n.es v) w) 0 with h1 | h1
  · rcases Int.lt_or_le (gd (far n.es w) v) 0 with h2 | h2
    · omega
    · have := key lw lv h2; omega
  · have k1 := key lv lw h1
    have := key lw lv k1.1;omega
def rootsL (ins : List Int) : List Int := ((List.range ins.length).filter fun v => ins.getD v 0 == 1).map fun (v : Nat) => (v : Int)
theorem roots_mem {ins : List Int} {z : Int} (h : z ∈ rootsL ins) : 0 ≤ z ∧ z.toNat < ins.length := by unfold rootsL at h;obtain ⟨v, hv, rfl⟩ := List.mem_map.1 h;have := List.mem_range.1 (List.mem_filter.1 hv).1;omega
def leastD (d : List Int) (set : List Int) : Int := set.foldl (fun out w => if 0 ≤ gd d w.toNat ∧ (out < 0 ∨ gd d w.toNat < out) then gd d w.toNat else out) (-1)
def farV (n : Net) (v : Nat) : Int := if leastD (far n.es v) (rootsL n.ins) < 0 then n.es.length else leastD (far n.es v) (rootsL n.ins)
def farT (n : Net) : List Int := (List.range n.es.length).map (farV n)
def rowMin (out d : List Int) : List Int := List.zipWith (fun a x => if 0 ≤ x then min a x else a) out d
def treeL (n : Net) (roots : List Int) : List Int := roots.foldl (fun out r => rowMin out (far n.es r.toNat)) (List.replicate n.es.length (n.es.length : Int))
theorem rowMin_len (out d : List Int) : (rowMin out d).length = min out.length d.length := by unfold rowMin; rw [List.length_zipWith]
theorem rowMin_at {out d : List Int} {v : Nat} {a : Int} (h : out[v]? = some a) (hd : v < d.length) : (rowMin out d)[v]? = some (if 0 ≤ gd d v then min a (gd d v) else a) := by unfold rowMin gd;rw [List.getElem?_zipWith, h, List.getD_eq_getElem?_getD, List.getElem?_eq_getElem hd];rfl
theorem tree_at {n : Net} (h : netP n) {v : Nat} (hv : v < n.es.length) : ∀ (roots : List Int), (∀ r ∈ roots, 0 ≤ r ∧ r.toNat < n.es.length) → (treeL n roots)[v]? = some (if leastD (far n.es v) roots < 0 then (n.es.length : Int) else leastD (far n.es v) roots) := by
 suffices hs : ∀ (roots : List Int), (∀ r ∈ roots, 0 ≤ r ∧ r.toNat < n.es.length) → ∀ (out : List Int) (p : Int), out.length = n.es.length → (out[v]? = some (if p < 0 then (n.es.length : Int) else p)) → (p < n.es.length) →
   (roots.foldl (fun out r => rowMin out (far n.es r.toNat)) out)[v]? = some (if roots.foldl (fun out w => if 0 ≤ gd (far n.es v) w.toNat ∧ (out < 0 ∨ gd (far n.es v) w.toNat < out) then gd (far n.es v) w.toNat else out) p < 0 then (n.es.length : Int) else roots.foldl (fun out w => if 0 ≤ gd (far n.es v) w.toNat ∧ (out < 0 ∨ gd (far n.es v) w.toNat < out) then gd (far n.es v) w.toNat else out) p) by
  intro roots hr;exact hs roots hr _ (-1) (by simp) (by rw [List.getElem?_replicate, if_pos hv]; rfl) (by omega)
 intro roots;induction roots with
 | nil => intro _ out p _ h2 _; exact h2
 | cons r t ih =>
  intro hr out p h1 h2 h3;obtain ⟨r0, r1⟩ := hr r (by simp);obtain ⟨k1, k2⟩ := far_ok h.endsIn r1;have hsy := far_symm h hv r1;have hlt : gd (far n.es v) r.toNat < n.es.length := by
   rw [hsy];have hvl : v < (far n.es r.toNat).length := by omega
   have := k2 _ (List.getElem_mem hvl);unfold gd;rw [List.getD_eq_getElem?_getD, List.getElem?_eq_getElem hvl];simp only [Option.getD_some];omega
  simp only [List.foldl_cons];refine ih (fun r' hr' => hr r' (by simp [hr'])) _ _ (by rw [rowMin_len]; omega) ?_ ?_
  · rw [rowMin_at h2 (by omega), ← hsy];generalize gd (far n.es v) r.toNat = f at *;congr 1;split <;> split <;> (try split) <;> (try split) <;> omega
  ·
   split
   · exact hlt
   · exact h3
theorem tree_far {n : Net} (h : netP n) : treeL n (rootsL n.ins) = farT n := by
  have hin := h.2.2.1;have hr : ∀ r ∈ rootsL n.ins, 0 ≤ r ∧ r.toNat < n.es.length := fun r hr => by have := roots_mem hr; omega
  refine List.ext_getElem? fun v => ?_
  by_cases hv : v < n.es.length
  · rw [tree_at h hv _ hr]
    unfold farT farV;rw [List.getElem?_map, List.getElem?_range hv];rfl
  · have h1 : (treeL n (rootsL n.ins)).length ≤ n.es.length := by
      unfold treeL
      suffices hs : ∀ (roots out : List Int), out.length ≤ n.es.length → (roots.foldl (fun out r => rowMin out (far n.es r.toNat)) out).length ≤ n.es.length from hs _ _ (by simp)
      intro roots;induction roots with
      | nil => intro out h; exact h
      | cons r t ih => intro out h; exact ih _ (by rw [rowMin_len]; omega)
    rw [List.getElem?_eq_none (by omega), List.getElem?_eq_none (by unfold farT; simp; omega)]
end Go.Proofs.YtdghoienjegffaaGreat
namespace Go.Proofs.YtdghoienjegffaaGreat
open Go.RowKit
set_option linter.all false
def JoinP (n : Net) (R : Nat → Nat → Prop) : Prop := ∃ (v : Nat) (l : List (Int × Int)) (e : Int × Int), n.es[v]? = some l ∧ e ∈ l ∧ R v e.1.toNat
theorem EdAll.join {n : Net} {E : List Edge} (h : EdAll n E) (hp : netP n) (R : Nat → Nat → Prop) (hR : ∀ a b, R a b → R b a) : (∃ x ∈ E, R x.1.toNat x.2.2.1.toNat) ↔ JoinP n R := by
  obtain ⟨k, hk, h1, h2, -⟩ := h;have key : ∀ (v : Nat) (l : List (Int × Int)) (i : Nat) (e : Int × Int), n.es[v]? = some l → l[i]? = some e → edOk v i e → ((v : Int), (i : Int), e.1, e.2) ∈ E := fun v l i e hv hi ho =>
    h2 v l i e (.inl (by have := (List.getElem?_eq_some_iff.1 hv).1; omega)) hv hi ho
  constructor
  · rintro ⟨x, hx, hr⟩
    obtain ⟨v, l, i, e, hv, hi, -, rfl⟩ := h1 x hx;exact ⟨v, l, e, hv, List.mem_of_getElem? hi, by simpa using hr⟩
  · rintro ⟨v, l, e, hv, he, hr⟩
    obtain ⟨i, hi⟩ := List.mem_iff_getElem?.1 he;by_cases ho : edOk v i e
    · exact ⟨_, key v l i e hv hi ho, by simpa using hr⟩
    · obtain ⟨h0, h1', m, hm, hm2⟩ := (hp.2.2.2.2 v l hv).2 i e hi
      refine ⟨_, key e.1.toNat m e.2.toNat _ hm hm2 ?_, by simp only [Int.toNat_natCast]; exact hR _ _ hr⟩;unfold edOk at ho ⊢;simp only;omega
def clashP (n : Net) (ss : List Int) : Prop := JoinP n fun a b => ss.getD a 0 = ss.getD b 0
def bothP (n : Net) (ss : List Int) (x : Int) : Prop := JoinP n fun a b => ss.getD a 0 = x ∧ ss.getD b 0 = x
def mutP (n : Net) (ss : List Int) : Prop := ∀ (v : Nat) (s : Int), ss[v]? = some s → 0 < s → pointsTo ss ((n.es.getD v []).getD (s - 1).toNat (0, 0)) = true
def maxP (n : Net) (ss : List Int) : Prop := ∀ (v : Nat) (l : List (Int × Int)) (s : Int), n.es[v]? = some l → ss[v]? = some s → s = 1 ∨ ∃ e ∈ l, ss.getD e.1.toNat 0 = 1
def legP (n : Net) (r : Int) (ss : List Int) : Prop :=
  if r = 1 then ss = farT n else if r = 2 then ¬ clashP n ss else if r = 5 then (enS n r ss).length = 1 else enS n r ss = [] ∧ (r = 4 → mutP n ss)
noncomputable def legB (n : Net) (r : Int) (ss : List Int) : Bool := propB (legP n r ss)
theorem enS_nil {n : Net} {r : Int} {ss : List Int} : enS n r ss = [] ↔ ∀ v, v < ss.length → nextS n r ss v = ss.getD v 0 := by
  unfold enS enN;rw [List.map_eq_nil_iff, List.filter_eq_nil_iff];constructor
  · intro h v hv
    have := h v (List.mem_range.2 hv);simpa using this
  · intro h v hv
    have := h v (List.mem_range.1 hv);simpa using this
theorem nearSt_mem {l : List (Int × Int)} {ss : List Int} {x : Int} : x ∈ nearSt l ss ↔ ∃ e ∈ l, ss.getD e.1.toNat 0 = x := by unfold nearSt; simp
theorem getDa {α : Type} {l : List α} {v : Nat} {s d : α} (h : l[v]? = some s) : l.getD v d = s := by rw [List.getD_eq_getElem?_getD, h]; rfl
theorem getD_at {ss : List Int} {v : Nat} {s : Int} (h : ss[v]? = some s) : ss.getD v 0 = s := by rw [List.getD_eq_getElem?_getD, h]; rfl
theorem set_legal {n : Net} {ss : List Int} (hp : netP n) (hS : Sts (cnts n 3) ss) : enS n 3 ss = [] ↔ maxP n ss ∧ ¬ bothP n ss 1 := by
 have hb := Sts.stB hp hS;have hc : ∀ x ∈ ss, x = 0 ∨ x = 1 := fun x hx => by obtain ⟨v, hv⟩ := List.mem_iff_getElem?.1 hx;have hvl := (List.getElem?_eq_some_iff.1 hv).1;have := hS.2 v 2 x (by unfold cnts; rw [if_neg (by omega), if_pos rfl, List.getElem?_replicate, if_pos (by rw [← hb.1]; exact hvl)]) hv;omega
 rw [enS_nil];have hnx : ∀ (v : Nat) (l : List (Int × Int)) (s : Int), n.es[v]? = some l → ss[v]? = some s → nextS n 3 ss v = if (1 : Int) ∈ nearSt l ss then 0 else 1 := fun v l s hl hs => by rw [nextS_at hl hs]; unfold nextAt;rw [if_neg (by omega), if_neg (by omega), if_pos rfl]
 constructor
 ·
  intro h;refine ⟨fun v l s hl hs => ?_, ?_⟩
  ·
   have h1 := h v (List.getElem?_eq_some_iff.1 hs).1;rw [hnx v l s hl hs, getD_at hs] at h1;by_cases hm : (1 : Int) ∈ nearSt l ss
   · exact .inr (nearSt_mem.1 hm)
   · rw [if_neg hm] at h1; exact .inl h1.symm
  ·
   rintro ⟨v, l, e, hl, he, h1, h2⟩;have hvl : v < ss.length := by rw [hb.1]; exact (List.getElem?_eq_some_iff.1 hl).1
   have hs : ss[v]? = some (ss.getD v 0) := by rw [List.getD_eq_getElem?_getD, List.getElem?_eq_getElem hvl]; rfl
   have h3 := h v hvl;rw [hnx v l _ hl hs, if_pos (nearSt_mem.2 ⟨e, he, h2⟩)] at h3;omega
 ·
  rintro ⟨hm, hn⟩ v hv;obtain ⟨s, hs⟩ : ∃ s, ss[v]? = some s := ⟨_, List.getElem?_eq_getElem hv⟩
  obtain ⟨l, hl⟩ : ∃ l, n.es[v]? = some l := ⟨_, List.getElem?_eq_getElem (by rw [← hb.1]; exact hv)⟩
  rw [hnx v l s hl hs, getD_at hs];rcases hc s (List.mem_of_getElem? hs) with rfl | rfl
  ·
   rcases hm v l 0 hl hs with h1 | h1
   · omega
   · rw [if_pos (nearSt_mem.2 h1)]
  · rw [if_neg fun h1 => ?_];obtain ⟨e, he, h2⟩ := nearSt_mem.1 h1;exact hn ⟨v, l, e, hl, he, getD_at hs, h2⟩
theorem portI_none {α : Type} {p : α → Bool} {l : List α} (h : ∀ e ∈ l, p e = false) : portI p l = -1 := by unfold portI;rw [List.findIdx?_eq_none_iff.2 h]
theorem portI_some {α : Type} {p : α → Bool} {l : List α} (h : ∃ e ∈ l, p e = true) : 0 ≤ portI p l := by
  unfold portI;obtain ⟨e, he, hp⟩ := h;cases hq : l.findIdx? p with
  | none => rw [List.findIdx?_eq_none_iff.1 hq e he] at hp; cases hp
  | some i => simp
theorem match_legal {n : Net} {ss : List Int} (hp : netP n) (hS : Sts (cnts n 4) ss) (hm : mutP n ss) : enS n 4 ss = [] ↔ ¬ bothP n ss 0 := by
 have hb := Sts.stB hp hS;rw [enS_nil];have hat : ∀ v, v < ss.length → ∃ s l, ss[v]? = some s ∧ n.es[v]? = some l := fun v hv => ⟨_, _, List.getElem?_eq_getElem hv, List.getElem?_eq_getElem (by rw [← hb.1]; exact hv)⟩
 have hnx : ∀ (v : Nat) (l : List (Int × Int)) (s : Int), n.es[v]? = some l → ss[v]? = some s → nextS n 4 ss v = matchS l ss s := fun v l s hl hs => by rw [nextS_at hl hs]; unfold nextAt;rw [if_neg (by omega), if_neg (by omega), if_neg (by omega), if_pos rfl]
 have hpos : ∀ (v : Nat) (l : List (Int × Int)) (s : Int), n.es[v]? = some l → ss[v]? = some s → 0 < s → matchS l ss s = s := fun v l s hl hs h0 => by have h1 := hm v s hs h0;rw [getDa hl] at h1;unfold matchS;rw [if_pos h0, if_pos];rw [h1, Bool.or_true]
 have hzero : ∀ (v : Nat) (l : List (Int × Int)), n.es[v]? = some l → ss[v]? = some 0 → portI (pointsTo ss) l = -1 := fun v l hl hs => portI_none fun e he => by
  rcases Bool.eq_false_or_eq_true (pointsTo ss e) with h1 | h1
  ·
   exfalso;obtain ⟨i, hi⟩ := List.mem_iff_getElem?.1 he;obtain ⟨h0, h2, m, hm1, hm2⟩ := (hp.2.2.2.2 v l hl).2 i e hi;have hul : e.1.toNat < ss.length := by rw [hb.1]; exact (List.getElem?_eq_some_iff.1 hm1).1
   obtain ⟨s, m', hs1, hm1'⟩ := hat _ hul;obtain rfl := Option.some.inj (hm1.symm.trans hm1');unfold pointsTo at h1;rw [getD_at hs1] at h1;have h1 : s = e.2 + 1 := by simpa using h1
   have h3 := hm e.1.toNat s hs1 (by omega);rw [getDa hm1, show (s - 1).toNat = e.2.toNat by omega, getDa hm2] at h3;unfold pointsTo at h3;simp only [Int.toNat_natCast] at h3;rw [getD_at hs] at h3;have h3 : (0 : Int) = (i : Int) + 1 := by simpa using h3
   omega
  · exact h1
 constructor
 ·
  rintro h ⟨v, l, e, hl, he, h1, h2⟩;have hvl : v < ss.length := by rw [hb.1]; exact (List.getElem?_eq_some_iff.1 hl).1
  obtain ⟨s, l', hs, hl'⟩ := hat v hvl;rw [getD_at hs] at h1;subst h1;have h3 := h v hvl;rw [hnx v l _ hl hs, getD_at hs] at h3;unfold matchS at h3;rw [if_neg (by omega), hzero v l hl hs, if_neg (by omega)] at h3;have := portI_some (p := isFree ss) (l := l) ⟨e, he, by unfold isFree; simpa using h2⟩;omega
 ·
  intro h v hv;obtain ⟨s, l, hs, hl⟩ := hat v hv;rw [hnx v l s hl hs, getD_at hs];have h0 := (hb.2 s (List.mem_of_getElem? hs)).1;by_cases hs0 : 0 < s
  · exact hpos v l s hl hs hs0
  ·
   obtain rfl : s = 0 := by omega
   unfold matchS;rw [if_neg (by omega), hzero v l hl hs, if_neg (by omega), portI_none fun e he => ?_]
   · rfl
   ·
    rcases Bool.eq_false_or_eq_true (isFree ss e) with h1 | h1
    · exact absurd ⟨v, l, e, hl, he, getD_at hs, by unfold isFree at h1; simpa using h1⟩ h
    · exact h1
end Go.Proofs.YtdghoienjegffaaGreat
namespace Go.Proofs.YtdghoienjegffaaGreat
open Go.RowKit
set_option linter.all false
theorem own_put {w : World} {base n cap g : Nat} {vs : List Value} (h : w.ownsRow base 3 1 (.slice (some ⟨g, 0, none⟩) n cap) n vs) (k : Nat) (x : Value) : (w.setCell ⟨g, k, none⟩ x).ownsRow base 3 1 (.slice (some ⟨g, 0, none⟩) n cap) n (vs.set k x) := by
  obtain ⟨h1, h2⟩ := h;refine ⟨by rw [List.length_set]; exact h1, .inr ?_⟩;rcases h2 with ⟨e, _⟩ | ⟨g', cap', cur, e, hb, hg, r1, r2, r3, r4⟩
  · cases e
  · cases e
    refine ⟨g, cap, cur.setIfInBounds k x, rfl, hb, heap_set_same hg x, r1, r2, by rw [Array.size_setIfInBounds]; exact r3, ?_⟩;rw [Array.toList_setIfInBounds, List.take_set, r4]
theorem own_slot {w : World} {base n cap g : Nat} {vs : List Value} (h : w.ownsRow base 3 1 (.slice (some ⟨g, 0, none⟩) n cap) n vs) (k : Nat) (hk : k < n) : (∃ u, w.cell? ⟨g, k, none⟩ = some u) ∧ w.frozen? ⟨g, k, none⟩ = false ∧ base ≤ g ∧ g < w.heap.size := by
  refine ⟨?_, ?_, h.lt g rfl⟩
  · rw [h.cellAt k (by omega)]
    exact ⟨_, List.getElem?_eq_getElem (by rw [h.1]; omega)⟩
  · rcases h.2 with ⟨e, _⟩ | ⟨g', cap', cur, e, hb, hg, r⟩
    · cases e
    · cases e
      exact frozen_of_row _ _ k _ _ hg
noncomputable def enTo (n : Net) (r : Int) (ss : List Int) (j : Nat) : List Int := ((List.range j).filter fun v => decide (nextS n r ss v ≠ ss.getD v 0)).map fun v : Nat => (v : Int)
theorem enTo_succ (n : Net) (r : Int) (ss : List Int) (j : Nat) : enTo n r ss (j + 1) = enTo n r ss j ++ if nextS n r ss j ≠ ss.getD j 0 then [(j : Int)] else [] := by
  unfold enTo;rw [List.range_succ, List.filter_append, List.map_append];congr 1;by_cases h : nextS n r ss j ≠ ss.getD j 0
  · rw [if_pos h, List.filter_cons, decide_eq_true h]; rfl
  · rw [if_neg h, List.filter_cons, decide_eq_false h]; rfl
theorem enTo_len (n : Net) (r : Int) (ss : List Int) (j : Nat) : (enTo n r ss j).length ≤ j := by unfold enTo;rw [List.length_map];exact Nat.le_trans (List.length_filter_le _ _) (by simp)
theorem enTo_I64 {n : Net} {r : Int} {ss : List Int} {j : Nat} (hj : j ≤ 2000000) : ∀ x ∈ enTo n r ss j, I64 x := fun x hx => by unfold enTo at hx;obtain ⟨v, hv, rfl⟩ := List.mem_map.1 hx;have := List.mem_range.1 (List.mem_filter.1 hv).1;unfold I64;omega
def EnRel (n : Net) (r : Int) (ss : List Int) (w : World) (v i : Value) (wr : World) : Prop :=
  ∃ k m : Nat, k ≤ ss.length ∧ i = .int .i64 k ∧ m = (enTo n r ss k).length ∧ wr.ownsRow w.heap.size 3 1 v m ((enTo n r ss k).map intV) ∧ Below w.heap.size w wr
set_option maxRecDepth 100000 in
set_option maxHeartbeats 1000000 in
theorem spec_ssEnabledO (ve vi vn vs : Value) (n : Net) (r : Int) (ss : List Int) (w : World) (h : NetR w w.heap.size ve vi vn n) (ha : askP n r) (hs : IntsR w w.heap.size vs ss) (hS : Sts (cnts n r) ss) :
  Calls Tryz.prog 32 #[.agg #[ve, vi, vn], .int .i64 r, vs] w fun e w' => ∃ u, e = .returned u ∧ (∃ A m c, u = .slice A m c) ∧ IntsR w' w'.heap.size u (enS n r ss) ∧ Below w.heap.size w w' ∧ w'.ownsRow w.heap.size 3 1 u (enS n r ss).length ((enS n r ss).map intV) := by
 have hp := ha.1;have h40 := hp.1.2;have HST := Lib.hid (hS.stB hp);have HA := Lib.hid ha;have HS := Lib.hid hS; clear hS hp ha;have HSS := Lib.hid hs;obtain ⟨As, cs, rfl, -, -, hsc⟩ := hs.open_;have hssl : n.es.length ≤ ss.length ∧ ss.length ≤ n.es.length := by have := HST.out.1; omega
 have HSC := Lib.hid hsc; clear hs hsc;obtain ⟨⟨A0, m0, c0, rfl⟩, ⟨A1, m1, c1, rfl⟩, A2, m2, c2, rfl⟩ := h.slices;obtain ⟨w0, hw0, hB, HD, hz0, HS0⟩ := box3 w (.slice A0 m0 c0) (.slice A1 m1 c1) (.slice A2 m2 c2) 27;have HN0 := Lib.hid h; have HN := Lib.hid (h.up hB); clear h;have HW0 := Lib.hid hw0; clear hw0;obtain ⟨q0, q1, q2, qf⟩ := cells3 HD;have HI0 := Lib.hid ((HSS.out.below hB).more hB.size);go_enter Tryz.func32, Tryz.ntmps32;go_wp2_with fail;rw [← HW0.out];go_loopw [7, 8, 9, 12] (fun v _ _ i wr => EnRel n r ss w0 v i wr) (fun _ _ _ i _ => ss.length - (intOf i).toNat)
 case atStart => exact ⟨0, 0, Nat.zero_le _, rfl, rfl, World.ownsRow_nil _ _ _ _, Below.refl _ _⟩
 case round =>
  obtain ⟨k, m, hk, rfl, hm, hown, hbl⟩ := hrel;have hmk := enTo_len n r ss k;have HM := Lib.hid hm;replace hmk : m ≤ k := by omega
  clear hm;have HO := Lib.hid hown; clear hown;have hzhbl := hbl.size;clear q0 q1 q2 qf;replace HD := bk HD hbl;replace HN := Lib.hid (HN.out.up hbl);replace hB := bl_trans hB hbl;obtain ⟨q0, q1, q2, qf⟩ := cells3 HD;by_cases hlt : k < ss.length
  ·
   obtain ⟨x, hx⟩ : ∃ x, ss[k]? = some x := ⟨_, List.getElem?_eq_getElem hlt⟩
   obtain ⟨l, hl⟩ : ∃ l, n.es[k]? = some l := ⟨_, List.getElem?_eq_getElem (by omega)⟩
   obtain ⟨sd, rfl, hsb, hsx⟩ := HSC.out (by omega);have hcx := (hB.cell (p := sd.add k) (by rw [block_add]; exact hsb)).trans (hsx k x hx);have HQ := Lib.hid (nextS_at (r := r) hl hx);have HG := Lib.hid (show ss.getD k 0 = x by rw [List.getD_eq_getElem?_getD, hx]; rfl);have HII := Lib.hid ((HI0.out.below hbl).more hbl.size);have J := Lib.hid (spec_ssNext _ _ _ _ n r ss k l x wr HN.out HA.out HII.out HS.out hl hx);clear hsx hx hl;generalize nextAt n r ss k l x = q at *;by_cases hq : q = x
   ·
    have kq : (q != x) = false := by simp [hq]
    have HE := Lib.hid (show enTo n r ss (k + 1) = enTo n r ss k by rw [enTo_succ, HQ.out, HG.out, if_neg (by simpa using hq), List.append_nil]);clear hq;go_wp2_with fail;refine J.out.mono ?_;rintro e w3 ⟨rfl, hb3⟩;go_wp2_with fail;go_roundw
    case rel => exact ⟨k + 1, m, by omega, by go_num, by rw [HE.out]; exact HM.out, by rw [HE.out]; exact own_keep4 HO.out hb3.size (fun b _ hb => hb3.block b hb), bl_trans hbl hb3⟩
    case measure => simp [intOf]; omega
   ·
    have kq : (q != x) = true := by simpa using hq
    have HE := Lib.hid (show enTo n r ss (k + 1) = enTo n r ss k ++ [(k : Int)] by rw [enTo_succ, HQ.out, HG.out, if_pos hq]);clear hq;go_wp2_with fail;refine J.out.mono ?_;rintro e w3 ⟨rfl, hb3⟩;have hown3 := own_keep4 HO.out hb3.size (fun b _ hb => hb3.block b hb);have hbl3 := bl_trans hbl hb3;go_wp2_with ((at_builtin; refine wpList_append1 w3 rfl (.tmp 24) (.tmp 26) 25 rfl w0.heap.size 3 _ 8 Tryz.underlying25 intInfo rfl _ _ _ rfl _ rfl rfl hown3 (by unfold maxLen; omega) (by omega) hbl3.size ?_; intro v' w' hown' hbl' hgr' hlt' hob'))
    go_roundw
    case rel => exact ⟨k + 1, m + 1, by omega, by go_num, by rw [HE.out, List.length_append, HM.out]; rfl, by rw [HE.out, List.map_append]; exact hown', hbl3.trans hbl'⟩
    case measure => simp [intOf]; omega
  ·
   have e1 : k = ss.length := by omega
   have hI := own_intsR HO.out (enTo_I64 (by omega));rw [e1] at hI;have HF := Lib.hid (show IntsR wr wr.heap.size u7 (enS n r ss) from hI)
   have HFO := Lib.hid (show wr.ownsRow w.heap.size 3 1 u7 (enS n r ss).length ((enS n r ss).map intV) from by
    have h := HO.out;rw [HM.out, e1] at h
    exact own_lower h (show w.heap.size ≤ w0.heap.size by omega))
   clear hI e1;go_wp2_with fail;go_ret;exact ⟨_, rfl, HF.out.isSlice, HF.out, hB, HFO.out⟩
theorem spec_ssEnabled (ve vi vn vs : Value) (n : Net) (r : Int) (ss : List Int) (w : World) (h : NetR w w.heap.size ve vi vn n) (ha : askP n r) (hs : IntsR w w.heap.size vs ss) (hS : Sts (cnts n r) ss) :
    Calls Tryz.prog 32 #[.agg #[ve, vi, vn], .int .i64 r, vs] w fun e w' => ∃ u, e = .returned u ∧ (∃ A m c, u = .slice A m c) ∧ IntsR w' w'.heap.size u (enS n r ss) ∧ Below w.heap.size w w' :=
  (spec_ssEnabledO ve vi vn vs n r ss w h ha hs hS).mono fun _ _ ⟨u, a, b, c, d, _⟩ => ⟨u, a, b, c, d⟩
def MvRel (n : Net) (r : Int) (ss set : List Int) (g cap : Nat) (w : World) (base : Nat) (i : Value) (wr : World) : Prop :=
  ∃ k : Nat, k ≤ set.length ∧ i = .int .i64 k ∧ wr.ownsRow base 3 1 (.slice (some ⟨g, 0, none⟩) ss.length cap) ss.length ((moveS n r ss (set.take k)).map intV) ∧ Below base w wr
theorem moveS_I64 {n : Net} {r : Int} {ss set : List Int} (ha : askP n r) (hS : Sts (cnts n r) ss) (hset : ∀ v ∈ set, 0 ≤ v ∧ v.toNat < ss.length) : ∀ x ∈ moveS n r ss set, I64 x := fun x hx => by have := ((moveS_sts ha hS set hset).stB ha.1).2 x hx;unfold I64;omega
set_option maxRecDepth 100000 in
set_option maxHeartbeats 1000000 in
theorem spec_ssMove (ve vi vn vs vt : Value) (n : Net) (r : Int) (ss set : List Int) (w : World) (h : NetR w w.heap.size ve vi vn n) (ha : askP n r) (hs : IntsR w w.heap.size vs ss) (hS : Sts (cnts n r) ss)
  (ht : IntsR w w.heap.size vt set) (hset : ∀ v ∈ set, 0 ≤ v ∧ v.toNat < ss.length) (htl : set.length ≤ 2000000) :
  Calls Tryz.prog 33 #[.agg #[ve, vi, vn], .int .i64 r, vs, vt] w fun e w' => ∃ u, e = .returned u ∧ (∃ A m c, u = .slice A m c) ∧ IntsR w' w'.heap.size u (moveS n r ss set) ∧ Below w.heap.size w w' := by
 have hp := ha.1;have h40 := hp.1;have HST := Lib.hid (hS.stB hp);have H64 := Lib.hid (moveS_I64 ha hS hset);have HA := Lib.hid ha;have HS := Lib.hid hS; clear hS hp ha;have HSS := Lib.hid hs;have HTT := Lib.hid ht;obtain ⟨As, cs, rfl, -, -, -⟩ := hs.open_;obtain ⟨At, ct, rfl, -, hct, htc⟩ := ht.open_;unfold maxLen at hct;have hssl : n.es.length ≤ ss.length ∧ ss.length ≤ n.es.length := by have := HST.out.1; omega
 have HTC := Lib.hid htc; clear hs ht htc;have HSET := Lib.hid hset; clear hset;obtain ⟨⟨A0, m0, c0, rfl⟩, ⟨A1, m1, c1, rfl⟩, A2, m2, c2, rfl⟩ := h.slices;obtain ⟨w0, hw0, hB, HD, hz0, HS0⟩ := box3 w (.slice A0 m0 c0) (.slice A1 m1 c1) (.slice A2 m2 c2) 27;have HN0 := Lib.hid h; have HN := Lib.hid (h.up hB); clear h;have HW0 := Lib.hid hw0; clear hw0;obtain ⟨q0, q1, q2, qf⟩ := cells3 HD;have HI0 := Lib.hid ((HSS.out.below hB).more hB.size);go_enter Tryz.func33, Tryz.ntmps33;go_wp2_with fail;rw [← HW0.out];refine (spec_l1Own _ ss w0 HI0.out (by omega)).mono ?_;rintro e w1 ⟨v, rfl, hown, hb1⟩;obtain ⟨g, cap, rfl⟩ : ∃ g cap, v = .slice (some ⟨g, 0, none⟩) ss.length cap := by
  rcases hown.2 with ⟨_, e0⟩ | ⟨g, cap, cur, e, _⟩
  · omega
  · exact ⟨g, cap, e⟩
 have HO := Lib.hid hown; clear hown;replace HI0 := Lib.hid ((HI0.out.below hb1).more hb1.size);have hb01 := hb1;have hzhb1 := hb1.size;clear q0 q1 q2 qf;replace HD := bk HD hb1;replace HN := Lib.hid (HN.out.up hb1);replace hB := bl_trans hB hb1;obtain ⟨q0, q1, q2, qf⟩ := cells3 HD;go_wp2_with fail;go_loopw [16, 11] (fun i _ wr => MvRel n r ss set g cap w1 w0.heap.size i wr) (fun i _ _ => set.length - (intOf i).toNat)
 case atStart => exact ⟨0, Nat.zero_le _, rfl, HO.out, Below.refl _ _⟩
 case round =>
  obtain ⟨k, hk, rfl, hown, hbl⟩ := hrel;have HO2 := Lib.hid hown; clear hown;have hw01 := hb01.size;have hB3 := hB.trans (hbl.mono (by omega));have hz3 := hB3.size;have hzr := hbl.size;have HN3 := Lib.hid (HN0.out.up hB3);have HI3 := Lib.hid ((HSS.out.below hB3).more hB3.size);clear q0 q1 q2 qf;have HD3 := bk HD hbl (by omega);obtain ⟨q0, q1, q2, qf⟩ := cells3 HD3;by_cases hlt : k < set.length
  ·
   obtain ⟨a, ha⟩ : ∃ a, set[k]? = some a := ⟨_, List.getElem?_eq_getElem hlt⟩
   obtain ⟨a0, al⟩ := HSET.out a (List.mem_of_getElem? ha);obtain ⟨u, rfl⟩ : ∃ u : Nat, a = (u : Int) := ⟨a.toNat, by omega⟩
   have hul : u < ss.length := by simpa using al
   obtain ⟨x, hx⟩ : ∃ x, ss[u]? = some x := ⟨_, List.getElem?_eq_getElem hul⟩
   obtain ⟨l, hl⟩ : ∃ l, n.es[u]? = some l := ⟨_, List.getElem?_eq_getElem (by omega)⟩
   obtain ⟨td, rfl, htb, htx⟩ := HTC.out (by omega);have hct := (hB3.cell (p := td.add k) (by rw [block_add]; exact htb)).trans (htx k _ ha)
   have HE := Lib.hid (show moveS n r ss (set.take (k + 1)) = (moveS n r ss (set.take k)).set u (nextAt n r ss u l x) by
    obtain ⟨hk', e⟩ := List.getElem?_eq_some_iff.1 ha
    rw [List.take_succ_eq_append_getElem hk', e, moveS_snoc, Int.toNat_natCast, nextS_at hl hx])
   have J := Lib.hid (spec_ssNext _ _ _ _ n r ss u l x wr HN3.out HA.out HI3.out HS.out hl hx);clear htx ha hx hl a0 al;generalize nextAt n r ss u l x = q at *;generalize moveS n r ss (set.take k) = M at *;go_wp2_with fail;refine J.out.mono ?_;rintro e w4 ⟨rfl, hb4⟩;have hown4 := own_keep4 HO2.out hb4.size (fun b _ hb => hb4.block b hb);obtain ⟨⟨u0, hc0⟩, hf0, hbg, hgl⟩ := own_slot hown4 u hul;have hb04 := hbl.trans (hb4.mono (by omega));go_wp2_with fail;go_roundw
   case rel => exact ⟨k + 1, by omega, by go_num, by rw [HE.out, List.map_set]; exact own_put hown4 u _, hb04.setCell (p := ⟨g, u, none⟩) hbg _⟩
   case measure => simp [intOf]; omega
  · have e1 : set.take k = set := List.take_of_length_le (by omega);have hfin := HO2.out;rw [e1] at hfin;have hI := own_intsR hfin H64.out;have HF := Lib.hid hI; clear hI hfin e1;go_wp2_with fail;go_ret;exact ⟨_, rfl, HF.out.isSlice, HF.out, hB3⟩
end Go.Proofs.YtdghoienjegffaaGreat
