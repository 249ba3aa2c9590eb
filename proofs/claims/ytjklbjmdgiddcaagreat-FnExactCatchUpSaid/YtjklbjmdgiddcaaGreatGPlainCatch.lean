/-
  Nodes that catch up: what both sides do, and that it ends: the plain law. No program in sight, no condition.
-/
import Derived.Test.YtjklbjmdgiddcaaGreatGPlainDoG
namespace Go.Proofs.YtjklbjmdgiddcaaGreat
set_option linter.all false
noncomputable def ctA (m : Mach) (n : Net) (s : Asy × Nat) (a : Acts) : Asy × Nat := (playX m n s.1 a, s.2 + if mayB n s.1 a = true then 1 else 0)
noncomputable def dropN (m : Mach) (n : Net) (v i : Nat) : Nat → Asy × Nat → Asy × Nat
  | 0, s => s
  | k + 1, s => ctA m n (dropN m n v i k s) ⟨3, v, i, 0⟩
noncomputable def dropP (m : Mach) (n : Net) (x : Asy) (v : Nat) : Nat → Asy × Nat → Asy × Nat
  | 0, s => s
  | j + 1, s => dropN m n v j (lettersAt x v j).length (dropP m n x v j s)
noncomputable def dropV (m : Mach) (n : Net) (x : Asy) : Nat → Asy × Nat → Asy × Nat
  | 0, s => s
  | v + 1, s => dropP m n x v (portsAt x v).length (dropV m n x v s)
def endAt (n : Net) (v i : Nat) : Int × Int := (n.es.getD v []).getD i (0, 0)
def backA (n : Net) (x : Asy) (v i : Nat) : Int := x.rounds.getD (endAt n v i).1.toNat 0 - x.rounds.getD v 0
noncomputable def fillA (m : Mach) (n : Net) (v i : Nat) (s : Asy × Nat) : Asy × Nat :=
  if (slotsAt s.1 v).getD i 0 = -1 ∧ 0 ≤ backA n s.1 v i ∧ backA n s.1 v i ≤ 1 then
    if mayB n s.1 ⟨1, (endAt n v i).1, (endAt n v i).2, backA n s.1 v i⟩ = true then
      ctA m n (ctA m n s ⟨1, (endAt n v i).1, (endAt n v i).2, backA n s.1 v i⟩) ⟨2, v, i, ((lettersAt (ctA m n s ⟨1, (endAt n v i).1, (endAt n v i).2, backA n s.1 v i⟩).1 v i).length : Int) - 1⟩
    else s
  else s
noncomputable def fillP (m : Mach) (n : Net) (v : Nat) : Nat → Asy × Nat → Asy × Nat
  | 0, s => s
  | j + 1, s => fillA m n v j (fillP m n v j s)
noncomputable def nodeA (m : Mach) (n : Net) (most : Int) (v : Nat) (s : Asy × Nat) : Asy × Nat :=
  if most ≤ s.1.rounds.getD v 0 then s else ctA m n (fillP m n v (n.es.getD v []).length s) ⟨5, v, 0, 0⟩
noncomputable def passA (m : Mach) (n : Net) (most : Int) : Nat → Asy × Nat → Asy × Nat
  | 0, s => s
  | v + 1, s => nodeA m n most v (passA m n most v s)
noncomputable def passK (m : Mach) (n : Net) (most : Int) : Nat → Asy × Nat → Asy × Nat
  | 0, s => s
  | k + 1, s => passA m n most n.es.length (passK m n most k s)
/-! ### what is still to do -/
def muV (n : Net) (y : Asy) (v : Nat) : Nat := (40 - y.rounds.getD v 0).toNat * ((n.es.getD v []).length + 1) + (slotsAt y v).count (-1)
def muA (n : Net) (y : Asy) : Nat := ((List.range n.es.length).map (muV n y)).sum
theorem sum_one (f g : Nat → Nat) (v : Nat) (h : ∀ k, k ≠ v → g k = f k) : ∀ N : Nat, v < N → ((List.range N).map g).sum + f v = ((List.range N).map f).sum + g v
  | 0, hv => by omega
  | N + 1, hv => by
    rw [List.range_succ, List.map_append, List.map_append, List.sum_append, List.sum_append];simp only [List.map_cons, List.map_nil, List.sum_cons, List.sum_nil, Nat.add_zero];by_cases e : v = N
    · subst e
      have : ∀ M, M ≤ v → ((List.range M).map g).sum = ((List.range M).map f).sum := fun M hM => by
        congr 1;refine List.map_congr_left fun k hk => h k ?_
        have := List.mem_range.1 hk;omega
      rw [this v (Nat.le_refl _)];omega
    · have := sum_one f g v h N (by omega)
      rw [h N (fun e' => e e'.symm)];omega
def Adv (n : Net) (s t : Asy × Nat) : Prop := t = s ∨ (s.2 < t.2 ∧ muA n t.1 < muA n s.1 ∧ t.2 + 2 * muA n t.1 ≤ s.2 + 2 * muA n s.1)
theorem Adv.refl (n : Net) (s : Asy × Nat) : Adv n s s := .inl rfl
theorem Adv.trans {n : Net} {s t u : Asy × Nat} (h : Adv n s t) (k : Adv n t u) : Adv n s u := by
  rcases h with rfl | ⟨h1, h2, h3⟩
  · exact k
  · rcases k with rfl | ⟨k1, k2, k3⟩
    · exact .inr ⟨h1, h2, h3⟩
    · exact .inr ⟨by omega, by omega, by omega⟩
theorem Adv.le {n : Net} {s t : Asy × Nat} (h : Adv n s t) : s.2 ≤ t.2 ∧ t.2 + 2 * muA n t.1 ≤ s.2 + 2 * muA n s.1 := by rcases h with rfl | ⟨h1, h2, h3⟩ <;> omega
theorem Adv.eq {n : Net} {s t : Asy × Nat} (h : Adv n s t) (he : t.2 = s.2) : t = s := by
  rcases h with h | ⟨h1, h2, h3⟩
  · exact h
  · omega
section
variable {m : Mach} {n : Net} {x : Asy}
theorem good_ct {s : Asy × Nat} (h : goodP m n s.1) (a : Acts) : goodP m n (ctA m n s a).1 := good_play h a
theorem ct_no {s : Asy × Nat} {a : Acts} (h : mayB n s.1 a = false) : ctA m n s a = s := by unfold ctA playX;rw [if_neg (by rw [h]; simp), if_neg (by rw [h]; simp)];rfl
theorem ct_yes {s : Asy × Nat} {a : Acts} (h : mayB n s.1 a = true) : ctA m n s a = (doA m n s.1 a, s.2 + 1) := by unfold ctA playX;rw [if_pos h, if_pos h]
theorem good_fillA {s : Asy × Nat} (h : goodP m n s.1) (v i : Nat) : goodP m n (fillA m n v i s).1 := by
  unfold fillA;split
  · split
    · exact good_ct (good_ct h _) _
    · exact h
  · exact h
theorem good_fillP {s : Asy × Nat} (h : goodP m n s.1) (v : Nat) : ∀ j, goodP m n (fillP m n v j s).1
  | 0 => h
  | j + 1 => good_fillA (good_fillP h v j) v j
theorem good_nodeA {s : Asy × Nat} (h : goodP m n s.1) (most : Int) (v : Nat) : goodP m n (nodeA m n most v s).1 := by
  unfold nodeA;split
  · exact h
  · exact good_ct (good_fillP h v _) _
theorem good_passA {s : Asy × Nat} (h : goodP m n s.1) (most : Int) : ∀ v, goodP m n (passA m n most v s).1
  | 0 => h
  | v + 1 => good_nodeA (good_passA h most v) most v
theorem good_passK {s : Asy × Nat} (h : goodP m n s.1) (most : Int) : ∀ k, goodP m n (passK m n most k s).1
  | 0 => h
  | k + 1 => good_passA (good_passK h most k) most _
theorem good_dropN {s : Asy × Nat} (h : goodP m n s.1) (v i : Nat) : ∀ k, goodP m n (dropN m n v i k s).1
  | 0 => h
  | k + 1 => good_ct (good_dropN h v i k) _
theorem good_dropP {s : Asy × Nat} (h : goodP m n s.1) (x : Asy) (v : Nat) : ∀ j, goodP m n (dropP m n x v j s).1
  | 0 => h
  | j + 1 => good_dropN (good_dropP h x v j) v j _
theorem good_dropV {s : Asy × Nat} (h : goodP m n s.1) (x : Asy) : ∀ v, goodP m n (dropV m n x v s).1
  | 0 => h
  | v + 1 => good_dropP (good_dropV h x v) x v _
theorem slots_set {y : Asy} {v k : Nat} {s' : List Int} {y' : Asy} (hy : y'.slots = y.slots.set v s') (hk : k ≠ v) : slotsAt y' k = slotsAt y k := by unfold slotsAt;rw [hy, aG, aG, List.getElem?_set_ne (fun e => hk e.symm)]
theorem slots_new {y : Asy} {v : Nat} {s' : List Int} {y' : Asy} (hy : y'.slots = y.slots.set v s') (hv : v < y.slots.length) : slotsAt y' v = s' := by unfold slotsAt;rw [hy, aG, List.getElem?_set_self hv];rfl
theorem count_set {l : List Int} {i : Nat} {y : Int} (h : l.getD i 0 = -1) (hy : y ≠ -1) : (l.set i y).count (-1) + 1 = l.count (-1) := by
  induction l generalizing i with
  | nil => simp at h
  | cons a l ih =>
    cases i with
    | zero =>
      obtain rfl : a = -1 := by simpa using h
      rw [List.set_cons_zero, List.count_cons_self, List.count_cons_of_ne hy]
    | succ i =>
      have := ih (i := i) (by simpa using h);rw [List.set_cons_succ, List.count_cons, List.count_cons];omega
theorem adv_step {s : Asy × Nat} (h : goodP m n s.1) {v : Nat} (hv : v < n.es.length) : Adv n s (ctA m n s ⟨5, v, 0, 0⟩) := by
 cases hm : mayB n s.1 ⟨5, v, 0, 0⟩ with
 | false => rw [ct_no hm]; exact .refl _ _
 | true =>
  rw [ct_yes hm, doA_step];obtain ⟨l, sl, f, r, hat⟩ := at_of h.2 hv;rw [may_step hat] at hm;simp only [Bool.and_eq_true, decide_eq_true_eq, Bool.not_eq_true', List.contains_eq_mem, decide_eq_false_iff_not, true_and] at hm;obtain ⟨hr, hno⟩ := hm;have hr0 := hat.r0;have hvs : v < s.1.slots.length := (aB.1 hat.hs).1;have hvr : v < s.1.rounds.length := (aB.1 hat.hr).1;have er : s.1.rounds.getD v 0 = r := by rw [aG, hat.hr]; rfl
  have el : n.es.getD v [] = l := by rw [aG, hat.hl]; rfl
  have esl : slotsAt s.1 v = sl := slotsAt_eq hat.hs
  have hs := sum_one (muV n s.1) (muV n (stepA m s.1 v)) v (fun k hk => by
   unfold muV;have e1 : slotsAt (stepA m s.1 v) k = slotsAt s.1 k := slots_set (y' := stepA m s.1 v) rfl hk;have e2 : (stepA m s.1 v).rounds.getD k 0 = s.1.rounds.getD k 0 := by show (s.1.rounds.set v _).getD k 0 = _;simp only [aG];rw [List.getElem?_set_ne (fun e => hk e.symm)]
   rw [e1, e2]) n.es.length hv
  have h1 : muV n s.1 v = (40 - r).toNat * (l.length + 1) := by unfold muV;rw [er, el, esl, List.count_eq_zero.2 hno];omega
  have h2 : muV n (stepA m s.1 v) v = (40 - (r + 1)).toNat * (l.length + 1) + l.length := by
   unfold muV;have e1 : slotsAt (stepA m s.1 v) v = List.replicate (slotsAt s.1 v).length (-1) := slots_new (y' := stepA m s.1 v) rfl hvs;have e2 : (stepA m s.1 v).rounds.getD v 0 = r + 1 := by show (s.1.rounds.set v _).getD v 0 = _;rw [aG, List.getElem?_set_self hvr, er];rfl
   rw [e1, e2, el, esl, List.count_replicate_self, hat.sl]
  obtain ⟨q, hq⟩ : ∃ q : Nat, (40 - r).toNat = q + 1 := ⟨(40 - r).toNat - 1, by omega⟩
  have hq2 : (40 - (r + 1)).toNat = q := by omega
  rw [hq, Nat.add_mul, Nat.one_mul] at h1;rw [hq2] at h2;refine .inr ⟨Nat.lt_succ_self _, ?_, ?_⟩
  · show muA n (stepA m s.1 v) < muA n s.1;unfold muA;omega
  · show s.2 + 1 + 2 * muA n (stepA m s.1 v) ≤ s.2 + 2 * muA n s.1;unfold muA;omega
theorem ports_set {y y' : Asy} {v k : Nat} {f' : List Ends} (hy : y'.flight = y.flight.set v f') (hk : k ≠ v) : portsAt y' k = portsAt y k := by unfold portsAt;rw [hy, aG, aG, List.getElem?_set_ne (fun e => hk e.symm)]
theorem ports_new {y y' : Asy} {v : Nat} {f' : List Ends} (hy : y'.flight = y.flight.set v f') (hv : v < y.flight.length) : portsAt y' v = f' := by unfold portsAt;rw [hy, aG, List.getElem?_set_self hv];rfl
theorem adv_fill {s : Asy × Nat} (h : goodP m n s.1) {v i : Nat} {l : Ends} (hl : n.es[v]? = some l) (hi : i < l.length) : Adv n s (fillA m n v i s) := by
 unfold fillA;split
 ·
  next hc =>
  have hs1 := hc.1;split
  ·
   next hm =>
   have hv : v < n.es.length := (aB.1 hl).1;obtain ⟨l', sl, f, r, hat⟩ := at_of h.2 hv;obtain rfl := aE (hat.hl.symm.trans hl);obtain ⟨e, he⟩ : ∃ e, l'[i]? = some e := ⟨_, aC hi⟩
   have ee : endAt n v i = e := by unfold endAt;simp only [aG, hl, Option.getD_some, he]
   obtain ⟨k2, p2, l2, s2, f2, r2, ls2, e1, e2, hat2, hp2, hx⟩ := at_end h.2 h.1.2.1 hat he;obtain ⟨ls, hls⟩ : ∃ y, f[i]? = some y := ⟨_, aC (by rw [hat.fl]; exact hi)⟩
   have er : s.1.rounds.getD v 0 = r := by rw [aG, hat.hr]; rfl
   have er2 : s.1.rounds.getD k2 0 = r2 := by rw [aG, hat2.hr]; rfl
   have eb : backA n s.1 v i = r2 - r := by unfold backA;rw [ee, e1, Int.toNat_natCast, er, er2]
   rw [ee, e1, e2, eb] at hm ⊢;have hg1 := good_ct h ⟨1, (k2 : Int), (p2 : Int), r2 - r⟩;rw [ct_yes hm, doA_send m (r2 - r) hat2.hl hx] at hg1 ⊢;obtain ⟨q, hq⟩ : ∃ q, q = (m.send.getD (if r2 - r = 1 then s.1.before.getD k2 0 else s.1.now.getD k2 0).toNat []).getD p2 0 := ⟨_, rfl⟩
   have ey : sentA m s.1 k2 p2 v i (r2 - r) = { s.1 with flight := s.1.flight.set v ((portsAt s.1 v).set i (ls ++ [(r, q)])) } := by unfold sentA;rw [er2, ← hq, lettersAt_eq hat.hf hls, show r2 - (r2 - r) = r by omega]
   rw [ey] at hg1 ⊢;obtain ⟨y1, hy1⟩ : ∃ y, y = ({ s.1 with flight := s.1.flight.set v ((portsAt s.1 v).set i (ls ++ [(r, q)])) } : Asy) := ⟨_, rfl⟩
   rw [← hy1] at hg1 ⊢;have hfl : y1.flight = s.1.flight.set v ((portsAt s.1 v).set i (ls ++ [(r, q)])) := by rw [hy1]
   have hsl : y1.slots = s.1.slots := by rw [hy1]
   have hro : y1.rounds = s.1.rounds := by rw [hy1]
   have hvf : v < s.1.flight.length := (aB.1 hat.hf).1;obtain ⟨l3, s3, f3, r3, hat3⟩ := at_of hg1.2 hv;obtain rfl := aE (hat3.hl.symm.trans hat.hl);obtain rfl : s3 = sl := aE (hat3.hs.symm.trans (by rw [hsl]; exact hat.hs));obtain rfl : r3 = r := aE (hat3.hr.symm.trans (by rw [hro]; exact hat.hr));have hf3 : f3 = f.set i (ls ++ [(r3, q)]) := by have h1 := (portsAt_eq hat3.hf).symm.trans (ports_new hfl hvf);rw [h1, portsAt_eq hat.hf]
   have hif : i < f.length := by rw [hat.fl]; exact hi
   have hls3 : f3[i]? = some (ls ++ [(r3, q)]) := by rw [hf3, List.getElem?_set_self hif]
   have hq0 : 0 ≤ q := by have h0 := (hg1.2.2.2.2.2.2 v l3 s3 f3 hat3.hl hat3.hs hat3.hf).2.2.2 _ (aN hls3);exact (h0.2 (r3, q) (by simp)).2.1
   have hlt3 : lettersAt y1 v i = ls ++ [(r3, q)] := lettersAt_eq hat3.hf hls3;have hn3 : (((lettersAt y1 v i).length : Int) - 1) = (ls.length : Nat) := by rw [hlt3, List.length_append, List.length_singleton]; omega
   rw [hn3];have hm2 : mayB n y1 ⟨2, (v : Int), (i : Int), (ls.length : Nat)⟩ = true := by rw [may_let hat3 hls3 (.inl rfl), decide_eq_true_iff, List.length_append, List.length_singleton];omega
   rw [ct_yes hm2, doA_let m n y1 v i (ls.length : Nat) (by decide) (by decide), Int.toNat_natCast];have hgd : (ls ++ [(r3, q)]).getD ls.length (0, 0) = (r3, q) := by rw [aG, List.getElem?_append_right (Nat.le_refl _), Nat.sub_self];rfl
   have hsa : (slotsAt y1 v).getD i 0 = -1 := by rw [← hs1];unfold slotsAt;rw [hsl]
   have er1 : y1.rounds.getD v 0 = r3 := by rw [hro]; exact er
   obtain ⟨z, hz⟩ : ∃ z, z = letterA y1 2 v i ls.length := ⟨_, rfl⟩
   rw [← hz];have hz1 : z.slots = y1.slots.set v ((slotsAt y1 v).set i q) := by rw [hz];unfold letterA;rw [if_neg (by decide)];show (if _ then _ else _) = _;rw [hlt3, hgd, if_pos ⟨rfl, er1.symm, hsa⟩]
   have hz2 : z.rounds = y1.rounds := by rw [hz];unfold letterA;rw [if_neg (by decide)]
   have hs := sum_one (muV n s.1) (muV n z) v (fun k hk => by
    unfold muV;rw [slots_set hz1 hk, hz2, hro];unfold slotsAt
    rw [hsl]) n.es.length hv
   have hvs : v < y1.slots.length := (aB.1 hat3.hs).1;have h1 : muV n z v + 1 = muV n s.1 v := by unfold muV;rw [slots_new hz1 hvs, hz2, hro, Nat.add_assoc, count_set hsa (by omega)];unfold slotsAt;rw [hsl]
   refine .inr ⟨by show s.2 < s.2 + 1 + 1; omega, ?_, ?_⟩
   · show muA n z < muA n s.1;unfold muA;omega
   · show s.2 + 1 + 1 + 2 * muA n z ≤ s.2 + 2 * muA n s.1;unfold muA;omega
  · exact .refl _ _
 · exact .refl _ _
theorem adv_fillP {s : Asy × Nat} (h : goodP m n s.1) {v : Nat} {l : Ends} (hl : n.es[v]? = some l) : ∀ j, j ≤ l.length → Adv n s (fillP m n v j s)
  | 0, _ => .refl _ _
  | j + 1, hj => (adv_fillP h hl j (by omega)).trans (adv_fill (good_fillP h v j) hl (by omega))
theorem adv_node {s : Asy × Nat} (h : goodP m n s.1) (most : Int) {v : Nat} (hv : v < n.es.length) : Adv n s (nodeA m n most v s) := by
  unfold nodeA;split
  · exact .refl _ _
  · have hl := aC hv
    have e : n.es.getD v [] = n.es[v] := by rw [aG, hl]; rfl
    rw [e];exact (adv_fillP h hl _ (Nat.le_refl _)).trans (adv_step (good_fillP h v _) hv)
theorem adv_pass {s : Asy × Nat} (h : goodP m n s.1) (most : Int) : ∀ v, v ≤ n.es.length → Adv n s (passA m n most v s)
  | 0, _ => .refl _ _
  | v + 1, hv => (adv_pass h most v (by omega)).trans (adv_node (good_passA h most v) most (by omega))
theorem adv_passK {s : Asy × Nat} (h : goodP m n s.1) (most : Int) : ∀ k, Adv n s (passK m n most k s)
  | 0 => .refl _ _
  | k + 1 => (adv_passK h most k).trans (adv_pass (good_passK h most k) most _ (Nat.le_refl _))
theorem passK_stay {s : Asy × Nat} {most : Int} {k : Nat} (h : passK m n most (k + 1) s = passK m n most k s) : ∀ j, passK m n most (k + j) s = passK m n most k s
  | 0 => rfl
  | j + 1 => by show passA m n most n.es.length (passK m n most (k + j) s) = _;rw [passK_stay h j];exact h
theorem passK_less {s : Asy × Nat} (h : goodP m n s.1) (most : Int) : ∀ K, (∃ j, j < K ∧ passK m n most (j + 1) s = passK m n most j s) ∨ muA n (passK m n most K s).1 + K ≤ muA n s.1
  | 0 => .inr (Nat.le_refl _)
  | K + 1 => by
    rcases passK_less h most K with ⟨j, hj, he⟩ | h1
    · exact .inl ⟨j, by omega, he⟩
    · rcases adv_pass (good_passK h most K) most n.es.length (Nat.le_refl _) with h2 | ⟨-, h2, -⟩
      · exact .inl ⟨K, Nat.lt_succ_self _, h2⟩
      · refine .inr ?_
        show muA n (passA m n most n.es.length (passK m n most K s)).1 + (K + 1) ≤ _;omega
theorem passK_end {s : Asy × Nat} (h : goodP m n s.1) {most : Int} {k : Nat} (hk : passK m n most (k + 1) s = passK m n most k s) : passK m n most k s = passK m n most (muA n s.1) s := by
  rcases passK_less h most (muA n s.1 + 1) with ⟨j, hj, he⟩ | h1
  · have e1 := passK_stay hk j
    have e2 := passK_stay he k;have e3 := passK_stay he (muA n s.1 - j);rw [show j + (muA n s.1 - j) = muA n s.1 by omega] at e3;rw [Nat.add_comm j k] at e2;rw [e3, ← e2, e1]
  · omega
/-! ### the letters that are dropped -/
theorem letters_set {y y' : Asy} {v i v' i' : Nat} {r : Ends} (hy : y'.flight = y.flight.set v ((portsAt y v).set i r)) (hv : v < y.flight.length) (hi : i < (portsAt y v).length) : lettersAt y' v' i' = if v' = v ∧ i' = i then r else lettersAt y v' i' := by
  by_cases e : v' = v
  · subst e
    unfold lettersAt;rw [ports_new hy hv];by_cases e2 : i' = i
    · subst e2
      rw [if_pos ⟨rfl, rfl⟩, aG, List.getElem?_set_self hi];rfl
    · rw [if_neg (fun h => e2 h.2), aG, aG, List.getElem?_set_ne (fun h => e2 h.symm)]
  · rw [if_neg (fun h => e h.1)]
    unfold lettersAt;rw [ports_set hy e]
structure Dr (m : Mach) (n : Net) (x : Asy) (v i q : Nat) (s : Asy × Nat) : Prop where
  good : goodP m n s.1
  at_ : ∀ v' i', lettersAt s.1 v' i' = if v' < v ∨ (v' = v ∧ i' < i) then [] else if v' = v ∧ i' = i then (lettersAt x v' i').drop q else lettersAt x v' i'
theorem Dr.may {v i q : Nat} {s : Asy × Nat} (h : Dr m n x v i q s) {l : Ends} (hl : n.es[v]? = some l) (hi : i < l.length) : mayB n s.1 ⟨3, (v : Int), (i : Int), 0⟩ = decide (q < (lettersAt x v i).length) := by
  obtain ⟨l', sl, f, r, hat⟩ := at_of h.good.2 (aB.1 hl).1;obtain rfl := aE (hat.hl.symm.trans hl);obtain ⟨ls, hls⟩ : ∃ y, f[i]? = some y := ⟨_, aC (by rw [hat.fl]; exact hi)⟩
  have e := h.at_ v i;rw [if_neg (by omega), if_pos ⟨rfl, rfl⟩, lettersAt_eq hat.hf hls] at e;rw [may_let hat hls (.inr rfl), e, List.length_drop];congr 1;refine propext ⟨fun h1 => by omega, fun h1 => by omega⟩
theorem Dr.next {v i q : Nat} {s : Asy × Nat} (h : Dr m n x v i q s) {l : Ends} (hl : n.es[v]? = some l) (hi : i < l.length) (hq : q < (lettersAt x v i).length) : Dr m n x v i (q + 1) (ctA m n s ⟨3, (v : Int), (i : Int), 0⟩) := by
  have hm := h.may hl hi;rw [decide_eq_true hq] at hm;refine ⟨good_ct h.good _, fun v' i' => ?_⟩;obtain ⟨l', sl, f, r, hat⟩ := at_of h.good.2 (aB.1 hl).1;obtain rfl := aE (hat.hl.symm.trans hl);have hvf : v < s.1.flight.length := (aB.1 hat.hf).1;have e := h.at_ v i;rw [if_neg (by omega), if_pos ⟨rfl, rfl⟩] at e;rw [ct_yes hm];show lettersAt (doA m n s.1 ⟨3, (v : Int), (i : Int), 0⟩) v' i' = _;rw [doA_let m n s.1 v i 0 (by decide) (by decide)];have hfl : (letterA s.1 3 v i (0 : Int).toNat).flight = s.1.flight.set v ((portsAt s.1 v).set i ((lettersAt s.1 v i).drop 1)) := by unfold letterA;rw [if_neg (by decide)];simp
  rw [letters_set hfl hvf (by rw [portsAt_eq hat.hf, hat.fl]; exact hi), e, List.drop_drop];by_cases h1 : v' = v ∧ i' = i
  · rw [if_pos h1, if_neg (by omega), if_pos h1, h1.1, h1.2]
  · rw [if_neg h1, if_neg h1, h.at_ v' i', if_neg h1]
theorem Dr.dropN {v i : Nat} {s : Asy × Nat} (h : Dr m n x v i 0 s) {l : Ends} (hl : n.es[v]? = some l) (hi : i < l.length) : ∀ k, k ≤ (lettersAt x v i).length → Dr m n x v i k (dropN m n v i k s)
  | 0, _ => h
  | k + 1, hk => (Dr.dropN h hl hi k (by omega)).next hl hi (by omega)
theorem Dr.port {v i : Nat} {s : Asy × Nat} (h : Dr m n x v i (lettersAt x v i).length s) : Dr m n x v (i + 1) 0 s := by
  refine ⟨h.good, fun v' i' => ?_⟩;rw [h.at_ v' i'];by_cases h1 : v' < v ∨ (v' = v ∧ i' < i)
  · rw [if_pos h1, if_pos (by omega)]
  · rw [if_neg h1]
    by_cases h2 : v' = v ∧ i' = i
    · rw [if_pos h2, if_pos (by omega), h2.1, h2.2, List.drop_length]
    · rw [if_neg h2, if_neg (by omega)]
      split
      · rw [List.drop_zero]
      · rfl
theorem Dr.dropP {v : Nat} {s : Asy × Nat} (h : Dr m n x v 0 0 s) {l : Ends} (hl : n.es[v]? = some l) : ∀ j, j ≤ l.length → Dr m n x v j 0 (dropP m n x v j s)
  | 0, _ => h
  | j + 1, hj => (Dr.dropN (Dr.dropP h hl j (by omega)) hl (by omega) _ (Nat.le_refl _)).port
theorem Dr.node {v : Nat} {s : Asy × Nat} {l : Ends} (hx : goodP m n x) (hl : n.es[v]? = some l) (h : Dr m n x v l.length 0 s) : Dr m n x (v + 1) 0 0 s := by
  refine ⟨h.good, fun v' i' => ?_⟩;rw [h.at_ v' i'];by_cases h1 : v' < v ∨ (v' = v ∧ i' < l.length)
  · rw [if_pos h1, if_pos (by omega)]
  · rw [if_neg h1]
    by_cases h2 : v' = v
    · subst h2
      obtain ⟨l', sl, f, r, hat⟩ := at_of hx.2 (aB.1 hl).1;obtain rfl := aE (hat.hl.symm.trans hl);have e0 : lettersAt x v' i' = [] := by unfold lettersAt;rw [portsAt_eq hat.hf, aG, List.getElem?_eq_none (by rw [hat.fl]; omega)];rfl
      rw [if_pos (show v' < v' + 1 ∨ (v' = v' + 1 ∧ i' < 0) from .inl (Nat.lt_succ_self _)), e0];simp
    · rw [if_neg (fun h => h2 h.1), if_neg (by omega)]
      split
      · rw [List.drop_zero]
      · rfl
theorem ports_len (hx : goodP m n x) {v : Nat} {l : Ends} (hl : n.es[v]? = some l) : (portsAt x v).length = l.length := by obtain ⟨l', sl, f, r, hat⟩ := at_of hx.2 (aB.1 hl).1;obtain rfl := aE (hat.hl.symm.trans hl);rw [portsAt_eq hat.hf, hat.fl]
theorem Dr.dropV {s : Asy × Nat} (hx : goodP m n x) (h : Dr m n x 0 0 0 s) : ∀ v, v ≤ n.es.length → Dr m n x v 0 0 (dropV m n x v s)
  | 0, _ => h
  | v + 1, hv => by have hl : n.es[v]? = some n.es[v] := aC (by omega);have h1 := Dr.dropP (Dr.dropV hx h v (by omega)) hl _ (Nat.le_refl _);rw [← ports_len hx hl] at h1;exact Dr.node hx hl (by rw [← ports_len hx hl]; exact h1)
theorem Dr.start (hx : goodP m n x) (c : Nat) : Dr m n x 0 0 0 (x, c) := ⟨hx, fun v' i' => by
  rw [if_neg (by omega)];split
  · rw [List.drop_zero]
  · rfl⟩
/-! ### how many acts -/
theorem letters_12 (hx : goodP m n x) (v i : Nat) : (lettersAt x v i).length ≤ 12 := by
  by_cases hv : v < n.es.length
  · obtain ⟨l, sl, f, r, hat⟩ := at_of hx.2 hv
    unfold lettersAt;rw [portsAt_eq hat.hf, aG];cases h : f[i]? with
    | none => exact Nat.zero_le _
    | some ls => exact hat.ls ls (aN h)
  · have : x.flight[v]? = none := List.getElem?_eq_none (by rw [hx.2.2.2.2.2.1]; omega)
    unfold lettersAt portsAt;rw [aG, aG, this];exact Nat.zero_le _
theorem deg_6 (hx : goodP m n x) {v : Nat} {l : Ends} (hl : n.es[v]? = some l) : l.length ≤ 6 := by have h1 := hx.1.2.2.1 l (aN hl);have h2 := hx.1.1.1.1.2;omega
theorem ports_6 (hx : goodP m n x) (v : Nat) : (portsAt x v).length ≤ 6 := by
  by_cases hv : v < n.es.length
  · rw [ports_len hx (aC hv)]
    exact deg_6 hx (aC hv)
  · have : x.flight[v]? = none := List.getElem?_eq_none (by rw [hx.2.2.2.2.2.1]; omega)
    unfold portsAt;rw [aG, this];exact Nat.zero_le _
theorem dropN_le (v i : Nat) (s : Asy × Nat) : ∀ k, (dropN m n v i k s).2 ≤ s.2 + k
  | 0 => Nat.le_refl _
  | k + 1 => by have := dropN_le v i s k;show (dropN m n v i k s).2 + (if _ then 1 else 0) ≤ _;split <;> omega
theorem dropN_eq {v i : Nat} {s : Asy × Nat} (h : Dr m n x v i 0 s) {l : Ends} (hl : n.es[v]? = some l) (hi : i < l.length) : ∀ k, k ≤ (lettersAt x v i).length → (dropN m n v i k s).2 = s.2 + k
  | 0, _ => rfl
  | k + 1, hk => by have hm := (Dr.dropN h hl hi k (by omega)).may hl hi;rw [decide_eq_true (by omega)] at hm;show (ctA m n (dropN m n v i k s) _).2 = _;rw [ct_yes hm];show (dropN m n v i k s).2 + 1 = _;rw [dropN_eq h hl hi k (by omega)];omega
theorem dropP_le (hx : goodP m n x) (v : Nat) (s : Asy × Nat) : ∀ j, (dropP m n x v j s).2 ≤ s.2 + 12 * j
  | 0 => Nat.le_refl _
  | j + 1 => by have h1 := dropP_le hx v s j;have h2 := dropN_le (m := m) (n := n) v j (dropP m n x v j s) (lettersAt x v j).length;have h3 := letters_12 hx v j;show (dropN m n v j (lettersAt x v j).length (dropP m n x v j s)).2 ≤ _;omega
theorem dropV_le (hx : goodP m n x) (s : Asy × Nat) : ∀ v, (dropV m n x v s).2 ≤ s.2 + 72 * v
  | 0 => Nat.le_refl _
  | v + 1 => by have h1 := dropV_le hx s v;have h2 := dropP_le hx v (dropV m n x v s) (portsAt x v).length;have h3 := ports_6 hx v;show (dropP m n x v (portsAt x v).length (dropV m n x v s)).2 ≤ _;omega
theorem fillA_shift (v i k : Nat) (y : Asy) : fillA m n v i (y, k) = ((fillA m n v i (y, 0)).1, k + (fillA m n v i (y, 0)).2) := by
  unfold fillA;split
  · split
    · unfold ctA
      simp only [Nat.zero_add, Nat.add_assoc]
    · rfl
  · rfl
theorem mu_le {y : Asy} (h : goodP m n y) : muA n y ≤ 300 * n.es.length := by
  have hv : ∀ v, v < n.es.length → muV n y v ≤ 300 := fun v hv => by
    obtain ⟨l, sl, f, r, hat⟩ := at_of h.2 hv;have er : y.rounds.getD v 0 = r := by rw [aG, hat.hr]; rfl
    have el : n.es.getD v [] = l := by rw [aG, hat.hl]; rfl
    have h6 := deg_6 h hat.hl;have hc : (slotsAt y v).count (-1) ≤ 6 := by rw [slotsAt_eq hat.hs];have := List.count_le_length (a := (-1 : Int)) (l := sl);have := hat.sl;omega
    have hr0 := hat.r0;unfold muV;rw [er, el];have : (40 - r).toNat * (l.length + 1) ≤ 40 * 7 := Nat.mul_le_mul (by omega) (by omega);omega
  have : ∀ N, N ≤ n.es.length → ((List.range N).map (muV n y)).sum ≤ 300 * N := fun N => by
    induction N with
    | zero => intro _; exact Nat.le_refl _
    | succ N ih =>
      intro hN;rw [List.range_succ, List.map_append, List.sum_append];have := ih (by omega);have := hv N (by omega);simp only [List.map_cons, List.map_nil, List.sum_cons, List.sum_nil, Nat.add_zero];omega
  exact this _ (Nat.le_refl _)
end
end Go.Proofs.YtjklbjmdgiddcaaGreat
