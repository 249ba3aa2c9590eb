/-
  Small lemmas and contracts that the texts of this claim share. No condition.
-/
import Derived.Test.YtjklbjmdgiddcaaGreatGSyDo
namespace Go.Proofs.YtjklbjmdgiddcaaGreat
set_option linter.all false
theorem rowP.set {l : List Int} {many most : Int} (h : rowP l many most) (k : Nat) {y : Int} (hy : 0 ≤ y ∧ y ≤ most - 1) : rowP (l.set k y) many most :=
  ⟨by rw [List.length_set]; exact h.1, fun z hz => by
    rcases List.mem_or_eq_of_mem_set hz with h1 | h1
    · exact h.2 z h1
    · rw [h1]; exact hy⟩
section
variable {m : Mach} {n : Net} {x : Asy}
theorem asyP.slots (h : asyP m n x) (k : Nat) (s' : List Int) (h1 : ∀ l, n.es[k]? = some l → s'.length = l.length) (h2 : ∀ y ∈ s', -1 ≤ y ∧ y ≤ m.msg - 1) : asyP m n { x with slots := x.slots.set k s' } :=
  ⟨h.1, h.2.1, h.2.2.1, by show (x.slots.set k s').length = _; rw [List.length_set]; exact h.2.2.2.1, h.2.2.2.2.1, fun v l s f hl hs hf => by
    have hs' : (x.slots.set k s')[v]? = some s := hs;rw [List.getElem?_set] at hs';split at hs'
    · next e =>
      subst e;split at hs'
      · next hk =>
        obtain rfl := aE hs';have h0 := h.2.2.2.2.2 k l _ f hl (aC hk) hf;exact ⟨h1 l hl, h0.2.1, h2, h0.2.2.2⟩
      · cases hs'
    · exact h.2.2.2.2.2 v l s f hl hs' hf⟩
theorem asyP.flights (h : asyP m n x) (k : Nat) (f' : List Ends) (h1 : ∀ l, n.es[k]? = some l → f'.length = l.length) (h2 : ∀ ls ∈ f', letP m ls) : asyP m n { x with flight := x.flight.set k f' } :=
  ⟨h.1, h.2.1, h.2.2.1, h.2.2.2.1, by show (x.flight.set k f').length = _; rw [List.length_set]; exact h.2.2.2.2.1, fun v l s f hl hs hf => by
    have hf' : (x.flight.set k f')[v]? = some f := hf;rw [List.getElem?_set] at hf';split at hf'
    · next e =>
      subst e;split at hf'
      · next hk =>
        obtain rfl := aE hf';have h0 := h.2.2.2.2.2 k l s _ hl hs (aC hk);exact ⟨h0.1, h1 l hl, h0.2.2.1, h2⟩
      · cases hf'
    · exact h.2.2.2.2.2 v l s f hl hs hf'⟩
theorem asyP.letters (h : asyP m n x) {k p : Nat} {l : Ends} {s : List Int} {f : List Ends} {r : Int} (hat : AtP n x k l s f r) (ls' : Ends) (h1 : letP m ls') : asyP m n { x with flight := x.flight.set k ((portsAt x k).set p ls') } := by
  have hpa := portsAt_eq hat.hf;have h0 := h.2.2.2.2.2 k l s f hat.hl hat.hs hat.hf;refine h.flights k _ (fun l' hl' => ?_) (fun ls hls => ?_)
  · obtain rfl := aE (hat.hl.symm.trans hl')
    rw [List.length_set, hpa]; exact hat.fl
  · rw [hpa] at hls
    rcases List.mem_or_eq_of_mem_set hls with h2 | h2
    · exact h0.2.2.2 ls h2
    · rw [h2]; exact h1
theorem asyP.slot (h : asyP m n x) {k p : Nat} {l : Ends} {s : List Int} {f : List Ends} {r : Int} (hat : AtP n x k l s f r) {y : Int} (hy : -1 ≤ y ∧ y ≤ m.msg - 1) : asyP m n { x with slots := x.slots.set k ((slotsAt x k).set p y) } := by
  have hsa := slotsAt_eq hat.hs;have h0 := h.2.2.2.2.2 k l s f hat.hl hat.hs hat.hf;refine h.slots k _ (fun l' hl' => ?_) (fun z hz => ?_)
  · obtain rfl := aE (hat.hl.symm.trans hl')
    rw [List.length_set, hsa]; exact hat.sl
  · rw [hsa] at hz
    rcases List.mem_or_eq_of_mem_set hz with h2 | h2
    · exact h0.2.2.1 z h2
    · rw [h2]; exact hy
theorem next_range (hp : maP m) {sq : Int} (hs : 0 ≤ sq ∧ sq ≤ m.st - 1) (ib : List Int) : 0 ≤ nextS m sq ib ∧ nextS m sq ib ≤ m.st - 1 := by
  unfold nextS;split
  · next hc =>
    rcases clI_cases (fitsB sq ib) m.cls with h | ⟨k, c, h, hk, -⟩
    · rw [h] at hc; omega
    · rw [h, Int.toNat_natCast, aG, hk]
      exact (hp.2.2.2.2.2.1 c (aN hk)).2.1
  · exact hs
theorem asyP.step (h : asyP m n x) (hp : maP m) {k : Nat} {l : Ends} {s : List Int} {f : List Ends} {r : Int} (hat : AtP n x k l s f r) (hr : r < 40) : asyP m n (stepA m x k) := by
  have hsa := slotsAt_eq hat.hs;have hkn := hat.lt;have hkw : k < x.now.length := by have := h.2.2.1.1; omega
  have hsb := h.2.2.1.2 _ (List.getElem_mem hkw);have hn : x.now.getD k 0 = x.now[k] := by rw [aG, aC hkw]; rfl
  have hrr : x.rounds.getD k 0 = r := by rw [aG, hat.hr]; rfl
  have h1 := h.slots k (List.replicate (slotsAt x k).length (-1)) (fun l' hl' => by
    obtain rfl := aE (hat.hl.symm.trans hl')
    rw [List.length_replicate, hsa]; exact hat.sl) (fun y hy => by rw [List.eq_of_mem_replicate hy]; have := hp.1.2.2; omega)
  unfold stepA;rw [hn, hrr];have hr0 := hat.r0;exact ⟨h.1.set k (by omega), h.2.1.set k hsb, h.2.2.1.set k (next_range hp hsb _), h1.2.2.2.1, h1.2.2.2.2.1, fun v l s f hl hs hf => h1.2.2.2.2.2 v l s f hl hs hf⟩
theorem letP.snoc {ls : Ends} (h : letP m ls) (hl : ls.length < 12) {e : Int × Int} (he : (0 ≤ e.1 ∧ e.1 ≤ 40) ∧ 0 ≤ e.2 ∧ e.2 ≤ m.msg - 1) : letP m (ls ++ [e]) :=
  ⟨by rw [List.length_append, List.length_singleton]; omega, fun y hy => by
    rcases List.mem_append.1 hy with h1 | h1
    · exact h.2 y h1
    · rw [List.mem_singleton.1 h1]; exact he⟩
theorem good_doA (hg : goodP m n x) {ak an ap aa : Int} (hmay : mayB n x ⟨ak, an, ap, aa⟩ = true) : goodP m n (doA m n x ⟨ak, an, ap, aa⟩) := by
 refine ⟨hg.1, ?_⟩;have ha := hg.2;have hq := hg.1.2.1;have hmp := hg.1.1;cases h1 : inB an 0 ((n.es.length : Int) - 1) with
 | false => rw [may_no1 h1] at hmay; cases hmay
 | true =>
  obtain ⟨k, rfl, hk⟩ := inB_nat h1;obtain ⟨l, s, f, r, hat⟩ := at_of ha hk;have h0 := ha.2.2.2.2.2 k l s f hat.hl hat.hs hat.hf;by_cases h5 : ak = 5
  · subst h5;rw [may_step hat] at hmay;rw [Bool.and_eq_true, Bool.and_eq_true, Bool.and_eq_true, decide_eq_true_iff, decide_eq_true_iff, decide_eq_true_iff] at hmay;obtain ⟨rfl, rfl, hr, -⟩ := hmay;rw [doA_step];exact ha.step hmp hat hr
  ·
   by_cases hp : 0 ≤ ap ∧ ap < l.length
   ·
    obtain ⟨p, rfl⟩ : ∃ p : Nat, ap = p := ⟨ap.toNat, by omega⟩
    have hpl : p < l.length := by omega
    obtain ⟨ls, hls⟩ : ∃ y, f[p]? = some y := ⟨_, aC (by rw [hat.fl]; exact hpl)⟩
    have hlp := h0.2.2.2 ls (aN hls);by_cases h1' : ak = 1
    ·
     subst h1';obtain ⟨e, he⟩ : ∃ y, l[p]? = some y := ⟨_, aC hpl⟩
     obtain ⟨k2, p2, l2, s2, f2, r2, ls2, e1, e2, hat2, hp2, -⟩ := at_end ha hq hat he;have ee : e = ((k2 : Int), (p2 : Int)) := by rw [← e1, ← e2]
     subst ee;rw [may_send hat hls he hat2 hp2 rfl rfl, Bool.and_eq_true, Bool.and_eq_true, decide_eq_true_iff, decide_eq_true_iff, decide_eq_true_iff] at hmay;rw [doA_send m aa hat.hl he];unfold sentA;have hlp2 := (ha.2.2.2.2.2 k2 l2 s2 f2 hat2.hl hat2.hs hat2.hf).2.2.2 ls2 (aN hp2);rw [lettersAt_eq hat2.hf hp2];have hr0 := hat.r0;have hrr : x.rounds.getD k 0 = r := by rw [aG, hat.hr]; rfl
     have hkb : k < x.before.length := by have := ha.2.1.1; omega
     have hkw : k < x.now.length := by have := ha.2.2.1.1; omega
     have hbb := ha.2.1.2 _ (List.getElem_mem hkb);have hnb := ha.2.2.1.2 _ (List.getElem_mem hkw);have eb : x.before.getD k 0 = x.before[k] := by rw [aG, aC hkb]; rfl
     have en : x.now.getD k 0 = x.now[k] := by rw [aG, aC hkw]; rfl
     obtain ⟨q, hq2, hq3⟩ : ∃ q : Int, (if aa = 1 then x.before.getD k 0 else x.now.getD k 0) = q ∧ 0 ≤ q ∧ q ≤ m.st - 1 := by
      by_cases h : aa = 1
      · exact ⟨_, rfl, by rw [if_pos h, eb]; exact hbb⟩
      · exact ⟨_, rfl, by rw [if_neg h, en]; exact hnb⟩
     rw [hq2, hrr];have hsl := hmp.2.1.2.1;have hql : q.toNat < m.send.length := by omega
     have hrow := hmp.2.2.2.2.1 _ (List.getElem_mem hql);have hdeg := hg.1.2.2.1 l (aN hat.hl);have hpr : p < (m.send[q.toNat]).length := by have := hrow.1; omega
     have hmsg := hrow.2 _ (List.getElem_mem hpr);have em : (m.send.getD q.toNat []).getD p 0 = (m.send[q.toNat])[p] := by rw [aG (l := m.send), aC hql, aG];simp [aC hpr]
     rw [em];exact ha.letters hat2 _ (hlp2.snoc (by omega) ⟨by show 0 ≤ r - aa ∧ r - aa ≤ 40; omega, hmsg⟩)
    ·
     have hak : ak = 2 ∨ ak = 3 ∨ ak = 4 := by
      by_cases h2 : ak = 2
      · exact .inl h2
      ·
       by_cases h3 : ak = 3
       · exact .inr (.inl h3)
       ·
        by_cases h4 : ak = 4
        · exact .inr (.inr h4)
        · rw [may_else hat h5 h1' h2 h3 h4] at hmay; cases hmay
     have haa : (0 ≤ aa ∧ aa < ls.length) ∧ (ak = 4 → ls.length < 12) := by
      rcases hak with rfl | rfl | rfl
      · rw [may_let hat hls (.inl rfl), decide_eq_true_iff] at hmay; exact ⟨hmay, fun h => absurd h (by decide)⟩
      · rw [may_let hat hls (.inr rfl), decide_eq_true_iff] at hmay; exact ⟨hmay, fun h => absurd h (by decide)⟩
      · rw [may_copy hat hls, Bool.and_eq_true, decide_eq_true_iff, decide_eq_true_iff] at hmay; exact ⟨hmay.1, fun _ => hmay.2⟩
     obtain ⟨a, rfl⟩ : ∃ a : Nat, aa = a := ⟨aa.toNat, by omega⟩
     have hal : a < ls.length := by omega
     have hle := hlp.2 _ (List.getElem_mem hal);have eg : ls.getD a (0, 0) = ls[a] := by rw [aG, aC hal]; rfl
     rw [doA_let m n x k p (a : Int) h5 h1', Int.toNat_natCast];unfold letterA;rw [lettersAt_eq hat.hf hls, eg];by_cases h4 : ak = 4
     · rw [if_pos h4];exact ha.letters hat _ (hlp.snoc (haa.2 h4) hle)
     ·
      rw [if_neg h4]
      have hf := ha.letters (p := p) hat (ls.take a ++ ls.drop (a + 1)) ⟨by have := hlp.1; rw [List.length_append, List.length_take, List.length_drop]; omega, fun y hy => by
       rcases List.mem_append.1 hy with h | h
       · exact hlp.2 y (List.mem_of_mem_take h)
       · exact hlp.2 y (List.mem_of_mem_drop h)⟩
      split
      ·
       have hat' : AtP n { x with flight := x.flight.set k ((portsAt x k).set p (ls.take a ++ ls.drop (a + 1))) } k l s ((portsAt x k).set p (ls.take a ++ ls.drop (a + 1))) r := by
        have hkf := (aB.1 hat.hf).1;refine ⟨hat.hl, hat.hs, ?_, hat.hr, hat.sl, ?_, hat.r0, fun y hy => ?_⟩
        · show (x.flight.set k _)[k]? = _;rw [List.getElem?_set_self hkf]
        · rw [List.length_set, portsAt_eq hat.hf]; exact hat.fl
        ·
         rw [portsAt_eq hat.hf] at hy;rcases List.mem_or_eq_of_mem_set hy with h2 | h2
         · exact hat.ls y h2
         · rw [h2]; have := hlp.1; rw [List.length_append, List.length_take, List.length_drop]; omega
       exact hf.slot hat' ⟨by omega, hle.2.2⟩
      · exact hf
   · rw [may_no2 hat h5 hp] at hmay; cases hmay
end
end Go.Proofs.YtjklbjmdgiddcaaGreat
namespace Go.Proofs.YtjklbjmdgiddcaaGreat
set_option linter.all false
/-! ### runs -/
noncomputable def playX (m : Mach) (n : Net) (x : Asy) (a : Acts) : Asy := if mayB n x a = true then doA m n x a else x
noncomputable def runX (m : Mach) (n : Net) (x : Asy) (ys : List Acts) : Asy := ys.foldl (playX m n) x
theorem good_play {m : Mach} {n : Net} {x : Asy} (h : goodP m n x) (a : Acts) : goodP m n (playX m n x a) := by
  unfold playX;split
  · rename_i hm
    exact good_doA h hm
  · exact h
theorem runX_snoc (m : Mach) (n : Net) (x : Asy) (ys : List Acts) (a : Acts) : runX m n x (ys ++ [a]) = playX m n (runX m n x ys) a := by simp [runX]
theorem good_run {m : Mach} {n : Net} {x : Asy} (h : goodP m n x) (ys : List Acts) : goodP m n (runX m n x ys) := by
  induction ys generalizing x with
  | nil => exact h
  | cons a ys ih => exact ih (good_play h a)
noncomputable def didL (m : Mach) (n : Net) : Asy → List Acts → List Bool
  | _, [] => []
  | x, a :: ys => mayB n x a :: didL m n (playX m n x a) ys
theorem didL_len (m : Mach) (n : Net) : ∀ (ys : List Acts) (x : Asy), (didL m n x ys).length = ys.length
  | [], _ => rfl
  | a :: ys, x => by simp [didL, didL_len m n ys]
theorem didL_snoc (m : Mach) (n : Net) (a : Acts) : ∀ (ys : List Acts) (x : Asy), didL m n x (ys ++ [a]) = didL m n x ys ++ [mayB n (runX m n x ys) a]
  | [], x => rfl
  | b :: ys, x => by simp [didL, didL_snoc m n a ys, runX]
end Go.Proofs.YtjklbjmdgiddcaaGreat
namespace Go.Proofs.YtjklbjmdgiddcaaGreat
open Go.RowKit
set_option linter.all false
def packK (j : Nat) : Key → Prop
  | .s => True
  | .sl p => p < j
  | _ => False
def packR (ty : TypeId) (R0 : Nat → RowD) (n j : Nat) (val : Key → Value) : Key → RowD
  | .s => ⟨ty, 1, n, valsOf .sl val j ++ List.replicate (n - j) nilV⟩
  | .sl p => R0 p
  | _ => ⟨3, 1, 0, []⟩
def Pack (w : World) (N : Nat) (ty : TypeId) (R0 : Nat → RowD) (n j : Nat) (val : Key → Value) : Prop := OwnK w N (packK j) val (packR ty R0 n j val)
section
variable {w w1 : World} {N n j : Nat} {ty : TypeId} {R0 : Nat → RowD} {val : Key → Value}
theorem Pack.keep (h : Pack w N ty R0 n j val) (hg : w.grownBy w1 none) : Pack w1 N ty R0 n j val := OwnK.keep h hg
theorem Pack.top (h : Pack w N ty R0 n j val) : w.ownsRow N ty 1 (val .s) n (valsOf .sl val j ++ List.replicate (n - j) nilV) := h.own .s trivial
theorem Pack.start (R0 : Nat → RowD) {v : Value} (h : w.ownsRow N ty 1 v n (List.replicate n nilV)) : ∃ val, val .s = v ∧ Pack w N ty R0 n 0 val := by
  refine ⟨fun j => match j with | .s => v | _ => nilV, rfl, fun i hi => ?_, fun i k hi hk hne => ?_⟩
  · cases i with
    | s => exact h
    | sl p => exact absurd (show p < 0 from hi) (by omega)
    | _ => exact hi.elim
  · cases i with
    | s => cases k with
      | s => exact absurd rfl hne
      | sl p => exact absurd (show p < 0 from hk) (by omega)
      | _ => exact hk.elim
    | sl p => exact absurd (show p < 0 from hi) (by omega)
    | _ => exact hi.elim
theorem Pack.step (h : Pack w N ty R0 n j val) (hj : j < n) {g cap : Nat} (hv : val .s = .slice (some ⟨g, 0, none⟩) n cap) {u : Value} (hg : w.grownBy w1 none) (hn : w1.ownsRow N (R0 j).ty (R0 j).sz u (R0 j).len (R0 j).con) (hb : u.ownBlock = none ∨ ∃ g, u.ownBlock = some g ∧ w.heap.size ≤ g) :
  ∃ val', val' .s = val .s ∧ Pack (w1.setCell ⟨g, j, none⟩ u) N ty R0 n (j + 1) val' := by
 refine ⟨upd val (.sl j) u, upd_ne _ _ (by simp), (OwnK.set (OwnK.new h (.sl j) u (R0 j) hg hn hb) .s (.inl trivial) (g := g) (cap := cap) (j := j) (n := n) (con := valsOf .sl val j ++ List.replicate (n - j) nilV) (ty := ty) (sz := 1) (by rw [upd_ne _ _ (by simp)]; exact hv) (by rw [upd_ne _ _ (by simp)]; rfl) u).congr fun i hi => ⟨?_, rfl, ?_⟩⟩
 ·
  cases i with
  | s => exact .inl trivial
  | sl p =>
   have hp : p < j + 1 := hi;by_cases e : p = j
   · exact .inr (by rw [e])
   · exact .inl (show p < j by omega)
  | _ => exact hi.elim
 ·
  cases i with
  | s =>
   rw [upd_same];show (⟨ty, 1, n, valsOf .sl (upd val (.sl j) u) (j + 1) ++ List.replicate (n - (j + 1)) nilV⟩ : RowD) = _;rw [valsOf_succ, upd_same, valsOf_congr (fun k hk => upd_ne _ _ (by simp; omega))];have hl := valsOf_len .sl val j;obtain ⟨d, hd⟩ : ∃ d, n - j = d + 1 := ⟨n - j - 1, by omega⟩
   rw [hd, show n - (j + 1) = d by omega, List.replicate_succ, List.set_append_right j u (by omega), hl, Nat.sub_self, List.set_cons_zero, List.append_assoc];rfl
  | sl p =>
   rw [upd_ne _ _ (by simp)];by_cases e : p = j
   · subst e; rw [upd_same]; rfl
   · rw [upd_ne _ _ (by simpa using e)]; rfl
  | _ => exact hi.elim
theorem OwnK.join {base : Nat} {K1 K2 K' : Key → Prop} {val1 val2 val' : Key → Value} {R1 R2 R' : Key → RowD} (h1 : OwnK w base K1 val1 R1) (h2 : OwnK w N K2 val2 R2) (hb : base ≤ N) (hN : ∀ i, K1 i → ∀ g, (val1 i).ownBlock = some g → g < N) (φ : Key → Key)
    (hv : ∀ i, K' i → (K1 i ∧ val' i = val1 i ∧ R' i = R1 i) ∨ (K2 (φ i) ∧ val' i = val2 (φ i) ∧ R' i = R2 (φ i))) (hφ : ∀ i k, K2 (φ i) → K2 (φ k) → φ i = φ k → i = k) : OwnK w base K' val' R' := by
  have far : ∀ i k, K1 i → K2 k → ((val1 i).ownBlock = none ∨ (val1 i).ownBlock ≠ (val2 k).ownBlock) ∧ ((val2 k).ownBlock = none ∨ (val2 k).ownBlock ≠ (val1 i).ownBlock) := fun i k hi hk => by
    cases e1 : (val1 i).ownBlock with
    | none => exact ⟨.inl rfl, by cases (val2 k).ownBlock <;> simp⟩
    | some g =>
      cases e2 : (val2 k).ownBlock with
      | none => exact ⟨.inr (by simp), .inl rfl⟩
      | some g2 =>
        have a1 := hN i hi g e1;have a2 := ((h2.own k hk).lt g2 e2).1;exact ⟨.inr (fun e => by have := aE e; omega), .inr (fun e => by have := aE e; omega)⟩
  refine ⟨fun i hi => ?_, fun i k hi hk hne => ?_⟩
  · rcases hv i hi with ⟨a, b, c⟩ | ⟨a, b, c⟩
    · rw [b, c]; exact h1.own i a
    · rw [b, c]; exact own_mono (h2.own _ a) hb
  · rcases hv i hi with ⟨a, b, c⟩ | ⟨a, b, c⟩ <;> rcases hv k hk with ⟨a', b', c'⟩ | ⟨a', b', c'⟩ <;> rw [b, b']
    · exact h1.sep i k a a' hne
    · exact (far i _ a a').1
    · exact (far k _ a' a).2
    · exact h2.sep _ _ a a' fun e => hne (hφ i k a a' e)
def intD (xss : List (List Int)) (k : Nat) : RowD := ⟨3, 1, (xss.getD k []).length, (xss.getD k []).map intV⟩
def letD (row : List Ends) (k : Nat) : RowD := ⟨129, 2, (row.getD k []).length, letCells (row.getD k [])⟩
theorem AsyK.of4 {base : Nat} {v1 v2 v3 : Value} {rs bs ns : List Int} {ss : List (List Int)} (h1 : w.ownsRow base 3 1 v1 rs.length (rs.map intV)) (h2 : w.ownsRow base 3 1 v2 bs.length (bs.map intV)) (h3 : w.ownsRow base 3 1 v3 ns.length (ns.map intV))
  (s12 : v1.ownBlock = none ∨ v1.ownBlock ≠ v2.ownBlock) (s13 : v1.ownBlock = none ∨ v1.ownBlock ≠ v3.ownBlock) (s23 : v2.ownBlock = none ∨ v2.ownBlock ≠ v3.ownBlock) {P : Nat} (n1 : v1.ownBlock ≠ some P) (n2 : v2.ownBlock ≠ some P) (n3 : v3.ownBlock ≠ some P)
  (hS : Pack w N 24 (intD ss) ss.length ss.length val) (hb : base ≤ N) (b1 : ∀ g, v1.ownBlock = some g → g < N) (b2 : ∀ g, v2.ownBlock = some g → g < N) (b3 : ∀ g, v3.ownBlock = some g → g < N) (n4 : ∀ i, packK ss.length i → (val i).ownBlock ≠ some P)
  (H : Hid (w.heap[P]? = some (.cells #[v1, v2, v3, val .s, .slice none 0 0] 40 (0, 0)))) :
  ∃ val', AsyB w base val' ⟨rs, bs, ns, ss, []⟩ P := by
 have turn : ∀ {a b : Option Nat}, (a = none ∨ a ≠ b) → (b = none ∨ b ≠ a) := fun {a b} h => by
  cases b with
  | none => exact .inl rfl
  | some g =>
   rcases h with h | h
   · rw [h]; exact .inr (by simp)
   · exact .inr fun e => h e.symm
 have hK : OwnK w base (fun i => match i with | .r => True | .b => True | .n => True | _ => False) (fun i => match i with | .r => v1 | .b => v2 | .n => v3 | _ => nilV) (rowK ⟨rs, bs, ns, ss, []⟩ val) := by
  refine ⟨fun i hi => ?_, fun i k hi hk hne => ?_⟩
  ·
   cases i with
   | r => exact h1
   | b => exact h2
   | n => exact h3
   | _ => exact hi.elim
  ·
   cases i with
   | r => cases k with
    | r => exact absurd rfl hne
    | b => exact s12
    | n => exact s13
    | _ => exact hk.elim
   | b => cases k with
    | b => exact absurd rfl hne
    | r => exact turn s12
    | n => exact s23
    | _ => exact hk.elim
   | n => cases k with
    | n => exact absurd rfl hne
    | r => exact turn s13
    | b => exact turn s23
    | _ => exact hk.elim
   | _ => exact hi.elim
 have hN : ∀ i, (match i with | Key.r => True | Key.b => True | Key.n => True | _ => False) → ∀ g, (match i with | Key.r => v1 | Key.b => v2 | Key.n => v3 | _ => nilV).ownBlock = some g → g < N := fun i hi => by
  cases i with
  | r => exact b1
  | b => exact b2
  | n => exact b3
  | _ => exact hi.elim
 have hJ := OwnK.join (K' := fun i => keyOf ⟨rs, bs, ns, ss, []⟩ i ∧ i ≠ .f) (val' := fun i => match i with | .r => v1 | .b => v2 | .n => v3 | .s => val .s | .sl p => val (.sl p) | _ => nilV) (R' := rowK ⟨rs, bs, ns, ss, []⟩ val) hK hS hb hN id (fun i hi => by
  cases i with
  | r => exact .inl ⟨trivial, rfl, rfl⟩
  | b => exact .inl ⟨trivial, rfl, rfl⟩
  | n => exact .inl ⟨trivial, rfl, rfl⟩
  | s => exact .inr ⟨trivial, rfl, by show _ = (⟨_, _, _, _⟩ : RowD); rw [Nat.sub_self]; simp [rowK]⟩
  | sl p => exact .inr ⟨hi.1, rfl, rfl⟩
  | f => exact absurd rfl hi.2
  | fr k => exact absurd (show k < 0 from hi.1) (by omega)
  | le k p => exact absurd (show k < 0 from hi.1.1) (by omega)) (fun i k _ _ e => e)
 refine ⟨fun i => match i with | .r => v1 | .b => v2 | .n => v3 | .s => val .s | .sl p => val (.sl p) | _ => nilV, ⟨fun i hi => ?_, fun i k hi hk hne => ?_⟩, fun i hi => ?_, H.out⟩
 ·
  by_cases e : i = .f
  · subst e; exact World.ownsRow_nil _ _ _ _
  ·
   have := hJ.own i ⟨hi, e⟩;cases i with
   | f => exact absurd rfl e
   | fr k => exact absurd (show k < 0 from hi) (by omega)
   | le k p => exact absurd (show k < 0 from hi.1) (by omega)
   | _ => exact this
 ·
  by_cases e : i = .f
  · subst e; exact .inl rfl
  ·
   by_cases e2 : k = .f
   · subst e2;generalize (match i with | Key.r => v1 | Key.b => v2 | Key.n => v3 | Key.s => val .s | Key.sl p => val (.sl p) | _ => nilV).ownBlock = o;show o = none ∨ o ≠ none;cases o <;> simp
   · exact hJ.sep i k ⟨hi, e⟩ ⟨hk, e2⟩ hne
 ·
  cases i with
  | r => exact n1
  | b => exact n2
  | n => exact n3
  | s => exact n4 .s trivial
  | sl p => exact n4 (.sl p) hi
  | _ => (show (none : Option Nat) ≠ some P; simp)
theorem AsyB.withPack {base P : Nat} {x : Asy} {vx : Key → Value} {row : List Ends} (h : AsyB w base vx x P) (hp : Pack w N 102 (letD row) row.length row.length val) (hb : base ≤ N) (hN : ∀ i, keyOf x i → ∀ g, (vx i).ownBlock = some g → g < N) (hP : P < N) :
  ∃ val', val' .f = vx .f ∧ val' (.fr x.flight.length) = val .s ∧ AsyFB w base val' x row P := by
 obtain ⟨L, hL⟩ : ∃ L, L = x.flight.length := ⟨_, rfl⟩
 have hval : ∃ val' : Key → Value, val' = fun i => match i with | .fr k => if k = L then val .s else vx (.fr k) | .le k p => if k = L then val (.sl p) else vx (.le k p) | j => vx j := ⟨_, rfl⟩
 obtain ⟨val', hv'⟩ := hval;have e1 : ∀ k, k ≠ L → val' (.fr k) = vx (.fr k) := fun k hk => by rw [hv']; show (if k = L then _ else _) = _; rw [if_neg hk]
 have e2 : ∀ k p, k ≠ L → val' (.le k p) = vx (.le k p) := fun k p hk => by rw [hv']; show (if k = L then _ else _) = _; rw [if_neg hk]
 have e3 : val' (.fr L) = val .s := by rw [hv']; show (if L = L then _ else _) = _; rw [if_pos rfl]
 have e4 : ∀ p, val' (.le L p) = val (.sl p) := fun p => by rw [hv']; show (if L = L then _ else _) = _; rw [if_pos rfl]
 have e5 : val' .r = vx .r ∧ val' .b = vx .b ∧ val' .n = vx .n ∧ val' .s = vx .s ∧ val' .f = vx .f ∧ ∀ p, val' (.sl p) = vx (.sl p) := by rw [hv']; exact ⟨rfl, rfl, rfl, rfl, rfl, fun _ => rfl⟩
 clear hv';obtain ⟨f1, f2, f3, f4, f5, f6⟩ := e5;have hR : ∀ i, keyOf (withRow x row) i → (keyOf x i ∧ val' i = vx i ∧ rowF x row val' i = rowK x vx i) ∨ (i = .fr L ∧ rowF x row val' i = packR 102 (letD row) row.length row.length val .s) ∨ ∃ p, i = .le L p ∧ p < row.length ∧ rowF x row val' i = letD row p := fun i hi => by
  unfold rowF;rcases keyOf_row hi with h1 | h1 | ⟨p, h1, h2⟩
  ·
   by_cases c0 : i = .f
   · subst c0;refine .inl ⟨h1, f5, ?_⟩;rw [upd_same, valsOf_congr (fun k hk => e1 k (by omega))]; rfl
   rw [upd_ne _ _ c0];cases i with
   | f => exact absurd rfl c0
   | fr k =>
    have hk : k < x.flight.length := h1;refine .inl ⟨h1, e1 k (by omega), ?_⟩;show (⟨_, _, (portsAt (withRow x row) k).length, valsOf (.le k) val' (portsAt (withRow x row) k).length⟩ : RowD) = _;rw [portsAt_row row k (by omega), if_neg (by omega), valsOf_congr (fun q _ => e2 k q (by omega))]; rfl
   | le k p =>
    have hk : k < x.flight.length := h1.1;refine .inl ⟨h1, e2 k p (by omega), ?_⟩;show (⟨_, _, (lettersAt (withRow x row) k p).length, letCells (lettersAt (withRow x row) k p)⟩ : RowD) = _;have e : lettersAt (withRow x row) k p = lettersAt x k p := by unfold lettersAt; rw [portsAt_row row k (by omega), if_neg (by omega)]
    rw [e]; rfl
   | s => refine .inl ⟨h1, f4, ?_⟩; show (⟨_, _, _, valsOf .sl val' _⟩ : RowD) = _; rw [valsOf_congr (fun p _ => f6 p)]; rfl
   | sl p => exact .inl ⟨h1, f6 p, rfl⟩
   | r => exact .inl ⟨h1, f1, rfl⟩
   | b => exact .inl ⟨h1, f2, rfl⟩
   | n => exact .inl ⟨h1, f3, rfl⟩
  ·
   rw [← hL] at h1;subst h1;refine .inr (.inl ⟨rfl, ?_⟩);rw [upd_ne _ _ (by simp)];show (⟨_, _, (portsAt (withRow x row) L).length, valsOf (.le L) val' (portsAt (withRow x row) L).length⟩ : RowD) = _;rw [portsAt_row row L (by omega), if_pos hL];have e : valsOf (.le L) val' row.length = valsOf .sl val row.length := by unfold valsOf; exact List.map_congr_left fun p _ => e4 p
   rw [e];show _ = (⟨_, _, _, valsOf .sl val row.length ++ List.replicate (row.length - row.length) nilV⟩ : RowD);rw [Nat.sub_self, List.replicate_zero, List.append_nil]
  ·
   rw [← hL] at h1;subst h1;refine .inr (.inr ⟨p, rfl, h2, ?_⟩);rw [upd_ne _ _ (by simp)];show (⟨_, _, (lettersAt (withRow x row) L p).length, letCells (lettersAt (withRow x row) L p)⟩ : RowD) = _;have e : lettersAt (withRow x row) L p = row.getD p [] := by unfold lettersAt; rw [portsAt_row row L (by omega), if_pos hL]
   rw [e]; rfl
 have hJ : AsyF w base val' x row := OwnK.join (K' := keyOf (withRow x row)) (R' := rowF x row val') h.k hp hb hN (fun i => match i with | .fr k => if k = L then .s else .r | .le k p => if k = L then .sl p else .r | _ => .r) (fun i hi => by
  rcases hR i hi with ⟨a, b, c⟩ | ⟨a, b⟩ | ⟨p, a, b, c⟩
  · exact .inl ⟨a, b, c⟩
  · subst a;refine .inr ?_;show packK row.length (if L = L then _ else _) ∧ val' (.fr L) = val (if L = L then _ else _) ∧ _ = packR _ _ _ _ val (if L = L then _ else _);rw [if_pos rfl];exact ⟨trivial, e3, b⟩
  · subst a;refine .inr ?_;show packK row.length (if L = L then _ else _) ∧ val' (.le L p) = val (if L = L then _ else _) ∧ _ = packR _ _ _ _ val (if L = L then _ else _);rw [if_pos rfl];exact ⟨b, e4 p, c⟩) (fun i k hi hk e => by
  cases i with
  | fr a =>
   by_cases ea : a = L
   ·
    cases k with
    | fr b =>
     by_cases eb : b = L
     · rw [ea, eb]
     · simp only [if_neg eb] at hk; exact hk.elim
    | le b q =>
     by_cases eb : b = L
     · simp [ea, eb] at e
     · simp only [if_neg eb] at hk; exact hk.elim
    | _ => exact hk.elim
   · simp only [if_neg ea] at hi; exact hi.elim
  | le a p =>
   by_cases ea : a = L
   ·
    cases k with
    | le b q =>
     by_cases eb : b = L
     · simp [ea, eb] at e; rw [ea, eb, e]
     · simp only [if_neg eb] at hk; exact hk.elim
    | fr b =>
     by_cases eb : b = L
     · simp [ea, eb] at e
     · simp only [if_neg eb] at hk; exact hk.elim
    | _ => exact hk.elim
   · simp only [if_neg ea] at hi; exact hi.elim
  | _ => exact hi.elim)
 refine ⟨val', f5, by rw [← hL]; exact e3, hJ, fun i hi => ?_, ?_⟩
 ·
  rcases hR i hi with ⟨a, b, c⟩ | ⟨a, b⟩ | ⟨p, a, b, c⟩
  · rw [b]; exact h.ne i a
  · subst a; rw [e3];exact fun e => by have := ((OwnK.own hp .s trivial).lt P e).1; omega
  · subst a; rw [e4];exact fun e => by have := ((OwnK.own hp (.sl p) b).lt P e).1; omega
 · rw [f1, f2, f3, f4, f5]; exact h.box
end
end Go.Proofs.YtjklbjmdgiddcaaGreat
namespace Go.Proofs.YtjklbjmdgiddcaaGreat
open Go.RowKit
set_option linter.all false
set_option maxRecDepth 100000 in
theorem lets_Clone (v : Value) (ls : Ends) (w : World) (h : EndsR w (· < w.heap.size) v ls) (hl : ls.length ≤ 2000000) :
  Calls Tryz.prog 84 #[v] w fun e w' => ∃ v', e = .returned v' ∧ w'.ownsRow w.heap.size 129 2 v' ls.length (letCells ls) ∧ Below w.heap.size w w' := by
 obtain ⟨v', w', hrun, ho, hb⟩ := run_ownLets w v ls 102 h hl;have HR := aA hrun;obtain ⟨A0, c, rfl, h1, h2, h3, h4⟩ := h;have q22 : ∀ (W : World) (a : Option Addr) (n c n' c' : Nat), (binOp .eql 102 (.slice a n c) (.slice none n' c')).run Tryz.prog W = .ok (.bool a.isNone) W := fun W a n c n' c' => Lib.run_eql_slice_nil W _ _ a n c n' c' Tryz.underlying102
 cases A0 with
 | none =>
  have h0 : ls.length = 0 := by
   rcases Nat.eq_zero_or_pos ls.length with h | h
   · exact h
   · obtain ⟨b, o, e, -⟩ := h4 h;cases e
  obtain rfl : ls = [] := List.eq_nil_of_length_eq_zero h0;have FIN := aA (show (w.ownsRow w.heap.size 129 2 (.slice none 0 0) 0 (letCells []) ∧ Below w.heap.size w w) from ⟨World.ownsRow_nil _ _ _ _, Below.refl _ _⟩);clear hrun ho hb h4 HR h0;simp only [List.length_nil];go_enter Tryz.func84, Tryz.ntmps84;go_wp2_with fail;go_ret;exact ⟨_, rfl, FIN.out.1, FIN.out.2⟩
 | some ad =>
  have FIN := aA (⟨ho, hb⟩ : w'.ownsRow w.heap.size 129 2 v' ls.length (letCells ls) ∧ Below w.heap.size w w');clear hrun ho hb h4;go_enter Tryz.func84, Tryz.ntmps84;go_wp2_with (at_builtin; refine Lib.wpList_append_run _ rfl _ _ _ _ rfl _ _ rfl rfl _ _ HR.out ?_)
  go_ret;exact ⟨_, rfl, FIN.out.1, FIN.out.2⟩
theorem rowOf_nil2 (n : Nat) (z : Value) : rowOf [] n z = (List.replicate n z).toArray := by simp [rowOf]
theorem own_made1 (w : World) (e : TypeId) (n : Nat) (hn : n ≤ maxLen) : (w.alloc (.cells (rowOf [] n nilV) e)).ownsRow w.heap.size e 1 (.slice (some ⟨w.heap.size, 0, none⟩) n n) n (List.replicate n nilV) := by rw [rowOf_nil2];exact ⟨by simp, .inr ⟨w.heap.size, n, _, rfl, Nat.le_refl _, heap_alloc_new w _, Nat.le_refl _, hn, by simp, by simp⟩⟩
theorem pack_cell {w1 : World} {N n j g cap : Nat} {ty : TypeId} {val : Key → Value} (h : w1.ownsRow N ty 1 (.slice (some ⟨g, 0, none⟩) n cap) n (valsOf .sl val j ++ List.replicate (n - j) nilV)) (hj : j < n) :
    w1.cell? ⟨g, j, none⟩ = some (.slice none 0 0) ∧ w1.frozen? ⟨g, j, none⟩ = false := by
  rcases h.2 with ⟨e, -⟩ | ⟨g', cap', cur, e, q1, q2, q3, q4, q5, q6⟩
  · cases e
  · cases e
    have e1 : cur.toList[j]? = some nilV := by
      have h1 : (cur.toList.take (n * 1))[j]? = some nilV := by rw [q6, List.getElem?_append_right (by rw [valsOf_len]; exact Nat.le_refl _), valsOf_len, Nat.sub_self, List.getElem?_replicate, if_pos (by omega)]
      rwa [List.getElem?_take_of_lt (by omega)] at h1
    exact ⟨by rw [cell_of_row w1 _ j _ _ (0, 0) q2]; simpa [nilV] using e1, by simp [World.frozen?, q2]⟩
theorem rows_at {w W : World} {v : Value} {xss : List (List Int)} (h : RowsR w w.heap.size v xss) (hb : Below w.heap.size w W) : RowsR W W.heap.size v xss := (h.below hb).more hb.size
def ClRel (xss : List (List Int)) (w : World) (i : Value) (wr : World) : Prop := Below w.heap.size w wr ∧ ∃ (k : Nat) (val : Key → Value), k ≤ xss.length ∧ i = .int .i64 k ∧ val .s = .slice (some ⟨w.heap.size, 0, none⟩) xss.length xss.length ∧ Pack wr w.heap.size 24 (intD xss) xss.length k val
theorem getD_some {α : Type} {l : List α} {k : Nat} {y d : α} (h : l[k]? = some y) : l.getD k d = y := by rw [aG, h]; rfl
set_option maxRecDepth 100000 in
theorem impl_copyLists (v : Value) (xss : List (List Int)) (w : World) (h : RowsR w w.heap.size v xss) (h40 : xss.length ≤ 40) (hl : ∀ s ∈ xss, s.length ≤ 2000000) :
  Calls Tryz.prog 83 #[v] w fun e w' => ∃ val, e = .returned (val .s) ∧ Pack w' w.heap.size 24 (intD xss) xss.length xss.length val ∧ Below w.heap.size w w' := by
 obtain ⟨A0, c, rfl, h1, h2, h3⟩ := h.open_;have HL := aA hl;have H3 := aA h3;clear h hl h3;have hmk := fun W => run_make1 (P := Tryz.prog) 22 24 (.slice none 0 0) 24 Tryz.underlying22 sliceInfo1 rfl xss.length (by omega) (by omega) W
 obtain ⟨val0, hv0, hp0⟩ := Pack.start (intD xss) (own_made1 w 24 xss.length (by unfold maxLen; omega));unfold nilV at hp0;have HP0 := aA hp0;have HV0 := aA hv0;clear hp0 hv0;go_enter Tryz.func83, Tryz.ntmps83;go_wp2;clear hmk;go_loopw [10] (fun i wr => ClRel xss w i wr) (fun i _ => xss.length - (intOf i).toNat)
 case atStart => exact ⟨bl_alloc (Below.refl _ _) _, 0, val0, Nat.zero_le _, rfl, HV0.out, HP0.out⟩
 case round =>
  obtain ⟨hbl, k, val, hk, rfl, hvs, hp⟩ := hrel;have hsz := hbl.size;have HVS := aA hvs;have hps := hp.top;rw [hvs] at hps;have hgt := ((hps.lt w.heap.size rfl).2)
  have HP := aA hp;by_cases hlt : k < xss.length
  ·
   obtain ⟨xs, hxs⟩ : ∃ xs, xss[k]? = some xs := ⟨xss[k], aC hlt⟩
   obtain ⟨ad, rfl, hb, hc⟩ := H3.out (by omega);obtain ⟨u, hu, hr⟩ := hc k xs hxs;have hcell : wr.cell? (ad.add k) = some u := (hbl.cell (p := ad.add k) (by rw [block_add]; exact hb)).trans hu;obtain ⟨Au, mu, cu, rfl⟩ := hr.isSlice;have HR := aA ((hr.below hbl).more hsz);have hxl := HL.out xs (aN hxs);have HXS := aA (getD_some (d := []) hxs);clear hc hr hu hxs hp hps hvs;have h0k : (0 : Int) ≤ (k : Int) := by omega
   go_wp2_with fail;refine (impl_Clone _ xs wr HR.out hxl).mono ?_;rintro e w1 ⟨u2, rfl, ho, -, hb1⟩;obtain ⟨A1, c1, rfl⟩ := own_sl1 ho;have hs1 := hb1.size;obtain ⟨val', hv', hp'⟩ := HP.out.step hlt HVS.out (grown_below hb1) (u := .slice A1 xs.length c1) (by show w1.ownsRow _ 3 1 _ (xss.getD k []).length ((xss.getD k []).map intV); rw [HXS.out]; exact own_mono ho hsz) (fresh_of ho);have hown1 := own_up (HP.out.top) hb1;rw [HVS.out] at hown1;obtain ⟨hc1, hf1⟩ := pack_cell hown1 hlt;have HP' := aA hp';have HV' := aA (hv'.trans HVS.out);have HB1 := aA hb1;clear hp' hv' hown1 ho hb1;go_wp2_with fail;go_roundw
   case rel => exact ⟨(hbl.trans (HB1.out.mono hsz)).setCell (Nat.le_refl _) _, k + 1, val', by omega, by go_num, HV'.out, HP'.out⟩
   case measure => simp [intOf]; omega
  ·
   obtain rfl : k = xss.length := by omega
   clear hp hps;go_wp2;go_ret;exact ⟨val, by rw [HVS.out]; rfl, HP.out, hbl⟩
end Go.Proofs.YtjklbjmdgiddcaaGreat
