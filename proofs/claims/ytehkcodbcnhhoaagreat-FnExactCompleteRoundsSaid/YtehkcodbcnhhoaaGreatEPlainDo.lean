/-
  An act leads from a valid state to a valid state: the plain law. No program in sight, no condition.
-/
import Derived.Test.YtehkcodbcnhhoaaGreatESyDo
namespace Go.Proofs.YtehkcodbcnhhoaaGreat
set_option linter.all false
theorem rowP.set {l : List Int} {many most : Int} (h : rowP l many most) (k : Nat) {y : Int} (hy : 0 ≤ y ∧ y ≤ most - 1) : rowP (l.set k y) many most :=
  ⟨by rw [List.length_set]; exact h.1, fun z hz => by
    rcases List.mem_or_eq_of_mem_set hz with h1 | h1
    · exact h.2 z h1
    · rw [h1]; exact hy⟩
section
variable {m : Mach} {n : Net} {x : Asy}
theorem asyP.slots (h : asyP m n x) (k : Nat) (s' : List Int) (h1 : ∀ l, n.es[k]? = some l → s'.length = l.length) (h2 : ∀ y ∈ s', -1 ≤ y ∧ y ≤ m.msg - 1) : asyP m n { x with slots := x.slots.set k s' } :=
  ⟨h.1, h.2.1, h.2.2.1, by show (x.slots.set k s').length = _; rw [List.length_set]; exact h.2.2.2.1, h.2.2.2.2.1, fun v l s f hl hs hf => by
    have hs' : (x.slots.set k s')[v]? = some s := hs
    rw [List.getElem?_set] at hs'
    split at hs'
    · next e =>
      subst e
      split at hs'
      · next hk =>
        obtain rfl := Option.some.inj hs'
        have h0 := h.2.2.2.2.2 k l _ f hl (List.getElem?_eq_getElem hk) hf
        exact ⟨h1 l hl, h0.2.1, h2, h0.2.2.2⟩
      · cases hs'
    · exact h.2.2.2.2.2 v l s f hl hs' hf⟩
theorem asyP.flights (h : asyP m n x) (k : Nat) (f' : List Ends) (h1 : ∀ l, n.es[k]? = some l → f'.length = l.length) (h2 : ∀ ls ∈ f', letP m ls) : asyP m n { x with flight := x.flight.set k f' } :=
  ⟨h.1, h.2.1, h.2.2.1, h.2.2.2.1, by show (x.flight.set k f').length = _; rw [List.length_set]; exact h.2.2.2.2.1, fun v l s f hl hs hf => by
    have hf' : (x.flight.set k f')[v]? = some f := hf
    rw [List.getElem?_set] at hf'
    split at hf'
    · next e =>
      subst e
      split at hf'
      · next hk =>
        obtain rfl := Option.some.inj hf'
        have h0 := h.2.2.2.2.2 k l s _ hl hs (List.getElem?_eq_getElem hk)
        exact ⟨h0.1, h1 l hl, h0.2.2.1, h2⟩
      · cases hf'
    · exact h.2.2.2.2.2 v l s f hl hs hf'⟩
theorem asyP.letters (h : asyP m n x) {k p : Nat} {l : Ends} {s : List Int} {f : List Ends} {r : Int} (hat : AtP n x k l s f r) (ls' : Ends) (h1 : letP m ls') : asyP m n { x with flight := x.flight.set k ((portsAt x k).set p ls') } := by
  have hpa := portsAt_eq hat.hf
  have h0 := h.2.2.2.2.2 k l s f hat.hl hat.hs hat.hf
  refine h.flights k _ (fun l' hl' => ?_) (fun ls hls => ?_)
  · obtain rfl := Option.some.inj (hat.hl.symm.trans hl')
    rw [List.length_set, hpa]; exact hat.fl
  · rw [hpa] at hls
    rcases List.mem_or_eq_of_mem_set hls with h2 | h2
    · exact h0.2.2.2 ls h2
    · rw [h2]; exact h1
theorem asyP.slot (h : asyP m n x) {k p : Nat} {l : Ends} {s : List Int} {f : List Ends} {r : Int} (hat : AtP n x k l s f r) {y : Int} (hy : -1 ≤ y ∧ y ≤ m.msg - 1) : asyP m n { x with slots := x.slots.set k ((slotsAt x k).set p y) } := by
  have hsa := slotsAt_eq hat.hs
  have h0 := h.2.2.2.2.2 k l s f hat.hl hat.hs hat.hf
  refine h.slots k _ (fun l' hl' => ?_) (fun z hz => ?_)
  · obtain rfl := Option.some.inj (hat.hl.symm.trans hl')
    rw [List.length_set, hsa]; exact hat.sl
  · rw [hsa] at hz
    rcases List.mem_or_eq_of_mem_set hz with h2 | h2
    · exact h0.2.2.1 z h2
    · rw [h2]; exact hy
theorem next_range (hp : maP m) {sq : Int} (hs : 0 ≤ sq ∧ sq ≤ m.st - 1) (ib : List Int) : 0 ≤ nextS m sq ib ∧ nextS m sq ib ≤ m.st - 1 := by
  unfold nextS
  split
  · next hc =>
    rcases clI_cases (fitsB sq ib) m.cls with h | ⟨k, c, h, hk, -⟩
    · rw [h] at hc; omega
    · rw [h, Int.toNat_natCast, List.getD_eq_getElem?_getD, hk]
      exact (hp.2.2.2.2.2.1 c (List.mem_of_getElem? hk)).2.1
  · exact hs
theorem asyP.step (h : asyP m n x) (hp : maP m) {k : Nat} {l : Ends} {s : List Int} {f : List Ends} {r : Int} (hat : AtP n x k l s f r) (hr : r < 40) : asyP m n (stepA m x k) := by
  have hsa := slotsAt_eq hat.hs
  have hkn := hat.lt
  have hkw : k < x.now.length := by have := h.2.2.1.1; omega
  have hsb := h.2.2.1.2 _ (List.getElem_mem hkw)
  have hn : x.now.getD k 0 = x.now[k] := by rw [List.getD_eq_getElem?_getD, List.getElem?_eq_getElem hkw]; rfl
  have hrr : x.rounds.getD k 0 = r := by rw [List.getD_eq_getElem?_getD, hat.hr]; rfl
  have h1 := h.slots k (List.replicate (slotsAt x k).length (-1)) (fun l' hl' => by
    obtain rfl := Option.some.inj (hat.hl.symm.trans hl')
    rw [List.length_replicate, hsa]; exact hat.sl) (fun y hy => by rw [List.eq_of_mem_replicate hy]; have := hp.1.2.2; omega)
  unfold stepA
  rw [hn, hrr]
  have hr0 := hat.r0
  exact ⟨h.1.set k (by omega), h.2.1.set k hsb, h.2.2.1.set k (next_range hp hsb _), h1.2.2.2.1, h1.2.2.2.2.1, fun v l s f hl hs hf => h1.2.2.2.2.2 v l s f hl hs hf⟩
theorem letP.snoc {ls : Ends} (h : letP m ls) (hl : ls.length < 12) {e : Int × Int} (he : (0 ≤ e.1 ∧ e.1 ≤ 40) ∧ 0 ≤ e.2 ∧ e.2 ≤ m.msg - 1) : letP m (ls ++ [e]) :=
  ⟨by rw [List.length_append, List.length_singleton]; omega, fun y hy => by
    rcases List.mem_append.1 hy with h1 | h1
    · exact h.2 y h1
    · rw [List.mem_singleton.1 h1]; exact he⟩
theorem good_doA (hg : goodP m n x) {ak an ap aa : Int} (hmay : mayB n x ⟨ak, an, ap, aa⟩ = true) : goodP m n (doA m n x ⟨ak, an, ap, aa⟩) := by
 refine ⟨hg.1, ?_⟩
 have ha := hg.2
 have hq := hg.1.2.1
 have hmp := hg.1.1
 cases h1 : inB an 0 ((n.es.length : Int) - 1) with
 | false => rw [may_no1 h1] at hmay; cases hmay
 | true =>
  obtain ⟨k, rfl, hk⟩ := inB_nat h1
  obtain ⟨l, s, f, r, hat⟩ := at_of ha hk
  have h0 := ha.2.2.2.2.2 k l s f hat.hl hat.hs hat.hf
  by_cases h5 : ak = 5
  ·
   subst h5
   rw [may_step hat] at hmay
   rw [Bool.and_eq_true, Bool.and_eq_true, Bool.and_eq_true, decide_eq_true_iff, decide_eq_true_iff, decide_eq_true_iff] at hmay
   obtain ⟨rfl, rfl, hr, -⟩ := hmay
   rw [doA_step]
   exact ha.step hmp hat hr
  ·
   by_cases hp : 0 ≤ ap ∧ ap < l.length
   ·
    obtain ⟨p, rfl⟩ : ∃ p : Nat, ap = p := ⟨ap.toNat, by omega⟩
    have hpl : p < l.length := by omega
    obtain ⟨ls, hls⟩ : ∃ y, f[p]? = some y := ⟨_, List.getElem?_eq_getElem (by rw [hat.fl]; exact hpl)⟩
    have hlp := h0.2.2.2 ls (List.mem_of_getElem? hls)
    by_cases h1' : ak = 1
    ·
     subst h1'
     obtain ⟨e, he⟩ : ∃ y, l[p]? = some y := ⟨_, List.getElem?_eq_getElem hpl⟩
     obtain ⟨k2, p2, l2, s2, f2, r2, ls2, e1, e2, hat2, hp2, -⟩ := at_end ha hq hat he
     have ee : e = ((k2 : Int), (p2 : Int)) := by rw [← e1, ← e2]
     subst ee
     rw [may_send hat hls he hat2 hp2 rfl rfl, Bool.and_eq_true, Bool.and_eq_true, decide_eq_true_iff, decide_eq_true_iff, decide_eq_true_iff] at hmay
     rw [doA_send m aa hat.hl he]
     unfold sentA
     have hlp2 := (ha.2.2.2.2.2 k2 l2 s2 f2 hat2.hl hat2.hs hat2.hf).2.2.2 ls2 (List.mem_of_getElem? hp2)
     rw [lettersAt_eq hat2.hf hp2]
     have hr0 := hat.r0
     have hrr : x.rounds.getD k 0 = r := by rw [List.getD_eq_getElem?_getD, hat.hr]; rfl
     have hkb : k < x.before.length := by have := ha.2.1.1; omega
     have hkw : k < x.now.length := by have := ha.2.2.1.1; omega
     have hbb := ha.2.1.2 _ (List.getElem_mem hkb)
     have hnb := ha.2.2.1.2 _ (List.getElem_mem hkw)
     have eb : x.before.getD k 0 = x.before[k] := by rw [List.getD_eq_getElem?_getD, List.getElem?_eq_getElem hkb]; rfl
     have en : x.now.getD k 0 = x.now[k] := by rw [List.getD_eq_getElem?_getD, List.getElem?_eq_getElem hkw]; rfl
     obtain ⟨q, hq2, hq3⟩ : ∃ q : Int, (if aa = 1 then x.before.getD k 0 else x.now.getD k 0) = q ∧ 0 ≤ q ∧ q ≤ m.st - 1 := by
      by_cases h : aa = 1
      ·
       exact ⟨_, rfl, by rw [if_pos h, eb]; exact hbb⟩
      ·
       exact ⟨_, rfl, by rw [if_neg h, en]; exact hnb⟩
     rw [hq2, hrr]
     have hsl := hmp.2.1.2.1
     have hql : q.toNat < m.send.length := by omega
     have hrow := hmp.2.2.2.2.1 _ (List.getElem_mem hql)
     have hdeg := hg.1.2.2.1 l (List.mem_of_getElem? hat.hl)
     have hpr : p < (m.send[q.toNat]).length := by have := hrow.1; omega
     have hmsg := hrow.2 _ (List.getElem_mem hpr)
     have em : (m.send.getD q.toNat []).getD p 0 = (m.send[q.toNat])[p] := by
      rw [List.getD_eq_getElem?_getD (l := m.send), List.getElem?_eq_getElem hql, List.getD_eq_getElem?_getD]
      simp [List.getElem?_eq_getElem hpr]
     rw [em]
     exact ha.letters hat2 _ (hlp2.snoc (by omega) ⟨by show 0 ≤ r - aa ∧ r - aa ≤ 40; omega, hmsg⟩)
    ·
     have hak : ak = 2 ∨ ak = 3 ∨ ak = 4 := by
      by_cases h2 : ak = 2
      ·
       exact .inl h2
      ·
       by_cases h3 : ak = 3
       ·
        exact .inr (.inl h3)
       ·
        by_cases h4 : ak = 4
        ·
         exact .inr (.inr h4)
        ·
         rw [may_else hat h5 h1' h2 h3 h4] at hmay; cases hmay
     have haa : (0 ≤ aa ∧ aa < ls.length) ∧ (ak = 4 → ls.length < 12) := by
      rcases hak with rfl | rfl | rfl
      ·
       rw [may_let hat hls (.inl rfl), decide_eq_true_iff] at hmay; exact ⟨hmay, fun h => absurd h (by decide)⟩
      ·
       rw [may_let hat hls (.inr rfl), decide_eq_true_iff] at hmay; exact ⟨hmay, fun h => absurd h (by decide)⟩
      ·
       rw [may_copy hat hls, Bool.and_eq_true, decide_eq_true_iff, decide_eq_true_iff] at hmay; exact ⟨hmay.1, fun _ => hmay.2⟩
     obtain ⟨a, rfl⟩ : ∃ a : Nat, aa = a := ⟨aa.toNat, by omega⟩
     have hal : a < ls.length := by omega
     have hle := hlp.2 _ (List.getElem_mem hal)
     have eg : ls.getD a (0, 0) = ls[a] := by rw [List.getD_eq_getElem?_getD, List.getElem?_eq_getElem hal]; rfl
     rw [doA_let m n x k p (a : Int) h5 h1', Int.toNat_natCast]
     unfold letterA
     rw [lettersAt_eq hat.hf hls, eg]
     by_cases h4 : ak = 4
     ·
      rw [if_pos h4]
      exact ha.letters hat _ (hlp.snoc (haa.2 h4) hle)
     ·
      rw [if_neg h4]
      have hf := ha.letters (p := p) hat (ls.take a ++ ls.drop (a + 1)) ⟨by have := hlp.1; rw [List.length_append, List.length_take, List.length_drop]; omega, fun y hy => by
       rcases List.mem_append.1 hy with h | h
       ·
        exact hlp.2 y (List.mem_of_mem_take h)
       ·
        exact hlp.2 y (List.mem_of_mem_drop h)⟩
      split
      ·
       have hat' : AtP n { x with flight := x.flight.set k ((portsAt x k).set p (ls.take a ++ ls.drop (a + 1))) } k l s ((portsAt x k).set p (ls.take a ++ ls.drop (a + 1))) r := by
        have hkf := (List.getElem?_eq_some_iff.1 hat.hf).1
        refine ⟨hat.hl, hat.hs, ?_, hat.hr, hat.sl, ?_, hat.r0, fun y hy => ?_⟩
        ·
         show (x.flight.set k _)[k]? = _
         rw [List.getElem?_set_self hkf]
        ·
         rw [List.length_set, portsAt_eq hat.hf]; exact hat.fl
        ·
         rw [portsAt_eq hat.hf] at hy
         rcases List.mem_or_eq_of_mem_set hy with h2 | h2
         ·
          exact hat.ls y h2
         ·
          rw [h2]; have := hlp.1; rw [List.length_append, List.length_take, List.length_drop]; omega
       exact hf.slot hat' ⟨by omega, hle.2.2⟩
      ·
       exact hf
   ·
    rw [may_no2 hat h5 hp] at hmay; cases hmay
end
end Go.Proofs.YtehkcodbcnhhoaaGreat
