/-
  Which acts are possible: the plain law, case by case. No program in sight, no condition.
-/
import Derived.Test.YtcpbbjocaimocaaGreatEPlainAsync
namespace Go.Proofs.YtcpbbjocaimocaaGreat
set_option linter.all false
theorem propB_dec {p : Prop} {b : Bool} (h : p ↔ b = true) : propB p = b := by
  cases b with
  | true => exact propB_t (h.2 rfl)
  | false => exact propB_f fun k => by have := h.1 k; cases this
structure AtP (n : Net) (x : Asy) (k : Nat) (l : Ends) (s : List Int) (f : List Ends) (r : Int) : Prop where
  hl : n.es[k]? = some l
  hs : x.slots[k]? = some s
  hf : x.flight[k]? = some f
  hr : x.rounds[k]? = some r
  sl : s.length = l.length
  fl : f.length = l.length
  r0 : 0 ≤ r ∧ r ≤ 40
  ls : ∀ y ∈ f, y.length ≤ 12
theorem at_of {m : Mach} {n : Net} {x : Asy} {k : Nat} (h : asyP m n x) (hk : k < n.es.length) : ∃ l s f r, AtP n x k l s f r := by
  have h1 : k < x.slots.length := by rw [h.2.2.2.1]; exact hk
  have h2 : k < x.flight.length := by rw [h.2.2.2.2.1]; exact hk
  have h3 : k < x.rounds.length := by have := h.1.1; omega
  have e1 := List.getElem?_eq_getElem hk
  have e2 := List.getElem?_eq_getElem h1
  have e3 := List.getElem?_eq_getElem h2
  have hs := h.2.2.2.2.2 k _ _ _ e1 e2 e3
  refine ⟨_, _, _, _, e1, e2, e3, List.getElem?_eq_getElem h3, hs.1, hs.2.1, ?_, fun y hy => (hs.2.2.2 y hy).1⟩
  have := h.1.2 _ (List.getElem_mem h3)
  omega
section
variable {n : Net} {x : Asy} {k : Nat} {l : Ends} {s : List Int} {f : List Ends} {r : Int}
theorem AtP.lt (h : AtP n x k l s f r) : k < n.es.length := (List.getElem?_eq_some_iff.1 h.hl).1
theorem AtP.gets (h : AtP n x k l s f r) : n.es.getD (k : Int).toNat [] = l ∧ x.slots.getD (k : Int).toNat [] = s ∧ x.flight.getD (k : Int).toNat [] = f ∧ x.rounds.getD (k : Int).toNat 0 = r := by
  simp only [Int.toNat_natCast, List.getD_eq_getElem?_getD, h.hl, h.hs, h.hf, h.hr, Option.getD_some, and_self]
theorem may_no1 {ak an ap aa : Int} (h : inB an 0 ((n.es.length : Int) - 1) = false) : mayB n x ⟨ak, an, ap, aa⟩ = false := propB_f fun hp => by
  have h0 : 0 ≤ an := hp.1.1
  have h1 : an < n.es.length := hp.1.2
  rw [inB_t ⟨h0, by omega⟩] at h
  cases h
theorem may_step (h : AtP n x k l s f r) (ap aa : Int) : mayB n x ⟨5, (k : Int), ap, aa⟩ = (decide (ap = 0) && (decide (aa = 0) && (decide (r < 40) && !s.contains (-1)))) := propB_dec (by
  obtain ⟨-, e2, -, e4⟩ := h.gets
  have hk := h.lt
  unfold mayP
  simp only [e2, e4, Bool.and_eq_true, decide_eq_true_eq, Bool.not_eq_true', List.contains_eq_mem, decide_eq_false_iff_not, true_and, ne_eq, not_true_eq_false, false_and, or_false]
  exact ⟨fun hm => hm.2, fun hm => ⟨by omega, hm⟩⟩)
theorem may_no2 {ak ap aa : Int} (h : AtP n x k l s f r) (h5 : ak ≠ 5) (hp : ¬ (0 ≤ ap ∧ ap < l.length)) : mayB n x ⟨ak, (k : Int), ap, aa⟩ = false := propB_f fun hm => by
  obtain ⟨e1, -, -, -⟩ := h.gets
  unfold mayP at hm
  simp only [e1] at hm
  rcases hm.2 with h1 | h1
  · exact h5 h1.1
  · exact hp h1.2.1
variable {p : Nat} {ls : Ends}
theorem AtP.here (h : AtP n x k l s f r) (hp : f[p]? = some ls) : hereL x (k : Int) (p : Int) = ls := by
  unfold hereL
  rw [h.gets.2.2.1, Int.toNat_natCast, List.getD_eq_getElem?_getD, hp]
  rfl
theorem AtP.lp (h : AtP n x k l s f r) (hp : f[p]? = some ls) : (p : Int) < l.length := by
  have := (List.getElem?_eq_some_iff.1 hp).1
  have := h.fl
  omega
theorem may_send (h : AtP n x k l s f r) (hp : f[p]? = some ls) {e : Int × Int} (he : l[p]? = some e) {k2 p2 : Nat} {l2 : Ends} {s2 : List Int} {f2 : List Ends} {r2 : Int} (h2 : AtP n x k2 l2 s2 f2 r2) {ls2 : Ends} (hp2 : f2[p2]? = some ls2)
    (e1 : e.1 = k2) (e2 : e.2 = p2) (aa : Int) : mayB n x ⟨1, (k : Int), (p : Int), aa⟩ = (decide (0 ≤ aa ∧ aa ≤ 1) && (decide (aa ≤ r) && decide (ls2.length < 12))) := propB_dec (by
  obtain ⟨g1, -, -, g4⟩ := h.gets
  have hk := h.lt
  have hpl := h.lp hp
  have ee : l.getD (p : Int).toNat (0, 0) = e := by rw [Int.toNat_natCast, List.getD_eq_getElem?_getD, he]; rfl
  have eh : hereL x e.1 e.2 = ls2 := by rw [e1, e2]; exact h2.here hp2
  unfold mayP
  simp only [g1, g4, ee, eh, Bool.and_eq_true, decide_eq_true_eq, show ((1 : Int) = 5) = False by simp, false_and, false_or]
  refine ⟨fun hm => ?_, fun hm => ⟨⟨by omega, by omega⟩, by omega, ⟨by omega, hpl⟩, Or.inl ⟨trivial, hm⟩⟩⟩
  rcases hm.2.2.2 with h1 | h1 | h1
  · exact h1.2
  · have := h1.1; omega
  · have := h1.1; omega)
theorem may_let (h : AtP n x k l s f r) (hp : f[p]? = some ls) {ak : Int} (ha : ak = 2 ∨ ak = 3) (aa : Int) : mayB n x ⟨ak, (k : Int), (p : Int), aa⟩ = decide (0 ≤ aa ∧ aa < ls.length) := propB_dec (by
  have hk := h.lt
  have hpl := h.lp hp
  unfold mayP
  simp only [h.gets.1, h.here hp, decide_eq_true_eq]
  omega)
theorem may_copy (h : AtP n x k l s f r) (hp : f[p]? = some ls) (aa : Int) : mayB n x ⟨4, (k : Int), (p : Int), aa⟩ = (decide (0 ≤ aa ∧ aa < ls.length) && decide (ls.length < 12)) := propB_dec (by
  have hk := h.lt
  have hpl := h.lp hp
  unfold mayP
  simp only [h.gets.1, h.here hp, Bool.and_eq_true, decide_eq_true_eq, show ((4 : Int) = 5) = False by simp, false_and, false_or]
  refine ⟨fun hm => ?_, fun hm => ⟨⟨by omega, by omega⟩, by omega, ⟨by omega, hpl⟩, Or.inr (Or.inr ⟨trivial, hm⟩)⟩⟩
  rcases hm.2.2.2 with h1 | h1 | h1
  · have := h1.1; omega
  · have := h1.1; omega
  · exact h1.2)
theorem may_else (h : AtP n x k l s f r) {ak ap aa : Int} (h5 : ak ≠ 5) (h1 : ak ≠ 1) (h2 : ak ≠ 2) (h3 : ak ≠ 3) (h4 : ak ≠ 4) : mayB n x ⟨ak, (k : Int), ap, aa⟩ = false := propB_f fun hm => by
  unfold mayP at hm
  simp only at hm
  omega
theorem at_end {m : Mach} (ha : asyP m n x) (hn : netP n) (h : AtP n x k l s f r) {e : Int × Int} (he : l[p]? = some e) : ∃ (k2 p2 : Nat) (l2 : Ends) (s2 : List Int) (f2 : List Ends) (r2 : Int) (ls2 : Ends), e.1 = k2 ∧ e.2 = p2 ∧ AtP n x k2 l2 s2 f2 r2 ∧ f2[p2]? = some ls2 ∧ l2[p2]? = some ((k : Int), (p : Int)) := by
  obtain ⟨h0, h1, m', hm, hx⟩ := (hn.2.2.2.2 k l h.hl).2 p e he
  have hk2 := (List.getElem?_eq_some_iff.1 hm).1
  obtain ⟨l2, s2, f2, r2, h2⟩ := at_of ha hk2
  obtain rfl := Option.some.inj (h2.hl.symm.trans hm)
  have hp2 : e.2.toNat < f2.length := by rw [h2.fl]; exact (List.getElem?_eq_some_iff.1 hx).1
  exact ⟨e.1.toNat, e.2.toNat, l2, s2, f2, r2, _, by omega, by omega, h2, List.getElem?_eq_getElem hp2, hx⟩
end
end Go.Proofs.YtcpbbjocaimocaaGreat
