/-
  The reference's syOwn: what its walk needs: letters copied by append, boxes, the three first lists.
-/
import Derived.Test.YtcpbbjocaimocaaGreatAsyOwn4
import Derived.Test.YtcpbbjocaimocaaGreatSyS2
import Derived.Test.YtcpbbjocaimocaaGreatNetOwn
namespace Go.Proofs.YtcpbbjocaimocaaGreat
open Go.RowKit
set_option linter.unusedVariables false
set_option linter.unusedSimpArgs false
theorem run_ownLets (w : World) (v : Value) (ls : Ends) (ty : TypeId) (h : EndsR w (· < w.heap.size) v ls) (hl : ls.length ≤ 2000000) :
    ∃ v' w', (Builtin.append_ #[120, 120] ty #[.slice (some ⟨w.heap.size, 0, none⟩) 0 0, v]).run Tryz.prog (w.alloc (.cells #[] 156)) = .ok v' w' ∧ w'.ownsRow w.heap.size 156 2 v' ls.length (letCells ls) ∧ Below w.heap.size w w' := by
  obtain ⟨Al, cl, rfl, h1, h2, h3, h4⟩ := h
  obtain ⟨i, hi, hz0, hz1, hz2⟩ := info_parts letInfo
  have hown := World.ownsRow_made (base := w.heap.size) (e := 156) (size := 2) w #[] 0 (Nat.le_refl _) (Nat.zero_le _) (by simp)
  have hb0 := bl_alloc (Below.refl w.heap.size w) (.cells #[] 156)
  have main : ∀ (ad : Addr) (news : List Value), news = letCells ls → (∀ j u, news[j]? = some u → (w.alloc (.cells #[] 156)).cell? (ad.add j) = some u) →
      ∃ v' w', (Builtin.append_ #[120, 120] ty #[.slice (some ⟨w.heap.size, 0, none⟩) 0 0, .slice (some ad) ls.length cl]).run Tryz.prog (w.alloc (.cells #[] 156)) = .ok v' w' ∧ w'.ownsRow w.heap.size 156 2 v' ls.length (letCells ls) ∧ Below w.heap.size w w' := by
    intro ad news hnw hc
    subst hnw
    obtain ⟨v', w', hr, ho, hg, -, -⟩ := run_append_own_at (P := Tryz.prog) (w.alloc (.cells #[] 156)) w.heap.size 120 ty 156 i _ 2 16 Tryz.underlying120 hi hz0 hz1 hz2 rfl (by decide) _ 0 [] hown ad ls.length cl (letCells ls) (letCells_len ls) hc
      (fun u hu => by
        obtain ⟨e, _, he⟩ := List.mem_flatMap.1 hu
        rcases List.mem_cons.1 he with rfl | he
        · rfl
        · rw [List.mem_singleton.1 he]; rfl) (by unfold maxLen; omega) (by omega) (by simp)
    refine ⟨v', w', hr, by simpa using ho, ?_⟩
    exact hb0.grown hg (by simp) (fun k hk => by have e := Option.some.inj (show some w.heap.size = some k from hk); omega)
  by_cases h0 : ls.length = 0
  · obtain rfl : ls = [] := List.eq_nil_of_length_eq_zero h0
    cases Al with
    | none => exact ⟨_, _, run_append_nil0 (P := Tryz.prog) _ 120 ty 156 i Tryz.underlying120 hi w.heap.size 0 0 cl (Nat.zero_le _), hown, hb0⟩
    | some ad => exact main ad [] rfl (fun j u hj => by simp at hj)
  · obtain ⟨b, o, rfl, hb, hc⟩ := h4 (by omega)
    refine main ⟨b, o, none⟩ _ rfl fun j u hj => ?_
    have hj2 : j < ls.length * 2 := by rw [← letCells_len]; exact (List.getElem?_eq_some_iff.1 hj).1
    obtain ⟨e, he⟩ : ∃ e, ls[j / 2]? = some e := ⟨_, List.getElem?_eq_getElem (by omega)⟩
    obtain ⟨k1, k2⟩ := letCells_at he
    obtain ⟨c1, c2⟩ := hc (j / 2) e he
    rw [Addr.add_lit]
    rcases Nat.mod_two_eq_zero_or_one j with hm | hm
    · have ej : j = j / 2 * 2 := by omega
      rw [ej] at hj
      rw [k1] at hj
      rw [← Option.some.inj hj, ej]
      exact Lib.cell?_alloc_some _ c1
    · have ej : j = j / 2 * 2 + 1 := by omega
      rw [ej] at hj
      rw [k2] at hj
      rw [← Option.some.inj hj, ej]
      exact Lib.cell?_alloc_some _ c2
/-- append(v, u) by itself, u in a new block of one cell. -/
theorem oper_append1 {P : Program} (w : World) {o : Oper} {a : Act} {K : Act → World → Prop} {Q : Exit → Act → World → Prop} (s x : Operand) (t : TypeId)
    (ho : o.op = .call { callee := .builtin .append, args := #[s, x], argTypes := #[t, t] })
    (base : Nat) (e : TypeId) (z : Value) (bytes : Nat) (ht : P.underlying t = some (.slice e)) (hinf : (P.info? e).map (fun i => (i.zero, i.size, i.bytes)) = some (some z, 1, bytes)) (hzs : z.cells.size = 1)
    (v : Value) (n : Nat) (xs : List Value) (hs : a.eval s = v) (u : Value) (hu : u.oneCell' = true) (hx : a.eval x = .slice (some ⟨w.heap.size, 0, none⟩) 1 1)
    (hown : w.ownsRow base e 1 v n xs) (h63 : n + 1 ≤ maxLen) (hbytes : (n + 1) * bytes ≤ 140737488355328) (hbase : base ≤ w.heap.size)
    (h : ∀ v' w', w'.ownsRow base e 1 v' (n + 1) (xs ++ [u]) → Below base w w' → w.grownBy w' v.ownBlock → w.heap.size < w'.heap.size → (v'.ownBlock = v.ownBlock ∨ ∃ g, v'.ownBlock = some g ∧ w.heap.size ≤ g ∧ g < w'.heap.size) → K (a.put o.dst v') w') :
    Oper.wp P o a (w.alloc (.cells #[u] e)) K Q := by
  obtain ⟨i, hi, hz0, hz1, hz2⟩ := info_parts hinf
  have hown1 := hown.alloc (.cells #[u] e)
  have hcell : (w.alloc (.cells #[u] e)).cell? ⟨w.heap.size, 0, none⟩ = some u := by rw [World.cell?_alloc_at _ _ _ _ rfl]; rfl
  have hnews : ∀ j u', ([u] : List Value)[j]? = some u' → (w.alloc (.cells #[u] e)).cell? ((⟨w.heap.size, 0, none⟩ : Addr).add j) = some u' := by
    intro j u' hj
    match j, hj with
    | 0, hj =>
      have : u = u' := by simpa using hj
      subst this
      exact hcell
  obtain ⟨v', w', hrun, h2, h3, _, h5⟩ := run_append_own_at (P := P) (w.alloc (.cells #[u] e)) base t o.type e i z 1 bytes ht hi hz0 hz1 hz2 hzs (by decide) v n xs hown1 ⟨w.heap.size, 0, none⟩ 1 1 [u] rfl hnews
    (by intro u' hu'; have : u' = u := by simpa using hu'
        subst this; exact hu) h63 hbytes (by simp; omega)
  have hg : w.grownBy w' v.ownBlock := by
    have h0 := World.grownBy_alloc w (.cells #[u] e) v.ownBlock
    exact ⟨h3.os.trans h0.os, h3.tape.trans h0.tape, h3.output.trans h0.output, Nat.le_trans h0.size h3.size, fun k hk hne => (h3.block k (Nat.lt_of_lt_of_le hk h0.size) hne).trans (h0.block k hk hne)⟩
  have hsz : w.heap.size < w'.heap.size := by have := h3.size; simp at this; omega
  have hB : Below base w w' := (Below.refl base w).grown hg hbase (fun k hk => (hown.lt k hk).1)
  unfold Oper.wp execOp
  simp only [ho, resolve, invoke, builtin, Sem.run_bind, Sem.run_pure, Result.andThen_ok, List.map_toArray, List.map_cons, List.map_nil, hs, hx, hrun]
  refine h v' w' h2 hB hg hsz ?_
  rcases h5 with h5 | h5
  · exact .inl h5
  · refine .inr ⟨_, h5, by simp, ?_⟩
    exact (h2.lt _ h5).2
theorem ints_at {w W : World} {v : Value} {xs : List Int} (h : IntsR w w.heap.size v xs) (hb : Below w.heap.size w W) : IntsR W W.heap.size v xs := (h.below hb).more hb.size
theorem own_up {W w' : World} {base n sz : Nat} {e : TypeId} {v : Value} {vs : List Value} (h : W.ownsRow base e sz v n vs) (hb : Below W.heap.size W w') : w'.ownsRow base e sz v n vs := h.kept (grown_below hb) (by cases v.ownBlock <;> simp)
theorem boxAt {W : World} {p : Addr} {u : Value} (h : W.cell? p = some u) (a b c d e : Value) (t : TypeId) :
    ∃ P w0, W.heap.size = P ∧ w0 = W.alloc (.cells #[a, b, c, d, e] t) ∧ Below W.heap.size W w0 ∧ Hid (w0.heap[P]? = some (.cells #[a, b, c, d, e] t (0, 0))) ∧ P < w0.heap.size := by
  obtain ⟨w0, h1, h2, h3, h4, -⟩ := box5 W a b c d e t
  exact ⟨_, w0, rfl, h1, h2, h3, h4⟩
theorem grownP (w : World) (P i : Nat) (u : Value) : w.grownBy (w.setCell ⟨P, i, none⟩ u) (some P) := ⟨rfl, rfl, rfl, by simp [World.setCell], fun j _ hj => Below.heap_setCell w _ _ _ (fun h => hj (by rw [h]))⟩
theorem grownT {a b c : World} {row : Option Nat} (h : a.grownBy b row) (k : b.grownBy c row) : a.grownBy c row := ⟨k.os.trans h.os, k.tape.trans h.tape, k.output.trans h.output, Nat.le_trans h.size k.size, fun j hj hn => (k.block j (Nat.lt_of_lt_of_le hj h.size) hn).trans (h.block j hj hn)⟩
theorem set1 {W : World} {P : Nat} {cs : Array Value} {t : TypeId} (H : W.heap[P]? = some (.cells cs t (0, 0))) (i : Nat) (a : Value) : ∃ w0, w0 = W.setCell ⟨P, i, none⟩ a ∧ w0.heap[P]? = some (.cells (cs.setIfInBounds i a) t (0, 0)) ∧ W.grownBy w0 (some P) := ⟨_, rfl, heap_set_same H a, grownP _ _ _ _⟩
theorem set5 {W : World} {P : Nat} {o0 o1 o2 o3 o4 : Value} {t : TypeId} (H : Hid (W.heap[P]? = some (.cells #[o0, o1, o2, o3, o4] t (0, 0)))) (a b c d e : Value) : ∃ w0, w0 = (((((W.setCell ⟨P, 0, none⟩ a).setCell ⟨P, 1, none⟩ b).setCell ⟨P, 2, none⟩ c).setCell ⟨P, 3, none⟩ d).setCell ⟨P, 4, none⟩ e) ∧
    Hid (w0.heap[P]? = some (.cells #[a, b, c, d, e] t (0, 0))) ∧ W.grownBy w0 (some P) := by
  obtain ⟨w1, e1, h1, g1⟩ := set1 H.out 0 a
  obtain ⟨w2, e2, h2, g2⟩ := set1 h1 1 b
  obtain ⟨w3, e3, h3, g3⟩ := set1 h2 2 c
  obtain ⟨w4, e4, h4, g4⟩ := set1 h3 3 d
  obtain ⟨w5, e5, h5, g5⟩ := set1 h4 4 e
  exact ⟨w5, by rw [e5, e4, e3, e2, e1], Lib.hid (by simpa using h5), grownT (grownT (grownT (grownT g1 g2) g3) g4) g5⟩
theorem own_setP {W w' : World} {P base n sz : Nat} {e : TypeId} {v : Value} {vs : List Value} (h : W.ownsRow base e sz v n vs) (hg : W.grownBy w' (some P)) (hne : v.ownBlock ≠ some P) : w'.ownsRow base e sz v n vs := h.kept hg (.inr hne)
theorem sep_of {u v : Value} {a b c d : Nat} (h1 : ∀ g, u.ownBlock = some g → a ≤ g ∧ g < b) (h2 : ∀ g, v.ownBlock = some g → c ≤ g ∧ g < d) (h : b ≤ c) : u.ownBlock = none ∨ u.ownBlock ≠ v.ownBlock := by
  cases e : u.ownBlock with
  | none => exact .inl rfl
  | some g => exact .inr fun e' => by have := h1 g e; have := h2 g e'.symm; omega
theorem AsyK.of3 {W : World} {base : Nat} {v1 v2 v3 : Value} {rs bs ns : List Int} (h1 : W.ownsRow base 3 1 v1 rs.length (rs.map intV)) (h2 : W.ownsRow base 3 1 v2 bs.length (bs.map intV)) (h3 : W.ownsRow base 3 1 v3 ns.length (ns.map intV))
    (s12 : v1.ownBlock = none ∨ v1.ownBlock ≠ v2.ownBlock) (s13 : v1.ownBlock = none ∨ v1.ownBlock ≠ v3.ownBlock) (s23 : v2.ownBlock = none ∨ v2.ownBlock ≠ v3.ownBlock) {P : Nat} (n1 : v1.ownBlock ≠ some P) (n2 : v2.ownBlock ≠ some P) (n3 : v3.ownBlock ≠ some P)
    (H : Hid (W.heap[P]? = some (.cells #[v1, v2, v3, .slice none 0 0, .slice none 0 0] 50 (0, 0)))) :
    ∃ val, AsyB W base val ⟨rs, bs, ns, [], []⟩ P := by
  have turn : ∀ {a b : Option Nat}, (a = none ∨ a ≠ b) → (b = none ∨ b ≠ a) := fun {a b} h => by
    cases b with
    | none => exact .inl rfl
    | some g => rcases h with h | h
                · rw [h]; exact .inr (by simp)
                · exact .inr fun e => h e.symm
  refine ⟨fun j => match j with | .r => v1 | .b => v2 | .n => v3 | _ => nilV, ⟨fun j hj => ?_, fun i j hi hj hne => ?_⟩, fun j hj => ?_, H.out⟩
  · cases j with
    | r => exact h1
    | b => exact h2
    | n => exact h3
    | s => exact World.ownsRow_nil _ _ _ _
    | f => exact World.ownsRow_nil _ _ _ _
    | sl k => exact absurd (show k < 0 from hj) (by omega)
    | fr k => exact absurd (show k < 0 from hj) (by omega)
    | le k p => exact absurd (show k < 0 from hj.1) (by omega)
  · cases i with
    | r => cases j with
      | r => exact absurd rfl hne
      | b => exact s12
      | n => exact s13
      | _ => (show v1.ownBlock = none ∨ v1.ownBlock ≠ none; cases v1.ownBlock <;> simp)
    | b => cases j with
      | b => exact absurd rfl hne
      | r => exact turn s12
      | n => exact s23
      | _ => (show v2.ownBlock = none ∨ v2.ownBlock ≠ none; cases v2.ownBlock <;> simp)
    | n => cases j with
      | n => exact absurd rfl hne
      | r => exact turn s13
      | b => exact turn s23
      | _ => (show v3.ownBlock = none ∨ v3.ownBlock ≠ none; cases v3.ownBlock <;> simp)
    | _ => exact .inl rfl
  · cases j with
    | r => exact n1
    | b => exact n2
    | n => exact n3
    | _ => (show (none : Option Nat) ≠ some P; simp)
/-- How long the lists of a copied state may be. -/
structure SmallA (x : Asy) : Prop where
  r : x.rounds.length ≤ 40
  b : x.before.length ≤ 40
  n : x.now.length ≤ 40
  s : x.slots.length ≤ 40
  f : x.flight.length = x.slots.length
  sl : ∀ s ∈ x.slots, s.length ≤ 6
  fr : ∀ f ∈ x.flight, f.length ≤ 6
  le : ∀ f ∈ x.flight, ∀ ls ∈ f, ls.length ≤ 12
end Go.Proofs.YtcpbbjocaimocaaGreat
