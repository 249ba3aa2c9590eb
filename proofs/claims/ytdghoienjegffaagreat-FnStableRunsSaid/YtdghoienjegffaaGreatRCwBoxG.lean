/-
  Small lemmas and contracts that the texts of this claim share. No condition.
-/
import Derived.Lib.AppendZeros
import Derived.Test.YtdghoienjegffaaGreatRNetKG
namespace Go.Proofs.YtdghoienjegffaaGreat
open Go.RowKit
set_option linter.all false
theorem grownP (w : World) (P i : Nat) (u : Value) : w.grownBy (w.setCell ⟨P, i, none⟩ u) (some P) := ⟨rfl, rfl, rfl, by simp [World.setCell], fun j _ hj => Below.heap_setCell w _ _ _ (fun h => hj (by rw [h]))⟩
theorem grownT {a b c : World} {row : Option Nat} (h : a.grownBy b row) (k : b.grownBy c row) : a.grownBy c row := ⟨k.os.trans h.os, k.tape.trans h.tape, k.output.trans h.output, Nat.le_trans h.size k.size, fun j hj hn => (k.block j (Nat.lt_of_lt_of_le hj h.size) hn).trans (h.block j hj hn)⟩
theorem set1 {W : World} {P : Nat} {cs : Array Value} {t : TypeId} (H : W.heap[P]? = some (.cells cs t (0, 0))) (i : Nat) (a : Value) : ∃ w0, w0 = W.setCell ⟨P, i, none⟩ a ∧ w0.heap[P]? = some (.cells (cs.setIfInBounds i a) t (0, 0)) ∧ W.grownBy w0 (some P) := ⟨_, rfl, heap_set_same H a, grownP _ _ _ _⟩
end Go.Proofs.YtdghoienjegffaaGreat
namespace Go.Proofs.YtdghoienjegffaaGreat
open Go.RowKit
set_option linter.all false
theorem run_append_nil0 {P : Program} (w : World) (t ty e : TypeId) (i : TypeInfo) (ht : P.underlying t = some (.slice e)) (hi : P.info? e = some i) (g n c m : Nat) (hc : n ≤ c) :
    (Builtin.append_ #[t, t] ty #[.slice (some ⟨g, 0, none⟩) n c, .slice none 0 m]).run P w = .ok (.slice (some ⟨g, 0, none⟩) n c) w := by
  simp [Builtin.append_, run_underlying ht, sizeOf, typeInfo, hi, Builtin.lenOf, Builtin.firstCells, loadCells, loadCellsFrom, storeCells, hc]
def OwnPost (xs : List Int) (w : World) (e : Ending) (w' : World) : Prop :=
  ∃ v, e = .returned v ∧ w'.ownsRow w.heap.size 3 1 v xs.length (xs.map intV) ∧ Below w.heap.size w w'
theorem spec_l1Own (v : Value) (xs : List Int) (w : World) (h : IntsR w w.heap.size v xs) (hn : xs.length ≤ 2000000) :
  Calls Tryz.prog 31 #[v] w (OwnPost xs w) := by
 have h64 := h.2;obtain ⟨A, c, rfl, h1, h2, h3⟩ := h.open_;have H64 := Lib.hid h64; clear h64 h;have hown := World.ownsRow_made (base := w.heap.size) (e := 3) (size := 1) w #[] 0 (Nat.le_refl _) (Nat.zero_le _) (by simp);have hb0 := bl_alloc (Below.refl w.heap.size w) (.cells #[] 3);obtain ⟨i, hi, hz0, hz1, hz2⟩ := info_parts intInfo;by_cases h0 : xs.length = 0
 ·
  obtain rfl : xs = [] := List.eq_nil_of_length_eq_zero h0;have fin : OwnPost [] w (.returned (.slice (some ⟨w.heap.size, 0, none⟩) 0 0)) (w.alloc (.cells #[] 3)) := by exact ⟨_, rfl, hown, hb0⟩
  have FIN := Lib.hid fin; clear fin;clear h3 h0;cases A with
  | none =>
   have hr := fun ty W => run_append_nil0 (P := Tryz.prog) W 25 ty 3 i Tryz.underlying25 hi w.heap.size 0 0 c (Nat.zero_le _)
   have HR := Lib.hid hr; clear hr;clear hown hi hz0 hz1 hz2;simp only [List.length_nil];go_enter Tryz.func31, Tryz.ntmps31;go_wp2_with (at_builtin; refine Lib.wpList_append_run _ rfl _ _ _ _ rfl _ _ rfl rfl _ _ (HR.out _ _) ?_)
   go_ret;exact FIN.out
  | some ad =>
   have HI := Lib.hid hi; clear hi;have HO := Lib.hid hown; clear hown;have Z0 := Lib.hid hz0; clear hz0;have Z1 := Lib.hid hz1; clear hz1;have Z2 := Lib.hid hz2; clear hz2;simp only [List.length_nil];go_enter Tryz.func31, Tryz.ntmps31;go_wp2_with (at_builtin; refine wpList_append_own_at _ rfl _ _ 25 rfl w.heap.size 3 i _ 1 8 Tryz.underlying25 HI.out Z0.out Z1.out Z2.out rfl (by decide) _ _ _ rfl HO.out ad 0 c [] rfl (by simp) (fun j u hj => by simp at hj) (fun u hu => by cases hu) (by unfold maxLen; omega) (by omega) (by simp) ?_; intro v' w1 hown1 hgrow hnil hat)
   go_ret;exact ⟨_, rfl, by simpa using hown1, hb0.grown hgrow (by simp) (fun k hk => by have e := Option.some.inj (show some w.heap.size = some k from hk); omega)⟩
 ·
  obtain ⟨ad, rfl, hb, hc⟩ := h3 (by omega)
  have HN := Lib.hid (show ∀ j u, (xs.map intV)[j]? = some u → (w.alloc (.cells #[] 3)).cell? (ad.add j) = some u from fun j u hu => by
   rw [List.getElem?_map] at hu;obtain ⟨x, hx, rfl⟩ := Option.map_eq_some_iff.1 hu
   exact Lib.cell?_alloc_some _ (hc j x hx))
  have H1 := Lib.hid (show ∀ u ∈ xs.map intV, u.oneCell' = true from fun u hu => by
   obtain ⟨x, _, rfl⟩ := List.mem_map.1 hu
   rfl)
  have HI := Lib.hid hi; clear hi;have HO := Lib.hid hown; clear hown;have Z0 := Lib.hid hz0; clear hz0;have Z1 := Lib.hid hz1; clear hz1;have Z2 := Lib.hid hz2; clear hz2;clear hc h3 h0;go_enter Tryz.func31, Tryz.ntmps31;go_wp2_with (at_builtin; refine wpList_append_own_at _ rfl _ _ 25 rfl w.heap.size 3 i _ 1 8 Tryz.underlying25 HI.out Z0.out Z1.out Z2.out rfl (by decide) _ _ _ rfl HO.out ad xs.length c (xs.map intV) rfl (by simp) HN.out H1.out (by unfold maxLen; omega) (by omega) (by simp) ?_; intro v' w1 hown1 hgrow hnil hat)
  go_ret;exact ⟨_, rfl, by simpa using hown1, hb0.grown hgrow (by simp) (fun k hk => by have e := Option.some.inj (show some w.heap.size = some k from hk); omega)⟩
end Go.Proofs.YtdghoienjegffaaGreat
namespace Go.Proofs.YtdghoienjegffaaGreat
open Go.RowKit
set_option linter.all false
theorem endInfo : (Tryz.prog.info? 74).map (fun i => (i.zero, i.size, i.bytes)) = some (some (.agg #[.int .i64 0, .int .i64 0]), 2, 16) := by kernel_rfl
theorem rowInfo : (Tryz.prog.info? 75).map (fun i => (i.zero, i.size, i.bytes)) = some (some (.slice none 0 0), 1, 24) := by kernel_rfl
theorem set3 {W : World} {P : Nat} {o0 o1 o2 : Value} {t : TypeId} (H : Hid (W.heap[P]? = some (.cells #[o0, o1, o2] t (0, 0)))) (a b c : Value) : ∃ w0, w0 = (((W.setCell ⟨P, 0, none⟩ a).setCell ⟨P, 1, none⟩ b).setCell ⟨P, 2, none⟩ c) ∧
    Hid (w0.heap[P]? = some (.cells #[a, b, c] t (0, 0))) ∧ W.grownBy w0 (some P) := by
  obtain ⟨w1, e1, h1, g1⟩ := set1 H.out 0 a;obtain ⟨w2, e2, h2, g2⟩ := set1 h1 1 b;obtain ⟨w3, e3, h3, g3⟩ := set1 h2 2 c;exact ⟨w3, by rw [e3, e2, e1], Lib.hid (by simpa using h3), grownT (grownT g1 g2) g3⟩
theorem boxAt3 (W : World) (a b c : Value) (t : TypeId) : ∃ P w0, W.heap.size = P ∧ w0 = W.alloc (.cells #[a, b, c] t) ∧ Below W.heap.size W w0 ∧ Hid (w0.heap[P]? = some (.cells #[a, b, c] t (0, 0))) ∧ P < w0.heap.size := by obtain ⟨w0, h1, h2, h3, h4, -⟩ := box3 W a b c t;exact ⟨_, w0, rfl, h1, h2, h3, h4⟩
theorem ints_at {w W : World} {v : Value} {xs : List Int} (h : IntsR w w.heap.size v xs) (hb : Below w.heap.size w W) : IntsR W W.heap.size v xs := (h.below hb).more hb.size
theorem own_upN {W w' : World} {base n sz : Nat} {e : TypeId} {v : Value} {vs : List Value} (h : W.ownsRow base e sz v n vs) (hb : Below W.heap.size W w') : w'.ownsRow base e sz v n vs := h.kept (grown_belowN hb none) (by cases v.ownBlock <;> simp)
theorem own_slN {w : World} {base n sz : Nat} {e : TypeId} {v : Value} {vs : List Value} (h : w.ownsRow base e sz v n vs) : ∃ A c, v = .slice A n c := by
  rcases h.2 with ⟨e1, e2⟩ | ⟨g, cap, cur, e1, _⟩
  · exact ⟨none, 0, by rw [e1, e2]⟩
  · exact ⟨_, _, e1⟩
theorem own_setN {W w' : World} {P base n sz : Nat} {e : TypeId} {v : Value} {vs : List Value} (h : W.ownsRow base e sz v n vs) (hg : W.grownBy w' (some P)) (hne : v.ownBlock ≠ some P) : w'.ownsRow base e sz v n vs := h.kept hg (.inr hne)
theorem sep_ofN {u v : Value} {a b c d : Nat} (h1 : ∀ g, u.ownBlock = some g → a ≤ g ∧ g < b) (h2 : ∀ g, v.ownBlock = some g → c ≤ g ∧ g < d) (h : b ≤ c) : u.ownBlock = none ∨ u.ownBlock ≠ v.ownBlock := by
  cases e : u.ownBlock with
  | none => exact .inl rfl
  | some g => exact .inr fun e' => by have := h1 g e; have := h2 g e'.symm; omega
theorem oper_append_run {P : Program} (w : World) {o : Oper} {a : Act} {K : Act → World → Prop} {Q : Exit → Act → World → Prop} (s x : Operand) (t : TypeId)
    (ho : o.op = .call { callee := .builtin .append, args := #[s, x], argTypes := #[t, t] }) {v u v' : Value} {w' : World} (hs : a.eval s = v) (hx : a.eval x = u) (hrun : (Builtin.append_ #[t, t] o.type #[v, u]).run P w = .ok v' w') (h : K (a.put o.dst v') w') : Oper.wp P o a w K Q := by
  unfold Oper.wp execOp;simp only [ho, resolve, invoke, builtin, Sem.run_bind, Sem.run_pure, Result.andThen_ok, List.map_toArray, List.map_cons, List.map_nil, hs, hx, hrun];exact h
theorem run_ownEnds (w : World) (v : Value) (ls : Ends) (ty : TypeId) (h : EndsR w (· < w.heap.size) v ls) (hl : ls.length ≤ 2000000) :
  ∃ v' w', (Builtin.append_ #[75, 75] ty #[.slice (some ⟨w.heap.size, 0, none⟩) 0 0, v]).run Tryz.prog (w.alloc (.cells #[] 74)) = .ok v' w' ∧ w'.ownsRow w.heap.size 74 2 v' ls.length (endCells ls) ∧ Below w.heap.size w w' := by
 obtain ⟨Al, cl, rfl, h1, h2, h3, h4⟩ := h;obtain ⟨i, hi, hz0, hz1, hz2⟩ := info_parts endInfo;have hown := World.ownsRow_made (base := w.heap.size) (e := 74) (size := 2) w #[] 0 (Nat.le_refl _) (Nat.zero_le _) (by simp);have hb0 := bl_alloc (Below.refl w.heap.size w) (.cells #[] 74);have main : ∀ (ad : Addr) (news : List Value), news = endCells ls → (∀ j u, news[j]? = some u → (w.alloc (.cells #[] 74)).cell? (ad.add j) = some u) →
   ∃ v' w', (Builtin.append_ #[75, 75] ty #[.slice (some ⟨w.heap.size, 0, none⟩) 0 0, .slice (some ad) ls.length cl]).run Tryz.prog (w.alloc (.cells #[] 74)) = .ok v' w' ∧ w'.ownsRow w.heap.size 74 2 v' ls.length (endCells ls) ∧ Below w.heap.size w w' := by
  intro ad news hnw hc;subst hnw;obtain ⟨v', w', hr, ho, hg, -, -⟩ := run_append_own_at (P := Tryz.prog) (w.alloc (.cells #[] 74)) w.heap.size 75 ty 74 i _ 2 16 Tryz.underlying75 hi hz0 hz1 hz2 rfl (by decide) _ 0 [] hown ad ls.length cl (endCells ls) (endCells_len ls) hc
   (fun u hu => by
    obtain ⟨e, _, he⟩ := List.mem_flatMap.1 hu;rcases List.mem_cons.1 he with rfl | he
    · rfl
    · rw [List.mem_singleton.1 he]; rfl) (by unfold maxLen; omega) (by omega) (by simp)
  refine ⟨v', w', hr, by simpa using ho, ?_⟩;exact hb0.grown hg (by simp) (fun k hk => by have e := Option.some.inj (show some w.heap.size = some k from hk); omega)
 by_cases h0 : ls.length = 0
 ·
  obtain rfl : ls = [] := List.eq_nil_of_length_eq_zero h0;cases Al with
  | none => exact ⟨_, _, run_append_nil0 (P := Tryz.prog) _ 75 ty 74 i Tryz.underlying75 hi w.heap.size 0 0 cl (Nat.zero_le _), hown, hb0⟩
  | some ad => exact main ad [] rfl (fun j u hj => by simp at hj)
 ·
  obtain ⟨b, o, rfl, hb, hc⟩ := h4 (by omega);refine main ⟨b, o, none⟩ _ rfl fun j u hj => ?_
  have hj2 : j < ls.length * 2 := by rw [← endCells_len]; exact (List.getElem?_eq_some_iff.1 hj).1
  obtain ⟨e, he⟩ : ∃ e, ls[j / 2]? = some e := ⟨_, List.getElem?_eq_getElem (by omega)⟩
  obtain ⟨k1, k2⟩ := endCells_at he;obtain ⟨c1, c2⟩ := hc (j / 2) e he;rw [Addr.add_lit];rcases Nat.mod_two_eq_zero_or_one j with hm | hm
  ·
   have ej : j = j / 2 * 2 := by omega
   rw [ej] at hj;rw [k1] at hj;rw [← Option.some.inj hj, ej];exact Lib.cell?_alloc_some _ c1
  ·
   have ej : j = j / 2 * 2 + 1 := by omega
   rw [ej] at hj;rw [k2] at hj;rw [← Option.some.inj hj, ej];exact Lib.cell?_alloc_some _ c2
theorem oper_app1 {P : Program} (w : World) {o : Oper} {a : Act} {K : Act → World → Prop} {Q : Exit → Act → World → Prop} (s x : Operand) (t : TypeId)
  (ho : o.op = .call { callee := .builtin .append, args := #[s, x], argTypes := #[t, t] })
  (base : Nat) (e : TypeId) (z : Value) (bytes : Nat) (ht : P.underlying t = some (.slice e)) (hinf : (P.info? e).map (fun i => (i.zero, i.size, i.bytes)) = some (some z, 1, bytes)) (hzs : z.cells.size = 1)
  (v : Value) (n : Nat) (xs : List Value) (hs : a.eval s = v) (u : Value) (hu : u.oneCell' = true) (hx : a.eval x = .slice (some ⟨w.heap.size, 0, none⟩) 1 1)
  (hown : w.ownsRow base e 1 v n xs) (h63 : n + 1 ≤ maxLen) (hbytes : (n + 1) * bytes ≤ 140737488355328) (hbase : base ≤ w.heap.size)
  (h : ∀ v' w', w'.ownsRow base e 1 v' (n + 1) (xs ++ [u]) → Below base w w' → w.grownBy w' v.ownBlock → w.heap.size < w'.heap.size → (v'.ownBlock = v.ownBlock ∨ ∃ g, v'.ownBlock = some g ∧ w.heap.size ≤ g ∧ g < w'.heap.size) → K (a.put o.dst v') w') :
  Oper.wp P o a (w.alloc (.cells #[u] e)) K Q := by
 obtain ⟨i, hi, hz0, hz1, hz2⟩ := info_parts hinf;have hown1 := hown.alloc (.cells #[u] e);have hcell : (w.alloc (.cells #[u] e)).cell? ⟨w.heap.size, 0, none⟩ = some u := by rw [World.cell?_alloc_at _ _ _ _ rfl]; rfl
 have hnews : ∀ j u', ([u] : List Value)[j]? = some u' → (w.alloc (.cells #[u] e)).cell? ((⟨w.heap.size, 0, none⟩ : Addr).add j) = some u' := by
  intro j u' hj
  match j, hj with
  | 0, hj =>
   have : u = u' := by simpa using hj
   subst this;exact hcell
 obtain ⟨v', w', hrun, h2, h3, _, h5⟩ := run_append_own_at (P := P) (w.alloc (.cells #[u] e)) base t o.type e i z 1 bytes ht hi hz0 hz1 hz2 hzs (by decide) v n xs hown1 ⟨w.heap.size, 0, none⟩ 1 1 [u] rfl hnews
  (by intro u' hu'; obtain rfl : u' = u := (by simpa using hu'); exact hu) h63 hbytes (by simp; omega)
 have hg : w.grownBy w' v.ownBlock := by have h0 := World.grownBy_alloc w (.cells #[u] e) v.ownBlock;exact ⟨h3.os.trans h0.os, h3.tape.trans h0.tape, h3.output.trans h0.output, Nat.le_trans h0.size h3.size, fun k hk hne => (h3.block k (Nat.lt_of_lt_of_le hk h0.size) hne).trans (h0.block k hk hne)⟩
 have hsz : w.heap.size < w'.heap.size := by have := h3.size; simp at this; omega
 have hB : Below base w w' := (Below.refl base w).grown hg hbase (fun k hk => (hown.lt k hk).1);unfold Oper.wp execOp;simp only [ho, resolve, invoke, builtin, Sem.run_bind, Sem.run_pure, Result.andThen_ok, List.map_toArray, List.map_cons, List.map_nil, hs, hx, hrun];refine h v' w' h2 hB hg hsz ?_;rcases h5 with h5 | h5
 · exact .inl h5
 · refine .inr ⟨_, h5, by simp, ?_⟩;exact (h2.lt _ h5).2
theorem oper_app2 {P : Program} (w : World) {o : Oper} {a : Act} {K : Act → World → Prop} {Q : Exit → Act → World → Prop} (s x : Operand) (t : TypeId)
    (ho : o.op = .call { callee := .builtin .append, args := #[s, x], argTypes := #[t, t] })
    (base : Nat) (e : TypeId) (z : Value) (bytes : Nat) (ht : P.underlying t = some (.slice e)) (hinf : (P.info? e).map (fun i => (i.zero, i.size, i.bytes)) = some (some z, 2, bytes)) (hzs : z.cells.size = 2)
    (v : Value) (n : Nat) (xs : List Value) (hs : a.eval s = v) (u0 u1 : Value) (hu0 : u0.oneCell' = true) (hu1 : u1.oneCell' = true) (hx : a.eval x = .slice (some ⟨w.heap.size, 0, none⟩) 1 1)
    (hown : w.ownsRow base e 2 v n xs) (h63 : n + 1 ≤ maxLen) (hbytes : (n + 1) * bytes ≤ 140737488355328) (hbase : base ≤ w.heap.size)
    (h : ∀ v' w', w'.ownsRow base e 2 v' (n + 1) (xs ++ [u0, u1]) → Below base w w' → w.grownBy w' v.ownBlock → w.heap.size < w'.heap.size → (v'.ownBlock = v.ownBlock ∨ ∃ g, v'.ownBlock = some g ∧ w.heap.size ≤ g ∧ g < w'.heap.size) → K (a.put o.dst v') w') :
    Oper.wp P o a (w.alloc (.cells #[u0, u1] e)) K Q := by
  obtain ⟨i, hi, hz0, hz1, hz2⟩ := info_parts hinf;have hown1 := hown.alloc (.cells #[u0, u1] e);have hnews : ∀ j u', ([u0, u1] : List Value)[j]? = some u' → (w.alloc (.cells #[u0, u1] e)).cell? ((⟨w.heap.size, 0, none⟩ : Addr).add j) = some u' := by
    intro j u' hj
    match j, hj with
    | 0, hj =>
      obtain rfl : u0 = u' := by simpa using hj
      rw [show (⟨w.heap.size, 0, none⟩ : Addr).add 0 = ⟨w.heap.size, 0, none⟩ from rfl, World.cell?_alloc_at _ _ _ _ rfl]; rfl
    | 1, hj =>
      obtain rfl : u1 = u' := by simpa using hj
      rw [show (⟨w.heap.size, 0, none⟩ : Addr).add 1 = ⟨w.heap.size, 1, none⟩ from rfl, World.cell?_alloc_at _ _ _ _ rfl]; rfl
  obtain ⟨v', w', hrun, h2, h3, _, h5⟩ := run_append_own_at (P := P) (w.alloc (.cells #[u0, u1] e)) base t o.type e i z 2 bytes ht hi hz0 hz1 hz2 hzs (by decide) v n xs hown1 ⟨w.heap.size, 0, none⟩ 1 1 [u0, u1] rfl hnews
    (by intro u' hu'
        rcases List.mem_cons.1 hu' with rfl | hu'
        · exact hu0
        · rw [List.mem_singleton.1 hu']; exact hu1) h63 hbytes (by simp; omega)
  have hg : w.grownBy w' v.ownBlock := by have h0 := World.grownBy_alloc w (.cells #[u0, u1] e) v.ownBlock;exact ⟨h3.os.trans h0.os, h3.tape.trans h0.tape, h3.output.trans h0.output, Nat.le_trans h0.size h3.size, fun k hk hne => (h3.block k (Nat.lt_of_lt_of_le hk h0.size) hne).trans (h0.block k hk hne)⟩
  have hsz : w.heap.size < w'.heap.size := by have := h3.size; simp at this; omega
  have hB : Below base w w' := (Below.refl base w).grown hg hbase (fun k hk => (hown.lt k hk).1);unfold Oper.wp execOp;simp only [ho, resolve, invoke, builtin, Sem.run_bind, Sem.run_pure, Result.andThen_ok, List.map_toArray, List.map_cons, List.map_nil, hs, hx, hrun];refine h v' w' h2 hB hg hsz ?_;rcases h5 with h5 | h5
  · exact .inl h5
  · refine .inr ⟨_, h5, by simp, ?_⟩
    exact (h2.lt _ h5).2
theorem no_tyN_net : ¬ TyN 27 := by unfold TyN; decide
section
variable {w w' w1 w2 : World} {base P : Nat} {val : NKey → Value} {n : Net}
theorem NetB.of (hk : NetK w base val n) (hb : w.heap[P]? = some (.cells #[val .e, val .i, val .n] 27 (0, 0))) : NetB w base val n P := ⟨hk, fun j hj => hk.noTy hj hb no_tyN_net, hb⟩
theorem NetB.of2 {v1 v2 : Value} {ids ins : List Int} (h1 : w.ownsRow base 3 1 v1 ids.length (ids.map intV)) (h2 : w.ownsRow base 3 1 v2 ins.length (ins.map intV)) (s12 : v1.ownBlock = none ∨ v1.ownBlock ≠ v2.ownBlock)
    (H : Hid (w.heap[P]? = some (.cells #[.slice none 0 0, v1, v2] 27 (0, 0)))) : ∃ val, NetB w base val ⟨[], ids, ins⟩ P := by
  have turn : ∀ {a b : Option Nat}, (a = none ∨ a ≠ b) → (b = none ∨ b ≠ a) := fun {a b} h => by
    cases b with
    | none => exact .inl rfl
    | some g =>
      rcases h with h | h
      · rw [h]; exact .inr (by simp)
      · exact .inr fun e => h e.symm
  have nr : ∀ v : Value, v.ownBlock = none ∨ v.ownBlock ≠ (Value.slice none 0 0).ownBlock := fun v => by show v.ownBlock = none ∨ v.ownBlock ≠ none;cases v.ownBlock <;> simp
  refine ⟨fun j => match j with | .i => v1 | .n => v2 | _ => .slice none 0 0, NetB.of ⟨fun j hj => ?_, fun i j hi hj hne => ?_⟩ H.out⟩
  · cases j with
    | e => exact World.ownsRow_nil _ _ _ _
    | i => exact h1
    | n => exact h2
    | r k => exact absurd (show k < 0 from hj) (by omega)
  · cases i with
    | e => exact .inl rfl
    | r k => exact .inl rfl
    | i => cases j with
      | i => exact absurd rfl hne
      | n => exact s12
      | e => exact nr _
      | r k => exact nr _
    | n => cases j with
      | n => exact absurd rfl hne
      | i => exact turn s12
      | e => exact nr _
      | r k => exact nr _
theorem NetB.addRow (h : NetB w base val n P) {v v2 : Value} {s : Ends} (hb1 : Below w.heap.size w w1) (hbase : base ≤ w.heap.size) (hn : w1.ownsRow w.heap.size 74 2 v s.length (endCells s))
    (hg2 : w1.grownBy w2 (val .e).ownBlock) (hn2 : w2.ownsRow base 75 1 v2 (n.es.length + 1) (valsN val n.es.length ++ [v])) (hb2 : v2.ownBlock = (val .e).ownBlock ∨ ∃ g, v2.ownBlock = some g ∧ w1.heap.size ≤ g) :
    ∃ val', NetB (w2.setCell ⟨P, 0, none⟩ v2) base val' { n with es := n.es ++ [s] } P := by
  have hP := h.lt;have hz := hb1.size;have k1 := NetK.addRow h.k (grown_belowN hb1 none) (own_mono hn hbase) (freshN hn) hg2 hn2 hb2;have hbx : w2.heap[P]? = some (.cells #[val .e, val .i, val .n] 27 (0, 0)) := (hg2.block P (by omega) (fun e => h.ne .e trivial e.symm)).trans ((hb1.block P hP).trans h.box);obtain ⟨we, e1, h1, g1⟩ := set1 hbx 0 v2;rw [← e1];refine ⟨_, NetB.of (NetK.past k1 hbx no_tyN_net g1) ?_⟩;rw [h1, updN_same, updN_ne _ _ (by simp), updN_ne _ _ (by simp), updN_ne _ _ (by simp), updN_ne _ _ (by simp)];rfl
end
end Go.Proofs.YtdghoienjegffaaGreat
