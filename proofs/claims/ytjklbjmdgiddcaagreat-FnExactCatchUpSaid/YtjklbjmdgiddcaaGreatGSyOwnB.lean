/-
  The reference's syOwn: what its walk needs: letters copied by append, boxes, the three first lists.
  The reference's syOwn: a copy of a state in memory of its own.
-/
import Derived.Test.YtjklbjmdgiddcaaGreatGAsyOwns
import Derived.Test.YtjklbjmdgiddcaaGreatGSyShpG
namespace Go.Proofs.YtjklbjmdgiddcaaGreat
section
open Go.RowKit
set_option linter.all false
theorem run_ownLets (w : World) (v : Value) (ls : Ends) (ty : TypeId) (h : EndsR w (· < w.heap.size) v ls) (hl : ls.length ≤ 2000000) :
  ∃ v' w', (Builtin.append_ #[102, 102] ty #[.slice (some ⟨w.heap.size, 0, none⟩) 0 0, v]).run Tryz.prog (w.alloc (.cells #[] 129)) = .ok v' w' ∧ w'.ownsRow w.heap.size 129 2 v' ls.length (letCells ls) ∧ Below w.heap.size w w' := by
 obtain ⟨Al, cl, rfl, h1, h2, h3, h4⟩ := h;obtain ⟨i, hi, hz0, hz1, hz2⟩ := info_parts letInfo;have hown := World.ownsRow_made (base := w.heap.size) (e := 129) (size := 2) w #[] 0 (Nat.le_refl _) (Nat.zero_le _) (by simp);have hb0 := bl_alloc (Below.refl w.heap.size w) (.cells #[] 129);have main : ∀ (ad : Addr) (news : List Value), news = letCells ls → (∀ j u, news[j]? = some u → (w.alloc (.cells #[] 129)).cell? (ad.add j) = some u) →
   ∃ v' w', (Builtin.append_ #[102, 102] ty #[.slice (some ⟨w.heap.size, 0, none⟩) 0 0, .slice (some ad) ls.length cl]).run Tryz.prog (w.alloc (.cells #[] 129)) = .ok v' w' ∧ w'.ownsRow w.heap.size 129 2 v' ls.length (letCells ls) ∧ Below w.heap.size w w' := by
  intro ad news hnw hc;subst hnw;obtain ⟨v', w', hr, ho, hg, -, -⟩ := run_append_own_at (P := Tryz.prog) (w.alloc (.cells #[] 129)) w.heap.size 102 ty 129 i _ 2 16 Tryz.underlying102 hi hz0 hz1 hz2 rfl (by decide) _ 0 [] hown ad ls.length cl (letCells ls) (letCells_len ls) hc
   (fun u hu => by
    obtain ⟨e, _, he⟩ := List.mem_flatMap.1 hu;rcases List.mem_cons.1 he with rfl | he
    · rfl
    · rw [List.mem_singleton.1 he]; rfl) (by unfold maxLen; omega) (by omega) (by simp)
  refine ⟨v', w', hr, by simpa using ho, ?_⟩;exact hb0.grown hg (by simp) (fun k hk => by have e := aE (show some w.heap.size = some k from hk); omega)
 by_cases h0 : ls.length = 0
 ·
  obtain rfl : ls = [] := List.eq_nil_of_length_eq_zero h0;cases Al with
  | none => exact ⟨_, _, run_append_nil0 (P := Tryz.prog) _ 102 ty 129 i Tryz.underlying102 hi w.heap.size 0 0 cl (Nat.zero_le _), hown, hb0⟩
  | some ad => exact main ad [] rfl (fun j u hj => by simp at hj)
 ·
  obtain ⟨b, o, rfl, hb, hc⟩ := h4 (by omega);refine main ⟨b, o, none⟩ _ rfl fun j u hj => ?_
  have hj2 : j < ls.length * 2 := by rw [← letCells_len]; exact (aB.1 hj).1
  obtain ⟨e, he⟩ : ∃ e, ls[j / 2]? = some e := ⟨_, aC (by omega)⟩
  obtain ⟨k1, k2⟩ := letCells_at he;obtain ⟨c1, c2⟩ := hc (j / 2) e he;rw [Addr.add_lit];rcases Nat.mod_two_eq_zero_or_one j with hm | hm
  ·
   have ej : j = j / 2 * 2 := by omega
   rw [ej] at hj;rw [k1] at hj;rw [← aE hj, ej];exact aD _ c1
  ·
   have ej : j = j / 2 * 2 + 1 := by omega
   rw [ej] at hj;rw [k2] at hj;rw [← aE hj, ej];exact aD _ c2
theorem oper_append1 {P : Program} (w : World) {o : Oper} {a : Act} {K : Act → World → Prop} {Q : Exit → Act → World → Prop} (s x : Operand) (t : TypeId)
  (ho : o.op = .call { callee := .builtin .append, args := #[s, x], argTypes := #[t, t] })
  (base : Nat) (e : TypeId) (z : Value) (bytes : Nat) (ht : P.underlying t = some (.slice e)) (hinf : (P.info? e).map (fun i => (i.zero, i.size, i.bytes)) = some (some z, 1, bytes)) (hzs : z.cells.size = 1)
  (v : Value) (n : Nat) (xs : List Value) (hs : a.eval s = v) (u : Value) (hu : u.oneCell' = true) (hx : a.eval x = .slice (some ⟨w.heap.size, 0, none⟩) 1 1)
  (hown : w.ownsRow base e 1 v n xs) (h63 : n + 1 ≤ maxLen) (hbytes : (n + 1) * bytes ≤ 140737488355328) (hbase : base ≤ w.heap.size)
  (h : ∀ v' w', w'.ownsRow base e 1 v' (n + 1) (xs ++ [u]) → Below base w w' → w.grownBy w' v.ownBlock → w.heap.size < w'.heap.size → (v'.ownBlock = v.ownBlock ∨ ∃ g, v'.ownBlock = some g ∧ w.heap.size ≤ g ∧ g < w'.heap.size) → K (a.put o.dst v') w') :
  Oper.wp P o a (w.alloc (.cells #[u] e)) K Q := by
 obtain ⟨i, hi, hz0, hz1, hz2⟩ := info_parts hinf;have hown1 := hown.alloc (.cells #[u] e);have hcell : (w.alloc (.cells #[u] e)).cell? ⟨w.heap.size, 0, none⟩ = some u := by rw [World.cell?_alloc_at _ _ _ _ rfl]; rfl
 have hnews : ∀ j u', ([u] : List Value)[j]? = some u' → (w.alloc (.cells #[u] e)).cell? ((⟨w.heap.size, 0, none⟩ : Addr).add j) = some u' := by
  intro j u' hj
  match j, hj with
  | 0, hj =>
   have : u = u' := by simpa using hj
   subst this;exact hcell
 obtain ⟨v', w', hrun, h2, h3, _, h5⟩ := run_append_own_at (P := P) (w.alloc (.cells #[u] e)) base t o.type e i z 1 bytes ht hi hz0 hz1 hz2 hzs (by decide) v n xs hown1 ⟨w.heap.size, 0, none⟩ 1 1 [u] rfl hnews
  (by intro u' hu'; obtain rfl : u' = u := (by simpa using hu'); exact hu) h63 hbytes (by simp; omega)
 have hg : w.grownBy w' v.ownBlock := by have h0 := World.grownBy_alloc w (.cells #[u] e) v.ownBlock;exact ⟨h3.os.trans h0.os, h3.tape.trans h0.tape, h3.output.trans h0.output, Nat.le_trans h0.size h3.size, fun k hk hne => (h3.block k (aF hk h0.size) hne).trans (h0.block k hk hne)⟩
 have hsz : w.heap.size < w'.heap.size := by have := h3.size; simp at this; omega
 have hB : Below base w w' := (Below.refl base w).grown hg hbase (fun k hk => (hown.lt k hk).1);unfold Oper.wp execOp;simp only [ho, resolve, invoke, builtin, Sem.run_bind, Sem.run_pure, Result.andThen_ok, List.map_toArray, List.map_cons, List.map_nil, hs, hx, hrun];refine h v' w' h2 hB hg hsz ?_;rcases h5 with h5 | h5
 · exact .inl h5
 · refine .inr ⟨_, h5, by simp, ?_⟩;exact (h2.lt _ h5).2
theorem ints_at {w W : World} {v : Value} {xs : List Int} (h : IntsR w w.heap.size v xs) (hb : Below w.heap.size w W) : IntsR W W.heap.size v xs := (h.below hb).more hb.size
theorem own_up {W w' : World} {base n sz : Nat} {e : TypeId} {v : Value} {vs : List Value} (h : W.ownsRow base e sz v n vs) (hb : Below W.heap.size W w') : w'.ownsRow base e sz v n vs := h.kept (grown_below hb) (by cases v.ownBlock <;> simp)
theorem boxAt {W : World} {p : Addr} {u : Value} (h : W.cell? p = some u) (a b c d e : Value) (t : TypeId) :
    ∃ P w0, W.heap.size = P ∧ w0 = W.alloc (.cells #[a, b, c, d, e] t) ∧ Below W.heap.size W w0 ∧ Hid (w0.heap[P]? = some (.cells #[a, b, c, d, e] t (0, 0))) ∧ P < w0.heap.size := by
  obtain ⟨w0, h1, h2, h3, h4, -⟩ := box5 W a b c d e t;exact ⟨_, w0, rfl, h1, h2, h3, h4⟩
theorem grownP (w : World) (P i : Nat) (u : Value) : w.grownBy (w.setCell ⟨P, i, none⟩ u) (some P) := ⟨rfl, rfl, rfl, by simp [World.setCell], fun j _ hj => Below.heap_setCell w _ _ _ (fun h => hj (by rw [h]))⟩
theorem grownT {a b c : World} {row : Option Nat} (h : a.grownBy b row) (k : b.grownBy c row) : a.grownBy c row := ⟨k.os.trans h.os, k.tape.trans h.tape, k.output.trans h.output, Nat.le_trans h.size k.size, fun j hj hn => (k.block j (aF hj h.size) hn).trans (h.block j hj hn)⟩
theorem set1 {W : World} {P : Nat} {cs : Array Value} {t : TypeId} (H : W.heap[P]? = some (.cells cs t (0, 0))) (i : Nat) (a : Value) : ∃ w0, w0 = W.setCell ⟨P, i, none⟩ a ∧ w0.heap[P]? = some (.cells (cs.setIfInBounds i a) t (0, 0)) ∧ W.grownBy w0 (some P) := ⟨_, rfl, heap_set_same H a, grownP _ _ _ _⟩
theorem set5 {W : World} {P : Nat} {o0 o1 o2 o3 o4 : Value} {t : TypeId} (H : Hid (W.heap[P]? = some (.cells #[o0, o1, o2, o3, o4] t (0, 0)))) (a b c d e : Value) : ∃ w0, w0 = (((((W.setCell ⟨P, 0, none⟩ a).setCell ⟨P, 1, none⟩ b).setCell ⟨P, 2, none⟩ c).setCell ⟨P, 3, none⟩ d).setCell ⟨P, 4, none⟩ e) ∧
    Hid (w0.heap[P]? = some (.cells #[a, b, c, d, e] t (0, 0))) ∧ W.grownBy w0 (some P) := by
  obtain ⟨w1, e1, h1, g1⟩ := set1 H.out 0 a;obtain ⟨w2, e2, h2, g2⟩ := set1 h1 1 b;obtain ⟨w3, e3, h3, g3⟩ := set1 h2 2 c;obtain ⟨w4, e4, h4, g4⟩ := set1 h3 3 d;obtain ⟨w5, e5, h5, g5⟩ := set1 h4 4 e;exact ⟨w5, by rw [e5, e4, e3, e2, e1], aA (by simpa using h5), grownT (grownT (grownT (grownT g1 g2) g3) g4) g5⟩
theorem own_setP {W w' : World} {P base n sz : Nat} {e : TypeId} {v : Value} {vs : List Value} (h : W.ownsRow base e sz v n vs) (hg : W.grownBy w' (some P)) (hne : v.ownBlock ≠ some P) : w'.ownsRow base e sz v n vs := h.kept hg (.inr hne)
theorem sep_of {u v : Value} {a b c d : Nat} (h1 : ∀ g, u.ownBlock = some g → a ≤ g ∧ g < b) (h2 : ∀ g, v.ownBlock = some g → c ≤ g ∧ g < d) (h : b ≤ c) : u.ownBlock = none ∨ u.ownBlock ≠ v.ownBlock := by
  cases e : u.ownBlock with
  | none => exact .inl rfl
  | some g => exact .inr fun e' => by have := h1 g e; have := h2 g e'.symm; omega
theorem AsyK.of3 {W : World} {base : Nat} {v1 v2 v3 : Value} {rs bs ns : List Int} (h1 : W.ownsRow base 3 1 v1 rs.length (rs.map intV)) (h2 : W.ownsRow base 3 1 v2 bs.length (bs.map intV)) (h3 : W.ownsRow base 3 1 v3 ns.length (ns.map intV))
  (s12 : v1.ownBlock = none ∨ v1.ownBlock ≠ v2.ownBlock) (s13 : v1.ownBlock = none ∨ v1.ownBlock ≠ v3.ownBlock) (s23 : v2.ownBlock = none ∨ v2.ownBlock ≠ v3.ownBlock) {P : Nat} (n1 : v1.ownBlock ≠ some P) (n2 : v2.ownBlock ≠ some P) (n3 : v3.ownBlock ≠ some P)
  (H : Hid (W.heap[P]? = some (.cells #[v1, v2, v3, .slice none 0 0, .slice none 0 0] 40 (0, 0)))) :
  ∃ val, AsyB W base val ⟨rs, bs, ns, [], []⟩ P := by
 have turn : ∀ {a b : Option Nat}, (a = none ∨ a ≠ b) → (b = none ∨ b ≠ a) := fun {a b} h => by
  cases b with
  | none => exact .inl rfl
  | some g =>
   rcases h with h | h
   · rw [h]; exact .inr (by simp)
   · exact .inr fun e => h e.symm
 refine ⟨fun j => match j with | .r => v1 | .b => v2 | .n => v3 | _ => nilV, ⟨fun j hj => ?_, fun i j hi hj hne => ?_⟩, fun j hj => ?_, H.out⟩
 ·
  cases j with
  | r => exact h1
  | b => exact h2
  | n => exact h3
  | s => exact World.ownsRow_nil _ _ _ _
  | f => exact World.ownsRow_nil _ _ _ _
  | sl k => exact absurd (show k < 0 from hj) (by omega)
  | fr k => exact absurd (show k < 0 from hj) (by omega)
  | le k p => exact absurd (show k < 0 from hj.1) (by omega)
 ·
  cases i with
  | r => cases j with
   | r => exact absurd rfl hne
   | b => exact s12
   | n => exact s13
   | _ => (show v1.ownBlock = none ∨ v1.ownBlock ≠ none; cases v1.ownBlock <;> simp)
  | b => cases j with
   | b => exact absurd rfl hne
   | r => exact turn s12
   | n => exact s23
   | _ => (show v2.ownBlock = none ∨ v2.ownBlock ≠ none; cases v2.ownBlock <;> simp)
  | n => cases j with
   | n => exact absurd rfl hne
   | r => exact turn s13
   | b => exact turn s23
   | _ => (show v3.ownBlock = none ∨ v3.ownBlock ≠ none; cases v3.ownBlock <;> simp)
  | _ => exact .inl rfl
 ·
  cases j with
  | r => exact n1
  | b => exact n2
  | n => exact n3
  | _ => (show (none : Option Nat) ≠ some P; simp)
structure SmallA (x : Asy) : Prop where
  r : x.rounds.length ≤ 40
  b : x.before.length ≤ 40
  n : x.now.length ≤ 40
  s : x.slots.length ≤ 40
  f : x.flight.length = x.slots.length
  sl : ∀ s ∈ x.slots, s.length ≤ 6
  fr : ∀ f ∈ x.flight, f.length ≤ 6
  le : ∀ f ∈ x.flight, ∀ ls ∈ f, ls.length ≤ 12
end
section
open Go.RowKit
set_option linter.all false
theorem sliceInfo3 : (Tryz.prog.info? 101).map (fun i => (i.zero, i.size, i.bytes)) = some (some (.slice none 0 0), 1, 24) := by kernel_rfl
theorem sliceInfo2 : (Tryz.prog.info? 102).map (fun i => (i.zero, i.size, i.bytes)) = some (some (.slice none 0 0), 1, 24) := by kernel_rfl
theorem sliceInfo1 : (Tryz.prog.info? 24).map (fun i => (i.zero, i.size, i.bytes)) = some (some (.slice none 0 0), 1, 24) := by kernel_rfl
def xTo (x : Asy) (k : Nat) : Asy := ⟨x.rounds, x.before, x.now, x.slots.take k, x.flight.take k⟩
def xMid (x : Asy) (k : Nat) : Asy := ⟨x.rounds, x.before, x.now, x.slots.take (k + 1), x.flight.take k⟩
theorem xMid_of {x : Asy} {k : Nat} {s : List Int} (hs : x.slots[k]? = some s) : { xTo x k with slots := (xTo x k).slots ++ [s] } = xMid x k := by obtain ⟨hk, rfl⟩ := aB.1 hs;unfold xTo xMid;rw [List.take_succ_eq_append_getElem hk]
theorem xTo_of {x : Asy} {k : Nat} {f : List Ends} (hf : x.flight[k]? = some f) : withRow (xMid x k) f = xTo x (k + 1) := by obtain ⟨hk, rfl⟩ := aB.1 hf;unfold withRow xTo xMid;rw [List.take_succ_eq_append_getElem hk]
def SoRel (x : Asy) (P : Nat) (w : World) (i : Value) (wr : World) : Prop := Below w.heap.size w wr ∧ ∃ (k : Nat) (val : Key → Value), k ≤ x.slots.length ∧ i = .int .i64 k ∧ AsyB wr w.heap.size val (xTo x k) P
def SfRel (x : Asy) (P k : Nat) (f : List Ends) (w : World) (u i : Value) (wr : World) : Prop := Below w.heap.size w wr ∧ ∃ (j : Nat) (val : Key → Value), j ≤ f.length ∧ i = .int .i64 j ∧ u = val (.fr k) ∧ AsyFB wr w.heap.size val (xMid x k) (f.take j) P
set_option maxRecDepth 100000 in
set_option maxHeartbeats 4000000 in
theorem spec_syOwn (xr xb xn xs xf : Value) (x : Asy) (w : World) (hx : AsyR w w.heap.size xr xb xn xs xf x) (hsm : SmallA x) :
  Calls Tryz.prog 36 #[.agg #[xr, xb, xn, xs, xf]] w fun e w' => ∃ val, e = .returned (.agg #[val .r, val .b, val .n, val .s, val .f]) ∧ AsyK w' w.heap.size val x ∧ Below w.heap.size w w' := by
 have HX0 := aA hx;have HSM := aA hsm;clear hsm;obtain ⟨⟨A10, m10, c10, rfl⟩, ⟨A11, m11, c11, rfl⟩, ⟨A12, m12, c12, rfl⟩, -, -⟩ := hx.slices;have hxs := hx.s.open_;have hxf := hx.f;obtain ⟨A8, c8, rfl, hc8, hM8, hr8⟩ := hxs;obtain ⟨A9, c9, rfl, hc9, hM9, hr9⟩ := hxf;unfold maxLen at hM8 hM9;have HR8 := aA hr8;have HR9 := aA hr9;clear hr8 hr9;obtain ⟨w0, hw0, hb0, HY, hz0, HS0⟩ := box5 w (.slice A10 m10 c10) (.slice A11 m11 c11) (.slice A12 m12 c12) (.slice A8 x.slots.length c8) (.slice A9 x.flight.length c9) 40;have hB : Below w.heap.size w w0 := hb0;have HW := aA (show w0 = w.alloc (.cells #[.slice A10 m10 c10, .slice A11 m11 c11, .slice A12 m12 c12, .slice A8 x.slots.length c8, .slice A9 x.flight.length c9] 40) by rw [hw0]);obtain ⟨⟨y0, y1, y2⟩, ⟨y3, y4⟩, yf⟩ := cells5 HY;have ey0 := y0;have ey1 := y1;have ey2 := y2;have ey3 := y3;have ey4 := y4;rw [HW.out] at ey0 ey1 ey2 ey3 ey4;have hzb0 : w.heap.size < w0.heap.size := by omega
 have HX := aA (hx.up hB);clear hw0;obtain ⟨w1, hw1, hb1, HQ, hz1, HS1⟩ := box5 w0 nilV nilV nilV nilV nilV 40;unfold nilV at hw1 HQ;have HW1 := aA (show w1 = (w.alloc (.cells #[.slice A10 m10 c10, .slice A11 m11 c11, .slice A12 m12 c12, .slice A8 x.slots.length c8, .slice A9 x.flight.length c9] 40)).alloc (.cells #[.slice none 0 0, .slice none 0 0, .slice none 0 0, .slice none 0 0, .slice none 0 0] 40) by rw [hw1, HW.out]);have hP1 := HS0.out;obtain ⟨P1, hPP1⟩ : ∃ z, z = w0.heap.size := ⟨_, rfl⟩
 have HP1 := aA (show w.heap.size + 1 = P1 by rw [hPP1, hP1]);rw [← hPP1] at HQ hz1;clear ey0 ey1 ey2 ey3 ey4 hw1 hP1 HS0 HS1 hPP1;have hzhb1 := hb1.size;clear y0 y1 y2 y3 y4 yf;replace HY := bk HY hb1;replace hB := bl_trans hB hb1;obtain ⟨⟨y0, y1, y2⟩, ⟨y3, y4⟩, yf⟩ := cells5 HY;have hzb1 : w.heap.size < w1.heap.size := by omega
 go_enter Tryz.func36, Tryz.ntmps36;go_wp2_with fail;rw [HP1.out, ← HW1.out];rename_i K hrest;have FIN0 : ∀ (W : World) (P3 : Nat) (v1 v2 v3 : Value), Below w1.heap.size w1 W → w1.heap.size ≤ P3 → (∃ val, AsyB W w1.heap.size val ⟨x.rounds, x.before, x.now, [], []⟩ P3) →
   K ⟨#[.agg #[.slice A10 m10 c10, .slice A11 m11 c11, .slice A12 m12 c12, .slice A8 x.slots.length c8, .slice A9 x.flight.length c9], .pointer (some ⟨w.heap.size, 0, none⟩), .pointer (some ⟨P1, 0, none⟩), .pointer (some ⟨P3, 0, none⟩), undef, undef, undef, undef, .pointer (some ⟨w.heap.size, 0, none⟩), .slice A10 m10 c10, v1, .pointer (some ⟨w.heap.size, 1, none⟩), .slice A11 m11 c11, v2, .pointer (some ⟨w.heap.size, 2, none⟩), .slice A12 m12 c12, v3, .agg #[v1, v2, v3, .slice none 0 0, .slice none 0 0], undef, undef, undef, undef, undef, undef, undef, undef, undef, undef, undef, undef, undef, undef, undef, undef, undef, undef, undef, undef, undef, undef, undef, undef, undef, undef, undef, undef, undef, undef, undef, undef, undef, undef, undef, undef, undef, undef, undef, undef, undef, undef], []⟩ W := by
  intro W P3 v1 v2 v3 hBW hP3 hK0;obtain ⟨val, hk0⟩ := hK0;refine hrest _ _ ?_;have HK0 := aA hk0;have HY0 := aA HY;have HQ0 := aA HQ;have HP3 := aA hP3;clear hk0;have hB0 := bl_trans hB hBW;replace HY := bk HY hBW;replace HQ := bk HQ hBW;clear y0 y1 y2 y3 y4 yf hrest hB;obtain ⟨⟨y0, y1, y2⟩, ⟨y3, y4⟩, yf⟩ := cells5 HY;go_wp2_with fail;go_loopw [21] (fun i wr => SoRel x P3 w1 i wr) (fun i _ => x.slots.length - (intOf i).toNat)
  case atStart => exact ⟨hBW, 0, val, Nat.zero_le _, rfl, HK0.out⟩
  case round =>
   obtain ⟨hbr, k, vk, hkn, rfl, hk1⟩ := hrel;have HK := aA hk1;have hzr := hbr.size;have hPr := hk1.lt;have hk1b := hk1.box;have hB := bl_trans (show Below w.heap.size w w1 from bl_trans hb0 hb1) hbr;clear hk1 y0 y1 y2 y3 y4 yf;have HYr := bk HY0.out hbr;have HQr := bk HQ0.out hbr;obtain ⟨⟨y0, y1, y2⟩, ⟨y3, y4⟩, yf⟩ := cells5 HYr;by_cases hlt : k < x.slots.length
   ·
    obtain ⟨s, hs⟩ : ∃ y, x.slots[k]? = some y := ⟨_, aC hlt⟩
    have hlf : k < x.flight.length := by rw [HSM.out.f]; exact hlt
    obtain ⟨f, hf⟩ : ∃ y, x.flight[k]? = some y := ⟨_, aC hlf⟩
    have hs6 := HSM.out.sl s (aN hs);have hf6 := HSM.out.fr f (aN hf);have h40 := HSM.out.s;have hl12 := aA (HSM.out.le f (aN hf));obtain ⟨ad8, rfl, ha8, hrow8⟩ := HR8.out (by omega);obtain ⟨ad9, rfl, ha9, hrow9⟩ := HR9.out (by omega);obtain ⟨u8, hu8, hz8⟩ := hrow8 k s hs;obtain ⟨u9, hu9, hz9⟩ := hrow9 k f hf;have HZ8 := aA hz8;obtain ⟨B8, e8, rfl, -, -, -⟩ := hz8.open_;obtain ⟨B9, e9, rfl, hd9, hD9, hrf⟩ := hz9;unfold maxLen at hD9;have HRF := aA hrf;have HC9 := aA hu9;have hc8' := (hB.cell (p := ad8.add k) (by rw [block_add]; exact ha8)).trans hu8;have HXM := aA (xMid_of hs);have HXT := aA (xTo_of hf);have HFA := aA hf;have hlk : (xTo x k).slots.length = k := by show (x.slots.take k).length = k; rw [List.length_take]; omega
    have hlm : (xMid x k).flight.length = k := by show (x.flight.take k).length = k; rw [List.length_take]; omega
    have hos := HK.out.k.own .s trivial;replace hos : wr.ownsRow w1.heap.size 24 1 (vk .s) (xTo x k).slots.length (valsOf .sl vk (xTo x k).slots.length) := hos;obtain ⟨As, cs, eks⟩ := own_sl1 hos;have HOS := aA hos;have HEK := aA eks;have HLK := aA hlk;have HLM := aA hlm;have q3 : wr.cell? ⟨P3, 3, none⟩ = some (.slice As k cs) := by rw [cell_of_row _ _ 3 _ _ (0, 0) hk1b, ← hlk, ← eks]; rfl
    clear hz8 hrf hu8 hu9 hs hf hrow8 hrow9 hos eks hlk hlm hk1b;go_wp2_with fail;refine till_region (S := fun w' => w'.cell? ⟨P3, 3, none⟩ = some (.slice As k cs) ∧ w'.cell? ⟨w.heap.size, 3, none⟩ = some (.slice (some ad8) x.slots.length c8) ∧ w'.cell? (ad8.add k) = some (.slice B8 s.length e8)) (st := 11) (by kernel_rfl) ⟨q3, y3, hc8'⟩ (fun hHeld => ?_);refine utf 0 24 ?_;refine utk 1 25 ?_;refine utf 2 26 ?_;refine utk 3 27 ?_;refine utf 4 28 ?_;refine utf 5 29 ?_;refine utk 6 30 ?_;refine ur 7 rfl (by kernel_rfl) (fun K hK => ?_);go_simp;go_at_call 76;refine (spec_l1Own _ s wr.drew (ints_at HZ8.out hB.drew) (by omega)).mono ?_;rintro e w5 ⟨v5, rfl, o5, hb5'⟩;have hb5 : Below wr.heap.size wr w5 := (Below.refl _ _).drew.trans hb5';replace o5 : w5.ownsRow wr.heap.size 3 1 v5 s.length (s.map intV) := o5;obtain ⟨B5, d5, rfl⟩ := own_slice o5;have HO5 := aA o5;have hz5 := hb5.size;have ho5s : w5.ownsRow w1.heap.size 24 1 (.slice As k cs) k (valsOf .sl vk k) := by have := own_up HOS.out hb5;rw [HEK.out, HLK.out] at this;exact this
    have HOS5 := aA ho5s;replace q3 := (hb5.cell (p := ⟨P3, 3, none⟩) hPr).trans q3;replace y3 := (hb5.cell (p := ⟨w.heap.size, 3, none⟩) (by show w.heap.size < wr.heap.size; omega)).trans y3;replace hc8' := (hb5.cell (p := ad8.add k) (by rw [block_add]; omega)).trans hc8';have HQ3 := aA q3;have HY3 := aA y3;have HC8 := aA hc8';have HBX5 := aA ((hb5.block P3 hPr).trans HK.out.box);clear hb5' o5 ho5s;refine hK.out (fun _ => ⟨q3, y3, hc8'⟩) ?_;clear hK K
    try simp only [Act.put, pu]
    refine ur 8 rfl (by kernel_rfl) (fun K hK => ?_);go_simp;replace q3 := aD (.cells #[.slice B5 s.length d5] 24) q3;replace y3 := aD (.cells #[.slice B5 s.length d5] 24) y3;replace hc8' := aD (.cells #[.slice B5 s.length d5] 24) hc8';refine hK.out (fun _ => ⟨q3, y3, hc8'⟩) ?_;clear hK K
    try simp only [Act.put, pu]
    refine ur 9 rfl (by kernel_rfl) (fun K hK => ?_);rw [if_pos (by rfl)];refine oper_append1 w5 (.tmp 25) (.tmp 32) 22 rfl w1.heap.size 24 _ 24 Tryz.underlying22 sliceInfo1 rfl _ _ _ rfl _ rfl rfl HOS5.out (by unfold maxLen; omega) (by omega) (by omega) ?_;intro v6 w6 hown6 hbl6 hgr6 hlt6 hob6;obtain ⟨A6, c6, rfl⟩ := own_sl1 hown6;have hneP : (Value.slice As k cs).ownBlock ≠ some P3 := by have := HK.out.ne .s trivial;rw [HEK.out, HLK.out] at this;exact this
    have hkP := hgr6.block P3 (by omega) (fun e => hneP e.symm);clear q3 y3 hc8';have q3 := (World.cell?_of_block (a := ⟨P3, 3, none⟩) hkP).trans HQ3.out;have y3 := (hbl6.cell (p := ⟨w.heap.size, 3, none⟩) (by show w.heap.size < w1.heap.size; omega)).trans HY3.out;have hc8' := (hbl6.cell (p := ad8.add k) (by rw [block_add]; omega)).trans HC8.out;have f3 : w6.frozen? ⟨P3, 3, none⟩ = false := frozen_of_row _ _ 3 _ _ (hkP.trans HBX5.out);refine hK.out (fun _ => ⟨q3, y3, hc8'⟩) ?_;clear hK K
    try simp only [Act.put, pu]
    refine utf 10 34 ?_;refine ur 11 rfl (by kernel_rfl) (fun K hK => ?_);go_simp;obtain ⟨w7, hw7⟩ : ∃ z, z = w6.setCell ⟨P3, 3, none⟩ (.slice A6 (k + 1) c6) := ⟨_, rfl⟩
    rw [← hw7];obtain ⟨val1, -, hk1⟩ := HK.out.addSlots hb5 hzr HO5.out (w2 := w6) (v2 := .slice A6 (k + 1) c6) (by rw [HEK.out, HLK.out]; exact hgr6) (by rw [HLK.out]; exact hown6) (by rw [HEK.out, HLK.out]; exact hob6.imp id fun ⟨g, h1, h2, _⟩ => ⟨g, h1, h2⟩);rw [← hw7, HXM.out] at hk1;have HM := aA hk1;have HB17 := aA (show Below w1.heap.size w1 w7 by rw [hw7]; exact ((bl_trans hbr hb5).trans hbl6).setCell (p := ⟨P3, 3, none⟩) HP3.out _);have HY7 := bk HY0.out HB17.out;clear hk1 hw7 q3 y3 hc8' f3 hkP hneP y0 y1 y2 y4 yf hown6 hbl6 hgr6 hob6;obtain ⟨⟨y0, y1, y2⟩, ⟨y3, y4⟩, yf⟩ := cells5 HY7;have hc9' := ((bl_trans (bl_trans hb0 hb1) HB17.out).cell (p := ad9.add k) (by rw [block_add]; exact ha9)).trans HC9.out;refine hK.out (fun h' => till_no h' (by kernel_rfl)) ?_;clear hK K
    try simp only [Act.put, pu]
    refine wpTill_done (by kernel_rfl) ?_ _;go_wp2_with fail;obtain ⟨val2, hval2, hF0⟩ := HM.out.startF;rw [HLM.out] at hval2;have HF0 := aA hF0;have HV2 := aA hval2;clear hF0 hval2;go_loopw [5, 41] (fun u i wr' => SfRel x P3 k f w1 u i wr') (fun _ i _ => f.length - (intOf i).toNat)
    case atStart => exact ⟨HB17.out, 0, val2, Nat.zero_le _, rfl, HV2.out.symm, HF0.out⟩
    case round =>
     obtain ⟨hbf, j, vj, hj, rfl, rfl, hkj⟩ := hrel;have HKJ := aA hkj;have hzf := hbf.size;have hPf := hkj.lt;have hboxf := hkj.box;have hBf := bl_trans (show Below w.heap.size w w1 from bl_trans hb0 hb1) hbf;have hfr := hkj.frow;have hfl := hkj.flow;have hnf : (vj .f).ownBlock ≠ some P3 := hkj.ne .f trivial;rw [HLM.out] at hfr hfl;have hlj : (f.take j).length = j := by rw [List.length_take]; omega
     rw [hlj] at hfr;obtain ⟨Ar, cr, ear⟩ := own_sl1 hfr;obtain ⟨Aq, cq, eaq⟩ := own_sl1 hfl;have HFR := aA hfr;have HFL := aA hfl;have HAR := aA ear;have HAQ := aA eaq;have HNF := aA hnf;have HLJ := aA hlj;have q4 : wr.cell? ⟨P3, 4, none⟩ = some (.slice Aq k cq) := by rw [cell_of_row _ _ 4 _ _ (0, 0) hboxf, ← eaq]; rfl
     have HBOX := aA hboxf;have HYf := bk HY0.out hbf;clear hkj hfr hfl hlj hboxf hnf y0 y1 y2 y3 y4 yf;obtain ⟨⟨y0, y1, y2⟩, ⟨y3, y4⟩, yf⟩ := cells5 HYf;rw [ear];clear ear eaq;by_cases hltj : j < f.length
     ·
      obtain ⟨ls, hls⟩ : ∃ y, f[j]? = some y := ⟨_, aC hltj⟩
      have hl12' := hl12.out ls (aN hls);obtain ⟨adf, rfl, haf, hrowf⟩ := HRF.out (by omega);obtain ⟨ul, hul, hzl⟩ := hrowf j ls hls;have hel := (EndsR.below hzl hBf).more hBf.size;obtain ⟨Bl, dl, rfl, hdl, hDl, -, -⟩ := hzl;unfold maxLen at hDl;have hcl := (hBf.cell (p := adf.add j) (by rw [block_add]; exact haf)).trans hul;obtain ⟨v6, w6, hrun, ho6, hb6⟩ := run_ownLets wr _ ls 102 hel (by omega);obtain ⟨B6, d6, rfl⟩ := own_sl1 ho6;have hfr6 := own_up HFR.out hb6;rw [HAR.out] at hfr6;have hz6 := hb6.size;have HRUN := aA hrun;have HFR6 := aA hfr6;have HO6 := aA ho6;have HB6 := aA hb6;have htk : f.take j ++ [ls] = f.take (j + 1) := by obtain ⟨hk', rfl⟩ := aB.1 hls; rw [List.take_succ_eq_append_getElem hk']
      have HTK := aA htk;clear hel hrowf hul hls hrun hfr6 ho6 htk
      go_wp2_with (first
       | (at_builtin; refine Lib.wpList_append_run _ rfl _ _ _ _ rfl _ _ rfl rfl _ _ HRUN.out ?_)
       | (at_builtin; refine wpList_append1 w6 rfl (.tmp 45) (.tmp 49) 101 rfl w1.heap.size 102 _ 24 Tryz.underlying101 sliceInfo2 rfl _ _ _ rfl _ rfl rfl HFR6.out (by unfold maxLen; omega) (by omega) (by omega) ?_; intro v8 w8 hown8 hbl8 hgr8 hlt8 hob8))
      have hgr8' : w6.grownBy w8 (vj (.fr (xMid x k).flight.length)).ownBlock := by rw [HLM.out, HAR.out]; exact hgr8
      have hown8' : w8.ownsRow w1.heap.size 102 1 v8 ((f.take j).length + 1) (valsOf (.le (xMid x k).flight.length) vj (f.take j).length ++ [.slice B6 ls.length d6]) := by rw [HLM.out, HLJ.out]; exact hown8
      have hob8' : v8.ownBlock = (vj (.fr (xMid x k).flight.length)).ownBlock ∨ ∃ g, v8.ownBlock = some g ∧ w6.heap.size ≤ g := by rw [HLM.out, HAR.out];exact hob8.imp id fun ⟨g, h1, h2, _⟩ => ⟨g, h1, h2⟩
      obtain ⟨val3, hv3, hk3⟩ := HKJ.out.add HB6.out hzf HO6.out hgr8' hown8' hob8';rw [HTK.out] at hk3;rw [HLM.out] at hv3;have HK3 := aA hk3;have HV3 := aA hv3;have HB8 := aA (show Below w1.heap.size w1 w8 from (bl_trans hbf HB6.out).trans hbl8);clear hk3 hv3 hgr8' hown8' hob8' hown8 hbl8 hgr8 hob8;go_roundw
      case rel => exact ⟨HB8.out, j + 1, val3, by omega, by go_num, HV3.out.symm, HK3.out⟩
      case measure => simp [intOf]; omega
     ·
      obtain rfl : j = f.length := by omega
      have hfl' := HFL.out;rw [HAQ.out] at hfl';have HFL' := aA hfl';clear hfl';have f4 : wr.frozen? ⟨P3, 4, none⟩ = false := frozen_of_row _ _ 4 _ _ HBOX.out;go_wp2_with (at_builtin; refine wpList_append1 wr rfl (.tmp 53) (.tmp 55) 38 rfl w1.heap.size 101 _ 24 Tryz.underlying38 sliceInfo3 rfl _ _ _ rfl _ rfl rfl HFL'.out (by unfold maxLen; omega) (by omega) (by omega) ?_; intro v8 w8 hown8 hbl8 hgr8 hlt8 hob8; obtain ⟨A8', c8', rfl⟩ := own_sl1 hown8; have q4' := (World.cell?_of_block (a := ⟨P3, 4, none⟩) (hgr8.block P3 hPf (fun e => HNF.out (by rw [HAQ.out]; exact e.symm)))).trans q4; have f4' := (World.frozen?_of_block (a := ⟨P3, 4, none⟩) (hgr8.block P3 hPf (fun e => HNF.out (by rw [HAQ.out]; exact e.symm)))).trans f4)
      have hgr8' : wr.grownBy w8 (vj .f).ownBlock := by rw [HAQ.out]; exact hgr8
      have hown8' : w8.ownsRow w1.heap.size 101 1 (.slice A8' (k + 1) c8') ((xMid x k).flight.length + 1) (valsOf .fr vj (xMid x k).flight.length ++ [vj (.fr (xMid x k).flight.length)]) := by rw [HLM.out, HAR.out]; exact hown8
      have hob8' : (Value.slice A8' (k + 1) c8').ownBlock = (vj .f).ownBlock ∨ ∃ g, (Value.slice A8' (k + 1) c8').ownBlock = some g ∧ wr.heap.size ≤ g := by rw [HAQ.out];exact hob8.imp id fun ⟨g, h1, h2, _⟩ => ⟨g, h1, h2⟩
      obtain ⟨val3, hk3⟩ := HKJ.out.fin hgr8' hown8' hob8';have ett : f.take f.length = f := List.take_of_length_le (Nat.le_refl _);rw [ett, HXT.out] at hk3;have HK3 := aA hk3;have HB8 := aA (show Below w1.heap.size w1 (w8.setCell ⟨P3, 4, none⟩ (.slice A8' (k + 1) c8')) from (hbf.trans hbl8).setCell (p := ⟨P3, 4, none⟩) HP3.out _);clear hk3 hgr8' hown8' hob8' hown8 hbl8 hgr8 hob8 ett q4 q4' f4 f4';go_roundw
      case rel => exact ⟨HB8.out, k + 1, val3, by omega, by go_num, HK3.out⟩
      case measure => simp [intOf]; omega
   ·
    obtain rfl : k = x.slots.length := by omega
    have HXE := aA (show xTo x x.slots.length = x by unfold xTo; rw [List.take_of_length_le (Nat.le_refl _), List.take_of_length_le (by have := HSM.out.f; omega)]);have HBX := aA hk1b;clear hk1b;obtain ⟨C0, k0, ek0⟩ := own_sl1 (HK.out.k.own .r trivial);obtain ⟨C1, k1, ek1⟩ := own_sl1 (HK.out.k.own .b trivial);obtain ⟨C2, k2, ek2⟩ := own_sl1 (HK.out.k.own .n trivial);obtain ⟨C3, k3, ek3⟩ := own_sl1 (HK.out.k.own .s trivial);obtain ⟨C4, k4, ek4⟩ := own_sl1 (HK.out.k.own .f trivial);have HVK := aA (show Value.agg #[vk .r, vk .b, vk .n, vk .s, vk .f] = Value.agg #[.slice C0 (rowK (xTo x x.slots.length) vk .r).len k0, .slice C1 (rowK (xTo x x.slots.length) vk .b).len k1, .slice C2 (rowK (xTo x x.slots.length) vk .n).len k2, .slice C3 (rowK (xTo x x.slots.length) vk .s).len k3, .slice C4 (rowK (xTo x x.slots.length) vk .f).len k4] by rw [← ek0, ← ek1, ← ek2, ← ek3, ← ek4]);replace HBX := aA (show wr.heap[P3]? = some (.cells #[.slice C0 (rowK (xTo x x.slots.length) vk .r).len k0, .slice C1 (rowK (xTo x x.slots.length) vk .b).len k1, .slice C2 (rowK (xTo x x.slots.length) vk .n).len k2, .slice C3 (rowK (xTo x x.slots.length) vk .s).len k3, .slice C4 (rowK (xTo x x.slots.length) vk .f).len k4] 40 (0, 0)) by rw [HBX.out, ek0, ek1, ek2, ek3, ek4]);generalize (rowK (xTo x x.slots.length) vk .r).len = n0 at HVK HBX;generalize (rowK (xTo x x.slots.length) vk .b).len = n1 at HVK HBX;generalize (rowK (xTo x x.slots.length) vk .n).len = n2 at HVK HBX;generalize (rowK (xTo x x.slots.length) vk .s).len = n3 at HVK HBX;generalize (rowK (xTo x x.slots.length) vk .f).len = n4 at HVK HBX;clear ek0 ek1 ek2 ek3 ek4;obtain ⟨⟨b0, b1, b2⟩, ⟨b3, b4⟩, bf⟩ := cells5 HBX;obtain ⟨⟨p0, p1, p2⟩, ⟨p3, p4⟩, pf⟩ := cells5 HQr;obtain ⟨we, hwe, HE, hge⟩ := set5 HQr (.slice C0 n0 k0) (.slice C1 n1 k1) (.slice C2 n2 k2) (.slice C3 n3 k3) (.slice C4 n4 k4);have HWE := aA hwe;clear hwe;go_wp2_with fail;rw [← HWE.out];obtain ⟨⟨z0, z1, z2⟩, ⟨z3, z4⟩, -⟩ := cells5 HE;have hwP : w.heap.size ≤ P1 := Nat.le_of_lt (by rw [← HP1.out]; omega);have hBE : Below w.heap.size w we := Below.grown hB hge (by omega) (fun k hk => by have e := aE (show some P1 = some k from hk); omega);have hKE : AsyK we w.heap.size vk x := by have h1 := OwnK.apart HK.out.k hge (fun j hj e => by have := ((HK.out.k.own j hj).lt P1 e).1; omega);have h2 : AsyK we w1.heap.size vk (xTo x x.slots.length) := h1;rw [HXE.out] at h2;exact OwnK.mono h2 (Nat.le_of_lt hzb1)
    exact bodyPost_ret (v := .agg #[.slice C0 n0 k0, .slice C1 n1 k1, .slice C2 n2 k2, .slice C3 n3 k3, .slice C4 n4 k4]) (by simp [results, Tryz.results36, go_sem, z0, z1, z2, z3, z4]) rfl ⟨vk, by rw [HVK.out], hKE, hBE⟩
 have FIN := aA FIN0;clear FIN0;have hB1 : Below w1.heap.size w1 w1 := Below.refl _ _;have hzc := hzb1;obtain ⟨sz, hsz, hcur⟩ : ∃ z, z = w1.heap.size ∧ z = w1.heap.size := ⟨_, rfl, rfl⟩
 refine aH (S := fun w' => w'.cell? ⟨w.heap.size, 0, none⟩ = some (.slice A10 m10 c10) ∧ w'.cell? ⟨w.heap.size, 1, none⟩ = some (.slice A11 m11 c11) ∧ w'.cell? ⟨w.heap.size, 2, none⟩ = some (.slice A12 m12 c12)) (by kernel_rfl) ?_ (fun hHeld => ?_)
 · go_keep
 refine stk 0 8 ?_;refine stk 1 9 ?_;refine stk 3 11 ?_;refine stk 4 12 ?_;refine stk 6 14 ?_;refine stk 7 15 ?_;refine aJ (rs := [2, 10]) (by kernel_rfl) (by simp) ?_;refine aI rfl (fun K hK => ?_) (aI rfl (fun K hK => ?_) AllReadyH.nil)
 ·
  go_simp;go_at_call 76;refine (spec_l1Own _ x.rounds _ (ints_at HX0.out.r (by first | exact hB | exact hB.drew | exact hB.drew.drew | exact hB.drew.drew.drew)) (by have := HSM.out.r; omega)).mono ?_;rintro e w5 ⟨v5, rfl, o5, hb5⟩;have r5 : ∀ g, v5.ownBlock = some g → sz ≤ g ∧ g < w5.heap.size := fun g hg => by rw [hsz]; exact o5.lt g hg
  replace o5 := own_mono o5 (show w1.heap.size ≤ _ from hB1.size);obtain ⟨B5, d5, rfl⟩ := own_slice o5;have hlew5 : sz ≤ w5.heap.size := by rw [hsz]; exact hb5.size
  replace y0 := (hb5.cell (p := ⟨w.heap.size, 0, none⟩) hzc).trans y0;replace y1 := (hb5.cell (p := ⟨w.heap.size, 1, none⟩) hzc).trans y1;replace y2 := (hb5.cell (p := ⟨w.heap.size, 2, none⟩) hzc).trans y2;replace hzc := aF hzc hb5.size;replace hB : Below w.heap.size w w5 := by first | exact bl_trans hB hb5 | exact bl_trans hB.drew hb5 | exact bl_trans hB.drew.drew hb5 | exact bl_trans hB.drew.drew.drew hb5
  replace hB1 : Below w1.heap.size w1 w5 := by first | exact bl_trans hB1 hb5 | exact bl_trans hB1.drew hb5 | exact bl_trans hB1.drew.drew hb5 | exact bl_trans hB1.drew.drew.drew hb5
  obtain ⟨sz, hsz, hcur⟩ : ∃ z, z = w5.heap.size ∧ z = w5.heap.size := ⟨_, rfl, rfl⟩
  refine hK.out _ _ ?_ (fun hHeld => ?_)
  · go_keep
  clear hK K
  try simp only [Act.put, pu]
  refine aJ (rs := [5, 10]) (by kernel_rfl) (by simp) ?_;refine aI rfl (fun K hK => ?_) (aI rfl (fun K hK => ?_) AllReadyH.nil)
  ·
   go_simp;go_at_call 76;refine (spec_l1Own _ x.before _ (ints_at HX0.out.b (by first | exact hB | exact hB.drew | exact hB.drew.drew | exact hB.drew.drew.drew)) (by have := HSM.out.b; omega)).mono ?_;rintro e w6 ⟨v6, rfl, o6, hb6⟩;have r6 : ∀ g, v6.ownBlock = some g → sz ≤ g ∧ g < w6.heap.size := fun g hg => by rw [hsz]; exact o6.lt g hg
   replace o6 := own_mono o6 (show w1.heap.size ≤ _ from hB1.size);obtain ⟨B6, d6, rfl⟩ := own_slice o6;have hlew6 : sz ≤ w6.heap.size := by rw [hsz]; exact hb6.size
   replace y0 := (hb6.cell (p := ⟨w.heap.size, 0, none⟩) hzc).trans y0;replace y1 := (hb6.cell (p := ⟨w.heap.size, 1, none⟩) hzc).trans y1;replace y2 := (hb6.cell (p := ⟨w.heap.size, 2, none⟩) hzc).trans y2;replace hzc := aF hzc hb6.size;replace hB : Below w.heap.size w w6 := by first | exact bl_trans hB hb6 | exact bl_trans hB.drew hb6 | exact bl_trans hB.drew.drew hb6 | exact bl_trans hB.drew.drew.drew hb6
   replace hB1 : Below w1.heap.size w1 w6 := by first | exact bl_trans hB1 hb6 | exact bl_trans hB1.drew hb6 | exact bl_trans hB1.drew.drew hb6 | exact bl_trans hB1.drew.drew.drew hb6
   replace o5 := own_up o5 hb6;obtain ⟨sz, hsz, hcur⟩ : ∃ z, z = w6.heap.size ∧ z = w6.heap.size := ⟨_, rfl, rfl⟩
   refine hK.out _ _ ?_ (fun hHeld => ?_)
   · go_keep
   clear hK K
   try simp only [Act.put, pu]
   refine aJ (rs := [8, 10]) (by kernel_rfl) (by simp) ?_;refine aI rfl (fun K hK => ?_) (aI rfl (fun K hK => ?_) AllReadyH.nil)
   ·
    go_simp;go_at_call 76;refine (spec_l1Own _ x.now _ (ints_at HX0.out.n (by first | exact hB | exact hB.drew | exact hB.drew.drew | exact hB.drew.drew.drew)) (by have := HSM.out.n; omega)).mono ?_;rintro e w7 ⟨v7, rfl, o7, hb7⟩;have r7 : ∀ g, v7.ownBlock = some g → sz ≤ g ∧ g < w7.heap.size := fun g hg => by rw [hsz]; exact o7.lt g hg
    replace o7 := own_mono o7 (show w1.heap.size ≤ _ from hB1.size);obtain ⟨B7, d7, rfl⟩ := own_slice o7;have hlew7 : sz ≤ w7.heap.size := by rw [hsz]; exact hb7.size
    replace y0 := (hb7.cell (p := ⟨w.heap.size, 0, none⟩) hzc).trans y0;replace y1 := (hb7.cell (p := ⟨w.heap.size, 1, none⟩) hzc).trans y1;replace y2 := (hb7.cell (p := ⟨w.heap.size, 2, none⟩) hzc).trans y2;replace hzc := aF hzc hb7.size;replace hB : Below w.heap.size w w7 := by first | exact bl_trans hB hb7 | exact bl_trans hB.drew hb7 | exact bl_trans hB.drew.drew hb7 | exact bl_trans hB.drew.drew.drew hb7
    replace hB1 : Below w1.heap.size w1 w7 := by first | exact bl_trans hB1 hb7 | exact bl_trans hB1.drew hb7 | exact bl_trans hB1.drew.drew hb7 | exact bl_trans hB1.drew.drew.drew hb7
    replace o5 := own_up o5 hb7;replace o6 := own_up o6 hb7;obtain ⟨sz, hsz, hcur⟩ : ∃ z, z = w7.heap.size ∧ z = w7.heap.size := ⟨_, rfl, rfl⟩
    refine hK.out _ _ ?_ (fun hHeld => ?_)
    · go_keep
    clear hK K
    try simp only [Act.put, pu]
    refine stk 9 17 ?_;refine aJ (rs := [10]) (by kernel_rfl) (by simp) ?_;refine aI rfl (fun K hK => ?_) AllReadyH.nil;go_simp;obtain ⟨P3, w9, hP3, hw9, hb9, HT, hPc⟩ := boxAt y0 nilV nilV nilV nilV nilV 40;unfold nilV at hw9 HT;rw [hP3, ← hw9];have hPs : sz ≤ P3 ∧ P3 < w9.heap.size := ⟨by rw [hsz, hP3]; exact Nat.le_refl _, hPc⟩
    clear hw9;have hlew9 : sz ≤ w9.heap.size := by rw [hsz]; exact hb9.size
    replace y0 := (hb9.cell (p := ⟨w.heap.size, 0, none⟩) hzc).trans y0;replace y1 := (hb9.cell (p := ⟨w.heap.size, 1, none⟩) hzc).trans y1;replace y2 := (hb9.cell (p := ⟨w.heap.size, 2, none⟩) hzc).trans y2;replace hzc := aF hzc hb9.size;replace hB : Below w.heap.size w w9 := by first | exact bl_trans hB hb9 | exact bl_trans hB.drew hb9 | exact bl_trans hB.drew.drew hb9 | exact bl_trans hB.drew.drew.drew hb9
    replace hB1 : Below w1.heap.size w1 w9 := by first | exact bl_trans hB1 hb9 | exact bl_trans hB1.drew hb9 | exact bl_trans hB1.drew.drew hb9 | exact bl_trans hB1.drew.drew.drew hb9
    replace o5 := own_up o5 hb9;replace o6 := own_up o6 hb9;replace o7 := own_up o7 hb9;obtain ⟨sz, hsz, hcur⟩ : ∃ z, z = w9.heap.size ∧ z = w9.heap.size := ⟨_, rfl, rfl⟩
    (try clear q0 q1 q2 q3 q4 qf)
    obtain ⟨⟨q0, q1, q2⟩, ⟨q3, q4⟩, qf⟩ := cells5 HT;refine hK.out _ _ ?_ (fun hHeld => ?_)
    · go_keep
    clear hK K
    try simp only [Act.put, pu]
    refine aJ (rs := [11]) (by kernel_rfl) (by simp) ?_;refine aI rfl (fun K hK => ?_) AllReadyH.nil;go_simp;obtain ⟨we, hwe, HE, hge⟩ := set5 HT (.slice B5 x.rounds.length d5) (.slice B6 x.before.length d6) (.slice B7 x.now.length d7) (.slice none 0 0) (.slice none 0 0);rw [← hwe];clear hwe;have n5 : (Value.slice B5 x.rounds.length d5).ownBlock ≠ some P3 := fun h => by have := r5 _ h; omega
    have n6 : (Value.slice B6 x.before.length d6).ownBlock ≠ some P3 := fun h => by have := r6 _ h; omega
    have n7 : (Value.slice B7 x.now.length d7).ownBlock ≠ some P3 := fun h => by have := r7 _ h; omega
    have s56 : (Value.slice B5 x.rounds.length d5).ownBlock = none ∨ (Value.slice B5 x.rounds.length d5).ownBlock ≠ (Value.slice B6 x.before.length d6).ownBlock := sep_of r5 r6 (by omega);have s57 : (Value.slice B5 x.rounds.length d5).ownBlock = none ∨ (Value.slice B5 x.rounds.length d5).ownBlock ≠ (Value.slice B7 x.now.length d7).ownBlock := sep_of r5 r7 (by omega);have s67 : (Value.slice B6 x.before.length d6).ownBlock = none ∨ (Value.slice B6 x.before.length d6).ownBlock ≠ (Value.slice B7 x.now.length d7).ownBlock := sep_of r6 r7 (by omega);have HK3 := aA (AsyK.of3 (own_setP o5 hge n5) (own_setP o6 hge n6) (own_setP o7 hge n7) s56 s57 s67 n5 n6 n7 HE);have hBE : Below w1.heap.size w1 we := Below.grown hB1 hge (by rw [← hcur]; omega) (fun k hk => by have e := aE (show some P3 = some k from hk); omega);have yE : ∀ i, we.cell? ⟨w.heap.size, i, none⟩ = w9.cell? ⟨w.heap.size, i, none⟩ := fun i => World.cell?_of_block (hge.block w.heap.size hzc (fun h => by have e := aE h; omega))
    replace y0 := (yE 0).trans y0;replace y1 := (yE 1).trans y1;replace y2 := (yE 2).trans y2;refine hK.out _ _ ?_ (fun hHeld => ?_)
    · go_keep
    clear hK K
    try simp only [Act.put, pu]
    refine aK (by kernel_rfl) ?_ _;exact FIN.out _ P3 _ _ _ (by first | exact hBE | exact hBE.drew | exact hBE.drew.drew | exact hBE.drew.drew.drew) (by omega) HK3.out
   ·
    go_simp;obtain ⟨P3, w9, hP3, hw9, hb9, HT, hPc⟩ := boxAt y0 nilV nilV nilV nilV nilV 40;unfold nilV at hw9 HT;rw [hP3, ← hw9];have hPs : sz ≤ P3 ∧ P3 < w9.heap.size := ⟨by rw [hsz, hP3]; exact Nat.le_refl _, hPc⟩
    clear hw9;have hlew9 : sz ≤ w9.heap.size := by rw [hsz]; exact hb9.size
    replace y0 := (hb9.cell (p := ⟨w.heap.size, 0, none⟩) hzc).trans y0;replace y1 := (hb9.cell (p := ⟨w.heap.size, 1, none⟩) hzc).trans y1;replace y2 := (hb9.cell (p := ⟨w.heap.size, 2, none⟩) hzc).trans y2;replace hzc := aF hzc hb9.size;replace hB : Below w.heap.size w w9 := by first | exact bl_trans hB hb9 | exact bl_trans hB.drew hb9 | exact bl_trans hB.drew.drew hb9 | exact bl_trans hB.drew.drew.drew hb9
    replace hB1 : Below w1.heap.size w1 w9 := by first | exact bl_trans hB1 hb9 | exact bl_trans hB1.drew hb9 | exact bl_trans hB1.drew.drew hb9 | exact bl_trans hB1.drew.drew.drew hb9
    replace o5 := own_up o5 hb9;replace o6 := own_up o6 hb9;obtain ⟨sz, hsz, hcur⟩ : ∃ z, z = w9.heap.size ∧ z = w9.heap.size := ⟨_, rfl, rfl⟩
    (try clear q0 q1 q2 q3 q4 qf)
    obtain ⟨⟨q0, q1, q2⟩, ⟨q3, q4⟩, qf⟩ := cells5 HT;refine hK.out _ _ ?_ (fun hHeld => ?_)
    · go_keep
    clear hK K
    try simp only [Act.put, pu]
    refine aJ (rs := [8]) (by kernel_rfl) (by simp) ?_;refine aI rfl (fun K hK => ?_) AllReadyH.nil;go_simp;go_at_call 76;refine (spec_l1Own _ x.now _ (ints_at HX0.out.n (by first | exact hB | exact hB.drew | exact hB.drew.drew | exact hB.drew.drew.drew)) (by have := HSM.out.n; omega)).mono ?_;rintro e w7 ⟨v7, rfl, o7, hb7⟩;have r7 : ∀ g, v7.ownBlock = some g → sz ≤ g ∧ g < w7.heap.size := fun g hg => by rw [hsz]; exact o7.lt g hg
    replace o7 := own_mono o7 (show w1.heap.size ≤ _ from hB1.size);obtain ⟨B7, d7, rfl⟩ := own_slice o7;have hlew7 : sz ≤ w7.heap.size := by rw [hsz]; exact hb7.size
    replace y0 := (hb7.cell (p := ⟨w.heap.size, 0, none⟩) hzc).trans y0;replace y1 := (hb7.cell (p := ⟨w.heap.size, 1, none⟩) hzc).trans y1;replace y2 := (hb7.cell (p := ⟨w.heap.size, 2, none⟩) hzc).trans y2;replace hzc := aF hzc hb7.size;replace hB : Below w.heap.size w w7 := by first | exact bl_trans hB hb7 | exact bl_trans hB.drew hb7 | exact bl_trans hB.drew.drew hb7 | exact bl_trans hB.drew.drew.drew hb7
    replace hB1 : Below w1.heap.size w1 w7 := by first | exact bl_trans hB1 hb7 | exact bl_trans hB1.drew hb7 | exact bl_trans hB1.drew.drew hb7 | exact bl_trans hB1.drew.drew.drew hb7
    replace HT := aA ((hb7.block P3 hPc).trans HT.out);replace hPc := aF hPc hb7.size;replace o5 := own_up o5 hb7;replace o6 := own_up o6 hb7;obtain ⟨sz, hsz, hcur⟩ : ∃ z, z = w7.heap.size ∧ z = w7.heap.size := ⟨_, rfl, rfl⟩
    (try clear q0 q1 q2 q3 q4 qf)
    obtain ⟨⟨q0, q1, q2⟩, ⟨q3, q4⟩, qf⟩ := cells5 HT;refine hK.out _ _ ?_ (fun hHeld => ?_)
    · go_keep
    clear hK K
    try simp only [Act.put, pu]
    refine stk 9 17 ?_;refine aJ (rs := [11]) (by kernel_rfl) (by simp) ?_;refine aI rfl (fun K hK => ?_) AllReadyH.nil;go_simp;obtain ⟨we, hwe, HE, hge⟩ := set5 HT (.slice B5 x.rounds.length d5) (.slice B6 x.before.length d6) (.slice B7 x.now.length d7) (.slice none 0 0) (.slice none 0 0);rw [← hwe];clear hwe;have n5 : (Value.slice B5 x.rounds.length d5).ownBlock ≠ some P3 := fun h => by have := r5 _ h; omega
    have n6 : (Value.slice B6 x.before.length d6).ownBlock ≠ some P3 := fun h => by have := r6 _ h; omega
    have n7 : (Value.slice B7 x.now.length d7).ownBlock ≠ some P3 := fun h => by have := r7 _ h; omega
    have s56 : (Value.slice B5 x.rounds.length d5).ownBlock = none ∨ (Value.slice B5 x.rounds.length d5).ownBlock ≠ (Value.slice B6 x.before.length d6).ownBlock := sep_of r5 r6 (by omega);have s57 : (Value.slice B5 x.rounds.length d5).ownBlock = none ∨ (Value.slice B5 x.rounds.length d5).ownBlock ≠ (Value.slice B7 x.now.length d7).ownBlock := sep_of r5 r7 (by omega);have s67 : (Value.slice B6 x.before.length d6).ownBlock = none ∨ (Value.slice B6 x.before.length d6).ownBlock ≠ (Value.slice B7 x.now.length d7).ownBlock := sep_of r6 r7 (by omega);have HK3 := aA (AsyK.of3 (own_setP o5 hge n5) (own_setP o6 hge n6) (own_setP o7 hge n7) s56 s57 s67 n5 n6 n7 HE);have hBE : Below w1.heap.size w1 we := Below.grown hB1 hge (by rw [← hcur]; omega) (fun k hk => by have e := aE (show some P3 = some k from hk); omega);have yE : ∀ i, we.cell? ⟨w.heap.size, i, none⟩ = w7.cell? ⟨w.heap.size, i, none⟩ := fun i => World.cell?_of_block (hge.block w.heap.size hzc (fun h => by have e := aE h; omega))
    replace y0 := (yE 0).trans y0;replace y1 := (yE 1).trans y1;replace y2 := (yE 2).trans y2;refine hK.out _ _ ?_ (fun hHeld => ?_)
    · go_keep
    clear hK K
    try simp only [Act.put, pu]
    refine aK (by kernel_rfl) ?_ _;exact FIN.out _ P3 _ _ _ (by first | exact hBE | exact hBE.drew | exact hBE.drew.drew | exact hBE.drew.drew.drew) (by omega) HK3.out
  ·
   go_simp;obtain ⟨P3, w9, hP3, hw9, hb9, HT, hPc⟩ := boxAt y0 nilV nilV nilV nilV nilV 40;unfold nilV at hw9 HT;rw [hP3, ← hw9];have hPs : sz ≤ P3 ∧ P3 < w9.heap.size := ⟨by rw [hsz, hP3]; exact Nat.le_refl _, hPc⟩
   clear hw9;have hlew9 : sz ≤ w9.heap.size := by rw [hsz]; exact hb9.size
   replace y0 := (hb9.cell (p := ⟨w.heap.size, 0, none⟩) hzc).trans y0;replace y1 := (hb9.cell (p := ⟨w.heap.size, 1, none⟩) hzc).trans y1;replace y2 := (hb9.cell (p := ⟨w.heap.size, 2, none⟩) hzc).trans y2;replace hzc := aF hzc hb9.size;replace hB : Below w.heap.size w w9 := by first | exact bl_trans hB hb9 | exact bl_trans hB.drew hb9 | exact bl_trans hB.drew.drew hb9 | exact bl_trans hB.drew.drew.drew hb9
   replace hB1 : Below w1.heap.size w1 w9 := by first | exact bl_trans hB1 hb9 | exact bl_trans hB1.drew hb9 | exact bl_trans hB1.drew.drew hb9 | exact bl_trans hB1.drew.drew.drew hb9
   replace o5 := own_up o5 hb9;obtain ⟨sz, hsz, hcur⟩ : ∃ z, z = w9.heap.size ∧ z = w9.heap.size := ⟨_, rfl, rfl⟩
   (try clear q0 q1 q2 q3 q4 qf)
   obtain ⟨⟨q0, q1, q2⟩, ⟨q3, q4⟩, qf⟩ := cells5 HT;refine hK.out _ _ ?_ (fun hHeld => ?_)
   · go_keep
   clear hK K
   try simp only [Act.put, pu]
   refine aJ (rs := [5]) (by kernel_rfl) (by simp) ?_;refine aI rfl (fun K hK => ?_) AllReadyH.nil;go_simp;go_at_call 76;refine (spec_l1Own _ x.before _ (ints_at HX0.out.b (by first | exact hB | exact hB.drew | exact hB.drew.drew | exact hB.drew.drew.drew)) (by have := HSM.out.b; omega)).mono ?_;rintro e w6 ⟨v6, rfl, o6, hb6⟩;have r6 : ∀ g, v6.ownBlock = some g → sz ≤ g ∧ g < w6.heap.size := fun g hg => by rw [hsz]; exact o6.lt g hg
   replace o6 := own_mono o6 (show w1.heap.size ≤ _ from hB1.size);obtain ⟨B6, d6, rfl⟩ := own_slice o6;have hlew6 : sz ≤ w6.heap.size := by rw [hsz]; exact hb6.size
   replace y0 := (hb6.cell (p := ⟨w.heap.size, 0, none⟩) hzc).trans y0;replace y1 := (hb6.cell (p := ⟨w.heap.size, 1, none⟩) hzc).trans y1;replace y2 := (hb6.cell (p := ⟨w.heap.size, 2, none⟩) hzc).trans y2;replace hzc := aF hzc hb6.size;replace hB : Below w.heap.size w w6 := by first | exact bl_trans hB hb6 | exact bl_trans hB.drew hb6 | exact bl_trans hB.drew.drew hb6 | exact bl_trans hB.drew.drew.drew hb6
   replace hB1 : Below w1.heap.size w1 w6 := by first | exact bl_trans hB1 hb6 | exact bl_trans hB1.drew hb6 | exact bl_trans hB1.drew.drew hb6 | exact bl_trans hB1.drew.drew.drew hb6
   replace HT := aA ((hb6.block P3 hPc).trans HT.out);replace hPc := aF hPc hb6.size;replace o5 := own_up o5 hb6;obtain ⟨sz, hsz, hcur⟩ : ∃ z, z = w6.heap.size ∧ z = w6.heap.size := ⟨_, rfl, rfl⟩
   (try clear q0 q1 q2 q3 q4 qf)
   obtain ⟨⟨q0, q1, q2⟩, ⟨q3, q4⟩, qf⟩ := cells5 HT;refine hK.out _ _ ?_ (fun hHeld => ?_)
   · go_keep
   clear hK K
   try simp only [Act.put, pu]
   refine aJ (rs := [8]) (by kernel_rfl) (by simp) ?_;refine aI rfl (fun K hK => ?_) AllReadyH.nil;go_simp;go_at_call 76;refine (spec_l1Own _ x.now _ (ints_at HX0.out.n (by first | exact hB | exact hB.drew | exact hB.drew.drew | exact hB.drew.drew.drew)) (by have := HSM.out.n; omega)).mono ?_;rintro e w7 ⟨v7, rfl, o7, hb7⟩;have r7 : ∀ g, v7.ownBlock = some g → sz ≤ g ∧ g < w7.heap.size := fun g hg => by rw [hsz]; exact o7.lt g hg
   replace o7 := own_mono o7 (show w1.heap.size ≤ _ from hB1.size);obtain ⟨B7, d7, rfl⟩ := own_slice o7;have hlew7 : sz ≤ w7.heap.size := by rw [hsz]; exact hb7.size
   replace y0 := (hb7.cell (p := ⟨w.heap.size, 0, none⟩) hzc).trans y0;replace y1 := (hb7.cell (p := ⟨w.heap.size, 1, none⟩) hzc).trans y1;replace y2 := (hb7.cell (p := ⟨w.heap.size, 2, none⟩) hzc).trans y2;replace hzc := aF hzc hb7.size;replace hB : Below w.heap.size w w7 := by first | exact bl_trans hB hb7 | exact bl_trans hB.drew hb7 | exact bl_trans hB.drew.drew hb7 | exact bl_trans hB.drew.drew.drew hb7
   replace hB1 : Below w1.heap.size w1 w7 := by first | exact bl_trans hB1 hb7 | exact bl_trans hB1.drew hb7 | exact bl_trans hB1.drew.drew hb7 | exact bl_trans hB1.drew.drew.drew hb7
   replace HT := aA ((hb7.block P3 hPc).trans HT.out);replace hPc := aF hPc hb7.size;replace o5 := own_up o5 hb7;replace o6 := own_up o6 hb7;obtain ⟨sz, hsz, hcur⟩ : ∃ z, z = w7.heap.size ∧ z = w7.heap.size := ⟨_, rfl, rfl⟩
   (try clear q0 q1 q2 q3 q4 qf)
   obtain ⟨⟨q0, q1, q2⟩, ⟨q3, q4⟩, qf⟩ := cells5 HT;refine hK.out _ _ ?_ (fun hHeld => ?_)
   · go_keep
   clear hK K
   try simp only [Act.put, pu]
   refine stk 9 17 ?_;refine aJ (rs := [11]) (by kernel_rfl) (by simp) ?_;refine aI rfl (fun K hK => ?_) AllReadyH.nil;go_simp;obtain ⟨we, hwe, HE, hge⟩ := set5 HT (.slice B5 x.rounds.length d5) (.slice B6 x.before.length d6) (.slice B7 x.now.length d7) (.slice none 0 0) (.slice none 0 0);rw [← hwe];clear hwe;have n5 : (Value.slice B5 x.rounds.length d5).ownBlock ≠ some P3 := fun h => by have := r5 _ h; omega
   have n6 : (Value.slice B6 x.before.length d6).ownBlock ≠ some P3 := fun h => by have := r6 _ h; omega
   have n7 : (Value.slice B7 x.now.length d7).ownBlock ≠ some P3 := fun h => by have := r7 _ h; omega
   have s56 : (Value.slice B5 x.rounds.length d5).ownBlock = none ∨ (Value.slice B5 x.rounds.length d5).ownBlock ≠ (Value.slice B6 x.before.length d6).ownBlock := sep_of r5 r6 (by omega);have s57 : (Value.slice B5 x.rounds.length d5).ownBlock = none ∨ (Value.slice B5 x.rounds.length d5).ownBlock ≠ (Value.slice B7 x.now.length d7).ownBlock := sep_of r5 r7 (by omega);have s67 : (Value.slice B6 x.before.length d6).ownBlock = none ∨ (Value.slice B6 x.before.length d6).ownBlock ≠ (Value.slice B7 x.now.length d7).ownBlock := sep_of r6 r7 (by omega);have HK3 := aA (AsyK.of3 (own_setP o5 hge n5) (own_setP o6 hge n6) (own_setP o7 hge n7) s56 s57 s67 n5 n6 n7 HE);have hBE : Below w1.heap.size w1 we := Below.grown hB1 hge (by rw [← hcur]; omega) (fun k hk => by have e := aE (show some P3 = some k from hk); omega);have yE : ∀ i, we.cell? ⟨w.heap.size, i, none⟩ = w7.cell? ⟨w.heap.size, i, none⟩ := fun i => World.cell?_of_block (hge.block w.heap.size hzc (fun h => by have e := aE h; omega))
   replace y0 := (yE 0).trans y0;replace y1 := (yE 1).trans y1;replace y2 := (yE 2).trans y2;refine hK.out _ _ ?_ (fun hHeld => ?_)
   · go_keep
   clear hK K
   try simp only [Act.put, pu]
   refine aK (by kernel_rfl) ?_ _;exact FIN.out _ P3 _ _ _ (by first | exact hBE | exact hBE.drew | exact hBE.drew.drew | exact hBE.drew.drew.drew) (by omega) HK3.out
 ·
  go_simp;obtain ⟨P3, w9, hP3, hw9, hb9, HT, hPc⟩ := boxAt y0 nilV nilV nilV nilV nilV 40;unfold nilV at hw9 HT;rw [hP3, ← hw9];have hPs : sz ≤ P3 ∧ P3 < w9.heap.size := ⟨by rw [hsz, hP3]; exact Nat.le_refl _, hPc⟩
  clear hw9;have hlew9 : sz ≤ w9.heap.size := by rw [hsz]; exact hb9.size
  replace y0 := (hb9.cell (p := ⟨w.heap.size, 0, none⟩) hzc).trans y0;replace y1 := (hb9.cell (p := ⟨w.heap.size, 1, none⟩) hzc).trans y1;replace y2 := (hb9.cell (p := ⟨w.heap.size, 2, none⟩) hzc).trans y2;replace hzc := aF hzc hb9.size;replace hB : Below w.heap.size w w9 := by first | exact bl_trans hB hb9 | exact bl_trans hB.drew hb9 | exact bl_trans hB.drew.drew hb9 | exact bl_trans hB.drew.drew.drew hb9
  replace hB1 : Below w1.heap.size w1 w9 := by first | exact bl_trans hB1 hb9 | exact bl_trans hB1.drew hb9 | exact bl_trans hB1.drew.drew hb9 | exact bl_trans hB1.drew.drew.drew hb9
  obtain ⟨sz, hsz, hcur⟩ : ∃ z, z = w9.heap.size ∧ z = w9.heap.size := ⟨_, rfl, rfl⟩
  (try clear q0 q1 q2 q3 q4 qf)
  obtain ⟨⟨q0, q1, q2⟩, ⟨q3, q4⟩, qf⟩ := cells5 HT;refine hK.out _ _ ?_ (fun hHeld => ?_)
  · go_keep
  clear hK K
  try simp only [Act.put, pu]
  refine aJ (rs := [2]) (by kernel_rfl) (by simp) ?_;refine aI rfl (fun K hK => ?_) AllReadyH.nil;go_simp;go_at_call 76;refine (spec_l1Own _ x.rounds _ (ints_at HX0.out.r (by first | exact hB | exact hB.drew | exact hB.drew.drew | exact hB.drew.drew.drew)) (by have := HSM.out.r; omega)).mono ?_;rintro e w5 ⟨v5, rfl, o5, hb5⟩;have r5 : ∀ g, v5.ownBlock = some g → sz ≤ g ∧ g < w5.heap.size := fun g hg => by rw [hsz]; exact o5.lt g hg
  replace o5 := own_mono o5 (show w1.heap.size ≤ _ from hB1.size);obtain ⟨B5, d5, rfl⟩ := own_slice o5;have hlew5 : sz ≤ w5.heap.size := by rw [hsz]; exact hb5.size
  replace y0 := (hb5.cell (p := ⟨w.heap.size, 0, none⟩) hzc).trans y0;replace y1 := (hb5.cell (p := ⟨w.heap.size, 1, none⟩) hzc).trans y1;replace y2 := (hb5.cell (p := ⟨w.heap.size, 2, none⟩) hzc).trans y2;replace hzc := aF hzc hb5.size;replace hB : Below w.heap.size w w5 := by first | exact bl_trans hB hb5 | exact bl_trans hB.drew hb5 | exact bl_trans hB.drew.drew hb5 | exact bl_trans hB.drew.drew.drew hb5
  replace hB1 : Below w1.heap.size w1 w5 := by first | exact bl_trans hB1 hb5 | exact bl_trans hB1.drew hb5 | exact bl_trans hB1.drew.drew hb5 | exact bl_trans hB1.drew.drew.drew hb5
  replace HT := aA ((hb5.block P3 hPc).trans HT.out);replace hPc := aF hPc hb5.size;obtain ⟨sz, hsz, hcur⟩ : ∃ z, z = w5.heap.size ∧ z = w5.heap.size := ⟨_, rfl, rfl⟩
  (try clear q0 q1 q2 q3 q4 qf)
  obtain ⟨⟨q0, q1, q2⟩, ⟨q3, q4⟩, qf⟩ := cells5 HT;refine hK.out _ _ ?_ (fun hHeld => ?_)
  · go_keep
  clear hK K
  try simp only [Act.put, pu]
  refine aJ (rs := [5]) (by kernel_rfl) (by simp) ?_;refine aI rfl (fun K hK => ?_) AllReadyH.nil;go_simp;go_at_call 76;refine (spec_l1Own _ x.before _ (ints_at HX0.out.b (by first | exact hB | exact hB.drew | exact hB.drew.drew | exact hB.drew.drew.drew)) (by have := HSM.out.b; omega)).mono ?_;rintro e w6 ⟨v6, rfl, o6, hb6⟩;have r6 : ∀ g, v6.ownBlock = some g → sz ≤ g ∧ g < w6.heap.size := fun g hg => by rw [hsz]; exact o6.lt g hg
  replace o6 := own_mono o6 (show w1.heap.size ≤ _ from hB1.size);obtain ⟨B6, d6, rfl⟩ := own_slice o6;have hlew6 : sz ≤ w6.heap.size := by rw [hsz]; exact hb6.size
  replace y0 := (hb6.cell (p := ⟨w.heap.size, 0, none⟩) hzc).trans y0;replace y1 := (hb6.cell (p := ⟨w.heap.size, 1, none⟩) hzc).trans y1;replace y2 := (hb6.cell (p := ⟨w.heap.size, 2, none⟩) hzc).trans y2;replace hzc := aF hzc hb6.size;replace hB : Below w.heap.size w w6 := by first | exact bl_trans hB hb6 | exact bl_trans hB.drew hb6 | exact bl_trans hB.drew.drew hb6 | exact bl_trans hB.drew.drew.drew hb6
  replace hB1 : Below w1.heap.size w1 w6 := by first | exact bl_trans hB1 hb6 | exact bl_trans hB1.drew hb6 | exact bl_trans hB1.drew.drew hb6 | exact bl_trans hB1.drew.drew.drew hb6
  replace HT := aA ((hb6.block P3 hPc).trans HT.out);replace hPc := aF hPc hb6.size;replace o5 := own_up o5 hb6;obtain ⟨sz, hsz, hcur⟩ : ∃ z, z = w6.heap.size ∧ z = w6.heap.size := ⟨_, rfl, rfl⟩
  (try clear q0 q1 q2 q3 q4 qf)
  obtain ⟨⟨q0, q1, q2⟩, ⟨q3, q4⟩, qf⟩ := cells5 HT;refine hK.out _ _ ?_ (fun hHeld => ?_)
  · go_keep
  clear hK K
  try simp only [Act.put, pu]
  refine aJ (rs := [8]) (by kernel_rfl) (by simp) ?_;refine aI rfl (fun K hK => ?_) AllReadyH.nil;go_simp;go_at_call 76;refine (spec_l1Own _ x.now _ (ints_at HX0.out.n (by first | exact hB | exact hB.drew | exact hB.drew.drew | exact hB.drew.drew.drew)) (by have := HSM.out.n; omega)).mono ?_;rintro e w7 ⟨v7, rfl, o7, hb7⟩;have r7 : ∀ g, v7.ownBlock = some g → sz ≤ g ∧ g < w7.heap.size := fun g hg => by rw [hsz]; exact o7.lt g hg
  replace o7 := own_mono o7 (show w1.heap.size ≤ _ from hB1.size);obtain ⟨B7, d7, rfl⟩ := own_slice o7;have hlew7 : sz ≤ w7.heap.size := by rw [hsz]; exact hb7.size
  replace y0 := (hb7.cell (p := ⟨w.heap.size, 0, none⟩) hzc).trans y0;replace y1 := (hb7.cell (p := ⟨w.heap.size, 1, none⟩) hzc).trans y1;replace y2 := (hb7.cell (p := ⟨w.heap.size, 2, none⟩) hzc).trans y2;replace hzc := aF hzc hb7.size;replace hB : Below w.heap.size w w7 := by first | exact bl_trans hB hb7 | exact bl_trans hB.drew hb7 | exact bl_trans hB.drew.drew hb7 | exact bl_trans hB.drew.drew.drew hb7
  replace hB1 : Below w1.heap.size w1 w7 := by first | exact bl_trans hB1 hb7 | exact bl_trans hB1.drew hb7 | exact bl_trans hB1.drew.drew hb7 | exact bl_trans hB1.drew.drew.drew hb7
  replace HT := aA ((hb7.block P3 hPc).trans HT.out);replace hPc := aF hPc hb7.size;replace o5 := own_up o5 hb7;replace o6 := own_up o6 hb7;obtain ⟨sz, hsz, hcur⟩ : ∃ z, z = w7.heap.size ∧ z = w7.heap.size := ⟨_, rfl, rfl⟩
  (try clear q0 q1 q2 q3 q4 qf)
  obtain ⟨⟨q0, q1, q2⟩, ⟨q3, q4⟩, qf⟩ := cells5 HT;refine hK.out _ _ ?_ (fun hHeld => ?_)
  · go_keep
  clear hK K
  try simp only [Act.put, pu]
  refine stk 9 17 ?_;refine aJ (rs := [11]) (by kernel_rfl) (by simp) ?_;refine aI rfl (fun K hK => ?_) AllReadyH.nil;go_simp;obtain ⟨we, hwe, HE, hge⟩ := set5 HT (.slice B5 x.rounds.length d5) (.slice B6 x.before.length d6) (.slice B7 x.now.length d7) (.slice none 0 0) (.slice none 0 0);rw [← hwe];clear hwe;have n5 : (Value.slice B5 x.rounds.length d5).ownBlock ≠ some P3 := fun h => by have := r5 _ h; omega
  have n6 : (Value.slice B6 x.before.length d6).ownBlock ≠ some P3 := fun h => by have := r6 _ h; omega
  have n7 : (Value.slice B7 x.now.length d7).ownBlock ≠ some P3 := fun h => by have := r7 _ h; omega
  have s56 : (Value.slice B5 x.rounds.length d5).ownBlock = none ∨ (Value.slice B5 x.rounds.length d5).ownBlock ≠ (Value.slice B6 x.before.length d6).ownBlock := sep_of r5 r6 (by omega);have s57 : (Value.slice B5 x.rounds.length d5).ownBlock = none ∨ (Value.slice B5 x.rounds.length d5).ownBlock ≠ (Value.slice B7 x.now.length d7).ownBlock := sep_of r5 r7 (by omega);have s67 : (Value.slice B6 x.before.length d6).ownBlock = none ∨ (Value.slice B6 x.before.length d6).ownBlock ≠ (Value.slice B7 x.now.length d7).ownBlock := sep_of r6 r7 (by omega);have HK3 := aA (AsyK.of3 (own_setP o5 hge n5) (own_setP o6 hge n6) (own_setP o7 hge n7) s56 s57 s67 n5 n6 n7 HE);have hBE : Below w1.heap.size w1 we := Below.grown hB1 hge (by rw [← hcur]; omega) (fun k hk => by have e := aE (show some P3 = some k from hk); omega);have yE : ∀ i, we.cell? ⟨w.heap.size, i, none⟩ = w7.cell? ⟨w.heap.size, i, none⟩ := fun i => World.cell?_of_block (hge.block w.heap.size hzc (fun h => by have e := aE h; omega))
  replace y0 := (yE 0).trans y0;replace y1 := (yE 1).trans y1;replace y2 := (yE 2).trans y2;refine hK.out _ _ ?_ (fun hHeld => ?_)
  · go_keep
  clear hK K
  try simp only [Act.put, pu]
  refine aK (by kernel_rfl) ?_ _;exact FIN.out _ P3 _ _ _ (by first | exact hBE | exact hBE.drew | exact hBE.drew.drew | exact hBE.drew.drew.drew) (by omega) HK3.out
end
end Go.Proofs.YtjklbjmdgiddcaaGreat
