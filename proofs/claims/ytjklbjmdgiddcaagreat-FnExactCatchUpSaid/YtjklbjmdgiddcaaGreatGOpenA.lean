/-
  From the reading of an argument (letters, clauses) to what the walks ask of memory. No condition.
  Machines, networks' states and acts out of a law's arguments. No program but the types in sight, no condition.
-/
import Derived.Test.YtjklbjmdgiddcaaGreatGOpenG
import Derived.Test.YtjklbjmdgiddcaaGreatGArgsM
namespace Go.Proofs.YtjklbjmdgiddcaaGreat
section
open Go.RowKit Go.ChangeShapes Go.WideShapes Go.Deep
set_option linter.all false
section
variable {H : Type} {enc : TypeId × Value → H} {w : World} {base : Nat} {spare : Nat → Bool} {held : Bool}
set_option maxRecDepth 100000 in
theorem let_of_trod {fuel : Nat} {cs : List Value} {x : DataW H × List MemPlace} (h : DataW.trod enc Tryz.prog w base spare held fuel 164 cs = some x) :
    ∃ e : Int × Int, cs = [.int .i64 e.1, .int .i64 e.2] ∧ I64 e.1 ∧ I64 e.2 := by
  obtain ⟨ys, n, _, _, hl, hlen, hg⟩ := DataW.trod_struct Tryz.underlying164 h;have h2 : cs.length = 2 := hl.trans (by kernel_rfl)
  match cs, h2 with
  | [c0, c1], _ =>
    match ys, hlen with
    | [y0, y1], _ =>
      have s1 : Tryz.prog.cellsOf 3 = 1 := by kernel_rfl
      have g0 : DataW.trod enc Tryz.prog w base spare held n 3 [c0] = some y0 := by simpa [s1] using hg 0 _ rfl
      have g1 : DataW.trod enc Tryz.prog w base spare held n 3 [c1] = some y1 := by simpa [s1] using hg 1 _ rfl
      obtain ⟨p0, e0, -, w0⟩ := DataW.trod_int Tryz.underlying3 g0;obtain ⟨p1, e1, -, w1⟩ := DataW.trod_int Tryz.underlying3 g1;simp only [List.cons.injEq, and_true] at e0 e1;subst e0 e1;exact ⟨(p0, p1), rfl, I64_of_wf w0, I64_of_wf w1⟩
set_option maxRecDepth 100000 in
theorem lets_of_trod {fuel : Nat} {cs : List Value} {x : DataW H × List MemPlace} (h : DataW.trod enc Tryz.prog w base spare held fuel 141 cs = some x) :
  ∃ v es, cs = [v] ∧ EndsB w w.heap.size v es := by
 rcases open_slice Tryz.underlying141 h with ⟨rfl, _⟩ | ⟨a, len, cap, m, n, D, Pl, rfl, _, hl, hm, hmm, _, hi⟩
 · exact ⟨_, [], rfl, none, 0, rfl, Nat.le_refl _, Nat.zero_le _, (fun _ h => by cases h), fun h => absurd h (by simp)⟩
 ·
  have hml : len ≤ m := by rw [hmm]; split <;> omega
  have each : ∀ k, k ≤ len → ∃ xs : Ends, xs.length = k ∧ (∀ x ∈ xs, I64 x.1 ∧ I64 x.2) ∧
    ∀ j x, xs[j]? = some x → w.cell? (a.add (j * 2 + 0)) = some (.int .i64 x.1) ∧ w.cell? (a.add (j * 2 + 1)) = some (.int .i64 x.2) := by
   intro k;induction k with
   | zero => intro _; exact ⟨[], rfl, (fun _ h => by cases h), fun j x hx => by simp at hx⟩
   | succ k ih =>
    intro hk;obtain ⟨xs, h1, h2, h3⟩ := ih (by omega);obtain ⟨cs', hcells, htr⟩ := hi k (by omega);rw [show Tryz.prog.cellsOf 164 = 2 by kernel_rfl] at hcells;obtain ⟨it, rfl, hr⟩ := let_of_trod htr;obtain ⟨_, _, hat⟩ := World.cells?_some hcells;refine ⟨xs ++ [it], by simp [h1], ?_, ?_⟩
    ·
     intro x hx;rcases List.mem_append.1 hx with h | h
     · exact h2 x h
     ·
      obtain rfl : x = it := by simpa using h
      exact hr
    ·
     intro j x hx;by_cases hj : j < xs.length
     · rw [List.getElem?_append_left hj] at hx;exact h3 j x hx
     ·
      rw [List.getElem?_append_right (by omega)] at hx;obtain rfl : j = k := by have := (aB.1 hx).1;simp at this;omega
      rw [h1, Nat.sub_self] at hx;obtain rfl : it = x := by simpa using hx
      rw [← Go.Deep.add_add, hat 0 (by omega), ← Go.Deep.add_add, hat 1 (by omega)];exact ⟨rfl, rfl⟩
  obtain ⟨xs, h1, h2, h3⟩ := each len (Nat.le_refl _);refine ⟨_, xs, rfl, some a, cap, by rw [h1], by rw [h1]; exact hl, hm, h2, fun hn => ?_⟩;have hc0 := (h3 0 (xs[0]) (aC hn)).1;have hlt := World.block_lt_of_cell? _ _ hc0;rw [block_add] at hlt;obtain ⟨b, o, sp⟩ := a;have e0 : (⟨b, o, sp⟩ : Addr).add (0 * 2 + 0) = ⟨b, o, sp⟩ := by unfold Addr.add; simp
  rw [e0] at hc0;have hsp : sp = none := by
   cases sp with
   | none => rfl
   | some q =>
    unfold World.cell? at hc0;split at hc0 <;> simp at hc0
  subst hsp;refine ⟨b, o, rfl, hlt, fun k x hx => ?_⟩;have e1 : ∀ j, (⟨b, o, none⟩ : Addr).add (k * 2 + j) = ⟨b, o + k * 2 + j, none⟩ := fun j => by unfold Addr.add; split <;> simp_all; omega
  have := h3 k x hx;rw [e1 0, e1 1] at this;exact this
set_option maxRecDepth 100000 in
theorem letss_of_trod {fuel : Nat} {cs : List Value} {x : DataW H × List MemPlace} (h : DataW.trod enc Tryz.prog w base spare held fuel 118 cs = some x) :
  ∃ v ess, cs = [v] ∧ EndssR w (· < w.heap.size) v ess := by
 rcases open_slice Tryz.underlying118 h with ⟨rfl, _⟩ | ⟨a, len, cap, m, n, D, Pl, rfl, _, hl, hm, hmm, _, hi⟩
 · exact ⟨_, [], rfl, none, 0, rfl, Nat.le_refl _, Nat.zero_le _, fun h => absurd h (by simp)⟩
 ·
  have hml : len ≤ m := by rw [hmm]; split <;> omega
  have each : ∀ k, k ≤ len → ∃ xss : List Ends, xss.length = k ∧ ∀ j xs, xss[j]? = some xs → ∃ u, w.cell? (a.add j) = some u ∧ EndsB w w.heap.size u xs := by
   intro k;induction k with
   | zero => intro _; exact ⟨[], rfl, fun j x hx => by simp at hx⟩
   | succ k ih =>
    intro hk;obtain ⟨xss, h1, h3⟩ := ih (by omega);obtain ⟨cs', hcells, htr⟩ := hi k (by omega);rw [show Tryz.prog.cellsOf 141 = 1 by kernel_rfl] at hcells;obtain ⟨v, xs, rfl, hv⟩ := lets_of_trod htr;obtain ⟨_, _, hat⟩ := World.cells?_some hcells;have hcell : w.cell? (a.add k) = some v := by
     have h0 := hat 0 (by omega);have e0 : (a.add k).add 0 = a.add k := by unfold Addr.add; simp
     rw [Nat.mul_one, e0] at h0;simpa using h0
    refine ⟨xss ++ [xs], by simp [h1], fun j u hu => ?_⟩;by_cases hj : j < xss.length
    · rw [List.getElem?_append_left hj] at hu;exact h3 j u hu
    ·
     rw [List.getElem?_append_right (by omega)] at hu;obtain rfl : j = k := by have := (aB.1 hu).1;simp at this;omega
     rw [h1, Nat.sub_self] at hu;obtain rfl : xs = u := by simpa using hu
     exact ⟨v, hcell, hv⟩
  obtain ⟨xss, h1, h3⟩ := each len (Nat.le_refl _);refine ⟨_, xss, rfl, some a, cap, by rw [h1], by rw [h1]; exact hl, hm, fun hn => ⟨a, rfl, ?_, h3⟩⟩;obtain ⟨u, h0, -⟩ := h3 0 (xss[0]) (aC hn);have := World.block_lt_of_cell? _ _ h0;rwa [block_add] at this
set_option maxRecDepth 100000 in
theorem lets3_of_trod {fuel : Nat} {cs : List Value} {x : DataW H × List MemPlace} (h : DataW.trod enc Tryz.prog w base spare held fuel 30 cs = some x) :
  ∃ v ess, cs = [v] ∧ Ends3R w (· < w.heap.size) v ess := by
 rcases open_slice Tryz.underlying30 h with ⟨rfl, _⟩ | ⟨a, len, cap, m, n, D, Pl, rfl, _, hl, hm, hmm, _, hi⟩
 · exact ⟨_, [], rfl, none, 0, rfl, Nat.le_refl _, Nat.zero_le _, fun h => absurd h (by simp)⟩
 ·
  have hml : len ≤ m := by rw [hmm]; split <;> omega
  have each : ∀ k, k ≤ len → ∃ xss : List (List Ends), xss.length = k ∧ ∀ j xs, xss[j]? = some xs → ∃ u, w.cell? (a.add j) = some u ∧ EndssR w (· < w.heap.size) u xs := by
   intro k;induction k with
   | zero => intro _; exact ⟨[], rfl, fun j x hx => by simp at hx⟩
   | succ k ih =>
    intro hk;obtain ⟨xss, h1, h3⟩ := ih (by omega);obtain ⟨cs', hcells, htr⟩ := hi k (by omega);rw [show Tryz.prog.cellsOf 118 = 1 by kernel_rfl] at hcells;obtain ⟨v, xs, rfl, hv⟩ := letss_of_trod htr;obtain ⟨_, _, hat⟩ := World.cells?_some hcells;have hcell : w.cell? (a.add k) = some v := by
     have h0 := hat 0 (by omega);have e0 : (a.add k).add 0 = a.add k := by unfold Addr.add; simp
     rw [Nat.mul_one, e0] at h0;simpa using h0
    refine ⟨xss ++ [xs], by simp [h1], fun j u hu => ?_⟩;by_cases hj : j < xss.length
    · rw [List.getElem?_append_left hj] at hu;exact h3 j u hu
    ·
     rw [List.getElem?_append_right (by omega)] at hu;obtain rfl : j = k := by have := (aB.1 hu).1;simp at this;omega
     rw [h1, Nat.sub_self] at hu;obtain rfl : xs = u := by simpa using hu
     exact ⟨v, hcell, hv⟩
  obtain ⟨xss, h1, h3⟩ := each len (Nat.le_refl _);refine ⟨_, xss, rfl, some a, cap, by rw [h1], by rw [h1]; exact hl, hm, fun hn => ⟨a, rfl, ?_, h3⟩⟩;obtain ⟨u, h0, -⟩ := h3 0 (xss[0]) (aC hn);have := World.block_lt_of_cell? _ _ h0;rwa [block_add] at this
set_option maxRecDepth 100000 in
theorem cl_of_trod {fuel : Nat} {cs : List Value} {x : DataW H × List MemPlace} (h : DataW.trod enc Tryz.prog w base spare held fuel 114 cs = some x) :
    ∃ (e : Cl) (u : Value), cs = [.int .i64 e.1, u, .int .i64 e.2.2] ∧ (I64 e.1 ∧ I64 e.2.2) ∧ IntsR w w.heap.size u e.2.1 := by
  obtain ⟨ys, n, _, _, hl, hlen, hg⟩ := DataW.trod_struct Tryz.underlying114 h;have h2 : cs.length = 3 := hl.trans (by kernel_rfl)
  match cs, h2 with
  | [c0, c1, c2], _ =>
    match ys, hlen with
    | [y0, y1, y2], _ =>
      have s1 : Tryz.prog.cellsOf 3 = 1 := by kernel_rfl
      have s2 : Tryz.prog.cellsOf 24 = 1 := by kernel_rfl
      have g0 : DataW.trod enc Tryz.prog w base spare held n 3 [c0] = some y0 := by simpa [s1, s2] using hg 0 _ rfl
      have g1 : DataW.trod enc Tryz.prog w base spare held n 24 [c1] = some y1 := by simpa [s1, s2] using hg 1 _ rfl
      have g2 : DataW.trod enc Tryz.prog w base spare held n 3 [c2] = some y2 := by simpa [s1, s2] using hg 2 _ rfl
      obtain ⟨p0, e0, -, w0⟩ := DataW.trod_int Tryz.underlying3 g0;obtain ⟨u, xs, e1, hu⟩ := ints_of_trod Tryz.underlying24 Tryz.underlying3 (by kernel_rfl) g1;obtain ⟨p2, e2, -, w2⟩ := DataW.trod_int Tryz.underlying3 g2;simp only [List.cons.injEq, and_true] at e0 e1 e2;subst e0 e1 e2;exact ⟨(p0, xs, p2), _, rfl, ⟨I64_of_wf w0, I64_of_wf w2⟩, hu⟩
set_option maxRecDepth 100000 in
theorem cls_of_trod {fuel : Nat} {cs : List Value} {x : DataW H × List MemPlace} (h : DataW.trod enc Tryz.prog w base spare held fuel 23 cs = some x) :
  ∃ v es, cs = [v] ∧ ClsR w w.heap.size v es := by
 rcases open_slice Tryz.underlying23 h with ⟨rfl, _⟩ | ⟨a, len, cap, m, n, D, Pl, rfl, _, hl, hm, hmm, _, hi⟩
 · exact ⟨_, [], rfl, none, 0, rfl, Nat.le_refl _, Nat.zero_le _, (fun _ h => by cases h), fun h => absurd h (by simp)⟩
 ·
  have hml : len ≤ m := by rw [hmm]; split <;> omega
  have each : ∀ k, k ≤ len → ∃ xs : List Cl, xs.length = k ∧ (∀ x ∈ xs, I64 x.1 ∧ I64 x.2.2) ∧
    ∀ (j : Nat) (x : Cl), xs[j]? = some x → w.cell? (a.add (j * 3 + 0)) = some (.int .i64 x.1) ∧ (∃ u, w.cell? (a.add (j * 3 + 1)) = some u ∧ IntsR w w.heap.size u x.2.1) ∧ w.cell? (a.add (j * 3 + 2)) = some (.int .i64 x.2.2) := by
   intro k;induction k with
   | zero => intro _; exact ⟨[], rfl, (fun _ h => by cases h), fun j x hx => by simp at hx⟩
   | succ k ih =>
    intro hk;obtain ⟨xs, h1, h2, h3⟩ := ih (by omega);obtain ⟨cs', hcells, htr⟩ := hi k (by omega);rw [show Tryz.prog.cellsOf 114 = 3 by kernel_rfl] at hcells;obtain ⟨it, u, rfl, hr, hu⟩ := cl_of_trod htr;obtain ⟨_, _, hat⟩ := World.cells?_some hcells;refine ⟨xs ++ [it], by simp [h1], ?_, ?_⟩
    ·
     intro x hx;rcases List.mem_append.1 hx with h | h
     · exact h2 x h
     ·
      obtain rfl : x = it := by simpa using h
      exact hr
    ·
     intro j x hx;by_cases hj : j < xs.length
     · rw [List.getElem?_append_left hj] at hx;exact h3 j x hx
     ·
      rw [List.getElem?_append_right (by omega)] at hx;obtain rfl : j = k := by have := (aB.1 hx).1;simp at this;omega
      rw [h1, Nat.sub_self] at hx;obtain rfl : it = x := by simpa using hx
      rw [← Go.Deep.add_add, hat 0 (by omega), ← Go.Deep.add_add, hat 1 (by omega), ← Go.Deep.add_add, hat 2 (by omega)];exact ⟨rfl, ⟨u, rfl, hu⟩, rfl⟩
  obtain ⟨xs, h1, h2, h3⟩ := each len (Nat.le_refl _);refine ⟨_, xs, rfl, some a, cap, by rw [h1], by rw [h1]; exact hl, hm, h2, fun hn => ?_⟩;have hc0 := (h3 0 (xs[0]) (aC hn)).1;have hlt := World.block_lt_of_cell? _ _ hc0;rw [block_add] at hlt;obtain ⟨b, o, sp⟩ := a;have e0 : (⟨b, o, sp⟩ : Addr).add (0 * 3 + 0) = ⟨b, o, sp⟩ := by unfold Addr.add; simp
  rw [e0] at hc0;have hsp : sp = none := by
   cases sp with
   | none => rfl
   | some q =>
    unfold World.cell? at hc0;split at hc0 <;> simp at hc0
  subst hsp;refine ⟨b, o, rfl, hlt, fun k x hx => ?_⟩;have e1 : ∀ j, (⟨b, o, none⟩ : Addr).add (k * 3 + j) = ⟨b, o + k * 3 + j, none⟩ := fun j => by unfold Addr.add; split <;> simp_all; omega
  have := h3 k x hx;rw [e1 0, e1 1, e1 2] at this;exact this
end
end
section
open Go.RowKit Go.ChangeShapes Go.WideShapes Go.Deep
set_option linter.all false
section
variable {H : Type} {enc : TypeId × Value → H} {w : World} {base : Nat} {spare : Nat → Bool} {held : Bool}
set_option maxRecDepth 100000 in
theorem mach_of_trod {fuel : Nat} {cs : List Value} {x : DataW H × List MemPlace} (h : DataW.trod enc Tryz.prog w base spare held fuel 26 cs = some x) :
  ∃ (m : Mach) (vs ve vc vo : Value), cs = [.int .i64 m.deg, .int .i64 m.st, .int .i64 m.msg, vs, ve, vc, vo] ∧ MachR w w.heap.size vs ve vc vo m := by
 obtain ⟨ys, n, _, _, hl, hlen, hg⟩ := DataW.trod_struct Tryz.underlying26 h;have h2 : cs.length = 7 := hl.trans (by kernel_rfl)
 match cs, h2 with
 | [c0, c1, c2, c3, c4, c5, c6], _ =>
  match ys, hlen with
  | [y0, y1, y2, y3, y4, y5, y6], _ =>
   have s1 : Tryz.prog.cellsOf 3 = 1 := by kernel_rfl
   have s2 : Tryz.prog.cellsOf 24 = 1 := by kernel_rfl
   have s3 : Tryz.prog.cellsOf 22 = 1 := by kernel_rfl
   have s4 : Tryz.prog.cellsOf 23 = 1 := by kernel_rfl
   have g0 : DataW.trod enc Tryz.prog w base spare held n 3 [c0] = some y0 := by simpa [s1, s2, s3, s4] using hg 0 _ rfl
   have g1 : DataW.trod enc Tryz.prog w base spare held n 3 [c1] = some y1 := by simpa [s1, s2, s3, s4] using hg 1 _ rfl
   have g2 : DataW.trod enc Tryz.prog w base spare held n 3 [c2] = some y2 := by simpa [s1, s2, s3, s4] using hg 2 _ rfl
   have g3 : DataW.trod enc Tryz.prog w base spare held n 22 [c3] = some y3 := by simpa [s1, s2, s3, s4] using hg 3 _ rfl
   have g4 : DataW.trod enc Tryz.prog w base spare held n 22 [c4] = some y4 := by simpa [s1, s2, s3, s4] using hg 4 _ rfl
   have g5 : DataW.trod enc Tryz.prog w base spare held n 23 [c5] = some y5 := by simpa [s1, s2, s3, s4] using hg 5 _ rfl
   have g6 : DataW.trod enc Tryz.prog w base spare held n 24 [c6] = some y6 := by simpa [s1, s2, s3, s4] using hg 6 _ rfl
   obtain ⟨p0, e0, -, w0⟩ := DataW.trod_int Tryz.underlying3 g0;obtain ⟨p1, e1, -, w1⟩ := DataW.trod_int Tryz.underlying3 g1;obtain ⟨p2, e2, -, w2⟩ := DataW.trod_int Tryz.underlying3 g2;obtain ⟨u3, x3, e3, h3⟩ := rows_of_trod Tryz.underlying22 Tryz.underlying24 Tryz.underlying3 (by kernel_rfl) (by kernel_rfl) g3;obtain ⟨u4, x4, e4, h4⟩ := rows_of_trod Tryz.underlying22 Tryz.underlying24 Tryz.underlying3 (by kernel_rfl) (by kernel_rfl) g4;obtain ⟨u5, x5, e5, h5⟩ := cls_of_trod g5;obtain ⟨u6, x6, e6, h6⟩ := ints_of_trod Tryz.underlying24 Tryz.underlying3 (by kernel_rfl) g6;simp only [List.cons.injEq, and_true] at e0 e1 e2 e3 e4 e5 e6;subst e0 e1 e2 e3 e4 e5 e6;exact ⟨⟨p0, p1, p2, x3, x4, x5, x6⟩, _, _, _, _, rfl, ⟨h3, h4, h5, h6, ⟨I64_of_wf w0, I64_of_wf w1, I64_of_wf w2⟩⟩⟩
set_option maxRecDepth 100000 in
theorem asy_of_trod {fuel : Nat} {cs : List Value} {x : DataW H × List MemPlace} (h : DataW.trod enc Tryz.prog w base spare held fuel 32 cs = some x) :
  ∃ (x : Asy) (vr vb vn vs vf : Value), cs = [vr, vb, vn, vs, vf] ∧ AsyR w w.heap.size vr vb vn vs vf x := by
 obtain ⟨ys, n, _, _, hl, hlen, hg⟩ := DataW.trod_struct Tryz.underlying32 h;have h2 : cs.length = 5 := hl.trans (by kernel_rfl)
 match cs, h2 with
 | [c0, c1, c2, c3, c4], _ =>
  match ys, hlen with
  | [y0, y1, y2, y3, y4], _ =>
   have s2 : Tryz.prog.cellsOf 24 = 1 := by kernel_rfl
   have s3 : Tryz.prog.cellsOf 22 = 1 := by kernel_rfl
   have s4 : Tryz.prog.cellsOf 30 = 1 := by kernel_rfl
   have g0 : DataW.trod enc Tryz.prog w base spare held n 24 [c0] = some y0 := by simpa [s2, s3, s4] using hg 0 _ rfl
   have g1 : DataW.trod enc Tryz.prog w base spare held n 24 [c1] = some y1 := by simpa [s2, s3, s4] using hg 1 _ rfl
   have g2 : DataW.trod enc Tryz.prog w base spare held n 24 [c2] = some y2 := by simpa [s2, s3, s4] using hg 2 _ rfl
   have g3 : DataW.trod enc Tryz.prog w base spare held n 22 [c3] = some y3 := by simpa [s2, s3, s4] using hg 3 _ rfl
   have g4 : DataW.trod enc Tryz.prog w base spare held n 30 [c4] = some y4 := by simpa [s2, s3, s4] using hg 4 _ rfl
   obtain ⟨u0, x0, e0, h0⟩ := ints_of_trod Tryz.underlying24 Tryz.underlying3 (by kernel_rfl) g0;obtain ⟨u1, x1, e1, h1⟩ := ints_of_trod Tryz.underlying24 Tryz.underlying3 (by kernel_rfl) g1;obtain ⟨u2, x2, e2, h2⟩ := ints_of_trod Tryz.underlying24 Tryz.underlying3 (by kernel_rfl) g2;obtain ⟨u3, x3, e3, h3⟩ := rows_of_trod Tryz.underlying22 Tryz.underlying24 Tryz.underlying3 (by kernel_rfl) (by kernel_rfl) g3;obtain ⟨u4, x4, e4, h4⟩ := lets3_of_trod g4;simp only [List.cons.injEq, and_true] at e0 e1 e2 e3 e4;subst e0 e1 e2 e3 e4;exact ⟨⟨x0, x1, x2, x3, x4⟩, _, _, _, _, _, rfl, ⟨h0, h1, h2, h3, h4⟩⟩
end
end
end Go.Proofs.YtjklbjmdgiddcaaGreat
