/-
  Asynchronous states that are a call's own: where single elements lie; what a step of a node, a sent letter and a letter taken off do to a state. No program in sight, no condition.
-/
import Derived.Test.YtehkcodbcnhhoaaGreatESyCl
namespace Go.Proofs.YtehkcodbcnhhoaaGreat
open Go.RowKit
set_option linter.all false
section
variable {w w' : World} {base : Nat} {val : Key → Value} {x : Asy}
theorem OwnK.cell {K : Key → Prop} {R : Key → RowD} (h : OwnK w base K val R) (i : Key) (hi : K i) {g cap n sz : Nat} {ty : TypeId} {con : List Value} (hv : val i = .slice (some ⟨g, 0, none⟩) n cap) (hR : R i = ⟨ty, sz, n, con⟩) {j : Nat} {u : Value} (hu : con[j]? = some u) :
    w.cell? ⟨g, j, none⟩ = some u ∧ w.frozen? ⟨g, j, none⟩ = false := by
  have ho := h.own i hi
  rw [hv, hR] at ho
  have hj := (List.getElem?_eq_some_iff.1 hu).1
  have hl := ho.1
  exact ⟨(World.ownsRow.cellAt ho j (by rw [← hl]; exact hj)).trans hu, World.ownsRow.frozenAt ho j⟩
theorem ints_some {xs : List Int} {k : Nat} {y : Int} (h : xs[k]? = some y) : (xs.map intV)[k]? = some (.int .i64 y) := by rw [List.getElem?_map, h]; rfl
theorem AsyK.rCell (h : AsyK w base val x) {g cap k : Nat} {y : Int} (hv : val .r = .slice (some ⟨g, 0, none⟩) x.rounds.length cap) (hy : x.rounds[k]? = some y) : w.cell? ⟨g, k, none⟩ = some (.int .i64 y) ∧ w.frozen? ⟨g, k, none⟩ = false := OwnK.cell h .r trivial hv rfl (ints_some hy)
theorem AsyK.bCell (h : AsyK w base val x) {g cap k : Nat} {y : Int} (hv : val .b = .slice (some ⟨g, 0, none⟩) x.before.length cap) (hy : x.before[k]? = some y) : w.cell? ⟨g, k, none⟩ = some (.int .i64 y) ∧ w.frozen? ⟨g, k, none⟩ = false := OwnK.cell h .b trivial hv rfl (ints_some hy)
theorem AsyK.nCell (h : AsyK w base val x) {g cap k : Nat} {y : Int} (hv : val .n = .slice (some ⟨g, 0, none⟩) x.now.length cap) (hy : x.now[k]? = some y) : w.cell? ⟨g, k, none⟩ = some (.int .i64 y) ∧ w.frozen? ⟨g, k, none⟩ = false := OwnK.cell h .n trivial hv rfl (ints_some hy)
theorem AsyK.sCell (h : AsyK w base val x) {g cap k : Nat} (hv : val .s = .slice (some ⟨g, 0, none⟩) x.slots.length cap) (hk : k < x.slots.length) : w.cell? ⟨g, k, none⟩ = some (val (.sl k)) ∧ w.frozen? ⟨g, k, none⟩ = false := OwnK.cell h .s trivial hv rfl (valsOf_at hk)
theorem AsyK.fCell (h : AsyK w base val x) {g cap k : Nat} (hv : val .f = .slice (some ⟨g, 0, none⟩) x.flight.length cap) (hk : k < x.flight.length) : w.cell? ⟨g, k, none⟩ = some (val (.fr k)) ∧ w.frozen? ⟨g, k, none⟩ = false := OwnK.cell h .f trivial hv rfl (valsOf_at hk)
theorem AsyK.slCell (h : AsyK w base val x) {g cap k p : Nat} {s : List Int} {y : Int} (hs : x.slots[k]? = some s) (hv : val (.sl k) = .slice (some ⟨g, 0, none⟩) s.length cap) (hy : s[p]? = some y) : w.cell? ⟨g, p, none⟩ = some (.int .i64 y) ∧ w.frozen? ⟨g, p, none⟩ = false :=
  OwnK.cell h (.sl k) (List.getElem?_eq_some_iff.1 hs).1 hv (con := s.map intV) (by show (⟨_, _, (slotsAt x k).length, _⟩ : RowD) = _; rw [slotsAt_eq hs]) (ints_some hy)
theorem AsyK.frCell (h : AsyK w base val x) {g cap k p : Nat} {f : List Ends} (hf : x.flight[k]? = some f) (hv : val (.fr k) = .slice (some ⟨g, 0, none⟩) f.length cap) (hp : p < f.length) : w.cell? ⟨g, p, none⟩ = some (val (.le k p)) ∧ w.frozen? ⟨g, p, none⟩ = false :=
  OwnK.cell h (.fr k) (List.getElem?_eq_some_iff.1 hf).1 hv (con := valsOf (.le k) val f.length) (by show (⟨_, _, (portsAt x k).length, valsOf (.le k) val (portsAt x k).length⟩ : RowD) = _; rw [portsAt_eq hf]) (valsOf_at hp)
theorem AsyK.slOwn (h : AsyK w base val x) {k : Nat} {s : List Int} (hs : x.slots[k]? = some s) : w.ownsRow base 3 1 (val (.sl k)) s.length (s.map intV) := by
  have ho := h.own (.sl k) (List.getElem?_eq_some_iff.1 hs).1
  have e : rowK x val (.sl k) = ⟨3, 1, s.length, s.map intV⟩ := by show (⟨_, _, (slotsAt x k).length, _⟩ : RowD) = _; rw [slotsAt_eq hs]
  rw [e] at ho
  exact ho
theorem AsyK.frOwn (h : AsyK w base val x) {k : Nat} {f : List Ends} (hf : x.flight[k]? = some f) : w.ownsRow base 117 1 (val (.fr k)) f.length (valsOf (.le k) val f.length) := by
  have ho := h.own (.fr k) (List.getElem?_eq_some_iff.1 hf).1
  have e : rowK x val (.fr k) = ⟨117, 1, f.length, valsOf (.le k) val f.length⟩ := by show (⟨_, _, (portsAt x k).length, valsOf (.le k) val (portsAt x k).length⟩ : RowD) = _; rw [portsAt_eq hf]
  rw [e] at ho
  exact ho
theorem AsyK.leOwn (h : AsyK w base val x) {k p : Nat} {f : List Ends} {ls : Ends} (hf : x.flight[k]? = some f) (hp : f[p]? = some ls) : w.ownsRow base 121 2 (val (.le k p)) ls.length (letCells ls) := by
  have ho := h.own (.le k p) ⟨(List.getElem?_eq_some_iff.1 hf).1, by rw [portsAt_eq hf]; exact (List.getElem?_eq_some_iff.1 hp).1⟩
  have e : rowK x val (.le k p) = ⟨121, 2, ls.length, letCells ls⟩ := by show (⟨_, _, (lettersAt x k p).length, _⟩ : RowD) = _; rw [lettersAt_eq hf hp]
  rw [e] at ho
  exact ho
theorem own_some2 {w : World} {base sz : Nat} {e : TypeId} {v : Value} {n : Nat} {xs : List Value} (h : w.ownsRow base e sz v n xs) (hn : 0 < n) :
    ∃ g cap, v = .slice (some ⟨g, 0, none⟩) n cap ∧ n ≤ cap ∧ cap ≤ maxLen ∧ base ≤ g ∧ g < w.heap.size := by
  have hl := h.lt
  rcases h.2 with ⟨_, e⟩ | ⟨g, cap, cur, e, h1, _, h5, h6, _⟩
  · omega
  · exact ⟨g, cap, e, h5, h6, h1, (hl g (by rw [e]; rfl)).2⟩
theorem setE (w : World) (g i : Nat) (u : Value) : ∃ w', w' = w.setCell ⟨g, i, none⟩ u ∧ (∀ b, b ≠ g → w'.heap[b]? = w.heap[b]?) ∧ w'.heap.size ≤ w.heap.size ∧ w.heap.size ≤ w'.heap.size :=
  ⟨_, rfl, fun b hb => Below.heap_setCell _ _ _ _ (by simpa using hb), by simp [World.setCell], by simp [World.setCell]⟩
end
def Frame (val : Key → Value) (x : Asy) (w w' : World) : Prop := w.heap.size ≤ w'.heap.size ∧ ∀ b, b < w.heap.size → (∀ j, keyOf x j → (val j).ownBlock ≠ some b) → w'.heap[b]? = w.heap[b]?
section
variable {w wi wj : World} {val : Key → Value} {x : Asy}
theorem Frame.of (hb : Below w.heap.size w wi) : Frame val x w wi := ⟨hb.size, fun b h _ => hb.block b h⟩
theorem Frame.below (h : Frame val x w wi) (hb : Below wi.heap.size wi wj) : Frame val x w wj := ⟨Nat.le_trans h.1 hb.size, fun b hl hn => (hb.block b (Nat.lt_of_lt_of_le hl h.1)).trans (h.2 b hl hn)⟩
theorem Frame.drew (h : Frame val x w wi) : Frame val x w wi.drew := ⟨h.1, h.2⟩
theorem Frame.set (h : Frame val x w wi) (i : Key) (hi : keyOf x i) {g : Nat} (hv : (val i).ownBlock = some g) (j : Nat) (u : Value) : Frame val x w (wi.setCell ⟨g, j, none⟩ u) :=
  ⟨by have := h.1; simpa [World.setCell] using this, fun b hl hn => (Below.heap_setCell wi _ _ _ (by
    intro e
    exact hn i hi (by rw [hv, e]))).trans (h.2 b hl hn)⟩
theorem Frame.grown (h : Frame val x w wi) (i : Key) (hi : keyOf x i) (hg : wi.grownBy wj (val i).ownBlock) : Frame val x w wj :=
  ⟨Nat.le_trans h.1 hg.size, fun b hl hn => (hg.block b (Nat.lt_of_lt_of_le hl h.1) (fun e => hn i hi e.symm)).trans (h.2 b hl hn)⟩
end
theorem set_self {α : Type} {l : List α} {k : Nat} {y : α} (h : l[k]? = some y) : l.set k y = l := by
  obtain ⟨hk, rfl⟩ := List.getElem?_eq_some_iff.1 h
  exact List.set_getElem_self hk
theorem MachR.at {w w' : World} {B : Nat} {vs ve vc vo : Value} {m : Mach} (h : MachR w B vs ve vc vo m) (hb : Below B w w') (hs : B ≤ w'.heap.size) : MachR w' w'.heap.size vs ve vc vo m :=
  ⟨(h.s.below hb).more hs, (h.e.below hb).more hs, (h.c.below hb).more hs, (h.o.below hb).more hs, h.i⟩
noncomputable def nextS (m : Mach) (s : Int) (ib : List Int) : Int := if 0 ≤ clI (fitsB s ib) m.cls ∧ m.out.getD s.toNat 0 < 0 then (m.cls.getD (clI (fitsB s ib) m.cls).toNat (0, [], 0)).2.2 else s
noncomputable def stepA (m : Mach) (x : Asy) (k : Nat) : Asy :=
  { rounds := x.rounds.set k (x.rounds.getD k 0 + 1), before := x.before.set k (x.now.getD k 0), now := x.now.set k (nextS m (x.now.getD k 0) (slotsAt x k)), slots := x.slots.set k (List.replicate (slotsAt x k).length (-1)), flight := x.flight }
end Go.Proofs.YtehkcodbcnhhoaaGreat
