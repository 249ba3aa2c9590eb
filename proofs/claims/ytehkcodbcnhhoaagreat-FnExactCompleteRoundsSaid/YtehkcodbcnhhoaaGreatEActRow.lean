/-
  Rows of acts that a call makes, one act after the other. No program but the acts' type in sight, no condition.
-/
import Derived.Test.YtehkcodbcnhhoaaGreatESyOwnB
namespace Go.Proofs.YtehkcodbcnhhoaaGreat
open Go.RowKit
set_option linter.all false
theorem actInfo : (Tryz.prog.info? 69).map (fun i => (i.zero, i.size, i.bytes)) = some (some (.agg #[.int .i64 0, .int .i64 0, .int .i64 0, .int .i64 0]), 4, 32) := by kernel_rfl
def actC (a : Acts) : List Value := [.int .i64 a.kind, .int .i64 a.node, .int .i64 a.port, .int .i64 a.at_]
def actCells (ys : List Acts) : List Value := ys.flatMap actC
theorem actCells_len (ys : List Acts) : (actCells ys).length = ys.length * 4 := by
  induction ys with
  | nil => rfl
  | cons a ys ih =>
    have e : actCells (a :: ys) = actC a ++ actCells ys := rfl
    rw [e, List.length_append, ih]
    simp [actC]
    omega
theorem actCells_append (ys bs : List Acts) : actCells (ys ++ bs) = actCells ys ++ actCells bs := by unfold actCells; rw [List.flatMap_append]
theorem actCells_one (ys : List Acts) : ∀ u ∈ actCells ys, u.oneCell' = true := fun u hu => by
  obtain ⟨a, _, ha⟩ := List.mem_flatMap.1 hu
  simp only [actC, List.mem_cons, List.not_mem_nil, or_false] at ha
  rcases ha with rfl | rfl | rfl | rfl <;> rfl
theorem actCells_at {ys : List Acts} {k : Nat} {a : Acts} (h : ys[k]? = some a) (j : Nat) (hj : j < 4) : (actCells ys)[k * 4 + j]? = (actC a)[j]? := by
  induction ys generalizing k with
  | nil => simp at h
  | cons b ys ih =>
    have e : actCells (b :: ys) = actC b ++ actCells ys := rfl
    have e4 : (actC b).length = 4 := rfl
    cases k with
    | zero =>
      obtain rfl : b = a := by simpa using h
      rw [e, List.getElem?_append_left (by omega)]
      congr 1
      omega
    | succ k =>
      rw [e, List.getElem?_append_right (by omega), ← ih (k := k) (by simpa using h)]
      congr 1
      omega
def ActsR (w : World) (base : Nat) (v : Value) (ys : List Acts) : Prop := w.ownsRow base 69 4 v ys.length (actCells ys)
def Sep (u v : Value) : Prop := ∀ g, u.ownBlock = some g → v.ownBlock ≠ some g
theorem Sep.symm {u v : Value} (h : Sep u v) : Sep v u := fun g hg he => h g he hg
theorem Sep.nil (v : Value) : Sep (.slice none 0 0) v := fun g hg => by cases hg
section
variable {w w' : World} {base : Nat} {u v v' : Value} {ys bs : List Acts}
theorem ActsR.nil (w : World) (base : Nat) : ActsR w base (.slice none 0 0) [] := World.ownsRow_nil _ _ _ _
theorem ActsR.stay (h : ActsR w base u bs) (hs : Sep u v) (hg : w.grownBy w' v.ownBlock) : ActsR w' base u bs := by
  refine World.ownsRow.kept h hg ?_
  cases e : u.ownBlock with
  | none => exact .inl rfl
  | some g => exact .inr fun e' => hs g e e'.symm
theorem ActsR.up (h : ActsR w base u bs) (hb : Below w.heap.size w w') : ActsR w' base u bs := own_up h hb
theorem Sep.grow (hs : Sep u v) (h : ActsR w base u bs) (hb : v'.ownBlock = v.ownBlock ∨ ∃ g, v'.ownBlock = some g ∧ w.heap.size ≤ g) : Sep u v' := fun g hg he => by
  rcases hb with hb | ⟨k, hb, hk⟩
  · exact hs g hg (by rw [← hb, he])
  · have := (World.ownsRow.lt h g hg).2
    rw [hb] at he
    have := Option.some.inj he
    omega
theorem ActsR.slice (h : ActsR w base v ys) : ∃ A c, v = .slice A ys.length c := own_sl1 h
theorem ActsR.read (h : ActsR w base v ys) {k : Nat} {a : Acts} (hk : ys[k]? = some a) : ∃ g cap, v = .slice (some ⟨g, 0, none⟩) ys.length cap ∧ g < w.heap.size ∧ base ≤ g ∧ (∃ cur, w.heap[g]? = some (.cells cur 69 (0, 0))) ∧
    w.cell? ⟨g, k * 4, none⟩ = some (.int .i64 a.kind) ∧ w.cell? ⟨g, k * 4 + 1, none⟩ = some (.int .i64 a.node) ∧ w.cell? ⟨g, k * 4 + 2, none⟩ = some (.int .i64 a.port) ∧ w.cell? ⟨g, k * 4 + 3, none⟩ = some (.int .i64 a.at_) := by
  have hl := (List.getElem?_eq_some_iff.1 hk).1
  have hc := fun g cap (e : v = .slice (some ⟨g, 0, none⟩) ys.length cap) => World.ownsRow.cellAt (by have h' := h; unfold ActsR at h'; rw [e] at h'; exact h')
  have hlt := World.ownsRow.lt h
  rcases h.2 with ⟨e, e0⟩ | ⟨g, cap, cur, e, hb, hg, hn, hm, hs, ht⟩
  · omega
  · refine ⟨g, cap, e, (hlt g (by rw [e]; rfl)).2, hb, ⟨cur, hg⟩, ?_, ?_, ?_, ?_⟩
    · exact (hc g cap e (k * 4) (by omega)).trans (actCells_at hk 0 (by omega))
    · exact (hc g cap e (k * 4 + 1) (by omega)).trans (actCells_at hk 1 (by omega))
    · exact (hc g cap e (k * 4 + 2) (by omega)).trans (actCells_at hk 2 (by omega))
    · exact (hc g cap e (k * 4 + 3) (by omega)).trans (actCells_at hk 3 (by omega))
end
theorem run_appendAct (w : World) (base : Nat) (v : Value) (ys : List Acts) (a : Acts) (h : ActsR w base v ys) (hl : ys.length ≤ 100000) (hbase : base ≤ w.heap.size) :
  ∃ v' w', (Builtin.append_ #[62, 62] 62 #[v, .slice (some ⟨w.heap.size, 0, none⟩) 1 1]).run Tryz.prog (w.alloc (.cells #[.int .i64 a.kind, .int .i64 a.node, .int .i64 a.port, .int .i64 a.at_] 69)) = .ok v' w' ∧
   ActsR w' base v' (ys ++ [a]) ∧ Below base w w' ∧ w.grownBy w' v.ownBlock ∧ (v'.ownBlock = v.ownBlock ∨ ∃ g, v'.ownBlock = some g ∧ w.heap.size ≤ g) := by
 obtain ⟨i, hi, hz0, hz1, hz2⟩ := info_parts actInfo
 have hown1 := World.ownsRow.alloc h (.cells #[.int .i64 a.kind, .int .i64 a.node, .int .i64 a.port, .int .i64 a.at_] 69)
 have hnew := heap_alloc_new w (.cells #[.int .i64 a.kind, .int .i64 a.node, .int .i64 a.port, .int .i64 a.at_] 69)
 have hnews : ∀ j u', (actCells [a])[j]? = some u' → (w.alloc (.cells #[.int .i64 a.kind, .int .i64 a.node, .int .i64 a.port, .int .i64 a.at_] 69)).cell? ((⟨w.heap.size, 0, none⟩ : Addr).add j) = some u' := by
  intro j u' hj
  rw [Addr.add_lit, Nat.zero_add, cell_of_row _ _ j _ _ (0, 0) hnew]
  match j, hj with
  | 0, hj => exact hj
  | 1, hj => exact hj
  | 2, hj => exact hj
  | 3, hj => exact hj
  | j + 4, hj => simp [actCells, actC] at hj
 obtain ⟨v', w', hrun, h2, h3, _, h5⟩ := run_append_own_at (P := Tryz.prog) (w.alloc (.cells #[.int .i64 a.kind, .int .i64 a.node, .int .i64 a.port, .int .i64 a.at_] 69)) base 62 62 69 i _ 4 32 Tryz.underlying62 hi hz0 hz1 hz2 rfl (by decide) v ys.length (actCells ys) hown1 ⟨w.heap.size, 0, none⟩ 1 1 (actCells [a]) rfl hnews
  (actCells_one [a]) (by unfold maxLen; omega) (by omega) (by simp; omega)
 have hg : w.grownBy w' v.ownBlock := by
  have h0 := World.grownBy_alloc w (.cells #[.int .i64 a.kind, .int .i64 a.node, .int .i64 a.port, .int .i64 a.at_] 69) v.ownBlock
  exact ⟨h3.os.trans h0.os, h3.tape.trans h0.tape, h3.output.trans h0.output, Nat.le_trans h0.size h3.size, fun k hk hne => (h3.block k (Nat.lt_of_lt_of_le hk h0.size) hne).trans (h0.block k hk hne)⟩
 have hB : Below base w w' := (Below.refl base w).grown hg hbase (fun k hk => (World.ownsRow.lt h k hk).1)
 refine ⟨v', w', hrun, ?_, hB, hg, ?_⟩
 ·
  unfold ActsR
  rw [actCells_append, List.length_append]
  exact h2
 ·
  rcases h5 with h5 | h5
  ·
   exact .inl h5
  ·
   exact .inr ⟨_, h5, by simp⟩
theorem run_appendActs (w : World) (base : Nat) (v u : Value) (ys bs : List Acts) (h : ActsR w base v ys) (hu : ActsR w base u bs) (hl : ys.length ≤ 100000) (hl2 : bs.length ≤ 100000) (hbase : base ≤ w.heap.size) :
  ∃ v' w', (Builtin.append_ #[62, 62] 62 #[v, u]).run Tryz.prog w = .ok v' w' ∧
   ActsR w' base v' (ys ++ bs) ∧ Below base w w' ∧ w.grownBy w' v.ownBlock ∧ (v'.ownBlock = v.ownBlock ∨ ∃ g, v'.ownBlock = some g ∧ w.heap.size ≤ g) := by
 obtain ⟨i, hi, hz0, hz1, hz2⟩ := info_parts actInfo
 have hc := fun g cap (e : u = .slice (some ⟨g, 0, none⟩) bs.length cap) => World.ownsRow.cellAt (by have h' := hu; unfold ActsR at h'; rw [e] at h'; exact h')
 rcases hu.2 with ⟨e, e0⟩ | ⟨g, cap, cur, e, hb, hg, hn, hm, hs, ht⟩
 ·
  obtain rfl : bs = [] := List.eq_nil_of_length_eq_zero e0
  subst e
  rw [List.append_nil]
  refine ⟨v, w, ?_, h, Below.refl _ _, ⟨rfl, rfl, rfl, Nat.le_refl _, fun _ _ _ => rfl⟩, .inl rfl⟩
  rcases h.2 with ⟨e, e0⟩ | ⟨g, cap, cur, e, hb, hg, hn, hm, hs, ht⟩
  ·
   subst e
   simp [Builtin.append_, run_underlying Tryz.underlying62, sizeOf, typeInfo, hi, Builtin.lenOf, Builtin.firstCells, loadCells, loadCellsFrom, storeCells]
  ·
   subst e
   exact run_append_nil0 (P := Tryz.prog) _ 62 _ 69 i Tryz.underlying62 hi g _ cap 0 hn
 ·
  subst e
  obtain ⟨v', w', hrun, h2, h3, _, h5⟩ := run_append_own_at (P := Tryz.prog) w base 62 62 69 i _ 4 32 Tryz.underlying62 hi hz0 hz1 hz2 rfl (by decide) v ys.length (actCells ys) h ⟨g, 0, none⟩ bs.length cap (actCells bs) (actCells_len bs)
   (fun j x hj => by rw [Addr.add_lit, Nat.zero_add]; exact (hc g cap rfl j (by have := (List.getElem?_eq_some_iff.1 hj).1; rw [actCells_len] at this; exact this)).trans hj)
   (actCells_one bs) (by unfold maxLen; omega) (by omega) hbase
  refine ⟨v', w', hrun, ?_, (Below.refl base w).grown h3 hbase (fun k hk => (World.ownsRow.lt h k hk).1), h3, ?_⟩
  ·
   unfold ActsR
   rw [actCells_append, List.length_append]
   exact h2
  ·
   rcases h5 with h5 | h5
   ·
    exact .inl h5
   ·
    exact .inr ⟨_, h5, Nat.le_refl _⟩
end Go.Proofs.YtehkcodbcnhhoaaGreat
