/-
  A state out of its parts. No condition.
-/
import Derived.Test.YtehkcodbcnhhoaaGreatEFlight
namespace Go.Proofs.YtehkcodbcnhhoaaGreat
open Go.RowKit
set_option linter.all false
def Rng (v : Value) (a b : Nat) : Prop := ∀ g, v.ownBlock = some g → a ≤ g ∧ g < b
theorem Rng.sep {u v : Value} {a b c d : Nat} (h1 : Rng u a b) (h2 : Rng v c d) (h : b ≤ c ∨ d ≤ a) : u.ownBlock = none ∨ u.ownBlock ≠ v.ownBlock := by
  cases e : u.ownBlock with
  | none => exact .inl rfl
  | some g => exact .inr fun e' => by have := h1 g e; have := h2 g e'.symm; omega
theorem Rng.ne {u : Value} {a b P : Nat} (h1 : Rng u a b) (h : P < a ∨ b ≤ P) : u.ownBlock ≠ some P := fun e => by have := h1 P e; omega
theorem rng_own {w : World} {base n sz : Nat} {e : TypeId} {v : Value} {vs : List Value} (h : w.ownsRow base e sz v n vs) : Rng v base w.heap.size := fun g hg => h.lt g hg
def val3 (v1 v2 v3 : Value) (vs : Key → Value) : Key → Value
  | .r => v1
  | .b => v2
  | .n => v3
  | .f => nilV
  | .s => vs .s
  | .sl k => vs (.sl k)
  | .fr _ => nilV
  | .le _ _ => nilV
theorem AsyK.of3r {W : World} {base l1 l2 l3 P a1 b1 a2 b2 a3 b3 a4 b4 : Nat} {v1 v2 v3 : Value} {rs bs ns : List Int} {sl : List (List Int)} {vs : Key → Value}
  (h1 : W.ownsRow base 3 1 v1 l1 (rs.map intV)) (h2 : W.ownsRow base 3 1 v2 l2 (bs.map intV)) (h3 : W.ownsRow base 3 1 v3 l3 (ns.map intV)) (q1 : rs.length = l1) (q2 : bs.length = l2) (q3 : ns.length = l3) (hs : AsyK W base vs ⟨[], [], [], sl, []⟩)
  (r1 : Rng v1 a1 b1) (r2 : Rng v2 a2 b2) (r3 : Rng v3 a3 b3) (r4 : ∀ j, keyOf ⟨[], [], [], sl, []⟩ j → Rng (vs j) a4 b4)
  (h12 : b1 ≤ a2 ∨ b2 ≤ a1) (h13 : b1 ≤ a3 ∨ b3 ≤ a1) (h14 : b1 ≤ a4 ∨ b4 ≤ a1) (h23 : b2 ≤ a3 ∨ b3 ≤ a2) (h24 : b2 ≤ a4 ∨ b4 ≤ a2) (h34 : b3 ≤ a4 ∨ b4 ≤ a3)
  (p1 : P < a1 ∨ b1 ≤ P) (p2 : P < a2 ∨ b2 ≤ P) (p3 : P < a3 ∨ b3 ≤ P) (p4 : P < a4 ∨ b4 ≤ P)
  (H : Hid (W.heap[P]? = some (.cells #[v1, v2, v3, vs .s, .slice none 0 0] 34 (0, 0)))) :
  AsyB W base (val3 v1 v2 v3 vs) ⟨rs, bs, ns, sl, []⟩ P := by
 subst q1 q2 q3
 refine ⟨⟨fun j hj => ?_, fun i j hi hj hne => ?_⟩, fun j hj => ?_, H.out⟩
 ·
  cases j with
  | r => exact h1
  | b => exact h2
  | n => exact h3
  | s => exact hs.own .s trivial
  | f => exact World.ownsRow_nil _ _ _ _
  | sl k => exact hs.own (.sl k) hj
  | fr k => exact absurd (show k < 0 from hj) (by omega)
  | le k p => exact absurd (show k < 0 from hj.1) (by omega)
 ·
  have nr : ∀ v : Value, v.ownBlock = none ∨ v.ownBlock ≠ nilV.ownBlock := fun v => by
   show v.ownBlock = none ∨ v.ownBlock ≠ none
   cases v.ownBlock <;> simp
  have r4s := r4 .s trivial
  cases i with
  | f => exact .inl rfl
  | fr k => exact .inl rfl
  | le k p => exact .inl rfl
  | r => cases j with
   | r => exact absurd rfl hne
   | b => exact r1.sep r2 h12
   | n => exact r1.sep r3 h13
   | s => exact r1.sep r4s h14
   | sl k => exact r1.sep (r4 (.sl k) hj) h14
   | f => exact nr _
   | fr k => exact nr _
   | le k p => exact nr _
  | b => cases j with
   | b => exact absurd rfl hne
   | r => exact r2.sep r1 h12.symm
   | n => exact r2.sep r3 h23
   | s => exact r2.sep r4s h24
   | sl k => exact r2.sep (r4 (.sl k) hj) h24
   | f => exact nr _
   | fr k => exact nr _
   | le k p => exact nr _
  | n => cases j with
   | n => exact absurd rfl hne
   | r => exact r3.sep r1 h13.symm
   | b => exact r3.sep r2 h23.symm
   | s => exact r3.sep r4s h34
   | sl k => exact r3.sep (r4 (.sl k) hj) h34
   | f => exact nr _
   | fr k => exact nr _
   | le k p => exact nr _
  | s => cases j with
   | s => exact absurd rfl hne
   | r => exact r4s.sep r1 h14.symm
   | b => exact r4s.sep r2 h24.symm
   | n => exact r4s.sep r3 h34.symm
   | sl k => exact hs.sep .s (.sl k) trivial hj (by simp)
   | f => exact nr _
   | fr k => exact nr _
   | le k p => exact nr _
  | sl k' => cases j with
   | s => exact hs.sep (.sl k') .s hi trivial (by simp)
   | r => exact (r4 (.sl k') hi).sep r1 h14.symm
   | b => exact (r4 (.sl k') hi).sep r2 h24.symm
   | n => exact (r4 (.sl k') hi).sep r3 h34.symm
   | sl k => exact hs.sep (.sl k') (.sl k) hi hj hne
   | f => exact nr _
   | fr k => exact nr _
   | le k p => exact nr _
 ·
  cases j with
  | r => exact r1.ne p1
  | b => exact r2.ne p2
  | n => exact r3.ne p3
  | s => exact (r4 .s trivial).ne p4
  | sl k => exact (r4 (.sl k) hj).ne p4
  | _ => (show (none : Option Nat) ≠ some P; simp)
theorem noSlots (W : World) (base : Nat) : AsyK W base (fun _ => nilV) ⟨[], [], [], [], []⟩ := by
  refine ⟨fun j hj => ?_, fun i j hi hj hne => .inl rfl⟩
  cases j with
  | sl k => exact absurd (show k < 0 from hj) (by omega)
  | fr k => exact absurd (show k < 0 from hj) (by omega)
  | le k p => exact absurd (show k < 0 from hj.1) (by omega)
  | _ => exact World.ownsRow_nil _ _ _ _
theorem rng_nil (a : Nat) : Rng nilV a a := fun g hg => by cases hg
theorem box_at2 (W : World) (a b c d e : Value) (t : TypeId) : ∃ P w0, W.heap.size = P ∧ w0 = W.alloc (.cells #[a, b, c, d, e] t) ∧ Below W.heap.size W w0 ∧ Hid (w0.heap[P]? = some (.cells #[a, b, c, d, e] t (0, 0))) ∧ P < w0.heap.size := by
  obtain ⟨w0, h1, h2, h3, h4, -⟩ := box5 W a b c d e t
  exact ⟨_, w0, rfl, h1, h2, h3, h4⟩
theorem made_at (W : World) (n : Nat) (hn : n ≤ 1000) : ∃ P w0, W.heap.size = P ∧ w0 = W.alloc (.cells (rowOf [] n (.int .i64 0)) 3) ∧ Below W.heap.size W w0 ∧ w0.ownsRow W.heap.size 3 1 (.slice (some ⟨P, 0, none⟩) n n) n ((List.replicate n (0 : Int)).map intV) := by
  refine ⟨_, _, rfl, rfl, bl_alloc (Below.refl _ _) _, ?_⟩
  have := own_madeZ W 3 n (.int .i64 0) (by unfold maxLen; omega)
  rw [List.map_replicate]
  exact this
end Go.Proofs.YtehkcodbcnhhoaaGreat
