/-
  What the walks of play lean on: an act played upon a state of one's own; rows of other types beside it. No condition.
-/
import Derived.Test.YtehkcodbcnhhoaaGreatEActRow
import Derived.Test.YtehkcodbcnhhoaaGreatEPlainPlay
import Derived.Test.YtehkcodbcnhhoaaGreatEDoAll
namespace Go.Proofs.YtehkcodbcnhhoaaGreat
open Go.RowKit
set_option linter.all false
def TyK (t : TypeId) : Prop := t = 3 ∨ t = 24 ∨ t = 90 ∨ t = 117 ∨ t = 121
theorem rowK_ty (x : Asy) (val : Key → Value) (j : Key) : TyK (rowK x val j).ty := by
  unfold TyK
  cases j <;> simp [rowK]
theorem no_tyK_bool : ¬ TyK 4 := by unfold TyK; decide
theorem no_tyK_act : ¬ TyK 69 := by unfold TyK; decide
theorem no_tyK_state : ¬ TyK 34 := by unfold TyK; decide
section
variable {w w' : World} {base P : Nat} {val : Key → Value} {x : Asy}
theorem AsyK.noTy (h : AsyK w base val x) {j : Key} (hj : keyOf x j) {g : Nat} {cur : Array Value} {t : TypeId} {fz : Nat × Nat} (hg : w.heap[g]? = some (.cells cur t fz)) (ht : ¬ TyK t) : (val j).ownBlock ≠ some g := fun e => by
  rcases (h.own j hj).2 with ⟨e2, _⟩ | ⟨g', cap, cur', e2, _, h3, _⟩
  · rw [e2] at e; cases e
  · rw [e2] at e
    obtain rfl : g' = g := Option.some.inj e
    rw [hg] at h3
    have e3 := (Obj.cells.inj (Option.some.inj h3)).2.1
    exact ht (by rw [e3]; exact rowK_ty x val j)
theorem AsyB.noTy (h : AsyB w base val x P) {g : Nat} {cur : Array Value} {t : TypeId} {fz : Nat × Nat} (hg : w.heap[g]? = some (.cells cur t fz)) (ht : t ≠ 34) : P ≠ g := fun e => by
  have h2 := h.box
  rw [e, hg] at h2
  exact ht (Obj.cells.inj (Option.some.inj h2)).2.1
theorem AsyB.aside (h : AsyB w base val x P) {row : Option Nat} (hg : w.grownBy w' row) (hrow : ∀ g, row = some g → ∃ cur t fz, w.heap[g]? = some (.cells cur t fz) ∧ ¬ TyK t ∧ t ≠ 34) : AsyB w' base val x P := by
  cases row with
  | none => exact ⟨OwnK.keep h.k hg, h.ne, (hg.block P h.lt (by simp)).trans h.box⟩
  | some g =>
    obtain ⟨cur, t, fz, h1, h2, h3⟩ := hrow g rfl
    refine ⟨OwnK.apart h.k hg (fun j hj => h.k.noTy hj h1 h2), h.ne, (hg.block P h.lt (fun e => h.noTy h1 h3 (Option.some.inj e))).trans h.box⟩
theorem own_ty {w : World} {base n sz : Nat} {e : TypeId} {v : Value} {vs : List Value} (h : w.ownsRow base e sz v n vs) : ∀ g, v.ownBlock = some g → ∃ cur fz, w.heap[g]? = some (.cells cur e fz) := fun g hg => by
  rcases h.2 with ⟨e2, _⟩ | ⟨g', cap, cur', e2, _, h3, _⟩
  · rw [e2] at hg; cases hg
  · rw [e2] at hg
    obtain rfl : g' = g := Option.some.inj hg
    exact ⟨_, _, h3⟩
theorem own_same {w w' : World} {base n sz : Nat} {e : TypeId} {v : Value} {vs : List Value} (h : w.ownsRow base e sz v n vs) (hk : ∀ g, v.ownBlock = some g → w'.heap[g]? = w.heap[g]?) : w'.ownsRow base e sz v n vs := by
  refine ⟨h.1, ?_⟩
  rcases h.2 with h2 | ⟨g', cap, cur', e2, h1, h3, h4⟩
  · exact .inl h2
  · exact .inr ⟨g', cap, cur', e2, h1, (hk g' (by rw [e2]; rfl)).trans h3, h4⟩
theorem ActsR.frame {x : Asy} {val : Key → Value} {b0 : Nat} {v : Value} {ys : List Acts} (h : ActsR w b0 v ys) (hK : AsyK w base val x) (hF : Frame val x w w') : ActsR w' b0 v ys :=
  own_same h fun g hg => hF.2 g (World.ownsRow.lt h g hg).2 fun j hj => by
    obtain ⟨cur, fz, h1⟩ := own_ty h g hg
    exact hK.noTy hj h1 no_tyK_act
end
theorem Did.play {m : Mach} {n : Net} {x : Asy} {a : Acts} {w w' : World} {base : Nat} {val : Key → Value} {ur ub un us uf : Value} (h : Did (mayB n x a) w' w.heap.size (val .r) (val .b) (val .n) (val .s) (val .f) ur ub un us uf (doA m n x a)) (hK : AsyK w base val x) (hb : Below w.heap.size w w') (hbase : base ≤ w.heap.size) :
    ∃ val', ur = val' .r ∧ ub = val' .b ∧ un = val' .n ∧ us = val' .s ∧ uf = val' .f ∧ AsyK w' base val' (playX m n x a) := by
  unfold playX
  cases hm : mayB n x a with
  | true =>
    obtain ⟨val', e0, e1, e2, e3, e4, hk⟩ := h.1 hm
    rw [if_pos rfl]
    exact ⟨val', e0, e1, e2, e3, e4, OwnK.mono hk hbase⟩
  | false =>
    obtain ⟨e0, e1, e2, e3, e4⟩ := h.2 hm
    rw [if_neg (by simp)]
    exact ⟨val, e0, e1, e2, e3, e4, AsyK.up hK hb⟩
theorem AsyK.past {w w' : World} {base P : Nat} {val : Key → Value} {x : Asy} (h : AsyK w base val x) {cur : Array Value} {fz : Nat × Nat} (hP : w.heap[P]? = some (.cells cur 34 fz)) (hg : w.grownBy w' (some P)) : AsyK w' base val x :=
  OwnK.apart h hg fun j hj => h.noTy hj hP no_tyK_state
theorem boolInf2 : (Tryz.prog.info? 4).map (fun i => (i.zero, i.size, i.bytes)) = some (some (.bool false), 1, 1) := by kernel_rfl
theorem take_snoc {α : Type} {ys : List α} {j : Nat} {a : α} (h : ys[j]? = some a) : ys.take (j + 1) = ys.take j ++ [a] := by
  obtain ⟨hj, rfl⟩ := List.getElem?_eq_some_iff.1 h
  exact List.take_succ_eq_append_getElem hj
theorem I64A.good {m : Mach} {n : Net} {x : Asy} (h : goodP m n x) : I64A x := i64_of h.2 (by have := h.1.1.1.2.1; omega) (by have := h.1.1.1.2.2; omega)
end Go.Proofs.YtehkcodbcnhhoaaGreat
