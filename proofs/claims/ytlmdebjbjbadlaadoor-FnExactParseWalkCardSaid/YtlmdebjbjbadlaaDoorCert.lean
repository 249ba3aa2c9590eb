/-
  Certificates of walk problems: the form, and the reference's waCheck, for every good walk problem.
-/
import Derived.Test.YtlmdebjbjbadlaaDoorRows
import Derived.Test.YtlmdebjbjbadlaaDoorKit
import Derived.Test.YtlmdebjbjbadlaaDoorMem
import Derived.Test.YtlmdebjbjbadlaaDoorBasic
import Derived.Test.YtlmdebjbjbadlaaDoorArgs
import Derived.Test.YtlmdebjbjbadlaaDoorLists
import Derived.Test.YtlmdebjbjbadlaaDoorWithin
import Derived.Test.YtlmdebjbjbadlaaDoorGood
import Derived.Test.YtlmdebjbjbadlaaDoorArcs
import Derived.Test.YtlmdebjbjbadlaaDoorAfter
import Derived.Test.YtlmdebjbjbadlaaDoorClosed
import Derived.Test.YtlmdebjbjbadlaaDoorMay
import Derived.Test.YtlmdebjbjbadlaaDoorSpecWalk
import Derived.Test.YtlmdebjbjbadlaaDoorRanks
import Derived.Test.YtlmdebjbjbadlaaDoorAbove
import Derived.Test.YtlmdebjbjbadlaaDoorRanksImpl
import Derived.WalkKit
import Derived.WalkSpells
import Derived.WalkLawsBesides
import Derived.Lib.Hide
import Derived.Deep.QuietTactic
import Derived.BigQuiet
import Derived.Deep.RegionHeld3
namespace Go.Proofs.YtlmdebjbjbadlaaDoor
open Go.RowKit
set_option linter.unusedVariables false

def cert3 (n : Nat) (xss : List (List Int)) (cl lb : Int) (f s : List Int) (rs : List (List Int)) : Prop := inB lb 0 ((n : Int) - 1) = true ∧ f.length + s.length + rs.length = 0 ∧ hasArc xss lb.toNat lb.toNat
def cert2 (n : Nat) (xss : List (List Int)) (cl lb : Int) (f s : List Int) (rs : List (List Int)) : Prop := inB lb 0 ((n : Int) - 1) = true ∧ rs.length = 0 ∧ (∀ a, ¬ hasArc xss a a) ∧ closedP n xss f lb ∧ closedP n xss s lb ∧ Nat.gcd (f.length - 1) (s.length - 1) = 1
def cert1 (n : Nat) (xss : List (List Int)) (cl lb : Int) (f s : List Int) (rs : List (List Int)) : Prop := inB lb 0 ((n : Int) - 1) = true ∧ s.length = 0 ∧ closedP n xss f lb ∧ RanksP true n xss rs
def cert0 (n : Nat) (xss : List (List Int)) (cl lb : Int) (f s : List Int) (rs : List (List Int)) : Prop := lb = 0 ∧ f.length + s.length = 0 ∧ RanksP false n xss rs
/-- A certificate in one of the four forms. -/
def certP (n : Nat) (xss : List (List Int)) (cl lb : Int) (f s : List Int) (rs : List (List Int)) : Prop :=
  (cl = 3 ∧ cert3 n xss cl lb f s rs) ∨ (cl = 2 ∧ cert2 n xss cl lb f s rs) ∨ (cl = 1 ∧ cert1 n xss cl lb f s rs) ∨ (cl = 0 ∧ cert0 n xss cl lb f s rs)
theorem certP_3 (n : Nat) (xss : List (List Int)) (lb : Int) (f s : List Int) (rs : List (List Int)) : certP n xss 3 lb f s rs ↔ cert3 n xss 3 lb f s rs := by unfold certP; simp
theorem certP_2 (n : Nat) (xss : List (List Int)) (lb : Int) (f s : List Int) (rs : List (List Int)) : certP n xss 2 lb f s rs ↔ cert2 n xss 2 lb f s rs := by unfold certP; simp
theorem certP_1 (n : Nat) (xss : List (List Int)) (lb : Int) (f s : List Int) (rs : List (List Int)) : certP n xss 1 lb f s rs ↔ cert1 n xss 1 lb f s rs := by unfold certP; simp
theorem certP_0 (n : Nat) (xss : List (List Int)) (lb : Int) (f s : List Int) (rs : List (List Int)) : certP n xss 0 lb f s rs ↔ cert0 n xss 0 lb f s rs := by unfold certP; simp
/-- The two boxes of a check: the problem's and the certificate's. -/
structure Boxes (w : World) (b : Nat) (n v cl lb vf vs vr : Value) : Prop where
  p0 : w.cell? ⟨b, 0, none⟩ = some n
  p1 : w.cell? ⟨b, 1, none⟩ = some v
  c0 : w.cell? ⟨b + 1, 0, none⟩ = some cl
  c1 : w.cell? ⟨b + 1, 1, none⟩ = some lb
  c2 : w.cell? ⟨b + 1, 2, none⟩ = some vf
  c3 : w.cell? ⟨b + 1, 3, none⟩ = some vs
  c4 : w.cell? ⟨b + 1, 4, none⟩ = some vr
theorem Boxes.below {w w' : World} {b B : Nat} {n v cl lb vf vs vr : Value} (h : Boxes w b n v cl lb vf vs vr) (hb : Below B w w') (hB : b + 1 < B) : Boxes w' b n v cl lb vf vs vr :=
  ⟨(hb.cell (p := ⟨b, 0, none⟩) (by show b < B; omega)).trans h.p0, (hb.cell (p := ⟨b, 1, none⟩) (by show b < B; omega)).trans h.p1,
   (hb.cell (p := ⟨b + 1, 0, none⟩) hB).trans h.c0, (hb.cell (p := ⟨b + 1, 1, none⟩) hB).trans h.c1, (hb.cell (p := ⟨b + 1, 2, none⟩) hB).trans h.c2, (hb.cell (p := ⟨b + 1, 3, none⟩) hB).trans h.c3, (hb.cell (p := ⟨b + 1, 4, none⟩) hB).trans h.c4⟩
/-! A region that draws its order, walked by hand: an operation that is taken first, one that is not wanted, and the one that is ready. -/
theorem take_wanted {P : Program} {md : Region.Mode} {ops : Array Oper} {Q : Exit → Act → World → Prop} {S : World → Prop} {fuel : Nat} {listed : Array Bool} {a : Act} {w : World} (i d : Nat) {oi : Oper} {v : Value}
    (hi : ops.toList[i]? = some oi) (hd : oi.dst = some d) (hs : Region.noSelect ops = true) (hf : Region.free md ops listed i = true) (hr : (Region.ready md ops listed).contains i = true)
    (hQ : ∀ c a w, Q (.panic c) (a.put (some d) v) w → Q (.panic c) a w) (hw : Region.wanted oi (yielded ops a.tmps) = true) (hy : ∀ w, S w → (execOp a.eval oi).run P w = .ok (.value v) w) (hS : S w)
    (h : wpAnyH P md ops Q S fuel (listed.setIfInBounds i true) (a.put (some d) v) w) : wpAnyH P md ops Q S (fuel + 1) listed a w := by
  rw [← hd] at hQ h
  exact wpAnyH_take (by rw [← Array.getElem?_toList]; exact hi) hs hf hr hQ (Or.inl ⟨hw, hy⟩) hS h
theorem take_not {P : Program} {md : Region.Mode} {ops : Array Oper} {Q : Exit → Act → World → Prop} {S : World → Prop} {fuel : Nat} {listed : Array Bool} {a : Act} {w : World} (i d : Nat) {oi : Oper}
    (hi : ops.toList[i]? = some oi) (hd : oi.dst = some d) (hs : Region.noSelect ops = true) (hf : Region.free md ops listed i = true) (hr : (Region.ready md ops listed).contains i = true)
    (hQ : ∀ c a w, Q (.panic c) (a.put (some d) undef) w → Q (.panic c) a w) (hw : Region.wanted oi (yielded ops a.tmps) = false) (hS : S w)
    (h : wpAnyH P md ops Q S fuel (listed.setIfInBounds i true) (a.put (some d) undef) w) : wpAnyH P md ops Q S (fuel + 1) listed a w := by
  rw [← hd] at hQ h
  exact wpAnyH_take (by rw [← Array.getElem?_toList]; exact hi) hs hf hr hQ (Or.inr ⟨hw, rfl⟩) hS h
theorem take_ready {P : Program} {md : Region.Mode} {ops : Array Oper} {Q : Exit → Act → World → Prop} {S : World → Prop} {fuel : Nat} {listed : Array Bool} {a : Act} {w : World} (i : Nat) {o : Oper}
    (hi : ops.toList[i]? = some o) (hr : Region.ready md ops listed = [i])
    (h : ∀ K' : Act → World → Prop, Shut (∀ a w, S w → (S w → wpAnyH P md ops Q S fuel (listed.setIfInBounds i true) a w) → K' a w) → if Region.wanted o (yielded ops a.tmps) = true then Oper.wp P o a w K' Q else K' (a.put o.dst undef) w) :
    wpAnyH P md ops Q S (fuel + 1) listed a w :=
  wpAnyH_ready hr (by simp) (AllReadyH.cons (by rw [← Array.getElem?_toList]; exact hi) h AllReadyH.nil)
theorem mayF_false {xss : List (List Int)} {a b : Nat} (h : mayF xss a b = false) : ¬ hasArc xss a b := fun k => by unfold mayF at h; rw [propB_t k] at h; cases h
theorem propB_ff {p : Prop} (h : propB p = false) : ¬ p := fun k => by rw [propB_t k] at h; cases h
end Go.Proofs.YtlmdebjbjbadlaaDoor
