/-
  A region that draws its order and calls nothing, inside a round of a range over a function: what holds of it outside all rounds holds there. No program in sight, no condition.
-/
import Derived.Test.YtfhecpkhifdnbaaGreatKit
import Derived.Deep.RegionHeld3
import Derived.OrdersIn
namespace Go.Proofs.YtfhecpkhifdnbaaGreat
open Go.RowKit
set_option linter.unusedVariables false
/-- What an operation comes to when it calls nothing and puts nothing off. -/
def Plainly {α : Type} (s : Sem α) (ok : α → Prop) : Prop := ∀ (P : Program) (w : World), (∃ x w', s.run P w = .ok x w' ∧ ok x) ∨ ∃ h w', s.run P w = .halt h w'
theorem Plainly.bind {α β : Type} {s : Sem α} {f : α → Sem β} {ok : β → Prop} (h : ∀ x, Plainly (f x) ok) : Plainly (s >>= f) ok := fun P w => by
  rw [Sem.run_bind]
  cases hs : s.run P w with
  | ok x w' => exact h x P w'
  | halt e w' => exact .inr ⟨e, w', rfl⟩
theorem Plainly.pure {α : Type} {x : α} {ok : α → Prop} (h : ok x) : Plainly (pure x) ok := fun P w => .inl ⟨x, w, rfl, h⟩
def valueOr : Next → Prop | .value _ => True | .skip => True | _ => False
/-- Operations that call nothing. -/
def calmOp : Op → Bool
  | .move _ | .assign _ | .load .. | .store .. | .binOp .. | .fieldAddr .. | .indexAddr .. | .nilCheck _ => true
  | _ => false
theorem plainly_halt {α : Type} {s : Sem α} {ok : α → Prop} (h : ∀ P w, ∃ e w', s.run P w = .halt e w') : Plainly s ok := fun P w => .inr (h P w)
theorem plainly_panic {α : Type} (e : RuntimeError) (ok : α → Prop) : Plainly (runtimePanic e) ok := by
  unfold runtimePanic
  refine Plainly.bind fun p => ?_
  dsimp only
  split <;> first | exact plainly_halt fun P w => ⟨_, _, rfl⟩ | exact Plainly.bind fun _ => Plainly.bind fun _ => plainly_halt fun P w => ⟨_, _, rfl⟩
theorem plainly_calm {o : Oper} {ρ : Operand → Value} (h : calmOp o.op = true) : Plainly (execOp ρ o) valueOr := by
  unfold execOp
  cases ho : o.op <;> rw [ho] at h <;> first
    | (simp [calmOp] at h; done)
    | exact Plainly.pure trivial
    | exact Plainly.bind fun _ => Plainly.pure trivial
    | skip
  dsimp only
  split
  · exact plainly_panic _ _
  · exact plainly_panic _ _
  · exact plainly_panic _ _
  · split
    · exact plainly_panic _ _
    · refine Plainly.bind fun p => Plainly.bind fun q => ?_
      split
      · exact Plainly.bind fun _ => Plainly.pure trivial
      · exact Plainly.pure trivial
    · exact Plainly.pure trivial
  · exact Plainly.pure trivial
theorem about_calm {o : Oper} {ρ : Operand → Value} {P : Program} {w : World} (h : calmOp o.op = true) : o.about P w ρ = none := by
  unfold Oper.about
  cases ho : o.op <;> first | rfl | (rw [ho] at h; simp [calmOp] at h; done)
theorem semAt_calm {o : Oper} {ρ : Operand → Value} {ro : Option Nat} (h : calmOp o.op = true) : o.semAt ro ρ = execOp ρ o :=
  Oper.semAt_eq ro ρ o fun c hc => by rw [hc] at h; simp [calmOp] at h
/-- Where no operation of a region calls anything, what holds of it outside all rounds holds inside one. -/
theorem wpOpsIn_calm {F : Fence} {n : Nat} {P : Program} {ops : Array Oper} {Q Q' : Exit → Act → World → Prop} (hc : ∀ (i : Nat) (o : Oper), ops[i]? = some o → calmOp o.op = true)
    (hQ : ∀ e a w, Q' e a w → e ≠ .outgrown ∧ Q e a w) : ∀ (l : List Nat) (a : Act) (w : World), wpOps P ops Q' l a w → wpOpsIn F n P ops Q l a w
  | [], a, w, h => (hQ _ _ _ h).2
  | i :: rest, a, w, h => by
    unfold wpOps at h
    unfold wpOpsIn
    cases ho : ops[i]? with
    | none => simp only [ho] at h ⊢; exact wpOpsIn_calm hc hQ rest a w h
    | some o =>
      simp only [ho] at h ⊢
      have hcalm := hc i o ho
      split
      · rename_i hw
        rw [if_pos hw] at h
        rcases h with h | ⟨-, a', w', h⟩
        · refine ⟨fun f hf => (by rw [about_calm hcalm] at hf; cases hf), ?_⟩
          rw [semAt_calm hcalm]
          unfold Oper.wp at h
          rcases plainly_calm (ρ := a.eval) hcalm P w with ⟨x, w', hx, hok⟩ | ⟨e, w', hx⟩
          · rw [hx] at h ⊢
            cases x <;> first | exact wpOpsIn_calm hc hQ rest _ _ h | exact hok.elim
          · rw [hx] at h ⊢
            cases e <;> first | exact (hQ _ _ _ h).2 | exact h.elim
        · exact absurd rfl (hQ _ _ _ h).1
      · rename_i hw
        rw [if_neg hw] at h
        exact ⟨fun f hf => (by rw [about_calm hcalm] at hf; cases hf), wpOpsIn_calm hc hQ rest _ _ h⟩
def calmAll (ops : Array Oper) : Bool := ops.toList.all fun o => calmOp o.op
theorem wpIn_region_calm {F : Fence} {n : Nat} {P : Program} {ops : Array Oper} {Q : Exit → Act → World → Prop} {id : Nat} {a : Act} {w : World} (S : World → Prop) (hm : P.follows .mixedOrders = true) (hc : calmAll ops = true) (hS : S w.drew)
    (h : S w.drew → wpAnyH P .any ops (fun e a w => e ≠ .outgrown ∧ Q e a w) S ops.size (Array.replicate ops.size false) a w.drew) : (Code.region id ops true).wpIn F n P Q a w :=
  wpIn_region_draw fun t => by
    simp only [Region.schedule, hm, Bool.true_or, if_true]
    refine wpOpsIn_calm (Q' := fun e a w => e ≠ .outgrown ∧ Q e a w) (fun i o ho => ?_) (fun _ _ _ h => h) _ _ _ (wpAny_sound ops.size t _ a _ (wpAny_of_held _ _ _ _ (h hS)))
    unfold calmAll at hc
    exact List.all_eq_true.1 hc o (by rw [← Array.getElem?_toList] at ho; exact List.mem_of_getElem? ho)
end Go.Proofs.YtfhecpkhifdnbaaGreat
