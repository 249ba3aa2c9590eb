/-
  Small lemmas and contracts that the texts of this claim share. No condition.
-/
import Derived.Below
import Derived.ChangeSame
import Derived.ProofKit
import Derived.Carry
import Derived.Deep.Draws
import Derived.OpenShut
import Derived.Laws.Rows
import Derived.Lib.Hide
import Derived.WalkKit
import Derived.Deep.RegionHeld3
import Derived.Deep.AppendLies
import Derived.Laws.MakeOwn
import Derived.Test.YtehkcodbcnhhoaaGreatRows
import Derived.WalkSpells
import Derived.WalkLawsBesides
import Derived.Maps.AppendAt
import Derived.Deep.LoopGhost
import Derived.Deep.QuietTactic
import Derived.BigQuiet
import Derived.Laws.AppendOwn
import Derived.IntWalk
import Derived.Laws.StructEq
import Derived.Shelf.Sort.Plain
import Derived.Shelf.Bits.Mul64
import Derived.Shelf.Slices.Turned
import Derived.Ground.Names2Prog
import Derived.Shelf.Slices.Clone
import Derived.Shelf.Slices.In.SortNone
import Derived.Test.YtehkcodbcnhhoaaGreatProg
import Derived.Lib.OwnBridge
import Derived.Laws.OwnMore
import Derived.Laws.IdiomCopy
import Derived.Laws.CopyRow
import Derived.Laws.NewBlocks
import Derived.Lib.SliceRun
import Derived.Lib.Overlaps
import Derived.Laws.CopyOwn
import Derived.Deep.RegionLaw
import Derived.ArgAppend
namespace Go.Proofs.YtehkcodbcnhhoaaGreat
open Go.RowKit Go.WideShapes Go.ChangeShapes
set_option linter.all false
theorem ret_int {k : IntKind} {a b : Int} (h : a = b) : Ending.returned (.int k a) = .returned (.int k b) := by rw [h]
theorem ret_bool {a b : Bool} (h : a = b) : Ending.returned (.bool a) = .returned (.bool b) := by rw [h]
theorem bl_alloc {w x : World} (h : Below w.heap.size w x) (o : Obj) : Below w.heap.size w (x.alloc o) := h.alloc h.size o
theorem bl_trans {w x y : World} (h : Below w.heap.size w x) (k : Below x.heap.size x y) : Below w.heap.size w y := h.trans (k.mono h.size)
theorem bl_drewN {B : Nat} {a w : World} (h : Below B a w) (n : Nat) : Below B a (w.drewN n) := ⟨h.os, h.tape, h.output, h.size, h.block⟩
def szR (left : Int) (n : Nat) : Int := if (n : Int) ≤ left then left - n else -1
def inB (n lo hi : Int) : Bool := decide (lo ≤ n ∧ n ≤ hi)
theorem inB_t {n lo hi : Int} (h : lo ≤ n ∧ n ≤ hi) : inB n lo hi = true := by unfold inB; exact decide_eq_true h
theorem inB_f {n lo hi : Int} (h : ¬ (lo ≤ n ∧ n ≤ hi)) : inB n lo hi = false := by unfold inB; exact decide_eq_false h
noncomputable def propB (p : Prop) : Bool := @decide p (Classical.propDecidable p)
theorem propB_t {p : Prop} (h : p) : propB p = true := by unfold propB; exact @decide_eq_true p (Classical.propDecidable p) h
theorem propB_f {p : Prop} (h : ¬ p) : propB p = false := by unfold propB; exact @decide_eq_false p (Classical.propDecidable p) h
theorem propB_iff {p : Prop} : propB p = true ↔ p := by unfold propB; exact @decide_eq_true_iff p (Classical.propDecidable p)
theorem propB_congr {p q : Prop} (h : p ↔ q) : propB p = propB q := by rw [propext h]
section
variable {H : Type} {enc : TypeId × Value → H} {P : Program}
theorem trodAll_stays (hl : laidOutB P = true) {W W' : World} {sp' : Nat → Bool} :
    ∀ (ts : List TypeId) (vs : List Value) (ds : List (DataW H)) (ps : List MemPlace), (∀ t ∈ ts, P.readableRec t = true ∧ t < P.types.size) →
      DataW.TrodAll enc P W 0 (fun _ => true) true ts vs ds ps → (∀ p ∈ ps, W.sameAt W' p) → (∀ p ∈ ps, sp' p.block = true) → DataW.TrodAll enc P W' 0 sp' true ts vs ds ps
  | [], [], [], _, _, h, _, _ => h
  | t :: ts, v :: vs, d :: ds, ps, hr, h, h1, h2 => by
    obtain ⟨p, q, ha, hb, rfl⟩ := h
    exact ⟨p, q, WideElems.Trod_stays hl (hr t (by simp)).1 (hr t (by simp)).2 ha (fun x hx => h1 x (by simp [hx])) (fun x hx => h2 x (by simp [hx])),
      trodAll_stays hl ts vs ds q (fun t' ht' => hr t' (by simp [ht'])) hb (fun x hx => h1 x (by simp [hx])) (fun x hx => h2 x (by simp [hx])), rfl⟩
  | [], [], _ :: _, _, _, h, _, _ => h.elim
  | [], _ :: _, _, _, _, h, _, _ => h.elim
  | _ :: _, [], _, _, _, h, _, _ => h.elim
  | _ :: _, _ :: _, [], _, _, h, _, _ => h.elim

theorem post_law {f : Func} {s : ChangeSpec} {apart fresh handsOn again : Bool} {W W' : World} {args : Array Value} {ds gs : List (DataW H)} {before : List MemPlace} {tb : TypeId}
  (hl : laidOutB P = true) (hr0 : (f.params.toList.all fun t => P.readableRec t && decide (t < P.types.size)) = true) (hvars : s.vars = []) (hrt : f.resultTypes = #[tb]) (htb : P.underlying tb = some .bool)
  (hsp : s.fn H (ds ++ gs) = { results := [.lit (.bool true)], args := ds })
  (hW : DataW.Whole enc P f.params.toList s.vars apart W args.toList ds gs before) (hb : Below W.heap.size W W') :
  s.post enc P f apart fresh handsOn again W args (.bool true) W' := by
 have hr : ∀ t ∈ f.params.toList, P.readableRec t = true ∧ t < P.types.size := fun t ht => by
  have := List.all_eq_true.1 hr0 t ht
  simpa using this
 have hlt : ∀ p ∈ before, p.block < W.heap.size := fun p hp => hW.lt p hp
 have hold : ∀ p ∈ before, (fun b => decide (b < W.heap.size)) p.block = true := fun p hp => by simpa using hlt p hp
 obtain ⟨p, q, hA, hV, hps, hz, hn⟩ := id hW
 rw [hvars] at hV
 obtain ⟨rfl, rfl⟩ := trodVars_none hV
 have hps' : before = p := by simpa using hps
 subst hps'
 have hargs : ∀ sp : Nat → Bool, (∀ x ∈ before, sp x.block = true) → DataW.TrodAll enc P W' 0 sp true f.params.toList args.toList ds before :=
  fun sp hs => trodAll_stays hl _ _ _ _ hr hA (fun x hx => hb.same (hlt x hx)) hs
 have hres : ∀ (b : Nat) (sp : Nat → Bool) (hd : Bool), DataW.TrodAll enc P W' b sp hd f.resultTypes.toList ((Value.bool true).resultList f.resultTypes.size) [.lit (.bool true)] [] := by
  intro b sp hd
  rw [hrt]
  exact trodAll_cons_mk (shut_bool htb _) trodAll_mk0
 have hv0 : ∀ sp : Nat → Bool, DataW.TrodVars enc P W' sp s.vars [] [] := fun sp => by rw [hvars]; rfl
 refine ⟨ds, [], before, [], before, [], hW, by rw [hsp]; exact hres _ _ _, by rw [hsp]; exact hargs _ hold, by rw [hsp]; exact hv0 _, World.keptBut_mono (fun x hx => ⟨hx, ?_⟩) (hb.frame (· ∈ before)), fun _ => ?_⟩
 ·
  exact Or.inr (by simpa using hx)
 ·
  refine ⟨?_, _, _, ([] ++ before) ++ [], ⟨[] ++ before, [], trodAll_append (hargs _ (fun _ _ => rfl)) (hres _ _ _), hv0 _, rfl, ?_, ?_⟩, ?_⟩
  ·
   exact ok_one hrt rfl (okWide_bool_mk htb _)
  ·
   intro b off hp
   have hin : MemPlace.cell b off ∈ before := by simpa using hp
   rw [hb.frozen (hlt _ hin)]
   exact hz b off (by simpa using hin)
  ·
   intro ha
   simpa using hn ha
  ·
   intro x hx _
   simpa using hx
end
end Go.Proofs.YtehkcodbcnhhoaaGreat
namespace Go.Proofs.YtehkcodbcnhhoaaGreat
open Go.RowKit
set_option linter.all false
theorem cells2 {w : World} {b : Nat} {v0 v1 : Value} {t : TypeId} (H : Hid (w.heap[b]? = some (.cells #[v0, v1] t (0, 0)))) : w.cell? ⟨b, 0, none⟩ = some v0 ∧ w.cell? ⟨b, 1, none⟩ = some v1 ∧ ∀ i, w.frozen? ⟨b, i, none⟩ = false :=
  ⟨cell_of_row _ _ 0 _ _ (0, 0) H.out, cell_of_row _ _ 1 _ _ (0, 0) H.out, fun i => frozen_of_row _ _ i _ _ H.out⟩
theorem cells3 {w : World} {b : Nat} {v0 v1 v2 : Value} {t : TypeId} (H : Hid (w.heap[b]? = some (.cells #[v0, v1, v2] t (0, 0)))) : w.cell? ⟨b, 0, none⟩ = some v0 ∧ w.cell? ⟨b, 1, none⟩ = some v1 ∧ w.cell? ⟨b, 2, none⟩ = some v2 ∧ ∀ i, w.frozen? ⟨b, i, none⟩ = false :=
  ⟨cell_of_row _ _ 0 _ _ (0, 0) H.out, cell_of_row _ _ 1 _ _ (0, 0) H.out, cell_of_row _ _ 2 _ _ (0, 0) H.out, fun i => frozen_of_row _ _ i _ _ H.out⟩
theorem pu : (∀ (l : List Value) (i : Nat) (v : Value), l.toArray.setIfInBounds i v = (l.set i v).toArray) ∧ (∀ (x : Value) (l : List Value) (v : Value), (x :: l).set 0 v = v :: l) ∧ ∀ (x : Value) (l : List Value) (n : Nat) (v : Value), (x :: l).set (n + 1) v = x :: l.set n v :=
  ⟨fun l i v => List.setIfInBounds_toArray l i v, fun _ _ _ => rfl, fun _ _ _ _ => rfl⟩
theorem bk {w w' : World} {b B : Nat} {o : Option Obj} (H : Hid (w.heap[b]? = o)) (hb : Below B w w') (h : b < B := by omega) : Hid (w'.heap[b]? = o) := Lib.hid ((hb.block b h).trans H.out)
theorem tk {P : Program} {md : Region.Mode} {ops : Array Oper} {Q : Exit → Act → World → Prop} {S : World → Prop} {fuel : Nat} {listed : Array Bool} {a : Act} {w : World} (i d : Nat) {oi : Oper} {v : Value}
    (hi : ops.toList[i]? = some oi) (hd : oi.dst = some d)
    (h : wpAnyH P md ops Q S fuel (listed.setIfInBounds i true) (a.put (some d) v) w)
    (hy : ∀ w, S w → (execOp a.eval oi).run P w = .ok (.value v) w := by intro w hSw; (try dsimp only at hSw); go_simp <;> with_reducible rfl)
    (hs : Region.noSelect ops = true := by kernel_rfl) (hf : Region.free md ops listed i = true := by kernel_rfl) (hr : (Region.ready md ops listed).contains i = true := by kernel_rfl)
    (hQ : ∀ c a w, Q (.panic c) (a.put (some d) v) w → Q (.panic c) a w := by exact fun _ _ _ h => h) (hw : Region.wanted oi (yielded ops a.tmps) = true := by rfl) (hS : S w := by assumption) : wpAnyH P md ops Q S (fuel + 1) listed a w := by
  rw [← hd] at hQ h
  exact wpAnyH_take (by rw [← Array.getElem?_toList]; exact hi) hs hf hr hQ (Or.inl ⟨hw, hy⟩) hS h
theorem tn {P : Program} {md : Region.Mode} {ops : Array Oper} {Q : Exit → Act → World → Prop} {S : World → Prop} {fuel : Nat} {listed : Array Bool} {a : Act} {w : World} (i d : Nat) {oi : Oper}
    (hi : ops.toList[i]? = some oi) (hd : oi.dst = some d)
    (h : wpAnyH P md ops Q S fuel (listed.setIfInBounds i true) (a.put (some d) undef) w)
    (hs : Region.noSelect ops = true := by kernel_rfl) (hf : Region.free md ops listed i = true := by kernel_rfl) (hr : (Region.ready md ops listed).contains i = true := by kernel_rfl)
    (hQ : ∀ c a w, Q (.panic c) (a.put (some d) undef) w → Q (.panic c) a w := by exact fun _ _ _ h => h) (hw : Region.wanted oi (yielded ops a.tmps) = false := by rfl) (hS : S w := by assumption) : wpAnyH P md ops Q S (fuel + 1) listed a w := by
  rw [← hd] at hQ h
  exact wpAnyH_take (by rw [← Array.getElem?_toList]; exact hi) hs hf hr hQ (Or.inr ⟨hw, rfl⟩) hS h

theorem tr {P : Program} {md : Region.Mode} {ops : Array Oper} {Q : Exit → Act → World → Prop} {S : World → Prop} {fuel : Nat} {listed : Array Bool} {a : Act} {w : World} (i : Nat) {o : Oper}
    (hi : ops.toList[i]? = some o) (hr : Region.ready md ops listed = [i])
    (h : ∀ K' : Act → World → Prop, Shut (∀ a w, S w → (S w → wpAnyH P md ops Q S fuel (listed.setIfInBounds i true) a w) → K' a w) → if Region.wanted o (yielded ops a.tmps) = true then Oper.wp P o a w K' Q else K' (a.put o.dst undef) w) :
    wpAnyH P md ops Q S (fuel + 1) listed a w :=
  wpAnyH_ready hr (by simp) (AllReadyH.cons (by rw [← Array.getElem?_toList]; exact hi) h AllReadyH.nil)
theorem setB {w W W' : World} {G i : Nat} {cs : Array Value} {t : TypeId} {v : Value} (hB : Below w.heap.size w W) (hG : w.heap.size ≤ G) (hc : W.heap[G]? = some (.cells cs t (0, 0))) (hw : W' = W.setCell ⟨G, i, none⟩ v) :
    Below w.heap.size w W' ∧ (∀ b, b ≠ G → W'.heap[b]? = W.heap[b]?) ∧ Hid (W'.heap[G]? = some (.cells (cs.setIfInBounds i v) t (0, 0))) ∧ W'.heap.size ≤ W.heap.size ∧ W.heap.size ≤ W'.heap.size := by
  subst hw
  refine ⟨hB.setCell hG _, fun b hb => Below.heap_setCell _ _ _ _ (by simpa using hb), Lib.hid ?_, by simp [World.setCell], by simp [World.setCell]⟩
  simp [World.setCell, Array.getElem?_modify, hc]
end Go.Proofs.YtehkcodbcnhhoaaGreat
namespace Go.Proofs.YtehkcodbcnhhoaaGreat
open Go.RowKit
set_option linter.all false
section
variable {P : Program} {ops : Array Oper} {Q : Exit → Act → World → Prop} {md : Region.Mode} {S : World → Prop} {st : Nat}
def wpTill (P : Program) (md : Region.Mode) (ops : Array Oper) (Q : Exit → Act → World → Prop) (S : World → Prop) (st : Nat) : Nat → Array Bool → Act → World → Prop
  | 0, l, a, w => Region.ready md ops l = [] ∧ Q .normal a w
  | n + 1, l, a, w => (Region.ready md ops l = [] → Q .normal a w) ∧ ∀ i ∈ Region.ready md ops l, wpOp P ops Q i (fun b v => ((l.setIfInBounds i true).getD st true = false → S v) ∧ wpTill P md ops Q S st n (l.setIfInBounds i true) b v) a w
theorem wpTill.any : ∀ (n : Nat) (l : Array Bool) (a : Act) (w : World), wpTill P md ops Q S st n l a w → wpAny P md ops Q n l a w
  | 0, _, _, _, h => h
  | n + 1, _, _, _, h => ⟨h.1, fun i hi => wpOp_mono (fun b v h' => wpTill.any n _ b v h'.2) (h.2 i hi)⟩
theorem wpTill_first {i : Nat} {oi : Oper} {v : Value} (hi : ops[i]? = some oi) (hsel : ∀ (j : Nat) (o : Oper) cs b, ops[j]? = some o → o.op ≠ .select cs b)
  (hQ : ∀ c a w, Q (.panic c) (a.put oi.dst v) w → Q (.panic c) a w) (hne : st ≠ i) (hst : ∀ o, ops[st]? = some o → ∃ e ∈ o.after, Region.binds md e = true ∧ e.on = i) :
  ∀ (n : Nat) (l : Array Bool) (a : Act) (w : World),
   (∀ j oj, ops[j]? = some oj → j ≠ i → l.getD j true = false → (∀ e ∈ oj.after, Region.binds md e = true → e.on ≠ i) → oi.apart ops oj = true) →
   i ∈ Region.ready md ops l → l.getD st true = false → YieldsIf P ops S oi v a → S w →
   wpTill P md ops Q S st n (l.setIfInBounds i true) (a.put oi.dst v) w → wpTill P md ops Q S st (n + 1) l a w := by
 intro n
 induction n with
 | zero =>
  intro l a w _ hr _ hy hS H
  refine ⟨fun h => (by rw [h] at hr; cases hr), fun j hj => ?_⟩
  by_cases hji : j = i
  ·
   subst hji; exact hy.wpOp hi hS ⟨fun _ => hS, H⟩
  ·
   have := ready_mono hj hji
   rw [H.1] at this
   cases this
 | succ n ih =>
  intro l a w hfree hr hl hy hS H
  refine ⟨fun h => (by rw [h] at hr; cases hr), fun j hj => ?_⟩
  by_cases hji : j = i
  ·
   subst hji; exact hy.wpOp hi hS ⟨fun _ => hS, H⟩
  ·
   have h1 := H.2 j (ready_mono hj hji)
   obtain ⟨hjun, oj, hoj, hall⟩ := mem_ready.1 hj
   have hiun : l.getD i true = false := (mem_ready.1 hr).1
   have hnot : ∀ e ∈ oj.after, Region.binds md e = true → e.on ≠ i := fun e he hb heq => by
    have h1 := hall e he hb
    have h0 := hiun
    rw [heq] at h1
    rcases Nat.lt_or_ge i l.size with h' | h'
    ·
     simp [h'] at h0 h1; rw [h0] at h1; cases h1
    ·
     simp [Array.getElem?_eq_none h'] at h1
   have hjst : j ≠ st := fun e => by
    subst e
    obtain ⟨x, hx, hb, he⟩ := hst oj hoj
    exact hnot x hx hb he
   have h2 := wpOp_putIf hoj (hfree j oj hoj hji hjun hnot) (fun cs b => hsel i oi cs b hi) (fun cs b => hsel j oj cs b hoj) hQ hy h1
   have hfree' : ∀ k ok, ops[k]? = some ok → k ≠ i → (l.setIfInBounds j true).getD k true = false →
     (∀ e ∈ ok.after, Region.binds md e = true → e.on ≠ i) → oi.apart ops ok = true := fun k ok hk hki hun hno => by
    refine hfree k ok hk hki ?_ hno
    by_cases hjk : j = k
    ·
     subst hjk; exact hjun
    ·
     rw [getD_set_ne true hjk] at hun; exact hun
   have hl' : (l.setIfInBounds j true).getD st true = false := by rw [getD_set_ne true hjst]; exact hl
   have hl2 : ((l.setIfInBounds i true).setIfInBounds j true).getD st true = false := by rw [getD_set_ne true hjst, getD_set_ne true (Ne.symm hne)]; exact hl
   refine wpOp_mono (fun a' w' h3 => ⟨fun _ => h3.2.1 hl2, ih (l.setIfInBounds j true) a' w' hfree' (ready_mono hr (Ne.symm hji)) hl' h3.1 (h3.2.1 hl2) ?_⟩) h2
   rw [Array.setIfInBounds_comm _ _ hji]
   exact h3.2.2
theorem wpTill_free {i : Nat} {oi : Oper} {v : Value} (hi : ops[i]? = some oi) (hsel : ∀ (j : Nat) (o : Oper) cs b, ops[j]? = some o → o.op ≠ .select cs b)
  (hQ : ∀ c a w, Q (.panic c) (a.put oi.dst v) w → Q (.panic c) a w) (hne : st ≠ i) :
  ∀ (n : Nat) (l : Array Bool) (a : Act) (w : World),
   (∀ j oj, ops[j]? = some oj → j ≠ i → l.getD j true = false → (∀ e ∈ oj.after, Region.binds md e = true → e.on ≠ i) → oi.apart ops oj = true) →
   i ∈ Region.ready md ops l → YieldsIf P ops (fun _ => True) oi v a → (l.getD st true = false → S w) →
   wpTill P md ops Q S st n (l.setIfInBounds i true) (a.put oi.dst v) w → wpTill P md ops Q S st (n + 1) l a w := by
 intro n
 induction n with
 | zero =>
  intro l a w _ hr hy hS H
  refine ⟨fun h => (by rw [h] at hr; cases hr), fun j hj => ?_⟩
  by_cases hji : j = i
  ·
   subst hji; exact hy.wpOp hi trivial ⟨fun h => hS (by rwa [getD_set_ne true (Ne.symm hne)] at h), H⟩
  ·
   have := ready_mono hj hji
   rw [H.1] at this
   cases this
 | succ n ih =>
  intro l a w hfree hr hy hS H
  refine ⟨fun h => (by rw [h] at hr; cases hr), fun j hj => ?_⟩
  by_cases hji : j = i
  ·
   subst hji; exact hy.wpOp hi trivial ⟨fun h => hS (by rwa [getD_set_ne true (Ne.symm hne)] at h), H⟩
  ·
   have h1 := H.2 j (ready_mono hj hji)
   obtain ⟨hjun, oj, hoj, hall⟩ := mem_ready.1 hj
   have hiun : l.getD i true = false := (mem_ready.1 hr).1
   have hnot : ∀ e ∈ oj.after, Region.binds md e = true → e.on ≠ i := fun e he hb heq => by
    have h1 := hall e he hb
    have h0 := hiun
    rw [heq] at h1
    rcases Nat.lt_or_ge i l.size with h' | h'
    ·
     simp [h'] at h0 h1; rw [h0] at h1; cases h1
    ·
     simp [Array.getElem?_eq_none h'] at h1
   have h2 := wpOp_putIf hoj (hfree j oj hoj hji hjun hnot) (fun cs b => hsel i oi cs b hi) (fun cs b => hsel j oj cs b hoj) hQ hy h1
   have hfree' : ∀ k ok, ops[k]? = some ok → k ≠ i → (l.setIfInBounds j true).getD k true = false →
     (∀ e ∈ ok.after, Region.binds md e = true → e.on ≠ i) → oi.apart ops ok = true := fun k ok hk hki hun hno => by
    refine hfree k ok hk hki ?_ hno
    by_cases hjk : j = k
    ·
     subst hjk; exact hjun
    ·
     rw [getD_set_ne true hjk] at hun; exact hun
   have hbit : (l.setIfInBounds j true).getD st true = false → ((l.setIfInBounds i true).setIfInBounds j true).getD st true = false := fun h => by
    rw [Array.setIfInBounds_comm _ _ (Ne.symm hji), getD_set_ne true (Ne.symm hne)]
    exact h
   refine wpOp_mono (fun a' w' h3 => ⟨fun h => h3.2.1 (hbit h), ih (l.setIfInBounds j true) a' w' hfree' (ready_mono hr (Ne.symm hji)) h3.1 (fun h => h3.2.1 (hbit h)) ?_⟩) h2
   rw [Array.setIfInBounds_comm _ _ hji]
   exact h3.2.2
theorem wpTill_done {l : Array Bool} {a : Act} {w : World} (hr : Region.ready md ops l = []) (h : Q .normal a w) : ∀ n, wpTill P md ops Q S st n l a w
  | 0 => ⟨hr, h⟩
  | _ + 1 => ⟨fun _ => h, by rw [hr]; simp⟩
def waits (md : Region.Mode) (ops : Array Oper) (st i : Nat) : Bool := match ops[st]? with | some o => o.after.any fun e => Region.binds md e && e.on == i | none => true
theorem waits_spec {i : Nat} (h : waits md ops st i = true) : ∀ o, ops[st]? = some o → ∃ e ∈ o.after, Region.binds md e = true ∧ e.on = i := fun o ho => by
  unfold waits at h
  rw [ho] at h
  simp only [Array.any_eq_true, Bool.and_eq_true, beq_iff_eq] at h
  obtain ⟨k, hk, h1, h2⟩ := h
  exact ⟨_, Array.getElem_mem hk, h1, h2⟩
theorem uk {fuel : Nat} {listed : Array Bool} {a : Act} {w : World} (i d : Nat) {oi : Oper} {v : Value}
    (hi : ops.toList[i]? = some oi) (hd : oi.dst = some d)
    (h : wpTill P md ops Q S st fuel (listed.setIfInBounds i true) (a.put (some d) v) w)
    (hy : ∀ w, S w → (execOp a.eval oi).run P w = .ok (.value v) w := by intro w hSw; (try dsimp only at hSw); go_simp <;> with_reducible rfl)
    (hs : Region.noSelect ops = true := by kernel_rfl) (hf : Region.free md ops listed i = true := by kernel_rfl) (hr : (Region.ready md ops listed).contains i = true := by kernel_rfl)
    (hwt : waits md ops st i = true := by kernel_rfl) (hsi : (st == i) = false := by kernel_rfl) (hls : listed.getD st true = false := by kernel_rfl)
    (hQ : ∀ c a w, Q (.panic c) (a.put (some d) v) w → Q (.panic c) a w := by exact fun _ _ _ h => h) (hw : Region.wanted oi (yielded ops a.tmps) = true := by rfl) (hS : S w := by assumption) : wpTill P md ops Q S st (fuel + 1) listed a w := by
  rw [← hd] at hQ h
  have hi' : ops[i]? = some oi := by rw [← Array.getElem?_toList]; exact hi
  exact wpTill_first hi' (Region.noSelect_spec hs) hQ (by simpa using hsi) (waits_spec hwt) fuel listed a w (Region.free_spec hi' hf) (by simpa using hr) hls (Or.inl ⟨hw, hy⟩) hS h
theorem till_over {l : Array Bool} {w : World} (h : l.getD st true = true) : l.getD st true = false → S w := fun h' => by rw [h] at h'; cases h'
theorem uf {fuel : Nat} {listed : Array Bool} {a : Act} {w : World} (i d : Nat) {oi : Oper} {v : Value}
    (hi : ops.toList[i]? = some oi) (hd : oi.dst = some d)
    (h : wpTill P md ops Q S st fuel (listed.setIfInBounds i true) (a.put (some d) v) w)
    (hy : ∀ w, (execOp a.eval oi).run P w = .ok (.value v) w := by intro w; go_simp <;> with_reducible rfl)
    (hs : Region.noSelect ops = true := by kernel_rfl) (hf : Region.free md ops listed i = true := by kernel_rfl) (hr : (Region.ready md ops listed).contains i = true := by kernel_rfl)
    (hsi : (st == i) = false := by kernel_rfl)
    (hQ : ∀ c a w, Q (.panic c) (a.put (some d) v) w → Q (.panic c) a w := by exact fun _ _ _ h => h) (hw : Region.wanted oi (yielded ops a.tmps) = true := by rfl)
    (hS : listed.getD st true = false → S w := by first | (intro _; assumption) | exact till_over (by kernel_rfl)) : wpTill P md ops Q S st (fuel + 1) listed a w := by
  rw [← hd] at hQ h
  have hi' : ops[i]? = some oi := by rw [← Array.getElem?_toList]; exact hi
  exact wpTill_free hi' (Region.noSelect_spec hs) hQ (by simpa using hsi) fuel listed a w (Region.free_spec hi' hf) (by simpa using hr) (Or.inl ⟨hw, fun w _ => hy w⟩) hS h
theorem till_no {b : Bool} {p : Prop} (h' : b = false) (h : b = true) : p := by rw [h] at h'; cases h'
def TillK (P : Program) (md : Region.Mode) (ops : Array Oper) (Q : Exit → Act → World → Prop) (S : World → Prop) (st fuel : Nat) (listed : Array Bool) (i : Nat) (K' : Act → World → Prop) : Prop :=
  Shut (∀ a w, ((listed.setIfInBounds i true).getD st true = false → S w) → wpTill P md ops Q S st fuel (listed.setIfInBounds i true) a w → K' a w)
theorem ur {fuel : Nat} {listed : Array Bool} {a : Act} {w : World} (i : Nat) {o : Oper}
    (hi : ops.toList[i]? = some o) (hr : Region.ready md ops listed = [i])
    (h : ∀ K' : Act → World → Prop, TillK P md ops Q S st fuel listed i K' → if Region.wanted o (yielded ops a.tmps) = true then Oper.wp P o a w K' Q else K' (a.put o.dst undef) w) :
    wpTill P md ops Q S st (fuel + 1) listed a w := by
  refine ⟨fun h0 => (by rw [hr] at h0; cases h0), fun j hj => ?_⟩
  rw [hr] at hj
  obtain rfl := List.mem_singleton.1 hj
  exact wpOp_step (by rw [← Array.getElem?_toList]; exact hi) fun K' hK => h K' (fun a w hS hW => hK a w ⟨hS, hW⟩)
theorem TillK.out {fuel i : Nat} {listed : Array Bool} {K' : Act → World → Prop} (h : TillK P md ops Q S st fuel listed i K') {a : Act} {w : World} (hS : (listed.setIfInBounds i true).getD st true = false → S w) (hW : wpTill P md ops Q S st fuel (listed.setIfInBounds i true) a w) : K' a w := h a w hS hW
theorem till_region {id : Nat} {a : Act} {w : World} (hm : P.follows .mixedOrders = true) (hS : S w.drew)
    (h : S w.drew → wpTill P .any ops Q S st ops.size (Array.replicate ops.size false) a w.drew) : (Code.region id ops true).wp P Q a w :=
  wp_region_any hm (wpTill.any _ _ _ _ (h hS))
end
end Go.Proofs.YtehkcodbcnhhoaaGreat
namespace Go.Proofs.YtehkcodbcnhhoaaGreat
open Go.RowKit
set_option linter.all false
theorem stk {P : Program} {md : Region.Mode} {ops : Array Oper} {Q : Exit → Act → World → Prop} {S : World → Prop} {fuel : Nat} {listed : Array Bool} {a a' : Act} {w : World} (i d : Nat) {oi : Oper} {v : Value}
    (h : wpAnyH P md ops Q S fuel (listed.setIfInBounds i true) a' w)
    (hi : ops.toList[i]? = some oi := by rfl) (hd : oi.dst = some d := by rfl)
    (hy : ∀ w, S w → (execOp a.eval oi).run P w = .ok (.value v) w := by intro w hSw; (try dsimp only at hSw); go_simp <;> with_reducible rfl)
    (hp : a.put (some d) v = a' := by (try simp only [Act.put, pu]); exact rfl)
    (hs : Region.noSelect ops = true := by kernel_rfl) (hf : Region.free md ops listed i = true := by kernel_rfl) (hr : (Region.ready md ops listed).contains i = true := by kernel_rfl)
    (hQ : ∀ c a w, Q (.panic c) (a.put (some d) v) w → Q (.panic c) a w := by exact fun _ _ _ h => h) (hw : Region.wanted oi (yielded ops a.tmps) = true := by rfl) (hS : S w := by first | assumption | trivial) : wpAnyH P md ops Q S (fuel + 1) listed a w :=
  tk i d hi hd (by rw [hp]; exact h) hy hs hf hr hQ hw hS
theorem stn {P : Program} {md : Region.Mode} {ops : Array Oper} {Q : Exit → Act → World → Prop} {S : World → Prop} {fuel : Nat} {listed : Array Bool} {a a' : Act} {w : World} (i d : Nat) {oi : Oper}
    (h : wpAnyH P md ops Q S fuel (listed.setIfInBounds i true) a' w)
    (hi : ops.toList[i]? = some oi := by rfl) (hd : oi.dst = some d := by rfl)
    (hp : a.put (some d) undef = a' := by (try simp only [Act.put, pu]); exact rfl)
    (hs : Region.noSelect ops = true := by kernel_rfl) (hf : Region.free md ops listed i = true := by kernel_rfl) (hr : (Region.ready md ops listed).contains i = true := by kernel_rfl)
    (hQ : ∀ c a w, Q (.panic c) (a.put (some d) undef) w → Q (.panic c) a w := by exact fun _ _ _ h => h) (hw : Region.wanted oi (yielded ops a.tmps) = false := by rfl) (hS : S w := by assumption) : wpAnyH P md ops Q S (fuel + 1) listed a w :=
  tn i d hi hd (by rw [hp]; exact h) hs hf hr hQ hw hS
section
variable {P : Program} {ops : Array Oper} {Q : Exit → Act → World → Prop} {md : Region.Mode} {S : World → Prop} {st : Nat}
theorem utk {fuel : Nat} {listed : Array Bool} {a a' : Act} {w : World} (i d : Nat) {oi : Oper} {v : Value}
    (h : wpTill P md ops Q S st fuel (listed.setIfInBounds i true) a' w)
    (hi : ops.toList[i]? = some oi := by rfl) (hd : oi.dst = some d := by rfl)
    (hy : ∀ w, S w → (execOp a.eval oi).run P w = .ok (.value v) w := by intro w hSw; (try dsimp only at hSw); go_simp <;> with_reducible rfl)
    (hp : a.put (some d) v = a' := by (try simp only [Act.put, pu]); exact rfl)
    (hs : Region.noSelect ops = true := by kernel_rfl) (hf : Region.free md ops listed i = true := by kernel_rfl) (hr : (Region.ready md ops listed).contains i = true := by kernel_rfl)
    (hwt : waits md ops st i = true := by kernel_rfl) (hsi : (st == i) = false := by kernel_rfl) (hls : listed.getD st true = false := by kernel_rfl)
    (hQ : ∀ c a w, Q (.panic c) (a.put (some d) v) w → Q (.panic c) a w := by exact fun _ _ _ h => h) (hw : Region.wanted oi (yielded ops a.tmps) = true := by rfl) (hS : S w := by first | assumption | ((try dsimp only); and_intros <;> assumption)) : wpTill P md ops Q S st (fuel + 1) listed a w :=
  uk i d hi hd (by rw [hp]; exact h) hy hs hf hr hwt hsi hls hQ hw hS
theorem utf {fuel : Nat} {listed : Array Bool} {a a' : Act} {w : World} (i d : Nat) {oi : Oper} {v : Value}
    (h : wpTill P md ops Q S st fuel (listed.setIfInBounds i true) a' w)
    (hi : ops.toList[i]? = some oi := by rfl) (hd : oi.dst = some d := by rfl)
    (hy : ∀ w, (execOp a.eval oi).run P w = .ok (.value v) w := by intro w; go_simp <;> with_reducible rfl)
    (hp : a.put (some d) v = a' := by (try simp only [Act.put, pu]); exact rfl)
    (hs : Region.noSelect ops = true := by kernel_rfl) (hf : Region.free md ops listed i = true := by kernel_rfl) (hr : (Region.ready md ops listed).contains i = true := by kernel_rfl)
    (hsi : (st == i) = false := by kernel_rfl)
    (hQ : ∀ c a w, Q (.panic c) (a.put (some d) v) w → Q (.panic c) a w := by exact fun _ _ _ h => h) (hw : Region.wanted oi (yielded ops a.tmps) = true := by rfl)
    (hS : listed.getD st true = false → S w := by first | exact till_over (by kernel_rfl) | (intro _; first | assumption | ((try dsimp only); and_intros <;> assumption))) : wpTill P md ops Q S st (fuel + 1) listed a w :=
  uf i d hi hd (by rw [hp]; exact h) hy hs hf hr hsi hQ hw hS
end
end Go.Proofs.YtehkcodbcnhhoaaGreat
namespace Go.Proofs.YtehkcodbcnhhoaaGreat
open Go.RowKit
set_option linter.all false

theorem block_add (a : Addr) (n : Nat) : (a.add n).block = a.block := by unfold Addr.add; split <;> rfl
def intV (x : Int) : Value := .int .i64 x
def I64 (x : Int) : Prop := -9223372036854775808 ≤ x ∧ x ≤ 9223372036854775807

def SlR (w : World) (B : Nat) (v : Value) (vs : List Value) : Prop :=
  ∃ A c, v = .slice A vs.length c ∧ vs.length ≤ c ∧ c ≤ maxLen ∧ (0 < vs.length → ∃ ad, A = some ad ∧ ad.block < B ∧ ∀ j u, vs[j]? = some u → w.cell? (ad.add j) = some u)
section
variable {w w' : World} {B B' : Nat} {v : Value} {vs : List Value}
theorem SlR.keep (h : SlR w B v vs) (hk : ∀ p : Addr, p.block < B → w'.cell? p = w.cell? p) : SlR w' B v vs := by
  obtain ⟨A, c, e, h1, h2, h3⟩ := h
  refine ⟨A, c, e, h1, h2, fun hn => ?_⟩
  obtain ⟨ad, e', hb, hc⟩ := h3 hn
  exact ⟨ad, e', hb, fun j u hu => (hk _ (by rw [block_add]; exact hb)).trans (hc j u hu)⟩
theorem SlR.below (h : SlR w B v vs) (hb : Below B w w') : SlR w' B v vs := h.keep fun _ hp => hb.cell hp
theorem SlR.more (h : SlR w B v vs) (hB : B ≤ B') : SlR w B' v vs := by
  obtain ⟨A, c, e, h1, h2, h3⟩ := h
  refine ⟨A, c, e, h1, h2, fun hn => ?_⟩
  obtain ⟨ad, e', hb, hc⟩ := h3 hn
  exact ⟨ad, e', by omega, hc⟩
theorem SlR.len_le (h : SlR w B v vs) : vs.length ≤ maxLen := by
  obtain ⟨A, c, e, h1, h2, h3⟩ := h; omega
end

def IntsR (w : World) (B : Nat) (v : Value) (xs : List Int) : Prop := SlR w B v (xs.map intV) ∧ ∀ x ∈ xs, I64 x
theorem IntsR.below {w w' : World} {B : Nat} {v : Value} {xs : List Int} (h : IntsR w B v xs) (hb : Below B w w') : IntsR w' B v xs := ⟨h.1.below hb, h.2⟩
theorem IntsR.more {w : World} {B B' : Nat} {v : Value} {xs : List Int} (h : IntsR w B v xs) (hB : B ≤ B') : IntsR w B' v xs := ⟨h.1.more hB, h.2⟩
theorem IntsR.open_ {w : World} {B : Nat} {v : Value} {xs : List Int} (h : IntsR w B v xs) :
    ∃ A c, v = .slice A xs.length c ∧ xs.length ≤ c ∧ c ≤ maxLen ∧ (0 < xs.length → ∃ ad, A = some ad ∧ ad.block < B ∧ ∀ j x, xs[j]? = some x → w.cell? (ad.add j) = some (.int .i64 x)) := by
  obtain ⟨A, c, e, h1, h2, h3⟩ := h.1
  rw [List.length_map] at e h1 h3
  refine ⟨A, c, e, h1, h2, fun hn => ?_⟩
  obtain ⟨ad, e', hb, hc⟩ := h3 hn
  exact ⟨ad, e', hb, fun j x hx => hc j _ (by rw [List.getElem?_map, hx]; rfl)⟩

def AllR (w : World) (B : Nat) : List Value → List (List Int) → Prop
  | [], [] => True
  | v :: vs, xs :: xss => IntsR w B v xs ∧ AllR w B vs xss
  | _, _ => False
theorem AllR.mono {w w' : World} {B B' : Nat} (h : ∀ v xs, IntsR w B v xs → IntsR w' B' v xs) : ∀ {vs : List Value} {xss : List (List Int)}, AllR w B vs xss → AllR w' B' vs xss
  | [], [], _ => trivial
  | _ :: _, _ :: _, ⟨a, b⟩ => ⟨h _ _ a, AllR.mono h b⟩
  | [], _ :: _, k => k.elim
  | _ :: _, [], k => k.elim
theorem AllR.len {w : World} {B : Nat} : ∀ {vs : List Value} {xss : List (List Int)}, AllR w B vs xss → vs.length = xss.length
  | [], [], _ => rfl
  | _ :: _, _ :: _, ⟨_, b⟩ => by simp [AllR.len b]
  | [], _ :: _, k => k.elim
  | _ :: _, [], k => k.elim
theorem AllR.at_ {w : World} {B : Nat} : ∀ {vs : List Value} {xss : List (List Int)} (_ : AllR w B vs xss) {k : Nat} {v : Value} {xs : List Int}, vs[k]? = some v → xss[k]? = some xs → IntsR w B v xs
  | _ :: _, _ :: _, ⟨a, _⟩, 0, _, _, h1, h2 => by
    simp only [List.getElem?_cons_zero, Option.some.injEq] at h1 h2
    subst h1 h2
    exact a
  | _ :: _, _ :: _, ⟨_, b⟩, _ + 1, _, _, h1, h2 => b.at_ (by simpa using h1) (by simpa using h2)
  | [], [], _, _, _, _, h1, _ => by simp at h1
  | [], _ :: _, k, _, _, _, _, _ => k.elim
  | _ :: _, [], k, _, _, _, _, _ => k.elim

def RowsR (w : World) (B : Nat) (v : Value) (xss : List (List Int)) : Prop := ∃ vs, SlR w B v vs ∧ AllR w B vs xss
section
variable {w w' : World} {B B' : Nat} {v : Value} {xss : List (List Int)}
theorem RowsR.below (h : RowsR w B v xss) (hb : Below B w w') : RowsR w' B v xss := by
  obtain ⟨vs, h1, h2⟩ := h
  exact ⟨vs, h1.below hb, h2.mono fun _ _ k => k.below hb⟩
theorem RowsR.more (h : RowsR w B v xss) (hB : B ≤ B') : RowsR w B' v xss := by
  obtain ⟨vs, h1, h2⟩ := h
  exact ⟨vs, h1.more hB, h2.mono fun _ _ k => k.more hB⟩
theorem RowsR.open_ (h : RowsR w B v xss) :
    ∃ A c, v = .slice A xss.length c ∧ xss.length ≤ c ∧ c ≤ maxLen ∧ (0 < xss.length → ∃ ad, A = some ad ∧ ad.block < B ∧ ∀ j xs, xss[j]? = some xs → ∃ u, w.cell? (ad.add j) = some u ∧ IntsR w B u xs) := by
  obtain ⟨vs, ⟨A, c, e, h1, h2, h3⟩, hall⟩ := h
  have hl := hall.len
  rw [hl] at e h1 h3
  refine ⟨A, c, e, h1, h2, fun hn => ?_⟩
  obtain ⟨ad, e', hb, hc⟩ := h3 hn
  refine ⟨ad, e', hb, fun j xs hx => ?_⟩
  have hj : j < vs.length := by
    have := (List.getElem?_eq_some_iff.1 hx).1
    omega
  exact ⟨vs[j], hc j _ (List.getElem?_eq_getElem hj), hall.at_ (List.getElem?_eq_getElem hj) hx⟩
end

/-! ### What the call itself has made -/
def OwnRow (w : World) (e : TypeId) (v : Value) (vs : List Value) (bs : List Nat) : Prop :=
  (vs = [] ∧ bs = [] ∧ ∃ A c, v = .slice A 0 c ∧ c ≤ maxLen) ∨
  ∃ g c cur, v = .slice (some ⟨g, 0, none⟩) vs.length c ∧ vs.length ≤ c ∧ c ≤ maxLen ∧ w.heap[g]? = some (.cells cur e (0, 0)) ∧ cur.size = c ∧ cur.toList.take vs.length = vs ∧ bs = [g]
section
variable {w w' : World} {e : TypeId} {v : Value} {vs : List Value} {bs : List Nat}
theorem OwnRow.keep (h : OwnRow w e v vs bs) (hk : ∀ b ∈ bs, w'.heap[b]? = w.heap[b]?) : OwnRow w' e v vs bs := by
  rcases h with h | ⟨g, c, cur, h1, h2, h3, h4, h5, h6, h7⟩
  · exact .inl h
  · exact .inr ⟨g, c, cur, h1, h2, h3, (hk g (by rw [h7]; simp)).trans h4, h5, h6, h7⟩
theorem OwnRow.reads (h : OwnRow w e v vs bs) {B : Nat} (hB : ∀ b ∈ bs, b < B) : SlR w B v vs := by
  rcases h with ⟨rfl, rfl, A, c, rfl, hc⟩ | ⟨g, c, cur, h1, h2, h3, h4, h5, h6, h7⟩
  · exact ⟨A, c, rfl, Nat.zero_le _, hc, fun hn => absurd hn (by simp)⟩
  · refine ⟨some ⟨g, 0, none⟩, c, h1, h2, h3, fun hn => ⟨_, rfl, hB g (by rw [h7]; simp), fun j u hu => ?_⟩⟩
    have hj : j < vs.length := (List.getElem?_eq_some_iff.1 hu).1
    have e1 : (⟨g, 0, none⟩ : Addr).add j = ⟨g, j, none⟩ := by unfold Addr.add; split <;> simp_all
    rw [e1, cell_of_row w g j cur e (0, 0) h4, ← Array.getElem?_toList]
    have : cur.toList[j]? = (cur.toList.take vs.length)[j]? := by rw [List.getElem?_take, if_pos hj]
    rw [this, h6, hu]
theorem OwnRow.lt (h : OwnRow w e v vs bs) : ∀ b ∈ bs, b < w.heap.size := by
  rcases h with ⟨_, rfl, _⟩ | ⟨g, c, cur, _, _, _, h4, _, _, h7⟩
  · intro b hb; cases hb
  · intro b hb
    rw [h7] at hb
    obtain rfl : b = g := by simpa using hb
    rcases Nat.lt_or_ge b w.heap.size with h | h
    · exact h
    · rw [Array.getElem?_eq_none h] at h4; cases h4
theorem OwnRow.of_owns {base n : Nat} (h : w.ownsRow base e 1 v n vs) : ∃ bs, OwnRow w e v vs bs ∧ (∀ b ∈ bs, base ≤ b) ∧ bs.Nodup := by
  have hl : vs.length = n := by have := h.1; omega
  rcases h.2 with ⟨rfl, hn⟩ | ⟨g, cap, cur, h1, h2, h3, h4, h5, h6, h7⟩
  · have : vs = [] := List.eq_nil_of_length_eq_zero (by omega)
    exact ⟨[], .inl ⟨this, rfl, none, 0, rfl, Nat.zero_le _⟩, (fun _ hb => by cases hb), List.nodup_nil⟩
  · refine ⟨[g], .inr ⟨g, cap, cur, by rw [hl]; exact h1, by omega, h5, h3, by omega, ?_, rfl⟩, fun b hb => by simp at hb; omega, by simp⟩
    rw [hl]
    simpa using h7
end
theorem OwnRow.isSlice {w : World} {e : TypeId} {v : Value} {vs : List Value} {bs : List Nat} (h : OwnRow w e v vs bs) : ∃ A n c, v = .slice A n c := by
  rcases h with ⟨_, _, A, c, rfl, _⟩ | ⟨g, c, cur, rfl, _⟩
  · exact ⟨_, _, _, rfl⟩
  · exact ⟨_, _, _, rfl⟩
def OwnInts (w : World) (e : TypeId) (v : Value) (xs : List Int) (bs : List Nat) : Prop := OwnRow w e v (xs.map intV) bs ∧ ∀ x ∈ xs, I64 x
theorem OwnInts.keep {w w' : World} {e : TypeId} {v : Value} {xs : List Int} {bs : List Nat} (h : OwnInts w e v xs bs) (hk : ∀ b ∈ bs, w'.heap[b]? = w.heap[b]?) : OwnInts w' e v xs bs := ⟨h.1.keep hk, h.2⟩
theorem OwnInts.reads {w : World} {e : TypeId} {v : Value} {xs : List Int} {bs : List Nat} (h : OwnInts w e v xs bs) {B : Nat} (hB : ∀ b ∈ bs, b < B) : IntsR w B v xs := ⟨h.1.reads hB, h.2⟩
def OwnAll (w : World) (e : TypeId) : List Value → List (List Int) → List Nat → Prop
  | [], [], bs => bs = []
  | v :: vs, xs :: xss, bs => ∃ b1 b2, OwnInts w e v xs b1 ∧ OwnAll w e vs xss b2 ∧ bs = b1 ++ b2
  | _, _, _ => False
theorem OwnAll.keep {w w' : World} {e : TypeId} : ∀ {vs : List Value} {xss : List (List Int)} {bs : List Nat}, OwnAll w e vs xss bs → (∀ b ∈ bs, w'.heap[b]? = w.heap[b]?) → OwnAll w' e vs xss bs
  | [], [], _, h, _ => h
  | _ :: _, _ :: _, _, ⟨b1, b2, h1, h2, rfl⟩, hk => ⟨b1, b2, h1.keep fun b hb => hk b (by simp [hb]), h2.keep fun b hb => hk b (by simp [hb]), rfl⟩
  | [], _ :: _, _, h, _ => h.elim
  | _ :: _, [], _, h, _ => h.elim
theorem OwnAll.snoc {w : World} {e : TypeId} {v : Value} {xs : List Int} {b : List Nat} (hv : OwnInts w e v xs b) : ∀ {vs : List Value} {xss : List (List Int)} {bs : List Nat}, OwnAll w e vs xss bs → OwnAll w e (vs ++ [v]) (xss ++ [xs]) (bs ++ b)
  | [], [], _, h => by
    have : _ = [] := h
    subst this
    exact ⟨b, [], hv, rfl, by simp⟩
  | _ :: _, _ :: _, _, ⟨b1, b2, h1, h2, rfl⟩ => ⟨b1, b2 ++ b, h1, h2.snoc hv, by simp⟩
  | [], _ :: _, _, h => h.elim
  | _ :: _, [], _, h => h.elim
theorem OwnAll.reads {w : World} {e : TypeId} {B : Nat} : ∀ {vs : List Value} {xss : List (List Int)} {bs : List Nat}, OwnAll w e vs xss bs → (∀ b ∈ bs, b < B) → AllR w B vs xss
  | [], [], _, _, _ => trivial
  | _ :: _, _ :: _, _, ⟨b1, b2, h1, h2, rfl⟩, hB => ⟨h1.reads fun b hb => hB b (by simp [hb]), h2.reads fun b hb => hB b (by simp [hb])⟩
  | [], _ :: _, _, h, _ => h.elim
  | _ :: _, [], _, h, _ => h.elim
def OwnRows (w : World) (es ei : TypeId) (v : Value) (xss : List (List Int)) (bs : List Nat) : Prop := ∃ vs b0 b1, OwnRow w es v vs b0 ∧ OwnAll w ei vs xss b1 ∧ bs = b0 ++ b1
theorem OwnRows.keep {w w' : World} {es ei : TypeId} {v : Value} {xss : List (List Int)} {bs : List Nat} (h : OwnRows w es ei v xss bs) (hk : ∀ b ∈ bs, w'.heap[b]? = w.heap[b]?) : OwnRows w' es ei v xss bs := by
  obtain ⟨vs, b0, b1, h1, h2, rfl⟩ := h
  exact ⟨vs, b0, b1, h1.keep fun b hb => hk b (by simp [hb]), h2.keep fun b hb => hk b (by simp [hb]), rfl⟩
theorem OwnRows.isSlice {w : World} {es ei : TypeId} {v : Value} {xss : List (List Int)} {bs : List Nat} (h : OwnRows w es ei v xss bs) : ∃ A n c, v = .slice A n c := by
  obtain ⟨_, _, _, h1, _⟩ := h
  exact h1.isSlice
theorem OwnRows.reads {w : World} {es ei : TypeId} {v : Value} {xss : List (List Int)} {bs : List Nat} (h : OwnRows w es ei v xss bs) {B : Nat} (hB : ∀ b ∈ bs, b < B) : RowsR w B v xss := by
  obtain ⟨vs, b0, b1, h1, h2, rfl⟩ := h
  exact ⟨vs, h1.reads fun b hb => hB b (by simp [hb]), h2.reads fun b hb => hB b (by simp [hb])⟩

theorem heap_set_same {w : World} {g i : Nat} {cs : Array Value} {t : TypeId} {m : Nat × Nat} (h : w.heap[g]? = some (.cells cs t m)) (u : Value) : (w.setCell ⟨g, i, none⟩ u).heap[g]? = some (.cells (cs.setIfInBounds i u) t m) := by
  simp [World.setCell, Array.getElem?_modify, h]
theorem size_setCell (w : World) (p : Addr) (u : Value) : (w.setCell p u).heap.size = w.heap.size := by simp [World.setCell]
/-! ### Rows that are made and filled -/
def rowOf (done : List Value) (n : Nat) (z : Value) : Array Value := (done ++ List.replicate (n - done.length) z).toArray
theorem rowOf_nil (n : Nat) (z : Value) : rowOf [] n z = madeCells #[z] n := by
  apply Array.ext
  · simp [rowOf, madeCells]
  · intro i h1 h2
    simp [rowOf, madeCells, Nat.mod_one]
theorem rowOf_next {done : List Value} {n : Nat} {z : Value} (h : done.length < n) : (rowOf done n z)[done.length]? = some z := by
  unfold rowOf
  rw [List.getElem?_toArray, List.getElem?_append_right (Nat.le_refl _), Nat.sub_self, List.getElem?_replicate, if_pos (by omega)]
theorem rowOf_set {done : List Value} {n : Nat} {z : Value} (h : done.length < n) (x : Value) : (rowOf done n z).setIfInBounds done.length x = rowOf (done ++ [x]) n z := by
  unfold rowOf
  obtain ⟨m, hm⟩ : ∃ m, n - done.length = m + 1 := ⟨n - done.length - 1, by omega⟩
  rw [hm, show n - (done ++ [x]).length = m by simp; omega, List.replicate_succ, List.setIfInBounds_toArray]
  simp
theorem rowOf_full (done : List Value) (z : Value) : rowOf done done.length z = done.toArray := by simp [rowOf]
theorem run_make1 {P : Program} (t e : TypeId) (z : Value) (bytes : Nat) (ht : P.underlying t = some (.slice e)) (hinf : (P.info? e).map (fun i => (i.zero, i.size, i.bytes)) = some (some z, 1, bytes)) (hz : z.cells = #[z]) (n : Nat)
    (hb : bytes * n ≤ 281474976710656) (h63 : n ≤ 9223372036854775807) (w : World) :
    (Instr.makeSlice t (.int .i64 (n : Int)) (.int .i64 (n : Int))).run P w = .ok (.slice (some ⟨w.heap.size, 0, none⟩) n n) (w.alloc (.cells (rowOf [] n z) e)) := by
  obtain ⟨i, hi, hz0, hz1, hz2⟩ := info_parts hinf
  have hb' : (i.bytes : Int) * (n : Int) ≤ 281474976710656 := by
    rw [hz2]
    have h : ((bytes * n : Nat) : Int) ≤ 281474976710656 := by omega
    rwa [Int.natCast_mul] at h
  have hr := run_make (P := P) w t e i z ht hi hz0 .i64 .i64 n n (by omega) (by omega) hb' (by omega)
  simp only [Int.toNat_natCast] at hr
  rw [hr, rowOf_nil, hz, hz1, Nat.mul_one]
end Go.Proofs.YtehkcodbcnhhoaaGreat
namespace Go.Proofs.YtehkcodbcnhhoaaGreat
open Go.ChangeShapes Go.WideShapes Go.ChangeAt Go.RowKit
set_option linter.all false
theorem spec_l1In (n lo hi : Int) (w : World) :
    Calls Tryz.prog 22 #[.int .i64 n, .int .i64 lo, .int .i64 hi] w fun e w' => e = .returned (.bool (inB n lo hi)) ∧ w = w' := by
  by_cases h1 : lo ≤ n
  · by_cases h2 : n ≤ hi
    · go_enter Tryz.func22, Tryz.ntmps22
      go_wp2
      go_ret
      exact ⟨ret_bool (by first | rw [inB_t (by omega)] | rw [inB_f (by omega)]), rfl⟩
    · go_enter Tryz.func22, Tryz.ntmps22
      go_wp2
      go_ret
      exact ⟨ret_bool (by rw [inB_f (by omega)]), rfl⟩
  · go_enter Tryz.func22, Tryz.ntmps22
    go_wp2
    go_ret
    exact ⟨ret_bool (by rw [inB_f (by omega)]), rfl⟩
theorem impl_within (n lo hi : Int) (w : World) :
    Calls Tryz.prog 31 #[.int .i64 n, .int .i64 lo, .int .i64 hi] w fun e w' => e = .returned (.bool (inB n lo hi)) ∧ w = w' := by
  by_cases h1 : lo ≤ n
  · by_cases h2 : n ≤ hi
    · go_enter Tryz.func31, Tryz.ntmps31
      go_wp2
      go_ret
      exact ⟨ret_bool (by first | rw [inB_t (by omega)] | rw [inB_f (by omega)]), rfl⟩
    · go_enter Tryz.func31, Tryz.ntmps31
      go_wp2
      go_ret
      exact ⟨ret_bool (by first | rw [inB_t (by omega)] | rw [inB_f (by omega)]), rfl⟩
  · go_enter Tryz.func31, Tryz.ntmps31
    go_wp2
    go_ret
    exact ⟨ret_bool (by rw [inB_f (by omega)]), rfl⟩
end Go.Proofs.YtehkcodbcnhhoaaGreat
namespace Go.Proofs.YtehkcodbcnhhoaaGreat
open Go.RowKit
set_option linter.all false

def allB (xs : List Int) (lo hi : Int) : Bool := xs.all fun x => inB x lo hi
theorem allB_t {xs : List Int} {lo hi : Int} (h : ∀ x ∈ xs, inB x lo hi = true) : allB xs lo hi = true := by unfold allB; exact List.all_eq_true.2 h
theorem allB_f {xs : List Int} {lo hi : Int} {k : Nat} {x : Int} (h : xs[k]? = some x) (hx : inB x lo hi = false) : allB xs lo hi = false := by
  unfold allB
  rw [List.all_eq_false]
  exact ⟨x, List.mem_of_getElem? h, by simp [hx]⟩
theorem allB_iff {xs : List Int} {lo hi : Int} : allB xs lo hi = true ↔ ∀ x ∈ xs, lo ≤ x ∧ x ≤ hi := by
  unfold allB inB
  simp
def UptoB (p : Int → Bool) (xs : List Int) (k : Nat) : Prop := ∀ j x, j < k → xs[j]? = some x → p x = true
theorem UptoB.next {p : Int → Bool} {xs : List Int} {k : Nat} {x : Int} (h : UptoB p xs k) (hx : xs[k]? = some x) (hp : p x = true) : UptoB p xs (k + 1) := by
  intro j y hj hy
  by_cases e : j = k
  · subst e; rw [hx] at hy; cases hy; exact hp
  · exact h j y (by omega) hy
theorem UptoB.all {p : Int → Bool} {xs : List Int} {k : Nat} (h : UptoB p xs k) (hk : xs.length ≤ k) : ∀ x ∈ xs, p x = true := by
  intro x hx
  obtain ⟨j, hj⟩ := List.mem_iff_getElem?.1 hx
  exact h j x (by have := (List.getElem?_eq_some_iff.1 hj).1; omega) hj

def AllRel (p : Int → Bool) (xs : List Int) (w : World) (i : Value) (wr : World) : Prop := w = wr ∧ ∃ k : Nat, k ≤ xs.length ∧ i = .int .i64 k ∧ UptoB p xs k
theorem spec_l1All (v : Value) (xs : List Int) (lo hi : Int) (w : World) (h : IntsR w w.heap.size v xs) :
    Calls Tryz.prog 71 #[v, .int .i64 lo, .int .i64 hi] w fun e w' => e = .returned (.bool (allB xs lo hi)) ∧ w = w' := by
  obtain ⟨A, c, rfl, h1, h2, h3⟩ := h.open_
  unfold maxLen at h2
  clear h
  go_enter Tryz.func71, Tryz.ntmps71
  go_wp2_with fail
  go_loopw [11, 8] (fun i x wr => AllRel (fun x => inB x lo hi) xs w i wr) (fun i _ _ => xs.length - (intOf i).toNat)
  case atStart => exact ⟨rfl, 0, Nat.zero_le _, rfl, fun _ _ h => absurd h (by omega)⟩
  case round =>
    obtain ⟨rfl, k, hk, rfl, hup⟩ := hrel
    have HU := Lib.hid hup; clear hup
    by_cases hlt : k < xs.length
    · obtain ⟨x, hx⟩ : ∃ x, xs[k]? = some x := ⟨xs[k], List.getElem?_eq_getElem hlt⟩
      obtain ⟨ad, rfl, hb, hc⟩ := h3 (by omega)
      have hcell := hc k x hx
      have HX := Lib.hid hx
      clear h3 hc hx
      cases hp : inB x lo hi with
      | true =>
        go_wp2_with (go_at_call 22; refine (spec_l1In _ _ _ _).mono ?_; rintro e w' ⟨rfl, rfl⟩)
        go_roundw
        case rel => exact ⟨rfl, k + 1, by omega, by go_num, HU.out.next HX.out hp⟩
        case measure => simp [intOf]; omega
      | false =>
        go_wp2_with (go_at_call 22; refine (spec_l1In _ _ _ _).mono ?_; rintro e w' ⟨rfl, rfl⟩)
        go_ret
        exact ⟨ret_bool (allB_f HX.out hp).symm, rfl⟩
    · go_wp2
      go_ret
      exact ⟨ret_bool (allB_t (HU.out.all (by omega))).symm, rfl⟩

end Go.Proofs.YtehkcodbcnhhoaaGreat
namespace Go.Proofs.YtehkcodbcnhhoaaGreat
open Go.RowKit
set_option linter.all false

theorem wpList_append1 {P : Program} (w : World) {ops : Array Oper} {rest : List Oper} {o : Oper} {a : Act} {Q : Exit → Act → World → Prop} (hgd : o.guard = none) (s x : Operand) (t : TypeId)
  (ho : o.op = .call { callee := .builtin .append, args := #[s, x], argTypes := #[t, t] })
  (base : Nat) (e : TypeId) (z : Value) (bytes : Nat) (ht : P.underlying t = some (.slice e)) (hinf : (P.info? e).map (fun i => (i.zero, i.size, i.bytes)) = some (some z, 1, bytes)) (hzs : z.cells.size = 1)
  (v : Value) (n : Nat) (xs : List Value) (hs : a.eval s = v) (u : Value) (hu : u.oneCell' = true) (hx : a.eval x = .slice (some ⟨w.heap.size, 0, none⟩) 1 1)
  (hown : w.ownsRow base e 1 v n xs) (h63 : n + 1 ≤ maxLen) (hbytes : (n + 1) * bytes ≤ 140737488355328) (hbase : base ≤ w.heap.size)
  (h : ∀ v' w', w'.ownsRow base e 1 v' (n + 1) (xs ++ [u]) → Below base w w' → w.grownBy w' v.ownBlock → w.heap.size < w'.heap.size → (v'.ownBlock = v.ownBlock ∨ ∃ g, v'.ownBlock = some g ∧ w.heap.size ≤ g ∧ g < w'.heap.size) → wpList P ops Q rest (a.put o.dst v') w') :
  wpList P ops Q (o :: rest) a (w.alloc (.cells #[u] e)) := by
 obtain ⟨i, hi, hz0, hz1, hz2⟩ := info_parts hinf
 have hown1 := hown.alloc (.cells #[u] e)
 have hcell : (w.alloc (.cells #[u] e)).cell? ⟨w.heap.size, 0, none⟩ = some u := by rw [World.cell?_alloc_at _ _ _ _ rfl]; rfl
 have hnews : ∀ j u', ([u] : List Value)[j]? = some u' → (w.alloc (.cells #[u] e)).cell? ((⟨w.heap.size, 0, none⟩ : Addr).add j) = some u' := by
  intro j u' hj
  match j, hj with
  | 0, hj =>
   have : u = u' := by simpa using hj
   subst this
   exact hcell
 obtain ⟨v', w', hrun, h2, h3, _, h5⟩ := run_append_own_at (P := P) (w.alloc (.cells #[u] e)) base t o.type e i z 1 bytes ht hi hz0 hz1 hz2 hzs (by decide) v n xs hown1 ⟨w.heap.size, 0, none⟩ 1 1 [u] rfl hnews
  (by intro u' hu'; obtain rfl : u' = u := (by simpa using hu'); exact hu) h63 hbytes (by simp; omega)
 have hg : w.grownBy w' v.ownBlock := by
  have h0 := World.grownBy_alloc w (.cells #[u] e) v.ownBlock
  exact ⟨h3.os.trans h0.os, h3.tape.trans h0.tape, h3.output.trans h0.output, Nat.le_trans h0.size h3.size, fun k hk hne => (h3.block k (Nat.lt_of_lt_of_le hk h0.size) hne).trans (h0.block k hk hne)⟩
 have hsz : w.heap.size < w'.heap.size := by have := h3.size; simp at this; omega
 have hB : Below base w w' := (Below.refl base w).grown hg hbase (fun k hk => (hown.lt k hk).1)
 refine wpList_plain hgd fun K hK => ?_
 unfold Oper.wp execOp
 simp only [ho, resolve, invoke, builtin, Sem.run_bind, Sem.run_pure, Result.andThen_ok, List.map_toArray, List.map_cons, List.map_nil, hs, hx, hrun]
 refine hK _ _ (h v' w' h2 hB hg hsz ?_)
 rcases h5 with h5 | h5
 ·
  exact .inl h5
 ·
  refine .inr ⟨_, h5, by simp, ?_⟩
  exact (h2.lt _ h5).2
end Go.Proofs.YtehkcodbcnhhoaaGreat
namespace Go.Proofs.YtehkcodbcnhhoaaGreat
open Go.RowKit
set_option linter.all false

theorem sz_IntS (A : Option Addr) (n c : Nat) (left : Int) (w : World) (hn : n ≤ maxLen) (hl : 0 ≤ left) (hl' : left ≤ 1048576) :
    Calls Tryz.prog 19 #[.slice A n c, .int .i64 left] w fun e w' => e = .returned (.int .i64 (szR left n)) ∧ w = w' := by
  unfold maxLen at hn
  go_enter Tryz.func19, Tryz.ntmps19
  go_wp2
  all_goals
    go_ret
    exact ⟨ret_int (by unfold szR; split <;> omega), rfl⟩

def lens : List (List Int) → Nat
  | [] => 0
  | xs :: r => xs.length + lens r
def szRows (xss : List (List Int)) : Nat := xss.length + lens xss
theorem lens_append : ∀ (a b : List (List Int)), lens (a ++ b) = lens a + lens b
  | [], b => by simp [lens]
  | x :: a, b => by simp [lens, lens_append a b]; omega
theorem lens_snoc (xss : List (List Int)) (k : Nat) (xs : List Int) (h : xss[k]? = some xs) : lens (xss.take (k + 1)) = lens (xss.take k) + xs.length := by
  obtain ⟨hk, rfl⟩ := List.getElem?_eq_some_iff.1 h
  rw [List.take_succ_eq_append_getElem hk, lens_append]
  rfl
theorem lens_split (xss : List (List Int)) (k : Nat) : lens xss = lens (xss.take k) + lens (xss.drop k) := by
  rw [← lens_append, List.take_append_drop]
theorem lens_all (xss : List (List Int)) (k : Nat) (h : xss.length ≤ k) : lens (xss.take k) = lens xss := by rw [List.take_of_length_le h]
def SzRel (xss : List (List Int)) (left : Int) (w : World) (l i : Value) (wr : World) : Prop :=
  w = wr ∧ ∃ (k q : Nat), k ≤ xss.length ∧ q = lens (xss.take k) ∧ i = .int .i64 k ∧ l = .int .i64 (left - xss.length - q) ∧ (q : Int) ≤ left - xss.length
theorem sz_IntSS (v : Value) (xss : List (List Int)) (left : Int) (w : World) (h : RowsR w w.heap.size v xss) (hl : 0 ≤ left) (hl' : left ≤ 1048576) :
  Calls Tryz.prog 17 #[v, .int .i64 left] w fun e w' => e = .returned (.int .i64 (szR left (szRows xss))) ∧ w = w' := by
 obtain ⟨A, c, rfl, h1, h2, h3⟩ := h.open_
 have hL : xss.length ≤ 9223372036854775807 := by unfold maxLen at h2; omega
 clear h2 h
 by_cases hs : (xss.length : Int) ≤ left
 ·
  go_enter Tryz.func17, Tryz.ntmps17
  go_wp2
  go_loopw [1, 5] (fun l i wr => SzRel xss left w l i wr) (fun _ i _ => xss.length - (intOf i).toNat)
  case atStart => exact ⟨rfl, 0, 0, Nat.zero_le _, rfl, rfl, by simp, by omega⟩
  case round =>
   obtain ⟨rfl, k, q, hk, hq, rfl, rfl, hle⟩ := hrel
   have HQ := Lib.hid hq; clear hq
   by_cases hlt : k < xss.length
   ·
    obtain ⟨xs, hxs⟩ : ∃ xs, xss[k]? = some xs := ⟨xss[k], List.getElem?_eq_getElem hlt⟩
    obtain ⟨ad, rfl, hb, hc⟩ := h3 (by omega)
    obtain ⟨u, hu, hr⟩ := hc k xs hxs
    obtain ⟨A', c', rfl, g1, g2, -⟩ := hr.open_
    have HS := Lib.hid (lens_snoc xss k xs hxs)
    have HT := Lib.hid (lens_split xss (k + 1))
    clear h3 hc hr hxs
    by_cases hx : (xs.length : Int) ≤ left - xss.length - q
    ·
     have h5 : szR (left - xss.length - q) xs.length = left - xss.length - q - xs.length := by unfold szR; rw [if_pos hx]
     go_wp2_with (go_at_call 19; refine (sz_IntS A' xs.length c' _ _ (by omega) (by omega) (by omega)).mono ?_; rintro e w' ⟨rfl, rfl⟩; rw [h5])
     go_roundw
     case rel => exact ⟨rfl, k + 1, q + xs.length, by omega, by rw [HS.out, HQ.out], by go_num, by go_num, by omega⟩
     case measure => simp [intOf]; omega
    ·
     have h5 : szR (left - xss.length - q) xs.length = -1 := by unfold szR; rw [if_neg hx]
     go_wp2_with (go_at_call 19; refine (sz_IntS A' xs.length c' _ _ (by omega) (by omega) (by omega)).mono ?_; rintro e w' ⟨rfl, rfl⟩; rw [h5])
     go_ret
     have h6 := HT.out
     have h7 := HS.out
     have h8 := HQ.out
     exact ⟨ret_int (by unfold szR szRows; rw [if_neg (by omega)]), rfl⟩
   ·
    go_wp2
    go_ret
    have h6 := lens_all xss k (by omega)
    have h8 := HQ.out
    exact ⟨ret_int (by unfold szR szRows; rw [if_pos (by omega)]; omega), rfl⟩
 ·
  have H := Lib.hid (show szR left (szRows xss) = -1 by unfold szR szRows; rw [if_neg (by omega)])
  go_enter Tryz.func17, Tryz.ntmps17
  go_wp2
  go_ret
  exact ⟨ret_int H.out.symm, rfl⟩

/-! ### Copies -/
theorem intInfo : (Tryz.prog.info? 3).map (fun i => (i.zero, i.size, i.bytes)) = some (some (.int .i64 0), 1, 8) := by kernel_rfl
def ToRel (xs : List Int) (w : World) (i : Value) (wr : World) : Prop := ∃ k : Nat, k ≤ xs.length ∧ i = .int .i64 k ∧ wr = w.alloc (.cells (rowOf ((xs.take k).map intV) xs.length (.int .i64 0)) 3)
theorem to_IntS (v : Value) (xs : List Int) (w : World) (h : IntsR w w.heap.size v xs) (hn : xs.length ≤ 1048576) :
  Calls Tryz.prog 28 #[v] w fun e w' => e = .returned (.slice (some ⟨w.heap.size, 0, none⟩) xs.length xs.length) ∧ w' = w.alloc (.cells (xs.map intV).toArray 3) := by
 obtain ⟨A, c, rfl, h1, h2, h3⟩ := h.open_
 have hmk := fun W => run_make1 (P := Tryz.prog) 24 3 (.int .i64 0) 8 Tryz.underlying24 intInfo rfl xs.length (by omega) (by omega) W
 go_enter Tryz.func28, Tryz.ntmps28
 go_wp2
 clear hmk
 go_loopw [4] (fun i wr => ToRel xs w i wr) (fun i _ => xs.length - (intOf i).toNat)
 case atStart => exact ⟨0, Nat.zero_le _, rfl, by simp⟩
 case round =>
  obtain ⟨k, hk, rfl, rfl⟩ := hrel
  by_cases hlt : k < xs.length
  ·
   obtain ⟨x, hx⟩ : ∃ x, xs[k]? = some x := ⟨xs[k], List.getElem?_eq_getElem hlt⟩
   obtain ⟨ad, rfl, hb, hc⟩ := h3 (by omega)
   have hcell := hc k x hx
   clear h3 hc
   have hlen : ((xs.take k).map intV).length = k := by simp; omega
   have HN := Lib.hid (show (xs.take (k + 1)).map intV = (xs.take k).map intV ++ [.int .i64 x] by
    obtain ⟨hk', rfl⟩ := List.getElem?_eq_some_iff.1 hx
    rw [List.take_succ_eq_append_getElem hk', List.map_append]; rfl)
   clear hx
   generalize (xs.take k).map intV = done at *
   have hset := Lib.hid (rowOf_set (done := done) (n := xs.length) (z := .int .i64 0) (by omega) (.int .i64 x))
   have hnext := rowOf_next (done := done) (n := xs.length) (z := .int .i64 0) (by omega)
   obtain rfl := hlen
   generalize rowOf done xs.length (.int .i64 0) = C at *
   have hcell2 : (w.alloc (.cells C 3)).cell? ⟨w.heap.size, done.length, none⟩ = some (.int .i64 0) := by rw [World.cell?_alloc_at _ _ _ _ rfl]; exact hnext
   have hcell1 : (w.alloc (.cells C 3)).cell? (ad.add done.length) = some (.int .i64 x) := (World.cell?_alloc_lt w _ _ (by rw [block_add]; exact hb)).trans hcell
   clear hnext hcell
   go_wp2
   go_roundw
   case rel => exact ⟨done.length + 1, by omega, by go_num, by rw [HN.out, ← hset.out]⟩
   case measure => simp [intOf]; omega
  ·
   have e1 : xs.take k = xs := List.take_of_length_le (by omega)
   have e2 := rowOf_full (xs.map intV) (.int .i64 0)
   rw [List.length_map] at e2
   rw [e1, e2]
   clear e1 e2
   go_wp2
   go_ret
   exact ⟨rfl, rfl⟩

/-! ### Copies of lists of lists -/
theorem sliceInfo : (Tryz.prog.info? 24).map (fun i => (i.zero, i.size, i.bytes)) = some (some (.slice none 0 0), 1, 24) := by kernel_rfl
def TosRel (xss : List (List Int)) (w : World) (i : Value) (wr : World) : Prop :=
  ∃ (k : Nat) (vs : List Value) (bs : List Nat), k ≤ xss.length ∧ i = .int .i64 k ∧ vs.length = k ∧ wr.heap[w.heap.size]? = some (.cells (rowOf vs xss.length (.slice none 0 0)) 24 (0, 0)) ∧
    OwnAll wr 3 vs (xss.take k) bs ∧ bs.Nodup ∧ (∀ b ∈ bs, w.heap.size < b ∧ b < wr.heap.size) ∧ Below w.heap.size w wr
theorem to_IntSS (v : Value) (xss : List (List Int)) (w : World) (h : RowsR w w.heap.size v xss) (hn : szRows xss ≤ 1048576) :
  Calls Tryz.prog 26 #[v] w fun e w' => ∃ v' bs, e = .returned v' ∧ OwnRows w' 24 3 v' xss bs ∧ bs.Nodup ∧ (∀ b ∈ bs, w.heap.size ≤ b ∧ b < w'.heap.size) ∧ Below w.heap.size w w' := by
 obtain ⟨A, c, rfl, h1, h2, h3⟩ := h.open_
 have hn' : xss.length ≤ 1048576 := by unfold szRows at hn; omega
 have hmk := fun W => run_make1 (P := Tryz.prog) 22 24 (.slice none 0 0) 24 Tryz.underlying22 sliceInfo rfl xss.length (by omega) (by omega) W
 go_enter Tryz.func26, Tryz.ntmps26
 go_wp2
 clear hmk
 go_loopw [4] (fun i wr => TosRel xss w i wr) (fun i _ => xss.length - (intOf i).toNat)
 case atStart => exact ⟨0, [], [], Nat.zero_le _, rfl, rfl, heap_alloc_new w _, rfl, List.nodup_nil, (fun _ hb => by cases hb), bl_alloc (Below.refl _ _) _⟩
 case round =>
  obtain ⟨k, vs, bs, hk, rfl, hvs, hblk, hown, hnd, hbs, hbl⟩ := hrel
  have hsz := hbl.size
  have hgt : w.heap.size < wr.heap.size := by
   rcases Nat.lt_or_ge w.heap.size wr.heap.size with h | h
   ·
    exact h
   ·
    rw [Array.getElem?_eq_none h] at hblk; cases hblk
  by_cases hlt : k < xss.length
  ·
   obtain ⟨xs, hxs⟩ : ∃ xs, xss[k]? = some xs := ⟨xss[k], List.getElem?_eq_getElem hlt⟩
   obtain ⟨ad, rfl, hb, hc⟩ := h3 (by omega)
   obtain ⟨u, hu, hr⟩ := hc k xs hxs
   have hcell : wr.cell? (ad.add k) = some u := (hbl.cell (p := ad.add k) (by rw [block_add]; exact hb)).trans hu
   have hr' : IntsR wr wr.heap.size u xs := (hr.below hbl).more hsz
   have hxl : xs.length ≤ 1048576 := by
    have := lens_snoc xss k xs hxs
    have := lens_split xss (k + 1)
    unfold szRows at hn
    omega
   clear h3 hc hr hu
   have HN := Lib.hid (show xss.take (k + 1) = xss.take k ++ [xs] by
    obtain ⟨hk', rfl⟩ := List.getElem?_eq_some_iff.1 hxs
    rw [List.take_succ_eq_append_getElem hk'])
   clear hxs
   have HB := Lib.hid hblk; clear hblk
   go_wp2_with fail
   refine (to_IntS u xs wr hr' hxl).mono ?_
   rintro e w1 ⟨rfl, hw1⟩
   have hb1 : Below wr.heap.size wr w1 := by rw [hw1]; exact bl_alloc (Below.refl _ _) _
   have hblk1 : w1.heap[w.heap.size]? = some (.cells (rowOf vs xss.length (.slice none 0 0)) 24 (0, 0)) := (hb1.block _ hgt).trans HB.out
   have hnew : OwnInts w1 3 (.slice (some ⟨wr.heap.size, 0, none⟩) xs.length xs.length) xs [wr.heap.size] := by
    refine ⟨.inr ⟨wr.heap.size, xs.length, (xs.map intV).toArray, by simp, by simp, by unfold maxLen; omega, ?_, by simp, List.take_of_length_le (by simp), rfl⟩, hr'.2⟩
    rw [hw1]; exact heap_alloc_new wr _
   have hc1 : w1.cell? ⟨w.heap.size, k, none⟩ = some (.slice none 0 0) := by
    rw [cell_of_row w1 _ k _ _ (0, 0) hblk1, ← hvs]
    exact rowOf_next (by omega)
   have hf1 : w1.frozen? ⟨w.heap.size, k, none⟩ = false := by simp [World.frozen?, hblk1]
   have hown1 : OwnAll w1 3 (vs ++ [.slice (some ⟨wr.heap.size, 0, none⟩) xs.length xs.length]) (xss.take k ++ [xs]) (bs ++ [wr.heap.size]) :=
    (hown.keep fun b hb => hb1.block b (hbs b hb).2).snoc hnew
   have hs1 : wr.heap.size < w1.heap.size := by rw [hw1]; simp
   have HB1 := Lib.hid hblk1; clear hblk1
   have HW := Lib.hid hw1; clear hw1
   go_wp2_with fail
   go_roundw
   case rel =>
    refine ⟨k + 1, vs ++ [.slice (some ⟨wr.heap.size, 0, none⟩) xs.length xs.length], bs ++ [wr.heap.size], by omega, by go_num, by simp [hvs], ?_, ?_, ?_, ?_, ?_⟩
    ·
     rw [heap_set_same HB1.out]
     have := rowOf_set (done := vs) (n := xss.length) (z := .slice none 0 0) (by omega) (.slice (some ⟨wr.heap.size, 0, none⟩) xs.length xs.length)
     rw [hvs] at this
     rw [this]
    ·
     rw [HN.out]
     refine hown1.keep fun b hb => Below.heap_setCell _ _ _ _ ?_
     intro e
     rcases List.mem_append.1 hb with h | h
     ·
      have := hbs b h; simp at e; omega
     ·
      simp at h e; omega
    ·
     rw [List.nodup_append]
     exact ⟨hnd, by simp, fun a ha b hb => by have := hbs a ha; simp at hb; omega⟩
    ·
     intro b hb
     rw [size_setCell]
     rcases List.mem_append.1 hb with h | h
     ·
      have := hbs b h; omega
     ·
      simp at h; omega
    ·
     exact (hbl.trans (hb1.mono hsz)).setCell (Nat.le_refl _) _
   case measure => simp [intOf]; omega
  ·
   have e1 : xss.take k = xss := List.take_of_length_le (by omega)
   rw [e1] at hown
   have HB := Lib.hid hblk; clear hblk
   go_wp2
   go_ret
   refine ⟨_, w.heap.size :: bs, rfl, ⟨vs, [w.heap.size], bs, .inr ⟨w.heap.size, xss.length, vs.toArray, ?_, by omega, by unfold maxLen; omega, ?_, by simp; omega, List.take_of_length_le (by simp), rfl⟩, hown, rfl⟩, ?_, ?_, hbl⟩
   ·
    rw [show vs.length = xss.length by omega]; rfl
   ·
    rw [HB.out, show xss.length = vs.length by omega, rowOf_full]
   ·
    rw [List.nodup_cons]
    exact ⟨fun h => by have := hbs _ h; omega, hnd⟩
   ·
    intro b hb
    rcases List.mem_cons.1 hb with h | h
    ·
     omega
    ·
     have := hbs b h; omega

/-! ### Equality of what reads alike -/
def EqRel (n : Nat) (w : World) (i : Value) (wr : World) : Prop := ∃ k m : Nat, k ≤ n ∧ i = .int .i64 k ∧ wr = w.drewN m
theorem eq_IntS (v v' : Value) (xs : List Int) (w : World) (h : IntsR w w.heap.size v xs) (h' : IntsR w w.heap.size v' xs) :
    Calls Tryz.prog 35 #[v, v'] w fun e w' => e = .returned (.bool true) ∧ ∃ n, w' = w.drewN n := by
  obtain ⟨A, c, rfl, h1, h2, h3⟩ := h.open_
  obtain ⟨A', c', rfl, h1', h2', h3'⟩ := h'.open_
  unfold maxLen at h2
  clear h h'
  go_enter Tryz.func35, Tryz.ntmps35
  go_wp2
  go_loopw [5] (fun i wr => EqRel xs.length w i wr) (fun i _ => xs.length - (intOf i).toNat)
  case atStart => exact ⟨0, 0, Nat.zero_le _, rfl, rfl⟩
  case round =>
    obtain ⟨k, m, hk, rfl, rfl⟩ := hrel
    by_cases hlt : k < xs.length
    · obtain ⟨x, hx⟩ : ∃ x, xs[k]? = some x := ⟨xs[k], List.getElem?_eq_getElem hlt⟩
      obtain ⟨ad, rfl, hb, hc⟩ := h3 (by omega)
      obtain ⟨ad', rfl, hb', hc'⟩ := h3' (by omega)
      have hcell : (w.drewN m).cell? (ad.add k) = some (.int .i64 x) := hc k x hx
      have hcell' : (w.drewN m).cell? (ad'.add k) = some (.int .i64 x) := hc' k x hx
      have k1 := hc k x hx
      have k2 := hc' k x hx
      clear h3 h3' hc hc' hx
      go_wp2
      go_quiet (fail)
      go_wp2
      go_roundw
      case rel => exact ⟨k + 1, m + nq, by omega, by go_num, rfl⟩
      case measure => simp [intOf]; omega
    · go_wp2
      go_ret
      exact ⟨rfl, m, rfl⟩

theorem quiet_more {P : Program} {f : FuncId} {args : Array Value} {w : World} {a n : Nat} {v : Value}
    (h : Calls P f args (w.drewN (a + n)) fun e w' => e = .returned v ∧ ∃ m, w' = (w.drewN (a + n)).drewN m) :
    Calls P f args (w.drewN (a + n)) fun e w'' => e = .returned v ∧ ∃ m, w'' = w.drewN (a + m) :=
  h.mono fun _ _ ⟨he, m, hm⟩ => ⟨he, n + m, by rw [hm, World.drewN_drewN, Nat.add_assoc]⟩
theorem eq_IntSS (v v' : Value) (xss : List (List Int)) (w : World) (h : RowsR w w.heap.size v xss) (h' : RowsR w w.heap.size v' xss) :
    Calls Tryz.prog 36 #[v, v'] w fun e w' => e = .returned (.bool true) ∧ ∃ n, w' = w.drewN n := by
  obtain ⟨A, c, rfl, h1, h2, h3⟩ := h.open_
  obtain ⟨A', c', rfl, h1', h2', h3'⟩ := h'.open_
  unfold maxLen at h2
  clear h h'
  go_enter Tryz.func36, Tryz.ntmps36
  go_wp2
  go_loopw [5] (fun i wr => EqRel xss.length w i wr) (fun i _ => xss.length - (intOf i).toNat)
  case atStart => exact ⟨0, 0, Nat.zero_le _, rfl, rfl⟩
  case round =>
    obtain ⟨k, m, hk, rfl, rfl⟩ := hrel
    by_cases hlt : k < xss.length
    · obtain ⟨xs, hx⟩ : ∃ x, xss[k]? = some x := ⟨xss[k], List.getElem?_eq_getElem hlt⟩
      obtain ⟨ad, rfl, hb, hc⟩ := h3 (by omega)
      obtain ⟨ad', rfl, hb', hc'⟩ := h3' (by omega)
      obtain ⟨u, k1, hr⟩ := hc k xs hx
      obtain ⟨u', k2, hr'⟩ := hc' k xs hx
      have hcell : (w.drewN m).cell? (ad.add k) = some u := k1
      have hcell' : (w.drewN m).cell? (ad'.add k) = some u' := k2
      have HR := Lib.hid hr; clear hr
      have HR' := Lib.hid hr'; clear hr'
      clear h3 h3' hc hc' hx
      go_wp2
      go_quiet ((go_at_call 35; exact quiet_more (eq_IntS u u' xs _ HR.out HR'.out)))
      go_wp2
      go_roundw
      case rel => exact ⟨k + 1, m + nq, by omega, by go_num, rfl⟩
      case measure => simp [intOf]; omega
    · go_wp2
      go_ret
      exact ⟨rfl, m, rfl⟩
end Go.Proofs.YtehkcodbcnhhoaaGreat
namespace Go.Proofs.YtehkcodbcnhhoaaGreat
set_option linter.all false

structure Net where
  es : List (List (Int × Int))
  ids : List Int
  ins : List Int
def endOk (es : List (List (Int × Int))) (v i : Nat) (e : Int × Int) : Prop :=
  0 ≤ e.1 ∧ 0 ≤ e.2 ∧ ∃ l, es[e.1.toNat]? = some l ∧ l[e.2.toNat]? = some ((v : Int), (i : Int))
def nodeOk (es : List (List (Int × Int))) (v : Nat) (l : List (Int × Int)) : Prop := l.length ≤ 6 ∧ ∀ i e, l[i]? = some e → endOk es v i e
def idsP (ids : List Int) (k : Nat) : Prop := (∀ x ∈ ids, 1 ≤ x ∧ x ≤ 999999) ∧ ids.Nodup ∧ (ids = [] ∨ ids.length = k)
def netP (n : Net) : Prop := (1 ≤ n.es.length ∧ n.es.length ≤ 40) ∧ idsP n.ids n.es.length ∧ n.ins.length = n.es.length ∧ (∀ x ∈ n.ins, 0 ≤ x ∧ x ≤ 9) ∧ ∀ v l, n.es[v]? = some l → nodeOk n.es v l
noncomputable def netB (n : Net) : Bool := propB (netP n)
/-! ### Distances from a node -/
/-! ### Rules and counts -/
def degs (n : Net) : List Int := n.es.map fun l => (l.length : Int)
def most (l : List Int) : Int := l.foldl (fun a x => if a > x then a else x) 0
theorem degs_bd {n : Net} (h : netP n) : ∀ x ∈ degs n, 0 ≤ x ∧ x ≤ 6 := fun x hx => by
  obtain ⟨l, hl, rfl⟩ := List.mem_map.1 hx
  obtain ⟨v, hv⟩ := List.mem_iff_getElem?.1 hl
  have := (h.2.2.2.2 v l hv).1
  omega
def risingP (l : List Int) (lo hi : Int) : Prop := (∀ x ∈ l, lo ≤ x ∧ x ≤ hi) ∧ ∀ (i : Nat) (a b : Int), l[i]? = some a → l[i + 1]? = some b → a < b
theorem rising_pair {l : List Int} (h : ∀ (i : Nat) (a b : Int), l[i]? = some a → l[i + 1]? = some b → a < b) : l.Pairwise (· < ·) := by
  induction l with
  | nil => exact .nil
  | cons x r ih =>
    have hr := ih fun i a b h1 h2 => h (i + 1) a b (by simpa using h1) (by simpa using h2)
    refine List.pairwise_cons.2 ⟨fun y hy => ?_, hr⟩
    cases r with
    | nil => cases hy
    | cons z t =>
      have h0 := h 0 x z rfl rfl
      rcases List.mem_cons.1 hy with rfl | hy
      · exact h0
      · have := (List.pairwise_cons.1 hr).1 y hy
        omega
theorem pair_rising {l : List Int} (h : l.Pairwise (· < ·)) : ∀ (i : Nat) (a b : Int), l[i]? = some a → l[i + 1]? = some b → a < b := by
  intro i a b h1 h2
  obtain ⟨i1, rfl⟩ := List.getElem?_eq_some_iff.1 h1
  obtain ⟨i2, rfl⟩ := List.getElem?_eq_some_iff.1 h2
  exact List.pairwise_iff_getElem.1 h i (i + 1) i1 i2 (by omega)
theorem ids_sorted {ids ys : List Int} {k : Nat} (hp : ys.Perm ids) (hs : ys.Pairwise (· ≤ ·)) (hne : ids ≠ []) : (ids.length = k ∧ risingP ys 1 999999) ↔ idsP ids k := by
  unfold idsP risingP
  constructor
  · rintro ⟨h1, h2, h3⟩
    have hn : ys.Nodup := (rising_pair h3).imp fun h => by omega
    exact ⟨fun x hx => h2 x (hp.mem_iff.2 hx), hp.nodup_iff.1 hn, .inr h1⟩
  · rintro ⟨h1, h2, h3⟩
    have hn : ys.Nodup := hp.nodup_iff.2 h2
    refine ⟨by rcases h3 with h | h; exact absurd h hne; exact h, fun x hx => h1 x (hp.mem_iff.1 hx), pair_rising ?_⟩
    have : ys.Pairwise (fun a b => a ≤ b ∧ a ≠ b) := List.Pairwise.and hs hn
    exact this.imp fun h => by omega
theorem ids_loop {ids : List Int} : (∀ (i : Nat) (x : Int), ids[i]? = some x → (1 ≤ x ∧ x ≤ 999999) ∧ x ∉ ids.take i) ↔ (∀ x ∈ ids, 1 ≤ x ∧ x ≤ 999999) ∧ ids.Nodup := by
  constructor
  · intro h
    refine ⟨fun x hx => ?_, ?_⟩
    · obtain ⟨i, hi⟩ := List.mem_iff_getElem?.1 hx
      exact (h i x hi).1
    · refine List.pairwise_iff_getElem.2 fun i j hi hj hij e => ?_
      refine (h j ids[j] (List.getElem?_eq_getElem hj)).2 ?_
      rw [← e]
      refine List.mem_of_getElem? (i := i) ?_
      rw [List.getElem?_take, if_pos hij, List.getElem?_eq_getElem hi]
  · rintro ⟨h1, h2⟩ i x hx
    refine ⟨h1 x (List.mem_of_getElem? hx), fun hm => ?_⟩
    obtain ⟨j, hj⟩ := List.mem_iff_getElem?.1 hm
    rw [List.getElem?_take] at hj
    split at hj
    · rename_i hji
      obtain ⟨i1, rfl⟩ := List.getElem?_eq_some_iff.1 hx
      obtain ⟨j1, e⟩ := List.getElem?_eq_some_iff.1 hj
      exact List.pairwise_iff_getElem.1 h2 j i j1 i1 hji e
    · cases hj
end Go.Proofs.YtehkcodbcnhhoaaGreat
namespace Go.Proofs.YtehkcodbcnhhoaaGreat
open Go.RowKit
set_option linter.all false
abbrev Ends := List (Int × Int)
def EndsR (w : World) (S : Nat → Prop) (v : Value) (es : Ends) : Prop :=
  ∃ A c, v = .slice A es.length c ∧ es.length ≤ c ∧ c ≤ maxLen ∧ (∀ e ∈ es, I64 e.1 ∧ I64 e.2) ∧ (0 < es.length → ∃ b o, A = some ⟨b, o, none⟩ ∧ S b ∧
    ∀ k e, es[k]? = some e → w.cell? ⟨b, o + k * 2, none⟩ = some (.int .i64 e.1) ∧ w.cell? ⟨b, o + k * 2 + 1, none⟩ = some (.int .i64 e.2))
def EndssR (w : World) (S : Nat → Prop) (v : Value) (ess : List Ends) : Prop :=
  ∃ A c, v = .slice A ess.length c ∧ ess.length ≤ c ∧ c ≤ maxLen ∧ (0 < ess.length → ∃ ad, A = some ad ∧ S ad.block ∧
    ∀ k es, ess[k]? = some es → ∃ u, w.cell? (ad.add k) = some u ∧ EndsR w S u es)
section
variable {w w' : World} {S S' : Nat → Prop} {v : Value}
theorem EndsR.keep {es : Ends} (h : EndsR w S v es) (hS : ∀ b, S b → S' b) (hk : ∀ b, S b → w'.heap[b]? = w.heap[b]?) : EndsR w' S' v es := by
  obtain ⟨A, c, e, h1, h2, h3, h4⟩ := h
  refine ⟨A, c, e, h1, h2, h3, fun hn => ?_⟩
  obtain ⟨b, o, e', hb, hc⟩ := h4 hn
  refine ⟨b, o, e', hS b hb, fun k x hx => ?_⟩
  obtain ⟨k1, k2⟩ := hc k x hx
  exact ⟨(World.cell?_of_block (hk b hb)).trans k1, (World.cell?_of_block (hk b hb)).trans k2⟩
theorem EndssR.keep {ess : List Ends} (h : EndssR w S v ess) (hS : ∀ b, S b → S' b) (hk : ∀ b, S b → w'.heap[b]? = w.heap[b]?) : EndssR w' S' v ess := by
  obtain ⟨A, c, e, h1, h2, h4⟩ := h
  refine ⟨A, c, e, h1, h2, fun hn => ?_⟩
  obtain ⟨ad, e', hb, hc⟩ := h4 hn
  refine ⟨ad, e', hS _ hb, fun k x hx => ?_⟩
  obtain ⟨u, k1, k2⟩ := hc k x hx
  exact ⟨u, (World.cell?_of_block (by rw [block_add]; exact hk _ hb)).trans k1, k2.keep hS hk⟩
end
abbrev EndsB (w : World) (B : Nat) (v : Value) (es : Ends) : Prop := EndsR w (· < B) v es
theorem EndsR.below {w w' : World} {B : Nat} {v : Value} {es : Ends} (h : EndsB w B v es) (hb : Below B w w') : EndsB w' B v es := h.keep (fun _ h => h) fun b hB => hb.block b hB
theorem EndsR.more {w : World} {B B' : Nat} {v : Value} {es : Ends} (h : EndsB w B v es) (hB : B ≤ B') : EndsB w B' v es := h.keep (fun _ h => Nat.lt_of_lt_of_le h hB) fun _ _ => rfl
structure NetR (w : World) (B : Nat) (ve vi vn : Value) (n : Net) : Prop where
  e : EndssR w (· < B) ve n.es
  i : IntsR w B vi n.ids
  n : IntsR w B vn n.ins
theorem NetR.below {w w' : World} {B : Nat} {ve vi vn : Value} {n : Net} (h : NetR w B ve vi vn n) (hb : Below B w w') : NetR w' B ve vi vn n :=
  ⟨h.e.keep (fun _ h => h) fun b hB => hb.block b hB, h.i.below hb, h.n.below hb⟩
theorem NetR.more {w : World} {B B' : Nat} {ve vi vn : Value} {n : Net} (h : NetR w B ve vi vn n) (hB : B ≤ B') : NetR w B' ve vi vn n :=
  ⟨h.e.keep (fun _ h => Nat.lt_of_lt_of_le h hB) fun _ _ => rfl, h.i.more hB, h.n.more hB⟩
theorem NetR.up {w w' : World} {ve vi vn : Value} {n : Net} (h : NetR w w.heap.size ve vi vn n) (hb : Below w.heap.size w w') : NetR w' w'.heap.size ve vi vn n := (h.below hb).more hb.size
theorem IntsR.isSlice {w : World} {B : Nat} {v : Value} {xs : List Int} (h : IntsR w B v xs) : ∃ A m c, v = .slice A m c := by
  obtain ⟨A, c, rfl, _⟩ := h.open_
  exact ⟨_, _, _, rfl⟩
theorem EndssR.isSlice {w : World} {S : Nat → Prop} {v : Value} {xs : List Ends} (h : EndssR w S v xs) : ∃ A m c, v = .slice A m c := by
  obtain ⟨A, c, rfl, _⟩ := h
  exact ⟨_, _, _, rfl⟩
theorem NetR.slices {w : World} {B : Nat} {ve vi vn : Value} {n : Net} (h : NetR w B ve vi vn n) : (∃ A m c, ve = .slice A m c) ∧ (∃ A m c, vi = .slice A m c) ∧ ∃ A m c, vn = .slice A m c := ⟨h.e.isSlice, h.i.isSlice, h.n.isSlice⟩
theorem ints_row {w : World} {g B : Nat} {t : TypeId} {xs : List Int} (hc : w.heap[g]? = some (.cells (xs.map intV).toArray t (0, 0))) (hl : xs.length ≤ maxLen) (hI : ∀ x ∈ xs, I64 x) (hg : g < B) : IntsR w B (.slice (some ⟨g, 0, none⟩) xs.length xs.length) xs := by
  refine ⟨⟨some ⟨g, 0, none⟩, xs.length, by rw [List.length_map], by rw [List.length_map]; exact Nat.le_refl _, hl, fun _ => ⟨_, rfl, hg, fun j u hu => ?_⟩⟩, hI⟩
  rw [show (⟨g, 0, none⟩ : Addr).add j = ⟨g, j, none⟩ by unfold Addr.add; split <;> simp_all, cell_of_row _ _ j _ _ (0, 0) hc, ← Array.getElem?_toList]
  exact hu
end Go.Proofs.YtehkcodbcnhhoaaGreat
namespace Go.Proofs.YtehkcodbcnhhoaaGreat
section
open Go.RowKit
set_option linter.all false
theorem box3 (w : World) (a b c : Value) (t : TypeId) : ∃ w0, w0 = w.alloc (.cells #[a, b, c] t) ∧ Below w.heap.size w w0 ∧ Hid (w0.heap[w.heap.size]? = some (.cells #[a, b, c] t (0, 0))) ∧ w.heap.size < w0.heap.size ∧ Hid (w0.heap.size = w.heap.size + 1) :=
  ⟨_, rfl, bl_alloc (Below.refl _ _) _, Lib.hid (heap_alloc_new w _), by simp, Lib.hid (by simp)⟩
theorem box2 (w : World) (a b : Value) (t : TypeId) : ∃ w0, w0 = w.alloc (.cells #[a, b] t) ∧ Below w.heap.size w w0 ∧ Hid (w0.heap[w.heap.size]? = some (.cells #[a, b] t (0, 0))) ∧ w.heap.size < w0.heap.size ∧ Hid (w0.heap.size = w.heap.size + 1) :=
  ⟨_, rfl, bl_alloc (Below.refl _ _) _, Lib.hid (heap_alloc_new w _), by simp, Lib.hid (by simp)⟩
noncomputable def hasB (xs : List Int) (x : Int) : Bool := propB (x ∈ xs)
theorem hasB_t {xs : List Int} {x : Int} (h : x ∈ xs) : hasB xs x = true := propB_t h
theorem hasB_f {xs : List Int} {x : Int} (h : x ∉ xs) : hasB xs x = false := propB_f h
def NotTo (xs : List Int) (x : Int) (k : Nat) : Prop := ∀ j y, j < k → xs[j]? = some y → y ≠ x
theorem NotTo.all {xs : List Int} {x : Int} {k : Nat} (h : NotTo xs x k) (hk : xs.length ≤ k) : x ∉ xs := fun hm => by
  obtain ⟨j, hj⟩ := List.mem_iff_getElem?.1 hm
  exact h j x (by have := (List.getElem?_eq_some_iff.1 hj).1; omega) hj rfl
theorem NotTo.next {xs : List Int} {x y : Int} {k : Nat} (h : NotTo xs x k) (hy : xs[k]? = some y) (hne : y ≠ x) : NotTo xs x (k + 1) := fun j z hj hz => by
  by_cases e : j = k
  · subst e; rw [hy] at hz; cases hz; exact hne
  · exact h j z (by omega) hz
def HasRel (xs : List Int) (x : Int) (w : World) (i : Value) (wr : World) : Prop := w = wr ∧ ∃ k : Nat, k ≤ xs.length ∧ i = .int .i64 k ∧ NotTo xs x k
theorem spec_l1Has (v : Value) (xs : List Int) (x : Int) (w : World) (h : IntsR w w.heap.size v xs) :
    Calls Tryz.prog 94 #[v, .int .i64 x] w fun e w' => e = .returned (.bool (hasB xs x)) ∧ w = w' := by
  obtain ⟨A, c, rfl, h1, h2, h3⟩ := h.open_
  unfold maxLen at h2
  clear h
  go_enter Tryz.func94, Tryz.ntmps94
  go_wp2_with fail
  go_loopw [9, 6] (fun i _ wr => HasRel xs x w i wr) (fun i _ _ => xs.length - (intOf i).toNat)
  case atStart => exact ⟨rfl, 0, Nat.zero_le _, rfl, fun _ _ h => absurd h (by omega)⟩
  case round =>
    obtain ⟨rfl, k, hk, rfl, hup⟩ := hrel
    have HU := Lib.hid hup; clear hup
    by_cases hlt : k < xs.length
    · obtain ⟨y, hy⟩ : ∃ y, xs[k]? = some y := ⟨xs[k], List.getElem?_eq_getElem hlt⟩
      obtain ⟨ad, rfl, hb, hc⟩ := h3 (by omega)
      have hcell := hc k y hy
      have HX := Lib.hid hy
      clear h3 hc hy
      by_cases e : y = x
      · have HE := Lib.hid e
        have kq : (y == x) = true := by simpa using e
        clear e
        go_wp2_with fail
        go_ret
        exact ⟨ret_bool (hasB_t (by rw [← HE.out]; exact List.mem_of_getElem? HX.out)).symm, rfl⟩
      · have HE := Lib.hid e
        have kq : (y == x) = false := by simpa using e
        clear e
        go_wp2_with fail
        go_roundw
        case rel => exact ⟨rfl, k + 1, by omega, by go_num, HU.out.next HX.out HE.out⟩
        case measure => simp [intOf]; omega
    · go_wp2
      go_ret
      exact ⟨ret_bool (hasB_f (HU.out.all (by omega))).symm, rfl⟩
theorem own_intsR {w : World} {base : Nat} {v : Value} {xs : List Int} {n : Nat} (h : w.ownsRow base 3 1 v n (xs.map intV)) (hx : ∀ x ∈ xs, I64 x) : IntsR w w.heap.size v xs := by
  obtain ⟨bs, h1, h2, h3⟩ := OwnRow.of_owns h
  exact OwnInts.reads (e := 3) (bs := bs) ⟨h1, hx⟩ h1.lt
noncomputable def idsB (ids : List Int) (k : Nat) : Bool := propB (idsP ids k)
def IdsTo (ids : List Int) (k : Nat) : Prop := ∀ (i : Nat) (x : Int), i < k → ids[i]? = some x → (1 ≤ x ∧ x ≤ 999999) ∧ x ∉ ids.take i
theorem IdsTo.next {ids : List Int} {k : Nat} {x : Int} (h : IdsTo ids k) (hx : ids[k]? = some x) (h1 : inB x 1 999999 = true) (h2 : hasB (ids.take k) x = false) : IdsTo ids (k + 1) := fun i y hi hy => by
  by_cases e : i = k
  · subst e
    obtain rfl := Option.some.inj (hx.symm.trans hy)
    unfold inB at h1
    exact ⟨by simpa using h1, fun hm => by rw [hasB_t hm] at h2; cases h2⟩
  · exact h i y (by omega) hy
theorem ids_no {ids : List Int} {k i : Nat} {x : Int} (hx : ids[i]? = some x) (h : inB x 1 999999 = false ∨ hasB (ids.take i) x = true) : idsB ids k = false := propB_f fun hp => by
  have := ids_loop.2 ⟨hp.1, hp.2.1⟩ i x hx
  rcases h with h | h
  · rw [inB_t this.1] at h; cases h
  · exact this.2 (propB_iff.1 h)
theorem ids_end {ids : List Int} {k j : Nat} (h : IdsTo ids j) (hj : ids.length ≤ j) : idsB ids k = (decide (ids.length = 0) || decide (ids.length = k)) := by
  have hp := ids_loop.1 fun i x hx => h i x (by have := (List.getElem?_eq_some_iff.1 hx).1; omega) hx
  have e : idsP ids k ↔ (ids.length = 0 ∨ ids.length = k) := by
    unfold idsP
    rw [← List.length_eq_zero_iff (l := ids)]
    exact ⟨fun h => h.2.2, fun h => ⟨hp.1, hp.2, h⟩⟩
  unfold idsB
  by_cases h1 : ids.length = 0
  · rw [propB_t (e.2 (.inl h1)), decide_eq_true h1]; rfl
  · by_cases h2 : ids.length = k
    · rw [propB_t (e.2 (.inr h2)), decide_eq_true h2, Bool.or_true]
    · rw [propB_f fun h => by rcases e.1 h with h | h; exact h1 h; exact h2 h, decide_eq_false h1, decide_eq_false h2]; rfl
theorem ints_take {w : World} {B : Nat} {ad : Addr} {c k : Nat} {xs : List Int} (hc : xs.length ≤ c) (hm : c ≤ maxLen) (hb : ad.block < B) (h : ∀ j x, xs[j]? = some x → w.cell? (ad.add j) = some (.int .i64 x)) (hI : ∀ x ∈ xs, I64 x) (hk : k ≤ xs.length) : IntsR w B (.slice (some ad) k c) (xs.take k) := by
  have hl : (xs.take k).length = k := by simp; omega
  refine ⟨⟨some ad, c, by rw [List.length_map, hl], by rw [List.length_map, hl]; omega, hm, fun _ => ⟨ad, rfl, hb, fun j u hu => ?_⟩⟩, fun x hx => hI x (List.mem_of_mem_take hx)⟩
  rw [List.getElem?_map] at hu
  cases hj : (xs.take k)[j]? with
  | none => rw [hj] at hu; cases hu
  | some z =>
    rw [hj] at hu
    simp only [Option.map_some, Option.some.injEq] at hu
    subst hu
    rw [List.getElem?_take] at hj
    split at hj
    · exact h j z hj
    · cases hj
def IdsRel (ids : List Int) (w : World) (i : Value) (wr : World) : Prop := w = wr ∧ ∃ k : Nat, k ≤ ids.length ∧ i = .int .i64 k ∧ IdsTo ids k
theorem spec_neIds (v : Value) (ids : List Int) (n : Nat) (w : World) (h : IntsR w w.heap.size v ids) (hn : n ≤ 2000000) :
  Calls Tryz.prog 73 #[v, .int .i64 (n : Int)] w fun e w' => e = .returned (.bool (idsB ids n)) ∧ w = w' := by
 obtain ⟨A, c, rfl, h1, h2, h3⟩ := h.open_
 have HI := Lib.hid h.2
 unfold maxLen at h2
 clear h
 go_enter Tryz.func73, Tryz.ntmps73
 go_wp2_with fail
 go_loopw [9, 5, 6] (fun i _ _ wr => IdsRel ids w i wr) (fun i _ _ _ => ids.length - (intOf i).toNat)
 case atStart => exact ⟨rfl, 0, Nat.zero_le _, rfl, fun _ _ h => absurd h (by omega)⟩
 case round =>
  obtain ⟨rfl, k, hk, rfl, hup⟩ := hrel
  have HU := Lib.hid hup; clear hup
  by_cases hlt : k < ids.length
  ·
   obtain ⟨y, hy⟩ : ∃ y, ids[k]? = some y := ⟨ids[k], List.getElem?_eq_getElem hlt⟩
   obtain ⟨ad, rfl, hb, hc⟩ := h3 (by omega)
   have hcell := hc k y hy
   have HX := Lib.hid hy
   have J := Lib.hid (spec_l1Has (.slice (some ad) k c) (ids.take k) y w (ints_take h1 (by unfold maxLen; exact h2) hb hc HI.out hk))
   clear h3 hc hy
   cases hp : inB y 1 999999 with
   | false =>
    go_wp2_with (go_at_call 22; refine (spec_l1In _ _ _ _).mono ?_; rintro e w' ⟨rfl, rfl⟩)
    go_ret
    exact ⟨ret_bool (ids_no HX.out (.inl hp)).symm, rfl⟩
   | true =>
    cases hq : hasB (ids.take k) y with
    | true =>
     go_wp2_with (first | (go_at_call 22; refine (spec_l1In _ _ _ _).mono ?_; rintro e w' ⟨rfl, rfl⟩) | (go_at_call 94; refine J.out.mono ?_; rintro e w' ⟨rfl, rfl⟩))
     go_ret
     exact ⟨ret_bool (ids_no HX.out (.inr hq)).symm, rfl⟩
    | false =>
     go_wp2_with (first | (go_at_call 22; refine (spec_l1In _ _ _ _).mono ?_; rintro e w' ⟨rfl, rfl⟩) | (go_at_call 94; refine J.out.mono ?_; rintro e w' ⟨rfl, rfl⟩))
     go_roundw
     case rel => exact ⟨rfl, k + 1, by omega, by go_num, HU.out.next HX.out hp hq⟩
     case measure => simp [intOf]; omega
  ·
   have HE := Lib.hid (ids_end (k := n) HU.out (by omega))
   go_wp2_with fail
   all_goals
    go_ret
    refine ⟨ret_bool ?_, rfl⟩
    rw [HE.out, Bool.eq_iff_iff]
    simp only [Bool.or_eq_true, decide_eq_true_eq, beq_iff_eq, true_iff]
    rename_i h0
    first | (rw [h0]; simp; done) | (have h1 : ids.length ≠ 0 := fun e => h0 (List.eq_nil_of_length_eq_zero e); constructor <;> intro h <;> omega)
theorem inB_nat {x : Int} {m : Nat} (h : inB x 0 ((m : Int) - 1) = true) : ∃ a : Nat, x = a ∧ a < m := by
  unfold inB at h
  have h' : 0 ≤ x ∧ x ≤ (m : Int) - 1 := by simpa using h
  exact ⟨x.toNat, by omega, by omega⟩
theorem EndssR.at_ {w : World} {S : Nat → Prop} {ad : Addr} {c m : Nat} {ess : List Ends} (h : EndssR w S (.slice (some ad) m c) ess) {k : Nat} {es : Ends} (hk : ess[k]? = some es) : S ad.block ∧ ∃ u, w.cell? (ad.add k) = some u ∧ EndsR w S u es := by
  obtain ⟨A, c', e, h1, h2, h3⟩ := h
  obtain ⟨ad', e', hb, hc⟩ := h3 (by have := (List.getElem?_eq_some_iff.1 hk).1; omega)
  cases e
  cases e'
  exact ⟨hb, hc k es hk⟩
theorem EndsR.at_ {w : World} {S : Nat → Prop} {b o c m : Nat} {es : Ends} (h : EndsR w S (.slice (some ⟨b, o, none⟩) m c) es) {k : Nat} {e : Int × Int} (hk : es[k]? = some e) : S b ∧ w.cell? ⟨b, o + k * 2, none⟩ = some (.int .i64 e.1) ∧ w.cell? ⟨b, o + k * 2 + 1, none⟩ = some (.int .i64 e.2) := by
  obtain ⟨A, c', e', h1, h2, h3, h4⟩ := h
  obtain ⟨b', o', e2, hb, hc⟩ := h4 (by have := (List.getElem?_eq_some_iff.1 hk).1; omega)
  cases e'
  cases e2
  exact ⟨hb, hc k e hk⟩
theorem netP.len {n : Net} (h : netP n) {v : Nat} {l : Ends} (hl : n.es[v]? = some l) : l.length ≤ 6 := (h.2.2.2.2 v l hl).1
theorem EndssR.len_slice {w : World} {S : Nat → Prop} {A : Option Addr} {m c : Nat} {ess : List Ends} (h : EndssR w S (.slice A m c) ess) : m = ess.length ∧ m ≤ c ∧ c ≤ maxLen := by
  obtain ⟨A', c', e, h1, h2, _⟩ := h
  cases e
  exact ⟨rfl, h1, h2⟩
end
section
open Go.RowKit
set_option linter.all false
theorem degs_snoc (n : Net) (k : Nat) (l : Ends) (h : n.es[k]? = some l) : ((degs n).take (k + 1)).map intV = ((degs n).take k).map intV ++ [.int .i64 (l.length : Int)] := by
  have h' : (degs n)[k]? = some (l.length : Int) := by unfold degs; rw [List.getElem?_map, h]; rfl
  obtain ⟨hk', e⟩ := List.getElem?_eq_some_iff.1 h'
  rw [List.take_succ_eq_append_getElem hk', List.map_append, e]; rfl
def IntsRel (xs : List Int) (w : World) (v i : Value) (wr : World) : Prop :=
  ∃ k : Nat, k ≤ xs.length ∧ i = .int .i64 k ∧ wr.ownsRow w.heap.size 3 1 v k ((xs.take k).map intV) ∧ Below w.heap.size w wr
theorem IntsRel.fin {xs : List Int} {w wr : World} {v : Value} {k : Nat} (h : wr.ownsRow w.heap.size 3 1 v k ((xs.take k).map intV)) (hk : xs.length ≤ k) (hx : ∀ x ∈ xs, I64 x) : IntsR wr wr.heap.size v xs := by
  rw [List.take_of_length_le hk] at h
  exact own_intsR h hx
theorem small_I64 {x a b : Int} (h : a ≤ x ∧ x ≤ b) (ha : -1000000000 ≤ a) (hb : b ≤ 1000000000) : I64 x := by unfold I64; omega
theorem spec_neDegrees (ve vi vn : Value) (n : Net) (w : World) (h : NetR w w.heap.size ve vi vn n) (hp : netP n) :
  Calls Tryz.prog 74 #[.agg #[ve, vi, vn]] w fun e w' => ∃ u, e = .returned u ∧ (∃ A m c, u = .slice A m c) ∧ IntsR w' w'.heap.size u (degs n) ∧ Below w.heap.size w w' := by
 have h40 := hp.1.2
 have HP := Lib.hid hp; clear hp
 obtain ⟨⟨A0, m0, c0, rfl⟩, ⟨A1, m1, c1, rfl⟩, A2, m2, c2, rfl⟩ := h.slices
 obtain ⟨w0, hw0, hB, HD, hz0, HS0⟩ := box3 w (.slice A0 m0 c0) (.slice A1 m1 c1) (.slice A2 m2 c2) 43
 have HN0 := Lib.hid h; have HN := Lib.hid (h.up hB); clear h
 have HW0 := Lib.hid hw0; clear hw0
 obtain ⟨q0, q1, q2, qf⟩ := cells3 HD
 obtain ⟨hm0, -, -⟩ := HN.out.e.len_slice
 subst hm0
 have hdl : (degs n).length = n.es.length := by unfold degs; simp
 have HDL := Lib.hid hdl; clear hdl
 go_enter Tryz.func74, Tryz.ntmps74
 go_wp2_with fail
 rw [← HW0.out]
 go_loopw [3, 5, 9] (fun v _ i wr => IntsRel (degs n) w0 v i wr) (fun _ _ i _ => n.es.length - (intOf i).toNat)
 case atStart => exact ⟨0, Nat.zero_le _, rfl, World.ownsRow_nil _ _ _ _, Below.refl _ _⟩
 case round =>
  obtain ⟨k, hk, rfl, hown, hb1⟩ := hrel
  rw [HDL.out] at hk
  have hzhb1 := hb1.size
  clear q0 q1 q2 qf
  replace HD := bk HD hb1
  replace HN := Lib.hid (HN.out.up hb1)
  replace hB := bl_trans hB hb1
  obtain ⟨q0, q1, q2, qf⟩ := cells3 HD
  by_cases hlt : k < n.es.length
  ·
   obtain ⟨l, hl⟩ : ∃ y, n.es[k]? = some y := ⟨n.es[k], List.getElem?_eq_getElem hlt⟩
   obtain ⟨ad, rfl⟩ : ∃ ad, A0 = some ad := by
    obtain ⟨A', c', e, -, -, h3⟩ := HN.out.e
    obtain ⟨ad, e', -⟩ := h3 (by omega)
    cases e
    exact ⟨ad, e'⟩
   obtain ⟨hbb, u, hu, hr⟩ := HN.out.e.at_ hl
   obtain ⟨A', c', rfl, -⟩ := hr
   have hl6 := HP.out.len hl
   have HS := Lib.hid (degs_snoc n k l hl)
   clear hl hbb
   go_wp2_with ((at_builtin; refine wpList_append1 wr rfl (.tmp 13) (.tmp 16) 24 rfl w0.heap.size 3 _ 8 Tryz.underlying24 intInfo rfl _ _ _ rfl _ rfl rfl hown (by unfold maxLen; omega) (by omega) hb1.size ?_; intro v' w' hown' hbl' hgr' hlt' hob'))
   go_roundw
   case rel => exact ⟨k + 1, by rw [HDL.out]; omega, by go_num, by rw [HS.out]; exact hown', hb1.trans hbl'⟩
   case measure => simp [intOf]; omega
  ·
   have hI := IntsRel.fin hown (by rw [HDL.out]; omega) (fun x hx => small_I64 (degs_bd HP.out x hx) (by omega) (by omega))
   have HO := Lib.hid hI; clear hI hown
   go_wp2_with fail
   go_ret
   exact ⟨_, rfl, HO.out.isSlice, HO.out, hB⟩
/-! ### Distances -/
theorem rowOf_map (k n : Nat) (h : k ≤ n) (x : Int) : rowOf ((List.replicate k x).map intV) n (.int .i64 0) = ((List.replicate k x ++ List.replicate (n - k) 0).map intV).toArray := by
  unfold rowOf
  simp [intV]
theorem set_map (d : List Int) (i : Nat) (x : Int) : ((d.map intV).toArray).setIfInBounds i (.int .i64 x) = ((d.set i x).map intV).toArray := by
  simp [List.map_set, intV]
theorem fill_set {k n : Nat} (h : k < n) : (List.replicate k (-1 : Int) ++ List.replicate (n - k) 0).set k (-1) = List.replicate (k + 1) (-1) ++ List.replicate (n - (k + 1)) 0 := by
  obtain ⟨m, hm⟩ : ∃ m, n - k = m + 1 := ⟨n - k - 1, by omega⟩
  rw [hm, show n - (k + 1) = m by omega, List.replicate_succ, List.replicate_succ', List.set_append_right _ _ (by simp), List.length_replicate, Nat.sub_self, List.set_cons_zero, List.append_assoc]
  rfl
def NumsAt (w : World) (g : Nat) (d : List Int) : Prop := w.heap[g]? = some (.cells (d.map intV).toArray 3 (0, 0))
theorem NumsAt.cell {w : World} {g : Nat} {d : List Int} (h : NumsAt w g d) {i : Nat} {x : Int} (hx : d[i]? = some x) : w.cell? ⟨g, i, none⟩ = some (.int .i64 x) := by
  rw [cell_of_row _ _ i _ _ (0, 0) h, ← Array.getElem?_toList]
  simp [hx, intV]
theorem NumsAt.frozen {w : World} {g : Nat} {d : List Int} (h : NumsAt w g d) (i : Nat) : w.frozen? ⟨g, i, none⟩ = false := frozen_of_row _ _ i _ _ h
theorem NumsAt.set {w : World} {g : Nat} {d : List Int} (h : NumsAt w g d) (i : Nat) (x : Int) : NumsAt (w.setCell ⟨g, i, none⟩ (.int .i64 x)) g (d.set i x) := by
  unfold NumsAt
  rw [heap_set_same h, set_map]
theorem NumsAt.lt {w : World} {g : Nat} {d : List Int} (h : NumsAt w g d) : g < w.heap.size := by
  rcases Nat.lt_or_ge g w.heap.size with h' | h'
  · exact h'
  · unfold NumsAt at h
    rw [Array.getElem?_eq_none h'] at h
    cases h
def FillRel (n g : Nat) (w0 : World) (i : Value) (wr : World) : Prop := ∃ k : Nat, k ≤ n ∧ i = .int .i64 k ∧ NumsAt wr g (List.replicate k (-1) ++ List.replicate (n - k) 0) ∧ Below w0.heap.size w0 wr
theorem own_slice {w : World} {base n : Nat} {v : Value} {vs : List Value} (h : w.ownsRow base 3 1 v n vs) : ∃ A c, v = .slice A n c := by
  rcases h.2 with ⟨e, e'⟩ | ⟨g, cap, cur, e, _⟩
  · exact ⟨none, 0, by rw [e, e']⟩
  · exact ⟨_, _, e⟩
end
section
open Go.RowKit
set_option linter.all false
theorem EndssR.some_ {w : World} {S : Nat → Prop} {A : Option Addr} {m c : Nat} {ess : List Ends} (h : EndssR w S (.slice A m c) ess) (hk : 0 < ess.length) : ∃ ad, A = some ad := by
  obtain ⟨A', c', e, -, -, h3⟩ := h
  obtain ⟨ad, e', -⟩ := h3 hk
  cases e
  exact ⟨ad, e'⟩
theorem IntsR.some_ {w : World} {B : Nat} {A : Option Addr} {m c : Nat} {xs : List Int} (h : IntsR w B (.slice A m c) xs) : m = xs.length ∧ m ≤ c ∧ c ≤ maxLen ∧ (0 < xs.length → ∃ ad, A = some ad ∧ ad.block < B ∧ ∀ j x, xs[j]? = some x → w.cell? (ad.add j) = some (.int .i64 x)) := by
  obtain ⟨A', c', e, h1, h2, h3⟩ := h.open_
  cases e
  exact ⟨rfl, h1, h2, h3⟩
end
end Go.Proofs.YtehkcodbcnhhoaaGreat
namespace Go.Proofs.YtehkcodbcnhhoaaGreat
set_option linter.all false
abbrev Cl := Int × List Int × Int
structure Mach where
  deg : Int
  st : Int
  msg : Int
  start : List (List Int)
  send : List (List Int)
  cls : List Cl
  out : List Int
def rowP (l : List Int) (many most : Int) : Prop := (l.length : Int) = many ∧ ∀ x ∈ l, 0 ≤ x ∧ x ≤ most - 1
def clP (m : Mach) (c : Cl) : Prop := (0 ≤ c.1 ∧ c.1 ≤ m.st - 1) ∧ (0 ≤ c.2.2 ∧ c.2.2 ≤ m.st - 1) ∧ (c.2.1.length : Int) ≤ m.deg ∧ ∀ x ∈ c.2.1, -1 ≤ x ∧ x ≤ m.msg - 1
def first (m : Mach) : Int := (m.start.getD 0 []).length
def maP (m : Mach) : Prop :=
  ((0 ≤ m.deg ∧ m.deg ≤ 6) ∧ (1 ≤ m.st ∧ m.st ≤ 12) ∧ (1 ≤ m.msg ∧ m.msg ≤ 6)) ∧ ((m.start.length : Int) = m.deg + 1 ∧ (m.send.length : Int) = m.st ∧ (m.out.length : Int) = m.st ∧ m.cls.length ≤ 60) ∧
  (1 ≤ first m ∧ first m ≤ 10) ∧ (∀ l ∈ m.start, rowP l (first m) m.st) ∧ (∀ l ∈ m.send, rowP l m.deg m.msg) ∧ (∀ c ∈ m.cls, clP m c) ∧ ∀ x ∈ m.out, -1 ≤ x ∧ x ≤ 9
def onP (m : Mach) (n : Net) : Prop := (∀ l ∈ n.es, (l.length : Int) ≤ m.deg) ∧ ∀ x ∈ n.ins, x < first m
def fitP (m : Mach) (n : Net) : Prop := maP m ∧ netP n ∧ onP m n
noncomputable def maB (m : Mach) : Bool := propB (maP m)
noncomputable def fitB (m : Mach) (n : Net) : Bool := propB (fitP m n)
structure Asy where
  rounds : List Int
  before : List Int
  now : List Int
  slots : List (List Int)
  flight : List (List Ends)
def letP (m : Mach) (ls : Ends) : Prop := ls.length ≤ 12 ∧ ∀ e ∈ ls, (0 ≤ e.1 ∧ e.1 ≤ 40) ∧ 0 ≤ e.2 ∧ e.2 ≤ m.msg - 1
def slotP (m : Mach) (ports : Nat) (s : List Int) (f : List Ends) : Prop := s.length = ports ∧ f.length = ports ∧ (∀ y ∈ s, -1 ≤ y ∧ y ≤ m.msg - 1) ∧ ∀ ls ∈ f, letP m ls
def asyP (m : Mach) (n : Net) (x : Asy) : Prop :=
  rowP x.rounds n.es.length 41 ∧ rowP x.before n.es.length m.st ∧ rowP x.now n.es.length m.st ∧ x.slots.length = n.es.length ∧ x.flight.length = n.es.length ∧
  ∀ (v : Nat) (l : Ends) (s : List Int) (f : List Ends), n.es[v]? = some l → x.slots[v]? = some s → x.flight[v]? = some f → slotP m l.length s f
def goodP (m : Mach) (n : Net) (x : Asy) : Prop := fitP m n ∧ asyP m n x
structure Acts where
  kind : Int
  node : Int
  port : Int
  at_ : Int
def hereL (x : Asy) (v p : Int) : Ends := (x.flight.getD v.toNat []).getD p.toNat []
def mayP (n : Net) (x : Asy) (a : Acts) : Prop :=
  (0 ≤ a.node ∧ a.node < n.es.length) ∧
  ((a.kind = 5 ∧ a.port = 0 ∧ a.at_ = 0 ∧ x.rounds.getD a.node.toNat 0 < 40 ∧ (-1 : Int) ∉ x.slots.getD a.node.toNat []) ∨
   (a.kind ≠ 5 ∧ (0 ≤ a.port ∧ a.port < (n.es.getD a.node.toNat []).length) ∧
    ((a.kind = 1 ∧ (0 ≤ a.at_ ∧ a.at_ ≤ 1) ∧ a.at_ ≤ x.rounds.getD a.node.toNat 0 ∧ (hereL x (((n.es.getD a.node.toNat []).getD a.port.toNat (0, 0)).1) (((n.es.getD a.node.toNat []).getD a.port.toNat (0, 0)).2)).length < 12) ∨
     ((a.kind = 2 ∨ a.kind = 3) ∧ 0 ≤ a.at_ ∧ a.at_ < (hereL x a.node a.port).length) ∨
     (a.kind = 4 ∧ (0 ≤ a.at_ ∧ a.at_ < (hereL x a.node a.port).length) ∧ (hereL x a.node a.port).length < 12))))
noncomputable def mayB (n : Net) (x : Asy) (a : Acts) : Bool := propB (mayP n x a)
end Go.Proofs.YtehkcodbcnhhoaaGreat
namespace Go.Proofs.YtehkcodbcnhhoaaGreat
set_option linter.all false
theorem propB_dec {p : Prop} {b : Bool} (h : p ↔ b = true) : propB p = b := by
  cases b with
  | true => exact propB_t (h.2 rfl)
  | false => exact propB_f fun k => by have := h.1 k; cases this
structure AtP (n : Net) (x : Asy) (k : Nat) (l : Ends) (s : List Int) (f : List Ends) (r : Int) : Prop where
  hl : n.es[k]? = some l
  hs : x.slots[k]? = some s
  hf : x.flight[k]? = some f
  hr : x.rounds[k]? = some r
  sl : s.length = l.length
  fl : f.length = l.length
  r0 : 0 ≤ r ∧ r ≤ 40
  ls : ∀ y ∈ f, y.length ≤ 12
theorem at_of {m : Mach} {n : Net} {x : Asy} {k : Nat} (h : asyP m n x) (hk : k < n.es.length) : ∃ l s f r, AtP n x k l s f r := by
  have h1 : k < x.slots.length := by rw [h.2.2.2.1]; exact hk
  have h2 : k < x.flight.length := by rw [h.2.2.2.2.1]; exact hk
  have h3 : k < x.rounds.length := by have := h.1.1; omega
  have e1 := List.getElem?_eq_getElem hk
  have e2 := List.getElem?_eq_getElem h1
  have e3 := List.getElem?_eq_getElem h2
  have hs := h.2.2.2.2.2 k _ _ _ e1 e2 e3
  refine ⟨_, _, _, _, e1, e2, e3, List.getElem?_eq_getElem h3, hs.1, hs.2.1, ?_, fun y hy => (hs.2.2.2 y hy).1⟩
  have := h.1.2 _ (List.getElem_mem h3)
  omega
section
variable {n : Net} {x : Asy} {k : Nat} {l : Ends} {s : List Int} {f : List Ends} {r : Int}
theorem AtP.lt (h : AtP n x k l s f r) : k < n.es.length := (List.getElem?_eq_some_iff.1 h.hl).1
theorem AtP.gets (h : AtP n x k l s f r) : n.es.getD (k : Int).toNat [] = l ∧ x.slots.getD (k : Int).toNat [] = s ∧ x.flight.getD (k : Int).toNat [] = f ∧ x.rounds.getD (k : Int).toNat 0 = r := by
  simp only [Int.toNat_natCast, List.getD_eq_getElem?_getD, h.hl, h.hs, h.hf, h.hr, Option.getD_some, and_self]
theorem may_no1 {ak an ap aa : Int} (h : inB an 0 ((n.es.length : Int) - 1) = false) : mayB n x ⟨ak, an, ap, aa⟩ = false := propB_f fun hp => by
  have h0 : 0 ≤ an := hp.1.1
  have h1 : an < n.es.length := hp.1.2
  rw [inB_t ⟨h0, by omega⟩] at h
  cases h
theorem may_step (h : AtP n x k l s f r) (ap aa : Int) : mayB n x ⟨5, (k : Int), ap, aa⟩ = (decide (ap = 0) && (decide (aa = 0) && (decide (r < 40) && !s.contains (-1)))) := propB_dec (by
  obtain ⟨-, e2, -, e4⟩ := h.gets
  have hk := h.lt
  unfold mayP
  simp only [e2, e4, Bool.and_eq_true, decide_eq_true_eq, Bool.not_eq_true', List.contains_eq_mem, decide_eq_false_iff_not, true_and, ne_eq, not_true_eq_false, false_and, or_false]
  exact ⟨fun hm => hm.2, fun hm => ⟨by omega, hm⟩⟩)
theorem may_no2 {ak ap aa : Int} (h : AtP n x k l s f r) (h5 : ak ≠ 5) (hp : ¬ (0 ≤ ap ∧ ap < l.length)) : mayB n x ⟨ak, (k : Int), ap, aa⟩ = false := propB_f fun hm => by
  obtain ⟨e1, -, -, -⟩ := h.gets
  unfold mayP at hm
  simp only [e1] at hm
  rcases hm.2 with h1 | h1
  · exact h5 h1.1
  · exact hp h1.2.1
variable {p : Nat} {ls : Ends}
theorem AtP.here (h : AtP n x k l s f r) (hp : f[p]? = some ls) : hereL x (k : Int) (p : Int) = ls := by
  unfold hereL
  rw [h.gets.2.2.1, Int.toNat_natCast, List.getD_eq_getElem?_getD, hp]
  rfl
theorem AtP.lp (h : AtP n x k l s f r) (hp : f[p]? = some ls) : (p : Int) < l.length := by
  have := (List.getElem?_eq_some_iff.1 hp).1
  have := h.fl
  omega
theorem may_send (h : AtP n x k l s f r) (hp : f[p]? = some ls) {e : Int × Int} (he : l[p]? = some e) {k2 p2 : Nat} {l2 : Ends} {s2 : List Int} {f2 : List Ends} {r2 : Int} (h2 : AtP n x k2 l2 s2 f2 r2) {ls2 : Ends} (hp2 : f2[p2]? = some ls2)
    (e1 : e.1 = k2) (e2 : e.2 = p2) (aa : Int) : mayB n x ⟨1, (k : Int), (p : Int), aa⟩ = (decide (0 ≤ aa ∧ aa ≤ 1) && (decide (aa ≤ r) && decide (ls2.length < 12))) := propB_dec (by
  obtain ⟨g1, -, -, g4⟩ := h.gets
  have hk := h.lt
  have hpl := h.lp hp
  have ee : l.getD (p : Int).toNat (0, 0) = e := by rw [Int.toNat_natCast, List.getD_eq_getElem?_getD, he]; rfl
  have eh : hereL x e.1 e.2 = ls2 := by rw [e1, e2]; exact h2.here hp2
  unfold mayP
  simp only [g1, g4, ee, eh, Bool.and_eq_true, decide_eq_true_eq, show ((1 : Int) = 5) = False by simp, false_and, false_or]
  refine ⟨fun hm => ?_, fun hm => ⟨⟨by omega, by omega⟩, by omega, ⟨by omega, hpl⟩, Or.inl ⟨trivial, hm⟩⟩⟩
  rcases hm.2.2.2 with h1 | h1 | h1
  · exact h1.2
  · have := h1.1; omega
  · have := h1.1; omega)
theorem may_let (h : AtP n x k l s f r) (hp : f[p]? = some ls) {ak : Int} (ha : ak = 2 ∨ ak = 3) (aa : Int) : mayB n x ⟨ak, (k : Int), (p : Int), aa⟩ = decide (0 ≤ aa ∧ aa < ls.length) := propB_dec (by
  have hk := h.lt
  have hpl := h.lp hp
  unfold mayP
  simp only [h.gets.1, h.here hp, decide_eq_true_eq]
  omega)
theorem may_copy (h : AtP n x k l s f r) (hp : f[p]? = some ls) (aa : Int) : mayB n x ⟨4, (k : Int), (p : Int), aa⟩ = (decide (0 ≤ aa ∧ aa < ls.length) && decide (ls.length < 12)) := propB_dec (by
  have hk := h.lt
  have hpl := h.lp hp
  unfold mayP
  simp only [h.gets.1, h.here hp, Bool.and_eq_true, decide_eq_true_eq, show ((4 : Int) = 5) = False by simp, false_and, false_or]
  refine ⟨fun hm => ?_, fun hm => ⟨⟨by omega, by omega⟩, by omega, ⟨by omega, hpl⟩, Or.inr (Or.inr ⟨trivial, hm⟩)⟩⟩
  rcases hm.2.2.2 with h1 | h1 | h1
  · have := h1.1; omega
  · have := h1.1; omega
  · exact h1.2)
theorem may_else (h : AtP n x k l s f r) {ak ap aa : Int} (h5 : ak ≠ 5) (h1 : ak ≠ 1) (h2 : ak ≠ 2) (h3 : ak ≠ 3) (h4 : ak ≠ 4) : mayB n x ⟨ak, (k : Int), ap, aa⟩ = false := propB_f fun hm => by
  unfold mayP at hm
  simp only at hm
  omega
theorem at_end {m : Mach} (ha : asyP m n x) (hn : netP n) (h : AtP n x k l s f r) {e : Int × Int} (he : l[p]? = some e) : ∃ (k2 p2 : Nat) (l2 : Ends) (s2 : List Int) (f2 : List Ends) (r2 : Int) (ls2 : Ends), e.1 = k2 ∧ e.2 = p2 ∧ AtP n x k2 l2 s2 f2 r2 ∧ f2[p2]? = some ls2 ∧ l2[p2]? = some ((k : Int), (p : Int)) := by
  obtain ⟨h0, h1, m', hm, hx⟩ := (hn.2.2.2.2 k l h.hl).2 p e he
  have hk2 := (List.getElem?_eq_some_iff.1 hm).1
  obtain ⟨l2, s2, f2, r2, h2⟩ := at_of ha hk2
  obtain rfl := Option.some.inj (h2.hl.symm.trans hm)
  have hp2 : e.2.toNat < f2.length := by rw [h2.fl]; exact (List.getElem?_eq_some_iff.1 hx).1
  exact ⟨e.1.toNat, e.2.toNat, l2, s2, f2, r2, _, by omega, by omega, h2, List.getElem?_eq_getElem hp2, hx⟩
end
end Go.Proofs.YtehkcodbcnhhoaaGreat
namespace Go.Proofs.YtehkcodbcnhhoaaGreat
section
open Go.RowKit
set_option linter.all false
theorem eqIn_End (a b c d : Int) (w : World) : (Op.equalIn 10000 106 (.agg #[.int .i64 a, .int .i64 b]) (.agg #[.int .i64 c, .int .i64 d])).run Tryz.prog w = .ok (a == c && b == d) w := by
  have u3 := Tryz.underlying3
  have hS : Tryz.prog.underlying 106 = some (.struct (Tryz.prog.fieldsOf 106)) := by kernel_rfl
  have hp : Tryz.prog.stoodInHeld 106 = false := by kernel_rfl
  have a3 := Tryz.isAgg3
  have z3 := Tryz.sizeOf3
  rw [show (10000 : Nat) = 9999 + 1 from rfl, run_equalIn_agg w 9999 106 _ _ hS hp]
  simp only [Program.fieldsOf, Tryz.underlying106]
  go_simp
  by_cases h1 : a = c <;> by_cases h2 : b = d <;> simp [h1, h2]
theorem endOk_of {es : List Ends} {v i a p : Nat} {e x : Int × Int} {m : Ends} (h1 : e.1 = a) (h2 : e.2 = p) (hm : es[a]? = some m) (hx : m[p]? = some x) (hv : x.1 = v ∧ x.2 = i) : endOk es v i e := by
  refine ⟨by omega, by omega, m, by rw [h1]; exact hm, ?_⟩
  rw [h2, Int.toNat_natCast, hx, ← hv.1, ← hv.2]
theorem endOk_no1 {es : List Ends} {v i : Nat} {e : Int × Int} (h : inB e.1 0 ((es.length : Int) - 1) = false) : ¬ endOk es v i e := fun ⟨h0, _, m, hm, _⟩ => by
  have := (List.getElem?_eq_some_iff.1 hm).1
  rw [inB_t (by omega)] at h
  cases h
theorem endOk_no2 {es : List Ends} {v i a : Nat} {e : Int × Int} {m : Ends} (h1 : e.1 = a) (hm : es[a]? = some m) (h : inB e.2 0 ((m.length : Int) - 1) = false) : ¬ endOk es v i e := fun ⟨_, h0, m', hm', hx⟩ => by
  rw [h1, Int.toNat_natCast, hm] at hm'
  obtain rfl := Option.some.inj hm'
  have := (List.getElem?_eq_some_iff.1 hx).1
  rw [inB_t (by omega)] at h
  cases h
theorem endOk_no3 {es : List Ends} {v i a p : Nat} {e x : Int × Int} {m : Ends} (h1 : e.1 = a) (h2 : e.2 = p) (hm : es[a]? = some m) (hx : m[p]? = some x) (hv : ¬ (x.1 = v ∧ x.2 = i)) : ¬ endOk es v i e := fun ⟨_, _, m', hm', hx'⟩ => by
  rw [h1, Int.toNat_natCast, hm] at hm'
  obtain rfl := Option.some.inj hm'
  rw [h2, Int.toNat_natCast, hx] at hx'
  exact hv (by rw [Option.some.inj hx']; exact ⟨rfl, rfl⟩)
def NodesTo (n : Net) (k : Nat) : Prop := ∀ (v : Nat) (l : Ends), v < k → n.es[v]? = some l → nodeOk n.es v l
def EndsOkTo (n : Net) (v : Nat) (l : Ends) (k : Nat) : Prop := ∀ (i : Nat) (e : Int × Int), i < k → l[i]? = some e → endOk n.es v i e
theorem EndsOkTo.next {n : Net} {v k : Nat} {l : Ends} {e : Int × Int} (h : EndsOkTo n v l k) (he : l[k]? = some e) (ho : endOk n.es v k e) : EndsOkTo n v l (k + 1) := fun i e' hi he' => by
  by_cases e1 : i = k
  · subst e1
    obtain rfl := Option.some.inj (he.symm.trans he')
    exact ho
  · exact h i e' (by omega) he'
theorem NodesTo.next {n : Net} {k j : Nat} {l : Ends} (h : NodesTo n k) (hl : n.es[k]? = some l) (h6 : l.length ≤ 6) (ho : EndsOkTo n k l j) (hj : l.length ≤ j) : NodesTo n (k + 1) := fun v l' hv hl' => by
  by_cases e : v = k
  · subst e
    obtain rfl := Option.some.inj (hl.symm.trans hl')
    exact ⟨h6, fun i x hx => ho i x (by have := (List.getElem?_eq_some_iff.1 hx).1; omega) hx⟩
  · exact h v l' (by omega) hl'
def HeadP (n : Net) : Prop := (1 ≤ n.es.length ∧ n.es.length ≤ 40) ∧ idsP n.ids n.es.length ∧ n.ins.length = n.es.length ∧ ∀ x ∈ n.ins, 0 ≤ x ∧ x ≤ 9
theorem net_end {n : Net} {k : Nat} (hh : HeadP n) (h : NodesTo n k) (hk : n.es.length ≤ k) : netB n = true :=
  propB_t ⟨hh.1, hh.2.1, hh.2.2.1, hh.2.2.2, fun v l hl => h v l (by have := (List.getElem?_eq_some_iff.1 hl).1; omega) hl⟩
theorem net_no6 {n : Net} {k : Nat} {l : Ends} (hl : n.es[k]? = some l) (h : ¬ l.length ≤ 6) : netB n = false := propB_f fun hp => h (hp.2.2.2.2 k l hl).1
theorem net_noE {n : Net} {k j : Nat} {l : Ends} {e : Int × Int} (hl : n.es[k]? = some l) (he : l[j]? = some e) (h : ¬ endOk n.es k j e) : netB n = false := propB_f fun hp => h ((hp.2.2.2.2 k l hl).2 j e he)
theorem net_noH {n : Net} (h : ¬ HeadP n) : netB n = false := propB_f fun hp => h ⟨hp.1, hp.2.1, hp.2.2.1, hp.2.2.2.1⟩
def GdRel (n : Net) (w : World) (i : Value) (wr : World) : Prop := Below w.heap.size w wr ∧ ∃ k : Nat, k ≤ n.es.length ∧ i = .int .i64 k ∧ NodesTo n k
def GeRel (n : Net) (v : Nat) (l : Ends) (w : World) (i : Value) (wr : World) : Prop := Below w.heap.size w wr ∧ ∃ k : Nat, k ≤ l.length ∧ i = .int .i64 k ∧ EndsOkTo n v l k
theorem inAll_iff (xs : List Int) : allB xs 0 9 = true ↔ ∀ x ∈ xs, 0 ≤ x ∧ x ≤ 9 := allB_iff
set_option maxRecDepth 100000 in
set_option maxHeartbeats 2000000 in
theorem spec_neGood (ve vi vn : Value) (n : Net) (w : World) (h : NetR w w.heap.size ve vi vn n) (hz : n.es.length ≤ 2000000) :
  Calls Tryz.prog 51 #[.agg #[ve, vi, vn]] w fun e w' => e = .returned (.bool (netB n)) ∧ Below w.heap.size w w' := by
 have hgd : Tryz.prog.eqGuardType Tryz.prog.depth 106 = false := by kernel_rfl
 have heq := eqIn_End
 obtain ⟨⟨A0, m0, c0, rfl⟩, ⟨A1, m1, c1, rfl⟩, A2, m2, c2, rfl⟩ := h.slices
 obtain ⟨w0, hw0, hB, HD, hz0, HS0⟩ := box3 w (.slice A0 m0 c0) (.slice A1 m1 c1) (.slice A2 m2 c2) 43
 have HN0 := Lib.hid h; have HN := Lib.hid (h.up hB); clear h
 have HW0 := Lib.hid hw0; clear hw0
 obtain ⟨q0, q1, q2, qf⟩ := cells3 HD
 obtain ⟨hm0, hcc, hmx⟩ := HN.out.e.len_slice
 subst hm0
 obtain ⟨hm1, -, -, -⟩ := HN.out.i.some_
 subst hm1
 obtain ⟨hm2, hd2, hd3, -⟩ := HN.out.n.some_
 subst hm2
 have hmx' : n.es.length ≤ 9223372036854775807 := by unfold maxLen at hmx; omega
 have hmi' : n.ins.length ≤ 9223372036854775807 := by unfold maxLen at hd3; omega
 clear hmx hd3 hcc hd2
 go_enter Tryz.func51, Tryz.ntmps51
 cases g1 : inB (n.es.length : Int) 1 40 with
 | false =>
  go_wp2_with (go_at_call 22; refine (spec_l1In _ _ _ _).mono ?_; rintro e w' ⟨rfl, rfl⟩)
  go_ret
  rw [← HW0.out]
  exact ⟨ret_bool (net_noH fun hh => by rw [inB_t (by have := hh.1; omega)] at g1; cases g1).symm, hB⟩
 | true =>
  have h40 : 1 ≤ n.es.length ∧ n.es.length ≤ 40 := by unfold inB at g1; have := of_decide_eq_true g1; omega
  go_wp2_with (go_at_call 22; refine (spec_l1In _ _ _ _).mono ?_; rintro e w' ⟨rfl, rfl⟩)
  rw [← HW0.out]
  refine (spec_neIds _ n.ids n.es.length w0 HN.out.i (by omega)).mono ?_
  rintro e w' ⟨rfl, rfl⟩
  cases g2 : idsB n.ids n.es.length with
  | false =>
   go_wp2_with fail
   go_ret
   exact ⟨ret_bool (net_noH fun hh => by rw [show idsB n.ids n.es.length = true from propB_t hh.2.1] at g2; cases g2).symm, hB⟩
  | true =>
   by_cases g3 : n.ins.length = n.es.length
   ·
    have kq : (((n.ins.length : Nat) : Int) != (n.es.length : Int)) = false := by rw [g3]; simp
    have HG3 := Lib.hid g3; clear g3
    go_wp2_with fail
    refine (spec_l1All _ n.ins 0 9 w0 HN.out.n).mono ?_
    rintro e w' ⟨rfl, rfl⟩
    cases g4 : allB n.ins 0 9 with
    | false =>
     go_wp2_with fail
     go_ret
     exact ⟨ret_bool (net_noH fun hh => by rw [(inAll_iff _).2 hh.2.2.2] at g4; cases g4).symm, hB⟩
    | true =>
     have HH := Lib.hid (show HeadP n from ⟨h40, propB_iff.1 g2, HG3.out, (inAll_iff _).1 g4⟩)
     go_wp2_with fail
     go_loopw [3, 4, 39] (fun _ _ i wr => GdRel n w0 i wr) (fun _ _ i _ => n.es.length - (intOf i).toNat)
     case atStart => exact ⟨Below.refl _ _, 0, Nat.zero_le _, rfl, fun _ _ h => absurd h (by omega)⟩
     case round =>
      obtain ⟨hb1, k, hk, rfl, hup⟩ := hrel
      have HU := Lib.hid hup; clear hup
      have hzhb1 := hb1.size
      clear q0 q1 q2 qf
      replace HD := bk HD hb1
      replace HN := Lib.hid (HN.out.up hb1)
      replace hB := bl_trans hB hb1
      obtain ⟨q0, q1, q2, qf⟩ := cells3 HD
      by_cases hlt : k < n.es.length
      ·
       obtain ⟨l, hl⟩ : ∃ y, n.es[k]? = some y := ⟨n.es[k], List.getElem?_eq_getElem hlt⟩
       obtain ⟨ad, rfl⟩ := HN.out.e.some_ (by omega)
       obtain ⟨hbb, u, hu, hr⟩ := HN.out.e.at_ hl
       have HR := Lib.hid hr
       obtain ⟨A', c', rfl, hlc, hlm, -, h4⟩ := hr
       unfold maxLen at hlm
       have HL := Lib.hid hl; clear hl
       by_cases h6 : l.length ≤ 6
       ·
        go_wp2_with fail
        obtain ⟨wq, rfl⟩ : ∃ z, z = wr := ⟨_, rfl⟩
        go_loopw [5, 6, 49] (fun _ _ i wr' => GeRel n k l wq i wr') (fun _ _ i _ => l.length - (intOf i).toNat)
        case atStart => exact ⟨Below.refl _ _, 0, Nat.zero_le _, rfl, fun _ _ h => absurd h (by omega)⟩
        case round =>
         obtain ⟨hb2, j, hj, rfl, hup2⟩ := hrel
         have HU2 := Lib.hid hup2; clear hup2
         have hzhb2 := hb2.size
         clear q0 q1 q2 qf
         replace HD := bk HD hb2
         replace HN := Lib.hid (HN.out.up hb2)
         replace hB := bl_trans hB hb2
         obtain ⟨q0, q1, q2, qf⟩ := cells3 HD
         by_cases hlt2 : j < l.length
         ·
          obtain ⟨e, he⟩ : ∃ y, l[j]? = some y := ⟨_, List.getElem?_eq_getElem hlt2⟩
          obtain ⟨b, o, rfl, -, -⟩ := h4 (by omega)
          obtain ⟨hbb, p0, p1⟩ := (HR.out.below hb2).at_ he
          obtain ⟨wv, hwv, hb3, HE, hzv, HSV⟩ := box2 wr (.int .i64 e.1) (.int .i64 e.2) 106
          have HWV := Lib.hid hwv; clear hwv
          have HEL := Lib.hid he; clear he
          go_wp2_with fail
          rw [← HWV.out]
          replace hb2 := bl_trans hb2 hb3
          have hzhb3 := hb3.size
          clear q0 q1 q2 qf
          replace HD := bk HD hb3
          replace HN := Lib.hid (HN.out.up hb3)
          replace hB := bl_trans hB hb3
          obtain ⟨q0, q1, q2, qf⟩ := cells3 HD
          obtain ⟨e0, e1, ef⟩ := cells2 HE
          have HNS := Lib.hid (fun h => net_noE HL.out HEL.out h)
          cases g : inB e.1 0 ((n.es.length : Int) - 1) with
          | false =>
           have HF := Lib.hid (HNS.out (endOk_no1 g))
           clear HNS p0 p1
           refine wp_region_held_drew (S := fun w' => w'.cell? ⟨w.heap.size, 0, none⟩ = some (.slice (some ad) n.es.length c0) ∧ w'.cell? ⟨wr.heap.size, 0, none⟩ = some (.int .i64 e.1) ∧ w'.cell? ⟨wr.heap.size, 1, none⟩ = some (.int .i64 e.2)) (by kernel_rfl) ?_ (fun hHeld => ?_)
           ·
            go_keep
           refine stk 0 54 ?_
           refine stk 1 55 ?_
           refine stk 2 56 ?_
           refine stk 3 57 ?_
           refine stk 4 58 ?_
           refine stk 5 59 ?_
           refine tr 6 rfl (by kernel_rfl) (fun K hK => ?_)
           go_simp
           go_at_call 22
           refine (spec_l1In _ _ _ _).mono ?_
           rintro e w' ⟨rfl, rfl⟩
           rw [show IntKind.i64.wrap ((n.es.length : Int) - 1) = (n.es.length : Int) - 1 from IntWalk.i64_in _ (by omega), g]
           refine hK.out _ _ ?_ (fun hHeld => ?_)
           ·
            go_keep
           clear hK K
           try simp only [Act.put, pu]
           refine stk 7 61 ?_
           refine stk 8 62 ?_
           refine stn 9 63 ?_
           refine stn 10 64 ?_
           refine stn 11 65 ?_
           refine stn 12 66 ?_
           refine stn 13 67 ?_
           refine stn 14 68 ?_
           refine stn 15 69 ?_
           refine stn 16 70 ?_
           refine stn 17 71 ?_
           refine stn 18 72 ?_
           refine stn 19 73 ?_
           refine stn 20 74 ?_
           refine stk 21 75 ?_
           refine stk 22 76 ?_
           refine stn 23 77 ?_
           refine stn 24 78 ?_
           refine stn 25 79 ?_
           refine stn 26 80 ?_
           refine stn 27 81 ?_
           refine stn 28 82 ?_
           refine stn 29 83 ?_
           refine stn 30 84 ?_
           refine stn 31 85 ?_
           refine stn 32 86 ?_
           refine stn 33 87 ?_
           refine stn 34 88 ?_
           refine stn 35 89 ?_
           refine stn 36 90 ?_
           refine stk 37 91 ?_
           refine wpAnyH_done (by kernel_rfl) ?_ _
           go_wp2_with fail
           go_ret
           exact ⟨ret_bool HF.out.symm, hB.drew⟩
          | true =>
           obtain ⟨a, ha, hal⟩ := inB_nat g
           obtain ⟨m, hm⟩ : ∃ y, n.es[a]? = some y := ⟨_, List.getElem?_eq_getElem hal⟩
           obtain ⟨-, u2, r0, hrm⟩ := HN.out.e.at_ hm
           have HRM := Lib.hid hrm
           obtain ⟨Am, cm, rfl, hmc, hmm, -, h5⟩ := hrm
           unfold maxLen at hmm
           rw [ha] at e0 g
           have HA := Lib.hid ha; clear ha
           have HM := Lib.hid hm; clear hm
           cases g2' : inB e.2 0 ((m.length : Int) - 1) with
           | false =>
            have HF := Lib.hid (HNS.out (endOk_no2 HA.out HM.out g2'))
            clear HNS p0 p1 h5
            refine wp_region_held_drew (S := fun w' => w'.cell? ⟨w.heap.size, 0, none⟩ = some (.slice (some ad) n.es.length c0) ∧ w'.cell? ⟨wr.heap.size, 0, none⟩ = some (.int .i64 (a : Int)) ∧ w'.cell? ⟨wr.heap.size, 1, none⟩ = some (.int .i64 e.2) ∧ w'.cell? (ad.add a) = some (.slice Am m.length cm)) (by kernel_rfl) ?_ (fun hHeld => ?_)
            ·
             go_keep
            refine stk 0 54 ?_
            refine stk 1 55 ?_
            refine stk 2 56 ?_
            refine stk 3 57 ?_
            refine stk 4 58 ?_
            refine stk 5 59 ?_
            refine tr 6 rfl (by kernel_rfl) (fun K hK => ?_)
            go_simp
            go_at_call 22
            refine (spec_l1In _ _ _ _).mono ?_
            rintro e w' ⟨rfl, rfl⟩
            rw [show IntKind.i64.wrap ((n.es.length : Int) - 1) = (n.es.length : Int) - 1 from IntWalk.i64_in _ (by omega), g]
            refine hK.out _ _ ?_ (fun hHeld => ?_)
            ·
             go_keep
            clear hK K
            try simp only [Act.put, pu]
            refine stk 7 61 ?_
            refine stk 8 62 ?_
            refine stk 9 63 ?_
            refine stk 10 64 ?_
            refine stk 11 65 ?_
            refine stk 12 66 ?_
            refine stk 13 67 ?_
            refine stk 14 68 ?_
            refine stk 15 69 ?_
            refine stk 16 70 ?_
            refine stk 17 71 ?_
            refine stk 18 72 ?_
            refine tr 19 rfl (by kernel_rfl) (fun K hK => ?_)
            go_simp
            go_at_call 22
            refine (spec_l1In _ _ _ _).mono ?_
            rintro e w' ⟨rfl, rfl⟩
            rw [show IntKind.i64.wrap ((m.length : Int) - 1) = (m.length : Int) - 1 from IntWalk.i64_in _ (by omega), g2']
            refine hK.out _ _ ?_ (fun hHeld => ?_)
            ·
             go_keep
            clear hK K
            try simp only [Act.put, pu]
            refine stk 20 74 ?_
            refine stk 21 75 ?_
            refine stk 22 76 ?_
            refine stn 23 77 ?_
            refine stn 24 78 ?_
            refine stn 25 79 ?_
            refine stn 26 80 ?_
            refine stn 27 81 ?_
            refine stn 28 82 ?_
            refine stn 29 83 ?_
            refine stn 30 84 ?_
            refine stn 31 85 ?_
            refine stn 32 86 ?_
            refine stn 33 87 ?_
            refine stn 34 88 ?_
            refine stn 35 89 ?_
            refine stn 36 90 ?_
            refine stk 37 91 ?_
            refine wpAnyH_done (by kernel_rfl) ?_ _
            go_wp2_with fail
            go_ret
            exact ⟨ret_bool HF.out.symm, hB.drew⟩
           | true =>
            obtain ⟨p, hp, hpl⟩ := inB_nat g2'
            obtain ⟨x, hx⟩ : ∃ y, m[p]? = some y := ⟨_, List.getElem?_eq_getElem hpl⟩
            obtain ⟨b2, o2, rfl, -, -⟩ := h5 (by omega)
            obtain ⟨-, x0, x1⟩ := HRM.out.at_ hx
            rw [hp] at e1 g2'
            have HPP := Lib.hid hp; clear hp
            have HX := Lib.hid hx; clear hx
            clear p0 p1 h5
            by_cases hv : x.1 = (k : Int) ∧ x.2 = (j : Int)
            ·
             have kq : (x.1 == (k : Int) && x.2 == (j : Int)) = true := by rw [hv.1, hv.2]; simp
             have HO := Lib.hid (HU2.out.next HEL.out (endOk_of HA.out HPP.out HM.out HX.out hv))
             clear hv HNS
             refine wp_region_held_drew (S := fun w' => w'.cell? ⟨w.heap.size, 0, none⟩ = some (.slice (some ad) n.es.length c0) ∧ w'.cell? ⟨wr.heap.size, 0, none⟩ = some (.int .i64 (a : Int)) ∧ w'.cell? ⟨wr.heap.size, 1, none⟩ = some (.int .i64 (p : Int)) ∧ w'.cell? (ad.add a) = some (.slice (some ⟨b2, o2, none⟩) m.length cm) ∧ w'.cell? ⟨b2, o2 + p * 2, none⟩ = some (.int .i64 x.1) ∧ w'.cell? ⟨b2, o2 + p * 2 + 1, none⟩ = some (.int .i64 x.2)) (by kernel_rfl) ?_ (fun hHeld => ?_)
             ·
              go_keep
             refine stk 0 54 ?_
             refine stk 1 55 ?_
             refine stk 2 56 ?_
             refine stk 3 57 ?_
             refine stk 4 58 ?_
             refine stk 5 59 ?_
             refine tr 6 rfl (by kernel_rfl) (fun K hK => ?_)
             go_simp
             go_at_call 22
             refine (spec_l1In _ _ _ _).mono ?_
             rintro e w' ⟨rfl, rfl⟩
             rw [show IntKind.i64.wrap ((n.es.length : Int) - 1) = (n.es.length : Int) - 1 from IntWalk.i64_in _ (by omega), g]
             refine hK.out _ _ ?_ (fun hHeld => ?_)
             ·
              go_keep
             clear hK K
             try simp only [Act.put, pu]
             refine stk 7 61 ?_
             refine stk 8 62 ?_
             refine stk 9 63 ?_
             refine stk 10 64 ?_
             refine stk 11 65 ?_
             refine stk 12 66 ?_
             refine stk 13 67 ?_
             refine stk 14 68 ?_
             refine stk 15 69 ?_
             refine stk 16 70 ?_
             refine stk 17 71 ?_
             refine stk 18 72 ?_
             refine tr 19 rfl (by kernel_rfl) (fun K hK => ?_)
             go_simp
             go_at_call 22
             refine (spec_l1In _ _ _ _).mono ?_
             rintro e w' ⟨rfl, rfl⟩
             rw [show IntKind.i64.wrap ((m.length : Int) - 1) = (m.length : Int) - 1 from IntWalk.i64_in _ (by omega), g2']
             refine hK.out _ _ ?_ (fun hHeld => ?_)
             ·
              go_keep
             clear hK K
             try simp only [Act.put, pu]
             refine stk 20 74 ?_
             refine stk 21 75 ?_
             refine stk 22 76 ?_
             refine stk 23 77 ?_
             refine stk 24 78 ?_
             refine stk 25 79 ?_
             refine stk 26 80 ?_
             refine stk 27 81 ?_
             refine stk 28 82 ?_
             refine stk 29 83 ?_
             refine stk 30 84 ?_
             refine stk 31 85 ?_
             refine stk 32 86 ?_
             refine stk 33 87 ?_
             refine stk 34 88 ?_
             refine stk 35 89 ?_
             refine stk 36 90 ?_
             refine stk 37 91 ?_
             refine wpAnyH_done (by kernel_rfl) ?_ _
             go_wp2_with fail
             go_roundw
             case rel => exact ⟨hb2.drew, j + 1, by omega, by go_num, HO.out⟩
             case measure => simp [intOf]; omega
            ·
             have kq : (x.1 == (k : Int) && x.2 == (j : Int)) = false := by
              rw [Bool.and_eq_false_iff, beq_eq_false_iff_ne, beq_eq_false_iff_ne]
              by_cases h1 : x.1 = (k : Int)
              ·
               exact .inr fun h2 => hv ⟨h1, h2⟩
              ·
               exact .inl h1
             have HF := Lib.hid (HNS.out (endOk_no3 HA.out HPP.out HM.out HX.out hv))
             clear hv HNS
             refine wp_region_held_drew (S := fun w' => w'.cell? ⟨w.heap.size, 0, none⟩ = some (.slice (some ad) n.es.length c0) ∧ w'.cell? ⟨wr.heap.size, 0, none⟩ = some (.int .i64 (a : Int)) ∧ w'.cell? ⟨wr.heap.size, 1, none⟩ = some (.int .i64 (p : Int)) ∧ w'.cell? (ad.add a) = some (.slice (some ⟨b2, o2, none⟩) m.length cm) ∧ w'.cell? ⟨b2, o2 + p * 2, none⟩ = some (.int .i64 x.1) ∧ w'.cell? ⟨b2, o2 + p * 2 + 1, none⟩ = some (.int .i64 x.2)) (by kernel_rfl) ?_ (fun hHeld => ?_)
             ·
              go_keep
             refine stk 0 54 ?_
             refine stk 1 55 ?_
             refine stk 2 56 ?_
             refine stk 3 57 ?_
             refine stk 4 58 ?_
             refine stk 5 59 ?_
             refine tr 6 rfl (by kernel_rfl) (fun K hK => ?_)
             go_simp
             go_at_call 22
             refine (spec_l1In _ _ _ _).mono ?_
             rintro e w' ⟨rfl, rfl⟩
             rw [show IntKind.i64.wrap ((n.es.length : Int) - 1) = (n.es.length : Int) - 1 from IntWalk.i64_in _ (by omega), g]
             refine hK.out _ _ ?_ (fun hHeld => ?_)
             ·
              go_keep
             clear hK K
             try simp only [Act.put, pu]
             refine stk 7 61 ?_
             refine stk 8 62 ?_
             refine stk 9 63 ?_
             refine stk 10 64 ?_
             refine stk 11 65 ?_
             refine stk 12 66 ?_
             refine stk 13 67 ?_
             refine stk 14 68 ?_
             refine stk 15 69 ?_
             refine stk 16 70 ?_
             refine stk 17 71 ?_
             refine stk 18 72 ?_
             refine tr 19 rfl (by kernel_rfl) (fun K hK => ?_)
             go_simp
             go_at_call 22
             refine (spec_l1In _ _ _ _).mono ?_
             rintro e w' ⟨rfl, rfl⟩
             rw [show IntKind.i64.wrap ((m.length : Int) - 1) = (m.length : Int) - 1 from IntWalk.i64_in _ (by omega), g2']
             refine hK.out _ _ ?_ (fun hHeld => ?_)
             ·
              go_keep
             clear hK K
             try simp only [Act.put, pu]
             refine stk 20 74 ?_
             refine stk 21 75 ?_
             refine stk 22 76 ?_
             refine stk 23 77 ?_
             refine stk 24 78 ?_
             refine stk 25 79 ?_
             refine stk 26 80 ?_
             refine stk 27 81 ?_
             refine stk 28 82 ?_
             refine stk 29 83 ?_
             refine stk 30 84 ?_
             refine stk 31 85 ?_
             refine stk 32 86 ?_
             refine stk 33 87 ?_
             refine stk 34 88 ?_
             refine stk 35 89 ?_
             refine stk 36 90 ?_
             refine stk 37 91 ?_
             refine wpAnyH_done (by kernel_rfl) ?_ _
             go_wp2_with fail
             go_ret
             exact ⟨ret_bool HF.out.symm, hB.drew⟩
         ·
          have hl2 : l.length ≤ j := by omega
          go_wp2_with fail
          refine ⟨⟨bl_trans hb1 hb2, k + 1, by omega, by go_num, HU.out.next HL.out h6 HU2.out hl2⟩, ?_⟩
          simp [intOf]
          omega
       ·
        have HF := Lib.hid (net_no6 HL.out h6)
        go_wp2_with fail
        go_ret
        exact ⟨ret_bool HF.out.symm, hB⟩
      ·
       have HF := Lib.hid (net_end HH.out HU.out (by omega))
       go_wp2_with fail
       go_ret
       exact ⟨ret_bool HF.out.symm, hB⟩
   ·
    have kq : (((n.ins.length : Nat) : Int) != (n.es.length : Int)) = true := by rw [bne_iff_ne]; omega
    have HF := Lib.hid (net_noH (n := n) fun hh => g3 hh.2.2.1)
    clear g3
    go_wp2_with fail
    go_ret
    exact ⟨ret_bool HF.out.symm, hB⟩
end
section
open Go.RowKit
set_option linter.all false
end
section
open Go.RowKit
set_option linter.all false
/-! ### The number of a situation -/
/-! ### The states of a number -/
end
section
open Go.RowKit
set_option linter.all false
end
end Go.Proofs.YtehkcodbcnhhoaaGreat
namespace Go.Proofs.YtehkcodbcnhhoaaGreat
open Go.RowKit
set_option linter.all false

theorem closure_within (x lo hi : Int) (a b : Nat) (w : World) (ha : w.cell? ⟨a, 0, none⟩ = some (.int .i64 lo)) (hb : w.cell? ⟨b, 0, none⟩ = some (.int .i64 hi)) :
    Calls Tryz.prog 98 #[.int .i64 x, .pointer (some ⟨a, 0, none⟩), .pointer (some ⟨b, 0, none⟩)] w fun e w' => e = .returned (.bool (!inB x lo hi)) ∧ w = w' := by
  go_enter Tryz.func98, Tryz.ntmps98
  go_wp2_with (go_at_call 31; refine (impl_within _ _ _ _).mono ?_; rintro e w' ⟨rfl, rfl⟩)
  go_ret
  exact ⟨rfl, rfl⟩
def NotIdx (xs : List Int) (lo hi : Int) (w : World) (e : Ending) (w' : World) : Prop := ∃ i : Int, e = .returned (.int .i64 i) ∧ -1 ≤ i ∧ i ≤ xs.length ∧ decide (0 ≤ i) = !allB xs lo hi ∧ w = w'
theorem indexFunc_within (v : Value) (xs : List Int) (lo hi : Int) (a b : Nat) (w : World) (h : IntsR w w.heap.size v xs) (ha : w.cell? ⟨a, 0, none⟩ = some (.int .i64 lo)) (hb : w.cell? ⟨b, 0, none⟩ = some (.int .i64 hi)) :
  Calls Tryz.prog 108 #[v, .func (.func 98) #[] #[.pointer (some ⟨a, 0, none⟩), .pointer (some ⟨b, 0, none⟩)]] w (NotIdx xs lo hi w) := by
 obtain ⟨A, c, rfl, h1, h2, h3⟩ := h.open_
 unfold maxLen at h2
 clear h
 go_enter Tryz.func108, Tryz.ntmps108
 go_wp2_with fail
 go_loopw [8, 5] (fun i _ wr => AllRel (fun x => inB x lo hi) xs w i wr) (fun i _ _ => xs.length - (intOf i).toNat)
 case atStart => exact ⟨rfl, 0, Nat.zero_le _, rfl, fun _ _ h => absurd h (by omega)⟩
 case round =>
  obtain ⟨rfl, k, hk, rfl, hup⟩ := hrel
  have HU := Lib.hid hup; clear hup
  by_cases hlt : k < xs.length
  ·
   obtain ⟨x, hx⟩ : ∃ x, xs[k]? = some x := ⟨xs[k], List.getElem?_eq_getElem hlt⟩
   obtain ⟨ad, rfl, hb', hc⟩ := h3 (by omega)
   have hcell := hc k x hx
   have HX := Lib.hid hx
   clear h3 hc hx
   cases hp : inB x lo hi with
   | true =>
    go_wp2_with (go_at_call 98; refine (closure_within x lo hi a b _ ha hb).mono ?_; rintro e w' ⟨rfl, rfl⟩)
    go_roundw
    case rel => exact ⟨rfl, k + 1, by omega, by go_num, HU.out.next HX.out hp⟩
    case measure => simp [intOf]; omega
   | false =>
    go_wp2_with (go_at_call 98; refine (closure_within x lo hi a b _ ha hb).mono ?_; rintro e w' ⟨rfl, rfl⟩)
    go_ret
    exact ⟨k, rfl, by omega, by omega, by rw [allB_f HX.out hp]; simp, rfl⟩
  ·
   go_wp2
   go_ret
   exact ⟨-1, rfl, by omega, by omega, by rw [allB_t (HU.out.all (by omega))]; simp, rfl⟩
theorem containsFunc_within (v : Value) (xs : List Int) (lo hi : Int) (a b : Nat) (w : World) (h : IntsR w w.heap.size v xs) (ha : w.cell? ⟨a, 0, none⟩ = some (.int .i64 lo)) (hb : w.cell? ⟨b, 0, none⟩ = some (.int .i64 hi)) :
    Calls Tryz.prog 97 #[v, .func (.func 98) #[] #[.pointer (some ⟨a, 0, none⟩), .pointer (some ⟨b, 0, none⟩)]] w fun e w' => e = .returned (.bool (!allB xs lo hi)) ∧ w = w' := by
  have HH := Lib.hid h; clear h
  have HA := Lib.hid ha; clear ha
  have HB := Lib.hid hb; clear hb
  go_enter Tryz.func97, Tryz.ntmps97
  go_wp2_with fail
  refine (indexFunc_within v xs lo hi a b w HH.out HA.out HB.out).mono ?_
  rintro e w' ⟨i, rfl, h1, h2, h3, rfl⟩
  have H3 := Lib.hid h3; clear h3
  go_wp2_with fail
  go_ret
  exact ⟨ret_bool H3.out, rfl⟩
theorem impl_allWithin (v : Value) (xs : List Int) (lo hi : Int) (w : World) (h : IntsR w w.heap.size v xs) :
    Calls Tryz.prog 80 #[v, .int .i64 lo, .int .i64 hi] w fun e w' => e = .returned (.bool (allB xs lo hi)) ∧ Below w.heap.size w w' := by
  have hmf : ∀ (fn : Fn) (first cap : Array Value) (w : World), (Instr.makeFunc fn first cap).run Tryz.prog w = .ok (.func fn first cap) w := fun _ _ _ _ => rfl
  have HH := Lib.hid h; clear h
  go_enter Tryz.func80, Tryz.ntmps80
  go_wp2_with fail
  refine (containsFunc_within v xs lo hi w.heap.size (w.heap.size + 1) _ ((HH.out.below (bl_alloc (bl_alloc (Below.refl _ _) _) _)).more (by simp; omega)) ?_ ?_).mono ?_
  · rw [World.cell?_alloc_past _ _ _ (by simp), World.cell?_alloc_at _ _ _ _ rfl]; rfl
  · rw [World.cell?_alloc_at _ _ _ _ (by simp)]; rfl
  rintro e w' ⟨rfl, rfl⟩
  go_wp2_with fail
  go_ret
  exact ⟨ret_bool (by simp), bl_alloc (bl_alloc (Below.refl _ _) _) _⟩
end Go.Proofs.YtehkcodbcnhhoaaGreat
namespace Go.Proofs
open Go.Shelf
def Tryz.lays189_ren : Go.Shelf.Ren := ⟨fun | 189 => 100 | 125 => 110 | 257 => 109 | 128 => 122 | 129 => 123 | 294 => 113 | 295 => 114 | 296 => 115 | 297 => 116 | 298 => 117 | 299 => 118 | 216 => 119 | 300 => 120 | 301 => 121 | 328 => 124 | 329 => 125 | 330 => 126 | 331 => 127 | 332 => 128 | 215 => 129 | 343 => 130 | n => n, fun | 28 => 24 | 3 => 3 | 46 => 128 | 0 => 0 | 51 => 138 | 53 => 141 | 4 => 4 | 183 => 146 | 182 => 145 | 131 => 149 | 5 => 5 | 9 => 9 | 218 => 153 | 222 => 157 | 228 => 159 | 229 => 160 | n => n, fun | n => n⟩
theorem Tryz.lays189 : Go.Proofs.Lays.n189 Tryz.prog Tryz.lays189_ren := {
 mixed := by kernel_rfl
 f125 := Tryz.func110.trans (congrArg some (by kernel_rfl))
 f128 := Tryz.func122.trans (congrArg some (by kernel_rfl))
 f129 := Tryz.func123.trans (congrArg some (by kernel_rfl))
 f189 := Tryz.func100.trans (congrArg some (by kernel_rfl))
 f215 := Tryz.func129.trans (congrArg some (by kernel_rfl))
 f216 := Tryz.func119.trans (congrArg some (by kernel_rfl))
 f257 := Tryz.func109.trans (congrArg some (by kernel_rfl))
 f294 := Tryz.func113.trans (congrArg some (by kernel_rfl))
 f295 := Tryz.func114.trans (congrArg some (by kernel_rfl))
 f296 := Tryz.func115.trans (congrArg some (by kernel_rfl))
 f297 := Tryz.func116.trans (congrArg some (by kernel_rfl))
 f298 := Tryz.func117.trans (congrArg some (by kernel_rfl))
 f299 := Tryz.func118.trans (congrArg some (by kernel_rfl))
 f300 := Tryz.func120.trans (congrArg some (by kernel_rfl))
 f301 := Tryz.func121.trans (congrArg some (by kernel_rfl))
 f328 := Tryz.func124.trans (congrArg some (by kernel_rfl))
 f329 := Tryz.func125.trans (congrArg some (by kernel_rfl))
 f330 := Tryz.func126.trans (congrArg some (by kernel_rfl))
 f331 := Tryz.func127.trans (congrArg some (by kernel_rfl))
 f332 := Tryz.func128.trans (congrArg some (by kernel_rfl))
 f343 := Tryz.func130.trans (congrArg some (by kernel_rfl))
 t0 := Tryz.underlying0
 a0 := Tryz.isAgg0
 z0 := Tryz.sizeOf0
 v0 := Tryz.zeroValue0
 t3 := Tryz.underlying3
 a3 := Tryz.isAgg3
 z3 := Tryz.sizeOf3
 v3 := Tryz.zeroValue3
 t4 := Tryz.underlying4
 a4 := Tryz.isAgg4
 z4 := Tryz.sizeOf4
 v4 := Tryz.zeroValue4
 t5 := Tryz.underlying5
 a5 := Tryz.isAgg5
 z5 := Tryz.sizeOf5
 v5 := Tryz.zeroValue5
 t9 := Tryz.underlying9
 a9 := Tryz.isAgg9
 z9 := Tryz.sizeOf9
 v9 := Tryz.zeroValue9
 t28 := Tryz.underlying24
 a28 := Tryz.isAgg24
 z28 := Tryz.sizeOf24
 v28 := Tryz.zeroValue24
 t46 := Tryz.underlying128
 a46 := Tryz.isAgg128
 z46 := Tryz.sizeOf128
 v46 := Tryz.zeroValue128
 t51 := Tryz.underlying138
 a51 := Tryz.isAgg138
 z51 := Tryz.sizeOf138
 v51 := Tryz.zeroValue138
 t53 := Tryz.underlying141
 a53 := Tryz.isAgg141
 z53 := Tryz.sizeOf141
 v53 := Tryz.zeroValue141
 t131 := Tryz.underlying149
 a131 := Tryz.isAgg149
 z131 := Tryz.sizeOf149
 v131 := Tryz.zeroValue149
 t182 := Tryz.underlying145
 a182 := Tryz.isAgg145
 z182 := Tryz.sizeOf145
 v182 := Tryz.zeroValue145
 t183 := Tryz.underlying146
 a183 := Tryz.isAgg146
 z183 := Tryz.sizeOf146
 v183 := Tryz.zeroValue146
 t218 := Tryz.underlying153
 a218 := Tryz.isAgg153
 z218 := Tryz.sizeOf153
 v218 := Tryz.zeroValue153
 t222 := Tryz.underlying157
 a222 := Tryz.isAgg157
 z222 := Tryz.sizeOf157
 v222 := Tryz.zeroValue157
 t228 := Tryz.underlying159
 a228 := Tryz.isAgg159
 z228 := Tryz.sizeOf159
 v228 := Tryz.zeroValue159
 t229 := Tryz.underlying160
 a229 := Tryz.isAgg160
 z229 := Tryz.sizeOf160
 v229 := Tryz.zeroValue160 }
open Go.Sort Go.RowKit in
theorem Tryz.slices_Sort_int (blk off cap : Nat) (zs : List Int) (w : World) (hH : Holds (Value.int .i64) w blk off zs.toArray) (hblk : blk < w.heap.size) (hsz : zs.length < 4611686018427387904) :
    Calls Tryz.prog 100 #[.slice (some ⟨blk, off, none⟩) zs.length cap] w fun e w' =>
      e = .returned (.tuple #[]) ∧ ∃ n os, w' = grow (putRow (Value.int .i64) (Sort.ahead w n) blk off (zs.mergeSort fun x y => decide (x ≤ y)).toArray) os := Any.slices_Sort_int Tryz.lays189 blk off cap zs w hH hblk hsz
def Tryz.lays212_ren : Go.Shelf.Ren := ⟨fun | 212 => 102 | 263 => 111 | 264 => 112 | n => n, fun | 46 => 128 | 51 => 138 | 146 => 139 | 53 => 141 | 148 => 142 | n => n, fun | n => n⟩
theorem Tryz.lays212 : Go.Proofs.Lays.n212 Tryz.prog Tryz.lays212_ren := {
  mixed := by kernel_rfl
  f212 := Tryz.func102.trans (congrArg some (by kernel_rfl))
  f263 := Tryz.func111.trans (congrArg some (by kernel_rfl))
  f264 := Tryz.func112.trans (congrArg some (by kernel_rfl))
  t46 := Tryz.underlying128
  a46 := Tryz.isAgg128
  z46 := Tryz.sizeOf128
  v46 := Tryz.zeroValue128
  t51 := Tryz.underlying138
  a51 := Tryz.isAgg138
  z51 := Tryz.sizeOf138
  v51 := Tryz.zeroValue138
  t53 := Tryz.underlying141
  a53 := Tryz.isAgg141
  z53 := Tryz.sizeOf141
  v53 := Tryz.zeroValue141
  t146 := Tryz.underlying139
  a146 := Tryz.isAgg139
  z146 := Tryz.sizeOf139
  v146 := Tryz.zeroValue139
  t148 := Tryz.underlying142
  a148 := Tryz.isAgg142
  z148 := Tryz.sizeOf142
  v148 := Tryz.zeroValue142 }
open Go.RowKit Go.Lib in
/-- math/bits.Mul: "Mul returns the full-width product of x and y": on a machine of 64 bits: Mul64's. (LAID: no walk: one application.) -/
theorem Tryz.bits_Mul (x y : Nat) (hx : x < 18446744073709551616) (hy : y < 18446744073709551616) (w : World) :
    Calls Tryz.prog 102 #[.int .u64 x, .int .u64 y] w fun e w' => e = .returned (.tuple #[.int .u64 ((x * y / 18446744073709551616 : Nat) : Int), .int .u64 ((x * y % 18446744073709551616 : Nat) : Int)]) ∧ w' = w := Any.bits_Mul Tryz.lays212 x y hx hy w
def Tryz.lays107_ren : Go.Shelf.Ren := ⟨fun | 107 => 87 | 108 => 103 | n => n, fun | 28 => 24 | 3 => 3 | 4 => 4 | 0 => 0 | n => n, fun | n => n⟩
theorem Tryz.lays107 : Go.Proofs.Lays.n107 Tryz.prog Tryz.lays107_ren := {
  mixed := by kernel_rfl
  f107 := Tryz.func87.trans (congrArg some (by kernel_rfl))
  f108 := Tryz.func103.trans (congrArg some (by kernel_rfl))
  t0 := Tryz.underlying0
  a0 := Tryz.isAgg0
  z0 := Tryz.sizeOf0
  v0 := Tryz.zeroValue0
  t3 := Tryz.underlying3
  a3 := Tryz.isAgg3
  z3 := Tryz.sizeOf3
  v3 := Tryz.zeroValue3
  t4 := Tryz.underlying4
  a4 := Tryz.isAgg4
  z4 := Tryz.sizeOf4
  v4 := Tryz.zeroValue4
  t28 := Tryz.underlying24
  a28 := Tryz.isAgg24
  z28 := Tryz.sizeOf24
  v28 := Tryz.zeroValue24 }
open Go.Lib in
/-- slices.Contains at []int: "Contains reports whether v is present in s.": IT RETURNS 'elements.contains v'; the world is as it was. ITS CALLEE slices.Index IS MET BY ITS OWN CONTRACT OFF THE SHELF (lay that first): no loop is walked here. (LAID: no walk: one application.) -/
theorem Tryz.slices_Contains_int (b off n c : Nat) (zs : List Int) (x : Int) (w : World) (hz : n ≤ zs.length) (hbig : n ≤ 9223372036854775807) (hc : ∀ j, j < zs.length → w.cell? ⟨b, off + j, none⟩ = some (.int .i64 (zs.getD j 0))) :
    Calls Tryz.prog 87 #[.slice (some ⟨b, off, none⟩) n c, .int .i64 x] w fun e w' => e = .returned (.bool ((zs.take n).contains x)) ∧ w' = w := Any.slices_Contains_int Tryz.lays107 b off n c zs x w hz hbig hc
open Go.Lib in
/-- The same at a slice of length 0, a nil one too. (LAID: no walk: one application.) -/
theorem Tryz.slices_Contains_int_empty (a : Option Addr) (c : Nat) (x : Int) (w : World) :
    Calls Tryz.prog 87 #[.slice a 0 c, .int .i64 x] w fun e w' => e = .returned (.bool false) ∧ w' = w := Any.slices_Contains_int_empty Tryz.lays107 a c x w
def Tryz.laysNm215_ren : Go.Shelf.Ren := ⟨fun | 15 => 99 | n => n, fun | 22 => 24 | 3 => 3 | 4 => 4 | n => n, fun | n => n⟩
theorem Tryz.laysNm215 : Go.Proofs.Lays2.n15 Tryz.prog Tryz.laysNm215_ren := {
  mixed := by kernel_rfl
  f15 := Tryz.func99.trans (congrArg some (by kernel_rfl))
  t3 := Tryz.underlying3
  a3 := Tryz.isAgg3
  z3 := Tryz.sizeOf3
  v3 := Tryz.zeroValue3
  t4 := Tryz.underlying4
  a4 := Tryz.isAgg4
  z4 := Tryz.sizeOf4
  v4 := Tryz.zeroValue4
  t22 := Tryz.underlying24
  a22 := Tryz.isAgg24
  z22 := Tryz.sizeOf24
  v22 := Tryz.zeroValue24
  i3 := by kernel_rfl }
open Go.RowKit Go.Lib in
/-- slices.Clone at []int: "Clone returns a copy of the slice. The elements are copied using assignment, so this is a shallow clone. The result may have additional unused capacity. The result preserves the nilness of s.": OF A SLICE THAT IS NOT nil IT RETURNS A SLICE THAT IS NOT nil, OF THE SAME ELEMENTS, IN MEMORY OF THE CALL's OWN: in the how-to's words (6f): 'w'.ownsRow B e 1 v' n cells': v' begins at the head of a row among the blocks from B on (B: the heap's size at the call), not frozen, whose first cells are the elements · 'Below B w w'': below B all is as it was. The capacity is whatever the run-time gives. 'zs': what the cells behind the slice's address hold; 'zs.take n': its elements. (LAID: no walk: one application.) -/
theorem Tryz.slices_Clone_int (b off n c : Nat) (zs : List Int) (w : World) (hz : n ≤ zs.length) (hbig : n * 8 ≤ 140737488355328) (hc : ∀ j, j < zs.length → w.cell? ⟨b, off + j, none⟩ = some (.int .i64 (zs.getD j 0))) :
    Calls Tryz.prog 99 #[.slice (some ⟨b, off, none⟩) n c] w fun e w' => ∃ v', e = .returned v' ∧ w'.ownsRow w.heap.size 3 1 v' n ((zs.take n).map (Value.int .i64)) ∧ v' ≠ .slice none 0 0 ∧ Below w.heap.size w w' := Any.slices_Clone_int Tryz.laysNm215 b off n c zs w hz hbig hc
open Go.RowKit Go.Lib in
/-- The same at nil: nil comes back; the world is as it was. (LAID: no walk: one application.) -/
theorem Tryz.slices_Clone_int_nil (n c : Nat) (w : World) :
    Calls Tryz.prog 99 #[.slice none n c] w fun e w' => e = .returned (.slice none 0 0) ∧ w' = w := Any.slices_Clone_int_nil Tryz.laysNm215 n c w
open Go.RowKit Go.Lib in
/-- The same at a slice of length 0 that is not nil, WHATEVER ITS ADDRESS (no cell is asked for): a slice that is not nil and owns nothing comes back. (LAID: no walk: one application.) -/
theorem Tryz.slices_Clone_int_zero (a : Addr) (c : Nat) (w : World) :
    Calls Tryz.prog 99 #[.slice (some a) 0 c] w fun e w' => ∃ v', e = .returned v' ∧ w'.ownsRow w.heap.size 3 1 v' 0 [] ∧ v' ≠ .slice none 0 0 ∧ Below w.heap.size w w' := Any.slices_Clone_int_zero Tryz.laysNm215 a c w
end Go.Proofs
namespace Go.Proofs.YtehkcodbcnhhoaaGreat
section
open Go.RowKit
set_option linter.all false
def RiseTo (xs : List Int) (lo hi : Int) (k : Nat) : Prop := ∀ (i : Nat) (x : Int), i < k → xs[i]? = some x → inB x lo hi = true ∧ (0 < i → ∀ y, xs[i - 1]? = some y → y < x)
noncomputable def riseB (xs : List Int) (lo hi : Int) : Bool := propB (risingP xs lo hi)
theorem RiseTo.next {xs : List Int} {lo hi : Int} {k : Nat} {x : Int} (h : RiseTo xs lo hi k) (hx : xs[k]? = some x) (h1 : inB x lo hi = true) (h2 : 0 < k → ∀ y, xs[k - 1]? = some y → y < x) : RiseTo xs lo hi (k + 1) := fun i y hi' hy => by
  by_cases e : i = k
  · subst e
    obtain rfl := Option.some.inj (hx.symm.trans hy)
    exact ⟨h1, h2⟩
  · exact h i y (by omega) hy
theorem rise_no1 {xs : List Int} {lo hi x : Int} {k : Nat} (hx : xs[k]? = some x) (h : inB x lo hi = false) : riseB xs lo hi = false := propB_f fun hp => by
  rw [inB_t (hp.1 x (List.mem_of_getElem? hx))] at h
  cases h
theorem rise_no2 {xs : List Int} {lo hi x y : Int} {k : Nat} (hx : xs[k + 1]? = some x) (hy : xs[k]? = some y) (h : ¬ y < x) : riseB xs lo hi = false := propB_f fun hp => h (hp.2 k y x hy hx)
theorem rise_end {xs : List Int} {lo hi : Int} {k : Nat} (h : RiseTo xs lo hi k) (hk : xs.length ≤ k) : riseB xs lo hi = true := propB_t ⟨fun x hx => by
    obtain ⟨j, hj⟩ := List.mem_iff_getElem?.1 hx
    have := (h j x (by have := (List.getElem?_eq_some_iff.1 hj).1; omega) hj).1
    unfold inB at this
    exact of_decide_eq_true this, fun i a b ha hb => (h (i + 1) b (by have := (List.getElem?_eq_some_iff.1 hb).1; omega) hb).2 (by omega) a (by simpa using ha)⟩
def RsRel (xs : List Int) (lo hi : Int) (w : World) (i : Value) (wr : World) : Prop := w = wr ∧ ∃ k : Nat, k ≤ xs.length ∧ i = .int .i64 k ∧ RiseTo xs lo hi k
theorem impl_increasing (v : Value) (xs : List Int) (lo hi : Int) (w : World) (h : IntsR w w.heap.size v xs) :
  Calls Tryz.prog 101 #[v, .int .i64 lo, .int .i64 hi] w fun e w' => e = .returned (.bool (riseB xs lo hi)) ∧ w = w' := by
 obtain ⟨A, c, rfl, h1, h2, h3⟩ := h.open_
 unfold maxLen at h2
 clear h
 go_enter Tryz.func101, Tryz.ntmps101
 go_wp2_with fail
 go_loopw [7, 8, 11] (fun _ _ i wr => RsRel xs lo hi w i wr) (fun _ _ i _ => xs.length - (intOf i).toNat)
 case atStart => exact ⟨rfl, 0, Nat.zero_le _, rfl, fun _ _ h => absurd h (by omega)⟩
 case round =>
  obtain ⟨rfl, k, hk, rfl, hup⟩ := hrel
  have HU := Lib.hid hup; clear hup
  by_cases hlt : k < xs.length
  ·
   obtain ⟨x, hx⟩ : ∃ y, xs[k]? = some y := ⟨xs[k], List.getElem?_eq_getElem hlt⟩
   obtain ⟨ad, rfl, hb, hc⟩ := h3 (by omega)
   have hcell := hc k x hx
   have HX := Lib.hid hx
   cases hp : inB x lo hi with
   | false =>
    clear h3 hc hx
    go_wp2_with (go_at_call 31; refine (impl_within _ _ _ _).mono ?_; rintro e w' ⟨rfl, rfl⟩)
    go_ret
    exact ⟨ret_bool (rise_no1 HX.out hp).symm, rfl⟩
   | true =>
    by_cases h0 : 0 < k
    ·
     obtain ⟨j, hj⟩ : ∃ j, j = k - 1 := ⟨_, rfl⟩
     have HJ := Lib.hid (show k = j + 1 by omega)
     have hjl : j < xs.length := by omega
     obtain ⟨y, hy⟩ : ∃ y, xs[j]? = some y := ⟨_, List.getElem?_eq_getElem hjl⟩
     have hcell2 := hc j y hy
     have HY := Lib.hid hy
     have hj1 : (k : Int) - 1 = (j : Int) := by omega
     clear hj
     clear h3 hc hx hy
     by_cases hlt2 : y < x
     ·
      go_wp2_with (go_at_call 31; refine (impl_within _ _ _ _).mono ?_; rintro e w' ⟨rfl, rfl⟩)
      go_roundw
      case rel => exact ⟨rfl, k + 1, by omega, by go_num, HU.out.next HX.out hp fun _ z hz => by
       rw [HJ.out, Nat.add_sub_cancel] at hz
       obtain rfl := Option.some.inj (HY.out.symm.trans hz)
       exact hlt2⟩
      case measure => simp [intOf]; omega
     ·
      go_wp2_with (go_at_call 31; refine (impl_within _ _ _ _).mono ?_; rintro e w' ⟨rfl, rfl⟩)
      go_ret
      exact ⟨ret_bool (rise_no2 (k := j) (by rw [← HJ.out]; exact HX.out) HY.out (by omega)).symm, rfl⟩
    ·
     clear h3 hc hx
     go_wp2_with (go_at_call 31; refine (impl_within _ _ _ _).mono ?_; rintro e w' ⟨rfl, rfl⟩)
     go_roundw
     case rel => exact ⟨rfl, k + 1, by omega, by go_num, HU.out.next HX.out hp fun h => absurd h (by omega)⟩
     case measure => simp [intOf]; omega
  ·
   go_wp2
   go_ret
   exact ⟨ret_bool (rise_end HU.out (by omega)).symm, rfl⟩
theorem impl_inputsOk (v : Value) (xs : List Int) (n : Nat) (w : World) (h : IntsR w w.heap.size v xs) (hn : n ≤ 2000000) :
    Calls Tryz.prog 83 #[v, .int .i64 (n : Int)] w fun e w' => e = .returned (.bool (decide (xs.length = n) && allB xs 0 9)) ∧ Below w.heap.size w w' := by
  have HH := Lib.hid h
  obtain ⟨A, c, rfl, h1, h2, h3⟩ := h.open_
  unfold maxLen at h2
  clear h h3
  by_cases hl : xs.length = n
  · have kq : (((xs.length : Nat) : Int) == (n : Int)) = true := by rw [hl]; simp
    have HL := Lib.hid hl; clear hl
    go_enter Tryz.func83, Tryz.ntmps83
    go_wp2_with fail
    refine (impl_allWithin _ xs 0 9 w HH.out).mono ?_
    rintro e w1 ⟨rfl, hb1⟩
    go_wp2_with fail
    go_ret
    exact ⟨ret_bool (by rw [decide_eq_true HL.out]; rfl), hb1⟩
  · have kq : (((xs.length : Nat) : Int) == (n : Int)) = false := by rw [beq_eq_false_iff_ne]; omega
    have HL := Lib.hid hl; clear hl
    go_enter Tryz.func83, Tryz.ntmps83
    go_wp2_with fail
    go_ret
    exact ⟨ret_bool (by rw [decide_eq_false HL.out]; rfl), Below.refl _ _⟩
theorem impl_hasNode (ve vi vn : Value) (n : Net) (x : Int) (w : World) (h : NetR w w.heap.size ve vi vn n) (hz : n.es.length ≤ 2000000) :
    Calls Tryz.prog 86 #[.agg #[ve, vi, vn], .int .i64 x] w fun e w' => e = .returned (.bool (inB x 0 ((n.es.length : Int) - 1))) ∧ Below w.heap.size w w' := by
  obtain ⟨⟨A0, m0, c0, rfl⟩, ⟨A1, m1, c1, rfl⟩, A2, m2, c2, rfl⟩ := h.slices
  obtain ⟨w0, hw0, hB, HD, hz0, HS0⟩ := box3 w (.slice A0 m0 c0) (.slice A1 m1 c1) (.slice A2 m2 c2) 43
  have HN0 := Lib.hid h; have HN := Lib.hid (h.up hB); clear h
  have HW0 := Lib.hid hw0; clear hw0
  obtain ⟨q0, q1, q2, qf⟩ := cells3 HD
  obtain ⟨hm0, -, -⟩ := HN.out.e.len_slice
  subst hm0
  have hwr : IntKind.i64.wrap ((n.es.length : Int) - 1) = (n.es.length : Int) - 1 := IntWalk.i64_in _ (by omega)
  go_enter Tryz.func86, Tryz.ntmps86
  go_wp2_with (go_at_call 31; refine (impl_within _ _ _ _).mono ?_; rintro e w' ⟨rfl, rfl⟩)
  go_ret
  rw [← HW0.out]
  exact ⟨rfl, hB⟩
noncomputable def portB (n : Net) (x p : Int) : Bool := propB (0 ≤ x ∧ 0 ≤ p ∧ ∃ l, n.es[x.toNat]? = some l ∧ p.toNat < l.length)
theorem port_no1 {n : Net} {x p : Int} (h : inB x 0 ((n.es.length : Int) - 1) = false) : portB n x p = false := propB_f fun ⟨h0, _, l, hl, _⟩ => by
  have := (List.getElem?_eq_some_iff.1 hl).1
  rw [inB_t (by omega)] at h
  cases h
theorem port_at {n : Net} {a : Nat} {p : Int} {l : Ends} (hl : n.es[a]? = some l) : portB n (a : Int) p = inB p 0 ((l.length : Int) - 1) := by
  cases h : inB p 0 ((l.length : Int) - 1) with
  | true =>
    obtain ⟨q, rfl, hq⟩ := inB_nat h
    exact propB_t ⟨by omega, by omega, l, by rw [Int.toNat_natCast]; exact hl, by rw [Int.toNat_natCast]; exact hq⟩
  | false =>
    refine propB_f fun ⟨_, h0, l', hl', hq⟩ => ?_
    rw [Int.toNat_natCast, hl] at hl'
    obtain rfl := Option.some.inj hl'
    rw [inB_t (by omega)] at h
    cases h
theorem impl_hasPort (ve vi vn : Value) (n : Net) (x p : Int) (w : World) (h : NetR w w.heap.size ve vi vn n) (hz : n.es.length ≤ 2000000) :
  Calls Tryz.prog 84 #[.agg #[ve, vi, vn], .int .i64 x, .int .i64 p] w fun e w' => e = .returned (.bool (portB n x p)) ∧ Below w.heap.size w w' := by
 obtain ⟨⟨A0, m0, c0, rfl⟩, ⟨A1, m1, c1, rfl⟩, A2, m2, c2, rfl⟩ := h.slices
 obtain ⟨w0, hw0, hB, HD, hz0, HS0⟩ := box3 w (.slice A0 m0 c0) (.slice A1 m1 c1) (.slice A2 m2 c2) 43
 have HN0 := Lib.hid h; have HN := Lib.hid (h.up hB); clear h
 have HW0 := Lib.hid hw0; clear hw0
 obtain ⟨q0, q1, q2, qf⟩ := cells3 HD
 obtain ⟨hm0, -, -⟩ := HN.out.e.len_slice
 subst hm0
 go_enter Tryz.func84, Tryz.ntmps84
 go_wp2_with fail
 rw [← HW0.out]
 refine (impl_hasNode _ _ _ n x w0 HN.out hz).mono ?_
 rintro e w1 ⟨rfl, hb1⟩
 have hzhb1 := hb1.size
 clear q0 q1 q2 qf
 replace HD := bk HD hb1
 replace HN := Lib.hid (HN.out.up hb1)
 replace hB := bl_trans hB hb1
 obtain ⟨q0, q1, q2, qf⟩ := cells3 HD
 cases g : inB x 0 ((n.es.length : Int) - 1) with
 | false =>
  go_wp2_with fail
  go_ret
  exact ⟨ret_bool (port_no1 g).symm, hB⟩
 | true =>
  obtain ⟨a, rfl, hal⟩ := inB_nat g
  obtain ⟨l, hl⟩ : ∃ y, n.es[a]? = some y := ⟨_, List.getElem?_eq_getElem hal⟩
  obtain ⟨ad, rfl⟩ := HN.out.e.some_ (by omega)
  obtain ⟨-, u, r0, hr⟩ := HN.out.e.at_ hl
  obtain ⟨A', c', rfl, hlc, hlm, -⟩ := hr
  unfold maxLen at hlm
  have HPA := Lib.hid (port_at (p := p) hl)
  have hwr : IntKind.i64.wrap ((l.length : Int) - 1) = (l.length : Int) - 1 := IntWalk.i64_in _ (by omega)
  clear hl
  go_wp2_with (go_at_call 31; refine (impl_within _ _ _ _).mono ?_; rintro e w' ⟨rfl, rfl⟩)
  go_ret
  exact ⟨ret_bool HPA.out.symm, hB⟩
end
section
open Go.RowKit Go.Sort Go.Lib
set_option linter.all false
theorem ints_cells {w : World} {ad : Addr} {xs : List Int} (h0 : 0 < xs.length) (h : ∀ j x, xs[j]? = some x → w.cell? (ad.add j) = some (.int .i64 x)) :
    ∃ b off, ad = ⟨b, off, none⟩ ∧ ∀ j, j < xs.length → w.cell? ⟨b, off + j, none⟩ = some (.int .i64 (xs.getD j 0)) := by
  obtain ⟨b, off, sp⟩ := ad
  have hs : sp = none := by
    have h1 := h 0 xs[0] (List.getElem?_eq_getElem h0)
    cases sp with
    | none => rfl
    | some s =>
      simp only [World.cell?, Addr.add] at h1
      split at h1 <;> simp at h1
  subst hs
  refine ⟨b, off, rfl, fun j hj => ?_⟩
  have h1 := h j xs[j] (List.getElem?_eq_getElem hj)
  rw [List.getD_eq_getElem?_getD, List.getElem?_eq_getElem hj, Option.getD_some, ← h1]
  rcases j with _ | j <;> simp [Addr.add]
theorem row_sl {w : World} {base n : Nat} {e : TypeId} {v : Value} {xs : List Value} (h : w.ownsRow base e 1 v n xs) : SlR w w.heap.size v xs := by
  have hl : xs.length = n := by simpa using h.1
  have hlt := h.lt
  rcases h.2 with ⟨rfl, e0⟩ | ⟨g, cap, cur, rfl, hb, hg, hn, hm, hs, ht⟩
  · exact ⟨none, 0, by rw [hl, e0], by omega, by unfold maxLen; omega, fun h => by omega⟩
  · refine ⟨some ⟨g, 0, none⟩, cap, by rw [hl], by omega, hm, fun _ => ⟨_, rfl, (hlt g rfl).2, fun j u hu => ?_⟩⟩
    have hj := (List.getElem?_eq_some_iff.1 hu).1
    have := h.cellAt j (by omega)
    rw [← hu, ← this]
    rcases j with _ | j <;> simp [Addr.add]
theorem below_grow (W : World) (os : Array Obj) : Below W.heap.size W (grow W os) :=
  ⟨rfl, rfl, rfl, by simp [grow], fun k hk => by simp only [grow]; rw [Array.getElem?_append_left hk]⟩
def RowPost (xs : List Int) (w : World) (e : Ending) (w' : World) : Prop := ∃ v', e = .returned v' ∧ w'.ownsRow w.heap.size 3 1 v' xs.length (xs.map (Value.int .i64)) ∧ (xs ≠ [] → v' ≠ .slice none 0 0) ∧ Below w.heap.size w w'
theorem impl_Clone (v : Value) (xs : List Int) (w : World) (h : IntsR w w.heap.size v xs) (hn : xs.length ≤ 2000000) : Calls Tryz.prog 99 #[v] w (RowPost xs w) := by
  obtain ⟨A, c, rfl, h1, h2, h3⟩ := h.open_
  by_cases h0 : xs.length = 0
  · obtain rfl : xs = [] := List.eq_nil_of_length_eq_zero h0
    cases A with
    | none =>
      refine (Tryz.slices_Clone_int_nil 0 c w).mono ?_
      rintro e w' ⟨rfl, rfl⟩
      exact ⟨_, rfl, World.ownsRow_nil _ _ _ _, fun h => absurd rfl h, Below.refl _ _⟩
    | some a =>
      refine (Tryz.slices_Clone_int_zero a c w).mono ?_
      rintro e w' ⟨v', rfl, k1, k2, k3⟩
      exact ⟨_, rfl, k1, fun _ => k2, k3⟩
  · obtain ⟨ad, rfl, hb, hc⟩ := h3 (by omega)
    obtain ⟨b, off, rfl, hcc⟩ := ints_cells (by omega) hc
    refine (Tryz.slices_Clone_int b off xs.length c xs w (Nat.le_refl _) (by omega) hcc).mono ?_
    rintro e w' ⟨v', rfl, k1, k2, k3⟩
    rw [List.take_length] at k1
    exact ⟨_, rfl, k1, fun _ => k2, k3⟩
theorem impl_Sort (v : Value) (xs : List Int) (base : Nat) (w : World) (h : w.ownsRow base 3 1 v xs.length (xs.map (Value.int .i64))) (hv : v ≠ .slice none 0 0) (hn : xs.length ≤ 2000000) :
  Calls Tryz.prog 100 #[v] w fun e w' => e = .returned (.tuple #[]) ∧ (∃ ys : List Int, ys.Perm xs ∧ ys.Pairwise (· ≤ ·) ∧ SlR w' w'.heap.size v (ys.map intV)) ∧ Below base w w' := by
 obtain ⟨g, cap, rfl, hg, hgl, hc, hm, -, hH⟩ := holds_of_ownsRow h hv
 refine (Tryz.slices_Sort_int g 0 cap xs w hH hgl (by omega)).mono ?_
 rintro e w' ⟨rfl, n, os, rfl⟩
 have hp := List.mergeSort_perm xs (fun x y => decide (x ≤ y))
 have ho := ownsRow_putRow (q := n) (k := xs.length) h (ys := xs.mergeSort fun x y => decide (x ≤ y)) (by rw [hp.length_eq]) (Nat.le_refl _)
 rw [List.take_of_length_le (by rw [hp.length_eq]; exact Nat.le_refl _)] at ho
 have hs := row_sl ho
 generalize hW : putRow (Value.int .i64) (Sort.ahead w n) g 0 (xs.mergeSort fun x y => decide (x ≤ y)).toArray = W at hs
 have hbW : Below base w W := by rw [← hW]; exact below_putRow (Below.refl _ _) hg
 have hbG : Below W.heap.size W (grow W os) := below_grow W os
 have hsz : base ≤ W.heap.size := by have := hbW.size; omega
 refine ⟨rfl, ⟨_, hp, ?_, (hs.below hbG).more hbG.size⟩, hbW.trans (hbG.mono hsz)⟩
 have := List.pairwise_mergeSort (le := fun x y : Int => decide (x ≤ y)) (fun a b c h1 h2 => by simp only [decide_eq_true_eq] at *; omega) (fun a b => by simp only [Bool.or_eq_true, decide_eq_true_eq]; omega) xs
 exact this.imp fun h => by simpa using h
theorem impl_idsOk (v : Value) (xs : List Int) (k : Nat) (w : World) (h : IntsR w w.heap.size v xs) (hn : xs.length ≤ 2000000) :
  Calls Tryz.prog 82 #[v, .int .i64 (k : Int)] w fun e w' => e = .returned (.bool (idsB xs k)) ∧ Below w.heap.size w w' := by
 have HH := Lib.hid h
 obtain ⟨A, c, rfl, h1, h2, h3⟩ := h.open_
 clear h h3
 by_cases h0 : xs.length = 0
 ·
  obtain rfl : xs = [] := List.eq_nil_of_length_eq_zero h0
  go_enter Tryz.func82, Tryz.ntmps82
  go_wp2_with fail
  go_ret
  exact ⟨ret_bool (propB_t ⟨(fun _ h => by cases h), List.nodup_nil, .inl rfl⟩).symm, Below.refl _ _⟩
 ·
  have HZ := Lib.hid h0
  have kq : (((xs.length : Nat) : Int) == (0 : Int)) = false := by rw [beq_eq_false_iff_ne]; omega
  clear h0
  go_enter Tryz.func82, Tryz.ntmps82
  go_wp2_with fail
  refine (impl_Clone _ xs w HH.out hn).mono ?_
  rintro e w1 ⟨v', rfl, ho, hv, hb1⟩
  have HB1 := Lib.hid hb1; clear hb1
  have HO := Lib.hid ho; clear ho
  have HV := Lib.hid hv; clear hv
  go_wp2_with fail
  refine (impl_Sort v' xs w.heap.size w1 HO.out (HV.out (fun e => HZ.out (by rw [e]; rfl))) hn).mono ?_
  rintro e w2 ⟨rfl, ⟨ys, hp, hs, hr⟩, hb2⟩
  have hb : Below w.heap.size w w2 := HB1.out.trans hb2
  have HB := Lib.hid hb; clear hb hb2
  have HP := Lib.hid hp; clear hp
  have HS := Lib.hid hs; clear hs
  have HR := Lib.hid hr; clear hr
  clear HB1 HO HV
  have HI := Lib.hid (ids_sorted (k := k) HP.out HS.out (fun e => HZ.out (by rw [e]; rfl)))
  by_cases hl : xs.length = k
  ·
   have hx : riseB ys 1 999999 = idsB xs k := by
    unfold riseB idsB
    exact propB_congr ⟨fun h => HI.out.1 ⟨hl, h⟩, fun h => (HI.out.2 h).2⟩
   have HX := Lib.hid hx; clear hx HI
   subst hl
   go_wp2_with fail
   refine (impl_increasing v' ys 1 999999 w2 ⟨HR.out, fun x hx => HH.out.2 x (HP.out.mem_iff.1 hx)⟩).mono ?_
   rintro e w3 ⟨rfl, rfl⟩
   go_wp2_with fail
   go_ret
   exact ⟨ret_bool HX.out, HB.out⟩
  ·
   have kq2 : (((xs.length : Nat) : Int) == (k : Int)) = false := by rw [beq_eq_false_iff_ne]; omega
   have HL := Lib.hid hl; clear hl
   go_wp2_with fail
   go_ret
   exact ⟨ret_bool (propB_f fun h => HL.out (HI.out.2 h).1).symm, HB.out⟩
end
section
open Go.RowKit
set_option linter.all false
theorem endOk_noP {n : Net} {v i : Nat} {e : Int × Int} (h : portB n e.1 e.2 = false) : ¬ endOk n.es v i e := fun ⟨h0, h1, m, hm, hx⟩ => by
  have : portB n e.1 e.2 = true := propB_t ⟨h0, h1, m, hm, (List.getElem?_eq_some_iff.1 hx).1⟩
  rw [this] at h
  cases h
theorem port_yes {n : Net} {e : Int × Int} (h : portB n e.1 e.2 = true) : ∃ (a p : Nat) (m : Ends) (x : Int × Int), e.1 = a ∧ e.2 = p ∧ n.es[a]? = some m ∧ m[p]? = some x := by
  obtain ⟨h0, h1, m, hm, hx⟩ := propB_iff.1 h
  exact ⟨_, _, m, _, (Int.toNat_of_nonneg h0).symm, (Int.toNat_of_nonneg h1).symm, hm, List.getElem?_eq_getElem hx⟩
set_option maxRecDepth 100000 in
set_option maxHeartbeats 2000000 in
theorem impl_IsNetwork (ve vi vn : Value) (n : Net) (w : World) (h : NetR w w.heap.size ve vi vn n) (hz : n.es.length ≤ 2000000) (hzi : n.ids.length ≤ 2000000) :
  Calls Tryz.prog 59 #[.agg #[ve, vi, vn]] w fun e w' => e = .returned (.bool (netB n)) ∧ Below w.heap.size w w' := by
 have hgd : Tryz.prog.eqGuardType Tryz.prog.depth 106 = false := by kernel_rfl
 have heq := eqIn_End
 obtain ⟨⟨A0, m0, c0, rfl⟩, ⟨A1, m1, c1, rfl⟩, A2, m2, c2, rfl⟩ := h.slices
 obtain ⟨w0, hw0, hB, HD, hz0, HS0⟩ := box3 w (.slice A0 m0 c0) (.slice A1 m1 c1) (.slice A2 m2 c2) 43
 have HN0 := Lib.hid h; have HN := Lib.hid (h.up hB); clear h
 have HW0 := Lib.hid hw0; clear hw0
 obtain ⟨q0, q1, q2, qf⟩ := cells3 HD
 obtain ⟨hm0, hcc, hmx⟩ := HN.out.e.len_slice
 subst hm0
 obtain ⟨hm1, -, -, -⟩ := HN.out.i.some_
 subst hm1
 obtain ⟨hm2, hd2, hd3, -⟩ := HN.out.n.some_
 subst hm2
 have hmx' : n.es.length ≤ 9223372036854775807 := by unfold maxLen at hmx; omega
 have hmi' : n.ins.length ≤ 9223372036854775807 := by unfold maxLen at hd3; omega
 clear hmx hd3 hcc hd2
 go_enter Tryz.func59, Tryz.ntmps59
 cases g1 : inB (n.es.length : Int) 1 40 with
 | false =>
  go_wp2_with (go_at_call 31; refine (impl_within _ _ _ _).mono ?_; rintro e w' ⟨rfl, rfl⟩)
  go_ret
  rw [← HW0.out]
  exact ⟨ret_bool (net_noH fun hh => by rw [inB_t (by have := hh.1; omega)] at g1; cases g1).symm, hB⟩
 | true =>
  have h40 : 1 ≤ n.es.length ∧ n.es.length ≤ 40 := by unfold inB at g1; have := of_decide_eq_true g1; omega
  go_wp2_with (go_at_call 31; refine (impl_within _ _ _ _).mono ?_; rintro e w' ⟨rfl, rfl⟩)
  rw [← HW0.out]
  refine (impl_idsOk _ n.ids n.es.length w0 HN.out.i hzi).mono ?_
  rintro e w1 ⟨rfl, hb1⟩
  have hzhb1 := hb1.size
  clear q0 q1 q2 qf
  replace HD := bk HD hb1
  replace HN := Lib.hid (HN.out.up hb1)
  replace hB := bl_trans hB hb1
  obtain ⟨q0, q1, q2, qf⟩ := cells3 HD
  cases g2 : idsB n.ids n.es.length with
  | false =>
   go_wp2_with fail
   go_ret
   exact ⟨ret_bool (net_noH fun hh => by rw [show idsB n.ids n.es.length = true from propB_t hh.2.1] at g2; cases g2).symm, hB⟩
  | true =>
   go_wp2_with fail
   refine (impl_inputsOk _ n.ins n.es.length w1 HN.out.n hz).mono ?_
   rintro e w2 ⟨rfl, hb2⟩
   have hzhb2 := hb2.size
   clear q0 q1 q2 qf
   replace HD := bk HD hb2
   replace HN := Lib.hid (HN.out.up hb2)
   replace hB := bl_trans hB hb2
   obtain ⟨q0, q1, q2, qf⟩ := cells3 HD
   cases g3 : (decide (n.ins.length = n.es.length) && allB n.ins 0 9) with
   | false =>
    go_wp2_with fail
    go_ret
    exact ⟨ret_bool (net_noH fun hh => by rw [decide_eq_true hh.2.2.1, (inAll_iff _).2 hh.2.2.2] at g3; cases g3).symm, hB⟩
   | true =>
    have hc3 := Bool.and_eq_true_iff.1 g3
    have HH := Lib.hid (show HeadP n from ⟨h40, propB_iff.1 g2, of_decide_eq_true hc3.1, (inAll_iff _).1 hc3.2⟩)
    clear hc3
    go_wp2_with fail
    go_loopw [3, 4, 33] (fun _ _ i wr => GdRel n w2 i wr) (fun _ _ i _ => n.es.length - (intOf i).toNat)
    case atStart => exact ⟨Below.refl _ _, 0, Nat.zero_le _, rfl, fun _ _ h => absurd h (by omega)⟩
    case round =>
     obtain ⟨hb3, k, hk, rfl, hup⟩ := hrel
     have HU := Lib.hid hup; clear hup
     have hzhb3 := hb3.size
     clear q0 q1 q2 qf
     replace HD := bk HD hb3
     replace HN := Lib.hid (HN.out.up hb3)
     replace hB := bl_trans hB hb3
     obtain ⟨q0, q1, q2, qf⟩ := cells3 HD
     by_cases hlt : k < n.es.length
     ·
      obtain ⟨l, hl⟩ : ∃ y, n.es[k]? = some y := ⟨n.es[k], List.getElem?_eq_getElem hlt⟩
      obtain ⟨ad, rfl⟩ := HN.out.e.some_ (by omega)
      obtain ⟨hbb, u, hu, hr⟩ := HN.out.e.at_ hl
      have HR := Lib.hid hr
      obtain ⟨A', c', rfl, hlc, hlm, -, h4⟩ := hr
      unfold maxLen at hlm
      have HL := Lib.hid hl; clear hl
      by_cases h6 : l.length ≤ 6
      ·
       go_wp2_with fail
       obtain ⟨wq, rfl⟩ : ∃ z, z = wr := ⟨_, rfl⟩
       go_loopw [5, 6, 43] (fun _ _ i wr' => GeRel n k l wq i wr') (fun _ _ i _ => l.length - (intOf i).toNat)
       case atStart => exact ⟨Below.refl _ _, 0, Nat.zero_le _, rfl, fun _ _ h => absurd h (by omega)⟩
       case round =>
        obtain ⟨hb2, j, hj, rfl, hup2⟩ := hrel
        have HU2 := Lib.hid hup2; clear hup2
        have hzhb2 := hb2.size
        clear q0 q1 q2 qf
        replace HD := bk HD hb2
        replace HN := Lib.hid (HN.out.up hb2)
        replace hB := bl_trans hB hb2
        obtain ⟨q0, q1, q2, qf⟩ := cells3 HD
        by_cases hlt2 : j < l.length
        ·
         obtain ⟨e, he⟩ : ∃ y, l[j]? = some y := ⟨_, List.getElem?_eq_getElem hlt2⟩
         obtain ⟨b, o, rfl, -, -⟩ := h4 (by omega)
         obtain ⟨hbb, p0, p1⟩ := (HR.out.below hb2).at_ he
         obtain ⟨wv, hwv, hb4, HE, hzv, HSV⟩ := box2 wr (.int .i64 e.1) (.int .i64 e.2) 106
         have HWV := Lib.hid hwv; clear hwv
         have HEL := Lib.hid he; clear he
         go_wp2_with fail
         rw [← HWV.out]
         replace hb2 := bl_trans hb2 hb4
         have hzhb4 := hb4.size
         clear q0 q1 q2 qf
         replace HD := bk HD hb4
         replace HN := Lib.hid (HN.out.up hb4)
         replace hB := bl_trans hB hb4
         obtain ⟨q0, q1, q2, qf⟩ := cells3 HD
         obtain ⟨e0, e1, ef⟩ := cells2 HE
         have HNS := Lib.hid (fun h => net_noE HL.out HEL.out h)
         cases g : portB n e.1 e.2 with
         | false =>
          have HF := Lib.hid (HNS.out (endOk_noP g))
          clear HNS p0 p1
          refine wp_region_held_drew (S := fun w' => w'.cell? ⟨w.heap.size, 0, none⟩ = some (.slice (some ad) n.es.length c0) ∧ w'.cell? ⟨w.heap.size, 1, none⟩ = some (.slice A1 n.ids.length c1) ∧ w'.cell? ⟨w.heap.size, 2, none⟩ = some (.slice A2 n.ins.length c2) ∧ w'.cell? ⟨wr.heap.size, 0, none⟩ = some (.int .i64 e.1) ∧ w'.cell? ⟨wr.heap.size, 1, none⟩ = some (.int .i64 e.2)) (by kernel_rfl) ?_ (fun hHeld => ?_)
          ·
           go_keep
          refine stk 0 48 ?_
          refine stk 1 49 ?_
          refine stk 2 50 ?_
          refine stk 3 51 ?_
          refine stk 4 52 ?_
          refine tr 5 rfl (by kernel_rfl) (fun K hK => ?_)
          go_simp
          go_at_call 84
          refine (impl_hasPort _ _ _ n e.1 e.2 wv.drew (HN.out.up (Below.refl _ _).drew) hz).mono ?_
          rintro e' w5 ⟨rfl, hb5'⟩
          have hb5 : Below wv.heap.size wv w5 := (Below.refl _ _).drew.trans hb5'
          clear hb5'
          rw [g]
          have hzhb5 := hb5.size
          clear q0 q1 q2 qf
          replace HD := bk HD hb5
          replace HN := Lib.hid (HN.out.up hb5)
          replace hB := bl_trans hB hb5
          obtain ⟨q0, q1, q2, qf⟩ := cells3 HD
          replace hb2 := bl_trans hb2 hb5
          clear e0 e1 ef
          replace HE := bk HE hb5
          obtain ⟨e0, e1, ef⟩ := cells2 HE
          refine hK.out _ _ ?_ (fun hHeld => ?_)
          ·
           go_keep
          clear hK K
          try simp only [Act.put, pu]
          refine stk 6 54 ?_
          refine stk 7 55 ?_
          refine stn 8 56 ?_
          refine stn 9 57 ?_
          refine stn 10 58 ?_
          refine stn 11 59 ?_
          refine stn 12 60 ?_
          refine stn 13 61 ?_
          refine stn 14 62 ?_
          refine stn 15 63 ?_
          refine stn 16 64 ?_
          refine stn 17 65 ?_
          refine stn 18 66 ?_
          refine stn 19 67 ?_
          refine stn 20 68 ?_
          refine stn 21 69 ?_
          refine stk 22 70 ?_
          refine wpAnyH_done (by kernel_rfl) ?_ _
          go_wp2_with fail
          go_ret
          exact ⟨ret_bool HF.out.symm, hB⟩
         | true =>
          obtain ⟨a, p, m, x, ha, hp, hm, hx⟩ := port_yes g
          obtain ⟨hbA, u2, r0, hrm⟩ := HN.out.e.at_ hm
          have hbq : (ad.add a).block < wv.heap.size := by rw [block_add]; exact hbA
          clear hbA
          have HRM := Lib.hid hrm
          obtain ⟨Am, cm, rfl, hmc, hmm, -, h5⟩ := hrm
          unfold maxLen at hmm
          have hpl := (List.getElem?_eq_some_iff.1 hx).1
          have hal := (List.getElem?_eq_some_iff.1 hm).1
          obtain ⟨b2, o2, rfl, -, -⟩ := h5 (by omega)
          obtain ⟨hbx, x0, x1⟩ := HRM.out.at_ hx
          replace hbx : b2 < wv.heap.size := hbx
          rw [ha] at e0
          rw [hp] at e1
          rw [ha, hp] at g
          have HA := Lib.hid ha; clear ha
          have HPP := Lib.hid hp; clear hp
          have HM := Lib.hid hm; clear hm
          have HX := Lib.hid hx; clear hx
          clear p0 p1 h5
          by_cases hv : x.1 = (k : Int) ∧ x.2 = (j : Int)
          ·
           have kq : (x.1 == (k : Int) && x.2 == (j : Int)) = true := by rw [hv.1, hv.2]; simp
           have HO := Lib.hid (HU2.out.next HEL.out (endOk_of HA.out HPP.out HM.out HX.out hv))
           clear hv HNS
           refine wp_region_held_drew (S := fun w' => w'.cell? ⟨w.heap.size, 0, none⟩ = some (.slice (some ad) n.es.length c0) ∧ w'.cell? ⟨w.heap.size, 1, none⟩ = some (.slice A1 n.ids.length c1) ∧ w'.cell? ⟨w.heap.size, 2, none⟩ = some (.slice A2 n.ins.length c2) ∧ w'.cell? ⟨wr.heap.size, 0, none⟩ = some (.int .i64 (a : Int)) ∧ w'.cell? ⟨wr.heap.size, 1, none⟩ = some (.int .i64 (p : Int)) ∧ w'.cell? (ad.add a) = some (.slice (some ⟨b2, o2, none⟩) m.length cm) ∧ w'.cell? ⟨b2, o2 + p * 2, none⟩ = some (.int .i64 x.1) ∧ w'.cell? ⟨b2, o2 + p * 2 + 1, none⟩ = some (.int .i64 x.2)) (by kernel_rfl) ?_ (fun hHeld => ?_)
           ·
            go_keep
           refine stk 0 48 ?_
           refine stk 1 49 ?_
           refine stk 2 50 ?_
           refine stk 3 51 ?_
           refine stk 4 52 ?_
           refine tr 5 rfl (by kernel_rfl) (fun K hK => ?_)
           go_simp
           go_at_call 84
           refine (impl_hasPort _ _ _ n (a : Int) (p : Int) wv.drew (HN.out.up (Below.refl _ _).drew) hz).mono ?_
           rintro e' w5 ⟨rfl, hb5'⟩
           have hb5 : Below wv.heap.size wv w5 := (Below.refl _ _).drew.trans hb5'
           clear hb5'
           rw [g]
           have hzhb5 := hb5.size
           clear q0 q1 q2 qf
           replace HD := bk HD hb5
           replace HN := Lib.hid (HN.out.up hb5)
           replace hB := bl_trans hB hb5
           obtain ⟨q0, q1, q2, qf⟩ := cells3 HD
           replace hb2 := bl_trans hb2 hb5
           clear e0 e1 ef
           replace HE := bk HE hb5
           obtain ⟨e0, e1, ef⟩ := cells2 HE
           rw [HA.out] at e0
           rw [HPP.out] at e1
           replace r0 := (hb5.cell hbq).trans r0
           replace x0 := (hb5.cell (by exact hbx)).trans x0
           replace x1 := (hb5.cell (by exact hbx)).trans x1
           refine hK.out _ _ ?_ (fun hHeld => ?_)
           ·
            go_keep
           clear hK K
           try simp only [Act.put, pu]
           refine stk 6 54 ?_
           refine stk 7 55 ?_
           refine stk 8 56 ?_
           refine stk 9 57 ?_
           refine stk 10 58 ?_
           refine stk 11 59 ?_
           refine stk 12 60 ?_
           refine stk 13 61 ?_
           refine stk 14 62 ?_
           refine stk 15 63 ?_
           refine stk 16 64 ?_
           refine stk 17 65 ?_
           refine stk 18 66 ?_
           refine stk 19 67 ?_
           refine stk 20 68 ?_
           refine stk 21 69 ?_
           refine stk 22 70 ?_
           refine wpAnyH_done (by kernel_rfl) ?_ _
           go_wp2_with fail
           go_roundw
           case rel => exact ⟨hb2, j + 1, by omega, by go_num, HO.out⟩
           case measure => simp [intOf]; omega
          ·
           have kq : (x.1 == (k : Int) && x.2 == (j : Int)) = false := by
            rw [Bool.and_eq_false_iff, beq_eq_false_iff_ne, beq_eq_false_iff_ne]
            by_cases h1 : x.1 = (k : Int)
            ·
             exact .inr fun h2 => hv ⟨h1, h2⟩
            ·
             exact .inl h1
           have HF := Lib.hid (HNS.out (endOk_no3 HA.out HPP.out HM.out HX.out hv))
           clear hv HNS
           refine wp_region_held_drew (S := fun w' => w'.cell? ⟨w.heap.size, 0, none⟩ = some (.slice (some ad) n.es.length c0) ∧ w'.cell? ⟨w.heap.size, 1, none⟩ = some (.slice A1 n.ids.length c1) ∧ w'.cell? ⟨w.heap.size, 2, none⟩ = some (.slice A2 n.ins.length c2) ∧ w'.cell? ⟨wr.heap.size, 0, none⟩ = some (.int .i64 (a : Int)) ∧ w'.cell? ⟨wr.heap.size, 1, none⟩ = some (.int .i64 (p : Int)) ∧ w'.cell? (ad.add a) = some (.slice (some ⟨b2, o2, none⟩) m.length cm) ∧ w'.cell? ⟨b2, o2 + p * 2, none⟩ = some (.int .i64 x.1) ∧ w'.cell? ⟨b2, o2 + p * 2 + 1, none⟩ = some (.int .i64 x.2)) (by kernel_rfl) ?_ (fun hHeld => ?_)
           ·
            go_keep
           refine stk 0 48 ?_
           refine stk 1 49 ?_
           refine stk 2 50 ?_
           refine stk 3 51 ?_
           refine stk 4 52 ?_
           refine tr 5 rfl (by kernel_rfl) (fun K hK => ?_)
           go_simp
           go_at_call 84
           refine (impl_hasPort _ _ _ n (a : Int) (p : Int) wv.drew (HN.out.up (Below.refl _ _).drew) hz).mono ?_
           rintro e' w5 ⟨rfl, hb5'⟩
           have hb5 : Below wv.heap.size wv w5 := (Below.refl _ _).drew.trans hb5'
           clear hb5'
           rw [g]
           have hzhb5 := hb5.size
           clear q0 q1 q2 qf
           replace HD := bk HD hb5
           replace HN := Lib.hid (HN.out.up hb5)
           replace hB := bl_trans hB hb5
           obtain ⟨q0, q1, q2, qf⟩ := cells3 HD
           replace hb2 := bl_trans hb2 hb5
           clear e0 e1 ef
           replace HE := bk HE hb5
           obtain ⟨e0, e1, ef⟩ := cells2 HE
           rw [HA.out] at e0
           rw [HPP.out] at e1
           replace r0 := (hb5.cell hbq).trans r0
           replace x0 := (hb5.cell (by exact hbx)).trans x0
           replace x1 := (hb5.cell (by exact hbx)).trans x1
           refine hK.out _ _ ?_ (fun hHeld => ?_)
           ·
            go_keep
           clear hK K
           try simp only [Act.put, pu]
           refine stk 6 54 ?_
           refine stk 7 55 ?_
           refine stk 8 56 ?_
           refine stk 9 57 ?_
           refine stk 10 58 ?_
           refine stk 11 59 ?_
           refine stk 12 60 ?_
           refine stk 13 61 ?_
           refine stk 14 62 ?_
           refine stk 15 63 ?_
           refine stk 16 64 ?_
           refine stk 17 65 ?_
           refine stk 18 66 ?_
           refine stk 19 67 ?_
           refine stk 20 68 ?_
           refine stk 21 69 ?_
           refine stk 22 70 ?_
           refine wpAnyH_done (by kernel_rfl) ?_ _
           go_wp2_with fail
           go_ret
           exact ⟨ret_bool HF.out.symm, hB⟩
        ·
         have hl2 : l.length ≤ j := by omega
         go_wp2_with fail
         refine ⟨⟨bl_trans hb3 hb2, k + 1, by omega, by go_num, HU.out.next HL.out h6 HU2.out hl2⟩, ?_⟩
         simp [intOf]
         omega
      ·
       have HF := Lib.hid (net_no6 HL.out h6)
       go_wp2_with fail
       go_ret
       exact ⟨ret_bool HF.out.symm, hB⟩
     ·
      have HF := Lib.hid (net_end HH.out HU.out (by omega))
      go_wp2_with fail
      go_ret
      exact ⟨ret_bool HF.out.symm, hB⟩
end
section
open Go.RowKit
set_option linter.all false
end
section
open Go.RowKit
set_option linter.all false
theorem run_copy_row {P : Program} (w : World) (dT sT ty elem e : TypeId) (g o dLen dCap : Nat) (cur : Array Value) (hg : w.heap[g]? = some (.cells cur e (0, 0))) (a : Addr) (sLen sCap : Nat) (cs : List Value) (k : Nat)
    (hu : P.underlying dT = some (.slice elem)) (hs : (P.info? elem).map (·.size) = some k) (hn : cs.length = Nat.min sLen dLen * k)
    (hsrc : ∀ j v, cs[j]? = some v → w.cell? (a.add j) = some v) (hfit : o + cs.length ≤ cur.size) (h1 : ∀ v ∈ cs, v.oneCell' = true) :
    (Builtin.copy_ #[dT, sT] ty #[.slice (some ⟨g, o, none⟩) dLen dCap, .slice (some a) sLen sCap]).run P w =
      .ok (goInt (Nat.min sLen dLen)) (w.setRow g (cur.toList.take o ++ cs ++ cur.toList.drop (o + cs.length)).toArray) := by
  have hl := run_loadCells_list (P := P) w a cs hsrc
  have hst := run_storeCells_at P g o e cs 0 cur w hg (by simpa using hfit) h1
  simp only [Nat.add_zero] at hst
  cases hq : P.info? elem with
  | none => simp [hq] at hs
  | some i =>
    have hi : i.size = k := by simpa [hq] using hs
    rw [hn] at hl
    simp [Builtin.copy_, run_underlying hu, Builtin.lenOf, Builtin.firstCells, sizeOf, typeInfo, hq, hi, hl, hst]
theorem step_copy_runK {P : Program} {ops : Array Oper} {o : Oper} {a : Act} {w : World} {K : Act → World → Prop} {Q : Exit → Act → World → Prop} {E : Prop}
    (hg : o.guard = none) (d x : Operand) (dT sT : TypeId) (hop : o.op = Op.call { callee := Callee.builtin Builtin.copy, args := #[d, x], argTypes := #[dT, sT] })
    (v u : Value) (hd : a.eval d = v) (hx : a.eval x = u) {v' : Value} {w' : World} (hr : (Builtin.copy_ #[dT, sT] o.type #[v, u]).run P w = .ok v' w') (hK : K (a.put o.dst v') w') :
    if Region.wanted o (yielded ops a.tmps) = true then Oper.wp P o a w K Q else E := by
  have hw : Region.wanted o (yielded ops a.tmps) = true := by simp [Region.wanted, hg]
  rw [if_pos hw]
  unfold Oper.wp
  simp [execOp, hop, resolve, invoke, builtin, hd, hx, hr, Result.andThen]
  exact hK
theorem mul_one (k : Nat) (hk : k ≤ 100000) (w : World) : Calls Tryz.prog 102 #[.int .u64 1, .int .u64 (k : Int)] w fun e w' => e = .returned (.tuple #[.int .u64 0, .int .u64 (k : Int)]) ∧ w = w' := by
  refine (Tryz.bits_Mul 1 k (by omega) (by omega) w).mono ?_
  rintro e w' ⟨rfl, rfl⟩
  rw [show 1 * k / 18446744073709551616 = 0 from Nat.div_eq_of_lt (by omega), show 1 * k % 18446744073709551616 = k by rw [Nat.mod_eq_of_lt (by omega), Nat.one_mul]]
  exact ⟨rfl, rfl⟩
theorem copy_nums {w : World} {g gs o so n m c c' : Nat} {d ss : List Int} (hg : NumsAt w g d) (hs : ∀ j, j < Nat.min m n → w.cell? ((⟨gs, so, none⟩ : Addr).add j) = some (.int .i64 (ss.getD j 0))) (hl : Nat.min m n ≤ ss.length) (hfit : o + Nat.min m n ≤ d.length) :
    (Builtin.copy_ #[24, 24] 3 #[.slice (some ⟨g, o, none⟩) n c, .slice (some ⟨gs, so, none⟩) m c']).run Tryz.prog w = .ok (.int .i64 (Nat.min m n : Nat)) (w.setRow g ((d.take o ++ ss.take (Nat.min m n) ++ d.drop (o + Nat.min m n)).map intV).toArray) := by
  have hlen : ((ss.take (Nat.min m n)).map intV).length = Nat.min m n := by rw [List.length_map, List.length_take]; omega
  have h := run_copy_row (P := Tryz.prog) w 24 24 3 3 3 g o n c (d.map intV).toArray hg ⟨gs, so, none⟩ m c' ((ss.take (Nat.min m n)).map intV) 1 Tryz.underlying24 (by kernel_rfl) (by rw [hlen, Nat.mul_one]) (fun j v hv => by
      rw [List.getElem?_map] at hv
      obtain ⟨y, hy, rfl⟩ := Option.map_eq_some_iff.1 hv
      have hj := (List.getElem?_eq_some_iff.1 hy).1
      rw [List.length_take] at hj
      rw [hs j (by omega)]
      rw [List.getElem?_take_of_lt (by omega)] at hy
      rw [List.getD_eq_getElem?_getD, hy]
      rfl) (by rw [hlen]; simpa using hfit) (fun v hv => by
      obtain ⟨y, _, rfl⟩ := List.mem_map.1 hv
      rfl)
  rw [hlen] at h
  rw [h]
  simp [goInt, List.map_append, List.map_take, List.map_drop]
def RepRel (x : Int) (k g : Nat) (w i : World) (v : Value) : Prop := ∃ j : Nat, 1 ≤ j ∧ j ≤ k ∧ v = .int .i64 j ∧ NumsAt i g (List.replicate j x ++ List.replicate (k - j) 0) ∧ Below w.heap.size w i
set_option maxRecDepth 100000 in
theorem impl_Repeat (x : Int) (k g0 : Nat) (w : World) (hg : NumsAt w g0 [x]) (hk : 1 ≤ k) (hk2 : k ≤ 100000) :
  Calls Tryz.prog 85 #[.slice (some ⟨g0, 0, none⟩) 1 1, .int .i64 (k : Int)] w fun e w' => e = .returned (.slice (some ⟨w.heap.size, 0, none⟩) k k) ∧ NumsAt w' w.heap.size (List.replicate k x) ∧ Below w.heap.size w w' := by
 have hmk := fun W => run_make1 (P := Tryz.prog) 24 3 (.int .i64 0) 8 Tryz.underlying24 intInfo rfl k (by omega) (by omega) W
 have hN0 : NumsAt (w.alloc (.cells (rowOf [] k (.int .i64 0)) 3)) w.heap.size (List.replicate 0 x ++ List.replicate (k - 0) 0) := by
  unfold NumsAt
  rw [heap_alloc_new, ← rowOf_map 0 k (Nat.zero_le _)]
  rfl
 have hgl := hg.lt
 have hcs : ∀ j, j < Nat.min 1 k → (w.alloc (.cells (rowOf [] k (.int .i64 0)) 3)).cell? ((⟨g0, 0, none⟩ : Addr).add j) = some (.int .i64 ([x].getD j 0)) := fun j hj => by
  obtain rfl : j = 0 := by have h : Nat.min 1 k ≤ 1 := Nat.min_le_left _ _; omega
  exact Lib.cell?_alloc_some _ (hg.cell (i := 0) rfl)
 have hm1 : Nat.min 1 k = 1 := Nat.min_eq_left hk
 have hcp := copy_nums (c := k) (c' := 1) (o := 0) hN0 hcs (by rw [hm1]; exact Nat.le_refl _) (by rw [hm1]; simp; omega)
 rw [hm1] at hcp
 obtain ⟨w1, hw1⟩ : ∃ z, z = (w.alloc (.cells (rowOf [] k (.int .i64 0)) 3)).setRow w.heap.size (((List.replicate 0 x ++ List.replicate (k - 0) 0).take 0 ++ [x].take 1 ++ (List.replicate 0 x ++ List.replicate (k - 0) 0).drop (0 + 1)).map intV).toArray := ⟨_, rfl⟩
 rw [← hw1] at hcp
 have hN1 : NumsAt w1 w.heap.size (List.replicate 1 x ++ List.replicate (k - 1) 0) := by
  unfold NumsAt
  rw [hw1, setRow_heap _ _ _ _ _ _ hN0]
  simp
 have hb1 : Below w.heap.size w w1 := by
  rw [hw1]
  exact below_setRow (bl_alloc (Below.refl _ _) _) (Nat.le_refl _) _
 have HN1 := Lib.hid hN1; clear hN1 hcs hN0 hm1
 have HB1 := Lib.hid hb1; clear hb1 hw1
 have hw1 : IntKind.u64.wrap (k : Int) = (k : Int) := IntWalk.u64_in _ (by omega)
 have hw2 : IntKind.i64.wrap (k : Int) = (k : Int) := IntWalk.i64_in _ (by omega)
 go_enter Tryz.func85, Tryz.ntmps85
 go_wp2_with (go_at_call 102; refine (mul_one k (by omega) _).mono ?_; rintro e w' ⟨rfl, rfl⟩)
 go_loopw [8] (fun i wr => RepRel x k w.heap.size w wr i) (fun i _ => k - (intOf i).toNat)
 case atStart => exact ⟨1, Nat.le_refl _, hk, rfl, HN1.out, HB1.out⟩
 case round =>
  clear hcp
  obtain ⟨j, hj1, hj, rfl, hn, hb⟩ := hrel
  have HB := Lib.hid hb; clear hb
  by_cases hlt : j < k
  ·
   have HNU := Lib.hid hn; clear hn
   have hcp := copy_nums (w := wr.drew) (g := w.heap.size) (gs := w.heap.size) (o := j) (so := 0) (n := k - j) (m := j) (c := k - j) (c' := k) (d := List.replicate j x ++ List.replicate (k - j) 0) (ss := List.replicate j x) HNU.out (fun i hi => by
    have hij : i < j := by have h : Nat.min j (k - j) ≤ j := Nat.min_le_left _ _; omega
    have h := HNU.out.cell (i := i) (x := x) (by rw [List.getElem?_append_left (by simpa using hij), List.getElem?_replicate, if_pos hij])
    rw [List.getD_eq_getElem?_getD, List.getElem?_replicate, if_pos hij, Option.getD_some]
    refine Eq.trans ?_ h
    rcases i with _ | i <;> simp [Addr.add] <;> rfl) (by rw [List.length_replicate]; exact Nat.min_le_left _ _) (by rw [List.length_append, List.length_replicate, List.length_replicate]; have h : Nat.min j (k - j) ≤ k - j := Nat.min_le_right _ _; omega)
   have hm0 : 1 ≤ Nat.min j (k - j) := Nat.le_min.2 ⟨hj1, by omega⟩
   have hm1 : Nat.min j (k - j) ≤ k - j := Nat.min_le_right _ _
   have hm2 : Nat.min j (k - j) ≤ j := Nat.min_le_left _ _
   generalize Nat.min j (k - j) = m at hcp hm0 hm1 hm2
   obtain ⟨w2, hw2⟩ : ∃ z, z = wr.drew.setRow w.heap.size (((List.replicate j x ++ List.replicate (k - j) 0).take j ++ (List.replicate j x).take m ++ (List.replicate j x ++ List.replicate (k - j) 0).drop (j + m)).map intV).toArray := ⟨_, rfl⟩
   rw [← hw2] at hcp
   have hN2 : NumsAt w2 w.heap.size (List.replicate (j + m) x ++ List.replicate (k - (j + m)) 0) := by
    unfold NumsAt
    rw [hw2, setRow_heap _ _ _ _ _ _ (show wr.drew.heap[w.heap.size]? = _ from HNU.out)]
    congr 4
    rw [List.take_append_of_le_length (by simp), List.take_of_length_le (by simp), List.take_replicate, Nat.min_eq_left hm2, List.drop_append, List.drop_of_length_le (by simp), List.length_replicate, List.nil_append, List.drop_replicate, show k - j - (j + m - j) = k - (j + m) by omega, List.replicate_append_replicate]
   have hb2 : Below w.heap.size w w2 := by
    rw [hw2]
    exact below_setRow HB.out.drew (Nat.le_refl _) _
   have HN2 := Lib.hid hN2; clear hN2
   have HB2 := Lib.hid hb2; clear hb2 hw2
   have HCP := Lib.hid hcp; clear hcp
   have hkj : ¬ k = j := by omega
   have hwr : IntKind.i64.wrap ((j : Int) + (m : Int)) = ((j + m : Nat) : Int) := by rw [← Int.natCast_add]; exact IntWalk.i64_in _ (by omega)
   go_wp2_with fail
   refine wp_region_held_drew (S := fun _ => True) (by kernel_rfl) ?_ (fun hHeld => ?_)
   ·
    trivial
   refine stk 0 38 ?_
   refine stk 1 39 ?_
   refine stk 2 40 ?_
   refine stk 3 41 ?_
   refine stk 4 42 ?_
   refine stk 5 43 ?_
   refine stk 6 44 ?_
   refine tr 7 rfl (by kernel_rfl) (fun K hK => ?_)
   refine step_copy_runK rfl (.tmp 41) (.tmp 44) _ _ rfl _ _ rfl rfl HCP.out ?_
   refine hK.out _ _ trivial (fun hHeld => ?_)
   clear hK K
   try simp only [Act.put, pu]
   refine stk 8 46 ?_
   refine stk 9 8 ?_
   refine wpAnyH_done (by kernel_rfl) ?_ _
   go_wp2_with fail
   go_roundw
   case rel => exact ⟨j + m, by omega, by omega, rfl, HN2.out, HB2.out⟩
   case measure => simp [intOf]; omega
  ·
   obtain rfl : j = k := by omega
   rw [Nat.sub_self, List.replicate_zero, List.append_nil] at hn
   have HNU := Lib.hid hn; clear hn
   go_wp2_with fail
   go_ret
   exact ⟨rfl, HNU.out, HB.out⟩
end
section
open Go.RowKit
set_option linter.all false
end
end Go.Proofs.YtehkcodbcnhhoaaGreat
namespace Go.Proofs.YtehkcodbcnhhoaaGreat
section
open Go.RowKit
set_option linter.all false
theorem impl_Contains (v : Value) (xs : List Int) (x : Int) (w : World) (h : IntsR w w.heap.size v xs) :
    Calls Tryz.prog 87 #[v, .int .i64 x] w fun e w' => e = .returned (.bool (xs.contains x)) ∧ w = w' := by
  obtain ⟨A, c, rfl, h1, h2, h3⟩ := h.open_
  unfold maxLen at h2
  by_cases h0 : xs.length = 0
  · obtain rfl : xs = [] := List.eq_nil_of_length_eq_zero h0
    refine (Tryz.slices_Contains_int_empty A c x w).mono ?_
    rintro e w' ⟨rfl, rfl⟩
    exact ⟨rfl, rfl⟩
  · obtain ⟨ad, rfl, hb, hc⟩ := h3 (by omega)
    obtain ⟨b, off, rfl, hcc⟩ := ints_cells (by omega) hc
    refine (Tryz.slices_Contains_int b off xs.length c xs x w (Nat.le_refl _) (by omega) hcc).mono ?_
    rintro e w' ⟨rfl, rfl⟩
    rw [List.take_length]
    exact ⟨rfl, rfl⟩
end
section
open Go.RowKit
set_option linter.all false
theorem own_mono {w : World} {base base' : Nat} {e : TypeId} {size : Nat} {v : Value} {n : Nat} {xs : List Value} (h : w.ownsRow base e size v n xs) (hb : base' ≤ base) : w.ownsRow base' e size v n xs :=
  ⟨h.1, h.2.imp id fun ⟨g, cap, cur, h1, h2, h3⟩ => ⟨g, cap, cur, h1, Nat.le_trans hb h2, h3⟩⟩
theorem own_keep4 {w w' : World} {base n size : Nat} {e : TypeId} {v : Value} {vs : List Value} (h : w.ownsRow base e size v n vs) (hs : w.heap.size ≤ w'.heap.size) (hk : ∀ b, base ≤ b → b < w.heap.size → w'.heap[b]? = w.heap[b]?) : w'.ownsRow base e size v n vs := by
  refine ⟨h.1, ?_⟩
  have hlt := h.lt
  rcases h.2 with h2 | ⟨g, cap, cur, rfl, hb, hg, r⟩
  · exact .inl h2
  · exact .inr ⟨g, cap, cur, rfl, hb, (hk g hb (hlt g rfl).2).trans hg, r⟩
end
section
open Go.RowKit
set_option linter.all false
end
section
open Go.RowKit
set_option linter.all false
end
section
open Go.RowKit
set_option linter.all false
end
section
open Go.RowKit
set_option linter.all false
end
section
open Go.RowKit
set_option linter.all false
end
section
open Go.RowKit
set_option linter.all false
end
end Go.Proofs.YtehkcodbcnhhoaaGreat
namespace Go.Proofs.YtehkcodbcnhhoaaGreat
section
open Go.RowKit
set_option linter.all false

/-! ### Networks: what is written, nothing of what is said -/
structure Wrote (S : Nat → Prop) (w w' : World) : Prop where
  os : w'.os = w.os
  tape : w'.tape = w.tape
  output : w'.output = w.output
  size : w'.heap.size = w.heap.size
  block : ∀ b : Nat, ¬ S b → w'.heap[b]? = w.heap[b]?
  cells : ∀ (b : Nat) (cur : Array Value) (t : TypeId) (f : Nat × Nat), w.heap[b]? = some (Obj.cells cur t f) → ∃ cur' : Array Value, w'.heap[b]? = some (Obj.cells cur' t f) ∧ cur'.size = cur.size
theorem Wrote.refl (S : Nat → Prop) (w : World) : Wrote S w w := ⟨rfl, rfl, rfl, rfl, fun _ _ => rfl, fun b cur t f h => ⟨cur, h, rfl⟩⟩
theorem Wrote.trans {S : Nat → Prop} {a b c : World} (h : Wrote S a b) (k : Wrote S b c) : Wrote S a c :=
  ⟨k.os.trans h.os, k.tape.trans h.tape, k.output.trans h.output, k.size.trans h.size, fun x hx => (k.block x hx).trans (h.block x hx), fun x cur t f hc => by
    obtain ⟨cur1, h1, e1⟩ := h.cells x cur t f hc
    obtain ⟨cur2, h2, e2⟩ := k.cells x cur1 t f h1
    exact ⟨cur2, h2, e2.trans e1⟩⟩
theorem Wrote.set {S : Nat → Prop} {w : World} {g i : Nat} (v : Value) (hg : S g) : Wrote S w (w.setCell ⟨g, i, none⟩ v) :=
  ⟨rfl, rfl, rfl, size_setCell _ _ _, fun b hb => Below.heap_setCell _ _ _ _ (by intro e; exact hb (by rw [e]; exact hg)), fun b cur t f hc => by
    by_cases e : b = g
    · subst e
      exact ⟨cur.setIfInBounds i v, by simp [World.setCell, Array.getElem?_modify, hc], by simp⟩
    · exact ⟨cur, (Below.heap_setCell _ _ _ _ (by simpa using e)).trans hc, rfl⟩⟩
def RowW (w : World) (S : Nat → Prop) (v : Value) (n : Nat) : Prop :=
  ∃ A c, v = .slice A n c ∧ n ≤ c ∧ c ≤ maxLen ∧ (0 < n → ∃ g cur, A = some ⟨g, 0, none⟩ ∧ S g ∧ w.heap[g]? = some (.cells cur 106 (0, 0)) ∧ n * 2 ≤ cur.size)
theorem RowW.wrote {w w' : World} {S T : Nat → Prop} {v : Value} {n : Nat} (h : RowW w S v n) (hw : Wrote T w w') : RowW w' S v n := by
  obtain ⟨A, c, rfl, h1, h2, h3⟩ := h
  refine ⟨A, c, rfl, h1, h2, fun hn => ?_⟩
  obtain ⟨g, cur, rfl, hS, hc, hz⟩ := h3 hn
  obtain ⟨cur', hc', hz'⟩ := hw.cells g cur _ _ hc
  exact ⟨g, cur', rfl, hS, hc', by rw [hz']; exact hz⟩
def MeRelW (n : Nat) (k : Int) (S : Nat → Prop) (w : World) (kv i : Value) (wr : World) : Prop :=
  ∃ j : Nat, j ≤ n ∧ i = .int .i64 j ∧ kv = .int .i64 (k + (j : Int) + (j : Int)) ∧ Wrote S w wr
set_option maxRecDepth 100000 in
theorem mark_EndS (v : Value) (n : Nat) (S : Nat → Prop) (k : Int) (w : World) (h : RowW w S v n) (h0 : 0 ≤ k) (h1 : k + n + n ≤ 1000000000000) :
  Calls Tryz.prog 68 #[v, .int .i64 k] w fun e w' => e = .returned (.int .i64 (k + n + n)) ∧ Wrote S w w' := by
 obtain ⟨A0, c, rfl, hc1, hc2, h3⟩ := h
 unfold maxLen at hc2
 have H3 := Lib.hid h3; clear h3
 go_enter Tryz.func68, Tryz.ntmps68
 go_wp2_with fail
 go_loopw [1, 5] (fun kv i wr => MeRelW n k S w kv i wr) (fun _ i _ => n - (intOf i).toNat)
 case atStart => exact ⟨0, Nat.zero_le _, rfl, by simp, Wrote.refl _ _⟩
 case round =>
  obtain ⟨j, hj, rfl, rfl, hw⟩ := hrel
  have HW := Lib.hid hw; clear hw
  by_cases hlt : j < n
  ·
   obtain ⟨g, cur, rfl, hS, hcur, hcz⟩ := H3.out (by omega)
   obtain ⟨cur', hcur', hcz'⟩ := HW.out.cells g cur _ _ hcur
   obtain ⟨u0, hu0⟩ : ∃ u, wr.cell? ⟨g, j * 2, none⟩ = some u := by
    rw [cell_of_row wr _ (j * 2) _ _ (0, 0) hcur', Array.getElem?_eq_getElem (by omega)]
    exact ⟨_, rfl⟩
   have hfr : ∀ i, wr.frozen? ⟨g, i, none⟩ = false := fun i => frozen_of_row _ _ i _ _ hcur'
   obtain ⟨w1, hw1⟩ : ∃ z, z = wr.setCell ⟨g, j * 2, none⟩ (.int .i64 (k + (j : Int) + (j : Int))) := ⟨_, rfl⟩
   have hW1 : Wrote S wr w1 := by rw [hw1]; exact Wrote.set _ hS
   obtain ⟨cur2, hcur2, hcz2⟩ := hW1.cells g cur' _ _ hcur'
   obtain ⟨u1, hu1⟩ : ∃ u, w1.cell? ⟨g, j * 2 + 1, none⟩ = some u := by
    rw [cell_of_row w1 _ (j * 2 + 1) _ _ (0, 0) hcur2, Array.getElem?_eq_getElem (by omega)]
    exact ⟨_, rfl⟩
   have hfr1 : ∀ i, w1.frozen? ⟨g, i, none⟩ = false := fun i => frozen_of_row _ _ i _ _ hcur2
   rw [hw1] at hu1 hfr1
   have HX := Lib.hid (And.intro hw1 hW1); clear hw1 hW1 hcur hcur' hcur2
   have hq1 : IntKind.i64.wrap (k + (j : Int) + (j : Int) + 1) = k + (j : Int) + (j : Int) + 1 := IntWalk.i64_in _ (by omega)
   have hq2 : IntKind.i64.wrap (k + (j : Int) + (j : Int) + 1 + 1) = k + (j : Int) + (j : Int) + 1 + 1 := IntWalk.i64_in _ (by omega)
   go_wp2_with fail
   go_roundw
   case rel =>
    refine ⟨j + 1, by omega, by go_num, by congr 1; omega, HW.out.trans (HX.out.2.trans ?_)⟩
    rw [← HX.out.1]
    exact Wrote.set _ hS
   case measure => simp [intOf]; omega
  ·
   obtain rfl : j = n := by omega
   go_wp2_with fail
   go_ret
   exact ⟨rfl, HW.out⟩
def RowsW (w : World) (base : Nat) (S : Nat → Prop) (v : Value) (ns : List Nat) : Prop :=
  ∃ A c, v = .slice A ns.length c ∧ ns.length ≤ c ∧ c ≤ maxLen ∧ (0 < ns.length → A = some ⟨base, 0, none⟩ ∧ ¬ S base ∧ ∀ i n, ns[i]? = some n → ∃ u, w.cell? ⟨base, i, none⟩ = some u ∧ RowW w S u n)
theorem sum_snoc {ns : List Nat} {j n : Nat} (h : ns[j]? = some n) : (ns.take (j + 1)).sum = (ns.take j).sum + n := by
  obtain ⟨hj, rfl⟩ := List.getElem?_eq_some_iff.1 h
  rw [List.take_succ_eq_append_getElem hj, List.sum_append]
  simp
theorem sum_split (ns : List Nat) (j : Nat) : ns.sum = (ns.take j).sum + (ns.drop j).sum := by
  rw [← List.sum_append, List.take_append_drop]
def MsRelW (ns : List Nat) (k : Int) (S : Nat → Prop) (w : World) (kv i : Value) (wr : World) : Prop :=
  ∃ j : Nat, j ≤ ns.length ∧ i = .int .i64 j ∧ kv = .int .i64 (k + ((ns.take j).sum : Nat) + ((ns.take j).sum : Nat)) ∧ Wrote S w wr
set_option maxRecDepth 100000 in
theorem mark_EndSS (v : Value) (ns : List Nat) (base : Nat) (S : Nat → Prop) (k : Int) (w : World) (h : RowsW w base S v ns) (h0 : 0 ≤ k) (h1 : k + ns.sum + ns.sum ≤ 1000000000) :
  Calls Tryz.prog 43 #[v, .int .i64 k] w fun e w' => e = .returned (.int .i64 (k + ns.sum + ns.sum)) ∧ Wrote S w w' := by
 obtain ⟨A0, c, rfl, hc1, hc2, h3⟩ := h
 unfold maxLen at hc2
 have H3 := Lib.hid h3; clear h3
 go_enter Tryz.func43, Tryz.ntmps43
 go_wp2_with fail
 go_loopw [1, 5] (fun kv i wr => MsRelW ns k S w kv i wr) (fun _ i _ => ns.length - (intOf i).toNat)
 case atStart => exact ⟨0, Nat.zero_le _, rfl, by simp, Wrote.refl _ _⟩
 case round =>
  obtain ⟨j, hj, rfl, rfl, hw⟩ := hrel
  have HW := Lib.hid hw; clear hw
  have hsp := sum_split ns j
  by_cases hlt : j < ns.length
  ·
   obtain ⟨rfl, hS, hcs⟩ := H3.out (by omega)
   obtain ⟨n, hn⟩ : ∃ n, ns[j]? = some n := ⟨_, List.getElem?_eq_getElem hlt⟩
   obtain ⟨u, hu, hr⟩ := hcs j n hn
   have hu' := (World.cell?_of_block (a := ⟨base, j, none⟩) (HW.out.block base hS)).trans hu
   have HR := Lib.hid (hr.wrote HW.out); clear hr hcs hu
   have hss := sum_snoc hn
   have hsp2 := sum_split ns (j + 1)
   clear hn
   have HSS := Lib.hid hss; clear hss
   generalize (ns.take j).sum = t at *
   go_wp2_with fail
   refine (mark_EndS u n S (k + (t : Int) + (t : Int)) wr HR.out (by omega) (by have := HSS.out; omega)).mono ?_
   rintro e w1 ⟨rfl, hw1⟩
   have HW1 := Lib.hid hw1; clear hw1
   go_wp2_with fail
   go_roundw
   case rel => exact ⟨j + 1, by omega, by go_num, by rw [HSS.out]; congr 1; omega, HW.out.trans HW1.out⟩
   case measure => simp [intOf]; omega
  ·
   obtain rfl : j = ns.length := by omega
   have HT := Lib.hid (show ns.take ns.length = ns from List.take_length)
   clear hsp
   go_wp2_with fail
   go_ret
   exact ⟨by rw [HT.out]; rfl, HW.out⟩
theorem RowW.keep {w w' : World} {S S' : Nat → Prop} {v : Value} {n : Nat} (h : RowW w S v n) (hS : ∀ b, S b → S' b) (hk : ∀ b, S b → w'.heap[b]? = w.heap[b]?) : RowW w' S' v n := by
  obtain ⟨A, c, rfl, h1, h2, h3⟩ := h
  refine ⟨A, c, rfl, h1, h2, fun hn => ?_⟩
  obtain ⟨g, cur, rfl, hs, hc, hz⟩ := h3 hn
  exact ⟨g, cur, rfl, hS g hs, (hk g hs).trans hc, hz⟩
theorem cell_lt {w : World} {g i : Nat} {u : Value} (h : w.cell? ⟨g, i, none⟩ = some u) : g < w.heap.size := by
  rcases Nat.lt_or_ge g w.heap.size with h' | h'
  · exact h'
  · simp [World.cell?, Array.getElem?_eq_none h'] at h
theorem RowsW.keep {w w' : World} {base hi : Nat} {v : Value} {ns : List Nat} (h : RowsW w base (fun b => base < b ∧ b < hi) v ns) (hh : hi ≤ w.heap.size) (hk : ∀ b, base ≤ b → b < w.heap.size → w'.heap[b]? = w.heap[b]?) : RowsW w' base (fun b => base < b ∧ b < hi) v ns := by
  obtain ⟨A, c, rfl, h1, h2, h3⟩ := h
  refine ⟨A, c, rfl, h1, h2, fun hn => ?_⟩
  obtain ⟨rfl, hS, hcs⟩ := h3 hn
  refine ⟨rfl, hS, fun i n hi' => ?_⟩
  obtain ⟨u, hu, hr⟩ := hcs i n hi'
  exact ⟨u, (World.cell?_of_block (a := ⟨base, i, none⟩) (hk base (Nat.le_refl _) (cell_lt hu))).trans hu, hr.keep (fun _ h => h) fun b h => hk b (by omega) (by omega)⟩
theorem RowsW.stretch {w : World} {base hi hi' : Nat} {v : Value} {ns : List Nat} (h : RowsW w base (fun b => base < b ∧ b < hi) v ns) (hh : hi ≤ hi') : RowsW w base (fun b => base < b ∧ b < hi') v ns := by
  obtain ⟨A, c, rfl, h1, h2, h3⟩ := h
  refine ⟨A, c, rfl, h1, h2, fun hn => ?_⟩
  obtain ⟨rfl, hS, hcs⟩ := h3 hn
  refine ⟨rfl, fun h => absurd h.1 (Nat.lt_irrefl _), fun i n hi' => ?_⟩
  obtain ⟨u, hu, hr⟩ := hcs i n hi'
  exact ⟨u, hu, hr.keep (fun b h => ⟨h.1, by omega⟩) fun _ _ => rfl⟩
def IntsW (w : World) (S : Nat → Prop) (v : Value) (n : Nat) : Prop :=
  ∃ A c, v = .slice A n c ∧ n ≤ c ∧ c ≤ maxLen ∧ (0 < n → ∃ g cur, A = some ⟨g, 0, none⟩ ∧ S g ∧ w.heap[g]? = some (.cells cur 3 (0, 0)) ∧ n ≤ cur.size)
theorem IntsW.wrote {w w' : World} {S T : Nat → Prop} {v : Value} {n : Nat} (h : IntsW w S v n) (hw : Wrote T w w') : IntsW w' S v n := by
  obtain ⟨A, c, rfl, h1, h2, h3⟩ := h
  refine ⟨A, c, rfl, h1, h2, fun hn => ?_⟩
  obtain ⟨g, cur, rfl, hS, hc, hz⟩ := h3 hn
  obtain ⟨cur', hc', hz'⟩ := hw.cells g cur _ _ hc
  exact ⟨g, cur', rfl, hS, hc', by rw [hz']; exact hz⟩
def MiRelW (n : Nat) (k : Int) (S : Nat → Prop) (w : World) (kv i : Value) (wr : World) : Prop :=
  ∃ j : Nat, j ≤ n ∧ i = .int .i64 j ∧ kv = .int .i64 (k + (j : Int)) ∧ Wrote S w wr
theorem mark_IntW (v : Value) (n : Nat) (S : Nat → Prop) (k : Int) (w : World) (h : IntsW w S v n) (h0 : 0 ≤ k) (h1 : k + n ≤ 1000000000000) :
    Calls Tryz.prog 42 #[v, .int .i64 k] w fun e w' => e = .returned (.int .i64 (k + n)) ∧ Wrote S w w' := by
  obtain ⟨A0, c, rfl, hc1, hc2, h3⟩ := h
  unfold maxLen at hc2
  have H3 := Lib.hid h3; clear h3
  go_enter Tryz.func42, Tryz.ntmps42
  go_wp2_with fail
  go_loopw [1, 5] (fun kv i wr => MiRelW n k S w kv i wr) (fun _ i _ => n - (intOf i).toNat)
  case atStart => exact ⟨0, Nat.zero_le _, rfl, by simp, Wrote.refl _ _⟩
  case round =>
    obtain ⟨j, hj, rfl, rfl, hw⟩ := hrel
    have HW := Lib.hid hw; clear hw
    by_cases hlt : j < n
    · obtain ⟨g, cur, rfl, hS, hcur, hcz⟩ := H3.out (by omega)
      obtain ⟨cur', hcur', hcz'⟩ := HW.out.cells g cur _ _ hcur
      obtain ⟨u0, hu0⟩ : ∃ u, wr.cell? ⟨g, j, none⟩ = some u := by
        rw [cell_of_row wr _ j _ _ (0, 0) hcur', Array.getElem?_eq_getElem (by omega)]
        exact ⟨_, rfl⟩
      have hfr : wr.frozen? ⟨g, j, none⟩ = false := frozen_of_row _ _ j _ _ hcur'
      have hq1 : IntKind.i64.wrap (k + (j : Int) + 1) = k + (j : Int) + 1 := IntWalk.i64_in _ (by omega)
      clear hcur hcur'
      go_wp2_with fail
      go_roundw
      case rel => exact ⟨j + 1, by omega, by go_num, by congr 1; omega, HW.out.trans (Wrote.set _ hS)⟩
      case measure => simp [intOf]; omega
    · obtain rfl : j = n := by omega
      go_wp2_with fail
      go_ret
      exact ⟨rfl, HW.out⟩
end
section
open Go.RowKit
set_option linter.all false
theorem sz_EndS (A : Option Addr) (n c : Nat) (left : Int) (w : World) (hn : n ≤ maxLen) (hl : 0 ≤ left) (hl' : left ≤ 1048576) :
    Calls Tryz.prog 49 #[.slice A n c, .int .i64 left] w fun e w' => e = .returned (.int .i64 (szR left n)) ∧ w = w' := by
  unfold maxLen at hn
  go_enter Tryz.func49, Tryz.ntmps49
  go_wp2
  all_goals
    go_ret
    exact ⟨ret_int (by unfold szR; split <;> omega), rfl⟩
def lensE : List Ends → Nat
  | [] => 0
  | xs :: r => xs.length + lensE r
def szEnds (xss : List Ends) : Nat := xss.length + lensE xss
theorem lensE_append : ∀ (a b : List Ends), lensE (a ++ b) = lensE a + lensE b
  | [], b => by simp [lensE]
  | x :: a, b => by simp [lensE, lensE_append a b]; omega
theorem lensE_snoc (xss : List Ends) (k : Nat) (xs : Ends) (h : xss[k]? = some xs) : lensE (xss.take (k + 1)) = lensE (xss.take k) + xs.length := by
  obtain ⟨hk, rfl⟩ := List.getElem?_eq_some_iff.1 h
  rw [List.take_succ_eq_append_getElem hk, lensE_append]
  rfl
theorem lensE_split (xss : List Ends) (k : Nat) : lensE xss = lensE (xss.take k) + lensE (xss.drop k) := by
  rw [← lensE_append, List.take_append_drop]
theorem lensE_all (xss : List Ends) (k : Nat) (h : xss.length ≤ k) : lensE (xss.take k) = lensE xss := by rw [List.take_of_length_le h]
def SzERel (xss : List Ends) (left : Int) (w : World) (l i : Value) (wr : World) : Prop :=
  w = wr ∧ ∃ (k q : Nat), k ≤ xss.length ∧ q = lensE (xss.take k) ∧ i = .int .i64 k ∧ l = .int .i64 (left - xss.length - q) ∧ (q : Int) ≤ left - xss.length
theorem sz_EndSS (v : Value) (xss : List Ends) (left : Int) (w : World) (h : EndssR w (· < w.heap.size) v xss) (hl : 0 ≤ left) (hl' : left ≤ 1048576) :
  Calls Tryz.prog 20 #[v, .int .i64 left] w fun e w' => e = .returned (.int .i64 (szR left (szEnds xss))) ∧ w = w' := by
 obtain ⟨A, c, rfl, h1, h2, h3⟩ := h
 have hL : xss.length ≤ 9223372036854775807 := by unfold maxLen at h2; omega
 clear h2
 by_cases hs : (xss.length : Int) ≤ left
 ·
  go_enter Tryz.func20, Tryz.ntmps20
  go_wp2
  go_loopw [1, 5] (fun l i wr => SzERel xss left w l i wr) (fun _ i _ => xss.length - (intOf i).toNat)
  case atStart => exact ⟨rfl, 0, 0, Nat.zero_le _, rfl, rfl, by simp, by omega⟩
  case round =>
   obtain ⟨rfl, k, q, hk, hq, rfl, rfl, hle⟩ := hrel
   have HQ := Lib.hid hq; clear hq
   by_cases hlt : k < xss.length
   ·
    obtain ⟨xs, hxs⟩ : ∃ xs, xss[k]? = some xs := ⟨xss[k], List.getElem?_eq_getElem hlt⟩
    obtain ⟨ad, rfl, hb, hc⟩ := h3 (by omega)
    obtain ⟨u, hu, hr⟩ := hc k xs hxs
    obtain ⟨A', c', rfl, g1, g2, -⟩ := hr
    have HS := Lib.hid (lensE_snoc xss k xs hxs)
    have HT := Lib.hid (lensE_split xss (k + 1))
    clear h3 hc hxs
    by_cases hx : (xs.length : Int) ≤ left - xss.length - q
    ·
     have h5 : szR (left - xss.length - q) xs.length = left - xss.length - q - xs.length := by unfold szR; rw [if_pos hx]
     go_wp2_with (go_at_call 49; refine (sz_EndS A' xs.length c' _ _ (by omega) (by omega) (by omega)).mono ?_; rintro e w' ⟨rfl, rfl⟩; rw [h5])
     go_roundw
     case rel => exact ⟨rfl, k + 1, q + xs.length, by omega, by rw [HS.out, HQ.out], by go_num, by go_num, by omega⟩
     case measure => simp [intOf]; omega
    ·
     have h5 : szR (left - xss.length - q) xs.length = -1 := by unfold szR; rw [if_neg hx]
     go_wp2_with (go_at_call 49; refine (sz_EndS A' xs.length c' _ _ (by omega) (by omega) (by omega)).mono ?_; rintro e w' ⟨rfl, rfl⟩; rw [h5])
     go_ret
     have h6 := HT.out
     have h7 := HS.out
     have h8 := HQ.out
     exact ⟨ret_int (by unfold szR szEnds; rw [if_neg (by omega)]), rfl⟩
   ·
    go_wp2
    go_ret
    have h6 := lensE_all xss k (by omega)
    have h8 := HQ.out
    exact ⟨ret_int (by unfold szR szEnds; rw [if_pos (by omega)]; omega), rfl⟩
 ·
  have H := Lib.hid (show szR left (szEnds xss) = -1 by unfold szR szEnds; rw [if_neg (by omega)])
  go_enter Tryz.func20, Tryz.ntmps20
  go_wp2
  go_ret
  exact ⟨ret_int H.out.symm, rfl⟩
def szNet (n : Net) : Nat := szEnds n.es + n.ids.length + n.ins.length
theorem sz_Net (ve vi vn : Value) (n : Net) (left : Int) (w : World) (h : NetR w w.heap.size ve vi vn n) (hl : 0 ≤ left) (hl' : left ≤ 1048576) :
  Calls Tryz.prog 5 #[.agg #[ve, vi, vn], .int .i64 left] w fun e w' => e = .returned (.int .i64 (szR left (szNet n))) ∧ Below w.heap.size w w' := by
 obtain ⟨he, hi, hn⟩ := h
 obtain ⟨A0, m0, c0, rfl⟩ := he.isSlice
 have l1 := hi.1.len_le
 have l2 := hn.1.len_le
 rw [List.length_map] at l1 l2
 obtain ⟨A1, c1, rfl, -, -, -⟩ := hi.open_
 obtain ⟨A2, c2, rfl, -, -, -⟩ := hn.open_
 have HE := Lib.hid he; clear he hi hn
 obtain ⟨w0, hw0⟩ : ∃ z, z = w.alloc (.cells #[.slice A0 m0 c0, .slice A1 n.ids.length c1, .slice A2 n.ins.length c2] 29) := ⟨_, rfl⟩
 have hb0 : Below w.heap.size w w0 := by rw [hw0]; exact bl_alloc (Below.refl _ _) _
 have HD := Lib.hid (show w0.heap[w.heap.size]? = some (.cells #[.slice A0 m0 c0, .slice A1 n.ids.length c1, .slice A2 n.ins.length c2] 29 (0, 0)) by rw [hw0]; exact heap_alloc_new w _)
 have HW := Lib.hid hw0; clear hw0
 obtain ⟨q0, q1, q2, qf⟩ := cells3 HD
 have JE := Lib.hid (sz_EndSS _ n.es left w0 (HE.out.keep (fun b hb => Nat.lt_of_lt_of_le hb hb0.size) fun b hb => hb0.block b hb) hl hl')
 have HN := Lib.hid (show szNet n = szEnds n.es + n.ids.length + n.ins.length from rfl)
 generalize szNet n = N at *
 generalize szEnds n.es = a at *
 generalize n.ids.length = b at *
 generalize n.ins.length = c at *
 have HR : N = a + b + c := HN.out
 have F1 : ¬ ((a : Int) ≤ left) → szR left N = -1 := fun h => by unfold szR; rw [if_neg (by omega)]
 have F2 : ¬ ((b : Int) ≤ left - a) → szR left N = -1 := fun h => by unfold szR; rw [if_neg (by omega)]
 have F3 : ¬ ((c : Int) ≤ left - a - b) → szR left N = -1 := fun h => by unfold szR; rw [if_neg (by omega)]
 have F4 : (c : Int) ≤ left - a - b → szR left N = left - a - b - c := fun h => by unfold szR; rw [if_pos (by omega)]; omega
 generalize szR left N = R at *
 clear HN HR
 go_enter Tryz.func5, Tryz.ntmps5
 go_wp2_with fail
 rw [← HW.out]
 refine JE.out.mono ?_
 rintro e w' ⟨rfl, rfl⟩
 by_cases h0 : (a : Int) ≤ left
 ·
  have e0 : szR left a = left - a := by unfold szR; rw [if_pos h0]
  rw [e0]
  go_wp2_with fail
  refine (sz_IntS A1 b c1 (left - a) w0 l1 (by omega) (by omega)).mono ?_
  rintro e w' ⟨rfl, rfl⟩
  by_cases h1 : (b : Int) ≤ left - a
  ·
   have e1 : szR (left - a) b = left - a - b := by unfold szR; rw [if_pos h1]
   rw [e1]
   go_wp2_with fail
   refine (sz_IntS A2 c c2 (left - a - b) w0 l2 (by omega) (by omega)).mono ?_
   rintro e w' ⟨rfl, rfl⟩
   by_cases h2 : (c : Int) ≤ left - a - b
   ·
    have e2 : szR (left - a - b) c = left - a - b - c := by unfold szR; rw [if_pos h2]
    rw [e2]
    go_wp2_with fail
    go_ret
    exact ⟨ret_int (F4 h2).symm, hb0⟩
   ·
    have e2 : szR (left - a - b) c = -1 := by unfold szR; rw [if_neg h2]
    rw [e2]
    go_wp2_with fail
    go_ret
    exact ⟨ret_int (F3 h2).symm, hb0⟩
  ·
   have e1 : szR (left - a) b = -1 := by unfold szR; rw [if_neg h1]
   rw [e1]
   go_wp2_with fail
   go_ret
   exact ⟨ret_int (F2 h1).symm, hb0⟩
 ·
  have e0 : szR left a = -1 := by unfold szR; rw [if_neg h0]
  rw [e0]
  go_wp2_with fail
  go_ret
  exact ⟨ret_int (F1 h0).symm, hb0⟩
/-! ### Equality of what reads alike -/
theorem eq_End (x : Int × Int) (w : World) :
    Calls Tryz.prog 91 #[.agg #[.int .i64 x.1, .int .i64 x.2], .agg #[.int .i64 x.1, .int .i64 x.2]] w fun e w' => e = .returned (.bool true) ∧ Below w.heap.size w w' := by
  go_enter Tryz.func91, Tryz.ntmps91
  go_wp2
  go_ret
  exact ⟨rfl, (by repeat (first | exact Below.refl _ _ | refine Below.drew ?_ | refine bl_alloc ?_ _ | refine Below.setCell ?_ (by simp <;> omega) _))⟩
theorem to_End (x : Int × Int) (w : World) :
    Calls Tryz.prog 79 #[.agg #[.int .i64 x.1, .int .i64 x.2]] w fun e w' => e = .returned (.agg #[.int .i64 x.1, .int .i64 x.2]) ∧ Below w.heap.size w w' := by
  go_enter Tryz.func79, Tryz.ntmps79
  go_wp2
  refine bodyPost_ret (v := .agg #[.int .i64 x.1, .int .i64 x.2]) (by simp [results, Tryz.results79, go_sem]) rfl ⟨rfl, ?_⟩
  repeat (first | exact Below.refl _ _ | refine Below.drew ?_ | refine bl_alloc ?_ _ | refine Below.setCell ?_ (by simp <;> omega) _)
def EqERel (n : Nat) (w : World) (i : Value) (wr : World) : Prop := Below w.heap.size w wr ∧ ∃ k : Nat, k ≤ n ∧ i = .int .i64 k
theorem eq_EndS (v v' : Value) (xs : Ends) (w : World) (h : EndsB w w.heap.size v xs) (h' : EndsB w w.heap.size v' xs) :
  Calls Tryz.prog 67 #[v, v'] w fun e w' => e = .returned (.bool true) ∧ Below w.heap.size w w' := by
 obtain ⟨A, c, rfl, h1, h2, -, h3⟩ := h
 obtain ⟨A', c', rfl, h1', h2', -, h3'⟩ := h'
 unfold maxLen at h2
 go_enter Tryz.func67, Tryz.ntmps67
 go_wp2
 go_loopw [5] (fun i wr => EqERel xs.length w i wr) (fun i _ => xs.length - (intOf i).toNat)
 case atStart => exact ⟨Below.refl _ _, 0, Nat.zero_le _, rfl⟩
 case round =>
  obtain ⟨hbl, k, hk, rfl⟩ := hrel
  by_cases hlt : k < xs.length
  ·
   obtain ⟨x, hx⟩ : ∃ x, xs[k]? = some x := ⟨xs[k], List.getElem?_eq_getElem hlt⟩
   obtain ⟨b, o, rfl, hb, hc⟩ := h3 (by omega)
   obtain ⟨b', o', rfl, hb', hc'⟩ := h3' (by omega)
   have q0 := (hbl.cell (p := ⟨b, o + k * 2, none⟩) hb).trans (hc k x hx).1
   have q1 := (hbl.cell (p := ⟨b, o + k * 2 + 1, none⟩) hb).trans (hc k x hx).2
   have p0 := (hbl.cell (p := ⟨b', o' + k * 2, none⟩) hb').trans (hc' k x hx).1
   have p1 := (hbl.cell (p := ⟨b', o' + k * 2 + 1, none⟩) hb').trans (hc' k x hx).2
   have hzw := hbl.size
   clear h3 hc hx h3' hc'
   go_wp2_with fail
   refine wp_region_held_drew (S := fun w' => w'.cell? ⟨b, o + k * 2, none⟩ = some (.int .i64 x.1) ∧ w'.cell? ⟨b, o + k * 2 + 1, none⟩ = some (.int .i64 x.2) ∧ w'.cell? ⟨b', o' + k * 2, none⟩ = some (.int .i64 x.1) ∧ w'.cell? ⟨b', o' + k * 2 + 1, none⟩ = some (.int .i64 x.2)) (by kernel_rfl) ?_ (fun hHeld => ?_)
   ·
    go_keep
   refine tk 0 17 rfl rfl ?_
   refine tk 1 18 rfl rfl ?_
   refine tk 2 19 rfl rfl ?_
   refine tk 3 20 rfl rfl ?_
   refine tk 4 21 rfl rfl ?_
   refine tk 5 22 rfl rfl ?_
   refine tk 6 23 rfl rfl ?_
   refine stk 7 24 ?_
   refine tr 8 rfl (by kernel_rfl) (fun K hK => ?_)
   go_simp
   go_at_call 91
   refine (eq_End x _).mono ?_
   rintro e w1 ⟨rfl, hb1⟩
   have hB01 := ((Below.refl wr.heap.size wr).drew).trans hb1
   have hB1 := hbl.trans (hB01.mono hbl.size)
   have r0 := (hB01.cell (p := ⟨b, o + k * 2, none⟩) (show b < wr.heap.size by omega)).trans q0
   have r1 := (hB01.cell (p := ⟨b, o + k * 2 + 1, none⟩) (show b < wr.heap.size by omega)).trans q1
   have t0 := (hB01.cell (p := ⟨b', o' + k * 2, none⟩) (show b' < wr.heap.size by omega)).trans p0
   have t1 := (hB01.cell (p := ⟨b', o' + k * 2 + 1, none⟩) (show b' < wr.heap.size by omega)).trans p1
   refine hK.out _ _ ?_ (fun hHeld => ?_)
   ·
    go_keep
   clear hK K
   try simp only [Act.put, pu]
   refine stk 9 26 ?_
   refine wpAnyH_done (by kernel_rfl) ?_ _
   go_wp2_with fail
   go_roundw
   case rel => exact ⟨hB1, k + 1, by omega, by go_num⟩
   case measure => simp [intOf]; omega
  ·
   go_wp2
   go_ret
   exact ⟨rfl, hbl⟩
theorem eq_EndSS (v v' : Value) (xss : List Ends) (w : World) (h : EndssR w (· < w.heap.size) v xss) (h' : EndssR w (· < w.heap.size) v' xss) :
  Calls Tryz.prog 39 #[v, v'] w fun e w' => e = .returned (.bool true) ∧ Below w.heap.size w w' := by
 obtain ⟨A, c, rfl, h1, h2, h3⟩ := h
 obtain ⟨A', c', rfl, h1', h2', h3'⟩ := h'
 unfold maxLen at h2
 go_enter Tryz.func39, Tryz.ntmps39
 go_wp2
 go_loopw [5] (fun i wr => EqERel xss.length w i wr) (fun i _ => xss.length - (intOf i).toNat)
 case atStart => exact ⟨Below.refl _ _, 0, Nat.zero_le _, rfl⟩
 case round =>
  obtain ⟨hbl, k, hk, rfl⟩ := hrel
  by_cases hlt : k < xss.length
  ·
   obtain ⟨x, hx⟩ : ∃ x, xss[k]? = some x := ⟨xss[k], List.getElem?_eq_getElem hlt⟩
   obtain ⟨ad, rfl, hb, hc⟩ := h3 (by omega)
   obtain ⟨ad', rfl, hb', hc'⟩ := h3' (by omega)
   obtain ⟨u, k1, hr⟩ := hc k x hx
   obtain ⟨u', k2, hr'⟩ := hc' k x hx
   have q0 := (hbl.cell (p := ad.add k) (by rw [block_add]; exact hb)).trans k1
   have p0 := (hbl.cell (p := ad'.add k) (by rw [block_add]; exact hb')).trans k2
   have hzw := hbl.size
   have hba : (ad.add k).block < wr.heap.size := by rw [block_add]; omega
   have hba' : (ad'.add k).block < wr.heap.size := by rw [block_add]; omega
   have HR := Lib.hid ((hr.below hbl).more hbl.size)
   have HR' := Lib.hid ((hr'.below hbl).more hbl.size)
   clear h3 hc hx h3' hc' hr hr' k1 k2
   go_wp2_with fail
   refine wp_region_held_drew (S := fun w' => w'.cell? (ad.add k) = some u ∧ w'.cell? (ad'.add k) = some u') (by kernel_rfl) ?_ (fun hHeld => ?_)
   ·
    go_keep
   refine tk 0 17 rfl rfl ?_
   refine tk 1 18 rfl rfl ?_
   refine tk 2 19 rfl rfl ?_
   refine tk 3 20 rfl rfl ?_
   refine tk 4 21 rfl rfl ?_
   refine tk 5 22 rfl rfl ?_
   refine tk 6 23 rfl rfl ?_
   refine stk 7 24 ?_
   refine tr 8 rfl (by kernel_rfl) (fun K hK => ?_)
   go_simp
   go_at_call 67
   have hd : Below wr.heap.size wr wr.drew := (Below.refl _ _).drew
   refine (eq_EndS u u' x wr.drew (HR.out.below hd) (HR'.out.below hd)).mono ?_
   rintro e w1 ⟨rfl, hb1⟩
   have hB01 := ((Below.refl wr.heap.size wr).drew).trans hb1
   have hB1 := hbl.trans (hB01.mono hbl.size)
   have r0 := (hB01.cell hba).trans q0
   have t0 := (hB01.cell hba').trans p0
   refine hK.out _ _ ?_ (fun hHeld => ?_)
   ·
    go_keep
   clear hK K
   try simp only [Act.put, pu]
   refine stk 9 26 ?_
   refine wpAnyH_done (by kernel_rfl) ?_ _
   go_wp2_with fail
   go_roundw
   case rel => exact ⟨hB1, k + 1, by omega, by go_num⟩
   case measure => simp [intOf]; omega
  ·
   go_wp2
   go_ret
   exact ⟨rfl, hbl⟩
/-! ### Copies -/
theorem endInfo : (Tryz.prog.info? 106).map (fun i => (i.zero, i.size, i.bytes)) = some (some (.agg #[.int .i64 0, .int .i64 0]), 2, 16) := by kernel_rfl
theorem endsInfo : (Tryz.prog.info? 88).map (fun i => (i.zero, i.size, i.bytes)) = some (some (.slice none 0 0), 1, 24) := by kernel_rfl
theorem run_make2 {P : Program} (t e : TypeId) (z : Value) (bytes : Nat) (ht : P.underlying t = some (.slice e)) (hinf : (P.info? e).map (fun i => (i.zero, i.size, i.bytes)) = some (some z, 2, bytes)) (n : Nat)
    (hb : bytes * n ≤ 281474976710656) (h63 : n ≤ 9223372036854775807) (w : World) :
    (Instr.makeSlice t (.int .i64 (n : Int)) (.int .i64 (n : Int))).run P w = .ok (.slice (some ⟨w.heap.size, 0, none⟩) n n) (w.alloc (.cells (madeCells z.cells (n * 2)) e)) := by
  obtain ⟨i, hi, hz0, hz1, hz2⟩ := info_parts hinf
  have hb' : (i.bytes : Int) * (n : Int) ≤ 281474976710656 := by
    rw [hz2]
    have h : ((bytes * n : Nat) : Int) ≤ 281474976710656 := by omega
    rwa [Int.natCast_mul] at h
  have hr := run_make (P := P) w t e i z ht hi hz0 .i64 .i64 n n (by omega) (by omega) hb' (by omega)
  simp only [Int.toNat_natCast] at hr
  rw [hr, hz1]
def EndsTo (es : Ends) (C : Array Value) (k : Nat) : Prop := ∀ j e, j < k → es[j]? = some e → C[j * 2]? = some (.int .i64 e.1) ∧ C[j * 2 + 1]? = some (.int .i64 e.2)
theorem EndsTo.next {es : Ends} {C : Array Value} {k : Nat} {x : Int × Int} (h : EndsTo es C k) (hx : es[k]? = some x) (hC : C.size = es.length * 2) (hk : k < es.length) :
    EndsTo es ((C.setIfInBounds (k * 2) (.int .i64 x.1)).setIfInBounds (k * 2 + 1) (.int .i64 x.2)) (k + 1) := by
  intro j e hj he
  by_cases hjk : j < k
  · rw [Array.getElem?_setIfInBounds_ne (by omega), Array.getElem?_setIfInBounds_ne (by omega), Array.getElem?_setIfInBounds_ne (by omega), Array.getElem?_setIfInBounds_ne (by omega)]
    exact h j e hjk he
  · obtain rfl : j = k := by omega
    obtain rfl := Option.some.inj (hx.symm.trans he)
    constructor
    · rw [Array.getElem?_setIfInBounds_ne (by omega), Array.getElem?_setIfInBounds_self_of_lt (by omega)]
    · rw [Array.getElem?_setIfInBounds_self_of_lt (by simp; omega)]
def ToERel (xs : Ends) (w : World) (i : Value) (wr : World) : Prop :=
  ∃ (k : Nat) (C : Array Value), k ≤ xs.length ∧ i = .int .i64 k ∧ wr.heap[w.heap.size]? = some (.cells C 106 (0, 0)) ∧ C.size = xs.length * 2 ∧ Below w.heap.size w wr ∧ w.heap.size < wr.heap.size ∧ EndsTo xs C k
theorem to_EndS (v : Value) (xs : Ends) (w : World) (h : EndsB w w.heap.size v xs) (hn : xs.length ≤ 1048576) :
  Calls Tryz.prog 57 #[v] w fun e w' => ∃ v', e = .returned v' ∧ (∃ A m c, v' = .slice A m c) ∧ EndsR w' (fun b => w.heap.size ≤ b ∧ b < w'.heap.size) v' xs ∧ Below w.heap.size w w' ∧ w.heap.size < w'.heap.size := by
 obtain ⟨A, c, rfl, h1, h2, h4, h3⟩ := h
 have H4 := Lib.hid h4; clear h4
 have hmk := fun W => run_make2 (P := Tryz.prog) 88 106 _ 16 Tryz.underlying88 endInfo xs.length (by omega) (by omega) W
 go_enter Tryz.func57, Tryz.ntmps57
 go_wp2
 clear hmk
 go_loopw [4] (fun i wr => ToERel xs w i wr) (fun i _ => xs.length - (intOf i).toNat)
 case atStart => exact ⟨0, _, Nat.zero_le _, rfl, heap_alloc_new w _, by simp [madeCells], bl_alloc (Below.refl _ _) _, by simp, fun j x hj => by omega⟩
 case round =>
  obtain ⟨k, C, hk, rfl, hblk, hC, hbl, hgt, hits⟩ := hrel
  have hsz := hbl.size
  have HI := Lib.hid hits; clear hits
  have HB := Lib.hid hblk; clear hblk
  have HC := Lib.hid hC; clear hC
  by_cases hlt : k < xs.length
  ·
   obtain ⟨x, hx⟩ : ∃ x, xs[k]? = some x := ⟨xs[k], List.getElem?_eq_getElem hlt⟩
   obtain ⟨b, o, rfl, hb, hc⟩ := h3 (by omega)
   have q0 := (hbl.cell (p := ⟨b, o + k * 2, none⟩) hb).trans (hc k x hx).1
   have q1 := (hbl.cell (p := ⟨b, o + k * 2 + 1, none⟩) hb).trans (hc k x hx).2
   have HX := Lib.hid hx
   clear h3 hc hx
   go_wp2_with fail
   refine (to_End x wr).mono ?_
   rintro e w1 ⟨rfl, hb1⟩
   have hblk1 : w1.heap[w.heap.size]? = some (.cells C 106 (0, 0)) := (hb1.block _ hgt).trans HB.out
   have hcell : ∀ j, j < 2 → ∃ u, w1.cell? ⟨w.heap.size, k * 2 + j, none⟩ = some u := by
    intro j hj
    rw [cell_of_row w1 _ (k * 2 + j) _ _ (0, 0) hblk1, Array.getElem?_eq_getElem (by rw [HC.out]; omega)]
    exact ⟨_, rfl⟩
   have hfr : ∀ j, w1.frozen? ⟨w.heap.size, j, none⟩ = false := by intro j; simp [World.frozen?, hblk1]
   obtain ⟨o0, z0⟩ := hcell 0 (by omega)
   obtain ⟨o1, z1⟩ := hcell 1 (by omega)
   rw [Nat.add_zero] at z0
   have y0 := hfr (k * 2)
   have y1 := hfr (k * 2 + 1)
   clear hcell hfr
   have hB1 := hbl.trans (hb1.mono hsz)
   have hgt1 : w.heap.size < w1.heap.size := by have := hb1.size; omega
   have HB1 := Lib.hid hblk1; clear hblk1
   go_wp2_with fail
   go_roundw
   case rel =>
    refine ⟨k + 1, _, by omega, by go_num, heap_set_same (heap_set_same HB1.out _) _, by simp [HC.out], ?_, by simp only [size_setCell]; exact hgt1, HI.out.next HX.out HC.out hlt⟩
    iterate 2 (refine Below.setCell ?_ (by simp) _)
    exact hB1
   case measure => simp [intOf]; omega
  ·
   go_wp2
   go_ret
   refine ⟨_, rfl, ⟨_, _, _, rfl⟩, ⟨_, _, rfl, Nat.le_refl _, by unfold maxLen; omega, H4.out, fun hn => ⟨_, 0, rfl, ⟨Nat.le_refl _, hgt⟩, fun j e he => ?_⟩⟩, hbl, hgt⟩
   have hj : j < xs.length := (List.getElem?_eq_some_iff.1 he).1
   obtain ⟨k1, k2⟩ := HI.out j e (by omega) he
   exact ⟨by rw [cell_of_row _ _ (0 + j * 2) _ _ (0, 0) HB.out, Nat.zero_add]; exact k1, by rw [cell_of_row _ _ (0 + j * 2 + 1) _ _ (0, 0) HB.out, Nat.zero_add]; exact k2⟩
def ToEsRel (xss : List Ends) (w : World) (i : Value) (wr : World) : Prop :=
  ∃ (k : Nat) (C : Array Value), k ≤ xss.length ∧ i = .int .i64 k ∧ wr.heap[w.heap.size]? = some (.cells C 88 (0, 0)) ∧ C.size = xss.length ∧ Below w.heap.size w wr ∧ w.heap.size < wr.heap.size ∧
    (∀ (j : Nat) (u : Value), C[j]? = some u → ∃ A m c, u = .slice A m c) ∧ ∀ j xs, j < k → xss[j]? = some xs → ∃ u, C[j]? = some u ∧ EndsR wr (fun b => w.heap.size < b ∧ b < wr.heap.size) u xs
theorem to_EndSS (v : Value) (xss : List Ends) (w : World) (h : EndssR w (· < w.heap.size) v xss) (hn : szEnds xss ≤ 1048576) :
  Calls Tryz.prog 29 #[v] w fun e w' => ∃ v', e = .returned v' ∧ EndssR w' (fun b => w.heap.size ≤ b ∧ b < w'.heap.size) v' xss ∧ Below w.heap.size w w' := by
 obtain ⟨A, c, rfl, h1, h2, h3⟩ := h
 have hn' : xss.length ≤ 1048576 := by unfold szEnds at hn; omega
 have HSZ := Lib.hid (show ∀ (k : Nat) (x : Ends), xss[k]? = some x → x.length ≤ 1048576 from fun k x hx => by
  have := lensE_snoc xss k x hx
  have := lensE_split xss (k + 1)
  unfold szEnds at hn
  omega)
 clear hn
 have hmk := fun W => run_make1 (P := Tryz.prog) 41 88 (.slice none 0 0) 24 Tryz.underlying41 endsInfo rfl xss.length (by omega) (by omega) W
 go_enter Tryz.func29, Tryz.ntmps29
 go_wp2
 clear hmk
 go_loopw [4] (fun i wr => ToEsRel xss w i wr) (fun i _ => xss.length - (intOf i).toNat)
 case atStart => exact ⟨0, _, Nat.zero_le _, rfl, heap_alloc_new w _, by simp [rowOf], bl_alloc (Below.refl _ _) _, by simp, fun j u hu => ⟨none, 0, 0, by have h := hu; simp [rowOf, Array.getElem?_replicate] at h; exact h.2.symm⟩, fun j x hj => by omega⟩
 case round =>
  obtain ⟨k, C, hk, rfl, hblk, hC, hbl, hgt, hsl, hits⟩ := hrel
  have hsz := hbl.size
  have HI := Lib.hid hits; clear hits
  have HB := Lib.hid hblk; clear hblk
  have HC := Lib.hid hC; clear hC
  have HL := Lib.hid hsl; clear hsl
  by_cases hlt : k < xss.length
  ·
   obtain ⟨xs, hx⟩ : ∃ x, xss[k]? = some x := ⟨xss[k], List.getElem?_eq_getElem hlt⟩
   obtain ⟨ad, rfl, hb, hc⟩ := h3 (by omega)
   obtain ⟨u, hu, hr⟩ := hc k xs hx
   have hcell : wr.cell? (ad.add k) = some u := (hbl.cell (p := ad.add k) (by rw [block_add]; exact hb)).trans hu
   have HR := Lib.hid ((hr.below hbl).more hsz)
   have hxz := HSZ.out k xs hx
   have HX := Lib.hid hx
   clear h3 hc hx hr hu
   go_wp2_with fail
   refine (to_EndS u xs wr HR.out hxz).mono ?_
   rintro e w1 ⟨v', rfl, ⟨A', m', c', rfl⟩, ho, hb1, hs1⟩
   have hblk1 : w1.heap[w.heap.size]? = some (.cells C 88 (0, 0)) := (hb1.block _ hgt).trans HB.out
   obtain ⟨o0, z00⟩ : ∃ u, C[k]? = some u := ⟨_, Array.getElem?_eq_getElem (by rw [HC.out]; omega)⟩
   obtain ⟨Ao, mo, co, rfl⟩ := HL.out k _ z00
   have z0 : w1.cell? ⟨w.heap.size, k, none⟩ = some (.slice Ao mo co) := by rw [cell_of_row w1 _ k _ _ (0, 0) hblk1]; exact z00
   have hfr : w1.frozen? ⟨w.heap.size, k, none⟩ = false := by simp [World.frozen?, hblk1]
   have hB1 := hbl.trans (hb1.mono hsz)
   have HB1 := Lib.hid hblk1; clear hblk1 z00
   have HO := Lib.hid ho; clear ho
   have hz1 := hb1.size
   go_wp2_with fail
   go_roundw
   case rel =>
    refine ⟨k + 1, _, by omega, by go_num, heap_set_same HB1.out _, by simp [HC.out], Below.setCell hB1 (by simp) _, by simp only [size_setCell]; omega, fun j u hu => ?_, fun j y hj hy => ?_⟩
    ·
     by_cases hjk : j = k
     ·
      subst hjk
      rw [Array.getElem?_setIfInBounds_self_of_lt (by rw [HC.out]; omega)] at hu
      exact ⟨_, _, _, (Option.some.inj hu).symm⟩
     ·
      rw [Array.getElem?_setIfInBounds_ne (by omega)] at hu
      exact HL.out j u hu
    ·
     have hk1 : ∀ b, w.heap.size < b → (w1.setCell ⟨w.heap.size, k, none⟩ (.slice A' m' c')).heap[b]? = w1.heap[b]? := fun b hb => Below.heap_setCell _ _ _ _ (by simp; omega)
     by_cases hjk : j < k
     ·
      obtain ⟨u', hu', hr'⟩ := HI.out j y hjk hy
      refine ⟨u', by rw [Array.getElem?_setIfInBounds_ne (by omega)]; exact hu', hr'.keep (fun b hb => ⟨hb.1, by simp only [size_setCell]; omega⟩) fun b hb => (hk1 b hb.1).trans (hb1.block b hb.2)⟩
     ·
      obtain rfl : j = k := by omega
      obtain rfl := Option.some.inj (HX.out.symm.trans hy)
      exact ⟨_, Array.getElem?_setIfInBounds_self_of_lt (by rw [HC.out]; omega), HO.out.keep (fun b hb => ⟨by omega, by simp only [size_setCell]; omega⟩) fun b hb => hk1 b (by omega)⟩
   case measure => simp [intOf]; omega
  ·
   go_wp2
   go_ret
   refine ⟨_, rfl, ⟨_, _, rfl, Nat.le_refl _, by unfold maxLen; omega, fun hn => ⟨_, rfl, ⟨Nat.le_refl _, hgt⟩, fun j xs hx => ?_⟩⟩, hbl⟩
   have hj : j < xss.length := (List.getElem?_eq_some_iff.1 hx).1
   obtain ⟨u, k1, k2⟩ := HI.out j xs (by omega) hx
   refine ⟨u, ?_, k2.keep (fun b hb => ⟨by omega, hb.2⟩) fun _ _ => rfl⟩
   rw [show (⟨w.heap.size, 0, none⟩ : Addr).add j = ⟨w.heap.size, j, none⟩ by unfold Addr.add; split <;> simp_all, cell_of_row _ _ j _ _ (0, 0) HB.out]
   exact k1
theorem eq_Net (ve vi vn ve' vi' vn' : Value) (n : Net) (w : World) (h : NetR w w.heap.size ve vi vn n) (h' : NetR w w.heap.size ve' vi' vn' n) :
  Calls Tryz.prog 12 #[.agg #[ve, vi, vn], .agg #[ve', vi', vn']] w fun e w' => e = .returned (.bool true) ∧ Below w.heap.size w w' := by
 obtain ⟨⟨A0, m0, c0, rfl⟩, ⟨A1, m1, c1, rfl⟩, A2, m2, c2, rfl⟩ := h.slices
 obtain ⟨⟨B0, n0, d0, rfl⟩, ⟨B1, n1, d1, rfl⟩, B2, n2, d2, rfl⟩ := h'.slices
 obtain ⟨w0, hw0⟩ : ∃ z, z = w.alloc (.cells #[.slice A0 m0 c0, .slice A1 m1 c1, .slice A2 m2 c2] 43) := ⟨_, rfl⟩
 obtain ⟨w1, hw1⟩ : ∃ z, z = w0.alloc (.cells #[.slice B0 n0 d0, .slice B1 n1 d1, .slice B2 n2 d2] 43) := ⟨_, rfl⟩
 have hb0 : Below w.heap.size w w0 := by rw [hw0]; exact bl_alloc (Below.refl _ _) _
 have hb1 : Below w0.heap.size w0 w1 := by rw [hw1]; exact bl_alloc (Below.refl _ _) _
 have hs0 : w0.heap.size = w.heap.size + 1 := by rw [hw0]; simp
 have hs1 : w1.heap.size = w0.heap.size + 1 := by rw [hw1]; simp
 have HD0 := Lib.hid (show w0.heap[w.heap.size]? = some (.cells #[.slice A0 m0 c0, .slice A1 m1 c1, .slice A2 m2 c2] 43 (0, 0)) by rw [hw0]; exact heap_alloc_new w _)
 have HD1 := Lib.hid (show w1.heap[w0.heap.size]? = some (.cells #[.slice B0 n0 d0, .slice B1 n1 d1, .slice B2 n2 d2] 43 (0, 0)) by rw [hw1]; exact heap_alloc_new w0 _)
 replace HD0 := bk HD0 hb1
 rw [hs0] at HD1
 have hB := bl_trans hb0 hb1
 have HS := Lib.hid hs1
 have HS0 := Lib.hid hs0
 have HW0 := Lib.hid hw0; clear hw0
 have HW1 := Lib.hid hw1; clear hw1
 clear hs0 hs1
 replace h := Lib.hid (h.up hB)
 replace h' := Lib.hid (h'.up hB)
 clear hb0 hb1
 obtain ⟨q0, q1, q2, qf⟩ := cells3 HD0
 obtain ⟨p0, p1, p2, pf⟩ := cells3 HD1
 go_enter Tryz.func12, Tryz.ntmps12
 go_wp2_with fail
 rw [← HW0.out, ← HW1.out]
 refine (eq_EndSS _ _ n.es w1 h.out.e h'.out.e).mono ?_
 rintro e w2 ⟨rfl, hb2⟩
 clear q0 q1 q2 qf p0 p1 p2 pf
 replace HD0 := bk HD0 hb2 (by have := HS.out; have := HS0.out; omega)
 replace HD1 := bk HD1 hb2 (by have := HS.out; have := HS0.out; omega)
 obtain ⟨q0, q1, q2, qf⟩ := cells3 HD0
 obtain ⟨p0, p1, p2, pf⟩ := cells3 HD1
 replace h := Lib.hid (h.out.up hb2)
 replace h' := Lib.hid (h'.out.up hb2)
 replace hB := bl_trans hB hb2
 go_wp2_with fail
 refine (eq_IntS _ _ n.ids w2 h.out.i h'.out.i).mono ?_
 rintro e w3 ⟨rfl, a, rfl⟩
 go_wp2_with fail
 refine (eq_IntS _ _ n.ins (w2.drewN a) h.out.n h'.out.n).mono ?_
 rintro e w4 ⟨rfl, b, rfl⟩
 go_wp2_with fail
 go_ret
 exact ⟨rfl, bl_drewN hB _⟩
theorem to_Net (ve vi vn : Value) (n : Net) (w : World) (h : NetR w w.heap.size ve vi vn n) (hz : szNet n ≤ 1048576) :
  Calls Tryz.prog 8 #[.agg #[ve, vi, vn]] w fun e w' => ∃ ve' vi' vn', e = .returned (.agg #[ve', vi', vn']) ∧ NetR w' w'.heap.size ve' vi' vn' n ∧ Below w.heap.size w w' := by
 obtain ⟨⟨A0, m0, c0, rfl⟩, ⟨A1, m1, c1, rfl⟩, A2, m2, c2, rfl⟩ := h.slices
 have HZ := Lib.hid (show szEnds n.es ≤ 1048576 ∧ n.ids.length ≤ 1048576 ∧ n.ins.length ≤ 1048576 by unfold szNet at hz; omega)
 clear hz
 obtain ⟨w0, hw0⟩ : ∃ z, z = w.alloc (.cells #[.slice A0 m0 c0, .slice A1 m1 c1, .slice A2 m2 c2] 29) := ⟨_, rfl⟩
 obtain ⟨w1, hw1⟩ : ∃ z, z = w0.alloc (.cells #[.slice none 0 0, .slice none 0 0, .slice none 0 0] 43) := ⟨_, rfl⟩
 obtain ⟨w2, hw2⟩ : ∃ z, z = w1.alloc (.cells #[.slice none 0 0, .slice none 0 0, .slice none 0 0] 43) := ⟨_, rfl⟩
 have hb0 : Below w.heap.size w w0 := by rw [hw0]; exact bl_alloc (Below.refl _ _) _
 have hb1 : Below w0.heap.size w0 w1 := by rw [hw1]; exact bl_alloc (Below.refl _ _) _
 have hb2 : Below w1.heap.size w1 w2 := by rw [hw2]; exact bl_alloc (Below.refl _ _) _
 have hs0 : w0.heap.size = w.heap.size + 1 := by rw [hw0]; simp
 have hs1 : w1.heap.size = w.heap.size + 1 + 1 := by rw [hw1]; simp [hs0]
 have hs2 : w2.heap.size = w.heap.size + 1 + 1 + 1 := by rw [hw2]; simp [hs1]
 have HD0 := Lib.hid (show w0.heap[w.heap.size]? = some (.cells #[.slice A0 m0 c0, .slice A1 m1 c1, .slice A2 m2 c2] 29 (0, 0)) by rw [hw0]; exact heap_alloc_new w _)
 have HD1 := Lib.hid (show w1.heap[w.heap.size + 1]? = some (.cells #[.slice none 0 0, .slice none 0 0, .slice none 0 0] 43 (0, 0)) by rw [hw1, ← hs0]; exact heap_alloc_new w0 _)
 have HD2 := Lib.hid (show w2.heap[w.heap.size + 1 + 1]? = some (.cells #[.slice none 0 0, .slice none 0 0, .slice none 0 0] 43 (0, 0)) by rw [hw2, ← hs1]; exact heap_alloc_new w1 _)
 replace HD0 := bk (bk HD0 hb1) hb2
 replace HD1 := bk HD1 hb2
 have hB := bl_trans (bl_trans hb0 hb1) hb2
 have HW0 := Lib.hid hw0; clear hw0
 have HW1 := Lib.hid hw1; clear hw1
 have HW2 := Lib.hid hw2; clear hw2
 have hlt : w.heap.size + 1 + 1 < w2.heap.size := by omega
 clear hs0 hs1 hs2
 have HN := Lib.hid h; clear h
 clear hb0 hb1 hb2
 obtain ⟨q0, q1, q2, qf⟩ := cells3 HD0
 go_enter Tryz.func8, Tryz.ntmps8
 go_wp2_with fail
 rw [← HW0.out, ← HW1.out, ← HW2.out]
 refine (to_EndSS _ n.es w2 ((HN.out.below hB).more hB.size).e HZ.out.1).mono ?_
 rintro e w3 ⟨v0, rfl, ho, hb3⟩
 obtain ⟨B0, n0, d0, rfl⟩ := ho.isSlice
 have HO := Lib.hid ho; clear ho
 clear q0 q1 q2 qf
 replace HD0 := bk HD0 hb3
 replace HD1 := bk HD1 hb3
 replace HD2 := bk HD2 hb3
 replace hB := bl_trans hB hb3
 have hz3 := hb3.size
 obtain ⟨q0, q1, q2, qf⟩ := cells3 HD0
 obtain ⟨p0, p1, p2, pf⟩ := cells3 HD2
 obtain ⟨w4, hw4⟩ : ∃ z, z = w3.setCell ⟨w.heap.size + 1 + 1, 0, none⟩ (.slice B0 n0 d0) := ⟨_, rfl⟩
 have HW4 := Lib.hid hw4
 go_wp2_with fail
 rw [← HW4.out]
 obtain ⟨hB4, ho4, HD4, hz4, hy4⟩ := setB hB (by omega) HD2.out hw4
 clear hw4 q0 q1 q2 qf p0 p1 p2 pf HD2
 replace HD0 := Lib.hid ((ho4 _ (by omega)).trans HD0.out)
 replace HD1 := Lib.hid ((ho4 _ (by omega)).trans HD1.out)
 replace HO := Lib.hid (HO.out.keep (w' := w4) (fun b hb => hb) fun b hb => ho4 b (by omega))
 refine (to_IntS _ n.ids w4 ((HN.out.below hB4).more hB4.size).i HZ.out.2.1).mono ?_
 rintro e w5 ⟨rfl, hw5⟩
 have hb5 : Below w4.heap.size w4 w5 := by rw [hw5]; exact bl_alloc (Below.refl _ _) _
 have HI := Lib.hid (show w5.heap[w4.heap.size]? = some (.cells (n.ids.map intV).toArray 3 (0, 0)) by rw [hw5]; exact heap_alloc_new w4 _)
 have hz5 : w5.heap.size ≤ w4.heap.size + 1 := by rw [hw5]; simp
 have hy5 : w4.heap.size < w5.heap.size := by rw [hw5]; simp
 clear hw5
 replace HD0 := bk HD0 hb5
 replace HD1 := bk HD1 hb5
 replace HD4 := bk HD4 hb5
 have hB5 := bl_trans hB4 hb5
 replace HO := Lib.hid (HO.out.keep (w' := w5) (fun b hb => hb) fun b hb => hb5.block b (by omega))
 obtain ⟨q0, q1, q2, qf⟩ := cells3 HD0
 obtain ⟨p0, p1, p2, pf⟩ := cells3 HD4
 obtain ⟨w6, hw6⟩ : ∃ z, z = w5.setCell ⟨w.heap.size + 1 + 1, 1, none⟩ (.slice (some ⟨w4.heap.size, 0, none⟩) n.ids.length n.ids.length) := ⟨_, rfl⟩
 have HW6 := Lib.hid hw6
 go_wp2_with fail
 rw [← HW6.out]
 obtain ⟨hB6, ho6, HD6, hz6, hy6⟩ := setB hB5 (by omega) HD4.out hw6
 clear hw6 q0 q1 q2 qf p0 p1 p2 pf HD4
 replace HD0 := Lib.hid ((ho6 _ (by omega)).trans HD0.out)
 replace HD1 := Lib.hid ((ho6 _ (by omega)).trans HD1.out)
 replace HI := Lib.hid ((ho6 _ (by omega)).trans HI.out)
 replace HO := Lib.hid (HO.out.keep (w' := w6) (fun b hb => hb) fun b hb => ho6 b (by omega))
 refine (to_IntS _ n.ins w6 ((HN.out.below hB6).more hB6.size).n HZ.out.2.2).mono ?_
 rintro e w7 ⟨rfl, hw7⟩
 have hb7 : Below w6.heap.size w6 w7 := by rw [hw7]; exact bl_alloc (Below.refl _ _) _
 have HJ := Lib.hid (show w7.heap[w6.heap.size]? = some (.cells (n.ins.map intV).toArray 3 (0, 0)) by rw [hw7]; exact heap_alloc_new w6 _)
 have hz7 : w7.heap.size ≤ w6.heap.size + 1 := by rw [hw7]; simp
 have hy7 : w6.heap.size < w7.heap.size := by rw [hw7]; simp
 clear hw7
 replace HD0 := bk HD0 hb7
 replace HD1 := bk HD1 hb7
 replace HD6 := bk HD6 hb7
 replace HI := bk HI hb7
 have hB7 := bl_trans hB6 hb7
 replace HO := Lib.hid (HO.out.keep (w' := w7) (fun b hb => hb) fun b hb => hb7.block b (by omega))
 obtain ⟨q0, q1, q2, qf⟩ := cells3 HD0
 obtain ⟨p0, p1, p2, pf⟩ := cells3 HD6
 obtain ⟨r0, r1, r2, rf⟩ := cells3 HD1
 obtain ⟨w8, hw8⟩ : ∃ z, z = w7.setCell ⟨w.heap.size + 1 + 1, 2, none⟩ (.slice (some ⟨w6.heap.size, 0, none⟩) n.ins.length n.ins.length) := ⟨_, rfl⟩
 have HW8 := Lib.hid hw8
 obtain ⟨hB8, ho8, HD8, hz8, hy8⟩ := setB hB7 (by omega) HD6.out hw8
 clear hw8
 replace HI := Lib.hid ((ho8 _ (by omega)).trans HI.out)
 replace HJ := Lib.hid ((ho8 _ (by omega)).trans HJ.out)
 replace HD1 := Lib.hid ((ho8 _ (by omega)).trans HD1.out)
 replace HO := Lib.hid (HO.out.keep (w' := w8) (fun b hb => hb) fun b hb => ho8 b (by omega))
 have HB8 := Lib.hid hB8
 have HZ0 := Lib.hid (And.intro hz3 (And.intro (And.intro hz4 hy4) (And.intro (And.intro hz5 hy5) (And.intro (And.intro hz6 hy6) (And.intro (And.intro hz7 hy7) (And.intro hz8 hy8))))))
 go_wp2_with fail
 rw [← HW8.out]
 obtain ⟨s0, s1, s2, sf⟩ := cells3 HD1
 refine bodyPost_ret (v := .agg #[.slice B0 n0 d0, .slice (some ⟨w4.heap.size, 0, none⟩) n.ids.length n.ids.length, .slice (some ⟨w6.heap.size, 0, none⟩) n.ins.length n.ins.length]) (by simp [results, Tryz.results8, go_sem, s0, s1, s2]) rfl ?_
 obtain ⟨k3, ⟨k4, j4⟩, ⟨k5, j5⟩, ⟨k6, j6⟩, ⟨k7, j7⟩, k8, j8⟩ := HZ0.out
 have hk : ∀ b, b ≠ w.heap.size + 1 → (((w8.setCell ⟨w.heap.size + 1, 0, none⟩ (.slice B0 n0 d0)).setCell ⟨w.heap.size + 1, 1, none⟩ (.slice (some ⟨w4.heap.size, 0, none⟩) n.ids.length n.ids.length)).setCell ⟨w.heap.size + 1, 2, none⟩ (.slice (some ⟨w6.heap.size, 0, none⟩) n.ins.length n.ins.length)).heap[b]? = w8.heap[b]? := fun b hb => by
  iterate 3 rw [Below.heap_setCell _ _ _ _ (by simpa using hb)]
 refine ⟨_, _, _, rfl, ⟨HO.out.keep (fun b hb => by simp only [size_setCell]; omega) fun b hb => hk b (by omega), ints_row ((hk _ (by omega)).trans HI.out) (by have := HZ.out.2.1; unfold maxLen; omega) HN.out.i.2 (by simp only [size_setCell]; omega), ints_row ((hk _ (by omega)).trans HJ.out) (by have := HZ.out.2.2; unfold maxLen; omega) HN.out.n.2 (by simp only [size_setCell]; omega)⟩, ?_⟩
 iterate 3 (refine Below.setCell ?_ (by simp) _)
 exact HB8.out
end
section
open Go.RowKit
set_option linter.all false
theorem to_EndW (v : Value) (xs : Ends) (w : World) (h : EndsB w w.heap.size v xs) (hn : xs.length ≤ 1048576) :
  Calls Tryz.prog 57 #[v] w fun e w' => ∃ v', e = .returned v' ∧ (∃ A m c, v' = .slice A m c) ∧ EndsR w' (fun b => w.heap.size ≤ b ∧ b < w'.heap.size) v' xs ∧ Below w.heap.size w w' ∧ w.heap.size < w'.heap.size ∧ RowW w' (fun b => w.heap.size ≤ b ∧ b < w'.heap.size) v' xs.length := by
 obtain ⟨A, c, rfl, h1, h2, h4, h3⟩ := h
 have H4 := Lib.hid h4; clear h4
 have hmk := fun W => run_make2 (P := Tryz.prog) 88 106 _ 16 Tryz.underlying88 endInfo xs.length (by omega) (by omega) W
 go_enter Tryz.func57, Tryz.ntmps57
 go_wp2
 clear hmk
 go_loopw [4] (fun i wr => ToERel xs w i wr) (fun i _ => xs.length - (intOf i).toNat)
 case atStart => exact ⟨0, _, Nat.zero_le _, rfl, heap_alloc_new w _, by simp [madeCells], bl_alloc (Below.refl _ _) _, by simp, fun j x hj => by omega⟩
 case round =>
  obtain ⟨k, C, hk, rfl, hblk, hC, hbl, hgt, hits⟩ := hrel
  have hsz := hbl.size
  have HI := Lib.hid hits; clear hits
  have HB := Lib.hid hblk; clear hblk
  have HC := Lib.hid hC; clear hC
  by_cases hlt : k < xs.length
  ·
   obtain ⟨x, hx⟩ : ∃ x, xs[k]? = some x := ⟨xs[k], List.getElem?_eq_getElem hlt⟩
   obtain ⟨b, o, rfl, hb, hc⟩ := h3 (by omega)
   have q0 := (hbl.cell (p := ⟨b, o + k * 2, none⟩) hb).trans (hc k x hx).1
   have q1 := (hbl.cell (p := ⟨b, o + k * 2 + 1, none⟩) hb).trans (hc k x hx).2
   have HX := Lib.hid hx
   clear h3 hc hx
   go_wp2_with fail
   refine (to_End x wr).mono ?_
   rintro e w1 ⟨rfl, hb1⟩
   have hblk1 : w1.heap[w.heap.size]? = some (.cells C 106 (0, 0)) := (hb1.block _ hgt).trans HB.out
   have hcell : ∀ j, j < 2 → ∃ u, w1.cell? ⟨w.heap.size, k * 2 + j, none⟩ = some u := by
    intro j hj
    rw [cell_of_row w1 _ (k * 2 + j) _ _ (0, 0) hblk1, Array.getElem?_eq_getElem (by rw [HC.out]; omega)]
    exact ⟨_, rfl⟩
   have hfr : ∀ j, w1.frozen? ⟨w.heap.size, j, none⟩ = false := by intro j; simp [World.frozen?, hblk1]
   obtain ⟨o0, z0⟩ := hcell 0 (by omega)
   obtain ⟨o1, z1⟩ := hcell 1 (by omega)
   rw [Nat.add_zero] at z0
   have y0 := hfr (k * 2)
   have y1 := hfr (k * 2 + 1)
   clear hcell hfr
   have hB1 := hbl.trans (hb1.mono hsz)
   have hgt1 : w.heap.size < w1.heap.size := by have := hb1.size; omega
   have HB1 := Lib.hid hblk1; clear hblk1
   go_wp2_with fail
   go_roundw
   case rel =>
    refine ⟨k + 1, _, by omega, by go_num, heap_set_same (heap_set_same HB1.out _) _, by simp [HC.out], ?_, by simp only [size_setCell]; exact hgt1, HI.out.next HX.out HC.out hlt⟩
    iterate 2 (refine Below.setCell ?_ (by simp) _)
    exact hB1
   case measure => simp [intOf]; omega
  ·
   go_wp2
   go_ret
   refine ⟨_, rfl, ⟨_, _, _, rfl⟩, ⟨_, _, rfl, Nat.le_refl _, by unfold maxLen; omega, H4.out, fun hn => ⟨_, 0, rfl, ⟨Nat.le_refl _, hgt⟩, fun j e he => ?_⟩⟩, hbl, hgt, ⟨_, _, rfl, Nat.le_refl _, by unfold maxLen; omega, fun hn => ⟨_, C, rfl, ⟨Nat.le_refl _, hgt⟩, HB.out, by rw [HC.out]; exact Nat.le_refl _⟩⟩⟩
   have hj : j < xs.length := (List.getElem?_eq_some_iff.1 he).1
   obtain ⟨k1, k2⟩ := HI.out j e (by omega) he
   exact ⟨by rw [cell_of_row _ _ (0 + j * 2) _ _ (0, 0) HB.out, Nat.zero_add]; exact k1, by rw [cell_of_row _ _ (0 + j * 2 + 1) _ _ (0, 0) HB.out, Nat.zero_add]; exact k2⟩
def ToEwRel (xss : List Ends) (w : World) (i : Value) (wr : World) : Prop :=
  ∃ (k : Nat) (C : Array Value), k ≤ xss.length ∧ i = .int .i64 k ∧ wr.heap[w.heap.size]? = some (.cells C 88 (0, 0)) ∧ C.size = xss.length ∧ Below w.heap.size w wr ∧ w.heap.size < wr.heap.size ∧
    (∀ (j : Nat) (u : Value), C[j]? = some u → ∃ A m c, u = .slice A m c) ∧ ∀ j xs, j < k → xss[j]? = some xs → ∃ u, C[j]? = some u ∧ EndsR wr (fun b => w.heap.size < b ∧ b < wr.heap.size) u xs ∧ RowW wr (fun b => w.heap.size < b ∧ b < wr.heap.size) u xs.length
theorem to_EndWS (v : Value) (xss : List Ends) (w : World) (h : EndssR w (· < w.heap.size) v xss) (hn : szEnds xss ≤ 1048576) :
  Calls Tryz.prog 29 #[v] w fun e w' => ∃ v', e = .returned v' ∧ EndssR w' (fun b => w.heap.size ≤ b ∧ b < w'.heap.size) v' xss ∧ Below w.heap.size w w' ∧ w.heap.size < w'.heap.size ∧ RowsW w' w.heap.size (fun b => w.heap.size < b ∧ b < w'.heap.size) v' (xss.map List.length) := by
 obtain ⟨A, c, rfl, h1, h2, h3⟩ := h
 have hn' : xss.length ≤ 1048576 := by unfold szEnds at hn; omega
 have HSZ := Lib.hid (show ∀ (k : Nat) (x : Ends), xss[k]? = some x → x.length ≤ 1048576 from fun k x hx => by
  have := lensE_snoc xss k x hx
  have := lensE_split xss (k + 1)
  unfold szEnds at hn
  omega)
 clear hn
 have hmk := fun W => run_make1 (P := Tryz.prog) 41 88 (.slice none 0 0) 24 Tryz.underlying41 endsInfo rfl xss.length (by omega) (by omega) W
 go_enter Tryz.func29, Tryz.ntmps29
 go_wp2
 clear hmk
 go_loopw [4] (fun i wr => ToEwRel xss w i wr) (fun i _ => xss.length - (intOf i).toNat)
 case atStart => exact ⟨0, _, Nat.zero_le _, rfl, heap_alloc_new w _, by simp [rowOf], bl_alloc (Below.refl _ _) _, by simp, fun j u hu => ⟨none, 0, 0, by have h := hu; simp [rowOf, Array.getElem?_replicate] at h; exact h.2.symm⟩, fun j x hj => by omega⟩
 case round =>
  obtain ⟨k, C, hk, rfl, hblk, hC, hbl, hgt, hsl, hits⟩ := hrel
  have hsz := hbl.size
  have HI := Lib.hid hits; clear hits
  have HB := Lib.hid hblk; clear hblk
  have HC := Lib.hid hC; clear hC
  have HL := Lib.hid hsl; clear hsl
  by_cases hlt : k < xss.length
  ·
   obtain ⟨xs, hx⟩ : ∃ x, xss[k]? = some x := ⟨xss[k], List.getElem?_eq_getElem hlt⟩
   obtain ⟨ad, rfl, hb, hc⟩ := h3 (by omega)
   obtain ⟨u, hu, hr⟩ := hc k xs hx
   have hcell : wr.cell? (ad.add k) = some u := (hbl.cell (p := ad.add k) (by rw [block_add]; exact hb)).trans hu
   have HR := Lib.hid ((hr.below hbl).more hsz)
   have hxz := HSZ.out k xs hx
   have HX := Lib.hid hx
   clear h3 hc hx hr hu
   go_wp2_with fail
   refine (to_EndW u xs wr HR.out hxz).mono ?_
   rintro e w1 ⟨v', rfl, ⟨A', m', c', rfl⟩, ho, hb1, hs1, hrw⟩
   have hblk1 : w1.heap[w.heap.size]? = some (.cells C 88 (0, 0)) := (hb1.block _ hgt).trans HB.out
   obtain ⟨o0, z00⟩ : ∃ u, C[k]? = some u := ⟨_, Array.getElem?_eq_getElem (by rw [HC.out]; omega)⟩
   obtain ⟨Ao, mo, co, rfl⟩ := HL.out k _ z00
   have z0 : w1.cell? ⟨w.heap.size, k, none⟩ = some (.slice Ao mo co) := by rw [cell_of_row w1 _ k _ _ (0, 0) hblk1]; exact z00
   have hfr : w1.frozen? ⟨w.heap.size, k, none⟩ = false := by simp [World.frozen?, hblk1]
   have hB1 := hbl.trans (hb1.mono hsz)
   have HB1 := Lib.hid hblk1; clear hblk1 z00
   have HO := Lib.hid (And.intro ho hrw); clear ho hrw
   have hz1 := hb1.size
   go_wp2_with fail
   go_roundw
   case rel =>
    refine ⟨k + 1, _, by omega, by go_num, heap_set_same HB1.out _, by simp [HC.out], Below.setCell hB1 (by simp) _, by simp only [size_setCell]; omega, fun j u hu => ?_, fun j y hj hy => ?_⟩
    ·
     by_cases hjk : j = k
     ·
      subst hjk
      rw [Array.getElem?_setIfInBounds_self_of_lt (by rw [HC.out]; omega)] at hu
      exact ⟨_, _, _, (Option.some.inj hu).symm⟩
     ·
      rw [Array.getElem?_setIfInBounds_ne (by omega)] at hu
      exact HL.out j u hu
    ·
     have hk1 : ∀ b, w.heap.size < b → (w1.setCell ⟨w.heap.size, k, none⟩ (.slice A' m' c')).heap[b]? = w1.heap[b]? := fun b hb => Below.heap_setCell _ _ _ _ (by simp; omega)
     by_cases hjk : j < k
     ·
      obtain ⟨u', hu', hr', hq'⟩ := HI.out j y hjk hy
      refine ⟨u', by rw [Array.getElem?_setIfInBounds_ne (by omega)]; exact hu', hr'.keep (fun b hb => ⟨hb.1, by simp only [size_setCell]; omega⟩) fun b hb => (hk1 b hb.1).trans (hb1.block b hb.2), hq'.keep (fun b hb => ⟨hb.1, by simp only [size_setCell]; omega⟩) fun b hb => (hk1 b hb.1).trans (hb1.block b hb.2)⟩
     ·
      obtain rfl : j = k := by omega
      obtain rfl := Option.some.inj (HX.out.symm.trans hy)
      exact ⟨_, Array.getElem?_setIfInBounds_self_of_lt (by rw [HC.out]; omega), HO.out.1.keep (fun b hb => ⟨by omega, by simp only [size_setCell]; omega⟩) fun b hb => hk1 b (by omega), HO.out.2.keep (fun b hb => ⟨by omega, by simp only [size_setCell]; omega⟩) fun b hb => hk1 b (by omega)⟩
   case measure => simp [intOf]; omega
  ·
   go_wp2
   go_ret
   refine ⟨_, rfl, ⟨_, _, rfl, Nat.le_refl _, by unfold maxLen; omega, fun hn => ⟨_, rfl, ⟨Nat.le_refl _, hgt⟩, fun j xs hx => ?_⟩⟩, hbl, hgt, ⟨_, xss.length, by rw [List.length_map]; rfl, by rw [List.length_map]; exact Nat.le_refl _, by unfold maxLen; omega, fun hn => ⟨rfl, fun h => absurd h.1 (Nat.lt_irrefl _), fun j n hj => ?_⟩⟩⟩
   rotate_left
   ·
    rw [List.getElem?_map] at hj
    obtain ⟨xs, hx, rfl⟩ := Option.map_eq_some_iff.1 hj
    have hjl : j < xss.length := (List.getElem?_eq_some_iff.1 hx).1
    obtain ⟨u, k1, -, k3⟩ := HI.out j xs (by omega) hx
    exact ⟨u, by rw [cell_of_row _ _ j _ _ (0, 0) HB.out]; exact k1, k3⟩
   have hj : j < xss.length := (List.getElem?_eq_some_iff.1 hx).1
   obtain ⟨u, k1, k2, -⟩ := HI.out j xs (by omega) hx
   refine ⟨u, ?_, k2.keep (fun b hb => ⟨by omega, hb.2⟩) fun _ _ => rfl⟩
   rw [show (⟨w.heap.size, 0, none⟩ : Addr).add j = ⟨w.heap.size, j, none⟩ by unfold Addr.add; split <;> simp_all, cell_of_row _ _ j _ _ (0, 0) HB.out]
   exact k1
structure NetW (w : World) (g hi : Nat) (ve vi vn : Value) (n : Net) : Prop where
  e : RowsW w g (fun b => g < b ∧ b < hi) ve (n.es.map List.length)
  i : IntsW w (fun b => g < b ∧ b < hi) vi n.ids.length
  n : IntsW w (fun b => g < b ∧ b < hi) vn n.ins.length
theorem to_NetW (ve vi vn : Value) (n : Net) (w : World) (h : NetR w w.heap.size ve vi vn n) (hz : szNet n ≤ 1048576) :
  Calls Tryz.prog 8 #[.agg #[ve, vi, vn]] w fun e w' => ∃ ve' vi' vn', e = .returned (.agg #[ve', vi', vn']) ∧ NetR w' w'.heap.size ve' vi' vn' n ∧ Below w.heap.size w w' ∧ ∃ g0, w.heap.size ≤ g0 ∧ g0 ≤ w'.heap.size ∧ NetW w' g0 w'.heap.size ve' vi' vn' n := by
 obtain ⟨⟨A0, m0, c0, rfl⟩, ⟨A1, m1, c1, rfl⟩, A2, m2, c2, rfl⟩ := h.slices
 have HZ := Lib.hid (show szEnds n.es ≤ 1048576 ∧ n.ids.length ≤ 1048576 ∧ n.ins.length ≤ 1048576 by unfold szNet at hz; omega)
 clear hz
 obtain ⟨w0, hw0⟩ : ∃ z, z = w.alloc (.cells #[.slice A0 m0 c0, .slice A1 m1 c1, .slice A2 m2 c2] 29) := ⟨_, rfl⟩
 obtain ⟨w1, hw1⟩ : ∃ z, z = w0.alloc (.cells #[.slice none 0 0, .slice none 0 0, .slice none 0 0] 43) := ⟨_, rfl⟩
 obtain ⟨w2, hw2⟩ : ∃ z, z = w1.alloc (.cells #[.slice none 0 0, .slice none 0 0, .slice none 0 0] 43) := ⟨_, rfl⟩
 have hb0 : Below w.heap.size w w0 := by rw [hw0]; exact bl_alloc (Below.refl _ _) _
 have hb1 : Below w0.heap.size w0 w1 := by rw [hw1]; exact bl_alloc (Below.refl _ _) _
 have hb2 : Below w1.heap.size w1 w2 := by rw [hw2]; exact bl_alloc (Below.refl _ _) _
 have hs0 : w0.heap.size = w.heap.size + 1 := by rw [hw0]; simp
 have hs1 : w1.heap.size = w.heap.size + 1 + 1 := by rw [hw1]; simp [hs0]
 have hs2 : w2.heap.size = w.heap.size + 1 + 1 + 1 := by rw [hw2]; simp [hs1]
 have HD0 := Lib.hid (show w0.heap[w.heap.size]? = some (.cells #[.slice A0 m0 c0, .slice A1 m1 c1, .slice A2 m2 c2] 29 (0, 0)) by rw [hw0]; exact heap_alloc_new w _)
 have HD1 := Lib.hid (show w1.heap[w.heap.size + 1]? = some (.cells #[.slice none 0 0, .slice none 0 0, .slice none 0 0] 43 (0, 0)) by rw [hw1, ← hs0]; exact heap_alloc_new w0 _)
 have HD2 := Lib.hid (show w2.heap[w.heap.size + 1 + 1]? = some (.cells #[.slice none 0 0, .slice none 0 0, .slice none 0 0] 43 (0, 0)) by rw [hw2, ← hs1]; exact heap_alloc_new w1 _)
 replace HD0 := bk (bk HD0 hb1) hb2
 replace HD1 := bk HD1 hb2
 have hB := bl_trans (bl_trans hb0 hb1) hb2
 have HW0 := Lib.hid hw0; clear hw0
 have HW1 := Lib.hid hw1; clear hw1
 have HW2 := Lib.hid hw2; clear hw2
 have hlt : w.heap.size + 1 + 1 < w2.heap.size := by omega
 clear hs0 hs1 hs2
 have HN := Lib.hid h; clear h
 clear hb0 hb1 hb2
 obtain ⟨q0, q1, q2, qf⟩ := cells3 HD0
 go_enter Tryz.func8, Tryz.ntmps8
 go_wp2_with fail
 rw [← HW0.out, ← HW1.out, ← HW2.out]
 refine (to_EndWS _ n.es w2 ((HN.out.below hB).more hB.size).e HZ.out.1).mono ?_
 rintro e w3 ⟨v0, rfl, ho, hb3, hg3, hrw⟩
 obtain ⟨B0, n0, d0, rfl⟩ := ho.isSlice
 have HG3 := Lib.hid hg3; clear hg3
 have HO := Lib.hid ho; clear ho
 have HRW := Lib.hid hrw; clear hrw
 clear q0 q1 q2 qf
 replace HD0 := bk HD0 hb3
 replace HD1 := bk HD1 hb3
 replace HD2 := bk HD2 hb3
 replace hB := bl_trans hB hb3
 have hz3 := hb3.size
 obtain ⟨q0, q1, q2, qf⟩ := cells3 HD0
 obtain ⟨p0, p1, p2, pf⟩ := cells3 HD2
 obtain ⟨w4, hw4⟩ : ∃ z, z = w3.setCell ⟨w.heap.size + 1 + 1, 0, none⟩ (.slice B0 n0 d0) := ⟨_, rfl⟩
 have HW4 := Lib.hid hw4
 go_wp2_with fail
 rw [← HW4.out]
 obtain ⟨hB4, ho4, HD4, hz4, hy4⟩ := setB hB (by omega) HD2.out hw4
 clear hw4 q0 q1 q2 qf p0 p1 p2 pf HD2
 replace HD0 := Lib.hid ((ho4 _ (by omega)).trans HD0.out)
 replace HD1 := Lib.hid ((ho4 _ (by omega)).trans HD1.out)
 replace HRW := Lib.hid (HRW.out.keep (w' := w4) (by omega) fun b h1 h2 => ho4 b (by omega))
 replace HO := Lib.hid (HO.out.keep (w' := w4) (fun b hb => hb) fun b hb => ho4 b (by omega))
 refine (to_IntS _ n.ids w4 ((HN.out.below hB4).more hB4.size).i HZ.out.2.1).mono ?_
 rintro e w5 ⟨rfl, hw5⟩
 have hb5 : Below w4.heap.size w4 w5 := by rw [hw5]; exact bl_alloc (Below.refl _ _) _
 have HI := Lib.hid (show w5.heap[w4.heap.size]? = some (.cells (n.ids.map intV).toArray 3 (0, 0)) by rw [hw5]; exact heap_alloc_new w4 _)
 have hz5 : w5.heap.size ≤ w4.heap.size + 1 := by rw [hw5]; simp
 have hy5 : w4.heap.size < w5.heap.size := by rw [hw5]; simp
 clear hw5
 replace HD0 := bk HD0 hb5
 replace HD1 := bk HD1 hb5
 replace HD4 := bk HD4 hb5
 have hB5 := bl_trans hB4 hb5
 replace HRW := Lib.hid (HRW.out.keep (w' := w5) (by omega) fun b h1 h2 => hb5.block b h2)
 replace HO := Lib.hid (HO.out.keep (w' := w5) (fun b hb => hb) fun b hb => hb5.block b (by omega))
 obtain ⟨q0, q1, q2, qf⟩ := cells3 HD0
 obtain ⟨p0, p1, p2, pf⟩ := cells3 HD4
 obtain ⟨w6, hw6⟩ : ∃ z, z = w5.setCell ⟨w.heap.size + 1 + 1, 1, none⟩ (.slice (some ⟨w4.heap.size, 0, none⟩) n.ids.length n.ids.length) := ⟨_, rfl⟩
 have HW6 := Lib.hid hw6
 go_wp2_with fail
 rw [← HW6.out]
 obtain ⟨hB6, ho6, HD6, hz6, hy6⟩ := setB hB5 (by omega) HD4.out hw6
 clear hw6 q0 q1 q2 qf p0 p1 p2 pf HD4
 replace HD0 := Lib.hid ((ho6 _ (by omega)).trans HD0.out)
 replace HD1 := Lib.hid ((ho6 _ (by omega)).trans HD1.out)
 replace HI := Lib.hid ((ho6 _ (by omega)).trans HI.out)
 replace HRW := Lib.hid (HRW.out.keep (w' := w6) (by omega) fun b h1 h2 => ho6 b (by omega))
 replace HO := Lib.hid (HO.out.keep (w' := w6) (fun b hb => hb) fun b hb => ho6 b (by omega))
 refine (to_IntS _ n.ins w6 ((HN.out.below hB6).more hB6.size).n HZ.out.2.2).mono ?_
 rintro e w7 ⟨rfl, hw7⟩
 have hb7 : Below w6.heap.size w6 w7 := by rw [hw7]; exact bl_alloc (Below.refl _ _) _
 have HJ := Lib.hid (show w7.heap[w6.heap.size]? = some (.cells (n.ins.map intV).toArray 3 (0, 0)) by rw [hw7]; exact heap_alloc_new w6 _)
 have hz7 : w7.heap.size ≤ w6.heap.size + 1 := by rw [hw7]; simp
 have hy7 : w6.heap.size < w7.heap.size := by rw [hw7]; simp
 clear hw7
 replace HD0 := bk HD0 hb7
 replace HD1 := bk HD1 hb7
 replace HD6 := bk HD6 hb7
 replace HI := bk HI hb7
 have hB7 := bl_trans hB6 hb7
 replace HRW := Lib.hid (HRW.out.keep (w' := w7) (by omega) fun b h1 h2 => hb7.block b h2)
 replace HO := Lib.hid (HO.out.keep (w' := w7) (fun b hb => hb) fun b hb => hb7.block b (by omega))
 obtain ⟨q0, q1, q2, qf⟩ := cells3 HD0
 obtain ⟨p0, p1, p2, pf⟩ := cells3 HD6
 obtain ⟨r0, r1, r2, rf⟩ := cells3 HD1
 obtain ⟨w8, hw8⟩ : ∃ z, z = w7.setCell ⟨w.heap.size + 1 + 1, 2, none⟩ (.slice (some ⟨w6.heap.size, 0, none⟩) n.ins.length n.ins.length) := ⟨_, rfl⟩
 have HW8 := Lib.hid hw8
 obtain ⟨hB8, ho8, HD8, hz8, hy8⟩ := setB hB7 (by omega) HD6.out hw8
 clear hw8
 replace HI := Lib.hid ((ho8 _ (by omega)).trans HI.out)
 replace HJ := Lib.hid ((ho8 _ (by omega)).trans HJ.out)
 replace HD1 := Lib.hid ((ho8 _ (by omega)).trans HD1.out)
 replace HRW := Lib.hid (HRW.out.keep (w' := w8) (by omega) fun b h1 h2 => ho8 b (by omega))
 replace HO := Lib.hid (HO.out.keep (w' := w8) (fun b hb => hb) fun b hb => ho8 b (by omega))
 have HB8 := Lib.hid hB8
 have HZ0 := Lib.hid (And.intro hz3 (And.intro (And.intro hz4 hy4) (And.intro (And.intro hz5 hy5) (And.intro (And.intro hz6 hy6) (And.intro (And.intro hz7 hy7) (And.intro hz8 hy8))))))
 go_wp2_with fail
 rw [← HW8.out]
 obtain ⟨s0, s1, s2, sf⟩ := cells3 HD1
 refine bodyPost_ret (v := .agg #[.slice B0 n0 d0, .slice (some ⟨w4.heap.size, 0, none⟩) n.ids.length n.ids.length, .slice (some ⟨w6.heap.size, 0, none⟩) n.ins.length n.ins.length]) (by simp [results, Tryz.results8, go_sem, s0, s1, s2]) rfl ?_
 obtain ⟨k3, ⟨k4, j4⟩, ⟨k5, j5⟩, ⟨k6, j6⟩, ⟨k7, j7⟩, k8, j8⟩ := HZ0.out
 have hk : ∀ b, b ≠ w.heap.size + 1 → (((w8.setCell ⟨w.heap.size + 1, 0, none⟩ (.slice B0 n0 d0)).setCell ⟨w.heap.size + 1, 1, none⟩ (.slice (some ⟨w4.heap.size, 0, none⟩) n.ids.length n.ids.length)).setCell ⟨w.heap.size + 1, 2, none⟩ (.slice (some ⟨w6.heap.size, 0, none⟩) n.ins.length n.ins.length)).heap[b]? = w8.heap[b]? := fun b hb => by
  iterate 3 rw [Below.heap_setCell _ _ _ _ (by simpa using hb)]
 refine ⟨_, _, _, rfl, ⟨HO.out.keep (fun b hb => by simp only [size_setCell]; omega) fun b hb => hk b (by omega), ints_row ((hk _ (by omega)).trans HI.out) (by have := HZ.out.2.1; unfold maxLen; omega) HN.out.i.2 (by simp only [size_setCell]; omega), ints_row ((hk _ (by omega)).trans HJ.out) (by have := HZ.out.2.2; unfold maxLen; omega) HN.out.n.2 (by simp only [size_setCell]; omega)⟩, ?_, w2.heap.size, by have := HG3.out; omega, by have := HG3.out; simp only [size_setCell]; omega, ?_, ?_, ?_⟩
 ·
  iterate 3 (refine Below.setCell ?_ (by simp) _)
  exact HB8.out
 ·
  exact (HRW.out.keep (by omega) fun b h1 h2 => hk b (by omega)).stretch (by simp only [size_setCell]; omega)
 ·
  exact ⟨_, _, rfl, Nat.le_refl _, by have := HZ.out.2.1; unfold maxLen; omega, fun _ => ⟨w4.heap.size, _, rfl, ⟨by have := HG3.out; omega, by simp only [size_setCell]; omega⟩, (hk _ (by omega)).trans HI.out, by simp⟩⟩
 ·
  exact ⟨_, _, rfl, Nat.le_refl _, by have := HZ.out.2.2; unfold maxLen; omega, fun _ => ⟨w6.heap.size, _, rfl, ⟨by have := HG3.out; omega, by simp only [size_setCell]; omega⟩, (hk _ (by omega)).trans HJ.out, by simp⟩⟩
end
section
open Go.RowKit
set_option linter.all false
theorem IntsW.keep {w w' : World} {S : Nat → Prop} {v : Value} {n : Nat} (h : IntsW w S v n) (hk : ∀ b, S b → w'.heap[b]? = w.heap[b]?) : IntsW w' S v n := by
  obtain ⟨A, c, rfl, h1, h2, h3⟩ := h
  refine ⟨A, c, rfl, h1, h2, fun hn => ?_⟩
  obtain ⟨g, cur, rfl, hs, hc, hz⟩ := h3 hn
  exact ⟨g, cur, rfl, hs, (hk g hs).trans hc, hz⟩
theorem Wrote.cell {S : Nat → Prop} {w w' : World} {b i : Nat} (h : Wrote S w w') (hb : ¬ S b) : w'.cell? ⟨b, i, none⟩ = w.cell? ⟨b, i, none⟩ := World.cell?_of_block (a := ⟨b, i, none⟩) (h.block b hb)
theorem lens_sum (es : List Ends) : (es.map List.length).sum = lensE es := by
  induction es with
  | nil => rfl
  | cons x r ih => simp [lensE, ih]
structure Marked (g hi : Nat) (w w' : World) : Prop where
  below : Below g w w'
  off : ∀ b, b < w.heap.size → ¬ (g < b ∧ b < hi) → w'.heap[b]? = w.heap[b]?
set_option maxRecDepth 100000 in
theorem mark_Net (ve vi vn : Value) (n : Net) (g hi : Nat) (k : Int) (w : World) (h : NetW w g hi ve vi vn n) (hh : hi ≤ w.heap.size) (hz : szNet n ≤ 1048576) (h0 : 0 ≤ k) (h1 : k ≤ 500000000) (hg : g ≤ w.heap.size) :
  Calls Tryz.prog 14 #[.agg #[ve, vi, vn], .int .i64 k] w fun e w' => (∃ k', e = .returned (.int .i64 k') ∧ 0 ≤ k' ∧ k' ≤ k + 10000000) ∧ Marked g hi w w' := by
 obtain ⟨he, hi', hn⟩ := h
 have hbd : lensE n.es ≤ 1048576 ∧ n.ids.length ≤ 1048576 ∧ n.ins.length ≤ 1048576 := by unfold szNet szEnds at hz; omega
 obtain ⟨hb0, hb1, hb2⟩ := hbd
 have hsm := lens_sum n.es
 have HSM := Lib.hid hsm; clear hsm
 have HE := Lib.hid he
 have HI := Lib.hid hi'
 have HJ := Lib.hid hn
 obtain ⟨A0, c0, rfl, -⟩ := he
 obtain ⟨A1, c1, rfl, -⟩ := hi'
 obtain ⟨A2, c2, rfl, -⟩ := hn
 generalize (n.es.map List.length).length = m0 at *
 obtain ⟨w0, hw0, hB, HD, hz0, HS0⟩ := box3 w (.slice A0 m0 c0) (.slice A1 n.ids.length c1) (.slice A2 n.ins.length c2) 43
 have HW0 := Lib.hid hw0; clear hw0
 obtain ⟨q0, q1, q2, qf⟩ := cells3 HD
 replace HE := Lib.hid (HE.out.keep hh fun b _ h2 => hB.block b h2)
 replace HI := Lib.hid (HI.out.keep fun b h2 => hB.block b (by omega))
 replace HJ := Lib.hid (HJ.out.keep fun b h2 => hB.block b (by omega))
 have hns : ¬ (g < w.heap.size ∧ w.heap.size < hi) := by omega
 generalize hS : (fun b => g < b ∧ b < hi) = S at *
 have hnS : ¬ S w.heap.size := by rw [← hS]; exact hns
 have HSS := Lib.hid hS; clear hS
 go_enter Tryz.func14, Tryz.ntmps14
 go_wp2_with fail
 rw [← HW0.out]
 refine (mark_EndSS _ _ g S k w0 HE.out h0 (by rw [HSM.out]; omega)).mono ?_
 rintro e w1 ⟨rfl, hw1⟩
 have p1 := (hw1.cell (i := 1) hnS).trans q1
 have p2 := (hw1.cell (i := 2) hnS).trans q2
 have HW1 := Lib.hid hw1; clear hw1 q0 q1 q2 qf
 rw [HSM.out]
 generalize lensE n.es = L at *
 go_wp2_with fail
 refine (mark_IntW _ n.ids.length S _ w1 (HI.out.wrote HW1.out) (by omega) (by omega)).mono ?_
 rintro e w2 ⟨rfl, hw2⟩
 have r2 := (hw2.cell (i := 2) hnS).trans p2
 have HW2 := Lib.hid hw2; clear hw2 p1 p2
 go_wp2_with fail
 refine (mark_IntW _ n.ins.length S _ w2 ((HJ.out.wrote HW1.out).wrote HW2.out) (by omega) (by omega)).mono ?_
 rintro e w3 ⟨rfl, hw3⟩
 have HW3 := Lib.hid hw3; clear hw3 r2
 go_wp2_with fail
 go_ret
 have hT := HW1.out.trans (HW2.out.trans HW3.out)
 refine ⟨⟨_, rfl, by omega, by omega⟩, ⟨?_, fun b hb hbS => (hT.block b (by rw [← HSS.out]; exact hbS)).trans (hB.block b hb)⟩⟩
 have hb := hB.mono hg
 exact ⟨hT.os.trans hb.os, hT.tape.trans hb.tape, hT.output.trans hb.output, by rw [hT.size]; exact hb.size, fun b h => (hT.block b (by rw [← HSS.out]; omega)).trans (hb.block b h)⟩
end
end Go.Proofs.YtehkcodbcnhhoaaGreat
namespace Go.Proofs.YtehkcodbcnhhoaaGreat
open Go.RowKit
set_option linter.all false
theorem EndssR.below {w w' : World} {B : Nat} {v : Value} {ess : List Ends} (h : EndssR w (· < B) v ess) (hb : Below B w w') : EndssR w' (· < B) v ess := h.keep (fun _ h => h) fun b hB => hb.block b hB
theorem EndssR.more {w : World} {B B' : Nat} {v : Value} {ess : List Ends} (h : EndssR w (· < B) v ess) (hB : B ≤ B') : EndssR w (· < B') v ess := h.keep (fun _ h => Nat.lt_of_lt_of_le h hB) fun _ _ => rfl
def Ends3R (w : World) (S : Nat → Prop) (v : Value) (x : List (List Ends)) : Prop :=
  ∃ A c, v = .slice A x.length c ∧ x.length ≤ c ∧ c ≤ maxLen ∧ (0 < x.length → ∃ ad, A = some ad ∧ S ad.block ∧
    ∀ k es, x[k]? = some es → ∃ u, w.cell? (ad.add k) = some u ∧ EndssR w S u es)
theorem Ends3R.keep {w w' : World} {S S' : Nat → Prop} {v : Value} {x : List (List Ends)} (h : Ends3R w S v x) (hS : ∀ b, S b → S' b) (hk : ∀ b, S b → w'.heap[b]? = w.heap[b]?) : Ends3R w' S' v x := by
  obtain ⟨A, c, e, h1, h2, h4⟩ := h
  refine ⟨A, c, e, h1, h2, fun hn => ?_⟩
  obtain ⟨ad, e', hb, hc⟩ := h4 hn
  refine ⟨ad, e', hS _ hb, fun k x hx => ?_⟩
  obtain ⟨u, k1, k2⟩ := hc k x hx
  exact ⟨u, (World.cell?_of_block (by rw [block_add]; exact hk _ hb)).trans k1, k2.keep hS hk⟩
theorem Ends3R.below {w w' : World} {B : Nat} {v : Value} {x : List (List Ends)} (h : Ends3R w (· < B) v x) (hb : Below B w w') : Ends3R w' (· < B) v x := h.keep (fun _ h => h) fun b hB => hb.block b hB
theorem Ends3R.more {w : World} {B B' : Nat} {v : Value} {x : List (List Ends)} (h : Ends3R w (· < B) v x) (hB : B ≤ B') : Ends3R w (· < B') v x := h.keep (fun _ h => Nat.lt_of_lt_of_le h hB) fun _ _ => rfl
theorem Ends3R.isSlice {w : World} {S : Nat → Prop} {v : Value} {xs : List (List Ends)} (h : Ends3R w S v xs) : ∃ A m c, v = .slice A m c := by
  obtain ⟨A, c, rfl, _⟩ := h
  exact ⟨_, _, _, rfl⟩
theorem eq_Let (x : Int × Int) (w : World) :
    Calls Tryz.prog 106 #[.agg #[.int .i64 x.1, .int .i64 x.2], .agg #[.int .i64 x.1, .int .i64 x.2]] w fun e w' => e = .returned (.bool true) ∧ Below w.heap.size w w' := by
  go_enter Tryz.func106, Tryz.ntmps106
  go_wp2
  go_ret
  exact ⟨rfl, (by repeat (first | exact Below.refl _ _ | refine Below.drew ?_ | refine bl_alloc ?_ _ | refine Below.setCell ?_ (by simp <;> omega) _))⟩
theorem eq_LetS (v v' : Value) (xs : Ends) (w : World) (h : EndsB w w.heap.size v xs) (h' : EndsB w w.heap.size v' xs) :
  Calls Tryz.prog 90 #[v, v'] w fun e w' => e = .returned (.bool true) ∧ Below w.heap.size w w' := by
 obtain ⟨A, c, rfl, h1, h2, -, h3⟩ := h
 obtain ⟨A', c', rfl, h1', h2', -, h3'⟩ := h'
 unfold maxLen at h2
 go_enter Tryz.func90, Tryz.ntmps90
 go_wp2
 go_loopw [5] (fun i wr => EqERel xs.length w i wr) (fun i _ => xs.length - (intOf i).toNat)
 case atStart => exact ⟨Below.refl _ _, 0, Nat.zero_le _, rfl⟩
 case round =>
  obtain ⟨hbl, k, hk, rfl⟩ := hrel
  by_cases hlt : k < xs.length
  ·
   obtain ⟨x, hx⟩ : ∃ x, xs[k]? = some x := ⟨xs[k], List.getElem?_eq_getElem hlt⟩
   obtain ⟨b, o, rfl, hb, hc⟩ := h3 (by omega)
   obtain ⟨b', o', rfl, hb', hc'⟩ := h3' (by omega)
   have q0 := (hbl.cell (p := ⟨b, o + k * 2, none⟩) hb).trans (hc k x hx).1
   have q1 := (hbl.cell (p := ⟨b, o + k * 2 + 1, none⟩) hb).trans (hc k x hx).2
   have p0 := (hbl.cell (p := ⟨b', o' + k * 2, none⟩) hb').trans (hc' k x hx).1
   have p1 := (hbl.cell (p := ⟨b', o' + k * 2 + 1, none⟩) hb').trans (hc' k x hx).2
   have hzw := hbl.size
   clear h3 hc hx h3' hc'
   go_wp2_with fail
   refine wp_region_held_drew (S := fun w' => w'.cell? ⟨b, o + k * 2, none⟩ = some (.int .i64 x.1) ∧ w'.cell? ⟨b, o + k * 2 + 1, none⟩ = some (.int .i64 x.2) ∧ w'.cell? ⟨b', o' + k * 2, none⟩ = some (.int .i64 x.1) ∧ w'.cell? ⟨b', o' + k * 2 + 1, none⟩ = some (.int .i64 x.2)) (by kernel_rfl) ?_ (fun hHeld => ?_)
   ·
    go_keep
   refine tk 0 17 rfl rfl ?_
   refine tk 1 18 rfl rfl ?_
   refine tk 2 19 rfl rfl ?_
   refine tk 3 20 rfl rfl ?_
   refine tk 4 21 rfl rfl ?_
   refine tk 5 22 rfl rfl ?_
   refine tk 6 23 rfl rfl ?_
   refine stk 7 24 ?_
   refine tr 8 rfl (by kernel_rfl) (fun K hK => ?_)
   go_simp
   go_at_call 106
   refine (eq_Let x _).mono ?_
   rintro e w1 ⟨rfl, hb1⟩
   have hB01 := ((Below.refl wr.heap.size wr).drew).trans hb1
   have hB1 := hbl.trans (hB01.mono hbl.size)
   have r0 := (hB01.cell (p := ⟨b, o + k * 2, none⟩) (show b < wr.heap.size by omega)).trans q0
   have r1 := (hB01.cell (p := ⟨b, o + k * 2 + 1, none⟩) (show b < wr.heap.size by omega)).trans q1
   have t0 := (hB01.cell (p := ⟨b', o' + k * 2, none⟩) (show b' < wr.heap.size by omega)).trans p0
   have t1 := (hB01.cell (p := ⟨b', o' + k * 2 + 1, none⟩) (show b' < wr.heap.size by omega)).trans p1
   refine hK.out _ _ ?_ (fun hHeld => ?_)
   ·
    go_keep
   clear hK K
   try simp only [Act.put, pu]
   refine stk 9 26 ?_
   refine wpAnyH_done (by kernel_rfl) ?_ _
   go_wp2_with fail
   go_roundw
   case rel => exact ⟨hB1, k + 1, by omega, by go_num⟩
   case measure => simp [intOf]; omega
  ·
   go_wp2
   go_ret
   exact ⟨rfl, hbl⟩
theorem eq_LetSS (v v' : Value) (xss : List Ends) (w : World) (h : EndssR w (· < w.heap.size) v xss) (h' : EndssR w (· < w.heap.size) v' xss) :
  Calls Tryz.prog 65 #[v, v'] w fun e w' => e = .returned (.bool true) ∧ Below w.heap.size w w' := by
 obtain ⟨A, c, rfl, h1, h2, h3⟩ := h
 obtain ⟨A', c', rfl, h1', h2', h3'⟩ := h'
 unfold maxLen at h2
 go_enter Tryz.func65, Tryz.ntmps65
 go_wp2
 go_loopw [5] (fun i wr => EqERel xss.length w i wr) (fun i _ => xss.length - (intOf i).toNat)
 case atStart => exact ⟨Below.refl _ _, 0, Nat.zero_le _, rfl⟩
 case round =>
  obtain ⟨hbl, k, hk, rfl⟩ := hrel
  by_cases hlt : k < xss.length
  ·
   obtain ⟨x, hx⟩ : ∃ x, xss[k]? = some x := ⟨xss[k], List.getElem?_eq_getElem hlt⟩
   obtain ⟨ad, rfl, hb, hc⟩ := h3 (by omega)
   obtain ⟨ad', rfl, hb', hc'⟩ := h3' (by omega)
   obtain ⟨u, k1, hr⟩ := hc k x hx
   obtain ⟨u', k2, hr'⟩ := hc' k x hx
   have q0 := (hbl.cell (p := ad.add k) (by rw [block_add]; exact hb)).trans k1
   have p0 := (hbl.cell (p := ad'.add k) (by rw [block_add]; exact hb')).trans k2
   have hzw := hbl.size
   have hba : (ad.add k).block < wr.heap.size := by rw [block_add]; omega
   have hba' : (ad'.add k).block < wr.heap.size := by rw [block_add]; omega
   have HR := Lib.hid ((hr.below hbl).more hbl.size)
   have HR' := Lib.hid ((hr'.below hbl).more hbl.size)
   clear h3 hc hx h3' hc' hr hr' k1 k2
   go_wp2_with fail
   refine wp_region_held_drew (S := fun w' => w'.cell? (ad.add k) = some u ∧ w'.cell? (ad'.add k) = some u') (by kernel_rfl) ?_ (fun hHeld => ?_)
   ·
    go_keep
   refine tk 0 17 rfl rfl ?_
   refine tk 1 18 rfl rfl ?_
   refine tk 2 19 rfl rfl ?_
   refine tk 3 20 rfl rfl ?_
   refine tk 4 21 rfl rfl ?_
   refine tk 5 22 rfl rfl ?_
   refine tk 6 23 rfl rfl ?_
   refine stk 7 24 ?_
   refine tr 8 rfl (by kernel_rfl) (fun K hK => ?_)
   go_simp
   go_at_call 90
   have hd : Below wr.heap.size wr wr.drew := (Below.refl _ _).drew
   refine (eq_LetS u u' x wr.drew (HR.out.below hd) (HR'.out.below hd)).mono ?_
   rintro e w1 ⟨rfl, hb1⟩
   have hB01 := ((Below.refl wr.heap.size wr).drew).trans hb1
   have hB1 := hbl.trans (hB01.mono hbl.size)
   have r0 := (hB01.cell hba).trans q0
   have t0 := (hB01.cell hba').trans p0
   refine hK.out _ _ ?_ (fun hHeld => ?_)
   ·
    go_keep
   clear hK K
   try simp only [Act.put, pu]
   refine stk 9 26 ?_
   refine wpAnyH_done (by kernel_rfl) ?_ _
   go_wp2_with fail
   go_roundw
   case rel => exact ⟨hB1, k + 1, by omega, by go_num⟩
   case measure => simp [intOf]; omega
  ·
   go_wp2
   go_ret
   exact ⟨rfl, hbl⟩
theorem letInfo : (Tryz.prog.info? 121).map (fun i => (i.zero, i.size, i.bytes)) = some (some (.agg #[.int .i64 0, .int .i64 0]), 2, 16) := by kernel_rfl
theorem eq_LetSSS (v v' : Value) (xss : List (List Ends)) (w : World) (h : Ends3R w (· < w.heap.size) v xss) (h' : Ends3R w (· < w.heap.size) v' xss) :
  Calls Tryz.prog 37 #[v, v'] w fun e w' => e = .returned (.bool true) ∧ Below w.heap.size w w' := by
 obtain ⟨A, c, rfl, h1, h2, h3⟩ := h
 obtain ⟨A', c', rfl, h1', h2', h3'⟩ := h'
 unfold maxLen at h2
 go_enter Tryz.func37, Tryz.ntmps37
 go_wp2
 go_loopw [5] (fun i wr => EqERel xss.length w i wr) (fun i _ => xss.length - (intOf i).toNat)
 case atStart => exact ⟨Below.refl _ _, 0, Nat.zero_le _, rfl⟩
 case round =>
  obtain ⟨hbl, k, hk, rfl⟩ := hrel
  by_cases hlt : k < xss.length
  ·
   obtain ⟨x, hx⟩ : ∃ x, xss[k]? = some x := ⟨xss[k], List.getElem?_eq_getElem hlt⟩
   obtain ⟨ad, rfl, hb, hc⟩ := h3 (by omega)
   obtain ⟨ad', rfl, hb', hc'⟩ := h3' (by omega)
   obtain ⟨u, k1, hr⟩ := hc k x hx
   obtain ⟨u', k2, hr'⟩ := hc' k x hx
   have q0 := (hbl.cell (p := ad.add k) (by rw [block_add]; exact hb)).trans k1
   have p0 := (hbl.cell (p := ad'.add k) (by rw [block_add]; exact hb')).trans k2
   have hzw := hbl.size
   have hba : (ad.add k).block < wr.heap.size := by rw [block_add]; omega
   have hba' : (ad'.add k).block < wr.heap.size := by rw [block_add]; omega
   have HR := Lib.hid ((hr.below hbl).more hbl.size)
   have HR' := Lib.hid ((hr'.below hbl).more hbl.size)
   clear h3 hc hx h3' hc' hr hr' k1 k2
   go_wp2_with fail
   refine wp_region_held_drew (S := fun w' => w'.cell? (ad.add k) = some u ∧ w'.cell? (ad'.add k) = some u') (by kernel_rfl) ?_ (fun hHeld => ?_)
   ·
    go_keep
   refine tk 0 17 rfl rfl ?_
   refine tk 1 18 rfl rfl ?_
   refine tk 2 19 rfl rfl ?_
   refine tk 3 20 rfl rfl ?_
   refine tk 4 21 rfl rfl ?_
   refine tk 5 22 rfl rfl ?_
   refine tk 6 23 rfl rfl ?_
   refine stk 7 24 ?_
   refine tr 8 rfl (by kernel_rfl) (fun K hK => ?_)
   go_simp
   go_at_call 65
   have hd : Below wr.heap.size wr wr.drew := (Below.refl _ _).drew
   refine (eq_LetSS u u' x wr.drew (HR.out.below hd) (HR'.out.below hd)).mono ?_
   rintro e w1 ⟨rfl, hb1⟩
   have hB01 := ((Below.refl wr.heap.size wr).drew).trans hb1
   have hB1 := hbl.trans (hB01.mono hbl.size)
   have r0 := (hB01.cell hba).trans q0
   have t0 := (hB01.cell hba').trans p0
   refine hK.out _ _ ?_ (fun hHeld => ?_)
   ·
    go_keep
   clear hK K
   try simp only [Act.put, pu]
   refine stk 9 26 ?_
   refine wpAnyH_done (by kernel_rfl) ?_ _
   go_wp2_with fail
   go_roundw
   case rel => exact ⟨hB1, k + 1, by omega, by go_num⟩
   case measure => simp [intOf]; omega
  ·
   go_wp2
   go_ret
   exact ⟨rfl, hbl⟩
end Go.Proofs.YtehkcodbcnhhoaaGreat
namespace Go.Proofs.YtehkcodbcnhhoaaGreat
open Go.RowKit
set_option linter.all false
def ClsR (w : World) (B : Nat) (v : Value) (cs : List Cl) : Prop :=
  ∃ A c, v = .slice A cs.length c ∧ cs.length ≤ c ∧ c ≤ maxLen ∧ (∀ e ∈ cs, I64 e.1 ∧ I64 e.2.2) ∧ (0 < cs.length → ∃ b o, A = some ⟨b, o, none⟩ ∧ b < B ∧
    ∀ k e, cs[k]? = some e → w.cell? ⟨b, o + k * 3, none⟩ = some (.int .i64 e.1) ∧ (∃ u, w.cell? ⟨b, o + k * 3 + 1, none⟩ = some u ∧ IntsR w B u e.2.1) ∧ w.cell? ⟨b, o + k * 3 + 2, none⟩ = some (.int .i64 e.2.2))
theorem ClsR.below {w w' : World} {B : Nat} {v : Value} {cs : List Cl} (h : ClsR w B v cs) (hb : Below B w w') : ClsR w' B v cs := by
  obtain ⟨A, c, e, h1, h2, h3, h4⟩ := h
  refine ⟨A, c, e, h1, h2, h3, fun hn => ?_⟩
  obtain ⟨b, o, e', hb', hc⟩ := h4 hn
  refine ⟨b, o, e', hb', fun k x hx => ?_⟩
  obtain ⟨k1, ⟨u, k2, k3⟩, k4⟩ := hc k x hx
  exact ⟨(hb.cell (p := ⟨b, o + k * 3, none⟩) hb').trans k1, ⟨u, (hb.cell (p := ⟨b, o + k * 3 + 1, none⟩) hb').trans k2, k3.below hb⟩, (hb.cell (p := ⟨b, o + k * 3 + 2, none⟩) hb').trans k4⟩
theorem ClsR.more {w : World} {B B' : Nat} {v : Value} {cs : List Cl} (h : ClsR w B v cs) (hB : B ≤ B') : ClsR w B' v cs := by
  obtain ⟨A, c, e, h1, h2, h3, h4⟩ := h
  refine ⟨A, c, e, h1, h2, h3, fun hn => ?_⟩
  obtain ⟨b, o, e', hb', hc⟩ := h4 hn
  refine ⟨b, o, e', Nat.lt_of_lt_of_le hb' hB, fun k x hx => ?_⟩
  obtain ⟨k1, ⟨u, k2, k3⟩, k4⟩ := hc k x hx
  exact ⟨k1, ⟨u, k2, k3.more hB⟩, k4⟩
theorem ClsR.isSlice {w : World} {B : Nat} {v : Value} {cs : List Cl} (h : ClsR w B v cs) : ∃ A m c, v = .slice A m c := by
  obtain ⟨A, c, rfl, _⟩ := h
  exact ⟨_, _, _, rfl⟩
theorem RowsR.isSlice1 {w : World} {B : Nat} {v : Value} {xs : List (List Int)} (h : RowsR w B v xs) : ∃ A m c, v = .slice A m c := by
  obtain ⟨A, c, rfl, _⟩ := h.open_
  exact ⟨_, _, _, rfl⟩
structure MachR (w : World) (B : Nat) (vs ve vc vo : Value) (m : Mach) : Prop where
  s : RowsR w B vs m.start
  e : RowsR w B ve m.send
  c : ClsR w B vc m.cls
  o : IntsR w B vo m.out
  i : I64 m.deg ∧ I64 m.st ∧ I64 m.msg
theorem MachR.up {w w' : World} {vs ve vc vo : Value} {m : Mach} (h : MachR w w.heap.size vs ve vc vo m) (hb : Below w.heap.size w w') : MachR w' w'.heap.size vs ve vc vo m :=
  ⟨(h.s.below hb).more hb.size, (h.e.below hb).more hb.size, (h.c.below hb).more hb.size, (h.o.below hb).more hb.size, h.i⟩
theorem MachR.slices {w : World} {B : Nat} {vs ve vc vo : Value} {m : Mach} (h : MachR w B vs ve vc vo m) : (∃ A m c, vs = .slice A m c) ∧ (∃ A m c, ve = .slice A m c) ∧ (∃ A m c, vc = .slice A m c) ∧ ∃ A m c, vo = .slice A m c := ⟨h.s.isSlice1, h.e.isSlice1, h.c.isSlice, h.o.isSlice⟩
def machV (vs ve vc vo : Value) (m : Mach) : Value := .agg #[.int .i64 m.deg, .int .i64 m.st, .int .i64 m.msg, vs, ve, vc, vo]
structure AsyR (w : World) (B : Nat) (vr vb vn vs vf : Value) (x : Asy) : Prop where
  r : IntsR w B vr x.rounds
  b : IntsR w B vb x.before
  n : IntsR w B vn x.now
  s : RowsR w B vs x.slots
  f : Ends3R w (· < B) vf x.flight
theorem AsyR.up {w w' : World} {vr vb vn vs vf : Value} {x : Asy} (h : AsyR w w.heap.size vr vb vn vs vf x) (hb : Below w.heap.size w w') : AsyR w' w'.heap.size vr vb vn vs vf x :=
  ⟨(h.r.below hb).more hb.size, (h.b.below hb).more hb.size, (h.n.below hb).more hb.size, (h.s.below hb).more hb.size, (h.f.below hb).more hb.size⟩
theorem AsyR.slices {w : World} {B : Nat} {vr vb vn vs vf : Value} {x : Asy} (h : AsyR w B vr vb vn vs vf x) : (∃ A m c, vr = .slice A m c) ∧ (∃ A m c, vb = .slice A m c) ∧ (∃ A m c, vn = .slice A m c) ∧ (∃ A m c, vs = .slice A m c) ∧ ∃ A m c, vf = .slice A m c := ⟨h.r.isSlice, h.b.isSlice, h.n.isSlice, h.s.isSlice1, h.f.isSlice⟩
def lensC : List Cl → Nat
  | [] => 0
  | c :: r => c.2.1.length + lensC r
def szCls (cs : List Cl) : Nat := cs.length + lensC cs
theorem lensC_append : ∀ (a b : List Cl), lensC (a ++ b) = lensC a + lensC b
  | [], b => by simp [lensC]
  | x :: a, b => by simp [lensC, lensC_append a b]; omega
theorem lensC_snoc (cs : List Cl) (k : Nat) (c : Cl) (h : cs[k]? = some c) : lensC (cs.take (k + 1)) = lensC (cs.take k) + c.2.1.length := by
  obtain ⟨hk, rfl⟩ := List.getElem?_eq_some_iff.1 h
  rw [List.take_succ_eq_append_getElem hk, lensC_append]
  rfl
theorem lensC_split (cs : List Cl) (k : Nat) : lensC cs = lensC (cs.take k) + lensC (cs.drop k) := by rw [← lensC_append, List.take_append_drop]
theorem lensC_all (cs : List Cl) (k : Nat) (h : cs.length ≤ k) : lensC (cs.take k) = lensC cs := by rw [List.take_of_length_le h]
def szMach (m : Mach) : Nat := szRows m.start + szRows m.send + szCls m.cls + m.out.length
end Go.Proofs.YtehkcodbcnhhoaaGreat
