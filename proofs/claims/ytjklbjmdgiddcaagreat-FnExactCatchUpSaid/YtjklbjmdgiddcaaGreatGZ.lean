/-
  Small lemmas and contracts that the texts of this claim share. No condition.
-/
import Derived.Below
import Derived.ChangeSame
import Derived.ProofKit
import Derived.Carry
import Derived.Deep.Draws
import Derived.OpenShut
import Derived.Laws.Rows
import Derived.Lib.Hide
import Derived.WalkKit
import Derived.Deep.RegionHeld3
import Derived.Deep.AppendLies
import Derived.Laws.MakeOwn
import Derived.Test.YtjklbjmdgiddcaaGreatRows
import Derived.WalkSpells
import Derived.WalkLawsBesides
import Derived.Maps.AppendAt
import Derived.Deep.LoopGhost
import Derived.Deep.QuietTactic
import Derived.BigQuiet
namespace Go.Proofs.YtjklbjmdgiddcaaGreat
open Go.RowKit Go.WideShapes Go.ChangeShapes
set_option linter.all false
theorem ret_int {k : IntKind} {a b : Int} (h : a = b) : Ending.returned (.int k a) = .returned (.int k b) := by rw [h]
theorem ret_bool {a b : Bool} (h : a = b) : Ending.returned (.bool a) = .returned (.bool b) := by rw [h]
theorem bl_alloc {w x : World} (h : Below w.heap.size w x) (o : Obj) : Below w.heap.size w (x.alloc o) := h.alloc h.size o
theorem bl_trans {w x y : World} (h : Below w.heap.size w x) (k : Below x.heap.size x y) : Below w.heap.size w y := h.trans (k.mono h.size)
theorem bl_drewN {B : Nat} {a w : World} (h : Below B a w) (n : Nat) : Below B a (w.drewN n) := ⟨h.os, h.tape, h.output, h.size, h.block⟩
def szR (left : Int) (n : Nat) : Int := if (n : Int) ≤ left then left - n else -1
def inB (n lo hi : Int) : Bool := decide (lo ≤ n ∧ n ≤ hi)
theorem inB_t {n lo hi : Int} (h : lo ≤ n ∧ n ≤ hi) : inB n lo hi = true := by unfold inB; exact decide_eq_true h
theorem inB_f {n lo hi : Int} (h : ¬ (lo ≤ n ∧ n ≤ hi)) : inB n lo hi = false := by unfold inB; exact decide_eq_false h
noncomputable def propB (p : Prop) : Bool := @decide p (Classical.propDecidable p)
theorem propB_t {p : Prop} (h : p) : propB p = true := by unfold propB; exact @decide_eq_true p (Classical.propDecidable p) h
theorem propB_f {p : Prop} (h : ¬ p) : propB p = false := by unfold propB; exact @decide_eq_false p (Classical.propDecidable p) h
theorem propB_iff {p : Prop} : propB p = true ↔ p := by unfold propB; exact @decide_eq_true_iff p (Classical.propDecidable p)
theorem propB_congr {p q : Prop} (h : p ↔ q) : propB p = propB q := by rw [propext h]
section
variable {H : Type} {enc : TypeId × Value → H} {P : Program}
theorem trodAll_stays (hl : laidOutB P = true) {W W' : World} {sp' : Nat → Bool} :
    ∀ (ts : List TypeId) (vs : List Value) (ds : List (DataW H)) (ps : List MemPlace), (∀ t ∈ ts, P.readableRec t = true ∧ t < P.types.size) →
      DataW.TrodAll enc P W 0 (fun _ => true) true ts vs ds ps → (∀ p ∈ ps, W.sameAt W' p) → (∀ p ∈ ps, sp' p.block = true) → DataW.TrodAll enc P W' 0 sp' true ts vs ds ps
  | [], [], [], _, _, h, _, _ => h
  | t :: ts, v :: vs, d :: ds, ps, hr, h, h1, h2 => by
    obtain ⟨p, q, ha, hb, rfl⟩ := h
    exact ⟨p, q, WideElems.Trod_stays hl (hr t (by simp)).1 (hr t (by simp)).2 ha (fun x hx => h1 x (by simp [hx])) (fun x hx => h2 x (by simp [hx])),
      trodAll_stays hl ts vs ds q (fun t' ht' => hr t' (by simp [ht'])) hb (fun x hx => h1 x (by simp [hx])) (fun x hx => h2 x (by simp [hx])), rfl⟩
  | [], [], _ :: _, _, _, h, _, _ => h.elim
  | [], _ :: _, _, _, _, h, _, _ => h.elim
  | _ :: _, [], _, _, _, h, _, _ => h.elim
  | _ :: _, _ :: _, [], _, _, h, _, _ => h.elim
theorem post_law {f : Func} {s : ChangeSpec} {apart fresh handsOn again : Bool} {W W' : World} {args : Array Value} {ds gs : List (DataW H)} {before : List MemPlace} {tb : TypeId}
  (hl : laidOutB P = true) (hr0 : (f.params.toList.all fun t => P.readableRec t && decide (t < P.types.size)) = true) (hvars : s.vars = []) (hrt : f.resultTypes = #[tb]) (htb : P.underlying tb = some .bool)
  (hsp : s.fn H (ds ++ gs) = { results := [.lit (.bool true)], args := ds })
  (hW : DataW.Whole enc P f.params.toList s.vars apart W args.toList ds gs before) (hb : Below W.heap.size W W') :
  s.post enc P f apart fresh handsOn again W args (.bool true) W' := by
 have hr : ∀ t ∈ f.params.toList, P.readableRec t = true ∧ t < P.types.size := fun t ht => by have := List.all_eq_true.1 hr0 t ht;simpa using this
 have hlt : ∀ p ∈ before, p.block < W.heap.size := fun p hp => hW.lt p hp
 have hold : ∀ p ∈ before, (fun b => decide (b < W.heap.size)) p.block = true := fun p hp => by simpa using hlt p hp
 obtain ⟨p, q, hA, hV, hps, hz, hn⟩ := id hW;rw [hvars] at hV;obtain ⟨rfl, rfl⟩ := trodVars_none hV;have hps' : before = p := by simpa using hps
 subst hps';have hargs : ∀ sp : Nat → Bool, (∀ x ∈ before, sp x.block = true) → DataW.TrodAll enc P W' 0 sp true f.params.toList args.toList ds before :=
  fun sp hs => trodAll_stays hl _ _ _ _ hr hA (fun x hx => hb.same (hlt x hx)) hs
 have hres : ∀ (b : Nat) (sp : Nat → Bool) (hd : Bool), DataW.TrodAll enc P W' b sp hd f.resultTypes.toList ((Value.bool true).resultList f.resultTypes.size) [.lit (.bool true)] [] := by intro b sp hd;rw [hrt];exact trodAll_cons_mk (shut_bool htb _) trodAll_mk0
 have hv0 : ∀ sp : Nat → Bool, DataW.TrodVars enc P W' sp s.vars [] [] := fun sp => by rw [hvars]; rfl
 refine ⟨ds, [], before, [], before, [], hW, by rw [hsp]; exact hres _ _ _, by rw [hsp]; exact hargs _ hold, by rw [hsp]; exact hv0 _, World.keptBut_mono (fun x hx => ⟨hx, ?_⟩) (hb.frame (· ∈ before)), fun _ => ?_⟩
 · exact Or.inr (by simpa using hx)
 ·
  refine ⟨?_, _, _, ([] ++ before) ++ [], ⟨[] ++ before, [], trodAll_append (hargs _ (fun _ _ => rfl)) (hres _ _ _), hv0 _, rfl, ?_, ?_⟩, ?_⟩
  · exact ok_one hrt rfl (okWide_bool_mk htb _)
  ·
   intro b off hp;have hin : MemPlace.cell b off ∈ before := by simpa using hp
   rw [hb.frozen (hlt _ hin)];exact hz b off (by simpa using hin)
  · intro ha;simpa using hn ha
  · intro x hx _;simpa using hx
end
end Go.Proofs.YtjklbjmdgiddcaaGreat
namespace Go.Proofs.YtjklbjmdgiddcaaGreat
open Go.RowKit
set_option linter.all false
theorem cells2 {w : World} {b : Nat} {v0 v1 : Value} {t : TypeId} (H : Hid (w.heap[b]? = some (.cells #[v0, v1] t (0, 0)))) : w.cell? ⟨b, 0, none⟩ = some v0 ∧ w.cell? ⟨b, 1, none⟩ = some v1 ∧ ∀ i, w.frozen? ⟨b, i, none⟩ = false :=
  ⟨cell_of_row _ _ 0 _ _ (0, 0) H.out, cell_of_row _ _ 1 _ _ (0, 0) H.out, fun i => frozen_of_row _ _ i _ _ H.out⟩
theorem cells3 {w : World} {b : Nat} {v0 v1 v2 : Value} {t : TypeId} (H : Hid (w.heap[b]? = some (.cells #[v0, v1, v2] t (0, 0)))) : w.cell? ⟨b, 0, none⟩ = some v0 ∧ w.cell? ⟨b, 1, none⟩ = some v1 ∧ w.cell? ⟨b, 2, none⟩ = some v2 ∧ ∀ i, w.frozen? ⟨b, i, none⟩ = false :=
  ⟨cell_of_row _ _ 0 _ _ (0, 0) H.out, cell_of_row _ _ 1 _ _ (0, 0) H.out, cell_of_row _ _ 2 _ _ (0, 0) H.out, fun i => frozen_of_row _ _ i _ _ H.out⟩
theorem pu : (∀ (l : List Value) (i : Nat) (v : Value), l.toArray.setIfInBounds i v = (l.set i v).toArray) ∧ (∀ (x : Value) (l : List Value) (v : Value), (x :: l).set 0 v = v :: l) ∧ ∀ (x : Value) (l : List Value) (n : Nat) (v : Value), (x :: l).set (n + 1) v = x :: l.set n v :=
  ⟨fun l i v => List.setIfInBounds_toArray l i v, fun _ _ _ => rfl, fun _ _ _ _ => rfl⟩
theorem bk {w w' : World} {b B : Nat} {o : Option Obj} (H : Hid (w.heap[b]? = o)) (hb : Below B w w') (h : b < B := by omega) : Hid (w'.heap[b]? = o) := Lib.hid ((hb.block b h).trans H.out)
theorem tk {P : Program} {md : Region.Mode} {ops : Array Oper} {Q : Exit → Act → World → Prop} {S : World → Prop} {fuel : Nat} {listed : Array Bool} {a : Act} {w : World} (i d : Nat) {oi : Oper} {v : Value}
    (hi : ops.toList[i]? = some oi) (hd : oi.dst = some d)
    (h : wpAnyH P md ops Q S fuel (listed.setIfInBounds i true) (a.put (some d) v) w)
    (hy : ∀ w, S w → (execOp a.eval oi).run P w = .ok (.value v) w := by intro w hSw; (try dsimp only at hSw); go_simp <;> with_reducible rfl)
    (hs : Region.noSelect ops = true := by kernel_rfl) (hf : Region.free md ops listed i = true := by kernel_rfl) (hr : (Region.ready md ops listed).contains i = true := by kernel_rfl)
    (hQ : ∀ c a w, Q (.panic c) (a.put (some d) v) w → Q (.panic c) a w := by exact fun _ _ _ h => h) (hw : Region.wanted oi (yielded ops a.tmps) = true := by rfl) (hS : S w := by assumption) : wpAnyH P md ops Q S (fuel + 1) listed a w := by
  rw [← hd] at hQ h;exact wpAnyH_take (by rw [← Array.getElem?_toList]; exact hi) hs hf hr hQ (Or.inl ⟨hw, hy⟩) hS h
theorem tn {P : Program} {md : Region.Mode} {ops : Array Oper} {Q : Exit → Act → World → Prop} {S : World → Prop} {fuel : Nat} {listed : Array Bool} {a : Act} {w : World} (i d : Nat) {oi : Oper}
    (hi : ops.toList[i]? = some oi) (hd : oi.dst = some d)
    (h : wpAnyH P md ops Q S fuel (listed.setIfInBounds i true) (a.put (some d) undef) w)
    (hs : Region.noSelect ops = true := by kernel_rfl) (hf : Region.free md ops listed i = true := by kernel_rfl) (hr : (Region.ready md ops listed).contains i = true := by kernel_rfl)
    (hQ : ∀ c a w, Q (.panic c) (a.put (some d) undef) w → Q (.panic c) a w := by exact fun _ _ _ h => h) (hw : Region.wanted oi (yielded ops a.tmps) = false := by rfl) (hS : S w := by assumption) : wpAnyH P md ops Q S (fuel + 1) listed a w := by
  rw [← hd] at hQ h;exact wpAnyH_take (by rw [← Array.getElem?_toList]; exact hi) hs hf hr hQ (Or.inr ⟨hw, rfl⟩) hS h
theorem tr {P : Program} {md : Region.Mode} {ops : Array Oper} {Q : Exit → Act → World → Prop} {S : World → Prop} {fuel : Nat} {listed : Array Bool} {a : Act} {w : World} (i : Nat) {o : Oper}
    (hi : ops.toList[i]? = some o) (hr : Region.ready md ops listed = [i])
    (h : ∀ K' : Act → World → Prop, Shut (∀ a w, S w → (S w → wpAnyH P md ops Q S fuel (listed.setIfInBounds i true) a w) → K' a w) → if Region.wanted o (yielded ops a.tmps) = true then Oper.wp P o a w K' Q else K' (a.put o.dst undef) w) :
    wpAnyH P md ops Q S (fuel + 1) listed a w :=
  wpAnyH_ready hr (by simp) (AllReadyH.cons (by rw [← Array.getElem?_toList]; exact hi) h AllReadyH.nil)
theorem setB {w W W' : World} {G i : Nat} {cs : Array Value} {t : TypeId} {v : Value} (hB : Below w.heap.size w W) (hG : w.heap.size ≤ G) (hc : W.heap[G]? = some (.cells cs t (0, 0))) (hw : W' = W.setCell ⟨G, i, none⟩ v) :
    Below w.heap.size w W' ∧ (∀ b, b ≠ G → W'.heap[b]? = W.heap[b]?) ∧ Hid (W'.heap[G]? = some (.cells (cs.setIfInBounds i v) t (0, 0))) ∧ W'.heap.size ≤ W.heap.size ∧ W.heap.size ≤ W'.heap.size := by
  subst hw;refine ⟨hB.setCell hG _, fun b hb => Below.heap_setCell _ _ _ _ (by simpa using hb), Lib.hid ?_, by simp [World.setCell], by simp [World.setCell]⟩;simp [World.setCell, Array.getElem?_modify, hc]
end Go.Proofs.YtjklbjmdgiddcaaGreat
namespace Go.Proofs.YtjklbjmdgiddcaaGreat
open Go.RowKit
set_option linter.all false
section
variable {P : Program} {ops : Array Oper} {Q : Exit → Act → World → Prop} {md : Region.Mode} {S : World → Prop} {st : Nat}
def wpTill (P : Program) (md : Region.Mode) (ops : Array Oper) (Q : Exit → Act → World → Prop) (S : World → Prop) (st : Nat) : Nat → Array Bool → Act → World → Prop
  | 0, l, a, w => Region.ready md ops l = [] ∧ Q .normal a w
  | n + 1, l, a, w => (Region.ready md ops l = [] → Q .normal a w) ∧ ∀ i ∈ Region.ready md ops l, wpOp P ops Q i (fun b v => ((l.setIfInBounds i true).getD st true = false → S v) ∧ wpTill P md ops Q S st n (l.setIfInBounds i true) b v) a w
theorem wpTill.any : ∀ (n : Nat) (l : Array Bool) (a : Act) (w : World), wpTill P md ops Q S st n l a w → wpAny P md ops Q n l a w
  | 0, _, _, _, h => h
  | n + 1, _, _, _, h => ⟨h.1, fun i hi => wpOp_mono (fun b v h' => wpTill.any n _ b v h'.2) (h.2 i hi)⟩
theorem wpTill_first {i : Nat} {oi : Oper} {v : Value} (hi : ops[i]? = some oi) (hsel : ∀ (j : Nat) (o : Oper) cs b, ops[j]? = some o → o.op ≠ .select cs b)
  (hQ : ∀ c a w, Q (.panic c) (a.put oi.dst v) w → Q (.panic c) a w) (hne : st ≠ i) (hst : ∀ o, ops[st]? = some o → ∃ e ∈ o.after, Region.binds md e = true ∧ e.on = i) :
  ∀ (n : Nat) (l : Array Bool) (a : Act) (w : World),
   (∀ j oj, ops[j]? = some oj → j ≠ i → l.getD j true = false → (∀ e ∈ oj.after, Region.binds md e = true → e.on ≠ i) → oi.apart ops oj = true) →
   i ∈ Region.ready md ops l → l.getD st true = false → YieldsIf P ops S oi v a → S w →
   wpTill P md ops Q S st n (l.setIfInBounds i true) (a.put oi.dst v) w → wpTill P md ops Q S st (n + 1) l a w := by
 intro n;induction n with
 | zero =>
  intro l a w _ hr _ hy hS H;refine ⟨fun h => (by rw [h] at hr; cases hr), fun j hj => ?_⟩;by_cases hji : j = i
  · subst hji; exact hy.wpOp hi hS ⟨fun _ => hS, H⟩
  · have := ready_mono hj hji;rw [H.1] at this;cases this
 | succ n ih =>
  intro l a w hfree hr hl hy hS H;refine ⟨fun h => (by rw [h] at hr; cases hr), fun j hj => ?_⟩;by_cases hji : j = i
  · subst hji; exact hy.wpOp hi hS ⟨fun _ => hS, H⟩
  ·
   have h1 := H.2 j (ready_mono hj hji);obtain ⟨hjun, oj, hoj, hall⟩ := mem_ready.1 hj;have hiun : l.getD i true = false := (mem_ready.1 hr).1;have hnot : ∀ e ∈ oj.after, Region.binds md e = true → e.on ≠ i := fun e he hb heq => by
    have h1 := hall e he hb;have h0 := hiun;rw [heq] at h1;rcases Nat.lt_or_ge i l.size with h' | h'
    · simp [h'] at h0 h1; rw [h0] at h1; cases h1
    · simp [Array.getElem?_eq_none h'] at h1
   have hjst : j ≠ st := fun e => by subst e;obtain ⟨x, hx, hb, he⟩ := hst oj hoj;exact hnot x hx hb he
   have h2 := wpOp_putIf hoj (hfree j oj hoj hji hjun hnot) (fun cs b => hsel i oi cs b hi) (fun cs b => hsel j oj cs b hoj) hQ hy h1;have hfree' : ∀ k ok, ops[k]? = some ok → k ≠ i → (l.setIfInBounds j true).getD k true = false →
     (∀ e ∈ ok.after, Region.binds md e = true → e.on ≠ i) → oi.apart ops ok = true := fun k ok hk hki hun hno => by
    refine hfree k ok hk hki ?_ hno;by_cases hjk : j = k
    · subst hjk; exact hjun
    · rw [getD_set_ne true hjk] at hun; exact hun
   have hl' : (l.setIfInBounds j true).getD st true = false := by rw [getD_set_ne true hjst]; exact hl
   have hl2 : ((l.setIfInBounds i true).setIfInBounds j true).getD st true = false := by rw [getD_set_ne true hjst, getD_set_ne true (Ne.symm hne)]; exact hl
   refine wpOp_mono (fun a' w' h3 => ⟨fun _ => h3.2.1 hl2, ih (l.setIfInBounds j true) a' w' hfree' (ready_mono hr (Ne.symm hji)) hl' h3.1 (h3.2.1 hl2) ?_⟩) h2;rw [Array.setIfInBounds_comm _ _ hji];exact h3.2.2
theorem wpTill_free {i : Nat} {oi : Oper} {v : Value} (hi : ops[i]? = some oi) (hsel : ∀ (j : Nat) (o : Oper) cs b, ops[j]? = some o → o.op ≠ .select cs b)
  (hQ : ∀ c a w, Q (.panic c) (a.put oi.dst v) w → Q (.panic c) a w) (hne : st ≠ i) :
  ∀ (n : Nat) (l : Array Bool) (a : Act) (w : World),
   (∀ j oj, ops[j]? = some oj → j ≠ i → l.getD j true = false → (∀ e ∈ oj.after, Region.binds md e = true → e.on ≠ i) → oi.apart ops oj = true) →
   i ∈ Region.ready md ops l → YieldsIf P ops (fun _ => True) oi v a → (l.getD st true = false → S w) →
   wpTill P md ops Q S st n (l.setIfInBounds i true) (a.put oi.dst v) w → wpTill P md ops Q S st (n + 1) l a w := by
 intro n;induction n with
 | zero =>
  intro l a w _ hr hy hS H;refine ⟨fun h => (by rw [h] at hr; cases hr), fun j hj => ?_⟩;by_cases hji : j = i
  · subst hji; exact hy.wpOp hi trivial ⟨fun h => hS (by rwa [getD_set_ne true (Ne.symm hne)] at h), H⟩
  · have := ready_mono hj hji;rw [H.1] at this;cases this
 | succ n ih =>
  intro l a w hfree hr hy hS H;refine ⟨fun h => (by rw [h] at hr; cases hr), fun j hj => ?_⟩;by_cases hji : j = i
  · subst hji; exact hy.wpOp hi trivial ⟨fun h => hS (by rwa [getD_set_ne true (Ne.symm hne)] at h), H⟩
  ·
   have h1 := H.2 j (ready_mono hj hji);obtain ⟨hjun, oj, hoj, hall⟩ := mem_ready.1 hj;have hiun : l.getD i true = false := (mem_ready.1 hr).1;have hnot : ∀ e ∈ oj.after, Region.binds md e = true → e.on ≠ i := fun e he hb heq => by
    have h1 := hall e he hb;have h0 := hiun;rw [heq] at h1;rcases Nat.lt_or_ge i l.size with h' | h'
    · simp [h'] at h0 h1; rw [h0] at h1; cases h1
    · simp [Array.getElem?_eq_none h'] at h1
   have h2 := wpOp_putIf hoj (hfree j oj hoj hji hjun hnot) (fun cs b => hsel i oi cs b hi) (fun cs b => hsel j oj cs b hoj) hQ hy h1;have hfree' : ∀ k ok, ops[k]? = some ok → k ≠ i → (l.setIfInBounds j true).getD k true = false →
     (∀ e ∈ ok.after, Region.binds md e = true → e.on ≠ i) → oi.apart ops ok = true := fun k ok hk hki hun hno => by
    refine hfree k ok hk hki ?_ hno;by_cases hjk : j = k
    · subst hjk; exact hjun
    · rw [getD_set_ne true hjk] at hun; exact hun
   have hbit : (l.setIfInBounds j true).getD st true = false → ((l.setIfInBounds i true).setIfInBounds j true).getD st true = false := fun h => by rw [Array.setIfInBounds_comm _ _ (Ne.symm hji), getD_set_ne true (Ne.symm hne)];exact h
   refine wpOp_mono (fun a' w' h3 => ⟨fun h => h3.2.1 (hbit h), ih (l.setIfInBounds j true) a' w' hfree' (ready_mono hr (Ne.symm hji)) h3.1 (fun h => h3.2.1 (hbit h)) ?_⟩) h2;rw [Array.setIfInBounds_comm _ _ hji];exact h3.2.2
theorem wpTill_done {l : Array Bool} {a : Act} {w : World} (hr : Region.ready md ops l = []) (h : Q .normal a w) : ∀ n, wpTill P md ops Q S st n l a w
  | 0 => ⟨hr, h⟩
  | _ + 1 => ⟨fun _ => h, by rw [hr]; simp⟩
def waits (md : Region.Mode) (ops : Array Oper) (st i : Nat) : Bool := match ops[st]? with | some o => o.after.any fun e => Region.binds md e && e.on == i | none => true
theorem waits_spec {i : Nat} (h : waits md ops st i = true) : ∀ o, ops[st]? = some o → ∃ e ∈ o.after, Region.binds md e = true ∧ e.on = i := fun o ho => by unfold waits at h;rw [ho] at h;simp only [Array.any_eq_true, Bool.and_eq_true, beq_iff_eq] at h;obtain ⟨k, hk, h1, h2⟩ := h;exact ⟨_, Array.getElem_mem hk, h1, h2⟩
theorem uk {fuel : Nat} {listed : Array Bool} {a : Act} {w : World} (i d : Nat) {oi : Oper} {v : Value}
    (hi : ops.toList[i]? = some oi) (hd : oi.dst = some d)
    (h : wpTill P md ops Q S st fuel (listed.setIfInBounds i true) (a.put (some d) v) w)
    (hy : ∀ w, S w → (execOp a.eval oi).run P w = .ok (.value v) w := by intro w hSw; (try dsimp only at hSw); go_simp <;> with_reducible rfl)
    (hs : Region.noSelect ops = true := by kernel_rfl) (hf : Region.free md ops listed i = true := by kernel_rfl) (hr : (Region.ready md ops listed).contains i = true := by kernel_rfl)
    (hwt : waits md ops st i = true := by kernel_rfl) (hsi : (st == i) = false := by kernel_rfl) (hls : listed.getD st true = false := by kernel_rfl)
    (hQ : ∀ c a w, Q (.panic c) (a.put (some d) v) w → Q (.panic c) a w := by exact fun _ _ _ h => h) (hw : Region.wanted oi (yielded ops a.tmps) = true := by rfl) (hS : S w := by assumption) : wpTill P md ops Q S st (fuel + 1) listed a w := by
  rw [← hd] at hQ h;have hi' : ops[i]? = some oi := by rw [← Array.getElem?_toList]; exact hi
  exact wpTill_first hi' (Region.noSelect_spec hs) hQ (by simpa using hsi) (waits_spec hwt) fuel listed a w (Region.free_spec hi' hf) (by simpa using hr) hls (Or.inl ⟨hw, hy⟩) hS h
theorem till_over {l : Array Bool} {w : World} (h : l.getD st true = true) : l.getD st true = false → S w := fun h' => by rw [h] at h'; cases h'
theorem uf {fuel : Nat} {listed : Array Bool} {a : Act} {w : World} (i d : Nat) {oi : Oper} {v : Value}
    (hi : ops.toList[i]? = some oi) (hd : oi.dst = some d)
    (h : wpTill P md ops Q S st fuel (listed.setIfInBounds i true) (a.put (some d) v) w)
    (hy : ∀ w, (execOp a.eval oi).run P w = .ok (.value v) w := by intro w; go_simp <;> with_reducible rfl)
    (hs : Region.noSelect ops = true := by kernel_rfl) (hf : Region.free md ops listed i = true := by kernel_rfl) (hr : (Region.ready md ops listed).contains i = true := by kernel_rfl)
    (hsi : (st == i) = false := by kernel_rfl)
    (hQ : ∀ c a w, Q (.panic c) (a.put (some d) v) w → Q (.panic c) a w := by exact fun _ _ _ h => h) (hw : Region.wanted oi (yielded ops a.tmps) = true := by rfl)
    (hS : listed.getD st true = false → S w := by first | (intro _; assumption) | exact till_over (by kernel_rfl)) : wpTill P md ops Q S st (fuel + 1) listed a w := by
  rw [← hd] at hQ h;have hi' : ops[i]? = some oi := by rw [← Array.getElem?_toList]; exact hi
  exact wpTill_free hi' (Region.noSelect_spec hs) hQ (by simpa using hsi) fuel listed a w (Region.free_spec hi' hf) (by simpa using hr) (Or.inl ⟨hw, fun w _ => hy w⟩) hS h
theorem till_no {b : Bool} {p : Prop} (h' : b = false) (h : b = true) : p := by rw [h] at h'; cases h'
def TillK (P : Program) (md : Region.Mode) (ops : Array Oper) (Q : Exit → Act → World → Prop) (S : World → Prop) (st fuel : Nat) (listed : Array Bool) (i : Nat) (K' : Act → World → Prop) : Prop :=
  Shut (∀ a w, ((listed.setIfInBounds i true).getD st true = false → S w) → wpTill P md ops Q S st fuel (listed.setIfInBounds i true) a w → K' a w)
theorem ur {fuel : Nat} {listed : Array Bool} {a : Act} {w : World} (i : Nat) {o : Oper}
    (hi : ops.toList[i]? = some o) (hr : Region.ready md ops listed = [i])
    (h : ∀ K' : Act → World → Prop, TillK P md ops Q S st fuel listed i K' → if Region.wanted o (yielded ops a.tmps) = true then Oper.wp P o a w K' Q else K' (a.put o.dst undef) w) :
    wpTill P md ops Q S st (fuel + 1) listed a w := by
  refine ⟨fun h0 => (by rw [hr] at h0; cases h0), fun j hj => ?_⟩;rw [hr] at hj;obtain rfl := List.mem_singleton.1 hj;exact wpOp_step (by rw [← Array.getElem?_toList]; exact hi) fun K' hK => h K' (fun a w hS hW => hK a w ⟨hS, hW⟩)
theorem TillK.out {fuel i : Nat} {listed : Array Bool} {K' : Act → World → Prop} (h : TillK P md ops Q S st fuel listed i K') {a : Act} {w : World} (hS : (listed.setIfInBounds i true).getD st true = false → S w) (hW : wpTill P md ops Q S st fuel (listed.setIfInBounds i true) a w) : K' a w := h a w hS hW
theorem till_region {id : Nat} {a : Act} {w : World} (hm : P.follows .mixedOrders = true) (hS : S w.drew)
    (h : S w.drew → wpTill P .any ops Q S st ops.size (Array.replicate ops.size false) a w.drew) : (Code.region id ops true).wp P Q a w :=
  wp_region_any hm (wpTill.any _ _ _ _ (h hS))
end
end Go.Proofs.YtjklbjmdgiddcaaGreat
namespace Go.Proofs.YtjklbjmdgiddcaaGreat
open Go.RowKit
set_option linter.all false
theorem stk {P : Program} {md : Region.Mode} {ops : Array Oper} {Q : Exit → Act → World → Prop} {S : World → Prop} {fuel : Nat} {listed : Array Bool} {a a' : Act} {w : World} (i d : Nat) {oi : Oper} {v : Value}
    (h : wpAnyH P md ops Q S fuel (listed.setIfInBounds i true) a' w)
    (hi : ops.toList[i]? = some oi := by rfl) (hd : oi.dst = some d := by rfl)
    (hy : ∀ w, S w → (execOp a.eval oi).run P w = .ok (.value v) w := by intro w hSw; (try dsimp only at hSw); go_simp <;> with_reducible rfl)
    (hp : a.put (some d) v = a' := by (try simp only [Act.put, pu]); exact rfl)
    (hs : Region.noSelect ops = true := by kernel_rfl) (hf : Region.free md ops listed i = true := by kernel_rfl) (hr : (Region.ready md ops listed).contains i = true := by kernel_rfl)
    (hQ : ∀ c a w, Q (.panic c) (a.put (some d) v) w → Q (.panic c) a w := by exact fun _ _ _ h => h) (hw : Region.wanted oi (yielded ops a.tmps) = true := by rfl) (hS : S w := by first | assumption | trivial) : wpAnyH P md ops Q S (fuel + 1) listed a w :=
  tk i d hi hd (by rw [hp]; exact h) hy hs hf hr hQ hw hS
theorem stn {P : Program} {md : Region.Mode} {ops : Array Oper} {Q : Exit → Act → World → Prop} {S : World → Prop} {fuel : Nat} {listed : Array Bool} {a a' : Act} {w : World} (i d : Nat) {oi : Oper}
    (h : wpAnyH P md ops Q S fuel (listed.setIfInBounds i true) a' w)
    (hi : ops.toList[i]? = some oi := by rfl) (hd : oi.dst = some d := by rfl)
    (hp : a.put (some d) undef = a' := by (try simp only [Act.put, pu]); exact rfl)
    (hs : Region.noSelect ops = true := by kernel_rfl) (hf : Region.free md ops listed i = true := by kernel_rfl) (hr : (Region.ready md ops listed).contains i = true := by kernel_rfl)
    (hQ : ∀ c a w, Q (.panic c) (a.put (some d) undef) w → Q (.panic c) a w := by exact fun _ _ _ h => h) (hw : Region.wanted oi (yielded ops a.tmps) = false := by rfl) (hS : S w := by assumption) : wpAnyH P md ops Q S (fuel + 1) listed a w :=
  tn i d hi hd (by rw [hp]; exact h) hs hf hr hQ hw hS
section
variable {P : Program} {ops : Array Oper} {Q : Exit → Act → World → Prop} {md : Region.Mode} {S : World → Prop} {st : Nat}
theorem utk {fuel : Nat} {listed : Array Bool} {a a' : Act} {w : World} (i d : Nat) {oi : Oper} {v : Value}
    (h : wpTill P md ops Q S st fuel (listed.setIfInBounds i true) a' w)
    (hi : ops.toList[i]? = some oi := by rfl) (hd : oi.dst = some d := by rfl)
    (hy : ∀ w, S w → (execOp a.eval oi).run P w = .ok (.value v) w := by intro w hSw; (try dsimp only at hSw); go_simp <;> with_reducible rfl)
    (hp : a.put (some d) v = a' := by (try simp only [Act.put, pu]); exact rfl)
    (hs : Region.noSelect ops = true := by kernel_rfl) (hf : Region.free md ops listed i = true := by kernel_rfl) (hr : (Region.ready md ops listed).contains i = true := by kernel_rfl)
    (hwt : waits md ops st i = true := by kernel_rfl) (hsi : (st == i) = false := by kernel_rfl) (hls : listed.getD st true = false := by kernel_rfl)
    (hQ : ∀ c a w, Q (.panic c) (a.put (some d) v) w → Q (.panic c) a w := by exact fun _ _ _ h => h) (hw : Region.wanted oi (yielded ops a.tmps) = true := by rfl) (hS : S w := by first | assumption | ((try dsimp only); and_intros <;> assumption)) : wpTill P md ops Q S st (fuel + 1) listed a w :=
  uk i d hi hd (by rw [hp]; exact h) hy hs hf hr hwt hsi hls hQ hw hS
theorem utf {fuel : Nat} {listed : Array Bool} {a a' : Act} {w : World} (i d : Nat) {oi : Oper} {v : Value}
    (h : wpTill P md ops Q S st fuel (listed.setIfInBounds i true) a' w)
    (hi : ops.toList[i]? = some oi := by rfl) (hd : oi.dst = some d := by rfl)
    (hy : ∀ w, (execOp a.eval oi).run P w = .ok (.value v) w := by intro w; go_simp <;> with_reducible rfl)
    (hp : a.put (some d) v = a' := by (try simp only [Act.put, pu]); exact rfl)
    (hs : Region.noSelect ops = true := by kernel_rfl) (hf : Region.free md ops listed i = true := by kernel_rfl) (hr : (Region.ready md ops listed).contains i = true := by kernel_rfl)
    (hsi : (st == i) = false := by kernel_rfl)
    (hQ : ∀ c a w, Q (.panic c) (a.put (some d) v) w → Q (.panic c) a w := by exact fun _ _ _ h => h) (hw : Region.wanted oi (yielded ops a.tmps) = true := by rfl)
    (hS : listed.getD st true = false → S w := by first | exact till_over (by kernel_rfl) | (intro _; first | assumption | ((try dsimp only); and_intros <;> assumption))) : wpTill P md ops Q S st (fuel + 1) listed a w :=
  uf i d hi hd (by rw [hp]; exact h) hy hs hf hr hsi hQ hw hS
end
abbrev aA := @Lib.hid
abbrev aB := @List.getElem?_eq_some_iff.{0}
abbrev aC := @List.getElem?_eq_getElem.{0}
abbrev aD := @Lib.cell?_alloc_some
abbrev aE := @Option.some.inj.{0}
abbrev aF := @Nat.lt_of_lt_of_le
abbrev aG := @List.getD_eq_getElem?_getD.{0}
abbrev aH := @wp_region_held_drew
abbrev aI := @AllReadyH.cons
abbrev aJ := @wpAnyH_ready
abbrev aK := @wpAnyH_done
abbrev aL := @IntWalk.i64_in
abbrev aM := @World.ownsRow.lt
abbrev aN := @List.mem_of_getElem?.{0}
end Go.Proofs.YtjklbjmdgiddcaaGreat
namespace Go.Proofs.YtjklbjmdgiddcaaGreat
open Go.RowKit
set_option linter.all false
theorem block_add (a : Addr) (n : Nat) : (a.add n).block = a.block := by unfold Addr.add; split <;> rfl
def intV (x : Int) : Value := .int .i64 x
def I64 (x : Int) : Prop := -9223372036854775808 ≤ x ∧ x ≤ 9223372036854775807
def SlR (w : World) (B : Nat) (v : Value) (vs : List Value) : Prop :=
  ∃ A c, v = .slice A vs.length c ∧ vs.length ≤ c ∧ c ≤ maxLen ∧ (0 < vs.length → ∃ ad, A = some ad ∧ ad.block < B ∧ ∀ j u, vs[j]? = some u → w.cell? (ad.add j) = some u)
section
variable {w w' : World} {B B' : Nat} {v : Value} {vs : List Value}
theorem SlR.keep (h : SlR w B v vs) (hk : ∀ p : Addr, p.block < B → w'.cell? p = w.cell? p) : SlR w' B v vs := by obtain ⟨A, c, e, h1, h2, h3⟩ := h;refine ⟨A, c, e, h1, h2, fun hn => ?_⟩;obtain ⟨ad, e', hb, hc⟩ := h3 hn;exact ⟨ad, e', hb, fun j u hu => (hk _ (by rw [block_add]; exact hb)).trans (hc j u hu)⟩
theorem SlR.below (h : SlR w B v vs) (hb : Below B w w') : SlR w' B v vs := h.keep fun _ hp => hb.cell hp
theorem SlR.more (h : SlR w B v vs) (hB : B ≤ B') : SlR w B' v vs := by obtain ⟨A, c, e, h1, h2, h3⟩ := h;refine ⟨A, c, e, h1, h2, fun hn => ?_⟩;obtain ⟨ad, e', hb, hc⟩ := h3 hn;exact ⟨ad, e', by omega, hc⟩
theorem SlR.len_le (h : SlR w B v vs) : vs.length ≤ maxLen := by obtain ⟨A, c, e, h1, h2, h3⟩ := h; omega
end
def IntsR (w : World) (B : Nat) (v : Value) (xs : List Int) : Prop := SlR w B v (xs.map intV) ∧ ∀ x ∈ xs, I64 x
theorem IntsR.below {w w' : World} {B : Nat} {v : Value} {xs : List Int} (h : IntsR w B v xs) (hb : Below B w w') : IntsR w' B v xs := ⟨h.1.below hb, h.2⟩
theorem IntsR.more {w : World} {B B' : Nat} {v : Value} {xs : List Int} (h : IntsR w B v xs) (hB : B ≤ B') : IntsR w B' v xs := ⟨h.1.more hB, h.2⟩
theorem IntsR.open_ {w : World} {B : Nat} {v : Value} {xs : List Int} (h : IntsR w B v xs) :
    ∃ A c, v = .slice A xs.length c ∧ xs.length ≤ c ∧ c ≤ maxLen ∧ (0 < xs.length → ∃ ad, A = some ad ∧ ad.block < B ∧ ∀ j x, xs[j]? = some x → w.cell? (ad.add j) = some (.int .i64 x)) := by
  obtain ⟨A, c, e, h1, h2, h3⟩ := h.1;rw [List.length_map] at e h1 h3;refine ⟨A, c, e, h1, h2, fun hn => ?_⟩;obtain ⟨ad, e', hb, hc⟩ := h3 hn;exact ⟨ad, e', hb, fun j x hx => hc j _ (by rw [List.getElem?_map, hx]; rfl)⟩
def AllR (w : World) (B : Nat) : List Value → List (List Int) → Prop
  | [], [] => True
  | v :: vs, xs :: xss => IntsR w B v xs ∧ AllR w B vs xss
  | _, _ => False
theorem AllR.mono {w w' : World} {B B' : Nat} (h : ∀ v xs, IntsR w B v xs → IntsR w' B' v xs) : ∀ {vs : List Value} {xss : List (List Int)}, AllR w B vs xss → AllR w' B' vs xss
  | [], [], _ => trivial
  | _ :: _, _ :: _, ⟨a, b⟩ => ⟨h _ _ a, AllR.mono h b⟩
  | [], _ :: _, k => k.elim
  | _ :: _, [], k => k.elim
theorem AllR.len {w : World} {B : Nat} : ∀ {vs : List Value} {xss : List (List Int)}, AllR w B vs xss → vs.length = xss.length
  | [], [], _ => rfl
  | _ :: _, _ :: _, ⟨_, b⟩ => by simp [AllR.len b]
  | [], _ :: _, k => k.elim
  | _ :: _, [], k => k.elim
theorem AllR.at_ {w : World} {B : Nat} : ∀ {vs : List Value} {xss : List (List Int)} (_ : AllR w B vs xss) {k : Nat} {v : Value} {xs : List Int}, vs[k]? = some v → xss[k]? = some xs → IntsR w B v xs
  | _ :: _, _ :: _, ⟨a, _⟩, 0, _, _, h1, h2 => by simp only [List.getElem?_cons_zero, Option.some.injEq] at h1 h2;subst h1 h2;exact a
  | _ :: _, _ :: _, ⟨_, b⟩, _ + 1, _, _, h1, h2 => b.at_ (by simpa using h1) (by simpa using h2)
  | [], [], _, _, _, _, h1, _ => by simp at h1
  | [], _ :: _, k, _, _, _, _, _ => k.elim
  | _ :: _, [], k, _, _, _, _, _ => k.elim
def RowsR (w : World) (B : Nat) (v : Value) (xss : List (List Int)) : Prop := ∃ vs, SlR w B v vs ∧ AllR w B vs xss
section
variable {w w' : World} {B B' : Nat} {v : Value} {xss : List (List Int)}
theorem RowsR.below (h : RowsR w B v xss) (hb : Below B w w') : RowsR w' B v xss := by obtain ⟨vs, h1, h2⟩ := h;exact ⟨vs, h1.below hb, h2.mono fun _ _ k => k.below hb⟩
theorem RowsR.more (h : RowsR w B v xss) (hB : B ≤ B') : RowsR w B' v xss := by obtain ⟨vs, h1, h2⟩ := h;exact ⟨vs, h1.more hB, h2.mono fun _ _ k => k.more hB⟩
theorem RowsR.open_ (h : RowsR w B v xss) :
    ∃ A c, v = .slice A xss.length c ∧ xss.length ≤ c ∧ c ≤ maxLen ∧ (0 < xss.length → ∃ ad, A = some ad ∧ ad.block < B ∧ ∀ j xs, xss[j]? = some xs → ∃ u, w.cell? (ad.add j) = some u ∧ IntsR w B u xs) := by
  obtain ⟨vs, ⟨A, c, e, h1, h2, h3⟩, hall⟩ := h;have hl := hall.len;rw [hl] at e h1 h3;refine ⟨A, c, e, h1, h2, fun hn => ?_⟩;obtain ⟨ad, e', hb, hc⟩ := h3 hn;refine ⟨ad, e', hb, fun j xs hx => ?_⟩;have hj : j < vs.length := by have := (aB.1 hx).1;omega
  exact ⟨vs[j], hc j _ (aC hj), hall.at_ (aC hj) hx⟩
end
/-! ### What the call itself has made -/
def OwnRow (w : World) (e : TypeId) (v : Value) (vs : List Value) (bs : List Nat) : Prop :=
  (vs = [] ∧ bs = [] ∧ ∃ A c, v = .slice A 0 c ∧ c ≤ maxLen) ∨
  ∃ g c cur, v = .slice (some ⟨g, 0, none⟩) vs.length c ∧ vs.length ≤ c ∧ c ≤ maxLen ∧ w.heap[g]? = some (.cells cur e (0, 0)) ∧ cur.size = c ∧ cur.toList.take vs.length = vs ∧ bs = [g]
section
variable {w w' : World} {e : TypeId} {v : Value} {vs : List Value} {bs : List Nat}
theorem OwnRow.keep (h : OwnRow w e v vs bs) (hk : ∀ b ∈ bs, w'.heap[b]? = w.heap[b]?) : OwnRow w' e v vs bs := by
  rcases h with h | ⟨g, c, cur, h1, h2, h3, h4, h5, h6, h7⟩
  · exact .inl h
  · exact .inr ⟨g, c, cur, h1, h2, h3, (hk g (by rw [h7]; simp)).trans h4, h5, h6, h7⟩
theorem OwnRow.reads (h : OwnRow w e v vs bs) {B : Nat} (hB : ∀ b ∈ bs, b < B) : SlR w B v vs := by
  rcases h with ⟨rfl, rfl, A, c, rfl, hc⟩ | ⟨g, c, cur, h1, h2, h3, h4, h5, h6, h7⟩
  · exact ⟨A, c, rfl, Nat.zero_le _, hc, fun hn => absurd hn (by simp)⟩
  · refine ⟨some ⟨g, 0, none⟩, c, h1, h2, h3, fun hn => ⟨_, rfl, hB g (by rw [h7]; simp), fun j u hu => ?_⟩⟩
    have hj : j < vs.length := (aB.1 hu).1;have e1 : (⟨g, 0, none⟩ : Addr).add j = ⟨g, j, none⟩ := by unfold Addr.add; split <;> simp_all
    rw [e1, cell_of_row w g j cur e (0, 0) h4, ← Array.getElem?_toList];have : cur.toList[j]? = (cur.toList.take vs.length)[j]? := by rw [List.getElem?_take, if_pos hj]
    rw [this, h6, hu]
theorem OwnRow.lt (h : OwnRow w e v vs bs) : ∀ b ∈ bs, b < w.heap.size := by
  rcases h with ⟨_, rfl, _⟩ | ⟨g, c, cur, _, _, _, h4, _, _, h7⟩
  · intro b hb; cases hb
  · intro b hb
    rw [h7] at hb;obtain rfl : b = g := by simpa using hb
    rcases Nat.lt_or_ge b w.heap.size with h | h
    · exact h
    · rw [Array.getElem?_eq_none h] at h4; cases h4
theorem OwnRow.of_owns {base n : Nat} (h : w.ownsRow base e 1 v n vs) : ∃ bs, OwnRow w e v vs bs ∧ (∀ b ∈ bs, base ≤ b) ∧ bs.Nodup := by
  have hl : vs.length = n := by have := h.1; omega
  rcases h.2 with ⟨rfl, hn⟩ | ⟨g, cap, cur, h1, h2, h3, h4, h5, h6, h7⟩
  · have : vs = [] := List.eq_nil_of_length_eq_zero (by omega)
    exact ⟨[], .inl ⟨this, rfl, none, 0, rfl, Nat.zero_le _⟩, (fun _ hb => by cases hb), List.nodup_nil⟩
  · refine ⟨[g], .inr ⟨g, cap, cur, by rw [hl]; exact h1, by omega, h5, h3, by omega, ?_, rfl⟩, fun b hb => by simp at hb; omega, by simp⟩
    rw [hl];simpa using h7
end
theorem OwnRow.isSlice {w : World} {e : TypeId} {v : Value} {vs : List Value} {bs : List Nat} (h : OwnRow w e v vs bs) : ∃ A n c, v = .slice A n c := by
  rcases h with ⟨_, _, A, c, rfl, _⟩ | ⟨g, c, cur, rfl, _⟩
  · exact ⟨_, _, _, rfl⟩
  · exact ⟨_, _, _, rfl⟩
def OwnInts (w : World) (e : TypeId) (v : Value) (xs : List Int) (bs : List Nat) : Prop := OwnRow w e v (xs.map intV) bs ∧ ∀ x ∈ xs, I64 x
theorem OwnInts.keep {w w' : World} {e : TypeId} {v : Value} {xs : List Int} {bs : List Nat} (h : OwnInts w e v xs bs) (hk : ∀ b ∈ bs, w'.heap[b]? = w.heap[b]?) : OwnInts w' e v xs bs := ⟨h.1.keep hk, h.2⟩
theorem OwnInts.reads {w : World} {e : TypeId} {v : Value} {xs : List Int} {bs : List Nat} (h : OwnInts w e v xs bs) {B : Nat} (hB : ∀ b ∈ bs, b < B) : IntsR w B v xs := ⟨h.1.reads hB, h.2⟩
def OwnAll (w : World) (e : TypeId) : List Value → List (List Int) → List Nat → Prop
  | [], [], bs => bs = []
  | v :: vs, xs :: xss, bs => ∃ b1 b2, OwnInts w e v xs b1 ∧ OwnAll w e vs xss b2 ∧ bs = b1 ++ b2
  | _, _, _ => False
theorem OwnAll.keep {w w' : World} {e : TypeId} : ∀ {vs : List Value} {xss : List (List Int)} {bs : List Nat}, OwnAll w e vs xss bs → (∀ b ∈ bs, w'.heap[b]? = w.heap[b]?) → OwnAll w' e vs xss bs
  | [], [], _, h, _ => h
  | _ :: _, _ :: _, _, ⟨b1, b2, h1, h2, rfl⟩, hk => ⟨b1, b2, h1.keep fun b hb => hk b (by simp [hb]), h2.keep fun b hb => hk b (by simp [hb]), rfl⟩
  | [], _ :: _, _, h, _ => h.elim
  | _ :: _, [], _, h, _ => h.elim
theorem OwnAll.snoc {w : World} {e : TypeId} {v : Value} {xs : List Int} {b : List Nat} (hv : OwnInts w e v xs b) : ∀ {vs : List Value} {xss : List (List Int)} {bs : List Nat}, OwnAll w e vs xss bs → OwnAll w e (vs ++ [v]) (xss ++ [xs]) (bs ++ b)
  | [], [], _, h => by have : _ = [] := h;subst this;exact ⟨b, [], hv, rfl, by simp⟩
  | _ :: _, _ :: _, _, ⟨b1, b2, h1, h2, rfl⟩ => ⟨b1, b2 ++ b, h1, h2.snoc hv, by simp⟩
  | [], _ :: _, _, h => h.elim
  | _ :: _, [], _, h => h.elim
theorem OwnAll.reads {w : World} {e : TypeId} {B : Nat} : ∀ {vs : List Value} {xss : List (List Int)} {bs : List Nat}, OwnAll w e vs xss bs → (∀ b ∈ bs, b < B) → AllR w B vs xss
  | [], [], _, _, _ => trivial
  | _ :: _, _ :: _, _, ⟨b1, b2, h1, h2, rfl⟩, hB => ⟨h1.reads fun b hb => hB b (by simp [hb]), h2.reads fun b hb => hB b (by simp [hb])⟩
  | [], _ :: _, _, h, _ => h.elim
  | _ :: _, [], _, h, _ => h.elim
def OwnRows (w : World) (es ei : TypeId) (v : Value) (xss : List (List Int)) (bs : List Nat) : Prop := ∃ vs b0 b1, OwnRow w es v vs b0 ∧ OwnAll w ei vs xss b1 ∧ bs = b0 ++ b1
theorem OwnRows.keep {w w' : World} {es ei : TypeId} {v : Value} {xss : List (List Int)} {bs : List Nat} (h : OwnRows w es ei v xss bs) (hk : ∀ b ∈ bs, w'.heap[b]? = w.heap[b]?) : OwnRows w' es ei v xss bs := by obtain ⟨vs, b0, b1, h1, h2, rfl⟩ := h;exact ⟨vs, b0, b1, h1.keep fun b hb => hk b (by simp [hb]), h2.keep fun b hb => hk b (by simp [hb]), rfl⟩
theorem OwnRows.isSlice {w : World} {es ei : TypeId} {v : Value} {xss : List (List Int)} {bs : List Nat} (h : OwnRows w es ei v xss bs) : ∃ A n c, v = .slice A n c := by obtain ⟨_, _, _, h1, _⟩ := h;exact h1.isSlice
theorem OwnRows.reads {w : World} {es ei : TypeId} {v : Value} {xss : List (List Int)} {bs : List Nat} (h : OwnRows w es ei v xss bs) {B : Nat} (hB : ∀ b ∈ bs, b < B) : RowsR w B v xss := by obtain ⟨vs, b0, b1, h1, h2, rfl⟩ := h;exact ⟨vs, h1.reads fun b hb => hB b (by simp [hb]), h2.reads fun b hb => hB b (by simp [hb])⟩
theorem heap_set_same {w : World} {g i : Nat} {cs : Array Value} {t : TypeId} {m : Nat × Nat} (h : w.heap[g]? = some (.cells cs t m)) (u : Value) : (w.setCell ⟨g, i, none⟩ u).heap[g]? = some (.cells (cs.setIfInBounds i u) t m) := by simp [World.setCell, Array.getElem?_modify, h]
theorem size_setCell (w : World) (p : Addr) (u : Value) : (w.setCell p u).heap.size = w.heap.size := by simp [World.setCell]
/-! ### Rows that are made and filled -/
def rowOf (done : List Value) (n : Nat) (z : Value) : Array Value := (done ++ List.replicate (n - done.length) z).toArray
theorem rowOf_nil (n : Nat) (z : Value) : rowOf [] n z = madeCells #[z] n := by
  apply Array.ext
  · simp [rowOf, madeCells]
  · intro i h1 h2
    simp [rowOf, madeCells, Nat.mod_one]
theorem rowOf_next {done : List Value} {n : Nat} {z : Value} (h : done.length < n) : (rowOf done n z)[done.length]? = some z := by unfold rowOf;rw [List.getElem?_toArray, List.getElem?_append_right (Nat.le_refl _), Nat.sub_self, List.getElem?_replicate, if_pos (by omega)]
theorem rowOf_set {done : List Value} {n : Nat} {z : Value} (h : done.length < n) (x : Value) : (rowOf done n z).setIfInBounds done.length x = rowOf (done ++ [x]) n z := by
  unfold rowOf;obtain ⟨m, hm⟩ : ∃ m, n - done.length = m + 1 := ⟨n - done.length - 1, by omega⟩
  rw [hm, show n - (done ++ [x]).length = m by simp; omega, List.replicate_succ, List.setIfInBounds_toArray];simp
theorem rowOf_full (done : List Value) (z : Value) : rowOf done done.length z = done.toArray := by simp [rowOf]
theorem run_make1 {P : Program} (t e : TypeId) (z : Value) (bytes : Nat) (ht : P.underlying t = some (.slice e)) (hinf : (P.info? e).map (fun i => (i.zero, i.size, i.bytes)) = some (some z, 1, bytes)) (hz : z.cells = #[z]) (n : Nat)
    (hb : bytes * n ≤ 281474976710656) (h63 : n ≤ 9223372036854775807) (w : World) :
    (Instr.makeSlice t (.int .i64 (n : Int)) (.int .i64 (n : Int))).run P w = .ok (.slice (some ⟨w.heap.size, 0, none⟩) n n) (w.alloc (.cells (rowOf [] n z) e)) := by
  obtain ⟨i, hi, hz0, hz1, hz2⟩ := info_parts hinf;have hb' : (i.bytes : Int) * (n : Int) ≤ 281474976710656 := by
    rw [hz2];have h : ((bytes * n : Nat) : Int) ≤ 281474976710656 := by omega
    rwa [Int.natCast_mul] at h
  have hr := run_make (P := P) w t e i z ht hi hz0 .i64 .i64 n n (by omega) (by omega) hb' (by omega);simp only [Int.toNat_natCast] at hr;rw [hr, rowOf_nil, hz, hz1, Nat.mul_one]
end Go.Proofs.YtjklbjmdgiddcaaGreat
namespace Go.Proofs.YtjklbjmdgiddcaaGreat
open Go.ChangeShapes Go.WideShapes Go.ChangeAt Go.RowKit
set_option linter.all false
theorem spec_l1In (n lo hi : Int) (w : World) :
    Calls Tryz.prog 93 #[.int .i64 n, .int .i64 lo, .int .i64 hi] w fun e w' => e = .returned (.bool (inB n lo hi)) ∧ w = w' := by
  by_cases h1 : lo ≤ n
  · by_cases h2 : n ≤ hi
    · go_enter Tryz.func93, Tryz.ntmps93
      go_wp2;go_ret;exact ⟨ret_bool (by first | rw [inB_t (by omega)] | rw [inB_f (by omega)]), rfl⟩
    · go_enter Tryz.func93, Tryz.ntmps93
      go_wp2;go_ret;exact ⟨ret_bool (by rw [inB_f (by omega)]), rfl⟩
  · go_enter Tryz.func93, Tryz.ntmps93
    go_wp2;go_ret;exact ⟨ret_bool (by rw [inB_f (by omega)]), rfl⟩
theorem impl_within (n lo hi : Int) (w : World) :
    Calls Tryz.prog 94 #[.int .i64 n, .int .i64 lo, .int .i64 hi] w fun e w' => e = .returned (.bool (inB n lo hi)) ∧ w = w' := by
  by_cases h1 : lo ≤ n
  · by_cases h2 : n ≤ hi
    · go_enter Tryz.func94, Tryz.ntmps94
      go_wp2;go_ret;exact ⟨ret_bool (by first | rw [inB_t (by omega)] | rw [inB_f (by omega)]), rfl⟩
    · go_enter Tryz.func94, Tryz.ntmps94
      go_wp2;go_ret;exact ⟨ret_bool (by first | rw [inB_t (by omega)] | rw [inB_f (by omega)]), rfl⟩
  · go_enter Tryz.func94, Tryz.ntmps94
    go_wp2;go_ret;exact ⟨ret_bool (by rw [inB_f (by omega)]), rfl⟩
end Go.Proofs.YtjklbjmdgiddcaaGreat
namespace Go.Proofs.YtjklbjmdgiddcaaGreat
open Go.RowKit
set_option linter.all false
def allB (xs : List Int) (lo hi : Int) : Bool := xs.all fun x => inB x lo hi
theorem allB_t {xs : List Int} {lo hi : Int} (h : ∀ x ∈ xs, inB x lo hi = true) : allB xs lo hi = true := by unfold allB; exact List.all_eq_true.2 h
theorem allB_f {xs : List Int} {lo hi : Int} {k : Nat} {x : Int} (h : xs[k]? = some x) (hx : inB x lo hi = false) : allB xs lo hi = false := by unfold allB;rw [List.all_eq_false];exact ⟨x, aN h, by simp [hx]⟩
theorem allB_iff {xs : List Int} {lo hi : Int} : allB xs lo hi = true ↔ ∀ x ∈ xs, lo ≤ x ∧ x ≤ hi := by unfold allB inB;simp
def UptoB (p : Int → Bool) (xs : List Int) (k : Nat) : Prop := ∀ j x, j < k → xs[j]? = some x → p x = true
theorem UptoB.next {p : Int → Bool} {xs : List Int} {k : Nat} {x : Int} (h : UptoB p xs k) (hx : xs[k]? = some x) (hp : p x = true) : UptoB p xs (k + 1) := by
  intro j y hj hy;by_cases e : j = k
  · subst e; rw [hx] at hy; cases hy; exact hp
  · exact h j y (by omega) hy
theorem UptoB.all {p : Int → Bool} {xs : List Int} {k : Nat} (h : UptoB p xs k) (hk : xs.length ≤ k) : ∀ x ∈ xs, p x = true := by intro x hx;obtain ⟨j, hj⟩ := List.mem_iff_getElem?.1 hx;exact h j x (by have := (aB.1 hj).1; omega) hj
def AllRel (p : Int → Bool) (xs : List Int) (w : World) (i : Value) (wr : World) : Prop := w = wr ∧ ∃ k : Nat, k ≤ xs.length ∧ i = .int .i64 k ∧ UptoB p xs k
theorem spec_l1All (v : Value) (xs : List Int) (lo hi : Int) (w : World) (h : IntsR w w.heap.size v xs) :
    Calls Tryz.prog 72 #[v, .int .i64 lo, .int .i64 hi] w fun e w' => e = .returned (.bool (allB xs lo hi)) ∧ w = w' := by
  obtain ⟨A, c, rfl, h1, h2, h3⟩ := h.open_;unfold maxLen at h2;clear h;go_enter Tryz.func72, Tryz.ntmps72;go_wp2_with fail;go_loopw [11, 8] (fun i x wr => AllRel (fun x => inB x lo hi) xs w i wr) (fun i _ _ => xs.length - (intOf i).toNat)
  case atStart => exact ⟨rfl, 0, Nat.zero_le _, rfl, fun _ _ h => absurd h (by omega)⟩
  case round =>
    obtain ⟨rfl, k, hk, rfl, hup⟩ := hrel;have HU := aA hup; clear hup;by_cases hlt : k < xs.length
    · obtain ⟨x, hx⟩ : ∃ x, xs[k]? = some x := ⟨xs[k], aC hlt⟩
      obtain ⟨ad, rfl, hb, hc⟩ := h3 (by omega);have hcell := hc k x hx;have HX := aA hx;clear h3 hc hx;cases hp : inB x lo hi with
      | true =>
        go_wp2_with (go_at_call 93; refine (spec_l1In _ _ _ _).mono ?_; rintro e w' ⟨rfl, rfl⟩)
        go_roundw
        case rel => exact ⟨rfl, k + 1, by omega, by go_num, HU.out.next HX.out hp⟩
        case measure => simp [intOf]; omega
      | false =>
        go_wp2_with (go_at_call 93; refine (spec_l1In _ _ _ _).mono ?_; rintro e w' ⟨rfl, rfl⟩)
        go_ret;exact ⟨ret_bool (allB_f HX.out hp).symm, rfl⟩
    · go_wp2
      go_ret;exact ⟨ret_bool (allB_t (HU.out.all (by omega))).symm, rfl⟩
end Go.Proofs.YtjklbjmdgiddcaaGreat
namespace Go.Proofs.YtjklbjmdgiddcaaGreat
open Go.RowKit
set_option linter.all false
theorem wpList_append1 {P : Program} (w : World) {ops : Array Oper} {rest : List Oper} {o : Oper} {a : Act} {Q : Exit → Act → World → Prop} (hgd : o.guard = none) (s x : Operand) (t : TypeId)
  (ho : o.op = .call { callee := .builtin .append, args := #[s, x], argTypes := #[t, t] })
  (base : Nat) (e : TypeId) (z : Value) (bytes : Nat) (ht : P.underlying t = some (.slice e)) (hinf : (P.info? e).map (fun i => (i.zero, i.size, i.bytes)) = some (some z, 1, bytes)) (hzs : z.cells.size = 1)
  (v : Value) (n : Nat) (xs : List Value) (hs : a.eval s = v) (u : Value) (hu : u.oneCell' = true) (hx : a.eval x = .slice (some ⟨w.heap.size, 0, none⟩) 1 1)
  (hown : w.ownsRow base e 1 v n xs) (h63 : n + 1 ≤ maxLen) (hbytes : (n + 1) * bytes ≤ 140737488355328) (hbase : base ≤ w.heap.size)
  (h : ∀ v' w', w'.ownsRow base e 1 v' (n + 1) (xs ++ [u]) → Below base w w' → w.grownBy w' v.ownBlock → w.heap.size < w'.heap.size → (v'.ownBlock = v.ownBlock ∨ ∃ g, v'.ownBlock = some g ∧ w.heap.size ≤ g ∧ g < w'.heap.size) → wpList P ops Q rest (a.put o.dst v') w') :
  wpList P ops Q (o :: rest) a (w.alloc (.cells #[u] e)) := by
 obtain ⟨i, hi, hz0, hz1, hz2⟩ := info_parts hinf;have hown1 := hown.alloc (.cells #[u] e);have hcell : (w.alloc (.cells #[u] e)).cell? ⟨w.heap.size, 0, none⟩ = some u := by rw [World.cell?_alloc_at _ _ _ _ rfl]; rfl
 have hnews : ∀ j u', ([u] : List Value)[j]? = some u' → (w.alloc (.cells #[u] e)).cell? ((⟨w.heap.size, 0, none⟩ : Addr).add j) = some u' := by
  intro j u' hj
  match j, hj with
  | 0, hj =>
   have : u = u' := by simpa using hj
   subst this;exact hcell
 obtain ⟨v', w', hrun, h2, h3, _, h5⟩ := run_append_own_at (P := P) (w.alloc (.cells #[u] e)) base t o.type e i z 1 bytes ht hi hz0 hz1 hz2 hzs (by decide) v n xs hown1 ⟨w.heap.size, 0, none⟩ 1 1 [u] rfl hnews
  (by intro u' hu'; obtain rfl : u' = u := (by simpa using hu'); exact hu) h63 hbytes (by simp; omega)
 have hg : w.grownBy w' v.ownBlock := by have h0 := World.grownBy_alloc w (.cells #[u] e) v.ownBlock;exact ⟨h3.os.trans h0.os, h3.tape.trans h0.tape, h3.output.trans h0.output, Nat.le_trans h0.size h3.size, fun k hk hne => (h3.block k (aF hk h0.size) hne).trans (h0.block k hk hne)⟩
 have hsz : w.heap.size < w'.heap.size := by have := h3.size; simp at this; omega
 have hB : Below base w w' := (Below.refl base w).grown hg hbase (fun k hk => (hown.lt k hk).1);refine wpList_plain hgd fun K hK => ?_
 unfold Oper.wp execOp;simp only [ho, resolve, invoke, builtin, Sem.run_bind, Sem.run_pure, Result.andThen_ok, List.map_toArray, List.map_cons, List.map_nil, hs, hx, hrun];refine hK _ _ (h v' w' h2 hB hg hsz ?_);rcases h5 with h5 | h5
 · exact .inl h5
 · refine .inr ⟨_, h5, by simp, ?_⟩;exact (h2.lt _ h5).2
end Go.Proofs.YtjklbjmdgiddcaaGreat
namespace Go.Proofs.YtjklbjmdgiddcaaGreat
open Go.RowKit
set_option linter.all false
theorem sz_IntS (A : Option Addr) (n c : Nat) (left : Int) (w : World) (hn : n ≤ maxLen) (hl : 0 ≤ left) (hl' : left ≤ 1048576) :
    Calls Tryz.prog 31 #[.slice A n c, .int .i64 left] w fun e w' => e = .returned (.int .i64 (szR left n)) ∧ w = w' := by
  unfold maxLen at hn;go_enter Tryz.func31, Tryz.ntmps31;go_wp2
  all_goals
    go_ret;exact ⟨ret_int (by unfold szR; split <;> omega), rfl⟩
def lens : List (List Int) → Nat
  | [] => 0
  | xs :: r => xs.length + lens r
def szRows (xss : List (List Int)) : Nat := xss.length + lens xss
theorem lens_append : ∀ (a b : List (List Int)), lens (a ++ b) = lens a + lens b
  | [], b => by simp [lens]
  | x :: a, b => by simp [lens, lens_append a b]; omega
theorem lens_snoc (xss : List (List Int)) (k : Nat) (xs : List Int) (h : xss[k]? = some xs) : lens (xss.take (k + 1)) = lens (xss.take k) + xs.length := by obtain ⟨hk, rfl⟩ := aB.1 h;rw [List.take_succ_eq_append_getElem hk, lens_append];rfl
theorem lens_split (xss : List (List Int)) (k : Nat) : lens xss = lens (xss.take k) + lens (xss.drop k) := by rw [← lens_append, List.take_append_drop]
theorem lens_all (xss : List (List Int)) (k : Nat) (h : xss.length ≤ k) : lens (xss.take k) = lens xss := by rw [List.take_of_length_le h]
def SzRel (xss : List (List Int)) (left : Int) (w : World) (l i : Value) (wr : World) : Prop :=
  w = wr ∧ ∃ (k q : Nat), k ≤ xss.length ∧ q = lens (xss.take k) ∧ i = .int .i64 k ∧ l = .int .i64 (left - xss.length - q) ∧ (q : Int) ≤ left - xss.length
theorem sz_IntSS (v : Value) (xss : List (List Int)) (left : Int) (w : World) (h : RowsR w w.heap.size v xss) (hl : 0 ≤ left) (hl' : left ≤ 1048576) :
  Calls Tryz.prog 29 #[v, .int .i64 left] w fun e w' => e = .returned (.int .i64 (szR left (szRows xss))) ∧ w = w' := by
 obtain ⟨A, c, rfl, h1, h2, h3⟩ := h.open_;have hL : xss.length ≤ 9223372036854775807 := by unfold maxLen at h2; omega
 clear h2 h;by_cases hs : (xss.length : Int) ≤ left
 ·
  go_enter Tryz.func29, Tryz.ntmps29;go_wp2;go_loopw [1, 5] (fun l i wr => SzRel xss left w l i wr) (fun _ i _ => xss.length - (intOf i).toNat)
  case atStart => exact ⟨rfl, 0, 0, Nat.zero_le _, rfl, rfl, by simp, by omega⟩
  case round =>
   obtain ⟨rfl, k, q, hk, hq, rfl, rfl, hle⟩ := hrel;have HQ := aA hq; clear hq;by_cases hlt : k < xss.length
   ·
    obtain ⟨xs, hxs⟩ : ∃ xs, xss[k]? = some xs := ⟨xss[k], aC hlt⟩
    obtain ⟨ad, rfl, hb, hc⟩ := h3 (by omega);obtain ⟨u, hu, hr⟩ := hc k xs hxs;obtain ⟨A', c', rfl, g1, g2, -⟩ := hr.open_;have HS := aA (lens_snoc xss k xs hxs);have HT := aA (lens_split xss (k + 1));clear h3 hc hr hxs;by_cases hx : (xs.length : Int) ≤ left - xss.length - q
    ·
     have h5 : szR (left - xss.length - q) xs.length = left - xss.length - q - xs.length := by unfold szR; rw [if_pos hx]
     go_wp2_with (go_at_call 31; refine (sz_IntS A' xs.length c' _ _ (by omega) (by omega) (by omega)).mono ?_; rintro e w' ⟨rfl, rfl⟩; rw [h5])
     go_roundw
     case rel => exact ⟨rfl, k + 1, q + xs.length, by omega, by rw [HS.out, HQ.out], by go_num, by go_num, by omega⟩
     case measure => simp [intOf]; omega
    ·
     have h5 : szR (left - xss.length - q) xs.length = -1 := by unfold szR; rw [if_neg hx]
     go_wp2_with (go_at_call 31; refine (sz_IntS A' xs.length c' _ _ (by omega) (by omega) (by omega)).mono ?_; rintro e w' ⟨rfl, rfl⟩; rw [h5])
     go_ret;have h6 := HT.out;have h7 := HS.out;have h8 := HQ.out;exact ⟨ret_int (by unfold szR szRows; rw [if_neg (by omega)]), rfl⟩
   · go_wp2;go_ret;have h6 := lens_all xss k (by omega);have h8 := HQ.out;exact ⟨ret_int (by unfold szR szRows; rw [if_pos (by omega)]; omega), rfl⟩
 · have H := aA (show szR left (szRows xss) = -1 by unfold szR szRows; rw [if_neg (by omega)]);go_enter Tryz.func29, Tryz.ntmps29;go_wp2;go_ret;exact ⟨ret_int H.out.symm, rfl⟩
/-! ### Copies -/
theorem intInfo : (Tryz.prog.info? 3).map (fun i => (i.zero, i.size, i.bytes)) = some (some (.int .i64 0), 1, 8) := by kernel_rfl
def ToRel (xs : List Int) (w : World) (i : Value) (wr : World) : Prop := ∃ k : Nat, k ≤ xs.length ∧ i = .int .i64 k ∧ wr = w.alloc (.cells (rowOf ((xs.take k).map intV) xs.length (.int .i64 0)) 3)
theorem to_IntS (v : Value) (xs : List Int) (w : World) (h : IntsR w w.heap.size v xs) (hn : xs.length ≤ 1048576) :
  Calls Tryz.prog 39 #[v] w fun e w' => e = .returned (.slice (some ⟨w.heap.size, 0, none⟩) xs.length xs.length) ∧ w' = w.alloc (.cells (xs.map intV).toArray 3) := by
 obtain ⟨A, c, rfl, h1, h2, h3⟩ := h.open_;have hmk := fun W => run_make1 (P := Tryz.prog) 24 3 (.int .i64 0) 8 Tryz.underlying24 intInfo rfl xs.length (by omega) (by omega) W
 go_enter Tryz.func39, Tryz.ntmps39;go_wp2;clear hmk;go_loopw [4] (fun i wr => ToRel xs w i wr) (fun i _ => xs.length - (intOf i).toNat)
 case atStart => exact ⟨0, Nat.zero_le _, rfl, by simp⟩
 case round =>
  obtain ⟨k, hk, rfl, rfl⟩ := hrel;by_cases hlt : k < xs.length
  ·
   obtain ⟨x, hx⟩ : ∃ x, xs[k]? = some x := ⟨xs[k], aC hlt⟩
   obtain ⟨ad, rfl, hb, hc⟩ := h3 (by omega);have hcell := hc k x hx;clear h3 hc;have hlen : ((xs.take k).map intV).length = k := by simp; omega
   have HN := aA (show (xs.take (k + 1)).map intV = (xs.take k).map intV ++ [.int .i64 x] by
    obtain ⟨hk', rfl⟩ := aB.1 hx
    rw [List.take_succ_eq_append_getElem hk', List.map_append]; rfl)
   clear hx;generalize (xs.take k).map intV = done at *;have hset := aA (rowOf_set (done := done) (n := xs.length) (z := .int .i64 0) (by omega) (.int .i64 x));have hnext := rowOf_next (done := done) (n := xs.length) (z := .int .i64 0) (by omega);obtain rfl := hlen;generalize rowOf done xs.length (.int .i64 0) = C at *;have hcell2 : (w.alloc (.cells C 3)).cell? ⟨w.heap.size, done.length, none⟩ = some (.int .i64 0) := by rw [World.cell?_alloc_at _ _ _ _ rfl]; exact hnext
   have hcell1 : (w.alloc (.cells C 3)).cell? (ad.add done.length) = some (.int .i64 x) := (World.cell?_alloc_lt w _ _ (by rw [block_add]; exact hb)).trans hcell;clear hnext hcell;go_wp2;go_roundw
   case rel => exact ⟨done.length + 1, by omega, by go_num, by rw [HN.out, ← hset.out]⟩
   case measure => simp [intOf]; omega
  · have e1 : xs.take k = xs := List.take_of_length_le (by omega);have e2 := rowOf_full (xs.map intV) (.int .i64 0);rw [List.length_map] at e2;rw [e1, e2];clear e1 e2;go_wp2;go_ret;exact ⟨rfl, rfl⟩
/-! ### Copies of lists of lists -/
theorem sliceInfo : (Tryz.prog.info? 24).map (fun i => (i.zero, i.size, i.bytes)) = some (some (.slice none 0 0), 1, 24) := by kernel_rfl
def TosRel (xss : List (List Int)) (w : World) (i : Value) (wr : World) : Prop :=
  ∃ (k : Nat) (vs : List Value) (bs : List Nat), k ≤ xss.length ∧ i = .int .i64 k ∧ vs.length = k ∧ wr.heap[w.heap.size]? = some (.cells (rowOf vs xss.length (.slice none 0 0)) 24 (0, 0)) ∧
    OwnAll wr 3 vs (xss.take k) bs ∧ bs.Nodup ∧ (∀ b ∈ bs, w.heap.size < b ∧ b < wr.heap.size) ∧ Below w.heap.size w wr
theorem to_IntSS (v : Value) (xss : List (List Int)) (w : World) (h : RowsR w w.heap.size v xss) (hn : szRows xss ≤ 1048576) :
  Calls Tryz.prog 37 #[v] w fun e w' => ∃ v' bs, e = .returned v' ∧ OwnRows w' 24 3 v' xss bs ∧ bs.Nodup ∧ (∀ b ∈ bs, w.heap.size ≤ b ∧ b < w'.heap.size) ∧ Below w.heap.size w w' := by
 obtain ⟨A, c, rfl, h1, h2, h3⟩ := h.open_;have hn' : xss.length ≤ 1048576 := by unfold szRows at hn; omega
 have hmk := fun W => run_make1 (P := Tryz.prog) 22 24 (.slice none 0 0) 24 Tryz.underlying22 sliceInfo rfl xss.length (by omega) (by omega) W
 go_enter Tryz.func37, Tryz.ntmps37;go_wp2;clear hmk;go_loopw [4] (fun i wr => TosRel xss w i wr) (fun i _ => xss.length - (intOf i).toNat)
 case atStart => exact ⟨0, [], [], Nat.zero_le _, rfl, rfl, heap_alloc_new w _, rfl, List.nodup_nil, (fun _ hb => by cases hb), bl_alloc (Below.refl _ _) _⟩
 case round =>
  obtain ⟨k, vs, bs, hk, rfl, hvs, hblk, hown, hnd, hbs, hbl⟩ := hrel;have hsz := hbl.size;have hgt : w.heap.size < wr.heap.size := by
   rcases Nat.lt_or_ge w.heap.size wr.heap.size with h | h
   · exact h
   · rw [Array.getElem?_eq_none h] at hblk; cases hblk
  by_cases hlt : k < xss.length
  ·
   obtain ⟨xs, hxs⟩ : ∃ xs, xss[k]? = some xs := ⟨xss[k], aC hlt⟩
   obtain ⟨ad, rfl, hb, hc⟩ := h3 (by omega);obtain ⟨u, hu, hr⟩ := hc k xs hxs;have hcell : wr.cell? (ad.add k) = some u := (hbl.cell (p := ad.add k) (by rw [block_add]; exact hb)).trans hu;have hr' : IntsR wr wr.heap.size u xs := (hr.below hbl).more hsz;have hxl : xs.length ≤ 1048576 := by have := lens_snoc xss k xs hxs;have := lens_split xss (k + 1);unfold szRows at hn;omega
   clear h3 hc hr hu
   have HN := aA (show xss.take (k + 1) = xss.take k ++ [xs] by
    obtain ⟨hk', rfl⟩ := aB.1 hxs
    rw [List.take_succ_eq_append_getElem hk'])
   clear hxs;have HB := aA hblk; clear hblk;go_wp2_with fail;refine (to_IntS u xs wr hr' hxl).mono ?_;rintro e w1 ⟨rfl, hw1⟩;have hb1 : Below wr.heap.size wr w1 := by rw [hw1]; exact bl_alloc (Below.refl _ _) _
   have hblk1 : w1.heap[w.heap.size]? = some (.cells (rowOf vs xss.length (.slice none 0 0)) 24 (0, 0)) := (hb1.block _ hgt).trans HB.out;have hnew : OwnInts w1 3 (.slice (some ⟨wr.heap.size, 0, none⟩) xs.length xs.length) xs [wr.heap.size] := by refine ⟨.inr ⟨wr.heap.size, xs.length, (xs.map intV).toArray, by simp, by simp, by unfold maxLen; omega, ?_, by simp, List.take_of_length_le (by simp), rfl⟩, hr'.2⟩;rw [hw1]; exact heap_alloc_new wr _
   have hc1 : w1.cell? ⟨w.heap.size, k, none⟩ = some (.slice none 0 0) := by rw [cell_of_row w1 _ k _ _ (0, 0) hblk1, ← hvs];exact rowOf_next (by omega)
   have hf1 : w1.frozen? ⟨w.heap.size, k, none⟩ = false := by simp [World.frozen?, hblk1]
   have hown1 : OwnAll w1 3 (vs ++ [.slice (some ⟨wr.heap.size, 0, none⟩) xs.length xs.length]) (xss.take k ++ [xs]) (bs ++ [wr.heap.size]) :=
    (hown.keep fun b hb => hb1.block b (hbs b hb).2).snoc hnew
   have hs1 : wr.heap.size < w1.heap.size := by rw [hw1]; simp
   have HB1 := aA hblk1; clear hblk1;have HW := aA hw1; clear hw1;go_wp2_with fail;go_roundw
   case rel =>
    refine ⟨k + 1, vs ++ [.slice (some ⟨wr.heap.size, 0, none⟩) xs.length xs.length], bs ++ [wr.heap.size], by omega, by go_num, by simp [hvs], ?_, ?_, ?_, ?_, ?_⟩
    · rw [heap_set_same HB1.out];have := rowOf_set (done := vs) (n := xss.length) (z := .slice none 0 0) (by omega) (.slice (some ⟨wr.heap.size, 0, none⟩) xs.length xs.length);rw [hvs] at this;rw [this]
    ·
     rw [HN.out];refine hown1.keep fun b hb => Below.heap_setCell _ _ _ _ ?_
     intro e;rcases List.mem_append.1 hb with h | h
     · have := hbs b h; simp at e; omega
     · simp at h e; omega
    · rw [List.nodup_append];exact ⟨hnd, by simp, fun a ha b hb => by have := hbs a ha; simp at hb; omega⟩
    ·
     intro b hb;rw [size_setCell];rcases List.mem_append.1 hb with h | h
     · have := hbs b h; omega
     · simp at h; omega
    · exact (hbl.trans (hb1.mono hsz)).setCell (Nat.le_refl _) _
   case measure => simp [intOf]; omega
  ·
   have e1 : xss.take k = xss := List.take_of_length_le (by omega);rw [e1] at hown;have HB := aA hblk; clear hblk;go_wp2;go_ret;refine ⟨_, w.heap.size :: bs, rfl, ⟨vs, [w.heap.size], bs, .inr ⟨w.heap.size, xss.length, vs.toArray, ?_, by omega, by unfold maxLen; omega, ?_, by simp; omega, List.take_of_length_le (by simp), rfl⟩, hown, rfl⟩, ?_, ?_, hbl⟩
   · rw [show vs.length = xss.length by omega]; rfl
   · rw [HB.out, show xss.length = vs.length by omega, rowOf_full]
   · rw [List.nodup_cons];exact ⟨fun h => by have := hbs _ h; omega, hnd⟩
   ·
    intro b hb;rcases List.mem_cons.1 hb with h | h
    · omega
    · have := hbs b h; omega
/-! ### Equality of what reads alike -/
def EqRel (n : Nat) (w : World) (i : Value) (wr : World) : Prop := ∃ k m : Nat, k ≤ n ∧ i = .int .i64 k ∧ wr = w.drewN m
theorem eq_IntS (v v' : Value) (xs : List Int) (w : World) (h : IntsR w w.heap.size v xs) (h' : IntsR w w.heap.size v' xs) :
    Calls Tryz.prog 46 #[v, v'] w fun e w' => e = .returned (.bool true) ∧ ∃ n, w' = w.drewN n := by
  obtain ⟨A, c, rfl, h1, h2, h3⟩ := h.open_;obtain ⟨A', c', rfl, h1', h2', h3'⟩ := h'.open_;unfold maxLen at h2;clear h h';go_enter Tryz.func46, Tryz.ntmps46;go_wp2;go_loopw [5] (fun i wr => EqRel xs.length w i wr) (fun i _ => xs.length - (intOf i).toNat)
  case atStart => exact ⟨0, 0, Nat.zero_le _, rfl, rfl⟩
  case round =>
    obtain ⟨k, m, hk, rfl, rfl⟩ := hrel;by_cases hlt : k < xs.length
    · obtain ⟨x, hx⟩ : ∃ x, xs[k]? = some x := ⟨xs[k], aC hlt⟩
      obtain ⟨ad, rfl, hb, hc⟩ := h3 (by omega);obtain ⟨ad', rfl, hb', hc'⟩ := h3' (by omega);have hcell : (w.drewN m).cell? (ad.add k) = some (.int .i64 x) := hc k x hx;have hcell' : (w.drewN m).cell? (ad'.add k) = some (.int .i64 x) := hc' k x hx;have k1 := hc k x hx;have k2 := hc' k x hx;clear h3 h3' hc hc' hx;go_wp2
      go_quiet (fail)
      go_wp2;go_roundw
      case rel => exact ⟨k + 1, m + nq, by omega, by go_num, rfl⟩
      case measure => simp [intOf]; omega
    · go_wp2
      go_ret;exact ⟨rfl, m, rfl⟩
theorem quiet_more {P : Program} {f : FuncId} {args : Array Value} {w : World} {a n : Nat} {v : Value}
    (h : Calls P f args (w.drewN (a + n)) fun e w' => e = .returned v ∧ ∃ m, w' = (w.drewN (a + n)).drewN m) :
    Calls P f args (w.drewN (a + n)) fun e w'' => e = .returned v ∧ ∃ m, w'' = w.drewN (a + m) :=
  h.mono fun _ _ ⟨he, m, hm⟩ => ⟨he, n + m, by rw [hm, World.drewN_drewN, Nat.add_assoc]⟩
theorem eq_IntSS (v v' : Value) (xss : List (List Int)) (w : World) (h : RowsR w w.heap.size v xss) (h' : RowsR w w.heap.size v' xss) :
    Calls Tryz.prog 47 #[v, v'] w fun e w' => e = .returned (.bool true) ∧ ∃ n, w' = w.drewN n := by
  obtain ⟨A, c, rfl, h1, h2, h3⟩ := h.open_;obtain ⟨A', c', rfl, h1', h2', h3'⟩ := h'.open_;unfold maxLen at h2;clear h h';go_enter Tryz.func47, Tryz.ntmps47;go_wp2;go_loopw [5] (fun i wr => EqRel xss.length w i wr) (fun i _ => xss.length - (intOf i).toNat)
  case atStart => exact ⟨0, 0, Nat.zero_le _, rfl, rfl⟩
  case round =>
    obtain ⟨k, m, hk, rfl, rfl⟩ := hrel;by_cases hlt : k < xss.length
    · obtain ⟨xs, hx⟩ : ∃ x, xss[k]? = some x := ⟨xss[k], aC hlt⟩
      obtain ⟨ad, rfl, hb, hc⟩ := h3 (by omega);obtain ⟨ad', rfl, hb', hc'⟩ := h3' (by omega);obtain ⟨u, k1, hr⟩ := hc k xs hx;obtain ⟨u', k2, hr'⟩ := hc' k xs hx;have hcell : (w.drewN m).cell? (ad.add k) = some u := k1;have hcell' : (w.drewN m).cell? (ad'.add k) = some u' := k2;have HR := aA hr; clear hr;have HR' := aA hr'; clear hr';clear h3 h3' hc hc' hx;go_wp2
      go_quiet ((go_at_call 46; exact quiet_more (eq_IntS u u' xs _ HR.out HR'.out)))
      go_wp2;go_roundw
      case rel => exact ⟨k + 1, m + nq, by omega, by go_num, rfl⟩
      case measure => simp [intOf]; omega
    · go_wp2
      go_ret;exact ⟨rfl, m, rfl⟩
end Go.Proofs.YtjklbjmdgiddcaaGreat
