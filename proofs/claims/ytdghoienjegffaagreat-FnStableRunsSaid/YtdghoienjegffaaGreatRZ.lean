/-
  Small lemmas and contracts that the texts of this claim share. No condition.
-/
import Derived.Below
import Derived.ChangeSame
import Derived.ProofKit
import Derived.Carry
import Derived.Deep.Draws
import Derived.OpenShut
import Derived.Laws.Rows
import Derived.Lib.Hide
import Derived.WalkKit
import Derived.Deep.RegionHeld3
import Derived.LaidMore
import Derived.HandedShaped
import Derived.Stop.Joined
import Derived.Deep.AppendLies
import Derived.Laws.MakeOwn
import Derived.Laws.AppendOwn
import Derived.Maps.AppendAt
import Derived.Test.YtdghoienjegffaaGreatRows
import Derived.WalkSpells
import Derived.WalkLawsBesides
import Derived.Deep.LoopGhost
import Derived.Deep.QuietTactic
import Derived.BigQuiet
import Derived.IntWalk
import Derived.Laws.StructEq
import Derived.Shelf.Sort.Plain
import Derived.Shelf.Bits.Mul64
import Derived.Shelf.Slices.Turned
import Derived.Ground.Names2Prog
import Derived.Shelf.Slices.Clone
import Derived.Shelf.Slices.In.SortNone
import Derived.Test.YtdghoienjegffaaGreatProg
import Derived.Lib.OwnBridge
import Derived.Laws.OwnMore
import Derived.Laws.IdiomCopy
import Derived.Laws.CopyRow
import Derived.Laws.NewBlocks
import Derived.Lib.SliceRun
import Derived.Lib.Overlaps
import Derived.Laws.CopyOwn
import Derived.Deep.RegionLaw
import Derived.ArgAppend
namespace Go.Proofs.YtdghoienjegffaaGreat
open Go.RowKit Go.WideShapes Go.ChangeShapes
set_option linter.all false
theorem ret_int {k : IntKind} {a b : Int} (h : a = b) : Ending.returned (.int k a) = .returned (.int k b) := by rw [h]
theorem ret_bool {a b : Bool} (h : a = b) : Ending.returned (.bool a) = .returned (.bool b) := by rw [h]
theorem bl_alloc {w x : World} (h : Below w.heap.size w x) (o : Obj) : Below w.heap.size w (x.alloc o) := h.alloc h.size o
theorem bl_trans {w x y : World} (h : Below w.heap.size w x) (k : Below x.heap.size x y) : Below w.heap.size w y := h.trans (k.mono h.size)
theorem bl_drewN {B : Nat} {a w : World} (h : Below B a w) (n : Nat) : Below B a (w.drewN n) := ⟨h.os, h.tape, h.output, h.size, h.block⟩
theorem bx {B : Nat} {W w1 : World} (b : Nat) (hb : Below B W w1) (h : b < B) : (∀ o, w1.cell? ⟨b, o, none⟩ = W.cell? ⟨b, o, none⟩) ∧ (∀ o, w1.frozen? ⟨b, o, none⟩ = W.frozen? ⟨b, o, none⟩) :=
  ⟨fun o => hb.cell (p := ⟨b, o, none⟩) h, fun o => hb.frozen (p := ⟨b, o, none⟩) h⟩
def inB (n lo hi : Int) : Bool := decide (lo ≤ n ∧ n ≤ hi)
theorem inB_t {n lo hi : Int} (h : lo ≤ n ∧ n ≤ hi) : inB n lo hi = true := by unfold inB; exact decide_eq_true h
theorem inB_f {n lo hi : Int} (h : ¬ (lo ≤ n ∧ n ≤ hi)) : inB n lo hi = false := by unfold inB; exact decide_eq_false h
noncomputable def propB (p : Prop) : Bool := @decide p (Classical.propDecidable p)
theorem propB_t {p : Prop} (h : p) : propB p = true := by unfold propB; exact @decide_eq_true p (Classical.propDecidable p) h
theorem propB_f {p : Prop} (h : ¬ p) : propB p = false := by unfold propB; exact @decide_eq_false p (Classical.propDecidable p) h
theorem propB_iff {p : Prop} : propB p = true ↔ p := by unfold propB; exact @decide_eq_true_iff p (Classical.propDecidable p)
theorem propB_congr {p q : Prop} (h : p ↔ q) : propB p = propB q := by rw [propext h]
section
variable {H : Type} {enc : TypeId × Value → H} {P : Program}
theorem trodAll_stays (hl : laidOutB P = true) {W W' : World} {sp' : Nat → Bool} :
    ∀ (ts : List TypeId) (vs : List Value) (ds : List (DataW H)) (ps : List MemPlace), (∀ t ∈ ts, P.readableRec t = true ∧ t < P.types.size) →
      DataW.TrodAll enc P W 0 (fun _ => true) true ts vs ds ps → (∀ p ∈ ps, W.sameAt W' p) → (∀ p ∈ ps, sp' p.block = true) → DataW.TrodAll enc P W' 0 sp' true ts vs ds ps
  | [], [], [], _, _, h, _, _ => h
  | t :: ts, v :: vs, d :: ds, ps, hr, h, h1, h2 => by
    obtain ⟨p, q, ha, hb, rfl⟩ := h
    exact ⟨p, q, WideElems.Trod_stays hl (hr t (by simp)).1 (hr t (by simp)).2 ha (fun x hx => h1 x (by simp [hx])) (fun x hx => h2 x (by simp [hx])),
      trodAll_stays hl ts vs ds q (fun t' ht' => hr t' (by simp [ht'])) hb (fun x hx => h1 x (by simp [hx])) (fun x hx => h2 x (by simp [hx])), rfl⟩
  | [], [], _ :: _, _, _, h, _, _ => h.elim
  | [], _ :: _, _, _, _, h, _, _ => h.elim
  | _ :: _, [], _, _, _, h, _, _ => h.elim
  | _ :: _, _ :: _, [], _, _, h, _, _ => h.elim
theorem post_law {f : Func} {s : ChangeSpec} {apart fresh handsOn again : Bool} {W W' : World} {args : Array Value} {ds gs : List (DataW H)} {before : List MemPlace} {tb : TypeId}
  (hl : laidOutB P = true) (hr0 : (f.params.toList.all fun t => P.readableRec t && decide (t < P.types.size)) = true) (hvars : s.vars = []) (hrt : f.resultTypes = #[tb]) (htb : P.underlying tb = some .bool)
  (hsp : s.fn H (ds ++ gs) = { results := [.lit (.bool true)], args := ds })
  (hW : DataW.Whole enc P f.params.toList s.vars apart W args.toList ds gs before) (hb : Below W.heap.size W W') :
  s.post enc P f apart fresh handsOn again W args (.bool true) W' := by
 have hr : ∀ t ∈ f.params.toList, P.readableRec t = true ∧ t < P.types.size := fun t ht => by have := List.all_eq_true.1 hr0 t ht;simpa using this
 have hlt : ∀ p ∈ before, p.block < W.heap.size := fun p hp => hW.lt p hp
 have hold : ∀ p ∈ before, (fun b => decide (b < W.heap.size)) p.block = true := fun p hp => by simpa using hlt p hp
 obtain ⟨p, q, hA, hV, hps, hz, hn⟩ := id hW;rw [hvars] at hV;obtain ⟨rfl, rfl⟩ := trodVars_none hV;have hps' : before = p := by simpa using hps
 subst hps';have hargs : ∀ sp : Nat → Bool, (∀ x ∈ before, sp x.block = true) → DataW.TrodAll enc P W' 0 sp true f.params.toList args.toList ds before :=
  fun sp hs => trodAll_stays hl _ _ _ _ hr hA (fun x hx => hb.same (hlt x hx)) hs
 have hres : ∀ (b : Nat) (sp : Nat → Bool) (hd : Bool), DataW.TrodAll enc P W' b sp hd f.resultTypes.toList ((Value.bool true).resultList f.resultTypes.size) [.lit (.bool true)] [] := by intro b sp hd;rw [hrt];exact trodAll_cons_mk (shut_bool htb _) trodAll_mk0
 have hv0 : ∀ sp : Nat → Bool, DataW.TrodVars enc P W' sp s.vars [] [] := fun sp => by rw [hvars]; rfl
 refine ⟨ds, [], before, [], before, [], hW, by rw [hsp]; exact hres _ _ _, by rw [hsp]; exact hargs _ hold, by rw [hsp]; exact hv0 _, World.keptBut_mono (fun x hx => ⟨hx, ?_⟩) (hb.frame (· ∈ before)), fun _ => ?_⟩
 · exact Or.inr (by simpa using hx)
 ·
  refine ⟨?_, _, _, ([] ++ before) ++ [], ⟨[] ++ before, [], trodAll_append (hargs _ (fun _ _ => rfl)) (hres _ _ _), hv0 _, rfl, ?_, ?_⟩, ?_⟩
  · exact ok_one hrt rfl (okWide_bool_mk htb _)
  ·
   intro b off hp;have hin : MemPlace.cell b off ∈ before := by simpa using hp
   rw [hb.frozen (hlt _ hin)];exact hz b off (by simpa using hin)
  · intro ha;simpa using hn ha
  · intro x hx _;simpa using hx
end
end Go.Proofs.YtdghoienjegffaaGreat
namespace Go.Proofs.YtdghoienjegffaaGreat
open Go.RowKit
set_option linter.all false
theorem cells2 {w : World} {b : Nat} {v0 v1 : Value} {t : TypeId} (H : Hid (w.heap[b]? = some (.cells #[v0, v1] t (0, 0)))) : w.cell? ⟨b, 0, none⟩ = some v0 ∧ w.cell? ⟨b, 1, none⟩ = some v1 ∧ ∀ i, w.frozen? ⟨b, i, none⟩ = false :=
  ⟨cell_of_row _ _ 0 _ _ (0, 0) H.out, cell_of_row _ _ 1 _ _ (0, 0) H.out, fun i => frozen_of_row _ _ i _ _ H.out⟩
theorem cells3 {w : World} {b : Nat} {v0 v1 v2 : Value} {t : TypeId} (H : Hid (w.heap[b]? = some (.cells #[v0, v1, v2] t (0, 0)))) : w.cell? ⟨b, 0, none⟩ = some v0 ∧ w.cell? ⟨b, 1, none⟩ = some v1 ∧ w.cell? ⟨b, 2, none⟩ = some v2 ∧ ∀ i, w.frozen? ⟨b, i, none⟩ = false :=
  ⟨cell_of_row _ _ 0 _ _ (0, 0) H.out, cell_of_row _ _ 1 _ _ (0, 0) H.out, cell_of_row _ _ 2 _ _ (0, 0) H.out, fun i => frozen_of_row _ _ i _ _ H.out⟩
theorem pu : (∀ (l : List Value) (i : Nat) (v : Value), l.toArray.setIfInBounds i v = (l.set i v).toArray) ∧ (∀ (x : Value) (l : List Value) (v : Value), (x :: l).set 0 v = v :: l) ∧ ∀ (x : Value) (l : List Value) (n : Nat) (v : Value), (x :: l).set (n + 1) v = x :: l.set n v :=
  ⟨fun l i v => List.setIfInBounds_toArray l i v, fun _ _ _ => rfl, fun _ _ _ _ => rfl⟩
theorem bk {w w' : World} {b B : Nat} {o : Option Obj} (H : Hid (w.heap[b]? = o)) (hb : Below B w w') (h : b < B := by omega) : Hid (w'.heap[b]? = o) := Lib.hid ((hb.block b h).trans H.out)
theorem tk {P : Program} {md : Region.Mode} {ops : Array Oper} {Q : Exit → Act → World → Prop} {S : World → Prop} {fuel : Nat} {listed : Array Bool} {a : Act} {w : World} (i d : Nat) {oi : Oper} {v : Value}
    (hi : ops.toList[i]? = some oi) (hd : oi.dst = some d)
    (h : wpAnyH P md ops Q S fuel (listed.setIfInBounds i true) (a.put (some d) v) w)
    (hy : ∀ w, S w → (execOp a.eval oi).run P w = .ok (.value v) w := by intro w hSw; (try dsimp only at hSw); go_simp <;> with_reducible rfl)
    (hs : Region.noSelect ops = true := by kernel_rfl) (hf : Region.free md ops listed i = true := by kernel_rfl) (hr : (Region.ready md ops listed).contains i = true := by kernel_rfl)
    (hQ : ∀ c a w, Q (.panic c) (a.put (some d) v) w → Q (.panic c) a w := by exact fun _ _ _ h => h) (hw : Region.wanted oi (yielded ops a.tmps) = true := by rfl) (hS : S w := by assumption) : wpAnyH P md ops Q S (fuel + 1) listed a w := by
  rw [← hd] at hQ h;exact wpAnyH_take (by rw [← Array.getElem?_toList]; exact hi) hs hf hr hQ (Or.inl ⟨hw, hy⟩) hS h
theorem tn {P : Program} {md : Region.Mode} {ops : Array Oper} {Q : Exit → Act → World → Prop} {S : World → Prop} {fuel : Nat} {listed : Array Bool} {a : Act} {w : World} (i d : Nat) {oi : Oper}
    (hi : ops.toList[i]? = some oi) (hd : oi.dst = some d)
    (h : wpAnyH P md ops Q S fuel (listed.setIfInBounds i true) (a.put (some d) undef) w)
    (hs : Region.noSelect ops = true := by kernel_rfl) (hf : Region.free md ops listed i = true := by kernel_rfl) (hr : (Region.ready md ops listed).contains i = true := by kernel_rfl)
    (hQ : ∀ c a w, Q (.panic c) (a.put (some d) undef) w → Q (.panic c) a w := by exact fun _ _ _ h => h) (hw : Region.wanted oi (yielded ops a.tmps) = false := by rfl) (hS : S w := by assumption) : wpAnyH P md ops Q S (fuel + 1) listed a w := by
  rw [← hd] at hQ h;exact wpAnyH_take (by rw [← Array.getElem?_toList]; exact hi) hs hf hr hQ (Or.inr ⟨hw, rfl⟩) hS h
theorem tr {P : Program} {md : Region.Mode} {ops : Array Oper} {Q : Exit → Act → World → Prop} {S : World → Prop} {fuel : Nat} {listed : Array Bool} {a : Act} {w : World} (i : Nat) {o : Oper}
    (hi : ops.toList[i]? = some o) (hr : Region.ready md ops listed = [i])
    (h : ∀ K' : Act → World → Prop, Shut (∀ a w, S w → (S w → wpAnyH P md ops Q S fuel (listed.setIfInBounds i true) a w) → K' a w) → if Region.wanted o (yielded ops a.tmps) = true then Oper.wp P o a w K' Q else K' (a.put o.dst undef) w) :
    wpAnyH P md ops Q S (fuel + 1) listed a w :=
  wpAnyH_ready hr (by simp) (AllReadyH.cons (by rw [← Array.getElem?_toList]; exact hi) h AllReadyH.nil)
end Go.Proofs.YtdghoienjegffaaGreat
namespace Go.Proofs.YtdghoienjegffaaGreat
open Go.RowKit
set_option linter.all false
section
variable {P : Program} {ops : Array Oper} {Q : Exit → Act → World → Prop} {md : Region.Mode} {S : World → Prop} {st : Nat}
def wpTill (P : Program) (md : Region.Mode) (ops : Array Oper) (Q : Exit → Act → World → Prop) (S : World → Prop) (st : Nat) : Nat → Array Bool → Act → World → Prop
  | 0, l, a, w => Region.ready md ops l = [] ∧ Q .normal a w
  | n + 1, l, a, w => (Region.ready md ops l = [] → Q .normal a w) ∧ ∀ i ∈ Region.ready md ops l, wpOp P ops Q i (fun b v => ((l.setIfInBounds i true).getD st true = false → S v) ∧ wpTill P md ops Q S st n (l.setIfInBounds i true) b v) a w
theorem wpTill.any : ∀ (n : Nat) (l : Array Bool) (a : Act) (w : World), wpTill P md ops Q S st n l a w → wpAny P md ops Q n l a w
  | 0, _, _, _, h => h
  | n + 1, _, _, _, h => ⟨h.1, fun i hi => wpOp_mono (fun b v h' => wpTill.any n _ b v h'.2) (h.2 i hi)⟩
theorem wpTill_first {i : Nat} {oi : Oper} {v : Value} (hi : ops[i]? = some oi) (hsel : ∀ (j : Nat) (o : Oper) cs b, ops[j]? = some o → o.op ≠ .select cs b)
  (hQ : ∀ c a w, Q (.panic c) (a.put oi.dst v) w → Q (.panic c) a w) (hne : st ≠ i) (hst : ∀ o, ops[st]? = some o → ∃ e ∈ o.after, Region.binds md e = true ∧ e.on = i) :
  ∀ (n : Nat) (l : Array Bool) (a : Act) (w : World),
   (∀ j oj, ops[j]? = some oj → j ≠ i → l.getD j true = false → (∀ e ∈ oj.after, Region.binds md e = true → e.on ≠ i) → oi.apart ops oj = true) →
   i ∈ Region.ready md ops l → l.getD st true = false → YieldsIf P ops S oi v a → S w →
   wpTill P md ops Q S st n (l.setIfInBounds i true) (a.put oi.dst v) w → wpTill P md ops Q S st (n + 1) l a w := by
 intro n;induction n with
 | zero =>
  intro l a w _ hr _ hy hS H;refine ⟨fun h => (by rw [h] at hr; cases hr), fun j hj => ?_⟩;by_cases hji : j = i
  · subst hji; exact hy.wpOp hi hS ⟨fun _ => hS, H⟩
  · have := ready_mono hj hji;rw [H.1] at this;cases this
 | succ n ih =>
  intro l a w hfree hr hl hy hS H;refine ⟨fun h => (by rw [h] at hr; cases hr), fun j hj => ?_⟩;by_cases hji : j = i
  · subst hji; exact hy.wpOp hi hS ⟨fun _ => hS, H⟩
  ·
   have h1 := H.2 j (ready_mono hj hji);obtain ⟨hjun, oj, hoj, hall⟩ := mem_ready.1 hj;have hiun : l.getD i true = false := (mem_ready.1 hr).1;have hnot : ∀ e ∈ oj.after, Region.binds md e = true → e.on ≠ i := fun e he hb heq => by
    have h1 := hall e he hb;have h0 := hiun;rw [heq] at h1;rcases Nat.lt_or_ge i l.size with h' | h'
    · simp [h'] at h0 h1; rw [h0] at h1; cases h1
    · simp [Array.getElem?_eq_none h'] at h1
   have hjst : j ≠ st := fun e => by subst e;obtain ⟨x, hx, hb, he⟩ := hst oj hoj;exact hnot x hx hb he
   have h2 := wpOp_putIf hoj (hfree j oj hoj hji hjun hnot) (fun cs b => hsel i oi cs b hi) (fun cs b => hsel j oj cs b hoj) hQ hy h1;have hfree' : ∀ k ok, ops[k]? = some ok → k ≠ i → (l.setIfInBounds j true).getD k true = false →
     (∀ e ∈ ok.after, Region.binds md e = true → e.on ≠ i) → oi.apart ops ok = true := fun k ok hk hki hun hno => by
    refine hfree k ok hk hki ?_ hno;by_cases hjk : j = k
    · subst hjk; exact hjun
    · rw [getD_set_ne true hjk] at hun; exact hun
   have hl' : (l.setIfInBounds j true).getD st true = false := by rw [getD_set_ne true hjst]; exact hl
   have hl2 : ((l.setIfInBounds i true).setIfInBounds j true).getD st true = false := by rw [getD_set_ne true hjst, getD_set_ne true (Ne.symm hne)]; exact hl
   refine wpOp_mono (fun a' w' h3 => ⟨fun _ => h3.2.1 hl2, ih (l.setIfInBounds j true) a' w' hfree' (ready_mono hr (Ne.symm hji)) hl' h3.1 (h3.2.1 hl2) ?_⟩) h2;rw [Array.setIfInBounds_comm _ _ hji];exact h3.2.2
theorem wpTill_free {i : Nat} {oi : Oper} {v : Value} (hi : ops[i]? = some oi) (hsel : ∀ (j : Nat) (o : Oper) cs b, ops[j]? = some o → o.op ≠ .select cs b)
  (hQ : ∀ c a w, Q (.panic c) (a.put oi.dst v) w → Q (.panic c) a w) (hne : st ≠ i) :
  ∀ (n : Nat) (l : Array Bool) (a : Act) (w : World),
   (∀ j oj, ops[j]? = some oj → j ≠ i → l.getD j true = false → (∀ e ∈ oj.after, Region.binds md e = true → e.on ≠ i) → oi.apart ops oj = true) →
   i ∈ Region.ready md ops l → YieldsIf P ops (fun _ => True) oi v a → (l.getD st true = false → S w) →
   wpTill P md ops Q S st n (l.setIfInBounds i true) (a.put oi.dst v) w → wpTill P md ops Q S st (n + 1) l a w := by
 intro n;induction n with
 | zero =>
  intro l a w _ hr hy hS H;refine ⟨fun h => (by rw [h] at hr; cases hr), fun j hj => ?_⟩;by_cases hji : j = i
  · subst hji; exact hy.wpOp hi trivial ⟨fun h => hS (by rwa [getD_set_ne true (Ne.symm hne)] at h), H⟩
  · have := ready_mono hj hji;rw [H.1] at this;cases this
 | succ n ih =>
  intro l a w hfree hr hy hS H;refine ⟨fun h => (by rw [h] at hr; cases hr), fun j hj => ?_⟩;by_cases hji : j = i
  · subst hji; exact hy.wpOp hi trivial ⟨fun h => hS (by rwa [getD_set_ne true (Ne.symm hne)] at h), H⟩
  ·
   have h1 := H.2 j (ready_mono hj hji);obtain ⟨hjun, oj, hoj, hall⟩ := mem_ready.1 hj;have hiun : l.getD i true = false := (mem_ready.1 hr).1;have hnot : ∀ e ∈ oj.after, Region.binds md e = true → e.on ≠ i := fun e he hb heq => by
    have h1 := hall e he hb;have h0 := hiun;rw [heq] at h1;rcases Nat.lt_or_ge i l.size with h' | h'
    · simp [h'] at h0 h1; rw [h0] at h1; cases h1
    · simp [Array.getElem?_eq_none h'] at h1
   have h2 := wpOp_putIf hoj (hfree j oj hoj hji hjun hnot) (fun cs b => hsel i oi cs b hi) (fun cs b => hsel j oj cs b hoj) hQ hy h1;have hfree' : ∀ k ok, ops[k]? = some ok → k ≠ i → (l.setIfInBounds j true).getD k true = false →
     (∀ e ∈ ok.after, Region.binds md e = true → e.on ≠ i) → oi.apart ops ok = true := fun k ok hk hki hun hno => by
    refine hfree k ok hk hki ?_ hno;by_cases hjk : j = k
    · subst hjk; exact hjun
    · rw [getD_set_ne true hjk] at hun; exact hun
   have hbit : (l.setIfInBounds j true).getD st true = false → ((l.setIfInBounds i true).setIfInBounds j true).getD st true = false := fun h => by rw [Array.setIfInBounds_comm _ _ (Ne.symm hji), getD_set_ne true (Ne.symm hne)];exact h
   refine wpOp_mono (fun a' w' h3 => ⟨fun h => h3.2.1 (hbit h), ih (l.setIfInBounds j true) a' w' hfree' (ready_mono hr (Ne.symm hji)) h3.1 (fun h => h3.2.1 (hbit h)) ?_⟩) h2;rw [Array.setIfInBounds_comm _ _ hji];exact h3.2.2
theorem wpTill_done {l : Array Bool} {a : Act} {w : World} (hr : Region.ready md ops l = []) (h : Q .normal a w) : ∀ n, wpTill P md ops Q S st n l a w
  | 0 => ⟨hr, h⟩
  | _ + 1 => ⟨fun _ => h, by rw [hr]; simp⟩
def waits (md : Region.Mode) (ops : Array Oper) (st i : Nat) : Bool := match ops[st]? with | some o => o.after.any fun e => Region.binds md e && e.on == i | none => true
theorem waits_spec {i : Nat} (h : waits md ops st i = true) : ∀ o, ops[st]? = some o → ∃ e ∈ o.after, Region.binds md e = true ∧ e.on = i := fun o ho => by unfold waits at h;rw [ho] at h;simp only [Array.any_eq_true, Bool.and_eq_true, beq_iff_eq] at h;obtain ⟨k, hk, h1, h2⟩ := h;exact ⟨_, Array.getElem_mem hk, h1, h2⟩
theorem uk {fuel : Nat} {listed : Array Bool} {a : Act} {w : World} (i d : Nat) {oi : Oper} {v : Value}
    (hi : ops.toList[i]? = some oi) (hd : oi.dst = some d)
    (h : wpTill P md ops Q S st fuel (listed.setIfInBounds i true) (a.put (some d) v) w)
    (hy : ∀ w, S w → (execOp a.eval oi).run P w = .ok (.value v) w := by intro w hSw; (try dsimp only at hSw); go_simp <;> with_reducible rfl)
    (hs : Region.noSelect ops = true := by kernel_rfl) (hf : Region.free md ops listed i = true := by kernel_rfl) (hr : (Region.ready md ops listed).contains i = true := by kernel_rfl)
    (hwt : waits md ops st i = true := by kernel_rfl) (hsi : (st == i) = false := by kernel_rfl) (hls : listed.getD st true = false := by kernel_rfl)
    (hQ : ∀ c a w, Q (.panic c) (a.put (some d) v) w → Q (.panic c) a w := by exact fun _ _ _ h => h) (hw : Region.wanted oi (yielded ops a.tmps) = true := by rfl) (hS : S w := by assumption) : wpTill P md ops Q S st (fuel + 1) listed a w := by
  rw [← hd] at hQ h;have hi' : ops[i]? = some oi := by rw [← Array.getElem?_toList]; exact hi
  exact wpTill_first hi' (Region.noSelect_spec hs) hQ (by simpa using hsi) (waits_spec hwt) fuel listed a w (Region.free_spec hi' hf) (by simpa using hr) hls (Or.inl ⟨hw, hy⟩) hS h
theorem till_over {l : Array Bool} {w : World} (h : l.getD st true = true) : l.getD st true = false → S w := fun h' => by rw [h] at h'; cases h'
theorem uf {fuel : Nat} {listed : Array Bool} {a : Act} {w : World} (i d : Nat) {oi : Oper} {v : Value}
    (hi : ops.toList[i]? = some oi) (hd : oi.dst = some d)
    (h : wpTill P md ops Q S st fuel (listed.setIfInBounds i true) (a.put (some d) v) w)
    (hy : ∀ w, (execOp a.eval oi).run P w = .ok (.value v) w := by intro w; go_simp <;> with_reducible rfl)
    (hs : Region.noSelect ops = true := by kernel_rfl) (hf : Region.free md ops listed i = true := by kernel_rfl) (hr : (Region.ready md ops listed).contains i = true := by kernel_rfl)
    (hsi : (st == i) = false := by kernel_rfl)
    (hQ : ∀ c a w, Q (.panic c) (a.put (some d) v) w → Q (.panic c) a w := by exact fun _ _ _ h => h) (hw : Region.wanted oi (yielded ops a.tmps) = true := by rfl)
    (hS : listed.getD st true = false → S w := by first | (intro _; assumption) | exact till_over (by kernel_rfl)) : wpTill P md ops Q S st (fuel + 1) listed a w := by
  rw [← hd] at hQ h;have hi' : ops[i]? = some oi := by rw [← Array.getElem?_toList]; exact hi
  exact wpTill_free hi' (Region.noSelect_spec hs) hQ (by simpa using hsi) fuel listed a w (Region.free_spec hi' hf) (by simpa using hr) (Or.inl ⟨hw, fun w _ => hy w⟩) hS h
theorem till_no {b : Bool} {p : Prop} (h' : b = false) (h : b = true) : p := by rw [h] at h'; cases h'
def TillK (P : Program) (md : Region.Mode) (ops : Array Oper) (Q : Exit → Act → World → Prop) (S : World → Prop) (st fuel : Nat) (listed : Array Bool) (i : Nat) (K' : Act → World → Prop) : Prop :=
  Shut (∀ a w, ((listed.setIfInBounds i true).getD st true = false → S w) → wpTill P md ops Q S st fuel (listed.setIfInBounds i true) a w → K' a w)
theorem ur {fuel : Nat} {listed : Array Bool} {a : Act} {w : World} (i : Nat) {o : Oper}
    (hi : ops.toList[i]? = some o) (hr : Region.ready md ops listed = [i])
    (h : ∀ K' : Act → World → Prop, TillK P md ops Q S st fuel listed i K' → if Region.wanted o (yielded ops a.tmps) = true then Oper.wp P o a w K' Q else K' (a.put o.dst undef) w) :
    wpTill P md ops Q S st (fuel + 1) listed a w := by
  refine ⟨fun h0 => (by rw [hr] at h0; cases h0), fun j hj => ?_⟩;rw [hr] at hj;obtain rfl := List.mem_singleton.1 hj;exact wpOp_step (by rw [← Array.getElem?_toList]; exact hi) fun K' hK => h K' (fun a w hS hW => hK a w ⟨hS, hW⟩)
theorem TillK.out {fuel i : Nat} {listed : Array Bool} {K' : Act → World → Prop} (h : TillK P md ops Q S st fuel listed i K') {a : Act} {w : World} (hS : (listed.setIfInBounds i true).getD st true = false → S w) (hW : wpTill P md ops Q S st fuel (listed.setIfInBounds i true) a w) : K' a w := h a w hS hW
theorem till_region {id : Nat} {a : Act} {w : World} (hm : P.follows .mixedOrders = true) (hS : S w.drew)
    (h : S w.drew → wpTill P .any ops Q S st ops.size (Array.replicate ops.size false) a w.drew) : (Code.region id ops true).wp P Q a w :=
  wp_region_any hm (wpTill.any _ _ _ _ (h hS))
end
end Go.Proofs.YtdghoienjegffaaGreat
namespace Go.Proofs.YtdghoienjegffaaGreat
open Go.RowKit
set_option linter.all false
theorem stk {P : Program} {md : Region.Mode} {ops : Array Oper} {Q : Exit → Act → World → Prop} {S : World → Prop} {fuel : Nat} {listed : Array Bool} {a a' : Act} {w : World} (i d : Nat) {oi : Oper} {v : Value}
    (h : wpAnyH P md ops Q S fuel (listed.setIfInBounds i true) a' w)
    (hi : ops.toList[i]? = some oi := by rfl) (hd : oi.dst = some d := by rfl)
    (hy : ∀ w, S w → (execOp a.eval oi).run P w = .ok (.value v) w := by intro w hSw; (try dsimp only at hSw); go_simp <;> with_reducible rfl)
    (hp : a.put (some d) v = a' := by (try simp only [Act.put, pu]); exact rfl)
    (hs : Region.noSelect ops = true := by kernel_rfl) (hf : Region.free md ops listed i = true := by kernel_rfl) (hr : (Region.ready md ops listed).contains i = true := by kernel_rfl)
    (hQ : ∀ c a w, Q (.panic c) (a.put (some d) v) w → Q (.panic c) a w := by exact fun _ _ _ h => h) (hw : Region.wanted oi (yielded ops a.tmps) = true := by rfl) (hS : S w := by first | assumption | trivial) : wpAnyH P md ops Q S (fuel + 1) listed a w :=
  tk i d hi hd (by rw [hp]; exact h) hy hs hf hr hQ hw hS
theorem stn {P : Program} {md : Region.Mode} {ops : Array Oper} {Q : Exit → Act → World → Prop} {S : World → Prop} {fuel : Nat} {listed : Array Bool} {a a' : Act} {w : World} (i d : Nat) {oi : Oper}
    (h : wpAnyH P md ops Q S fuel (listed.setIfInBounds i true) a' w)
    (hi : ops.toList[i]? = some oi := by rfl) (hd : oi.dst = some d := by rfl)
    (hp : a.put (some d) undef = a' := by (try simp only [Act.put, pu]); exact rfl)
    (hs : Region.noSelect ops = true := by kernel_rfl) (hf : Region.free md ops listed i = true := by kernel_rfl) (hr : (Region.ready md ops listed).contains i = true := by kernel_rfl)
    (hQ : ∀ c a w, Q (.panic c) (a.put (some d) undef) w → Q (.panic c) a w := by exact fun _ _ _ h => h) (hw : Region.wanted oi (yielded ops a.tmps) = false := by rfl) (hS : S w := by assumption) : wpAnyH P md ops Q S (fuel + 1) listed a w :=
  tn i d hi hd (by rw [hp]; exact h) hs hf hr hQ hw hS
section
variable {P : Program} {ops : Array Oper} {Q : Exit → Act → World → Prop} {md : Region.Mode} {S : World → Prop} {st : Nat}
theorem utk {fuel : Nat} {listed : Array Bool} {a a' : Act} {w : World} (i d : Nat) {oi : Oper} {v : Value}
    (h : wpTill P md ops Q S st fuel (listed.setIfInBounds i true) a' w)
    (hi : ops.toList[i]? = some oi := by rfl) (hd : oi.dst = some d := by rfl)
    (hy : ∀ w, S w → (execOp a.eval oi).run P w = .ok (.value v) w := by intro w hSw; (try dsimp only at hSw); go_simp <;> with_reducible rfl)
    (hp : a.put (some d) v = a' := by (try simp only [Act.put, pu]); exact rfl)
    (hs : Region.noSelect ops = true := by kernel_rfl) (hf : Region.free md ops listed i = true := by kernel_rfl) (hr : (Region.ready md ops listed).contains i = true := by kernel_rfl)
    (hwt : waits md ops st i = true := by kernel_rfl) (hsi : (st == i) = false := by kernel_rfl) (hls : listed.getD st true = false := by kernel_rfl)
    (hQ : ∀ c a w, Q (.panic c) (a.put (some d) v) w → Q (.panic c) a w := by exact fun _ _ _ h => h) (hw : Region.wanted oi (yielded ops a.tmps) = true := by rfl) (hS : S w := by first | assumption | ((try dsimp only); and_intros <;> assumption)) : wpTill P md ops Q S st (fuel + 1) listed a w :=
  uk i d hi hd (by rw [hp]; exact h) hy hs hf hr hwt hsi hls hQ hw hS
theorem utf {fuel : Nat} {listed : Array Bool} {a a' : Act} {w : World} (i d : Nat) {oi : Oper} {v : Value}
    (h : wpTill P md ops Q S st fuel (listed.setIfInBounds i true) a' w)
    (hi : ops.toList[i]? = some oi := by rfl) (hd : oi.dst = some d := by rfl)
    (hy : ∀ w, (execOp a.eval oi).run P w = .ok (.value v) w := by intro w; go_simp <;> with_reducible rfl)
    (hp : a.put (some d) v = a' := by (try simp only [Act.put, pu]); exact rfl)
    (hs : Region.noSelect ops = true := by kernel_rfl) (hf : Region.free md ops listed i = true := by kernel_rfl) (hr : (Region.ready md ops listed).contains i = true := by kernel_rfl)
    (hsi : (st == i) = false := by kernel_rfl)
    (hQ : ∀ c a w, Q (.panic c) (a.put (some d) v) w → Q (.panic c) a w := by exact fun _ _ _ h => h) (hw : Region.wanted oi (yielded ops a.tmps) = true := by rfl)
    (hS : listed.getD st true = false → S w := by first | exact till_over (by kernel_rfl) | (intro _; first | assumption | ((try dsimp only); and_intros <;> assumption))) : wpTill P md ops Q S st (fuel + 1) listed a w :=
  uf i d hi hd (by rw [hp]; exact h) hy hs hf hr hsi hQ hw hS
end
end Go.Proofs.YtdghoienjegffaaGreat
namespace Go.Proofs.YtdghoienjegffaaGreat
open Go.RowKit Go.WideShapes Go.ChangeShapes
set_option linter.all false
section
variable {H : Type} {enc : TypeId × Value → H}
end
end Go.Proofs.YtdghoienjegffaaGreat
namespace Go.Proofs.YtdghoienjegffaaGreat
open Go.RowKit
set_option linter.all false
theorem block_add (a : Addr) (n : Nat) : (a.add n).block = a.block := by unfold Addr.add; split <;> rfl
def intV (x : Int) : Value := .int .i64 x
def I64 (x : Int) : Prop := -9223372036854775808 ≤ x ∧ x ≤ 9223372036854775807
def SlR (w : World) (B : Nat) (v : Value) (vs : List Value) : Prop :=
  ∃ A c, v = .slice A vs.length c ∧ vs.length ≤ c ∧ c ≤ maxLen ∧ (0 < vs.length → ∃ ad, A = some ad ∧ ad.block < B ∧ ∀ j u, vs[j]? = some u → w.cell? (ad.add j) = some u)
section
variable {w w' : World} {B B' : Nat} {v : Value} {vs : List Value}
theorem SlR.keep (h : SlR w B v vs) (hk : ∀ p : Addr, p.block < B → w'.cell? p = w.cell? p) : SlR w' B v vs := by obtain ⟨A, c, e, h1, h2, h3⟩ := h;refine ⟨A, c, e, h1, h2, fun hn => ?_⟩;obtain ⟨ad, e', hb, hc⟩ := h3 hn;exact ⟨ad, e', hb, fun j u hu => (hk _ (by rw [block_add]; exact hb)).trans (hc j u hu)⟩
theorem SlR.below (h : SlR w B v vs) (hb : Below B w w') : SlR w' B v vs := h.keep fun _ hp => hb.cell hp
theorem SlR.more (h : SlR w B v vs) (hB : B ≤ B') : SlR w B' v vs := by obtain ⟨A, c, e, h1, h2, h3⟩ := h;refine ⟨A, c, e, h1, h2, fun hn => ?_⟩;obtain ⟨ad, e', hb, hc⟩ := h3 hn;exact ⟨ad, e', by omega, hc⟩
end
def IntsR (w : World) (B : Nat) (v : Value) (xs : List Int) : Prop := SlR w B v (xs.map intV) ∧ ∀ x ∈ xs, I64 x
theorem IntsR.below {w w' : World} {B : Nat} {v : Value} {xs : List Int} (h : IntsR w B v xs) (hb : Below B w w') : IntsR w' B v xs := ⟨h.1.below hb, h.2⟩
theorem IntsR.more {w : World} {B B' : Nat} {v : Value} {xs : List Int} (h : IntsR w B v xs) (hB : B ≤ B') : IntsR w B' v xs := ⟨h.1.more hB, h.2⟩
theorem IntsR.open_ {w : World} {B : Nat} {v : Value} {xs : List Int} (h : IntsR w B v xs) :
    ∃ A c, v = .slice A xs.length c ∧ xs.length ≤ c ∧ c ≤ maxLen ∧ (0 < xs.length → ∃ ad, A = some ad ∧ ad.block < B ∧ ∀ j x, xs[j]? = some x → w.cell? (ad.add j) = some (.int .i64 x)) := by
  obtain ⟨A, c, e, h1, h2, h3⟩ := h.1;rw [List.length_map] at e h1 h3;refine ⟨A, c, e, h1, h2, fun hn => ?_⟩;obtain ⟨ad, e', hb, hc⟩ := h3 hn;exact ⟨ad, e', hb, fun j x hx => hc j _ (by rw [List.getElem?_map, hx]; rfl)⟩
section
variable {w w' : World} {B B' : Nat} {v : Value} {xss : List (List Int)}
end
/-! ### What the call itself has made -/
def OwnRow (w : World) (e : TypeId) (v : Value) (vs : List Value) (bs : List Nat) : Prop :=
  (vs = [] ∧ bs = [] ∧ ∃ A c, v = .slice A 0 c ∧ c ≤ maxLen) ∨
  ∃ g c cur, v = .slice (some ⟨g, 0, none⟩) vs.length c ∧ vs.length ≤ c ∧ c ≤ maxLen ∧ w.heap[g]? = some (.cells cur e (0, 0)) ∧ cur.size = c ∧ cur.toList.take vs.length = vs ∧ bs = [g]
section
variable {w w' : World} {e : TypeId} {v : Value} {vs : List Value} {bs : List Nat}
theorem OwnRow.reads (h : OwnRow w e v vs bs) {B : Nat} (hB : ∀ b ∈ bs, b < B) : SlR w B v vs := by
  rcases h with ⟨rfl, rfl, A, c, rfl, hc⟩ | ⟨g, c, cur, h1, h2, h3, h4, h5, h6, h7⟩
  · exact ⟨A, c, rfl, Nat.zero_le _, hc, fun hn => absurd hn (by simp)⟩
  · refine ⟨some ⟨g, 0, none⟩, c, h1, h2, h3, fun hn => ⟨_, rfl, hB g (by rw [h7]; simp), fun j u hu => ?_⟩⟩
    have hj : j < vs.length := (List.getElem?_eq_some_iff.1 hu).1;have e1 : (⟨g, 0, none⟩ : Addr).add j = ⟨g, j, none⟩ := by unfold Addr.add; split <;> simp_all
    rw [e1, cell_of_row w g j cur e (0, 0) h4, ← Array.getElem?_toList];have : cur.toList[j]? = (cur.toList.take vs.length)[j]? := by rw [List.getElem?_take, if_pos hj]
    rw [this, h6, hu]
theorem OwnRow.lt (h : OwnRow w e v vs bs) : ∀ b ∈ bs, b < w.heap.size := by
  rcases h with ⟨_, rfl, _⟩ | ⟨g, c, cur, _, _, _, h4, _, _, h7⟩
  · intro b hb; cases hb
  · intro b hb
    rw [h7] at hb;obtain rfl : b = g := by simpa using hb
    rcases Nat.lt_or_ge b w.heap.size with h | h
    · exact h
    · rw [Array.getElem?_eq_none h] at h4; cases h4
theorem OwnRow.of_owns {base n : Nat} (h : w.ownsRow base e 1 v n vs) : ∃ bs, OwnRow w e v vs bs ∧ (∀ b ∈ bs, base ≤ b) ∧ bs.Nodup := by
  have hl : vs.length = n := by have := h.1; omega
  rcases h.2 with ⟨rfl, hn⟩ | ⟨g, cap, cur, h1, h2, h3, h4, h5, h6, h7⟩
  · have : vs = [] := List.eq_nil_of_length_eq_zero (by omega)
    exact ⟨[], .inl ⟨this, rfl, none, 0, rfl, Nat.zero_le _⟩, (fun _ hb => by cases hb), List.nodup_nil⟩
  · refine ⟨[g], .inr ⟨g, cap, cur, by rw [hl]; exact h1, by omega, h5, h3, by omega, ?_, rfl⟩, fun b hb => by simp at hb; omega, by simp⟩
    rw [hl];simpa using h7
end
def OwnInts (w : World) (e : TypeId) (v : Value) (xs : List Int) (bs : List Nat) : Prop := OwnRow w e v (xs.map intV) bs ∧ ∀ x ∈ xs, I64 x
theorem OwnInts.reads {w : World} {e : TypeId} {v : Value} {xs : List Int} {bs : List Nat} (h : OwnInts w e v xs bs) {B : Nat} (hB : ∀ b ∈ bs, b < B) : IntsR w B v xs := ⟨h.1.reads hB, h.2⟩
theorem heap_set_same {w : World} {g i : Nat} {cs : Array Value} {t : TypeId} {m : Nat × Nat} (h : w.heap[g]? = some (.cells cs t m)) (u : Value) : (w.setCell ⟨g, i, none⟩ u).heap[g]? = some (.cells (cs.setIfInBounds i u) t m) := by simp [World.setCell, Array.getElem?_modify, h]
theorem size_setCell (w : World) (p : Addr) (u : Value) : (w.setCell p u).heap.size = w.heap.size := by simp [World.setCell]
/-! ### Rows that are made and filled -/
def rowOf (done : List Value) (n : Nat) (z : Value) : Array Value := (done ++ List.replicate (n - done.length) z).toArray
theorem rowOf_nil (n : Nat) (z : Value) : rowOf [] n z = madeCells #[z] n := by
  apply Array.ext
  · simp [rowOf, madeCells]
  · intro i h1 h2
    simp [rowOf, madeCells, Nat.mod_one]
theorem rowOf_next {done : List Value} {n : Nat} {z : Value} (h : done.length < n) : (rowOf done n z)[done.length]? = some z := by unfold rowOf;rw [List.getElem?_toArray, List.getElem?_append_right (Nat.le_refl _), Nat.sub_self, List.getElem?_replicate, if_pos (by omega)]
theorem rowOf_set {done : List Value} {n : Nat} {z : Value} (h : done.length < n) (x : Value) : (rowOf done n z).setIfInBounds done.length x = rowOf (done ++ [x]) n z := by
  unfold rowOf;obtain ⟨m, hm⟩ : ∃ m, n - done.length = m + 1 := ⟨n - done.length - 1, by omega⟩
  rw [hm, show n - (done ++ [x]).length = m by simp; omega, List.replicate_succ, List.setIfInBounds_toArray];simp
theorem rowOf_full (done : List Value) (z : Value) : rowOf done done.length z = done.toArray := by simp [rowOf]
theorem run_make1 {P : Program} (t e : TypeId) (z : Value) (bytes : Nat) (ht : P.underlying t = some (.slice e)) (hinf : (P.info? e).map (fun i => (i.zero, i.size, i.bytes)) = some (some z, 1, bytes)) (hz : z.cells = #[z]) (n : Nat)
    (hb : bytes * n ≤ 281474976710656) (h63 : n ≤ 9223372036854775807) (w : World) :
    (Instr.makeSlice t (.int .i64 (n : Int)) (.int .i64 (n : Int))).run P w = .ok (.slice (some ⟨w.heap.size, 0, none⟩) n n) (w.alloc (.cells (rowOf [] n z) e)) := by
  obtain ⟨i, hi, hz0, hz1, hz2⟩ := info_parts hinf;have hb' : (i.bytes : Int) * (n : Int) ≤ 281474976710656 := by
    rw [hz2];have h : ((bytes * n : Nat) : Int) ≤ 281474976710656 := by omega
    rwa [Int.natCast_mul] at h
  have hr := run_make (P := P) w t e i z ht hi hz0 .i64 .i64 n n (by omega) (by omega) hb' (by omega);simp only [Int.toNat_natCast] at hr;rw [hr, rowOf_nil, hz, hz1, Nat.mul_one]
end Go.Proofs.YtdghoienjegffaaGreat
namespace Go.Proofs.YtdghoienjegffaaGreat
set_option linter.all false
structure Net where
  es : List (List (Int × Int))
  ids : List Int
  ins : List Int
def endOk (es : List (List (Int × Int))) (v i : Nat) (e : Int × Int) : Prop :=
  0 ≤ e.1 ∧ 0 ≤ e.2 ∧ ∃ l, es[e.1.toNat]? = some l ∧ l[e.2.toNat]? = some ((v : Int), (i : Int))
def nodeOk (es : List (List (Int × Int))) (v : Nat) (l : List (Int × Int)) : Prop := l.length ≤ 6 ∧ ∀ i e, l[i]? = some e → endOk es v i e
def idsP (ids : List Int) (k : Nat) : Prop := (∀ x ∈ ids, 1 ≤ x ∧ x ≤ 999999) ∧ ids.Nodup ∧ (ids = [] ∨ ids.length = k)
def netP (n : Net) : Prop := (1 ≤ n.es.length ∧ n.es.length ≤ 40) ∧ idsP n.ids n.es.length ∧ n.ins.length = n.es.length ∧ (∀ x ∈ n.ins, 0 ≤ x ∧ x ≤ 9) ∧ ∀ v l, n.es[v]? = some l → nodeOk n.es v l
noncomputable def netB (n : Net) : Bool := propB (netP n)
def plainP (n : Net) : Prop := ∀ (v : Nat) (l : List (Int × Int)), n.es[v]? = some l → ∀ e ∈ l, e.1 ≠ (v : Int)
noncomputable def plainB (n : Net) : Bool := propB (plainP n)
/-! ### Distances from a node -/
def visit (w : Nat) : List (Int × Int) → List Int × List Int → List Int × List Int
  | [], s => s
  | e :: r, s => if s.1.getD e.1.toNat 0 < 0 then visit w r (s.1.set e.1.toNat (s.1.getD w 0 + 1), s.2 ++ [e.1]) else visit w r s
def bfs (es : List (List (Int × Int))) : Nat → List Int → List Int → List Int
  | 0, d, _ => d
  | _ + 1, d, [] => d
  | f + 1, d, w :: q => bfs es f (visit w.toNat (es.getD w.toNat []) (d, q)).1 (visit w.toNat (es.getD w.toNat []) (d, q)).2
def neg (d : List Int) : Nat := d.countP (· < 0)
def DistOk (k : Nat) (d q : List Int) : Prop := d.length = k ∧ (∀ x ∈ d, x = -1 ∨ (0 ≤ x ∧ x + neg d < k)) ∧ ∀ w ∈ q, 0 ≤ w ∧ ∃ x, d[w.toNat]? = some x ∧ 0 ≤ x
theorem neg_set {d : List Int} {j : Nat} {x y : Int} (h : d[j]? = some y) (hy : y < 0) (hx : 0 ≤ x) : neg (d.set j x) + 1 = neg d := by
  induction d generalizing j with
  | nil => simp at h
  | cons a r ih =>
    cases j with
    | zero =>
      simp only [List.getElem?_cons_zero, Option.some.injEq] at h;subst h;simp only [List.set_cons_zero, neg, List.countP_cons, decide_eq_true hy, decide_eq_false (show ¬ x < 0 by omega)];simp
    | succ j =>
      simp only [List.getElem?_cons_succ] at h;have := ih h;simp only [List.set_cons_succ, neg, List.countP_cons] at this ⊢;omega
theorem mem_set {d : List Int} {j : Nat} {x y : Int} (h : y ∈ d.set j x) : y = x ∨ y ∈ d := by
  rcases List.mem_or_eq_of_mem_set h with h | h
  · exact .inr h
  · exact .inl h
theorem DistOk.step {k : Nat} {d q : List Int} {w : Nat} {x : Int} {e : Int} (h : DistOk k d q) (hw : d[w]? = some x) (hx : 0 ≤ x) (he0 : 0 ≤ e) (he : ∃ y, d[e.toNat]? = some y ∧ y < 0) :
    DistOk k (d.set e.toNat (x + 1)) (q ++ [e]) ∧ (d.set e.toNat (x + 1))[w]? = some x ∧ neg (d.set e.toNat (x + 1)) + 1 = neg d := by
  obtain ⟨h1, h2, h3⟩ := h;obtain ⟨y, hy, hy0⟩ := he;have hn := neg_set (x := x + 1) hy hy0 (by omega);have hne : e.toNat ≠ w := by rintro rfl;have := Option.some.inj (hy.symm.trans hw);omega
  have hxk := h2 x (List.mem_of_getElem? hw);have hel : e.toNat < d.length := (List.getElem?_eq_some_iff.1 hy).1;refine ⟨⟨by rw [List.length_set]; exact h1, fun z hz => ?_, fun z hz => ?_⟩, by rw [List.getElem?_set_ne hne]; exact hw, hn⟩
  · rcases mem_set hz with rfl | hz
    · right; omega
    · rcases h2 z hz with h | h
      · exact .inl h
      · right; omega
  · rcases List.mem_append.1 hz with hz | hz
    · obtain ⟨z0, u, hu, hu0⟩ := h3 z hz
      refine ⟨z0, u, ?_, hu0⟩;rw [List.getElem?_set_ne]
      · exact hu
      · intro e1
        rw [← e1] at hu;have := Option.some.inj (hy.symm.trans hu);omega
    · rw [List.mem_singleton] at hz
      subst hz;exact ⟨he0, x + 1, by rw [List.getElem?_set_self hel], by omega⟩
theorem visit_ok {k : Nat} {w : Nat} : ∀ (l : List (Int × Int)) {d q : List Int} {x : Int}, DistOk k d q → d[w]? = some x → 0 ≤ x → (∀ e ∈ l, 0 ≤ e.1 ∧ e.1.toNat < k) →
    DistOk k (visit w l (d, q)).1 (visit w l (d, q)).2 ∧ neg (visit w l (d, q)).1 + (visit w l (d, q)).2.length = neg d + q.length
  | [], d, q, x, h, _, _, _ => ⟨h, rfl⟩
  | e :: r, d, q, x, h, hw, hx, hl => by
    obtain ⟨e0, e1⟩ := hl e (by simp);unfold visit;have hel : e.1.toNat < d.length := by rw [h.1]; exact e1
    have hg : d.getD e.1.toNat 0 = d[e.1.toNat] := by simp [List.getD, List.getElem?_eq_getElem hel]
    by_cases hc : d.getD e.1.toNat 0 < 0
    · rw [if_pos hc]
      have hgw : d.getD w 0 = x := by simp [List.getD, hw]
      obtain ⟨k1, k2, k3⟩ := h.step hw hx e0 ⟨_, List.getElem?_eq_getElem hel, by rw [← hg]; exact hc⟩;obtain ⟨m1, m2⟩ := visit_ok r k1 k2 hx fun e' he' => hl e' (by simp [he'])
      simp only [hgw];refine ⟨m1, ?_⟩;rw [m2, List.length_append, List.length_singleton];omega
    · rw [if_neg hc]
      exact visit_ok r h hw hx fun e' he' => hl e' (by simp [he'])
def EndsIn (es : List (List (Int × Int))) : Prop := ∀ l ∈ es, ∀ e ∈ l, 0 ≤ e.1 ∧ e.1.toNat < es.length
theorem netP.endsIn {n : Net} (h : netP n) : EndsIn n.es := fun l hl e he => by obtain ⟨v, hv⟩ := List.mem_iff_getElem?.1 hl;obtain ⟨i, hi⟩ := List.mem_iff_getElem?.1 he;obtain ⟨h0, h1, m, hm, _⟩ := (h.2.2.2.2 v l hv).2 i e hi;exact ⟨h0, (List.getElem?_eq_some_iff.1 hm).1⟩
theorem bfs_step {es : List (List (Int × Int))} {d q : List Int} {w : Int} (hes : EndsIn es) (h : DistOk es.length d (w :: q)) :
    DistOk es.length (visit w.toNat (es.getD w.toNat []) (d, q)).1 (visit w.toNat (es.getD w.toNat []) (d, q)).2 ∧
    neg (visit w.toNat (es.getD w.toNat []) (d, q)).1 + (visit w.toNat (es.getD w.toNat []) (d, q)).2.length + 1 = neg d + (w :: q).length := by
  obtain ⟨w0, x, hx, hx0⟩ := h.2.2 w (by simp);have hwl : w.toNat < es.length := by rw [← h.1]; exact (List.getElem?_eq_some_iff.1 hx).1
  have hm : es.getD w.toNat [] ∈ es := by simp [List.getD, List.getElem?_eq_getElem hwl]
  obtain ⟨k1, k2⟩ := visit_ok (es.getD w.toNat []) (q := q) ⟨h.1, h.2.1, fun z hz => h.2.2 z (by simp [hz])⟩ hx hx0 (hes _ hm);refine ⟨k1, ?_⟩;rw [k2, List.length_cons];omega
def Bfs (es : List (List (Int × Int))) (D d q : List Int) : Prop := ∃ f, bfs es f d q = D ∧ neg d + q.length ≤ f ∧ DistOk es.length d q
theorem Bfs.fin {es : List (List (Int × Int))} {D d : List Int} (h : Bfs es D d []) : D = d ∧ DistOk es.length d [] := by obtain ⟨f, h1, _, h3⟩ := h;refine ⟨?_, h3⟩;rw [← h1];cases f <;> rfl
theorem Bfs.step {es : List (List (Int × Int))} {D d q : List Int} {w : Int} (hes : EndsIn es) (h : Bfs es D d (w :: q)) :
    Bfs es D (visit w.toNat (es.getD w.toNat []) (d, q)).1 (visit w.toNat (es.getD w.toNat []) (d, q)).2 := by
  obtain ⟨f, h1, h2, h3⟩ := h;obtain ⟨k1, k2⟩ := bfs_step hes h3;cases f with
  | zero => simp at h2
  | succ f => exact ⟨f, h1, by omega, k1⟩
def far (es : List (List (Int × Int))) (v : Nat) : List Int := bfs es es.length ((List.replicate es.length (-1)).set v 0) [(v : Int)]
theorem far_start {es : List (List (Int × Int))} {v : Nat} (hv : v < es.length) : Bfs es (far es v) ((List.replicate es.length (-1)).set v 0) [(v : Int)] := by
  have hn : neg (List.replicate es.length (-1 : Int)) = es.length := by unfold neg;rw [List.countP_replicate];simp
  have h1 := neg_set (d := List.replicate es.length (-1 : Int)) (j := v) (x := 0) (y := -1) (by simp [List.getElem?_replicate, hv]) (by omega) (by omega);refine ⟨es.length, rfl, by simp; omega, by simp, fun x hx => ?_, fun w hw => ?_⟩
  · rcases mem_set hx with rfl | hx
    · right; omega
    · left; exact (List.mem_replicate.1 hx).2
  · rw [List.mem_singleton] at hw
    subst hw;exact ⟨by omega, 0, by simp [hv], by omega⟩
theorem bfs_ok {es : List (List (Int × Int))} (hes : EndsIn es) : ∀ (f : Nat) (d q : List Int), DistOk es.length d q → DistOk es.length (bfs es f d q) []
  | 0, d, q, h => ⟨h.1, h.2.1, fun _ hw => by cases hw⟩
  | _ + 1, d, [], h => h
  | f + 1, d, w :: q, h => bfs_ok hes f _ _ (bfs_step hes h).1
theorem far_ok {es : List (List (Int × Int))} {v : Nat} (hes : EndsIn es) (hv : v < es.length) : (far es v).length = es.length ∧ ∀ x ∈ far es v, x = -1 ∨ (0 ≤ x ∧ x < es.length) := by obtain ⟨f, h1, h2, h3⟩ := far_start hv;have := bfs_ok hes f _ _ h3;rw [h1] at this;exact ⟨this.1, fun x hx => by rcases this.2.1 x hx with h | h; exact .inl h; right; omega⟩
def connP (n : Net) : Prop := (-1 : Int) ∉ far n.es 0
noncomputable def connB (n : Net) : Bool := propB (connP n)
theorem conn_all {n : Net} (h : netP n) : connP n ↔ ∀ x ∈ far n.es 0, 0 ≤ x ∧ x ≤ 40 := by
  obtain ⟨h1, h2⟩ := far_ok h.endsIn (v := 0) (by have := h.1.1; omega);have h40 := h.1.2;constructor
  · intro hc x hx
    rcases h2 x hx with rfl | h
    · exact absurd hx hc
    · omega
  · intro ha hm
    have := ha _ hm;omega
/-! ### Rules and counts -/
def onesN (l : List Int) : Nat := l.countP (· == 1)
def ringP (n : Net) : Prop := 2 ≤ n.es.length ∧ connP n ∧ onesN n.ins = 1 ∧ ∀ l ∈ n.es, l.length = 2 ∧ ∃ e, l[0]? = some e ∧ e.2 = 1
noncomputable def ringB (n : Net) : Bool := propB (ringP n)
def runsP (n : Net) (r : Int) : Prop := plainP n ∧ (r = 5 → ringP n)
def askP (n : Net) (r : Int) : Prop := netP n ∧ (1 ≤ r ∧ r ≤ 5) ∧ runsP n r
noncomputable def askB (n : Net) (r : Int) : Bool := propB (askP n r)
def degs (n : Net) : List Int := n.es.map fun l => (l.length : Int)
def most (l : List Int) : Int := l.foldl (fun a x => if a > x then a else x) 0
def cnts (n : Net) (r : Int) : List Int :=
  if r = 2 then List.replicate n.es.length (most (degs n) + 1)
  else if r = 3 then List.replicate n.es.length 2
  else if r = 4 then (degs n).map (· + 1)
  else List.replicate n.es.length (n.es.length + 1)
theorem most_go (l : List Int) : ∀ a : Int, a ≤ l.foldl (fun a x => if a > x then a else x) a ∧ (∀ x ∈ l, x ≤ l.foldl (fun a x => if a > x then a else x) a) ∧ (l.foldl (fun a x => if a > x then a else x) a = a ∨ l.foldl (fun a x => if a > x then a else x) a ∈ l) := by
  induction l with
  | nil => intro a; exact ⟨Int.le_refl _, fun _ h => by (cases h), .inl rfl⟩
  | cons y r ih =>
    intro a;simp only [List.foldl_cons];obtain ⟨h1, h2, h3⟩ := ih (if a > y then a else y);by_cases hc : a > y
    · rw [if_pos hc] at h1 h2 h3 ⊢
      refine ⟨h1, fun x hx => ?_, ?_⟩
      · rcases List.mem_cons.1 hx with rfl | hx
        · omega
        · exact h2 x hx
      · rcases h3 with h | h
        · exact .inl h
        · exact .inr (by simp [h])
    · rw [if_neg hc] at h1 h2 h3 ⊢
      refine ⟨by omega, fun x hx => ?_, ?_⟩
      · rcases List.mem_cons.1 hx with rfl | hx
        · exact h1
        · exact h2 x hx
      · rcases h3 with h | h
        · right; rw [h]; simp
        · exact .inr (by simp [h])
theorem most_ge (l : List Int) {x : Int} (h : x ∈ l) : x ≤ most l := (most_go l 0).2.1 x h
theorem most_nn (l : List Int) : 0 ≤ most l := (most_go l 0).1
theorem most_le {l : List Int} {b : Int} (hb : 0 ≤ b) (h : ∀ x ∈ l, x ≤ b) : most l ≤ b := by
  rcases (most_go l 0).2.2 with h1 | h1
  · have e : most l = 0 := h1
    omega
  · exact h _ h1
theorem degs_bd {n : Net} (h : netP n) : ∀ x ∈ degs n, 0 ≤ x ∧ x ≤ 6 := fun x hx => by obtain ⟨l, hl, rfl⟩ := List.mem_map.1 hx;obtain ⟨v, hv⟩ := List.mem_iff_getElem?.1 hl;have := (h.2.2.2.2 v l hv).1;omega
theorem cnts_bd {n : Net} (h : netP n) (r : Int) : ∀ x ∈ cnts n r, 1 ≤ x ∧ x ≤ 41 := by
  intro x hx;have h1 := h.1;have hm : most (degs n) ≤ 6 := most_le (by omega) fun x hx => (degs_bd h x hx).2
  have hm0 := most_nn (degs n);unfold cnts at hx;split at hx
  · have := (List.mem_replicate.1 hx).2; omega
  split at hx
  · have := (List.mem_replicate.1 hx).2; omega
  split at hx
  · obtain ⟨y, hy, rfl⟩ := List.mem_map.1 hx
    have := degs_bd h y hy;omega
  · have := (List.mem_replicate.1 hx).2; omega
theorem cnts_len (n : Net) (r : Int) : (cnts n r).length = n.es.length := by
  unfold cnts degs;split
  · simp
  split
  · simp
  split
  · simp
  · simp
def risingP (l : List Int) (lo hi : Int) : Prop := (∀ x ∈ l, lo ≤ x ∧ x ≤ hi) ∧ ∀ (i : Nat) (a b : Int), l[i]? = some a → l[i + 1]? = some b → a < b
theorem rising_pair {l : List Int} (h : ∀ (i : Nat) (a b : Int), l[i]? = some a → l[i + 1]? = some b → a < b) : l.Pairwise (· < ·) := by
  induction l with
  | nil => exact .nil
  | cons x r ih =>
    have hr := ih fun i a b h1 h2 => h (i + 1) a b (by simpa using h1) (by simpa using h2)
    refine List.pairwise_cons.2 ⟨fun y hy => ?_, hr⟩;cases r with
    | nil => cases hy
    | cons z t =>
      have h0 := h 0 x z rfl rfl;rcases List.mem_cons.1 hy with rfl | hy
      · exact h0
      · have := (List.pairwise_cons.1 hr).1 y hy
        omega
theorem pair_rising {l : List Int} (h : l.Pairwise (· < ·)) : ∀ (i : Nat) (a b : Int), l[i]? = some a → l[i + 1]? = some b → a < b := by intro i a b h1 h2;obtain ⟨i1, rfl⟩ := List.getElem?_eq_some_iff.1 h1;obtain ⟨i2, rfl⟩ := List.getElem?_eq_some_iff.1 h2;exact List.pairwise_iff_getElem.1 h i (i + 1) i1 i2 (by omega)
theorem ids_sorted {ids ys : List Int} {k : Nat} (hp : ys.Perm ids) (hs : ys.Pairwise (· ≤ ·)) (hne : ids ≠ []) : (ids.length = k ∧ risingP ys 1 999999) ↔ idsP ids k := by
  unfold idsP risingP;constructor
  · rintro ⟨h1, h2, h3⟩
    have hn : ys.Nodup := (rising_pair h3).imp fun h => by omega
    exact ⟨fun x hx => h2 x (hp.mem_iff.2 hx), hp.nodup_iff.1 hn, .inr h1⟩
  · rintro ⟨h1, h2, h3⟩
    have hn : ys.Nodup := hp.nodup_iff.2 h2;refine ⟨by rcases h3 with h | h; exact absurd h hne; exact h, fun x hx => h1 x (hp.mem_iff.1 hx), pair_rising ?_⟩;have : ys.Pairwise (fun a b => a ≤ b ∧ a ≠ b) := List.Pairwise.and hs hn;exact this.imp fun h => by omega
theorem ids_loop {ids : List Int} : (∀ (i : Nat) (x : Int), ids[i]? = some x → (1 ≤ x ∧ x ≤ 999999) ∧ x ∉ ids.take i) ↔ (∀ x ∈ ids, 1 ≤ x ∧ x ≤ 999999) ∧ ids.Nodup := by
  constructor
  · intro h
    refine ⟨fun x hx => ?_, ?_⟩
    · obtain ⟨i, hi⟩ := List.mem_iff_getElem?.1 hx
      exact (h i x hi).1
    · refine List.pairwise_iff_getElem.2 fun i j hi hj hij e => ?_
      refine (h j ids[j] (List.getElem?_eq_getElem hj)).2 ?_;rw [← e];refine List.mem_of_getElem? (i := i) ?_;rw [List.getElem?_take, if_pos hij, List.getElem?_eq_getElem hi]
  · rintro ⟨h1, h2⟩ i x hx
    refine ⟨h1 x (List.mem_of_getElem? hx), fun hm => ?_⟩;obtain ⟨j, hj⟩ := List.mem_iff_getElem?.1 hm;rw [List.getElem?_take] at hj;split at hj
    · rename_i hji
      obtain ⟨i1, rfl⟩ := List.getElem?_eq_some_iff.1 hx;obtain ⟨j1, e⟩ := List.getElem?_eq_some_iff.1 hj;exact List.pairwise_iff_getElem.1 h2 j i j1 i1 hji e
    · cases hj
theorem edge_loop {n : Net} (h : netP n) : (∃ (v : Nat) (l : List (Int × Int)), n.es[v]? = some l ∧ ∃ (i : Nat) (e : Int × Int), l[i]? = some e ∧ ((v : Int) < e.1 ∨ (v : Int) = e.1 ∧ (i : Int) ≤ e.2) ∧ (v : Int) = e.1) ↔ ¬ plainP n := by
  unfold plainP;constructor
  · rintro ⟨v, l, hv, i, e, hi, -, he⟩ hp
    exact hp v l hv e (List.mem_of_getElem? hi) he.symm
  · intro hp
    simp only [Classical.not_forall] at hp;obtain ⟨v, l, hv, e, hm, hne⟩ := hp;have he : e.1 = (v : Int) := Classical.not_not.1 hne;obtain ⟨i, hi⟩ := List.mem_iff_getElem?.1 hm;obtain ⟨h0, h1, m, hm2, hm3⟩ := (h.2.2.2.2 v l hv).2 i e hi;have hvv : e.1.toNat = v := by omega
    rw [hvv, hv] at hm2;obtain rfl : l = m := Option.some.inj hm2;by_cases hc : (i : Int) ≤ e.2
    · exact ⟨v, l, hv, i, e, hi, .inr ⟨he.symm, hc⟩, he.symm⟩
    · exact ⟨v, l, hv, e.2.toNat, _, hm3, .inr ⟨rfl, by simp; omega⟩, rfl⟩
end Go.Proofs.YtdghoienjegffaaGreat
namespace Go.Proofs.YtdghoienjegffaaGreat
open Go.RowKit
set_option linter.all false
abbrev Ends := List (Int × Int)
def EndsR (w : World) (S : Nat → Prop) (v : Value) (es : Ends) : Prop :=
  ∃ A c, v = .slice A es.length c ∧ es.length ≤ c ∧ c ≤ maxLen ∧ (∀ e ∈ es, I64 e.1 ∧ I64 e.2) ∧ (0 < es.length → ∃ b o, A = some ⟨b, o, none⟩ ∧ S b ∧
    ∀ k e, es[k]? = some e → w.cell? ⟨b, o + k * 2, none⟩ = some (.int .i64 e.1) ∧ w.cell? ⟨b, o + k * 2 + 1, none⟩ = some (.int .i64 e.2))
def EndssR (w : World) (S : Nat → Prop) (v : Value) (ess : List Ends) : Prop :=
  ∃ A c, v = .slice A ess.length c ∧ ess.length ≤ c ∧ c ≤ maxLen ∧ (0 < ess.length → ∃ ad, A = some ad ∧ S ad.block ∧
    ∀ k es, ess[k]? = some es → ∃ u, w.cell? (ad.add k) = some u ∧ EndsR w S u es)
section
variable {w w' : World} {S S' : Nat → Prop} {v : Value}
theorem EndsR.keep {es : Ends} (h : EndsR w S v es) (hS : ∀ b, S b → S' b) (hk : ∀ b, S b → w'.heap[b]? = w.heap[b]?) : EndsR w' S' v es := by obtain ⟨A, c, e, h1, h2, h3, h4⟩ := h;refine ⟨A, c, e, h1, h2, h3, fun hn => ?_⟩;obtain ⟨b, o, e', hb, hc⟩ := h4 hn;refine ⟨b, o, e', hS b hb, fun k x hx => ?_⟩;obtain ⟨k1, k2⟩ := hc k x hx;exact ⟨(World.cell?_of_block (hk b hb)).trans k1, (World.cell?_of_block (hk b hb)).trans k2⟩
theorem EndssR.keep {ess : List Ends} (h : EndssR w S v ess) (hS : ∀ b, S b → S' b) (hk : ∀ b, S b → w'.heap[b]? = w.heap[b]?) : EndssR w' S' v ess := by obtain ⟨A, c, e, h1, h2, h4⟩ := h;refine ⟨A, c, e, h1, h2, fun hn => ?_⟩;obtain ⟨ad, e', hb, hc⟩ := h4 hn;refine ⟨ad, e', hS _ hb, fun k x hx => ?_⟩;obtain ⟨u, k1, k2⟩ := hc k x hx;exact ⟨u, (World.cell?_of_block (by rw [block_add]; exact hk _ hb)).trans k1, k2.keep hS hk⟩
end
abbrev EndsB (w : World) (B : Nat) (v : Value) (es : Ends) : Prop := EndsR w (· < B) v es
theorem EndsR.below {w w' : World} {B : Nat} {v : Value} {es : Ends} (h : EndsB w B v es) (hb : Below B w w') : EndsB w' B v es := h.keep (fun _ h => h) fun b hB => hb.block b hB
theorem EndsR.more {w : World} {B B' : Nat} {v : Value} {es : Ends} (h : EndsB w B v es) (hB : B ≤ B') : EndsB w B' v es := h.keep (fun _ h => Nat.lt_of_lt_of_le h hB) fun _ _ => rfl
structure NetR (w : World) (B : Nat) (ve vi vn : Value) (n : Net) : Prop where
  e : EndssR w (· < B) ve n.es
  i : IntsR w B vi n.ids
  n : IntsR w B vn n.ins
theorem NetR.below {w w' : World} {B : Nat} {ve vi vn : Value} {n : Net} (h : NetR w B ve vi vn n) (hb : Below B w w') : NetR w' B ve vi vn n :=
  ⟨h.e.keep (fun _ h => h) fun b hB => hb.block b hB, h.i.below hb, h.n.below hb⟩
theorem NetR.more {w : World} {B B' : Nat} {ve vi vn : Value} {n : Net} (h : NetR w B ve vi vn n) (hB : B ≤ B') : NetR w B' ve vi vn n :=
  ⟨h.e.keep (fun _ h => Nat.lt_of_lt_of_le h hB) fun _ _ => rfl, h.i.more hB, h.n.more hB⟩
theorem NetR.up {w w' : World} {ve vi vn : Value} {n : Net} (h : NetR w w.heap.size ve vi vn n) (hb : Below w.heap.size w w') : NetR w' w'.heap.size ve vi vn n := (h.below hb).more hb.size
theorem IntsR.isSlice {w : World} {B : Nat} {v : Value} {xs : List Int} (h : IntsR w B v xs) : ∃ A m c, v = .slice A m c := by obtain ⟨A, c, rfl, _⟩ := h.open_;exact ⟨_, _, _, rfl⟩
theorem EndssR.isSlice {w : World} {S : Nat → Prop} {v : Value} {xs : List Ends} (h : EndssR w S v xs) : ∃ A m c, v = .slice A m c := by obtain ⟨A, c, rfl, _⟩ := h;exact ⟨_, _, _, rfl⟩
theorem NetR.slices {w : World} {B : Nat} {ve vi vn : Value} {n : Net} (h : NetR w B ve vi vn n) : (∃ A m c, ve = .slice A m c) ∧ (∃ A m c, vi = .slice A m c) ∧ ∃ A m c, vn = .slice A m c := ⟨h.e.isSlice, h.i.isSlice, h.n.isSlice⟩
theorem ints_row {w : World} {g B : Nat} {t : TypeId} {xs : List Int} (hc : w.heap[g]? = some (.cells (xs.map intV).toArray t (0, 0))) (hl : xs.length ≤ maxLen) (hI : ∀ x ∈ xs, I64 x) (hg : g < B) : IntsR w B (.slice (some ⟨g, 0, none⟩) xs.length xs.length) xs := by refine ⟨⟨some ⟨g, 0, none⟩, xs.length, by rw [List.length_map], by rw [List.length_map]; exact Nat.le_refl _, hl, fun _ => ⟨_, rfl, hg, fun j u hu => ?_⟩⟩, hI⟩;rw [show (⟨g, 0, none⟩ : Addr).add j = ⟨g, j, none⟩ by unfold Addr.add; split <;> simp_all, cell_of_row _ _ j _ _ (0, 0) hc, ← Array.getElem?_toList];exact hu
end Go.Proofs.YtdghoienjegffaaGreat
namespace Go.Proofs.YtdghoienjegffaaGreat
open Go.RowKit
set_option linter.all false
theorem wpList_append1 {P : Program} (w : World) {ops : Array Oper} {rest : List Oper} {o : Oper} {a : Act} {Q : Exit → Act → World → Prop} (hgd : o.guard = none) (s x : Operand) (t : TypeId)
  (ho : o.op = .call { callee := .builtin .append, args := #[s, x], argTypes := #[t, t] })
  (base : Nat) (e : TypeId) (z : Value) (bytes : Nat) (ht : P.underlying t = some (.slice e)) (hinf : (P.info? e).map (fun i => (i.zero, i.size, i.bytes)) = some (some z, 1, bytes)) (hzs : z.cells.size = 1)
  (v : Value) (n : Nat) (xs : List Value) (hs : a.eval s = v) (u : Value) (hu : u.oneCell' = true) (hx : a.eval x = .slice (some ⟨w.heap.size, 0, none⟩) 1 1)
  (hown : w.ownsRow base e 1 v n xs) (h63 : n + 1 ≤ maxLen) (hbytes : (n + 1) * bytes ≤ 140737488355328) (hbase : base ≤ w.heap.size)
  (h : ∀ v' w', w'.ownsRow base e 1 v' (n + 1) (xs ++ [u]) → Below base w w' → w.grownBy w' v.ownBlock → w.heap.size < w'.heap.size → (v'.ownBlock = v.ownBlock ∨ ∃ g, v'.ownBlock = some g ∧ w.heap.size ≤ g ∧ g < w'.heap.size) → wpList P ops Q rest (a.put o.dst v') w') :
  wpList P ops Q (o :: rest) a (w.alloc (.cells #[u] e)) := by
 obtain ⟨i, hi, hz0, hz1, hz2⟩ := info_parts hinf;have hown1 := hown.alloc (.cells #[u] e);have hcell : (w.alloc (.cells #[u] e)).cell? ⟨w.heap.size, 0, none⟩ = some u := by rw [World.cell?_alloc_at _ _ _ _ rfl]; rfl
 have hnews : ∀ j u', ([u] : List Value)[j]? = some u' → (w.alloc (.cells #[u] e)).cell? ((⟨w.heap.size, 0, none⟩ : Addr).add j) = some u' := by
  intro j u' hj
  match j, hj with
  | 0, hj =>
   have : u = u' := by simpa using hj
   subst this;exact hcell
 obtain ⟨v', w', hrun, h2, h3, _, h5⟩ := run_append_own_at (P := P) (w.alloc (.cells #[u] e)) base t o.type e i z 1 bytes ht hi hz0 hz1 hz2 hzs (by decide) v n xs hown1 ⟨w.heap.size, 0, none⟩ 1 1 [u] rfl hnews
  (by intro u' hu'; obtain rfl : u' = u := (by simpa using hu'); exact hu) h63 hbytes (by simp; omega)
 have hg : w.grownBy w' v.ownBlock := by have h0 := World.grownBy_alloc w (.cells #[u] e) v.ownBlock;exact ⟨h3.os.trans h0.os, h3.tape.trans h0.tape, h3.output.trans h0.output, Nat.le_trans h0.size h3.size, fun k hk hne => (h3.block k (Nat.lt_of_lt_of_le hk h0.size) hne).trans (h0.block k hk hne)⟩
 have hsz : w.heap.size < w'.heap.size := by have := h3.size; simp at this; omega
 have hB : Below base w w' := (Below.refl base w).grown hg hbase (fun k hk => (hown.lt k hk).1);refine wpList_plain hgd fun K hK => ?_
 unfold Oper.wp execOp;simp only [ho, resolve, invoke, builtin, Sem.run_bind, Sem.run_pure, Result.andThen_ok, List.map_toArray, List.map_cons, List.map_nil, hs, hx, hrun];refine hK _ _ (h v' w' h2 hB hg hsz ?_);rcases h5 with h5 | h5
 · exact .inl h5
 · refine .inr ⟨_, h5, by simp, ?_⟩;exact (h2.lt _ h5).2
theorem own_some {w : World} {base : Nat} {e : TypeId} {v : Value} {n : Nat} {xs : List Value} (h : w.ownsRow base e 1 v n xs) (hn : 0 < n) :
    ∃ g cap, v = .slice (some ⟨g, 0, none⟩) n cap ∧ n ≤ cap ∧ cap ≤ maxLen ∧ base ≤ g ∧ g < w.heap.size := by
  have hl := h.lt;rcases h.2 with ⟨_, e⟩ | ⟨g, cap, cur, e, h1, _, h5, h6, _⟩
  · omega
  · exact ⟨g, cap, e, h5, h6, h1, (hl g (by rw [e]; rfl)).2⟩
end Go.Proofs.YtdghoienjegffaaGreat
namespace Go.Proofs.YtdghoienjegffaaGreat
open Go.ChangeShapes Go.WideShapes Go.ChangeAt Go.RowKit
set_option linter.all false
theorem spec_l1In (n lo hi : Int) (w : World) :
    Calls Tryz.prog 46 #[.int .i64 n, .int .i64 lo, .int .i64 hi] w fun e w' => e = .returned (.bool (inB n lo hi)) ∧ w = w' := by
  by_cases h1 : lo ≤ n
  · by_cases h2 : n ≤ hi
    · go_enter Tryz.func46, Tryz.ntmps46
      go_wp2;go_ret;exact ⟨ret_bool (by first | rw [inB_t (by omega)] | rw [inB_f (by omega)]), rfl⟩
    · go_enter Tryz.func46, Tryz.ntmps46
      go_wp2;go_ret;exact ⟨ret_bool (by rw [inB_f (by omega)]), rfl⟩
  · go_enter Tryz.func46, Tryz.ntmps46
    go_wp2;go_ret;exact ⟨ret_bool (by rw [inB_f (by omega)]), rfl⟩
theorem impl_within (n lo hi : Int) (w : World) :
    Calls Tryz.prog 25 #[.int .i64 n, .int .i64 lo, .int .i64 hi] w fun e w' => e = .returned (.bool (inB n lo hi)) ∧ w = w' := by
  by_cases h1 : lo ≤ n
  · by_cases h2 : n ≤ hi
    · go_enter Tryz.func25, Tryz.ntmps25
      go_wp2;go_ret;exact ⟨ret_bool (by first | rw [inB_t (by omega)] | rw [inB_f (by omega)]), rfl⟩
    · go_enter Tryz.func25, Tryz.ntmps25
      go_wp2;go_ret;exact ⟨ret_bool (by first | rw [inB_t (by omega)] | rw [inB_f (by omega)]), rfl⟩
  · go_enter Tryz.func25, Tryz.ntmps25
    go_wp2;go_ret;exact ⟨ret_bool (by rw [inB_f (by omega)]), rfl⟩
end Go.Proofs.YtdghoienjegffaaGreat
namespace Go.Proofs.YtdghoienjegffaaGreat
open Go.RowKit
set_option linter.all false
def allB (xs : List Int) (lo hi : Int) : Bool := xs.all fun x => inB x lo hi
theorem allB_t {xs : List Int} {lo hi : Int} (h : ∀ x ∈ xs, inB x lo hi = true) : allB xs lo hi = true := by unfold allB; exact List.all_eq_true.2 h
theorem allB_f {xs : List Int} {lo hi : Int} {k : Nat} {x : Int} (h : xs[k]? = some x) (hx : inB x lo hi = false) : allB xs lo hi = false := by unfold allB;rw [List.all_eq_false];exact ⟨x, List.mem_of_getElem? h, by simp [hx]⟩
theorem allB_iff {xs : List Int} {lo hi : Int} : allB xs lo hi = true ↔ ∀ x ∈ xs, lo ≤ x ∧ x ≤ hi := by unfold allB inB;simp
def UptoB (p : Int → Bool) (xs : List Int) (k : Nat) : Prop := ∀ j x, j < k → xs[j]? = some x → p x = true
theorem UptoB.next {p : Int → Bool} {xs : List Int} {k : Nat} {x : Int} (h : UptoB p xs k) (hx : xs[k]? = some x) (hp : p x = true) : UptoB p xs (k + 1) := by
  intro j y hj hy;by_cases e : j = k
  · subst e; rw [hx] at hy; cases hy; exact hp
  · exact h j y (by omega) hy
theorem UptoB.all {p : Int → Bool} {xs : List Int} {k : Nat} (h : UptoB p xs k) (hk : xs.length ≤ k) : ∀ x ∈ xs, p x = true := by intro x hx;obtain ⟨j, hj⟩ := List.mem_iff_getElem?.1 hx;exact h j x (by have := (List.getElem?_eq_some_iff.1 hj).1; omega) hj
def AllRel (p : Int → Bool) (xs : List Int) (w : World) (i : Value) (wr : World) : Prop := w = wr ∧ ∃ k : Nat, k ≤ xs.length ∧ i = .int .i64 k ∧ UptoB p xs k
theorem spec_l1All (v : Value) (xs : List Int) (lo hi : Int) (w : World) (h : IntsR w w.heap.size v xs) :
    Calls Tryz.prog 145 #[v, .int .i64 lo, .int .i64 hi] w fun e w' => e = .returned (.bool (allB xs lo hi)) ∧ w = w' := by
  obtain ⟨A, c, rfl, h1, h2, h3⟩ := h.open_;unfold maxLen at h2;clear h;go_enter Tryz.func145, Tryz.ntmps145;go_wp2_with fail;go_loopw [11, 8] (fun i x wr => AllRel (fun x => inB x lo hi) xs w i wr) (fun i _ _ => xs.length - (intOf i).toNat)
  case atStart => exact ⟨rfl, 0, Nat.zero_le _, rfl, fun _ _ h => absurd h (by omega)⟩
  case round =>
    obtain ⟨rfl, k, hk, rfl, hup⟩ := hrel;have HU := Lib.hid hup; clear hup;by_cases hlt : k < xs.length
    · obtain ⟨x, hx⟩ : ∃ x, xs[k]? = some x := ⟨xs[k], List.getElem?_eq_getElem hlt⟩
      obtain ⟨ad, rfl, hb, hc⟩ := h3 (by omega);have hcell := hc k x hx;have HX := Lib.hid hx;clear h3 hc hx;cases hp : inB x lo hi with
      | true =>
        go_wp2_with (go_at_call 46; refine (spec_l1In _ _ _ _).mono ?_; rintro e w' ⟨rfl, rfl⟩)
        go_roundw
        case rel => exact ⟨rfl, k + 1, by omega, by go_num, HU.out.next HX.out hp⟩
        case measure => simp [intOf]; omega
      | false =>
        go_wp2_with (go_at_call 46; refine (spec_l1In _ _ _ _).mono ?_; rintro e w' ⟨rfl, rfl⟩)
        go_ret;exact ⟨ret_bool (allB_f HX.out hp).symm, rfl⟩
    · go_wp2
      go_ret;exact ⟨ret_bool (allB_t (HU.out.all (by omega))).symm, rfl⟩
end Go.Proofs.YtdghoienjegffaaGreat
namespace Go.Proofs.YtdghoienjegffaaGreat
open Go.RowKit
set_option linter.all false
/-! ### Copies -/
theorem intInfo : (Tryz.prog.info? 3).map (fun i => (i.zero, i.size, i.bytes)) = some (some (.int .i64 0), 1, 8) := by kernel_rfl
/-! ### Copies of lists of lists -/
theorem sliceInfo : (Tryz.prog.info? 25).map (fun i => (i.zero, i.size, i.bytes)) = some (some (.slice none 0 0), 1, 24) := by kernel_rfl
/-! ### Equality of what reads alike -/
end Go.Proofs.YtdghoienjegffaaGreat
namespace Go.Proofs.YtdghoienjegffaaGreat
section
open Go.RowKit
set_option linter.all false
theorem box3 (w : World) (a b c : Value) (t : TypeId) : ∃ w0, w0 = w.alloc (.cells #[a, b, c] t) ∧ Below w.heap.size w w0 ∧ Hid (w0.heap[w.heap.size]? = some (.cells #[a, b, c] t (0, 0))) ∧ w.heap.size < w0.heap.size ∧ Hid (w0.heap.size = w.heap.size + 1) :=
  ⟨_, rfl, bl_alloc (Below.refl _ _) _, Lib.hid (heap_alloc_new w _), by simp, Lib.hid (by simp)⟩
theorem box2 (w : World) (a b : Value) (t : TypeId) : ∃ w0, w0 = w.alloc (.cells #[a, b] t) ∧ Below w.heap.size w w0 ∧ Hid (w0.heap[w.heap.size]? = some (.cells #[a, b] t (0, 0))) ∧ w.heap.size < w0.heap.size ∧ Hid (w0.heap.size = w.heap.size + 1) :=
  ⟨_, rfl, bl_alloc (Below.refl _ _) _, Lib.hid (heap_alloc_new w _), by simp, Lib.hid (by simp)⟩
noncomputable def hasB (xs : List Int) (x : Int) : Bool := propB (x ∈ xs)
theorem hasB_t {xs : List Int} {x : Int} (h : x ∈ xs) : hasB xs x = true := propB_t h
theorem hasB_f {xs : List Int} {x : Int} (h : x ∉ xs) : hasB xs x = false := propB_f h
def NotTo (xs : List Int) (x : Int) (k : Nat) : Prop := ∀ j y, j < k → xs[j]? = some y → y ≠ x
theorem NotTo.all {xs : List Int} {x : Int} {k : Nat} (h : NotTo xs x k) (hk : xs.length ≤ k) : x ∉ xs := fun hm => by obtain ⟨j, hj⟩ := List.mem_iff_getElem?.1 hm;exact h j x (by have := (List.getElem?_eq_some_iff.1 hj).1; omega) hj rfl
theorem NotTo.next {xs : List Int} {x y : Int} {k : Nat} (h : NotTo xs x k) (hy : xs[k]? = some y) (hne : y ≠ x) : NotTo xs x (k + 1) := fun j z hj hz => by
  by_cases e : j = k
  · subst e; rw [hy] at hz; cases hz; exact hne
  · exact h j z (by omega) hz
def HasRel (xs : List Int) (x : Int) (w : World) (i : Value) (wr : World) : Prop := w = wr ∧ ∃ k : Nat, k ≤ xs.length ∧ i = .int .i64 k ∧ NotTo xs x k
theorem spec_l1Has (v : Value) (xs : List Int) (x : Int) (w : World) (h : IntsR w w.heap.size v xs) :
    Calls Tryz.prog 43 #[v, .int .i64 x] w fun e w' => e = .returned (.bool (hasB xs x)) ∧ w = w' := by
  obtain ⟨A, c, rfl, h1, h2, h3⟩ := h.open_;unfold maxLen at h2;clear h;go_enter Tryz.func43, Tryz.ntmps43;go_wp2_with fail;go_loopw [9, 6] (fun i _ wr => HasRel xs x w i wr) (fun i _ _ => xs.length - (intOf i).toNat)
  case atStart => exact ⟨rfl, 0, Nat.zero_le _, rfl, fun _ _ h => absurd h (by omega)⟩
  case round =>
    obtain ⟨rfl, k, hk, rfl, hup⟩ := hrel;have HU := Lib.hid hup; clear hup;by_cases hlt : k < xs.length
    · obtain ⟨y, hy⟩ : ∃ y, xs[k]? = some y := ⟨xs[k], List.getElem?_eq_getElem hlt⟩
      obtain ⟨ad, rfl, hb, hc⟩ := h3 (by omega);have hcell := hc k y hy;have HX := Lib.hid hy;clear h3 hc hy;by_cases e : y = x
      · have HE := Lib.hid e
        have kq : (y == x) = true := by simpa using e
        clear e;go_wp2_with fail;go_ret;exact ⟨ret_bool (hasB_t (by rw [← HE.out]; exact List.mem_of_getElem? HX.out)).symm, rfl⟩
      · have HE := Lib.hid e
        have kq : (y == x) = false := by simpa using e
        clear e;go_wp2_with fail;go_roundw
        case rel => exact ⟨rfl, k + 1, by omega, by go_num, HU.out.next HX.out HE.out⟩
        case measure => simp [intOf]; omega
    · go_wp2
      go_ret;exact ⟨ret_bool (hasB_f (HU.out.all (by omega))).symm, rfl⟩
def nearL (es : Ends) : List Int := es.map Prod.fst
theorem near_snoc (es : Ends) (k : Nat) (e : Int × Int) (h : es[k]? = some e) : (nearL (es.take (k + 1))).map intV = (nearL (es.take k)).map intV ++ [.int .i64 e.1] := by obtain ⟨hk', rfl⟩ := List.getElem?_eq_some_iff.1 h;unfold nearL;rw [List.take_succ_eq_append_getElem hk', List.map_append, List.map_append]; rfl
theorem own_intsR {w : World} {base : Nat} {v : Value} {xs : List Int} {n : Nat} (h : w.ownsRow base 3 1 v n (xs.map intV)) (hx : ∀ x ∈ xs, I64 x) : IntsR w w.heap.size v xs := by obtain ⟨bs, h1, h2, h3⟩ := OwnRow.of_owns h;exact OwnInts.reads (e := 3) (bs := bs) ⟨h1, hx⟩ h1.lt
theorem own_lower {w : World} {base base' n : Nat} {v : Value} {vs : List Value} (h : w.ownsRow base 3 1 v n vs) (hb : base' ≤ base) : w.ownsRow base' 3 1 v n vs := by
  obtain ⟨h1, h2⟩ := h;refine ⟨h1, ?_⟩;rcases h2 with h2 | ⟨g, cap, cur, e, k1, k2⟩
  · exact .inl h2
  · exact .inr ⟨g, cap, cur, e, by omega, k2⟩
def NearRel (es : Ends) (w : World) (v i : Value) (wr : World) : Prop :=
  ∃ k : Nat, k ≤ es.length ∧ i = .int .i64 k ∧ wr.ownsRow w.heap.size 3 1 v k ((nearL (es.take k)).map intV) ∧ Below w.heap.size w wr
theorem spec_neNear (ve vi vn : Value) (n : Net) (v : Nat) (es : Ends) (w : World) (h : NetR w w.heap.size ve vi vn n) (hv : n.es[v]? = some es) (hl : es.length ≤ 2000000) :
  Calls Tryz.prog 113 #[.agg #[ve, vi, vn], .int .i64 (v : Int)] w fun e w' => ∃ u, e = .returned u ∧ (∃ A m c, u = .slice A m c) ∧ IntsR w' w'.heap.size u (nearL es) ∧ Below w.heap.size w w' ∧ w'.ownsRow w.heap.size 3 1 u es.length ((nearL es).map intV) := by
 obtain ⟨-, ⟨A1, m1, c1, rfl⟩, A2, m2, c2, rfl⟩ := h.slices;obtain ⟨A0, c0, rfl, -, hmx, h0⟩ := h.e;obtain ⟨w0, hw0, hb0, HD, hlt0, HS0⟩ := box3 w (.slice A0 n.es.length c0) (.slice A1 m1 c1) (.slice A2 m2 c2) 27;have hvl : v < n.es.length := (List.getElem?_eq_some_iff.1 hv).1;obtain ⟨ad, rfl, hab, hac⟩ := h0 (by omega);obtain ⟨u, hu, hr⟩ := hac v es hv;have hcu := (hb0.cell (p := ad.add v) (by rw [block_add]; exact hab)).trans hu;replace hr := hr.below hb0;obtain ⟨A', c', rfl, g1, g2, g3, g4⟩ := hr;have HI := Lib.hid g3; clear g3;unfold maxLen at hmx;clear hac h0 h;have HW0 := Lib.hid hw0;have hcu' := hcu;rw [hw0] at hcu';clear hw0;obtain ⟨q0, q1, q2, qf⟩ := cells3 HD;go_enter Tryz.func113, Tryz.ntmps113;go_wp2_with fail;rw [← HW0.out];go_loopw [5, 7, 14] (fun v _ i wr => NearRel es w0 v i wr) (fun _ _ i _ => es.length - (intOf i).toNat)
 case atStart => exact ⟨0, Nat.zero_le _, rfl, World.ownsRow_nil _ _ _ _, Below.refl _ _⟩
 case round =>
  obtain ⟨k, hk, rfl, hown, hbl⟩ := hrel;by_cases hlt : k < es.length
  ·
   obtain ⟨e, he⟩ : ∃ p, es[k]? = some p := ⟨es[k], List.getElem?_eq_getElem hlt⟩
   obtain ⟨b, o, rfl, hb, hc⟩ := g4 (by omega);have r0 := (hbl.cell (p := ⟨b, o + k * 2, none⟩) (by show b < _; omega)).trans (hc k e he).1;have r1 := (hbl.cell (p := ⟨b, o + k * 2 + 1, none⟩) (by show b < _; omega)).trans (hc k e he).2;have HN := Lib.hid (near_snoc es k e he);clear hc g4 he;have hba := hbl.alloc hbl.size (.cells #[.int .i64 e.1, .int .i64 e.2] 74);go_wp2_with ((at_builtin; refine wpList_append1 (wr.alloc (.cells #[.int .i64 e.1, .int .i64 e.2] 74)) rfl (.tmp 18) (.tmp 21) 25 rfl w0.heap.size 3 _ 8 Tryz.underlying25 intInfo rfl _ _ _ rfl _ rfl (by show Value.slice (some ⟨wr.heap.size + 1, 0, none⟩) 1 1 = _; simp) (hown.alloc _) (by unfold maxLen; omega) (by omega) hba.size ?_; intro v' w' hown' hbl' hgr' hlt' hob'))
   go_roundw
   case rel => exact ⟨k + 1, by omega, by go_num, by rw [HN.out]; exact hown', hba.trans hbl'⟩
   case measure => simp [intOf]; omega
  ·
   have e1 : es.take k = es := List.take_of_length_le (by omega);rw [e1] at hown;have hI := own_intsR hown (fun x hx => by unfold nearL at hx; obtain ⟨p, hp, rfl⟩ := List.mem_map.1 hx; exact (HI.out p hp).1);have HO := Lib.hid hI; clear hI;have hke : k = es.length := by omega
   have HOW := Lib.hid (own_lower (hke ▸ hown) hb0.size); clear hown hke;go_wp2_with fail;go_ret;exact ⟨_, rfl, HO.out.isSlice, HO.out, bl_trans hb0 hbl, HOW.out⟩
noncomputable def idsB (ids : List Int) (k : Nat) : Bool := propB (idsP ids k)
def IdsTo (ids : List Int) (k : Nat) : Prop := ∀ (i : Nat) (x : Int), i < k → ids[i]? = some x → (1 ≤ x ∧ x ≤ 999999) ∧ x ∉ ids.take i
theorem IdsTo.next {ids : List Int} {k : Nat} {x : Int} (h : IdsTo ids k) (hx : ids[k]? = some x) (h1 : inB x 1 999999 = true) (h2 : hasB (ids.take k) x = false) : IdsTo ids (k + 1) := fun i y hi hy => by
  by_cases e : i = k
  · subst e
    obtain rfl := Option.some.inj (hx.symm.trans hy);unfold inB at h1;exact ⟨by simpa using h1, fun hm => by rw [hasB_t hm] at h2; cases h2⟩
  · exact h i y (by omega) hy
theorem ids_no {ids : List Int} {k i : Nat} {x : Int} (hx : ids[i]? = some x) (h : inB x 1 999999 = false ∨ hasB (ids.take i) x = true) : idsB ids k = false := propB_f fun hp => by
  have := ids_loop.2 ⟨hp.1, hp.2.1⟩ i x hx;rcases h with h | h
  · rw [inB_t this.1] at h; cases h
  · exact this.2 (propB_iff.1 h)
theorem ids_end {ids : List Int} {k j : Nat} (h : IdsTo ids j) (hj : ids.length ≤ j) : idsB ids k = (decide (ids.length = 0) || decide (ids.length = k)) := by
  have hp := ids_loop.1 fun i x hx => h i x (by have := (List.getElem?_eq_some_iff.1 hx).1; omega) hx
  have e : idsP ids k ↔ (ids.length = 0 ∨ ids.length = k) := by unfold idsP;rw [← List.length_eq_zero_iff (l := ids)];exact ⟨fun h => h.2.2, fun h => ⟨hp.1, hp.2, h⟩⟩
  unfold idsB;by_cases h1 : ids.length = 0
  · rw [propB_t (e.2 (.inl h1)), decide_eq_true h1]; rfl
  · by_cases h2 : ids.length = k
    · rw [propB_t (e.2 (.inr h2)), decide_eq_true h2, Bool.or_true]
    · rw [propB_f fun h => by rcases e.1 h with h | h; exact h1 h; exact h2 h, decide_eq_false h1, decide_eq_false h2]; rfl
theorem ints_take {w : World} {B : Nat} {ad : Addr} {c k : Nat} {xs : List Int} (hc : xs.length ≤ c) (hm : c ≤ maxLen) (hb : ad.block < B) (h : ∀ j x, xs[j]? = some x → w.cell? (ad.add j) = some (.int .i64 x)) (hI : ∀ x ∈ xs, I64 x) (hk : k ≤ xs.length) : IntsR w B (.slice (some ad) k c) (xs.take k) := by
  have hl : (xs.take k).length = k := by simp; omega
  refine ⟨⟨some ad, c, by rw [List.length_map, hl], by rw [List.length_map, hl]; omega, hm, fun _ => ⟨ad, rfl, hb, fun j u hu => ?_⟩⟩, fun x hx => hI x (List.mem_of_mem_take hx)⟩;rw [List.getElem?_map] at hu;cases hj : (xs.take k)[j]? with
  | none => rw [hj] at hu; cases hu
  | some z =>
    rw [hj] at hu;simp only [Option.map_some, Option.some.injEq] at hu;subst hu;rw [List.getElem?_take] at hj;split at hj
    · exact h j z hj
    · cases hj
def IdsRel (ids : List Int) (w : World) (i : Value) (wr : World) : Prop := w = wr ∧ ∃ k : Nat, k ≤ ids.length ∧ i = .int .i64 k ∧ IdsTo ids k
theorem spec_neIds (v : Value) (ids : List Int) (n : Nat) (w : World) (h : IntsR w w.heap.size v ids) (hn : n ≤ 2000000) :
  Calls Tryz.prog 144 #[v, .int .i64 (n : Int)] w fun e w' => e = .returned (.bool (idsB ids n)) ∧ w = w' := by
 obtain ⟨A, c, rfl, h1, h2, h3⟩ := h.open_;have HI := Lib.hid h.2;unfold maxLen at h2;clear h;go_enter Tryz.func144, Tryz.ntmps144;go_wp2_with fail;go_loopw [9, 5, 6] (fun i _ _ wr => IdsRel ids w i wr) (fun i _ _ _ => ids.length - (intOf i).toNat)
 case atStart => exact ⟨rfl, 0, Nat.zero_le _, rfl, fun _ _ h => absurd h (by omega)⟩
 case round =>
  obtain ⟨rfl, k, hk, rfl, hup⟩ := hrel;have HU := Lib.hid hup; clear hup;by_cases hlt : k < ids.length
  ·
   obtain ⟨y, hy⟩ : ∃ y, ids[k]? = some y := ⟨ids[k], List.getElem?_eq_getElem hlt⟩
   obtain ⟨ad, rfl, hb, hc⟩ := h3 (by omega);have hcell := hc k y hy;have HX := Lib.hid hy;have J := Lib.hid (spec_l1Has (.slice (some ad) k c) (ids.take k) y w (ints_take h1 (by unfold maxLen; exact h2) hb hc HI.out hk));clear h3 hc hy;cases hp : inB y 1 999999 with
   | false =>
    go_wp2_with (go_at_call 46; refine (spec_l1In _ _ _ _).mono ?_; rintro e w' ⟨rfl, rfl⟩)
    go_ret;exact ⟨ret_bool (ids_no HX.out (.inl hp)).symm, rfl⟩
   | true =>
    cases hq : hasB (ids.take k) y with
    | true =>
     go_wp2_with (first | (go_at_call 46; refine (spec_l1In _ _ _ _).mono ?_; rintro e w' ⟨rfl, rfl⟩) | (go_at_call 43; refine J.out.mono ?_; rintro e w' ⟨rfl, rfl⟩))
     go_ret;exact ⟨ret_bool (ids_no HX.out (.inr hq)).symm, rfl⟩
    | false =>
     go_wp2_with (first | (go_at_call 46; refine (spec_l1In _ _ _ _).mono ?_; rintro e w' ⟨rfl, rfl⟩) | (go_at_call 43; refine J.out.mono ?_; rintro e w' ⟨rfl, rfl⟩))
     go_roundw
     case rel => exact ⟨rfl, k + 1, by omega, by go_num, HU.out.next HX.out hp hq⟩
     case measure => simp [intOf]; omega
  ·
   have HE := Lib.hid (ids_end (k := n) HU.out (by omega));go_wp2_with fail
   all_goals
    go_ret;refine ⟨ret_bool ?_, rfl⟩;rw [HE.out, Bool.eq_iff_iff];simp only [Bool.or_eq_true, decide_eq_true_eq, beq_iff_eq, true_iff];rename_i h0
    first | (rw [h0]; simp; done) | (have h1 : ids.length ≠ 0 := fun e => h0 (List.eq_nil_of_length_eq_zero e); constructor <;> intro h <;> omega)
theorem inB_nat {x : Int} {m : Nat} (h : inB x 0 ((m : Int) - 1) = true) : ∃ a : Nat, x = a ∧ a < m := by
  unfold inB at h;have h' : 0 ≤ x ∧ x ≤ (m : Int) - 1 := by simpa using h
  exact ⟨x.toNat, by omega, by omega⟩
theorem EndssR.at_ {w : World} {S : Nat → Prop} {ad : Addr} {c m : Nat} {ess : List Ends} (h : EndssR w S (.slice (some ad) m c) ess) {k : Nat} {es : Ends} (hk : ess[k]? = some es) : S ad.block ∧ ∃ u, w.cell? (ad.add k) = some u ∧ EndsR w S u es := by obtain ⟨A, c', e, h1, h2, h3⟩ := h;obtain ⟨ad', e', hb, hc⟩ := h3 (by have := (List.getElem?_eq_some_iff.1 hk).1; omega);cases e;cases e';exact ⟨hb, hc k es hk⟩
theorem EndsR.at_ {w : World} {S : Nat → Prop} {b o c m : Nat} {es : Ends} (h : EndsR w S (.slice (some ⟨b, o, none⟩) m c) es) {k : Nat} {e : Int × Int} (hk : es[k]? = some e) : S b ∧ w.cell? ⟨b, o + k * 2, none⟩ = some (.int .i64 e.1) ∧ w.cell? ⟨b, o + k * 2 + 1, none⟩ = some (.int .i64 e.2) := by obtain ⟨A, c', e', h1, h2, h3, h4⟩ := h;obtain ⟨b', o', e2, hb, hc⟩ := h4 (by have := (List.getElem?_eq_some_iff.1 hk).1; omega);cases e';cases e2;exact ⟨hb, hc k e hk⟩
def PlainTo (n : Net) (k : Nat) : Prop := ∀ (v : Nat) (l : Ends), v < k → n.es[v]? = some l → (v : Int) ∉ nearL l
def PlRel (n : Net) (w : World) (i : Value) (wr : World) : Prop := Below w.heap.size w wr ∧ ∃ k : Nat, k ≤ n.es.length ∧ i = .int .i64 k ∧ PlainTo n k
theorem PlainTo.next {n : Net} {k : Nat} {l : Ends} (h : PlainTo n k) (hl : n.es[k]? = some l) (hn : hasB (nearL l) k = false) : PlainTo n (k + 1) := fun v l' hv hl' => by
  by_cases e : v = k
  · subst e
    obtain rfl := Option.some.inj (hl.symm.trans hl');intro hm;rw [hasB_t hm] at hn;cases hn
  · exact h v l' (by omega) hl'
theorem PlainTo.plain {n : Net} {k : Nat} (h : PlainTo n k) (hk : n.es.length ≤ k) : plainB n = true := propB_t fun v l hl e he hev => h v l (by have := (List.getElem?_eq_some_iff.1 hl).1; omega) hl (List.mem_map.2 ⟨e, he, hev⟩)
theorem plain_no {n : Net} {k : Nat} {l : Ends} (hl : n.es[k]? = some l) (hn : hasB (nearL l) k = true) : plainB n = false := propB_f fun h => by obtain ⟨e, he, hev⟩ := List.mem_map.1 (propB_iff.1 hn);exact h k l hl e he hev
theorem netP.len {n : Net} (h : netP n) {v : Nat} {l : Ends} (hl : n.es[v]? = some l) : l.length ≤ 6 := (h.2.2.2.2 v l hl).1
theorem EndssR.len_slice {w : World} {S : Nat → Prop} {A : Option Addr} {m c : Nat} {ess : List Ends} (h : EndssR w S (.slice A m c) ess) : m = ess.length ∧ m ≤ c ∧ c ≤ maxLen := by obtain ⟨A', c', e, h1, h2, _⟩ := h;cases e;exact ⟨rfl, h1, h2⟩
theorem spec_ruPlain (ve vi vn : Value) (n : Net) (w : World) (h : NetR w w.heap.size ve vi vn n) (hp : netP n) :
  Calls Tryz.prog 146 #[.agg #[ve, vi, vn]] w fun e w' => e = .returned (.bool (plainB n)) ∧ Below w.heap.size w w' := by
 have h40 := hp.1.2;have HP := Lib.hid hp; clear hp;obtain ⟨⟨A0, m0, c0, rfl⟩, ⟨A1, m1, c1, rfl⟩, A2, m2, c2, rfl⟩ := h.slices;obtain ⟨w0, hw0, hB, HD, hz0, HS0⟩ := box3 w (.slice A0 m0 c0) (.slice A1 m1 c1) (.slice A2 m2 c2) 27;have HN0 := Lib.hid h; have HN := Lib.hid (h.up hB); clear h;have HW0 := Lib.hid hw0; clear hw0;obtain ⟨q0, q1, q2, qf⟩ := cells3 HD;obtain ⟨hm0, -, -⟩ := HN.out.e.len_slice;subst hm0;go_enter Tryz.func146, Tryz.ntmps146;go_wp2_with fail;rw [← HW0.out];go_loopw [3, 7] (fun _ i wr => PlRel n w0 i wr) (fun _ i _ => n.es.length - (intOf i).toNat)
 case atStart => exact ⟨Below.refl _ _, 0, Nat.zero_le _, rfl, fun _ _ h => absurd h (by omega)⟩
 case round =>
  obtain ⟨hb1, k, hk, rfl, hup⟩ := hrel;have HU := Lib.hid hup; clear hup;have hzhb1 := hb1.size;clear q0 q1 q2 qf;replace HD := bk HD hb1;replace HN := Lib.hid (HN.out.up hb1);replace hB := bl_trans hB hb1;obtain ⟨q0, q1, q2, qf⟩ := cells3 HD;by_cases hlt : k < n.es.length
  ·
   obtain ⟨l, hl⟩ : ∃ y, n.es[k]? = some y := ⟨n.es[k], List.getElem?_eq_getElem hlt⟩
   have HL := Lib.hid hl; clear hl;go_wp2_with fail;refine (spec_neNear _ _ _ n k l wr HN.out HL.out (by have := HP.out.len HL.out; omega)).mono ?_;rintro e w2 ⟨u, rfl, ⟨A', m', c', rfl⟩, hu, hb2, -⟩;have HQ := Lib.hid hu; clear hu;have hzhb2 := hb2.size;clear q0 q1 q2 qf;replace HD := bk HD hb2;replace HN := Lib.hid (HN.out.up hb2);replace hB := bl_trans hB hb2;obtain ⟨q0, q1, q2, qf⟩ := cells3 HD;go_wp2_with fail;refine (spec_l1Has _ (nearL l) (k : Int) w2 HQ.out).mono ?_;rintro e w3 ⟨rfl, rfl⟩;cases hq : hasB (nearL l) (k : Int) with
   | true =>
    go_wp2_with fail;go_ret;exact ⟨ret_bool (plain_no HL.out hq).symm, hB⟩
   | false =>
    go_wp2_with fail;go_roundw
    case rel => exact ⟨bl_trans hb1 hb2, k + 1, by omega, by go_num, HU.out.next HL.out hq⟩
    case measure => simp [intOf]; omega
  · go_wp2_with fail;go_ret;exact ⟨ret_bool (HU.out.plain (by omega)).symm, hB⟩
end
section
open Go.RowKit
set_option linter.all false
theorem spec_l1Most (a b : Int) (w : World) :
    Calls Tryz.prog 83 #[.int .i64 a, .int .i64 b] w fun e w' => e = .returned (.int .i64 (if a > b then a else b)) ∧ w = w' := by
  by_cases h : a > b
  · go_enter Tryz.func83, Tryz.ntmps83
    go_wp2;go_ret;exact ⟨rfl, rfl⟩
  · go_enter Tryz.func83, Tryz.ntmps83
    go_wp2;go_ret;exact ⟨rfl, rfl⟩
theorem spec_l1Least (a b : Int) (w : World) :
    Calls Tryz.prog 114 #[.int .i64 a, .int .i64 b] w fun e w' => e = .returned (.int .i64 (if a < b then a else b)) ∧ w = w' := by
  by_cases h : a < b
  · go_enter Tryz.func114, Tryz.ntmps114
    go_wp2;go_ret;exact ⟨rfl, rfl⟩
  · go_enter Tryz.func114, Tryz.ntmps114
    go_wp2;go_ret;exact ⟨rfl, rfl⟩
def MostRel (xs : List Int) (w : World) (o i : Value) (wr : World) : Prop := w = wr ∧ ∃ k : Nat, k ≤ xs.length ∧ i = .int .i64 k ∧ o = .int .i64 (most (xs.take k))
theorem most_snoc {xs : List Int} {k : Nat} {x : Int} (h : xs[k]? = some x) : most (xs.take (k + 1)) = if most (xs.take k) > x then most (xs.take k) else x := by obtain ⟨hk, rfl⟩ := List.getElem?_eq_some_iff.1 h;rw [List.take_succ_eq_append_getElem hk];unfold most;rw [List.foldl_append];rfl
theorem spec_meMost (v : Value) (xs : List Int) (w : World) (h : IntsR w w.heap.size v xs) :
    Calls Tryz.prog 110 #[v] w fun e w' => e = .returned (.int .i64 (most xs)) ∧ w = w' := by
  obtain ⟨A, c, rfl, h1, h2, h3⟩ := h.open_;unfold maxLen at h2;clear h;go_enter Tryz.func110, Tryz.ntmps110;go_wp2_with fail;go_loopw [3, 5, 8] (fun o _ i wr => MostRel xs w o i wr) (fun _ _ i _ => xs.length - (intOf i).toNat)
  case atStart => exact ⟨rfl, 0, Nat.zero_le _, rfl, rfl⟩
  case round =>
    obtain ⟨rfl, k, hk, rfl, rfl⟩ := hrel;by_cases hlt : k < xs.length
    · obtain ⟨y, hy⟩ : ∃ y, xs[k]? = some y := ⟨xs[k], List.getElem?_eq_getElem hlt⟩
      obtain ⟨ad, rfl, hb, hc⟩ := h3 (by omega);have hcell := hc k y hy;have HM := Lib.hid (most_snoc hy);clear h3 hc hy;generalize most (xs.take k) = q at *;go_wp2_with (go_at_call 83; refine (spec_l1Most _ _ _).mono ?_; rintro e w' ⟨rfl, rfl⟩)
      go_roundw
      case rel => exact ⟨rfl, k + 1, by omega, by go_num, by rw [HM.out]⟩
      case measure => simp [intOf]; omega
    · have e1 : xs.take k = xs := List.take_of_length_le (by omega)
      rw [e1];go_wp2;go_ret;exact ⟨rfl, rfl⟩
theorem degs_snoc (n : Net) (k : Nat) (l : Ends) (h : n.es[k]? = some l) : ((degs n).take (k + 1)).map intV = ((degs n).take k).map intV ++ [.int .i64 (l.length : Int)] := by
  have h' : (degs n)[k]? = some (l.length : Int) := by unfold degs; rw [List.getElem?_map, h]; rfl
  obtain ⟨hk', e⟩ := List.getElem?_eq_some_iff.1 h';rw [List.take_succ_eq_append_getElem hk', List.map_append, e]; rfl
def IntsRel (xs : List Int) (w : World) (v i : Value) (wr : World) : Prop :=
  ∃ k : Nat, k ≤ xs.length ∧ i = .int .i64 k ∧ wr.ownsRow w.heap.size 3 1 v k ((xs.take k).map intV) ∧ Below w.heap.size w wr
theorem IntsRel.fin {xs : List Int} {w wr : World} {v : Value} {k : Nat} (h : wr.ownsRow w.heap.size 3 1 v k ((xs.take k).map intV)) (hk : xs.length ≤ k) (hx : ∀ x ∈ xs, I64 x) : IntsR wr wr.heap.size v xs := by rw [List.take_of_length_le hk] at h;exact own_intsR h hx
theorem ints_snoc {xs : List Int} {k : Nat} {x : Int} (h : xs[k]? = some x) : (xs.take (k + 1)).map intV = (xs.take k).map intV ++ [.int .i64 x] := by obtain ⟨hk', e⟩ := List.getElem?_eq_some_iff.1 h;rw [List.take_succ_eq_append_getElem hk', List.map_append, e]; rfl
theorem small_I64 {x a b : Int} (h : a ≤ x ∧ x ≤ b) (ha : -1000000000 ≤ a) (hb : b ≤ 1000000000) : I64 x := by unfold I64; omega
theorem spec_neDegrees (ve vi vn : Value) (n : Net) (w : World) (h : NetR w w.heap.size ve vi vn n) (hp : netP n) :
  Calls Tryz.prog 111 #[.agg #[ve, vi, vn]] w fun e w' => ∃ u, e = .returned u ∧ (∃ A m c, u = .slice A m c) ∧ IntsR w' w'.heap.size u (degs n) ∧ Below w.heap.size w w' := by
 have h40 := hp.1.2;have HP := Lib.hid hp; clear hp;obtain ⟨⟨A0, m0, c0, rfl⟩, ⟨A1, m1, c1, rfl⟩, A2, m2, c2, rfl⟩ := h.slices;obtain ⟨w0, hw0, hB, HD, hz0, HS0⟩ := box3 w (.slice A0 m0 c0) (.slice A1 m1 c1) (.slice A2 m2 c2) 27;have HN0 := Lib.hid h; have HN := Lib.hid (h.up hB); clear h;have HW0 := Lib.hid hw0; clear hw0;obtain ⟨q0, q1, q2, qf⟩ := cells3 HD;obtain ⟨hm0, -, -⟩ := HN.out.e.len_slice;subst hm0;have hdl : (degs n).length = n.es.length := by unfold degs; simp
 have HDL := Lib.hid hdl; clear hdl;go_enter Tryz.func111, Tryz.ntmps111;go_wp2_with fail;rw [← HW0.out];go_loopw [3, 5, 9] (fun v _ i wr => IntsRel (degs n) w0 v i wr) (fun _ _ i _ => n.es.length - (intOf i).toNat)
 case atStart => exact ⟨0, Nat.zero_le _, rfl, World.ownsRow_nil _ _ _ _, Below.refl _ _⟩
 case round =>
  obtain ⟨k, hk, rfl, hown, hb1⟩ := hrel;rw [HDL.out] at hk;have hzhb1 := hb1.size;clear q0 q1 q2 qf;replace HD := bk HD hb1;replace HN := Lib.hid (HN.out.up hb1);replace hB := bl_trans hB hb1;obtain ⟨q0, q1, q2, qf⟩ := cells3 HD;by_cases hlt : k < n.es.length
  ·
   obtain ⟨l, hl⟩ : ∃ y, n.es[k]? = some y := ⟨n.es[k], List.getElem?_eq_getElem hlt⟩
   obtain ⟨ad, rfl⟩ : ∃ ad, A0 = some ad := by obtain ⟨A', c', e, -, -, h3⟩ := HN.out.e;obtain ⟨ad, e', -⟩ := h3 (by omega);cases e;exact ⟨ad, e'⟩
   obtain ⟨hbb, u, hu, hr⟩ := HN.out.e.at_ hl;obtain ⟨A', c', rfl, -⟩ := hr;have hl6 := HP.out.len hl;have HS := Lib.hid (degs_snoc n k l hl);clear hl hbb;go_wp2_with ((at_builtin; refine wpList_append1 wr rfl (.tmp 13) (.tmp 16) 25 rfl w0.heap.size 3 _ 8 Tryz.underlying25 intInfo rfl _ _ _ rfl _ rfl rfl hown (by unfold maxLen; omega) (by omega) hb1.size ?_; intro v' w' hown' hbl' hgr' hlt' hob'))
   go_roundw
   case rel => exact ⟨k + 1, by rw [HDL.out]; omega, by go_num, by rw [HS.out]; exact hown', hb1.trans hbl'⟩
   case measure => simp [intOf]; omega
  · have hI := IntsRel.fin hown (by rw [HDL.out]; omega) (fun x hx => small_I64 (degs_bd HP.out x hx) (by omega) (by omega));have HO := Lib.hid hI; clear hI hown;go_wp2_with fail;go_ret;exact ⟨_, rfl, HO.out.isSlice, HO.out, hB⟩
theorem spec_ssRule (r : Int) (w : World) : Calls Tryz.prog 100 #[.int .i64 r] w fun e w' => e = .returned (.bool (inB r 1 5)) ∧ w = w' := by
  go_enter Tryz.func100, Tryz.ntmps100;go_wp2_with (go_at_call 46; refine (spec_l1In _ _ _ _).mono ?_; rintro e w' ⟨rfl, rfl⟩)
  go_ret;exact ⟨rfl, rfl⟩
/-! ### Distances -/
theorem rowOf_map (k n : Nat) (h : k ≤ n) (x : Int) : rowOf ((List.replicate k x).map intV) n (.int .i64 0) = ((List.replicate k x ++ List.replicate (n - k) 0).map intV).toArray := by unfold rowOf;simp [intV]
theorem set_map (d : List Int) (i : Nat) (x : Int) : ((d.map intV).toArray).setIfInBounds i (.int .i64 x) = ((d.set i x).map intV).toArray := by simp [List.map_set, intV]
theorem fill_set {k n : Nat} (h : k < n) : (List.replicate k (-1 : Int) ++ List.replicate (n - k) 0).set k (-1) = List.replicate (k + 1) (-1) ++ List.replicate (n - (k + 1)) 0 := by
  obtain ⟨m, hm⟩ : ∃ m, n - k = m + 1 := ⟨n - k - 1, by omega⟩
  rw [hm, show n - (k + 1) = m by omega, List.replicate_succ, List.replicate_succ', List.set_append_right _ _ (by simp), List.length_replicate, Nat.sub_self, List.set_cons_zero, List.append_assoc];rfl
def NumsAt (w : World) (g : Nat) (d : List Int) : Prop := w.heap[g]? = some (.cells (d.map intV).toArray 3 (0, 0))
theorem NumsAt.cell {w : World} {g : Nat} {d : List Int} (h : NumsAt w g d) {i : Nat} {x : Int} (hx : d[i]? = some x) : w.cell? ⟨g, i, none⟩ = some (.int .i64 x) := by rw [cell_of_row _ _ i _ _ (0, 0) h, ← Array.getElem?_toList];simp [hx, intV]
theorem NumsAt.frozen {w : World} {g : Nat} {d : List Int} (h : NumsAt w g d) (i : Nat) : w.frozen? ⟨g, i, none⟩ = false := frozen_of_row _ _ i _ _ h
theorem NumsAt.set {w : World} {g : Nat} {d : List Int} (h : NumsAt w g d) (i : Nat) (x : Int) : NumsAt (w.setCell ⟨g, i, none⟩ (.int .i64 x)) g (d.set i x) := by unfold NumsAt;rw [heap_set_same h, set_map]
theorem NumsAt.keep {w w' : World} {g : Nat} {d : List Int} (h : NumsAt w g d) (hk : w'.heap[g]? = w.heap[g]?) : NumsAt w' g d := hk.trans h
theorem NumsAt.lt {w : World} {g : Nat} {d : List Int} (h : NumsAt w g d) : g < w.heap.size := by
  rcases Nat.lt_or_ge g w.heap.size with h' | h'
  · exact h'
  · unfold NumsAt at h
    rw [Array.getElem?_eq_none h'] at h;cases h
theorem own_keep {w w' : World} {base n : Nat} {v : Value} {vs : List Value} (h : w.ownsRow base 3 1 v n vs) (hs : w.heap.size ≤ w'.heap.size) (hk : ∀ b, base ≤ b → w'.heap[b]? = w.heap[b]?) : w'.ownsRow base 3 1 v n vs := by
  obtain ⟨h1, h2⟩ := h;refine ⟨h1, ?_⟩;rcases h2 with h2 | ⟨g, cap, cur, e, k1, k2, k3⟩
  · exact .inl h2
  · exact .inr ⟨g, cap, cur, e, k1, (hk g k1).trans k2, k3⟩
theorem kept_below {w w' : World} {base : Nat} {e : TypeId} {v : Value} {n : Nat} {vs : List Value} (h : w.ownsRow base e 1 v n vs) (hb : Below w.heap.size w w') : w'.ownsRow base e 1 v n vs :=
  h.kept (row := none) ⟨hb.os, hb.tape, hb.output, hb.size, fun j hj _ => hb.block j hj⟩ (by cases h : Value.ownBlock v <;> simp)
def FillRel (n g : Nat) (w0 : World) (i : Value) (wr : World) : Prop := ∃ k : Nat, k ≤ n ∧ i = .int .i64 k ∧ NumsAt wr g (List.replicate k (-1) ++ List.replicate (n - k) 0) ∧ Below w0.heap.size w0 wr
theorem own_cells {w : World} {base n : Nat} {v : Value} {xs : List Int} (h : w.ownsRow base 3 1 v n (xs.map intV)) (hn : 0 < xs.length) :
    ∃ g c, v = .slice (some ⟨g, 0, none⟩) xs.length c ∧ c ≤ maxLen ∧ xs.length ≤ c ∧ base ≤ g ∧ g < w.heap.size ∧ ∀ j x, xs[j]? = some x → w.cell? ⟨g, j, none⟩ = some (.int .i64 x) := by
  have hl : xs.length = n := by have := h.1; simp at this; omega
  rw [← hl] at h;obtain ⟨g, cap, e, h1, h2, h3, h4⟩ := own_some h hn;subst e;obtain ⟨bs, k1, k2, k3⟩ := OwnRow.of_owns h;obtain ⟨A, c, e, m1, m2, m3⟩ := k1.reads (B := w.heap.size) k1.lt;rw [List.length_map] at e m1 m3;obtain ⟨ad, e', m4, m5⟩ := m3 hn;cases e;cases e';refine ⟨g, _, rfl, m2, m1, h3, h4, fun j x hx => ?_⟩;have := m5 j (.int .i64 x) (by rw [List.getElem?_map, hx]; rfl);rwa [show (⟨g, 0, none⟩ : Addr).add j = ⟨g, j, none⟩ by unfold Addr.add; split <;> simp_all] at this
theorem own_slice {w : World} {base n : Nat} {v : Value} {vs : List Value} (h : w.ownsRow base 3 1 v n vs) : ∃ A c, v = .slice A n c := by
  rcases h.2 with ⟨e, e'⟩ | ⟨g, cap, cur, e, _⟩
  · exact ⟨none, 0, by rw [e, e']⟩
  · exact ⟨_, _, e⟩
theorem own_start {w : World} {base g : Nat} {x : Int} (h : w.heap[g]? = some (.cells #[.int .i64 x] 3 (0, 0))) (hb : base ≤ g) : w.ownsRow base 3 1 (.slice (some ⟨g, 0, none⟩) 1 1) 1 ([x].map intV) := by exact ⟨by simp, .inr ⟨g, 1, #[.int .i64 x], rfl, hb, h, Nat.le_refl _, by unfold maxLen; omega, by simp, by simp [intV]⟩⟩
theorem far_neg {k v : Nat} (hv : v < k) : neg ((List.replicate k (-1 : Int)).set v 0) + 1 = k := by
  have h1 := neg_set (d := List.replicate k (-1 : Int)) (j := v) (x := 0) (y := -1) (by simp [List.getElem?_replicate, hv]) (by omega) (by omega);have hn : neg (List.replicate k (-1 : Int)) = k := by unfold neg;rw [List.countP_replicate];simp
  omega
theorem Bfs.dist {es : List Ends} {D d q : List Int} (h : Bfs es D d q) : DistOk es.length d q := by obtain ⟨f, _, _, h⟩ := h;exact h
def MeRel (n : Net) (D : List Int) (w3 : World) (g : Nat) (v a : Value) (wr : World) : Prop :=
  ∃ (d wk : List Int) (k : Nat), a = .int .i64 k ∧ k ≤ wk.length ∧ NumsAt wr g d ∧ wr.ownsRow (g + 1) 3 1 v wk.length (wk.map intV) ∧ Bfs n.es D d (wk.drop k) ∧ neg d + wk.length ≤ n.es.length ∧ Below g w3 wr
def MiP (n : Net) (d0 q0 : List Int) (es : Ends) (w : Int) (k : Nat) (d wk : List Int) (j : Nat) : Prop :=
  j ≤ es.length ∧ k < wk.length ∧ wk[k]? = some w ∧ visit w.toNat es (d0, q0) = visit w.toNat (es.drop j) (d, wk.drop (k + 1)) ∧ DistOk n.es.length d (wk.drop (k + 1)) ∧ (∃ x, d[w.toNat]? = some x ∧ 0 ≤ x) ∧ neg d + wk.length ≤ n.es.length
theorem drop_at_ {es : Ends} {j : Nat} {e : Int × Int} (h : es[j]? = some e) : es.drop j = e :: es.drop (j + 1) := by obtain ⟨hj, e1⟩ := List.getElem?_eq_some_iff.1 h;rw [List.drop_eq_getElem_cons hj, e1]
theorem MiP.yes {n : Net} {d0 q0 : List Int} {es : Ends} {w : Int} {k : Nat} {d wk : List Int} {j : Nat} {e : Int × Int} {x y : Int} (h : MiP n d0 q0 es w k d wk j) (he : es[j]? = some e) (h0 : 0 ≤ e.1) (hx : d[w.toNat]? = some x) (hy : d[e.1.toNat]? = some y) (hy0 : y < 0) :
    MiP n d0 q0 es w k (d.set e.1.toNat (x + 1)) (wk ++ [e.1]) (j + 1) := by
  obtain ⟨h1, h2, h3, h4, h5, ⟨x', hx', hx0⟩, h7⟩ := h;obtain rfl := Option.some.inj (hx.symm.trans hx');obtain ⟨k1, k2, k3⟩ := h5.step hx hx0 h0 ⟨y, hy, hy0⟩;have hj : j < es.length := (List.getElem?_eq_some_iff.1 he).1;have hd : (wk ++ [e.1]).drop (k + 1) = wk.drop (k + 1) ++ [e.1] := by rw [List.drop_append_of_le_length (by omega)]
  refine ⟨by omega, by simp; omega, by rw [List.getElem?_append_left h2]; exact h3, ?_, by rw [hd]; exact k1, ⟨x, k2, hx0⟩, by simp; omega⟩;rw [h4, drop_at_ he, hd]
  conv => lhs; unfold visit
  have e1 : d.getD e.1.toNat 0 = y := by simp [List.getD, hy]
  have e2 : d.getD w.toNat 0 = x := by simp [List.getD, hx]
  simp only [e1, e2, if_pos hy0]
theorem MiP.no {n : Net} {d0 q0 : List Int} {es : Ends} {w : Int} {k : Nat} {d wk : List Int} {j : Nat} {e : Int × Int} {y : Int} (h : MiP n d0 q0 es w k d wk j) (he : es[j]? = some e) (hy : d[e.1.toNat]? = some y) (hy0 : ¬ y < 0) :
    MiP n d0 q0 es w k d wk (j + 1) := by
  obtain ⟨h1, h2, h3, h4, h5, h6, h7⟩ := h;have hj : j < es.length := (List.getElem?_eq_some_iff.1 he).1;refine ⟨by omega, h2, h3, ?_, h5, h6, h7⟩;rw [h4, drop_at_ he]
  conv => lhs; unfold visit
  have e1 : d.getD e.1.toNat 0 = y := by simp [List.getD, hy]
  simp only [e1, if_neg hy0]
theorem MiP.fin {n : Net} {D d0 q0 : List Int} {es : Ends} {w : Int} {k : Nat} {d wk : List Int} {j : Nat} (h : MiP n d0 q0 es w k d wk j) (hj : es.length ≤ j) (hes : EndsIn n.es) (hl : n.es[w.toNat]? = some es) (hb : Bfs n.es D d0 (w :: q0)) :
    Bfs n.es D d (wk.drop (k + 1)) := by
  obtain ⟨h1, h2, h3, h4, h5, h6, h7⟩ := h;have hs := hb.step hes;have e : n.es.getD w.toNat [] = es := by simp [List.getD, hl]
  rw [e, h4, List.drop_of_length_le hj] at hs;exact hs
theorem MiP.start {n : Net} {D d wk : List Int} {es : Ends} {w : Int} {k : Nat} (hw : wk[k]? = some w) (hb : Bfs n.es D d (w :: wk.drop (k + 1))) (hn : neg d + wk.length ≤ n.es.length) : MiP n d (wk.drop (k + 1)) es w k d wk 0 := by obtain ⟨h1, h2, h3⟩ := hb.dist;obtain ⟨w0, x, hx, hx0⟩ := h3 w (by simp);exact ⟨Nat.zero_le _, (List.getElem?_eq_some_iff.1 hw).1, hw, rfl, ⟨h1, h2, fun z hz => h3 z (by simp [hz])⟩, ⟨x, hx, hx0⟩, hn⟩
def MiRel (n : Net) (d0 q0 : List Int) (es : Ends) (w : Int) (k : Nat) (w3 w4 : World) (g lo hi : Nat) (v i : Value) (wr : World) : Prop :=
  ∃ (d wk : List Int) (j : Nat), i = .int .i64 j ∧ MiP n d0 q0 es w k d wk j ∧ NumsAt wr g d ∧ wr.ownsRow (g + 1) 3 1 v wk.length (wk.map intV) ∧ Below g w3 wr ∧
    (∀ b, lo ≤ b → b < hi → wr.heap[b]? = w4.heap[b]?) ∧ (∀ b, v.ownBlock = some b → b < lo ∨ hi ≤ b) ∧ hi ≤ wr.heap.size
set_option maxRecDepth 100000 in
set_option maxHeartbeats 2000000 in
theorem spec_meFrom (ve vi vn : Value) (n : Net) (v : Nat) (w : World) (h : NetR w w.heap.size ve vi vn n) (hp : netP n) (hv : v < n.es.length) :
  Calls Tryz.prog 179 #[.agg #[ve, vi, vn], .int .i64 (v : Int)] w fun e w' => ∃ u, e = .returned u ∧ (∃ A m c, u = .slice A m c) ∧ IntsR w' w'.heap.size u (far n.es v) ∧ Below w.heap.size w w' := by
 have h40 := hp.1.2;have HP := Lib.hid hp; clear hp;have HST := Lib.hid (far_start hv);have HFO := Lib.hid (far_ok HP.out.endsIn hv);generalize far n.es v = D at *;obtain ⟨⟨A0, m0, c0, rfl⟩, ⟨A1, m1, c1, rfl⟩, A2, m2, c2, rfl⟩ := h.slices;obtain ⟨w0, hw0, hB, HD, hz0, HS0⟩ := box3 w (.slice A0 m0 c0) (.slice A1 m1 c1) (.slice A2 m2 c2) 27;have HN0 := Lib.hid h; have HN := Lib.hid (h.up hB); clear h;have HW0 := Lib.hid hw0; clear hw0;obtain ⟨q0, q1, q2, qf⟩ := cells3 HD;obtain ⟨hm0, -, -⟩ := HN.out.e.len_slice;subst hm0;have hmk := fun W => run_make1 (P := Tryz.prog) 25 3 (.int .i64 0) 8 Tryz.underlying25 intInfo rfl n.es.length (by omega) (by omega) W
 have HW1 := Lib.hid (show w.alloc (.cells #[.slice A0 n.es.length c0, .slice A1 m1 c1, .slice A2 m2 c2] 27) = w0 from HW0.out.symm);obtain ⟨w1, hw1⟩ : ∃ z, z = w0.alloc (.cells (rowOf [] n.es.length (.int .i64 0)) 3) := ⟨_, rfl⟩
 have HQ1 := Lib.hid hw1; clear hw1;go_enter Tryz.func179, Tryz.ntmps179;go_wp2_with fail;clear hmk;rw [← HW0.out, ← HQ1.out];have hb1 : Below w0.heap.size w0 w1 := by rw [HQ1.out]; exact bl_alloc (Below.refl _ _) _
 have hN1 : NumsAt w1 (w.heap.size + 1) (List.replicate 0 (-1) ++ List.replicate (n.es.length - 0) 0) := by unfold NumsAt;rw [HQ1.out, ← HS0.out, heap_alloc_new, ← rowOf_map 0 n.es.length (Nat.zero_le _)];rfl
 have hgw : w0.heap.size ≤ w.heap.size + 1 := by rw [HS0.out]; exact Nat.le_refl _
 go_loopw [6, 17] (fun _ i wr => FillRel n.es.length (w.heap.size + 1) w0 i wr) (fun _ i _ => n.es.length - (intOf i).toNat)
 case atStart => exact ⟨0, Nat.zero_le _, rfl, hN1, hb1⟩
 case round =>
  clear hb1 hN1;obtain ⟨k, hk, rfl, hnum, hbl⟩ := hrel;have hzhbl := hbl.size;clear q0 q1 q2 qf;replace HD := bk HD hbl;replace HN := Lib.hid (HN.out.up hbl);replace hB := bl_trans hB hbl;obtain ⟨q0, q1, q2, qf⟩ := cells3 HD;by_cases hlt : k < n.es.length
  ·
   have hcell := hnum.cell (i := k) (x := 0) (by rw [List.getElem?_append_right (by simp), List.length_replicate, Nat.sub_self, List.getElem?_replicate, if_pos (by omega)]);have hfz := hnum.frozen k;have HX := Lib.hid hnum; clear hnum;go_wp2_with fail;go_roundw
   case rel => exact ⟨k + 1, by omega, by go_num, by rw [← fill_set hlt]; exact HX.out.set k (-1), hbl.setCell hgw _⟩
   case measure => simp [intOf]; omega
  ·
   have e : List.replicate k (-1 : Int) ++ List.replicate (n.es.length - k) 0 = List.replicate n.es.length (-1) := by rw [show n.es.length - k = 0 by omega, show k = n.es.length by omega]; simp
   rw [e] at hnum;have hcell := hnum.cell (i := v) (x := -1) (by rw [List.getElem?_replicate, if_pos hv]);have hfz := hnum.frozen v;have hgl := hnum.lt;have HX := Lib.hid hnum; clear hnum e;obtain ⟨w2, hw2⟩ : ∃ z, z = wr.setCell ⟨w.heap.size + 1, v, none⟩ (.int .i64 0) := ⟨_, rfl⟩
   obtain ⟨w3, hw3⟩ : ∃ z, z = w2.alloc (.cells #[.int .i64 (v : Int)] 3) := ⟨_, rfl⟩
   have hN3 : NumsAt w3 (w.heap.size + 1) ((List.replicate n.es.length (-1)).set v 0) := by have h2 := HX.out.set v 0;rw [← hw2] at h2;rw [hw3];exact h2.keep ((bl_alloc (Below.refl _ w2) _).block _ (by rw [hw2, size_setCell]; exact hgl))
   have hz2 : w2.heap.size = wr.heap.size := by rw [hw2, size_setCell]
   have hO3 := own_start (base := w.heap.size + 1 + 1) (x := (v : Int)) (show w3.heap[w2.heap.size]? = _ by rw [hw3]; exact heap_alloc_new w2 _) (by omega);have hB3 : Below (w.heap.size + 1) wr w3 := by rw [hw3, hw2]; exact (Below.setCell (p := ⟨w.heap.size + 1, v, none⟩) (Below.refl (w.heap.size + 1) wr) (Nat.le_refl _) (.int .i64 0)).alloc (by rw [size_setCell]; omega) _
   have hz3 : wr.heap.size < w3.heap.size := by rw [hw3]; simp; omega
   rw [hz2] at hO3;have H2 := Lib.hid hw2;have H3 := Lib.hid hw3;clear hw2 hw3 hz2;go_wp2_with fail;rw [← H2.out, ← H3.out];have hB' : Below w.heap.size w w3 := hB.trans (hB3.mono (by omega));replace HD := bk HD hB3 (by omega);replace HN := Lib.hid ((HN0.out.below hB').more hB'.size);have hz3' : w.heap.size + 1 < w3.heap.size := by omega
   clear hB hB3 hz3 H2 H3 HX q0 q1 q2 qf hcell hfz hbl hzhbl;have hB := hB'; clear hB';go_loopw [7, 8] (fun v a wr => MeRel n D w3 (w.heap.size + 1) v a wr) (fun _ a _ => n.es.length - (intOf a).toNat)
   case atStart => exact ⟨_, [(v : Int)], 0, rfl, Nat.zero_le _, hN3, hO3, HST.out, by have := far_neg hv; simp only [List.length_singleton]; omega, Below.refl _ _⟩
   case round =>
    clear hO3 hN3;obtain ⟨d, wk, at_, rfl, hle, hnum, hown, hbfs, hneg, hbl2⟩ := hrel;have hzr := hbl2.size;replace hB := hB.trans (hbl2.mono (by omega));replace HD := bk HD hbl2 (by omega);replace HN := Lib.hid ((HN0.out.below hB).more hB.size);have hgl2 := hnum.lt;have HM := Lib.hid hnum; clear hnum;by_cases hlt2 : at_ < wk.length
    ·
     obtain ⟨gq, cq, e7, hcm, hcl, hgq, hgq2, hcells⟩ := own_cells hown (by omega);subst e7;obtain ⟨x, hx⟩ : ∃ x, wk[at_]? = some x := ⟨_, List.getElem?_eq_getElem hlt2⟩
     have hdrop : wk.drop at_ = x :: wk.drop (at_ + 1) := by obtain ⟨_, e⟩ := List.getElem?_eq_some_iff.1 hx;rw [List.drop_eq_getElem_cons hlt2, e]
     rw [hdrop] at hbfs;obtain ⟨hx0, y, hy, hy0⟩ := hbfs.dist.2.2 x (by simp);obtain ⟨wn, rfl⟩ : ∃ wn : Nat, x = wn := ⟨x.toNat, by omega⟩
     rw [Int.toNat_natCast] at hy;have hwn : wn < n.es.length := by rw [← hbfs.dist.1]; exact (List.getElem?_eq_some_iff.1 hy).1
     obtain ⟨l, hl⟩ : ∃ l, n.es[wn]? = some l := ⟨_, List.getElem?_eq_getElem hwn⟩
     have hcx := hcells at_ _ hx;obtain ⟨q0, q1, q2, qf⟩ := cells3 HD;have HC := Lib.hid hcells; clear hcells;have HX := Lib.hid hx; clear hx;have HL := Lib.hid hl; clear hl;have HY := Lib.hid (And.intro hy hy0); clear hy hy0;have HBF := Lib.hid hbfs; clear hbfs hdrop;have hb0 := Below.refl wr.heap.size wr;unfold maxLen at hcm;go_wp2_with fail;refine wp_region_held_drew (S := fun w' => w'.cell? ⟨w.heap.size, 0, none⟩ = some (.slice A0 n.es.length c0) ∧ w'.cell? ⟨w.heap.size, 1, none⟩ = some (.slice A1 m1 c1) ∧ w'.cell? ⟨w.heap.size, 2, none⟩ = some (.slice A2 m2 c2) ∧ w'.cell? ⟨gq, at_, none⟩ = some (.int .i64 (wn : Int))) (by kernel_rfl) ?_ (fun hHeld => ?_)
     · go_keep
     refine tk 0 35 rfl rfl ?_;refine tk 1 36 rfl rfl ?_;refine tk 2 37 rfl rfl ?_;refine tk 3 38 rfl rfl ?_;refine tk 4 39 rfl rfl ?_;refine stk 7 42 ?_;refine tr 5 rfl (by kernel_rfl) (fun K hK => ?_);go_simp;go_at_call 113;have hd : Below wr.heap.size wr wr.drew := (Below.refl _ _).drew;refine (spec_neNear _ _ _ n wn l wr.drew (HN.out.below hd) HL.out (by have := HP.out.len HL.out; omega)).mono ?_;rintro e w4 ⟨u, rfl, ⟨A', m', c', rfl⟩, hu, hb4, hwo⟩;obtain ⟨A'', c'', hue, g1, g2, g3⟩ := hu.open_;cases hue;have HWO := Lib.hid (show w4.ownsRow wr.heap.size 3 1 (.slice A' (nearL l).length c') l.length ((nearL l).map intV) from hwo); clear hwo;have HU := Lib.hid (And.intro g3 hu.2); clear g3 hu;have hB4 : Below wr.heap.size wr w4 := hd.trans hb4;have hz4 := hB4.size;have t0 := (hB4.cell (p := ⟨w.heap.size, 0, none⟩) (show w.heap.size < wr.heap.size by omega)).trans q0;have t1 := (hB4.cell (p := ⟨w.heap.size, 1, none⟩) (show w.heap.size < wr.heap.size by omega)).trans q1;have t2 := (hB4.cell (p := ⟨w.heap.size, 2, none⟩) (show w.heap.size < wr.heap.size by omega)).trans q2;have t3 := (hB4.cell (p := ⟨gq, at_, none⟩) hgq2).trans hcx;clear hb4 hd;refine hK.out _ _ ?_ (fun hHeld => ?_)
     · go_keep
     clear hK K
     try simp only [Act.put, pu]
     refine stk 6 41 ?_;refine wpAnyH_done (by kernel_rfl) ?_ _;have HM4 := Lib.hid (HM.out.keep (hB4.block _ hgl2));have hown4 := kept_below hown hB4;replace HD := bk HD hB4 (by omega);replace hbl2 := hbl2.trans (hB4.mono (by omega));clear t0 t1 t2 t3 q0 q1 q2 qf hcx hHeld hown;have hlo : wr.heap.size ≤ w4.heap.size := hB4.size;have hnb : ∀ b, (Value.slice (some ⟨gq, 0, none⟩) wk.length cq).ownBlock = some b → b < wr.heap.size ∨ w4.heap.size ≤ b := fun b hb => by obtain rfl : gq = b := Option.some.inj hb;exact .inl hgq2
     have HB2 := Lib.hid hbl2; clear hbl2;go_wp2_with fail;have HLL2 := Lib.hid (show (nearL l).length = l.length by unfold nearL; simp);have hlr : l.length ≤ (nearL l).length ∧ (nearL l).length ≤ l.length := by rw [HLL2.out]; exact ⟨Nat.le_refl _, Nat.le_refl _⟩
     have hl6 : l.length ≤ 6 := HP.out.len HL.out;obtain ⟨wq, rfl⟩ : ∃ z, z = wr := ⟨_, rfl⟩
     go_loopw [7, 42] (fun v i wr' => MiRel n d (wk.drop (at_ + 1)) l (wn : Int) at_ w3 w4 (w.heap.size + 1) wq.heap.size w4.heap.size v i wr') (fun _ i _ => l.length - (intOf i).toNat)
     case atStart => exact ⟨d, wk, 0, rfl, MiP.start HX.out HBF.out hneg, HM4.out, hown4, HB2.out, fun _ _ _ => rfl, hnb, Nat.le_refl _⟩
     case round =>
      clear hnb hown4 HM4 HM;obtain ⟨d', wk', j, rfl, hmi, hnum, hown, hbl3, hsame, hob, hhi⟩ := hrel;have hgl3 := hnum.lt;have HM := Lib.hid hnum; clear hnum;have HMI := Lib.hid hmi; clear hmi;have HSM := Lib.hid hsame; clear hsame;by_cases hlt3 : j < l.length
      ·
       obtain ⟨e, he⟩ : ∃ e, l[j]? = some e := ⟨_, List.getElem?_eq_getElem hlt3⟩
       have hne : (nearL l)[j]? = some e.1 := by unfold nearL; rw [List.getElem?_map, he]; rfl
       obtain ⟨gn, cn, en, -, -, hgn, hgn2, hncell⟩ := own_cells (HLL2.out ▸ HWO.out : w4.ownsRow wq.heap.size 3 1 (.slice A' (nearL l).length c') (nearL l).length ((nearL l).map intV)) (by omega);cases en;have hc1 := (World.cell?_of_block (a := ⟨gn, j, none⟩) (HSM.out gn hgn hgn2)).trans (hncell j e.1 hne);have hein := HP.out.endsIn l (List.mem_of_getElem? HL.out) e (List.mem_of_getElem? he);obtain ⟨m, hm⟩ : ∃ m : Nat, e.1 = m := ⟨e.1.toNat, by omega⟩
       have HEM := Lib.hid hm;rw [hm] at hc1 hein;rw [Int.toNat_natCast] at hein;have HE := Lib.hid he;clear hncell hne he hm;obtain ⟨hj1, hj2, hj3, -, hj5, ⟨x, hx, hx0⟩, hj7⟩ := HMI.out;rw [Int.toNat_natCast] at hx;obtain ⟨y', hy⟩ : ∃ y, d'[m]? = some y := ⟨_, List.getElem?_eq_getElem (by rw [hj5.1]; exact hein.2)⟩
       have hc2 := HM.out.cell hy;have hf2 := HM.out.frozen m;have hc3 := HM.out.cell hx;obtain ⟨gw, cw, ew, hwm, hwl, hgw1, hgw2, hwcell⟩ := own_cells hown (by omega);subst ew;have hc4 := hwcell at_ _ hj3;have hxn := hj5.2.1 x (List.mem_of_getElem? hx);have hdl := hj5.1;have HX1 := Lib.hid hx;have HY1 := Lib.hid hy;have HDL := Lib.hid hdl;unfold maxLen at hwm;clear hwcell hx hy hj3 hj5 hdl;by_cases hy0 : y' < 0
       ·
        obtain ⟨wa, hwa⟩ : ∃ z, z = wr.setCell ⟨w.heap.size + 1, m, none⟩ (.int .i64 (x + 1)) := ⟨_, rfl⟩
        have HWA := Lib.hid hwa;have hza : wa.heap.size ≤ wr.heap.size := by rw [hwa, size_setCell]; exact Nat.le_refl _
        have hza' : wr.heap.size ≤ wa.heap.size := by rw [hwa, size_setCell]; exact Nat.le_refl _
        have hka : ∀ b, b ≠ w.heap.size + 1 → wa.heap[b]? = wr.heap[b]? := fun b hb => by rw [hwa]; exact Below.heap_setCell _ _ _ _ (by simpa using hb)
        have howna : wa.ownsRow (w.heap.size + 1 + 1) 3 1 (.slice (some ⟨gw, 0, none⟩) wk'.length cw) wk'.length (wk'.map intV) := own_keep hown hza' fun b hb => hka b (by omega)
        have hbla : Below (w.heap.size + 1) w3 wa := by rw [hwa]; exact hbl3.setCell (Nat.le_refl _) _
        have HMA := Lib.hid (show NumsAt wa (w.heap.size + 1) (d'.set m (x + 1)) by rw [hwa]; exact HM.out.set m (x + 1));have hex : wr.setCell ⟨w.heap.size + 1, m, none⟩ (.int .i64 (x + 1)) = wa := hwa.symm;have HEX := Lib.hid hex;clear hwa hex;go_wp2_with ((at_builtin; rw [HEX.out]; refine wpList_append1 wa rfl (.tmp 62) (.tmp 64) 25 rfl (w.heap.size + 1 + 1) 3 _ 8 Tryz.underlying25 intInfo rfl _ _ _ rfl _ rfl (by show Value.slice (some ⟨wr.heap.size, 0, none⟩) 1 1 = _; rw [show wr.heap.size = wa.heap.size by omega]) howna (by unfold maxLen; omega) (by omega) (by omega) ?_; intro v' w' hown' hbl' hgr' hlt' hob'))
        go_roundw
        case rel =>
         refine ⟨d'.set m (x + 1), wk' ++ [e.1], j + 1, by go_num, ?_, HMA.out.keep (hbl'.block _ (by omega)), ?_, hbla.trans (hbl'.mono (by omega)), fun b h1 h2 => ?_, fun b hb => ?_, by omega⟩
         · have h1 := HMI.out.yes HE.out (by rw [HEM.out]; omega) (by rw [Int.toNat_natCast]; exact HX1.out) (by rw [HEM.out, Int.toNat_natCast]; exact HY1.out) hy0;rw [HEM.out, Int.toNat_natCast] at h1;rw [HEM.out];exact h1
         · rw [HEM.out];rw [List.length_append, List.map_append];exact hown'
         ·
          have hne : (Value.slice (some ⟨gw, 0, none⟩) wk'.length cw).ownBlock ≠ some b := fun h => by rcases hob b h with h | h <;> omega
          rw [hgr'.block b (by omega) (fun h => hne h.symm), hka b (by omega)];exact HSM.out b h1 h2
         ·
          rcases hob' with h | ⟨g', h, h1, h2⟩
          · exact hob b (h ▸ hb)
          · obtain rfl : g' = b := Option.some.inj (h.symm.trans hb);right; omega
        case measure => simp [intOf]; omega
       ·
        go_wp2_with fail;go_roundw
        case rel => exact ⟨d', wk', j + 1, by go_num, HMI.out.no HE.out (by rw [HEM.out, Int.toNat_natCast]; exact HY1.out) hy0, HM.out, hown, hbl3, HSM.out, hob, hhi⟩
        case measure => simp [intOf]; omega
      ·
       have hlj : l.length ≤ j := by omega
       have hmb := And.intro HMI.out.2.1 HMI.out.2.2.2.2.2.2;go_wp2_with fail;refine ⟨⟨d', wk', at_ + 1, by go_num, HMI.out.2.1, HM.out, hown, HMI.out.fin hlj HP.out.endsIn (by rw [Int.toNat_natCast]; exact HL.out) HBF.out, HMI.out.2.2.2.2.2.2, hbl3⟩, ?_⟩;simp [intOf];omega
    ·
     obtain ⟨Aw, cw0, hw7⟩ := own_slice hown;subst hw7
     have HFF := Lib.hid (show D = d by
      rw [List.drop_of_length_le (by omega)] at hbfs
      exact hbfs.fin.1)
     go_wp2_with fail;go_ret;refine ⟨_, rfl, ⟨_, _, _, rfl⟩, ?_, hB⟩;obtain ⟨k1, k2⟩ := HFO.out;have h1 := HM.out;rw [← HFF.out] at h1;have h2 := ints_row (B := wr.heap.size) h1 (by unfold maxLen; omega) (fun x hx => by rcases k2 x hx with h | h <;> unfold I64 <;> omega) hgl2;rw [k1] at h2;exact h2
theorem spec_meConnected (ve vi vn : Value) (n : Net) (w : World) (h : NetR w w.heap.size ve vi vn n) (hp : netP n) :
  Calls Tryz.prog 178 #[.agg #[ve, vi, vn]] w fun e w' => e = .returned (.bool (connB n)) ∧ Below w.heap.size w w' := by
 have HP := Lib.hid hp
 have HC := Lib.hid (show allB (far n.es 0) 0 40 = connB n by
  by_cases hc : connP n
  · rw [show connB n = true from propB_t hc];exact allB_iff.2 ((conn_all hp).1 hc)
  ·
   rw [show connB n = false from propB_f hc];cases e : allB (far n.es 0) 0 40 with
   | false => rfl
   | true => exact absurd ((conn_all hp).2 (allB_iff.1 e)) hc)
 clear hp;obtain ⟨⟨A0, m0, c0, rfl⟩, ⟨A1, m1, c1, rfl⟩, A2, m2, c2, rfl⟩ := h.slices;obtain ⟨w0, hw0, hB, HD, hz0, HS0⟩ := box3 w (.slice A0 m0 c0) (.slice A1 m1 c1) (.slice A2 m2 c2) 27;have HN0 := Lib.hid h; have HN := Lib.hid (h.up hB); clear h;have HW0 := Lib.hid hw0; clear hw0;obtain ⟨q0, q1, q2, qf⟩ := cells3 HD;go_enter Tryz.func178, Tryz.ntmps178;go_wp2_with fail;rw [← HW0.out];refine (spec_meFrom _ _ _ n 0 w0 HN.out HP.out (by have := HP.out.1.1; omega)).mono ?_;rintro e w1 ⟨u, rfl, ⟨A', m', c', rfl⟩, hu, hb1⟩;have HU := Lib.hid hu; clear hu;have hzhb1 := hb1.size;clear q0 q1 q2 qf;replace HD := bk HD hb1;replace HN := Lib.hid (HN.out.up hb1);replace hB := bl_trans hB hb1;obtain ⟨q0, q1, q2, qf⟩ := cells3 HD;go_wp2_with fail;refine (spec_l1All _ (far n.es 0) 0 40 w1 HU.out).mono ?_;rintro e w2 ⟨rfl, rfl⟩;go_wp2_with fail;go_ret;exact ⟨ret_bool HC.out, hB⟩
end
section
open Go.RowKit
set_option linter.all false
def rowOk (l : Ends) : Prop := l.length = 2 ∧ ∃ e, l[0]? = some e ∧ e.2 = 1
def RingTo (n : Net) (k : Nat) : Prop := ∀ (v : Nat) (l : Ends), v < k → n.es[v]? = some l → rowOk l
theorem RingTo.next {n : Net} {k : Nat} {l : Ends} (h : RingTo n k) (hl : n.es[k]? = some l) (hr : rowOk l) : RingTo n (k + 1) := fun v l' hv hl' => by
  by_cases e : v = k
  · subst e
    obtain rfl := Option.some.inj (hl.symm.trans hl');exact hr
  · exact h v l' (by omega) hl'
theorem ring_no {n : Net} {k : Nat} {l : Ends} (hl : n.es[k]? = some l) (hr : ¬ rowOk l) : ringB n = false := propB_f fun h => hr (h.2.2.2 l (List.mem_of_getElem? hl))
theorem ring_end {n : Net} {k : Nat} (h : RingTo n k) (hk : n.es.length ≤ k) : ringB n = (decide (n.es.length > 1) && (decide ((onesN n.ins : Int) = 1) && connB n)) := by
  have hall : ∀ l ∈ n.es, rowOk l := fun l hl => by obtain ⟨v, hv⟩ := List.mem_iff_getElem?.1 hl;exact h v l (by have := (List.getElem?_eq_some_iff.1 hv).1; omega) hv
  unfold ringB connB;rw [Bool.eq_iff_iff, propB_iff, Bool.and_eq_true, Bool.and_eq_true, propB_iff, decide_eq_true_eq, decide_eq_true_eq];constructor
  · rintro ⟨h1, h2, h3, h4⟩
    exact ⟨by omega, by omega, h2⟩
  · rintro ⟨h1, h2, h3⟩
    exact ⟨by omega, h3, by omega, hall⟩
theorem ones_snoc {xs : List Int} {k : Nat} {x : Int} (h : xs[k]? = some x) : onesN (xs.take (k + 1)) = onesN (xs.take k) + (if x = 1 then 1 else 0) := by obtain ⟨hk, rfl⟩ := List.getElem?_eq_some_iff.1 h;rw [List.take_succ_eq_append_getElem hk];unfold onesN;rw [List.countP_append, List.countP_singleton];simp
theorem onesN_le (xs : List Int) : onesN xs ≤ xs.length := List.countP_le_length
theorem EndssR.some_ {w : World} {S : Nat → Prop} {A : Option Addr} {m c : Nat} {ess : List Ends} (h : EndssR w S (.slice A m c) ess) (hk : 0 < ess.length) : ∃ ad, A = some ad := by obtain ⟨A', c', e, -, -, h3⟩ := h;obtain ⟨ad, e', -⟩ := h3 hk;cases e;exact ⟨ad, e'⟩
theorem IntsR.some_ {w : World} {B : Nat} {A : Option Addr} {m c : Nat} {xs : List Int} (h : IntsR w B (.slice A m c) xs) : m = xs.length ∧ m ≤ c ∧ c ≤ maxLen ∧ (0 < xs.length → ∃ ad, A = some ad ∧ ad.block < B ∧ ∀ j x, xs[j]? = some x → w.cell? (ad.add j) = some (.int .i64 x)) := by obtain ⟨A', c', e, h1, h2, h3⟩ := h.open_;cases e;exact ⟨rfl, h1, h2, h3⟩
def RgRel (n : Net) (w : World) (o i : Value) (wr : World) : Prop := w = wr ∧ ∃ k : Nat, k ≤ n.es.length ∧ i = .int .i64 k ∧ o = .int .i64 (onesN (n.ins.take k) : Int) ∧ RingTo n k
theorem spec_ssRing (ve vi vn : Value) (n : Net) (w : World) (h : NetR w w.heap.size ve vi vn n) (hp : netP n) :
  Calls Tryz.prog 147 #[.agg #[ve, vi, vn]] w fun e w' => e = .returned (.bool (ringB n)) ∧ Below w.heap.size w w' := by
 have h40 := hp.1.2;have hil := hp.2.2.1;have HP := Lib.hid hp; clear hp;obtain ⟨⟨A0, m0, c0, rfl⟩, ⟨A1, m1, c1, rfl⟩, A2, m2, c2, rfl⟩ := h.slices;obtain ⟨w0, hw0, hB, HD, hz0, HS0⟩ := box3 w (.slice A0 m0 c0) (.slice A1 m1 c1) (.slice A2 m2 c2) 27;have HN0 := Lib.hid h; have HN := Lib.hid (h.up hB); clear h;have HW0 := Lib.hid hw0; clear hw0;obtain ⟨q0, q1, q2, qf⟩ := cells3 HD;obtain ⟨hm0, -, -⟩ := HN.out.e.len_slice;subst hm0;obtain ⟨hm2, -, hc2, hn2⟩ := HN.out.n.some_;subst hm2;have HIL := Lib.hid hil; clear hil;go_enter Tryz.func147, Tryz.ntmps147;go_wp2_with fail;rw [← HW0.out];go_loopw [3, 4, 5, 9] (fun o _ _ i wr => RgRel n w0 o i wr) (fun _ _ _ i _ => n.es.length - (intOf i).toNat)
 case atStart => exact ⟨rfl, 0, Nat.zero_le _, rfl, rfl, fun _ _ h => absurd h (by omega)⟩
 case round =>
  obtain ⟨rfl, k, hk, rfl, rfl, hup⟩ := hrel;have HU := Lib.hid hup; clear hup;by_cases hlt : k < n.es.length
  ·
   obtain ⟨l, hl⟩ : ∃ y, n.es[k]? = some y := ⟨n.es[k], List.getElem?_eq_getElem hlt⟩
   obtain ⟨ad, rfl⟩ := HN.out.e.some_ (by omega);obtain ⟨hbb, u, hu, hr⟩ := HN.out.e.at_ hl;have HR := Lib.hid hr;obtain ⟨A', c', rfl, -, -, -, h4⟩ := hr;have HL := Lib.hid hl; clear hl;have hl6 := HP.out.len HL.out;by_cases hl2 : l.length = 2
   ·
    obtain ⟨e, he⟩ : ∃ e, l[0]? = some e := ⟨_, List.getElem?_eq_getElem (by omega)⟩
    obtain ⟨b, o, rfl, -, -⟩ := h4 (by omega);obtain ⟨-, -, e1⟩ := HR.out.at_ he;rw [Nat.zero_mul, Nat.add_zero] at e1;have HE := Lib.hid he; clear he;have hl2a : l.length ≤ 2 ∧ 2 ≤ l.length := by omega
    have HL2 := Lib.hid hl2; clear hl2;by_cases h1 : e.2 = 1
    ·
     obtain ⟨x, hx⟩ : ∃ x, n.ins[k]? = some x := ⟨_, List.getElem?_eq_getElem (by rw [HIL.out]; exact hlt)⟩
     obtain ⟨ad2, rfl, -, hi⟩ := hn2 (by rw [HIL.out]; omega);have hxc := hi k x hx;have HS := Lib.hid (ones_snoc hx);have hol := onesN_le (n.ins.take k);rw [List.length_take] at hol;have HX := Lib.hid (show RingTo n (k + 1) from HU.out.next HL.out ⟨HL2.out, e, HE.out, h1⟩);rw [h1] at e1;clear hi hx h1 h4;generalize onesN (n.ins.take k) = q at *;have hki : k < n.ins.length := by rw [HIL.out]; exact hlt
     by_cases hx1 : x = 1
     ·
      subst hx1;go_wp2_with fail;go_roundw
      case rel => exact ⟨rfl, k + 1, by omega, by go_num, by rw [HS.out]; go_num, HX.out⟩
      case measure => simp [intOf]; omega
     ·
      have kq : (x == 1) = false := by simpa using hx1
      go_wp2_with fail;go_roundw
      case rel => exact ⟨rfl, k + 1, by omega, by go_num, by rw [HS.out, if_neg hx1]; go_num, HX.out⟩
      case measure => simp [intOf]; omega
    ·
     have kq : (e.2 != 1) = true := by simpa using h1
     have HF := Lib.hid (ring_no HL.out (fun h => by
      obtain ⟨e', he', h2⟩ := h.2;obtain rfl := Option.some.inj (HE.out.symm.trans he')
      exact h1 h2))
     clear h1 h4;go_wp2_with fail;go_ret;exact ⟨ret_bool HF.out.symm, hB⟩
   ·
    have HF := Lib.hid (ring_no HL.out (fun h => hl2 h.1));have kq : (((l.length : Nat) : Int) != 2) = true := by rw [bne_iff_ne]; omega
    clear h4;go_wp2_with fail;go_ret;exact ⟨ret_bool HF.out.symm, hB⟩
  ·
   have HE := Lib.hid (ring_end HU.out (by omega));have e1 : n.ins.take k = n.ins := List.take_of_length_le (by rw [HIL.out]; omega);rw [e1];clear e1;generalize ((onesN n.ins : Nat) : Int) = q at *;by_cases g1 : n.es.length > 1
   ·
    by_cases g2 : q = 1
    ·
     subst g2;go_wp2_with (go_at_call 178; refine (spec_meConnected _ _ _ n w0 HN.out HP.out).mono ?_; rintro e w1 ⟨rfl, hb1⟩)
     go_ret;exact ⟨ret_bool (by rw [HE.out]; simp [g1]), bl_trans hB hb1⟩
    ·
     have kq : (q == 1) = false := by simpa using g2
     go_wp2_with fail;go_ret;exact ⟨ret_bool (by rw [HE.out]; simp [g2]), hB⟩
   · go_wp2_with fail;go_ret;exact ⟨ret_bool (by rw [HE.out]; simp [g1]), hB⟩
noncomputable def runsB (n : Net) (r : Int) : Bool := propB (runsP n r)
theorem runs_eq (n : Net) (r : Int) : runsB n r = (plainB n && (decide (r ≠ 5) || ringB n)) := by
  unfold runsB plainB ringB runsP;rw [Bool.eq_iff_iff, propB_iff, Bool.and_eq_true, propB_iff, Bool.or_eq_true, propB_iff, decide_eq_true_eq];constructor
  · rintro ⟨h1, h2⟩
    exact ⟨h1, by by_cases e : r = 5; exact .inr (h2 e); exact .inl e⟩
  · rintro ⟨h1, h2⟩
    exact ⟨h1, fun e => by rcases h2 with h | h; exact absurd e h; exact h⟩
theorem spec_ssRuns (ve vi vn : Value) (n : Net) (r : Int) (w : World) (h : NetR w w.heap.size ve vi vn n) (hp : netP n) :
    Calls Tryz.prog 101 #[.agg #[ve, vi, vn], .int .i64 r] w fun e w' => e = .returned (.bool (runsB n r)) ∧ Below w.heap.size w w' := by
  have HP := Lib.hid hp; clear hp;have HE := Lib.hid (runs_eq n r);obtain ⟨⟨A0, m0, c0, rfl⟩, ⟨A1, m1, c1, rfl⟩, A2, m2, c2, rfl⟩ := h.slices;obtain ⟨w0, hw0, hB, HD, hz0, HS0⟩ := box3 w (.slice A0 m0 c0) (.slice A1 m1 c1) (.slice A2 m2 c2) 27;have HN0 := Lib.hid h; have HN := Lib.hid (h.up hB); clear h;have HW0 := Lib.hid hw0; clear hw0;obtain ⟨q0, q1, q2, qf⟩ := cells3 HD;go_enter Tryz.func101, Tryz.ntmps101;go_wp2_with fail;rw [← HW0.out];refine (spec_ruPlain _ _ _ n w0 HN.out HP.out).mono ?_;rintro e w1 ⟨rfl, hb1⟩;have hzhb1 := hb1.size;clear q0 q1 q2 qf;replace HD := bk HD hb1;replace HN := Lib.hid (HN.out.up hb1);replace hB := bl_trans hB hb1;obtain ⟨q0, q1, q2, qf⟩ := cells3 HD;cases h1 : plainB n with
  | false =>
    go_wp2_with fail;go_ret;exact ⟨ret_bool (by rw [HE.out, h1]; rfl), hB⟩
  | true =>
    by_cases h2 : r = 5
    · subst h2
      go_wp2_with (go_at_call 147; refine (spec_ssRing _ _ _ n w1 HN.out HP.out).mono ?_; rintro e w2 ⟨rfl, hb2⟩)
      go_ret;exact ⟨ret_bool (by rw [HE.out, h1]; simp), bl_trans hB hb2⟩
    · have kq : (r != 5) = true := by simpa using h2
      go_wp2_with fail;go_ret;exact ⟨ret_bool (by rw [HE.out, h1]; simp [h2]), hB⟩
end
end Go.Proofs.YtdghoienjegffaaGreat
namespace Go.Proofs.YtdghoienjegffaaGreat
section
open Go.RowKit
set_option linter.all false
theorem eqIn_End (a b c d : Int) (w : World) : (Op.equalIn 10000 74 (.agg #[.int .i64 a, .int .i64 b]) (.agg #[.int .i64 c, .int .i64 d])).run Tryz.prog w = .ok (a == c && b == d) w := by
  have u3 := Tryz.underlying3;have hS : Tryz.prog.underlying 74 = some (.struct (Tryz.prog.fieldsOf 74)) := by kernel_rfl
  have hp : Tryz.prog.stoodInHeld 74 = false := by kernel_rfl
  have a3 := Tryz.isAgg3;have z3 := Tryz.sizeOf3;rw [show (10000 : Nat) = 9999 + 1 from rfl, run_equalIn_agg w 9999 74 _ _ hS hp];simp only [Program.fieldsOf, Tryz.underlying74];go_simp;by_cases h1 : a = c <;> by_cases h2 : b = d <;> simp [h1, h2]
theorem endOk_of {es : List Ends} {v i a p : Nat} {e x : Int × Int} {m : Ends} (h1 : e.1 = a) (h2 : e.2 = p) (hm : es[a]? = some m) (hx : m[p]? = some x) (hv : x.1 = v ∧ x.2 = i) : endOk es v i e := by refine ⟨by omega, by omega, m, by rw [h1]; exact hm, ?_⟩;rw [h2, Int.toNat_natCast, hx, ← hv.1, ← hv.2]
theorem endOk_no1 {es : List Ends} {v i : Nat} {e : Int × Int} (h : inB e.1 0 ((es.length : Int) - 1) = false) : ¬ endOk es v i e := fun ⟨h0, _, m, hm, _⟩ => by have := (List.getElem?_eq_some_iff.1 hm).1;rw [inB_t (by omega)] at h;cases h
theorem endOk_no2 {es : List Ends} {v i a : Nat} {e : Int × Int} {m : Ends} (h1 : e.1 = a) (hm : es[a]? = some m) (h : inB e.2 0 ((m.length : Int) - 1) = false) : ¬ endOk es v i e := fun ⟨_, h0, m', hm', hx⟩ => by rw [h1, Int.toNat_natCast, hm] at hm';obtain rfl := Option.some.inj hm';have := (List.getElem?_eq_some_iff.1 hx).1;rw [inB_t (by omega)] at h;cases h
theorem endOk_no3 {es : List Ends} {v i a p : Nat} {e x : Int × Int} {m : Ends} (h1 : e.1 = a) (h2 : e.2 = p) (hm : es[a]? = some m) (hx : m[p]? = some x) (hv : ¬ (x.1 = v ∧ x.2 = i)) : ¬ endOk es v i e := fun ⟨_, _, m', hm', hx'⟩ => by rw [h1, Int.toNat_natCast, hm] at hm';obtain rfl := Option.some.inj hm';rw [h2, Int.toNat_natCast, hx] at hx';exact hv (by rw [Option.some.inj hx']; exact ⟨rfl, rfl⟩)
def NodesTo (n : Net) (k : Nat) : Prop := ∀ (v : Nat) (l : Ends), v < k → n.es[v]? = some l → nodeOk n.es v l
def EndsOkTo (n : Net) (v : Nat) (l : Ends) (k : Nat) : Prop := ∀ (i : Nat) (e : Int × Int), i < k → l[i]? = some e → endOk n.es v i e
theorem EndsOkTo.next {n : Net} {v k : Nat} {l : Ends} {e : Int × Int} (h : EndsOkTo n v l k) (he : l[k]? = some e) (ho : endOk n.es v k e) : EndsOkTo n v l (k + 1) := fun i e' hi he' => by
  by_cases e1 : i = k
  · subst e1
    obtain rfl := Option.some.inj (he.symm.trans he');exact ho
  · exact h i e' (by omega) he'
theorem NodesTo.next {n : Net} {k j : Nat} {l : Ends} (h : NodesTo n k) (hl : n.es[k]? = some l) (h6 : l.length ≤ 6) (ho : EndsOkTo n k l j) (hj : l.length ≤ j) : NodesTo n (k + 1) := fun v l' hv hl' => by
  by_cases e : v = k
  · subst e
    obtain rfl := Option.some.inj (hl.symm.trans hl');exact ⟨h6, fun i x hx => ho i x (by have := (List.getElem?_eq_some_iff.1 hx).1; omega) hx⟩
  · exact h v l' (by omega) hl'
def HeadP (n : Net) : Prop := (1 ≤ n.es.length ∧ n.es.length ≤ 40) ∧ idsP n.ids n.es.length ∧ n.ins.length = n.es.length ∧ ∀ x ∈ n.ins, 0 ≤ x ∧ x ≤ 9
theorem net_end {n : Net} {k : Nat} (hh : HeadP n) (h : NodesTo n k) (hk : n.es.length ≤ k) : netB n = true :=
  propB_t ⟨hh.1, hh.2.1, hh.2.2.1, hh.2.2.2, fun v l hl => h v l (by have := (List.getElem?_eq_some_iff.1 hl).1; omega) hl⟩
theorem net_no6 {n : Net} {k : Nat} {l : Ends} (hl : n.es[k]? = some l) (h : ¬ l.length ≤ 6) : netB n = false := propB_f fun hp => h (hp.2.2.2.2 k l hl).1
theorem net_noE {n : Net} {k j : Nat} {l : Ends} {e : Int × Int} (hl : n.es[k]? = some l) (he : l[j]? = some e) (h : ¬ endOk n.es k j e) : netB n = false := propB_f fun hp => h ((hp.2.2.2.2 k l hl).2 j e he)
theorem net_noH {n : Net} (h : ¬ HeadP n) : netB n = false := propB_f fun hp => h ⟨hp.1, hp.2.1, hp.2.2.1, hp.2.2.2.1⟩
def GdRel (n : Net) (w : World) (i : Value) (wr : World) : Prop := Below w.heap.size w wr ∧ ∃ k : Nat, k ≤ n.es.length ∧ i = .int .i64 k ∧ NodesTo n k
def GeRel (n : Net) (v : Nat) (l : Ends) (w : World) (i : Value) (wr : World) : Prop := Below w.heap.size w wr ∧ ∃ k : Nat, k ≤ l.length ∧ i = .int .i64 k ∧ EndsOkTo n v l k
theorem inAll_iff (xs : List Int) : allB xs 0 9 = true ↔ ∀ x ∈ xs, 0 ≤ x ∧ x ≤ 9 := allB_iff
set_option maxRecDepth 100000 in
set_option maxHeartbeats 2000000 in
theorem spec_neGood (ve vi vn : Value) (n : Net) (w : World) (h : NetR w w.heap.size ve vi vn n) (hz : n.es.length ≤ 2000000) :
  Calls Tryz.prog 99 #[.agg #[ve, vi, vn]] w fun e w' => e = .returned (.bool (netB n)) ∧ Below w.heap.size w w' := by
 have hgd : Tryz.prog.eqGuardType Tryz.prog.depth 74 = false := by kernel_rfl
 have heq := eqIn_End;obtain ⟨⟨A0, m0, c0, rfl⟩, ⟨A1, m1, c1, rfl⟩, A2, m2, c2, rfl⟩ := h.slices;obtain ⟨w0, hw0, hB, HD, hz0, HS0⟩ := box3 w (.slice A0 m0 c0) (.slice A1 m1 c1) (.slice A2 m2 c2) 27;have HN0 := Lib.hid h; have HN := Lib.hid (h.up hB); clear h;have HW0 := Lib.hid hw0; clear hw0;obtain ⟨q0, q1, q2, qf⟩ := cells3 HD;obtain ⟨hm0, hcc, hmx⟩ := HN.out.e.len_slice;subst hm0;obtain ⟨hm1, -, -, -⟩ := HN.out.i.some_;subst hm1;obtain ⟨hm2, hd2, hd3, -⟩ := HN.out.n.some_;subst hm2;have hmx' : n.es.length ≤ 9223372036854775807 := by unfold maxLen at hmx; omega
 have hmi' : n.ins.length ≤ 9223372036854775807 := by unfold maxLen at hd3; omega
 clear hmx hd3 hcc hd2;go_enter Tryz.func99, Tryz.ntmps99;cases g1 : inB (n.es.length : Int) 1 40 with
 | false =>
  go_wp2_with (go_at_call 46; refine (spec_l1In _ _ _ _).mono ?_; rintro e w' ⟨rfl, rfl⟩)
  go_ret;rw [← HW0.out];exact ⟨ret_bool (net_noH fun hh => by rw [inB_t (by have := hh.1; omega)] at g1; cases g1).symm, hB⟩
 | true =>
  have h40 : 1 ≤ n.es.length ∧ n.es.length ≤ 40 := by unfold inB at g1; have := of_decide_eq_true g1; omega
  go_wp2_with (go_at_call 46; refine (spec_l1In _ _ _ _).mono ?_; rintro e w' ⟨rfl, rfl⟩)
  rw [← HW0.out];refine (spec_neIds _ n.ids n.es.length w0 HN.out.i (by omega)).mono ?_;rintro e w' ⟨rfl, rfl⟩;cases g2 : idsB n.ids n.es.length with
  | false =>
   go_wp2_with fail;go_ret;exact ⟨ret_bool (net_noH fun hh => by rw [show idsB n.ids n.es.length = true from propB_t hh.2.1] at g2; cases g2).symm, hB⟩
  | true =>
   by_cases g3 : n.ins.length = n.es.length
   ·
    have kq : (((n.ins.length : Nat) : Int) != (n.es.length : Int)) = false := by rw [g3]; simp
    have HG3 := Lib.hid g3; clear g3;go_wp2_with fail;refine (spec_l1All _ n.ins 0 9 w0 HN.out.n).mono ?_;rintro e w' ⟨rfl, rfl⟩;cases g4 : allB n.ins 0 9 with
    | false =>
     go_wp2_with fail;go_ret;exact ⟨ret_bool (net_noH fun hh => by rw [(inAll_iff _).2 hh.2.2.2] at g4; cases g4).symm, hB⟩
    | true =>
     have HH := Lib.hid (show HeadP n from ⟨h40, propB_iff.1 g2, HG3.out, (inAll_iff _).1 g4⟩);go_wp2_with fail;go_loopw [3, 4, 39] (fun _ _ i wr => GdRel n w0 i wr) (fun _ _ i _ => n.es.length - (intOf i).toNat)
     case atStart => exact ⟨Below.refl _ _, 0, Nat.zero_le _, rfl, fun _ _ h => absurd h (by omega)⟩
     case round =>
      obtain ⟨hb1, k, hk, rfl, hup⟩ := hrel;have HU := Lib.hid hup; clear hup;have hzhb1 := hb1.size;clear q0 q1 q2 qf;replace HD := bk HD hb1;replace HN := Lib.hid (HN.out.up hb1);replace hB := bl_trans hB hb1;obtain ⟨q0, q1, q2, qf⟩ := cells3 HD;by_cases hlt : k < n.es.length
      ·
       obtain ⟨l, hl⟩ : ∃ y, n.es[k]? = some y := ⟨n.es[k], List.getElem?_eq_getElem hlt⟩
       obtain ⟨ad, rfl⟩ := HN.out.e.some_ (by omega);obtain ⟨hbb, u, hu, hr⟩ := HN.out.e.at_ hl;have HR := Lib.hid hr;obtain ⟨A', c', rfl, hlc, hlm, -, h4⟩ := hr;unfold maxLen at hlm;have HL := Lib.hid hl; clear hl;by_cases h6 : l.length ≤ 6
       ·
        go_wp2_with fail;obtain ⟨wq, rfl⟩ : ∃ z, z = wr := ⟨_, rfl⟩
        go_loopw [5, 6, 49] (fun _ _ i wr' => GeRel n k l wq i wr') (fun _ _ i _ => l.length - (intOf i).toNat)
        case atStart => exact ⟨Below.refl _ _, 0, Nat.zero_le _, rfl, fun _ _ h => absurd h (by omega)⟩
        case round =>
         obtain ⟨hb2, j, hj, rfl, hup2⟩ := hrel;have HU2 := Lib.hid hup2; clear hup2;have hzhb2 := hb2.size;clear q0 q1 q2 qf;replace HD := bk HD hb2;replace HN := Lib.hid (HN.out.up hb2);replace hB := bl_trans hB hb2;obtain ⟨q0, q1, q2, qf⟩ := cells3 HD;by_cases hlt2 : j < l.length
         ·
          obtain ⟨e, he⟩ : ∃ y, l[j]? = some y := ⟨_, List.getElem?_eq_getElem hlt2⟩
          obtain ⟨b, o, rfl, -, -⟩ := h4 (by omega);obtain ⟨hbb, p0, p1⟩ := (HR.out.below hb2).at_ he;obtain ⟨wv, hwv, hb3, HE, hzv, HSV⟩ := box2 wr (.int .i64 e.1) (.int .i64 e.2) 74;have HWV := Lib.hid hwv; clear hwv;have HEL := Lib.hid he; clear he;go_wp2_with fail;rw [← HWV.out];replace hb2 := bl_trans hb2 hb3;have hzhb3 := hb3.size;clear q0 q1 q2 qf;replace HD := bk HD hb3;replace HN := Lib.hid (HN.out.up hb3);replace hB := bl_trans hB hb3;obtain ⟨q0, q1, q2, qf⟩ := cells3 HD;obtain ⟨e0, e1, ef⟩ := cells2 HE;have HNS := Lib.hid (fun h => net_noE HL.out HEL.out h);cases g : inB e.1 0 ((n.es.length : Int) - 1) with
          | false =>
           have HF := Lib.hid (HNS.out (endOk_no1 g));clear HNS p0 p1;refine wp_region_held_drew (S := fun w' => w'.cell? ⟨w.heap.size, 0, none⟩ = some (.slice (some ad) n.es.length c0) ∧ w'.cell? ⟨wr.heap.size, 0, none⟩ = some (.int .i64 e.1) ∧ w'.cell? ⟨wr.heap.size, 1, none⟩ = some (.int .i64 e.2)) (by kernel_rfl) ?_ (fun hHeld => ?_)
           · go_keep
           refine stk 0 54 ?_;refine stk 1 55 ?_;refine stk 2 56 ?_;refine stk 3 57 ?_;refine stk 4 58 ?_;refine stk 5 59 ?_;refine tr 6 rfl (by kernel_rfl) (fun K hK => ?_);go_simp;go_at_call 46;refine (spec_l1In _ _ _ _).mono ?_;rintro e w' ⟨rfl, rfl⟩;rw [show IntKind.i64.wrap ((n.es.length : Int) - 1) = (n.es.length : Int) - 1 from IntWalk.i64_in _ (by omega), g];refine hK.out _ _ ?_ (fun hHeld => ?_)
           · go_keep
           clear hK K
           try simp only [Act.put, pu]
           refine stk 7 61 ?_;refine stk 8 62 ?_;refine stn 9 63 ?_;refine stn 10 64 ?_;refine stn 11 65 ?_;refine stn 12 66 ?_;refine stn 13 67 ?_;refine stn 14 68 ?_;refine stn 15 69 ?_;refine stn 16 70 ?_;refine stn 17 71 ?_;refine stn 18 72 ?_;refine stn 19 73 ?_;refine stn 20 74 ?_;refine stk 21 75 ?_;refine stk 22 76 ?_;refine stn 23 77 ?_;refine stn 24 78 ?_;refine stn 25 79 ?_;refine stn 26 80 ?_;refine stn 27 81 ?_;refine stn 28 82 ?_;refine stn 29 83 ?_;refine stn 30 84 ?_;refine stn 31 85 ?_;refine stn 32 86 ?_;refine stn 33 87 ?_;refine stn 34 88 ?_;refine stn 35 89 ?_;refine stn 36 90 ?_;refine stk 37 91 ?_;refine wpAnyH_done (by kernel_rfl) ?_ _;go_wp2_with fail;go_ret;exact ⟨ret_bool HF.out.symm, hB.drew⟩
          | true =>
           obtain ⟨a, ha, hal⟩ := inB_nat g;obtain ⟨m, hm⟩ : ∃ y, n.es[a]? = some y := ⟨_, List.getElem?_eq_getElem hal⟩
           obtain ⟨-, u2, r0, hrm⟩ := HN.out.e.at_ hm;have HRM := Lib.hid hrm;obtain ⟨Am, cm, rfl, hmc, hmm, -, h5⟩ := hrm;unfold maxLen at hmm;rw [ha] at e0 g;have HA := Lib.hid ha; clear ha;have HM := Lib.hid hm; clear hm;cases g2' : inB e.2 0 ((m.length : Int) - 1) with
           | false =>
            have HF := Lib.hid (HNS.out (endOk_no2 HA.out HM.out g2'));clear HNS p0 p1 h5;refine wp_region_held_drew (S := fun w' => w'.cell? ⟨w.heap.size, 0, none⟩ = some (.slice (some ad) n.es.length c0) ∧ w'.cell? ⟨wr.heap.size, 0, none⟩ = some (.int .i64 (a : Int)) ∧ w'.cell? ⟨wr.heap.size, 1, none⟩ = some (.int .i64 e.2) ∧ w'.cell? (ad.add a) = some (.slice Am m.length cm)) (by kernel_rfl) ?_ (fun hHeld => ?_)
            · go_keep
            refine stk 0 54 ?_;refine stk 1 55 ?_;refine stk 2 56 ?_;refine stk 3 57 ?_;refine stk 4 58 ?_;refine stk 5 59 ?_;refine tr 6 rfl (by kernel_rfl) (fun K hK => ?_);go_simp;go_at_call 46;refine (spec_l1In _ _ _ _).mono ?_;rintro e w' ⟨rfl, rfl⟩;rw [show IntKind.i64.wrap ((n.es.length : Int) - 1) = (n.es.length : Int) - 1 from IntWalk.i64_in _ (by omega), g];refine hK.out _ _ ?_ (fun hHeld => ?_)
            · go_keep
            clear hK K
            try simp only [Act.put, pu]
            refine stk 7 61 ?_;refine stk 8 62 ?_;refine stk 9 63 ?_;refine stk 10 64 ?_;refine stk 11 65 ?_;refine stk 12 66 ?_;refine stk 13 67 ?_;refine stk 14 68 ?_;refine stk 15 69 ?_;refine stk 16 70 ?_;refine stk 17 71 ?_;refine stk 18 72 ?_;refine tr 19 rfl (by kernel_rfl) (fun K hK => ?_);go_simp;go_at_call 46;refine (spec_l1In _ _ _ _).mono ?_;rintro e w' ⟨rfl, rfl⟩;rw [show IntKind.i64.wrap ((m.length : Int) - 1) = (m.length : Int) - 1 from IntWalk.i64_in _ (by omega), g2'];refine hK.out _ _ ?_ (fun hHeld => ?_)
            · go_keep
            clear hK K
            try simp only [Act.put, pu]
            refine stk 20 74 ?_;refine stk 21 75 ?_;refine stk 22 76 ?_;refine stn 23 77 ?_;refine stn 24 78 ?_;refine stn 25 79 ?_;refine stn 26 80 ?_;refine stn 27 81 ?_;refine stn 28 82 ?_;refine stn 29 83 ?_;refine stn 30 84 ?_;refine stn 31 85 ?_;refine stn 32 86 ?_;refine stn 33 87 ?_;refine stn 34 88 ?_;refine stn 35 89 ?_;refine stn 36 90 ?_;refine stk 37 91 ?_;refine wpAnyH_done (by kernel_rfl) ?_ _;go_wp2_with fail;go_ret;exact ⟨ret_bool HF.out.symm, hB.drew⟩
           | true =>
            obtain ⟨p, hp, hpl⟩ := inB_nat g2';obtain ⟨x, hx⟩ : ∃ y, m[p]? = some y := ⟨_, List.getElem?_eq_getElem hpl⟩
            obtain ⟨b2, o2, rfl, -, -⟩ := h5 (by omega);obtain ⟨-, x0, x1⟩ := HRM.out.at_ hx;rw [hp] at e1 g2';have HPP := Lib.hid hp; clear hp;have HX := Lib.hid hx; clear hx;clear p0 p1 h5;by_cases hv : x.1 = (k : Int) ∧ x.2 = (j : Int)
            ·
             have kq : (x.1 == (k : Int) && x.2 == (j : Int)) = true := by rw [hv.1, hv.2]; simp
             have HO := Lib.hid (HU2.out.next HEL.out (endOk_of HA.out HPP.out HM.out HX.out hv));clear hv HNS;refine wp_region_held_drew (S := fun w' => w'.cell? ⟨w.heap.size, 0, none⟩ = some (.slice (some ad) n.es.length c0) ∧ w'.cell? ⟨wr.heap.size, 0, none⟩ = some (.int .i64 (a : Int)) ∧ w'.cell? ⟨wr.heap.size, 1, none⟩ = some (.int .i64 (p : Int)) ∧ w'.cell? (ad.add a) = some (.slice (some ⟨b2, o2, none⟩) m.length cm) ∧ w'.cell? ⟨b2, o2 + p * 2, none⟩ = some (.int .i64 x.1) ∧ w'.cell? ⟨b2, o2 + p * 2 + 1, none⟩ = some (.int .i64 x.2)) (by kernel_rfl) ?_ (fun hHeld => ?_)
             · go_keep
             refine stk 0 54 ?_;refine stk 1 55 ?_;refine stk 2 56 ?_;refine stk 3 57 ?_;refine stk 4 58 ?_;refine stk 5 59 ?_;refine tr 6 rfl (by kernel_rfl) (fun K hK => ?_);go_simp;go_at_call 46;refine (spec_l1In _ _ _ _).mono ?_;rintro e w' ⟨rfl, rfl⟩;rw [show IntKind.i64.wrap ((n.es.length : Int) - 1) = (n.es.length : Int) - 1 from IntWalk.i64_in _ (by omega), g];refine hK.out _ _ ?_ (fun hHeld => ?_)
             · go_keep
             clear hK K
             try simp only [Act.put, pu]
             refine stk 7 61 ?_;refine stk 8 62 ?_;refine stk 9 63 ?_;refine stk 10 64 ?_;refine stk 11 65 ?_;refine stk 12 66 ?_;refine stk 13 67 ?_;refine stk 14 68 ?_;refine stk 15 69 ?_;refine stk 16 70 ?_;refine stk 17 71 ?_;refine stk 18 72 ?_;refine tr 19 rfl (by kernel_rfl) (fun K hK => ?_);go_simp;go_at_call 46;refine (spec_l1In _ _ _ _).mono ?_;rintro e w' ⟨rfl, rfl⟩;rw [show IntKind.i64.wrap ((m.length : Int) - 1) = (m.length : Int) - 1 from IntWalk.i64_in _ (by omega), g2'];refine hK.out _ _ ?_ (fun hHeld => ?_)
             · go_keep
             clear hK K
             try simp only [Act.put, pu]
             refine stk 20 74 ?_;refine stk 21 75 ?_;refine stk 22 76 ?_;refine stk 23 77 ?_;refine stk 24 78 ?_;refine stk 25 79 ?_;refine stk 26 80 ?_;refine stk 27 81 ?_;refine stk 28 82 ?_;refine stk 29 83 ?_;refine stk 30 84 ?_;refine stk 31 85 ?_;refine stk 32 86 ?_;refine stk 33 87 ?_;refine stk 34 88 ?_;refine stk 35 89 ?_;refine stk 36 90 ?_;refine stk 37 91 ?_;refine wpAnyH_done (by kernel_rfl) ?_ _;go_wp2_with fail;go_roundw
             case rel => exact ⟨hb2.drew, j + 1, by omega, by go_num, HO.out⟩
             case measure => simp [intOf]; omega
            ·
             have kq : (x.1 == (k : Int) && x.2 == (j : Int)) = false := by
              rw [Bool.and_eq_false_iff, beq_eq_false_iff_ne, beq_eq_false_iff_ne];by_cases h1 : x.1 = (k : Int)
              · exact .inr fun h2 => hv ⟨h1, h2⟩
              · exact .inl h1
             have HF := Lib.hid (HNS.out (endOk_no3 HA.out HPP.out HM.out HX.out hv));clear hv HNS;refine wp_region_held_drew (S := fun w' => w'.cell? ⟨w.heap.size, 0, none⟩ = some (.slice (some ad) n.es.length c0) ∧ w'.cell? ⟨wr.heap.size, 0, none⟩ = some (.int .i64 (a : Int)) ∧ w'.cell? ⟨wr.heap.size, 1, none⟩ = some (.int .i64 (p : Int)) ∧ w'.cell? (ad.add a) = some (.slice (some ⟨b2, o2, none⟩) m.length cm) ∧ w'.cell? ⟨b2, o2 + p * 2, none⟩ = some (.int .i64 x.1) ∧ w'.cell? ⟨b2, o2 + p * 2 + 1, none⟩ = some (.int .i64 x.2)) (by kernel_rfl) ?_ (fun hHeld => ?_)
             · go_keep
             refine stk 0 54 ?_;refine stk 1 55 ?_;refine stk 2 56 ?_;refine stk 3 57 ?_;refine stk 4 58 ?_;refine stk 5 59 ?_;refine tr 6 rfl (by kernel_rfl) (fun K hK => ?_);go_simp;go_at_call 46;refine (spec_l1In _ _ _ _).mono ?_;rintro e w' ⟨rfl, rfl⟩;rw [show IntKind.i64.wrap ((n.es.length : Int) - 1) = (n.es.length : Int) - 1 from IntWalk.i64_in _ (by omega), g];refine hK.out _ _ ?_ (fun hHeld => ?_)
             · go_keep
             clear hK K
             try simp only [Act.put, pu]
             refine stk 7 61 ?_;refine stk 8 62 ?_;refine stk 9 63 ?_;refine stk 10 64 ?_;refine stk 11 65 ?_;refine stk 12 66 ?_;refine stk 13 67 ?_;refine stk 14 68 ?_;refine stk 15 69 ?_;refine stk 16 70 ?_;refine stk 17 71 ?_;refine stk 18 72 ?_;refine tr 19 rfl (by kernel_rfl) (fun K hK => ?_);go_simp;go_at_call 46;refine (spec_l1In _ _ _ _).mono ?_;rintro e w' ⟨rfl, rfl⟩;rw [show IntKind.i64.wrap ((m.length : Int) - 1) = (m.length : Int) - 1 from IntWalk.i64_in _ (by omega), g2'];refine hK.out _ _ ?_ (fun hHeld => ?_)
             · go_keep
             clear hK K
             try simp only [Act.put, pu]
             refine stk 20 74 ?_;refine stk 21 75 ?_;refine stk 22 76 ?_;refine stk 23 77 ?_;refine stk 24 78 ?_;refine stk 25 79 ?_;refine stk 26 80 ?_;refine stk 27 81 ?_;refine stk 28 82 ?_;refine stk 29 83 ?_;refine stk 30 84 ?_;refine stk 31 85 ?_;refine stk 32 86 ?_;refine stk 33 87 ?_;refine stk 34 88 ?_;refine stk 35 89 ?_;refine stk 36 90 ?_;refine stk 37 91 ?_;refine wpAnyH_done (by kernel_rfl) ?_ _;go_wp2_with fail;go_ret;exact ⟨ret_bool HF.out.symm, hB.drew⟩
         ·
          have hl2 : l.length ≤ j := by omega
          go_wp2_with fail;refine ⟨⟨bl_trans hb1 hb2, k + 1, by omega, by go_num, HU.out.next HL.out h6 HU2.out hl2⟩, ?_⟩;simp [intOf];omega
       · have HF := Lib.hid (net_no6 HL.out h6);go_wp2_with fail;go_ret;exact ⟨ret_bool HF.out.symm, hB⟩
      · have HF := Lib.hid (net_end HH.out HU.out (by omega));go_wp2_with fail;go_ret;exact ⟨ret_bool HF.out.symm, hB⟩
   ·
    have kq : (((n.ins.length : Nat) : Int) != (n.es.length : Int)) = true := by rw [bne_iff_ne]; omega
    have HF := Lib.hid (net_noH (n := n) fun hh => g3 hh.2.2.1);clear g3;go_wp2_with fail;go_ret;exact ⟨ret_bool HF.out.symm, hB⟩
end
section
open Go.RowKit
set_option linter.all false
theorem ask_eq (n : Net) (r : Int) : askB n r = (netB n && (inB r 1 5 && runsB n r)) := by unfold askB netB runsB askP;rw [Bool.eq_iff_iff, propB_iff, Bool.and_eq_true, Bool.and_eq_true, propB_iff, propB_iff];unfold inB;rw [decide_eq_true_eq]
theorem spec_ssAsked (ve vi vn : Value) (n : Net) (r : Int) (w : World) (h : NetR w w.heap.size ve vi vn n) (hz : n.es.length ≤ 2000000) :
  Calls Tryz.prog 57 #[.agg #[ve, vi, vn], .int .i64 r] w fun e w' => e = .returned (.bool (askB n r)) ∧ Below w.heap.size w w' := by
 have HE := Lib.hid (ask_eq n r);obtain ⟨⟨A0, m0, c0, rfl⟩, ⟨A1, m1, c1, rfl⟩, A2, m2, c2, rfl⟩ := h.slices;obtain ⟨w0, hw0, hB, HD, hz0, HS0⟩ := box3 w (.slice A0 m0 c0) (.slice A1 m1 c1) (.slice A2 m2 c2) 27;have HN0 := Lib.hid h; have HN := Lib.hid (h.up hB); clear h;have HW0 := Lib.hid hw0; clear hw0;obtain ⟨q0, q1, q2, qf⟩ := cells3 HD;go_enter Tryz.func57, Tryz.ntmps57;go_wp2_with fail;rw [← HW0.out];refine (spec_neGood _ _ _ n w0 HN.out hz).mono ?_;rintro e w1 ⟨rfl, hb1⟩;have hzhb1 := hb1.size;clear q0 q1 q2 qf;replace HD := bk HD hb1;replace HN := Lib.hid (HN.out.up hb1);replace hB := bl_trans hB hb1;obtain ⟨q0, q1, q2, qf⟩ := cells3 HD;cases h1 : netB n with
 | false =>
  go_wp2_with fail;go_ret;exact ⟨ret_bool (by rw [HE.out, h1]; rfl), hB⟩
 | true =>
  have HP := Lib.hid (propB_iff.1 h1);cases h2 : inB r 1 5 with
  | false =>
   go_wp2_with (go_at_call 100; refine (spec_ssRule _ _).mono ?_; rintro e w2 ⟨rfl, rfl⟩)
   go_ret;exact ⟨ret_bool (by rw [HE.out, h1, h2]; rfl), hB⟩
  | true =>
   go_wp2_with (first | (go_at_call 100; refine (spec_ssRule _ _).mono ?_; rintro e w2 ⟨rfl, rfl⟩) | (go_at_call 101; refine (spec_ssRuns _ _ _ n r w1 HN.out HP.out).mono ?_; rintro e w2 ⟨rfl, hb2⟩))
   go_ret;exact ⟨ret_bool (by rw [HE.out, h1, h2]; rfl), bl_trans hB hb2⟩
def cntAt (n : Net) (r : Int) (l : Ends) : Int := if r = 2 then most (degs n) + 1 else if r = 3 then 2 else if r = 4 then (l.length : Int) + 1 else n.es.length + 1
theorem cnts_at {n : Net} {r : Int} {v : Nat} {l : Ends} (h : n.es[v]? = some l) : (cnts n r)[v]? = some (cntAt n r l) := by
  have hv : v < n.es.length := (List.getElem?_eq_some_iff.1 h).1;unfold cnts cntAt;split
  · rw [List.getElem?_replicate, if_pos hv]
  split
  · rw [List.getElem?_replicate, if_pos hv]
  split
  · unfold degs
    rw [List.getElem?_map, List.getElem?_map, h];rfl
  · rw [List.getElem?_replicate, if_pos hv]
theorem spec_ssCount (ve vi vn : Value) (n : Net) (r : Int) (v : Nat) (l : Ends) (w : World) (h : NetR w w.heap.size ve vi vn n) (hp : netP n) (hl : n.es[v]? = some l) :
  Calls Tryz.prog 63 #[.agg #[ve, vi, vn], .int .i64 r, .int .i64 (v : Int)] w fun e w' => e = .returned (.int .i64 (cntAt n r l)) ∧ Below w.heap.size w w' := by
 have h40 := hp.1.2;have hl6 := hp.len hl;have HP := Lib.hid hp; clear hp;have hvl : v < n.es.length := (List.getElem?_eq_some_iff.1 hl).1;obtain ⟨⟨A0, m0, c0, rfl⟩, ⟨A1, m1, c1, rfl⟩, A2, m2, c2, rfl⟩ := h.slices;obtain ⟨w0, hw0, hB, HD, hz0, HS0⟩ := box3 w (.slice A0 m0 c0) (.slice A1 m1 c1) (.slice A2 m2 c2) 27;have HN0 := Lib.hid h; have HN := Lib.hid (h.up hB); clear h;have HW0 := Lib.hid hw0; clear hw0;obtain ⟨q0, q1, q2, qf⟩ := cells3 HD;obtain ⟨hm0, -, -⟩ := HN.out.e.len_slice;subst hm0;obtain ⟨ad, rfl⟩ := HN.out.e.some_ (by omega);obtain ⟨-, u, hu, hr⟩ := HN.out.e.at_ hl;obtain ⟨A', c', rfl, -⟩ := hr;have hu' := hu;rw [HW0.out] at hu';clear hl hu;by_cases h2 : r = 2
 ·
  subst h2;have HE := Lib.hid (show cntAt n 2 l = most (degs n) + 1 from rfl);have hm6 : most (degs n) ≤ 6 := most_le (by omega) fun x hx => (degs_bd HP.out x hx).2
  have hm0 := most_nn (degs n);go_enter Tryz.func63, Tryz.ntmps63;go_wp2_with fail;rw [← HW0.out];refine (spec_neDegrees _ _ _ n w0 HN.out HP.out).mono ?_;rintro e w1 ⟨u, rfl, ⟨A'', m'', c'', rfl⟩, hu, hb1⟩;have HU := Lib.hid hu; clear hu;have hzhb1 := hb1.size;clear q0 q1 q2 qf;replace HD := bk HD hb1;replace HN := Lib.hid (HN.out.up hb1);replace hB := bl_trans hB hb1;obtain ⟨q0, q1, q2, qf⟩ := cells3 HD;go_wp2_with fail;refine (spec_meMost _ (degs n) w1 HU.out).mono ?_;rintro e w2 ⟨rfl, rfl⟩;generalize most (degs n) = q at *;go_wp2_with fail;go_ret;exact ⟨ret_int (by rw [HE.out]), hB⟩
 ·
  have k2 : (r == 2) = false := by simpa using h2
  by_cases h3 : r = 3
  · subst h3;have HE := Lib.hid (show cntAt n 3 l = 2 from rfl);go_enter Tryz.func63, Tryz.ntmps63;go_wp2_with fail;go_ret;rw [← HW0.out];exact ⟨ret_int HE.out.symm, hB⟩
  ·
   have k3 : (r == 3) = false := by simpa using h3
   by_cases h4 : r = 4
   · subst h4;have HE := Lib.hid (show cntAt n 4 l = (l.length : Int) + 1 from rfl);go_enter Tryz.func63, Tryz.ntmps63;go_wp2_with fail;go_ret;rw [← HW0.out];exact ⟨ret_int HE.out.symm, hB⟩
   ·
    have k4 : (r == 4) = false := by simpa using h4
    have HE := Lib.hid (show cntAt n r l = (n.es.length : Int) + 1 by unfold cntAt; rw [if_neg h2, if_neg h3, if_neg h4]);clear h2 h3 h4;go_enter Tryz.func63, Tryz.ntmps63;go_wp2_with fail;go_ret;rw [← HW0.out];exact ⟨ret_int HE.out.symm, hB⟩
theorem cnts_I64 {n : Net} (h : netP n) (r : Int) : ∀ x ∈ cnts n r, I64 x := fun x hx => small_I64 (cnts_bd h r x hx) (by omega) (by omega)
end
section
open Go.RowKit
set_option linter.all false
theorem askB_net {n : Net} {r : Int} (h : askB n r = true) : netP n := (propB_iff.1 h).1
/-! ### The number of a situation -/
def Sts (cs ss : List Int) : Prop := cs.length = ss.length ∧ ∀ (v : Nat) (k s : Int), cs[v]? = some k → ss[v]? = some s → 0 ≤ s ∧ s < k
/-! ### The states of a number -/
end
section
open Go.RowKit
set_option linter.all false
noncomputable def sitB (n : Net) (r : Int) (ss : List Int) : Bool := propB (askP n r ∧ Sts (cnts n r) ss)
def StsTo (cs ss : List Int) (j : Nat) : Prop := ∀ (v : Nat) (k s : Int), v < j → cs[v]? = some k → ss[v]? = some s → 0 ≤ s ∧ s < k
theorem StsTo.next {cs ss : List Int} {j : Nat} {k s : Int} (h : StsTo cs ss j) (hk : cs[j]? = some k) (hs : ss[j]? = some s) (hi : inB s 0 (k - 1) = true) : StsTo cs ss (j + 1) := fun v a b hv ha hb => by
  by_cases e : v = j
  · subst e
    obtain rfl := Option.some.inj (hk.symm.trans ha);obtain rfl := Option.some.inj (hs.symm.trans hb);unfold inB at hi;have := of_decide_eq_true hi;omega
  · exact h v a b (by omega) ha hb
theorem sit_noA {n : Net} {r : Int} {ss : List Int} (h : askB n r = false) : sitB n r ss = false := propB_f fun hp => by rw [show askB n r = true from propB_t hp.1] at h; cases h
theorem sit_noL {n : Net} {r : Int} {ss : List Int} (h : ss.length ≠ n.es.length) : sitB n r ss = false := propB_f fun hp => h (by rw [← hp.2.1, cnts_len])
theorem sit_noS {n : Net} {r k s : Int} {ss : List Int} {j : Nat} (hk : (cnts n r)[j]? = some k) (hs : ss[j]? = some s) (hi : inB s 0 (k - 1) = false) : sitB n r ss = false := propB_f fun hp => by have := hp.2.2 j k s hk hs;rw [inB_t (by omega)] at hi;cases hi
theorem sit_end {n : Net} {r : Int} {ss : List Int} {j : Nat} (ha : askB n r = true) (hl : ss.length = n.es.length) (h : StsTo (cnts n r) ss j) (hj : ss.length ≤ j) : sitB n r ss = true :=
  propB_t ⟨propB_iff.1 ha, by rw [cnts_len, hl], fun v k s hk hs => h v k s (by have := (List.getElem?_eq_some_iff.1 hs).1; omega) hk hs⟩
def SsRel (n : Net) (r : Int) (ss : List Int) (w : World) (i : Value) (wr : World) : Prop := Below w.heap.size w wr ∧ ∃ k : Nat, k ≤ ss.length ∧ i = .int .i64 k ∧ StsTo (cnts n r) ss k
theorem spec_ssStates (ve vi vn vs : Value) (n : Net) (r : Int) (ss : List Int) (w : World) (h : NetR w w.heap.size ve vi vn n) (hs : IntsR w w.heap.size vs ss) (hz : n.es.length ≤ 2000000) (hzs : ss.length ≤ 1048576) :
  Calls Tryz.prog 29 #[.agg #[ve, vi, vn], .int .i64 r, vs] w fun e w' => e = .returned (.bool (sitB n r ss)) ∧ Below w.heap.size w w' := by
 have HSS := Lib.hid hs;obtain ⟨As, cs, rfl, -, hcm, hsc⟩ := hs.open_;clear hs;obtain ⟨⟨A0, m0, c0, rfl⟩, ⟨A1, m1, c1, rfl⟩, A2, m2, c2, rfl⟩ := h.slices;obtain ⟨w0, hw0, hB, HD, hz0, HS0⟩ := box3 w (.slice A0 m0 c0) (.slice A1 m1 c1) (.slice A2 m2 c2) 27;have HN0 := Lib.hid h; have HN := Lib.hid (h.up hB); clear h;have HW0 := Lib.hid hw0; clear hw0;obtain ⟨q0, q1, q2, qf⟩ := cells3 HD;obtain ⟨hm0, -, -⟩ := HN.out.e.len_slice;subst hm0;unfold maxLen at hcm;go_enter Tryz.func29, Tryz.ntmps29;go_wp2_with fail;rw [← HW0.out];refine (spec_ssAsked _ _ _ n r w0 HN.out hz).mono ?_;rintro e w1 ⟨rfl, hb1⟩;have hzhb1 := hb1.size;clear q0 q1 q2 qf;replace HD := bk HD hb1;replace HN := Lib.hid (HN.out.up hb1);replace hB := bl_trans hB hb1;obtain ⟨q0, q1, q2, qf⟩ := cells3 HD;cases h1 : askB n r with
 | false =>
  go_wp2_with fail;go_ret;exact ⟨ret_bool (sit_noA h1).symm, hB⟩
 | true =>
  have HA := Lib.hid h1;have HP := Lib.hid (askB_net h1);have h40 := HP.out.1.2;by_cases hl : ss.length = n.es.length
  ·
   have HL := Lib.hid hl;have kq : (((ss.length : Nat) : Int) != (n.es.length : Int)) = false := by rw [hl]; simp
   clear hl h1;go_wp2_with fail;go_loopw [7, 8, 23] (fun _ _ i wr => SsRel n r ss w1 i wr) (fun _ _ i _ => ss.length - (intOf i).toNat)
   case atStart => exact ⟨Below.refl _ _, 0, Nat.zero_le _, rfl, fun _ _ _ h => absurd h (by omega)⟩
   case round =>
    obtain ⟨hb2, k, hk, rfl, hup⟩ := hrel;have HU := Lib.hid hup; clear hup;have hB1 := bl_trans hb1 hb2;have hzhb2 := hb2.size;clear q0 q1 q2 qf;replace HD := bk HD hb2;replace HN := Lib.hid (HN.out.up hb2);replace hB := bl_trans hB hb2;obtain ⟨q0, q1, q2, qf⟩ := cells3 HD;by_cases hlt : k < ss.length
    ·
     obtain ⟨s, hs⟩ : ∃ s, ss[k]? = some s := ⟨_, List.getElem?_eq_getElem hlt⟩
     obtain ⟨l, hl⟩ : ∃ y, n.es[k]? = some y := ⟨_, List.getElem?_eq_getElem (by rw [← HL.out]; exact hlt)⟩
     obtain ⟨ad, rfl, hb, hc⟩ := hsc (by omega);have hcell := (hB.cell (p := ad.add k) (by rw [block_add]; exact hb)).trans (hc k s hs);have HS := Lib.hid hs;have HK := Lib.hid (cnts_at (r := r) hl);have hcb := cnts_bd HP.out r _ (List.mem_of_getElem? HK.out);have JC := Lib.hid (spec_ssCount _ _ _ n r k l wr HN.out HP.out hl);clear hsc hc hs hl;generalize cntAt n r l = q at *;cases hi : inB s 0 (q - 1) with
     | false =>
      go_wp2_with (first | (go_at_call 63; refine JC.out.mono ?_; rintro e w3 ⟨rfl, hb3⟩) | (go_at_call 46; refine (spec_l1In _ _ _ _).mono ?_; rintro e w' ⟨rfl, rfl⟩))
      go_ret;exact ⟨ret_bool (sit_noS HK.out HS.out hi).symm, bl_trans hB hb3⟩
     | true =>
      go_wp2_with (first | (go_at_call 63; refine JC.out.mono ?_; rintro e w3 ⟨rfl, hb3⟩) | (go_at_call 46; refine (spec_l1In _ _ _ _).mono ?_; rintro e w' ⟨rfl, rfl⟩))
      go_roundw
      case rel => exact ⟨bl_trans hb2 hb3, k + 1, by omega, by go_num, HU.out.next HK.out HS.out hi⟩
      case measure => simp [intOf]; omega
    · have HF := Lib.hid (sit_end HA.out HL.out HU.out (by omega));go_wp2_with fail;go_ret;exact ⟨ret_bool HF.out.symm, hB⟩
  ·
   have kq : (((ss.length : Nat) : Int) != (n.es.length : Int)) = true := by rw [bne_iff_ne]; omega
   have HF := Lib.hid (sit_noL (n := n) (r := r) hl);clear hl;go_wp2_with fail;go_ret;exact ⟨ret_bool HF.out.symm, hB⟩
theorem ints_nil (w : World) (B : Nat) : IntsR w B (.slice none 0 0) [] := ⟨⟨none, 0, rfl, Nat.le_refl _, Nat.zero_le _, fun h => absurd h (by simp)⟩, fun _ h => by cases h⟩
end
end Go.Proofs.YtdghoienjegffaaGreat
namespace Go.Proofs.YtdghoienjegffaaGreat
open Go.RowKit
set_option linter.all false
theorem closure_within (x lo hi : Int) (a b : Nat) (w : World) (ha : w.cell? ⟨a, 0, none⟩ = some (.int .i64 lo)) (hb : w.cell? ⟨b, 0, none⟩ = some (.int .i64 hi)) :
    Calls Tryz.prog 153 #[.int .i64 x, .pointer (some ⟨a, 0, none⟩), .pointer (some ⟨b, 0, none⟩)] w fun e w' => e = .returned (.bool (!inB x lo hi)) ∧ w = w' := by
  go_enter Tryz.func153, Tryz.ntmps153;go_wp2_with (go_at_call 25; refine (impl_within _ _ _ _).mono ?_; rintro e w' ⟨rfl, rfl⟩)
  go_ret;exact ⟨rfl, rfl⟩
def NotIdx (xs : List Int) (lo hi : Int) (w : World) (e : Ending) (w' : World) : Prop := ∃ i : Int, e = .returned (.int .i64 i) ∧ -1 ≤ i ∧ i ≤ xs.length ∧ decide (0 ≤ i) = !allB xs lo hi ∧ w = w'
theorem indexFunc_within (v : Value) (xs : List Int) (lo hi : Int) (a b : Nat) (w : World) (h : IntsR w w.heap.size v xs) (ha : w.cell? ⟨a, 0, none⟩ = some (.int .i64 lo)) (hb : w.cell? ⟨b, 0, none⟩ = some (.int .i64 hi)) :
  Calls Tryz.prog 65 #[v, .func (.func 153) #[] #[.pointer (some ⟨a, 0, none⟩), .pointer (some ⟨b, 0, none⟩)]] w (NotIdx xs lo hi w) := by
 obtain ⟨A, c, rfl, h1, h2, h3⟩ := h.open_;unfold maxLen at h2;clear h;go_enter Tryz.func65, Tryz.ntmps65;go_wp2_with fail;go_loopw [8, 5] (fun i _ wr => AllRel (fun x => inB x lo hi) xs w i wr) (fun i _ _ => xs.length - (intOf i).toNat)
 case atStart => exact ⟨rfl, 0, Nat.zero_le _, rfl, fun _ _ h => absurd h (by omega)⟩
 case round =>
  obtain ⟨rfl, k, hk, rfl, hup⟩ := hrel;have HU := Lib.hid hup; clear hup;by_cases hlt : k < xs.length
  ·
   obtain ⟨x, hx⟩ : ∃ x, xs[k]? = some x := ⟨xs[k], List.getElem?_eq_getElem hlt⟩
   obtain ⟨ad, rfl, hb', hc⟩ := h3 (by omega);have hcell := hc k x hx;have HX := Lib.hid hx;clear h3 hc hx;cases hp : inB x lo hi with
   | true =>
    go_wp2_with (go_at_call 153; refine (closure_within x lo hi a b _ ha hb).mono ?_; rintro e w' ⟨rfl, rfl⟩)
    go_roundw
    case rel => exact ⟨rfl, k + 1, by omega, by go_num, HU.out.next HX.out hp⟩
    case measure => simp [intOf]; omega
   | false =>
    go_wp2_with (go_at_call 153; refine (closure_within x lo hi a b _ ha hb).mono ?_; rintro e w' ⟨rfl, rfl⟩)
    go_ret;exact ⟨k, rfl, by omega, by omega, by rw [allB_f HX.out hp]; simp, rfl⟩
  · go_wp2;go_ret;exact ⟨-1, rfl, by omega, by omega, by rw [allB_t (HU.out.all (by omega))]; simp, rfl⟩
theorem containsFunc_within (v : Value) (xs : List Int) (lo hi : Int) (a b : Nat) (w : World) (h : IntsR w w.heap.size v xs) (ha : w.cell? ⟨a, 0, none⟩ = some (.int .i64 lo)) (hb : w.cell? ⟨b, 0, none⟩ = some (.int .i64 hi)) :
    Calls Tryz.prog 35 #[v, .func (.func 153) #[] #[.pointer (some ⟨a, 0, none⟩), .pointer (some ⟨b, 0, none⟩)]] w fun e w' => e = .returned (.bool (!allB xs lo hi)) ∧ w = w' := by
  have HH := Lib.hid h; clear h;have HA := Lib.hid ha; clear ha;have HB := Lib.hid hb; clear hb;go_enter Tryz.func35, Tryz.ntmps35;go_wp2_with fail;refine (indexFunc_within v xs lo hi a b w HH.out HA.out HB.out).mono ?_;rintro e w' ⟨i, rfl, h1, h2, h3, rfl⟩;have H3 := Lib.hid h3; clear h3;go_wp2_with fail;go_ret;exact ⟨ret_bool H3.out, rfl⟩
theorem impl_allWithin (v : Value) (xs : List Int) (lo hi : Int) (w : World) (h : IntsR w w.heap.size v xs) :
    Calls Tryz.prog 117 #[v, .int .i64 lo, .int .i64 hi] w fun e w' => e = .returned (.bool (allB xs lo hi)) ∧ Below w.heap.size w w' := by
  have hmf : ∀ (fn : Fn) (first cap : Array Value) (w : World), (Instr.makeFunc fn first cap).run Tryz.prog w = .ok (.func fn first cap) w := fun _ _ _ _ => rfl
  have HH := Lib.hid h; clear h;go_enter Tryz.func117, Tryz.ntmps117;go_wp2_with fail;refine (containsFunc_within v xs lo hi w.heap.size (w.heap.size + 1) _ ((HH.out.below (bl_alloc (bl_alloc (Below.refl _ _) _) _)).more (by simp; omega)) ?_ ?_).mono ?_
  · rw [World.cell?_alloc_past _ _ _ (by simp), World.cell?_alloc_at _ _ _ _ rfl]; rfl
  · rw [World.cell?_alloc_at _ _ _ _ (by simp)]; rfl
  rintro e w' ⟨rfl, rfl⟩;go_wp2_with fail;go_ret;exact ⟨ret_bool (by simp), bl_alloc (bl_alloc (Below.refl _ _) _) _⟩
end Go.Proofs.YtdghoienjegffaaGreat
namespace Go.Proofs
open Go.Shelf
def Tryz.lays189_ren : Go.Shelf.Ren := ⟨fun | 189 => 96 | 125 => 143 | 257 => 142 | 128 => 176 | 129 => 177 | 294 => 167 | 295 => 168 | 296 => 169 | 297 => 170 | 298 => 171 | 299 => 172 | 216 => 173 | 300 => 174 | 301 => 175 | 328 => 182 | 329 => 183 | 330 => 184 | 331 => 185 | 332 => 186 | 215 => 187 | 343 => 188 | n => n, fun | 28 => 25 | 3 => 3 | 46 => 106 | 0 => 0 | 51 => 120 | 53 => 49 | 4 => 4 | 183 => 127 | 182 => 126 | 131 => 43 | 5 => 5 | 9 => 9 | 218 => 134 | 222 => 138 | 228 => 140 | 229 => 141 | n => n, fun | n => n⟩
theorem Tryz.lays189 : Go.Proofs.Lays.n189 Tryz.prog Tryz.lays189_ren := {
 mixed := by kernel_rfl
 f125 := Tryz.func143.trans (congrArg some (by kernel_rfl))
 f128 := Tryz.func176.trans (congrArg some (by kernel_rfl))
 f129 := Tryz.func177.trans (congrArg some (by kernel_rfl))
 f189 := Tryz.func96.trans (congrArg some (by kernel_rfl))
 f215 := Tryz.func187.trans (congrArg some (by kernel_rfl))
 f216 := Tryz.func173.trans (congrArg some (by kernel_rfl))
 f257 := Tryz.func142.trans (congrArg some (by kernel_rfl))
 f294 := Tryz.func167.trans (congrArg some (by kernel_rfl))
 f295 := Tryz.func168.trans (congrArg some (by kernel_rfl))
 f296 := Tryz.func169.trans (congrArg some (by kernel_rfl))
 f297 := Tryz.func170.trans (congrArg some (by kernel_rfl))
 f298 := Tryz.func171.trans (congrArg some (by kernel_rfl))
 f299 := Tryz.func172.trans (congrArg some (by kernel_rfl))
 f300 := Tryz.func174.trans (congrArg some (by kernel_rfl))
 f301 := Tryz.func175.trans (congrArg some (by kernel_rfl))
 f328 := Tryz.func182.trans (congrArg some (by kernel_rfl))
 f329 := Tryz.func183.trans (congrArg some (by kernel_rfl))
 f330 := Tryz.func184.trans (congrArg some (by kernel_rfl))
 f331 := Tryz.func185.trans (congrArg some (by kernel_rfl))
 f332 := Tryz.func186.trans (congrArg some (by kernel_rfl))
 f343 := Tryz.func188.trans (congrArg some (by kernel_rfl))
 t0 := Tryz.underlying0
 a0 := Tryz.isAgg0
 z0 := Tryz.sizeOf0
 v0 := Tryz.zeroValue0
 t3 := Tryz.underlying3
 a3 := Tryz.isAgg3
 z3 := Tryz.sizeOf3
 v3 := Tryz.zeroValue3
 t4 := Tryz.underlying4
 a4 := Tryz.isAgg4
 z4 := Tryz.sizeOf4
 v4 := Tryz.zeroValue4
 t5 := Tryz.underlying5
 a5 := Tryz.isAgg5
 z5 := Tryz.sizeOf5
 v5 := Tryz.zeroValue5
 t9 := Tryz.underlying9
 a9 := Tryz.isAgg9
 z9 := Tryz.sizeOf9
 v9 := Tryz.zeroValue9
 t28 := Tryz.underlying25
 a28 := Tryz.isAgg25
 z28 := Tryz.sizeOf25
 v28 := Tryz.zeroValue25
 t46 := Tryz.underlying106
 a46 := Tryz.isAgg106
 z46 := Tryz.sizeOf106
 v46 := Tryz.zeroValue106
 t51 := Tryz.underlying120
 a51 := Tryz.isAgg120
 z51 := Tryz.sizeOf120
 v51 := Tryz.zeroValue120
 t53 := Tryz.underlying49
 a53 := Tryz.isAgg49
 z53 := Tryz.sizeOf49
 v53 := Tryz.zeroValue49
 t131 := Tryz.underlying43
 a131 := Tryz.isAgg43
 z131 := Tryz.sizeOf43
 v131 := Tryz.zeroValue43
 t182 := Tryz.underlying126
 a182 := Tryz.isAgg126
 z182 := Tryz.sizeOf126
 v182 := Tryz.zeroValue126
 t183 := Tryz.underlying127
 a183 := Tryz.isAgg127
 z183 := Tryz.sizeOf127
 v183 := Tryz.zeroValue127
 t218 := Tryz.underlying134
 a218 := Tryz.isAgg134
 z218 := Tryz.sizeOf134
 v218 := Tryz.zeroValue134
 t222 := Tryz.underlying138
 a222 := Tryz.isAgg138
 z222 := Tryz.sizeOf138
 v222 := Tryz.zeroValue138
 t228 := Tryz.underlying140
 a228 := Tryz.isAgg140
 z228 := Tryz.sizeOf140
 v228 := Tryz.zeroValue140
 t229 := Tryz.underlying141
 a229 := Tryz.isAgg141
 z229 := Tryz.sizeOf141
 v229 := Tryz.zeroValue141 }
open Go.Sort Go.RowKit in
theorem Tryz.slices_Sort_int (blk off cap : Nat) (zs : List Int) (w : World) (hH : Holds (Value.int .i64) w blk off zs.toArray) (hblk : blk < w.heap.size) (hsz : zs.length < 4611686018427387904) :
    Calls Tryz.prog 96 #[.slice (some ⟨blk, off, none⟩) zs.length cap] w fun e w' =>
      e = .returned (.tuple #[]) ∧ ∃ n os, w' = grow (putRow (Value.int .i64) (Sort.ahead w n) blk off (zs.mergeSort fun x y => decide (x ≤ y)).toArray) os := Any.slices_Sort_int Tryz.lays189 blk off cap zs w hH hblk hsz
def Tryz.lays212_ren : Go.Shelf.Ren := ⟨fun | 212 => 138 | 263 => 165 | 264 => 166 | n => n, fun | 46 => 106 | 51 => 120 | 146 => 121 | 53 => 49 | 148 => 123 | n => n, fun | n => n⟩
theorem Tryz.lays212 : Go.Proofs.Lays.n212 Tryz.prog Tryz.lays212_ren := {
  mixed := by kernel_rfl
  f212 := Tryz.func138.trans (congrArg some (by kernel_rfl))
  f263 := Tryz.func165.trans (congrArg some (by kernel_rfl))
  f264 := Tryz.func166.trans (congrArg some (by kernel_rfl))
  t46 := Tryz.underlying106
  a46 := Tryz.isAgg106
  z46 := Tryz.sizeOf106
  v46 := Tryz.zeroValue106
  t51 := Tryz.underlying120
  a51 := Tryz.isAgg120
  z51 := Tryz.sizeOf120
  v51 := Tryz.zeroValue120
  t53 := Tryz.underlying49
  a53 := Tryz.isAgg49
  z53 := Tryz.sizeOf49
  v53 := Tryz.zeroValue49
  t146 := Tryz.underlying121
  a146 := Tryz.isAgg121
  z146 := Tryz.sizeOf121
  v146 := Tryz.zeroValue121
  t148 := Tryz.underlying123
  a148 := Tryz.isAgg123
  z148 := Tryz.sizeOf123
  v148 := Tryz.zeroValue123 }
open Go.RowKit Go.Lib in
/-- math/bits.Mul: "Mul returns the full-width product of x and y": on a machine of 64 bits: Mul64's. (LAID: no walk: one application.) -/
theorem Tryz.bits_Mul (x y : Nat) (hx : x < 18446744073709551616) (hy : y < 18446744073709551616) (w : World) :
    Calls Tryz.prog 138 #[.int .u64 x, .int .u64 y] w fun e w' => e = .returned (.tuple #[.int .u64 ((x * y / 18446744073709551616 : Nat) : Int), .int .u64 ((x * y % 18446744073709551616 : Nat) : Int)]) ∧ w' = w := Any.bits_Mul Tryz.lays212 x y hx hy w
def Tryz.lays107_ren : Go.Shelf.Ren := ⟨fun | 107 => 37 | 108 => 66 | n => n, fun | 28 => 25 | 3 => 3 | 4 => 4 | 0 => 0 | n => n, fun | n => n⟩
theorem Tryz.lays107 : Go.Proofs.Lays.n107 Tryz.prog Tryz.lays107_ren := {
  mixed := by kernel_rfl
  f107 := Tryz.func37.trans (congrArg some (by kernel_rfl))
  f108 := Tryz.func66.trans (congrArg some (by kernel_rfl))
  t0 := Tryz.underlying0
  a0 := Tryz.isAgg0
  z0 := Tryz.sizeOf0
  v0 := Tryz.zeroValue0
  t3 := Tryz.underlying3
  a3 := Tryz.isAgg3
  z3 := Tryz.sizeOf3
  v3 := Tryz.zeroValue3
  t4 := Tryz.underlying4
  a4 := Tryz.isAgg4
  z4 := Tryz.sizeOf4
  v4 := Tryz.zeroValue4
  t28 := Tryz.underlying25
  a28 := Tryz.isAgg25
  z28 := Tryz.sizeOf25
  v28 := Tryz.zeroValue25 }
open Go.Lib in
/-- slices.Contains at []int: "Contains reports whether v is present in s.": IT RETURNS 'elements.contains v'; the world is as it was. ITS CALLEE slices.Index IS MET BY ITS OWN CONTRACT OFF THE SHELF (lay that first): no loop is walked here. (LAID: no walk: one application.) -/
theorem Tryz.slices_Contains_int (b off n c : Nat) (zs : List Int) (x : Int) (w : World) (hz : n ≤ zs.length) (hbig : n ≤ 9223372036854775807) (hc : ∀ j, j < zs.length → w.cell? ⟨b, off + j, none⟩ = some (.int .i64 (zs.getD j 0))) :
    Calls Tryz.prog 37 #[.slice (some ⟨b, off, none⟩) n c, .int .i64 x] w fun e w' => e = .returned (.bool ((zs.take n).contains x)) ∧ w' = w := Any.slices_Contains_int Tryz.lays107 b off n c zs x w hz hbig hc
open Go.Lib in
/-- The same at a slice of length 0, a nil one too. (LAID: no walk: one application.) -/
theorem Tryz.slices_Contains_int_empty (a : Option Addr) (c : Nat) (x : Int) (w : World) :
    Calls Tryz.prog 37 #[.slice a 0 c, .int .i64 x] w fun e w' => e = .returned (.bool false) ∧ w' = w := Any.slices_Contains_int_empty Tryz.lays107 a c x w
def Tryz.lays113_ren : Go.Shelf.Ren := ⟨fun | 113 => 108 | n => n, fun | 28 => 25 | 3 => 3 | 4 => 4 | 9 => 9 | 20 => 20 | 0 => 0 | n => n, fun | n => n⟩
theorem Tryz.lays113 : Go.Proofs.Lays.n113 Tryz.prog Tryz.lays113_ren := {
  mixed := by kernel_rfl
  f113 := Tryz.func108.trans (congrArg some (by kernel_rfl))
  t0 := Tryz.underlying0
  a0 := Tryz.isAgg0
  z0 := Tryz.sizeOf0
  v0 := Tryz.zeroValue0
  t3 := Tryz.underlying3
  a3 := Tryz.isAgg3
  z3 := Tryz.sizeOf3
  v3 := Tryz.zeroValue3
  t4 := Tryz.underlying4
  a4 := Tryz.isAgg4
  z4 := Tryz.sizeOf4
  v4 := Tryz.zeroValue4
  t9 := Tryz.underlying9
  a9 := Tryz.isAgg9
  z9 := Tryz.sizeOf9
  v9 := Tryz.zeroValue9
  t20 := Tryz.underlying20
  a20 := Tryz.isAgg20
  z20 := Tryz.sizeOf20
  v20 := Tryz.zeroValue20
  t28 := Tryz.underlying25
  a28 := Tryz.isAgg25
  z28 := Tryz.sizeOf25
  v28 := Tryz.zeroValue25 }
open Go.Lib in
/-- slices.Max at []int: "Max returns the maximal value in x. It panics if x is empty.": OF A SLICE THAT IS NOT EMPTY IT RETURNS 'Lib.maxOf (the elements)'; the world is as it was. (Of an empty one it panics: no contract here.) (LAID: no walk: one application.) -/
theorem Tryz.slices_Max_int (b off n c : Nat) (zs : List Int) (w : World) (hn : 0 < n) (hz : n ≤ zs.length) (hbig : n ≤ 9223372036854775807) (hc : ∀ j, j < zs.length → w.cell? ⟨b, off + j, none⟩ = some (.int .i64 (zs.getD j 0))) :
    Calls Tryz.prog 108 #[.slice (some ⟨b, off, none⟩) n c] w fun e w' => e = .returned (.int .i64 (Lib.maxOf (zs.take n))) ∧ w' = w := Any.slices_Max_int Tryz.lays113 b off n c zs w hn hz hbig hc
def Tryz.lays114_ren : Go.Shelf.Ren := ⟨fun | 114 => 123 | n => n, fun | 28 => 25 | 3 => 3 | 4 => 4 | 9 => 9 | 20 => 20 | 0 => 0 | n => n, fun | n => n⟩
theorem Tryz.lays114 : Go.Proofs.Lays.n114 Tryz.prog Tryz.lays114_ren := {
  mixed := by kernel_rfl
  f114 := Tryz.func123.trans (congrArg some (by kernel_rfl))
  t0 := Tryz.underlying0
  a0 := Tryz.isAgg0
  z0 := Tryz.sizeOf0
  v0 := Tryz.zeroValue0
  t3 := Tryz.underlying3
  a3 := Tryz.isAgg3
  z3 := Tryz.sizeOf3
  v3 := Tryz.zeroValue3
  t4 := Tryz.underlying4
  a4 := Tryz.isAgg4
  z4 := Tryz.sizeOf4
  v4 := Tryz.zeroValue4
  t9 := Tryz.underlying9
  a9 := Tryz.isAgg9
  z9 := Tryz.sizeOf9
  v9 := Tryz.zeroValue9
  t20 := Tryz.underlying20
  a20 := Tryz.isAgg20
  z20 := Tryz.sizeOf20
  v20 := Tryz.zeroValue20
  t28 := Tryz.underlying25
  a28 := Tryz.isAgg25
  z28 := Tryz.sizeOf25
  v28 := Tryz.zeroValue25 }
open Go.Lib in
/-- slices.Min at []int: "Min returns the minimal value in x. It panics if x is empty.": OF A SLICE THAT IS NOT EMPTY IT RETURNS 'Lib.minOf (the elements)'; the world is as it was. (Of an empty one it panics: no contract here.) (LAID: no walk: one application.) -/
theorem Tryz.slices_Min_int (b off n c : Nat) (zs : List Int) (w : World) (hn : 0 < n) (hz : n ≤ zs.length) (hbig : n ≤ 9223372036854775807) (hc : ∀ j, j < zs.length → w.cell? ⟨b, off + j, none⟩ = some (.int .i64 (zs.getD j 0))) :
    Calls Tryz.prog 123 #[.slice (some ⟨b, off, none⟩) n c] w fun e w' => e = .returned (.int .i64 (Lib.minOf (zs.take n))) ∧ w' = w := Any.slices_Min_int Tryz.lays114 b off n c zs w hn hz hbig hc
def Tryz.laysNm215_ren : Go.Shelf.Ren := ⟨fun | 15 => 26 | n => n, fun | 22 => 25 | 3 => 3 | 4 => 4 | n => n, fun | n => n⟩
theorem Tryz.laysNm215 : Go.Proofs.Lays2.n15 Tryz.prog Tryz.laysNm215_ren := {
  mixed := by kernel_rfl
  f15 := Tryz.func26.trans (congrArg some (by kernel_rfl))
  t3 := Tryz.underlying3
  a3 := Tryz.isAgg3
  z3 := Tryz.sizeOf3
  v3 := Tryz.zeroValue3
  t4 := Tryz.underlying4
  a4 := Tryz.isAgg4
  z4 := Tryz.sizeOf4
  v4 := Tryz.zeroValue4
  t22 := Tryz.underlying25
  a22 := Tryz.isAgg25
  z22 := Tryz.sizeOf25
  v22 := Tryz.zeroValue25
  i3 := by kernel_rfl }
open Go.RowKit Go.Lib in
/-- slices.Clone at []int: "Clone returns a copy of the slice. The elements are copied using assignment, so this is a shallow clone. The result may have additional unused capacity. The result preserves the nilness of s.": OF A SLICE THAT IS NOT nil IT RETURNS A SLICE THAT IS NOT nil, OF THE SAME ELEMENTS, IN MEMORY OF THE CALL's OWN: in the how-to's words (6f): 'w'.ownsRow B e 1 v' n cells': v' begins at the head of a row among the blocks from B on (B: the heap's size at the call), not frozen, whose first cells are the elements · 'Below B w w'': below B all is as it was. The capacity is whatever the run-time gives. 'zs': what the cells behind the slice's address hold; 'zs.take n': its elements. (LAID: no walk: one application.) -/
theorem Tryz.slices_Clone_int (b off n c : Nat) (zs : List Int) (w : World) (hz : n ≤ zs.length) (hbig : n * 8 ≤ 140737488355328) (hc : ∀ j, j < zs.length → w.cell? ⟨b, off + j, none⟩ = some (.int .i64 (zs.getD j 0))) :
    Calls Tryz.prog 26 #[.slice (some ⟨b, off, none⟩) n c] w fun e w' => ∃ v', e = .returned v' ∧ w'.ownsRow w.heap.size 3 1 v' n ((zs.take n).map (Value.int .i64)) ∧ v' ≠ .slice none 0 0 ∧ Below w.heap.size w w' := Any.slices_Clone_int Tryz.laysNm215 b off n c zs w hz hbig hc
open Go.RowKit Go.Lib in
/-- The same at nil: nil comes back; the world is as it was. (LAID: no walk: one application.) -/
theorem Tryz.slices_Clone_int_nil (n c : Nat) (w : World) :
    Calls Tryz.prog 26 #[.slice none n c] w fun e w' => e = .returned (.slice none 0 0) ∧ w' = w := Any.slices_Clone_int_nil Tryz.laysNm215 n c w
open Go.RowKit Go.Lib in
/-- The same at a slice of length 0 that is not nil, WHATEVER ITS ADDRESS (no cell is asked for): a slice that is not nil and owns nothing comes back. (LAID: no walk: one application.) -/
theorem Tryz.slices_Clone_int_zero (a : Addr) (c : Nat) (w : World) :
    Calls Tryz.prog 26 #[.slice (some a) 0 c] w fun e w' => ∃ v', e = .returned v' ∧ w'.ownsRow w.heap.size 3 1 v' 0 [] ∧ v' ≠ .slice none 0 0 ∧ Below w.heap.size w w' := Any.slices_Clone_int_zero Tryz.laysNm215 a c w
end Go.Proofs
namespace Go.Proofs.YtdghoienjegffaaGreat
section
open Go.RowKit
set_option linter.all false
def RiseTo (xs : List Int) (lo hi : Int) (k : Nat) : Prop := ∀ (i : Nat) (x : Int), i < k → xs[i]? = some x → inB x lo hi = true ∧ (0 < i → ∀ y, xs[i - 1]? = some y → y < x)
noncomputable def riseB (xs : List Int) (lo hi : Int) : Bool := propB (risingP xs lo hi)
theorem RiseTo.next {xs : List Int} {lo hi : Int} {k : Nat} {x : Int} (h : RiseTo xs lo hi k) (hx : xs[k]? = some x) (h1 : inB x lo hi = true) (h2 : 0 < k → ∀ y, xs[k - 1]? = some y → y < x) : RiseTo xs lo hi (k + 1) := fun i y hi' hy => by
  by_cases e : i = k
  · subst e
    obtain rfl := Option.some.inj (hx.symm.trans hy);exact ⟨h1, h2⟩
  · exact h i y (by omega) hy
theorem rise_no1 {xs : List Int} {lo hi x : Int} {k : Nat} (hx : xs[k]? = some x) (h : inB x lo hi = false) : riseB xs lo hi = false := propB_f fun hp => by rw [inB_t (hp.1 x (List.mem_of_getElem? hx))] at h;cases h
theorem rise_no2 {xs : List Int} {lo hi x y : Int} {k : Nat} (hx : xs[k + 1]? = some x) (hy : xs[k]? = some y) (h : ¬ y < x) : riseB xs lo hi = false := propB_f fun hp => h (hp.2 k y x hy hx)
theorem rise_end {xs : List Int} {lo hi : Int} {k : Nat} (h : RiseTo xs lo hi k) (hk : xs.length ≤ k) : riseB xs lo hi = true := propB_t ⟨fun x hx => by
    obtain ⟨j, hj⟩ := List.mem_iff_getElem?.1 hx;have := (h j x (by have := (List.getElem?_eq_some_iff.1 hj).1; omega) hj).1;unfold inB at this
    exact of_decide_eq_true this, fun i a b ha hb => (h (i + 1) b (by have := (List.getElem?_eq_some_iff.1 hb).1; omega) hb).2 (by omega) a (by simpa using ha)⟩
def RsRel (xs : List Int) (lo hi : Int) (w : World) (i : Value) (wr : World) : Prop := w = wr ∧ ∃ k : Nat, k ≤ xs.length ∧ i = .int .i64 k ∧ RiseTo xs lo hi k
theorem impl_increasing (v : Value) (xs : List Int) (lo hi : Int) (w : World) (h : IntsR w w.heap.size v xs) :
  Calls Tryz.prog 34 #[v, .int .i64 lo, .int .i64 hi] w fun e w' => e = .returned (.bool (riseB xs lo hi)) ∧ w = w' := by
 obtain ⟨A, c, rfl, h1, h2, h3⟩ := h.open_;unfold maxLen at h2;clear h;go_enter Tryz.func34, Tryz.ntmps34;go_wp2_with fail;go_loopw [7, 8, 11] (fun _ _ i wr => RsRel xs lo hi w i wr) (fun _ _ i _ => xs.length - (intOf i).toNat)
 case atStart => exact ⟨rfl, 0, Nat.zero_le _, rfl, fun _ _ h => absurd h (by omega)⟩
 case round =>
  obtain ⟨rfl, k, hk, rfl, hup⟩ := hrel;have HU := Lib.hid hup; clear hup;by_cases hlt : k < xs.length
  ·
   obtain ⟨x, hx⟩ : ∃ y, xs[k]? = some y := ⟨xs[k], List.getElem?_eq_getElem hlt⟩
   obtain ⟨ad, rfl, hb, hc⟩ := h3 (by omega);have hcell := hc k x hx;have HX := Lib.hid hx;cases hp : inB x lo hi with
   | false =>
    clear h3 hc hx;go_wp2_with (go_at_call 25; refine (impl_within _ _ _ _).mono ?_; rintro e w' ⟨rfl, rfl⟩)
    go_ret;exact ⟨ret_bool (rise_no1 HX.out hp).symm, rfl⟩
   | true =>
    by_cases h0 : 0 < k
    ·
     obtain ⟨j, hj⟩ : ∃ j, j = k - 1 := ⟨_, rfl⟩
     have HJ := Lib.hid (show k = j + 1 by omega);have hjl : j < xs.length := by omega
     obtain ⟨y, hy⟩ : ∃ y, xs[j]? = some y := ⟨_, List.getElem?_eq_getElem hjl⟩
     have hcell2 := hc j y hy;have HY := Lib.hid hy;have hj1 : (k : Int) - 1 = (j : Int) := by omega
     clear hj;clear h3 hc hx hy;by_cases hlt2 : y < x
     ·
      go_wp2_with (go_at_call 25; refine (impl_within _ _ _ _).mono ?_; rintro e w' ⟨rfl, rfl⟩)
      go_roundw
      case rel => exact ⟨rfl, k + 1, by omega, by go_num, HU.out.next HX.out hp fun _ z hz => by
       rw [HJ.out, Nat.add_sub_cancel] at hz;obtain rfl := Option.some.inj (HY.out.symm.trans hz)
       exact hlt2⟩
      case measure => simp [intOf]; omega
     ·
      go_wp2_with (go_at_call 25; refine (impl_within _ _ _ _).mono ?_; rintro e w' ⟨rfl, rfl⟩)
      go_ret;exact ⟨ret_bool (rise_no2 (k := j) (by rw [← HJ.out]; exact HX.out) HY.out (by omega)).symm, rfl⟩
    ·
     clear h3 hc hx;go_wp2_with (go_at_call 25; refine (impl_within _ _ _ _).mono ?_; rintro e w' ⟨rfl, rfl⟩)
     go_roundw
     case rel => exact ⟨rfl, k + 1, by omega, by go_num, HU.out.next HX.out hp fun h => absurd h (by omega)⟩
     case measure => simp [intOf]; omega
  · go_wp2;go_ret;exact ⟨ret_bool (rise_end HU.out (by omega)).symm, rfl⟩
theorem impl_inputsOk (v : Value) (xs : List Int) (n : Nat) (w : World) (h : IntsR w w.heap.size v xs) (hn : n ≤ 2000000) :
    Calls Tryz.prog 134 #[v, .int .i64 (n : Int)] w fun e w' => e = .returned (.bool (decide (xs.length = n) && allB xs 0 9)) ∧ Below w.heap.size w w' := by
  have HH := Lib.hid h;obtain ⟨A, c, rfl, h1, h2, h3⟩ := h.open_;unfold maxLen at h2;clear h h3;by_cases hl : xs.length = n
  · have kq : (((xs.length : Nat) : Int) == (n : Int)) = true := by rw [hl]; simp
    have HL := Lib.hid hl; clear hl;go_enter Tryz.func134, Tryz.ntmps134;go_wp2_with fail;refine (impl_allWithin _ xs 0 9 w HH.out).mono ?_;rintro e w1 ⟨rfl, hb1⟩;go_wp2_with fail;go_ret;exact ⟨ret_bool (by rw [decide_eq_true HL.out]; rfl), hb1⟩
  · have kq : (((xs.length : Nat) : Int) == (n : Int)) = false := by rw [beq_eq_false_iff_ne]; omega
    have HL := Lib.hid hl; clear hl;go_enter Tryz.func134, Tryz.ntmps134;go_wp2_with fail;go_ret;exact ⟨ret_bool (by rw [decide_eq_false HL.out]; rfl), Below.refl _ _⟩
theorem impl_hasNode (ve vi vn : Value) (n : Net) (x : Int) (w : World) (h : NetR w w.heap.size ve vi vn n) (hz : n.es.length ≤ 2000000) :
    Calls Tryz.prog 47 #[.agg #[ve, vi, vn], .int .i64 x] w fun e w' => e = .returned (.bool (inB x 0 ((n.es.length : Int) - 1))) ∧ Below w.heap.size w w' := by
  obtain ⟨⟨A0, m0, c0, rfl⟩, ⟨A1, m1, c1, rfl⟩, A2, m2, c2, rfl⟩ := h.slices;obtain ⟨w0, hw0, hB, HD, hz0, HS0⟩ := box3 w (.slice A0 m0 c0) (.slice A1 m1 c1) (.slice A2 m2 c2) 27;have HN0 := Lib.hid h; have HN := Lib.hid (h.up hB); clear h;have HW0 := Lib.hid hw0; clear hw0;obtain ⟨q0, q1, q2, qf⟩ := cells3 HD;obtain ⟨hm0, -, -⟩ := HN.out.e.len_slice;subst hm0;have hwr : IntKind.i64.wrap ((n.es.length : Int) - 1) = (n.es.length : Int) - 1 := IntWalk.i64_in _ (by omega);go_enter Tryz.func47, Tryz.ntmps47;go_wp2_with (go_at_call 25; refine (impl_within _ _ _ _).mono ?_; rintro e w' ⟨rfl, rfl⟩)
  go_ret;rw [← HW0.out];exact ⟨rfl, hB⟩
noncomputable def portB (n : Net) (x p : Int) : Bool := propB (0 ≤ x ∧ 0 ≤ p ∧ ∃ l, n.es[x.toNat]? = some l ∧ p.toNat < l.length)
theorem port_no1 {n : Net} {x p : Int} (h : inB x 0 ((n.es.length : Int) - 1) = false) : portB n x p = false := propB_f fun ⟨h0, _, l, hl, _⟩ => by have := (List.getElem?_eq_some_iff.1 hl).1;rw [inB_t (by omega)] at h;cases h
theorem port_at {n : Net} {a : Nat} {p : Int} {l : Ends} (hl : n.es[a]? = some l) : portB n (a : Int) p = inB p 0 ((l.length : Int) - 1) := by
  cases h : inB p 0 ((l.length : Int) - 1) with
  | true =>
    obtain ⟨q, rfl, hq⟩ := inB_nat h;exact propB_t ⟨by omega, by omega, l, by rw [Int.toNat_natCast]; exact hl, by rw [Int.toNat_natCast]; exact hq⟩
  | false =>
    refine propB_f fun ⟨_, h0, l', hl', hq⟩ => ?_
    rw [Int.toNat_natCast, hl] at hl';obtain rfl := Option.some.inj hl';rw [inB_t (by omega)] at h;cases h
theorem impl_hasPort (ve vi vn : Value) (n : Net) (x p : Int) (w : World) (h : NetR w w.heap.size ve vi vn n) (hz : n.es.length ≤ 2000000) :
  Calls Tryz.prog 135 #[.agg #[ve, vi, vn], .int .i64 x, .int .i64 p] w fun e w' => e = .returned (.bool (portB n x p)) ∧ Below w.heap.size w w' := by
 obtain ⟨⟨A0, m0, c0, rfl⟩, ⟨A1, m1, c1, rfl⟩, A2, m2, c2, rfl⟩ := h.slices;obtain ⟨w0, hw0, hB, HD, hz0, HS0⟩ := box3 w (.slice A0 m0 c0) (.slice A1 m1 c1) (.slice A2 m2 c2) 27;have HN0 := Lib.hid h; have HN := Lib.hid (h.up hB); clear h;have HW0 := Lib.hid hw0; clear hw0;obtain ⟨q0, q1, q2, qf⟩ := cells3 HD;obtain ⟨hm0, -, -⟩ := HN.out.e.len_slice;subst hm0;go_enter Tryz.func135, Tryz.ntmps135;go_wp2_with fail;rw [← HW0.out];refine (impl_hasNode _ _ _ n x w0 HN.out hz).mono ?_;rintro e w1 ⟨rfl, hb1⟩;have hzhb1 := hb1.size;clear q0 q1 q2 qf;replace HD := bk HD hb1;replace HN := Lib.hid (HN.out.up hb1);replace hB := bl_trans hB hb1;obtain ⟨q0, q1, q2, qf⟩ := cells3 HD;cases g : inB x 0 ((n.es.length : Int) - 1) with
 | false =>
  go_wp2_with fail;go_ret;exact ⟨ret_bool (port_no1 g).symm, hB⟩
 | true =>
  obtain ⟨a, rfl, hal⟩ := inB_nat g;obtain ⟨l, hl⟩ : ∃ y, n.es[a]? = some y := ⟨_, List.getElem?_eq_getElem hal⟩
  obtain ⟨ad, rfl⟩ := HN.out.e.some_ (by omega);obtain ⟨-, u, r0, hr⟩ := HN.out.e.at_ hl;obtain ⟨A', c', rfl, hlc, hlm, -⟩ := hr;unfold maxLen at hlm;have HPA := Lib.hid (port_at (p := p) hl);have hwr : IntKind.i64.wrap ((l.length : Int) - 1) = (l.length : Int) - 1 := IntWalk.i64_in _ (by omega);clear hl;go_wp2_with (go_at_call 25; refine (impl_within _ _ _ _).mono ?_; rintro e w' ⟨rfl, rfl⟩)
  go_ret;exact ⟨ret_bool HPA.out.symm, hB⟩
end
section
open Go.RowKit Go.Sort Go.Lib
set_option linter.all false
theorem ints_cells {w : World} {ad : Addr} {xs : List Int} (h0 : 0 < xs.length) (h : ∀ j x, xs[j]? = some x → w.cell? (ad.add j) = some (.int .i64 x)) :
    ∃ b off, ad = ⟨b, off, none⟩ ∧ ∀ j, j < xs.length → w.cell? ⟨b, off + j, none⟩ = some (.int .i64 (xs.getD j 0)) := by
  obtain ⟨b, off, sp⟩ := ad;have hs : sp = none := by
    have h1 := h 0 xs[0] (List.getElem?_eq_getElem h0);cases sp with
    | none => rfl
    | some s =>
      simp only [World.cell?, Addr.add] at h1;split at h1 <;> simp at h1
  subst hs;refine ⟨b, off, rfl, fun j hj => ?_⟩;have h1 := h j xs[j] (List.getElem?_eq_getElem hj);rw [List.getD_eq_getElem?_getD, List.getElem?_eq_getElem hj, Option.getD_some, ← h1];rcases j with _ | j <;> simp [Addr.add]
theorem row_sl {w : World} {base n : Nat} {e : TypeId} {v : Value} {xs : List Value} (h : w.ownsRow base e 1 v n xs) : SlR w w.heap.size v xs := by
  have hl : xs.length = n := by simpa using h.1
  have hlt := h.lt;rcases h.2 with ⟨rfl, e0⟩ | ⟨g, cap, cur, rfl, hb, hg, hn, hm, hs, ht⟩
  · exact ⟨none, 0, by rw [hl, e0], by omega, by unfold maxLen; omega, fun h => by omega⟩
  · refine ⟨some ⟨g, 0, none⟩, cap, by rw [hl], by omega, hm, fun _ => ⟨_, rfl, (hlt g rfl).2, fun j u hu => ?_⟩⟩
    have hj := (List.getElem?_eq_some_iff.1 hu).1;have := h.cellAt j (by omega);rw [← hu, ← this];rcases j with _ | j <;> simp [Addr.add]
theorem below_grow (W : World) (os : Array Obj) : Below W.heap.size W (grow W os) :=
  ⟨rfl, rfl, rfl, by simp [grow], fun k hk => by simp only [grow]; rw [Array.getElem?_append_left hk]⟩
def RowPost (xs : List Int) (w : World) (e : Ending) (w' : World) : Prop := ∃ v', e = .returned v' ∧ w'.ownsRow w.heap.size 3 1 v' xs.length (xs.map (Value.int .i64)) ∧ (xs ≠ [] → v' ≠ .slice none 0 0) ∧ Below w.heap.size w w'
theorem impl_Clone (v : Value) (xs : List Int) (w : World) (h : IntsR w w.heap.size v xs) (hn : xs.length ≤ 2000000) : Calls Tryz.prog 26 #[v] w (RowPost xs w) := by
  obtain ⟨A, c, rfl, h1, h2, h3⟩ := h.open_;by_cases h0 : xs.length = 0
  · obtain rfl : xs = [] := List.eq_nil_of_length_eq_zero h0
    cases A with
    | none =>
      refine (Tryz.slices_Clone_int_nil 0 c w).mono ?_;rintro e w' ⟨rfl, rfl⟩;exact ⟨_, rfl, World.ownsRow_nil _ _ _ _, fun h => absurd rfl h, Below.refl _ _⟩
    | some a =>
      refine (Tryz.slices_Clone_int_zero a c w).mono ?_;rintro e w' ⟨v', rfl, k1, k2, k3⟩;exact ⟨_, rfl, k1, fun _ => k2, k3⟩
  · obtain ⟨ad, rfl, hb, hc⟩ := h3 (by omega)
    obtain ⟨b, off, rfl, hcc⟩ := ints_cells (by omega) hc;refine (Tryz.slices_Clone_int b off xs.length c xs w (Nat.le_refl _) (by omega) hcc).mono ?_;rintro e w' ⟨v', rfl, k1, k2, k3⟩;rw [List.take_length] at k1;exact ⟨_, rfl, k1, fun _ => k2, k3⟩
theorem impl_Sort (v : Value) (xs : List Int) (base : Nat) (w : World) (h : w.ownsRow base 3 1 v xs.length (xs.map (Value.int .i64))) (hv : v ≠ .slice none 0 0) (hn : xs.length ≤ 2000000) :
  Calls Tryz.prog 96 #[v] w fun e w' => e = .returned (.tuple #[]) ∧ (∃ ys : List Int, ys.Perm xs ∧ ys.Pairwise (· ≤ ·) ∧ SlR w' w'.heap.size v (ys.map intV)) ∧ Below base w w' := by
 obtain ⟨g, cap, rfl, hg, hgl, hc, hm, -, hH⟩ := holds_of_ownsRow h hv;refine (Tryz.slices_Sort_int g 0 cap xs w hH hgl (by omega)).mono ?_;rintro e w' ⟨rfl, n, os, rfl⟩;have hp := List.mergeSort_perm xs (fun x y => decide (x ≤ y));have ho := ownsRow_putRow (q := n) (k := xs.length) h (ys := xs.mergeSort fun x y => decide (x ≤ y)) (by rw [hp.length_eq]) (Nat.le_refl _);rw [List.take_of_length_le (by rw [hp.length_eq]; exact Nat.le_refl _)] at ho;have hs := row_sl ho;generalize hW : putRow (Value.int .i64) (Sort.ahead w n) g 0 (xs.mergeSort fun x y => decide (x ≤ y)).toArray = W at hs;have hbW : Below base w W := by rw [← hW]; exact below_putRow (Below.refl _ _) hg
 have hbG : Below W.heap.size W (grow W os) := below_grow W os;have hsz : base ≤ W.heap.size := by have := hbW.size; omega
 refine ⟨rfl, ⟨_, hp, ?_, (hs.below hbG).more hbG.size⟩, hbW.trans (hbG.mono hsz)⟩;have := List.pairwise_mergeSort (le := fun x y : Int => decide (x ≤ y)) (fun a b c h1 h2 => by simp only [decide_eq_true_eq] at *; omega) (fun a b => by simp only [Bool.or_eq_true, decide_eq_true_eq]; omega) xs;exact this.imp fun h => by simpa using h
theorem impl_idsOk (v : Value) (xs : List Int) (k : Nat) (w : World) (h : IntsR w w.heap.size v xs) (hn : xs.length ≤ 2000000) :
  Calls Tryz.prog 133 #[v, .int .i64 (k : Int)] w fun e w' => e = .returned (.bool (idsB xs k)) ∧ Below w.heap.size w w' := by
 have HH := Lib.hid h;obtain ⟨A, c, rfl, h1, h2, h3⟩ := h.open_;clear h h3;by_cases h0 : xs.length = 0
 · obtain rfl : xs = [] := List.eq_nil_of_length_eq_zero h0;go_enter Tryz.func133, Tryz.ntmps133;go_wp2_with fail;go_ret;exact ⟨ret_bool (propB_t ⟨(fun _ h => by cases h), List.nodup_nil, .inl rfl⟩).symm, Below.refl _ _⟩
 ·
  have HZ := Lib.hid h0;have kq : (((xs.length : Nat) : Int) == (0 : Int)) = false := by rw [beq_eq_false_iff_ne]; omega
  clear h0;go_enter Tryz.func133, Tryz.ntmps133;go_wp2_with fail;refine (impl_Clone _ xs w HH.out hn).mono ?_;rintro e w1 ⟨v', rfl, ho, hv, hb1⟩;have HB1 := Lib.hid hb1; clear hb1;have HO := Lib.hid ho; clear ho;have HV := Lib.hid hv; clear hv;go_wp2_with fail;refine (impl_Sort v' xs w.heap.size w1 HO.out (HV.out (fun e => HZ.out (by rw [e]; rfl))) hn).mono ?_;rintro e w2 ⟨rfl, ⟨ys, hp, hs, hr⟩, hb2⟩;have hb : Below w.heap.size w w2 := HB1.out.trans hb2;have HB := Lib.hid hb; clear hb hb2;have HP := Lib.hid hp; clear hp;have HS := Lib.hid hs; clear hs;have HR := Lib.hid hr; clear hr;clear HB1 HO HV;have HI := Lib.hid (ids_sorted (k := k) HP.out HS.out (fun e => HZ.out (by rw [e]; rfl)));by_cases hl : xs.length = k
  ·
   have hx : riseB ys 1 999999 = idsB xs k := by unfold riseB idsB;exact propB_congr ⟨fun h => HI.out.1 ⟨hl, h⟩, fun h => (HI.out.2 h).2⟩
   have HX := Lib.hid hx; clear hx HI;subst hl;go_wp2_with fail;refine (impl_increasing v' ys 1 999999 w2 ⟨HR.out, fun x hx => HH.out.2 x (HP.out.mem_iff.1 hx)⟩).mono ?_;rintro e w3 ⟨rfl, rfl⟩;go_wp2_with fail;go_ret;exact ⟨ret_bool HX.out, HB.out⟩
  ·
   have kq2 : (((xs.length : Nat) : Int) == (k : Int)) = false := by rw [beq_eq_false_iff_ne]; omega
   have HL := Lib.hid hl; clear hl;go_wp2_with fail;go_ret;exact ⟨ret_bool (propB_f fun h => HL.out (HI.out.2 h).1).symm, HB.out⟩
end
section
open Go.RowKit
set_option linter.all false
theorem endOk_noP {n : Net} {v i : Nat} {e : Int × Int} (h : portB n e.1 e.2 = false) : ¬ endOk n.es v i e := fun ⟨h0, h1, m, hm, hx⟩ => by have : portB n e.1 e.2 = true := propB_t ⟨h0, h1, m, hm, (List.getElem?_eq_some_iff.1 hx).1⟩;rw [this] at h;cases h
theorem port_yes {n : Net} {e : Int × Int} (h : portB n e.1 e.2 = true) : ∃ (a p : Nat) (m : Ends) (x : Int × Int), e.1 = a ∧ e.2 = p ∧ n.es[a]? = some m ∧ m[p]? = some x := by obtain ⟨h0, h1, m, hm, hx⟩ := propB_iff.1 h;exact ⟨_, _, m, _, (Int.toNat_of_nonneg h0).symm, (Int.toNat_of_nonneg h1).symm, hm, List.getElem?_eq_getElem hx⟩
set_option maxRecDepth 100000 in
set_option maxHeartbeats 2000000 in
theorem impl_IsNetwork (ve vi vn : Value) (n : Net) (w : World) (h : NetR w w.heap.size ve vi vn n) (hz : n.es.length ≤ 2000000) (hzi : n.ids.length ≤ 2000000) :
  Calls Tryz.prog 88 #[.agg #[ve, vi, vn]] w fun e w' => e = .returned (.bool (netB n)) ∧ Below w.heap.size w w' := by
 have hgd : Tryz.prog.eqGuardType Tryz.prog.depth 74 = false := by kernel_rfl
 have heq := eqIn_End;obtain ⟨⟨A0, m0, c0, rfl⟩, ⟨A1, m1, c1, rfl⟩, A2, m2, c2, rfl⟩ := h.slices;obtain ⟨w0, hw0, hB, HD, hz0, HS0⟩ := box3 w (.slice A0 m0 c0) (.slice A1 m1 c1) (.slice A2 m2 c2) 27;have HN0 := Lib.hid h; have HN := Lib.hid (h.up hB); clear h;have HW0 := Lib.hid hw0; clear hw0;obtain ⟨q0, q1, q2, qf⟩ := cells3 HD;obtain ⟨hm0, hcc, hmx⟩ := HN.out.e.len_slice;subst hm0;obtain ⟨hm1, -, -, -⟩ := HN.out.i.some_;subst hm1;obtain ⟨hm2, hd2, hd3, -⟩ := HN.out.n.some_;subst hm2;have hmx' : n.es.length ≤ 9223372036854775807 := by unfold maxLen at hmx; omega
 have hmi' : n.ins.length ≤ 9223372036854775807 := by unfold maxLen at hd3; omega
 clear hmx hd3 hcc hd2;go_enter Tryz.func88, Tryz.ntmps88;cases g1 : inB (n.es.length : Int) 1 40 with
 | false =>
  go_wp2_with (go_at_call 25; refine (impl_within _ _ _ _).mono ?_; rintro e w' ⟨rfl, rfl⟩)
  go_ret;rw [← HW0.out];exact ⟨ret_bool (net_noH fun hh => by rw [inB_t (by have := hh.1; omega)] at g1; cases g1).symm, hB⟩
 | true =>
  have h40 : 1 ≤ n.es.length ∧ n.es.length ≤ 40 := by unfold inB at g1; have := of_decide_eq_true g1; omega
  go_wp2_with (go_at_call 25; refine (impl_within _ _ _ _).mono ?_; rintro e w' ⟨rfl, rfl⟩)
  rw [← HW0.out];refine (impl_idsOk _ n.ids n.es.length w0 HN.out.i hzi).mono ?_;rintro e w1 ⟨rfl, hb1⟩;have hzhb1 := hb1.size;clear q0 q1 q2 qf;replace HD := bk HD hb1;replace HN := Lib.hid (HN.out.up hb1);replace hB := bl_trans hB hb1;obtain ⟨q0, q1, q2, qf⟩ := cells3 HD;cases g2 : idsB n.ids n.es.length with
  | false =>
   go_wp2_with fail;go_ret;exact ⟨ret_bool (net_noH fun hh => by rw [show idsB n.ids n.es.length = true from propB_t hh.2.1] at g2; cases g2).symm, hB⟩
  | true =>
   go_wp2_with fail;refine (impl_inputsOk _ n.ins n.es.length w1 HN.out.n hz).mono ?_;rintro e w2 ⟨rfl, hb2⟩;have hzhb2 := hb2.size;clear q0 q1 q2 qf;replace HD := bk HD hb2;replace HN := Lib.hid (HN.out.up hb2);replace hB := bl_trans hB hb2;obtain ⟨q0, q1, q2, qf⟩ := cells3 HD;cases g3 : (decide (n.ins.length = n.es.length) && allB n.ins 0 9) with
   | false =>
    go_wp2_with fail;go_ret;exact ⟨ret_bool (net_noH fun hh => by rw [decide_eq_true hh.2.2.1, (inAll_iff _).2 hh.2.2.2] at g3; cases g3).symm, hB⟩
   | true =>
    have hc3 := Bool.and_eq_true_iff.1 g3;have HH := Lib.hid (show HeadP n from ⟨h40, propB_iff.1 g2, of_decide_eq_true hc3.1, (inAll_iff _).1 hc3.2⟩);clear hc3;go_wp2_with fail;go_loopw [3, 4, 33] (fun _ _ i wr => GdRel n w2 i wr) (fun _ _ i _ => n.es.length - (intOf i).toNat)
    case atStart => exact ⟨Below.refl _ _, 0, Nat.zero_le _, rfl, fun _ _ h => absurd h (by omega)⟩
    case round =>
     obtain ⟨hb3, k, hk, rfl, hup⟩ := hrel;have HU := Lib.hid hup; clear hup;have hzhb3 := hb3.size;clear q0 q1 q2 qf;replace HD := bk HD hb3;replace HN := Lib.hid (HN.out.up hb3);replace hB := bl_trans hB hb3;obtain ⟨q0, q1, q2, qf⟩ := cells3 HD;by_cases hlt : k < n.es.length
     ·
      obtain ⟨l, hl⟩ : ∃ y, n.es[k]? = some y := ⟨n.es[k], List.getElem?_eq_getElem hlt⟩
      obtain ⟨ad, rfl⟩ := HN.out.e.some_ (by omega);obtain ⟨hbb, u, hu, hr⟩ := HN.out.e.at_ hl;have HR := Lib.hid hr;obtain ⟨A', c', rfl, hlc, hlm, -, h4⟩ := hr;unfold maxLen at hlm;have HL := Lib.hid hl; clear hl;by_cases h6 : l.length ≤ 6
      ·
       go_wp2_with fail;obtain ⟨wq, rfl⟩ : ∃ z, z = wr := ⟨_, rfl⟩
       go_loopw [5, 6, 43] (fun _ _ i wr' => GeRel n k l wq i wr') (fun _ _ i _ => l.length - (intOf i).toNat)
       case atStart => exact ⟨Below.refl _ _, 0, Nat.zero_le _, rfl, fun _ _ h => absurd h (by omega)⟩
       case round =>
        obtain ⟨hb2, j, hj, rfl, hup2⟩ := hrel;have HU2 := Lib.hid hup2; clear hup2;have hzhb2 := hb2.size;clear q0 q1 q2 qf;replace HD := bk HD hb2;replace HN := Lib.hid (HN.out.up hb2);replace hB := bl_trans hB hb2;obtain ⟨q0, q1, q2, qf⟩ := cells3 HD;by_cases hlt2 : j < l.length
        ·
         obtain ⟨e, he⟩ : ∃ y, l[j]? = some y := ⟨_, List.getElem?_eq_getElem hlt2⟩
         obtain ⟨b, o, rfl, -, -⟩ := h4 (by omega);obtain ⟨hbb, p0, p1⟩ := (HR.out.below hb2).at_ he;obtain ⟨wv, hwv, hb4, HE, hzv, HSV⟩ := box2 wr (.int .i64 e.1) (.int .i64 e.2) 74;have HWV := Lib.hid hwv; clear hwv;have HEL := Lib.hid he; clear he;go_wp2_with fail;rw [← HWV.out];replace hb2 := bl_trans hb2 hb4;have hzhb4 := hb4.size;clear q0 q1 q2 qf;replace HD := bk HD hb4;replace HN := Lib.hid (HN.out.up hb4);replace hB := bl_trans hB hb4;obtain ⟨q0, q1, q2, qf⟩ := cells3 HD;obtain ⟨e0, e1, ef⟩ := cells2 HE;have HNS := Lib.hid (fun h => net_noE HL.out HEL.out h);cases g : portB n e.1 e.2 with
         | false =>
          have HF := Lib.hid (HNS.out (endOk_noP g));clear HNS p0 p1;refine wp_region_held_drew (S := fun w' => w'.cell? ⟨w.heap.size, 0, none⟩ = some (.slice (some ad) n.es.length c0) ∧ w'.cell? ⟨w.heap.size, 1, none⟩ = some (.slice A1 n.ids.length c1) ∧ w'.cell? ⟨w.heap.size, 2, none⟩ = some (.slice A2 n.ins.length c2) ∧ w'.cell? ⟨wr.heap.size, 0, none⟩ = some (.int .i64 e.1) ∧ w'.cell? ⟨wr.heap.size, 1, none⟩ = some (.int .i64 e.2)) (by kernel_rfl) ?_ (fun hHeld => ?_)
          · go_keep
          refine stk 0 48 ?_;refine stk 1 49 ?_;refine stk 2 50 ?_;refine stk 3 51 ?_;refine stk 4 52 ?_;refine tr 5 rfl (by kernel_rfl) (fun K hK => ?_);go_simp;go_at_call 135;refine (impl_hasPort _ _ _ n e.1 e.2 wv.drew (HN.out.up (Below.refl _ _).drew) hz).mono ?_;rintro e' w5 ⟨rfl, hb5'⟩;have hb5 : Below wv.heap.size wv w5 := (Below.refl _ _).drew.trans hb5';clear hb5';rw [g];have hzhb5 := hb5.size;clear q0 q1 q2 qf;replace HD := bk HD hb5;replace HN := Lib.hid (HN.out.up hb5);replace hB := bl_trans hB hb5;obtain ⟨q0, q1, q2, qf⟩ := cells3 HD;replace hb2 := bl_trans hb2 hb5;clear e0 e1 ef;replace HE := bk HE hb5;obtain ⟨e0, e1, ef⟩ := cells2 HE;refine hK.out _ _ ?_ (fun hHeld => ?_)
          · go_keep
          clear hK K
          try simp only [Act.put, pu]
          refine stk 6 54 ?_;refine stk 7 55 ?_;refine stn 8 56 ?_;refine stn 9 57 ?_;refine stn 10 58 ?_;refine stn 11 59 ?_;refine stn 12 60 ?_;refine stn 13 61 ?_;refine stn 14 62 ?_;refine stn 15 63 ?_;refine stn 16 64 ?_;refine stn 17 65 ?_;refine stn 18 66 ?_;refine stn 19 67 ?_;refine stn 20 68 ?_;refine stn 21 69 ?_;refine stk 22 70 ?_;refine wpAnyH_done (by kernel_rfl) ?_ _;go_wp2_with fail;go_ret;exact ⟨ret_bool HF.out.symm, hB⟩
         | true =>
          obtain ⟨a, p, m, x, ha, hp, hm, hx⟩ := port_yes g;obtain ⟨hbA, u2, r0, hrm⟩ := HN.out.e.at_ hm;have hbq : (ad.add a).block < wv.heap.size := by rw [block_add]; exact hbA
          clear hbA;have HRM := Lib.hid hrm;obtain ⟨Am, cm, rfl, hmc, hmm, -, h5⟩ := hrm;unfold maxLen at hmm;have hpl := (List.getElem?_eq_some_iff.1 hx).1;have hal := (List.getElem?_eq_some_iff.1 hm).1;obtain ⟨b2, o2, rfl, -, -⟩ := h5 (by omega);obtain ⟨hbx, x0, x1⟩ := HRM.out.at_ hx;replace hbx : b2 < wv.heap.size := hbx;rw [ha] at e0;rw [hp] at e1;rw [ha, hp] at g;have HA := Lib.hid ha; clear ha;have HPP := Lib.hid hp; clear hp;have HM := Lib.hid hm; clear hm;have HX := Lib.hid hx; clear hx;clear p0 p1 h5;by_cases hv : x.1 = (k : Int) ∧ x.2 = (j : Int)
          ·
           have kq : (x.1 == (k : Int) && x.2 == (j : Int)) = true := by rw [hv.1, hv.2]; simp
           have HO := Lib.hid (HU2.out.next HEL.out (endOk_of HA.out HPP.out HM.out HX.out hv));clear hv HNS;refine wp_region_held_drew (S := fun w' => w'.cell? ⟨w.heap.size, 0, none⟩ = some (.slice (some ad) n.es.length c0) ∧ w'.cell? ⟨w.heap.size, 1, none⟩ = some (.slice A1 n.ids.length c1) ∧ w'.cell? ⟨w.heap.size, 2, none⟩ = some (.slice A2 n.ins.length c2) ∧ w'.cell? ⟨wr.heap.size, 0, none⟩ = some (.int .i64 (a : Int)) ∧ w'.cell? ⟨wr.heap.size, 1, none⟩ = some (.int .i64 (p : Int)) ∧ w'.cell? (ad.add a) = some (.slice (some ⟨b2, o2, none⟩) m.length cm) ∧ w'.cell? ⟨b2, o2 + p * 2, none⟩ = some (.int .i64 x.1) ∧ w'.cell? ⟨b2, o2 + p * 2 + 1, none⟩ = some (.int .i64 x.2)) (by kernel_rfl) ?_ (fun hHeld => ?_)
           · go_keep
           refine stk 0 48 ?_;refine stk 1 49 ?_;refine stk 2 50 ?_;refine stk 3 51 ?_;refine stk 4 52 ?_;refine tr 5 rfl (by kernel_rfl) (fun K hK => ?_);go_simp;go_at_call 135;refine (impl_hasPort _ _ _ n (a : Int) (p : Int) wv.drew (HN.out.up (Below.refl _ _).drew) hz).mono ?_;rintro e' w5 ⟨rfl, hb5'⟩;have hb5 : Below wv.heap.size wv w5 := (Below.refl _ _).drew.trans hb5';clear hb5';rw [g];have hzhb5 := hb5.size;clear q0 q1 q2 qf;replace HD := bk HD hb5;replace HN := Lib.hid (HN.out.up hb5);replace hB := bl_trans hB hb5;obtain ⟨q0, q1, q2, qf⟩ := cells3 HD;replace hb2 := bl_trans hb2 hb5;clear e0 e1 ef;replace HE := bk HE hb5;obtain ⟨e0, e1, ef⟩ := cells2 HE;rw [HA.out] at e0;rw [HPP.out] at e1;replace r0 := (hb5.cell hbq).trans r0;replace x0 := (hb5.cell (by exact hbx)).trans x0;replace x1 := (hb5.cell (by exact hbx)).trans x1;refine hK.out _ _ ?_ (fun hHeld => ?_)
           · go_keep
           clear hK K
           try simp only [Act.put, pu]
           refine stk 6 54 ?_;refine stk 7 55 ?_;refine stk 8 56 ?_;refine stk 9 57 ?_;refine stk 10 58 ?_;refine stk 11 59 ?_;refine stk 12 60 ?_;refine stk 13 61 ?_;refine stk 14 62 ?_;refine stk 15 63 ?_;refine stk 16 64 ?_;refine stk 17 65 ?_;refine stk 18 66 ?_;refine stk 19 67 ?_;refine stk 20 68 ?_;refine stk 21 69 ?_;refine stk 22 70 ?_;refine wpAnyH_done (by kernel_rfl) ?_ _;go_wp2_with fail;go_roundw
           case rel => exact ⟨hb2, j + 1, by omega, by go_num, HO.out⟩
           case measure => simp [intOf]; omega
          ·
           have kq : (x.1 == (k : Int) && x.2 == (j : Int)) = false := by
            rw [Bool.and_eq_false_iff, beq_eq_false_iff_ne, beq_eq_false_iff_ne];by_cases h1 : x.1 = (k : Int)
            · exact .inr fun h2 => hv ⟨h1, h2⟩
            · exact .inl h1
           have HF := Lib.hid (HNS.out (endOk_no3 HA.out HPP.out HM.out HX.out hv));clear hv HNS;refine wp_region_held_drew (S := fun w' => w'.cell? ⟨w.heap.size, 0, none⟩ = some (.slice (some ad) n.es.length c0) ∧ w'.cell? ⟨w.heap.size, 1, none⟩ = some (.slice A1 n.ids.length c1) ∧ w'.cell? ⟨w.heap.size, 2, none⟩ = some (.slice A2 n.ins.length c2) ∧ w'.cell? ⟨wr.heap.size, 0, none⟩ = some (.int .i64 (a : Int)) ∧ w'.cell? ⟨wr.heap.size, 1, none⟩ = some (.int .i64 (p : Int)) ∧ w'.cell? (ad.add a) = some (.slice (some ⟨b2, o2, none⟩) m.length cm) ∧ w'.cell? ⟨b2, o2 + p * 2, none⟩ = some (.int .i64 x.1) ∧ w'.cell? ⟨b2, o2 + p * 2 + 1, none⟩ = some (.int .i64 x.2)) (by kernel_rfl) ?_ (fun hHeld => ?_)
           · go_keep
           refine stk 0 48 ?_;refine stk 1 49 ?_;refine stk 2 50 ?_;refine stk 3 51 ?_;refine stk 4 52 ?_;refine tr 5 rfl (by kernel_rfl) (fun K hK => ?_);go_simp;go_at_call 135;refine (impl_hasPort _ _ _ n (a : Int) (p : Int) wv.drew (HN.out.up (Below.refl _ _).drew) hz).mono ?_;rintro e' w5 ⟨rfl, hb5'⟩;have hb5 : Below wv.heap.size wv w5 := (Below.refl _ _).drew.trans hb5';clear hb5';rw [g];have hzhb5 := hb5.size;clear q0 q1 q2 qf;replace HD := bk HD hb5;replace HN := Lib.hid (HN.out.up hb5);replace hB := bl_trans hB hb5;obtain ⟨q0, q1, q2, qf⟩ := cells3 HD;replace hb2 := bl_trans hb2 hb5;clear e0 e1 ef;replace HE := bk HE hb5;obtain ⟨e0, e1, ef⟩ := cells2 HE;rw [HA.out] at e0;rw [HPP.out] at e1;replace r0 := (hb5.cell hbq).trans r0;replace x0 := (hb5.cell (by exact hbx)).trans x0;replace x1 := (hb5.cell (by exact hbx)).trans x1;refine hK.out _ _ ?_ (fun hHeld => ?_)
           · go_keep
           clear hK K
           try simp only [Act.put, pu]
           refine stk 6 54 ?_;refine stk 7 55 ?_;refine stk 8 56 ?_;refine stk 9 57 ?_;refine stk 10 58 ?_;refine stk 11 59 ?_;refine stk 12 60 ?_;refine stk 13 61 ?_;refine stk 14 62 ?_;refine stk 15 63 ?_;refine stk 16 64 ?_;refine stk 17 65 ?_;refine stk 18 66 ?_;refine stk 19 67 ?_;refine stk 20 68 ?_;refine stk 21 69 ?_;refine stk 22 70 ?_;refine wpAnyH_done (by kernel_rfl) ?_ _;go_wp2_with fail;go_ret;exact ⟨ret_bool HF.out.symm, hB⟩
        ·
         have hl2 : l.length ≤ j := by omega
         go_wp2_with fail;refine ⟨⟨bl_trans hb3 hb2, k + 1, by omega, by go_num, HU.out.next HL.out h6 HU2.out hl2⟩, ?_⟩;simp [intOf];omega
      · have HF := Lib.hid (net_no6 HL.out h6);go_wp2_with fail;go_ret;exact ⟨ret_bool HF.out.symm, hB⟩
     · have HF := Lib.hid (net_end HH.out HU.out (by omega));go_wp2_with fail;go_ret;exact ⟨ret_bool HF.out.symm, hB⟩
end
section
open Go.RowKit
set_option linter.all false
theorem impl_degrees (ve vi vn : Value) (n : Net) (w : World) (h : NetR w w.heap.size ve vi vn n) (hp : netP n) :
  Calls Tryz.prog 109 #[.agg #[ve, vi, vn]] w fun e w' => ∃ u, e = .returned u ∧ (∃ A m c, u = .slice A m c) ∧ IntsR w' w'.heap.size u (degs n) ∧ Below w.heap.size w w' := by
 have h40 := hp.1.2;have HP := Lib.hid hp; clear hp;obtain ⟨⟨A0, m0, c0, rfl⟩, ⟨A1, m1, c1, rfl⟩, A2, m2, c2, rfl⟩ := h.slices;obtain ⟨w0, hw0, hB, HD, hz0, HS0⟩ := box3 w (.slice A0 m0 c0) (.slice A1 m1 c1) (.slice A2 m2 c2) 27;have HN0 := Lib.hid h; have HN := Lib.hid (h.up hB); clear h;have HW0 := Lib.hid hw0; clear hw0;obtain ⟨q0, q1, q2, qf⟩ := cells3 HD;obtain ⟨hm0, -, -⟩ := HN.out.e.len_slice;subst hm0;have hdl : (degs n).length = n.es.length := by unfold degs; simp
 have HDL := Lib.hid hdl; clear hdl;go_enter Tryz.func109, Tryz.ntmps109;go_wp2_with fail;rw [← HW0.out];go_loopw [3, 5, 9] (fun v _ i wr => IntsRel (degs n) w0 v i wr) (fun _ _ i _ => n.es.length - (intOf i).toNat)
 case atStart => exact ⟨0, Nat.zero_le _, rfl, World.ownsRow_nil _ _ _ _, Below.refl _ _⟩
 case round =>
  obtain ⟨k, hk, rfl, hown, hb1⟩ := hrel;rw [HDL.out] at hk;have hzhb1 := hb1.size;clear q0 q1 q2 qf;replace HD := bk HD hb1;replace HN := Lib.hid (HN.out.up hb1);replace hB := bl_trans hB hb1;obtain ⟨q0, q1, q2, qf⟩ := cells3 HD;by_cases hlt : k < n.es.length
  ·
   obtain ⟨l, hl⟩ : ∃ y, n.es[k]? = some y := ⟨n.es[k], List.getElem?_eq_getElem hlt⟩
   obtain ⟨ad, rfl⟩ : ∃ ad, A0 = some ad := by obtain ⟨A', c', e, -, -, h3⟩ := HN.out.e;obtain ⟨ad, e', -⟩ := h3 (by omega);cases e;exact ⟨ad, e'⟩
   obtain ⟨hbb, u, hu, hr⟩ := HN.out.e.at_ hl;obtain ⟨A', c', rfl, -⟩ := hr;have hl6 := HP.out.len hl;have HS := Lib.hid (degs_snoc n k l hl);clear hl hbb;go_wp2_with ((at_builtin; refine wpList_append1 wr rfl (.tmp 13) (.tmp 16) 25 rfl w0.heap.size 3 _ 8 Tryz.underlying25 intInfo rfl _ _ _ rfl _ rfl rfl hown (by unfold maxLen; omega) (by omega) hb1.size ?_; intro v' w' hown' hbl' hgr' hlt' hob'))
   go_roundw
   case rel => exact ⟨k + 1, by rw [HDL.out]; omega, by go_num, by rw [HS.out]; exact hown', hb1.trans hbl'⟩
   case measure => simp [intOf]; omega
  · have hI := IntsRel.fin hown (by rw [HDL.out]; omega) (fun x hx => small_I64 (degs_bd HP.out x hx) (by omega) (by omega));have HO := Lib.hid hI; clear hI hown;go_wp2_with fail;go_ret;exact ⟨_, rfl, HO.out.isSlice, HO.out, hB⟩
theorem impl_isRule (r : Int) (w : World) : Calls Tryz.prog 89 #[.int .i64 r] w fun e w' => e = .returned (.bool (inB r 1 5)) ∧ w = w' := by
  go_enter Tryz.func89, Tryz.ntmps89;go_wp2_with (go_at_call 25; refine (impl_within _ _ _ _).mono ?_; rintro e w' ⟨rfl, rfl⟩)
  go_ret;exact ⟨rfl, rfl⟩
theorem impl_oneIf (b : Bool) (w : World) : Calls Tryz.prog 78 #[.bool b] w fun e w' => e = .returned (.int .i64 (if b = true then 1 else 0)) ∧ w = w' := by
  cases b with
  | true =>
    go_enter Tryz.func78, Tryz.ntmps78;go_wp2_with fail;go_ret;exact ⟨rfl, rfl⟩
  | false =>
    go_enter Tryz.func78, Tryz.ntmps78;go_wp2_with fail;go_ret;exact ⟨rfl, rfl⟩
theorem ones_snocI {xs : List Int} {k : Nat} {x : Int} (h : xs[k]? = some x) : ((onesN (xs.take (k + 1)) : Nat) : Int) = (onesN (xs.take k) : Nat) + if x = 1 then 1 else 0 := by rw [ones_snoc h];by_cases e : x = 1 <;> simp [e]
def OnesRel (xs : List Int) (w : World) (o i : Value) (wr : World) : Prop := w = wr ∧ ∃ k : Nat, k ≤ xs.length ∧ i = .int .i64 k ∧ o = .int .i64 (onesN (xs.take k) : Nat)
theorem impl_ones (v : Value) (xs : List Int) (w : World) (h : IntsR w w.heap.size v xs) :
  Calls Tryz.prog 162 #[v] w fun e w' => e = .returned (.int .i64 (onesN xs : Nat)) ∧ w = w' := by
 obtain ⟨A, c, rfl, h1, h2, h3⟩ := h.open_;unfold maxLen at h2;clear h;go_enter Tryz.func162, Tryz.ntmps162;go_wp2_with fail;go_loopw [3, 5, 8] (fun o _ i wr => OnesRel xs w o i wr) (fun _ _ i _ => xs.length - (intOf i).toNat)
 case atStart => exact ⟨rfl, 0, Nat.zero_le _, rfl, rfl⟩
 case round =>
  obtain ⟨rfl, k, hk, rfl, rfl⟩ := hrel;have hc : onesN (xs.take k) ≤ k := by have := List.countP_le_length (p := fun x : Int => x == 1) (l := xs.take k);rw [List.length_take] at this;unfold onesN;omega
  by_cases hlt : k < xs.length
  ·
   obtain ⟨x, hx⟩ : ∃ y, xs[k]? = some y := ⟨xs[k], List.getElem?_eq_getElem hlt⟩
   obtain ⟨ad, rfl, hb, hc'⟩ := h3 (by omega);have hcell := hc' k x hx;have HS := Lib.hid (ones_snocI hx);have hwr : ∀ b : Bool, IntKind.i64.wrap ((onesN (xs.take k) : Nat) + if b = true then (1 : Int) else 0) = (onesN (xs.take k) : Nat) + if b = true then (1 : Int) else 0 := fun b => IntWalk.i64_in _ (by cases b <;> simp <;> omega)
   clear h3 hc' hx;go_wp2_with (go_at_call 78; refine (impl_oneIf _ _).mono ?_; rintro e w' ⟨rfl, rfl⟩)
   go_roundw
   case rel => exact ⟨rfl, k + 1, by omega, by go_num, by rw [HS.out]⟩
   case measure => simp [intOf]; omega
  · have HF := Lib.hid (show xs.take k = xs from List.take_of_length_le (by omega));go_wp2_with fail;go_ret;exact ⟨by rw [HF.out]; rfl, rfl⟩
end
section
open Go.RowKit
set_option linter.all false
theorem run_copy_row {P : Program} (w : World) (dT sT ty elem e : TypeId) (g o dLen dCap : Nat) (cur : Array Value) (hg : w.heap[g]? = some (.cells cur e (0, 0))) (a : Addr) (sLen sCap : Nat) (cs : List Value) (k : Nat)
    (hu : P.underlying dT = some (.slice elem)) (hs : (P.info? elem).map (·.size) = some k) (hn : cs.length = Nat.min sLen dLen * k)
    (hsrc : ∀ j v, cs[j]? = some v → w.cell? (a.add j) = some v) (hfit : o + cs.length ≤ cur.size) (h1 : ∀ v ∈ cs, v.oneCell' = true) :
    (Builtin.copy_ #[dT, sT] ty #[.slice (some ⟨g, o, none⟩) dLen dCap, .slice (some a) sLen sCap]).run P w =
      .ok (goInt (Nat.min sLen dLen)) (w.setRow g (cur.toList.take o ++ cs ++ cur.toList.drop (o + cs.length)).toArray) := by
  have hl := run_loadCells_list (P := P) w a cs hsrc;have hst := run_storeCells_at P g o e cs 0 cur w hg (by simpa using hfit) h1;simp only [Nat.add_zero] at hst;cases hq : P.info? elem with
  | none => simp [hq] at hs
  | some i =>
    have hi : i.size = k := by simpa [hq] using hs
    rw [hn] at hl;simp [Builtin.copy_, run_underlying hu, Builtin.lenOf, Builtin.firstCells, sizeOf, typeInfo, hq, hi, hl, hst]
theorem step_copy_runK {P : Program} {ops : Array Oper} {o : Oper} {a : Act} {w : World} {K : Act → World → Prop} {Q : Exit → Act → World → Prop} {E : Prop}
    (hg : o.guard = none) (d x : Operand) (dT sT : TypeId) (hop : o.op = Op.call { callee := Callee.builtin Builtin.copy, args := #[d, x], argTypes := #[dT, sT] })
    (v u : Value) (hd : a.eval d = v) (hx : a.eval x = u) {v' : Value} {w' : World} (hr : (Builtin.copy_ #[dT, sT] o.type #[v, u]).run P w = .ok v' w') (hK : K (a.put o.dst v') w') :
    if Region.wanted o (yielded ops a.tmps) = true then Oper.wp P o a w K Q else E := by
  have hw : Region.wanted o (yielded ops a.tmps) = true := by simp [Region.wanted, hg]
  rw [if_pos hw];unfold Oper.wp;simp [execOp, hop, resolve, invoke, builtin, hd, hx, hr, Result.andThen];exact hK
theorem mul_one (k : Nat) (hk : k ≤ 100000) (w : World) : Calls Tryz.prog 138 #[.int .u64 1, .int .u64 (k : Int)] w fun e w' => e = .returned (.tuple #[.int .u64 0, .int .u64 (k : Int)]) ∧ w = w' := by refine (Tryz.bits_Mul 1 k (by omega) (by omega) w).mono ?_;rintro e w' ⟨rfl, rfl⟩;rw [show 1 * k / 18446744073709551616 = 0 from Nat.div_eq_of_lt (by omega), show 1 * k % 18446744073709551616 = k by rw [Nat.mod_eq_of_lt (by omega), Nat.one_mul]];exact ⟨rfl, rfl⟩
theorem copy_nums {w : World} {g gs o so n m c c' : Nat} {d ss : List Int} (hg : NumsAt w g d) (hs : ∀ j, j < Nat.min m n → w.cell? ((⟨gs, so, none⟩ : Addr).add j) = some (.int .i64 (ss.getD j 0))) (hl : Nat.min m n ≤ ss.length) (hfit : o + Nat.min m n ≤ d.length) :
    (Builtin.copy_ #[25, 25] 3 #[.slice (some ⟨g, o, none⟩) n c, .slice (some ⟨gs, so, none⟩) m c']).run Tryz.prog w = .ok (.int .i64 (Nat.min m n : Nat)) (w.setRow g ((d.take o ++ ss.take (Nat.min m n) ++ d.drop (o + Nat.min m n)).map intV).toArray) := by
  have hlen : ((ss.take (Nat.min m n)).map intV).length = Nat.min m n := by rw [List.length_map, List.length_take]; omega
  have h := run_copy_row (P := Tryz.prog) w 25 25 3 3 3 g o n c (d.map intV).toArray hg ⟨gs, so, none⟩ m c' ((ss.take (Nat.min m n)).map intV) 1 Tryz.underlying25 (by kernel_rfl) (by rw [hlen, Nat.mul_one]) (fun j v hv => by
      rw [List.getElem?_map] at hv;obtain ⟨y, hy, rfl⟩ := Option.map_eq_some_iff.1 hv;have hj := (List.getElem?_eq_some_iff.1 hy).1;rw [List.length_take] at hj;rw [hs j (by omega)];rw [List.getElem?_take_of_lt (by omega)] at hy;rw [List.getD_eq_getElem?_getD, hy];rfl) (by rw [hlen]; simpa using hfit) (fun v hv => by
      obtain ⟨y, _, rfl⟩ := List.mem_map.1 hv
      rfl)
  rw [hlen] at h;rw [h];simp [goInt, List.map_append, List.map_take, List.map_drop]
def RepRel (x : Int) (k g : Nat) (w i : World) (v : Value) : Prop := ∃ j : Nat, 1 ≤ j ∧ j ≤ k ∧ v = .int .i64 j ∧ NumsAt i g (List.replicate j x ++ List.replicate (k - j) 0) ∧ Below w.heap.size w i
set_option maxRecDepth 100000 in
theorem impl_Repeat (x : Int) (k g0 : Nat) (w : World) (hg : NumsAt w g0 [x]) (hk : 1 ≤ k) (hk2 : k ≤ 100000) :
  Calls Tryz.prog 91 #[.slice (some ⟨g0, 0, none⟩) 1 1, .int .i64 (k : Int)] w fun e w' => e = .returned (.slice (some ⟨w.heap.size, 0, none⟩) k k) ∧ NumsAt w' w.heap.size (List.replicate k x) ∧ Below w.heap.size w w' := by
 have hmk := fun W => run_make1 (P := Tryz.prog) 25 3 (.int .i64 0) 8 Tryz.underlying25 intInfo rfl k (by omega) (by omega) W
 have hN0 : NumsAt (w.alloc (.cells (rowOf [] k (.int .i64 0)) 3)) w.heap.size (List.replicate 0 x ++ List.replicate (k - 0) 0) := by unfold NumsAt;rw [heap_alloc_new, ← rowOf_map 0 k (Nat.zero_le _)];rfl
 have hgl := hg.lt;have hcs : ∀ j, j < Nat.min 1 k → (w.alloc (.cells (rowOf [] k (.int .i64 0)) 3)).cell? ((⟨g0, 0, none⟩ : Addr).add j) = some (.int .i64 ([x].getD j 0)) := fun j hj => by
  obtain rfl : j = 0 := by have h : Nat.min 1 k ≤ 1 := Nat.min_le_left _ _; omega
  exact Lib.cell?_alloc_some _ (hg.cell (i := 0) rfl)
 have hm1 : Nat.min 1 k = 1 := Nat.min_eq_left hk;have hcp := copy_nums (c := k) (c' := 1) (o := 0) hN0 hcs (by rw [hm1]; exact Nat.le_refl _) (by rw [hm1]; simp; omega);rw [hm1] at hcp;obtain ⟨w1, hw1⟩ : ∃ z, z = (w.alloc (.cells (rowOf [] k (.int .i64 0)) 3)).setRow w.heap.size (((List.replicate 0 x ++ List.replicate (k - 0) 0).take 0 ++ [x].take 1 ++ (List.replicate 0 x ++ List.replicate (k - 0) 0).drop (0 + 1)).map intV).toArray := ⟨_, rfl⟩
 rw [← hw1] at hcp;have hN1 : NumsAt w1 w.heap.size (List.replicate 1 x ++ List.replicate (k - 1) 0) := by unfold NumsAt;rw [hw1, setRow_heap _ _ _ _ _ _ hN0];simp
 have hb1 : Below w.heap.size w w1 := by rw [hw1];exact below_setRow (bl_alloc (Below.refl _ _) _) (Nat.le_refl _) _
 have HN1 := Lib.hid hN1; clear hN1 hcs hN0 hm1;have HB1 := Lib.hid hb1; clear hb1 hw1;have hw1 : IntKind.u64.wrap (k : Int) = (k : Int) := IntWalk.u64_in _ (by omega);have hw2 : IntKind.i64.wrap (k : Int) = (k : Int) := IntWalk.i64_in _ (by omega);go_enter Tryz.func91, Tryz.ntmps91;go_wp2_with (go_at_call 138; refine (mul_one k (by omega) _).mono ?_; rintro e w' ⟨rfl, rfl⟩)
 go_loopw [8] (fun i wr => RepRel x k w.heap.size w wr i) (fun i _ => k - (intOf i).toNat)
 case atStart => exact ⟨1, Nat.le_refl _, hk, rfl, HN1.out, HB1.out⟩
 case round =>
  clear hcp;obtain ⟨j, hj1, hj, rfl, hn, hb⟩ := hrel;have HB := Lib.hid hb; clear hb;by_cases hlt : j < k
  ·
   have HNU := Lib.hid hn; clear hn
   have hcp := copy_nums (w := wr.drew) (g := w.heap.size) (gs := w.heap.size) (o := j) (so := 0) (n := k - j) (m := j) (c := k - j) (c' := k) (d := List.replicate j x ++ List.replicate (k - j) 0) (ss := List.replicate j x) HNU.out (fun i hi => by
    have hij : i < j := by have h : Nat.min j (k - j) ≤ j := Nat.min_le_left _ _; omega
    have h := HNU.out.cell (i := i) (x := x) (by rw [List.getElem?_append_left (by simpa using hij), List.getElem?_replicate, if_pos hij]);rw [List.getD_eq_getElem?_getD, List.getElem?_replicate, if_pos hij, Option.getD_some];refine Eq.trans ?_ h
    rcases i with _ | i <;> simp [Addr.add] <;> rfl) (by rw [List.length_replicate]; exact Nat.min_le_left _ _) (by rw [List.length_append, List.length_replicate, List.length_replicate]; have h : Nat.min j (k - j) ≤ k - j := Nat.min_le_right _ _; omega)
   have hm0 : 1 ≤ Nat.min j (k - j) := Nat.le_min.2 ⟨hj1, by omega⟩;have hm1 : Nat.min j (k - j) ≤ k - j := Nat.min_le_right _ _;have hm2 : Nat.min j (k - j) ≤ j := Nat.min_le_left _ _;generalize Nat.min j (k - j) = m at hcp hm0 hm1 hm2;obtain ⟨w2, hw2⟩ : ∃ z, z = wr.drew.setRow w.heap.size (((List.replicate j x ++ List.replicate (k - j) 0).take j ++ (List.replicate j x).take m ++ (List.replicate j x ++ List.replicate (k - j) 0).drop (j + m)).map intV).toArray := ⟨_, rfl⟩
   rw [← hw2] at hcp;have hN2 : NumsAt w2 w.heap.size (List.replicate (j + m) x ++ List.replicate (k - (j + m)) 0) := by unfold NumsAt;rw [hw2, setRow_heap _ _ _ _ _ _ (show wr.drew.heap[w.heap.size]? = _ from HNU.out)];congr 4;rw [List.take_append_of_le_length (by simp), List.take_of_length_le (by simp), List.take_replicate, Nat.min_eq_left hm2, List.drop_append, List.drop_of_length_le (by simp), List.length_replicate, List.nil_append, List.drop_replicate, show k - j - (j + m - j) = k - (j + m) by omega, List.replicate_append_replicate]
   have hb2 : Below w.heap.size w w2 := by rw [hw2];exact below_setRow HB.out.drew (Nat.le_refl _) _
   have HN2 := Lib.hid hN2; clear hN2;have HB2 := Lib.hid hb2; clear hb2 hw2;have HCP := Lib.hid hcp; clear hcp;have hkj : ¬ k = j := by omega
   have hwr : IntKind.i64.wrap ((j : Int) + (m : Int)) = ((j + m : Nat) : Int) := by rw [← Int.natCast_add]; exact IntWalk.i64_in _ (by omega)
   go_wp2_with fail;refine wp_region_held_drew (S := fun _ => True) (by kernel_rfl) ?_ (fun hHeld => ?_)
   · trivial
   refine stk 0 38 ?_;refine stk 1 39 ?_;refine stk 2 40 ?_;refine stk 3 41 ?_;refine stk 4 42 ?_;refine stk 5 43 ?_;refine stk 6 44 ?_;refine tr 7 rfl (by kernel_rfl) (fun K hK => ?_);refine step_copy_runK rfl (.tmp 41) (.tmp 44) _ _ rfl _ _ rfl rfl HCP.out ?_;refine hK.out _ _ trivial (fun hHeld => ?_);clear hK K
   try simp only [Act.put, pu]
   refine stk 8 46 ?_;refine stk 9 8 ?_;refine wpAnyH_done (by kernel_rfl) ?_ _;go_wp2_with fail;go_roundw
   case rel => exact ⟨j + m, by omega, by omega, rfl, HN2.out, HB2.out⟩
   case measure => simp [intOf]; omega
  ·
   obtain rfl : j = k := by omega
   rw [Nat.sub_self, List.replicate_zero, List.append_nil] at hn;have HNU := Lib.hid hn; clear hn;go_wp2_with fail;go_ret;exact ⟨rfl, HNU.out, HB.out⟩
end
section
open Go.RowKit
set_option linter.all false
def QRow (w : World) (base : Nat) (v : Value) (q : List Int) : Prop :=
  ∃ (g o m cap : Nat) (cur : Array Value), v = .slice (some ⟨g, o, none⟩) m cap ∧ m = q.length ∧ base ≤ g ∧ w.heap[g]? = some (.cells cur 3 (0, 0)) ∧ m ≤ cap ∧ cap ≤ maxLen ∧ o + cap ≤ cur.size ∧ ∀ j x, q[j]? = some x → cur[o + j]? = some (.int .i64 x)
theorem QRow.keep {w w' : World} {base : Nat} {v : Value} {q : List Int} (h : QRow w base v q) (hk : ∀ b, base ≤ b → b < w.heap.size → w'.heap[b]? = w.heap[b]?) : QRow w' base v q := by
  obtain ⟨g, o, m, cap, cur, rfl, rfl, h1, h2, h3, h4, h5, h6⟩ := h
  exact ⟨g, o, _, cap, cur, rfl, rfl, h1, (hk g h1 (by
    rcases Nat.lt_or_ge g w.heap.size with h | h
    · exact h
    · rw [Array.getElem?_eq_none h] at h2; cases h2)).trans h2, h3, h4, h5, h6⟩
theorem QRow.start {w : World} {base g : Nat} {x : Int} (h : w.heap[g]? = some (.cells #[.int .i64 x] 3 (0, 0))) (hb : base ≤ g) : QRow w base (.slice (some ⟨g, 0, none⟩) 1 1) [x] :=
  ⟨g, 0, 1, 1, _, rfl, rfl, hb, h, Nat.le_refl _, by unfold maxLen; omega, by simp, fun j y hj => by
    rcases j with _ | j
    · simp only [List.getElem?_cons_zero, Option.some.injEq] at hj
      subst hj;rfl
    · simp at hj⟩
theorem QRow.own {w : World} {base n : Nat} {v : Value} {q : List Int} (h : w.ownsRow base 3 1 v n (q.map intV)) (hq : q ≠ []) : QRow w base v q := by
  have hl : q.length = n := by simpa using h.1
  have hp : 0 < q.length := List.length_pos_iff.2 hq;rcases h.2 with ⟨_, e0⟩ | ⟨g, cap, cur, rfl, hb, hg, hn, hm, hs, ht⟩
  · omega
  · refine ⟨g, 0, n, cap, cur, rfl, hl.symm, hb, hg, hn, hm, by omega, fun j x hx => ?_⟩
    have h1 : (cur.toList.take (n * 1))[j]? = some (intV x) := by rw [ht, List.getElem?_map, hx]; rfl
    have hj := (List.getElem?_eq_some_iff.1 hx).1;rw [List.getElem?_take_of_lt (by omega), Array.getElem?_toList] at h1;rw [Nat.zero_add];exact h1
theorem wpList_append_q {w : World} {ops : Array Oper} {rest : List Oper} {o : Oper} {a : Act} {Q : Exit → Act → World → Prop} (hgd : o.guard = none) (s x : Operand)
  (ho : o.op = .call { callee := .builtin .append, args := #[s, x], argTypes := #[25, 25] }) {base : Nat} {v : Value} {q : List Int} (hs : a.eval s = v) (hq : QRow w base v q)
  (b : Nat) (y : Int) (hx : a.eval x = .slice (some ⟨b, 0, none⟩) 1 1) (hy : w.cell? ⟨b, 0, none⟩ = some (.int .i64 y)) (hl : q.length ≤ 2000000) (hbs : base ≤ w.heap.size)
  (hK : ∀ v' w', QRow w' base v' (q ++ [y]) → Below base w w' → wpList Tryz.prog ops Q rest (a.put o.dst v') w') : wpList Tryz.prog ops Q (o :: rest) a w := by
 obtain ⟨i, hi, hz0, hz1, hz2⟩ := info_parts intInfo;obtain ⟨g, off, m, cap, cur, rfl, rfl, h1, h2, h3, h4, h5, h6⟩ := hq;have hgl : g < w.heap.size := by
  rcases Nat.lt_or_ge g w.heap.size with h | h
  · exact h
  · rw [Array.getElem?_eq_none h] at h2; cases h2
 have hcel : ∀ (j : Nat) (u : Value), cur[j]? = some u → w.cell? ⟨g, j, none⟩ = some u := fun j u hu => by rw [cell_of_row _ _ j _ _ (0, 0) h2]; exact hu
 refine wpList_append_arg w hgd s x 25 ho 3 i _ 1 8 Tryz.underlying25 hi hz0 hz1 hz2 rfl (by decide) g off q.length cap (q.map intV) hs (by simp) (fun j u hu => ?_)
  ⟨b, 0, none⟩ 1 1 [.int .i64 y] hx rfl (fun j u hu => ?_) (fun u hu => ?_) (fun hr j hj => ?_) (by unfold maxLen; omega) (by omega) (fun hr => ?_) (fun hr v' w' hown hgr => ?_)
 · rw [List.getElem?_map] at hu;obtain ⟨z, hz, rfl⟩ := Option.map_eq_some_iff.1 hu;exact hcel _ _ (h6 j z hz)
 ·
  rcases j with _ | j
  · simp only [List.getElem?_cons_zero, Option.some.injEq] at hu;subst hu;exact hy
  · simp at hu
 · rw [List.mem_singleton] at hu;subst hu;rfl
 ·
  obtain rfl : j = 0 := by simp at hj; omega
  refine ⟨?_, frozen_of_row _ _ _ _ _ h2⟩;rw [hcel _ _ (Array.getElem?_eq_getElem (show off + q.length * 1 + 0 < cur.size by omega))];rfl
 ·
  refine hK _ _ ⟨g, off, q.length + 1, cap, cur.setIfInBounds (off + q.length) (.int .i64 y), rfl, by simp, h1, ?_, hr, h4, by simpa using h5, fun j z hz => ?_⟩ ?_
  · simp [World.setCells, World.setCell, Array.getElem?_modify, h2]
  ·
   rw [Array.getElem?_setIfInBounds];by_cases hj : j < q.length
   · rw [if_neg (by omega)];rw [List.getElem?_append_left hj] at hz;exact h6 j z hz
   ·
    rw [List.getElem?_append_right (by omega)] at hz;have hj2 : j - q.length = 0 := by have := (List.getElem?_eq_some_iff.1 hz).1;simp at this;omega
    rw [hj2] at hz;simp only [List.getElem?_cons_zero, Option.some.injEq] at hz;subst hz;rw [if_pos (by omega), if_pos (by omega)]
  · simp only [World.setCells];exact (Below.refl _ _).setCell h1 _
 · have hq' := QRow.own (q := q ++ [y]) (by rw [List.map_append]; exact hown) (by simp);obtain ⟨g', o', m', c', cur', e, r1, r2, r3⟩ := hq';exact hK _ _ ⟨g', o', m', c', cur', e, r1, by omega, r3⟩ ⟨hgr.os, hgr.tape, hgr.output, hgr.size, fun k hk => hgr.block k (by omega) (by simp)⟩
def negAt (w : World) (g : Nat) : Nat := match w.heap[g]? with | some (.cells c _ _) => neg (c.toList.map intOf) | _ => 0
def lenOf (v : Value) : Nat := match v with | .slice _ n _ => n | _ => 0
theorem negAt_eq {w : World} {g : Nat} {d : List Int} (h : NumsAt w g d) : negAt w g = neg d := by
  unfold negAt;rw [show w.heap[g]? = _ from h];simp only [List.map_map];congr 1
  conv => rhs; rw [← List.map_id d]
  exact List.map_congr_left fun x _ => rfl
theorem QRow.len {w : World} {base : Nat} {v : Value} {q : List Int} (h : QRow w base v q) : lenOf v = q.length := by obtain ⟨g, o, m, cap, cur, rfl, rfl, -⟩ := h;rfl
theorem QRow.tail {w : World} {base g o m cap : Nat} {cur : Array Value} {x : Int} {q : List Int} (hm : m = (x :: q).length) (h1 : base ≤ g) (h2 : w.heap[g]? = some (.cells cur 3 (0, 0))) (h3 : m ≤ cap) (h4 : cap ≤ maxLen) (h5 : o + cap ≤ cur.size) (h6 : ∀ j y, (x :: q)[j]? = some y → cur[o + j]? = some (.int .i64 y)) :
    QRow w base (.slice (if cap = 1 then some ⟨g, o, none⟩ else some ⟨g, o + 1, none⟩) (m - 1) (cap - 1)) q := by
  have hq : m - 1 = q.length := by simp at hm; omega
  have hm1 : 1 ≤ m := by simp at hm; omega
  by_cases hc : cap = 1
  · rw [if_pos hc]
    exact ⟨g, o, _, _, cur, rfl, hq, h1, h2, by omega, by omega, by omega, fun j y hj => by have := (List.getElem?_eq_some_iff.1 hj).1; omega⟩
  · rw [if_neg hc]
    exact ⟨g, o + 1, _, _, cur, rfl, hq, h1, h2, by omega, by omega, by omega, fun j y hj => by rw [show o + 1 + j = o + (j + 1) by omega]; exact h6 (j + 1) y hj⟩
theorem MiP.less {n : Net} {D d0 q0 : List Int} {es : Ends} {w : Int} {k : Nat} {d wk : List Int} {j : Nat} (h : MiP n d0 q0 es w k d wk j) (hj : es.length ≤ j) (hes : EndsIn n.es) (hl : n.es[w.toNat]? = some es) (hb : Bfs n.es D d0 (w :: q0)) :
    neg d + (wk.drop (k + 1)).length = neg d0 + q0.length := by
  obtain ⟨h1, h2, h3, h4, h5, h6, h7⟩ := h;have hs := (bfs_step hes hb.dist).2;have e : n.es.getD w.toNat [] = es := by simp [List.getD, hl]
  rw [e, h4, List.drop_of_length_le hj] at hs;simp only [visit, List.length_cons] at hs;omega
theorem run_tail (g o m cap : Nat) (hm : 1 ≤ m) (W : World) : (Instr.slice 25 (.slice (some ⟨g, o, none⟩) m cap) (some (.int .i64 1)) none none).run Tryz.prog W = .ok (.slice (if cap = 1 then some ⟨g, o, none⟩ else some ⟨g, o + 1, none⟩) (m - 1) (cap - 1)) W := by rw [Go.run_slice_l (w := W) 25 (some ⟨g, o, none⟩) m cap (by kernel_rfl) .i64 1 (by omega) (by omega)];rw [show ((sizeOf (Tryz.prog.elem 25)).run Tryz.prog W) = .ok 1 W by kernel_rfl];simp [Result.andThen, sliced, Addr.add]
def DfRel (n : Net) (D : List Int) (ws : World) (g : Nat) (v : Value) (wr : World) : Prop :=
  ∃ d q : List Int, NumsAt wr g d ∧ QRow wr (g + 1) v q ∧ Bfs n.es D d q ∧ neg d + q.length ≤ n.es.length ∧ Below g ws wr
def DiRel (n : Net) (d0 q0 : List Int) (es : Ends) (x : Int) (ws : World) (g : Nat) (v i : Value) (wr : World) : Prop :=
  ∃ (d wk : List Int) (j : Nat), i = .int .i64 j ∧ MiP n d0 q0 es x 0 d wk j ∧ NumsAt wr g d ∧ QRow wr (g + 1) v (wk.drop 1) ∧ Below g ws wr
set_option maxRecDepth 100000 in
set_option maxHeartbeats 2000000 in
theorem impl_distancesFrom (ve vi vn : Value) (n : Net) (v : Nat) (w : World) (h : NetR w w.heap.size ve vi vn n) (hp : netP n) (hv : v < n.es.length) :
  Calls Tryz.prog 92 #[.agg #[ve, vi, vn], .int .i64 (v : Int)] w fun e w' => ∃ u, e = .returned u ∧ (∃ A m c, u = .slice A m c) ∧ IntsR w' w'.heap.size u (far n.es v) ∧ Below w.heap.size w w' := by
 have h40 := hp.1.2;have HP := Lib.hid hp; clear hp;have HST := Lib.hid (far_start hv);have HFO := Lib.hid (far_ok HP.out.endsIn hv);generalize far n.es v = D at *;obtain ⟨⟨A0, m0, c0, rfl⟩, ⟨A1, m1, c1, rfl⟩, A2, m2, c2, rfl⟩ := h.slices;obtain ⟨w0, hw0, hB, HD, hz0, HS0⟩ := box3 w (.slice A0 m0 c0) (.slice A1 m1 c1) (.slice A2 m2 c2) 27;have HN0 := Lib.hid h; have HN := Lib.hid (h.up hB); clear h;have HW0 := Lib.hid hw0; clear hw0;obtain ⟨q0, q1, q2, qf⟩ := cells3 HD;obtain ⟨hm0, -, -⟩ := HN.out.e.len_slice;subst hm0;obtain ⟨w1, hw1⟩ : ∃ z, z = w0.alloc (.cells #[.int .i64 (-1)] 3) := ⟨_, rfl⟩
 have HQ1 := Lib.hid hw1;have hz1 : w1.heap.size = w0.heap.size + 1 := by rw [hw1]; simp
 have HZ1 := Lib.hid hz1;have hn1 : NumsAt w1 (w.heap.size + 1) [-1] := by rw [hw1, ← HS0.out]; exact heap_alloc_new w0 _
 have HN1 := Lib.hid hn1;have hb1 : Below w0.heap.size w0 w1 := by rw [hw1]; exact bl_alloc (Below.refl _ _) _
 clear hw1 hz1 hn1;go_enter Tryz.func92, Tryz.ntmps92;go_wp2_with fail;rw [← HW0.out, ← HQ1.out];have hzhb1 := hb1.size;clear q0 q1 q2 qf;replace HD := bk HD hb1;replace HN := Lib.hid (HN.out.up hb1);replace hB := bl_trans hB hb1;obtain ⟨q0, q1, q2, qf⟩ := cells3 HD;refine (impl_Repeat (-1) n.es.length (w.heap.size + 1) w1 HN1.out (by omega) (by omega)).mono ?_;rintro e w2 ⟨rfl, hnum, hb2⟩;have hgl := hnum.lt;have hcell := hnum.cell (i := v) (x := -1) (by rw [List.getElem?_replicate, if_pos hv]);have hfz := hnum.frozen v;have hzhb2 := hb2.size;clear q0 q1 q2 qf;replace HD := bk HD hb2;replace HN := Lib.hid (HN.out.up hb2);replace hB := bl_trans hB hb2;obtain ⟨q0, q1, q2, qf⟩ := cells3 HD;have hgd : ∃ z, z = w1.heap.size := ⟨_, rfl⟩
 obtain ⟨g, hg⟩ := hgd;rw [← hg] at hnum hgl hcell hfz hb2 hzhb2 hzhb1 ⊢;have hgw : w.heap.size < g := by omega
 have HGD := Lib.hid hg; clear hg;obtain ⟨w3, hw3⟩ : ∃ z, z = w2.setCell ⟨g, v, none⟩ (.int .i64 0) := ⟨_, rfl⟩
 obtain ⟨w4, hw4⟩ : ∃ z, z = w3.alloc (.cells #[.int .i64 (v : Int)] 3) := ⟨_, rfl⟩
 have hz3 : w3.heap.size = w2.heap.size := by rw [hw3, size_setCell]
 have hN4 : NumsAt w4 g ((List.replicate n.es.length (-1)).set v 0) := by have h2 := hnum.set v 0;rw [← hw3] at h2;rw [hw4];exact h2.keep ((bl_alloc (Below.refl _ w3) _).block _ (by rw [hz3]; exact hgl))
 have hQ4 : QRow w4 (g + 1) (.slice (some ⟨w2.heap.size, 0, none⟩) 1 1) [(v : Int)] := QRow.start (by rw [hw4, ← hz3]; exact heap_alloc_new w3 _) (by omega);have hB4 : Below g w2 w4 := by rw [hw4, hw3]; exact (Below.setCell (p := ⟨g, v, none⟩) (Below.refl g w2) (Nat.le_refl _) (.int .i64 0)).alloc (by rw [size_setCell]; omega) _
 have H3 := Lib.hid hw3; clear hw3 hz3;have H4 := Lib.hid hw4; clear hw4;have HNU := Lib.hid hnum; clear hnum;go_wp2_with fail;rw [← H3.out, ← H4.out];have hz4 := hB4.size;have hB' : Below w.heap.size w w4 := hB.trans (hB4.mono (by omega));replace HD := bk HD hB4 (by omega);replace HN := Lib.hid ((HN0.out.below hB').more hB'.size);clear hB q0 q1 q2 qf hcell hfz;have hB := hB'; clear hB';go_loopw [6] (fun v wr => DfRel n D w4 g v wr) (fun v wr => negAt wr g + lenOf v)
 case atStart => exact ⟨_, [(v : Int)], hN4, hQ4, HST.out, by have := far_neg hv; simp only [List.length_singleton]; omega, Below.refl _ _⟩
 case round =>
  clear hN4 hQ4;obtain ⟨d, q, hnum, hq, hbfs, hneg, hbl⟩ := hrel;have hzr := hbl.size;have hB2 := hB.trans (hbl.mono (by omega));have hglr := hnum.lt;replace HD := bk HD hbl (by omega);replace HN := Lib.hid ((HN0.out.below hB2).more hB2.size);have HM := Lib.hid hnum; clear hnum;have HB2 := Lib.hid hB2; clear hB2;obtain ⟨q0, q1, q2, qf⟩ := cells3 HD;cases q with
  | nil =>
   obtain ⟨gq, o, m, cap, cur, rfl, hm, -⟩ := hq;obtain rfl : m = 0 := by simpa using hm
   have HFF := Lib.hid (show D = d from hbfs.fin.1);clear hbfs hm;go_wp2_with fail;go_ret;refine ⟨_, rfl, ⟨_, _, _, rfl⟩, ?_, HB2.out⟩;obtain ⟨k1, k2⟩ := HFO.out;have h1 := HM.out;rw [← HFF.out] at h1;have h2 := ints_row (B := wr.heap.size) h1 (by unfold maxLen; omega) (fun x hx => by rcases k2 x hx with h | h <;> unfold I64 <;> omega) hglr;rw [k1] at h2;exact h2
  | cons x q =>
   obtain ⟨gq, o, m, cap, cur, rfl, hm, hgq, hcur, hmc, hcm, hoc, hcc⟩ := hq;have hcx : wr.cell? ⟨gq, o, none⟩ = some (.int .i64 x) := by rw [cell_of_row _ _ o _ _ (0, 0) hcur]; exact hcc 0 x rfl
   have hqt := QRow.tail hm hgq hcur hmc hcm hoc hcc;have hm1 : 1 ≤ m := by simp at hm; omega
   have hsl := run_tail gq o m cap hm1;generalize Value.slice (if cap = 1 then some ⟨gq, o, none⟩ else some ⟨gq, o + 1, none⟩) (m - 1) (cap - 1) = v2 at hqt hsl;have HQT := Lib.hid hqt; clear hqt;have hsa : ∀ W, (Instr.sliceAt 25 (.slice (some ⟨gq, o, none⟩) m cap) (some (.int .i64 1)) none none).run Tryz.prog W = .ok v2 W := fun W => (Go.run_sliceAt_slice (P := Tryz.prog) (w := W) 25 _ _ _ _ (by kernel_rfl)).trans (hsl W)
   have hml : m - 1 = q.length := by simp at hm; omega
   obtain ⟨hx0, y, hy, hy0⟩ := hbfs.dist.2.2 x (by simp);obtain ⟨wn, rfl⟩ : ∃ wn : Nat, x = wn := ⟨x.toNat, by omega⟩
   rw [Int.toNat_natCast] at hy;have hwn : wn < n.es.length := by rw [← hbfs.dist.1]; exact (List.getElem?_eq_some_iff.1 hy).1
   obtain ⟨l, hl⟩ : ∃ l, n.es[wn]? = some l := ⟨_, List.getElem?_eq_getElem hwn⟩
   obtain ⟨ad, rfl⟩ := HN.out.e.some_ (by omega);obtain ⟨hbb, u, hu, hr⟩ := (HN0.out.below HB2.out).e.at_ hl;have HR := Lib.hid hr;obtain ⟨A', c', rfl, hlc, hlm, -, h4⟩ := hr;unfold maxLen at hlm hcm;have HL := Lib.hid hl; clear hl;have HY := Lib.hid (And.intro hy hy0); clear hy hy0;have HBF := Lib.hid hbfs; clear hbfs;have HML := Lib.hid hml; clear hml hm;have HCC := Lib.hid (And.intro hcur hcc); clear hcur hcc;go_wp2_with fail;obtain ⟨wq, rfl⟩ : ∃ z, z = wr := ⟨_, rfl⟩
   go_loopw [6, 34] (fun v i wr' => DiRel n d q l (wn : Int) wq g v i wr') (fun _ i _ => l.length - (intOf i).toNat)
   case atStart => exact ⟨d, (wn : Int) :: q, 0, rfl, MiP.start rfl HBF.out (by simpa using hneg), HM.out, HQT.out, Below.refl _ _⟩
   case round =>
    clear hsl hsa hcx;obtain ⟨d', wk', j, rfl, hmi, hnum, hq', hbl2⟩ := hrel;have hz2 := hbl2.size;replace HD := bk HD hbl2 (by omega);have HB3 := Lib.hid (HB2.out.trans (hbl2.mono (by omega)));replace HN := Lib.hid ((HN0.out.below HB3.out).more HB3.out.size);have hglr' := hnum.lt;clear q0 q1 q2 qf;obtain ⟨q0, q1, q2, qf⟩ := cells3 HD;have HM2 := Lib.hid hnum; clear hnum;have HMI := Lib.hid hmi; clear hmi;have HQ2 := Lib.hid hq'; clear hq';by_cases hlt : j < l.length
    ·
     obtain ⟨e, he⟩ : ∃ e, l[j]? = some e := ⟨_, List.getElem?_eq_getElem hlt⟩
     obtain ⟨b, o', rfl, -, -⟩ := h4 (by omega);obtain ⟨hbb', p0, p1⟩ := (HR.out.below (hbl2.mono (by omega))).at_ he;have hein := HP.out.endsIn l (List.mem_of_getElem? HL.out) e (List.mem_of_getElem? he);obtain ⟨mm, hm⟩ : ∃ m : Nat, e.1 = m := ⟨e.1.toNat, by omega⟩
     rw [hm] at p0 hein;rw [Int.toNat_natCast] at hein;have hml := hein.2;have HEM := Lib.hid hm;have HE := Lib.hid he;clear he hm hein;obtain ⟨wv, hwv, hbv, HEB, hzv, HSV⟩ := box2 wr (.int .i64 (mm : Int)) (.int .i64 e.2) 74;have HWV := Lib.hid hwv;obtain ⟨hj1, hj2, hj3, -, hj5, ⟨x, hx, hx0⟩, hj7⟩ := HMI.out;rw [Int.toNat_natCast] at hx;obtain ⟨y', hy'⟩ : ∃ y, d'[mm]? = some y := ⟨_, List.getElem?_eq_getElem (by rw [hj5.1]; exact hml)⟩
     have HMV := Lib.hid (HM2.out.keep (hbv.block g hglr'));have hc2 := HMV.out.cell hy';have hf2 := HMV.out.frozen mm;have hc3 := HMV.out.cell hx;obtain ⟨e0, e1, ef⟩ := cells2 HEB;have hxn := hj5.2.1 x (List.mem_of_getElem? hx);have hql : (wk'.drop 1).length ≤ 2000000 := by rw [List.length_drop]; omega
     have hbnd : neg d' < n.es.length := by omega
     have HX1 := Lib.hid hx;have HY1 := Lib.hid hy';clear hx hy' hj3 hj5 hj7;have d2 := hc2; have d3 := e0;rw [hwv] at d2 d3;clear hwv;by_cases hyn : y' < 0
     ·
      go_wp2_with fail;clear d2 d3;rw [← HWV.out];have hne : mm ≠ wn := fun h => by rw [h] at HY1;have := Option.some.inj (HX1.out.symm.trans HY1.out);omega
      obtain ⟨wa, hwa⟩ : ∃ z, z = (wv.setCell ⟨g, mm, none⟩ (.int .i64 (x + 1))).drew := ⟨_, rfl⟩
      have hwr : IntKind.i64.wrap (x + 1) = x + 1 := IntWalk.i64_in _ (by omega);have hNA : NumsAt wa g (d'.set mm (x + 1)) := by rw [hwa]; exact NumsAt.set HMV.out mm (x + 1)
      have ha1 : wa.cell? ⟨g, wn, none⟩ = some (.int .i64 x) := hNA.cell (by rw [List.getElem?_set_ne hne]; exact HX1.out);have hka : ∀ b, b ≠ g → wa.heap[b]? = wv.heap[b]? := fun b hb => by rw [hwa]; exact Below.heap_setCell wv _ _ _ (by simpa using hb)
      have ha0 : wa.cell? ⟨wr.heap.size, 0, none⟩ = some (.int .i64 (mm : Int)) := (World.cell?_of_block (a := ⟨wr.heap.size, 0, none⟩) (hka _ (by show wr.heap.size ≠ g; omega))).trans e0;have hza : wa.heap.size = wv.heap.size := by rw [hwa]; exact size_setCell wv _ _
      have hqa : QRow wa (g + 1) u6 (wk'.drop 1) := HQ2.out.keep fun b h1 h2 => (hka b (by omega)).trans (hbv.block b h2)
      have hba : Below g wq wa := by rw [hwa];exact ((hbl2.trans (hbv.mono (by omega))).setCell (Nat.le_refl _) _).drew
      have HWA := Lib.hid hwa; clear hwa;have HNA := Lib.hid hNA; clear hNA;have HQA := Lib.hid hqa; clear hqa;have HBA := Lib.hid hba; clear hba;have HZA := Lib.hid hza; clear hza hka;refine wp_region_held_drew (S := fun w' => w'.cell? ⟨wr.heap.size, 0, none⟩ = some (.int .i64 (mm : Int)) ∧ w'.cell? ⟨g, wn, none⟩ = some (.int .i64 x)) (by kernel_rfl) ?_ (fun hHeld => ?_)
      · exact ⟨e0, hc3⟩
      refine stk 0 44 ?_;refine stk 1 45 ?_;refine stk 2 46 ?_;refine stk 3 47 ?_;refine stk 4 48 ?_;refine stk 5 49 ?_;refine stk 6 50 ?_;refine stk 7 51 ?_;refine stk 8 52 ?_;refine tr 9 rfl (by kernel_rfl) (fun K hK => ?_);go_simp;rw [← HWA.out];refine hK.out _ _ ⟨ha0, ha1⟩ (fun hHeld => ?_);clear hK K
      try simp only [Act.put, pu]
      refine wpAnyH_done (by kernel_rfl) ?_ _;clear e0 e1 ef hc2 hf2 hc3 q0 q1 q2 qf;have hbs : g + 1 ≤ wa.heap.size := by rw [HZA.out]; omega
      have HC0 := Lib.hid (show (wa.alloc (.cells #[.int .i64 (mm : Int)] 3)).cell? ⟨wa.heap.size, 0, none⟩ = some (.int .i64 (mm : Int)) by rw [World.cell?_alloc_at _ _ _ _ rfl]; rfl);have HQB := Lib.hid (HQA.out.keep (w' := wa.alloc (.cells #[.int .i64 (mm : Int)] 3)) fun b h1 h2 => (bl_alloc (Below.refl wa.heap.size wa) _).block b h2);have HBB := Lib.hid (bl_alloc (Below.refl wa.heap.size wa) (.cells #[.int .i64 (mm : Int)] 3));go_wp2_with ((at_builtin; refine wpList_append_q rfl (.tmp 53) (.tmp 56) rfl rfl HQB.out wa.heap.size (mm : Int) rfl HC0.out hql (by simp; omega) ?_; intro v' w' hq'' hb''))
      go_roundw
      case rel =>
       refine ⟨d'.set mm (x + 1), wk' ++ [(mm : Int)], j + 1, by go_num, ?_, ?_, ?_, ?_⟩
       · have h1 := HMI.out.yes HE.out (by rw [HEM.out]; omega) (by rw [Int.toNat_natCast]; exact HX1.out) (by rw [HEM.out, Int.toNat_natCast]; exact HY1.out) hyn;rw [HEM.out, Int.toNat_natCast] at h1;exact h1
       · have hga := HNA.out.lt;exact (HNA.out.keep (HBB.out.block g hga)).keep (hb''.block g (by omega))
       · rw [List.drop_append_of_le_length (by have := HMI.out.2.1; omega)];exact hq''
       · exact HBA.out.trans ((HBB.out.mono (by omega)).trans (hb''.mono (by omega)))
      case measure => simp [intOf]; omega
     ·
      go_wp2_with fail;clear d2 d3;rw [← HWV.out];go_roundw
      case rel => exact ⟨d', wk', j + 1, by go_num, HMI.out.no HE.out (by rw [HEM.out, Int.toNat_natCast]; exact HY1.out) hyn, HMV.out, HQ2.out.keep (fun b _ hb => hbv.block b hb), hbl2.trans (hbv.mono (by omega))⟩
      case measure => simp [intOf]; omega
    ·
     have hlj : l.length ≤ j := by omega
     have hls : neg d' + (wk'.drop 1).length = neg d + q.length := HMI.out.less hlj HP.out.endsIn (by rw [Int.toNat_natCast]; exact HL.out) HBF.out;have hq7 := HMI.out.2.2.2.2.2.2;have hk2 := HMI.out.2.1;go_wp2_with fail;refine ⟨⟨d', wk'.drop 1, HM2.out, HQ2.out, HMI.out.fin hlj HP.out.endsIn (by rw [Int.toNat_natCast]; exact HL.out) HBF.out, by rw [List.length_drop]; omega, hbl.trans hbl2⟩, ?_⟩;have k1 := negAt_eq HM2.out;have k2 := negAt_eq HM.out;have k3 := HQ2.out.len;have k4 := HML.out;show negAt wr g + lenOf _ < negAt wq g + lenOf (.slice (some ⟨gq, o, none⟩) m cap);rw [k1, k2];show neg d' + lenOf u6 < neg d + m;rw [k3];omega
end
end Go.Proofs.YtdghoienjegffaaGreat
namespace Go.Proofs.YtdghoienjegffaaGreat
section
open Go.RowKit
set_option linter.all false
theorem impl_Contains (v : Value) (xs : List Int) (x : Int) (w : World) (h : IntsR w w.heap.size v xs) :
    Calls Tryz.prog 37 #[v, .int .i64 x] w fun e w' => e = .returned (.bool (xs.contains x)) ∧ w = w' := by
  obtain ⟨A, c, rfl, h1, h2, h3⟩ := h.open_;unfold maxLen at h2;by_cases h0 : xs.length = 0
  · obtain rfl : xs = [] := List.eq_nil_of_length_eq_zero h0
    refine (Tryz.slices_Contains_int_empty A c x w).mono ?_;rintro e w' ⟨rfl, rfl⟩;exact ⟨rfl, rfl⟩
  · obtain ⟨ad, rfl, hb, hc⟩ := h3 (by omega)
    obtain ⟨b, off, rfl, hcc⟩ := ints_cells (by omega) hc;refine (Tryz.slices_Contains_int b off xs.length c xs x w (Nat.le_refl _) (by omega) hcc).mono ?_;rintro e w' ⟨rfl, rfl⟩;rw [List.take_length];exact ⟨rfl, rfl⟩
theorem conn_eq (n : Net) : (!decide ((-1 : Int) ∈ far n.es 0)) = connB n := by
  by_cases h : (-1 : Int) ∈ far n.es 0
  · rw [show connB n = false from propB_f fun hc => hc h, decide_eq_true h]
    rfl
  · rw [show connB n = true from propB_t h, decide_eq_false h]
    rfl
theorem impl_isConnected (ve vi vn : Value) (n : Net) (w : World) (h : NetR w w.heap.size ve vi vn n) (hp : netP n) :
    Calls Tryz.prog 161 #[.agg #[ve, vi, vn]] w fun e w' => e = .returned (.bool (connB n)) ∧ Below w.heap.size w w' := by
  have HP := Lib.hid hp; clear hp;obtain ⟨⟨A0, m0, c0, rfl⟩, ⟨A1, m1, c1, rfl⟩, A2, m2, c2, rfl⟩ := h.slices;obtain ⟨w0, hw0, hB, HD, hz0, HS0⟩ := box3 w (.slice A0 m0 c0) (.slice A1 m1 c1) (.slice A2 m2 c2) 27;have HN0 := Lib.hid h; have HN := Lib.hid (h.up hB); clear h;have HW0 := Lib.hid hw0; clear hw0;obtain ⟨q0, q1, q2, qf⟩ := cells3 HD;go_enter Tryz.func161, Tryz.ntmps161;go_wp2_with fail;rw [← HW0.out];refine (impl_distancesFrom _ _ _ n 0 w0 HN.out HP.out (by have := HP.out.1.1; omega)).mono ?_;rintro e w1 ⟨u, rfl, ⟨A', m', c', rfl⟩, hu, hb1⟩;have hzhb1 := hb1.size;clear q0 q1 q2 qf;replace HD := bk HD hb1;replace HN := Lib.hid (HN.out.up hb1);replace hB := bl_trans hB hb1;obtain ⟨q0, q1, q2, qf⟩ := cells3 HD;have HU := Lib.hid hu; clear hu;go_wp2_with fail;refine (impl_Contains _ (far n.es 0) (-1) w1 HU.out).mono ?_;rintro e w2 ⟨rfl, rfl⟩;have HC := Lib.hid (conn_eq n);go_wp2_with fail;go_ret;exact ⟨ret_bool HC.out, hB⟩
end
section
open Go.RowKit
set_option linter.all false
theorem wpList_appendK {P : Program} (w : World) {ops : Array Oper} {rest : List Oper} {o : Oper} {a : Act} {Q : Exit → Act → World → Prop} (hgd : o.guard = none) (s x : Operand) (t : TypeId)
  (ho : o.op = .call { callee := .builtin .append, args := #[s, x], argTypes := #[t, t] })
  (base : Nat) (e : TypeId) (z : Value) (size bytes : Nat) (ht : P.underlying t = some (.slice e)) (hinf : (P.info? e).map (fun i => (i.zero, i.size, i.bytes)) = some (some z, size, bytes)) (hzs : z.cells.size = size) (hsz : 0 < size)
  (v : Value) (n : Nat) (xs : List Value) (hs : a.eval s = v) (us : List Value) (hlu : us.length = size) (hu : ∀ u ∈ us, u.oneCell' = true) (hx : a.eval x = .slice (some ⟨w.heap.size, 0, none⟩) 1 1)
  (hown : w.ownsRow base e size v n xs) (h63 : n + 1 ≤ maxLen) (hbytes : (n + 1) * bytes ≤ 140737488355328) (hbase : base ≤ w.heap.size)
  (h : ∀ v' w', w'.ownsRow base e size v' (n + 1) (xs ++ us) → Below base w w' → w.grownBy w' v.ownBlock → w.heap.size < w'.heap.size → (v'.ownBlock = v.ownBlock ∨ ∃ g, v'.ownBlock = some g ∧ w.heap.size ≤ g ∧ g < w'.heap.size) → wpList P ops Q rest (a.put o.dst v') w') :
  wpList P ops Q (o :: rest) a (w.alloc (.cells us.toArray e)) := by
 obtain ⟨i, hi, hz0, hz1, hz2⟩ := info_parts hinf;have hown1 := hown.alloc (.cells us.toArray e);have hnews : ∀ j u', us[j]? = some u' → (w.alloc (.cells us.toArray e)).cell? ((⟨w.heap.size, 0, none⟩ : Addr).add j) = some u' := by intro j u' hj;rw [show (⟨w.heap.size, 0, none⟩ : Addr).add j = ⟨w.heap.size, j, none⟩ by unfold Addr.add; split <;> simp_all, World.cell?_alloc_at _ _ _ _ rfl];simpa using hj
 obtain ⟨v', w', hrun, h2, h3, _, h5⟩ := run_append_own_at (P := P) (w.alloc (.cells us.toArray e)) base t o.type e i z size bytes ht hi hz0 hz1 hz2 hzs hsz v n xs hown1 ⟨w.heap.size, 0, none⟩ 1 1 us (by rw [hlu]; omega) hnews hu h63 hbytes (by simp; omega);have hg : w.grownBy w' v.ownBlock := by have h0 := World.grownBy_alloc w (.cells us.toArray e) v.ownBlock;exact ⟨h3.os.trans h0.os, h3.tape.trans h0.tape, h3.output.trans h0.output, Nat.le_trans h0.size h3.size, fun k hk hne => (h3.block k (Nat.lt_of_lt_of_le hk h0.size) hne).trans (h0.block k hk hne)⟩
 have hsz' : w.heap.size < w'.heap.size := by have := h3.size; simp at this; omega
 have hB : Below base w w' := (Below.refl base w).grown hg hbase (fun k hk => (hown.lt k hk).1);refine wpList_plain hgd fun K hK => ?_
 unfold Oper.wp execOp;simp only [ho, resolve, invoke, builtin, Sem.run_bind, Sem.run_pure, Result.andThen_ok, List.map_toArray, List.map_cons, List.map_nil, hs, hx, hrun];refine hK _ _ (h v' w' h2 hB hg hsz' ?_);rcases h5 with h5 | h5
 · exact .inl h5
 · refine .inr ⟨_, h5, by simp, ?_⟩;exact (h2.lt _ h5).2
theorem own_mono {w : World} {base base' : Nat} {e : TypeId} {size : Nat} {v : Value} {n : Nat} {xs : List Value} (h : w.ownsRow base e size v n xs) (hb : base' ≤ base) : w.ownsRow base' e size v n xs :=
  ⟨h.1, h.2.imp id fun ⟨g, cap, cur, h1, h2, h3⟩ => ⟨g, cap, cur, h1, Nat.le_trans hb h2, h3⟩⟩
theorem own_keep4 {w w' : World} {base n size : Nat} {e : TypeId} {v : Value} {vs : List Value} (h : w.ownsRow base e size v n vs) (hs : w.heap.size ≤ w'.heap.size) (hk : ∀ b, base ≤ b → b < w.heap.size → w'.heap[b]? = w.heap[b]?) : w'.ownsRow base e size v n vs := by
  refine ⟨h.1, ?_⟩;have hlt := h.lt;rcases h.2 with h2 | ⟨g, cap, cur, rfl, hb, hg, r⟩
  · exact .inl h2
  · exact .inr ⟨g, cap, cur, rfl, hb, (hk g hb (hlt g rfl).2).trans hg, r⟩
abbrev Edge := Int × Int × Int × Int
def edC (x : Edge) : List Value := [.int .i64 x.1, .int .i64 x.2.1, .int .i64 x.2.2.1, .int .i64 x.2.2.2]
def edCells (E : List Edge) : List Value := E.flatMap edC
theorem edCells_snoc (E : List Edge) (x : Edge) : edCells (E ++ [x]) = edCells E ++ edC x := by unfold edCells;rw [List.flatMap_append];simp
theorem edgeInfo : (Tryz.prog.info? 87).map (fun i => (i.zero, i.size, i.bytes)) = some (some (.agg #[.int .i64 0, .int .i64 0, .int .i64 0, .int .i64 0]), 4, 32) := by kernel_rfl
def edOk (v i : Nat) (e : Int × Int) : Prop := (v : Int) < e.1 ∨ (v : Int) = e.1 ∧ (i : Int) ≤ e.2
def EdOf (n : Net) (x : Edge) : Prop := ∃ (v : Nat) (l : Ends) (i : Nat) (e : Int × Int), n.es[v]? = some l ∧ l[i]? = some e ∧ edOk v i e ∧ x = ((v : Int), (i : Int), e.1, e.2)
def EdTo (n : Net) (k j : Nat) (E : List Edge) : Prop :=
  (∀ x ∈ E, EdOf n x) ∧ (∀ (v : Nat) (l : Ends) (i : Nat) (e : Int × Int), (v < k ∨ v = k ∧ i < j) → n.es[v]? = some l → l[i]? = some e → edOk v i e → ((v : Int), (i : Int), e.1, e.2) ∈ E) ∧ E.length ≤ 6 * k + j
theorem EdTo.start (n : Net) : EdTo n 0 0 [] := ⟨fun _ h => absurd h (by simp), fun v l i e h => by omega, Nat.le_refl _⟩
theorem EdTo.yes {n : Net} {k j : Nat} {E : List Edge} {l : Ends} {e : Int × Int} (h : EdTo n k j E) (hl : n.es[k]? = some l) (he : l[j]? = some e) (ho : edOk k j e) : EdTo n k (j + 1) (E ++ [((k : Int), (j : Int), e.1, e.2)]) := by
  obtain ⟨h1, h2, h3⟩ := h;refine ⟨fun x hx => ?_, fun v l' i e' hc hl' he' ho' => ?_, by simp; omega⟩
  · rcases List.mem_append.1 hx with hx | hx
    · exact h1 x hx
    · rw [List.mem_singleton] at hx
      exact ⟨k, l, j, e, hl, he, ho, hx⟩
  · by_cases hvj : v = k ∧ i = j
    · obtain ⟨rfl, rfl⟩ := hvj
      obtain rfl := Option.some.inj (hl.symm.trans hl');obtain rfl := Option.some.inj (he.symm.trans he');exact List.mem_append.2 (.inr (by simp))
    · exact List.mem_append.2 (.inl (h2 v l' i e' (by omega) hl' he' ho'))
theorem EdTo.no {n : Net} {k j : Nat} {E : List Edge} {l : Ends} {e : Int × Int} (h : EdTo n k j E) (hl : n.es[k]? = some l) (he : l[j]? = some e) (ho : ¬ edOk k j e) : EdTo n k (j + 1) E := by
  obtain ⟨h1, h2, h3⟩ := h;refine ⟨h1, fun v l' i e' hc hl' he' ho' => ?_, by omega⟩;by_cases hvj : v = k ∧ i = j
  · obtain ⟨rfl, rfl⟩ := hvj
    obtain rfl := Option.some.inj (hl.symm.trans hl');obtain rfl := Option.some.inj (he.symm.trans he');exact absurd ho' ho
  · exact h2 v l' i e' (by omega) hl' he' ho'
theorem EdTo.row {n : Net} {k j : Nat} {E : List Edge} {l : Ends} (h : EdTo n k j E) (hl : n.es[k]? = some l) (hj : l.length ≤ j) (hj6 : j ≤ 6) : EdTo n (k + 1) 0 E := by
  obtain ⟨h1, h2, h3⟩ := h;refine ⟨h1, fun v l' i e' hc hl' he' ho' => ?_, by omega⟩;by_cases hv : v = k
  · subst hv
    obtain rfl := Option.some.inj (hl.symm.trans hl');exact h2 v l i e' (.inr ⟨rfl, by have := (List.getElem?_eq_some_iff.1 he').1; omega⟩) hl he' ho'
  · exact h2 v l' i e' (by omega) hl' he' ho'
def EdAll (n : Net) (E : List Edge) : Prop := ∃ k, n.es.length ≤ k ∧ EdTo n k 0 E
theorem EdAll.loop {n : Net} {E : List Edge} (h : EdAll n E) (hp : netP n) : (∃ x ∈ E, x.1 = x.2.2.1) ↔ ¬ plainP n := by
  obtain ⟨k, hk, h1, h2, -⟩ := h;rw [← edge_loop hp];constructor
  · rintro ⟨x, hx, hq⟩
    obtain ⟨v, l, i, e, hl, he, ho, rfl⟩ := h1 x hx;exact ⟨v, l, hl, i, e, he, ho, hq⟩
  · rintro ⟨v, l, hl, i, e, he, ho, hq⟩
    exact ⟨_, h2 v l i e (.inl (by have := (List.getElem?_eq_some_iff.1 hl).1; omega)) hl he ho, hq⟩
def EgRel (n : Net) (w : World) (v i : Value) (wr : World) : Prop :=
  ∃ (E : List Edge) (k : Nat), k ≤ n.es.length ∧ i = .int .i64 k ∧ EdTo n k 0 E ∧ wr.ownsRow w.heap.size 87 4 v E.length (edCells E) ∧ Below w.heap.size w wr
def EiRel (n : Net) (k : Nat) (l : Ends) (w wq : World) (v i : Value) (wr : World) : Prop :=
  ∃ (E : List Edge) (j : Nat), j ≤ l.length ∧ i = .int .i64 j ∧ EdTo n k j E ∧ wr.ownsRow w.heap.size 87 4 v E.length (edCells E) ∧ Below w.heap.size wq wr
set_option maxRecDepth 100000 in
set_option maxHeartbeats 2000000 in
theorem impl_edges (ve vi vn : Value) (n : Net) (w : World) (h : NetR w w.heap.size ve vi vn n) (hp : netP n) :
  Calls Tryz.prog 72 #[.agg #[ve, vi, vn]] w fun e w' => ∃ u E, e = .returned u ∧ EdAll n E ∧ E.length ≤ 300 ∧ w'.ownsRow w.heap.size 87 4 u E.length (edCells E) ∧ Below w.heap.size w w' := by
 have h40 := hp.1.2;have HP := Lib.hid hp; clear hp;obtain ⟨⟨A0, m0, c0, rfl⟩, ⟨A1, m1, c1, rfl⟩, A2, m2, c2, rfl⟩ := h.slices;obtain ⟨w0, hw0, hB, HD, hz0, HS0⟩ := box3 w (.slice A0 m0 c0) (.slice A1 m1 c1) (.slice A2 m2 c2) 27;have HN0 := Lib.hid h; have HN := Lib.hid (h.up hB); clear h;have HW0 := Lib.hid hw0; clear hw0;obtain ⟨q0, q1, q2, qf⟩ := cells3 HD;obtain ⟨hm0, -, -⟩ := HN.out.e.len_slice;subst hm0;go_enter Tryz.func72, Tryz.ntmps72;go_wp2_with fail;rw [← HW0.out];go_loopw [3, 4, 5, 11] (fun v _ _ i wr => EgRel n w0 v i wr) (fun _ _ _ i _ => n.es.length - (intOf i).toNat)
 case atStart => exact ⟨[], 0, Nat.zero_le _, rfl, EdTo.start n, World.ownsRow_nil _ _ _ _, Below.refl _ _⟩
 case round =>
  obtain ⟨E, k, hk, rfl, hed, hown, hb1⟩ := hrel;have HED := Lib.hid hed; clear hed;have hzhb1 := hb1.size;clear q0 q1 q2 qf;replace HD := bk HD hb1;replace HN := Lib.hid (HN.out.up hb1);replace hB := bl_trans hB hb1;obtain ⟨q0, q1, q2, qf⟩ := cells3 HD;by_cases hlt : k < n.es.length
  ·
   obtain ⟨l, hl⟩ : ∃ y, n.es[k]? = some y := ⟨n.es[k], List.getElem?_eq_getElem hlt⟩
   obtain ⟨ad, rfl⟩ := HN.out.e.some_ (by omega);obtain ⟨hbb, u, hu, hr⟩ := (HN0.out.below hB).e.at_ hl;have HR := Lib.hid hr;obtain ⟨A', c', rfl, hlc, hlm, -, h4⟩ := hr;unfold maxLen at hlm;have hl6 := HP.out.len hl;have HL := Lib.hid hl; clear hl;have HO := Lib.hid hown; clear hown;have HB1 := Lib.hid hb1; clear hb1;go_wp2_with fail;obtain ⟨wq, rfl⟩ : ∃ z, z = wr := ⟨_, rfl⟩
   go_loopw [3, 6, 7, 18] (fun v _ _ i wr' => EiRel n k l w0 wq v i wr') (fun _ _ _ i _ => l.length - (intOf i).toNat)
   case atStart => exact ⟨E, 0, Nat.zero_le _, rfl, HED.out, HO.out, Below.refl _ _⟩
   case round =>
    obtain ⟨E, j, hj, rfl, hed, hown, hbl⟩ := hrel;have hz2 := hbl.size;have HED2 := Lib.hid hed; clear hed;by_cases hlt2 : j < l.length
    ·
     obtain ⟨e, he⟩ : ∃ e, l[j]? = some e := ⟨_, List.getElem?_eq_getElem hlt2⟩
     obtain ⟨b, o', rfl, -, -⟩ := h4 (by omega);obtain ⟨hbb', p0, p1⟩ := (HR.out.below (hbl.mono (by omega))).at_ he;obtain ⟨wv, hwv, hbv, HEB, hzv, HSV⟩ := box2 wr (.int .i64 e.1) (.int .i64 e.2) 74;have HWV := Lib.hid hwv;obtain ⟨d2, d3, ef⟩ := cells2 HEB;rw [hwv] at d2 d3;clear hwv ef;have hbv0 : w0.heap.size ≤ wv.heap.size := by have := HB1.out.size; omega
     have HOV := Lib.hid (show wv.ownsRow w0.heap.size 87 4 u3 E.length (edCells E) from own_keep4 hown hbv.size (fun b _ hb => hbv.block b hb)); clear hown;have HBV := Lib.hid (hbl.trans (hbv.mono (by have := HB1.out.size; omega))); clear hbl;have HE := Lib.hid he; clear he;have hel := HED2.out.2.2;by_cases c1 : (k : Int) < e.1
     ·
      have HNO := Lib.hid (show edOk k j e from .inl c1);go_wp2_with ((at_builtin; rw [← HWV.out]; refine wpList_appendK wv rfl (.tmp 39) (.tmp 47) 85 rfl w0.heap.size 87 _ 4 32 Tryz.underlying85 edgeInfo rfl (by decide) _ E.length (edCells E) rfl (edC ((k : Int), (j : Int), e.1, e.2)) rfl (fun u hu => by simp [edC] at hu; rcases hu with rfl | rfl | rfl | rfl <;> rfl) (by show Value.slice (some ⟨wr.heap.size + 1, 0, none⟩) 1 1 = _; rw [HSV.out]) HOV.out (by unfold maxLen; omega) (by omega) hbv0 ?_; intro v' w' hown' hbl' hgr' hlt' hob'))
      go_roundw
      case rel => exact ⟨E ++ [((k : Int), (j : Int), e.1, e.2)], j + 1, by omega, by go_num, HED2.out.yes HL.out HE.out HNO.out, by rw [edCells_snoc, List.length_append]; exact hown', HBV.out.trans hbl'⟩
      case measure => simp [intOf]; omega
     ·
      by_cases c2 : (k : Int) = e.1
      ·
       have hq : ((k : Int) == e.1) = true := by rw [beq_iff_eq]; exact c2
       by_cases c3 : (j : Int) ≤ e.2
       ·
        have HNO := Lib.hid (show edOk k j e from .inr ⟨c2, c3⟩);clear c2;go_wp2_with ((at_builtin; rw [← HWV.out]; refine wpList_appendK wv rfl (.tmp 39) (.tmp 47) 85 rfl w0.heap.size 87 _ 4 32 Tryz.underlying85 edgeInfo rfl (by decide) _ E.length (edCells E) rfl (edC ((k : Int), (j : Int), e.1, e.2)) rfl (fun u hu => by simp [edC] at hu; rcases hu with rfl | rfl | rfl | rfl <;> rfl) (by show Value.slice (some ⟨wr.heap.size + 1, 0, none⟩) 1 1 = _; rw [HSV.out]) HOV.out (by unfold maxLen; omega) (by omega) hbv0 ?_; intro v' w' hown' hbl' hgr' hlt' hob'))
        go_roundw
        case rel => exact ⟨E ++ [((k : Int), (j : Int), e.1, e.2)], j + 1, by omega, by go_num, HED2.out.yes HL.out HE.out HNO.out, by rw [edCells_snoc, List.length_append]; exact hown', HBV.out.trans hbl'⟩
        case measure => simp [intOf]; omega
       ·
        have HNO := Lib.hid (show ¬ edOk k j e from fun h => by rcases h with h | h; exact c1 h; exact c3 h.2);clear c2;go_wp2_with fail;clear d2 d3;rw [← HWV.out];go_roundw
        case rel => exact ⟨E, j + 1, by omega, by go_num, HED2.out.no HL.out HE.out HNO.out, HOV.out, HBV.out⟩
        case measure => simp [intOf]; omega
      ·
       have hq : ((k : Int) == e.1) = false := by rw [beq_eq_false_iff_ne]; exact c2
       have HNO := Lib.hid (show ¬ edOk k j e from fun h => by rcases h with h | h; exact c1 h; exact c2 h.1);go_wp2_with fail;clear d2 d3;rw [← HWV.out];go_roundw
       case rel => exact ⟨E, j + 1, by omega, by go_num, HED2.out.no HL.out HE.out HNO.out, HOV.out, HBV.out⟩
       case measure => simp [intOf]; omega
    ·
     have hlj : l.length ≤ j := by omega
     have HO2 := Lib.hid hown; clear hown;go_wp2_with fail;refine ⟨⟨E, k + 1, by omega, by go_num, HED2.out.row HL.out hlj (by omega), HO2.out, HB1.out.trans hbl⟩, ?_⟩;simp [intOf];omega
  · have hel := HED.out.2.2;have HF := Lib.hid (show EdAll n E from ⟨k, by omega, HED.out⟩);have HO := Lib.hid hown; clear hown;go_wp2_with fail;go_ret;exact ⟨_, E, rfl, HF.out, by omega, own_mono HO.out (by omega), hB⟩
end
section
open Go.RowKit
set_option linter.all false
theorem closure_loop (x : Edge) (w : World) :
    Calls Tryz.prog 160 #[.agg #[.int .i64 x.1, .int .i64 x.2.1, .int .i64 x.2.2.1, .int .i64 x.2.2.2]] w fun e w' => e = .returned (.bool (x.1 == x.2.2.1)) ∧ Below w.heap.size w w' := by
  go_enter Tryz.func160, Tryz.ntmps160;go_wp2_with fail;go_ret;exact ⟨rfl, bl_alloc (Below.refl _ _) _⟩
theorem edge_at {E : List Edge} {k : Nat} {x : Edge} (h : E[k]? = some x) : (edCells E)[k * 4]? = some (.int .i64 x.1) ∧ (edCells E)[k * 4 + 1]? = some (.int .i64 x.2.1) ∧ (edCells E)[k * 4 + 2]? = some (.int .i64 x.2.2.1) ∧ (edCells E)[k * 4 + 3]? = some (.int .i64 x.2.2.2) := by
  induction E generalizing k with
  | nil => simp at h
  | cons y r ih =>
    rcases k with _ | k
    · simp only [List.getElem?_cons_zero, Option.some.injEq] at h
      subst h;exact ⟨rfl, rfl, rfl, rfl⟩
    · have := ih (k := k) h
      have e : edCells (y :: r) = edC y ++ edCells r := rfl;rw [e];have hl : (edC y).length = 4 := rfl;rw [List.getElem?_append_right (by rw [hl]; omega), List.getElem?_append_right (by rw [hl]; omega), List.getElem?_append_right (by rw [hl]; omega), List.getElem?_append_right (by rw [hl]; omega), hl];rw [show (k + 1) * 4 - 4 = k * 4 by omega, show (k + 1) * 4 + 1 - 4 = k * 4 + 1 by omega, show (k + 1) * 4 + 2 - 4 = k * 4 + 2 by omega, show (k + 1) * 4 + 3 - 4 = k * 4 + 3 by omega];exact this
def NoLoopTo (E : List Edge) (k : Nat) : Prop := ∀ (j : Nat) (x : Edge), j < k → E[j]? = some x → x.1 ≠ x.2.2.1
theorem NoLoopTo.next {E : List Edge} {k : Nat} {x : Edge} (h : NoLoopTo E k) (hx : E[k]? = some x) (hn : x.1 ≠ x.2.2.1) : NoLoopTo E (k + 1) := fun j y hj hy => by
  by_cases e : j = k
  · subst e
    obtain rfl := Option.some.inj (hx.symm.trans hy);exact hn
  · exact h j y (by omega) hy
noncomputable def loopB (E : List Edge) : Bool := propB (∃ x ∈ E, x.1 = x.2.2.1)
theorem NoLoopTo.fin {E : List Edge} {k : Nat} (h : NoLoopTo E k) (hk : E.length ≤ k) : loopB E = false := propB_f fun ⟨x, hx, e⟩ => by obtain ⟨j, hj⟩ := List.mem_iff_getElem?.1 hx;exact h j x (by have := (List.getElem?_eq_some_iff.1 hj).1; omega) hj e
def LpRel (E : List Edge) (w : World) (i : Value) (wr : World) : Prop := Below w.heap.size w wr ∧ ∃ k : Nat, k ≤ E.length ∧ i = .int .i64 k ∧ NoLoopTo E k
def LpIdx (E : List Edge) (w : World) (e : Ending) (w' : World) : Prop := ∃ i : Int, e = .returned (.int .i64 i) ∧ -1 ≤ i ∧ i ≤ E.length ∧ decide (0 ≤ i) = loopB E ∧ Below w.heap.size w w'
theorem edges_index (v : Value) (E : List Edge) (base : Nat) (w : World) (h : w.ownsRow base 87 4 v E.length (edCells E)) (hE : E.length ≤ 300) :
  Calls Tryz.prog 122 #[v, .func (.func 160) #[] #[]] w (LpIdx E w) := by
 obtain ⟨A0, c0, rfl⟩ : ∃ A0 c0, v = .slice A0 E.length c0 := by
  rcases h.2 with ⟨rfl, e0⟩ | ⟨g, cap, cur, rfl, -⟩
  · exact ⟨none, 0, by rw [e0]⟩
  · exact ⟨_, _, rfl⟩
 go_enter Tryz.func122, Tryz.ntmps122;go_wp2_with fail;go_loopw [8, 5] (fun i _ wr => LpRel E w i wr) (fun i _ _ => E.length - (intOf i).toNat)
 case atStart => exact ⟨Below.refl _ _, 0, Nat.zero_le _, rfl, fun _ _ h => absurd h (by omega)⟩
 case round =>
  obtain ⟨hb, k, hk, rfl, hup⟩ := hrel;have HU := Lib.hid hup; clear hup;have hz := hb.size;by_cases hlt : k < E.length
  ·
   obtain ⟨x, hx⟩ : ∃ x, E[k]? = some x := ⟨E[k], List.getElem?_eq_getElem hlt⟩
   obtain ⟨c0', c1', c2', c3'⟩ := edge_at hx;have HX := Lib.hid hx; clear hx;obtain ⟨g, rfl⟩ : ∃ g, A0 = some ⟨g, 0, none⟩ := by
    rcases h.2 with ⟨e, e0⟩ | ⟨g, cap, cur, e, -⟩
    · omega
    · cases e;exact ⟨g, rfl⟩
   have hgl := (h.lt g rfl).2;have hc : ∀ i u, i < E.length * 4 → (edCells E)[i]? = some u → wr.cell? ⟨g, i, none⟩ = some u := fun i u hi hu => (hb.cell (p := ⟨g, i, none⟩) hgl).trans ((h.cellAt i hi).trans hu)
   have k0 := hc _ _ (by omega) c0';have k1 := hc _ _ (by omega) c1';have k2 := hc _ _ (by omega) c2';have k3 := hc _ _ (by omega) c3';clear hc c0' c1' c2' c3';by_cases hq : x.1 = x.2.2.1
   ·
    have kq : (x.1 == x.2.2.1) = true := by rw [beq_iff_eq]; exact hq
    have HQ := Lib.hid (show loopB E = true from propB_t ⟨x, List.mem_of_getElem? HX.out, hq⟩);clear hq;go_wp2_with fail;refine (closure_loop x wr).mono ?_;rintro e w' ⟨rfl, hb'⟩;rw [kq];go_wp2_with fail;go_ret;exact ⟨k, rfl, by omega, by omega, by rw [HQ.out]; simp, hb.trans (hb'.mono hz)⟩
   ·
    have kq : (x.1 == x.2.2.1) = false := by rw [beq_eq_false_iff_ne]; exact hq
    have HQ := Lib.hid (HU.out.next HX.out hq);clear hq;go_wp2_with fail;refine (closure_loop x wr).mono ?_;rintro e w' ⟨rfl, hb'⟩;rw [kq];go_wp2_with fail;go_roundw
    case rel => exact ⟨hb.trans (hb'.mono hz), k + 1, by omega, by go_num, HQ.out⟩
    case measure => simp [intOf]; omega
  · have HF := Lib.hid (HU.out.fin (by omega));go_wp2_with fail;go_ret;exact ⟨-1, rfl, by omega, by omega, by rw [HF.out]; rfl, hb⟩
theorem edges_contain (v : Value) (E : List Edge) (base : Nat) (w : World) (h : w.ownsRow base 87 4 v E.length (edCells E)) (hE : E.length ≤ 300) :
    Calls Tryz.prog 71 #[v, .func (.func 160) #[] #[]] w fun e w' => e = .returned (.bool (loopB E)) ∧ Below w.heap.size w w' := by
  have HH := Lib.hid h; clear h;go_enter Tryz.func71, Tryz.ntmps71;go_wp2_with fail;refine (edges_index v E base w HH.out hE).mono ?_;rintro e w' ⟨i, rfl, h1, h2, h3, hb⟩;have H3 := Lib.hid h3; clear h3;go_wp2_with fail;go_ret;exact ⟨ret_bool H3.out, hb⟩
theorem loop_plain {n : Net} {E : List Edge} (h : EdAll n E) (hp : netP n) : loopB E = !plainB n := by
  by_cases hq : plainP n
  · rw [show plainB n = true from propB_t hq]
    exact propB_f fun hl => (h.loop hp).1 hl hq
  · rw [show plainB n = false from propB_f hq]
    exact propB_t ((h.loop hp).2 hq)
theorem impl_hasStubsOrLoops (ve vi vn : Value) (n : Net) (w : World) (h : NetR w w.heap.size ve vi vn n) (hp : netP n) :
    Calls Tryz.prog 136 #[.agg #[ve, vi, vn]] w fun e w' => e = .returned (.bool (!plainB n)) ∧ Below w.heap.size w w' := by
  have HP := Lib.hid hp; clear hp;obtain ⟨⟨A0, m0, c0, rfl⟩, ⟨A1, m1, c1, rfl⟩, A2, m2, c2, rfl⟩ := h.slices;obtain ⟨w0, hw0, hB, HD, hz0, HS0⟩ := box3 w (.slice A0 m0 c0) (.slice A1 m1 c1) (.slice A2 m2 c2) 27;have HN0 := Lib.hid h; have HN := Lib.hid (h.up hB); clear h;have HW0 := Lib.hid hw0; clear hw0;obtain ⟨q0, q1, q2, qf⟩ := cells3 HD;go_enter Tryz.func136, Tryz.ntmps136;go_wp2_with fail;rw [← HW0.out];refine (impl_edges _ _ _ n w0 HN.out HP.out).mono ?_;rintro e w1 ⟨u, E, rfl, hed, hlen, hown, hb1⟩;have HED := Lib.hid (loop_plain hed HP.out); clear hed;have HO := Lib.hid hown; clear hown;have hzhb1 := hb1.size;clear q0 q1 q2 qf;replace HD := bk HD hb1;replace HN := Lib.hid (HN.out.up hb1);replace hB := bl_trans hB hb1;obtain ⟨q0, q1, q2, qf⟩ := cells3 HD;go_wp2_with fail;refine (edges_contain u E w0.heap.size w1 HO.out hlen).mono ?_;rintro e w2 ⟨rfl, hb2⟩;have hzhb2 := hb2.size;clear q0 q1 q2 qf;replace HD := bk HD hb2;replace HN := Lib.hid (HN.out.up hb2);replace hB := bl_trans hB hb2;obtain ⟨q0, q1, q2, qf⟩ := cells3 HD;go_wp2_with fail;go_ret;exact ⟨ret_bool HED.out, hB⟩
end
section
open Go.RowKit
set_option linter.all false
noncomputable def rowB (l : Ends) : Bool := propB (rowOk l)
theorem closure_ring (v : Value) (l : Ends) (S : Nat → Prop) (w : World) (h : EndsR w S v l) :
  Calls Tryz.prog 164 #[v] w fun e w' => e = .returned (.bool (!rowB l)) ∧ w = w' := by
 have HR := Lib.hid h;obtain ⟨A0, c0, rfl, hlc, hlm, -, h4⟩ := h;unfold maxLen at hlm;by_cases hl : l.length = 2
 ·
  obtain ⟨b, o, rfl, -, -⟩ := h4 (by omega);obtain ⟨e, he⟩ : ∃ e, l[0]? = some e := ⟨_, List.getElem?_eq_getElem (by omega)⟩
  obtain ⟨-, p0, p1⟩ := HR.out.at_ he;rw [show o + 0 * 2 = o by omega] at p0 p1;have HE := Lib.hid he; clear he;have hl2 : (l.length : Int) = 2 := by omega
  have hq : ((l.length : Int) != 2) = false := by rw [hl2]; rfl
  have HL := Lib.hid hl;by_cases h1 : e.2 = 1
  ·
   have hq1 : (e.2 != (1 : Int)) = false := by rw [h1]; rfl
   have HX := Lib.hid (show (!rowB l) = false by rw [show rowB l = true from propB_t ⟨hl, e, HE.out, h1⟩]; rfl);clear h1 hl2 hl;have hlt : 0 < l.length := by have := HL.out; omega
   go_enter Tryz.func164, Tryz.ntmps164;go_wp2_with fail;go_ret;exact ⟨ret_bool HX.out.symm, rfl⟩
  ·
   have hq1 : (e.2 != (1 : Int)) = true := by rw [bne_iff_ne]; exact h1
   have HX := Lib.hid (show (!rowB l) = true by
    rw [show rowB l = false from propB_f fun hh => by
     obtain ⟨-, e', he', h1'⟩ := hh;obtain rfl := Option.some.inj (HE.out.symm.trans he')
     exact h1 h1']
    rfl)
   clear h1 hl2 hl;have hlt : 0 < l.length := by have := HL.out; omega
   go_enter Tryz.func164, Tryz.ntmps164;go_wp2_with fail;go_ret;exact ⟨ret_bool HX.out.symm, rfl⟩
 ·
  have hq : ((l.length : Int) != 2) = true := by rw [bne_iff_ne]; omega
  have HX := Lib.hid (show (!rowB l) = true by rw [show rowB l = false from propB_f fun hh => hl hh.1]; rfl);clear hl h4;go_enter Tryz.func164, Tryz.ntmps164;go_wp2_with fail;go_ret;exact ⟨ret_bool HX.out.symm, rfl⟩
noncomputable def rowsB (n : Net) : Bool := propB (∀ l ∈ n.es, rowOk l)
theorem RingTo.fin {n : Net} {k : Nat} (h : RingTo n k) (hk : n.es.length ≤ k) : rowsB n = true := propB_t fun l hl => by obtain ⟨j, hj⟩ := List.mem_iff_getElem?.1 hl;exact h j l (by have := (List.getElem?_eq_some_iff.1 hj).1; omega) hj
def RxRel (n : Net) (w : World) (i : Value) (wr : World) : Prop := w = wr ∧ ∃ k : Nat, k ≤ n.es.length ∧ i = .int .i64 k ∧ RingTo n k
def RgIdx (n : Net) (w : World) (e : Ending) (w' : World) : Prop := ∃ i : Int, e = .returned (.int .i64 i) ∧ -1 ≤ i ∧ i ≤ n.es.length ∧ decide (0 ≤ i) = (!rowsB n) ∧ w = w'
theorem rows_index (v : Value) (n : Net) (S : Nat → Prop) (w : World) (h : EndssR w S v n.es) :
  Calls Tryz.prog 181 #[v, .func (.func 164) #[] #[]] w (RgIdx n w) := by
 obtain ⟨A0, m0, c0, rfl⟩ := h.isSlice;obtain ⟨hm0, hcc, hmx⟩ := h.len_slice;subst hm0;unfold maxLen at hmx;have HH := Lib.hid h; clear h;go_enter Tryz.func181, Tryz.ntmps181;go_wp2_with fail;go_loopw [8, 5] (fun i _ wr => RxRel n w i wr) (fun i _ _ => n.es.length - (intOf i).toNat)
 case atStart => exact ⟨rfl, 0, Nat.zero_le _, rfl, fun _ _ h => absurd h (by omega)⟩
 case round =>
  obtain ⟨rfl, k, hk, rfl, hup⟩ := hrel;have HU := Lib.hid hup; clear hup;by_cases hlt : k < n.es.length
  ·
   obtain ⟨l, hl⟩ : ∃ y, n.es[k]? = some y := ⟨n.es[k], List.getElem?_eq_getElem hlt⟩
   obtain ⟨ad, rfl⟩ := HH.out.some_ (by omega);obtain ⟨hbb, u, hu, hr⟩ := HH.out.at_ hl;have HR := Lib.hid hr; clear hr;have HL := Lib.hid hl; clear hl;cases hq : rowB l with
   | true =>
    have HX := Lib.hid (HU.out.next HL.out (propB_iff.1 hq));go_wp2_with fail;refine (closure_ring u l S w HR.out).mono ?_;rintro e w' ⟨rfl, rfl⟩;rw [hq];go_wp2_with fail;go_roundw
    case rel => exact ⟨rfl, k + 1, by omega, by go_num, HX.out⟩
    case measure => simp [intOf]; omega
   | false =>
    have HX := Lib.hid (show (!rowsB n) = true by
     rw [show rowsB n = false from propB_f fun hh => by rw [show rowB l = true from propB_t (hh l (List.mem_of_getElem? HL.out))] at hq; cases hq]
     rfl)
    go_wp2_with fail;refine (closure_ring u l S w HR.out).mono ?_;rintro e w' ⟨rfl, rfl⟩;rw [hq];go_wp2_with fail;go_ret;exact ⟨k, rfl, by omega, by omega, by rw [HX.out]; simp, rfl⟩
  · have HF := Lib.hid (HU.out.fin (by omega));go_wp2_with fail;go_ret;exact ⟨-1, rfl, by omega, by omega, by rw [HF.out]; rfl, rfl⟩
theorem rows_contain (v : Value) (n : Net) (S : Nat → Prop) (w : World) (h : EndssR w S v n.es) :
    Calls Tryz.prog 163 #[v, .func (.func 164) #[] #[]] w fun e w' => e = .returned (.bool (!rowsB n)) ∧ w = w' := by
  have HH := Lib.hid h; clear h;go_enter Tryz.func163, Tryz.ntmps163;go_wp2_with fail;refine (rows_index v n S w HH.out).mono ?_;rintro e w' ⟨i, rfl, h1, h2, h3, rfl⟩;have H3 := Lib.hid h3; clear h3;go_wp2_with fail;go_ret;exact ⟨ret_bool H3.out, rfl⟩
theorem ring_f {n : Net} (h : ¬ (2 ≤ n.es.length ∧ connP n ∧ onesN n.ins = 1)) : ringB n = false := propB_f fun hp => h ⟨hp.1, hp.2.1, hp.2.2.1⟩
theorem ring_all {n : Net} (h1 : 2 ≤ n.es.length) (h2 : connB n = true) (h3 : onesN n.ins = 1) : ringB n = rowsB n := propB_congr ⟨fun hp => hp.2.2.2, fun hp => ⟨h1, propB_iff.1 h2, h3, hp⟩⟩
theorem impl_isTokenRing (ve vi vn : Value) (n : Net) (w : World) (h : NetR w w.heap.size ve vi vn n) (hp : netP n) :
  Calls Tryz.prog 137 #[.agg #[ve, vi, vn]] w fun e w' => e = .returned (.bool (ringB n)) ∧ Below w.heap.size w w' := by
 have h40 := hp.1.2;have HP := Lib.hid hp; clear hp;obtain ⟨⟨A0, m0, c0, rfl⟩, ⟨A1, m1, c1, rfl⟩, A2, m2, c2, rfl⟩ := h.slices;obtain ⟨w0, hw0, hB, HD, hz0, HS0⟩ := box3 w (.slice A0 m0 c0) (.slice A1 m1 c1) (.slice A2 m2 c2) 27;have HN0 := Lib.hid h; have HN := Lib.hid (h.up hB); clear h;have HW0 := Lib.hid hw0; clear hw0;obtain ⟨q0, q1, q2, qf⟩ := cells3 HD;obtain ⟨hm0, -, -⟩ := HN.out.e.len_slice;subst hm0;by_cases h2 : 2 ≤ n.es.length
 ·
  have hq : ¬ ((n.es.length : Int) < 2) := by omega
  go_enter Tryz.func137, Tryz.ntmps137;go_wp2_with fail;rw [← HW0.out];refine (impl_isConnected _ _ _ n w0 HN.out HP.out).mono ?_;rintro e w1 ⟨rfl, hb1⟩;have hzhb1 := hb1.size;clear q0 q1 q2 qf;replace HD := bk HD hb1;replace HN := Lib.hid (HN.out.up hb1);replace hB := bl_trans hB hb1;obtain ⟨q0, q1, q2, qf⟩ := cells3 HD;cases hc : connB n with
  | false =>
   have HF := Lib.hid (ring_f (n := n) fun hh => by rw [show connB n = true from propB_t hh.2.1] at hc; cases hc);go_wp2_with fail;go_ret;exact ⟨ret_bool HF.out.symm, hB⟩
  | true =>
   go_wp2_with fail;refine (impl_ones _ n.ins w1 HN.out.n).mono ?_;rintro e w2 ⟨rfl, rfl⟩;by_cases h1 : onesN n.ins = 1
   ·
    have hq1 : (((onesN n.ins : Nat) : Int) != (1 : Int)) = false := by rw [h1]; rfl
    have HF := Lib.hid (ring_all h2 hc h1);clear h1;go_wp2_with fail;refine (rows_contain _ n _ w1 HN.out.e).mono ?_;rintro e w2 ⟨rfl, rfl⟩;go_wp2_with fail;go_ret;exact ⟨ret_bool (by rw [HF.out]), hB⟩
   ·
    have hq1 : (((onesN n.ins : Nat) : Int) != (1 : Int)) = true := by rw [bne_iff_ne]; omega
    have HF := Lib.hid (ring_f (n := n) fun hh => h1 hh.2.2);clear h1;go_wp2_with fail;go_ret;exact ⟨ret_bool HF.out.symm, hB⟩
 ·
  have HF := Lib.hid (ring_f (n := n) fun hh => h2 hh.1);have hq : (n.es.length : Int) < 2 := by omega
  clear h2;go_enter Tryz.func137, Tryz.ntmps137;go_wp2_with fail;rw [← HW0.out];go_ret;exact ⟨ret_bool HF.out.symm, hB⟩
end
section
open Go.RowKit
set_option linter.all false
theorem impl_ruleRuns (ve vi vn : Value) (n : Net) (r : Int) (w : World) (h : NetR w w.heap.size ve vi vn n) (hp : netP n) :
  Calls Tryz.prog 90 #[.agg #[ve, vi, vn], .int .i64 r] w fun e w' => e = .returned (.bool (runsB n r)) ∧ Below w.heap.size w w' := by
 have HP := Lib.hid hp; clear hp;have HE := Lib.hid (runs_eq n r);obtain ⟨⟨A0, m0, c0, rfl⟩, ⟨A1, m1, c1, rfl⟩, A2, m2, c2, rfl⟩ := h.slices;obtain ⟨w0, hw0, hB, HD, hz0, HS0⟩ := box3 w (.slice A0 m0 c0) (.slice A1 m1 c1) (.slice A2 m2 c2) 27;have HN0 := Lib.hid h; have HN := Lib.hid (h.up hB); clear h;have HW0 := Lib.hid hw0; clear hw0;obtain ⟨q0, q1, q2, qf⟩ := cells3 HD;go_enter Tryz.func90, Tryz.ntmps90;go_wp2_with fail;rw [← HW0.out];refine (impl_hasStubsOrLoops _ _ _ n w0 HN.out HP.out).mono ?_;rintro e w1 ⟨rfl, hb1⟩;have hzhb1 := hb1.size;clear q0 q1 q2 qf;replace HD := bk HD hb1;replace HN := Lib.hid (HN.out.up hb1);replace hB := bl_trans hB hb1;obtain ⟨q0, q1, q2, qf⟩ := cells3 HD;cases h1 : plainB n with
 | false =>
  have HF := Lib.hid (show runsB n r = false by rw [HE.out, h1]; rfl);go_wp2_with fail;go_ret;exact ⟨ret_bool HF.out.symm, hB⟩
 | true =>
  by_cases h5 : r = 5
  · subst h5;have HF := Lib.hid (show runsB n 5 = ringB n by rw [HE.out, h1]; simp);go_wp2_with fail;refine (impl_isTokenRing _ _ _ n w1 HN.out HP.out).mono ?_;rintro e w2 ⟨rfl, hb2⟩;have hzhb2 := hb2.size;clear q0 q1 q2 qf;replace HD := bk HD hb2;replace HN := Lib.hid (HN.out.up hb2);replace hB := bl_trans hB hb2;obtain ⟨q0, q1, q2, qf⟩ := cells3 HD;go_wp2_with fail;go_ret;exact ⟨ret_bool HF.out.symm, hB⟩
  ·
   have HF := Lib.hid (show runsB n r = true by rw [HE.out, h1, decide_eq_true h5]; rfl);have hq : (r != 5) = true := by rw [bne_iff_ne]; exact h5
   clear h5;go_wp2_with fail;go_ret;exact ⟨ret_bool HF.out.symm, hB⟩
theorem impl_ruleOk (ve vi vn : Value) (n : Net) (r : Int) (w : World) (h : NetR w w.heap.size ve vi vn n) (hz : n.es.length ≤ 2000000) (hzi : n.ids.length ≤ 2000000) :
  Calls Tryz.prog 50 #[.agg #[ve, vi, vn], .int .i64 r] w fun e w' => e = .returned (.bool (askB n r)) ∧ Below w.heap.size w w' := by
 have HE := Lib.hid (ask_eq n r);obtain ⟨⟨A0, m0, c0, rfl⟩, ⟨A1, m1, c1, rfl⟩, A2, m2, c2, rfl⟩ := h.slices;obtain ⟨w0, hw0, hB, HD, hz0, HS0⟩ := box3 w (.slice A0 m0 c0) (.slice A1 m1 c1) (.slice A2 m2 c2) 27;have HN0 := Lib.hid h; have HN := Lib.hid (h.up hB); clear h;have HW0 := Lib.hid hw0; clear hw0;obtain ⟨q0, q1, q2, qf⟩ := cells3 HD;go_enter Tryz.func50, Tryz.ntmps50;go_wp2_with fail;rw [← HW0.out];refine (impl_IsNetwork _ _ _ n w0 HN.out hz hzi).mono ?_;rintro e w1 ⟨rfl, hb1⟩;have hzhb1 := hb1.size;clear q0 q1 q2 qf;replace HD := bk HD hb1;replace HN := Lib.hid (HN.out.up hb1);replace hB := bl_trans hB hb1;obtain ⟨q0, q1, q2, qf⟩ := cells3 HD;cases h1 : netB n with
 | false =>
  have HF := Lib.hid (show askB n r = false by rw [HE.out, h1]; rfl);go_wp2_with fail;go_ret;exact ⟨ret_bool HF.out.symm, hB⟩
 | true =>
  have HP := Lib.hid (show netP n from propB_iff.1 h1);go_wp2_with fail;refine (impl_isRule r w1).mono ?_;rintro e w2 ⟨rfl, rfl⟩;cases h2 : inB r 1 5 with
  | false =>
   have HF := Lib.hid (show askB n r = false by rw [HE.out, h1, h2]; rfl);go_wp2_with fail;go_ret;exact ⟨ret_bool HF.out.symm, hB⟩
  | true =>
   have HF := Lib.hid (show askB n r = runsB n r by rw [HE.out, h1, h2]; rfl);go_wp2_with fail;refine (impl_ruleRuns _ _ _ n r w1 HN.out HP.out).mono ?_;rintro e w2 ⟨rfl, hb2⟩;have hzhb2 := hb2.size;clear q0 q1 q2 qf;replace HD := bk HD hb2;replace HN := Lib.hid (HN.out.up hb2);replace hB := bl_trans hB hb2;obtain ⟨q0, q1, q2, qf⟩ := cells3 HD;go_wp2_with fail;go_ret;exact ⟨ret_bool HF.out.symm, hB⟩
end
section
open Go.RowKit
set_option linter.all false
theorem most_max (l : List Int) (a : Int) : l.foldl (fun a x => if a > x then a else x) a = l.foldl max a := by
  have e : (fun a x : Int => if a > x then a else x) = max := by
    funext a x;by_cases h : a > x
    · rw [if_pos h]; omega
    · rw [if_neg h]; omega
  rw [e]
theorem maxOf_most {l : List Int} (h0 : 0 < l.length) (h : ∀ x ∈ l, 0 ≤ x) : Lib.maxOf l = most l := by
  cases l with
  | nil => simp at h0
  | cons y r =>
    unfold Lib.maxOf most;rw [most_max];simp only [List.headD_cons, List.foldl_cons];have := h y (by simp);rw [show max y y = y by omega, show max 0 y = y by omega]
theorem impl_Max (v : Value) (xs : List Int) (w : World) (h : IntsR w w.heap.size v xs) (h0 : 0 < xs.length) (hn : ∀ x ∈ xs, 0 ≤ x) :
    Calls Tryz.prog 108 #[v] w fun e w' => e = .returned (.int .i64 (most xs)) ∧ w = w' := by
  obtain ⟨A, c, rfl, h1, h2, h3⟩ := h.open_;unfold maxLen at h2;obtain ⟨ad, rfl, hb, hc⟩ := h3 h0;obtain ⟨b, off, rfl, hcc⟩ := ints_cells h0 hc;refine (Tryz.slices_Max_int b off xs.length c xs w h0 (Nat.le_refl _) (by omega) hcc).mono ?_;rintro e w' ⟨rfl, rfl⟩;rw [List.take_length, maxOf_most h0 hn];exact ⟨rfl, rfl⟩
theorem rep_ints {w : World} {g k : Nat} {x : Int} (h : NumsAt w g (List.replicate k x)) (hk : k ≤ 1000) (hx : I64 x) : IntsR w w.heap.size (.slice (some ⟨g, 0, none⟩) k k) (List.replicate k x) := by have := ints_row (B := w.heap.size) h (by unfold maxLen; simp; omega) (fun y hy => by rw [List.eq_of_mem_replicate hy]; exact hx) h.lt;simpa using this
theorem impl_Repeat1 (x : Int) (k g : Nat) (w : World) (hg : w.heap.size = g) (hk : 1 ≤ k) (hk2 : k ≤ 1000) (hx : I64 x) :
    Calls Tryz.prog 91 #[.slice (some ⟨g, 0, none⟩) 1 1, .int .i64 (k : Int)] (w.alloc (.cells #[.int .i64 x] 3)) fun e w' => e = .returned (.slice (some ⟨g + 1, 0, none⟩) k k) ∧ IntsR w' w'.heap.size (.slice (some ⟨g + 1, 0, none⟩) k k) (List.replicate k x) ∧ Below w.heap.size w w' := by
  subst hg;have hsz : (w.alloc (.cells #[.int .i64 x] 3)).heap.size = w.heap.size + 1 := by simp
  refine (impl_Repeat x k w.heap.size _ (heap_alloc_new w _) hk (by omega)).mono ?_;rintro e w3 ⟨rfl, hnum, hb⟩;have hI := rep_ints hnum hk2 hx;have hB := (bl_alloc (Below.refl w.heap.size w) (.cells #[.int .i64 x] 3)).trans (hb.mono (by rw [show (w.alloc (.cells (List.map intV [x]).toArray 3)).heap.size = w.heap.size + 1 from hsz]; omega));rw [show (w.alloc (.cells (List.map intV [x]).toArray 3)).heap.size = w.heap.size + 1 from hsz] at hI ⊢;exact ⟨rfl, hI, hB⟩
def CntPost (n : Net) (r : Int) (w : World) (e : Ending) (w' : World) : Prop := ∃ u, e = .returned u ∧ (∃ A m c, u = .slice A m c) ∧ IntsR w' w'.heap.size u (cnts n r) ∧ Below w.heap.size w w'
theorem cnts2 (n : Net) : cnts n 2 = List.replicate n.es.length (most (degs n) + 1) := if_pos rfl
theorem cnts3 (n : Net) : cnts n 3 = List.replicate n.es.length 2 := rfl
theorem cnts4 (n : Net) : cnts n 4 = (degs n).map (· + 1) := rfl
theorem cnts_else {n : Net} {r : Int} (h2 : r ≠ 2) (h3 : r ≠ 3) (h4 : r ≠ 4) : cnts n r = List.replicate n.es.length ((n.es.length : Int) + 1) := by unfold cnts;rw [if_neg h2, if_neg h3, if_neg h4]
set_option maxRecDepth 100000 in
theorem impl_stateCounts (ve vi vn : Value) (n : Net) (r : Int) (w : World) (h : NetR w w.heap.size ve vi vn n) (hp : netP n) :
  Calls Tryz.prog 60 #[.agg #[ve, vi, vn], .int .i64 r] w (CntPost n r w) := by
 have h40 := hp.1;have hdg := degs_bd hp;have hdl : (degs n).length = n.es.length := by unfold degs; simp
 have HP := Lib.hid hp; clear hp;obtain ⟨⟨A0, m0, c0, rfl⟩, ⟨A1, m1, c1, rfl⟩, A2, m2, c2, rfl⟩ := h.slices;obtain ⟨w0, hw0, hB, HD, hz0, HS0⟩ := box3 w (.slice A0 m0 c0) (.slice A1 m1 c1) (.slice A2 m2 c2) 27;have HN0 := Lib.hid h; have HN := Lib.hid (h.up hB); clear h;have HW0 := Lib.hid hw0; clear hw0;obtain ⟨q0, q1, q2, qf⟩ := cells3 HD;obtain ⟨hm0, -, -⟩ := HN.out.e.len_slice;subst hm0;by_cases h2 : r = 2
 ·
  subst h2;have hm1 := most_nn (degs n);have hm2 := most_le (l := degs n) (b := 6) (by omega) fun x hx => (hdg x hx).2
  have hwr : IntKind.i64.wrap (most (degs n) + 1) = most (degs n) + 1 := IntWalk.i64_in _ (by omega);have HDG := Lib.hid hdg; clear hdg;have HDL := Lib.hid hdl; clear hdl;go_enter Tryz.func60, Tryz.ntmps60;go_wp2_with fail;rw [← HW0.out];refine (impl_degrees _ _ _ n w0 HN.out HP.out).mono ?_;rintro e w1 ⟨u, rfl, ⟨A', m', c', rfl⟩, hu, hb1⟩;have HU := Lib.hid hu; clear hu;have hzhb1 := hb1.size;clear q0 q1 q2 qf;replace HD := bk HD hb1;replace HN := Lib.hid (HN.out.up hb1);replace hB := bl_trans hB hb1;obtain ⟨q0, q1, q2, qf⟩ := cells3 HD;go_wp2_with fail;refine (impl_Max _ (degs n) w1 HU.out (by rw [HDL.out]; omega) fun x hx => (HDG.out x hx).1).mono ?_;rintro e w2 ⟨rfl, rfl⟩;have HR := Lib.hid (cnts2 n);generalize most (degs n) = M at *;go_wp2_with fail;refine (impl_Repeat1 (M + 1) n.es.length w1.heap.size w1 rfl (by omega) (by omega) (by unfold I64; omega)).mono ?_;rintro e w3 ⟨rfl, hI, hb3⟩;have HI := Lib.hid hI; clear hI;have HB := Lib.hid (bl_trans hB hb3); clear hb3;go_wp2_with fail;go_ret;exact ⟨_, rfl, ⟨_, _, _, rfl⟩, by rw [HR.out]; exact HI.out, HB.out⟩
 ·
  have q2 : (r == 2) = false := by rw [beq_eq_false_iff_ne]; exact h2
  by_cases h3 : r = 3
  · subst h3;have HR := Lib.hid (cnts3 n);clear hdg hdl h2 q2;go_enter Tryz.func60, Tryz.ntmps60;go_wp2_with fail;rw [← HW0.out];refine (impl_Repeat1 (2) n.es.length (w.heap.size + 1) w0 HS0.out (by omega) (by omega) (by unfold I64; omega)).mono ?_;rintro e w3 ⟨rfl, hI, hb3⟩;have HI := Lib.hid hI; clear hI;have HB := Lib.hid (bl_trans hB hb3); clear hb3;go_wp2_with fail;go_ret;exact ⟨_, rfl, ⟨_, _, _, rfl⟩, by rw [HR.out]; exact HI.out, HB.out⟩
  ·
   have q3 : (r == 3) = false := by rw [beq_eq_false_iff_ne]; exact h3
   by_cases h4 : r = 4
   ·
    subst h4;have HDG := Lib.hid hdg; clear hdg;have HDL := Lib.hid hdl; clear hdl;have HR := Lib.hid (cnts4 n);have HCL := Lib.hid (cnts_len n 4);clear h2 h3 q2 q3;go_enter Tryz.func60, Tryz.ntmps60;go_wp2_with fail;rw [← HW0.out];refine (impl_degrees _ _ _ n w0 HN.out HP.out).mono ?_;rintro e w1 ⟨u, rfl, ⟨A', m', c', rfl⟩, hu, hb1⟩;obtain ⟨hm', -, hcm, hc⟩ := hu.some_;rw [HDL.out] at hm';subst hm';have HU := Lib.hid hu; clear hu hcm hc;have hzhb1 := hb1.size;clear q0 q1 q2 qf;replace HD := bk HD hb1;replace HN := Lib.hid (HN.out.up hb1);replace hB := bl_trans hB hb1;obtain ⟨q0, q1, q2, qf⟩ := cells3 HD;go_wp2_with fail;go_loopw [6, 8, 32] (fun v _ i wr => IntsRel (cnts n 4) w1 v i wr) (fun _ _ i _ => n.es.length - (intOf i).toNat)
    case atStart => exact ⟨0, Nat.zero_le _, rfl, World.ownsRow_nil _ _ _ _, Below.refl _ _⟩
    case round =>
     obtain ⟨k, hk, rfl, hown, hbl⟩ := hrel;rw [HCL.out] at hk;have HUR := Lib.hid (HU.out.below hbl);by_cases hlt : k < n.es.length
     ·
      obtain ⟨d, hd⟩ : ∃ y, (degs n)[k]? = some y := ⟨_, List.getElem?_eq_getElem (by rw [HDL.out]; exact hlt)⟩
      obtain ⟨-, -, hcm, hc⟩ := HUR.out.some_;obtain ⟨ad, rfl, -, hcell⟩ := hc (by rw [HDL.out]; omega);have hcx := hcell k d hd;have hdb := HDG.out d (List.mem_of_getElem? hd);have hwr : IntKind.i64.wrap (d + 1) = d + 1 := IntWalk.i64_in _ (by omega);have HS := Lib.hid (ints_snoc (xs := cnts n 4) (k := k) (x := d + 1) (by rw [HR.out, List.getElem?_map, hd]; rfl)); clear hd hcell hc hcm;go_wp2_with ((at_builtin; refine wpList_append1 wr rfl (.tmp 36) (.tmp 39) 25 rfl w1.heap.size 3 _ 8 Tryz.underlying25 intInfo rfl _ _ _ rfl _ rfl rfl hown (by unfold maxLen; omega) (by omega) hbl.size ?_; intro v' w' hown' hbl' hgr' hlt' hob'))
      go_roundw
      case rel => exact ⟨k + 1, by rw [HCL.out]; omega, by go_num, by rw [HS.out]; exact hown', hbl.trans hbl'⟩
      case measure => simp [intOf]; omega
     · have hI := IntsRel.fin hown (by rw [HCL.out]; omega) (cnts_I64 HP.out 4);have HO := Lib.hid hI; clear hI hown;go_wp2_with fail;go_ret;exact ⟨_, rfl, HO.out.isSlice, HO.out, bl_trans hB hbl⟩
   ·
    have q4 : (r == 4) = false := by rw [beq_eq_false_iff_ne]; exact h4
    have hwr : IntKind.i64.wrap ((n.es.length : Int) + 1) = (n.es.length : Int) + 1 := IntWalk.i64_in _ (by omega);have HR := Lib.hid (cnts_else (n := n) h2 h3 h4);clear hdg hdl h2 h3 h4;go_enter Tryz.func60, Tryz.ntmps60;go_wp2_with fail;rw [← HW0.out];refine (impl_Repeat1 ((n.es.length : Int) + 1) n.es.length (w.heap.size + 1) w0 HS0.out (by omega) (by omega) (by unfold I64; omega)).mono ?_;rintro e w3 ⟨rfl, hI, hb3⟩;have HI := Lib.hid hI; clear hI;have HB := Lib.hid (bl_trans hB hb3); clear hb3;go_wp2_with fail;go_ret;exact ⟨_, rfl, ⟨_, _, _, rfl⟩, by rw [HR.out]; exact HI.out, HB.out⟩
end
section
open Go.RowKit
set_option linter.all false
end
section
open Go.RowKit
set_option linter.all false
theorem impl_situationOk (ve vi vn vs : Value) (n : Net) (r : Int) (ss : List Int) (w : World) (h : NetR w w.heap.size ve vi vn n) (hs : IntsR w w.heap.size vs ss) (hz : n.es.length ≤ 2000000) (hzi : n.ids.length ≤ 2000000) :
  Calls Tryz.prog 24 #[.agg #[ve, vi, vn], .int .i64 r, vs] w fun e w' => e = .returned (.bool (sitB n r ss)) ∧ Below w.heap.size w w' := by
 have HSS := Lib.hid hs;obtain ⟨As, cs, rfl, -, hcm, hsc⟩ := hs.open_;clear hs;obtain ⟨⟨A0, m0, c0, rfl⟩, ⟨A1, m1, c1, rfl⟩, A2, m2, c2, rfl⟩ := h.slices;obtain ⟨w0, hw0, hB, HD, hz0, HS0⟩ := box3 w (.slice A0 m0 c0) (.slice A1 m1 c1) (.slice A2 m2 c2) 27;have HN0 := Lib.hid h; have HN := Lib.hid (h.up hB); clear h;have HW0 := Lib.hid hw0; clear hw0;obtain ⟨q0, q1, q2, qf⟩ := cells3 HD;obtain ⟨hm0, -, -⟩ := HN.out.e.len_slice;subst hm0;unfold maxLen at hcm;go_enter Tryz.func24, Tryz.ntmps24;go_wp2_with fail;rw [← HW0.out];refine (impl_ruleOk _ _ _ n r w0 HN.out hz hzi).mono ?_;rintro e w1 ⟨rfl, hb1⟩;have hzhb1 := hb1.size;clear q0 q1 q2 qf;replace HD := bk HD hb1;replace HN := Lib.hid (HN.out.up hb1);replace hB := bl_trans hB hb1;obtain ⟨q0, q1, q2, qf⟩ := cells3 HD;cases h1 : askB n r with
 | false =>
  go_wp2_with fail;go_ret;exact ⟨ret_bool (sit_noA h1).symm, hB⟩
 | true =>
  have HA := Lib.hid h1;have HP := Lib.hid (askB_net h1);have h40 := HP.out.1.2;by_cases hl : ss.length = n.es.length
  ·
   have HL := Lib.hid hl;have kq : (((ss.length : Nat) : Int) != (n.es.length : Int)) = false := by rw [hl]; simp
   clear hl h1;go_wp2_with fail;refine (impl_stateCounts _ _ _ n r w1 HN.out HP.out).mono ?_;rintro e w2 ⟨u, rfl, ⟨A', m', c', rfl⟩, hu, hb2⟩;obtain ⟨hm', -, hcm', hc'⟩ := hu.some_;rw [cnts_len] at hm';subst hm';have hcl := cnts_len n r;have hcb := cnts_bd HP.out r;have HU2 := Lib.hid hu; clear hu hc' hcm';have hzhb2 := hb2.size;clear q0 q1 q2 qf;replace HD := bk HD hb2;replace HN := Lib.hid (HN.out.up hb2);replace hB := bl_trans hB hb2;obtain ⟨q0, q1, q2, qf⟩ := cells3 HD;have HCL := Lib.hid hcl; clear hcl;have HCB := Lib.hid hcb; clear hcb;go_wp2_with fail;go_loopw [7, 8, 25] (fun _ _ i wr => SsRel n r ss w2 i wr) (fun _ _ i _ => ss.length - (intOf i).toNat)
   case atStart => exact ⟨Below.refl _ _, 0, Nat.zero_le _, rfl, fun _ _ _ h => absurd h (by omega)⟩
   case round =>
    obtain ⟨hb3, k, hk, rfl, hup⟩ := hrel;have HU := Lib.hid hup; clear hup;have HUR := Lib.hid (HU2.out.below hb3);have hzhb3 := hb3.size;clear q0 q1 q2 qf;replace HD := bk HD hb3;replace HN := Lib.hid (HN.out.up hb3);replace hB := bl_trans hB hb3;obtain ⟨q0, q1, q2, qf⟩ := cells3 HD;have hkl : k ≤ n.es.length := by have := HL.out; omega
    by_cases hlt : k < n.es.length
    ·
     have hlt2 : k < ss.length := by have := HL.out; omega
     obtain ⟨s, hs⟩ : ∃ s, ss[k]? = some s := ⟨_, List.getElem?_eq_getElem hlt2⟩
     obtain ⟨q, hq⟩ : ∃ q, (cnts n r)[k]? = some q := ⟨_, List.getElem?_eq_getElem (by rw [HCL.out]; exact hlt)⟩
     obtain ⟨ad, rfl, hb, hc⟩ := hsc (by omega);have hcell := (hB.cell (p := ad.add k) (by rw [block_add]; exact hb)).trans (hc k s hs);obtain ⟨-, -, hcm2, hc2⟩ := HUR.out.some_;obtain ⟨ad2, rfl, -, hcc2⟩ := hc2 (by rw [HCL.out]; omega);have hcell2 := hcc2 k q hq;have hqb := HCB.out q (List.mem_of_getElem? hq);have hwr : IntKind.i64.wrap (q - 1) = q - 1 := IntWalk.i64_in _ (by omega);have HS := Lib.hid hs;have HK := Lib.hid hq;clear hsc hc hs hq hcc2 hc2 hcm2;cases hi : inB s 0 (q - 1) with
     | false =>
      go_wp2_with (go_at_call 25; refine (impl_within _ _ _ _).mono ?_; rintro e w' ⟨rfl, rfl⟩)
      go_ret;exact ⟨ret_bool (sit_noS HK.out HS.out hi).symm, hB⟩
     | true =>
      go_wp2_with (go_at_call 25; refine (impl_within _ _ _ _).mono ?_; rintro e w' ⟨rfl, rfl⟩)
      go_roundw
      case rel => exact ⟨hb3, k + 1, by omega, by go_num, HU.out.next HK.out HS.out hi⟩
      case measure => simp [intOf]; omega
    · have HF := Lib.hid (sit_end HA.out HL.out HU.out (by have := HL.out; omega));go_wp2_with fail;go_ret;exact ⟨ret_bool HF.out.symm, hB⟩
  ·
   have kq : (((ss.length : Nat) : Int) != (n.es.length : Int)) = true := by rw [bne_iff_ne]; omega
   have HF := Lib.hid (sit_noL (n := n) (r := r) hl);clear hl;go_wp2_with fail;go_ret;exact ⟨ret_bool HF.out.symm, hB⟩
end
end Go.Proofs.YtdghoienjegffaaGreat
