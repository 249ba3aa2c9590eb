/-
  Small lemmas and contracts that the texts of this claim share. No condition.
-/
import Derived.Below
import Derived.ChangeSame
import Derived.ProofKit
import Derived.Carry
import Derived.Deep.Draws
import Derived.OpenShut
import Derived.Laws.Rows
import Derived.Lib.Hide
import Derived.WalkKit
import Derived.Deep.RegionHeld3
import Derived.LaidMore
import Derived.HandedShaped
import Derived.Stop.Joined
import Derived.Test.YtcfbkickiijjkaaGreatDoorRows
import Derived.WalkSpells
import Derived.WalkLawsBesides
import Derived.Deep.AppendLies
import Derived.Laws.MakeOwn
import Derived.Deep.LoopGhost
import Derived.Deep.QuietTactic
import Derived.BigQuiet
import Derived.Maps.AppendAt
import Derived.Lib.Split
import Derived.Lib.SplitLaws
import Derived.Lib.IndexBytes
import Derived.Lib.Strings
import Derived.Lib.ItoaNum
import Derived.Lib.SmallJoins
import Derived.Laws.BytesString
import Derived.Laws.IdiomStrings
import Derived.Deep.RegionWith
import Derived.IntWalk
import Derived.Shelf.Strings.Builder1
import Derived.Shelf.Strings.Builder2
import Derived.Shelf.Strings.OnBuilder
import Derived.Shelf.Strings.Trim
import Derived.Shelf.Small.Utf8
import Derived.Shelf.Small.Strs
import Derived.Shelf.Small.Wraps
import Derived.Shelf.Strings.BuilderF
import Derived.Shelf.Strings.BuilderK
import Derived.Shelf.Strings.Builder2Cap
import Derived.Shelf.Strconv.Atoi
import Derived.Shelf.Strconv.Itoa0
import Derived.Shelf.Strconv.Itoa1
import Derived.Shelf.LaysM
import Derived.Shelf.Strconv.Itoa2
import Derived.Shelf.Strconv.Itoa3
import Derived.Shelf.Strconv.AtoiErrFast
import Derived.Shelf.Strconv.ParseIntEmpty
import Derived.Shelf.Strconv.AtoiFail
import Derived.Shelf.Strconv.Clone
import Derived.Shelf.Strconv.SyntaxError
import Derived.Shelf.LaysC
import Derived.Shelf.Strconv.ToError
import Derived.Shelf.Strconv.AtoiErr
import Derived.Shelf.Strconv.Lower
import Derived.Shelf.Strconv.ParseUint10
import Derived.Shelf.Strconv.ParseUint10Empty
import Derived.Shelf.Strconv.ParseUint10Any
import Derived.Shelf.Strconv.ParseInt10
import Derived.Shelf.Strconv.AtoiLong
import Derived.Shelf.Strconv.AtoiInnerAll
import Derived.Shelf.Strconv.RangeError
import Derived.Shelf.Strconv.ToErrorRange
import Derived.Shelf.Strconv.AtoiAll
import Derived.Shelf.Strconv.ErrVarAll
import Derived.Shelf.Strconv.ParseUintEmpty
import Derived.Shelf.Strconv.ParseUint10b64
import Derived.Shelf.Strconv.ParseUint10b32
import Derived.Shelf.Strconv.ParseUint10b16
import Derived.Shelf.Strconv.ParseUint10b8
import Derived.Shelf.Strconv.ParseUint10At
import Derived.Shelf.Strconv.ParseInt10At64
import Derived.Shelf.Strconv.ParseInt10At32
import Derived.Shelf.Strconv.ParseInt10At16
import Derived.Shelf.Strconv.ParseInt10At8
import Derived.Shelf.Strconv.ParseInt10All
import Derived.Shelf.Strings.Search1
import Derived.Shelf.Strings.Search2
import Derived.Shelf.Strings.Search3
import Derived.Shelf.Strings.Cut
import Derived.Shelf.Strings.Count
import Derived.Shelf.Strings.Shaped
import Derived.Shelf.Strings.Prefix
import Derived.Shelf.Strings.Split
import Derived.Shelf.Strings.SplitShaped
import Derived.Shelf.Unicode.Decode
import Derived.Shelf.Strings.Runes
import Derived.Shelf.Strings.RuneCount
import Derived.Shelf.Strings.AsciiSet
import Derived.Shelf.Strings.Explode
import Derived.Shelf.Unicode.DecodeSlow
import Derived.Shelf.Strings.BuilderCap
import Derived.Ground.Names2Prog
import Derived.Shelf.Slices.Clone
import Derived.Test.YtcfbkickiijjkaaGreatDoorProg
import Derived.WalkSmall
import Derived.Lib.ItoaMem
import Derived.Lib.Join
import Derived.Lib.LaidTab
import Derived.Stop.LaidErr
import Derived.Sort.Grow
import Derived.Laws.BitsAllLaws
import Derived.Laws.BitsLemmas
namespace Go.Proofs.YtcfbkickiijjkaaGreatDoor
open Go.RowKit Go.WideShapes Go.ChangeShapes
set_option linter.all false
theorem ret_int {k : IntKind} {a b : Int} (h : a = b) : Ending.returned (.int k a) = .returned (.int k b) := by rw [h]
theorem ret_bool {a b : Bool} (h : a = b) : Ending.returned (.bool a) = .returned (.bool b) := by rw [h]
theorem ret_val {a b : Value} (h : a = b) : Ending.returned a = .returned b := by rw [h]
theorem bl_alloc {w x : World} (h : Below w.heap.size w x) (o : Obj) : Below w.heap.size w (x.alloc o) := h.alloc h.size o
theorem bl_trans {w x y : World} (h : Below w.heap.size w x) (k : Below x.heap.size x y) : Below w.heap.size w y := h.trans (k.mono h.size)
theorem bl_drewN {B : Nat} {a w : World} (h : Below B a w) (n : Nat) : Below B a (w.drewN n) := ⟨h.os, h.tape, h.output, h.size, h.block⟩
theorem bx {B : Nat} {W w1 : World} (b : Nat) (hb : Below B W w1) (h : b < B) : (∀ o, w1.cell? ⟨b, o, none⟩ = W.cell? ⟨b, o, none⟩) ∧ (∀ o, w1.frozen? ⟨b, o, none⟩ = W.frozen? ⟨b, o, none⟩) :=
  ⟨fun o => hb.cell (p := ⟨b, o, none⟩) h, fun o => hb.frozen (p := ⟨b, o, none⟩) h⟩
def szR (left : Int) (n : Nat) : Int := if (n : Int) ≤ left then left - n else -1
def inB (n lo hi : Int) : Bool := decide (lo ≤ n ∧ n ≤ hi)
theorem inB_t {n lo hi : Int} (h : lo ≤ n ∧ n ≤ hi) : inB n lo hi = true := by unfold inB; exact decide_eq_true h
theorem inB_f {n lo hi : Int} (h : ¬ (lo ≤ n ∧ n ≤ hi)) : inB n lo hi = false := by unfold inB; exact decide_eq_false h
noncomputable def propB (p : Prop) : Bool := @decide p (Classical.propDecidable p)
theorem propB_t {p : Prop} (h : p) : propB p = true := by unfold propB; exact @decide_eq_true p (Classical.propDecidable p) h
theorem propB_f {p : Prop} (h : ¬ p) : propB p = false := by unfold propB; exact @decide_eq_false p (Classical.propDecidable p) h
theorem propB_iff {p : Prop} : propB p = true ↔ p := by unfold propB; exact @decide_eq_true_iff p (Classical.propDecidable p)
theorem propB_congr {p q : Prop} (h : p ↔ q) : propB p = propB q := by rw [propext h]
section
variable {H : Type} {enc : TypeId × Value → H} {P : Program}
theorem trodAll_stays (hl : laidOutB P = true) {W W' : World} {sp' : Nat → Bool} :
    ∀ (ts : List TypeId) (vs : List Value) (ds : List (DataW H)) (ps : List MemPlace), (∀ t ∈ ts, P.readableRec t = true ∧ t < P.types.size) →
      DataW.TrodAll enc P W 0 (fun _ => true) true ts vs ds ps → (∀ p ∈ ps, W.sameAt W' p) → (∀ p ∈ ps, sp' p.block = true) → DataW.TrodAll enc P W' 0 sp' true ts vs ds ps
  | [], [], [], _, _, h, _, _ => h
  | t :: ts, v :: vs, d :: ds, ps, hr, h, h1, h2 => by
    obtain ⟨p, q, ha, hb, rfl⟩ := h
    exact ⟨p, q, WideElems.Trod_stays hl (hr t (by simp)).1 (hr t (by simp)).2 ha (fun x hx => h1 x (by simp [hx])) (fun x hx => h2 x (by simp [hx])),
      trodAll_stays hl ts vs ds q (fun t' ht' => hr t' (by simp [ht'])) hb (fun x hx => h1 x (by simp [hx])) (fun x hx => h2 x (by simp [hx])), rfl⟩
  | [], [], _ :: _, _, _, h, _, _ => h.elim
  | [], _ :: _, _, _, _, h, _, _ => h.elim
  | _ :: _, [], _, _, _, h, _, _ => h.elim
  | _ :: _, _ :: _, [], _, _, h, _, _ => h.elim

theorem post_law {f : Func} {s : ChangeSpec} {apart fresh handsOn again : Bool} {W W' : World} {args : Array Value} {ds gs : List (DataW H)} {before : List MemPlace} {tb : TypeId}
  (hl : laidOutB P = true) (hr0 : (f.params.toList.all fun t => P.readableRec t && decide (t < P.types.size)) = true) (hvars : s.vars = []) (hrt : f.resultTypes = #[tb]) (htb : P.underlying tb = some .bool)
  (hsp : s.fn H (ds ++ gs) = { results := [.lit (.bool true)], args := ds })
  (hW : DataW.Whole enc P f.params.toList s.vars apart W args.toList ds gs before) (hb : Below W.heap.size W W') :
  s.post enc P f apart fresh handsOn again W args (.bool true) W' := by
 have hr : ∀ t ∈ f.params.toList, P.readableRec t = true ∧ t < P.types.size := fun t ht => by
  have := List.all_eq_true.1 hr0 t ht
  simpa using this
 have hlt : ∀ p ∈ before, p.block < W.heap.size := fun p hp => hW.lt p hp
 have hold : ∀ p ∈ before, (fun b => decide (b < W.heap.size)) p.block = true := fun p hp => by simpa using hlt p hp
 obtain ⟨p, q, hA, hV, hps, hz, hn⟩ := id hW
 rw [hvars] at hV
 obtain ⟨rfl, rfl⟩ := trodVars_none hV
 have hps' : before = p := by simpa using hps
 subst hps'
 have hargs : ∀ sp : Nat → Bool, (∀ x ∈ before, sp x.block = true) → DataW.TrodAll enc P W' 0 sp true f.params.toList args.toList ds before :=
  fun sp hs => trodAll_stays hl _ _ _ _ hr hA (fun x hx => hb.same (hlt x hx)) hs
 have hres : ∀ (b : Nat) (sp : Nat → Bool) (hd : Bool), DataW.TrodAll enc P W' b sp hd f.resultTypes.toList ((Value.bool true).resultList f.resultTypes.size) [.lit (.bool true)] [] := by
  intro b sp hd
  rw [hrt]
  exact trodAll_cons_mk (shut_bool htb _) trodAll_mk0
 have hv0 : ∀ sp : Nat → Bool, DataW.TrodVars enc P W' sp s.vars [] [] := fun sp => by rw [hvars]; rfl
 refine ⟨ds, [], before, [], before, [], hW, by rw [hsp]; exact hres _ _ _, by rw [hsp]; exact hargs _ hold, by rw [hsp]; exact hv0 _, World.keptBut_mono (fun x hx => ⟨hx, ?_⟩) (hb.frame (· ∈ before)), fun _ => ?_⟩
 ·
  exact Or.inr (by simpa using hx)
 ·
  refine ⟨?_, _, _, ([] ++ before) ++ [], ⟨[] ++ before, [], trodAll_append (hargs _ (fun _ _ => rfl)) (hres _ _ _), hv0 _, rfl, ?_, ?_⟩, ?_⟩
  ·
   exact ok_one hrt rfl (okWide_bool_mk htb _)
  ·
   intro b off hp
   have hin : MemPlace.cell b off ∈ before := by simpa using hp
   rw [hb.frozen (hlt _ hin)]
   exact hz b off (by simpa using hin)
  ·
   intro ha
   simpa using hn ha
  ·
   intro x hx _
   simpa using hx
end
end Go.Proofs.YtcfbkickiijjkaaGreatDoor
namespace Go.Proofs.YtcfbkickiijjkaaGreatDoor
open Go.RowKit
set_option linter.all false
theorem cells2 {w : World} {b : Nat} {v0 v1 : Value} {t : TypeId} (H : Hid (w.heap[b]? = some (.cells #[v0, v1] t (0, 0)))) : w.cell? ⟨b, 0, none⟩ = some v0 ∧ w.cell? ⟨b, 1, none⟩ = some v1 ∧ ∀ i, w.frozen? ⟨b, i, none⟩ = false :=
  ⟨cell_of_row _ _ 0 _ _ (0, 0) H.out, cell_of_row _ _ 1 _ _ (0, 0) H.out, fun i => frozen_of_row _ _ i _ _ H.out⟩
theorem cells3 {w : World} {b : Nat} {v0 v1 v2 : Value} {t : TypeId} (H : Hid (w.heap[b]? = some (.cells #[v0, v1, v2] t (0, 0)))) : w.cell? ⟨b, 0, none⟩ = some v0 ∧ w.cell? ⟨b, 1, none⟩ = some v1 ∧ w.cell? ⟨b, 2, none⟩ = some v2 ∧ ∀ i, w.frozen? ⟨b, i, none⟩ = false :=
  ⟨cell_of_row _ _ 0 _ _ (0, 0) H.out, cell_of_row _ _ 1 _ _ (0, 0) H.out, cell_of_row _ _ 2 _ _ (0, 0) H.out, fun i => frozen_of_row _ _ i _ _ H.out⟩
theorem cells5 {w : World} {b : Nat} {v0 v1 v2 v3 v4 : Value} {t : TypeId} (H : Hid (w.heap[b]? = some (.cells #[v0, v1, v2, v3, v4] t (0, 0)))) : w.cell? ⟨b, 0, none⟩ = some v0 ∧ w.cell? ⟨b, 1, none⟩ = some v1 ∧ w.cell? ⟨b, 2, none⟩ = some v2 ∧ w.cell? ⟨b, 3, none⟩ = some v3 ∧ w.cell? ⟨b, 4, none⟩ = some v4 ∧ ∀ i, w.frozen? ⟨b, i, none⟩ = false :=
  ⟨cell_of_row _ _ 0 _ _ (0, 0) H.out, cell_of_row _ _ 1 _ _ (0, 0) H.out, cell_of_row _ _ 2 _ _ (0, 0) H.out, cell_of_row _ _ 3 _ _ (0, 0) H.out, cell_of_row _ _ 4 _ _ (0, 0) H.out, fun i => frozen_of_row _ _ i _ _ H.out⟩
theorem cells8 {w : World} {b : Nat} {v0 v1 v2 v3 v4 v5 v6 v7 : Value} {t : TypeId} (H : Hid (w.heap[b]? = some (.cells #[v0, v1, v2, v3, v4, v5, v6, v7] t (0, 0)))) : w.cell? ⟨b, 0, none⟩ = some v0 ∧ w.cell? ⟨b, 1, none⟩ = some v1 ∧ w.cell? ⟨b, 2, none⟩ = some v2 ∧ w.cell? ⟨b, 3, none⟩ = some v3 ∧ w.cell? ⟨b, 4, none⟩ = some v4 ∧ w.cell? ⟨b, 5, none⟩ = some v5 ∧ w.cell? ⟨b, 6, none⟩ = some v6 ∧ w.cell? ⟨b, 7, none⟩ = some v7 ∧ ∀ i, w.frozen? ⟨b, i, none⟩ = false :=
  ⟨cell_of_row _ _ 0 _ _ (0, 0) H.out, cell_of_row _ _ 1 _ _ (0, 0) H.out, cell_of_row _ _ 2 _ _ (0, 0) H.out, cell_of_row _ _ 3 _ _ (0, 0) H.out, cell_of_row _ _ 4 _ _ (0, 0) H.out, cell_of_row _ _ 5 _ _ (0, 0) H.out, cell_of_row _ _ 6 _ _ (0, 0) H.out, cell_of_row _ _ 7 _ _ (0, 0) H.out, fun i => frozen_of_row _ _ i _ _ H.out⟩
theorem cells11 {w : World} {b : Nat} {v0 v1 v2 v3 v4 v5 v6 v7 v8 v9 v10 : Value} {t : TypeId} (H : Hid (w.heap[b]? = some (.cells #[v0, v1, v2, v3, v4, v5, v6, v7, v8, v9, v10] t (0, 0)))) : w.cell? ⟨b, 0, none⟩ = some v0 ∧ w.cell? ⟨b, 1, none⟩ = some v1 ∧ w.cell? ⟨b, 2, none⟩ = some v2 ∧ w.cell? ⟨b, 3, none⟩ = some v3 ∧ w.cell? ⟨b, 4, none⟩ = some v4 ∧ w.cell? ⟨b, 5, none⟩ = some v5 ∧ w.cell? ⟨b, 6, none⟩ = some v6 ∧ w.cell? ⟨b, 7, none⟩ = some v7 ∧ w.cell? ⟨b, 8, none⟩ = some v8 ∧ w.cell? ⟨b, 9, none⟩ = some v9 ∧ w.cell? ⟨b, 10, none⟩ = some v10 ∧ ∀ i, w.frozen? ⟨b, i, none⟩ = false :=
  ⟨cell_of_row _ _ 0 _ _ (0, 0) H.out, cell_of_row _ _ 1 _ _ (0, 0) H.out, cell_of_row _ _ 2 _ _ (0, 0) H.out, cell_of_row _ _ 3 _ _ (0, 0) H.out, cell_of_row _ _ 4 _ _ (0, 0) H.out, cell_of_row _ _ 5 _ _ (0, 0) H.out, cell_of_row _ _ 6 _ _ (0, 0) H.out, cell_of_row _ _ 7 _ _ (0, 0) H.out, cell_of_row _ _ 8 _ _ (0, 0) H.out, cell_of_row _ _ 9 _ _ (0, 0) H.out, cell_of_row _ _ 10 _ _ (0, 0) H.out, fun i => frozen_of_row _ _ i _ _ H.out⟩
theorem pu : (∀ (l : List Value) (i : Nat) (v : Value), l.toArray.setIfInBounds i v = (l.set i v).toArray) ∧ (∀ (x : Value) (l : List Value) (v : Value), (x :: l).set 0 v = v :: l) ∧ (∀ (x : Value) (l : List Value) (n : Nat) (v : Value), (x :: l).set (n + 1) v = x :: l.set n v) ∧ ∀ (a : Act) (d : Nat) (v : Value), a.put (some d) v = { a with tmps := a.tmps.setIfInBounds d v } :=
  ⟨fun l i v => List.setIfInBounds_toArray l i v, fun _ _ _ => rfl, fun _ _ _ _ => rfl, fun _ _ _ => rfl⟩
theorem bk {w w' : World} {b B : Nat} {o : Option Obj} (H : Hid (w.heap[b]? = o)) (hb : Below B w w') (h : b < B := by omega) : Hid (w'.heap[b]? = o) := Lib.hid ((hb.block b h).trans H.out)
theorem tk {P : Program} {md : Region.Mode} {ops : Array Oper} {Q : Exit → Act → World → Prop} {S : World → Prop} {fuel : Nat} {listed : Array Bool} {a : Act} {w : World} (i d : Nat) {oi : Oper} {v : Value}
    (hi : ops.toList[i]? = some oi) (hd : oi.dst = some d)
    (h : wpAnyH P md ops Q S fuel (listed.setIfInBounds i true) (a.put (some d) v) w)
    (hy : ∀ w, S w → (execOp a.eval oi).run P w = .ok (.value v) w := by intro w hSw; (try dsimp only at hSw); go_simp <;> with_reducible rfl)
    (hs : Region.noSelect ops = true := by kernel_rfl) (hf : Region.free md ops listed i = true := by kernel_rfl) (hr : (Region.ready md ops listed).contains i = true := by kernel_rfl)
    (hQ : ∀ c a w, Q (.panic c) (a.put (some d) v) w → Q (.panic c) a w := by exact fun _ _ _ h => h) (hw : Region.wanted oi (yielded ops a.tmps) = true := by rfl) (hS : S w := by assumption) : wpAnyH P md ops Q S (fuel + 1) listed a w := by
  rw [← hd] at hQ h
  exact wpAnyH_take (by rw [← Array.getElem?_toList]; exact hi) hs hf hr hQ (Or.inl ⟨hw, hy⟩) hS h
theorem tn {P : Program} {md : Region.Mode} {ops : Array Oper} {Q : Exit → Act → World → Prop} {S : World → Prop} {fuel : Nat} {listed : Array Bool} {a : Act} {w : World} (i d : Nat) {oi : Oper}
    (hi : ops.toList[i]? = some oi) (hd : oi.dst = some d)
    (h : wpAnyH P md ops Q S fuel (listed.setIfInBounds i true) (a.put (some d) undef) w)
    (hs : Region.noSelect ops = true := by kernel_rfl) (hf : Region.free md ops listed i = true := by kernel_rfl) (hr : (Region.ready md ops listed).contains i = true := by kernel_rfl)
    (hQ : ∀ c a w, Q (.panic c) (a.put (some d) undef) w → Q (.panic c) a w := by exact fun _ _ _ h => h) (hw : Region.wanted oi (yielded ops a.tmps) = false := by rfl) (hS : S w := by assumption) : wpAnyH P md ops Q S (fuel + 1) listed a w := by
  rw [← hd] at hQ h
  exact wpAnyH_take (by rw [← Array.getElem?_toList]; exact hi) hs hf hr hQ (Or.inr ⟨hw, rfl⟩) hS h
end Go.Proofs.YtcfbkickiijjkaaGreatDoor
namespace Go.Proofs.YtcfbkickiijjkaaGreatDoor
open Go.RowKit Go.WideShapes Go.ChangeShapes
set_option linter.all false
section
variable {H : Type} {enc : TypeId × Value → H}

theorem trodAll_len {P : Program} {W : World} {b : Nat} {sp : Nat → Bool} {hd : Bool} : ∀ (ts : List TypeId) (vs : List Value) (ds : List (DataW H)) (ps : List MemPlace),
    DataW.TrodAll enc P W b sp hd ts vs ds ps → ds.length = ts.length
  | [], [], [], _, _ => rfl
  | _ :: ts, _ :: vs, _ :: ds, _, h => by
    obtain ⟨_, q, _, hb, _⟩ := h
    simpa using trodAll_len ts vs ds q hb
  | [], [], _ :: _, _, h => h.elim
  | [], _ :: _, _, _, h => h.elim
  | _ :: _, [], _, _, h => h.elim
  | _ :: _, _ :: _, [], _, h => h.elim

theorem law_lifted {C : Checked} {os : Os} {f : FuncId} {fn : Func} {s : ChangeSpec} {apart fresh handsOn again : Bool} {tb : TypeId} {X : World → Array Value → Prop}
  (hX : ∀ (w w' : World) (args : Array Value), w.heap = w'.heap → X w args → X w' args)
  (own : ownKnob C.prog.godebug = none) (started : os.Started) (noInit : C.prog.inits.idxOf? f = none) (hfn : C.prog.funcs[f]? = some fn)
  (hl : laidOutB C.prog = true) (hr0 : (fn.params.toList.all fun t => C.prog.readableRec t && decide (t < C.prog.types.size)) = true) (hvars : s.vars = []) (hrt : fn.resultTypes = #[tb]) (htb : C.prog.underlying tb = some .bool)
  (hspec : ∀ ds : List (DataW H), ds.length = fn.params.toList.length → s.fn H (ds ++ []) = { results := [.lit (.bool true)], args := ds })
  (witness : ∃ (w : World) (tape : Tape) (i : Input), w.os = os ∧ (w.forCall tape i).Shaped C.prog ∧ i.vars = [] ∧ Input.okWide C.prog (w.forCall tape i) .any w.heap.size f i ∧
   ((s.pre enc C.prog fn [] apart (w.forCall tape i).memory i.args ∧ X (w.forCall tape i).memory i.args) ∧ sizedMet enc C.prog fn (OpenSpec.ofChange s) apart (w.forCall tape i).memory i.args) ∧ Assume.holds {} C.prog (lone (Frame.enter C.prog f i.args .normal) [] (w.forCall tape i)))
  (contract : ∀ (W : World) (base : Nat) (args : Array Value) (ds : List (DataW H)) (p : List MemPlace),
   (∀ (j : Nat) t v, fn.params[j]? = some t → args[j]? = some v → Value.okWide C.prog W .any base t v) →
   DataW.TrodAll enc C.prog W 0 (fun _ => true) true fn.params.toList args.toList ds p →
   (∀ x ∈ p, x.block < W.heap.size) → X W args → W.ShapedOpen C.prog →
   Calls C.prog f args W fun e W' => e = .returned (.bool true) ∧ Below W.heap.size W W') :
  ReturnsInHanded {} C os f .any (fun w args => (s.pre enc C.prog fn [] apart w args ∧ X w args) ∧ sizedMet enc C.prog fn (OpenSpec.ofChange s) apart w args) (s.post enc C.prog fn apart fresh handsOn again) := by
 refine returnsInHanded_of_calls own started noInit witness ?_
 intro w tape i _ hsh _ hok hpre hholds
 obtain ⟨_, _, _, fn', hfn', _, _, _, _, hval⟩ := hok
 have e : fn' = fn := Option.some.inj (hfn'.symm.trans hfn)
 subst e
 obtain ⟨⟨⟨ds, gs, before, hw, hc⟩, hx⟩, hz⟩ := hpre
 have hw' := DataW.Whole.of_heap (w' := w.forCall tape i) (by rfl) hw
 obtain ⟨p, q, hA, hV, hps, hfz, hnd⟩ := id hw'
 have hV' := hV
 rw [hvars] at hV'
 obtain ⟨rfl, rfl⟩ := trodVars_none hV'
 have hlt : ∀ x ∈ p, x.block < (w.forCall tape i).heap.size := fun x hx => hw'.lt x (by rw [hps]; simp [hx])
 refine (contract (w.forCall tape i) w.heap.size i.args ds p hval hA hlt (hX _ _ _ (by rfl) hx) hsh).mono fun e W' ⟨he, hg⟩ => ?_
 subst he
 exact ChangeSpec.post_blind (post_law hl hr0 hvars hrt htb (hspec ds (trodAll_len _ _ _ _ hA)) hw' hg)
end
end Go.Proofs.YtcfbkickiijjkaaGreatDoor
namespace Go.Proofs.YtcfbkickiijjkaaGreatDoor
open Go.RowKit
set_option linter.all false
abbrev disk (a b c : ByteArray) : Value := .agg #[.string a, .string b, .string c]
theorem to_disk (a b c : ByteArray) (w : World) :
    Calls Tryz.prog 9 #[disk a b c] w fun e w' => e = .returned (disk a b c) ∧ Below w.heap.size w w' := by
  go_enter Tryz.func9, Tryz.ntmps9
  go_wp2
  refine bodyPost_ret (v := disk a b c) (by simp [results, Tryz.results9, go_sem]) rfl ⟨rfl, ?_⟩
  repeat (first | exact Below.refl _ _ | refine Below.drew ?_ | refine bl_alloc ?_ _ | refine Below.setCell ?_ (by simp <;> omega) _)
theorem sz_disk (a b c : ByteArray) (w : World) (left : Int) (hl : 0 ≤ left) (hl' : left ≤ 1048576) (ha : a.size ≤ maxLen) (hb : b.size ≤ maxLen) (hc : c.size ≤ maxLen) :
    Calls Tryz.prog 7 #[disk a b c, .int .i64 left] w fun e w' => e = .returned (.int .i64 (szR left (a.size + b.size + c.size))) ∧ Below w.heap.size w w' := by
  unfold maxLen at *
  go_enter Tryz.func7, Tryz.ntmps7
  go_wp2
  all_goals
    go_ret
    exact ⟨ret_int (by unfold szR; split <;> omega), (by repeat (first | exact Below.refl _ _ | refine Below.drew ?_ | refine bl_alloc ?_ _ | refine Below.setCell ?_ (by simp <;> omega) _))⟩
theorem eq_disk (a b c : ByteArray) (w : World) :
    Calls Tryz.prog 11 #[disk a b c, disk a b c] w fun e w' => e = .returned (.bool true) ∧ Below w.heap.size w w' := by
  go_enter Tryz.func11, Tryz.ntmps11
  go_wp2
  go_ret
  exact ⟨rfl, (by repeat (first | exact Below.refl _ _ | refine Below.drew ?_ | refine bl_alloc ?_ _ | refine Below.setCell ?_ (by simp <;> omega) _))⟩
end Go.Proofs.YtcfbkickiijjkaaGreatDoor
namespace Go.Proofs.YtcfbkickiijjkaaGreatDoor
open Go.RowKit
set_option linter.all false

theorem block_add (a : Addr) (n : Nat) : (a.add n).block = a.block := by unfold Addr.add; split <;> rfl
def intV (x : Int) : Value := .int .i64 x
def I64 (x : Int) : Prop := -9223372036854775808 ≤ x ∧ x ≤ 9223372036854775807

def SlR (w : World) (B : Nat) (v : Value) (vs : List Value) : Prop :=
  ∃ A c, v = .slice A vs.length c ∧ vs.length ≤ c ∧ c ≤ maxLen ∧ (0 < vs.length → ∃ ad, A = some ad ∧ ad.block < B ∧ ∀ j u, vs[j]? = some u → w.cell? (ad.add j) = some u)
section
variable {w w' : World} {B B' : Nat} {v : Value} {vs : List Value}
theorem SlR.keep (h : SlR w B v vs) (hk : ∀ p : Addr, p.block < B → w'.cell? p = w.cell? p) : SlR w' B v vs := by
  obtain ⟨A, c, e, h1, h2, h3⟩ := h
  refine ⟨A, c, e, h1, h2, fun hn => ?_⟩
  obtain ⟨ad, e', hb, hc⟩ := h3 hn
  exact ⟨ad, e', hb, fun j u hu => (hk _ (by rw [block_add]; exact hb)).trans (hc j u hu)⟩
theorem SlR.below (h : SlR w B v vs) (hb : Below B w w') : SlR w' B v vs := h.keep fun _ hp => hb.cell hp
theorem SlR.more (h : SlR w B v vs) (hB : B ≤ B') : SlR w B' v vs := by
  obtain ⟨A, c, e, h1, h2, h3⟩ := h
  refine ⟨A, c, e, h1, h2, fun hn => ?_⟩
  obtain ⟨ad, e', hb, hc⟩ := h3 hn
  exact ⟨ad, e', by omega, hc⟩
end

def IntsR (w : World) (B : Nat) (v : Value) (xs : List Int) : Prop := SlR w B v (xs.map intV) ∧ ∀ x ∈ xs, I64 x
theorem IntsR.below {w w' : World} {B : Nat} {v : Value} {xs : List Int} (h : IntsR w B v xs) (hb : Below B w w') : IntsR w' B v xs := ⟨h.1.below hb, h.2⟩
theorem IntsR.more {w : World} {B B' : Nat} {v : Value} {xs : List Int} (h : IntsR w B v xs) (hB : B ≤ B') : IntsR w B' v xs := ⟨h.1.more hB, h.2⟩
theorem IntsR.open_ {w : World} {B : Nat} {v : Value} {xs : List Int} (h : IntsR w B v xs) :
    ∃ A c, v = .slice A xs.length c ∧ xs.length ≤ c ∧ c ≤ maxLen ∧ (0 < xs.length → ∃ ad, A = some ad ∧ ad.block < B ∧ ∀ j x, xs[j]? = some x → w.cell? (ad.add j) = some (.int .i64 x)) := by
  obtain ⟨A, c, e, h1, h2, h3⟩ := h.1
  rw [List.length_map] at e h1 h3
  refine ⟨A, c, e, h1, h2, fun hn => ?_⟩
  obtain ⟨ad, e', hb, hc⟩ := h3 hn
  exact ⟨ad, e', hb, fun j x hx => hc j _ (by rw [List.getElem?_map, hx]; rfl)⟩

def AllR (w : World) (B : Nat) : List Value → List (List Int) → Prop
  | [], [] => True
  | v :: vs, xs :: xss => IntsR w B v xs ∧ AllR w B vs xss
  | _, _ => False
theorem AllR.mono {w w' : World} {B B' : Nat} (h : ∀ v xs, IntsR w B v xs → IntsR w' B' v xs) : ∀ {vs : List Value} {xss : List (List Int)}, AllR w B vs xss → AllR w' B' vs xss
  | [], [], _ => trivial
  | _ :: _, _ :: _, ⟨a, b⟩ => ⟨h _ _ a, AllR.mono h b⟩
  | [], _ :: _, k => k.elim
  | _ :: _, [], k => k.elim
theorem AllR.len {w : World} {B : Nat} : ∀ {vs : List Value} {xss : List (List Int)}, AllR w B vs xss → vs.length = xss.length
  | [], [], _ => rfl
  | _ :: _, _ :: _, ⟨_, b⟩ => by simp [AllR.len b]
  | [], _ :: _, k => k.elim
  | _ :: _, [], k => k.elim
theorem AllR.at_ {w : World} {B : Nat} : ∀ {vs : List Value} {xss : List (List Int)} (_ : AllR w B vs xss) {k : Nat} {v : Value} {xs : List Int}, vs[k]? = some v → xss[k]? = some xs → IntsR w B v xs
  | _ :: _, _ :: _, ⟨a, _⟩, 0, _, _, h1, h2 => by
    simp only [List.getElem?_cons_zero, Option.some.injEq] at h1 h2
    subst h1 h2
    exact a
  | _ :: _, _ :: _, ⟨_, b⟩, _ + 1, _, _, h1, h2 => b.at_ (by simpa using h1) (by simpa using h2)
  | [], [], _, _, _, _, h1, _ => by simp at h1
  | [], _ :: _, k, _, _, _, _, _ => k.elim
  | _ :: _, [], k, _, _, _, _, _ => k.elim

def RowsR (w : World) (B : Nat) (v : Value) (xss : List (List Int)) : Prop := ∃ vs, SlR w B v vs ∧ AllR w B vs xss
section
variable {w w' : World} {B B' : Nat} {v : Value} {xss : List (List Int)}
theorem RowsR.below (h : RowsR w B v xss) (hb : Below B w w') : RowsR w' B v xss := by
  obtain ⟨vs, h1, h2⟩ := h
  exact ⟨vs, h1.below hb, h2.mono fun _ _ k => k.below hb⟩
theorem RowsR.more (h : RowsR w B v xss) (hB : B ≤ B') : RowsR w B' v xss := by
  obtain ⟨vs, h1, h2⟩ := h
  exact ⟨vs, h1.more hB, h2.mono fun _ _ k => k.more hB⟩
theorem RowsR.open_ (h : RowsR w B v xss) :
    ∃ A c, v = .slice A xss.length c ∧ xss.length ≤ c ∧ c ≤ maxLen ∧ (0 < xss.length → ∃ ad, A = some ad ∧ ad.block < B ∧ ∀ j xs, xss[j]? = some xs → ∃ u, w.cell? (ad.add j) = some u ∧ IntsR w B u xs) := by
  obtain ⟨vs, ⟨A, c, e, h1, h2, h3⟩, hall⟩ := h
  have hl := hall.len
  rw [hl] at e h1 h3
  refine ⟨A, c, e, h1, h2, fun hn => ?_⟩
  obtain ⟨ad, e', hb, hc⟩ := h3 hn
  refine ⟨ad, e', hb, fun j xs hx => ?_⟩
  have hj : j < vs.length := by
    have := (List.getElem?_eq_some_iff.1 hx).1
    omega
  exact ⟨vs[j], hc j _ (List.getElem?_eq_getElem hj), hall.at_ (List.getElem?_eq_getElem hj) hx⟩
end

/-! ### What the call itself has made -/
def OwnRow (w : World) (e : TypeId) (v : Value) (vs : List Value) (bs : List Nat) : Prop :=
  (vs = [] ∧ bs = [] ∧ ∃ A c, v = .slice A 0 c ∧ c ≤ maxLen) ∨
  ∃ g c cur, v = .slice (some ⟨g, 0, none⟩) vs.length c ∧ vs.length ≤ c ∧ c ≤ maxLen ∧ w.heap[g]? = some (.cells cur e (0, 0)) ∧ cur.size = c ∧ cur.toList.take vs.length = vs ∧ bs = [g]
section
variable {w w' : World} {e : TypeId} {v : Value} {vs : List Value} {bs : List Nat}
theorem OwnRow.keep (h : OwnRow w e v vs bs) (hk : ∀ b ∈ bs, w'.heap[b]? = w.heap[b]?) : OwnRow w' e v vs bs := by
  rcases h with h | ⟨g, c, cur, h1, h2, h3, h4, h5, h6, h7⟩
  · exact .inl h
  · exact .inr ⟨g, c, cur, h1, h2, h3, (hk g (by rw [h7]; simp)).trans h4, h5, h6, h7⟩
theorem OwnRow.reads (h : OwnRow w e v vs bs) {B : Nat} (hB : ∀ b ∈ bs, b < B) : SlR w B v vs := by
  rcases h with ⟨rfl, rfl, A, c, rfl, hc⟩ | ⟨g, c, cur, h1, h2, h3, h4, h5, h6, h7⟩
  · exact ⟨A, c, rfl, Nat.zero_le _, hc, fun hn => absurd hn (by simp)⟩
  · refine ⟨some ⟨g, 0, none⟩, c, h1, h2, h3, fun hn => ⟨_, rfl, hB g (by rw [h7]; simp), fun j u hu => ?_⟩⟩
    have hj : j < vs.length := (List.getElem?_eq_some_iff.1 hu).1
    have e1 : (⟨g, 0, none⟩ : Addr).add j = ⟨g, j, none⟩ := by unfold Addr.add; split <;> simp_all
    rw [e1, cell_of_row w g j cur e (0, 0) h4, ← Array.getElem?_toList]
    have : cur.toList[j]? = (cur.toList.take vs.length)[j]? := by rw [List.getElem?_take, if_pos hj]
    rw [this, h6, hu]
theorem OwnRow.lt (h : OwnRow w e v vs bs) : ∀ b ∈ bs, b < w.heap.size := by
  rcases h with ⟨_, rfl, _⟩ | ⟨g, c, cur, _, _, _, h4, _, _, h7⟩
  · intro b hb; cases hb
  · intro b hb
    rw [h7] at hb
    obtain rfl : b = g := by simpa using hb
    rcases Nat.lt_or_ge b w.heap.size with h | h
    · exact h
    · rw [Array.getElem?_eq_none h] at h4; cases h4
theorem OwnRow.of_owns {base n : Nat} (h : w.ownsRow base e 1 v n vs) : ∃ bs, OwnRow w e v vs bs ∧ (∀ b ∈ bs, base ≤ b) ∧ bs.Nodup := by
  have hl : vs.length = n := by have := h.1; omega
  rcases h.2 with ⟨rfl, hn⟩ | ⟨g, cap, cur, h1, h2, h3, h4, h5, h6, h7⟩
  · have : vs = [] := List.eq_nil_of_length_eq_zero (by omega)
    exact ⟨[], .inl ⟨this, rfl, none, 0, rfl, Nat.zero_le _⟩, (fun _ hb => by cases hb), List.nodup_nil⟩
  · refine ⟨[g], .inr ⟨g, cap, cur, by rw [hl]; exact h1, by omega, h5, h3, by omega, ?_, rfl⟩, fun b hb => by simp at hb; omega, by simp⟩
    rw [hl]
    simpa using h7
end
theorem OwnRow.isSlice {w : World} {e : TypeId} {v : Value} {vs : List Value} {bs : List Nat} (h : OwnRow w e v vs bs) : ∃ A n c, v = .slice A n c := by
  rcases h with ⟨_, _, A, c, rfl, _⟩ | ⟨g, c, cur, rfl, _⟩
  · exact ⟨_, _, _, rfl⟩
  · exact ⟨_, _, _, rfl⟩
def OwnInts (w : World) (e : TypeId) (v : Value) (xs : List Int) (bs : List Nat) : Prop := OwnRow w e v (xs.map intV) bs ∧ ∀ x ∈ xs, I64 x
theorem OwnInts.keep {w w' : World} {e : TypeId} {v : Value} {xs : List Int} {bs : List Nat} (h : OwnInts w e v xs bs) (hk : ∀ b ∈ bs, w'.heap[b]? = w.heap[b]?) : OwnInts w' e v xs bs := ⟨h.1.keep hk, h.2⟩
theorem OwnInts.reads {w : World} {e : TypeId} {v : Value} {xs : List Int} {bs : List Nat} (h : OwnInts w e v xs bs) {B : Nat} (hB : ∀ b ∈ bs, b < B) : IntsR w B v xs := ⟨h.1.reads hB, h.2⟩
def OwnAll (w : World) (e : TypeId) : List Value → List (List Int) → List Nat → Prop
  | [], [], bs => bs = []
  | v :: vs, xs :: xss, bs => ∃ b1 b2, OwnInts w e v xs b1 ∧ OwnAll w e vs xss b2 ∧ bs = b1 ++ b2
  | _, _, _ => False
theorem OwnAll.keep {w w' : World} {e : TypeId} : ∀ {vs : List Value} {xss : List (List Int)} {bs : List Nat}, OwnAll w e vs xss bs → (∀ b ∈ bs, w'.heap[b]? = w.heap[b]?) → OwnAll w' e vs xss bs
  | [], [], _, h, _ => h
  | _ :: _, _ :: _, _, ⟨b1, b2, h1, h2, rfl⟩, hk => ⟨b1, b2, h1.keep fun b hb => hk b (by simp [hb]), h2.keep fun b hb => hk b (by simp [hb]), rfl⟩
  | [], _ :: _, _, h, _ => h.elim
  | _ :: _, [], _, h, _ => h.elim
theorem OwnAll.snoc {w : World} {e : TypeId} {v : Value} {xs : List Int} {b : List Nat} (hv : OwnInts w e v xs b) : ∀ {vs : List Value} {xss : List (List Int)} {bs : List Nat}, OwnAll w e vs xss bs → OwnAll w e (vs ++ [v]) (xss ++ [xs]) (bs ++ b)
  | [], [], _, h => by
    have : _ = [] := h
    subst this
    exact ⟨b, [], hv, rfl, by simp⟩
  | _ :: _, _ :: _, _, ⟨b1, b2, h1, h2, rfl⟩ => ⟨b1, b2 ++ b, h1, h2.snoc hv, by simp⟩
  | [], _ :: _, _, h => h.elim
  | _ :: _, [], _, h => h.elim
theorem OwnAll.reads {w : World} {e : TypeId} {B : Nat} : ∀ {vs : List Value} {xss : List (List Int)} {bs : List Nat}, OwnAll w e vs xss bs → (∀ b ∈ bs, b < B) → AllR w B vs xss
  | [], [], _, _, _ => trivial
  | _ :: _, _ :: _, _, ⟨b1, b2, h1, h2, rfl⟩, hB => ⟨h1.reads fun b hb => hB b (by simp [hb]), h2.reads fun b hb => hB b (by simp [hb])⟩
  | [], _ :: _, _, h, _ => h.elim
  | _ :: _, [], _, h, _ => h.elim
def OwnRows (w : World) (es ei : TypeId) (v : Value) (xss : List (List Int)) (bs : List Nat) : Prop := ∃ vs b0 b1, OwnRow w es v vs b0 ∧ OwnAll w ei vs xss b1 ∧ bs = b0 ++ b1
theorem OwnRows.keep {w w' : World} {es ei : TypeId} {v : Value} {xss : List (List Int)} {bs : List Nat} (h : OwnRows w es ei v xss bs) (hk : ∀ b ∈ bs, w'.heap[b]? = w.heap[b]?) : OwnRows w' es ei v xss bs := by
  obtain ⟨vs, b0, b1, h1, h2, rfl⟩ := h
  exact ⟨vs, b0, b1, h1.keep fun b hb => hk b (by simp [hb]), h2.keep fun b hb => hk b (by simp [hb]), rfl⟩
theorem OwnRows.isSlice {w : World} {es ei : TypeId} {v : Value} {xss : List (List Int)} {bs : List Nat} (h : OwnRows w es ei v xss bs) : ∃ A n c, v = .slice A n c := by
  obtain ⟨_, _, _, h1, _⟩ := h
  exact h1.isSlice
theorem OwnRows.reads {w : World} {es ei : TypeId} {v : Value} {xss : List (List Int)} {bs : List Nat} (h : OwnRows w es ei v xss bs) {B : Nat} (hB : ∀ b ∈ bs, b < B) : RowsR w B v xss := by
  obtain ⟨vs, b0, b1, h1, h2, rfl⟩ := h
  exact ⟨vs, h1.reads fun b hb => hB b (by simp [hb]), h2.reads fun b hb => hB b (by simp [hb])⟩

theorem heap_set_same {w : World} {g i : Nat} {cs : Array Value} {t : TypeId} {m : Nat × Nat} (h : w.heap[g]? = some (.cells cs t m)) (u : Value) : (w.setCell ⟨g, i, none⟩ u).heap[g]? = some (.cells (cs.setIfInBounds i u) t m) := by
  simp [World.setCell, Array.getElem?_modify, h]
theorem size_setCell (w : World) (p : Addr) (u : Value) : (w.setCell p u).heap.size = w.heap.size := by simp [World.setCell]
/-! ### Rows that are made and filled -/
def rowOf (done : List Value) (n : Nat) (z : Value) : Array Value := (done ++ List.replicate (n - done.length) z).toArray
theorem rowOf_nil (n : Nat) (z : Value) : rowOf [] n z = madeCells #[z] n := by
  apply Array.ext
  · simp [rowOf, madeCells]
  · intro i h1 h2
    simp [rowOf, madeCells, Nat.mod_one]
theorem rowOf_next {done : List Value} {n : Nat} {z : Value} (h : done.length < n) : (rowOf done n z)[done.length]? = some z := by
  unfold rowOf
  rw [List.getElem?_toArray, List.getElem?_append_right (Nat.le_refl _), Nat.sub_self, List.getElem?_replicate, if_pos (by omega)]
theorem rowOf_set {done : List Value} {n : Nat} {z : Value} (h : done.length < n) (x : Value) : (rowOf done n z).setIfInBounds done.length x = rowOf (done ++ [x]) n z := by
  unfold rowOf
  obtain ⟨m, hm⟩ : ∃ m, n - done.length = m + 1 := ⟨n - done.length - 1, by omega⟩
  rw [hm, show n - (done ++ [x]).length = m by simp; omega, List.replicate_succ, List.setIfInBounds_toArray]
  simp
theorem rowOf_full (done : List Value) (z : Value) : rowOf done done.length z = done.toArray := by simp [rowOf]
theorem run_make1 {P : Program} (t e : TypeId) (z : Value) (bytes : Nat) (ht : P.underlying t = some (.slice e)) (hinf : (P.info? e).map (fun i => (i.zero, i.size, i.bytes)) = some (some z, 1, bytes)) (hz : z.cells = #[z]) (n : Nat)
    (hb : bytes * n ≤ 281474976710656) (h63 : n ≤ 9223372036854775807) (w : World) :
    (Instr.makeSlice t (.int .i64 (n : Int)) (.int .i64 (n : Int))).run P w = .ok (.slice (some ⟨w.heap.size, 0, none⟩) n n) (w.alloc (.cells (rowOf [] n z) e)) := by
  obtain ⟨i, hi, hz0, hz1, hz2⟩ := info_parts hinf
  have hb' : (i.bytes : Int) * (n : Int) ≤ 281474976710656 := by
    rw [hz2]
    have h : ((bytes * n : Nat) : Int) ≤ 281474976710656 := by omega
    rwa [Int.natCast_mul] at h
  have hr := run_make (P := P) w t e i z ht hi hz0 .i64 .i64 n n (by omega) (by omega) hb' (by omega)
  simp only [Int.toNat_natCast] at hr
  rw [hr, rowOf_nil, hz, hz1, Nat.mul_one]
end Go.Proofs.YtcfbkickiijjkaaGreatDoor
namespace Go.Proofs.YtcfbkickiijjkaaGreatDoor
open Go.ChangeShapes Go.WideShapes Go.ChangeAt Go.RowKit
set_option linter.all false
theorem spec_l1In (n lo hi : Int) (w : World) :
    Calls Tryz.prog 25 #[.int .i64 n, .int .i64 lo, .int .i64 hi] w fun e w' => e = .returned (.bool (inB n lo hi)) ∧ w = w' := by
  by_cases h1 : lo ≤ n
  · by_cases h2 : n ≤ hi
    · go_enter Tryz.func25, Tryz.ntmps25
      go_wp2
      go_ret
      exact ⟨ret_bool (by first | rw [inB_t (by omega)] | rw [inB_f (by omega)]), rfl⟩
    · go_enter Tryz.func25, Tryz.ntmps25
      go_wp2
      go_ret
      exact ⟨ret_bool (by rw [inB_f (by omega)]), rfl⟩
  · go_enter Tryz.func25, Tryz.ntmps25
    go_wp2
    go_ret
    exact ⟨ret_bool (by rw [inB_f (by omega)]), rfl⟩
theorem impl_within (n lo hi : Int) (w : World) :
    Calls Tryz.prog 78 #[.int .i64 n, .int .i64 lo, .int .i64 hi] w fun e w' => e = .returned (.bool (inB n lo hi)) ∧ w = w' := by
  by_cases h1 : lo ≤ n
  · by_cases h2 : n ≤ hi
    · go_enter Tryz.func78, Tryz.ntmps78
      go_wp2
      go_ret
      exact ⟨ret_bool (by first | rw [inB_t (by omega)] | rw [inB_f (by omega)]), rfl⟩
    · go_enter Tryz.func78, Tryz.ntmps78
      go_wp2
      go_ret
      exact ⟨ret_bool (by first | rw [inB_t (by omega)] | rw [inB_f (by omega)]), rfl⟩
  · go_enter Tryz.func78, Tryz.ntmps78
    go_wp2
    go_ret
    exact ⟨ret_bool (by rw [inB_f (by omega)]), rfl⟩
end Go.Proofs.YtcfbkickiijjkaaGreatDoor
namespace Go.Proofs.YtcfbkickiijjkaaGreatDoor
open Go.RowKit
set_option linter.all false

theorem szR_le {left : Int} {n : Nat} (hl : 0 ≤ left) : szR left n ≤ left := by unfold szR; split <;> omega
theorem szR_add {left : Int} {m n : Nat} (h : (m : Int) ≤ left) : szR (left - m) n = szR left (m + n) := by unfold szR; split <;> split <;> omega
theorem szR_neg {left : Int} {m n : Nat} (h : szR left m < 0) (hl : 0 ≤ left) : szR left (m + n) = -1 := by
  unfold szR at *
  split at h
  · omega
  · rw [if_neg (by omega)]
theorem sz_IntS (A : Option Addr) (n c : Nat) (left : Int) (w : World) (hn : n ≤ maxLen) (hl : 0 ≤ left) (hl' : left ≤ 1048576) :
    Calls Tryz.prog 89 #[.slice A n c, .int .i64 left] w fun e w' => e = .returned (.int .i64 (szR left n)) ∧ w = w' := by
  unfold maxLen at hn
  go_enter Tryz.func89, Tryz.ntmps89
  go_wp2
  all_goals
    go_ret
    exact ⟨ret_int (by unfold szR; split <;> omega), rfl⟩

def lens : List (List Int) → Nat
  | [] => 0
  | xs :: r => xs.length + lens r
def szRows (xss : List (List Int)) : Nat := xss.length + lens xss
theorem lens_append : ∀ (a b : List (List Int)), lens (a ++ b) = lens a + lens b
  | [], b => by simp [lens]
  | x :: a, b => by simp [lens, lens_append a b]; omega
theorem lens_snoc (xss : List (List Int)) (k : Nat) (xs : List Int) (h : xss[k]? = some xs) : lens (xss.take (k + 1)) = lens (xss.take k) + xs.length := by
  obtain ⟨hk, rfl⟩ := List.getElem?_eq_some_iff.1 h
  rw [List.take_succ_eq_append_getElem hk, lens_append]
  rfl
theorem lens_split (xss : List (List Int)) (k : Nat) : lens xss = lens (xss.take k) + lens (xss.drop k) := by
  rw [← lens_append, List.take_append_drop]
theorem lens_all (xss : List (List Int)) (k : Nat) (h : xss.length ≤ k) : lens (xss.take k) = lens xss := by rw [List.take_of_length_le h]
def SzRel (xss : List (List Int)) (left : Int) (w : World) (l i : Value) (wr : World) : Prop :=
  w = wr ∧ ∃ (k q : Nat), k ≤ xss.length ∧ q = lens (xss.take k) ∧ i = .int .i64 k ∧ l = .int .i64 (left - xss.length - q) ∧ (q : Int) ≤ left - xss.length
theorem sz_IntSS (v : Value) (xss : List (List Int)) (left : Int) (w : World) (h : RowsR w w.heap.size v xss) (hl : 0 ≤ left) (hl' : left ≤ 1048576) :
  Calls Tryz.prog 88 #[v, .int .i64 left] w fun e w' => e = .returned (.int .i64 (szR left (szRows xss))) ∧ w = w' := by
 obtain ⟨A, c, rfl, h1, h2, h3⟩ := h.open_
 have hL : xss.length ≤ 9223372036854775807 := by unfold maxLen at h2; omega
 clear h2 h
 by_cases hs : (xss.length : Int) ≤ left
 ·
  go_enter Tryz.func88, Tryz.ntmps88
  go_wp2
  go_loopw [1, 5] (fun l i wr => SzRel xss left w l i wr) (fun _ i _ => xss.length - (intOf i).toNat)
  case atStart => exact ⟨rfl, 0, 0, Nat.zero_le _, rfl, rfl, by simp, by omega⟩
  case round =>
   obtain ⟨rfl, k, q, hk, hq, rfl, rfl, hle⟩ := hrel
   have HQ := Lib.hid hq; clear hq
   by_cases hlt : k < xss.length
   ·
    obtain ⟨xs, hxs⟩ : ∃ xs, xss[k]? = some xs := ⟨xss[k], List.getElem?_eq_getElem hlt⟩
    obtain ⟨ad, rfl, hb, hc⟩ := h3 (by omega)
    obtain ⟨u, hu, hr⟩ := hc k xs hxs
    obtain ⟨A', c', rfl, g1, g2, -⟩ := hr.open_
    have HS := Lib.hid (lens_snoc xss k xs hxs)
    have HT := Lib.hid (lens_split xss (k + 1))
    clear h3 hc hr hxs
    by_cases hx : (xs.length : Int) ≤ left - xss.length - q
    ·
     have h5 : szR (left - xss.length - q) xs.length = left - xss.length - q - xs.length := by unfold szR; rw [if_pos hx]
     go_wp2_with (go_at_call 89; refine (sz_IntS A' xs.length c' _ _ (by omega) (by omega) (by omega)).mono ?_; rintro e w' ⟨rfl, rfl⟩; rw [h5])
     go_roundw
     case rel => exact ⟨rfl, k + 1, q + xs.length, by omega, by rw [HS.out, HQ.out], by go_num, by go_num, by omega⟩
     case measure => simp [intOf]; omega
    ·
     have h5 : szR (left - xss.length - q) xs.length = -1 := by unfold szR; rw [if_neg hx]
     go_wp2_with (go_at_call 89; refine (sz_IntS A' xs.length c' _ _ (by omega) (by omega) (by omega)).mono ?_; rintro e w' ⟨rfl, rfl⟩; rw [h5])
     go_ret
     have h6 := HT.out
     have h7 := HS.out
     have h8 := HQ.out
     exact ⟨ret_int (by unfold szR szRows; rw [if_neg (by omega)]), rfl⟩
   ·
    go_wp2
    go_ret
    have h6 := lens_all xss k (by omega)
    have h8 := HQ.out
    exact ⟨ret_int (by unfold szR szRows; rw [if_pos (by omega)]; omega), rfl⟩
 ·
  have H := Lib.hid (show szR left (szRows xss) = -1 by unfold szR szRows; rw [if_neg (by omega)])
  go_enter Tryz.func88, Tryz.ntmps88
  go_wp2
  go_ret
  exact ⟨ret_int H.out.symm, rfl⟩

/-! ### Copies -/
theorem intInfo : (Tryz.prog.info? 3).map (fun i => (i.zero, i.size, i.bytes)) = some (some (.int .i64 0), 1, 8) := by kernel_rfl
def ToRel (xs : List Int) (w : World) (i : Value) (wr : World) : Prop := ∃ k : Nat, k ≤ xs.length ∧ i = .int .i64 k ∧ wr = w.alloc (.cells (rowOf ((xs.take k).map intV) xs.length (.int .i64 0)) 3)
theorem to_IntS (v : Value) (xs : List Int) (w : World) (h : IntsR w w.heap.size v xs) (hn : xs.length ≤ 1048576) :
  Calls Tryz.prog 98 #[v] w fun e w' => e = .returned (.slice (some ⟨w.heap.size, 0, none⟩) xs.length xs.length) ∧ w' = w.alloc (.cells (xs.map intV).toArray 3) := by
 obtain ⟨A, c, rfl, h1, h2, h3⟩ := h.open_
 have hmk := fun W => run_make1 (P := Tryz.prog) 41 3 (.int .i64 0) 8 Tryz.underlying41 intInfo rfl xs.length (by omega) (by omega) W
 go_enter Tryz.func98, Tryz.ntmps98
 go_wp2
 clear hmk
 go_loopw [4] (fun i wr => ToRel xs w i wr) (fun i _ => xs.length - (intOf i).toNat)
 case atStart => exact ⟨0, Nat.zero_le _, rfl, by simp⟩
 case round =>
  obtain ⟨k, hk, rfl, rfl⟩ := hrel
  by_cases hlt : k < xs.length
  ·
   obtain ⟨x, hx⟩ : ∃ x, xs[k]? = some x := ⟨xs[k], List.getElem?_eq_getElem hlt⟩
   obtain ⟨ad, rfl, hb, hc⟩ := h3 (by omega)
   have hcell := hc k x hx
   clear h3 hc
   have hlen : ((xs.take k).map intV).length = k := by simp; omega
   have HN := Lib.hid (show (xs.take (k + 1)).map intV = (xs.take k).map intV ++ [.int .i64 x] by
    obtain ⟨hk', rfl⟩ := List.getElem?_eq_some_iff.1 hx
    rw [List.take_succ_eq_append_getElem hk', List.map_append]; rfl)
   clear hx
   generalize (xs.take k).map intV = done at *
   have hset := Lib.hid (rowOf_set (done := done) (n := xs.length) (z := .int .i64 0) (by omega) (.int .i64 x))
   have hnext := rowOf_next (done := done) (n := xs.length) (z := .int .i64 0) (by omega)
   obtain rfl := hlen
   generalize rowOf done xs.length (.int .i64 0) = C at *
   have hcell2 : (w.alloc (.cells C 3)).cell? ⟨w.heap.size, done.length, none⟩ = some (.int .i64 0) := by rw [World.cell?_alloc_at _ _ _ _ rfl]; exact hnext
   have hcell1 : (w.alloc (.cells C 3)).cell? (ad.add done.length) = some (.int .i64 x) := (World.cell?_alloc_lt w _ _ (by rw [block_add]; exact hb)).trans hcell
   clear hnext hcell
   go_wp2
   go_roundw
   case rel => exact ⟨done.length + 1, by omega, by go_num, by rw [HN.out, ← hset.out]⟩
   case measure => simp [intOf]; omega
  ·
   have e1 : xs.take k = xs := List.take_of_length_le (by omega)
   have e2 := rowOf_full (xs.map intV) (.int .i64 0)
   rw [List.length_map] at e2
   rw [e1, e2]
   clear e1 e2
   go_wp2
   go_ret
   exact ⟨rfl, rfl⟩

/-! ### Copies of lists of lists -/
theorem sliceInfo : (Tryz.prog.info? 41).map (fun i => (i.zero, i.size, i.bytes)) = some (some (.slice none 0 0), 1, 24) := by kernel_rfl
def TosRel (xss : List (List Int)) (w : World) (i : Value) (wr : World) : Prop :=
  ∃ (k : Nat) (vs : List Value) (bs : List Nat), k ≤ xss.length ∧ i = .int .i64 k ∧ vs.length = k ∧ wr.heap[w.heap.size]? = some (.cells (rowOf vs xss.length (.slice none 0 0)) 41 (0, 0)) ∧
    OwnAll wr 3 vs (xss.take k) bs ∧ bs.Nodup ∧ (∀ b ∈ bs, w.heap.size < b ∧ b < wr.heap.size) ∧ Below w.heap.size w wr
theorem to_IntSS (v : Value) (xss : List (List Int)) (w : World) (h : RowsR w w.heap.size v xss) (hn : szRows xss ≤ 1048576) :
  Calls Tryz.prog 97 #[v] w fun e w' => ∃ v' bs, e = .returned v' ∧ OwnRows w' 41 3 v' xss bs ∧ bs.Nodup ∧ (∀ b ∈ bs, w.heap.size ≤ b ∧ b < w'.heap.size) ∧ Below w.heap.size w w' := by
 obtain ⟨A, c, rfl, h1, h2, h3⟩ := h.open_
 have hn' : xss.length ≤ 1048576 := by unfold szRows at hn; omega
 have hmk := fun W => run_make1 (P := Tryz.prog) 38 41 (.slice none 0 0) 24 Tryz.underlying38 sliceInfo rfl xss.length (by omega) (by omega) W
 go_enter Tryz.func97, Tryz.ntmps97
 go_wp2
 clear hmk
 go_loopw [4] (fun i wr => TosRel xss w i wr) (fun i _ => xss.length - (intOf i).toNat)
 case atStart => exact ⟨0, [], [], Nat.zero_le _, rfl, rfl, heap_alloc_new w _, rfl, List.nodup_nil, (fun _ hb => by cases hb), bl_alloc (Below.refl _ _) _⟩
 case round =>
  obtain ⟨k, vs, bs, hk, rfl, hvs, hblk, hown, hnd, hbs, hbl⟩ := hrel
  have hsz := hbl.size
  have hgt : w.heap.size < wr.heap.size := by
   rcases Nat.lt_or_ge w.heap.size wr.heap.size with h | h
   ·
    exact h
   ·
    rw [Array.getElem?_eq_none h] at hblk; cases hblk
  by_cases hlt : k < xss.length
  ·
   obtain ⟨xs, hxs⟩ : ∃ xs, xss[k]? = some xs := ⟨xss[k], List.getElem?_eq_getElem hlt⟩
   obtain ⟨ad, rfl, hb, hc⟩ := h3 (by omega)
   obtain ⟨u, hu, hr⟩ := hc k xs hxs
   have hcell : wr.cell? (ad.add k) = some u := (hbl.cell (p := ad.add k) (by rw [block_add]; exact hb)).trans hu
   have hr' : IntsR wr wr.heap.size u xs := (hr.below hbl).more hsz
   have hxl : xs.length ≤ 1048576 := by
    have := lens_snoc xss k xs hxs
    have := lens_split xss (k + 1)
    unfold szRows at hn
    omega
   clear h3 hc hr hu
   have HN := Lib.hid (show xss.take (k + 1) = xss.take k ++ [xs] by
    obtain ⟨hk', rfl⟩ := List.getElem?_eq_some_iff.1 hxs
    rw [List.take_succ_eq_append_getElem hk'])
   clear hxs
   have HB := Lib.hid hblk; clear hblk
   go_wp2_with fail
   refine (to_IntS u xs wr hr' hxl).mono ?_
   rintro e w1 ⟨rfl, hw1⟩
   have hb1 : Below wr.heap.size wr w1 := by rw [hw1]; exact bl_alloc (Below.refl _ _) _
   have hblk1 : w1.heap[w.heap.size]? = some (.cells (rowOf vs xss.length (.slice none 0 0)) 41 (0, 0)) := (hb1.block _ hgt).trans HB.out
   have hnew : OwnInts w1 3 (.slice (some ⟨wr.heap.size, 0, none⟩) xs.length xs.length) xs [wr.heap.size] := by
    refine ⟨.inr ⟨wr.heap.size, xs.length, (xs.map intV).toArray, by simp, by simp, by unfold maxLen; omega, ?_, by simp, List.take_of_length_le (by simp), rfl⟩, hr'.2⟩
    rw [hw1]; exact heap_alloc_new wr _
   have hc1 : w1.cell? ⟨w.heap.size, k, none⟩ = some (.slice none 0 0) := by
    rw [cell_of_row w1 _ k _ _ (0, 0) hblk1, ← hvs]
    exact rowOf_next (by omega)
   have hf1 : w1.frozen? ⟨w.heap.size, k, none⟩ = false := by simp [World.frozen?, hblk1]
   have hown1 : OwnAll w1 3 (vs ++ [.slice (some ⟨wr.heap.size, 0, none⟩) xs.length xs.length]) (xss.take k ++ [xs]) (bs ++ [wr.heap.size]) :=
    (hown.keep fun b hb => hb1.block b (hbs b hb).2).snoc hnew
   have hs1 : wr.heap.size < w1.heap.size := by rw [hw1]; simp
   have HB1 := Lib.hid hblk1; clear hblk1
   have HW := Lib.hid hw1; clear hw1
   go_wp2_with fail
   go_roundw
   case rel =>
    refine ⟨k + 1, vs ++ [.slice (some ⟨wr.heap.size, 0, none⟩) xs.length xs.length], bs ++ [wr.heap.size], by omega, by go_num, by simp [hvs], ?_, ?_, ?_, ?_, ?_⟩
    ·
     rw [heap_set_same HB1.out]
     have := rowOf_set (done := vs) (n := xss.length) (z := .slice none 0 0) (by omega) (.slice (some ⟨wr.heap.size, 0, none⟩) xs.length xs.length)
     rw [hvs] at this
     rw [this]
    ·
     rw [HN.out]
     refine hown1.keep fun b hb => Below.heap_setCell _ _ _ _ ?_
     intro e
     rcases List.mem_append.1 hb with h | h
     ·
      have := hbs b h; simp at e; omega
     ·
      simp at h e; omega
    ·
     rw [List.nodup_append]
     exact ⟨hnd, by simp, fun a ha b hb => by have := hbs a ha; simp at hb; omega⟩
    ·
     intro b hb
     rw [size_setCell]
     rcases List.mem_append.1 hb with h | h
     ·
      have := hbs b h; omega
     ·
      simp at h; omega
    ·
     exact (hbl.trans (hb1.mono hsz)).setCell (Nat.le_refl _) _
   case measure => simp [intOf]; omega
  ·
   have e1 : xss.take k = xss := List.take_of_length_le (by omega)
   rw [e1] at hown
   have HB := Lib.hid hblk; clear hblk
   go_wp2
   go_ret
   refine ⟨_, w.heap.size :: bs, rfl, ⟨vs, [w.heap.size], bs, .inr ⟨w.heap.size, xss.length, vs.toArray, ?_, by omega, by unfold maxLen; omega, ?_, by simp; omega, List.take_of_length_le (by simp), rfl⟩, hown, rfl⟩, ?_, ?_, hbl⟩
   ·
    rw [show vs.length = xss.length by omega]; rfl
   ·
    rw [HB.out, show xss.length = vs.length by omega, rowOf_full]
   ·
    rw [List.nodup_cons]
    exact ⟨fun h => by have := hbs _ h; omega, hnd⟩
   ·
    intro b hb
    rcases List.mem_cons.1 hb with h | h
    ·
     omega
    ·
     have := hbs b h; omega

/-! ### Equality of what reads alike -/
def EqRel (n : Nat) (w : World) (i : Value) (wr : World) : Prop := ∃ k m : Nat, k ≤ n ∧ i = .int .i64 k ∧ wr = w.drewN m
theorem eq_IntS (v v' : Value) (xs : List Int) (w : World) (h : IntsR w w.heap.size v xs) (h' : IntsR w w.heap.size v' xs) :
    Calls Tryz.prog 87 #[v, v'] w fun e w' => e = .returned (.bool true) ∧ ∃ n, w' = w.drewN n := by
  obtain ⟨A, c, rfl, h1, h2, h3⟩ := h.open_
  obtain ⟨A', c', rfl, h1', h2', h3'⟩ := h'.open_
  unfold maxLen at h2
  clear h h'
  go_enter Tryz.func87, Tryz.ntmps87
  go_wp2
  go_loopw [5] (fun i wr => EqRel xs.length w i wr) (fun i _ => xs.length - (intOf i).toNat)
  case atStart => exact ⟨0, 0, Nat.zero_le _, rfl, rfl⟩
  case round =>
    obtain ⟨k, m, hk, rfl, rfl⟩ := hrel
    by_cases hlt : k < xs.length
    · obtain ⟨x, hx⟩ : ∃ x, xs[k]? = some x := ⟨xs[k], List.getElem?_eq_getElem hlt⟩
      obtain ⟨ad, rfl, hb, hc⟩ := h3 (by omega)
      obtain ⟨ad', rfl, hb', hc'⟩ := h3' (by omega)
      have hcell : (w.drewN m).cell? (ad.add k) = some (.int .i64 x) := hc k x hx
      have hcell' : (w.drewN m).cell? (ad'.add k) = some (.int .i64 x) := hc' k x hx
      have k1 := hc k x hx
      have k2 := hc' k x hx
      clear h3 h3' hc hc' hx
      go_wp2
      go_quiet (fail)
      go_wp2
      go_roundw
      case rel => exact ⟨k + 1, m + nq, by omega, by go_num, rfl⟩
      case measure => simp [intOf]; omega
    · go_wp2
      go_ret
      exact ⟨rfl, m, rfl⟩

theorem quiet_more {P : Program} {f : FuncId} {args : Array Value} {w : World} {a n : Nat} {v : Value}
    (h : Calls P f args (w.drewN (a + n)) fun e w' => e = .returned v ∧ ∃ m, w' = (w.drewN (a + n)).drewN m) :
    Calls P f args (w.drewN (a + n)) fun e w'' => e = .returned v ∧ ∃ m, w'' = w.drewN (a + m) :=
  h.mono fun _ _ ⟨he, m, hm⟩ => ⟨he, n + m, by rw [hm, World.drewN_drewN, Nat.add_assoc]⟩
theorem eq_IntSS (v v' : Value) (xss : List (List Int)) (w : World) (h : RowsR w w.heap.size v xss) (h' : RowsR w w.heap.size v' xss) :
    Calls Tryz.prog 86 #[v, v'] w fun e w' => e = .returned (.bool true) ∧ ∃ n, w' = w.drewN n := by
  obtain ⟨A, c, rfl, h1, h2, h3⟩ := h.open_
  obtain ⟨A', c', rfl, h1', h2', h3'⟩ := h'.open_
  unfold maxLen at h2
  clear h h'
  go_enter Tryz.func86, Tryz.ntmps86
  go_wp2
  go_loopw [5] (fun i wr => EqRel xss.length w i wr) (fun i _ => xss.length - (intOf i).toNat)
  case atStart => exact ⟨0, 0, Nat.zero_le _, rfl, rfl⟩
  case round =>
    obtain ⟨k, m, hk, rfl, rfl⟩ := hrel
    by_cases hlt : k < xss.length
    · obtain ⟨xs, hx⟩ : ∃ x, xss[k]? = some x := ⟨xss[k], List.getElem?_eq_getElem hlt⟩
      obtain ⟨ad, rfl, hb, hc⟩ := h3 (by omega)
      obtain ⟨ad', rfl, hb', hc'⟩ := h3' (by omega)
      obtain ⟨u, k1, hr⟩ := hc k xs hx
      obtain ⟨u', k2, hr'⟩ := hc' k xs hx
      have hcell : (w.drewN m).cell? (ad.add k) = some u := k1
      have hcell' : (w.drewN m).cell? (ad'.add k) = some u' := k2
      have HR := Lib.hid hr; clear hr
      have HR' := Lib.hid hr'; clear hr'
      clear h3 h3' hc hc' hx
      go_wp2
      go_quiet ((go_at_call 87; exact quiet_more (eq_IntS u u' xs _ HR.out HR'.out)))
      go_wp2
      go_roundw
      case rel => exact ⟨k + 1, m + nq, by omega, by go_num, rfl⟩
      case measure => simp [intOf]; omega
    · go_wp2
      go_ret
      exact ⟨rfl, m, rfl⟩
end Go.Proofs.YtcfbkickiijjkaaGreatDoor
namespace Go.Proofs.YtcfbkickiijjkaaGreatDoor
open Go.RowKit
set_option linter.all false

def allB (xs : List Int) (lo hi : Int) : Bool := xs.all fun x => inB x lo hi
theorem allB_t {xs : List Int} {lo hi : Int} (h : ∀ x ∈ xs, inB x lo hi = true) : allB xs lo hi = true := by unfold allB; exact List.all_eq_true.2 h
theorem allB_f {xs : List Int} {lo hi : Int} {k : Nat} {x : Int} (h : xs[k]? = some x) (hx : inB x lo hi = false) : allB xs lo hi = false := by
  unfold allB
  rw [List.all_eq_false]
  exact ⟨x, List.mem_of_getElem? h, by simp [hx]⟩
theorem allB_iff {xs : List Int} {lo hi : Int} : allB xs lo hi = true ↔ ∀ x ∈ xs, lo ≤ x ∧ x ≤ hi := by
  unfold allB inB
  simp
def UptoB (p : Int → Bool) (xs : List Int) (k : Nat) : Prop := ∀ j x, j < k → xs[j]? = some x → p x = true
theorem UptoB.next {p : Int → Bool} {xs : List Int} {k : Nat} {x : Int} (h : UptoB p xs k) (hx : xs[k]? = some x) (hp : p x = true) : UptoB p xs (k + 1) := by
  intro j y hj hy
  by_cases e : j = k
  · subst e; rw [hx] at hy; cases hy; exact hp
  · exact h j y (by omega) hy
theorem UptoB.all {p : Int → Bool} {xs : List Int} {k : Nat} (h : UptoB p xs k) (hk : xs.length ≤ k) : ∀ x ∈ xs, p x = true := by
  intro x hx
  obtain ⟨j, hj⟩ := List.mem_iff_getElem?.1 hx
  exact h j x (by have := (List.getElem?_eq_some_iff.1 hj).1; omega) hj

def AllRel (p : Int → Bool) (xs : List Int) (w : World) (i : Value) (wr : World) : Prop := w = wr ∧ ∃ k : Nat, k ≤ xs.length ∧ i = .int .i64 k ∧ UptoB p xs k
theorem spec_l1All (v : Value) (xs : List Int) (lo hi : Int) (w : World) (h : IntsR w w.heap.size v xs) :
    Calls Tryz.prog 188 #[v, .int .i64 lo, .int .i64 hi] w fun e w' => e = .returned (.bool (allB xs lo hi)) ∧ w = w' := by
  obtain ⟨A, c, rfl, h1, h2, h3⟩ := h.open_
  unfold maxLen at h2
  clear h
  go_enter Tryz.func188, Tryz.ntmps188
  go_wp2_with fail
  go_loopw [11, 8] (fun i x wr => AllRel (fun x => inB x lo hi) xs w i wr) (fun i _ _ => xs.length - (intOf i).toNat)
  case atStart => exact ⟨rfl, 0, Nat.zero_le _, rfl, fun _ _ h => absurd h (by omega)⟩
  case round =>
    obtain ⟨rfl, k, hk, rfl, hup⟩ := hrel
    have HU := Lib.hid hup; clear hup
    by_cases hlt : k < xs.length
    · obtain ⟨x, hx⟩ : ∃ x, xs[k]? = some x := ⟨xs[k], List.getElem?_eq_getElem hlt⟩
      obtain ⟨ad, rfl, hb, hc⟩ := h3 (by omega)
      have hcell := hc k x hx
      have HX := Lib.hid hx
      clear h3 hc hx
      cases hp : inB x lo hi with
      | true =>
        go_wp2_with (go_at_call 25; refine (spec_l1In _ _ _ _).mono ?_; rintro e w' ⟨rfl, rfl⟩)
        go_roundw
        case rel => exact ⟨rfl, k + 1, by omega, by go_num, HU.out.next HX.out hp⟩
        case measure => simp [intOf]; omega
      | false =>
        go_wp2_with (go_at_call 25; refine (spec_l1In _ _ _ _).mono ?_; rintro e w' ⟨rfl, rfl⟩)
        go_ret
        exact ⟨ret_bool (allB_f HX.out hp).symm, rfl⟩
    · go_wp2
      go_ret
      exact ⟨ret_bool (allB_t (HU.out.all (by omega))).symm, rfl⟩

def ordL : List Int → List Int → Int
  | x :: xs, y :: ys => if x = y then ordL xs ys else if x < y then -1 else 1
  | [], [] => 0
  | [], _ :: _ => -1
  | _ :: _, [] => 1
def AlikeTo (xs ys : List Int) (k : Nat) : Prop := ordL xs ys = ordL (xs.drop k) (ys.drop k)
theorem AlikeTo.next {xs ys : List Int} {k : Nat} {x : Int} (h : AlikeTo xs ys k) (hx : xs[k]? = some x) (hy : ys[k]? = some x) : AlikeTo xs ys (k + 1) := by
  obtain ⟨h1, e1⟩ := List.getElem?_eq_some_iff.1 hx
  obtain ⟨h2, e2⟩ := List.getElem?_eq_some_iff.1 hy
  unfold AlikeTo at *
  rw [h, List.drop_eq_getElem_cons h1, List.drop_eq_getElem_cons h2, e1, e2, ordL, if_pos rfl]
theorem AlikeTo.ne {xs ys : List Int} {k : Nat} {x y : Int} (h : AlikeTo xs ys k) (hx : xs[k]? = some x) (hy : ys[k]? = some y) (hne : x ≠ y) : ordL xs ys = if x < y then -1 else 1 := by
  obtain ⟨h1, e1⟩ := List.getElem?_eq_some_iff.1 hx
  obtain ⟨h2, e2⟩ := List.getElem?_eq_some_iff.1 hy
  unfold AlikeTo at h
  rw [h, List.drop_eq_getElem_cons h1, List.drop_eq_getElem_cons h2, e1, e2, ordL, if_neg hne]
theorem AlikeTo.end_ {xs ys : List Int} {k : Nat} (h : AlikeTo xs ys k) (h1 : xs.length ≤ k) (h2 : ys.length = xs.length) : ordL xs ys = 0 := by
  unfold AlikeTo at h
  rw [h, List.drop_of_length_le h1, List.drop_of_length_le (by omega)]
  rfl
def sgn (n : Int) : Int := if n < 0 then -1 else if 0 < n then 1 else 0
theorem spec_l1Sign (n : Int) (w : World) :
    Calls Tryz.prog 213 #[.int .i64 n] w fun e w' => e = .returned (.int .i64 (sgn n)) ∧ w = w' := by
  by_cases h1 : 0 < n
  · go_enter Tryz.func213, Tryz.ntmps213
    go_wp2
    go_ret
    exact ⟨ret_int (by unfold sgn; rw [if_neg (by omega), if_pos (by omega)]), rfl⟩
  · by_cases h2 : n < 0
    · go_enter Tryz.func213, Tryz.ntmps213
      go_wp2
      go_ret
      exact ⟨ret_int (by unfold sgn; rw [if_pos (by omega)]), rfl⟩
    · go_enter Tryz.func213, Tryz.ntmps213
      go_wp2
      go_ret
      exact ⟨ret_int (by unfold sgn; rw [if_neg (by omega), if_neg (by omega)]), rfl⟩
def OrdRel (xs ys : List Int) (w : World) (i : Value) (wr : World) : Prop := w = wr ∧ ∃ k : Nat, k ≤ xs.length ∧ i = .int .i64 k ∧ AlikeTo xs ys k
theorem spec_prOrder (v v' : Value) (xs ys : List Int) (w : World) (h : IntsR w w.heap.size v xs) (h' : IntsR w w.heap.size v' ys) (hl : ys.length = xs.length)
  (hx : ∀ x ∈ xs, -1000000000 ≤ x ∧ x ≤ 1000000000) (hy : ∀ y ∈ ys, -1000000000 ≤ y ∧ y ≤ 1000000000) :
  Calls Tryz.prog 189 #[v, v'] w fun e w' => e = .returned (.int .i64 (ordL xs ys)) ∧ w = w' := by
 obtain ⟨A, c, rfl, h1, h2, h3⟩ := h.open_
 obtain ⟨A', c', rfl, h1', h2', h3'⟩ := h'.open_
 unfold maxLen at h2 h2'
 clear h h'
 have HX := Lib.hid hx; clear hx
 have HY := Lib.hid hy; clear hy
 go_enter Tryz.func189, Tryz.ntmps189
 go_wp2_with fail
 go_loopw [9, 5, 6] (fun i _ _ wr => OrdRel xs ys w i wr) (fun i _ _ _ => xs.length - (intOf i).toNat)
 case atStart => exact ⟨rfl, 0, Nat.zero_le _, rfl, rfl⟩
 case round =>
  obtain ⟨rfl, k, hk, rfl, hup⟩ := hrel
  have HU := Lib.hid hup; clear hup
  by_cases hlt : k < xs.length
  ·
   obtain ⟨x, hx⟩ : ∃ x, xs[k]? = some x := ⟨xs[k], List.getElem?_eq_getElem hlt⟩
   obtain ⟨y, hy⟩ : ∃ y, ys[k]? = some y := ⟨ys[k], List.getElem?_eq_getElem (by omega)⟩
   obtain ⟨ad, rfl, hb, hc⟩ := h3 (by omega)
   obtain ⟨ad', rfl, hb', hc'⟩ := h3' (by omega)
   have hcell := hc k x hx
   have hcell' := hc' k y hy
   have bx := HX.out x (List.mem_of_getElem? hx)
   have by_ := HY.out y (List.mem_of_getElem? hy)
   have GX := Lib.hid hx
   have GY := Lib.hid hy
   clear h3 hc hx h3' hc' hy
   by_cases e : x = y
   ·
    subst e
    go_wp2_with fail
    go_roundw
    case rel => exact ⟨rfl, k + 1, by omega, by go_num, HU.out.next GX.out GY.out⟩
    case measure => simp [intOf]; omega
   ·
    have hne : (x == y) = false := by simpa using e
    have hne' : (x != y) = true := by simpa using e
    go_wp2_with (go_at_call 213; refine (spec_l1Sign _ _).mono ?_; rintro e w' ⟨rfl, rfl⟩)
    go_ret
    refine ⟨ret_int ?_, rfl⟩
    rw [HU.out.ne GX.out GY.out e]
    unfold sgn
    by_cases hlt' : x < y
    ·
     rw [if_pos (by omega), if_pos hlt']
    ·
     rw [if_neg (by omega), if_pos (by omega), if_neg hlt']
  ·
   go_wp2_with fail
   go_ret
   exact ⟨ret_int (HU.out.end_ (by omega) hl).symm, rfl⟩
end Go.Proofs.YtcfbkickiijjkaaGreatDoor
namespace Go.Proofs.YtcfbkickiijjkaaGreatDoor
open Go.RowKit
set_option linter.all false

theorem closure_within (x lo hi : Int) (a b : Nat) (w : World) (ha : w.cell? ⟨a, 0, none⟩ = some (.int .i64 lo)) (hb : w.cell? ⟨b, 0, none⟩ = some (.int .i64 hi)) :
    Calls Tryz.prog 215 #[.int .i64 x, .pointer (some ⟨a, 0, none⟩), .pointer (some ⟨b, 0, none⟩)] w fun e w' => e = .returned (.bool (!inB x lo hi)) ∧ w = w' := by
  go_enter Tryz.func215, Tryz.ntmps215
  go_wp2_with (go_at_call 78; refine (impl_within _ _ _ _).mono ?_; rintro e w' ⟨rfl, rfl⟩)
  go_ret
  exact ⟨rfl, rfl⟩
def NotIdx (xs : List Int) (lo hi : Int) (w : World) (e : Ending) (w' : World) : Prop := ∃ i : Int, e = .returned (.int .i64 i) ∧ -1 ≤ i ∧ i ≤ xs.length ∧ decide (0 ≤ i) = !allB xs lo hi ∧ w = w'
theorem indexFunc_within (v : Value) (xs : List Int) (lo hi : Int) (a b : Nat) (w : World) (h : IntsR w w.heap.size v xs) (ha : w.cell? ⟨a, 0, none⟩ = some (.int .i64 lo)) (hb : w.cell? ⟨b, 0, none⟩ = some (.int .i64 hi)) :
  Calls Tryz.prog 193 #[v, .func (.func 215) #[] #[.pointer (some ⟨a, 0, none⟩), .pointer (some ⟨b, 0, none⟩)]] w (NotIdx xs lo hi w) := by
 obtain ⟨A, c, rfl, h1, h2, h3⟩ := h.open_
 unfold maxLen at h2
 clear h
 go_enter Tryz.func193, Tryz.ntmps193
 go_wp2_with fail
 go_loopw [8, 5] (fun i _ wr => AllRel (fun x => inB x lo hi) xs w i wr) (fun i _ _ => xs.length - (intOf i).toNat)
 case atStart => exact ⟨rfl, 0, Nat.zero_le _, rfl, fun _ _ h => absurd h (by omega)⟩
 case round =>
  obtain ⟨rfl, k, hk, rfl, hup⟩ := hrel
  have HU := Lib.hid hup; clear hup
  by_cases hlt : k < xs.length
  ·
   obtain ⟨x, hx⟩ : ∃ x, xs[k]? = some x := ⟨xs[k], List.getElem?_eq_getElem hlt⟩
   obtain ⟨ad, rfl, hb', hc⟩ := h3 (by omega)
   have hcell := hc k x hx
   have HX := Lib.hid hx
   clear h3 hc hx
   cases hp : inB x lo hi with
   | true =>
    go_wp2_with (go_at_call 215; refine (closure_within x lo hi a b _ ha hb).mono ?_; rintro e w' ⟨rfl, rfl⟩)
    go_roundw
    case rel => exact ⟨rfl, k + 1, by omega, by go_num, HU.out.next HX.out hp⟩
    case measure => simp [intOf]; omega
   | false =>
    go_wp2_with (go_at_call 215; refine (closure_within x lo hi a b _ ha hb).mono ?_; rintro e w' ⟨rfl, rfl⟩)
    go_ret
    exact ⟨k, rfl, by omega, by omega, by rw [allB_f HX.out hp]; simp, rfl⟩
  ·
   go_wp2
   go_ret
   exact ⟨-1, rfl, by omega, by omega, by rw [allB_t (HU.out.all (by omega))]; simp, rfl⟩
theorem containsFunc_within (v : Value) (xs : List Int) (lo hi : Int) (a b : Nat) (w : World) (h : IntsR w w.heap.size v xs) (ha : w.cell? ⟨a, 0, none⟩ = some (.int .i64 lo)) (hb : w.cell? ⟨b, 0, none⟩ = some (.int .i64 hi)) :
    Calls Tryz.prog 214 #[v, .func (.func 215) #[] #[.pointer (some ⟨a, 0, none⟩), .pointer (some ⟨b, 0, none⟩)]] w fun e w' => e = .returned (.bool (!allB xs lo hi)) ∧ w = w' := by
  have HH := Lib.hid h; clear h
  have HA := Lib.hid ha; clear ha
  have HB := Lib.hid hb; clear hb
  go_enter Tryz.func214, Tryz.ntmps214
  go_wp2_with fail
  refine (indexFunc_within v xs lo hi a b w HH.out HA.out HB.out).mono ?_
  rintro e w' ⟨i, rfl, h1, h2, h3, rfl⟩
  have H3 := Lib.hid h3; clear h3
  go_wp2_with fail
  go_ret
  exact ⟨ret_bool H3.out, rfl⟩
theorem impl_allWithin (v : Value) (xs : List Int) (lo hi : Int) (w : World) (h : IntsR w w.heap.size v xs) :
    Calls Tryz.prog 191 #[v, .int .i64 lo, .int .i64 hi] w fun e w' => e = .returned (.bool (allB xs lo hi)) ∧ Below w.heap.size w w' := by
  have hmf : ∀ (fn : Fn) (first cap : Array Value) (w : World), (Instr.makeFunc fn first cap).run Tryz.prog w = .ok (.func fn first cap) w := fun _ _ _ _ => rfl
  have HH := Lib.hid h; clear h
  go_enter Tryz.func191, Tryz.ntmps191
  go_wp2_with fail
  refine (containsFunc_within v xs lo hi w.heap.size (w.heap.size + 1) _ ((HH.out.below (bl_alloc (bl_alloc (Below.refl _ _) _) _)).more (by simp; omega)) ?_ ?_).mono ?_
  · rw [World.cell?_alloc_past _ _ _ (by simp), World.cell?_alloc_at _ _ _ _ rfl]; rfl
  · rw [World.cell?_alloc_at _ _ _ _ (by simp)]; rfl
  rintro e w' ⟨rfl, rfl⟩
  go_wp2_with fail
  go_ret
  exact ⟨ret_bool (by simp), bl_alloc (bl_alloc (Below.refl _ _) _) _⟩
theorem impl_hasLabels (n : Int) (va v : Value) (xs : List Int) (w : World) (h : IntsR w w.heap.size v xs) (h1 : -1000000 ≤ n) (h2 : n ≤ 1000000) :
    Calls Tryz.prog 152 #[.agg #[.int .i64 n, va], v] w fun e w' => e = .returned (.bool (allB xs 0 (n - 1))) ∧ Below w.heap.size w w' := by
  have HH := Lib.hid h; clear h
  go_enter Tryz.func152, Tryz.ntmps152
  go_wp2_with fail
  refine (impl_allWithin v xs 0 (n - 1) _ ((HH.out.below (bl_alloc (Below.refl _ _) _)).more (by simp))).mono ?_
  rintro e w1 ⟨rfl, hb1⟩
  go_wp2_with fail
  go_ret
  exact ⟨rfl, bl_trans (bl_alloc (Below.refl _ _) _) hb1⟩
def cmpI (x y : Int) : Int := if x < y then -1 else if y < x then 1 else 0
theorem cmpI_ne {x y : Int} (h : x ≠ y) : cmpI x y ≠ 0 := by unfold cmpI; split; · omega
                                                             · split <;> omega
theorem cmp_Compare (x y : Int) (w : World) :
    Calls Tryz.prog 192 #[.int .i64 x, .int .i64 y] w fun e w' => e = .returned (.int .i64 (cmpI x y)) ∧ w = w' := by
  by_cases h1 : x < y
  · go_enter Tryz.func192, Tryz.ntmps192
    go_wp2
    go_ret
    exact ⟨ret_int (by unfold cmpI; rw [if_pos (by omega)]), rfl⟩
  · by_cases h2 : y < x
    · go_enter Tryz.func192, Tryz.ntmps192
      go_wp2
      go_ret
      exact ⟨ret_int (by unfold cmpI; rw [if_neg (by omega), if_pos (by omega)]), rfl⟩
    · go_enter Tryz.func192, Tryz.ntmps192
      go_wp2
      go_ret
      exact ⟨ret_int (by unfold cmpI; rw [if_neg (by omega), if_neg (by omega)]), rfl⟩
theorem AlikeTo.short {xs ys : List Int} {k : Nat} (h : AlikeTo xs ys k) (h1 : k < xs.length) (h2 : ys.length ≤ k) : ordL xs ys = 1 := by
  unfold AlikeTo at h
  rw [h, List.drop_of_length_le h2, List.drop_eq_getElem_cons h1]
  rfl
theorem AlikeTo.done {xs ys : List Int} {k : Nat} (h : AlikeTo xs ys k) (h1 : xs.length ≤ k) : ordL xs ys = if k < ys.length then -1 else 0 := by
  unfold AlikeTo at h
  rw [h, List.drop_of_length_le h1]
  by_cases h2 : k < ys.length
  · rw [if_pos h2, List.drop_eq_getElem_cons h2]; rfl
  · rw [if_neg h2, List.drop_of_length_le (by omega)]; rfl
theorem slices_Compare (v v' : Value) (xs ys : List Int) (w : World) (h : IntsR w w.heap.size v xs) (h' : IntsR w w.heap.size v' ys) :
  Calls Tryz.prog 153 #[v, v'] w fun e w' => e = .returned (.int .i64 (ordL xs ys)) ∧ w = w' := by
 obtain ⟨A, c, rfl, h1, h2, h3⟩ := h.open_
 obtain ⟨A', c', rfl, h1', h2', h3'⟩ := h'.open_
 unfold maxLen at h2 h2'
 clear h h'
 go_enter Tryz.func153, Tryz.ntmps153
 go_wp2_with fail
 go_loopw [11, 5, 6, 7, 8] (fun i _ _ _ _ wr => OrdRel xs ys w i wr) (fun i _ _ _ _ _ => xs.length - (intOf i).toNat)
 case atStart => exact ⟨rfl, 0, Nat.zero_le _, rfl, rfl⟩
 case round =>
  obtain ⟨rfl, k, hk, rfl, hup⟩ := hrel
  have HU := Lib.hid hup; clear hup
  by_cases hlt : k < xs.length
  ·
   obtain ⟨x, hx⟩ : ∃ x, xs[k]? = some x := ⟨xs[k], List.getElem?_eq_getElem hlt⟩
   obtain ⟨ad, rfl, hb, hc⟩ := h3 (by omega)
   have hcell := hc k x hx
   have GX := Lib.hid hx
   clear h3 hc hx
   by_cases hlt' : k < ys.length
   ·
    obtain ⟨y, hy⟩ : ∃ y, ys[k]? = some y := ⟨ys[k], List.getElem?_eq_getElem (by omega)⟩
    obtain ⟨ad', rfl, hb', hc'⟩ := h3' (by omega)
    have hcell' := hc' k y hy
    have GY := Lib.hid hy
    clear h3' hc' hy
    by_cases e : x = y
    ·
     subst e
     have hz : cmpI x x = 0 := by unfold cmpI; rw [if_neg (by omega), if_neg (by omega)]
     go_wp2_with (go_at_call 192; refine (cmp_Compare _ _ _).mono ?_; rintro e w' ⟨rfl, rfl⟩; rw [hz])
     go_roundw
     case rel => exact ⟨rfl, k + 1, by omega, by go_num, HU.out.next GX.out GY.out⟩
     case measure => simp [intOf]; omega
    ·
     have hz : (cmpI x y == 0) = false := beq_eq_false_iff_ne.2 (cmpI_ne e)
     have hz' : (cmpI x y != 0) = true := by rw [bne, hz]; rfl
     have H1 := Lib.hid (show ordL xs ys = cmpI x y by
      rw [HU.out.ne GX.out GY.out e]
      unfold cmpI
      by_cases q : x < y
      ·
       rw [if_pos q, if_pos q]
      ·
       rw [if_neg q, if_neg q, if_pos (by omega)])
     go_wp2_with (go_at_call 192; refine (cmp_Compare _ _ _).mono ?_; rintro e w' ⟨rfl, rfl⟩)
     go_ret
     exact ⟨ret_int H1.out.symm, rfl⟩
   ·
    go_wp2_with fail
    go_ret
    exact ⟨ret_int (HU.out.short hlt (by omega)).symm, rfl⟩
  ·
   by_cases hy : xs.length < ys.length
   ·
    have H1 := Lib.hid (show ordL xs ys = -1 by rw [HU.out.done (by omega), if_pos (by omega)])
    go_wp2_with fail
    go_ret
    exact ⟨ret_int H1.out.symm, rfl⟩
   ·
    have H1 := Lib.hid (show ordL xs ys = 0 by rw [HU.out.done (by omega), if_neg (by omega)])
    go_wp2_with fail
    go_ret
    exact ⟨ret_int H1.out.symm, rfl⟩
end Go.Proofs.YtcfbkickiijjkaaGreatDoor
namespace Go.Proofs.YtcfbkickiijjkaaGreatDoor
open Go.RowKit
set_option linter.all false

def arcOk (n : Int) (xss : List (List Int)) (i : Nat) : Prop :=
  ∃ xs, xss[i]? = some xs ∧ xs.length = 2 ∧ allB xs 0 (n - 1) = true ∧ (0 < i → ∃ ys, xss[i - 1]? = some ys ∧ ordL ys xs < 0)
def Good (n : Int) (xss : List (List Int)) : Prop := inB n 1 12 = true ∧ ∀ i, i < xss.length → arcOk n xss i
noncomputable def goodB (n : Int) (xss : List (List Int)) : Bool := propB (Good n xss)
theorem goodB_t {n : Int} {xss : List (List Int)} (h : Good n xss) : goodB n xss = true := propB_t h
theorem goodB_f {n : Int} {xss : List (List Int)} (h : ¬ Good n xss) : goodB n xss = false := propB_f h
theorem goodB_iff {n : Int} {xss : List (List Int)} : goodB n xss = true ↔ Good n xss := propB_iff
def GoodTo (n : Int) (xss : List (List Int)) (k : Nat) : Prop := ∀ i, i < k → arcOk n xss i
theorem GoodTo.next {n : Int} {xss : List (List Int)} {k : Nat} (h : GoodTo n xss k) (hk : arcOk n xss k) : GoodTo n xss (k + 1) := by
  intro i hi
  by_cases e : i = k
  · subst e; exact hk
  · exact h i (by omega)
theorem not_good {n : Int} {xss : List (List Int)} {k : Nat} {xs : List Int} (hx : xss[k]? = some xs) (h : xs.length = 2 → allB xs 0 (n - 1) = true → 0 < k ∧ ∃ ys, xss[k - 1]? = some ys ∧ 0 ≤ ordL ys xs) : ¬ ∀ i, i < xss.length → arcOk n xss i := by
  intro hg
  obtain ⟨xs', e, h1, h2, h3⟩ := hg k (List.getElem?_eq_some_iff.1 hx).1
  rw [hx] at e; cases e
  obtain ⟨hk, ys, hy, ho⟩ := h h1 h2
  obtain ⟨ys', hy', ho'⟩ := h3 hk
  rw [hy] at hy'; cases hy'
  omega
def GoodRel (n : Int) (xss : List (List Int)) (w : World) (i : Value) (wr : World) : Prop := ∃ k : Nat, k ≤ xss.length ∧ i = .int .i64 k ∧ GoodTo n xss k ∧ Below w.heap.size w wr
theorem allB_small {xs : List Int} {n : Int} (h : allB xs 0 (n - 1) = true) (hn : n ≤ 1000000) : ∀ x ∈ xs, -1000000000 ≤ x ∧ x ≤ 1000000000 := by
  intro x hx
  have := allB_iff.1 h x hx
  omega

noncomputable def arcsB (n : Int) (xss : List (List Int)) : Bool := propB (∀ i, i < xss.length → arcOk n xss i)
theorem arcsB_t {n : Int} {xss : List (List Int)} (h : ∀ i, i < xss.length → arcOk n xss i) : arcsB n xss = true := propB_t h
theorem arcsB_f {n : Int} {xss : List (List Int)} (h : ¬ ∀ i, i < xss.length → arcOk n xss i) : arcsB n xss = false := propB_f h
theorem spec_waArcs (v : Value) (xss : List (List Int)) (n : Int) (w : World) (h : RowsR w w.heap.size v xss) (hn0 : 1 ≤ n) (hn : n ≤ 1000000) :
  Calls Tryz.prog 145 #[v, .int .i64 n] w fun e w' => e = .returned (.bool (arcsB n xss)) ∧ Below w.heap.size w w' := by
 obtain ⟨A, c, rfl, h1, h2, h3⟩ := h.open_
 unfold maxLen at h2
 clear h
 have H3 := Lib.hid h3; clear h3
 go_enter Tryz.func145, Tryz.ntmps145
 go_wp2_with fail
 go_loopw [9, 5, 6] (fun i _ _ wr => GoodRel n xss w i wr) (fun i _ _ _ => xss.length - (intOf i).toNat)
 case atStart => exact ⟨0, Nat.zero_le _, rfl, (fun _ h => absurd h (by omega)), Below.refl _ _⟩
 case round =>
  obtain ⟨k, hk, rfl, hup, hbl⟩ := hrel
  have HU := Lib.hid hup; clear hup
  by_cases hlt : k < xss.length
  ·
   obtain ⟨xs, hx⟩ : ∃ x, xss[k]? = some x := ⟨xss[k], List.getElem?_eq_getElem hlt⟩
   obtain ⟨ad, rfl, hb, hc⟩ := H3.out (by omega)
   obtain ⟨u, hu, hr⟩ := hc k xs hx
   have hcell : wr.cell? (ad.add k) = some u := (hbl.cell (p := ad.add k) (by rw [block_add]; exact hb)).trans hu
   have hr' : IntsR wr wr.heap.size u xs := (hr.below hbl).more hbl.size
   have HR := Lib.hid hr'; clear hr' hr hu
   obtain ⟨A1, c1, rfl, g1, g2, -⟩ := HR.out.open_
   unfold maxLen at g2
   have HC := Lib.hid hc; clear hc
   have HX := Lib.hid hx; clear hx
   by_cases q1 : xs.length = 2
   ·
    have t1 : ((xs.length : Int) == 2) = true := by rw [q1]; rfl
    have t2 : ((xs.length : Int) != 2) = false := by rw [q1]; rfl
    have Q1 := Lib.hid q1; clear q1
    cases q2 : allB xs 0 (n - 1) with
    | true =>
     by_cases q3 : k = 0
     ·
      have t3 : ¬ (0 : Int) < (k : Int) := by omega
      have Q3 := Lib.hid q3; clear q3
      go_wp2_with (go_at_call 188; refine (spec_l1All _ xs _ _ _ HR.out).mono ?_; rintro e w' ⟨rfl, rfl⟩)
      go_roundw
      case rel => exact ⟨k + 1, by omega, by go_num, HU.out.next ⟨xs, HX.out, Q1.out, q2, fun h => absurd h (by omega)⟩, hbl⟩
      case measure => simp [intOf]; omega
     ·
      have t3 : (0 : Int) < (k : Int) := by omega
      obtain ⟨ys, hy, y1, y2, -⟩ := HU.out (k - 1) (by omega)
      obtain ⟨u2, hu2, hr2⟩ := HC.out (k - 1) ys hy
      have hcell2 : wr.cell? (ad.add (k - 1)) = some u2 := (hbl.cell (p := ad.add (k - 1)) (by rw [block_add]; exact hb)).trans hu2
      have hr2' : IntsR wr wr.heap.size u2 ys := (hr2.below hbl).more hbl.size
      have HR2 := Lib.hid hr2'; clear hr2' hr2 hu2
      have HY := Lib.hid hy; clear hy
      have YL := Lib.hid y1; clear y1
      by_cases q4 : ordL ys xs < 0
      ·
       have t4 : ¬ 0 ≤ ordL ys xs := by omega
       go_wp2_with (first
        | (go_at_call 188; refine (spec_l1All _ xs _ _ _ HR.out).mono ?_; rintro e w' ⟨rfl, rfl⟩)
        | (go_at_call 189; refine (spec_prOrder _ _ ys xs _ HR2.out HR.out (Q1.out.trans YL.out.symm) (allB_small y2 hn) (allB_small q2 hn)).mono ?_; rintro e w' ⟨rfl, rfl⟩))
       go_roundw
       case rel => exact ⟨k + 1, by omega, by go_num, HU.out.next ⟨xs, HX.out, Q1.out, q2, fun _ => ⟨ys, HY.out, q4⟩⟩, hbl⟩
       case measure => simp [intOf]; omega
      ·
       have t4 : 0 ≤ ordL ys xs := by omega
       go_wp2_with (first
        | (go_at_call 188; refine (spec_l1All _ xs _ _ _ HR.out).mono ?_; rintro e w' ⟨rfl, rfl⟩)
        | (go_at_call 189; refine (spec_prOrder _ _ ys xs _ HR2.out HR.out (Q1.out.trans YL.out.symm) (allB_small y2 hn) (allB_small q2 hn)).mono ?_; rintro e w' ⟨rfl, rfl⟩))
       go_ret
       exact ⟨ret_bool (arcsB_f (not_good HX.out (fun _ _ => ⟨by omega, ys, HY.out, t4⟩))).symm, hbl⟩
    | false =>
     go_wp2_with (go_at_call 188; refine (spec_l1All _ xs _ _ _ HR.out).mono ?_; rintro e w' ⟨rfl, rfl⟩)
     go_ret
     exact ⟨ret_bool (arcsB_f (not_good HX.out (fun _ h => by rw [q2] at h; cases h))).symm, hbl⟩
   ·
    have t1 : ((xs.length : Int) == 2) = false := by rw [beq_eq_false_iff_ne]; omega
    have t2 : ((xs.length : Int) != 2) = true := by rw [bne, t1]; rfl
    go_wp2_with fail
    go_ret
    exact ⟨ret_bool (arcsB_f (not_good HX.out (fun h _ => absurd h q1))).symm, hbl⟩
  ·
   go_wp2_with fail
   go_ret
   exact ⟨ret_bool (arcsB_t (fun i hi => HU.out i (by omega))).symm, hbl⟩
theorem spec_waGood (n : Int) (v : Value) (xss : List (List Int)) (w : World) (h : RowsR w w.heap.size v xss) :
    Calls Tryz.prog 118 #[.agg #[.int .i64 n, v]] w fun e w' => e = .returned (.bool (goodB n xss)) ∧ Below w.heap.size w w' := by
  have HH := Lib.hid h; clear h
  cases q : inB n 1 12 with
  | true =>
    have hn : 1 ≤ n ∧ n ≤ 12 := by unfold inB at q; simpa using q
    have H1 := Lib.hid (show goodB n xss = arcsB n xss by unfold goodB arcsB; exact propB_congr ⟨fun h => h.2, fun h => ⟨q, h⟩⟩)
    go_enter Tryz.func118, Tryz.ntmps118
    go_wp2_with (go_at_call 25; refine (spec_l1In _ _ _ _).mono ?_; rintro e w' ⟨rfl, rfl⟩)
    refine (spec_waArcs v xss n _ ((HH.out.below (bl_alloc (Below.refl _ _) _)).more (by simp)) hn.1 (by omega)).mono ?_
    rintro e w1 ⟨rfl, hb1⟩
    go_wp2_with fail
    go_ret
    exact ⟨ret_bool H1.out.symm, bl_trans (bl_alloc (Below.refl _ _) _) hb1⟩
  | false =>
    have H1 := Lib.hid (show goodB n xss = false from goodB_f (fun h => by have h1 := h.1; rw [q] at h1; cases h1))
    go_enter Tryz.func118, Tryz.ntmps118
    go_wp2_with (go_at_call 25; refine (spec_l1In _ _ _ _).mono ?_; rintro e w' ⟨rfl, rfl⟩)
    go_ret
    exact ⟨ret_bool H1.out.symm, bl_alloc (Below.refl _ _) _⟩

theorem impl_IsWalkProblem (n : Int) (v : Value) (xss : List (List Int)) (w : World) (h : RowsR w w.heap.size v xss) :
  Calls Tryz.prog 121 #[.agg #[.int .i64 n, v]] w fun e w' => e = .returned (.bool (goodB n xss)) ∧ Below w.heap.size w w' := by
 cases q : inB n 1 12 with
 | false =>
  have H1 := Lib.hid (show goodB n xss = false from goodB_f (fun h => by have h1 := h.1; rw [q] at h1; cases h1))
  go_enter Tryz.func121, Tryz.ntmps121
  go_wp2_with (go_at_call 78; refine (impl_within _ _ _ _).mono ?_; rintro e w' ⟨rfl, rfl⟩)
  go_ret
  exact ⟨ret_bool H1.out.symm, bl_alloc (Below.refl _ _) _⟩
 | true =>
  have hn : 1 ≤ n ∧ n ≤ 12 := by unfold inB at q; simpa using q
  obtain ⟨A, c, rfl, h1, h2, h3⟩ := h.open_
  unfold maxLen at h2
  clear h
  have H3 := Lib.hid h3; clear h3
  go_enter Tryz.func121, Tryz.ntmps121
  go_wp2_with (go_at_call 78; refine (impl_within _ _ _ _).mono ?_; rintro e w' ⟨rfl, rfl⟩)
  have hw0 : Below w.heap.size w (w.alloc (.cells #[.int .i64 n, .slice A xss.length c] 50)) := bl_alloc (Below.refl _ _) _
  have hw1 : (w.alloc (.cells #[.int .i64 n, .slice A xss.length c] 50)).heap.size = w.heap.size + 1 := by simp
  have hc0 : (w.alloc (.cells #[.int .i64 n, .slice A xss.length c] 50)).cell? ⟨w.heap.size, 0, none⟩ = some (.int .i64 n) := by rw [World.cell?_alloc_at _ _ _ _ rfl]; rfl
  have hc1 : (w.alloc (.cells #[.int .i64 n, .slice A xss.length c] 50)).cell? ⟨w.heap.size, 1, none⟩ = some (.slice A xss.length c) := by rw [World.cell?_alloc_at _ _ _ _ rfl]; rfl
  generalize w.alloc (.cells #[.int .i64 n, .slice A xss.length c] 50) = w0 at *
  have HW1 := Lib.hid hw1; clear hw1
  have HC0 := Lib.hid hc0; clear hc0
  have HC1 := Lib.hid hc1; clear hc1
  go_loopw [12, 3, 4] (fun i _ _ wr => GoodRel n xss w0 i wr) (fun i _ _ _ => xss.length - (intOf i).toNat)
  case atStart => exact ⟨0, Nat.zero_le _, rfl, (fun _ h => absurd h (by omega)), Below.refl _ _⟩
  case round =>
   obtain ⟨k, hk, rfl, hup, hbl⟩ := hrel
   have HU := Lib.hid hup; clear hup
   have hb0 : Below w.heap.size w wr := bl_trans hw0 hbl
   have hlt0 : w.heap.size < w0.heap.size := by rw [HW1.out]; omega
   have hx0 : wr.cell? ⟨w.heap.size, 0, none⟩ = some (.int .i64 n) := (hbl.cell (p := ⟨w.heap.size, 0, none⟩) hlt0).trans HC0.out
   have hx1 : wr.cell? ⟨w.heap.size, 1, none⟩ = some (.slice A xss.length c) := (hbl.cell (p := ⟨w.heap.size, 1, none⟩) hlt0).trans HC1.out
   by_cases hlt : k < xss.length
   ·
    obtain ⟨xs, hx⟩ : ∃ x, xss[k]? = some x := ⟨xss[k], List.getElem?_eq_getElem hlt⟩
    obtain ⟨ad, rfl, hb, hc⟩ := H3.out (by omega)
    obtain ⟨u, hu, hr⟩ := hc k xs hx
    have hcell : wr.cell? (ad.add k) = some u := (hb0.cell (p := ad.add k) (by rw [block_add]; exact hb)).trans hu
    have hr' : IntsR wr wr.heap.size u xs := (hr.below hb0).more hb0.size
    have HR := Lib.hid hr'; clear hr' hr hu
    obtain ⟨A1, c1, rfl, g1, g2, -⟩ := HR.out.open_
    unfold maxLen at g2
    have HC := Lib.hid hc; clear hc
    have HX := Lib.hid hx; clear hx
    by_cases q1 : xs.length = 2
    ·
     have t1 : ((xs.length : Int) == 2) = true := by rw [q1]; rfl
     have t2 : ((xs.length : Int) != 2) = false := by rw [q1]; rfl
     have Q1 := Lib.hid q1; clear q1
     go_wp2_with fail
     refine (impl_hasLabels n _ _ xs _ HR.out (by omega) (by omega)).mono ?_
     rintro e w1 ⟨rfl, hb1⟩
     have hsz1 := hb1.size
     have hy1 : w1.cell? ⟨w.heap.size, 1, none⟩ = some (.slice (some ad) xss.length c) := (hb1.cell (p := ⟨w.heap.size, 1, none⟩) (by have := hbl.size; show w.heap.size < _; omega)).trans hx1
     have hbl1 : Below w0.heap.size w0 w1 := bl_trans hbl hb1
     have hb01 : Below w.heap.size w w1 := bl_trans hb0 hb1
     clear hx0 hx1
     cases q2 : allB xs 0 (n - 1) with
     | true =>
      by_cases q3 : k = 0
      ·
       have t3 : ¬ (0 : Int) < (k : Int) := by omega
       have Q3 := Lib.hid q3; clear q3
       go_wp2_with fail
       go_roundw
       case rel => exact ⟨k + 1, by omega, by go_num, HU.out.next ⟨xs, HX.out, Q1.out, q2, fun h => absurd h (by omega)⟩, hbl1⟩
       case measure => simp [intOf]; omega
      ·
       have t3 : (0 : Int) < (k : Int) := by omega
       obtain ⟨ys, hy, y1, y2, -⟩ := HU.out (k - 1) (by omega)
       obtain ⟨u2, hu2, hr2⟩ := HC.out (k - 1) ys hy
       have hcell2 : w1.cell? (ad.add (k - 1)) = some u2 := (hb01.cell (p := ad.add (k - 1)) (by rw [block_add]; exact hb)).trans hu2
       have hr2' : IntsR w1 w1.heap.size u2 ys := (hr2.below hb01).more hb01.size
       have HR2 := Lib.hid hr2'; clear hr2' hr2 hu2
       have HR1 := Lib.hid ((HR.out.below hb1).more hsz1)
       have HY := Lib.hid hy; clear hy
       have YL := Lib.hid y1; clear y1
       by_cases q4 : ordL ys xs < 0
       ·
        have t4 : ¬ 0 ≤ ordL ys xs := by omega
        go_wp2_with (go_at_call 153; refine (slices_Compare _ _ ys xs _ HR2.out HR1.out).mono ?_; rintro e w' ⟨rfl, rfl⟩)
        go_roundw
        case rel => exact ⟨k + 1, by omega, by go_num, HU.out.next ⟨xs, HX.out, Q1.out, q2, fun _ => ⟨ys, HY.out, q4⟩⟩, hbl1⟩
        case measure => simp [intOf]; omega
       ·
        have t4 : 0 ≤ ordL ys xs := by omega
        go_wp2_with (go_at_call 153; refine (slices_Compare _ _ ys xs _ HR2.out HR1.out).mono ?_; rintro e w' ⟨rfl, rfl⟩)
        go_ret
        exact ⟨ret_bool (goodB_f (fun h => not_good HX.out (fun _ _ => ⟨by omega, ys, HY.out, t4⟩) h.2)).symm, hb01⟩
     | false =>
      go_wp2_with fail
      go_ret
      exact ⟨ret_bool (goodB_f (fun h => not_good HX.out (fun _ h => by rw [q2] at h; cases h) h.2)).symm, hb01⟩
    ·
     have t1 : ((xs.length : Int) == 2) = false := by rw [beq_eq_false_iff_ne]; omega
     have t2 : ((xs.length : Int) != 2) = true := by rw [bne, t1]; rfl
     go_wp2_with fail
     go_ret
     exact ⟨ret_bool (goodB_f (fun h => not_good HX.out (fun h _ => absurd h q1) h.2)).symm, hb0⟩
   ·
    go_wp2_with fail
    go_ret
    exact ⟨ret_bool (goodB_t ⟨q, fun i hi => HU.out i (by omega)⟩).symm, hb0⟩
end Go.Proofs.YtcfbkickiijjkaaGreatDoor
namespace Go.Proofs.YtcfbkickiijjkaaGreatDoor
open Go.RowKit
set_option linter.all false

theorem wpList_append1 {P : Program} (w : World) {ops : Array Oper} {rest : List Oper} {o : Oper} {a : Act} {Q : Exit → Act → World → Prop} (hgd : o.guard = none) (s x : Operand) (t : TypeId)
  (ho : o.op = .call { callee := .builtin .append, args := #[s, x], argTypes := #[t, t] })
  (base : Nat) (e : TypeId) (z : Value) (bytes : Nat) (ht : P.underlying t = some (.slice e)) (hinf : (P.info? e).map (fun i => (i.zero, i.size, i.bytes)) = some (some z, 1, bytes)) (hzs : z.cells.size = 1)
  (v : Value) (n : Nat) (xs : List Value) (hs : a.eval s = v) (u : Value) (hu : u.oneCell' = true) (hx : a.eval x = .slice (some ⟨w.heap.size, 0, none⟩) 1 1)
  (hown : w.ownsRow base e 1 v n xs) (h63 : n + 1 ≤ maxLen) (hbytes : (n + 1) * bytes ≤ 140737488355328) (hbase : base ≤ w.heap.size)
  (h : ∀ v' w', w'.ownsRow base e 1 v' (n + 1) (xs ++ [u]) → Below base w w' → w.grownBy w' v.ownBlock → w.heap.size < w'.heap.size → (v'.ownBlock = v.ownBlock ∨ ∃ g, v'.ownBlock = some g ∧ w.heap.size ≤ g ∧ g < w'.heap.size) → wpList P ops Q rest (a.put o.dst v') w') :
  wpList P ops Q (o :: rest) a (w.alloc (.cells #[u] e)) := by
 obtain ⟨i, hi, hz0, hz1, hz2⟩ := info_parts hinf
 have hown1 := hown.alloc (.cells #[u] e)
 have hcell : (w.alloc (.cells #[u] e)).cell? ⟨w.heap.size, 0, none⟩ = some u := by rw [World.cell?_alloc_at _ _ _ _ rfl]; rfl
 have hnews : ∀ j u', ([u] : List Value)[j]? = some u' → (w.alloc (.cells #[u] e)).cell? ((⟨w.heap.size, 0, none⟩ : Addr).add j) = some u' := by
  intro j u' hj
  match j, hj with
  | 0, hj =>
   have : u = u' := by simpa using hj
   subst this
   exact hcell
 obtain ⟨v', w', hrun, h2, h3, _, h5⟩ := run_append_own_at (P := P) (w.alloc (.cells #[u] e)) base t o.type e i z 1 bytes ht hi hz0 hz1 hz2 hzs (by decide) v n xs hown1 ⟨w.heap.size, 0, none⟩ 1 1 [u] rfl hnews
  (by intro u' hu'; obtain rfl : u' = u := (by simpa using hu'); exact hu) h63 hbytes (by simp; omega)
 have hg : w.grownBy w' v.ownBlock := by
  have h0 := World.grownBy_alloc w (.cells #[u] e) v.ownBlock
  exact ⟨h3.os.trans h0.os, h3.tape.trans h0.tape, h3.output.trans h0.output, Nat.le_trans h0.size h3.size, fun k hk hne => (h3.block k (Nat.lt_of_lt_of_le hk h0.size) hne).trans (h0.block k hk hne)⟩
 have hsz : w.heap.size < w'.heap.size := by have := h3.size; simp at this; omega
 have hB : Below base w w' := (Below.refl base w).grown hg hbase (fun k hk => (hown.lt k hk).1)
 refine wpList_plain hgd fun K hK => ?_
 unfold Oper.wp execOp
 simp only [ho, resolve, invoke, builtin, Sem.run_bind, Sem.run_pure, Result.andThen_ok, List.map_toArray, List.map_cons, List.map_nil, hs, hx, hrun]
 refine hK _ _ (h v' w' h2 hB hg hsz ?_)
 rcases h5 with h5 | h5
 ·
  exact .inl h5
 ·
  refine .inr ⟨_, h5, by simp, ?_⟩
  exact (h2.lt _ h5).2
theorem own_some {w : World} {base : Nat} {e : TypeId} {v : Value} {n : Nat} {xs : List Value} (h : w.ownsRow base e 1 v n xs) (hn : 0 < n) :
    ∃ g cap, v = .slice (some ⟨g, 0, none⟩) n cap ∧ n ≤ cap ∧ cap ≤ maxLen ∧ base ≤ g ∧ g < w.heap.size := by
  have hl := h.lt
  rcases h.2 with ⟨_, e⟩ | ⟨g, cap, cur, e, h1, _, h5, h6, _⟩
  · omega
  · exact ⟨g, cap, e, h5, h6, h1, (hl g (by rw [e]; rfl)).2⟩
end Go.Proofs.YtcfbkickiijjkaaGreatDoor
namespace Go.Proofs.YtcfbkickiijjkaaGreatDoor
open Go
set_option linter.all false
def strV (l : List UInt8) : Value := .string ⟨l.toArray⟩
def spl (b : UInt8) : List UInt8 → List UInt8 → List (List UInt8)
  | [], cur => [cur]
  | c :: l, cur => if c = b then cur :: spl b l [] else spl b l (cur ++ [c])
theorem spl_cons (b c : UInt8) (l cur : List UInt8) : spl b (c :: l) cur = if c = b then cur :: spl b l [] else spl b l (cur ++ [c]) := rfl
theorem spl_len (b : UInt8) : ∀ (l cur : List UInt8), (spl b l cur).length = l.count b + 1
  | [], cur => rfl
  | c :: l, cur => by
    rw [spl_cons]
    by_cases h : c = b
    · rw [if_pos h]; subst h; simp [spl_len]
    · rw [if_neg h]; simp [spl_len, h]
theorem spl_none (b : UInt8) : ∀ (l cur : List UInt8), Lib.indexByte l b = -1 → spl b l cur = [cur ++ l] ∧ l.count b = 0
  | [], cur, _ => by simp [spl]
  | c :: l, cur, h => by
    unfold Lib.indexByte at h
    have hg := Lib.indexByte_ge l b
    by_cases hc : c = b
    · simp [hc] at h
    · simp only [beq_iff_eq, hc, if_false] at h
      have h' : Lib.indexByte l b = -1 := by
        split at h
        · assumption
        · omega
      obtain ⟨e, k⟩ := spl_none b l (cur ++ [c]) h'
      rw [spl_cons, if_neg hc, e]
      simp [k, hc]
theorem spl_some (b : UInt8) : ∀ (l cur : List UInt8) (i : Nat), Lib.indexByte l b = i → spl b l cur = (cur ++ l.take i) :: spl b (l.drop (i + 1)) [] ∧ l.count b = (l.drop (i + 1)).count b + 1
  | [], cur, i, h => by simp [Lib.indexByte] at h
  | c :: l, cur, i, h => by
    unfold Lib.indexByte at h
    by_cases hc : c = b
    · simp only [beq_iff_eq, hc, if_true] at h
      obtain rfl : i = 0 := by omega
      rw [spl_cons, if_pos hc]
      subst hc
      simp
    · simp only [beq_iff_eq, hc, if_false] at h
      have hg := Lib.indexByte_ge l b
      have h1 : Lib.indexByte l b ≠ -1 := by intro e; simp [e] at h
      rw [if_neg (by simpa using h1)] at h
      obtain ⟨j, hj⟩ : ∃ j : Nat, Lib.indexByte l b = j := ⟨(Lib.indexByte l b).toNat, by omega⟩
      obtain rfl : i = j + 1 := by omega
      obtain ⟨e, k⟩ := spl_some b l (cur ++ [c]) j hj
      rw [spl_cons, if_neg hc, e]
      simp [k, hc]
theorem splitK_one (b : UInt8) : ∀ (n : Nat) (l : List UInt8), l.count b = n → Lib.splitK [b] 0 n l = spl b l []
  | 0, l, h => by
    rcases Int.lt_or_le (Lib.indexByte l b) 0 with h' | h'
    · have hg := Lib.indexByte_ge l b
      have := (spl_none b l [] (by omega)).1
      simpa [Lib.splitK] using this.symm
    · have := (spl_some b l [] (Lib.indexByte l b).toNat (by omega)).2
      omega
  | n + 1, l, h => by
    rcases Int.lt_or_le (Lib.indexByte l b) 0 with h' | h'
    · have hg := Lib.indexByte_ge l b
      have := (spl_none b l [] (by omega)).2
      omega
    · obtain ⟨e, k⟩ := spl_some b l [] (Lib.indexByte l b).toNat (by omega)
      unfold Lib.splitK
      rw [Lib.index_one, if_neg (by simp; omega), e]
      simp only [List.length_cons, List.length_nil, Nat.zero_add, Nat.add_zero, List.nil_append]
      rw [splitK_one b n _ (by omega)]
theorem countB_one (s : ByteArray) (b : UInt8) : Lib.countB s ⟨#[b]⟩ = s.data.toList.count b := by
  show Lib.count s.data.toList [b] = _
  exact Lib.count_one b _
theorem map_strV (l : List ByteArray) : l.map Value.string = (l.map (·.data.toList)).map strV := by
  induction l with
  | nil => rfl
  | cons x l ih => simp [ih, strV]
theorem splitB_one (s : ByteArray) (b : UInt8) : (Lib.splitB ⟨#[b]⟩ 0 (Lib.countB s ⟨#[b]⟩) s).map Value.string = (spl b s.data.toList []).map strV := by
  rw [map_strV, Lib.splitB_data, countB_one]
  exact congrArg (List.map strV) (splitK_one b _ _ rfl)
theorem extract_strV (s : ByteArray) (f k : Nat) : Value.string (s.extract f k) = strV ((s.data.toList.take k).drop f) := by
  unfold strV
  congr 1
  apply ByteArray.ext
  apply Array.ext'
  rw [Lib.extract_data]
  show _ = List.drop f (List.take k s.data.toList)
  rw [List.drop_take]
theorem drop_at (s : ByteArray) (k : Nat) (h : k < s.size) : s.data.toList.drop k = s[k] :: s.data.toList.drop (k + 1) := by
  rw [List.drop_eq_getElem_cons (by simpa using h)]; rfl
theorem take_at (s : ByteArray) (k : Nat) (h : k < s.size) : s.data.toList.take (k + 1) = s.data.toList.take k ++ [s[k]] := by
  rw [List.take_succ_eq_append_getElem (by simpa using h)]; rfl
theorem spl_snoc (b : UInt8) : ∀ (l cur : List UInt8), spl b (l ++ [b]) cur = spl b l cur ++ [[]]
  | [], cur => by simp [spl]
  | c :: l, cur => by
    simp only [List.cons_append]
    rw [spl_cons, spl_cons]
    by_cases h : c = b
    · rw [if_pos h, if_pos h, spl_snoc b l []]; rfl
    · rw [if_neg h, if_neg h, spl_snoc b l (cur ++ [c])]
theorem suffix_one (l : List UInt8) (b : UInt8) : Lib.hasSuffix l [b] = true ↔ ∃ r, l = r ++ [b] := by
  unfold Lib.hasSuffix
  rw [List.isSuffixOf_iff_suffix]
  constructor
  · rintro ⟨r, h⟩; exact ⟨r, h.symm⟩
  · rintro ⟨r, h⟩; exact ⟨r, h.symm⟩
theorem trim_one (r : List UInt8) (b : UInt8) : Lib.trimSuffix (r ++ [b]) [b] = r := by
  unfold Lib.trimSuffix
  rw [if_pos ((suffix_one _ _).2 ⟨r, rfl⟩)]
  simp
end Go.Proofs.YtcfbkickiijjkaaGreatDoor
namespace Go.Proofs.YtcfbkickiijjkaaGreatDoor
open Go.RowKit
set_option linter.all false

theorem conv_at (W : World) (g : Nat) (x : Int) (h0 : 0 ≤ x) (h1 : x < 256) (hc : W.cell? ⟨g, 0, none⟩ = some (.int .u8 x)) :
    (convert 90 9 (.slice (some ⟨g, 0, none⟩) 1 1)).run Tryz.prog W = .ok (strV [UInt8.ofNat x.toNat]) W := by
  refine run_convert_bytes_back (P := Tryz.prog) W 90 9 5 ⟨g, 0, none⟩ 1 [UInt8.ofNat x.toNat] Tryz.underlying90 Tryz.underlying5 Tryz.underlying9 ?_
  intro j hj
  obtain rfl : j = 0 := by simpa using hj
  have : ((UInt8.ofNat x.toNat).toNat : Int) = x := by
    rw [UInt8.toNat_ofNat']
    omega
  show W.cell? ⟨g, 0, none⟩ = some (Value.int .u8 ((UInt8.ofNat x.toNat).toNat : Int))
  rw [this, hc]
theorem conv1 (W : World) (x : Int) (h0 : 0 ≤ x) (h1 : x < 256) :
    (convert 90 9 (.slice (some ⟨W.heap.size, 0, none⟩) 1 1)).run Tryz.prog (W.alloc (.cells #[.int .u8 x] 5)) = .ok (strV [UInt8.ofNat x.toNat]) (W.alloc (.cells #[.int .u8 x] 5)) :=
  conv_at _ _ x h0 h1 (by rw [World.cell?_alloc_at _ _ _ _ rfl]; rfl)
theorem cat_vv (a b : List UInt8) (h : a.length + b.length ≤ 1000000000000000) (W : World) : (binOp .add 9 (strV a) (strV b)).run Tryz.prog W = .ok (strV (a ++ b)) W := by
  unfold strV
  have h1 : (ByteArray.mk a.toArray).size = a.length := by rw [Lib.size_eq]
  have h2 : (ByteArray.mk b.toArray).size = b.length := by rw [Lib.size_eq]
  rw [binOp_string_add, run_string_add_sum _ _ _ (by omega), ByteArray.mk_append_mk]
theorem cat_cv (s : ByteArray) (b : List UInt8) (h : s.size + b.length ≤ 1000000000000000) (W : World) : (binOp .add 9 (.string s) (strV b)).run Tryz.prog W = .ok (strV (s.data.toList ++ b)) W :=
  cat_vv s.data.toList b (by rw [Lib.size_eq] at h; exact h) W
theorem cat_vc (a : List UInt8) (s : ByteArray) (h : a.length + s.size ≤ 1000000000000000) (W : World) : (binOp .add 9 (strV a) (.string s)).run Tryz.prog W = .ok (strV (a ++ s.data.toList)) W :=
  cat_vv a s.data.toList (by rw [Lib.size_eq] at h; exact h) W
theorem dec_len : ∀ (f n : Nat), n < f → (Lib.decDigits n).length ≤ n + 1
  | 0, n, h => by omega
  | f + 1, n, h => by
    rw [Lib.decDigits]
    split
    · simp
    · have := dec_len f (n / 10) (by omega)
      simp
      omega
theorem dec_small {n : Nat} (h : n < 10) : Lib.decDigits n = [UInt8.ofNat (48 + n)] := Lib.decDigits_one h
theorem dec_big {n : Nat} (h : ¬ n < 10) : Lib.decDigits n = Lib.decDigits (n / 10) ++ [UInt8.ofNat (48 + n % 10)] := by rw [Lib.decDigits, dif_neg h]
set_option maxRecDepth 100000 in
theorem l1Num_any (f : Nat) : ∀ (x : Int) (w : World), 0 ≤ x → x < f → x ≤ 1000000000 →
  Calls Tryz.prog 58 #[.int .i64 x] w fun e w' => e = .returned (strV (Lib.decDigits x.toNat)) ∧ Below w.heap.size w w' := by
 induction f with
 | zero => intro x w h0 h; omega
 | succ f ih =>
  intro x w h0 hf hn
  have IH := Lib.hid ih; clear ih
  by_cases h : x < 10
  ·
   have H1 := Lib.hid (dec_small (n := x.toNat) (by omega))
   have hcv := fun W => conv1 W (48 + x) (by omega) (by omega)
   have H2 := Lib.hid (show (48 + x).toNat = 48 + x.toNat by omega)
   go_enter Tryz.func58, Tryz.ntmps58
   go_wp2_with fail
   go_ret
   exact ⟨ret_val (by rw [H1.out, ← H2.out]; rfl), bl_alloc (Below.refl _ _) _⟩
  ·
   have H1 := Lib.hid (dec_big (n := x.toNat) (by omega))
   have hcv := fun W g => conv_at W g (48 + x % 10) (by omega) (by omega)
   go_enter Tryz.func58, Tryz.ntmps58
   go_wp2_with fail
   have hx1 : 0 ≤ x / 10 := by omega
   have hx2 : x / 10 < f := by omega
   have hx3 : x / 10 ≤ 1000000000 := by omega
   have hl := dec_len ((x / 10).toNat + 1) (x / 10).toNat (by omega)
   have H2 := Lib.hid (show (48 + x % 10).toNat = 48 + x.toNat % 10 by omega)
   have H3 := Lib.hid (show (x / 10).toNat = x.toNat / 10 by omega)
   have hcat := fun W => cat_vv (Lib.decDigits (x / 10).toNat) [UInt8.ofNat (48 + x % 10).toNat] (by simp; omega) W
   have C := Lib.hid (fun W => IH.out (x / 10) W hx1 hx2 hx3)
   clear IH hl
   have e1 : IntKind.i64.wrap (x / 10) = x / 10 := IntWalk.i64_in _ (by omega)
   have e3 : IntKind.i64.wrap (48 + x % 10) = 48 + x % 10 := IntWalk.i64_in _ (by omega)
   have e4 : IntKind.u8.wrap (48 + x % 10) = 48 + x % 10 := IntWalk.u8_in _ (by omega)
   have e0 : x.tdiv 10 = x / 10 := Int.tdiv_eq_ediv_of_nonneg h0
   have e2 : x.tmod 10 = x % 10 := Int.tmod_eq_emod_of_nonneg h0
   clear h0 hf hn h hx1 hx2 hx3
   go_region_with (go_at_call 58; refine (C.out _).mono ?_; rintro e w1 ⟨rfl, hb1⟩; have hx := @Below.cell _ _ _ hb1 ⟨w.heap.size, 0, none⟩)
   all_goals
    go_wp2_with fail
    go_ret
    exact ⟨ret_val (by rw [H1.out, ← H2.out, ← H3.out]; rfl), by first | exact bl_alloc (bl_trans (Below.refl _ _).drew hb1) _ | exact bl_trans (bl_alloc (Below.refl _ _).drew _) hb1 | exact bl_trans (bl_alloc (Below.refl _ _) _).drew hb1⟩
def joinL (sep : List UInt8) : List (List UInt8) → List UInt8
  | [] => []
  | [x] => x
  | x :: y :: r => x ++ (sep ++ joinL sep (y :: r))
theorem joinL_snoc (sep x : List UInt8) : ∀ l : List (List UInt8), l ≠ [] → joinL sep (l ++ [x]) = joinL sep l ++ (sep ++ x)
  | [], h => absurd rfl h
  | [y], _ => rfl
  | y :: z :: r, _ => by
    have := joinL_snoc sep x (z :: r) (by simp)
    simp only [List.cons_append] at this ⊢
    simp only [joinL, this, List.append_assoc]
theorem joinL_len (sep : List UInt8) (M : Nat) : ∀ l : List (List UInt8), (∀ x ∈ l, x.length ≤ M) → (joinL sep l).length ≤ l.length * (M + sep.length)
  | [], _ => by simp [joinL]
  | [x], h => by have := h x (by simp); simp [joinL]; omega
  | x :: y :: r, h => by
    have h1 := joinL_len sep M (y :: r) (fun z hz => h z (by simp at hz ⊢; right; exact hz))
    have h2 := h x (by simp)
    simp only [joinL, List.length_append]
    have e : (x :: y :: r).length * (M + sep.length) = (y :: r).length * (M + sep.length) + (M + sep.length) := by simp [Nat.succ_mul]
    omega
def numT (x : Int) : List UInt8 := Lib.decDigits x.toNat
def numsT (sep : List UInt8) (xs : List Int) : List UInt8 := joinL sep (xs.map numT)
theorem numT_len {x : Int} {M : Nat} (h0 : 0 ≤ x) (h : x ≤ M) : (numT x).length ≤ M + 1 := by
  have := dec_len (x.toNat + 1) x.toNat (by omega)
  unfold numT
  omega
theorem numsT_len {sep : List UInt8} {xs : List Int} {M : Nat} (h : ∀ x ∈ xs, 0 ≤ x ∧ x ≤ M) : (numsT sep xs).length ≤ xs.length * (M + 1 + sep.length) := by
  have := joinL_len sep (M + 1) (xs.map numT) (by
    intro l hl
    obtain ⟨x, hx, rfl⟩ := List.mem_map.1 hl
    exact numT_len (h x hx).1 (h x hx).2)
  simpa [numsT] using this
theorem numsT_take (sep : List UInt8) (xs : List Int) (k : Nat) (x : Int) (h : xs[k]? = some x) : numsT sep (xs.take (k + 1)) = if k = 0 then numT x else numsT sep (xs.take k) ++ (sep ++ numT x) := by
  obtain ⟨hk, rfl⟩ := List.getElem?_eq_some_iff.1 h
  unfold numsT
  rw [List.take_succ_eq_append_getElem hk, List.map_append]
  by_cases e : k = 0
  · subst e; simp [joinL]
  · rw [if_neg e]
    refine joinL_snoc sep _ _ ?_
    intro h0
    have : ((xs.take k).map numT).length = 0 := by rw [h0]; rfl
    rw [List.length_map, List.length_take] at this
    omega
theorem spec_l1Num (x : Int) (w : World) (h0 : 0 ≤ x) (h1 : x ≤ 1000000000) :
    Calls Tryz.prog 58 #[.int .i64 x] w fun e w' => e = .returned (strV (numT x)) ∧ Below w.heap.size w w' := l1Num_any (x.toNat + 1) x w h0 (by omega) h1
def JoinRel (sep : List UInt8) (xs : List Int) (w : World) (o i : Value) (wr : World) : Prop :=
  ∃ k : Nat, k ≤ xs.length ∧ i = .int .i64 k ∧ o = strV (numsT sep (xs.take k)) ∧ Below w.heap.size w wr
theorem srJoin_any (v : Value) (xs : List Int) (s : ByteArray) (w : World) (h : IntsR w w.heap.size v xs) (hx : ∀ x ∈ xs, 0 ≤ x ∧ x ≤ 1000000) (hn : xs.length ≤ 1000) (hs : s.size ≤ 10) :
  Calls Tryz.prog 120 #[v, .string s] w fun e w' => e = .returned (strV (numsT s.data.toList xs)) ∧ Below w.heap.size w w' := by
 obtain ⟨A, c, rfl, h1, h2, h3⟩ := h.open_
 unfold maxLen at h2
 clear h
 have H3 := Lib.hid h3; clear h3
 have HX := Lib.hid hx; clear hx
 have hsl : s.data.toList.length ≤ 10 := by rw [← Lib.size_eq]; exact hs
 go_enter Tryz.func120, Tryz.ntmps120
 go_wp2_with fail
 go_loopw [5, 6, 7, 10] (fun o _ _ i wr => JoinRel s.data.toList xs w o i wr) (fun _ _ _ i _ => xs.length - (intOf i).toNat)
 case atStart => exact ⟨0, Nat.zero_le _, rfl, rfl, Below.refl _ _⟩
 case round =>
  obtain ⟨k, hk, rfl, rfl, hbl⟩ := hrel
  by_cases hlt : k < xs.length
  ·
   obtain ⟨x, hx⟩ : ∃ x, xs[k]? = some x := ⟨xs[k], List.getElem?_eq_getElem hlt⟩
   obtain ⟨ad, rfl, hb, hc⟩ := H3.out (by omega)
   have hcell : wr.cell? (ad.add k) = some (.int .i64 x) := (hbl.cell (p := ad.add k) (by rw [block_add]; exact hb)).trans (hc k x hx)
   clear hc
   have HN := Lib.hid (numsT_take s.data.toList xs k x hx)
   have bx := HX.out x (List.mem_of_getElem? hx)
   have hl1 : (numT x).length ≤ 1000001 := numT_len bx.1 bx.2
   have hl2 : (numsT s.data.toList (xs.take k)).length ≤ 1000 * 1000011 := by
    refine Nat.le_trans (numsT_len (M := 1000000) (fun y hy => HX.out y (List.mem_of_mem_take hy))) ?_
    have e1 : (xs.take k).length ≤ 1000 := by simp; omega
    exact Nat.mul_le_mul e1 (by omega)
   clear hx
   generalize hcur : numsT s.data.toList (xs.take k) = cur at *
   have HC := Lib.hid hcur; clear hcur
   by_cases e : k = 0
   ·
    have t3 : ¬ (0 : Int) < (k : Int) := by omega
    have c2 := fun W => cat_vv cur (numT x) (by omega) W
    have H1 := Lib.hid (show numsT s.data.toList (xs.take (k + 1)) = numT x by rw [HN.out, if_pos e])
    have H0 := Lib.hid (show cur = [] by rw [← HC.out, e]; rfl)
    clear e
    go_wp2_with (go_at_call 58; refine (spec_l1Num x _ bx.1 (by omega)).mono ?_; rintro e w1 ⟨rfl, hb1⟩)
    go_roundw
    case rel => exact ⟨k + 1, by omega, by go_num, by rw [H1.out, H0.out]; rfl, bl_trans hbl hb1⟩
    case measure => simp [intOf]; omega
   ·
    have t3 : (0 : Int) < (k : Int) := by omega
    have c1 := fun W => cat_vc cur s (by omega) W
    have c2 := fun W => cat_vv (cur ++ s.data.toList) (numT x) (by rw [List.length_append]; omega) W
    have H1 := Lib.hid (show numsT s.data.toList (xs.take (k + 1)) = cur ++ s.data.toList ++ numT x by rw [HN.out, if_neg e, List.append_assoc])
    clear e
    go_wp2_with (go_at_call 58; refine (spec_l1Num x _ bx.1 (by omega)).mono ?_; rintro e w1 ⟨rfl, hb1⟩)
    go_roundw
    case rel => exact ⟨k + 1, by omega, by go_num, by rw [H1.out, List.append_assoc], bl_trans hbl hb1⟩
    case measure => simp [intOf]; omega
  ·
   have e1 : xs.take k = xs := List.take_of_length_le (by omega)
   rw [e1]
   clear e1
   go_wp2_with fail
   go_ret
   exact ⟨rfl, hbl⟩
end Go.Proofs.YtcfbkickiijjkaaGreatDoor
namespace Go.Proofs
open Go.Shelf
def Tryz.lays156_ren : Go.Shelf.Ren := ⟨fun | 156 => 131 | 165 => 172 | 166 => 71 | 169 => 72 | 240 => 110 | 241 => 206 | 276 => 132 | 277 => 221 | n => n, fun | 31 => 114 | 9 => 9 | 3 => 3 | 4 => 4 | 0 => 0 | 20 => 20 | 72 => 108 | 76 => 111 | 70 => 106 | 37 => 90 | 75 => 110 | 127 => 138 | 164 => 152 | 5 => 5 | 80 => 113 | n => n, fun | n => n⟩
theorem Tryz.lays156 : Go.Proofs.Lays.n156 Tryz.prog Tryz.lays156_ren := {
 mixed := by kernel_rfl
 f156 := Tryz.func131.trans (congrArg some (by kernel_rfl))
 f165 := Tryz.func172.trans (congrArg some (by kernel_rfl))
 f166 := Tryz.func71.trans (congrArg some (by kernel_rfl))
 f169 := Tryz.func72.trans (congrArg some (by kernel_rfl))
 f240 := Tryz.func110.trans (congrArg some (by kernel_rfl))
 f241 := Tryz.func206.trans (congrArg some (by kernel_rfl))
 f276 := Tryz.func132.trans (congrArg some (by kernel_rfl))
 f277 := Tryz.func221.trans (congrArg some (by kernel_rfl))
 t0 := Tryz.underlying0
 a0 := Tryz.isAgg0
 z0 := Tryz.sizeOf0
 v0 := Tryz.zeroValue0
 t3 := Tryz.underlying3
 a3 := Tryz.isAgg3
 z3 := Tryz.sizeOf3
 v3 := Tryz.zeroValue3
 t4 := Tryz.underlying4
 a4 := Tryz.isAgg4
 z4 := Tryz.sizeOf4
 v4 := Tryz.zeroValue4
 t9 := Tryz.underlying9
 a9 := Tryz.isAgg9
 z9 := Tryz.sizeOf9
 v9 := Tryz.zeroValue9
 t20 := Tryz.underlying20
 a20 := Tryz.isAgg20
 z20 := Tryz.sizeOf20
 v20 := Tryz.zeroValue20
 t31 := Tryz.underlying114
 a31 := Tryz.isAgg114
 z31 := Tryz.sizeOf114
 v31 := Tryz.zeroValue114
 t37 := Tryz.underlying90
 a37 := Tryz.isAgg90
 z37 := Tryz.sizeOf90
 v37 := Tryz.zeroValue90
 t70 := Tryz.underlying106
 a70 := Tryz.isAgg106
 z70 := Tryz.sizeOf106
 v70 := Tryz.zeroValue106
 t72 := Tryz.underlying108
 a72 := Tryz.isAgg108
 z72 := Tryz.sizeOf108
 v72 := Tryz.zeroValue108
 t75 := Tryz.underlying110
 a75 := Tryz.isAgg110
 z75 := Tryz.sizeOf110
 v75 := Tryz.zeroValue110
 t76 := Tryz.underlying111
 a76 := Tryz.isAgg111
 z76 := Tryz.sizeOf111
 v76 := Tryz.zeroValue111
 t127 := Tryz.underlying138
 a127 := Tryz.isAgg138
 z127 := Tryz.sizeOf138
 v127 := Tryz.zeroValue138
 t164 := Tryz.underlying152
 a164 := Tryz.isAgg152
 z164 := Tryz.sizeOf152
 v164 := Tryz.zeroValue152 }
theorem Tryz.Builder_Extra_156 : Builder.Extra Tryz.prog Tryz.lays156_ren := {
  sizeBuilder := by kernel_rfl
  liesBuilder := by kernel_rfl
  t5 := Tryz.underlying5
  a5 := Tryz.isAgg5
  z5 := Tryz.sizeOf5
  v5 := Tryz.zeroValue5
  infoByte := by kernel_rfl
  cellsByte := by kernel_rfl
  sizeByte := by kernel_rfl
  neB5 := by decide }
open Go.RowKit in
/-- No element: the empty string; the world is as it was. (Whatever the slice's address and capacity: a nil slice too.) (LAID: no walk: one application.) -/
theorem Tryz.strings_Join_none (a : Option Addr) (c : Nat) (sep : ByteArray) (w : World) :
    Calls Tryz.prog 131 #[.slice a 0 c, .string sep] w fun e w' => e = .returned (.string ⟨#[]⟩) ∧ w' = w := Any.strings_Join_none Tryz.lays156 Tryz.Builder_Extra_156 a c sep w
open Go.RowKit in
/-- strings.Join: "Join concatenates the elements of its first argument to create a single string. The separator string sep is placed between elements in the resulting string.": HOWEVER MANY ELEMENTS. Below the heap's end the world is as it was. (LAID: no walk: one application.) -/
theorem Tryz.strings_Join (bk o c : Nat) (xs : List ByteArray) (sep : ByteArray) (w : World) (hcells : ∀ (j : Nat) x, xs[j]? = some x → w.cell? ⟨bk, o + j, none⟩ = some (.string x)) (hbk : bk < w.heap.size) (hN : xs.length ≤ 140737488355328) (hcap : xs.length ≤ c) (hlen : (Lib.join (xs.map (·.data.toList)) sep.data.toList).length ≤ 140737488355328) :
    Calls Tryz.prog 131 #[.slice (some ⟨bk, o, none⟩) xs.length c, .string sep] w fun e w' => e = .returned (.string ⟨(Lib.join (xs.map (·.data.toList)) sep.data.toList).toArray⟩) ∧ Below w.heap.size w w' := Any.strings_Join Tryz.lays156 Tryz.Builder_Extra_156 bk o c xs sep w hcells hbk hN hcap hlen
def Tryz.lays104_ren : Go.Shelf.Ren := ⟨fun | 104 => 112 | 211 => 136 | 207 => 174 | n => n, fun | 9 => 9 | 4 => 4 | 24 => 140 | 3 => 3 | n => n, fun | n => n⟩
theorem Tryz.lays104 : Go.Proofs.Lays.n104 Tryz.prog Tryz.lays104_ren := {
  mixed := by kernel_rfl
  f104 := Tryz.func112.trans (congrArg some (by kernel_rfl))
  f207 := Tryz.func174.trans (congrArg some (by kernel_rfl))
  f211 := Tryz.func136.trans (congrArg some (by kernel_rfl))
  t3 := Tryz.underlying3
  a3 := Tryz.isAgg3
  z3 := Tryz.sizeOf3
  v3 := Tryz.zeroValue3
  t4 := Tryz.underlying4
  a4 := Tryz.isAgg4
  z4 := Tryz.sizeOf4
  v4 := Tryz.zeroValue4
  t9 := Tryz.underlying9
  a9 := Tryz.isAgg9
  z9 := Tryz.sizeOf9
  v9 := Tryz.zeroValue9
  t24 := Tryz.underlying140
  a24 := Tryz.isAgg140
  z24 := Tryz.sizeOf140
  v24 := Tryz.zeroValue140 }
open Go.RowKit in
/-- strings.CutSuffix: "CutSuffix returns s without the provided ending suffix string and reports whether it found the suffix. If s doesn't end with suffix, CutSuffix returns s, false. If suffix is the empty string, CutSuffix returns s, true.": IT RETURNS '(Lib.trimSuffix s p, Lib.hasSuffix s p)'; the world is as it was. (LAID: no walk: one application.) -/
theorem Tryz.strings_CutSuffix (s p : ByteArray) (w : World) (hs : s.size ≤ 9223372036854775807) :
    Calls Tryz.prog 112 #[.string s, .string p] w fun e w' => e = .returned (.tuple #[.string ⟨(Lib.trimSuffix s.data.toList p.data.toList).toArray⟩, .bool (Lib.hasSuffix s.data.toList p.data.toList)]) ∧ w' = w := Any.strings_CutSuffix Tryz.lays104 s p w hs
def Tryz.laysM171_ren : Go.Shelf.Ren := ⟨fun | 171 => 68 | 243 => 107 | 246 => 129 | 283 => 168 | 284 => 169 | 285 => 170 | 286 => 171 | 129 => 202 | 317 => 201 | 318 => 203 | 319 => 204 | 320 => 205 | 337 => 219 | 338 => 220 | n => n, fun | 3 => 3 | 9 => 9 | 2 => 2 | 4 => 4 | 171 => 183 | 0 => 0 | 53 => 184 | 37 => 90 | 5 => 5 | 173 => 187 | 212 => 213 | 51 => 214 | 20 => 20 | 213 => 215 | 46 => 149 | 232 => 242 | 233 => 243 | n => n, fun | 17 => 1 | 18 => 6 | 19 => 7 | n => n⟩
theorem Tryz.laysM171 : Go.Proofs.LaysM.n171 Tryz.prog Tryz.laysM171_ren := {
 mixed := by kernel_rfl
 f129 := Tryz.func202.trans (congrArg some (by kernel_rfl))
 f171 := Tryz.func68.trans (congrArg some (by kernel_rfl))
 f243 := Tryz.func107.trans (congrArg some (by kernel_rfl))
 f246 := Tryz.func129.trans (congrArg some (by kernel_rfl))
 f283 := Tryz.func168.trans (congrArg some (by kernel_rfl))
 f284 := Tryz.func169.trans (congrArg some (by kernel_rfl))
 f285 := Tryz.func170.trans (congrArg some (by kernel_rfl))
 f286 := Tryz.func171.trans (congrArg some (by kernel_rfl))
 f317 := Tryz.func201.trans (congrArg some (by kernel_rfl))
 f318 := Tryz.func203.trans (congrArg some (by kernel_rfl))
 f319 := Tryz.func204.trans (congrArg some (by kernel_rfl))
 f320 := Tryz.func205.trans (congrArg some (by kernel_rfl))
 f337 := Tryz.func219.trans (congrArg some (by kernel_rfl))
 f338 := Tryz.func220.trans (congrArg some (by kernel_rfl))
 t0 := Tryz.underlying0
 a0 := Tryz.isAgg0
 z0 := Tryz.sizeOf0
 v0 := Tryz.zeroValue0
 t2 := Tryz.underlying2
 a2 := Tryz.isAgg2
 z2 := Tryz.sizeOf2
 v2 := Tryz.zeroValue2
 t3 := Tryz.underlying3
 a3 := Tryz.isAgg3
 z3 := Tryz.sizeOf3
 v3 := Tryz.zeroValue3
 t4 := Tryz.underlying4
 a4 := Tryz.isAgg4
 z4 := Tryz.sizeOf4
 v4 := Tryz.zeroValue4
 t5 := Tryz.underlying5
 a5 := Tryz.isAgg5
 z5 := Tryz.sizeOf5
 v5 := Tryz.zeroValue5
 t9 := Tryz.underlying9
 a9 := Tryz.isAgg9
 z9 := Tryz.sizeOf9
 v9 := Tryz.zeroValue9
 t20 := Tryz.underlying20
 a20 := Tryz.isAgg20
 z20 := Tryz.sizeOf20
 v20 := Tryz.zeroValue20
 t37 := Tryz.underlying90
 a37 := Tryz.isAgg90
 z37 := Tryz.sizeOf90
 v37 := Tryz.zeroValue90
 t46 := Tryz.underlying149
 a46 := Tryz.isAgg149
 z46 := Tryz.sizeOf149
 v46 := Tryz.zeroValue149
 t51 := Tryz.underlying214
 a51 := Tryz.isAgg214
 z51 := Tryz.sizeOf214
 v51 := Tryz.zeroValue214
 t53 := Tryz.underlying184
 a53 := Tryz.isAgg184
 z53 := Tryz.sizeOf184
 v53 := Tryz.zeroValue184
 t171 := Tryz.underlying183
 a171 := Tryz.isAgg183
 z171 := Tryz.sizeOf183
 v171 := Tryz.zeroValue183
 t173 := Tryz.underlying187
 a173 := Tryz.isAgg187
 z173 := Tryz.sizeOf187
 v173 := Tryz.zeroValue187
 t212 := Tryz.underlying213
 a212 := Tryz.isAgg213
 z212 := Tryz.sizeOf213
 v212 := Tryz.zeroValue213
 t213 := Tryz.underlying215
 a213 := Tryz.isAgg215
 z213 := Tryz.sizeOf215
 t232 := Tryz.underlying242
 a232 := Tryz.isAgg242
 z232 := Tryz.sizeOf242
 v232 := Tryz.zeroValue242
 t233 := Tryz.underlying243
 a233 := Tryz.isAgg243
 z233 := Tryz.sizeOf243
 v233 := Tryz.zeroValue243
 g17 := by kernel_rfl
 g18 := by kernel_rfl
 g19 := by kernel_rfl
 i0 := by kernel_rfl
 i2 := by kernel_rfl
 i3 := by kernel_rfl
 i4 := by kernel_rfl
 i5 := by kernel_rfl
 i9 := by kernel_rfl
 i20 := by kernel_rfl
 i37 := by kernel_rfl
 i46 := by kernel_rfl
 i51 := by kernel_rfl
 i53 := by kernel_rfl
 i171 := by kernel_rfl
 i173 := by kernel_rfl
 i212 := by kernel_rfl
 i232 := by kernel_rfl
 i233 := by kernel_rfl
 m17 := by kernel_rfl
 m18 := by kernel_rfl
 m19 := by kernel_rfl }
open Go.RowKit Go.Sort Go.Lib in
/-- strconv.Itoa: "Itoa is equivalent to FormatInt(int64(i), 10).": i's DECIMAL NUMERAL ('Lib.itoa': a '-' where i is negative, then the digits), FOR EVERY int. The world behind the call: the world before it, new blocks behind the heap (the library's 'var a [24]byte'), draws. (LAID: no walk: one application.) -/
theorem Tryz.strconv_Itoa (n : Int) (h0 : -9223372036854775808 ≤ n) (h1 : n ≤ 9223372036854775807) (w : World) (htab : Lib.TabIs Tryz.prog w "internal/strconv.uint64pow10" .u64 Lib.pow10Tab) :
    Calls Tryz.prog 68 #[.int .i64 n] w fun e w' => e = .returned (.string ⟨(Lib.itoa n).toArray⟩) ∧ ∃ k os, w' = grow (w.drewN k) os := Any.strconv_Itoa Tryz.laysM171 n h0 h1 w htab
def Tryz.lays146_ren : Go.Shelf.Ren := ⟨fun | 146 => 79 | 221 => 113 | 268 => 137 | 138 => 138 | 143 => 139 | 195 => 175 | 197 => 176 | 218 => 177 | 219 => 144 | 260 => 207 | 217 => 84 | 225 => 185 | 224 => 186 | 267 => 187 | 266 => 116 | 314 => 212 | n => n, fun | 9 => 9 | 31 => 114 | 3 => 3 | 4 => 4 | 0 => 0 | 105 => 192 | 21 => 21 | 5 => 5 | 46 => 149 | 119 => 233 | 139 => 236 | 138 => 235 | 146 => 227 | 51 => 214 | n => n, fun | 1 => 0 | 3 => 4 | 4 => 5 | n => n⟩
theorem Tryz.lays146 : Go.Proofs.Lays.n146 Tryz.prog Tryz.lays146_ren := {
 mixed := by kernel_rfl
 f138 := Tryz.func138.trans (congrArg some (by kernel_rfl))
 f143 := Tryz.func139.trans (congrArg some (by kernel_rfl))
 f146 := Tryz.func79.trans (congrArg some (by kernel_rfl))
 f195 := Tryz.func175.trans (congrArg some (by kernel_rfl))
 f197 := Tryz.func176.trans (congrArg some (by kernel_rfl))
 f217 := Tryz.func84.trans (congrArg some (by kernel_rfl))
 f218 := Tryz.func177.trans (congrArg some (by kernel_rfl))
 f219 := Tryz.func144.trans (congrArg some (by kernel_rfl))
 f221 := Tryz.func113.trans (congrArg some (by kernel_rfl))
 f224 := Tryz.func186.trans (congrArg some (by kernel_rfl))
 f225 := Tryz.func185.trans (congrArg some (by kernel_rfl))
 f260 := Tryz.func207.trans (congrArg some (by kernel_rfl))
 f266 := Tryz.func116.trans (congrArg some (by kernel_rfl))
 f267 := Tryz.func187.trans (congrArg some (by kernel_rfl))
 f268 := Tryz.func137.trans (congrArg some (by kernel_rfl))
 f314 := Tryz.func212.trans (congrArg some (by kernel_rfl))
 t0 := Tryz.underlying0
 a0 := Tryz.isAgg0
 z0 := Tryz.sizeOf0
 v0 := Tryz.zeroValue0
 t3 := Tryz.underlying3
 a3 := Tryz.isAgg3
 z3 := Tryz.sizeOf3
 v3 := Tryz.zeroValue3
 t4 := Tryz.underlying4
 a4 := Tryz.isAgg4
 z4 := Tryz.sizeOf4
 v4 := Tryz.zeroValue4
 t5 := Tryz.underlying5
 a5 := Tryz.isAgg5
 z5 := Tryz.sizeOf5
 v5 := Tryz.zeroValue5
 t9 := Tryz.underlying9
 a9 := Tryz.isAgg9
 z9 := Tryz.sizeOf9
 v9 := Tryz.zeroValue9
 t21 := Tryz.underlying21
 a21 := Tryz.isAgg21
 z21 := Tryz.sizeOf21
 v21 := Tryz.zeroValue21
 t31 := Tryz.underlying114
 a31 := Tryz.isAgg114
 z31 := Tryz.sizeOf114
 v31 := Tryz.zeroValue114
 t46 := Tryz.underlying149
 a46 := Tryz.isAgg149
 z46 := Tryz.sizeOf149
 v46 := Tryz.zeroValue149
 t51 := Tryz.underlying214
 a51 := Tryz.isAgg214
 z51 := Tryz.sizeOf214
 v51 := Tryz.zeroValue214
 t105 := Tryz.underlying192
 a105 := Tryz.isAgg192
 z105 := Tryz.sizeOf192
 v105 := Tryz.zeroValue192
 t119 := Tryz.underlying233
 a119 := Tryz.isAgg233
 z119 := Tryz.sizeOf233
 t138 := Tryz.underlying235
 a138 := Tryz.isAgg235
 z138 := Tryz.sizeOf235
 v138 := Tryz.zeroValue235
 t139 := Tryz.underlying236
 a139 := Tryz.isAgg236
 z139 := Tryz.sizeOf236
 v139 := Tryz.zeroValue236
 t146 := Tryz.underlying227
 a146 := Tryz.isAgg227
 z146 := Tryz.sizeOf227
 v146 := Tryz.zeroValue227
 g1 := by kernel_rfl
 g3 := by kernel_rfl
 g4 := by kernel_rfl }
open Go.RowKit Go.Lib in
/-- strings.Split. (LAID: no walk: one application.) -/
theorem Tryz.strings_Split (s sep : ByteArray) (m : Int) (w : World) (hs : s.size < 4294967281) (hm : w.cell? ⟨0, 0, none⟩ = some (.int .i64 m)) (h1 : 1 ≤ sep.size) :
    Calls Tryz.prog 79 #[.string s, .string sep] w fun e w' =>
      e = .returned (.slice (some ⟨w.heap.size, 0, none⟩) (Lib.countB s sep + 1) (Lib.countB s sep + 1)) ∧ w' = w.alloc (.cells ((Lib.splitB sep 0 (Lib.countB s sep) s).map Value.string).toArray 9) := Any.strings_Split Tryz.lays146 (by kernel_rfl) s sep m w hs hm h1
end Go.Proofs
namespace Go.Proofs.YtcfbkickiijjkaaGreatDoor
open Go.RowKit
set_option linter.all false

def Pow10 (w : World) : Prop := Lib.TabIs Tryz.prog w "internal/strconv.uint64pow10" .u64 Lib.pow10Tab
theorem gPow10 : Tryz.prog.globalNamed "internal/strconv.uint64pow10" = some 1 := by kernel_rfl
theorem Pow10.below {w w' : World} (h : Pow10 w) (hb : Below w.heap.size w w') : Pow10 w' := by
  unfold Pow10 Lib.TabIs at *
  refine var?_below hb gPow10 ?_ h
  unfold World.var? at h
  rw [gPow10] at h
  rcases Nat.lt_or_ge 1 w.heap.size with h' | h'
  · exact h'
  · simp [Array.getElem?_eq_none h'] at h
theorem laid_drop {P : Program} {W : World} : ∀ (k : Nat) (l : List (String × DataW Unit)), laidMet P l W → laidMet P (l.drop k) W
  | 0, _, h => h
  | _ + 1, [], h => h
  | k + 1, _ :: l, h => laid_drop k l (laidMet.tail h)
theorem pow10_of_laid {W : World} {l r : List (String × DataW Unit)} (k : Nat) (hl : l.drop k = ("internal/strconv.uint64pow10", Lib.tabData .u64 Lib.pow10Tab) :: r) (h : laidMet Tryz.prog l W) : Pow10 W := by
  have h1 := laid_drop k l h
  rw [hl] at h1
  exact Lib.tabIs_of_head gPow10 (t := 213) (e := 184) (n := 20) (by kernel_rfl) Tryz.underlying213 Tryz.underlying184 (by kernel_rfl) (by kernel_rfl) h1
theorem below_grow1 (w : World) (k : Nat) (os : Array Obj) : Below w.heap.size w (Sort.grow (w.drewN k) os) := by
  refine ⟨rfl, rfl, rfl, ?_, fun j hj => ?_⟩
  · simp [Sort.grow]
  · show ((w.drewN k).heap ++ os)[j]? = _
    rw [Array.getElem?_append_left (by simpa using hj)]
    rfl
theorem impl_Itoa (x : Int) (w : World) (h0 : 0 ≤ x) (h1 : x ≤ 1000000000) (hp : Pow10 w) :
    Calls Tryz.prog 68 #[.int .i64 x] w fun e w' => e = .returned (strV (numT x)) ∧ Below w.heap.size w w' := by
  refine (Tryz.strconv_Itoa x (by omega) (by omega) w hp).mono ?_
  rintro e w' ⟨rfl, k, os, rfl⟩
  refine ⟨?_, below_grow1 _ _ _⟩
  have : Lib.itoa x = numT x := by
    unfold numT Lib.itoa
    rw [if_neg (by omega)]
  rw [this]
  rfl

theorem joinL_eq (sep : List UInt8) : ∀ l : List (List UInt8), Lib.join l sep = joinL sep l
  | [] => rfl
  | [x] => Lib.join_one x sep
  | x :: y :: r => by
    rw [Lib.join_cons, joinL, ← joinL_eq sep (y :: r), Lib.join_cons]
    simp [Lib.joinTail]
theorem map_data (ls : List (List UInt8)) : ((ls.map fun l => (⟨l.toArray⟩ : ByteArray)).map (·.data.toList)) = ls := by
  induction ls with
  | nil => rfl
  | cons x l ih => rw [List.map_cons, List.map_cons, ih]
theorem join_own (v : Value) (ls : List (List UInt8)) (s : ByteArray) (w : World) (B : Nat) (h : SlR w w.heap.size v (ls.map strV)) (hn : ls.length ≤ 2000000) (hl : (joinL s.data.toList ls).length ≤ 100000000000000) :
  Calls Tryz.prog 131 #[v, .string s] w fun e w' => e = .returned (strV (joinL s.data.toList ls)) ∧ Below w.heap.size w w' := by
 obtain ⟨A, c, rfl, h1, h2, h3⟩ := h
 rw [List.length_map] at h1 h3 ⊢
 by_cases hz : ls.length = 0
 ·
  obtain rfl : ls = [] := List.eq_nil_of_length_eq_zero hz
  refine (Tryz.strings_Join_none A c s w).mono ?_
  rintro e w' ⟨rfl, rfl⟩
  exact ⟨rfl, Below.refl _ _⟩
 ·
  obtain ⟨ad, rfl, hb, hc⟩ := h3 (by omega)
  have hspot : ad.spot = none := by
   have h0 : (ls.map strV)[0]? = some ((ls.map strV)[0]'(by rw [List.length_map]; omega)) := List.getElem?_eq_getElem _
   have h1 := hc 0 _ h0
   have e0 : ad.add 0 = ad := by unfold Addr.add; simp
   rw [e0] at h1
   unfold World.cell? at h1
   split at h1
   ·
    split at h1
    ·
     cases h1
    ·
     rename_i hs; simpa using hs
   ·
    cases h1
  obtain ⟨b, o, sp⟩ := ad
  simp only at hspot hb
  subst hspot
  have hadd : ∀ j, (⟨b, o, none⟩ : Addr).add j = ⟨b, o + j, none⟩ := by intro j; unfold Addr.add; split <;> simp_all
  have hj := Tryz.strings_Join b o c (ls.map fun l => ⟨l.toArray⟩) s w (by
   intro j x hx
   rw [← hadd]
   refine hc j _ ?_
   rw [List.getElem?_map] at hx ⊢
   cases hls : ls[j]? with
   | none => rw [hls] at hx; cases hx
   | some l => rw [hls] at hx; simp at hx ⊢; rw [← hx]; rfl) hb (by simp; omega) (by simpa using h1) (by
   rw [map_data, joinL_eq]; omega)
  rw [List.length_map, map_data, joinL_eq] at hj
  refine hj.mono ?_
  rintro e w' ⟨rfl, hb'⟩
  exact ⟨rfl, hb'⟩
theorem own_reads {w : World} {base : Nat} {e : TypeId} {v : Value} {n : Nat} {vs : List Value} (h : w.ownsRow base e 1 v n vs) : SlR w w.heap.size v vs := by
  obtain ⟨bs, h1, _, _⟩ := OwnRow.of_owns h
  exact h1.reads h1.lt
def NumsRel (xs : List Int) (w : World) (v i : Value) (wr : World) : Prop :=
  ∃ k : Nat, k ≤ xs.length ∧ i = .int .i64 k ∧ wr.ownsRow w.heap.size 9 1 v k (((xs.take k).map numT).map strV) ∧ Below w.heap.size w wr
theorem strInfo' : (Tryz.prog.info? 9).map (fun i => (i.zero, i.size, i.bytes)) = some (some (.string ByteArray.empty), 1, 16) := by kernel_rfl
theorem impl_joinNumbers (v : Value) (xs : List Int) (s : ByteArray) (w : World) (h : IntsR w w.heap.size v xs) (hx : ∀ x ∈ xs, 0 ≤ x ∧ x ≤ 1000000) (hn : xs.length ≤ 1000) (hs : s.size ≤ 10) (hp : Pow10 w) :
  Calls Tryz.prog 130 #[v, .string s] w fun e w' => e = .returned (strV (numsT s.data.toList xs)) ∧ Below w.heap.size w w' := by
 obtain ⟨A, c, rfl, h1, h2, h3⟩ := h.open_
 unfold maxLen at h2
 clear h
 have H3 := Lib.hid h3; clear h3
 have HX := Lib.hid hx; clear hx
 have hsl : s.data.toList.length ≤ 10 := by rw [← Lib.size_eq]; exact hs
 go_enter Tryz.func130, Tryz.ntmps130
 go_wp2_with fail
 go_loopw [5, 7, 10] (fun v _ i wr => NumsRel xs w v i wr) (fun _ _ i _ => xs.length - (intOf i).toNat)
 case atStart => exact ⟨0, Nat.zero_le _, rfl, World.ownsRow_nil _ _ _ _, Below.refl _ _⟩
 case round =>
  obtain ⟨k, hk, rfl, hown, hbl⟩ := hrel
  by_cases hlt : k < xs.length
  ·
   obtain ⟨x, hx⟩ : ∃ x, xs[k]? = some x := ⟨xs[k], List.getElem?_eq_getElem hlt⟩
   obtain ⟨ad, rfl, hb, hc⟩ := H3.out (by omega)
   have hcell : wr.cell? (ad.add k) = some (.int .i64 x) := (hbl.cell (p := ad.add k) (by rw [block_add]; exact hb)).trans (hc k x hx)
   clear hc
   have bx := HX.out x (List.mem_of_getElem? hx)
   have HN := Lib.hid (show ((xs.take (k + 1)).map numT).map strV = ((xs.take k).map numT).map strV ++ [strV (numT x)] by
    obtain ⟨hk', rfl⟩ := List.getElem?_eq_some_iff.1 hx
    rw [List.take_succ_eq_append_getElem hk', List.map_append, List.map_append]; rfl)
   clear hx
   go_wp2_with fail
   refine (impl_Itoa x _ bx.1 (by omega) (hp.below hbl)).mono ?_
   rintro e w1 ⟨rfl, hb1⟩
   rw [show strV (numT x) = Value.string ⟨(numT x).toArray⟩ from rfl]
   have hown1 : w1.ownsRow w.heap.size 9 1 u5 k (((xs.take k).map numT).map strV) := hown.kept (row := none) ⟨hb1.os, hb1.tape, hb1.output, hb1.size, fun j hj _ => hb1.block j hj⟩ (by cases h : Value.ownBlock u5 <;> simp)
   have hbl1 := bl_trans hbl hb1
   go_wp2_with ((at_builtin; refine wpList_append1 w1 rfl (.tmp 14) (.tmp 17) 114 rfl w.heap.size 9 _ 16 Tryz.underlying114 strInfo' rfl _ _ _ rfl _ rfl rfl hown1 (by unfold maxLen; omega) (by omega) hbl1.size ?_; intro v' w' hown' hbl' hgr' hlt' hob'))
   go_roundw
   case rel => exact ⟨k + 1, by omega, by go_num, by rw [HN.out]; exact hown', hbl1.trans hbl'⟩
   case measure => simp [intOf]; omega
  ·
   have e1 : xs.take k = xs := List.take_of_length_le (by omega)
   rw [e1] at hown
   have hrd := own_reads hown
   have hlen := Lib.hid (show (joinL s.data.toList (xs.map numT)).length ≤ 100000000000000 by
    have := numsT_len (sep := s.data.toList) (xs := xs) (M := 1000000) (fun x hx => HX.out x hx)
    unfold numsT at this
    have h3 : xs.length * (1000000 + 1 + s.data.toList.length) ≤ 1000 * 1000011 := Nat.mul_le_mul hn (by omega)
    omega)
   go_wp2_with (go_at_call 131; refine (join_own _ (xs.map numT) s _ 0 hrd (by simp; omega) hlen.out).mono ?_; rintro e w1 ⟨rfl, hb1⟩)
   go_ret
   exact ⟨rfl, bl_trans hbl hb1⟩
end Go.Proofs.YtcfbkickiijjkaaGreatDoor
namespace Go.Proofs.YtcfbkickiijjkaaGreatDoor
open Go.RowKit
set_option linter.all false

def arcsT (xss : List (List Int)) : List UInt8 := (xss.map fun a => 32 :: numsT [45] a).flatten
def walkT (n : Int) (xss : List (List Int)) : List UInt8 := [119, 97, 108, 107, 32] ++ numT n ++ arcsT xss
theorem arcsT_take (xss : List (List Int)) (k : Nat) (xs : List Int) (h : xss[k]? = some xs) : arcsT (xss.take (k + 1)) = arcsT (xss.take k) ++ 32 :: numsT [45] xs := by
  obtain ⟨hk, rfl⟩ := List.getElem?_eq_some_iff.1 h
  unfold arcsT
  rw [List.take_succ_eq_append_getElem hk, List.map_append, List.flatten_append]
  simp
def SmallArcs (xss : List (List Int)) : Prop := ∀ xs ∈ xss, xs.length = 2 ∧ ∀ x ∈ xs, 0 ≤ x ∧ x ≤ 11
theorem Good.small {n : Int} {xss : List (List Int)} (h : Good n xss) : SmallArcs xss := by
  intro xs hxs
  obtain ⟨k, hk⟩ := List.mem_iff_getElem?.1 hxs
  obtain ⟨xs', e, h1, h2, _⟩ := h.2 k (List.getElem?_eq_some_iff.1 hk).1
  rw [hk] at e; cases e
  refine ⟨h1, fun x hx => ?_⟩
  have h3 := allB_iff.1 h2 x hx
  have h4 : 1 ≤ n ∧ n ≤ 12 := by have := h.1; unfold inB at this; simpa using this
  omega
theorem SmallArcs.len {xss : List (List Int)} (h : SmallArcs xss) : ∀ xs ∈ xss, (numsT [45] xs).length ≤ 26 := by
  intro xs hxs
  obtain ⟨h1, h2⟩ := h xs hxs
  have := numsT_len (sep := [45]) (xs := xs) (M := 11) h2
  rw [h1] at this
  simpa using this
theorem arcsT_len : ∀ (xss : List (List Int)), SmallArcs xss → (arcsT xss).length ≤ xss.length * 27
  | [], _ => by simp [arcsT]
  | xs :: r, h => by
    have h1 := arcsT_len r (fun x hx => h x (by simp [hx]))
    have h2 := h.len xs (by simp)
    have e : arcsT (xs :: r) = 32 :: numsT [45] xs ++ arcsT r := by simp [arcsT]
    rw [e]
    simp only [List.length_append, List.length_cons]
    omega
theorem SmallArcs.take {xss : List (List Int)} (h : SmallArcs xss) (k : Nat) : SmallArcs (xss.take k) := fun x hx => h x (List.mem_of_mem_take hx)
def WtRel (n : Int) (xss : List (List Int)) (w : World) (o i : Value) (wr : World) : Prop :=
  ∃ k : Nat, k ≤ xss.length ∧ i = .int .i64 k ∧ o = strV (walkT n (xss.take k)) ∧ Below w.heap.size w wr
theorem spec_srWalk (n : Int) (v : Value) (xss : List (List Int)) (w : World) (h : RowsR w w.heap.size v xss) (hg : Good n xss) (hl : xss.length ≤ 1048576) :
  Calls Tryz.prog 95 #[.agg #[.int .i64 n, v]] w fun e w' => e = .returned (strV (walkT n xss)) ∧ Below w.heap.size w w' := by
 have hn : 1 ≤ n ∧ n ≤ 12 := by have := hg.1; unfold inB at this; simpa using this
 have HS := Lib.hid hg.small
 obtain ⟨A, c, rfl, h1, h2, h3⟩ := h.open_
 unfold maxLen at h2
 clear h hg
 have H3 := Lib.hid h3; clear h3
 have hl0 : (numT n).length ≤ 13 := numT_len (by omega) (M := 12) (by omega)
 have c0 := fun W => cat_cv ⟨#[119, 97, 108, 107, 32]⟩ (numT n) (by have : (ByteArray.mk #[119, 97, 108, 107, 32]).size = 5 := rfl; omega) W
 go_enter Tryz.func95, Tryz.ntmps95
 go_wp2_with fail
 refine (spec_l1Num n _ (by omega) (by omega)).mono ?_
 rintro e w1 ⟨rfl, hb1⟩
 obtain ⟨hc1, hf1⟩ := bx w.heap.size hb1 (by simp)
 have hb01 := bl_trans (bl_alloc (Below.refl w.heap.size w) (.cells #[.int .i64 n, .slice A xss.length c] 50)) hb1
 go_wp2_with fail
 clear c0 hc1 hf1 hb1
 go_loopw [3, 5, 13] (fun o _ i wr => WtRel n xss w o i wr) (fun _ _ i _ => xss.length - (intOf i).toNat)
 case atStart => exact ⟨0, Nat.zero_le _, rfl, by simp [walkT, arcsT], hb01⟩
 case round =>
  obtain ⟨k, hk, rfl, rfl, hbl⟩ := hrel
  by_cases hlt : k < xss.length
  ·
   obtain ⟨xs, hx⟩ : ∃ x, xss[k]? = some x := ⟨xss[k], List.getElem?_eq_getElem hlt⟩
   obtain ⟨ad, rfl, hb, hc⟩ := H3.out (by omega)
   obtain ⟨u, hu, hr⟩ := hc k xs hx
   have hcell : wr.cell? (ad.add k) = some u := (hbl.cell (p := ad.add k) (by rw [block_add]; exact hb)).trans hu
   have hr' : IntsR wr wr.heap.size u xs := (hr.below hbl).more hbl.size
   clear hc hr hu
   have HR := Lib.hid hr'; clear hr'
   have hm := List.mem_of_getElem? hx
   have hs1 := HS.out xs hm
   have hs2 := HS.out.len xs hm
   have hs3 := arcsT_len (xss.take k) (HS.out.take k)
   have HN := Lib.hid (show walkT n (xss.take (k + 1)) = walkT n (xss.take k) ++ 32 :: numsT [45] xs by
    unfold walkT; rw [arcsT_take xss k xs hx]; simp only [List.append_assoc])
   have hs4 : (walkT n (xss.take k)).length ≤ 100000000 := by
    have : (xss.take k).length ≤ 1048576 := by simp; omega
    unfold walkT
    simp only [List.length_append, List.length_cons, List.length_nil]
    omega
   have hs5 : ∀ x ∈ xs, 0 ≤ x ∧ x ≤ 1000000 := fun x hx => by have := hs1.2 x hx; omega
   have HS5 := Lib.hid hs5
   have hs6 : xs.length ≤ 1000 := by have := hs1.1; omega
   clear hx hm hs1 hs5 hs3
   generalize walkT n (xss.take k) = cur at *
   have c1 := fun W => cat_cv ⟨#[32]⟩ (numsT [45] xs) (by have : (ByteArray.mk #[32]).size = 1 := rfl; omega) W
   have c2 := fun W => cat_vv cur (32 :: numsT [45] xs) (by rw [List.length_cons]; omega) W
   go_wp2_with (go_at_call 120; refine (srJoin_any _ xs ⟨#[45]⟩ _ HR.out HS5.out hs6 (by decide)).mono ?_; rintro e w1 ⟨rfl, hb1⟩)
   go_roundw
   case rel => exact ⟨k + 1, by omega, by go_num, by rw [HN.out], bl_trans hbl hb1⟩
   case measure => simp [intOf]; omega
  ·
   have e1 : xss.take k = xss := List.take_of_length_le (by omega)
   rw [e1]
   clear e1
   go_wp2_with fail
   go_ret
   exact ⟨rfl, hbl⟩

theorem walkT_join (n : Int) (xss : List (List Int)) : joinL [32] ([119, 97, 108, 107] :: numT n :: xss.map (numsT [45])) = walkT n xss := by
  rw [← joinL_eq, Lib.join_cons]
  unfold Lib.joinTail walkT arcsT
  simp [List.map_map, Function.comp_def]
def WordsRel (n : Int) (xss : List (List Int)) (w : World) (v i : Value) (wr : World) : Prop :=
  ∃ k : Nat, k ≤ xss.length ∧ i = .int .i64 k ∧ wr.ownsRow w.heap.size 9 1 v (k + 2) (([119, 97, 108, 107] :: numT n :: (xss.take k).map (numsT [45])).map strV) ∧ Below w.heap.size w wr
theorem impl_walkText (n : Int) (v : Value) (xss : List (List Int)) (w : World) (h : RowsR w w.heap.size v xss) (hg : Good n xss) (hl : xss.length ≤ 1048576) (hp : Pow10 w) :
  Calls Tryz.prog 108 #[.agg #[.int .i64 n, v]] w fun e w' => e = .returned (strV (walkT n xss)) ∧ Below w.heap.size w w' := by
 have hn : 1 ≤ n ∧ n ≤ 12 := by have := hg.1; unfold inB at this; simpa using this
 have HS := Lib.hid hg.small
 obtain ⟨A, c, rfl, h1, h2, h3⟩ := h.open_
 unfold maxLen at h2
 clear h hg
 have H3 := Lib.hid h3; clear h3
 have hl0 : (numT n).length ≤ 13 := numT_len (by omega) (M := 12) (by omega)
 go_enter Tryz.func108, Tryz.ntmps108
 go_wp2_with fail
 have hb00 := bl_alloc (Below.refl w.heap.size w) (.cells #[.int .i64 n, .slice A xss.length c] 50)
 refine (impl_Itoa n _ (by omega) (by omega) (hp.below hb00)).mono ?_
 rintro e w1 ⟨rfl, hb1⟩
 rw [show strV (numT n) = Value.string ⟨(numT n).toArray⟩ from rfl]
 obtain ⟨hc1, hf1⟩ := bx w.heap.size hb1 (by simp)
 have hb01 := bl_trans hb00 hb1
 have hgt : w.heap.size < w1.heap.size := by have := hb1.size; simp at this; omega
 go_wp2_with fail
 clear hc1 hf1
 go_loopw [3, 5, 13] (fun v _ i wr => WordsRel n xss w v i wr) (fun _ _ i _ => xss.length - (intOf i).toNat)
 case atStart =>
  refine ⟨0, Nat.zero_le _, rfl, ⟨by simp, .inr ⟨w1.heap.size, 2, _, rfl, by omega, heap_alloc_new w1 _, by omega, by unfold maxLen; omega, rfl, rfl⟩⟩, bl_alloc hb01 _⟩
 case round =>
  obtain ⟨k, hk, rfl, hown, hbl⟩ := hrel
  by_cases hlt : k < xss.length
  ·
   obtain ⟨xs, hx⟩ : ∃ x, xss[k]? = some x := ⟨xss[k], List.getElem?_eq_getElem hlt⟩
   obtain ⟨ad, rfl, hb, hc⟩ := H3.out (by omega)
   obtain ⟨u, hu, hr⟩ := hc k xs hx
   have hcell : wr.cell? (ad.add k) = some u := (hbl.cell (p := ad.add k) (by rw [block_add]; exact hb)).trans hu
   have hr' : IntsR wr wr.heap.size u xs := (hr.below hbl).more hbl.size
   clear hc hr hu
   have HR := Lib.hid hr'; clear hr'
   have hm := List.mem_of_getElem? hx
   have hs1 := HS.out xs hm
   have hs5 : ∀ x ∈ xs, 0 ≤ x ∧ x ≤ 1000000 := fun x hx => by have := hs1.2 x hx; omega
   have HS5 := Lib.hid hs5
   have hs6 : xs.length ≤ 1000 := by have := hs1.1; omega
   have HN := Lib.hid (show ([119, 97, 108, 107] :: numT n :: (xss.take (k + 1)).map (numsT [45])).map strV = ([119, 97, 108, 107] :: numT n :: (xss.take k).map (numsT [45])).map strV ++ [strV (numsT [45] xs)] by
    obtain ⟨hk', rfl⟩ := List.getElem?_eq_some_iff.1 hx
    rw [List.take_succ_eq_append_getElem hk', List.map_append]
    simp)
   clear hx hm hs1 hs5
   go_wp2_with fail
   refine (impl_joinNumbers _ xs ⟨#[45]⟩ _ HR.out HS5.out hs6 (by decide) (hp.below hbl)).mono ?_
   rintro e w2 ⟨rfl, hb2⟩
   rw [show strV (numsT (ByteArray.mk #[45]).data.toList xs) = Value.string ⟨(numsT [45] xs).toArray⟩ from rfl]
   have hown1 : w2.ownsRow w.heap.size 9 1 u3 (k + 2) (([119, 97, 108, 107] :: numT n :: (xss.take k).map (numsT [45])).map strV) := hown.kept (row := none) ⟨hb2.os, hb2.tape, hb2.output, hb2.size, fun j hj _ => hb2.block j hj⟩ (by cases h : Value.ownBlock u3 <;> simp)
   have hbl1 := bl_trans hbl hb2
   go_wp2_with ((at_builtin; refine wpList_append1 w2 rfl (.tmp 17) (.tmp 20) 114 rfl w.heap.size 9 _ 16 Tryz.underlying114 strInfo' rfl _ _ _ rfl _ rfl rfl hown1 (by unfold maxLen; omega) (by omega) hbl1.size ?_; intro v' w' hown' hbl' hgr' hlt' hob'))
   go_roundw
   case rel => exact ⟨k + 1, by omega, by go_num, by rw [HN.out]; exact hown', hbl1.trans hbl'⟩
   case measure => simp [intOf]; omega
  ·
   have e1 : xss.take k = xss := List.take_of_length_le (by omega)
   rw [e1] at hown
   have hrd := own_reads hown
   have hlen := Lib.hid (show (joinL [32] ([119, 97, 108, 107] :: numT n :: xss.map (numsT [45]))).length ≤ 100000000000000 by
    have := arcsT_len xss HS.out
    rw [walkT_join]
    unfold walkT
    simp only [List.length_append, List.length_cons, List.length_nil]
    omega)
   have HJ := Lib.hid (walkT_join n xss)
   go_wp2_with fail
   refine (join_own _ ([119, 97, 108, 107] :: numT n :: xss.map (numsT [45])) ⟨#[32]⟩ _ 0 hrd (by simp; omega) hlen.out).mono ?_
   rintro e w1 ⟨rfl, hb1⟩
   rw [show joinL (ByteArray.mk #[32]).data.toList ([119, 97, 108, 107] :: numT n :: xss.map (numsT [45])) = walkT n xss from HJ.out]
   go_wp2_with fail
   go_ret
   exact ⟨rfl, bl_trans hbl hb1⟩
end Go.Proofs.YtcfbkickiijjkaaGreatDoor
namespace Go.Proofs.YtcfbkickiijjkaaGreatDoor
set_option linter.all false

def hasArc (xss : List (List Int)) (a b : Nat) : Prop := [(a : Int), (b : Int)] ∈ xss
def mask : List (List Int) → Nat → Nat
  | [], _ => 0
  | xs :: r, a => if xs.getD 0 0 = (a : Int) then (2 ^ (xs.getD 1 0).toNat) ||| mask r a else mask r a
theorem small_pair {xs : List Int} (h : xs.length = 2 ∧ ∀ x ∈ xs, 0 ≤ x ∧ x ≤ 11) : ∃ x y : Nat, xs = [(x : Int), (y : Int)] ∧ x ≤ 11 ∧ y ≤ 11 := by
  obtain ⟨h1, h2⟩ := h
  match xs, h1 with
  | [x, y], _ =>
    have hx := h2 x (by simp)
    have hy := h2 y (by simp)
    exact ⟨x.toNat, y.toNat, by simp; omega, by omega, by omega⟩
theorem mask_lt {xss : List (List Int)} (h : SmallArcs xss) (a : Nat) : mask xss a < 4096 := by
  induction xss with
  | nil => simp [mask]
  | cons xs r ih =>
    have h1 := ih (fun x hx => h x (by simp [hx]))
    obtain ⟨x, y, rfl, hx, hy⟩ := small_pair (h xs (by simp))
    unfold mask
    split
    · have : 2 ^ (([(x : Int), (y : Int)].getD 1 0).toNat) < 2 ^ 12 := Nat.pow_lt_pow_right (by omega) (by simp; omega)
      exact Nat.or_lt_two_pow (n := 12) this h1
    · exact h1
theorem mask_bit {xss : List (List Int)} (h : SmallArcs xss) (a b : Nat) : (mask xss a).testBit b = true ↔ hasArc xss a b := by
  induction xss with
  | nil => simp [mask, hasArc]
  | cons xs r ih =>
    have ih := ih (fun x hx => h x (by simp [hx]))
    obtain ⟨x, y, rfl, hx, hy⟩ := small_pair (h xs (by simp))
    unfold hasArc at *
    unfold mask
    simp only [List.getD_cons_zero, List.getD_cons_succ, Int.toNat_natCast, List.mem_cons, List.cons.injEq, and_true]
    split
    · rename_i e
      rw [Nat.testBit_or, Nat.testBit_two_pow, Bool.or_eq_true, ih]
      have e' : x = a := by omega
      simp only [decide_eq_true_eq]
      constructor
      · rintro (h | h)
        · left; omega
        · right; exact h
      · rintro (h | h)
        · left; omega
        · right; exact h
    · rename_i e
      rw [ih]
      constructor
      · intro h; right; exact h
      · rintro (h | h)
        · omega
        · exact h
theorem mask_snoc (xs : List Int) (a : Nat) : ∀ xss : List (List Int), mask (xss ++ [xs]) a = if xs.getD 0 0 = (a : Int) then mask xss a ||| (2 ^ (xs.getD 1 0).toNat) else mask xss a
  | [] => by
    simp [mask]
  | ys :: r => by
    have ih := mask_snoc xs a r
    simp only [List.cons_append]
    unfold mask
    rw [ih]
    split <;> split <;> simp [Nat.or_assoc]
theorem bit_of (m b : Nat) : (m >>> b) &&& 1 = if m.testBit b then 1 else 0 := by
  rw [Nat.testBit]
  have : (m >>> b) &&& 1 = (m >>> b) % 2 := Nat.and_one_is_mod _
  rw [this]
  have h2 : 1 &&& (m >>> b) = (m >>> b) % 2 := by rw [Nat.and_comm]; exact this
  rw [h2]
  have := Nat.mod_two_eq_zero_or_one (m >>> b)
  rcases this with h | h <;> simp [h]
def maskL (n : Nat) (xss : List (List Int)) : List Int := (List.range n).map fun a => (mask xss a : Int)
theorem maskL_len (n : Nat) (xss : List (List Int)) : (maskL n xss).length = n := by simp [maskL]
theorem maskL_at {n : Nat} {xss : List (List Int)} {a : Nat} (h : a < n) : (maskL n xss)[a]? = some (mask xss a : Int) := by
  simp [maskL, h]
theorem maskL_nil (n : Nat) : maskL n [] = List.replicate n 0 := by
  rw [List.eq_replicate_iff]
  refine ⟨maskL_len _ _, fun x hx => ?_⟩
  obtain ⟨a, _, rfl⟩ := List.mem_map.1 hx
  rfl
theorem maskL_snoc {n : Nat} {xss : List (List Int)} {x y : Nat} (hx : x < n) : maskL n (xss ++ [[(x : Int), (y : Int)]]) = (maskL n xss).set x ((mask xss x ||| 2 ^ y : Nat) : Int) := by
  apply List.ext_getElem?
  intro i
  rw [List.getElem?_set]
  by_cases hi : i < n
  · rw [maskL_at hi, mask_snoc]
    simp only [List.getD_cons_zero, List.getD_cons_succ, Int.toNat_natCast]
    by_cases e : x = i
    · subst e
      rw [if_pos rfl, if_pos rfl, if_pos (by rw [maskL_len]; exact hx)]
    · rw [if_neg (by omega), if_neg e, maskL_at hi]
  · rw [List.getElem?_eq_none (by rw [maskL_len]; omega)]
    split
    · omega
    · rw [List.getElem?_eq_none (by rw [maskL_len]; omega)]
end Go.Proofs.YtcfbkickiijjkaaGreatDoor
namespace Go.Proofs.YtcfbkickiijjkaaGreatDoor
open Go.RowKit
set_option linter.all false

theorem ofInt_i64 (a : Nat) (ha : a < 9223372036854775808) : (BitVec.ofInt 64 (a : Int)).toNat = a := by
  rw [BitVec.ofInt_natCast, BitVec.toNat_ofNat]; exact Nat.mod_eq_of_lt (by omega)
theorem i64_or_nat (a b : Nat) (ha : a < 9223372036854775808) (hb : b < 9223372036854775808) : bits .or .i64 (a : Int) (b : Int) = ((a ||| b : Nat) : Int) := by
  have hx : a ||| b < 2 ^ 63 := Nat.or_lt_two_pow (by omega) (by omega)
  show IntKind.i64.wrap ((BitVec.ofInt 64 (a : Int) ||| BitVec.ofInt 64 (b : Int)).toNat : Int) = _
  rw [BitVec.toNat_or, ofInt_i64 a ha, ofInt_i64 b hb, IntKind.wrap_i64]
  omega
theorem i64_and_nat (a b : Nat) (ha : a < 9223372036854775808) (hb : b < 9223372036854775808) : bits .and .i64 (a : Int) (b : Int) = ((a &&& b : Nat) : Int) := by
  have hx : a &&& b < 2 ^ 63 := Nat.and_lt_two_pow _ (by omega)
  show IntKind.i64.wrap ((BitVec.ofInt 64 (a : Int) &&& BitVec.ofInt 64 (b : Int)).toNat : Int) = _
  rw [BitVec.toNat_and, ofInt_i64 a ha, ofInt_i64 b hb, IntKind.wrap_i64]
  omega
theorem pow_small {y : Nat} (h : y ≤ 11) : (2 : Nat) ^ y ≤ 2048 := by
  have : (2 : Nat) ^ y ≤ 2 ^ 11 := Nat.pow_le_pow_right (by omega) h
  omega
theorem or_pow (q y : Nat) (hq : q < 4096) (hy : y ≤ 11) : bits .or .i64 (q : Int) (wrap64 (2 ^ y)) = ((q ||| 2 ^ y : Nat) : Int) := by
  have h := pow_small hy
  have e : (2 : Int) ^ y = ((2 ^ y : Nat) : Int) := by push_cast; rfl
  rw [e]
  generalize (2 : Nat) ^ y = m at *
  rw [IntWalk.wrap64_in _ (by omega), i64_or_nat _ _ (by omega) (by omega)]
def AfterRel (n : Nat) (xss : List (List Int)) (w : World) (g : Nat) (i : Value) (wr : World) : Prop :=
  ∃ k : Nat, k ≤ xss.length ∧ i = .int .i64 k ∧ wr.heap[g]? = some (.cells ((maskL n (xss.take k)).map intV).toArray 3 (0, 0)) ∧ Below g w wr
theorem impl_after (n : Nat) (v : Value) (xss : List (List Int)) (w : World) (h : RowsR w w.heap.size v xss) (hg : Good n xss) :
  Calls Tryz.prog 154 #[.agg #[.int .i64 (n : Int), v]] w fun e w' => ∃ v', e = .returned v' ∧ OwnInts w' 3 v' (maskL n xss) [w.heap.size + 1] ∧ Below w.heap.size w w' := by
 have hn : (1 : Int) ≤ n ∧ (n : Int) ≤ 12 := by have := hg.1; unfold inB at this; simpa using this
 have HS := Lib.hid hg.small
 have HG := Lib.hid hg.2
 obtain ⟨A, c, rfl, h1, h2, h3⟩ := h.open_
 unfold maxLen at h2
 clear h hg
 have H3 := Lib.hid h3; clear h3
 have hmk := fun W => run_make1 (P := Tryz.prog) 41 3 (.int .i64 0) 8 Tryz.underlying41 intInfo rfl n (by omega) (by omega) W
 go_enter Tryz.func154, Tryz.ntmps154
 go_wp2_with fail
 clear hmk
 go_loopw [5, 12] (fun _ i wr => AfterRel n xss (w.alloc (.cells #[.int .i64 (n : Int), .slice A xss.length c] 50)) (w.heap.size + 1) i wr) (fun _ i _ => xss.length - (intOf i).toNat)
 case atStart =>
  refine ⟨0, Nat.zero_le _, rfl, ?_, ?_⟩
  ·
   have e1 : (w.alloc (.cells #[.int .i64 (n : Int), .slice A xss.length c] 50)).heap.size = w.heap.size + 1 := by simp
   rw [← e1, heap_alloc_new]
   rw [List.take_zero, maskL_nil]
   simp [rowOf, intV]
  ·
   exact (Below.refl _ _).alloc (by simp) _
 case round =>
  obtain ⟨k, hk, rfl, hblk, hbl⟩ := hrel
  have hbl0 : Below w.heap.size w wr := (bl_alloc (Below.refl w.heap.size w) _).trans (hbl.mono (by omega))
  have HB := Lib.hid hblk; clear hblk
  by_cases hlt : k < xss.length
  ·
   obtain ⟨xs, hx⟩ : ∃ x, xss[k]? = some x := ⟨xss[k], List.getElem?_eq_getElem hlt⟩
   obtain ⟨x, y, rfl, hx1, hy1⟩ := small_pair (HS.out xs (List.mem_of_getElem? hx))
   obtain ⟨ad, rfl, hb, hc⟩ := H3.out (by omega)
   obtain ⟨u, hu, hr⟩ := hc k _ hx
   have hcell : wr.cell? (ad.add k) = some u := (hbl0.cell (p := ad.add k) (by rw [block_add]; exact hb)).trans hu
   obtain ⟨A1, c1, rfl, g1, g2, g3⟩ := (hr.below hbl0).open_
   obtain ⟨ad1, rfl, hb1, hc1⟩ := g3 (by simp)
   have k0 := hc1 0 _ rfl
   have k1 := hc1 1 _ rfl
   have e0 : ad1.add 0 = ad1 := by unfold Addr.add; simp
   have e1 : ad1.add 1 = ⟨ad1.block, ad1.off + 1, none⟩ := by unfold Addr.add; simp
   rw [e0] at k0
   rw [e1] at k1
   clear hc hr hu g3 hc1 e0 e1
   have hxy : x < n ∧ y < n := by
    obtain ⟨xs', e, _, h4, _⟩ := HG.out k hlt
    rw [hx] at e; cases e
    have h5 := allB_iff.1 h4
    have h6 := h5 x (by simp)
    have h7 := h5 y (by simp)
    omega
   obtain ⟨hxn, hyn⟩ := hxy
   have hm : wr.cell? ⟨w.heap.size + 1, x, none⟩ = some (.int .i64 ((mask (xss.take k) x : Nat) : Int)) := by
    rw [cell_of_row wr _ x _ _ (0, 0) HB.out]
    simp [maskL, hxn, intV]
   have hfz : wr.frozen? ⟨w.heap.size + 1, x, none⟩ = false := by simp [World.frozen?, HB.out]
   have hml := mask_lt (HS.out.take k) x
   have HN := Lib.hid (show maskL n (xss.take (k + 1)) = (maskL n (xss.take k)).set x ((mask (xss.take k) x ||| 2 ^ y : Nat) : Int) by
    obtain ⟨hk', e⟩ := List.getElem?_eq_some_iff.1 hx
    rw [List.take_succ_eq_append_getElem hk', e, maskL_snoc hxn])
   clear hx
   generalize mask (xss.take k) x = q at *
   go_wp2_with fail
   go_region
   go_wp2_with fail
   go_roundw
   case rel =>
    refine ⟨k + 1, by omega, by go_num, ?_, ?_⟩
    ·
     show (wr.setCell _ _).heap[w.heap.size + 1]? = _
     rw [heap_set_same HB.out, or_pow q y hml hy1, HN.out, List.map_set, List.setIfInBounds_toArray]
     rfl
    ·
     exact (hbl.setCell (Nat.le_refl _) _).drew
   case measure => simp [intOf]; omega
  ·
   have e1 : xss.take k = xss := List.take_of_length_le (by omega)
   have HB' := Lib.hid (show wr.heap[w.heap.size + 1]? = some (.cells ((maskL n xss).map intV).toArray 3 (0, 0)) by rw [HB.out, e1])
   clear e1
   go_wp2_with fail
   go_ret
   refine ⟨_, rfl, ⟨.inr ⟨w.heap.size + 1, n, _, ?_, ?_, ?_, HB'.out, ?_, ?_, rfl⟩, ?_⟩, hbl0⟩
   ·
    rw [List.length_map, maskL_len]; rfl
   ·
    rw [List.length_map, maskL_len]; exact Nat.le_refl _
   ·
    unfold maxLen; omega
   ·
    simp [maskL_len]
   ·
    rw [List.take_of_length_le (by simp)]
   ·
    intro x hx
    obtain ⟨a, _, rfl⟩ := List.mem_map.1 hx
    have := mask_lt HS.out a
    unfold I64
    omega
theorem bit_and (q y : Nat) (hq : q < 4096) (hy : y ≤ 11) : bits .and .i64 ((q : Int) / 2 ^ y) 1 = if q.testBit y then 1 else 0 := by
  have e : (q : Int) / 2 ^ y = ((q >>> y : Nat) : Int) := by rw [Nat.shiftRight_eq_div_pow]; push_cast; rfl
  have h2 : q >>> y ≤ q := by rw [Nat.shiftRight_eq_div_pow]; exact Nat.div_le_self _ _
  rw [e, show (1 : Int) = ((1 : Nat) : Int) from rfl, i64_and_nat _ _ (by omega) (by omega), bit_of]
  split <;> rfl
theorem bit_t {q y : Nat} (hq : q < 4096) (hy : y ≤ 11) (h : q.testBit y = true) : bits .and .i64 ((q : Int) / 2 ^ y) 1 = 1 := by rw [bit_and q y hq hy, if_pos h]
theorem bit_f {q y : Nat} (hq : q < 4096) (hy : y ≤ 11) (h : ¬ q.testBit y = true) : bits .and .i64 ((q : Int) / 2 ^ y) 1 = 0 := by rw [bit_and q y hq hy, if_neg h]
def walkP (xss : List (List Int)) (l : List Int) : Prop := ∀ i a b, l[i]? = some a → l[i + 1]? = some b → [a, b] ∈ xss
def WalkTo (xss : List (List Int)) (l : List Int) (k : Nat) : Prop := ∀ i a b, i + 1 < k → l[i]? = some a → l[i + 1]? = some b → [a, b] ∈ xss
theorem WalkTo.next {xss : List (List Int)} {l : List Int} {k : Nat} {a b : Int} (h : WalkTo xss l k) (hk : 1 ≤ k) (ha : l[k - 1]? = some a) (hb : l[k]? = some b) (hab : [a, b] ∈ xss) : WalkTo xss l (k + 1) := by
  intro i x y hi hx hy
  by_cases e : i + 1 = k
  · obtain rfl : i = k - 1 := by omega
    rw [ha] at hx; cases hx
    rw [show k - 1 + 1 = k by omega, hb] at hy; cases hy
    exact hab
  · exact h i x y (by omega) hx hy
theorem WalkTo.all {xss : List (List Int)} {l : List Int} {k : Nat} (h : WalkTo xss l k) (hk : l.length ≤ k) : walkP xss l := by
  intro i a b ha hb
  exact h i a b (by have := (List.getElem?_eq_some_iff.1 hb).1; omega) ha hb
def IsWalkRel (xss : List (List Int)) (l : List Int) (w : World) (i : Value) (wr : World) : Prop :=
  ∃ k m : Nat, 1 ≤ k ∧ k ≤ max l.length 1 ∧ i = .int .i64 k ∧ WalkTo xss l k ∧ wr = w.drewN m
theorem impl_isWalk (n : Nat) (v u : Value) (xss : List (List Int)) (l : List Int) (w : World) (h : RowsR w w.heap.size v xss) (hu : IntsR w w.heap.size u l) (hg : Good n xss) (hl : allB l 0 (n - 1) = true) :
  Calls Tryz.prog 196 #[.agg #[.int .i64 (n : Int), v], u] w fun e w' => e = .returned (.bool (propB (walkP xss l))) ∧ Below w.heap.size w w' := by
 have HH := Lib.hid h; clear h
 have HL := Lib.hid (allB_iff.1 hl); clear hl
 have HG := Lib.hid hg; clear hg
 obtain ⟨A, c, rfl, h1, h2, h3⟩ := hu.open_
 unfold maxLen at h2
 clear hu
 have H3 := Lib.hid h3; clear h3
 go_enter Tryz.func196, Tryz.ntmps196
 go_wp2_with fail
 refine (impl_after n v xss _ ((HH.out.below (bl_alloc (Below.refl _ _) _)).more (by simp)) HG.out).mono ?_
 rintro e w1 ⟨v', rfl, ho, hb1⟩
 have hb01 := bl_trans (bl_alloc (Below.refl w.heap.size w) _) hb1
 obtain ⟨A', c', rfl, g1, g2, g3⟩ := (ho.reads (B := w1.heap.size) ho.1.lt).open_
 rw [maskL_len] at g1 g3 ⊢
 have G3 := Lib.hid g3; clear g3 ho
 go_wp2_with fail
 go_loopw [6] (fun i wr => IsWalkRel xss l w1 i wr) (fun i _ => l.length - (intOf i).toNat)
 case atStart => exact ⟨1, 0, Nat.le_refl _, by omega, rfl, fun i _ _ h => absurd h (by omega), rfl⟩
 case round =>
  obtain ⟨k, m, hk1, hk, rfl, hup, rfl⟩ := hrel
  have HU := Lib.hid hup; clear hup
  have hn12 : (n : Int) ≤ 12 := by have := HG.out.1; unfold inB at this; simp at this; omega
  by_cases hlt : k < l.length
  ·
   obtain ⟨x, hx⟩ : ∃ x, l[k - 1]? = some x := ⟨l[k - 1], List.getElem?_eq_getElem (by omega)⟩
   obtain ⟨y, hy⟩ : ∃ y, l[k]? = some y := ⟨l[k], List.getElem?_eq_getElem hlt⟩
   have bx := HL.out x (List.mem_of_getElem? hx)
   have by_ := HL.out y (List.mem_of_getElem? hy)
   obtain ⟨x, rfl⟩ := Int.eq_ofNat_of_zero_le bx.1
   obtain ⟨y, rfl⟩ := Int.eq_ofNat_of_zero_le by_.1
   obtain ⟨ad, rfl, hb, hc⟩ := H3.out (by omega)
   obtain ⟨ad', rfl, hb', hc'⟩ := G3.out (by omega)
   have k1 : w1.cell? (ad.add (k - 1)) = some (.int .i64 x) := (hb01.cell (p := ad.add (k - 1)) (by rw [block_add]; exact hb)).trans (hc (k - 1) _ hx)
   have k2 : w1.cell? (ad.add k) = some (.int .i64 y) := (hb01.cell (p := ad.add k) (by rw [block_add]; exact hb)).trans (hc k _ hy)
   have k3 := hc' x _ (maskL_at (n := n) (xss := xss) (by omega))
   have hq := mask_lt HG.out.small x
   have HM := Lib.hid (mask_bit HG.out.small x y)
   have GX := Lib.hid hx
   have GY := Lib.hid hy
   clear hc hc' hx hy
   generalize mask xss x = q at *
   by_cases ht : q.testBit y = true
   ·
    have hbit := bit_t hq (by omega) ht
    have HA := Lib.hid (HM.out.1 ht)
    clear ht
    go_wp2_with fail
    go_quiet (fail)
    go_wp2_with fail
    go_roundw
    case rel => exact ⟨k + 1, m + nq, by omega, by omega, by go_num, HU.out.next hk1 GX.out GY.out HA.out, by simp⟩
    case measure => simp [intOf]; omega
   ·
    have hbit := bit_f hq (by omega) ht
    have HA := Lib.hid (fun h => ht (HM.out.2 h))
    clear ht
    go_wp2_with fail
    go_quiet (fail)
    go_wp2_with fail
    go_ret
    refine ⟨ret_bool (propB_f (fun h => HA.out (h (k - 1) _ _ GX.out (by rw [show k - 1 + 1 = k by omega]; exact GY.out)))).symm, ?_⟩
    first | exact bl_drewN (bl_drewN hb01 _) _ | exact bl_drewN hb01 _
  ·
   go_wp2_with fail
   go_ret
   exact ⟨ret_bool (propB_t (HU.out.all (by omega))).symm, bl_drewN hb01 _⟩
end Go.Proofs.YtcfbkickiijjkaaGreatDoor
namespace Go.Proofs.YtcfbkickiijjkaaGreatDoor
open Go.RowKit
set_option linter.all false

def closedP (n : Nat) (xss : List (List Int)) (l : List Int) (a : Int) : Prop :=
  inB l.length 2 200 = true ∧ allB l 0 ((n : Int) - 1) = true ∧ l[0]? = some a ∧ l[l.length - 1]? = some a ∧ walkP xss l
theorem closedP_1 {n : Nat} {xss : List (List Int)} {l : List Int} {a : Int} (h : inB l.length 2 200 = false) : propB (closedP n xss l a) = false := propB_f (fun k => by have := k.1; rw [h] at this; cases this)
theorem closedP_2 {n : Nat} {xss : List (List Int)} {l : List Int} {a : Int} (h : allB l 0 ((n : Int) - 1) = false) : propB (closedP n xss l a) = false := propB_f (fun k => by have := k.2.1; rw [h] at this; cases this)
theorem closedP_3 {n : Nat} {xss : List (List Int)} {l : List Int} {a x : Int} (hx : l[0]? = some x) (h : x ≠ a) : propB (closedP n xss l a) = false := propB_f (fun k => by have := k.2.2.1; rw [hx] at this; cases this; exact h rfl)
theorem closedP_4 {n : Nat} {xss : List (List Int)} {l : List Int} {a x : Int} (hx : l[l.length - 1]? = some x) (h : x ≠ a) : propB (closedP n xss l a) = false := propB_f (fun k => by have := k.2.2.2.1; rw [hx] at this; cases this; exact h rfl)
theorem closedP_5 {n : Nat} {xss : List (List Int)} {l : List Int} {a : Int} (h1 : inB l.length 2 200 = true) (h2 : allB l 0 ((n : Int) - 1) = true) (h3 : l[0]? = some a) (h4 : l[l.length - 1]? = some a) : propB (closedP n xss l a) = propB (walkP xss l) :=
  propB_congr ⟨fun h => h.2.2.2.2, fun h => ⟨h1, h2, h3, h4, h⟩⟩
theorem impl_isClosedFrom (n : Nat) (v u : Value) (xss : List (List Int)) (l : List Int) (a : Int) (w : World) (h : RowsR w w.heap.size v xss) (hu : IntsR w w.heap.size u l) (hg : Good n xss) :
  Calls Tryz.prog 156 #[.agg #[.int .i64 (n : Int), v], u, .int .i64 a] w fun e w' => e = .returned (.bool (propB (closedP n xss l a))) ∧ Below w.heap.size w w' := by
 have hn : (1 : Int) ≤ n ∧ (n : Int) ≤ 12 := by have := hg.1; unfold inB at this; simpa using this
 have HH := Lib.hid h; clear h
 have HG := Lib.hid hg; clear hg
 have HU := Lib.hid hu
 obtain ⟨A, c, rfl, h1, h2, h3⟩ := hu.open_
 unfold maxLen at h2
 clear hu
 have H3 := Lib.hid h3; clear h3
 have hb0 := bl_alloc (Below.refl w.heap.size w) (.cells #[.int .i64 (n : Int), v] 50)
 cases q1 : inB l.length 2 200 with
 | false =>
  have H1 := Lib.hid (closedP_1 (n := n) (xss := xss) (a := a) q1)
  go_enter Tryz.func156, Tryz.ntmps156
  go_wp2_with (go_at_call 78; refine (impl_within _ _ _ _).mono ?_; rintro e w' ⟨rfl, rfl⟩)
  go_ret
  exact ⟨ret_bool H1.out.symm, hb0⟩
 | true =>
  have hlen : (2 : Int) ≤ l.length ∧ (l.length : Int) ≤ 200 := by unfold inB at q1; simpa using q1
  obtain ⟨ad, rfl, hb, hc⟩ := H3.out (by omega)
  have e0 : ad.add 0 = ad := by unfold Addr.add; simp
  obtain ⟨x, hx⟩ : ∃ x, l[0]? = some x := ⟨l[0]'(by omega), List.getElem?_eq_getElem (by omega)⟩
  obtain ⟨y, hy⟩ : ∃ y, l[l.length - 1]? = some y := ⟨l[l.length - 1]'(by omega), List.getElem?_eq_getElem (by omega)⟩
  have c0 := hc 0 x hx
  have c1 := hc (l.length - 1) y hy
  rw [e0] at c0
  have GX := Lib.hid hx
  have GY := Lib.hid hy
  have C0 := Lib.hid c0
  have C1 := Lib.hid c1
  clear hc hx hy c0 c1 e0
  go_enter Tryz.func156, Tryz.ntmps156
  go_wp2_with (go_at_call 78; refine (impl_within _ _ _ _).mono ?_; rintro e w' ⟨rfl, rfl⟩)
  refine (impl_hasLabels (n : Int) v _ l _ ((HU.out.below hb0).more (by simp)) (by omega) (by omega)).mono ?_
  rintro e w1 ⟨rfl, hb1⟩
  have hb01 := bl_trans hb0 hb1
  have k0 : w1.cell? ad = some (.int .i64 x) := (hb01.cell (p := ad) hb).trans C0.out
  have k1 : w1.cell? (ad.add (l.length - 1)) = some (.int .i64 y) := (hb01.cell (p := ad.add (l.length - 1)) (by rw [block_add]; exact hb)).trans C1.out
  obtain ⟨hc1, hf1⟩ := bx w.heap.size hb1 (by simp)
  cases q2 : allB l 0 ((n : Int) - 1) with
  | false =>
   have H1 := Lib.hid (closedP_2 (xss := xss) (a := a) q2)
   go_wp2_with fail
   go_ret
   exact ⟨ret_bool H1.out.symm, hb01⟩
  | true =>
   by_cases q3 : x = a
   ·
    subst q3
    by_cases q4 : y = x
    ·
     subst q4
     have H1 := Lib.hid (closedP_5 (xss := xss) q1 q2 GX.out GY.out)
     go_wp2_with fail
     refine (impl_isWalk n v _ xss l _ ((HH.out.below hb01).more hb01.size) ((HU.out.below hb01).more hb01.size) HG.out q2).mono ?_
     rintro e w2 ⟨rfl, hb2⟩
     go_wp2_with fail
     go_ret
     exact ⟨ret_bool H1.out.symm, bl_trans hb01 hb2⟩
    ·
     have t4 : (y == x) = false := by simpa using q4
     have H1 := Lib.hid (closedP_4 (n := n) (xss := xss) GY.out q4)
     go_wp2_with fail
     go_ret
     exact ⟨ret_bool H1.out.symm, hb01⟩
   ·
    have t3 : (x == a) = false := by simpa using q3
    have H1 := Lib.hid (closedP_3 (n := n) (xss := xss) GX.out q3)
    go_wp2_with fail
    go_ret
    exact ⟨ret_bool H1.out.symm, hb01⟩
/-! ### Loops -/
def numsL (n : Nat) : List Int := (List.range n).map fun (i : Nat) => (i : Int)
theorem numsL_len (n : Nat) : (numsL n).length = n := by simp [numsL]
theorem numsL_at {n k : Nat} (h : k < n) : (numsL n)[k]? = some (k : Int) := by simp [numsL, h]
def NumRel (n : Nat) (w : World) (i : Value) (wr : World) : Prop := ∃ k : Nat, k ≤ n ∧ i = .int .i64 k ∧ wr = w.alloc (.cells (rowOf (((numsL n).take k).map intV) n (.int .i64 0)) 3)
theorem impl_numbersTo (n : Nat) (w : World) (hn : n ≤ 1048576) :
  Calls Tryz.prog 194 #[.int .i64 (n : Int)] w fun e w' => e = .returned (.slice (some ⟨w.heap.size, 0, none⟩) n n) ∧ w' = w.alloc (.cells ((numsL n).map intV).toArray 3) := by
 have hmk := fun W => run_make1 (P := Tryz.prog) 41 3 (.int .i64 0) 8 Tryz.underlying41 intInfo rfl n (by omega) (by omega) W
 go_enter Tryz.func194, Tryz.ntmps194
 go_wp2_with fail
 clear hmk
 go_loopw [9, 4] (fun i _ wr => NumRel n w i wr) (fun i _ _ => n - (intOf i).toNat)
 case atStart => exact ⟨0, Nat.zero_le _, rfl, by simp⟩
 case round =>
  obtain ⟨k, hk, rfl, rfl⟩ := hrel
  by_cases hlt : k < n
  ·
   have hlen : (((numsL n).take k).map intV).length = k := by rw [List.length_map, List.length_take, numsL_len]; omega
   have HN := Lib.hid (show ((numsL n).take (k + 1)).map intV = ((numsL n).take k).map intV ++ [.int .i64 (k : Int)] by
    obtain ⟨hk', e⟩ := List.getElem?_eq_some_iff.1 (numsL_at hlt)
    rw [List.take_succ_eq_append_getElem hk', List.map_append, e]; rfl)
   generalize ((numsL n).take k).map intV = done at *
   have hset := Lib.hid (rowOf_set (done := done) (n := n) (z := .int .i64 0) (by omega) (.int .i64 (k : Int)))
   have hnext := rowOf_next (done := done) (n := n) (z := .int .i64 0) (by omega)
   obtain rfl := hlen
   generalize rowOf done n (.int .i64 0) = C at *
   have hcell2 : (w.alloc (.cells C 3)).cell? ⟨w.heap.size, done.length, none⟩ = some (.int .i64 0) := by rw [World.cell?_alloc_at _ _ _ _ rfl]; exact hnext
   clear hnext
   go_wp2_with fail
   go_roundw
   case rel => exact ⟨done.length + 1, by omega, by go_num, by rw [HN.out, ← hset.out]⟩
   case measure => simp [intOf]; omega
  ·
   have e1 : (numsL n).take k = numsL n := List.take_of_length_le (by rw [numsL_len]; omega)
   have e2 := rowOf_full ((numsL n).map intV) (.int .i64 0)
   rw [List.length_map, numsL_len] at e2
   rw [e1, e2]
   clear e1 e2
   go_wp2_with fail
   go_ret
   exact ⟨rfl, rfl⟩
theorem closure_loop (n : Nat) (a : Nat) (g : Nat) (v : Value) (xss : List (List Int)) (w : World) (h : RowsR w w.heap.size v xss) (hg : Good n xss) (ha : a < n)
    (h0 : w.cell? ⟨g, 0, none⟩ = some (.int .i64 (n : Int))) (h1 : w.cell? ⟨g, 1, none⟩ = some v) :
    Calls Tryz.prog 195 #[.int .i64 (a : Int), .pointer (some ⟨g, 0, none⟩)] w fun e w' => e = .returned (.bool (propB (hasArc xss a a))) ∧ Below w.heap.size w w' := by
  have hn : (1 : Int) ≤ n ∧ (n : Int) ≤ 12 := by have := hg.1; unfold inB at this; simpa using this
  have HH := Lib.hid h; clear h
  have HG := Lib.hid hg; clear hg
  go_enter Tryz.func195, Tryz.ntmps195
  go_wp2_with fail
  refine (impl_after n v xss _ HH.out HG.out).mono ?_
  rintro e w1 ⟨v', rfl, ho, hb1⟩
  obtain ⟨A', c', rfl, g1, g2, g3⟩ := (ho.reads (B := w1.heap.size) ho.1.lt).open_
  rw [maskL_len] at g1 g3 ⊢
  obtain ⟨ad', rfl, hb', hc'⟩ := g3 (by omega)
  have k3 := hc' a _ (maskL_at (n := n) (xss := xss) ha)
  have hq := mask_lt HG.out.small a
  have HM := Lib.hid (mask_bit HG.out.small a a)
  clear hc' g3 ho
  generalize mask xss a = q at *
  by_cases ht : q.testBit a = true
  · have hbit := bit_t hq (by omega) ht
    have HA := Lib.hid (propB_t (HM.out.1 ht))
    clear ht
    go_wp2_with fail
    go_ret
    exact ⟨ret_bool HA.out.symm, hb1⟩
  · have hbit := bit_f hq (by omega) ht
    have HA := Lib.hid (propB_f (fun h => ht (HM.out.2 h)))
    clear ht
    go_wp2_with fail
    go_ret
    exact ⟨ret_bool HA.out.symm, hb1⟩
def LoopIs (n : Nat) (xss : List (List Int)) (i : Int) : Prop :=
  (i = -1 ∧ ∀ a, a < n → ¬ hasArc xss a a) ∨ ∃ a : Nat, a < n ∧ i = a ∧ hasArc xss a a ∧ ∀ b, b < a → ¬ hasArc xss b b
def LoopRel (n : Nat) (xss : List (List Int)) (w : World) (i : Value) (wr : World) : Prop := ∃ k : Nat, k ≤ n ∧ i = .int .i64 k ∧ (∀ b, b < k → ¬ hasArc xss b b) ∧ Below w.heap.size w wr
def LoopPost (n : Nat) (xss : List (List Int)) (w : World) (e : Ending) (w' : World) : Prop := ∃ i : Int, e = .returned (.int .i64 i) ∧ LoopIs n xss i ∧ Below w.heap.size w w'
theorem indexFunc_loop (n : Nat) (u v : Value) (g : Nat) (xss : List (List Int)) (w : World) (h : RowsR w w.heap.size v xss) (hu : IntsR w w.heap.size u (numsL n)) (hg : Good n xss)
  (h0 : w.cell? ⟨g, 0, none⟩ = some (.int .i64 (n : Int))) (h1 : w.cell? ⟨g, 1, none⟩ = some v) :
  Calls Tryz.prog 193 #[u, .func (.func 195) #[] #[.pointer (some ⟨g, 0, none⟩)]] w (LoopPost n xss w) := by
 have hn : (1 : Int) ≤ n ∧ (n : Int) ≤ 12 := by have := hg.1; unfold inB at this; simpa using this
 have HH := Lib.hid h; clear h
 have HG := Lib.hid hg; clear hg
 obtain ⟨A, c, rfl, g1, g2, g3⟩ := hu.open_
 clear hu
 rw [numsL_len] at g1 g3 ⊢
 have G3 := Lib.hid g3; clear g3
 have hgb := World.block_lt_of_cell? _ _ h0
 have H0 := Lib.hid h0; clear h0
 have H1 := Lib.hid h1; clear h1
 simp only at hgb
 go_enter Tryz.func193, Tryz.ntmps193
 go_wp2_with fail
 go_loopw [8, 5] (fun i _ wr => LoopRel n xss w i wr) (fun i _ _ => n - (intOf i).toNat)
 case atStart => exact ⟨0, Nat.zero_le _, rfl, (fun _ h => absurd h (by omega)), Below.refl _ _⟩
 case round =>
  obtain ⟨k, hk, rfl, hup, hbl⟩ := hrel
  have HU := Lib.hid hup; clear hup
  by_cases hlt : k < n
  ·
   obtain ⟨ad, rfl, hb', hc⟩ := G3.out (by omega)
   have hcell : wr.cell? (ad.add k) = some (.int .i64 (k : Int)) := (hbl.cell (p := ad.add k) (by rw [block_add]; exact hb')).trans (hc k _ (numsL_at hlt))
   clear hc
   go_wp2_with fail
   refine (closure_loop n k g v xss _ ((HH.out.below hbl).more hbl.size) HG.out hlt ((hbl.cell (p := ⟨g, 0, none⟩) hgb).trans H0.out) ((hbl.cell (p := ⟨g, 1, none⟩) hgb).trans H1.out)).mono ?_
   rintro e w1 ⟨rfl, hb1⟩
   have hbl1 := bl_trans hbl hb1
   cases q : propB (hasArc xss k k) with
   | true =>
    have HA := Lib.hid (propB_iff.1 q)
    go_wp2_with fail
    go_ret
    exact ⟨k, rfl, .inr ⟨k, hlt, rfl, HA.out, HU.out⟩, hbl1⟩
   | false =>
    have HA := Lib.hid (show ¬ hasArc xss k k from fun h => by rw [propB_t h] at q; cases q)
    go_wp2_with fail
    go_roundw
    case rel => exact ⟨k + 1, by omega, by go_num, (fun b hb => by
     by_cases e : b = k
     ·
      subst e; exact HA.out
     ·
      exact HU.out b (by omega)), hbl1⟩
    case measure => simp [intOf]; omega
  ·
   go_wp2_with fail
   go_ret
   exact ⟨-1, rfl, .inl ⟨rfl, fun a ha => HU.out a (by omega)⟩, hbl⟩
theorem impl_loopOf (n : Nat) (v : Value) (xss : List (List Int)) (w : World) (h : RowsR w w.heap.size v xss) (hg : Good n xss) (hv : ∃ A m c, v = .slice A m c) :
  Calls Tryz.prog 155 #[.agg #[.int .i64 (n : Int), v]] w (LoopPost n xss w) := by
 have hn : (1 : Int) ≤ n ∧ (n : Int) ≤ 12 := by have := hg.1; unfold inB at this; simpa using this
 have hmf : ∀ (fn : Fn) (first cap : Array Value) (w : World), (Instr.makeFunc fn first cap).run Tryz.prog w = .ok (.func fn first cap) w := fun _ _ _ _ => rfl
 have HH := Lib.hid h; clear h
 have HG := Lib.hid hg; clear hg
 have hb0 := bl_alloc (Below.refl w.heap.size w) (.cells #[.int .i64 (n : Int), v] 50)
 go_enter Tryz.func155, Tryz.ntmps155
 go_wp2_with fail
 refine (impl_numbersTo n _ (by omega)).mono ?_
 rintro e w1 ⟨rfl, hw1⟩
 have hb1 : Below (w.heap.size + 1) (w.alloc (.cells #[.int .i64 (n : Int), v] 50)) w1 := by rw [hw1]; exact ((Below.refl _ _).alloc (by simp) _)
 have hb01 : Below w.heap.size w w1 := hb0.trans (hb1.mono (by omega))
 have hlt : w.heap.size + 1 < w1.heap.size := by rw [hw1]; simp
 have HN := Lib.hid (show IntsR w1 w1.heap.size (.slice (some ⟨w.heap.size + 1, 0, none⟩) n n) (numsL n) by
  have ho : OwnInts w1 3 (.slice (some ⟨w.heap.size + 1, 0, none⟩) n n) (numsL n) [w.heap.size + 1] := by
   refine ⟨.inr ⟨w.heap.size + 1, n, ((numsL n).map intV).toArray, by rw [List.length_map, numsL_len], by rw [List.length_map, numsL_len]; exact Nat.le_refl _, by unfold maxLen; omega, ?_, by simp [numsL_len], List.take_of_length_le (by simp), rfl⟩, ?_⟩
   ·
    rw [hw1, show w.heap.size + 1 = (w.alloc (.cells #[.int .i64 (n : Int), v] 50)).heap.size by simp]; exact heap_alloc_new _ _
   ·
    intro x hx
    obtain ⟨i, hi, rfl⟩ := List.mem_map.1 hx
    have := List.mem_range.1 hi
    unfold I64; omega
  exact ho.reads ho.1.lt)
 have k0 : w1.cell? ⟨w.heap.size, 0, none⟩ = some (.int .i64 (n : Int)) := (hb1.cell (p := ⟨w.heap.size, 0, none⟩) (by show w.heap.size < w.heap.size + 1; omega)).trans (by rw [World.cell?_alloc_at _ _ _ _ rfl]; rfl)
 have k1 : w1.cell? ⟨w.heap.size, 1, none⟩ = some v := (hb1.cell (p := ⟨w.heap.size, 1, none⟩) (by show w.heap.size < w.heap.size + 1; omega)).trans (by rw [World.cell?_alloc_at _ _ _ _ rfl]; rfl)
 have K0 := Lib.hid k0; clear k0
 have K1 := Lib.hid k1; clear k1
 clear hw1
 go_wp2_with fail
 refine (indexFunc_loop n _ v w.heap.size xss w1 ((HH.out.below hb01).more hb01.size) HN.out HG.out K0.out K1.out).mono ?_
 rintro e w2 ⟨i, rfl, hi, hb2⟩
 have HI := Lib.hid hi; clear hi
 go_wp2_with fail
 go_ret
 exact ⟨i, rfl, HI.out, bl_trans hb01 hb2⟩
/-! ### Greatest common divisors -/
def gcdL (xs : List Nat) : Nat := xs.foldl Nat.gcd 0
theorem gcdL_snoc (xs : List Nat) (x : Nat) : gcdL (xs ++ [x]) = Nat.gcd (gcdL xs) x := by simp [gcdL]
theorem gcdL_le : ∀ (xs : List Nat) (M d : Nat), d ≤ M → (∀ x ∈ xs, x ≤ M) → xs.foldl Nat.gcd d ≤ M
  | [], _, _, h, _ => h
  | x :: xs, M, d, h, hx => by
    refine gcdL_le xs M (Nat.gcd d x) ?_ (fun y hy => hx y (by simp [hy]))
    by_cases e : d = 0
    · subst e; simp; exact hx x (by simp)
    · exact Nat.le_trans (Nat.le_of_dvd (by omega) (Nat.gcd_dvd_left d x)) h
def GcdRel (xs : List Nat) (w : World) (d i : Value) (wr : World) : Prop := ∃ k m : Nat, k ≤ xs.length ∧ i = .int .i64 k ∧ d = .int .i64 (gcdL (xs.take k) : Int) ∧ wr = w.drewN m
def InGcd (g : Nat) (w : World) (d n : Value) (wr : World) : Prop := ∃ a b m : Nat, a ≤ 1000000000 ∧ b ≤ 1000000000 ∧ d = .int .i64 (a : Int) ∧ n = .int .i64 (b : Int) ∧ Nat.gcd a b = g ∧ wr = w.drewN m
theorem impl_gcd (v : Value) (xs : List Nat) (w : World) (h : IntsR w w.heap.size v (xs.map fun (x : Nat) => (x : Int))) (hx : ∀ x ∈ xs, x ≤ 1000000000) :
  Calls Tryz.prog 157 #[v] w fun e w' => e = .returned (.int .i64 (gcdL xs : Int)) ∧ ∃ n, w' = w.drewN n := by
 obtain ⟨A, c, rfl, h1, h2, h3⟩ := h.open_
 clear h
 rw [List.length_map] at h1 h3 ⊢
 unfold maxLen at h2
 have H3 := Lib.hid h3; clear h3
 have HX := Lib.hid hx; clear hx
 go_enter Tryz.func157, Tryz.ntmps157
 go_wp2_with fail
 go_loopw [3, 5, 8] (fun d _ i wr => GcdRel xs w d i wr) (fun _ _ i _ => xs.length - (intOf i).toNat)
 case atStart => exact ⟨0, 0, Nat.zero_le _, rfl, rfl, rfl⟩
 case round =>
  obtain ⟨k, m, hk, rfl, rfl, rfl⟩ := hrel
  by_cases hlt : k < xs.length
  ·
   obtain ⟨x, hx⟩ : ∃ x, xs[k]? = some x := ⟨xs[k], List.getElem?_eq_getElem hlt⟩
   obtain ⟨ad, rfl, hb, hc⟩ := H3.out (by omega)
   have hcell : w.cell? (ad.add k) = some (.int .i64 (x : Int)) := hc k _ (by rw [List.getElem?_map, hx]; rfl)
   have bx := HX.out x (List.mem_of_getElem? hx)
   have bd : gcdL (xs.take k) ≤ 1000000000 := gcdL_le _ _ _ (by omega) (fun y hy => HX.out y (List.mem_of_mem_take hy))
   have HN := Lib.hid (show gcdL (xs.take (k + 1)) = Nat.gcd (gcdL (xs.take k)) x by
    obtain ⟨hk', rfl⟩ := List.getElem?_eq_some_iff.1 hx
    rw [List.take_succ_eq_append_getElem hk', gcdL_snoc])
   clear hc hx
   generalize gcdL (xs.take k) = g at *
   go_wp2_with fail
   go_loopw [3, 5] (fun d n wr => InGcd (Nat.gcd g x) w d n wr) (fun _ n _ => (intOf n).toNat)
   case atStart => exact ⟨g, x, m, bd, bx, rfl, rfl, rfl, rfl⟩
   case round =>
    obtain ⟨a, b, m', ha, hb', rfl, rfl, hab, rfl⟩ := hrel
    have HA := Lib.hid hab; clear hab
    by_cases hz : b = 0
    ·
     have t0 : ((b : Int) != 0) = false := by subst hz; rfl
     have t1 : ((b : Int) == 0) = true := by subst hz; rfl
     have HZ := Lib.hid hz; clear hz
     go_wp2_with fail
     go_roundw
     case rel => exact ⟨k + 1, m', by omega, by go_num, by rw [HN.out, ← HA.out, HZ.out, Nat.gcd_zero_right], rfl⟩
     case measure => simp [intOf]; omega
    ·
     have t1 : ((b : Int) == 0) = false := by rw [beq_eq_false_iff_ne]; omega
     have t0 : ((b : Int) != 0) = true := by rw [bne, t1]; rfl
     have hm1 : a % b < b := Nat.mod_lt _ (by omega)
     have HM := Lib.hid (show Nat.gcd b (a % b) = Nat.gcd a b by rw [Nat.gcd_comm b, ← Nat.gcd_rec, Nat.gcd_comm])
     go_wp2_with fail
     go_quiet (fail)
     go_wp2_with fail
     have e1 : ((a : Int) % (b : Int)) = ((a % b : Nat) : Int) := by push_cast; rfl
     refine ⟨⟨b, a % b, m' + nq, hb', by omega, rfl, by rw [e1], HM.out.trans HA.out, by simp⟩, ?_⟩
     rw [e1]
     simp only [intOf, Int.toNat_natCast]
     exact hm1
  ·
   have e1 : xs.take k = xs := List.take_of_length_le (by omega)
   rw [e1]
   go_wp2_with fail
   go_ret
   exact ⟨rfl, m, rfl⟩
end Go.Proofs.YtcfbkickiijjkaaGreatDoor
namespace Go.Proofs.YtcfbkickiijjkaaGreatDoor
open Go.RowKit
set_option linter.all false

def MatB (w : World) (B : Nat) (v : Value) (n m : Nat) (f : Nat → Nat → Bool) : Prop :=
  ∃ ad c, v = .slice (some ad) n c ∧ n ≤ c ∧ ad.block < B ∧ ∀ a, a < n → ∃ ad' c', w.cell? (ad.add a) = some (.slice (some ad') m c') ∧ m ≤ c' ∧ ad'.block < B ∧ ∀ b, b < m → w.cell? (ad'.add b) = some (.bool (f a b))
theorem boolInfo : (Tryz.prog.info? 4).map (fun i => (i.zero, i.size, i.bytes)) = some (some (.bool false), 1, 1) := by kernel_rfl
theorem boolsInfo : (Tryz.prog.info? 162).map (fun i => (i.zero, i.size, i.bytes)) = some (some (.slice none 0 0), 1, 24) := by kernel_rfl
def rowV (m : Nat) (g : Nat) : Value := .slice (some ⟨g, 0, none⟩) m m
def bRow (m : Nat) (f : Nat → Bool) : Array Value := ((List.range m).map fun b => Value.bool (f b)).toArray
structure OwnMat (w : World) (base : Nat) (v : Value) (m : Nat) (gs : List Nat) (f : Nat → Nat → Bool) : Prop where
  row : w.ownsRow base 162 1 v gs.length (gs.map (rowV m))
  nodup : gs.Nodup
  ge : ∀ g ∈ gs, base ≤ g
  blk : ∀ a g, gs[a]? = some g → w.heap[g]? = some (Obj.cells (bRow m (f a)) 4 (0, 0))
theorem bRow_at {m b : Nat} {f : Nat → Bool} (h : b < m) : (bRow m f)[b]? = some (.bool (f b)) := by simp [bRow, h]
theorem OwnMat.lt {w : World} {base : Nat} {v : Value} {m : Nat} {gs : List Nat} {f : Nat → Nat → Bool} (h : OwnMat w base v m gs f) {g : Nat} (hg : g ∈ gs) : g < w.heap.size := by
  obtain ⟨a, ha⟩ := List.mem_iff_getElem?.1 hg
  have := h.blk a g ha
  rcases Nat.lt_or_ge g w.heap.size with k | k
  · exact k
  · rw [Array.getElem?_eq_none k] at this; cases this
theorem OwnMat.far {w : World} {base : Nat} {v : Value} {m : Nat} {gs : List Nat} {f : Nat → Nat → Bool} (h : OwnMat w base v m gs f) {g : Nat} (hg : g ∈ gs) : v.ownBlock ≠ some g := by
  obtain ⟨a, ha⟩ := List.mem_iff_getElem?.1 hg
  have hb := h.blk a g ha
  rcases h.row.2 with ⟨rfl, _⟩ | ⟨g', cap, cur, rfl, _, hh, _⟩
  · simp [Value.ownBlock]
  · intro e
    have : g' = g := by simpa [Value.ownBlock] using e
    subst this
    rw [hh] at hb
    injection hb with hb
    injection hb with _ ht
    exact absurd ht (by decide)
theorem OwnMat.reads {w : World} {base : Nat} {v : Value} {m : Nat} {gs : List Nat} {f : Nat → Nat → Bool} (h : OwnMat w base v m gs f) (hn : 0 < gs.length) : MatB w w.heap.size v gs.length m f := by
  obtain ⟨g, cap, rfl, h1, h2, h3, h4⟩ := own_some h.row hn
  refine ⟨⟨g, 0, none⟩, cap, rfl, h1, h4, fun a ha => ?_⟩
  have hga : gs[a]? = some gs[a] := List.getElem?_eq_getElem ha
  refine ⟨⟨gs[a], 0, none⟩, m, ?_, Nat.le_refl _, h.lt (List.getElem_mem ha), fun b hb => ?_⟩
  · exact h.row.cells (g := g) rfl a _ (by rw [List.getElem?_map, hga]; rfl)
  · have e1 : (⟨gs[a], 0, none⟩ : Addr).add b = ⟨gs[a], b, none⟩ := by unfold Addr.add; split <;> simp_all
    rw [e1, cell_of_row w _ b _ _ (0, 0) (h.blk a _ hga), bRow_at hb]
theorem OwnMat.store {w : World} {base : Nat} {v : Value} {m : Nat} {gs : List Nat} {f : Nat → Nat → Bool} (h : OwnMat w base v m gs f) {x y g : Nat} (hg : gs[x]? = some g) (hy : y < m) (b : Bool) :
  OwnMat (w.setCell ⟨g, y, none⟩ (.bool b)) base v m gs (fun a c => if a = x ∧ c = y then b else f a c) := by
 have hm := List.mem_of_getElem? hg
 refine ⟨?_, h.nodup, h.ge, fun a g' hg' => ?_⟩
 ·
  refine h.row.kept (row := some g) ⟨rfl, rfl, rfl, by simp [World.setCell], fun k hk hne => Below.heap_setCell _ _ _ _ (fun e => hne (by simp at e; rw [e]))⟩ (.inr (h.far hm))
 ·
  by_cases e : a = x
  ·
   subst e
   rw [hg] at hg'; cases hg'
   rw [heap_set_same (h.blk a g hg)]
   congr 2
   apply Array.ext_getElem?
   intro j
   rw [Array.getElem?_setIfInBounds]
   by_cases hj : j < m
   ·
    rw [bRow_at hj, bRow_at hj]
    by_cases e2 : y = j
    ·
     subst e2
     have : y < (bRow m (f a)).size := by simp [bRow, hj]
     simp [this]
    ·
     rw [if_neg e2]
     simp [Ne.symm e2]
   ·
    have z1 : (bRow m (f a)).size = m := by simp [bRow]
    have z2 : (bRow m fun c => if a = a ∧ c = y then b else f a c).size = m := by simp [bRow]
    rw [Array.getElem?_eq_none (by omega), if_neg (by omega), Array.getElem?_eq_none (by omega)]
  ·
   have hne : g' ≠ g := by
    intro e2
    subst e2
    have h1 := (List.getElem?_eq_some_iff.1 hg').1
    have h2 := (List.getElem?_eq_some_iff.1 hg).1
    exact e ((List.getElem?_inj h1 h.nodup).1 (hg'.trans hg.symm))
   rw [Below.heap_setCell _ _ _ _ (by simpa using hne), h.blk a g' hg']
   congr 2
   simp [bRow, e]
theorem bRow_false (m : Nat) : bRow m (fun _ => false) = rowOf [] m (.bool false) := by
  apply Array.ext_getElem?
  intro j
  by_cases hj : j < m
  · rw [bRow_at hj]; simp [rowOf, hj]
  · rw [Array.getElem?_eq_none (by simp [bRow]; omega), Array.getElem?_eq_none (by simp [rowOf]; omega)]
theorem OwnMat.push {w w1 w' : World} {base : Nat} {v v' : Value} {m : Nat} {gs : List Nat} {f : Nat → Nat → Bool} {g : Nat} (h : OwnMat w base v m gs f) (hb : Below w.heap.size w w1) (hg : w.heap.size ≤ g) (hg1 : g < w1.heap.size)
    (hnew : w1.heap[g]? = some (Obj.cells (bRow m (f gs.length)) 4 (0, 0))) (hrow : w'.ownsRow base 162 1 v' (gs.length + 1) (gs.map (rowV m) ++ [rowV m g])) (hgr : w1.grownBy w' v.ownBlock) (hbase : base ≤ w.heap.size) :
    OwnMat w' base v' m (gs ++ [g]) f := by
  have hv : ∀ k, w.heap.size ≤ k → v.ownBlock ≠ some k := fun k hk e => by have := (h.row.lt k e).2; omega
  refine ⟨by simpa using hrow, ?_, ?_, ?_⟩
  · rw [List.nodup_append]
    exact ⟨h.nodup, by simp, fun a ha b hb' => by have := h.lt ha; simp at hb'; omega⟩
  · intro x hx
    rcases List.mem_append.1 hx with hx | hx
    · exact h.ge x hx
    · simp at hx; omega
  · intro a x hx
    by_cases ha : a < gs.length
    · rw [List.getElem?_append_left ha] at hx
      have hlt := h.lt (List.mem_of_getElem? hx)
      rw [hgr.block x (by have := hb.size; omega) (fun e => h.far (List.mem_of_getElem? hx) e.symm), hb.block x hlt]
      exact h.blk a x hx
    · rw [List.getElem?_append_right (by omega)] at hx
      have ha' : a = gs.length := by
        have := (List.getElem?_eq_some_iff.1 hx).1
        simp at this; omega
      subst ha'
      simp at hx
      subst hx
      rw [hgr.block g hg1 (fun e => hv g hg e.symm)]
      exact hnew
noncomputable def mayF (xss : List (List Int)) (a b : Nat) : Bool := propB (hasArc xss a b)
def May1 (n : Nat) (w0 : World) (base : Nat) (v i : Value) (wr : World) : Prop :=
  ∃ (k : Nat) (gs : List Nat), k ≤ n ∧ i = .int .i64 k ∧ gs.length = k ∧ OwnMat wr base v n gs (fun _ _ => false) ∧ Below base w0 wr
def May2 (n : Nat) (xss : List (List Int)) (w0 : World) (base : Nat) (v i : Value) (wr : World) : Prop :=
  ∃ (k : Nat) (gs : List Nat), k ≤ xss.length ∧ i = .int .i64 k ∧ gs.length = n ∧ OwnMat wr base v n gs (mayF (xss.take k)) ∧ Below base w0 wr
theorem spec_waMay (n : Nat) (v : Value) (xss : List (List Int)) (w : World) (h : RowsR w w.heap.size v xss) (hg : Good n xss) :
  Calls Tryz.prog 146 #[.agg #[.int .i64 (n : Int), v]] w fun e w' => ∃ v', e = .returned v' ∧ MatB w' w'.heap.size v' n n (mayF xss) ∧ Below w.heap.size w w' := by
 have hn : (1 : Int) ≤ n ∧ (n : Int) ≤ 12 := by have := hg.1; unfold inB at this; simpa using this
 have HS := Lib.hid hg.small
 have HG := Lib.hid hg.2
 obtain ⟨A, c, rfl, h1, h2, h3⟩ := h.open_
 unfold maxLen at h2
 clear h hg
 have H3 := Lib.hid h3; clear h3
 have hmk := fun W => run_make1 (P := Tryz.prog) 162 4 (.bool false) 1 Tryz.underlying162 boolInfo rfl n (by omega) (by omega) W
 have hw0 : Below w.heap.size w (w.alloc (.cells #[.int .i64 (n : Int), .slice A xss.length c] 50)) := bl_alloc (Below.refl _ _) _
 have hw1 : (w.alloc (.cells #[.int .i64 (n : Int), .slice A xss.length c] 50)).heap.size = w.heap.size + 1 := by simp
 have hc0 : (w.alloc (.cells #[.int .i64 (n : Int), .slice A xss.length c] 50)).cell? ⟨w.heap.size, 0, none⟩ = some (.int .i64 (n : Int)) := by rw [World.cell?_alloc_at _ _ _ _ rfl]; rfl
 have hc1 : (w.alloc (.cells #[.int .i64 (n : Int), .slice A xss.length c] 50)).cell? ⟨w.heap.size, 1, none⟩ = some (.slice A xss.length c) := by rw [World.cell?_alloc_at _ _ _ _ rfl]; rfl
 have HW0 := Lib.hid hw0; clear hw0
 have HW1 := Lib.hid hw1; clear hw1
 have HC0 := Lib.hid hc0; clear hc0
 have HC1 := Lib.hid hc1; clear hc1
 go_enter Tryz.func146, Tryz.ntmps146
 go_wp2_with fail
 generalize w.alloc (.cells #[.int .i64 (n : Int), .slice A xss.length c] 50) = w0 at *
 go_loopw [3, 4] (fun v i wr => May1 n w0 (w.heap.size + 1) v i wr) (fun _ i _ => n - (intOf i).toNat)
 case atStart => exact ⟨0, [], Nat.zero_le _, rfl, rfl, ⟨World.ownsRow_nil _ _ _ _, List.nodup_nil, (fun _ h => by cases h), (fun _ _ h => by simp at h)⟩, Below.refl _ _⟩
 case round =>
  obtain ⟨k, gs, hk, rfl, hgs, hown, hbl⟩ := hrel
  have hx0 : wr.cell? ⟨w.heap.size, 0, none⟩ = some (.int .i64 (n : Int)) := (hbl.cell (p := ⟨w.heap.size, 0, none⟩) (by show w.heap.size < w.heap.size + 1; omega)).trans HC0.out
  have hsz : w.heap.size + 1 ≤ wr.heap.size := by have := hbl.size; rw [HW1.out] at this; exact this
  have HO := Lib.hid hown; clear hown
  by_cases hlt : k < n
  ·
   have hown1 : (wr.alloc (.cells (rowOf [] n (.bool false)) 4)).ownsRow (w.heap.size + 1) 162 1 u3 k (gs.map (rowV n)) := by
    have := HO.out.row.alloc (.cells (rowOf [] n (.bool false)) 4)
    rwa [hgs] at this
   go_wp2_with ((at_builtin; refine wpList_append1 (wr.alloc (.cells (rowOf [] n (.bool false)) 4)) rfl (.tmp 13) (.tmp 17) 163 rfl (w.heap.size + 1) 162 _ 24 Tryz.underlying163 boolsInfo rfl _ _ _ rfl _ rfl (by rw [show (wr.alloc (.cells (rowOf [] n (.bool false)) 4)).heap.size = wr.heap.size + 1 by simp]; rfl) hown1 (by unfold maxLen; omega) (by omega) (by simp; omega) ?_; intro v' w' hown' hbl' hgr' hlt' hob'))
   go_roundw
   case rel =>
    refine ⟨k + 1, gs ++ [wr.heap.size], by omega, by go_num, by simp [hgs], ?_, ?_⟩
    ·
     refine HO.out.push (w1 := wr.alloc (.cells (rowOf [] n (.bool false)) 4)) (bl_alloc (Below.refl _ _) _) (Nat.le_refl _) (by simp) ?_ ?_ hgr' hsz
     ·
      rw [bRow_false]; exact heap_alloc_new _ _
     ·
      rw [hgs]; exact hown'
    ·
     exact (hbl.alloc (by omega) _).trans hbl'
   case measure => simp [intOf]; omega
  ·
   have hx1 : wr.cell? ⟨w.heap.size, 1, none⟩ = some (.slice A xss.length c) := (hbl.cell (p := ⟨w.heap.size, 1, none⟩) (by show w.heap.size < w.heap.size + 1; omega)).trans HC1.out
   have hfin : May2 n xss w0 (w.heap.size + 1) u3 (.int .i64 0) wr := ⟨0, gs, Nat.zero_le _, rfl, by omega, by
    have := HO.out
    have e : (fun _ _ => false : Nat → Nat → Bool) = mayF (xss.take 0) := by
     funext a b
     exact (propB_f (by simp [hasArc])).symm
    rwa [e] at this, hbl⟩
   have HF := Lib.hid hfin; clear hfin hgs
   clear hmk
   have hwr0 : w.heap.size + 1 ≤ wr.heap.size := hsz
   go_wp2_with fail
   clear hx1 hbl hsz hx0
   go_loopw [6, 22] (fun _ i wr => May2 n xss w0 (w.heap.size + 1) u3 i wr) (fun _ i _ => xss.length - (intOf i).toNat)
   case atStart => exact HF.out
   case round =>
    obtain ⟨k2, gs2, hk2, rfl, hgs2, hown, hbl⟩ := hrel
    have hb0 : Below w.heap.size w wr := HW0.out.trans (hbl.mono (by omega))
    have HO2 := Lib.hid hown; clear hown
    by_cases hlt2 : k2 < xss.length
    ·
     obtain ⟨xs, hx⟩ : ∃ x, xss[k2]? = some x := ⟨xss[k2], List.getElem?_eq_getElem hlt2⟩
     obtain ⟨x, y, rfl, hx1, hy1⟩ := small_pair (HS.out xs (List.mem_of_getElem? hx))
     obtain ⟨ad, rfl, hb, hc⟩ := H3.out (by omega)
     obtain ⟨u, hu, hr⟩ := hc k2 _ hx
     have hcell : wr.cell? (ad.add k2) = some u := (hb0.cell (p := ad.add k2) (by rw [block_add]; exact hb)).trans hu
     obtain ⟨A1, c1, rfl, g1, g2, g3⟩ := (hr.below hb0).open_
     obtain ⟨ad1, rfl, hb1, hc1⟩ := g3 (by simp)
     have k0 := hc1 0 _ rfl
     have k1 := hc1 1 _ rfl
     have e0 : ad1.add 0 = ad1 := by unfold Addr.add; simp
     have e1 : ad1.add 1 = ⟨ad1.block, ad1.off + 1, none⟩ := by unfold Addr.add; simp
     rw [e0] at k0
     rw [e1] at k1
     clear hc hr hu g3 hc1 e0 e1
     have hxy : x < n ∧ y < n := by
      obtain ⟨xs', e, _, h4, _⟩ := HG.out k2 hlt2
      rw [hx] at e; cases e
      have h5 := allB_iff.1 h4
      have h6 := h5 x (by simp)
      have h7 := h5 y (by simp)
      omega
     obtain ⟨hxn, hyn⟩ := hxy
     obtain ⟨go, cap, rfl, g4, g5, g6, g7⟩ := own_some HO2.out.row (by omega)
     rw [hgs2] at g4 ⊢
     obtain ⟨g, hg⟩ : ∃ g, gs2[x]? = some g := ⟨gs2[x]'(by omega), List.getElem?_eq_getElem (by omega)⟩
     have hrow : wr.cell? ⟨go, x, none⟩ = some (.slice (some ⟨g, 0, none⟩) n n) := by
      have := HO2.out.row.cells (g := go) rfl x _ (by rw [List.getElem?_map, hg]; rfl)
      have e1 : (⟨go, 0, none⟩ : Addr).add x = ⟨go, x, none⟩ := by unfold Addr.add; split <;> simp_all
      rwa [e1] at this
     have hgc : wr.cell? ⟨g, y, none⟩ = some (.bool (mayF (xss.take k2) x y)) := by rw [cell_of_row wr g y _ _ (0, 0) (HO2.out.blk x g hg), bRow_at hyn]
     have hgf : wr.frozen? ⟨g, y, none⟩ = false := by simp [World.frozen?, HO2.out.blk x g hg]
     have HN := Lib.hid (show (fun a b => if a = x ∧ b = y then true else mayF (xss.take k2) a b) = mayF (xss.take (k2 + 1)) by
      obtain ⟨hk', e⟩ := List.getElem?_eq_some_iff.1 hx
      funext a b
      rw [List.take_succ_eq_append_getElem hk', e]
      unfold mayF hasArc
      by_cases q : a = x ∧ b = y
      ·
       rw [if_pos q]
       exact (propB_t (by obtain ⟨rfl, rfl⟩ := q; simp)).symm
      ·
       rw [if_neg q]
       refine propB_congr ⟨fun h => List.mem_append_left _ h, fun h => ?_⟩
       rcases List.mem_append.1 h with h | h
       ·
        exact h
       ·
        exfalso; apply q; simp at h; omega)
     have GG := Lib.hid hg
     clear hx hg
     generalize mayF (xss.take k2) x y = old at *
     go_wp2_with fail
     go_region
     all_goals
      go_wp2_with fail
      go_roundw
      case rel =>
       refine ⟨k2 + 1, gs2, by omega, by go_num, hgs2, ?_, ?_⟩
       ·
        rw [← HN.out]
        have := HO2.out.store GG.out hyn true
        rw [hgs2] at this
        exact ⟨this.row, this.nodup, this.ge, this.blk⟩
       ·
        exact (hbl.setCell (HO2.out.ge g (List.mem_of_getElem? GG.out)) _).drew
      case measure => simp [intOf]; omega
    ·
     have e1 : xss.take k2 = xss := List.take_of_length_le (by omega)
     have HR := Lib.hid (show MatB wr wr.heap.size u3 n n (mayF xss) by
      have := HO2.out.reads (by omega)
      rwa [hgs2, e1] at this)
     clear e1
     go_wp2_with fail
     go_ret
     exact ⟨_, rfl, HR.out, hb0⟩
end Go.Proofs.YtcfbkickiijjkaaGreatDoor
namespace Go.Proofs.YtcfbkickiijjkaaGreatDoor
open Go.RowKit
set_option linter.all false

theorem spec_waWalk (n : Nat) (v u : Value) (xss : List (List Int)) (l : List Int) (w : World) (h : RowsR w w.heap.size v xss) (hu : IntsR w w.heap.size u l) (hg : Good n xss) (hl : allB l 0 (n - 1) = true) :
  Calls Tryz.prog 190 #[.agg #[.int .i64 (n : Int), v], u] w fun e w' => e = .returned (.bool (propB (walkP xss l))) ∧ Below w.heap.size w w' := by
 have HH := Lib.hid h; clear h
 have HL := Lib.hid (allB_iff.1 hl); clear hl
 have HG := Lib.hid hg; clear hg
 obtain ⟨A, c, rfl, h1, h2, h3⟩ := hu.open_
 unfold maxLen at h2
 clear hu
 have H3 := Lib.hid h3; clear h3
 go_enter Tryz.func190, Tryz.ntmps190
 go_wp2_with fail
 refine (spec_waMay n v xss _ ((HH.out.below (bl_alloc (Below.refl _ _) _)).more (by simp)) HG.out).mono ?_
 rintro e w1 ⟨v', rfl, ho, hb1⟩
 have hb01 := bl_trans (bl_alloc (Below.refl w.heap.size w) _) hb1
 obtain ⟨ad', c', rfl, g1, g2, g3⟩ := ho
 have G3 := Lib.hid g3; clear g3
 go_wp2_with fail
 go_loopw [6] (fun i wr => IsWalkRel xss l w1 i wr) (fun i _ => l.length - (intOf i).toNat)
 case atStart => exact ⟨1, 0, Nat.le_refl _, by omega, rfl, fun i _ _ h => absurd h (by omega), rfl⟩
 case round =>
  obtain ⟨k, m, hk1, hk, rfl, hup, rfl⟩ := hrel
  have HU := Lib.hid hup; clear hup
  have hn12 : (n : Int) ≤ 12 := by have := HG.out.1; unfold inB at this; simp at this; omega
  by_cases hlt : k < l.length
  ·
   obtain ⟨x, hx⟩ : ∃ x, l[k - 1]? = some x := ⟨l[k - 1], List.getElem?_eq_getElem (by omega)⟩
   obtain ⟨y, hy⟩ : ∃ y, l[k]? = some y := ⟨l[k], List.getElem?_eq_getElem hlt⟩
   have bx := HL.out x (List.mem_of_getElem? hx)
   have by_ := HL.out y (List.mem_of_getElem? hy)
   obtain ⟨x, rfl⟩ := Int.eq_ofNat_of_zero_le bx.1
   obtain ⟨y, rfl⟩ := Int.eq_ofNat_of_zero_le by_.1
   obtain ⟨ad, rfl, hb, hc⟩ := H3.out (by omega)
   obtain ⟨ad2, c2, e1, e2, e3, e4⟩ := G3.out x (by omega)
   have k1 : w1.cell? (ad.add (k - 1)) = some (.int .i64 x) := (hb01.cell (p := ad.add (k - 1)) (by rw [block_add]; exact hb)).trans (hc (k - 1) _ hx)
   have k2 : w1.cell? (ad.add k) = some (.int .i64 y) := (hb01.cell (p := ad.add k) (by rw [block_add]; exact hb)).trans (hc k _ hy)
   have k3 := e4 y (by omega)
   have GX := Lib.hid hx
   have GY := Lib.hid hy
   clear hc e4 hx hy
   cases ht : mayF xss x y with
   | true =>
    rw [ht] at k3
    have HA := Lib.hid (propB_iff.1 ht)
    clear ht
    go_wp2_with fail
    go_quiet (fail)
    go_wp2_with fail
    go_roundw
    case rel => exact ⟨k + 1, m + nq, by omega, by omega, by go_num, HU.out.next hk1 GX.out GY.out HA.out, by simp⟩
    case measure => simp [intOf]; omega
   | false =>
    rw [ht] at k3
    have HA := Lib.hid (show ¬ hasArc xss x y from fun h => by have := propB_t h; unfold mayF at ht; rw [this] at ht; cases ht)
    clear ht
    go_wp2_with fail
    go_quiet (fail)
    go_wp2_with fail
    go_ret
    refine ⟨ret_bool (propB_f (fun h => HA.out (h (k - 1) _ _ GX.out (by rw [show k - 1 + 1 = k by omega]; exact GY.out)))).symm, ?_⟩
    first | exact bl_drewN (bl_drewN hb01 _) _ | exact bl_drewN hb01 _
  ·
   go_wp2_with fail
   go_ret
   exact ⟨ret_bool (propB_t (HU.out.all (by omega))).symm, bl_drewN hb01 _⟩
def LoopAt (xss : List (List Int)) (i : Int) : Prop :=
  (i = -1 ∧ ∀ a, ¬ hasArc xss a a) ∨ ∃ (k a : Nat), i = a ∧ xss[k]? = some [(a : Int), (a : Int)] ∧ ∀ j (b : Nat), j < k → xss[j]? ≠ some [(b : Int), (b : Int)]
def NoLoop (xss : List (List Int)) (k : Nat) : Prop := ∀ j (b : Nat), j < k → xss[j]? ≠ some [(b : Int), (b : Int)]
def WaLoopRel (xss : List (List Int)) (w : World) (i : Value) (wr : World) : Prop := ∃ k m : Nat, k ≤ xss.length ∧ i = .int .i64 k ∧ NoLoop xss k ∧ wr = w.drewN m
theorem spec_waLoop (n : Nat) (v : Value) (xss : List (List Int)) (w : World) (h : RowsR w w.heap.size v xss) (hg : Good n xss) :
  Calls Tryz.prog 147 #[.agg #[.int .i64 (n : Int), v]] w fun e w' => ∃ i : Int, e = .returned (.int .i64 i) ∧ LoopAt xss i ∧ Below w.heap.size w w' := by
 have HS := Lib.hid hg.small
 obtain ⟨A, c, rfl, h1, h2, h3⟩ := h.open_
 unfold maxLen at h2
 clear h hg
 have H3 := Lib.hid h3; clear h3
 have hb0 := bl_alloc (Below.refl w.heap.size w) (.cells #[.int .i64 (n : Int), .slice A xss.length c] 50)
 go_enter Tryz.func147, Tryz.ntmps147
 go_wp2_with fail
 generalize w.alloc (.cells #[.int .i64 (n : Int), .slice A xss.length c] 50) = w0 at *
 go_loopw [4, 8] (fun _ i wr => WaLoopRel xss w0 i wr) (fun _ i _ => xss.length - (intOf i).toNat)
 case atStart => exact ⟨0, 0, Nat.zero_le _, rfl, (fun j b h => absurd h (by omega)), rfl⟩
 case round =>
  obtain ⟨k, m, hk, rfl, hup, rfl⟩ := hrel
  have HU := Lib.hid hup; clear hup
  by_cases hlt : k < xss.length
  ·
   obtain ⟨xs, hx⟩ : ∃ x, xss[k]? = some x := ⟨xss[k], List.getElem?_eq_getElem hlt⟩
   obtain ⟨x, y, rfl, hx1, hy1⟩ := small_pair (HS.out xs (List.mem_of_getElem? hx))
   obtain ⟨ad, rfl, hb, hc⟩ := H3.out (by omega)
   obtain ⟨u, hu, hr⟩ := hc k _ hx
   have hcell : w0.cell? (ad.add k) = some u := (hb0.cell (p := ad.add k) (by rw [block_add]; exact hb)).trans hu
   obtain ⟨A1, c1, rfl, g1, g2, g3⟩ := (hr.below hb0).open_
   obtain ⟨ad1, rfl, hb1, hc1⟩ := g3 (by simp)
   have k0 := hc1 0 _ rfl
   have k1 := hc1 1 _ rfl
   have e0 : ad1.add 0 = ad1 := by unfold Addr.add; simp
   have e1 : ad1.add 1 = ⟨ad1.block, ad1.off + 1, none⟩ := by unfold Addr.add; simp
   rw [e0] at k0
   rw [e1] at k1
   clear hc hr hu g3 hc1 e0 e1
   have GX := Lib.hid hx; clear hx
   by_cases q : x = y
   ·
    subst q
    have t0 : ((x : Int) == (x : Int)) = true := by simp
    go_wp2_with fail
    go_quiet (fail)
    go_wp2_with fail
    go_ret
    exact ⟨x, rfl, .inr ⟨k, x, rfl, GX.out, HU.out⟩, by first | exact bl_drewN (bl_drewN hb0 _) _ | exact bl_drewN hb0 _⟩
   ·
    have t0 : ((x : Int) == (y : Int)) = false := by rw [beq_eq_false_iff_ne]; omega
    have HQ := Lib.hid q; clear q
    go_wp2_with fail
    go_quiet (fail)
    go_wp2_with fail
    go_roundw
    case rel => exact ⟨k + 1, m + nq, by omega, by go_num, (fun j b hj e => by
     by_cases ej : j = k
     ·
      subst ej; rw [GX.out] at e; simp at e; exact HQ.out (by omega)
     ·
      exact HU.out j b (by omega) e), by simp⟩
    case measure => simp [intOf]; omega
  ·
   go_wp2_with fail
   go_ret
   exact ⟨-1, rfl, .inl ⟨rfl, fun a ha => by
    obtain ⟨j, hj⟩ := List.mem_iff_getElem?.1 ha
    exact HU.out j a (by have := (List.getElem?_eq_some_iff.1 hj).1; omega) hj⟩, bl_drewN hb0 _⟩
def WaGcdRel (g : Nat) (w : World) (d n : Value) (wr : World) : Prop := ∃ a b m : Nat, a ≤ 1000000000 ∧ b ≤ 1000000000 ∧ d = .int .i64 (a : Int) ∧ n = .int .i64 (b : Int) ∧ Nat.gcd a b = g ∧ wr = w.drewN m
theorem spec_waGcd (a b : Nat) (w : World) (ha : a ≤ 1000000000) (hb : b ≤ 1000000000) :
    Calls Tryz.prog 149 #[.int .i64 (a : Int), .int .i64 (b : Int)] w fun e w' => e = .returned (.int .i64 (Nat.gcd a b : Int)) ∧ ∃ n, w' = w.drewN n := by
  go_enter Tryz.func149, Tryz.ntmps149
  go_wp2_with fail
  go_loopw [0, 1] (fun d n wr => WaGcdRel (Nat.gcd a b) w d n wr) (fun _ n _ => (intOf n).toNat)
  case atStart => exact ⟨a, b, 0, ha, hb, rfl, rfl, rfl, rfl⟩
  case round =>
    obtain ⟨a', b', m', ha', hb', rfl, rfl, hab, rfl⟩ := hrel
    have HA := Lib.hid hab; clear hab
    by_cases hz : b' = 0
    · have HZ := Lib.hid hz
      go_wp2_with fail
      go_ret
      exact ⟨ret_int (by rw [← HA.out, HZ.out, Nat.gcd_zero_right]), m', rfl⟩
    · have hm1 : a' % b' < b' := Nat.mod_lt _ (by omega)
      have t1 : ((b' : Int) == 0) = false := by rw [beq_eq_false_iff_ne]; omega
      have HM := Lib.hid (show Nat.gcd b' (a' % b') = Nat.gcd a' b' by rw [Nat.gcd_comm b', ← Nat.gcd_rec, Nat.gcd_comm])
      go_wp2_with fail
      go_quiet (fail)
      go_wp2_with fail
      have e1 : ((a' : Int) % (b' : Int)) = ((a' % b' : Nat) : Int) := by push_cast; rfl
      refine ⟨⟨b', a' % b', m' + nq, hb', by omega, rfl, by rw [e1], HM.out.trans HA.out, by simp⟩, ?_⟩
      rw [e1]
      simp only [intOf, Int.toNat_natCast]
      exact hm1
theorem spec_waRound (n : Nat) (v u : Value) (xss : List (List Int)) (l : List Int) (a : Int) (w : World) (h : RowsR w w.heap.size v xss) (hu : IntsR w w.heap.size u l) (hg : Good n xss) :
  Calls Tryz.prog 148 #[.agg #[.int .i64 (n : Int), v], u, .int .i64 a] w fun e w' => e = .returned (.bool (propB (closedP n xss l a))) ∧ Below w.heap.size w w' := by
 have hn : (1 : Int) ≤ n ∧ (n : Int) ≤ 12 := by have := hg.1; unfold inB at this; simpa using this
 have HH := Lib.hid h; clear h
 have HG := Lib.hid hg; clear hg
 have HU := Lib.hid hu
 obtain ⟨A, c, rfl, h1, h2, h3⟩ := hu.open_
 unfold maxLen at h2
 clear hu
 have H3 := Lib.hid h3; clear h3
 have hb0 := bl_alloc (Below.refl w.heap.size w) (.cells #[.int .i64 (n : Int), v] 50)
 cases q1 : inB l.length 2 200 with
 | false =>
  have H1 := Lib.hid (closedP_1 (n := n) (xss := xss) (a := a) q1)
  go_enter Tryz.func148, Tryz.ntmps148
  go_wp2_with (go_at_call 25; refine (spec_l1In _ _ _ _).mono ?_; rintro e w' ⟨rfl, rfl⟩)
  go_ret
  exact ⟨ret_bool H1.out.symm, hb0⟩
 | true =>
  have hlen : (2 : Int) ≤ l.length ∧ (l.length : Int) ≤ 200 := by unfold inB at q1; simpa using q1
  obtain ⟨ad, rfl, hb, hc⟩ := H3.out (by omega)
  have e0 : ad.add 0 = ad := by unfold Addr.add; simp
  obtain ⟨x, hx⟩ : ∃ x, l[0]? = some x := ⟨l[0]'(by omega), List.getElem?_eq_getElem (by omega)⟩
  obtain ⟨y, hy⟩ : ∃ y, l[l.length - 1]? = some y := ⟨l[l.length - 1]'(by omega), List.getElem?_eq_getElem (by omega)⟩
  have c0 := hc 0 x hx
  have c1 := hc (l.length - 1) y hy
  rw [e0] at c0
  have GX := Lib.hid hx
  have GY := Lib.hid hy
  have C0 := Lib.hid c0
  have C1 := Lib.hid c1
  clear hc hx hy c0 c1 e0
  go_enter Tryz.func148, Tryz.ntmps148
  go_wp2_with (go_at_call 25; refine (spec_l1In _ _ _ _).mono ?_; rintro e w' ⟨rfl, rfl⟩)
  refine (spec_l1All _ l 0 ((n : Int) - 1) _ ((HU.out.below hb0).more (by simp))).mono ?_
  rintro e w1 ⟨rfl, hw1⟩
  subst hw1
  have k0 := (hb0.cell (p := ad) hb).trans C0.out
  have k1 := (hb0.cell (p := ad.add (l.length - 1)) (by rw [block_add]; exact hb)).trans C1.out
  cases q2 : allB l 0 ((n : Int) - 1) with
  | false =>
   have H1 := Lib.hid (closedP_2 (xss := xss) (a := a) q2)
   go_wp2_with fail
   go_ret
   exact ⟨ret_bool H1.out.symm, hb0⟩
  | true =>
   by_cases q3 : x = a
   ·
    subst q3
    by_cases q4 : y = x
    ·
     subst q4
     have H1 := Lib.hid (closedP_5 (xss := xss) q1 q2 GX.out GY.out)
     go_wp2_with fail
     refine (spec_waWalk n v _ xss l _ ((HH.out.below hb0).more hb0.size) ((HU.out.below hb0).more hb0.size) HG.out q2).mono ?_
     rintro e w2 ⟨rfl, hb2⟩
     go_wp2_with fail
     go_ret
     exact ⟨ret_bool H1.out.symm, bl_trans hb0 hb2⟩
    ·
     have t4 : (y == x) = false := by simpa using q4
     have H1 := Lib.hid (closedP_4 (n := n) (xss := xss) GY.out q4)
     go_wp2_with fail
     go_ret
     exact ⟨ret_bool H1.out.symm, hb0⟩
   ·
    have t3 : (x == a) = false := by simpa using q3
    have H1 := Lib.hid (closedP_3 (n := n) (xss := xss) GX.out q3)
    go_wp2_with fail
    go_ret
    exact ⟨ret_bool H1.out.symm, hb0⟩
end Go.Proofs.YtcfbkickiijjkaaGreatDoor
namespace Go.Proofs.YtcfbkickiijjkaaGreatDoor
open Go.RowKit
set_option linter.all false

def rankOk (r : List Int) : Prop := r.length = 3 ∧ allB r 0 1000 = true
def ShapeTo (rs : List (List Int)) (k : Nat) : Prop := ∀ i r, i < k → rs[i]? = some r → rankOk r
theorem ShapeTo.next {rs : List (List Int)} {k : Nat} {r : List Int} (h : ShapeTo rs k) (hr : rs[k]? = some r) (h1 : r.length = 3) (h2 : allB r 0 1000 = true) : ShapeTo rs (k + 1) := by
  intro i x hi hx
  by_cases e : i = k
  · subst e; rw [hr] at hx; cases hx; exact ⟨h1, h2⟩
  · exact h i x (by omega) hx
def upR (r s : List Int) : Prop := r.getD 0 0 < s.getD 0 0
def aroundR (r s : List Int) : Prop := r.getD 0 0 = s.getD 0 0 ∧ r.getD 1 0 = s.getD 1 0 ∧ 2 ≤ r.getD 1 0 ∧ Int.tmod (s.getD 2 0 - r.getD 2 0 - 1) (r.getD 1 0) = 0
def arcR (ar : Bool) (rs : List (List Int)) (x y : Nat) : Prop := upR (rs.getD x []) (rs.getD y []) ∨ (ar = true ∧ aroundR (rs.getD x []) (rs.getD y []))
def ArcsTo (ar : Bool) (rs xss : List (List Int)) (k : Nat) : Prop := ∀ i (x y : Nat), i < k → xss[i]? = some [(x : Int), (y : Int)] → arcR ar rs x y
theorem ArcsTo.next {ar : Bool} {rs xss : List (List Int)} {k x y : Nat} (h : ArcsTo ar rs xss k) (hx : xss[k]? = some [(x : Int), (y : Int)]) (ha : arcR ar rs x y) : ArcsTo ar rs xss (k + 1) := by
  intro i x' y' hi hx'
  by_cases e : i = k
  · subst e
    rw [hx] at hx'
    simp at hx'
    obtain ⟨e1, e2⟩ := hx'
    obtain rfl : x = x' := by omega
    obtain rfl : y = y' := by omega
    exact ha
  · exact h i x' y' (by omega) hx'
def RanksP (ar : Bool) (n : Nat) (xss rs : List (List Int)) : Prop := rs.length = n ∧ ShapeTo rs rs.length ∧ ArcsTo ar rs xss xss.length
theorem RanksP.above (n : Nat) (xss rs : List (List Int)) : RanksP false n xss rs ↔ RanksP true n xss rs ∧ ArcsTo false rs xss xss.length := by
  constructor
  · rintro ⟨h1, h2, h3⟩
    refine ⟨⟨h1, h2, fun i x y hi hx => ?_⟩, h3⟩
    rcases h3 i x y hi hx with h | ⟨h, _⟩
    · exact .inl h
    · cases h
  · rintro ⟨⟨h1, h2, _⟩, h3⟩; exact ⟨h1, h2, h3⟩
theorem triple {r : List Int} (h : r.length = 3) : ∃ a b c : Int, r = [a, b, c] := by
  match r, h with
  | [a, b, c], _ => exact ⟨a, b, c, rfl⟩
theorem triple_cells {w : World} {B : Nat} {u : Value} {a b c : Int} (h : IntsR w B u [a, b, c]) :
    ∃ ad c', u = .slice (some ad) 3 c' ∧ 3 ≤ c' ∧ c' ≤ maxLen ∧ ad.block < B ∧ w.cell? ad = some (.int .i64 a) ∧ w.cell? ⟨ad.block, ad.off + 1, none⟩ = some (.int .i64 b) ∧ w.cell? ⟨ad.block, ad.off + 2, none⟩ = some (.int .i64 c) := by
  obtain ⟨A, c', rfl, h1, h2, h3⟩ := h.open_
  obtain ⟨ad, rfl, hb, hc⟩ := h3 (by simp)
  have k0 := hc 0 _ rfl
  have k1 := hc 1 _ rfl
  have k2 := hc 2 _ rfl
  have e0 : ad.add 0 = ad := by unfold Addr.add; simp
  have e1 : ad.add 1 = ⟨ad.block, ad.off + 1, none⟩ := by unfold Addr.add; simp
  have e2 : ad.add 2 = ⟨ad.block, ad.off + 2, none⟩ := by unfold Addr.add; simp
  rw [e0] at k0; rw [e1] at k1; rw [e2] at k2
  exact ⟨ad, c', rfl, h1, h2, hb, k0, k1, k2⟩
theorem pair_cells {w : World} {B : Nat} {u : Value} {a b : Int} (h : IntsR w B u [a, b]) :
    ∃ ad c', u = .slice (some ad) 2 c' ∧ 2 ≤ c' ∧ c' ≤ maxLen ∧ ad.block < B ∧ w.cell? ad = some (.int .i64 a) ∧ w.cell? ⟨ad.block, ad.off + 1, none⟩ = some (.int .i64 b) := by
  obtain ⟨A, c', rfl, h1, h2, h3⟩ := h.open_
  obtain ⟨ad, rfl, hb, hc⟩ := h3 (by simp)
  have k0 := hc 0 _ rfl
  have k1 := hc 1 _ rfl
  have e0 : ad.add 0 = ad := by unfold Addr.add; simp
  have e1 : ad.add 1 = ⟨ad.block, ad.off + 1, none⟩ := by unfold Addr.add; simp
  rw [e0] at k0; rw [e1] at k1
  exact ⟨ad, c', rfl, h1, h2, hb, k0, k1⟩
theorem getD_of {rs : List (List Int)} {x : Nat} {r : List Int} (h : rs[x]? = some r) : rs.getD x [] = r := by simp [List.getD, h]
def ShRel (rs : List (List Int)) (w : World) (i : Value) (wr : World) : Prop := ∃ k : Nat, k ≤ rs.length ∧ i = .int .i64 k ∧ ShapeTo rs k ∧ Below w.heap.size w wr
def ArRel (ar : Bool) (rs xss : List (List Int)) (w : World) (i : Value) (wr : World) : Prop := ∃ k m : Nat, k ≤ xss.length ∧ i = .int .i64 k ∧ ArcsTo ar rs xss k ∧ wr = w.drewN m
def ShRel0 (rs : List (List Int)) (w w0 : World) (i : Value) (wr : World) : Prop := w0 = wr ∧ ShRel rs w i wr
set_option maxRecDepth 100000 in
set_option maxHeartbeats 1000000 in
theorem spec_waRanked (n : Nat) (v u : Value) (xss rs : List (List Int)) (w : World) (h : RowsR w w.heap.size v xss) (hu : RowsR w w.heap.size u rs) (hg : Good n xss) :
  Calls Tryz.prog 150 #[.agg #[.int .i64 (n : Int), v], u] w fun e w' => e = .returned (.bool (propB (RanksP true n xss rs))) ∧ Below w.heap.size w w' := by
 have hn : (1 : Int) ≤ n ∧ (n : Int) ≤ 12 := by have := hg.1; unfold inB at this; simpa using this
 have HS := Lib.hid hg.small
 have HG := Lib.hid hg.2
 obtain ⟨A, c, rfl, h1, h2, h3⟩ := h.open_
 obtain ⟨A2, c2, rfl, f1, f2, f3⟩ := hu.open_
 unfold maxLen at h2 f2
 clear h hg hu
 have H3 := Lib.hid h3; clear h3
 have F3 := Lib.hid f3; clear f3
 have hb0 := bl_alloc (Below.refl w.heap.size w) (.cells #[.int .i64 (n : Int), .slice A xss.length c] 50)
 have hc1 : (w.alloc (.cells #[.int .i64 (n : Int), .slice A xss.length c] 50)).cell? ⟨w.heap.size, 1, none⟩ = some (.slice A xss.length c) := by rw [World.cell?_alloc_at _ _ _ _ rfl]; rfl
 have HC1 := Lib.hid hc1; clear hc1
 by_cases hr : rs.length = n
 ·
  have t0 : ((rs.length : Int) != (n : Int)) = false := by rw [hr]; simp
  have HR := Lib.hid hr; clear hr
  go_enter Tryz.func150, Tryz.ntmps150
  go_wp2_with fail
  generalize w.alloc (.cells #[.int .i64 (n : Int), .slice A xss.length c] 50) = w0 at *
  clear t0
  go_loopw [6, 19] (fun _ i wr => ShRel0 rs w w0 i wr) (fun _ i _ => rs.length - (intOf i).toNat)
  case atStart => exact ⟨rfl, 0, Nat.zero_le _, rfl, (fun i r hi => absurd hi (by omega)), hb0⟩
  case round =>
   obtain ⟨rfl, k, hk, rfl, hup, hbl⟩ := hrel
   have HU := Lib.hid hup; clear hup
   by_cases hlt : k < rs.length
   ·
    obtain ⟨xs, hx⟩ : ∃ x, rs[k]? = some x := ⟨rs[k], List.getElem?_eq_getElem hlt⟩
    obtain ⟨ad, rfl, hb, hc⟩ := F3.out (by omega)
    obtain ⟨u, hu, hr⟩ := hc k _ hx
    have hcell := (hbl.cell (p := ad.add k) (by rw [block_add]; exact hb)).trans hu
    have HV := Lib.hid ((hr.below hbl).more hbl.size)
    obtain ⟨A1, c1, rfl, g1, g2, g3⟩ := (hr.below hbl).open_
    clear hc hr hu g3
    have GX := Lib.hid hx; clear hx
    by_cases q : xs.length = 3
    ·
     have t0 : ((xs.length : Int) != 3) = false := by rw [q]; rfl
     have HQ := Lib.hid q
     clear q
     go_wp2_with fail
     refine (spec_l1All _ xs 0 1000 _ HV.out).mono ?_
     rintro e w1 ⟨rfl, rfl⟩
     cases q2 : allB xs 0 1000 with
     | true =>
      go_wp2_with fail
      go_roundw
      case rel => exact ⟨rfl, k + 1, by omega, by go_num, HU.out.next GX.out HQ.out q2, hbl⟩
      case measure => simp [intOf]; omega
     | false =>
      go_wp2_with fail
      go_ret
      exact ⟨ret_bool (propB_f (fun h => by have := (h.2.1 k xs hlt GX.out).2; rw [q2] at this; cases this)).symm, hbl⟩
    ·
     have t0 : ((xs.length : Int) != 3) = true := by rw [bne_iff_ne]; omega
     have HQ := Lib.hid q
     go_wp2_with fail
     go_ret
     exact ⟨ret_bool (propB_f (fun h => HQ.out (h.2.1 k xs hlt GX.out).1)).symm, hbl⟩
   ·
    have hx1 := HC1.out
    have HSH := Lib.hid (show ShapeTo rs rs.length from fun i r hi => HU.out i r (by omega))
    go_wp2_with fail
    clear hx1
    go_loopw [8, 35] (fun _ i wr => ArRel true rs xss w0 i wr) (fun _ i _ => xss.length - (intOf i).toNat)
    case atStart => exact ⟨0, 0, Nat.zero_le _, rfl, (fun i x y hi => absurd hi (by omega)), rfl⟩
    case round =>
     obtain ⟨k2, m, hk2, rfl, hup, rfl⟩ := hrel
     have HT := Lib.hid hup; clear hup
     by_cases hlt2 : k2 < xss.length
     ·
      obtain ⟨xs, hx⟩ : ∃ x, xss[k2]? = some x := ⟨xss[k2], List.getElem?_eq_getElem hlt2⟩
      obtain ⟨x, y, rfl, hx1, hy1⟩ := small_pair (HS.out xs (List.mem_of_getElem? hx))
      obtain ⟨ad, rfl, hb, hc⟩ := H3.out (by omega)
      obtain ⟨u, hu, hr'⟩ := hc k2 _ hx
      have hcell := (hbl.cell (p := ad.add k2) (by rw [block_add]; exact hb)).trans hu
      obtain ⟨ad1, c1, rfl, g1, g2, hb1, k0, k1⟩ := pair_cells (hr'.below hbl)
      have hxy : x < n ∧ y < n := by
       obtain ⟨xs', e, _, h4, _⟩ := HG.out k2 hlt2
       rw [hx] at e; cases e
       have h5 := allB_iff.1 h4
       have h6 := h5 x (by simp)
       have h7 := h5 y (by simp)
       omega
      rw [← HR.out] at hxy
      obtain ⟨hxn, hyn⟩ := hxy
      obtain ⟨ad2, rfl, hb2, hc2⟩ := F3.out (by omega)
      obtain ⟨r1, hr1⟩ : ∃ r, rs[x]? = some r := ⟨rs[x]'(by omega), List.getElem?_eq_getElem (by omega)⟩
      obtain ⟨r2, hr2⟩ : ∃ r, rs[y]? = some r := ⟨rs[y]'(by omega), List.getElem?_eq_getElem (by omega)⟩
      have o1 := HSH.out x r1 (by omega) hr1
      have o2 := HSH.out y r2 (by omega) hr2
      obtain ⟨a0, a1, a2, rfl⟩ := triple o1.1
      obtain ⟨b0, b1, b2, rfl⟩ := triple o2.1
      have o3 := allB_iff.1 o1.2
      have o4 := allB_iff.1 o2.2
      have p0 := o3 a0 (by simp)
      have p1 := o3 a1 (by simp)
      have p2 := o3 a2 (by simp)
      have p3 := o4 b0 (by simp)
      have p4 := o4 b1 (by simp)
      have p5 := o4 b2 (by simp)
      obtain ⟨v1, m1, hi1⟩ := hc2 x _ hr1
      obtain ⟨v2, m2, hi2⟩ := hc2 y _ hr2
      have l1 := (hbl.cell (p := ad2.add x) (by rw [block_add]; exact hb2)).trans m1
      have l2 := (hbl.cell (p := ad2.add y) (by rw [block_add]; exact hb2)).trans m2
      obtain ⟨ad3, c3, rfl, i1, i2, i3, i4, i5, i6⟩ := triple_cells (hi1.below hbl)
      obtain ⟨ad4, c4, rfl, j1, j2, j3, j4, j5, j6⟩ := triple_cells (hi2.below hbl)
      have HA := Lib.hid (show arcR true rs x y ↔ (a0 < b0 ∨ a0 = b0 ∧ a1 = b1 ∧ 2 ≤ a1 ∧ Int.tmod (b2 - a2 - 1) a1 = 0) by
       unfold arcR upR aroundR
       rw [getD_of hr1, getD_of hr2]
       simp)
      have GX := Lib.hid hx
      clear hc hc2 hu hr' m1 m2 hi1 hi2 o1 o2 o3 o4 hx hr1 hr2
      have hbad : ¬ arcR true rs x y → propB (RanksP true n xss rs) = false := fun hn => propB_f (fun h => hn (h.2.2 k2 x y hlt2 GX.out))
      have HB := Lib.hid hbad; clear hbad
      by_cases q0 : a0 < b0
      ·
       have t0 : (a0 == b0) = false := by rw [beq_eq_false_iff_ne]; omega
       have t9 : decide (b0 ≤ a0) = false := decide_eq_false (by omega)
       go_wp2_with fail
       go_quiet (fail)
       go_wp2_with fail
       go_quiet (fail)
       go_wp2_with fail
       go_quiet (fail)
       go_wp2_with fail
       go_roundw
       case rel => exact ⟨k2 + 1, _, by omega, by go_num, HT.out.next GX.out (HA.out.2 (.inl q0)), rfl⟩
       case measure => simp [intOf]; omega
      ·
       by_cases q1 : a0 = b0
       ·
        have t0 : (a0 == b0) = true := by rw [beq_iff_eq]; exact q1
        have t9 : decide (b0 ≤ a0) = true := decide_eq_true (by omega)
        by_cases q2 : a1 = b1
        ·
         have t1 : (a1 == b1) = true := by rw [beq_iff_eq]; exact q2
         by_cases q3 : 2 ≤ a1
         ·
          have t2 : decide (2 ≤ a1) = true := decide_eq_true q3
          have t3 : (a1 == 0) = false := by rw [beq_eq_false_iff_ne]; omega
          have hm1 : Int.tmod (b2 - a2 - 1) a1 < a1 := Int.tmod_lt_of_pos _ (by omega)
          have hm2 : -a1 < Int.tmod (b2 - a2 - 1) a1 := by
           have := Int.lt_tmod_of_pos (b2 - a2 - 1) (show 0 < a1 by omega)
           omega
          have HQ := Lib.hid (And.intro q1 (And.intro q2 q3))
          clear q0 q1 q2
          by_cases q4 : Int.tmod (b2 - a2 - 1) a1 = 0
          ·
           have t4 : (Int.tmod (b2 - a2 - 1) a1 != 0) = false := by rw [q4]; rfl
           have HQ4 := Lib.hid q4; clear q4
           go_wp2_with fail
           go_quiet (fail)
           go_wp2_with fail
           go_quiet (fail)
           go_wp2_with fail
           go_quiet (fail)
           go_wp2_with fail
           go_roundw
           case rel => exact ⟨k2 + 1, _, by omega, by go_num, HT.out.next GX.out (HA.out.2 (.inr ⟨HQ.out.1, HQ.out.2.1, HQ.out.2.2, HQ4.out⟩)), rfl⟩
           case measure => simp [intOf]; omega
          ·
           have t4 : (Int.tmod (b2 - a2 - 1) a1 != 0) = true := by rw [bne_iff_ne]; exact q4
           have HQ4 := Lib.hid q4; clear q4
           go_wp2_with fail
           go_quiet (fail)
           go_wp2_with fail
           go_quiet (fail)
           go_wp2_with fail
           go_quiet (fail)
           go_wp2_with fail
           go_ret
           refine ⟨ret_bool (HB.out (fun h => ?_)).symm, bl_drewN (bl_drewN (bl_drewN (bl_drewN hbl _) _) _) _⟩
           rcases HA.out.1 h with h | h
           ·
            have := HQ.out.1; omega
           ·
            exact HQ4.out h.2.2.2
         ·
          have t2 : decide (2 ≤ a1) = false := decide_eq_false q3
          have HQ := Lib.hid (And.intro q0 q3)
          clear q0 q1 q2
          go_wp2_with fail
          go_quiet (fail)
          go_wp2_with fail
          go_quiet (fail)
          go_wp2_with fail
          go_quiet (fail)
          go_wp2_with fail
          go_ret
          refine ⟨ret_bool (HB.out (fun h => ?_)).symm, bl_drewN (bl_drewN (bl_drewN (bl_drewN hbl _) _) _) _⟩
          rcases HA.out.1 h with h | h
          ·
           have := HQ.out.1; omega
          ·
           have := HQ.out.2; have := h.2.2.1; omega
        ·
         have t1 : (a1 == b1) = false := by rw [beq_eq_false_iff_ne]; exact q2
         have HQ := Lib.hid (And.intro q0 q2)
         clear q0 q1
         go_wp2_with fail
         go_quiet (fail)
         go_wp2_with fail
         go_quiet (fail)
         go_wp2_with fail
         go_quiet (fail)
         go_wp2_with fail
         go_ret
         refine ⟨ret_bool (HB.out (fun h => ?_)).symm, bl_drewN (bl_drewN (bl_drewN (bl_drewN hbl _) _) _) _⟩
         rcases HA.out.1 h with h | h
         ·
          have := HQ.out.1; omega
         ·
          exact HQ.out.2 h.2.1
       ·
        have t0 : (a0 == b0) = false := by rw [beq_eq_false_iff_ne]; omega
        have t9 : decide (b0 ≤ a0) = true := decide_eq_true (by omega)
        have HQ := Lib.hid (And.intro q0 q1)
        go_wp2_with fail
        go_quiet (fail)
        go_wp2_with fail
        go_quiet (fail)
        go_wp2_with fail
        go_quiet (fail)
        go_wp2_with fail
        go_ret
        refine ⟨ret_bool (HB.out (fun h => ?_)).symm, bl_drewN (bl_drewN (bl_drewN (bl_drewN hbl _) _) _) _⟩
        rcases HA.out.1 h with h | h
        ·
         have := HQ.out.1; omega
        ·
         exact HQ.out.2 h.1
     ·
      go_wp2_with fail
      go_ret
      exact ⟨ret_bool (propB_t ⟨HR.out, HSH.out, fun i x y hi => HT.out i x y (by omega)⟩).symm, bl_drewN hbl _⟩
 ·
  have t0 : ((rs.length : Int) != (n : Int)) = true := by rw [bne_iff_ne]; omega
  have HR := Lib.hid hr
  go_enter Tryz.func150, Tryz.ntmps150
  go_wp2_with fail
  go_ret
  exact ⟨ret_bool (propB_f (fun h => HR.out h.1)).symm, hb0⟩
end Go.Proofs.YtcfbkickiijjkaaGreatDoor
