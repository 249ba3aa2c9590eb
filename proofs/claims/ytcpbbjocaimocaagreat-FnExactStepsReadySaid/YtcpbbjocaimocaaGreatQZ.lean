/-
  Small lemmas and contracts that the texts of this claim share. No condition.
-/
import Derived.Below
import Derived.ChangeSame
import Derived.ProofKit
import Derived.Carry
import Derived.Deep.Draws
import Derived.OpenShut
import Derived.WalkKit
import Derived.Deep.AppendLies
import Derived.Laws.Rows
import Derived.Laws.MakeOwn
import Derived.Test.YtcpbbjocaimocaaGreatRows
import Derived.WalkSpells
import Derived.WalkLawsBesides
import Derived.Lib.Hide
import Derived.Maps.AppendAt
import Derived.Deep.LoopGhost
import Derived.Deep.QuietTactic
import Derived.BigQuiet
import Derived.Laws.AppendOwn
import Derived.Deep.RegionHeld3
namespace Go.Proofs.YtcpbbjocaimocaaGreat
open Go.RowKit Go.WideShapes Go.ChangeShapes
set_option linter.all false
theorem ret_int {k : IntKind} {a b : Int} (h : a = b) : Ending.returned (.int k a) = .returned (.int k b) := by rw [h]
theorem ret_bool {a b : Bool} (h : a = b) : Ending.returned (.bool a) = .returned (.bool b) := by rw [h]
theorem bl_alloc {w x : World} (h : Below w.heap.size w x) (o : Obj) : Below w.heap.size w (x.alloc o) := h.alloc h.size o
theorem bl_trans {w x y : World} (h : Below w.heap.size w x) (k : Below x.heap.size x y) : Below w.heap.size w y := h.trans (k.mono h.size)
theorem bl_drewN {B : Nat} {a w : World} (h : Below B a w) (n : Nat) : Below B a (w.drewN n) := ⟨h.os, h.tape, h.output, h.size, h.block⟩
def szR (left : Int) (n : Nat) : Int := if (n : Int) ≤ left then left - n else -1
def inB (n lo hi : Int) : Bool := decide (lo ≤ n ∧ n ≤ hi)
theorem inB_t {n lo hi : Int} (h : lo ≤ n ∧ n ≤ hi) : inB n lo hi = true := by unfold inB; exact decide_eq_true h
theorem inB_f {n lo hi : Int} (h : ¬ (lo ≤ n ∧ n ≤ hi)) : inB n lo hi = false := by unfold inB; exact decide_eq_false h
noncomputable def propB (p : Prop) : Bool := @decide p (Classical.propDecidable p)
theorem propB_t {p : Prop} (h : p) : propB p = true := by unfold propB; exact @decide_eq_true p (Classical.propDecidable p) h
theorem propB_f {p : Prop} (h : ¬ p) : propB p = false := by unfold propB; exact @decide_eq_false p (Classical.propDecidable p) h
theorem propB_iff {p : Prop} : propB p = true ↔ p := by unfold propB; exact @decide_eq_true_iff p (Classical.propDecidable p)
theorem propB_congr {p q : Prop} (h : p ↔ q) : propB p = propB q := by rw [propext h]
section
variable {H : Type} {enc : TypeId × Value → H} {P : Program}
theorem trodAll_stays (hl : laidOutB P = true) {W W' : World} {sp' : Nat → Bool} :
    ∀ (ts : List TypeId) (vs : List Value) (ds : List (DataW H)) (ps : List MemPlace), (∀ t ∈ ts, P.readableRec t = true ∧ t < P.types.size) →
      DataW.TrodAll enc P W 0 (fun _ => true) true ts vs ds ps → (∀ p ∈ ps, W.sameAt W' p) → (∀ p ∈ ps, sp' p.block = true) → DataW.TrodAll enc P W' 0 sp' true ts vs ds ps
  | [], [], [], _, _, h, _, _ => h
  | t :: ts, v :: vs, d :: ds, ps, hr, h, h1, h2 => by
    obtain ⟨p, q, ha, hb, rfl⟩ := h
    exact ⟨p, q, WideElems.Trod_stays hl (hr t (by simp)).1 (hr t (by simp)).2 ha (fun x hx => h1 x (by simp [hx])) (fun x hx => h2 x (by simp [hx])),
      trodAll_stays hl ts vs ds q (fun t' ht' => hr t' (by simp [ht'])) hb (fun x hx => h1 x (by simp [hx])) (fun x hx => h2 x (by simp [hx])), rfl⟩
  | [], [], _ :: _, _, _, h, _, _ => h.elim
  | [], _ :: _, _, _, _, h, _, _ => h.elim
  | _ :: _, [], _, _, _, h, _, _ => h.elim
  | _ :: _, _ :: _, [], _, _, h, _, _ => h.elim

theorem post_law {f : Func} {s : ChangeSpec} {apart fresh handsOn again : Bool} {W W' : World} {args : Array Value} {ds gs : List (DataW H)} {before : List MemPlace} {tb : TypeId}
    (hl : laidOutB P = true) (hr0 : (f.params.toList.all fun t => P.readableRec t && decide (t < P.types.size)) = true) (hvars : s.vars = []) (hrt : f.resultTypes = #[tb]) (htb : P.underlying tb = some .bool)
    (hsp : s.fn H (ds ++ gs) = { results := [.lit (.bool true)], args := ds })
    (hW : DataW.Whole enc P f.params.toList s.vars apart W args.toList ds gs before) (hb : Below W.heap.size W W') :
    s.post enc P f apart fresh handsOn again W args (.bool true) W' := by
  have hr : ∀ t ∈ f.params.toList, P.readableRec t = true ∧ t < P.types.size := fun t ht => by
    have := List.all_eq_true.1 hr0 t ht
    simpa using this
  have hlt : ∀ p ∈ before, p.block < W.heap.size := fun p hp => hW.lt p hp
  have hold : ∀ p ∈ before, (fun b => decide (b < W.heap.size)) p.block = true := fun p hp => by simpa using hlt p hp
  obtain ⟨p, q, hA, hV, hps, hz, hn⟩ := id hW
  rw [hvars] at hV
  obtain ⟨rfl, rfl⟩ := trodVars_none hV
  have hps' : before = p := by simpa using hps
  subst hps'
  have hargs : ∀ sp : Nat → Bool, (∀ x ∈ before, sp x.block = true) → DataW.TrodAll enc P W' 0 sp true f.params.toList args.toList ds before :=
    fun sp hs => trodAll_stays hl _ _ _ _ hr hA (fun x hx => hb.same (hlt x hx)) hs
  have hres : ∀ (b : Nat) (sp : Nat → Bool) (hd : Bool), DataW.TrodAll enc P W' b sp hd f.resultTypes.toList ((Value.bool true).resultList f.resultTypes.size) [.lit (.bool true)] [] := by
    intro b sp hd
    rw [hrt]
    exact trodAll_cons_mk (shut_bool htb _) trodAll_mk0
  have hv0 : ∀ sp : Nat → Bool, DataW.TrodVars enc P W' sp s.vars [] [] := fun sp => by rw [hvars]; rfl
  refine ⟨ds, [], before, [], before, [], hW, by rw [hsp]; exact hres _ _ _, by rw [hsp]; exact hargs _ hold, by rw [hsp]; exact hv0 _, World.keptBut_mono (fun x hx => ⟨hx, ?_⟩) (hb.frame (· ∈ before)), fun _ => ?_⟩
  · exact Or.inr (by simpa using hx)
  · refine ⟨?_, _, _, ([] ++ before) ++ [], ⟨[] ++ before, [], trodAll_append (hargs _ (fun _ _ => rfl)) (hres _ _ _), hv0 _, rfl, ?_, ?_⟩, ?_⟩
    · exact ok_one hrt rfl (okWide_bool_mk htb _)
    · intro b off hp
      have hin : MemPlace.cell b off ∈ before := by simpa using hp
      rw [hb.frozen (hlt _ hin)]
      exact hz b off (by simpa using hin)
    · intro ha
      simpa using hn ha
    · intro x hx _
      simpa using hx
end
end Go.Proofs.YtcpbbjocaimocaaGreat
namespace Go.Proofs.YtcpbbjocaimocaaGreat
open Go.RowKit
set_option linter.all false

theorem block_add (a : Addr) (n : Nat) : (a.add n).block = a.block := by unfold Addr.add; split <;> rfl
def intV (x : Int) : Value := .int .i64 x
def I64 (x : Int) : Prop := -9223372036854775808 ≤ x ∧ x ≤ 9223372036854775807

def SlR (w : World) (B : Nat) (v : Value) (vs : List Value) : Prop :=
  ∃ A c, v = .slice A vs.length c ∧ vs.length ≤ c ∧ c ≤ maxLen ∧ (0 < vs.length → ∃ ad, A = some ad ∧ ad.block < B ∧ ∀ j u, vs[j]? = some u → w.cell? (ad.add j) = some u)
section
variable {w w' : World} {B B' : Nat} {v : Value} {vs : List Value}
theorem SlR.keep (h : SlR w B v vs) (hk : ∀ p : Addr, p.block < B → w'.cell? p = w.cell? p) : SlR w' B v vs := by
  obtain ⟨A, c, e, h1, h2, h3⟩ := h
  refine ⟨A, c, e, h1, h2, fun hn => ?_⟩
  obtain ⟨ad, e', hb, hc⟩ := h3 hn
  exact ⟨ad, e', hb, fun j u hu => (hk _ (by rw [block_add]; exact hb)).trans (hc j u hu)⟩
theorem SlR.below (h : SlR w B v vs) (hb : Below B w w') : SlR w' B v vs := h.keep fun _ hp => hb.cell hp
theorem SlR.more (h : SlR w B v vs) (hB : B ≤ B') : SlR w B' v vs := by
  obtain ⟨A, c, e, h1, h2, h3⟩ := h
  refine ⟨A, c, e, h1, h2, fun hn => ?_⟩
  obtain ⟨ad, e', hb, hc⟩ := h3 hn
  exact ⟨ad, e', by omega, hc⟩
theorem SlR.len_le (h : SlR w B v vs) : vs.length ≤ maxLen := by
  obtain ⟨A, c, e, h1, h2, h3⟩ := h; omega
end

def IntsR (w : World) (B : Nat) (v : Value) (xs : List Int) : Prop := SlR w B v (xs.map intV) ∧ ∀ x ∈ xs, I64 x
theorem IntsR.below {w w' : World} {B : Nat} {v : Value} {xs : List Int} (h : IntsR w B v xs) (hb : Below B w w') : IntsR w' B v xs := ⟨h.1.below hb, h.2⟩
theorem IntsR.more {w : World} {B B' : Nat} {v : Value} {xs : List Int} (h : IntsR w B v xs) (hB : B ≤ B') : IntsR w B' v xs := ⟨h.1.more hB, h.2⟩
theorem IntsR.open_ {w : World} {B : Nat} {v : Value} {xs : List Int} (h : IntsR w B v xs) :
    ∃ A c, v = .slice A xs.length c ∧ xs.length ≤ c ∧ c ≤ maxLen ∧ (0 < xs.length → ∃ ad, A = some ad ∧ ad.block < B ∧ ∀ j x, xs[j]? = some x → w.cell? (ad.add j) = some (.int .i64 x)) := by
  obtain ⟨A, c, e, h1, h2, h3⟩ := h.1
  rw [List.length_map] at e h1 h3
  refine ⟨A, c, e, h1, h2, fun hn => ?_⟩
  obtain ⟨ad, e', hb, hc⟩ := h3 hn
  exact ⟨ad, e', hb, fun j x hx => hc j _ (by rw [List.getElem?_map, hx]; rfl)⟩

def AllR (w : World) (B : Nat) : List Value → List (List Int) → Prop
  | [], [] => True
  | v :: vs, xs :: xss => IntsR w B v xs ∧ AllR w B vs xss
  | _, _ => False
theorem AllR.mono {w w' : World} {B B' : Nat} (h : ∀ v xs, IntsR w B v xs → IntsR w' B' v xs) : ∀ {vs : List Value} {xss : List (List Int)}, AllR w B vs xss → AllR w' B' vs xss
  | [], [], _ => trivial
  | _ :: _, _ :: _, ⟨a, b⟩ => ⟨h _ _ a, AllR.mono h b⟩
  | [], _ :: _, k => k.elim
  | _ :: _, [], k => k.elim
theorem AllR.len {w : World} {B : Nat} : ∀ {vs : List Value} {xss : List (List Int)}, AllR w B vs xss → vs.length = xss.length
  | [], [], _ => rfl
  | _ :: _, _ :: _, ⟨_, b⟩ => by simp [AllR.len b]
  | [], _ :: _, k => k.elim
  | _ :: _, [], k => k.elim
theorem AllR.at_ {w : World} {B : Nat} : ∀ {vs : List Value} {xss : List (List Int)} (_ : AllR w B vs xss) {k : Nat} {v : Value} {xs : List Int}, vs[k]? = some v → xss[k]? = some xs → IntsR w B v xs
  | _ :: _, _ :: _, ⟨a, _⟩, 0, _, _, h1, h2 => by
    simp only [List.getElem?_cons_zero, Option.some.injEq] at h1 h2
    subst h1 h2
    exact a
  | _ :: _, _ :: _, ⟨_, b⟩, _ + 1, _, _, h1, h2 => b.at_ (by simpa using h1) (by simpa using h2)
  | [], [], _, _, _, _, h1, _ => by simp at h1
  | [], _ :: _, k, _, _, _, _, _ => k.elim
  | _ :: _, [], k, _, _, _, _, _ => k.elim

def RowsR (w : World) (B : Nat) (v : Value) (xss : List (List Int)) : Prop := ∃ vs, SlR w B v vs ∧ AllR w B vs xss
section
variable {w w' : World} {B B' : Nat} {v : Value} {xss : List (List Int)}
theorem RowsR.below (h : RowsR w B v xss) (hb : Below B w w') : RowsR w' B v xss := by
  obtain ⟨vs, h1, h2⟩ := h
  exact ⟨vs, h1.below hb, h2.mono fun _ _ k => k.below hb⟩
theorem RowsR.more (h : RowsR w B v xss) (hB : B ≤ B') : RowsR w B' v xss := by
  obtain ⟨vs, h1, h2⟩ := h
  exact ⟨vs, h1.more hB, h2.mono fun _ _ k => k.more hB⟩
theorem RowsR.open_ (h : RowsR w B v xss) :
    ∃ A c, v = .slice A xss.length c ∧ xss.length ≤ c ∧ c ≤ maxLen ∧ (0 < xss.length → ∃ ad, A = some ad ∧ ad.block < B ∧ ∀ j xs, xss[j]? = some xs → ∃ u, w.cell? (ad.add j) = some u ∧ IntsR w B u xs) := by
  obtain ⟨vs, ⟨A, c, e, h1, h2, h3⟩, hall⟩ := h
  have hl := hall.len
  rw [hl] at e h1 h3
  refine ⟨A, c, e, h1, h2, fun hn => ?_⟩
  obtain ⟨ad, e', hb, hc⟩ := h3 hn
  refine ⟨ad, e', hb, fun j xs hx => ?_⟩
  have hj : j < vs.length := by
    have := (List.getElem?_eq_some_iff.1 hx).1
    omega
  exact ⟨vs[j], hc j _ (List.getElem?_eq_getElem hj), hall.at_ (List.getElem?_eq_getElem hj) hx⟩
end

/-! ### What the call itself has made -/
structure SameBut (bs : List Nat) (w w' : World) : Prop where
  os : w'.os = w.os
  tape : w'.tape = w.tape
  output : w'.output = w.output
  size : w'.heap.size = w.heap.size
  block : ∀ b, b ∉ bs → w'.heap[b]? = w.heap[b]?
theorem SameBut.below {bs : List Nat} {w w' : World} (h : SameBut bs w w') {B : Nat} (hb : ∀ b ∈ bs, B ≤ b) : Below B w w' :=
  ⟨h.os, h.tape, h.output, by rw [h.size]; exact Nat.le_refl _, fun k hk => h.block k fun hm => by have := hb k hm; omega⟩

def OwnRow (w : World) (e : TypeId) (v : Value) (vs : List Value) (bs : List Nat) : Prop :=
  (vs = [] ∧ bs = [] ∧ ∃ A c, v = .slice A 0 c ∧ c ≤ maxLen) ∨
  ∃ g c cur, v = .slice (some ⟨g, 0, none⟩) vs.length c ∧ vs.length ≤ c ∧ c ≤ maxLen ∧ w.heap[g]? = some (.cells cur e (0, 0)) ∧ cur.size = c ∧ cur.toList.take vs.length = vs ∧ bs = [g]
section
variable {w w' : World} {e : TypeId} {v : Value} {vs : List Value} {bs : List Nat}
theorem OwnRow.keep (h : OwnRow w e v vs bs) (hk : ∀ b ∈ bs, w'.heap[b]? = w.heap[b]?) : OwnRow w' e v vs bs := by
  rcases h with h | ⟨g, c, cur, h1, h2, h3, h4, h5, h6, h7⟩
  · exact .inl h
  · exact .inr ⟨g, c, cur, h1, h2, h3, (hk g (by rw [h7]; simp)).trans h4, h5, h6, h7⟩
theorem OwnRow.reads (h : OwnRow w e v vs bs) {B : Nat} (hB : ∀ b ∈ bs, b < B) : SlR w B v vs := by
  rcases h with ⟨rfl, rfl, A, c, rfl, hc⟩ | ⟨g, c, cur, h1, h2, h3, h4, h5, h6, h7⟩
  · exact ⟨A, c, rfl, Nat.zero_le _, hc, fun hn => absurd hn (by simp)⟩
  · refine ⟨some ⟨g, 0, none⟩, c, h1, h2, h3, fun hn => ⟨_, rfl, hB g (by rw [h7]; simp), fun j u hu => ?_⟩⟩
    have hj : j < vs.length := (List.getElem?_eq_some_iff.1 hu).1
    have e1 : (⟨g, 0, none⟩ : Addr).add j = ⟨g, j, none⟩ := by unfold Addr.add; split <;> simp_all
    rw [e1, cell_of_row w g j cur e (0, 0) h4, ← Array.getElem?_toList]
    have : cur.toList[j]? = (cur.toList.take vs.length)[j]? := by rw [List.getElem?_take, if_pos hj]
    rw [this, h6, hu]
theorem OwnRow.lt (h : OwnRow w e v vs bs) : ∀ b ∈ bs, b < w.heap.size := by
  rcases h with ⟨_, rfl, _⟩ | ⟨g, c, cur, _, _, _, h4, _, _, h7⟩
  · intro b hb; cases hb
  · intro b hb
    rw [h7] at hb
    obtain rfl : b = g := by simpa using hb
    rcases Nat.lt_or_ge b w.heap.size with h | h
    · exact h
    · rw [Array.getElem?_eq_none h] at h4; cases h4
theorem OwnRow.of_owns {base n : Nat} (h : w.ownsRow base e 1 v n vs) : ∃ bs, OwnRow w e v vs bs ∧ (∀ b ∈ bs, base ≤ b) ∧ bs.Nodup := by
  have hl : vs.length = n := by have := h.1; omega
  rcases h.2 with ⟨rfl, hn⟩ | ⟨g, cap, cur, h1, h2, h3, h4, h5, h6, h7⟩
  · have : vs = [] := List.eq_nil_of_length_eq_zero (by omega)
    exact ⟨[], .inl ⟨this, rfl, none, 0, rfl, Nat.zero_le _⟩, (fun _ hb => by cases hb), List.nodup_nil⟩
  · refine ⟨[g], .inr ⟨g, cap, cur, by rw [hl]; exact h1, by omega, h5, h3, by omega, ?_, rfl⟩, fun b hb => by simp at hb; omega, by simp⟩
    rw [hl]
    simpa using h7
end
theorem OwnRow.isSlice {w : World} {e : TypeId} {v : Value} {vs : List Value} {bs : List Nat} (h : OwnRow w e v vs bs) : ∃ A n c, v = .slice A n c := by
  rcases h with ⟨_, _, A, c, rfl, _⟩ | ⟨g, c, cur, rfl, _⟩
  · exact ⟨_, _, _, rfl⟩
  · exact ⟨_, _, _, rfl⟩
def OwnInts (w : World) (e : TypeId) (v : Value) (xs : List Int) (bs : List Nat) : Prop := OwnRow w e v (xs.map intV) bs ∧ ∀ x ∈ xs, I64 x
theorem OwnInts.keep {w w' : World} {e : TypeId} {v : Value} {xs : List Int} {bs : List Nat} (h : OwnInts w e v xs bs) (hk : ∀ b ∈ bs, w'.heap[b]? = w.heap[b]?) : OwnInts w' e v xs bs := ⟨h.1.keep hk, h.2⟩
theorem OwnInts.reads {w : World} {e : TypeId} {v : Value} {xs : List Int} {bs : List Nat} (h : OwnInts w e v xs bs) {B : Nat} (hB : ∀ b ∈ bs, b < B) : IntsR w B v xs := ⟨h.1.reads hB, h.2⟩
def OwnAll (w : World) (e : TypeId) : List Value → List (List Int) → List Nat → Prop
  | [], [], bs => bs = []
  | v :: vs, xs :: xss, bs => ∃ b1 b2, OwnInts w e v xs b1 ∧ OwnAll w e vs xss b2 ∧ bs = b1 ++ b2
  | _, _, _ => False
theorem OwnAll.keep {w w' : World} {e : TypeId} : ∀ {vs : List Value} {xss : List (List Int)} {bs : List Nat}, OwnAll w e vs xss bs → (∀ b ∈ bs, w'.heap[b]? = w.heap[b]?) → OwnAll w' e vs xss bs
  | [], [], _, h, _ => h
  | _ :: _, _ :: _, _, ⟨b1, b2, h1, h2, rfl⟩, hk => ⟨b1, b2, h1.keep fun b hb => hk b (by simp [hb]), h2.keep fun b hb => hk b (by simp [hb]), rfl⟩
  | [], _ :: _, _, h, _ => h.elim
  | _ :: _, [], _, h, _ => h.elim
theorem OwnAll.snoc {w : World} {e : TypeId} {v : Value} {xs : List Int} {b : List Nat} (hv : OwnInts w e v xs b) : ∀ {vs : List Value} {xss : List (List Int)} {bs : List Nat}, OwnAll w e vs xss bs → OwnAll w e (vs ++ [v]) (xss ++ [xs]) (bs ++ b)
  | [], [], _, h => by
    have : _ = [] := h
    subst this
    exact ⟨b, [], hv, rfl, by simp⟩
  | _ :: _, _ :: _, _, ⟨b1, b2, h1, h2, rfl⟩ => ⟨b1, b2 ++ b, h1, h2.snoc hv, by simp⟩
  | [], _ :: _, _, h => h.elim
  | _ :: _, [], _, h => h.elim
theorem OwnAll.reads {w : World} {e : TypeId} {B : Nat} : ∀ {vs : List Value} {xss : List (List Int)} {bs : List Nat}, OwnAll w e vs xss bs → (∀ b ∈ bs, b < B) → AllR w B vs xss
  | [], [], _, _, _ => trivial
  | _ :: _, _ :: _, _, ⟨b1, b2, h1, h2, rfl⟩, hB => ⟨h1.reads fun b hb => hB b (by simp [hb]), h2.reads fun b hb => hB b (by simp [hb])⟩
  | [], _ :: _, _, h, _ => h.elim
  | _ :: _, [], _, h, _ => h.elim
def OwnRows (w : World) (es ei : TypeId) (v : Value) (xss : List (List Int)) (bs : List Nat) : Prop := ∃ vs b0 b1, OwnRow w es v vs b0 ∧ OwnAll w ei vs xss b1 ∧ bs = b0 ++ b1
theorem OwnRows.keep {w w' : World} {es ei : TypeId} {v : Value} {xss : List (List Int)} {bs : List Nat} (h : OwnRows w es ei v xss bs) (hk : ∀ b ∈ bs, w'.heap[b]? = w.heap[b]?) : OwnRows w' es ei v xss bs := by
  obtain ⟨vs, b0, b1, h1, h2, rfl⟩ := h
  exact ⟨vs, b0, b1, h1.keep fun b hb => hk b (by simp [hb]), h2.keep fun b hb => hk b (by simp [hb]), rfl⟩
theorem OwnRows.isSlice {w : World} {es ei : TypeId} {v : Value} {xss : List (List Int)} {bs : List Nat} (h : OwnRows w es ei v xss bs) : ∃ A n c, v = .slice A n c := by
  obtain ⟨_, _, _, h1, _⟩ := h
  exact h1.isSlice
theorem OwnRows.reads {w : World} {es ei : TypeId} {v : Value} {xss : List (List Int)} {bs : List Nat} (h : OwnRows w es ei v xss bs) {B : Nat} (hB : ∀ b ∈ bs, b < B) : RowsR w B v xss := by
  obtain ⟨vs, b0, b1, h1, h2, rfl⟩ := h
  exact ⟨vs, h1.reads fun b hb => hB b (by simp [hb]), h2.reads fun b hb => hB b (by simp [hb])⟩

theorem heap_set_same {w : World} {g i : Nat} {cs : Array Value} {t : TypeId} {m : Nat × Nat} (h : w.heap[g]? = some (.cells cs t m)) (u : Value) : (w.setCell ⟨g, i, none⟩ u).heap[g]? = some (.cells (cs.setIfInBounds i u) t m) := by
  simp [World.setCell, Array.getElem?_modify, h]
theorem size_setCell (w : World) (p : Addr) (u : Value) : (w.setCell p u).heap.size = w.heap.size := by simp [World.setCell]
/-! ### Rows that are made and filled -/
def rowOf (done : List Value) (n : Nat) (z : Value) : Array Value := (done ++ List.replicate (n - done.length) z).toArray
theorem rowOf_nil (n : Nat) (z : Value) : rowOf [] n z = madeCells #[z] n := by
  apply Array.ext
  · simp [rowOf, madeCells]
  · intro i h1 h2
    simp [rowOf, madeCells, Nat.mod_one]
theorem rowOf_next {done : List Value} {n : Nat} {z : Value} (h : done.length < n) : (rowOf done n z)[done.length]? = some z := by
  unfold rowOf
  rw [List.getElem?_toArray, List.getElem?_append_right (Nat.le_refl _), Nat.sub_self, List.getElem?_replicate, if_pos (by omega)]
theorem rowOf_set {done : List Value} {n : Nat} {z : Value} (h : done.length < n) (x : Value) : (rowOf done n z).setIfInBounds done.length x = rowOf (done ++ [x]) n z := by
  unfold rowOf
  obtain ⟨m, hm⟩ : ∃ m, n - done.length = m + 1 := ⟨n - done.length - 1, by omega⟩
  rw [hm, show n - (done ++ [x]).length = m by simp; omega, List.replicate_succ, List.setIfInBounds_toArray]
  simp
theorem rowOf_full (done : List Value) (z : Value) : rowOf done done.length z = done.toArray := by simp [rowOf]
theorem run_make1 {P : Program} (t e : TypeId) (z : Value) (bytes : Nat) (ht : P.underlying t = some (.slice e)) (hinf : (P.info? e).map (fun i => (i.zero, i.size, i.bytes)) = some (some z, 1, bytes)) (hz : z.cells = #[z]) (n : Nat)
    (hb : bytes * n ≤ 281474976710656) (h63 : n ≤ 9223372036854775807) (w : World) :
    (Instr.makeSlice t (.int .i64 (n : Int)) (.int .i64 (n : Int))).run P w = .ok (.slice (some ⟨w.heap.size, 0, none⟩) n n) (w.alloc (.cells (rowOf [] n z) e)) := by
  obtain ⟨i, hi, hz0, hz1, hz2⟩ := info_parts hinf
  have hb' : (i.bytes : Int) * (n : Int) ≤ 281474976710656 := by
    rw [hz2]
    have h : ((bytes * n : Nat) : Int) ≤ 281474976710656 := by omega
    rwa [Int.natCast_mul] at h
  have hr := run_make (P := P) w t e i z ht hi hz0 .i64 .i64 n n (by omega) (by omega) hb' (by omega)
  simp only [Int.toNat_natCast] at hr
  rw [hr, rowOf_nil, hz, hz1, Nat.mul_one]
end Go.Proofs.YtcpbbjocaimocaaGreat
namespace Go.Proofs.YtcpbbjocaimocaaGreat
open Go.ChangeShapes Go.WideShapes Go.ChangeAt Go.RowKit
set_option linter.all false
theorem spec_l1In (n lo hi : Int) (w : World) :
    Calls Tryz.prog 75 #[.int .i64 n, .int .i64 lo, .int .i64 hi] w fun e w' => e = .returned (.bool (inB n lo hi)) ∧ w = w' := by
  by_cases h1 : lo ≤ n
  · by_cases h2 : n ≤ hi
    · go_enter Tryz.func75, Tryz.ntmps75
      go_wp2
      go_ret
      exact ⟨ret_bool (by first | rw [inB_t (by omega)] | rw [inB_f (by omega)]), rfl⟩
    · go_enter Tryz.func75, Tryz.ntmps75
      go_wp2
      go_ret
      exact ⟨ret_bool (by rw [inB_f (by omega)]), rfl⟩
  · go_enter Tryz.func75, Tryz.ntmps75
    go_wp2
    go_ret
    exact ⟨ret_bool (by rw [inB_f (by omega)]), rfl⟩
theorem impl_within (n lo hi : Int) (w : World) :
    Calls Tryz.prog 80 #[.int .i64 n, .int .i64 lo, .int .i64 hi] w fun e w' => e = .returned (.bool (inB n lo hi)) ∧ w = w' := by
  by_cases h1 : lo ≤ n
  · by_cases h2 : n ≤ hi
    · go_enter Tryz.func80, Tryz.ntmps80
      go_wp2
      go_ret
      exact ⟨ret_bool (by first | rw [inB_t (by omega)] | rw [inB_f (by omega)]), rfl⟩
    · go_enter Tryz.func80, Tryz.ntmps80
      go_wp2
      go_ret
      exact ⟨ret_bool (by first | rw [inB_t (by omega)] | rw [inB_f (by omega)]), rfl⟩
  · go_enter Tryz.func80, Tryz.ntmps80
    go_wp2
    go_ret
    exact ⟨ret_bool (by rw [inB_f (by omega)]), rfl⟩
end Go.Proofs.YtcpbbjocaimocaaGreat
namespace Go.Proofs.YtcpbbjocaimocaaGreat
open Go.RowKit
set_option linter.all false

def allB (xs : List Int) (lo hi : Int) : Bool := xs.all fun x => inB x lo hi
theorem allB_t {xs : List Int} {lo hi : Int} (h : ∀ x ∈ xs, inB x lo hi = true) : allB xs lo hi = true := by unfold allB; exact List.all_eq_true.2 h
theorem allB_f {xs : List Int} {lo hi : Int} {k : Nat} {x : Int} (h : xs[k]? = some x) (hx : inB x lo hi = false) : allB xs lo hi = false := by
  unfold allB
  rw [List.all_eq_false]
  exact ⟨x, List.mem_of_getElem? h, by simp [hx]⟩
theorem allB_iff {xs : List Int} {lo hi : Int} : allB xs lo hi = true ↔ ∀ x ∈ xs, lo ≤ x ∧ x ≤ hi := by
  unfold allB inB
  simp
def UptoB (p : Int → Bool) (xs : List Int) (k : Nat) : Prop := ∀ j x, j < k → xs[j]? = some x → p x = true
theorem UptoB.next {p : Int → Bool} {xs : List Int} {k : Nat} {x : Int} (h : UptoB p xs k) (hx : xs[k]? = some x) (hp : p x = true) : UptoB p xs (k + 1) := by
  intro j y hj hy
  by_cases e : j = k
  · subst e; rw [hx] at hy; cases hy; exact hp
  · exact h j y (by omega) hy
theorem UptoB.all {p : Int → Bool} {xs : List Int} {k : Nat} (h : UptoB p xs k) (hk : xs.length ≤ k) : ∀ x ∈ xs, p x = true := by
  intro x hx
  obtain ⟨j, hj⟩ := List.mem_iff_getElem?.1 hx
  exact h j x (by have := (List.getElem?_eq_some_iff.1 hj).1; omega) hj

def AllRel (p : Int → Bool) (xs : List Int) (w : World) (i : Value) (wr : World) : Prop := w = wr ∧ ∃ k : Nat, k ≤ xs.length ∧ i = .int .i64 k ∧ UptoB p xs k
theorem spec_l1All (v : Value) (xs : List Int) (lo hi : Int) (w : World) (h : IntsR w w.heap.size v xs) :
    Calls Tryz.prog 97 #[v, .int .i64 lo, .int .i64 hi] w fun e w' => e = .returned (.bool (allB xs lo hi)) ∧ w = w' := by
  obtain ⟨A, c, rfl, h1, h2, h3⟩ := h.open_
  unfold maxLen at h2
  clear h
  go_enter Tryz.func97, Tryz.ntmps97
  go_wp2_with fail
  go_loopw [11, 8] (fun i x wr => AllRel (fun x => inB x lo hi) xs w i wr) (fun i _ _ => xs.length - (intOf i).toNat)
  case atStart => exact ⟨rfl, 0, Nat.zero_le _, rfl, fun _ _ h => absurd h (by omega)⟩
  case round =>
    obtain ⟨rfl, k, hk, rfl, hup⟩ := hrel
    have HU := Lib.hid hup; clear hup
    by_cases hlt : k < xs.length
    · obtain ⟨x, hx⟩ : ∃ x, xs[k]? = some x := ⟨xs[k], List.getElem?_eq_getElem hlt⟩
      obtain ⟨ad, rfl, hb, hc⟩ := h3 (by omega)
      have hcell := hc k x hx
      have HX := Lib.hid hx
      clear h3 hc hx
      cases hp : inB x lo hi with
      | true =>
        go_wp2_with (go_at_call 75; refine (spec_l1In _ _ _ _).mono ?_; rintro e w' ⟨rfl, rfl⟩)
        go_roundw
        case rel => exact ⟨rfl, k + 1, by omega, by go_num, HU.out.next HX.out hp⟩
        case measure => simp [intOf]; omega
      | false =>
        go_wp2_with (go_at_call 75; refine (spec_l1In _ _ _ _).mono ?_; rintro e w' ⟨rfl, rfl⟩)
        go_ret
        exact ⟨ret_bool (allB_f HX.out hp).symm, rfl⟩
    · go_wp2
      go_ret
      exact ⟨ret_bool (allB_t (HU.out.all (by omega))).symm, rfl⟩

end Go.Proofs.YtcpbbjocaimocaaGreat
namespace Go.Proofs.YtcpbbjocaimocaaGreat
open Go.RowKit
set_option linter.all false

theorem wpList_append1 {P : Program} (w : World) {ops : Array Oper} {rest : List Oper} {o : Oper} {a : Act} {Q : Exit → Act → World → Prop} (hgd : o.guard = none) (s x : Operand) (t : TypeId)
    (ho : o.op = .call { callee := .builtin .append, args := #[s, x], argTypes := #[t, t] })
    (base : Nat) (e : TypeId) (z : Value) (bytes : Nat) (ht : P.underlying t = some (.slice e)) (hinf : (P.info? e).map (fun i => (i.zero, i.size, i.bytes)) = some (some z, 1, bytes)) (hzs : z.cells.size = 1)
    (v : Value) (n : Nat) (xs : List Value) (hs : a.eval s = v) (u : Value) (hu : u.oneCell' = true) (hx : a.eval x = .slice (some ⟨w.heap.size, 0, none⟩) 1 1)
    (hown : w.ownsRow base e 1 v n xs) (h63 : n + 1 ≤ maxLen) (hbytes : (n + 1) * bytes ≤ 140737488355328) (hbase : base ≤ w.heap.size)
    (h : ∀ v' w', w'.ownsRow base e 1 v' (n + 1) (xs ++ [u]) → Below base w w' → w.grownBy w' v.ownBlock → w.heap.size < w'.heap.size → (v'.ownBlock = v.ownBlock ∨ ∃ g, v'.ownBlock = some g ∧ w.heap.size ≤ g ∧ g < w'.heap.size) → wpList P ops Q rest (a.put o.dst v') w') :
    wpList P ops Q (o :: rest) a (w.alloc (.cells #[u] e)) := by
  obtain ⟨i, hi, hz0, hz1, hz2⟩ := info_parts hinf
  have hown1 := hown.alloc (.cells #[u] e)
  have hcell : (w.alloc (.cells #[u] e)).cell? ⟨w.heap.size, 0, none⟩ = some u := by rw [World.cell?_alloc_at _ _ _ _ rfl]; rfl
  have hnews : ∀ j u', ([u] : List Value)[j]? = some u' → (w.alloc (.cells #[u] e)).cell? ((⟨w.heap.size, 0, none⟩ : Addr).add j) = some u' := by
    intro j u' hj
    match j, hj with
    | 0, hj =>
      have : u = u' := by simpa using hj
      subst this
      exact hcell
  obtain ⟨v', w', hrun, h2, h3, _, h5⟩ := run_append_own_at (P := P) (w.alloc (.cells #[u] e)) base t o.type e i z 1 bytes ht hi hz0 hz1 hz2 hzs (by decide) v n xs hown1 ⟨w.heap.size, 0, none⟩ 1 1 [u] rfl hnews
    (by intro u' hu'; obtain rfl : u' = u := (by simpa using hu'); exact hu) h63 hbytes (by simp; omega)
  have hg : w.grownBy w' v.ownBlock := by
    have h0 := World.grownBy_alloc w (.cells #[u] e) v.ownBlock
    exact ⟨h3.os.trans h0.os, h3.tape.trans h0.tape, h3.output.trans h0.output, Nat.le_trans h0.size h3.size, fun k hk hne => (h3.block k (Nat.lt_of_lt_of_le hk h0.size) hne).trans (h0.block k hk hne)⟩
  have hsz : w.heap.size < w'.heap.size := by have := h3.size; simp at this; omega
  have hB : Below base w w' := (Below.refl base w).grown hg hbase (fun k hk => (hown.lt k hk).1)
  refine wpList_plain hgd fun K hK => ?_
  unfold Oper.wp execOp
  simp only [ho, resolve, invoke, builtin, Sem.run_bind, Sem.run_pure, Result.andThen_ok, List.map_toArray, List.map_cons, List.map_nil, hs, hx, hrun]
  refine hK _ _ (h v' w' h2 hB hg hsz ?_)
  rcases h5 with h5 | h5
  · exact .inl h5
  · refine .inr ⟨_, h5, by simp, ?_⟩
    exact (h2.lt _ h5).2
end Go.Proofs.YtcpbbjocaimocaaGreat
namespace Go.Proofs.YtcpbbjocaimocaaGreat
open Go.RowKit
set_option linter.all false

theorem sz_IntS (A : Option Addr) (n c : Nat) (left : Int) (w : World) (hn : n ≤ maxLen) (hl : 0 ≤ left) (hl' : left ≤ 1048576) :
    Calls Tryz.prog 47 #[.slice A n c, .int .i64 left] w fun e w' => e = .returned (.int .i64 (szR left n)) ∧ w = w' := by
  unfold maxLen at hn
  go_enter Tryz.func47, Tryz.ntmps47
  go_wp2
  all_goals
    go_ret
    exact ⟨ret_int (by unfold szR; split <;> omega), rfl⟩

def lens : List (List Int) → Nat
  | [] => 0
  | xs :: r => xs.length + lens r
def szRows (xss : List (List Int)) : Nat := xss.length + lens xss
theorem lens_append : ∀ (a b : List (List Int)), lens (a ++ b) = lens a + lens b
  | [], b => by simp [lens]
  | x :: a, b => by simp [lens, lens_append a b]; omega
theorem lens_snoc (xss : List (List Int)) (k : Nat) (xs : List Int) (h : xss[k]? = some xs) : lens (xss.take (k + 1)) = lens (xss.take k) + xs.length := by
  obtain ⟨hk, rfl⟩ := List.getElem?_eq_some_iff.1 h
  rw [List.take_succ_eq_append_getElem hk, lens_append]
  rfl
theorem lens_split (xss : List (List Int)) (k : Nat) : lens xss = lens (xss.take k) + lens (xss.drop k) := by
  rw [← lens_append, List.take_append_drop]
theorem lens_all (xss : List (List Int)) (k : Nat) (h : xss.length ≤ k) : lens (xss.take k) = lens xss := by rw [List.take_of_length_le h]
def SzRel (xss : List (List Int)) (left : Int) (w : World) (l i : Value) (wr : World) : Prop :=
  w = wr ∧ ∃ (k q : Nat), k ≤ xss.length ∧ q = lens (xss.take k) ∧ i = .int .i64 k ∧ l = .int .i64 (left - xss.length - q) ∧ (q : Int) ≤ left - xss.length
theorem sz_IntSS (v : Value) (xss : List (List Int)) (left : Int) (w : World) (h : RowsR w w.heap.size v xss) (hl : 0 ≤ left) (hl' : left ≤ 1048576) :
    Calls Tryz.prog 45 #[v, .int .i64 left] w fun e w' => e = .returned (.int .i64 (szR left (szRows xss))) ∧ w = w' := by
  obtain ⟨A, c, rfl, h1, h2, h3⟩ := h.open_
  have hL : xss.length ≤ 9223372036854775807 := by unfold maxLen at h2; omega
  clear h2 h
  by_cases hs : (xss.length : Int) ≤ left
  · go_enter Tryz.func45, Tryz.ntmps45
    go_wp2
    go_loopw [1, 5] (fun l i wr => SzRel xss left w l i wr) (fun _ i _ => xss.length - (intOf i).toNat)
    case atStart => exact ⟨rfl, 0, 0, Nat.zero_le _, rfl, rfl, by simp, by omega⟩
    case round =>
      obtain ⟨rfl, k, q, hk, hq, rfl, rfl, hle⟩ := hrel
      have HQ := Lib.hid hq; clear hq
      by_cases hlt : k < xss.length
      · obtain ⟨xs, hxs⟩ : ∃ xs, xss[k]? = some xs := ⟨xss[k], List.getElem?_eq_getElem hlt⟩
        obtain ⟨ad, rfl, hb, hc⟩ := h3 (by omega)
        obtain ⟨u, hu, hr⟩ := hc k xs hxs
        obtain ⟨A', c', rfl, g1, g2, -⟩ := hr.open_
        have HS := Lib.hid (lens_snoc xss k xs hxs)
        have HT := Lib.hid (lens_split xss (k + 1))
        clear h3 hc hr hxs
        by_cases hx : (xs.length : Int) ≤ left - xss.length - q
        · have h5 : szR (left - xss.length - q) xs.length = left - xss.length - q - xs.length := by unfold szR; rw [if_pos hx]
          go_wp2_with (go_at_call 47; refine (sz_IntS A' xs.length c' _ _ (by omega) (by omega) (by omega)).mono ?_; rintro e w' ⟨rfl, rfl⟩; rw [h5])
          go_roundw
          case rel => exact ⟨rfl, k + 1, q + xs.length, by omega, by rw [HS.out, HQ.out], by go_num, by go_num, by omega⟩
          case measure => simp [intOf]; omega
        · have h5 : szR (left - xss.length - q) xs.length = -1 := by unfold szR; rw [if_neg hx]
          go_wp2_with (go_at_call 47; refine (sz_IntS A' xs.length c' _ _ (by omega) (by omega) (by omega)).mono ?_; rintro e w' ⟨rfl, rfl⟩; rw [h5])
          go_ret
          have h6 := HT.out
          have h7 := HS.out
          have h8 := HQ.out
          exact ⟨ret_int (by unfold szR szRows; rw [if_neg (by omega)]), rfl⟩
      · go_wp2
        go_ret
        have h6 := lens_all xss k (by omega)
        have h8 := HQ.out
        exact ⟨ret_int (by unfold szR szRows; rw [if_pos (by omega)]; omega), rfl⟩
  · have H := Lib.hid (show szR left (szRows xss) = -1 by unfold szR szRows; rw [if_neg (by omega)])
    go_enter Tryz.func45, Tryz.ntmps45
    go_wp2
    go_ret
    exact ⟨ret_int H.out.symm, rfl⟩

/-! ### Copies -/
theorem intInfo : (Tryz.prog.info? 3).map (fun i => (i.zero, i.size, i.bytes)) = some (some (.int .i64 0), 1, 8) := by kernel_rfl
def ToRel (xs : List Int) (w : World) (i : Value) (wr : World) : Prop := ∃ k : Nat, k ≤ xs.length ∧ i = .int .i64 k ∧ wr = w.alloc (.cells (rowOf ((xs.take k).map intV) xs.length (.int .i64 0)) 3)
theorem to_IntS (v : Value) (xs : List Int) (w : World) (h : IntsR w w.heap.size v xs) (hn : xs.length ≤ 1048576) :
    Calls Tryz.prog 54 #[v] w fun e w' => e = .returned (.slice (some ⟨w.heap.size, 0, none⟩) xs.length xs.length) ∧ w' = w.alloc (.cells (xs.map intV).toArray 3) := by
  obtain ⟨A, c, rfl, h1, h2, h3⟩ := h.open_
  have hmk := fun W => run_make1 (P := Tryz.prog) 24 3 (.int .i64 0) 8 Tryz.underlying24 intInfo rfl xs.length (by omega) (by omega) W
  go_enter Tryz.func54, Tryz.ntmps54
  go_wp2
  clear hmk
  go_loopw [4] (fun i wr => ToRel xs w i wr) (fun i _ => xs.length - (intOf i).toNat)
  case atStart => exact ⟨0, Nat.zero_le _, rfl, by simp⟩
  case round =>
    obtain ⟨k, hk, rfl, rfl⟩ := hrel
    by_cases hlt : k < xs.length
    · obtain ⟨x, hx⟩ : ∃ x, xs[k]? = some x := ⟨xs[k], List.getElem?_eq_getElem hlt⟩
      obtain ⟨ad, rfl, hb, hc⟩ := h3 (by omega)
      have hcell := hc k x hx
      clear h3 hc
      have hlen : ((xs.take k).map intV).length = k := by simp; omega
      have HN := Lib.hid (show (xs.take (k + 1)).map intV = (xs.take k).map intV ++ [.int .i64 x] by
        obtain ⟨hk', rfl⟩ := List.getElem?_eq_some_iff.1 hx
        rw [List.take_succ_eq_append_getElem hk', List.map_append]; rfl)
      clear hx
      generalize (xs.take k).map intV = done at *
      have hset := Lib.hid (rowOf_set (done := done) (n := xs.length) (z := .int .i64 0) (by omega) (.int .i64 x))
      have hnext := rowOf_next (done := done) (n := xs.length) (z := .int .i64 0) (by omega)
      obtain rfl := hlen
      generalize rowOf done xs.length (.int .i64 0) = C at *
      have hcell2 : (w.alloc (.cells C 3)).cell? ⟨w.heap.size, done.length, none⟩ = some (.int .i64 0) := by rw [World.cell?_alloc_at _ _ _ _ rfl]; exact hnext
      have hcell1 : (w.alloc (.cells C 3)).cell? (ad.add done.length) = some (.int .i64 x) := (World.cell?_alloc_lt w _ _ (by rw [block_add]; exact hb)).trans hcell
      clear hnext hcell
      go_wp2
      go_roundw
      case rel => exact ⟨done.length + 1, by omega, by go_num, by rw [HN.out, ← hset.out]⟩
      case measure => simp [intOf]; omega
    · have e1 : xs.take k = xs := List.take_of_length_le (by omega)
      have e2 := rowOf_full (xs.map intV) (.int .i64 0)
      rw [List.length_map] at e2
      rw [e1, e2]
      clear e1 e2
      go_wp2
      go_ret
      exact ⟨rfl, rfl⟩

/-! ### Copies of lists of lists -/
theorem sliceInfo : (Tryz.prog.info? 24).map (fun i => (i.zero, i.size, i.bytes)) = some (some (.slice none 0 0), 1, 24) := by kernel_rfl
def TosRel (xss : List (List Int)) (w : World) (i : Value) (wr : World) : Prop :=
  ∃ (k : Nat) (vs : List Value) (bs : List Nat), k ≤ xss.length ∧ i = .int .i64 k ∧ vs.length = k ∧ wr.heap[w.heap.size]? = some (.cells (rowOf vs xss.length (.slice none 0 0)) 24 (0, 0)) ∧
    OwnAll wr 3 vs (xss.take k) bs ∧ bs.Nodup ∧ (∀ b ∈ bs, w.heap.size < b ∧ b < wr.heap.size) ∧ Below w.heap.size w wr
theorem to_IntSS (v : Value) (xss : List (List Int)) (w : World) (h : RowsR w w.heap.size v xss) (hn : szRows xss ≤ 1048576) :
    Calls Tryz.prog 52 #[v] w fun e w' => ∃ v' bs, e = .returned v' ∧ OwnRows w' 24 3 v' xss bs ∧ bs.Nodup ∧ (∀ b ∈ bs, w.heap.size ≤ b ∧ b < w'.heap.size) ∧ Below w.heap.size w w' := by
  obtain ⟨A, c, rfl, h1, h2, h3⟩ := h.open_
  have hn' : xss.length ≤ 1048576 := by unfold szRows at hn; omega
  have hmk := fun W => run_make1 (P := Tryz.prog) 22 24 (.slice none 0 0) 24 Tryz.underlying22 sliceInfo rfl xss.length (by omega) (by omega) W
  go_enter Tryz.func52, Tryz.ntmps52
  go_wp2
  clear hmk
  go_loopw [4] (fun i wr => TosRel xss w i wr) (fun i _ => xss.length - (intOf i).toNat)
  case atStart => exact ⟨0, [], [], Nat.zero_le _, rfl, rfl, heap_alloc_new w _, rfl, List.nodup_nil, (fun _ hb => by cases hb), bl_alloc (Below.refl _ _) _⟩
  case round =>
    obtain ⟨k, vs, bs, hk, rfl, hvs, hblk, hown, hnd, hbs, hbl⟩ := hrel
    have hsz := hbl.size
    have hgt : w.heap.size < wr.heap.size := by
      rcases Nat.lt_or_ge w.heap.size wr.heap.size with h | h
      · exact h
      · rw [Array.getElem?_eq_none h] at hblk; cases hblk
    by_cases hlt : k < xss.length
    · obtain ⟨xs, hxs⟩ : ∃ xs, xss[k]? = some xs := ⟨xss[k], List.getElem?_eq_getElem hlt⟩
      obtain ⟨ad, rfl, hb, hc⟩ := h3 (by omega)
      obtain ⟨u, hu, hr⟩ := hc k xs hxs
      have hcell : wr.cell? (ad.add k) = some u := (hbl.cell (p := ad.add k) (by rw [block_add]; exact hb)).trans hu
      have hr' : IntsR wr wr.heap.size u xs := (hr.below hbl).more hsz
      have hxl : xs.length ≤ 1048576 := by
        have := lens_snoc xss k xs hxs
        have := lens_split xss (k + 1)
        unfold szRows at hn
        omega
      clear h3 hc hr hu
      have HN := Lib.hid (show xss.take (k + 1) = xss.take k ++ [xs] by
        obtain ⟨hk', rfl⟩ := List.getElem?_eq_some_iff.1 hxs
        rw [List.take_succ_eq_append_getElem hk'])
      clear hxs
      have HB := Lib.hid hblk; clear hblk
      go_wp2_with fail
      refine (to_IntS u xs wr hr' hxl).mono ?_
      rintro e w1 ⟨rfl, hw1⟩
      have hb1 : Below wr.heap.size wr w1 := by rw [hw1]; exact bl_alloc (Below.refl _ _) _
      have hblk1 : w1.heap[w.heap.size]? = some (.cells (rowOf vs xss.length (.slice none 0 0)) 24 (0, 0)) := (hb1.block _ hgt).trans HB.out
      have hnew : OwnInts w1 3 (.slice (some ⟨wr.heap.size, 0, none⟩) xs.length xs.length) xs [wr.heap.size] := by
        refine ⟨.inr ⟨wr.heap.size, xs.length, (xs.map intV).toArray, by simp, by simp, by unfold maxLen; omega, ?_, by simp, List.take_of_length_le (by simp), rfl⟩, hr'.2⟩
        rw [hw1]; exact heap_alloc_new wr _
      have hc1 : w1.cell? ⟨w.heap.size, k, none⟩ = some (.slice none 0 0) := by
        rw [cell_of_row w1 _ k _ _ (0, 0) hblk1, ← hvs]
        exact rowOf_next (by omega)
      have hf1 : w1.frozen? ⟨w.heap.size, k, none⟩ = false := by simp [World.frozen?, hblk1]
      have hown1 : OwnAll w1 3 (vs ++ [.slice (some ⟨wr.heap.size, 0, none⟩) xs.length xs.length]) (xss.take k ++ [xs]) (bs ++ [wr.heap.size]) :=
        (hown.keep fun b hb => hb1.block b (hbs b hb).2).snoc hnew
      have hs1 : wr.heap.size < w1.heap.size := by rw [hw1]; simp
      have HB1 := Lib.hid hblk1; clear hblk1
      have HW := Lib.hid hw1; clear hw1
      go_wp2_with fail
      go_roundw
      case rel =>
        refine ⟨k + 1, vs ++ [.slice (some ⟨wr.heap.size, 0, none⟩) xs.length xs.length], bs ++ [wr.heap.size], by omega, by go_num, by simp [hvs], ?_, ?_, ?_, ?_, ?_⟩
        · rw [heap_set_same HB1.out]
          have := rowOf_set (done := vs) (n := xss.length) (z := .slice none 0 0) (by omega) (.slice (some ⟨wr.heap.size, 0, none⟩) xs.length xs.length)
          rw [hvs] at this
          rw [this]
        · rw [HN.out]
          refine hown1.keep fun b hb => Below.heap_setCell _ _ _ _ ?_
          intro e
          rcases List.mem_append.1 hb with h | h
          · have := hbs b h; simp at e; omega
          · simp at h e; omega
        · rw [List.nodup_append]
          exact ⟨hnd, by simp, fun a ha b hb => by have := hbs a ha; simp at hb; omega⟩
        · intro b hb
          rw [size_setCell]
          rcases List.mem_append.1 hb with h | h
          · have := hbs b h; omega
          · simp at h; omega
        · exact (hbl.trans (hb1.mono hsz)).setCell (Nat.le_refl _) _
      case measure => simp [intOf]; omega
    · have e1 : xss.take k = xss := List.take_of_length_le (by omega)
      rw [e1] at hown
      have HB := Lib.hid hblk; clear hblk
      go_wp2
      go_ret
      refine ⟨_, w.heap.size :: bs, rfl, ⟨vs, [w.heap.size], bs, .inr ⟨w.heap.size, xss.length, vs.toArray, ?_, by omega, by unfold maxLen; omega, ?_, by simp; omega, List.take_of_length_le (by simp), rfl⟩, hown, rfl⟩, ?_, ?_, hbl⟩
      · rw [show vs.length = xss.length by omega]; rfl
      · rw [HB.out, show xss.length = vs.length by omega, rowOf_full]
      · rw [List.nodup_cons]
        exact ⟨fun h => by have := hbs _ h; omega, hnd⟩
      · intro b hb
        rcases List.mem_cons.1 hb with h | h
        · omega
        · have := hbs b h; omega

/-! ### Equality of what reads alike -/
def EqRel (n : Nat) (w : World) (i : Value) (wr : World) : Prop := ∃ k m : Nat, k ≤ n ∧ i = .int .i64 k ∧ wr = w.drewN m
theorem eq_IntS (v v' : Value) (xs : List Int) (w : World) (h : IntsR w w.heap.size v xs) (h' : IntsR w w.heap.size v' xs) :
    Calls Tryz.prog 23 #[v, v'] w fun e w' => e = .returned (.bool true) ∧ ∃ n, w' = w.drewN n := by
  obtain ⟨A, c, rfl, h1, h2, h3⟩ := h.open_
  obtain ⟨A', c', rfl, h1', h2', h3'⟩ := h'.open_
  unfold maxLen at h2
  clear h h'
  go_enter Tryz.func23, Tryz.ntmps23
  go_wp2
  go_loopw [5] (fun i wr => EqRel xs.length w i wr) (fun i _ => xs.length - (intOf i).toNat)
  case atStart => exact ⟨0, 0, Nat.zero_le _, rfl, rfl⟩
  case round =>
    obtain ⟨k, m, hk, rfl, rfl⟩ := hrel
    by_cases hlt : k < xs.length
    · obtain ⟨x, hx⟩ : ∃ x, xs[k]? = some x := ⟨xs[k], List.getElem?_eq_getElem hlt⟩
      obtain ⟨ad, rfl, hb, hc⟩ := h3 (by omega)
      obtain ⟨ad', rfl, hb', hc'⟩ := h3' (by omega)
      have hcell : (w.drewN m).cell? (ad.add k) = some (.int .i64 x) := hc k x hx
      have hcell' : (w.drewN m).cell? (ad'.add k) = some (.int .i64 x) := hc' k x hx
      have k1 := hc k x hx
      have k2 := hc' k x hx
      clear h3 h3' hc hc' hx
      go_wp2
      go_quiet (fail)
      go_wp2
      go_roundw
      case rel => exact ⟨k + 1, m + nq, by omega, by go_num, rfl⟩
      case measure => simp [intOf]; omega
    · go_wp2
      go_ret
      exact ⟨rfl, m, rfl⟩

theorem quiet_more {P : Program} {f : FuncId} {args : Array Value} {w : World} {a n : Nat} {v : Value}
    (h : Calls P f args (w.drewN (a + n)) fun e w' => e = .returned v ∧ ∃ m, w' = (w.drewN (a + n)).drewN m) :
    Calls P f args (w.drewN (a + n)) fun e w'' => e = .returned v ∧ ∃ m, w'' = w.drewN (a + m) :=
  h.mono fun _ _ ⟨he, m, hm⟩ => ⟨he, n + m, by rw [hm, World.drewN_drewN, Nat.add_assoc]⟩
theorem eq_IntSS (v v' : Value) (xss : List (List Int)) (w : World) (h : RowsR w w.heap.size v xss) (h' : RowsR w w.heap.size v' xss) :
    Calls Tryz.prog 59 #[v, v'] w fun e w' => e = .returned (.bool true) ∧ ∃ n, w' = w.drewN n := by
  obtain ⟨A, c, rfl, h1, h2, h3⟩ := h.open_
  obtain ⟨A', c', rfl, h1', h2', h3'⟩ := h'.open_
  unfold maxLen at h2
  clear h h'
  go_enter Tryz.func59, Tryz.ntmps59
  go_wp2
  go_loopw [5] (fun i wr => EqRel xss.length w i wr) (fun i _ => xss.length - (intOf i).toNat)
  case atStart => exact ⟨0, 0, Nat.zero_le _, rfl, rfl⟩
  case round =>
    obtain ⟨k, m, hk, rfl, rfl⟩ := hrel
    by_cases hlt : k < xss.length
    · obtain ⟨xs, hx⟩ : ∃ x, xss[k]? = some x := ⟨xss[k], List.getElem?_eq_getElem hlt⟩
      obtain ⟨ad, rfl, hb, hc⟩ := h3 (by omega)
      obtain ⟨ad', rfl, hb', hc'⟩ := h3' (by omega)
      obtain ⟨u, k1, hr⟩ := hc k xs hx
      obtain ⟨u', k2, hr'⟩ := hc' k xs hx
      have hcell : (w.drewN m).cell? (ad.add k) = some u := k1
      have hcell' : (w.drewN m).cell? (ad'.add k) = some u' := k2
      have HR := Lib.hid hr; clear hr
      have HR' := Lib.hid hr'; clear hr'
      clear h3 h3' hc hc' hx
      go_wp2
      go_quiet ((go_at_call 23; exact quiet_more (eq_IntS u u' xs _ HR.out HR'.out)))
      go_wp2
      go_roundw
      case rel => exact ⟨k + 1, m + nq, by omega, by go_num, rfl⟩
      case measure => simp [intOf]; omega
    · go_wp2
      go_ret
      exact ⟨rfl, m, rfl⟩
end Go.Proofs.YtcpbbjocaimocaaGreat
namespace Go.Proofs.YtcpbbjocaimocaaGreat
set_option linter.all false

structure Net where
  es : List (List (Int × Int))
  ids : List Int
  ins : List Int
def endOk (es : List (List (Int × Int))) (v i : Nat) (e : Int × Int) : Prop :=
  0 ≤ e.1 ∧ 0 ≤ e.2 ∧ ∃ l, es[e.1.toNat]? = some l ∧ l[e.2.toNat]? = some ((v : Int), (i : Int))
def nodeOk (es : List (List (Int × Int))) (v : Nat) (l : List (Int × Int)) : Prop := l.length ≤ 6 ∧ ∀ i e, l[i]? = some e → endOk es v i e
def idsP (ids : List Int) (k : Nat) : Prop := (∀ x ∈ ids, 1 ≤ x ∧ x ≤ 999999) ∧ ids.Nodup ∧ (ids = [] ∨ ids.length = k)
def netP (n : Net) : Prop := (1 ≤ n.es.length ∧ n.es.length ≤ 40) ∧ idsP n.ids n.es.length ∧ n.ins.length = n.es.length ∧ (∀ x ∈ n.ins, 0 ≤ x ∧ x ≤ 9) ∧ ∀ v l, n.es[v]? = some l → nodeOk n.es v l
noncomputable def netB (n : Net) : Bool := propB (netP n)
/-! ### Distances from a node -/
/-! ### Rules and counts -/
def degs (n : Net) : List Int := n.es.map fun l => (l.length : Int)
def most (l : List Int) : Int := l.foldl (fun a x => if a > x then a else x) 0
theorem degs_bd {n : Net} (h : netP n) : ∀ x ∈ degs n, 0 ≤ x ∧ x ≤ 6 := fun x hx => by
  obtain ⟨l, hl, rfl⟩ := List.mem_map.1 hx
  obtain ⟨v, hv⟩ := List.mem_iff_getElem?.1 hl
  have := (h.2.2.2.2 v l hv).1
  omega
def risingP (l : List Int) (lo hi : Int) : Prop := (∀ x ∈ l, lo ≤ x ∧ x ≤ hi) ∧ ∀ (i : Nat) (a b : Int), l[i]? = some a → l[i + 1]? = some b → a < b
theorem rising_pair {l : List Int} (h : ∀ (i : Nat) (a b : Int), l[i]? = some a → l[i + 1]? = some b → a < b) : l.Pairwise (· < ·) := by
  induction l with
  | nil => exact .nil
  | cons x r ih =>
    have hr := ih fun i a b h1 h2 => h (i + 1) a b (by simpa using h1) (by simpa using h2)
    refine List.pairwise_cons.2 ⟨fun y hy => ?_, hr⟩
    cases r with
    | nil => cases hy
    | cons z t =>
      have h0 := h 0 x z rfl rfl
      rcases List.mem_cons.1 hy with rfl | hy
      · exact h0
      · have := (List.pairwise_cons.1 hr).1 y hy
        omega
theorem pair_rising {l : List Int} (h : l.Pairwise (· < ·)) : ∀ (i : Nat) (a b : Int), l[i]? = some a → l[i + 1]? = some b → a < b := by
  intro i a b h1 h2
  obtain ⟨i1, rfl⟩ := List.getElem?_eq_some_iff.1 h1
  obtain ⟨i2, rfl⟩ := List.getElem?_eq_some_iff.1 h2
  exact List.pairwise_iff_getElem.1 h i (i + 1) i1 i2 (by omega)
theorem ids_sorted {ids ys : List Int} {k : Nat} (hp : ys.Perm ids) (hs : ys.Pairwise (· ≤ ·)) (hne : ids ≠ []) : (ids.length = k ∧ risingP ys 1 999999) ↔ idsP ids k := by
  unfold idsP risingP
  constructor
  · rintro ⟨h1, h2, h3⟩
    have hn : ys.Nodup := (rising_pair h3).imp fun h => by omega
    exact ⟨fun x hx => h2 x (hp.mem_iff.2 hx), hp.nodup_iff.1 hn, .inr h1⟩
  · rintro ⟨h1, h2, h3⟩
    have hn : ys.Nodup := hp.nodup_iff.2 h2
    refine ⟨by rcases h3 with h | h; exact absurd h hne; exact h, fun x hx => h1 x (hp.mem_iff.1 hx), pair_rising ?_⟩
    have : ys.Pairwise (fun a b => a ≤ b ∧ a ≠ b) := List.Pairwise.and hs hn
    exact this.imp fun h => by omega
theorem ids_loop {ids : List Int} : (∀ (i : Nat) (x : Int), ids[i]? = some x → (1 ≤ x ∧ x ≤ 999999) ∧ x ∉ ids.take i) ↔ (∀ x ∈ ids, 1 ≤ x ∧ x ≤ 999999) ∧ ids.Nodup := by
  constructor
  · intro h
    refine ⟨fun x hx => ?_, ?_⟩
    · obtain ⟨i, hi⟩ := List.mem_iff_getElem?.1 hx
      exact (h i x hi).1
    · refine List.pairwise_iff_getElem.2 fun i j hi hj hij e => ?_
      refine (h j ids[j] (List.getElem?_eq_getElem hj)).2 ?_
      rw [← e]
      refine List.mem_of_getElem? (i := i) ?_
      rw [List.getElem?_take, if_pos hij, List.getElem?_eq_getElem hi]
  · rintro ⟨h1, h2⟩ i x hx
    refine ⟨h1 x (List.mem_of_getElem? hx), fun hm => ?_⟩
    obtain ⟨j, hj⟩ := List.mem_iff_getElem?.1 hm
    rw [List.getElem?_take] at hj
    split at hj
    · rename_i hji
      obtain ⟨i1, rfl⟩ := List.getElem?_eq_some_iff.1 hx
      obtain ⟨j1, e⟩ := List.getElem?_eq_some_iff.1 hj
      exact List.pairwise_iff_getElem.1 h2 j i j1 i1 hji e
    · cases hj
end Go.Proofs.YtcpbbjocaimocaaGreat
namespace Go.Proofs.YtcpbbjocaimocaaGreat
open Go.RowKit
set_option linter.all false
abbrev Ends := List (Int × Int)
def EndsR (w : World) (S : Nat → Prop) (v : Value) (es : Ends) : Prop :=
  ∃ A c, v = .slice A es.length c ∧ es.length ≤ c ∧ c ≤ maxLen ∧ (∀ e ∈ es, I64 e.1 ∧ I64 e.2) ∧ (0 < es.length → ∃ b o, A = some ⟨b, o, none⟩ ∧ S b ∧
    ∀ k e, es[k]? = some e → w.cell? ⟨b, o + k * 2, none⟩ = some (.int .i64 e.1) ∧ w.cell? ⟨b, o + k * 2 + 1, none⟩ = some (.int .i64 e.2))
def EndssR (w : World) (S : Nat → Prop) (v : Value) (ess : List Ends) : Prop :=
  ∃ A c, v = .slice A ess.length c ∧ ess.length ≤ c ∧ c ≤ maxLen ∧ (0 < ess.length → ∃ ad, A = some ad ∧ S ad.block ∧
    ∀ k es, ess[k]? = some es → ∃ u, w.cell? (ad.add k) = some u ∧ EndsR w S u es)
section
variable {w w' : World} {S S' : Nat → Prop} {v : Value}
theorem EndsR.keep {es : Ends} (h : EndsR w S v es) (hS : ∀ b, S b → S' b) (hk : ∀ b, S b → w'.heap[b]? = w.heap[b]?) : EndsR w' S' v es := by
  obtain ⟨A, c, e, h1, h2, h3, h4⟩ := h
  refine ⟨A, c, e, h1, h2, h3, fun hn => ?_⟩
  obtain ⟨b, o, e', hb, hc⟩ := h4 hn
  refine ⟨b, o, e', hS b hb, fun k x hx => ?_⟩
  obtain ⟨k1, k2⟩ := hc k x hx
  exact ⟨(World.cell?_of_block (hk b hb)).trans k1, (World.cell?_of_block (hk b hb)).trans k2⟩
theorem EndssR.keep {ess : List Ends} (h : EndssR w S v ess) (hS : ∀ b, S b → S' b) (hk : ∀ b, S b → w'.heap[b]? = w.heap[b]?) : EndssR w' S' v ess := by
  obtain ⟨A, c, e, h1, h2, h4⟩ := h
  refine ⟨A, c, e, h1, h2, fun hn => ?_⟩
  obtain ⟨ad, e', hb, hc⟩ := h4 hn
  refine ⟨ad, e', hS _ hb, fun k x hx => ?_⟩
  obtain ⟨u, k1, k2⟩ := hc k x hx
  exact ⟨u, (World.cell?_of_block (by rw [block_add]; exact hk _ hb)).trans k1, k2.keep hS hk⟩
end
abbrev EndsB (w : World) (B : Nat) (v : Value) (es : Ends) : Prop := EndsR w (· < B) v es
theorem EndsR.below {w w' : World} {B : Nat} {v : Value} {es : Ends} (h : EndsB w B v es) (hb : Below B w w') : EndsB w' B v es := h.keep (fun _ h => h) fun b hB => hb.block b hB
theorem EndsR.more {w : World} {B B' : Nat} {v : Value} {es : Ends} (h : EndsB w B v es) (hB : B ≤ B') : EndsB w B' v es := h.keep (fun _ h => Nat.lt_of_lt_of_le h hB) fun _ _ => rfl
structure NetR (w : World) (B : Nat) (ve vi vn : Value) (n : Net) : Prop where
  e : EndssR w (· < B) ve n.es
  i : IntsR w B vi n.ids
  n : IntsR w B vn n.ins
theorem NetR.below {w w' : World} {B : Nat} {ve vi vn : Value} {n : Net} (h : NetR w B ve vi vn n) (hb : Below B w w') : NetR w' B ve vi vn n :=
  ⟨h.e.keep (fun _ h => h) fun b hB => hb.block b hB, h.i.below hb, h.n.below hb⟩
theorem NetR.more {w : World} {B B' : Nat} {ve vi vn : Value} {n : Net} (h : NetR w B ve vi vn n) (hB : B ≤ B') : NetR w B' ve vi vn n :=
  ⟨h.e.keep (fun _ h => Nat.lt_of_lt_of_le h hB) fun _ _ => rfl, h.i.more hB, h.n.more hB⟩
theorem NetR.up {w w' : World} {ve vi vn : Value} {n : Net} (h : NetR w w.heap.size ve vi vn n) (hb : Below w.heap.size w w') : NetR w' w'.heap.size ve vi vn n := (h.below hb).more hb.size
theorem IntsR.isSlice {w : World} {B : Nat} {v : Value} {xs : List Int} (h : IntsR w B v xs) : ∃ A m c, v = .slice A m c := by
  obtain ⟨A, c, rfl, _⟩ := h.open_
  exact ⟨_, _, _, rfl⟩
theorem EndssR.isSlice {w : World} {S : Nat → Prop} {v : Value} {xs : List Ends} (h : EndssR w S v xs) : ∃ A m c, v = .slice A m c := by
  obtain ⟨A, c, rfl, _⟩ := h
  exact ⟨_, _, _, rfl⟩
theorem NetR.slices {w : World} {B : Nat} {ve vi vn : Value} {n : Net} (h : NetR w B ve vi vn n) : (∃ A m c, ve = .slice A m c) ∧ (∃ A m c, vi = .slice A m c) ∧ ∃ A m c, vn = .slice A m c := ⟨h.e.isSlice, h.i.isSlice, h.n.isSlice⟩
theorem ints_row {w : World} {g B : Nat} {t : TypeId} {xs : List Int} (hc : w.heap[g]? = some (.cells (xs.map intV).toArray t (0, 0))) (hl : xs.length ≤ maxLen) (hI : ∀ x ∈ xs, I64 x) (hg : g < B) : IntsR w B (.slice (some ⟨g, 0, none⟩) xs.length xs.length) xs := by
  refine ⟨⟨some ⟨g, 0, none⟩, xs.length, by rw [List.length_map], by rw [List.length_map]; exact Nat.le_refl _, hl, fun _ => ⟨_, rfl, hg, fun j u hu => ?_⟩⟩, hI⟩
  rw [show (⟨g, 0, none⟩ : Addr).add j = ⟨g, j, none⟩ by unfold Addr.add; split <;> simp_all, cell_of_row _ _ j _ _ (0, 0) hc, ← Array.getElem?_toList]
  exact hu
end Go.Proofs.YtcpbbjocaimocaaGreat
namespace Go.Proofs.YtcpbbjocaimocaaGreat
open Go.RowKit
set_option linter.all false
theorem cells2 {w : World} {b : Nat} {v0 v1 : Value} {t : TypeId} (H : Hid (w.heap[b]? = some (.cells #[v0, v1] t (0, 0)))) : w.cell? ⟨b, 0, none⟩ = some v0 ∧ w.cell? ⟨b, 1, none⟩ = some v1 ∧ ∀ i, w.frozen? ⟨b, i, none⟩ = false :=
  ⟨cell_of_row _ _ 0 _ _ (0, 0) H.out, cell_of_row _ _ 1 _ _ (0, 0) H.out, fun i => frozen_of_row _ _ i _ _ H.out⟩
theorem cells3 {w : World} {b : Nat} {v0 v1 v2 : Value} {t : TypeId} (H : Hid (w.heap[b]? = some (.cells #[v0, v1, v2] t (0, 0)))) : w.cell? ⟨b, 0, none⟩ = some v0 ∧ w.cell? ⟨b, 1, none⟩ = some v1 ∧ w.cell? ⟨b, 2, none⟩ = some v2 ∧ ∀ i, w.frozen? ⟨b, i, none⟩ = false :=
  ⟨cell_of_row _ _ 0 _ _ (0, 0) H.out, cell_of_row _ _ 1 _ _ (0, 0) H.out, cell_of_row _ _ 2 _ _ (0, 0) H.out, fun i => frozen_of_row _ _ i _ _ H.out⟩
theorem pu : (∀ (l : List Value) (i : Nat) (v : Value), l.toArray.setIfInBounds i v = (l.set i v).toArray) ∧ (∀ (x : Value) (l : List Value) (v : Value), (x :: l).set 0 v = v :: l) ∧ ∀ (x : Value) (l : List Value) (n : Nat) (v : Value), (x :: l).set (n + 1) v = x :: l.set n v :=
  ⟨fun l i v => List.setIfInBounds_toArray l i v, fun _ _ _ => rfl, fun _ _ _ _ => rfl⟩
theorem bk {w w' : World} {b B : Nat} {o : Option Obj} (H : Hid (w.heap[b]? = o)) (hb : Below B w w') (h : b < B := by omega) : Hid (w'.heap[b]? = o) := Lib.hid ((hb.block b h).trans H.out)
theorem tk {P : Program} {md : Region.Mode} {ops : Array Oper} {Q : Exit → Act → World → Prop} {S : World → Prop} {fuel : Nat} {listed : Array Bool} {a : Act} {w : World} (i d : Nat) {oi : Oper} {v : Value}
    (hi : ops.toList[i]? = some oi) (hd : oi.dst = some d)
    (h : wpAnyH P md ops Q S fuel (listed.setIfInBounds i true) (a.put (some d) v) w)
    (hy : ∀ w, S w → (execOp a.eval oi).run P w = .ok (.value v) w := by intro w hSw; (try dsimp only at hSw); go_simp <;> with_reducible rfl)
    (hs : Region.noSelect ops = true := by kernel_rfl) (hf : Region.free md ops listed i = true := by kernel_rfl) (hr : (Region.ready md ops listed).contains i = true := by kernel_rfl)
    (hQ : ∀ c a w, Q (.panic c) (a.put (some d) v) w → Q (.panic c) a w := by exact fun _ _ _ h => h) (hw : Region.wanted oi (yielded ops a.tmps) = true := by rfl) (hS : S w := by assumption) : wpAnyH P md ops Q S (fuel + 1) listed a w := by
  rw [← hd] at hQ h
  exact wpAnyH_take (by rw [← Array.getElem?_toList]; exact hi) hs hf hr hQ (Or.inl ⟨hw, hy⟩) hS h
theorem tn {P : Program} {md : Region.Mode} {ops : Array Oper} {Q : Exit → Act → World → Prop} {S : World → Prop} {fuel : Nat} {listed : Array Bool} {a : Act} {w : World} (i d : Nat) {oi : Oper}
    (hi : ops.toList[i]? = some oi) (hd : oi.dst = some d)
    (h : wpAnyH P md ops Q S fuel (listed.setIfInBounds i true) (a.put (some d) undef) w)
    (hs : Region.noSelect ops = true := by kernel_rfl) (hf : Region.free md ops listed i = true := by kernel_rfl) (hr : (Region.ready md ops listed).contains i = true := by kernel_rfl)
    (hQ : ∀ c a w, Q (.panic c) (a.put (some d) undef) w → Q (.panic c) a w := by exact fun _ _ _ h => h) (hw : Region.wanted oi (yielded ops a.tmps) = false := by rfl) (hS : S w := by assumption) : wpAnyH P md ops Q S (fuel + 1) listed a w := by
  rw [← hd] at hQ h
  exact wpAnyH_take (by rw [← Array.getElem?_toList]; exact hi) hs hf hr hQ (Or.inr ⟨hw, rfl⟩) hS h

theorem tr {P : Program} {md : Region.Mode} {ops : Array Oper} {Q : Exit → Act → World → Prop} {S : World → Prop} {fuel : Nat} {listed : Array Bool} {a : Act} {w : World} (i : Nat) {o : Oper}
    (hi : ops.toList[i]? = some o) (hr : Region.ready md ops listed = [i])
    (h : ∀ K' : Act → World → Prop, Shut (∀ a w, S w → (S w → wpAnyH P md ops Q S fuel (listed.setIfInBounds i true) a w) → K' a w) → if Region.wanted o (yielded ops a.tmps) = true then Oper.wp P o a w K' Q else K' (a.put o.dst undef) w) :
    wpAnyH P md ops Q S (fuel + 1) listed a w :=
  wpAnyH_ready hr (by simp) (AllReadyH.cons (by rw [← Array.getElem?_toList]; exact hi) h AllReadyH.nil)
theorem setB {w W W' : World} {G i : Nat} {cs : Array Value} {t : TypeId} {v : Value} (hB : Below w.heap.size w W) (hG : w.heap.size ≤ G) (hc : W.heap[G]? = some (.cells cs t (0, 0))) (hw : W' = W.setCell ⟨G, i, none⟩ v) :
    Below w.heap.size w W' ∧ (∀ b, b ≠ G → W'.heap[b]? = W.heap[b]?) ∧ Hid (W'.heap[G]? = some (.cells (cs.setIfInBounds i v) t (0, 0))) ∧ W'.heap.size ≤ W.heap.size ∧ W.heap.size ≤ W'.heap.size := by
  subst hw
  refine ⟨hB.setCell hG _, fun b hb => Below.heap_setCell _ _ _ _ (by simpa using hb), Lib.hid ?_, by simp [World.setCell], by simp [World.setCell]⟩
  simp [World.setCell, Array.getElem?_modify, hc]
end Go.Proofs.YtcpbbjocaimocaaGreat
