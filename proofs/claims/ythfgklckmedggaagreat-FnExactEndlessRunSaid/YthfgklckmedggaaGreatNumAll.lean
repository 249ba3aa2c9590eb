/-
  A region that draws its order and calls nothing, inside a round of a range over a function: what holds of it outside all rounds holds there. No program in sight, no condition.
  slices.Backward over numbers: what a range over it goes through.
  Networks, the program's side: the number of a situation.
-/
import Derived.Test.YthfgklckmedggaaGreatKit
import Derived.Deep.RegionHeld3
import Derived.OrdersIn
import Derived.RangeFuncNested
import Derived.RangeFuncBound
import Derived.RangeFuncCalls
import Derived.RangeFuncLeaves
import Derived.Shelf.Abstract
import Derived.WalkKit
import Derived.OwnWalkIn
import Derived.TacticsInMore
import Derived.LoopNIn
import Derived.LoopIn
import Derived.Test.YthfgklckmedggaaGreatImplB
import Derived.RangeFuncFrom
import Derived.Shelf.RegionOpen
namespace Go.Proofs.YthfgklckmedggaaGreat
section
open Go.RowKit
set_option linter.unusedVariables false
/-- What an operation comes to when it calls nothing and puts nothing off. -/
def Plainly {α : Type} (s : Sem α) (ok : α → Prop) : Prop := ∀ (P : Program) (w : World), (∃ x w', s.run P w = .ok x w' ∧ ok x) ∨ ∃ h w', s.run P w = .halt h w'
theorem Plainly.bind {α β : Type} {s : Sem α} {f : α → Sem β} {ok : β → Prop} (h : ∀ x, Plainly (f x) ok) : Plainly (s >>= f) ok := fun P w => by
  rw [Sem.run_bind]
  cases hs : s.run P w with
  | ok x w' => exact h x P w'
  | halt e w' => exact .inr ⟨e, w', rfl⟩
theorem Plainly.pure {α : Type} {x : α} {ok : α → Prop} (h : ok x) : Plainly (pure x) ok := fun P w => .inl ⟨x, w, rfl, h⟩
def valueOr : Next → Prop | .value _ => True | .skip => True | _ => False
/-- Operations that call nothing. -/
def calmOp : Op → Bool
  | .move _ | .assign _ | .load .. | .store .. | .binOp .. | .fieldAddr .. | .indexAddr .. | .nilCheck _ => true
  | _ => false
theorem plainly_halt {α : Type} {s : Sem α} {ok : α → Prop} (h : ∀ P w, ∃ e w', s.run P w = .halt e w') : Plainly s ok := fun P w => .inr (h P w)
theorem plainly_panic {α : Type} (e : RuntimeError) (ok : α → Prop) : Plainly (runtimePanic e) ok := by
  unfold runtimePanic
  refine Plainly.bind fun p => ?_
  dsimp only
  split <;> first | exact plainly_halt fun P w => ⟨_, _, rfl⟩ | exact Plainly.bind fun _ => Plainly.bind fun _ => plainly_halt fun P w => ⟨_, _, rfl⟩
theorem plainly_calm {o : Oper} {ρ : Operand → Value} (h : calmOp o.op = true) : Plainly (execOp ρ o) valueOr := by
  unfold execOp
  cases ho : o.op <;> rw [ho] at h <;> first
    | (simp [calmOp] at h; done)
    | exact Plainly.pure trivial
    | exact Plainly.bind fun _ => Plainly.pure trivial
    | skip
  dsimp only
  split
  · exact plainly_panic _ _
  · exact plainly_panic _ _
  · exact plainly_panic _ _
  · split
    · exact plainly_panic _ _
    · refine Plainly.bind fun p => Plainly.bind fun q => ?_
      split
      · exact Plainly.bind fun _ => Plainly.pure trivial
      · exact Plainly.pure trivial
    · exact Plainly.pure trivial
  · exact Plainly.pure trivial
theorem about_calm {o : Oper} {ρ : Operand → Value} {P : Program} {w : World} (h : calmOp o.op = true) : o.about P w ρ = none := by
  unfold Oper.about
  cases ho : o.op <;> first | rfl | (rw [ho] at h; simp [calmOp] at h; done)
theorem semAt_calm {o : Oper} {ρ : Operand → Value} {ro : Option Nat} (h : calmOp o.op = true) : o.semAt ro ρ = execOp ρ o :=
  Oper.semAt_eq ro ρ o fun c hc => by rw [hc] at h; simp [calmOp] at h
/-- Where no operation of a region calls anything, what holds of it outside all rounds holds inside one. -/
theorem wpOpsIn_calm {F : Fence} {n : Nat} {P : Program} {ops : Array Oper} {Q Q' : Exit → Act → World → Prop} (hc : ∀ (i : Nat) (o : Oper), ops[i]? = some o → calmOp o.op = true)
    (hQ : ∀ e a w, Q' e a w → e ≠ .outgrown ∧ Q e a w) : ∀ (l : List Nat) (a : Act) (w : World), wpOps P ops Q' l a w → wpOpsIn F n P ops Q l a w
  | [], a, w, h => (hQ _ _ _ h).2
  | i :: rest, a, w, h => by
    unfold wpOps at h
    unfold wpOpsIn
    cases ho : ops[i]? with
    | none => simp only [ho] at h ⊢; exact wpOpsIn_calm hc hQ rest a w h
    | some o =>
      simp only [ho] at h ⊢
      have hcalm := hc i o ho
      split
      · rename_i hw
        rw [if_pos hw] at h
        rcases h with h | ⟨-, a', w', h⟩
        · refine ⟨fun f hf => (by rw [about_calm hcalm] at hf; cases hf), ?_⟩
          rw [semAt_calm hcalm]
          unfold Oper.wp at h
          rcases plainly_calm (ρ := a.eval) hcalm P w with ⟨x, w', hx, hok⟩ | ⟨e, w', hx⟩
          · rw [hx] at h ⊢
            cases x <;> first | exact wpOpsIn_calm hc hQ rest _ _ h | exact hok.elim
          · rw [hx] at h ⊢
            cases e <;> first | exact (hQ _ _ _ h).2 | exact h.elim
        · exact absurd rfl (hQ _ _ _ h).1
      · rename_i hw
        rw [if_neg hw] at h
        exact ⟨fun f hf => (by rw [about_calm hcalm] at hf; cases hf), wpOpsIn_calm hc hQ rest _ _ h⟩
def calmAll (ops : Array Oper) : Bool := ops.toList.all fun o => calmOp o.op
theorem wpIn_region_calm {F : Fence} {n : Nat} {P : Program} {ops : Array Oper} {Q : Exit → Act → World → Prop} {id : Nat} {a : Act} {w : World} (S : World → Prop) (hm : P.follows .mixedOrders = true) (hc : calmAll ops = true) (hS : S w.drew)
    (h : S w.drew → wpAnyH P .any ops (fun e a w => e ≠ .outgrown ∧ Q e a w) S ops.size (Array.replicate ops.size false) a w.drew) : (Code.region id ops true).wpIn F n P Q a w :=
  wpIn_region_draw fun t => by
    simp only [Region.schedule, hm, Bool.true_or, if_true]
    refine wpOpsIn_calm (Q' := fun e a w => e ≠ .outgrown ∧ Q e a w) (fun i o ho => ?_) (fun _ _ _ h => h) _ _ _ (wpAny_sound ops.size t _ a _ (wpAny_of_held _ _ _ _ (h hS)))
    unfold calmAll at hc
    exact List.all_eq_true.1 hc o (by rw [← Array.getElem?_toList] at ho; exact List.mem_of_getElem? ho)
end
section
open Go.RowKit Go.Shelf
attribute [local go_sem] Oper.semAt_some
set_option linter.unusedVariables false
set_option linter.unusedSimpArgs false
/-- What has come when k rounds are over. -/
def backTo (zs : List Int) (k : Nat) : List (Nat × Int) := (List.range k).map fun j => (zs.length - 1 - j, zs[zs.length - 1 - j]?.getD 0)
theorem backTo_succ (zs : List Int) (k : Nat) : backTo zs (k + 1) = backTo zs k ++ [(zs.length - 1 - k, zs[zs.length - 1 - k]?.getD 0)] := by simp [backTo, List.range_succ]
theorem backTo_length (zs : List Int) (k : Nat) : (backTo zs k).length = k := by simp [backTo]
/-- What comes out of a range over them: an index and the number there. -/
def Bk (zs : List Int) : Type := { x : Nat × Int // zs[x.1]? = some x.2 }
def vals {zs : List Int} (pre : List (Bk zs)) : List (Nat × Int) := pre.map fun x => x.1
/-- What a round keeps: what lay below n₀, and the box that the iterator reads. -/
def KpB (n₀ Bs : Nat) (W W' : World) : Prop := Below n₀ W W' ∧ ∀ v, W.cell? ⟨Bs, 0, none⟩ = some v → W'.cell? ⟨Bs, 0, none⟩ = some v
theorem KpB.trans {n₀ Bs : Nat} {A B C : World} (h : KpB n₀ Bs A B) (k : KpB n₀ Bs B C) : KpB n₀ Bs A C := ⟨h.1.trans k.1, fun v hv => k.2 v (h.2 v hv)⟩
theorem KpB.put {n₀ Bs : Nat} {w : World} (hn : n₀ ≤ w.heap.size) (hBs : Bs < w.heap.size) (W : World) (l : Nat) (o o' : Obj) (hl : w.heap.size ≤ l) (h : W.heap[l]? = some o) (hc : o.isCells = false) (hw : o.isWalk = false) : KpB n₀ Bs W (W.putObj l o') :=
  ⟨belowK_b hn W l o o' hl h hc hw, fun v hv => (World.cell?_of_block (a := ⟨Bs, 0, none⟩) ((grownBy_putObj' W l o').block Bs (by have := (Array.getElem?_eq_some_iff.1 h).1; omega) (by intro e; cases e; omega))).trans hv⟩
set_option maxRecDepth 100000 in
set_option maxHeartbeats 2000000 in
theorem back1_in (F : Fence) (n : Nat) (h8 : F.fn 178) (hro : F.round = none) (hn : 1 ≤ n) (l Bs n₀ : Nat) (sv : Value) (zs : List Int) (hreach : zs.length ≤ 2000000) (J Jx : List (Bk zs) → World → Prop)
    (hY : ∀ pre (x : Bk zs) W, J pre W → pre.length < zs.length → YieldAt F (n - 1) Tryz.prog l #[.int .i64 (x.1.1 : Int), .int .i64 x.1.2] W fun e W' =>
      (e = .returned (.bool true) ∧ J (pre ++ [x]) W' ∧ KpB n₀ Bs W W') ∨ (e = .returned (.bool false) ∧ Jx (pre ++ [x]) W'))
    (W : World) (hBs : W.cell? ⟨Bs, 0, none⟩ = some sv) (hI : IntsR W n₀ sv zs) (h0 : J [] W) :
    CallsIn F n Tryz.prog 178 #[.func (.yield l) #[] #[], .pointer (some ⟨Bs, 0, none⟩)] W fun e W' => (∃ v, e = .returned v) ∧
      ((∃ ys, vals ys = backTo zs zs.length ∧ J ys W') ∨ (∃ pre, (∃ k, k ≤ zs.length ∧ vals pre = backTo zs k) ∧ Jx pre W')) := by
  have hwr : IntKind.i64.wrap ((zs.length : Int) - 1) = (zs.length : Int) - 1 := IntWalk.i64_in _ (by omega)
  obtain ⟨A0, cap, rfl, hl1, hl2, hc⟩ := hI.open_
  unfold maxLen at hl2
  have HC := Lib.hid hc; clear hc hI
  refine callsIn_of_wp Tryz.func178 rfl h8 ?_ hro
  simp only [Tryz.ntmps178, List.size_toArray, List.length_cons, List.length_nil, Nat.reduceAdd, Nat.reduceSub, Array.replicate_succ, Array.replicate_zero, List.push_toArray, List.append_toArray, List.nil_append, List.cons_append]
  gi_wp2
  gi_loopw [3] (fun i wr => ∃ (k r : Nat) (pre : List (Bk zs)), k + r = zs.length ∧ i = .int .i64 ((r : Int) - 1) ∧ vals pre = backTo zs k ∧ pre.length = k ∧ J pre wr ∧ KpB n₀ Bs W wr)
    (fun i _ => (intOf i + 1).toNat)
  case atStart => exact ⟨0, zs.length, [], by omega, rfl, rfl, rfl, h0, Below.refl _ _, fun _ h => h⟩
  case round =>
    obtain ⟨k, r, pre, hk, rfl, hpre, hpl, hJs, hnx⟩ := hrel
    have HPR := Lib.hid hpre; clear hpre
    have hBs' := hnx.2 _ hBs
    cases r with
    | zero =>
      obtain rfl : k = zs.length := by omega
      gi_wp2
      go_end0
      exact ⟨⟨_, rfl⟩, .inl ⟨_, HPR.out, hJs⟩⟩
    | succ j =>
      have hj : ((j + 1 : Nat) : Int) - 1 = (j : Int) := by omega
      rw [hj]
      have hjl : j < zs.length := by omega
      obtain ⟨y, hyy⟩ : ∃ y, zs[j]? = some y := ⟨_, List.getElem?_eq_getElem hjl⟩
      obtain ⟨ad, rfl, hb, hcc⟩ := HC.out (by omega)
      have hcx : wr.cell? (ad.add j) = some (.int .i64 y) := (hnx.1.cell (p := ad.add j) (by rw [block_add]; exact hb)).trans (hcc j y hyy)
      have HZ := Lib.hid (show backTo zs (k + 1) = backTo zs k ++ [(j, y)] by rw [backTo_succ, show zs.length - 1 - k = j by omega, hyy]; rfl)
      have hwj : IntKind.i64.wrap ((j : Int) - 1) = (j : Int) - 1 := IntWalk.i64_in _ (by omega)
      obtain ⟨X, hX⟩ : ∃ X : Bk zs, X.1 = (j, y) := ⟨⟨(j, y), hyy⟩, rfl⟩
      obtain ⟨fn, tmps, assign, body, hy, hR⟩ := hY pre X wr hJs (by omega)
      rw [hX] at hy
      dsimp only at hy
      have HX := Lib.hid hX; clear hcc hyy hX
      gi_wp2
      refine hR.mono ?_
      rintro e W3 (⟨rfl, hJ3, hk3⟩ | ⟨rfl, hJx3⟩)
      · gi_wp2
        go_roundw
        case rel => exact ⟨k + 1, j, _, by omega, rfl, by unfold vals at HPR ⊢; rw [List.map_append, HPR.out, HZ.out, List.map_singleton, HX.out], by simp [hpl], hJ3, hnx.trans hk3⟩
        case measure => simp [intOf]
      · gi_wp2
        refine bodyPost_ret (results_none rfl _ _ _) rfl ?_
        exact ⟨⟨_, rfl⟩, .inr ⟨_, ⟨k + 1, by omega, by unfold vals at HPR ⊢; rw [List.map_append, HPR.out, HZ.out, List.map_singleton, HX.out]⟩, hJx3⟩⟩
theorem back_stops (F : Fence) (n : Nat) (h8 : F.fn 178) (hro : F.round = none) (hn : 1 ≤ n) (Bs n₀ : Nat) (sv : Value) (zs : List Int) (hreach : zs.length ≤ 2000000) (w : World) (hBs : Bs < w.heap.size) (hn₀ : n₀ ≤ w.heap.size)
    (hc : w.cell? ⟨Bs, 0, none⟩ = some sv) (hI : IntsR w n₀ sv zs) :
    SeqStopsK F n Tryz.prog 178 #[.pointer (some ⟨Bs, 0, none⟩)] (fun x : Bk zs => #[Value.int .i64 (x.1.1 : Int), Value.int .i64 x.1.2]) (KpB n₀ Bs) (fun ys => vals ys = backTo zs zs.length)
      (fun pre => ∃ k, k ≤ zs.length ∧ vals pre = backTo zs k) zs.length w := fun l J Jx W hW _ _ hY h0 => by
  have hW' := hW.mono hn₀
  exact back1_in F n h8 hro hn l Bs n₀ sv zs hreach J Jx hY W ((hW.cell (p := ⟨Bs, 0, none⟩) hBs).trans hc) (hI.below hW') h0
theorem back_in (F : Fence) (n : Nat) (h5 : F.fn 150) (hro : F.round = none) (a : Option Addr) (len cap : Nat) (w : World) :
    CallsIn F n Tryz.prog 150 #[.slice a len cap] w fun e w' => e = .returned (.func (.func 178) #[] #[.pointer (some ⟨w.heap.size, 0, none⟩)]) ∧ w' = w.alloc (.cells #[.slice a len cap] 23) := by
  refine callsIn_of_wp Tryz.func150 rfl h5 ?_ hro
  simp only [Tryz.ntmps150, List.size_toArray, List.length_cons, List.length_nil, Nat.reduceAdd, Nat.reduceSub, Array.replicate_succ, Array.replicate_zero, List.push_toArray, List.append_toArray, List.nil_append, List.cons_append]
  gi_wp2
  go_ret
  exact ⟨rfl, rfl⟩
end
section
open Go.RowKit Go.Shelf
attribute [local go_sem] Oper.semAt_some
set_option linter.unusedVariables false
set_option linter.unusedSimpArgs false
/-- What the rounds reckon. -/
def accB (cs : List Int) (l : List (Nat × Int)) : Int := l.foldl (fun s x => IntKind.i64.wrap (IntKind.i64.wrap (s * cs.getD x.1 0) + x.2)) 0
theorem accB_snoc (cs : List Int) (l : List (Nat × Int)) (x : Nat × Int) : accB cs (l ++ [x]) = IntKind.i64.wrap (IntKind.i64.wrap (accB cs l * cs.getD x.1 0) + x.2) := by unfold accB; rw [List.foldl_append]; rfl
theorem acc_num {cs ss : List Int} (hf : Few cs) (hs : Sts cs ss) : ∀ (k r : Nat), k + r = ss.length → accB cs (backTo ss k) = numS (cs.drop r) (ss.drop r)
  | 0, r, h => by
    rw [List.drop_of_length_le (by omega : ss.length ≤ r)]
    unfold numS
    split <;> simp_all [accB, backTo]
  | k + 1, r, h => by
    have ih := acc_num hf hs k (r + 1) (by omega)
    have hrl : r < ss.length := by omega
    have hcl : r < cs.length := by have := hs.1; omega
    have hk : cs[r]? = some cs[r] := List.getElem?_eq_getElem hcl
    have hv : ss[r]? = some ss[r] := List.getElem?_eq_getElem hrl
    rw [backTo_succ, accB_snoc, ih, show ss.length - 1 - k = r by omega]
    have hst := numS_step hk hv
    have b1 := few_num hf hs r
    have b2 := few_num hf hs (r + 1)
    have b3 := hf.1 cs[r] (List.getElem_mem hcl)
    have hg : cs.getD r 0 = cs[r] := by rw [List.getD_eq_getElem?_getD, hk]; rfl
    have hgs : (ss[r]?).getD 0 = ss[r] := by rw [hv]; rfl
    have m1 : 0 ≤ numS (cs.drop (r + 1)) (ss.drop (r + 1)) * cs[r] := Int.mul_nonneg b2.1 (by omega)
    have m2 : numS (cs.drop (r + 1)) (ss.drop (r + 1)) * cs[r] ≤ 3000 * 41 := Int.mul_le_mul b2.2 b3.2 (by omega) (by omega)
    show IntKind.i64.wrap (IntKind.i64.wrap (_ * cs.getD r 0) + (ss[r]?).getD 0) = _
    rw [hg, hgs, hst]
    rw [hst] at b1
    have e1 : IntKind.i64.wrap (numS (cs.drop (r + 1)) (ss.drop (r + 1)) * cs[r]) = numS (cs.drop (r + 1)) (ss.drop (r + 1)) * cs[r] := IntWalk.i64_in _ (by omega)
    rw [e1]
    exact IntWalk.i64_in _ (by omega)
theorem cell_newL (w : World) (v : Value) (t : TypeId) : (w.alloc (.cells #[v] t)).cell? ⟨w.heap.size, 0, none⟩ = some v ∧ (w.alloc (.cells #[v] t)).frozen? ⟨w.heap.size, 0, none⟩ = false :=
  ⟨cell_of_row _ _ 0 _ _ (0, 0) (heap_alloc_new w _), frozen_of_row _ _ 0 _ _ (heap_alloc_new w _)⟩
theorem cell_allocL {w : World} {g i : Nat} {v : Value} (o : Obj) (h : w.cell? ⟨g, i, none⟩ = some v) : (w.alloc o).cell? ⟨g, i, none⟩ = some v := Lib.cell?_alloc_some o h
theorem cell_ltL {w : World} {g i : Nat} {u : Value} (h : w.cell? ⟨g, i, none⟩ = some u) : g < w.heap.size := by
  rcases Nat.lt_or_ge g w.heap.size with h' | h'
  · exact h'
  · simp [World.cell?, Array.getElem?_eq_none h'] at h
theorem frozen_allocL {w : World} {g i : Nat} {v : Value} (o : Obj) (h : w.cell? ⟨g, i, none⟩ = some v) (hf : w.frozen? ⟨g, i, none⟩ = false) : (w.alloc o).frozen? ⟨g, i, none⟩ = false :=
  ((bl_alloc (Below.refl w.heap.size w) o).frozen (p := ⟨g, i, none⟩) (cell_ltL h)).trans hf
set_option maxRecDepth 100000 in
set_option maxHeartbeats 2000000 in
theorem impl_number (G : Nat) (A0 A1 : Option Addr) (m0 c0 m1 c1 : Nat) (cs ss : List Int) (w : World) (hG : G < w.heap.size) (hg : w.cell? ⟨G, 5, none⟩ = some (.slice A0 m0 c0)) (h : IntsR w w.heap.size (.slice A0 m0 c0) cs)
    (h' : IntsR w w.heap.size (.slice A1 m1 c1) ss) (hf : Few cs) (hs : Sts cs ss) :
    Calls Tryz.prog 119 #[.pointer (some ⟨G, 0, none⟩), .slice A1 m1 c1] w fun e w' => e = .returned (.int .i64 (numS cs ss)) ∧ Below w.heap.size w w' := by
  have hsl : ss.length ≤ 2000000 := by have := hf.2.2; have := hs.1; omega
  refine (callsIn_wide (n := 3)).1 ?_
  refine callsIn_of_wp_marks Tryz.func119 rfl trivial ?_ rfl
  simp only [Tryz.ntmps119, List.size_toArray, List.length_cons, List.length_nil, Nat.reduceAdd, Nat.reduceSub, Array.replicate_succ, Array.replicate_zero, List.push_toArray, List.append_toArray, List.nil_append, List.cons_append]
  gi_wp2_with (refine ⟨trivial, ?_⟩; gi_at_call 150; refine (back_in _ _ trivial rfl A1 m1 c1 _).mono ?_; rintro e w' ⟨rfl, rfl⟩)
  have d0 := cell_newL w (.pointer (some ⟨G, 0, none⟩)) 54
  have d1 := cell_newL (w.alloc (.cells #[.pointer (some ⟨G, 0, none⟩)] 54)) (.int .i64 0) 3
  have d2 := cell_newL ((w.alloc (.cells #[.pointer (some ⟨G, 0, none⟩)] 54)).alloc (.cells #[.int .i64 0] 3)) (.slice A1 m1 c1) 23
  simp only [World.size_alloc] at d1 d2
  have hB0 : Below w.heap.size w (((w.alloc (.cells #[.pointer (some ⟨G, 0, none⟩)] 54)).alloc (.cells #[.int .i64 0] 3)).alloc (.cells #[.slice A1 m1 c1] 23)) := (((Below.refl _ w).alloc (Nat.le_refl _) _).alloc (by simp) _).alloc (by simp; omega) _
  refine wpIn_rangeFunc_ownF rfl (by omega) (gf := 178) (lb := #[.pointer (some ⟨w.heap.size + 1 + 1, 0, none⟩)]) rfl trivial (enters_of Tryz.func178 (by kernel_rfl) rfl)
    (back_stops Fence.wide (3 - 1) trivial rfl (by omega) (w.heap.size + 1 + 1) w.heap.size (.slice A1 m1 c1) ss hsl _ (by simp) (by simp; omega) d2.1 (h'.below hB0)) KpB.trans (KpB.put (by simp; omega) (by simp)) (Below.refl _ _) (fun _ => rfl)
    (fun pre W => (W.cell? ⟨w.heap.size + 1, 0, none⟩ = some (.int .i64 (accB cs (vals pre))) ∧ W.frozen? ⟨w.heap.size + 1, 0, none⟩ = false ∧ W.cell? ⟨w.heap.size, 0, none⟩ = some (.pointer (some ⟨G, 0, none⟩))) ∧ Below w.heap.size w W)
    (fun _ _ _ => False)
    (OwnFrom.and (Own.from (fun s A B row hs hg hr => ⟨cell_kept hs.1 hg hr, (frozen_kept hs.1 hg hr).trans hs.2.1, cell_kept hs.2.2 hg hr⟩) _) (ownFrom_below (Nat.le_refl _) (by simp; omega)))
    (fun _ _ _ _ _ hs _ _ => hs)
    ⟨⟨cell_allocL _ d1.1, frozen_allocL _ d1.1 d1.2, cell_allocL _ (cell_allocL _ d0.1)⟩, hB0⟩
    (fun x => { tmps := #[.pointer (some ⟨G, 0, none⟩), .slice A1 m1 c1, .pointer (some ⟨w.heap.size, 0, none⟩), undef, .int .i64 0, .pointer (some ⟨w.heap.size + 1, 0, none⟩), .int .i64 (x.1.1 : Int), .int .i64 x.1.2, .slice A1 m1 c1, .func (.func 178) #[] #[.pointer (some ⟨w.heap.size + 1 + 1, 0, none⟩)], .int .i64 (x.1.1 : Int), .int .i64 x.1.2, undef, undef, undef, undef, undef, undef, undef, undef, undef, undef, undef, undef], defers := [] }) ?assign ?body ?done ?stop
  case assign =>
    intro l x W K hK
    gi_wp2
    exact hK
  case body =>
    rintro l pre ⟨⟨i, y⟩, hxy⟩ W ⟨⟨hc, hfz, hp⟩, hB⟩ _
    dsimp only at hxy ⊢
    have hil : i < cs.length := by have := (List.getElem?_eq_some_iff.1 hxy).1; have := hs.1; omega
    obtain ⟨q, hq⟩ : ∃ q, cs[i]? = some q := ⟨_, List.getElem?_eq_getElem hil⟩
    obtain ⟨hm0, -, hcm, hcc⟩ := h.some_
    subst hm0
    obtain ⟨ad, rfl, hbk, hcell⟩ := hcc (by omega)
    have hgW := (hB.cell (p := ⟨G, 5, none⟩) hG).trans hg
    have hcW := (hB.cell (p := ad.add i) (by rw [block_add]; exact hbk)).trans (hcell i q hq)
    obtain ⟨X, hX⟩ : ∃ X : Bk ss, X = ⟨(i, y), hxy⟩ := ⟨_, rfl⟩
    have hX1 : X.1 = (i, y) := by rw [hX]
    rw [← hX]
    have HS := Lib.hid (show accB cs (vals (pre ++ [X])) = IntKind.i64.wrap (IntKind.i64.wrap (accB cs (vals pre) * q) + y) by
      unfold vals
      rw [List.map_append, List.map_singleton, accB_snoc, hX1]
      show IntKind.i64.wrap (IntKind.i64.wrap (_ * cs.getD i 0) + y) = _
      rw [List.getD_eq_getElem?_getD, hq]
      rfl)
    generalize accB cs (vals pre) = acc at *
    have HXX := Lib.hid hX; clear hX hX1
    clear hcell hcc hq
    gi_wp2
    refine wpIn_region_calm (fun w' => w'.cell? ⟨w.heap.size, 0, none⟩ = some (.pointer (some ⟨G, 0, none⟩)) ∧ w'.cell? ⟨G, 5, none⟩ = some (.slice (some ad) cs.length c0) ∧ w'.cell? (ad.add i) = some (.int .i64 q)) (by kernel_rfl) (by kernel_rfl) ⟨hp, hgW, hcW⟩ (fun hHeld => ?_)
    refine tk 1 13 rfl rfl ?_
    try simp only [Act.put, pu]
    refine tk 2 14 rfl rfl ?_
    try simp only [Act.put, pu]
    refine tk 3 15 rfl rfl ?_
    try simp only [Act.put, pu]
    refine tk 4 16 rfl rfl ?_
    try simp only [Act.put, pu]
    refine tk 5 17 rfl rfl ?_
    try simp only [Act.put, pu]
    refine tk 6 18 rfl rfl ?_
    try simp only [Act.put, pu]
    refine tk 7 19 rfl rfl ?_
    try simp only [Act.put, pu]
    refine tk 9 21 rfl rfl ?_
    try simp only [Act.put, pu]
    refine wpAnyH_ready (rs := [0]) (by kernel_rfl) (by simp) ?_
    refine AllReadyH.cons rfl (fun K hK => ?_) AllReadyH.nil
    go_simp
    refine hK.out _ _ hHeld (fun _ => ?_)
    clear hK K
    refine tk 8 20 rfl rfl ?_
    try simp only [Act.put, pu]
    refine tk 10 22 rfl rfl ?_
    try simp only [Act.put, pu]
    refine wpAnyH_ready (rs := [11]) (by kernel_rfl) (by simp) ?_
    refine AllReadyH.cons rfl (fun K hK => ?_) AllReadyH.nil
    go_simp
    have hne0 : w.heap.size + 1 ≠ w.heap.size := by omega
    have hne1 : w.heap.size + 1 ≠ G := by omega
    have hne2 : w.heap.size + 1 ≠ (ad.add i).block := by rw [block_add]; omega
    refine hK.out _ _ ?_ (fun _ => ?_)
    · go_keep
    clear hK K
    refine wpAnyH_done (by kernel_rfl) ⟨by simp, ?_⟩ _
    show KeepsOthers W _ ∧ KpB _ _ W _ ∧ (_ ∧ _ ∧ _) ∧ _
    rw [HS.out]
    exact ⟨(KeepsOthers.setCell W ⟨w.heap.size + 1, 0, none⟩ _).trans (KeepsOthers.drew _), ⟨((Below.refl w.heap.size W).setCell (p := ⟨w.heap.size + 1, 0, none⟩) (by simp) _).drew, fun v hv => (World.cell?_setCell_far _ _ _ _ (by simp)).trans hv⟩,
      ⟨World.cell?_setCell_same' _ _ _ (by rw [hc]; rfl), (World.frozen?_setCell _ _ _ _).trans hfz, (World.cell?_setCell_far _ _ _ _ (by simp)).trans hp⟩, (hB.setCell (p := ⟨w.heap.size + 1, 0, none⟩) (by simp) _).drew⟩
  case done =>
    rintro D ys W hD hys ⟨⟨hc, -, -⟩, hB⟩ hK
    have HN := Lib.hid (show accB cs (vals ys) = numS cs ss by rw [hys, acc_num hf hs ss.length 0 (by omega)]; rfl)
    rw [HN.out] at hc
    gi_wp2
    refine ⟨by simp, .inl ⟨_, _, rfl, run_takeDeferred hK, ?_⟩⟩
    exact ⟨_, results_tmp rfl _ _ _, rfl, hB.trans (belowK_b (w := w) (Nat.le_refl _) W D _ _ (by simp at hD; omega) hK rfl rfl)⟩
  case stop =>
    rintro D c pre W _ _ h _
    exact h.elim
end
end Go.Proofs.YthfgklckmedggaaGreat
