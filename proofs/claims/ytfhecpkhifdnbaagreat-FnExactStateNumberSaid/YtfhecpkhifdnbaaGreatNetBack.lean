/-
  slices.Backward over numbers: what a range over it goes through.
-/
import Derived.RangeFuncNested
import Derived.RangeFuncBound
import Derived.RangeFuncCalls
import Derived.RangeFuncLeaves
import Derived.Shelf.Abstract
import Derived.WalkKit
import Derived.OwnWalkIn
import Derived.TacticsInMore
import Derived.LoopNIn
import Derived.LoopIn
import Derived.Test.YtfhecpkhifdnbaaGreatNetSit
namespace Go.Proofs.YtfhecpkhifdnbaaGreat
open Go.RowKit Go.Shelf
attribute [local go_sem] Oper.semAt_some
set_option linter.unusedVariables false
set_option linter.unusedSimpArgs false
/-- What has come when k rounds are over. -/
def backTo (zs : List Int) (k : Nat) : List (Nat × Int) := (List.range k).map fun j => (zs.length - 1 - j, zs[zs.length - 1 - j]?.getD 0)
theorem backTo_succ (zs : List Int) (k : Nat) : backTo zs (k + 1) = backTo zs k ++ [(zs.length - 1 - k, zs[zs.length - 1 - k]?.getD 0)] := by simp [backTo, List.range_succ]
theorem backTo_length (zs : List Int) (k : Nat) : (backTo zs k).length = k := by simp [backTo]
/-- What comes out of a range over them: an index and the number there. -/
def Bk (zs : List Int) : Type := { x : Nat × Int // zs[x.1]? = some x.2 }
def vals {zs : List Int} (pre : List (Bk zs)) : List (Nat × Int) := pre.map fun x => x.1
/-- What a round keeps: what lay below n₀, and the box that the iterator reads. -/
def KpB (n₀ Bs : Nat) (W W' : World) : Prop := Below n₀ W W' ∧ ∀ v, W.cell? ⟨Bs, 0, none⟩ = some v → W'.cell? ⟨Bs, 0, none⟩ = some v
theorem KpB.trans {n₀ Bs : Nat} {A B C : World} (h : KpB n₀ Bs A B) (k : KpB n₀ Bs B C) : KpB n₀ Bs A C := ⟨h.1.trans k.1, fun v hv => k.2 v (h.2 v hv)⟩
theorem KpB.put {n₀ Bs : Nat} {w : World} (hn : n₀ ≤ w.heap.size) (hBs : Bs < w.heap.size) (W : World) (l : Nat) (o o' : Obj) (hl : w.heap.size ≤ l) (h : W.heap[l]? = some o) (hc : o.isCells = false) (hw : o.isWalk = false) : KpB n₀ Bs W (W.putObj l o') :=
  ⟨belowK_b hn W l o o' hl h hc hw, fun v hv => (World.cell?_of_block (a := ⟨Bs, 0, none⟩) ((grownBy_putObj' W l o').block Bs (by have := (Array.getElem?_eq_some_iff.1 h).1; omega) (by intro e; cases e; omega))).trans hv⟩
set_option maxRecDepth 100000 in
set_option maxHeartbeats 2000000 in
theorem back1_in (F : Fence) (n : Nat) (h8 : F.fn 164) (hro : F.round = none) (hn : 1 ≤ n) (l Bs n₀ : Nat) (sv : Value) (zs : List Int) (hreach : zs.length ≤ 2000000) (J Jx : List (Bk zs) → World → Prop)
    (hY : ∀ pre (x : Bk zs) W, J pre W → pre.length < zs.length → YieldAt F (n - 1) Tryz.prog l #[.int .i64 (x.1.1 : Int), .int .i64 x.1.2] W fun e W' =>
      (e = .returned (.bool true) ∧ J (pre ++ [x]) W' ∧ KpB n₀ Bs W W') ∨ (e = .returned (.bool false) ∧ Jx (pre ++ [x]) W'))
    (W : World) (hBs : W.cell? ⟨Bs, 0, none⟩ = some sv) (hI : IntsR W n₀ sv zs) (h0 : J [] W) :
    CallsIn F n Tryz.prog 164 #[.func (.yield l) #[] #[], .pointer (some ⟨Bs, 0, none⟩)] W fun e W' => (∃ v, e = .returned v) ∧
      ((∃ ys, vals ys = backTo zs zs.length ∧ J ys W') ∨ (∃ pre, (∃ k, k ≤ zs.length ∧ vals pre = backTo zs k) ∧ Jx pre W')) := by
  have hwr : IntKind.i64.wrap ((zs.length : Int) - 1) = (zs.length : Int) - 1 := IntWalk.i64_in _ (by omega)
  obtain ⟨A0, cap, rfl, hl1, hl2, hc⟩ := hI.open_
  unfold maxLen at hl2
  have HC := Lib.hid hc; clear hc hI
  refine callsIn_of_wp Tryz.func164 rfl h8 ?_ hro
  simp only [Tryz.ntmps164, List.size_toArray, List.length_cons, List.length_nil, Nat.reduceAdd, Nat.reduceSub, Array.replicate_succ, Array.replicate_zero, List.push_toArray, List.append_toArray, List.nil_append, List.cons_append]
  gi_wp2
  gi_loopw [3] (fun i wr => ∃ (k r : Nat) (pre : List (Bk zs)), k + r = zs.length ∧ i = .int .i64 ((r : Int) - 1) ∧ vals pre = backTo zs k ∧ pre.length = k ∧ J pre wr ∧ KpB n₀ Bs W wr)
    (fun i _ => (intOf i + 1).toNat)
  case atStart => exact ⟨0, zs.length, [], by omega, rfl, rfl, rfl, h0, Below.refl _ _, fun _ h => h⟩
  case round =>
    obtain ⟨k, r, pre, hk, rfl, hpre, hpl, hJs, hnx⟩ := hrel
    have HPR := Lib.hid hpre; clear hpre
    have hBs' := hnx.2 _ hBs
    cases r with
    | zero =>
      obtain rfl : k = zs.length := by omega
      gi_wp2
      go_end0
      exact ⟨⟨_, rfl⟩, .inl ⟨_, HPR.out, hJs⟩⟩
    | succ j =>
      have hj : ((j + 1 : Nat) : Int) - 1 = (j : Int) := by omega
      rw [hj]
      have hjl : j < zs.length := by omega
      obtain ⟨y, hyy⟩ : ∃ y, zs[j]? = some y := ⟨_, List.getElem?_eq_getElem hjl⟩
      obtain ⟨ad, rfl, hb, hcc⟩ := HC.out (by omega)
      have hcx : wr.cell? (ad.add j) = some (.int .i64 y) := (hnx.1.cell (p := ad.add j) (by rw [block_add]; exact hb)).trans (hcc j y hyy)
      have HZ := Lib.hid (show backTo zs (k + 1) = backTo zs k ++ [(j, y)] by rw [backTo_succ, show zs.length - 1 - k = j by omega, hyy]; rfl)
      have hwj : IntKind.i64.wrap ((j : Int) - 1) = (j : Int) - 1 := IntWalk.i64_in _ (by omega)
      obtain ⟨X, hX⟩ : ∃ X : Bk zs, X.1 = (j, y) := ⟨⟨(j, y), hyy⟩, rfl⟩
      obtain ⟨fn, tmps, assign, body, hy, hR⟩ := hY pre X wr hJs (by omega)
      rw [hX] at hy
      dsimp only at hy
      have HX := Lib.hid hX; clear hcc hyy hX
      gi_wp2
      refine hR.mono ?_
      rintro e W3 (⟨rfl, hJ3, hk3⟩ | ⟨rfl, hJx3⟩)
      · gi_wp2
        go_roundw
        case rel => exact ⟨k + 1, j, _, by omega, rfl, by unfold vals at HPR ⊢; rw [List.map_append, HPR.out, HZ.out, List.map_singleton, HX.out], by simp [hpl], hJ3, hnx.trans hk3⟩
        case measure => simp [intOf]
      · gi_wp2
        refine bodyPost_ret (results_none rfl _ _ _) rfl ?_
        exact ⟨⟨_, rfl⟩, .inr ⟨_, ⟨k + 1, by omega, by unfold vals at HPR ⊢; rw [List.map_append, HPR.out, HZ.out, List.map_singleton, HX.out]⟩, hJx3⟩⟩
theorem back_stops (F : Fence) (n : Nat) (h8 : F.fn 164) (hro : F.round = none) (hn : 1 ≤ n) (Bs n₀ : Nat) (sv : Value) (zs : List Int) (hreach : zs.length ≤ 2000000) (w : World) (hBs : Bs < w.heap.size) (hn₀ : n₀ ≤ w.heap.size)
    (hc : w.cell? ⟨Bs, 0, none⟩ = some sv) (hI : IntsR w n₀ sv zs) :
    SeqStopsK F n Tryz.prog 164 #[.pointer (some ⟨Bs, 0, none⟩)] (fun x : Bk zs => #[Value.int .i64 (x.1.1 : Int), Value.int .i64 x.1.2]) (KpB n₀ Bs) (fun ys => vals ys = backTo zs zs.length)
      (fun pre => ∃ k, k ≤ zs.length ∧ vals pre = backTo zs k) zs.length w := fun l J Jx W hW _ _ hY h0 => by
  have hW' := hW.mono hn₀
  exact back1_in F n h8 hro hn l Bs n₀ sv zs hreach J Jx hY W ((hW.cell (p := ⟨Bs, 0, none⟩) hBs).trans hc) (hI.below hW') h0
theorem back_in (F : Fence) (n : Nat) (h5 : F.fn 101) (hro : F.round = none) (a : Option Addr) (len cap : Nat) (w : World) :
    CallsIn F n Tryz.prog 101 #[.slice a len cap] w fun e w' => e = .returned (.func (.func 164) #[] #[.pointer (some ⟨w.heap.size, 0, none⟩)]) ∧ w' = w.alloc (.cells #[.slice a len cap] 23) := by
  refine callsIn_of_wp Tryz.func101 rfl h5 ?_ hro
  simp only [Tryz.ntmps101, List.size_toArray, List.length_cons, List.length_nil, Nat.reduceAdd, Nat.reduceSub, Array.replicate_succ, Array.replicate_zero, List.push_toArray, List.append_toArray, List.nil_append, List.cons_append]
  gi_wp2
  go_ret
  exact ⟨rfl, rfl⟩
end Go.Proofs.YtfhecpkhifdnbaaGreat
