/-
  slices.Delete of one letter, over a row of the call's own. No condition.
-/
import Derived.Test.YtjklbjmdgiddcaaGreatGArgsLetG
import Derived.Lib.AppendZeros
import Derived.Lib.AppendZerosOnto
import Derived.Laws.Externs
import Derived.Lib.Walk
namespace Go.Proofs.YtjklbjmdgiddcaaGreat
open Go.RowKit
set_option linter.all false
section
variable {P : Program}
theorem run_clear_row (w : World) (t el ty e : TypeId) (z : Value) (ht : P.underlying t = some (.slice el)) (hv : ∀ w, (zeroValue el).run P w = .ok z w) (h1 : ∀ v ∈ z.cells, v.oneCell' = true) (g o n c : Nat) (hn : 0 < n) (cur : Array Value)
    (hg : w.heap[g]? = some (.cells cur e (0, 0))) (hfit : o + n * z.cells.size ≤ cur.size) :
    (Builtin.clear_ #[t] ty #[.slice (some ⟨g, o, none⟩) n c]).run P w = .ok (.tuple #[]) (w.setRow g (cur.toList.take o ++ (Builtin.zeroCells z.cells n).toList ++ cur.toList.drop (o + n * z.cells.size)).toArray) := by
  have hlen : (Builtin.zeroCells z.cells n).toList.length = n * z.cells.size := by rw [Array.length_toList, size_zeroCells]
  have hone : ∀ v ∈ (Builtin.zeroCells z.cells n).toList, v.oneCell' = true := by
    intro v hv';unfold Builtin.zeroCells at hv';simp only [Array.toList_map, List.mem_map] at hv';obtain ⟨i, hi, rfl⟩ := hv';have hz : 0 < z.cells.size := by
      rcases Nat.eq_zero_or_pos z.cells.size with h | h
      · rw [h] at hi; simp at hi
      · exact h
    have hlt : i % z.cells.size < z.cells.size := Nat.mod_lt _ hz;rw [getElem!_pos z.cells _ hlt];exact h1 _ (Array.getElem_mem hlt)
  have hst := run_storeCells_at P g o e (Builtin.zeroCells z.cells n).toList 0 cur w hg (by rw [hlen]; simpa using hfit) hone;simp only [Nat.add_zero, hlen] at hst;obtain ⟨m, rfl⟩ : ∃ m, n = m + 1 := ⟨n - 1, by omega⟩
  simp [Builtin.clear_, run_underlying ht, hv, hst]
theorem step_append_runK {ops : Array Oper} {o : Oper} {a : Act} {w : World} {K : Act → World → Prop} {Q : Exit → Act → World → Prop} {E : Prop}
    (hg : o.guard = none) (d x : Operand) (dT sT : TypeId) (hop : o.op = Op.call { callee := Callee.builtin Builtin.append, args := #[d, x], argTypes := #[dT, sT] })
    (v u : Value) (hd : a.eval d = v) (hx : a.eval x = u) {v' : Value} {w' : World} (hr : (Builtin.append_ #[dT, sT] o.type #[v, u]).run P w = .ok v' w') (hK : K (a.put o.dst v') w') :
    if Region.wanted o (yielded ops a.tmps) = true then Oper.wp P o a w K Q else E := by
  have hw : Region.wanted o (yielded ops a.tmps) = true := by simp [Region.wanted, hg]
  rw [if_pos hw];unfold Oper.wp;simp [execOp, hop, resolve, invoke, builtin, hd, hx, hr, Result.andThen];exact hK
end
theorem row_open {w : World} {base : Nat} {e : TypeId} {k n : Nat} {v : Value} {vs : List Value} (h : w.ownsRow base e k v n vs) (h0 : 0 < n) :
    ∃ g cap cur, v = .slice (some ⟨g, 0, none⟩) n cap ∧ base ≤ g ∧ w.heap[g]? = some (.cells cur e (0, 0)) ∧ n ≤ cap ∧ cap ≤ maxLen ∧ cur.size = cap * k ∧ cur.toList.take (n * k) = vs ∧ vs.length = n * k := by
  obtain ⟨hl, h⟩ := h;rcases h with ⟨e, rfl⟩ | ⟨g, cap, cur, e, h1, h2, h3, h4, h5, h6⟩
  · omega
  · exact ⟨g, cap, cur, e, h1, h2, h3, h4, h5, h6, hl⟩
theorem row_set {w : World} {base : Nat} {e : TypeId} {k g cap n : Nat} {cur cur' : Array Value} {vs : List Value} (hg : w.heap[g]? = some (.cells cur e (0, 0))) (hb : base ≤ g) (hn : n ≤ cap) (hc : cap ≤ maxLen) (hs : cur'.size = cap * k) (hl : vs.length = n * k) (ht : cur'.toList.take (n * k) = vs) :
    (w.setRow g cur').ownsRow base e k (.slice (some ⟨g, 0, none⟩) n cap) n vs ∧ w.grownBy (w.setRow g cur') (some g) := by
  refine ⟨⟨hl, .inr ⟨g, cap, cur', rfl, hb, setRow_heap w g cur _ e _ hg, hn, hc, hs, ht⟩⟩, ⟨rfl, rfl, rfl, by simp, fun j _ hj => setRow_other w g j _ fun e => hj (by rw [e])⟩⟩
theorem grown_drew {w w' : World} {r : Option Nat} (h : w.drew.grownBy w' r) : w.grownBy w' r := ⟨h.os, h.tape, h.output, h.size, h.block⟩
theorem grown_tr {w w1 w2 : World} {r : Option Nat} (h : w.grownBy w1 r) (k : w1.grownBy w2 r) : w.grownBy w2 r :=
  ⟨k.os.trans h.os, k.tape.trans h.tape, k.output.trans h.output, Nat.le_trans h.size k.size, fun j hj hne => (k.block j (aF hj h.size) hne).trans (h.block j hj hne)⟩
def zLet : Value := .agg #[.int .i64 0, .int .i64 0]
theorem zLet_run (w : World) : (zeroValue 129).run Tryz.prog w = .ok zLet w := by obtain ⟨i, hi, hz0, hz1, hz2⟩ := info_parts letInfo;simp [zeroValue, typeInfo, hi, hz0, zLet]
theorem zLet_ones : ∀ v ∈ zLet.cells, v.oneCell' = true := by intro v hv;simp [zLet, Value.cells] at hv;subst hv;rfl
theorem zLet_size : zLet.cells.size = 2 := rfl
set_option maxRecDepth 100000 in
set_option maxHeartbeats 4000000 in
theorem delete_letters (base : Nat) (v : Value) (vs : List Value) (m k : Nat) (w : World) (h : w.ownsRow base 129 2 v (m + 1) vs) (hone : ∀ u ∈ vs, u.oneCell' = true) (hk : k ≤ m) (hm : m ≤ 1000000) :
  Calls Tryz.prog 115 #[v, .int .i64 k, .int .i64 ((k : Int) + 1)] w fun e w' => ∃ v', e = .returned v' ∧ w'.ownsRow base 129 2 v' m (vs.take (k * 2) ++ vs.drop ((k + 1) * 2)) ∧ w.grownBy w' v.ownBlock ∧ v'.ownBlock = v.ownBlock := by
 obtain ⟨g, cap, cur, rfl, hbg, hg, hnc, hcm, hcs, ht, hvl⟩ := row_open h (by omega);obtain ⟨i, hi, hz0, hz1, hz2⟩ := info_parts letInfo;have hcell : ∀ j u, vs[j]? = some u → w.drew.cell? ⟨g, j, none⟩ = some u := fun j u hu => by rw [← ht] at hu;have hlt := (aB.1 hu).1;rw [List.getElem?_take_of_lt (by rw [List.length_take] at hlt; omega)] at hu;rw [cell_of_row w.drew _ _ _ _ (0, 0) hg];simpa using hu
 obtain ⟨news, hnews⟩ : ∃ l, l = vs.drop ((k + 1) * 2) := ⟨_, rfl⟩
 have hnl : news.length = (m - k) * 2 := by rw [hnews, List.length_drop, hvl]; omega
 obtain ⟨AD, hA, hsrc⟩ : ∃ AD : Addr, (if cap = k + 1 then some (⟨g, 0, none⟩ : Addr) else some ⟨g, (k + 1) * 2, none⟩) = some AD ∧ Hid (∀ j u, news[j]? = some u → w.drew.cell? (AD.add j) = some u) := by
  by_cases hc : cap = k + 1
  ·
   refine ⟨⟨g, 0, none⟩, by simp [hc], fun j u hu => ?_⟩;have h0 : news.length = 0 := by rw [hnl]; omega
   rw [List.length_eq_zero_iff.1 h0] at hu;simp at hu
  · refine ⟨⟨g, (k + 1) * 2, none⟩, by simp [hc], fun j u hu => ?_⟩;rw [Addr.add_lit];rw [hnews, List.getElem?_drop] at hu;exact hcell _ _ hu
 have hsz : cur.size = cap * 2 := hcs;have hr := run_append_room (P := Tryz.prog) w.drew 102 102 129 i Tryz.underlying102 hi g k cap cur hg AD (m - k) (cap - (k + 1)) news (by rw [hz1]; exact hnl) hsrc.out
  (fun u hu => hone u (by rw [hnews] at hu; exact List.mem_of_mem_drop hu)) (by omega) (by rw [hz1, hnl]; omega)
 rw [hz1, show k + (m - k) = m by omega, hnl] at hr;obtain ⟨C1, hC1⟩ : ∃ C : Array Value, C = (cur.toList.take (k * 2) ++ news ++ cur.toList.drop (k * 2 + (m - k) * 2)).toArray := ⟨_, rfl⟩
 rw [← hC1] at hr;have hs1 : C1.size = cap * 2 := by rw [hC1]; simp only [List.size_toArray, List.length_append, List.length_take, List.length_drop, Array.length_toList, hnl, hsz]; omega
 have ht1 : C1.toList.take (m * 2) = vs.take (k * 2) ++ news := by
  rw [hC1];show (cur.toList.take (k * 2) ++ news ++ cur.toList.drop (k * 2 + (m - k) * 2)).take (m * 2) = _;have hl : (cur.toList.take (k * 2) ++ news).length = m * 2 := by rw [List.length_append, hnl, List.length_take, Array.length_toList]; omega
  rw [← hl, List.take_left, ← ht, List.take_take, Nat.min_eq_left (by omega)]
 obtain ⟨W1, hW1⟩ : ∃ W, W = w.drew.setRow g C1 := ⟨_, rfl⟩
 have hg1 : W1.heap[g]? = some (.cells C1 129 (0, 0)) := by rw [hW1]; exact setRow_heap w.drew g cur _ _ _ hg
 have hcl := fun ty => run_clear_row (P := Tryz.prog) W1 102 129 ty 129 zLet Tryz.underlying102 zLet_run zLet_ones g (m * 2) 1 (cap - m) (by omega) C1 hg1 (by rw [zLet_size, hs1]; omega)
 obtain ⟨C2, hC2⟩ : ∃ C : Array Value, C = (C1.toList.take (m * 2) ++ (Builtin.zeroCells zLet.cells 1).toList ++ C1.toList.drop (m * 2 + 1 * zLet.cells.size)).toArray := ⟨_, rfl⟩
 rw [← hC2] at hcl;have hzl : (Builtin.zeroCells zLet.cells 1).toList.length = 2 := by rw [Array.length_toList, size_zeroCells]; rfl
 have hs2 : C2.size = cap * 2 := by rw [hC2]; simp only [List.size_toArray, List.length_append, List.length_take, List.length_drop, Array.length_toList, hs1, zLet_size] at hzl ⊢; rw [hzl]; omega
 have ht2 : C2.toList.take (m * 2) = vs.take (k * 2) ++ vs.drop ((k + 1) * 2) := by
  rw [hC2];show (C1.toList.take (m * 2) ++ (Builtin.zeroCells zLet.cells 1).toList ++ C1.toList.drop (m * 2 + 1 * zLet.cells.size)).take (m * 2) = _;have hl : (C1.toList.take (m * 2)).length = m * 2 := by rw [List.length_take, Array.length_toList]; omega
  rw [List.append_assoc, List.take_append_of_le_length (by omega), List.take_of_length_le (by omega), ht1, hnews]
 have FIN := aA (show (W1.setRow g C2).ownsRow base 129 2 (.slice (some ⟨g, 0, none⟩) m cap) m (vs.take (k * 2) ++ vs.drop ((k + 1) * 2)) ∧ w.grownBy (W1.setRow g C2) (some g) from by
  have hl : (vs.take (k * 2) ++ vs.drop ((k + 1) * 2)).length = m * 2 := by rw [List.length_append, List.length_take, List.length_drop, hvl]; omega
  obtain ⟨f1, f2⟩ := row_set (base := base) (k := 2) (cap := cap) (n := m) hg1 hbg (by omega) hcm hs2 hl ht2;refine ⟨f1, ?_⟩;have f0 : w.drew.grownBy W1 (some g) := by rw [hW1]; exact ⟨rfl, rfl, rfl, by simp, fun j _ hj => setRow_other w.drew g j _ fun e => hj (by rw [e])⟩
  exact grown_drew (grown_tr f0 f2))
 have HR := aA hr; clear hr;have HCL := aA hcl; clear hcl;have HW := aA hW1; clear hW1;clear hcell hsz hs1 ht1 hg1 hs2 ht2 hC1 hC2 hzl ht hnews hnl hsrc hone hg hcs hvl h hi hz0 hz1 hz2;unfold maxLen at hcm;have d1 : ¬ ((k : Int) = (k : Int) + 1) := by omega
 have mixed : Tryz.prog.follows .mixedOrders = true := by kernel_rfl
 have i1 : k ≤ cap := by omega
 have i2 : k + 1 ≤ cap := by omega
 have i3 : (0 : Int) ≤ (k : Int) + 1 := by omega
 have i4 : ((k : Int) + 1).toNat = k + 1 := by omega
 have i5 : k + 1 ≤ m + 1 := by omega
 have i6 : m + 1 - (k + 1) = m - k := by omega
 have i7 : (k : Int) + 1 ≤ (m : Int) + 1 := by omega
 go_enter Tryz.func115, Tryz.ntmps115;go_wp2_with fail
 go_region_law_o (refine step_append_runK rfl (.tmp 22) (.tmp 25) 102 102 rfl (.slice (some ⟨g, 0, none⟩) k cap) (.slice (some AD) (m - k) (cap - (k + 1))) (by simp [Act.eval, Act.put]) (by simp [Act.eval, Act.put]) HR.out ?_; rw [← HW.out])
 have HX := HCL.out;go_wp2_with fail;go_ret;exact ⟨_, rfl, FIN.out.1, FIN.out.2, rfl⟩
end Go.Proofs.YtjklbjmdgiddcaaGreat
