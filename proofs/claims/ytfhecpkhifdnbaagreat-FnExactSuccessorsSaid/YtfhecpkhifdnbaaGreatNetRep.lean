/-
  Networks, the program's side: slices.Repeat at one number.
-/
import Derived.Test.YtfhecpkhifdnbaaGreatNetDeg
import Derived.Laws.IdiomCopy
import Derived.Laws.CopyRow
import Derived.Laws.NewBlocks
import Derived.Lib.SliceRun
import Derived.Lib.Overlaps
import Derived.Laws.CopyOwn
import Derived.Deep.RegionLaw
namespace Go.Proofs.YtfhecpkhifdnbaaGreat
open Go.RowKit
set_option linter.unusedVariables false
set_option linter.unusedSimpArgs false
theorem run_copy_row {P : Program} (w : World) (dT sT ty elem e : TypeId) (g o dLen dCap : Nat) (cur : Array Value) (hg : w.heap[g]? = some (.cells cur e (0, 0))) (a : Addr) (sLen sCap : Nat) (cs : List Value) (k : Nat)
    (hu : P.underlying dT = some (.slice elem)) (hs : (P.info? elem).map (·.size) = some k) (hn : cs.length = Nat.min sLen dLen * k)
    (hsrc : ∀ j v, cs[j]? = some v → w.cell? (a.add j) = some v) (hfit : o + cs.length ≤ cur.size) (h1 : ∀ v ∈ cs, v.oneCell' = true) :
    (Builtin.copy_ #[dT, sT] ty #[.slice (some ⟨g, o, none⟩) dLen dCap, .slice (some a) sLen sCap]).run P w =
      .ok (goInt (Nat.min sLen dLen)) (w.setRow g (cur.toList.take o ++ cs ++ cur.toList.drop (o + cs.length)).toArray) := by
  have hl := run_loadCells_list (P := P) w a cs hsrc
  have hst := run_storeCells_at P g o e cs 0 cur w hg (by simpa using hfit) h1
  simp only [Nat.add_zero] at hst
  cases hq : P.info? elem with
  | none => simp [hq] at hs
  | some i =>
    have hi : i.size = k := by simpa [hq] using hs
    rw [hn] at hl
    simp [Builtin.copy_, run_underlying hu, Builtin.lenOf, Builtin.firstCells, sizeOf, typeInfo, hq, hi, hl, hst]
theorem step_copy_runK {P : Program} {ops : Array Oper} {o : Oper} {a : Act} {w : World} {K : Act → World → Prop} {Q : Exit → Act → World → Prop} {E : Prop}
    (hg : o.guard = none) (d x : Operand) (dT sT : TypeId) (hop : o.op = Op.call { callee := Callee.builtin Builtin.copy, args := #[d, x], argTypes := #[dT, sT] })
    (v u : Value) (hd : a.eval d = v) (hx : a.eval x = u) {v' : Value} {w' : World} (hr : (Builtin.copy_ #[dT, sT] o.type #[v, u]).run P w = .ok v' w') (hK : K (a.put o.dst v') w') :
    if Region.wanted o (yielded ops a.tmps) = true then Oper.wp P o a w K Q else E := by
  have hw : Region.wanted o (yielded ops a.tmps) = true := by simp [Region.wanted, hg]
  rw [if_pos hw]
  unfold Oper.wp
  simp [execOp, hop, resolve, invoke, builtin, hd, hx, hr, Result.andThen]
  exact hK
theorem mul_one (k : Nat) (hk : k ≤ 1000) (w : World) : Calls Tryz.prog 205 #[.int .u64 1, .int .u64 (k : Int)] w fun e w' => e = .returned (.tuple #[.int .u64 0, .int .u64 (k : Int)]) ∧ w = w' := by
  refine (Tryz.bits_Mul 1 k (by omega) (by omega) w).mono ?_
  rintro e w' ⟨rfl, rfl⟩
  rw [show 1 * k / 18446744073709551616 = 0 from Nat.div_eq_of_lt (by omega), show 1 * k % 18446744073709551616 = k by rw [Nat.mod_eq_of_lt (by omega), Nat.one_mul]]
  exact ⟨rfl, rfl⟩
theorem copy_nums {w : World} {g gs o so n m c c' : Nat} {d ss : List Int} (hg : NumsAt w g d) (hs : ∀ j, j < Nat.min m n → w.cell? ((⟨gs, so, none⟩ : Addr).add j) = some (.int .i64 (ss.getD j 0))) (hl : Nat.min m n ≤ ss.length) (hfit : o + Nat.min m n ≤ d.length) :
    (Builtin.copy_ #[23, 23] 3 #[.slice (some ⟨g, o, none⟩) n c, .slice (some ⟨gs, so, none⟩) m c']).run Tryz.prog w = .ok (.int .i64 (Nat.min m n : Nat)) (w.setRow g ((d.take o ++ ss.take (Nat.min m n) ++ d.drop (o + Nat.min m n)).map intV).toArray) := by
  have hlen : ((ss.take (Nat.min m n)).map intV).length = Nat.min m n := by rw [List.length_map, List.length_take]; omega
  have h := run_copy_row (P := Tryz.prog) w 23 23 3 3 3 g o n c (d.map intV).toArray hg ⟨gs, so, none⟩ m c' ((ss.take (Nat.min m n)).map intV) 1 Tryz.underlying23 (by kernel_rfl) (by rw [hlen, Nat.mul_one]) (fun j v hv => by
      rw [List.getElem?_map] at hv
      obtain ⟨y, hy, rfl⟩ := Option.map_eq_some_iff.1 hv
      have hj := (List.getElem?_eq_some_iff.1 hy).1
      rw [List.length_take] at hj
      rw [hs j (by omega)]
      rw [List.getElem?_take_of_lt (by omega)] at hy
      rw [List.getD_eq_getElem?_getD, hy]
      rfl) (by rw [hlen]; simpa using hfit) (fun v hv => by
      obtain ⟨y, _, rfl⟩ := List.mem_map.1 hv
      rfl)
  rw [hlen] at h
  rw [h]
  simp [goInt, List.map_append, List.map_take, List.map_drop]
def RepRel (x : Int) (k g : Nat) (w i : World) (v : Value) : Prop := ∃ j : Nat, 1 ≤ j ∧ j ≤ k ∧ v = .int .i64 j ∧ NumsAt i g (List.replicate j x ++ List.replicate (k - j) 0) ∧ Below w.heap.size w i
set_option maxRecDepth 100000 in
theorem impl_Repeat (x : Int) (k g0 : Nat) (w : World) (hg : NumsAt w g0 [x]) (hk : 1 ≤ k) (hk2 : k ≤ 1000) :
    Calls Tryz.prog 161 #[.slice (some ⟨g0, 0, none⟩) 1 1, .int .i64 (k : Int)] w fun e w' => e = .returned (.slice (some ⟨w.heap.size, 0, none⟩) k k) ∧ NumsAt w' w.heap.size (List.replicate k x) ∧ Below w.heap.size w w' := by
  have hmk := fun W => run_make1 (P := Tryz.prog) 23 3 (.int .i64 0) 8 Tryz.underlying23 intInfo rfl k (by omega) (by omega) W
  have hN0 : NumsAt (w.alloc (.cells (rowOf [] k (.int .i64 0)) 3)) w.heap.size (List.replicate 0 x ++ List.replicate (k - 0) 0) := by
    unfold NumsAt
    rw [heap_alloc_new, ← rowOf_map 0 k (Nat.zero_le _)]
    rfl
  have hgl := hg.lt
  have hcs : ∀ j, j < Nat.min 1 k → (w.alloc (.cells (rowOf [] k (.int .i64 0)) 3)).cell? ((⟨g0, 0, none⟩ : Addr).add j) = some (.int .i64 ([x].getD j 0)) := fun j hj => by
    obtain rfl : j = 0 := by have h : Nat.min 1 k ≤ 1 := Nat.min_le_left _ _; omega
    exact Lib.cell?_alloc_some _ (hg.cell (i := 0) rfl)
  have hm1 : Nat.min 1 k = 1 := Nat.min_eq_left hk
  have hcp := copy_nums (c := k) (c' := 1) (o := 0) hN0 hcs (by rw [hm1]; exact Nat.le_refl _) (by rw [hm1]; simp; omega)
  rw [hm1] at hcp
  obtain ⟨w1, hw1⟩ : ∃ z, z = (w.alloc (.cells (rowOf [] k (.int .i64 0)) 3)).setRow w.heap.size (((List.replicate 0 x ++ List.replicate (k - 0) 0).take 0 ++ [x].take 1 ++ (List.replicate 0 x ++ List.replicate (k - 0) 0).drop (0 + 1)).map intV).toArray := ⟨_, rfl⟩
  rw [← hw1] at hcp
  have hN1 : NumsAt w1 w.heap.size (List.replicate 1 x ++ List.replicate (k - 1) 0) := by
    unfold NumsAt
    rw [hw1, setRow_heap _ _ _ _ _ _ hN0]
    simp
  have hb1 : Below w.heap.size w w1 := by
    rw [hw1]
    exact below_setRow (bl_alloc (Below.refl _ _) _) (Nat.le_refl _) _
  have HN1 := Lib.hid hN1; clear hN1 hcs hN0 hm1
  have HB1 := Lib.hid hb1; clear hb1 hw1
  have hw1 : IntKind.u64.wrap (k : Int) = (k : Int) := IntWalk.u64_in _ (by omega)
  have hw2 : IntKind.i64.wrap (k : Int) = (k : Int) := IntWalk.i64_in _ (by omega)
  go_enter Tryz.func161, Tryz.ntmps161
  go_wp2_with (go_at_call 205; refine (mul_one k (by omega) _).mono ?_; rintro e w' ⟨rfl, rfl⟩)
  go_loopw [8] (fun i wr => RepRel x k w.heap.size w wr i) (fun i _ => k - (intOf i).toNat)
  case atStart => exact ⟨1, Nat.le_refl _, hk, rfl, HN1.out, HB1.out⟩
  case round =>
    clear hcp
    obtain ⟨j, hj1, hj, rfl, hn, hb⟩ := hrel
    have HB := Lib.hid hb; clear hb
    by_cases hlt : j < k
    · have HNU := Lib.hid hn; clear hn
      have hcp := copy_nums (w := wr.drew) (g := w.heap.size) (gs := w.heap.size) (o := j) (so := 0) (n := k - j) (m := j) (c := k - j) (c' := k) (d := List.replicate j x ++ List.replicate (k - j) 0) (ss := List.replicate j x) HNU.out (fun i hi => by
        have hij : i < j := by have h : Nat.min j (k - j) ≤ j := Nat.min_le_left _ _; omega
        have h := HNU.out.cell (i := i) (x := x) (by rw [List.getElem?_append_left (by simpa using hij), List.getElem?_replicate, if_pos hij])
        rw [List.getD_eq_getElem?_getD, List.getElem?_replicate, if_pos hij, Option.getD_some]
        refine Eq.trans ?_ h
        rcases i with _ | i <;> simp [Addr.add] <;> rfl) (by rw [List.length_replicate]; exact Nat.min_le_left _ _) (by rw [List.length_append, List.length_replicate, List.length_replicate]; have h : Nat.min j (k - j) ≤ k - j := Nat.min_le_right _ _; omega)
      have hm0 : 1 ≤ Nat.min j (k - j) := Nat.le_min.2 ⟨hj1, by omega⟩
      have hm1 : Nat.min j (k - j) ≤ k - j := Nat.min_le_right _ _
      have hm2 : Nat.min j (k - j) ≤ j := Nat.min_le_left _ _
      generalize Nat.min j (k - j) = m at hcp hm0 hm1 hm2
      obtain ⟨w2, hw2⟩ : ∃ z, z = wr.drew.setRow w.heap.size (((List.replicate j x ++ List.replicate (k - j) 0).take j ++ (List.replicate j x).take m ++ (List.replicate j x ++ List.replicate (k - j) 0).drop (j + m)).map intV).toArray := ⟨_, rfl⟩
      rw [← hw2] at hcp
      have hN2 : NumsAt w2 w.heap.size (List.replicate (j + m) x ++ List.replicate (k - (j + m)) 0) := by
        unfold NumsAt
        rw [hw2, setRow_heap _ _ _ _ _ _ (show wr.drew.heap[w.heap.size]? = _ from HNU.out)]
        congr 4
        rw [List.take_append_of_le_length (by simp), List.take_of_length_le (by simp), List.take_replicate, Nat.min_eq_left hm2, List.drop_append, List.drop_of_length_le (by simp), List.length_replicate, List.nil_append, List.drop_replicate, show k - j - (j + m - j) = k - (j + m) by omega, List.replicate_append_replicate]
      have hb2 : Below w.heap.size w w2 := by
        rw [hw2]
        exact below_setRow HB.out.drew (Nat.le_refl _) _
      have HN2 := Lib.hid hN2; clear hN2
      have HB2 := Lib.hid hb2; clear hb2 hw2
      have HCP := Lib.hid hcp; clear hcp
      have hkj : ¬ k = j := by omega
      have hwr : IntKind.i64.wrap ((j : Int) + (m : Int)) = ((j + m : Nat) : Int) := by rw [← Int.natCast_add]; exact IntWalk.i64_in _ (by omega)
      go_wp2_with fail
      refine wp_region_held_drew (S := fun _ => True) (by kernel_rfl) ?_ (fun hHeld => ?_)
      · trivial
      refine tk 0 38 rfl rfl ?_ (hS := trivial)
      try simp only [Act.put, pu]
      refine tk 1 39 rfl rfl ?_ (hS := trivial)
      try simp only [Act.put, pu]
      refine tk 2 40 rfl rfl ?_ (hS := trivial)
      try simp only [Act.put, pu]
      refine tk 3 41 rfl rfl ?_ (hS := trivial)
      try simp only [Act.put, pu]
      refine tk 4 42 rfl rfl ?_ (hS := trivial)
      try simp only [Act.put, pu]
      refine tk 5 43 rfl rfl ?_ (hS := trivial)
      try simp only [Act.put, pu]
      refine tk 6 44 rfl rfl ?_ (hS := trivial)
      try simp only [Act.put, pu]
      refine tr 7 rfl (by kernel_rfl) (fun K hK => ?_)
      refine step_copy_runK rfl (.tmp 41) (.tmp 44) _ _ rfl _ _ rfl rfl HCP.out ?_
      refine hK.out _ _ trivial (fun hHeld => ?_)
      clear hK K
      try simp only [Act.put, pu]
      refine tk 8 46 rfl rfl ?_ (hS := trivial)
      try simp only [Act.put, pu]
      refine tk 9 8 rfl rfl ?_ (hS := trivial)
      try simp only [Act.put, pu]
      refine wpAnyH_done (by kernel_rfl) ?_ _
      go_wp2_with fail
      go_roundw
      case rel => exact ⟨j + m, by omega, by omega, rfl, HN2.out, HB2.out⟩
      case measure => simp [intOf]; omega
    · obtain rfl : j = k := by omega
      rw [Nat.sub_self, List.replicate_zero, List.append_nil] at hn
      have HNU := Lib.hid hn; clear hn
      go_wp2_with fail
      go_ret
      exact ⟨rfl, HNU.out, HB.out⟩
end Go.Proofs.YtfhecpkhifdnbaaGreat
