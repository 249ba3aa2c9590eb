/-
  slices.Sort and slices.Compact over a row of one's own; an append in a drawn region.
-/
import Derived.Test.YthfgklckmedggaaGreatImplA
import Derived.Test.YthfgklckmedggaaGreatNetOwn
import Derived.Test.YthfgklckmedggaaGreatPlainPut
import Derived.Test.YthfgklckmedggaaGreatImplB
namespace Go.Proofs.YthfgklckmedggaaGreat
open Go.RowKit Go.Sort Go.Lib
set_option linter.unusedVariables false
set_option linter.unusedSimpArgs false
theorem impl_SortOwn (v : Value) (xs : List Int) (base : Nat) (w : World) (h : w.ownsRow base 3 1 v xs.length (xs.map (Value.int .i64))) (hv : v ≠ .slice none 0 0) (hn : xs.length ≤ 2000000) :
    Calls Tryz.prog 121 #[v] w fun e w' => e = .returned (.tuple #[]) ∧ (∃ ys : List Int, ys.Perm xs ∧ ys.Pairwise (· ≤ ·) ∧ w'.ownsRow base 3 1 v ys.length (ys.map (Value.int .i64))) ∧ Below base w w' := by
  obtain ⟨g, cap, rfl, hg, hgl, hc, hm, -, hH⟩ := holds_of_ownsRow h hv
  refine (Tryz.slices_Sort_int g 0 cap xs w hH hgl (by omega)).mono ?_
  rintro e w' ⟨rfl, n, os, rfl⟩
  have hp := List.mergeSort_perm xs (fun x y => decide (x ≤ y))
  have ho := ownsRow_putRow (q := n) (k := xs.length) h (ys := xs.mergeSort fun x y => decide (x ≤ y)) (by rw [hp.length_eq]) (Nat.le_refl _)
  rw [List.take_of_length_le (by rw [hp.length_eq]; exact Nat.le_refl _)] at ho
  have hpw := List.pairwise_mergeSort (le := fun x y : Int => decide (x ≤ y)) (fun a b c h1 h2 => by simp only [decide_eq_true_eq] at *; omega) (fun a b => by simp only [Bool.or_eq_true, decide_eq_true_eq]; omega) xs
  generalize hW : putRow (Value.int .i64) (Sort.ahead w n) g 0 (xs.mergeSort fun x y => decide (x ≤ y)).toArray = W at ho
  have hbW : Below base w W := by rw [← hW]; exact below_putRow (Below.refl _ _) hg
  have hbG : Below W.heap.size W (grow W os) := below_grow W os
  have hsz : base ≤ W.heap.size := by have := hbW.size; omega
  refine ⟨rfl, ⟨_, hp, hpw.imp fun h => by simpa using h, ?_⟩, hbW.trans (hbG.mono hsz)⟩
  rw [hp.length_eq]
  exact own_keep4 ho hbG.size (fun b _ hb => hbG.block b hb)
theorem impl_CompactOwn (v : Value) (zs : List Int) (base : Nat) (w : World) (h : w.ownsRow base 3 1 v zs.length (zs.map (Value.int .i64))) (hv : v ≠ .slice none 0 0) (hn : zs.length ≤ 2000000) :
    Calls Tryz.prog 122 #[v] w fun e w' => ∃ u, e = .returned u ∧ w'.ownsRow base 3 1 u (Lib.compact zs).length ((Lib.compact zs).map (Value.int .i64)) ∧ Below base w w' := by
  obtain ⟨g, cap, rfl, hg, hgl, hc, hm, -, hH⟩ := holds_of_ownsRow h hv
  refine (Tryz.slices_Compact_int g 0 cap zs w hH (by omega) hc).mono ?_
  rintro e w' ⟨rfl, q, rfl⟩
  have hcl : (Lib.compact zs).length ≤ zs.length := by
    unfold Lib.compact Lib.compactUpTo
    rw [List.length_map]
    exact Nat.le_trans (List.length_filter_le _ _) (by simp)
  have ho := ownsRow_putRow (q := q) (k := (Lib.compact zs).length) h (ys := Lib.compact zs ++ List.replicate (zs.length - (Lib.compact zs).length) 0) (by rw [List.length_append, List.length_replicate]; omega) hcl
  rw [List.take_left'  rfl] at ho
  exact ⟨_, rfl, ho, below_putRow (Below.refl _ _) hg⟩
theorem oper_append1 {P : Program} (w : World) {o : Oper} {a : Act} {K : Act → World → Prop} {Q : Exit → Act → World → Prop} (s x : Operand) (t : TypeId)
    (ho : o.op = .call { callee := .builtin .append, args := #[s, x], argTypes := #[t, t] })
    (base : Nat) (e : TypeId) (z : Value) (bytes : Nat) (ht : P.underlying t = some (.slice e)) (hinf : (P.info? e).map (fun i => (i.zero, i.size, i.bytes)) = some (some z, 1, bytes)) (hzs : z.cells.size = 1)
    (v : Value) (n : Nat) (xs : List Value) (hs : a.eval s = v) (u : Value) (hu : u.oneCell' = true) (hx : a.eval x = .slice (some ⟨w.heap.size, 0, none⟩) 1 1)
    (hown : w.ownsRow base e 1 v n xs) (h63 : n + 1 ≤ maxLen) (hbytes : (n + 1) * bytes ≤ 140737488355328) (hbase : base ≤ w.heap.size)
    (h : ∀ v' w', w'.ownsRow base e 1 v' (n + 1) (xs ++ [u]) → Below base w w' → w.grownBy w' v.ownBlock → w.heap.size < w'.heap.size → (v'.ownBlock = v.ownBlock ∨ ∃ g, v'.ownBlock = some g ∧ w.heap.size ≤ g ∧ g < w'.heap.size) → K (a.put o.dst v') w') :
    Oper.wp P o a (w.alloc (.cells #[u] e)) K Q := by
  obtain ⟨i, hi, hz0, hz1, hz2⟩ := info_parts hinf
  have hown1 := hown.alloc (.cells #[u] e)
  have hcell : (w.alloc (.cells #[u] e)).cell? ⟨w.heap.size, 0, none⟩ = some u := by rw [World.cell?_alloc_at _ _ _ _ rfl]; rfl
  have hnews : ∀ j u', ([u] : List Value)[j]? = some u' → (w.alloc (.cells #[u] e)).cell? ((⟨w.heap.size, 0, none⟩ : Addr).add j) = some u' := by
    intro j u' hj
    match j, hj with
    | 0, hj =>
      have : u = u' := by simpa using hj
      subst this
      exact hcell
  obtain ⟨v', w', hrun, h2, h3, _, h5⟩ := run_append_own_at (P := P) (w.alloc (.cells #[u] e)) base t o.type e i z 1 bytes ht hi hz0 hz1 hz2 hzs (by decide) v n xs hown1 ⟨w.heap.size, 0, none⟩ 1 1 [u] rfl hnews
    (by intro u' hu'; have : u' = u := by simpa using hu'
        subst this; exact hu) h63 hbytes (by simp; omega)
  have hg : w.grownBy w' v.ownBlock := by
    have h0 := World.grownBy_alloc w (.cells #[u] e) v.ownBlock
    exact ⟨h3.os.trans h0.os, h3.tape.trans h0.tape, h3.output.trans h0.output, Nat.le_trans h0.size h3.size, fun k hk hne => (h3.block k (Nat.lt_of_lt_of_le hk h0.size) hne).trans (h0.block k hk hne)⟩
  have hsz : w.heap.size < w'.heap.size := by have := h3.size; simp at this; omega
  have hB : Below base w w' := (Below.refl base w).grown hg hbase (fun k hk => (hown.lt k hk).1)
  unfold Oper.wp execOp
  simp only [ho, resolve, invoke, builtin, Sem.run_bind, Sem.run_pure, Result.andThen_ok, List.map_toArray, List.map_cons, List.map_nil, hs, hx, hrun]
  refine h v' w' h2 hB hg hsz ?_
  rcases h5 with h5 | h5
  · exact .inl h5
  · refine .inr ⟨_, h5, by simp, ?_⟩
    exact (h2.lt _ h5).2
end Go.Proofs.YthfgklckmedggaaGreat
