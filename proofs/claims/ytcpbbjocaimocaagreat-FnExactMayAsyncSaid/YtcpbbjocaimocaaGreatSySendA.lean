/-
  What the walks over letters need: a letter appended, what an act that was possible leaves. No program but the letters' type in sight, no condition.
-/
import Derived.Test.YtcpbbjocaimocaaGreatSyStep
import Derived.Test.YtcpbbjocaimocaaGreatMayI3
namespace Go.Proofs.YtcpbbjocaimocaaGreat
open Go.RowKit
set_option linter.unusedVariables false
set_option linter.unusedSimpArgs false
theorem AsyK.drew {w : World} {base : Nat} {val : Key → Value} {x : Asy} (h : AsyK w base val x) : AsyK w.drew base val x := ⟨fun i hi => h.own i hi, h.sep⟩
/-- append(v, e) by itself, e a letter in a new block. -/
theorem oper_append2 (w : World) {o : Oper} {a : Act} {K : Act → World → Prop} {Q : Exit → Act → World → Prop} (s x : Operand)
    (ho : o.op = .call { callee := .builtin .append, args := #[s, x], argTypes := #[120, 120] })
    (base : Nat) (v : Value) (n : Nat) (xs : List Value) (hs : a.eval s = v) (e : Int × Int) (hx : a.eval x = .slice (some ⟨w.heap.size, 0, none⟩) 1 1)
    (hown : w.ownsRow base 156 2 v n xs) (h63 : n + 1 ≤ 1000) (hbase : base ≤ w.heap.size)
    (h : ∀ v' w', w'.ownsRow base 156 2 v' (n + 1) (xs ++ letC e) → Below base w w' → w.grownBy w' v.ownBlock → (v'.ownBlock = v.ownBlock ∨ ∃ g, v'.ownBlock = some g ∧ w.heap.size ≤ g) → K (a.put o.dst v') w') :
    Oper.wp Tryz.prog o a (w.alloc (.cells #[.int .i64 e.1, .int .i64 e.2] 156)) K Q := by
  obtain ⟨i, hi, hz0, hz1, hz2⟩ := info_parts letInfo
  have hown1 := hown.alloc (.cells #[.int .i64 e.1, .int .i64 e.2] 156)
  have hnew := heap_alloc_new w (.cells #[.int .i64 e.1, .int .i64 e.2] 156)
  have hnews : ∀ j u', (letC e)[j]? = some u' → (w.alloc (.cells #[.int .i64 e.1, .int .i64 e.2] 156)).cell? ((⟨w.heap.size, 0, none⟩ : Addr).add j) = some u' := by
    intro j u' hj
    rw [Addr.add_lit, Nat.zero_add, cell_of_row _ _ j _ _ (0, 0) hnew]
    match j, hj with
    | 0, hj => exact hj
    | 1, hj => exact hj
    | j + 2, hj => simp [letC] at hj
  obtain ⟨v', w', hrun, h2, h3, _, h5⟩ := run_append_own_at (P := Tryz.prog) (w.alloc (.cells #[.int .i64 e.1, .int .i64 e.2] 156)) base 120 o.type 156 i _ 2 16 Tryz.underlying120 hi hz0 hz1 hz2 rfl (by decide) v n xs hown1 ⟨w.heap.size, 0, none⟩ 1 1 (letC e) rfl hnews
    (by intro u' hu'
        rcases List.mem_cons.1 hu' with rfl | hu'
        · rfl
        · rw [List.mem_singleton.1 hu']; rfl) (by unfold maxLen; omega) (by omega) (by simp; omega)
  have hg : w.grownBy w' v.ownBlock := by
    have h0 := World.grownBy_alloc w (.cells #[.int .i64 e.1, .int .i64 e.2] 156) v.ownBlock
    exact ⟨h3.os.trans h0.os, h3.tape.trans h0.tape, h3.output.trans h0.output, Nat.le_trans h0.size h3.size, fun k hk hne => (h3.block k (Nat.lt_of_lt_of_le hk h0.size) hne).trans (h0.block k hk hne)⟩
  have hB : Below base w w' := (Below.refl base w).grown hg hbase (fun k hk => (hown.lt k hk).1)
  unfold Oper.wp execOp
  simp only [ho, resolve, invoke, builtin, Sem.run_bind, Sem.run_pure, Result.andThen_ok, List.map_toArray, List.map_cons, List.map_nil, hs, hx, hrun]
  refine h v' w' h2 hB hg ?_
  rcases h5 with h5 | h5
  · exact .inl h5
  · exact .inr ⟨_, h5, by simp⟩
def okN (aa r : Int) (ls : Ends) : Bool := decide (0 ≤ aa ∧ aa ≤ 1) && (decide (aa ≤ r) && decide (ls.length < 12))
/-- What stands behind an act that was possible: the call's own state y, its headers as before. -/
def Acted (b : Bool) (w : World) (base : Nat) (val : Key → Value) (y : Asy) : Prop := b = true → ∃ val', SameHeads val val' ∧ AsyK w base val' y
theorem Acted.no {w : World} {base : Nat} {val : Key → Value} {y : Asy} {b : Bool} (h : b = false) : Acted b w base val y := fun h' => by rw [h] at h'; cases h'
/-- Node k sends at port p, to port p2 of node k2. -/
def sentA (m : Mach) (x : Asy) (k p k2 p2 : Nat) (aa : Int) : Asy :=
  { x with flight := x.flight.set k2 ((portsAt x k2).set p2 (lettersAt x k2 p2 ++ [(x.rounds.getD k 0 - aa, (m.send.getD (if aa = 1 then x.before.getD k 0 else x.now.getD k 0).toNat []).getD p 0)])) }
theorem ne_row {row : Option Nat} {b : Nat} (h : ∀ g, row = some g → g ≠ b) : some b ≠ row := fun e => h b e.symm rfl
theorem heads_le (val : Key → Value) (k p : Nat) (v : Value) : SameHeads val (upd val (.le k p) v) := ⟨upd_ne _ _ (by simp), upd_ne _ _ (by simp), upd_ne _ _ (by simp), upd_ne _ _ (by simp), upd_ne _ _ (by simp)⟩
end Go.Proofs.YtcpbbjocaimocaaGreat
