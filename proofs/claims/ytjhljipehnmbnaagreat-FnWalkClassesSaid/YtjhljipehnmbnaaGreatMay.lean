/-
  The reference's relation of arcs (waMay), walks (waWalk), loops (waLoop), closed walks (waRound) and greatest common divisors (waGcd), for every good walk problem.
-/
import Derived.Test.YtjhljipehnmbnaaGreatRows
import Derived.Test.YtjhljipehnmbnaaGreatKit
import Derived.Test.YtjhljipehnmbnaaGreatMem
import Derived.Test.YtjhljipehnmbnaaGreatOwn
import Derived.Test.YtjhljipehnmbnaaGreatArgs
import Derived.Test.YtjhljipehnmbnaaGreatLists
import Derived.Test.YtjhljipehnmbnaaGreatGood
import Derived.Test.YtjhljipehnmbnaaGreatSmallA
import Derived.Test.YtjhljipehnmbnaaGreatAfter
import Derived.Test.YtjhljipehnmbnaaGreatClosed
import Derived.WalkKit
import Derived.WalkSpells
import Derived.WalkLawsBesides
import Derived.Lib.Hide
import Derived.Deep.QuietTactic
import Derived.BigQuiet
namespace Go.Proofs.YtjhljipehnmbnaaGreat
open Go.RowKit
set_option linter.unusedVariables false

/-- A matrix of bools: n rows of m each, below block B. -/
def MatB (w : World) (B : Nat) (v : Value) (n m : Nat) (f : Nat → Nat → Bool) : Prop :=
  ∃ ad c, v = .slice (some ad) n c ∧ n ≤ c ∧ ad.block < B ∧ ∀ a, a < n → ∃ ad' c', w.cell? (ad.add a) = some (.slice (some ad') m c') ∧ m ≤ c' ∧ ad'.block < B ∧ ∀ b, b < m → w.cell? (ad'.add b) = some (.bool (f a b))
theorem MatB.below {w w' : World} {B : Nat} {v : Value} {n m : Nat} {f : Nat → Nat → Bool} (h : MatB w B v n m f) (hb : Below B w w') : MatB w' B v n m f := by
  obtain ⟨ad, c, e, h1, h2, h3⟩ := h
  refine ⟨ad, c, e, h1, h2, fun a ha => ?_⟩
  obtain ⟨ad', c', g1, g2, g3, g4⟩ := h3 a ha
  exact ⟨ad', c', (hb.cell (p := ad.add a) (by rw [block_add]; exact h2)).trans g1, g2, g3, fun b hb' => (hb.cell (p := ad'.add b) (by rw [block_add]; exact g3)).trans (g4 b hb')⟩
theorem MatB.more {w : World} {B B' : Nat} {v : Value} {n m : Nat} {f : Nat → Nat → Bool} (h : MatB w B v n m f) (hB : B ≤ B') : MatB w B' v n m f := by
  obtain ⟨ad, c, e, h1, h2, h3⟩ := h
  refine ⟨ad, c, e, h1, by omega, fun a ha => ?_⟩
  obtain ⟨ad', c', g1, g2, g3, g4⟩ := h3 a ha
  exact ⟨ad', c', g1, g2, by omega, g4⟩
theorem boolInfo : (Tryz.prog.info? 4).map (fun i => (i.zero, i.size, i.bytes)) = some (some (.bool false), 1, 1) := by kernel_rfl
theorem boolsInfo : (Tryz.prog.info? 86).map (fun i => (i.zero, i.size, i.bytes)) = some (some (.slice none 0 0), 1, 24) := by kernel_rfl
/-- The call's own matrix: the outer row, and row a in block gs[a]. -/
def rowV (m : Nat) (g : Nat) : Value := .slice (some ⟨g, 0, none⟩) m m
def bRow (m : Nat) (f : Nat → Bool) : Array Value := ((List.range m).map fun b => Value.bool (f b)).toArray
structure OwnMat (w : World) (base : Nat) (v : Value) (m : Nat) (gs : List Nat) (f : Nat → Nat → Bool) : Prop where
  row : w.ownsRow base 86 1 v gs.length (gs.map (rowV m))
  nodup : gs.Nodup
  ge : ∀ g ∈ gs, base ≤ g
  blk : ∀ a g, gs[a]? = some g → w.heap[g]? = some (Obj.cells (bRow m (f a)) 4 (0, 0))
theorem bRow_at {m b : Nat} {f : Nat → Bool} (h : b < m) : (bRow m f)[b]? = some (.bool (f b)) := by simp [bRow, h]
theorem OwnMat.lt {w : World} {base : Nat} {v : Value} {m : Nat} {gs : List Nat} {f : Nat → Nat → Bool} (h : OwnMat w base v m gs f) {g : Nat} (hg : g ∈ gs) : g < w.heap.size := by
  obtain ⟨a, ha⟩ := List.mem_iff_getElem?.1 hg
  have := h.blk a g ha
  rcases Nat.lt_or_ge g w.heap.size with k | k
  · exact k
  · rw [Array.getElem?_eq_none k] at this; cases this
theorem OwnMat.far {w : World} {base : Nat} {v : Value} {m : Nat} {gs : List Nat} {f : Nat → Nat → Bool} (h : OwnMat w base v m gs f) {g : Nat} (hg : g ∈ gs) : v.ownBlock ≠ some g := by
  obtain ⟨a, ha⟩ := List.mem_iff_getElem?.1 hg
  have hb := h.blk a g ha
  rcases h.row.2 with ⟨rfl, _⟩ | ⟨g', cap, cur, rfl, _, hh, _⟩
  · simp [Value.ownBlock]
  · intro e
    have : g' = g := by simpa [Value.ownBlock] using e
    subst this
    rw [hh] at hb
    injection hb with hb
    injection hb with _ ht
    exact absurd ht (by decide)
theorem OwnMat.reads {w : World} {base : Nat} {v : Value} {m : Nat} {gs : List Nat} {f : Nat → Nat → Bool} (h : OwnMat w base v m gs f) (hn : 0 < gs.length) : MatB w w.heap.size v gs.length m f := by
  obtain ⟨g, cap, rfl, h1, h2, h3, h4⟩ := own_some h.row hn
  refine ⟨⟨g, 0, none⟩, cap, rfl, h1, h4, fun a ha => ?_⟩
  have hga : gs[a]? = some gs[a] := List.getElem?_eq_getElem ha
  refine ⟨⟨gs[a], 0, none⟩, m, ?_, Nat.le_refl _, h.lt (List.getElem_mem ha), fun b hb => ?_⟩
  · exact h.row.cells (g := g) rfl a _ (by rw [List.getElem?_map, hga]; rfl)
  · have e1 : (⟨gs[a], 0, none⟩ : Addr).add b = ⟨gs[a], b, none⟩ := by unfold Addr.add; split <;> simp_all
    rw [e1, cell_of_row w _ b _ _ (0, 0) (h.blk a _ hga), bRow_at hb]
/-- A store of one bool. -/
theorem OwnMat.store {w : World} {base : Nat} {v : Value} {m : Nat} {gs : List Nat} {f : Nat → Nat → Bool} (h : OwnMat w base v m gs f) {x y g : Nat} (hg : gs[x]? = some g) (hy : y < m) (b : Bool) :
    OwnMat (w.setCell ⟨g, y, none⟩ (.bool b)) base v m gs (fun a c => if a = x ∧ c = y then b else f a c) := by
  have hm := List.mem_of_getElem? hg
  refine ⟨?_, h.nodup, h.ge, fun a g' hg' => ?_⟩
  · refine h.row.kept (row := some g) ⟨rfl, rfl, rfl, by simp [World.setCell], fun k hk hne => Below.heap_setCell _ _ _ _ (fun e => hne (by simp at e; rw [e]))⟩ (.inr (h.far hm))
  · by_cases e : a = x
    · subst e
      rw [hg] at hg'; cases hg'
      rw [heap_set_same (h.blk a g hg)]
      congr 2
      apply Array.ext_getElem?
      intro j
      rw [Array.getElem?_setIfInBounds]
      by_cases hj : j < m
      · rw [bRow_at hj, bRow_at hj]
        by_cases e2 : y = j
        · subst e2
          have : y < (bRow m (f a)).size := by simp [bRow, hj]
          simp [this]
        · rw [if_neg e2]
          simp [Ne.symm e2]
      · have z1 : (bRow m (f a)).size = m := by simp [bRow]
        have z2 : (bRow m fun c => if a = a ∧ c = y then b else f a c).size = m := by simp [bRow]
        rw [Array.getElem?_eq_none (by omega), if_neg (by omega), Array.getElem?_eq_none (by omega)]
    · have hne : g' ≠ g := by
        intro e2
        subst e2
        have h1 := (List.getElem?_eq_some_iff.1 hg').1
        have h2 := (List.getElem?_eq_some_iff.1 hg).1
        exact e ((List.getElem?_inj h1 h.nodup).1 (hg'.trans hg.symm))
      rw [Below.heap_setCell _ _ _ _ (by simpa using hne), h.blk a g' hg']
      congr 2
      simp [bRow, e]
theorem bRow_false (m : Nat) : bRow m (fun _ => false) = rowOf [] m (.bool false) := by
  apply Array.ext_getElem?
  intro j
  by_cases hj : j < m
  · rw [bRow_at hj]; simp [rowOf, hj]
  · rw [Array.getElem?_eq_none (by simp [bRow]; omega), Array.getElem?_eq_none (by simp [rowOf]; omega)]
/-- A row more. -/
theorem OwnMat.push {w w1 w' : World} {base : Nat} {v v' : Value} {m : Nat} {gs : List Nat} {f : Nat → Nat → Bool} {g : Nat} (h : OwnMat w base v m gs f) (hb : Below w.heap.size w w1) (hg : w.heap.size ≤ g) (hg1 : g < w1.heap.size)
    (hnew : w1.heap[g]? = some (Obj.cells (bRow m (f gs.length)) 4 (0, 0))) (hrow : w'.ownsRow base 86 1 v' (gs.length + 1) (gs.map (rowV m) ++ [rowV m g])) (hgr : w1.grownBy w' v.ownBlock) (hbase : base ≤ w.heap.size) :
    OwnMat w' base v' m (gs ++ [g]) f := by
  have hv : ∀ k, w.heap.size ≤ k → v.ownBlock ≠ some k := fun k hk e => by have := (h.row.lt k e).2; omega
  refine ⟨by simpa using hrow, ?_, ?_, ?_⟩
  · rw [List.nodup_append]
    exact ⟨h.nodup, by simp, fun a ha b hb' => by have := h.lt ha; simp at hb'; omega⟩
  · intro x hx
    rcases List.mem_append.1 hx with hx | hx
    · exact h.ge x hx
    · simp at hx; omega
  · intro a x hx
    by_cases ha : a < gs.length
    · rw [List.getElem?_append_left ha] at hx
      have hlt := h.lt (List.mem_of_getElem? hx)
      rw [hgr.block x (by have := hb.size; omega) (fun e => h.far (List.mem_of_getElem? hx) e.symm), hb.block x hlt]
      exact h.blk a x hx
    · rw [List.getElem?_append_right (by omega)] at hx
      have ha' : a = gs.length := by
        have := (List.getElem?_eq_some_iff.1 hx).1
        simp at this; omega
      subst ha'
      simp at hx
      subst hx
      rw [hgr.block g hg1 (fun e => hv g hg e.symm)]
      exact hnew
noncomputable def mayF (xss : List (List Int)) (a b : Nat) : Bool := propB (hasArc xss a b)
def May1 (n : Nat) (w0 : World) (base : Nat) (v i : Value) (wr : World) : Prop :=
  ∃ (k : Nat) (gs : List Nat), k ≤ n ∧ i = .int .i64 k ∧ gs.length = k ∧ OwnMat wr base v n gs (fun _ _ => false) ∧ Below base w0 wr
def May2 (n : Nat) (xss : List (List Int)) (w0 : World) (base : Nat) (v i : Value) (wr : World) : Prop :=
  ∃ (k : Nat) (gs : List Nat), k ≤ xss.length ∧ i = .int .i64 k ∧ gs.length = n ∧ OwnMat wr base v n gs (mayF (xss.take k)) ∧ Below base w0 wr
theorem OwnMat.base_ {w : World} {base B : Nat} {v : Value} {m : Nat} {gs : List Nat} {f : Nat → Nat → Bool} (h : OwnMat w base v m gs f) (hB : B ≤ base) : OwnMat w B v m gs f := by
  refine ⟨⟨h.row.1, ?_⟩, h.nodup, fun g hg => by have := h.ge g hg; omega, h.blk⟩
  rcases h.row.2 with h2 | ⟨g, cap, cur, h1, h2, h3⟩
  · exact .inl h2
  · exact .inr ⟨g, cap, cur, h1, by omega, h3⟩
theorem spec_waMayO (n : Nat) (v : Value) (xss : List (List Int)) (w : World) (h : RowsR w w.heap.size v xss) (hg : Good n xss) :
    Calls Tryz.prog 68 #[.agg #[.int .i64 (n : Int), v]] w fun e w' => ∃ v' gs, e = .returned v' ∧ gs.length = n ∧ OwnMat w' w.heap.size v' n gs (mayF xss) ∧ Below w.heap.size w w' := by
  have hn : (1 : Int) ≤ n ∧ (n : Int) ≤ 12 := by have := hg.1; unfold inB at this; simpa using this
  have HS := Lib.hid hg.small
  have HG := Lib.hid hg.2
  obtain ⟨A, c, rfl, h1, h2, h3⟩ := h.open_
  unfold maxLen at h2
  clear h hg
  have H3 := Lib.hid h3; clear h3
  have hmk := fun W => run_make1 (P := Tryz.prog) 86 4 (.bool false) 1 Tryz.underlying86 boolInfo rfl n (by omega) (by omega) W
  have hw0 : Below w.heap.size w (w.alloc (.cells #[.int .i64 (n : Int), .slice A xss.length c] 26)) := bl_alloc (Below.refl _ _) _
  have hw1 : (w.alloc (.cells #[.int .i64 (n : Int), .slice A xss.length c] 26)).heap.size = w.heap.size + 1 := by simp
  have hc0 : (w.alloc (.cells #[.int .i64 (n : Int), .slice A xss.length c] 26)).cell? ⟨w.heap.size, 0, none⟩ = some (.int .i64 (n : Int)) := by rw [World.cell?_alloc_at _ _ _ _ rfl]; rfl
  have hc1 : (w.alloc (.cells #[.int .i64 (n : Int), .slice A xss.length c] 26)).cell? ⟨w.heap.size, 1, none⟩ = some (.slice A xss.length c) := by rw [World.cell?_alloc_at _ _ _ _ rfl]; rfl
  have HW0 := Lib.hid hw0; clear hw0
  have HW1 := Lib.hid hw1; clear hw1
  have HC0 := Lib.hid hc0; clear hc0
  have HC1 := Lib.hid hc1; clear hc1
  go_enter Tryz.func68, Tryz.ntmps68
  go_wp2_with fail
  generalize w.alloc (.cells #[.int .i64 (n : Int), .slice A xss.length c] 26) = w0 at *
  go_loopw [3, 4] (fun v i wr => May1 n w0 (w.heap.size + 1) v i wr) (fun _ i _ => n - (intOf i).toNat)
  case atStart => exact ⟨0, [], Nat.zero_le _, rfl, rfl, ⟨World.ownsRow_nil _ _ _ _, List.nodup_nil, (fun _ h => by cases h), (fun _ _ h => by simp at h)⟩, Below.refl _ _⟩
  case round =>
    obtain ⟨k, gs, hk, rfl, hgs, hown, hbl⟩ := hrel
    have hx0 : wr.cell? ⟨w.heap.size, 0, none⟩ = some (.int .i64 (n : Int)) := (hbl.cell (p := ⟨w.heap.size, 0, none⟩) (by show w.heap.size < w.heap.size + 1; omega)).trans HC0.out
    have hsz : w.heap.size + 1 ≤ wr.heap.size := by have := hbl.size; rw [HW1.out] at this; exact this
    have HO := Lib.hid hown; clear hown
    by_cases hlt : k < n
    · have hown1 : (wr.alloc (.cells (rowOf [] n (.bool false)) 4)).ownsRow (w.heap.size + 1) 86 1 u3 k (gs.map (rowV n)) := by
        have := HO.out.row.alloc (.cells (rowOf [] n (.bool false)) 4)
        rwa [hgs] at this
      go_wp2_with ((at_builtin; refine wpList_append1 (wr.alloc (.cells (rowOf [] n (.bool false)) 4)) rfl (.tmp 13) (.tmp 17) 87 rfl (w.heap.size + 1) 86 _ 24 Tryz.underlying87 boolsInfo rfl _ _ _ rfl _ rfl (by rw [show (wr.alloc (.cells (rowOf [] n (.bool false)) 4)).heap.size = wr.heap.size + 1 by simp]; rfl) hown1 (by unfold maxLen; omega) (by omega) (by simp; omega) ?_; intro v' w' hown' hbl' hgr' hlt' hob'))
      go_roundw
      case rel =>
        refine ⟨k + 1, gs ++ [wr.heap.size], by omega, by go_num, by simp [hgs], ?_, ?_⟩
        · refine HO.out.push (w1 := wr.alloc (.cells (rowOf [] n (.bool false)) 4)) (bl_alloc (Below.refl _ _) _) (Nat.le_refl _) (by simp) ?_ ?_ hgr' hsz
          · rw [bRow_false]; exact heap_alloc_new _ _
          · rw [hgs]; exact hown'
        · exact (hbl.alloc (by omega) _).trans hbl'
      case measure => simp [intOf]; omega
    · have hx1 : wr.cell? ⟨w.heap.size, 1, none⟩ = some (.slice A xss.length c) := (hbl.cell (p := ⟨w.heap.size, 1, none⟩) (by show w.heap.size < w.heap.size + 1; omega)).trans HC1.out
      have hfin : May2 n xss w0 (w.heap.size + 1) u3 (.int .i64 0) wr := ⟨0, gs, Nat.zero_le _, rfl, by omega, by
        have := HO.out
        have e : (fun _ _ => false : Nat → Nat → Bool) = mayF (xss.take 0) := by
          funext a b
          exact (propB_f (by simp [hasArc])).symm
        rwa [e] at this, hbl⟩
      have HF := Lib.hid hfin; clear hfin hgs
      clear hmk
      have hwr0 : w.heap.size + 1 ≤ wr.heap.size := hsz
      go_wp2_with fail
      clear hx1 hbl hsz hx0
      go_loopw [6, 22] (fun _ i wr => May2 n xss w0 (w.heap.size + 1) u3 i wr) (fun _ i _ => xss.length - (intOf i).toNat)
      case atStart => exact HF.out
      case round =>
        obtain ⟨k2, gs2, hk2, rfl, hgs2, hown, hbl⟩ := hrel
        have hb0 : Below w.heap.size w wr := HW0.out.trans (hbl.mono (by omega))
        have HO2 := Lib.hid hown; clear hown
        by_cases hlt2 : k2 < xss.length
        · obtain ⟨xs, hx⟩ : ∃ x, xss[k2]? = some x := ⟨xss[k2], List.getElem?_eq_getElem hlt2⟩
          obtain ⟨x, y, rfl, hx1, hy1⟩ := small_pair (HS.out xs (List.mem_of_getElem? hx))
          obtain ⟨ad, rfl, hb, hc⟩ := H3.out (by omega)
          obtain ⟨u, hu, hr⟩ := hc k2 _ hx
          have hcell : wr.cell? (ad.add k2) = some u := (hb0.cell (p := ad.add k2) (by rw [block_add]; exact hb)).trans hu
          obtain ⟨A1, c1, rfl, g1, g2, g3⟩ := (hr.below hb0).open_
          obtain ⟨ad1, rfl, hb1, hc1⟩ := g3 (by simp)
          have k0 := hc1 0 _ rfl
          have k1 := hc1 1 _ rfl
          have e0 : ad1.add 0 = ad1 := by unfold Addr.add; simp
          have e1 : ad1.add 1 = ⟨ad1.block, ad1.off + 1, none⟩ := by unfold Addr.add; simp
          rw [e0] at k0
          rw [e1] at k1
          clear hc hr hu g3 hc1 e0 e1
          have hxy : x < n ∧ y < n := by
            obtain ⟨xs', e, _, h4, _⟩ := HG.out k2 hlt2
            rw [hx] at e; cases e
            have h5 := allB_iff.1 h4
            have h6 := h5 x (by simp)
            have h7 := h5 y (by simp)
            omega
          obtain ⟨hxn, hyn⟩ := hxy
          obtain ⟨go, cap, rfl, g4, g5, g6, g7⟩ := own_some HO2.out.row (by omega)
          rw [hgs2] at g4 ⊢
          obtain ⟨g, hg⟩ : ∃ g, gs2[x]? = some g := ⟨gs2[x]'(by omega), List.getElem?_eq_getElem (by omega)⟩
          have hrow : wr.cell? ⟨go, x, none⟩ = some (.slice (some ⟨g, 0, none⟩) n n) := by
            have := HO2.out.row.cells (g := go) rfl x _ (by rw [List.getElem?_map, hg]; rfl)
            have e1 : (⟨go, 0, none⟩ : Addr).add x = ⟨go, x, none⟩ := by unfold Addr.add; split <;> simp_all
            rwa [e1] at this
          have hgc : wr.cell? ⟨g, y, none⟩ = some (.bool (mayF (xss.take k2) x y)) := by rw [cell_of_row wr g y _ _ (0, 0) (HO2.out.blk x g hg), bRow_at hyn]
          have hgf : wr.frozen? ⟨g, y, none⟩ = false := by simp [World.frozen?, HO2.out.blk x g hg]
          have HN := Lib.hid (show (fun a b => if a = x ∧ b = y then true else mayF (xss.take k2) a b) = mayF (xss.take (k2 + 1)) by
            obtain ⟨hk', e⟩ := List.getElem?_eq_some_iff.1 hx
            funext a b
            rw [List.take_succ_eq_append_getElem hk', e]
            unfold mayF hasArc
            by_cases q : a = x ∧ b = y
            · rw [if_pos q]
              exact (propB_t (by obtain ⟨rfl, rfl⟩ := q; simp)).symm
            · rw [if_neg q]
              refine propB_congr ⟨fun h => List.mem_append_left _ h, fun h => ?_⟩
              rcases List.mem_append.1 h with h | h
              · exact h
              · exfalso; apply q; simp at h; omega)
          have GG := Lib.hid hg
          clear hx hg
          generalize mayF (xss.take k2) x y = old at *
          go_wp2_with fail
          go_region
          all_goals
            go_wp2_with fail
            go_roundw
            case rel =>
              refine ⟨k2 + 1, gs2, by omega, by go_num, hgs2, ?_, ?_⟩
              · rw [← HN.out]
                have := HO2.out.store GG.out hyn true
                rw [hgs2] at this
                exact ⟨this.row, this.nodup, this.ge, this.blk⟩
              · exact (hbl.setCell (HO2.out.ge g (List.mem_of_getElem? GG.out)) _).drew
            case measure => simp [intOf]; omega
        · have e1 : xss.take k2 = xss := List.take_of_length_le (by omega)
          rw [e1] at HO2
          clear e1
          go_wp2_with fail
          go_ret
          exact ⟨_, gs2, rfl, hgs2, HO2.out.base_ (by omega), hb0⟩
theorem spec_waMay (n : Nat) (v : Value) (xss : List (List Int)) (w : World) (h : RowsR w w.heap.size v xss) (hg : Good n xss) :
    Calls Tryz.prog 68 #[.agg #[.int .i64 (n : Int), v]] w fun e w' => ∃ v', e = .returned v' ∧ MatB w' w'.heap.size v' n n (mayF xss) ∧ Below w.heap.size w w' := by
  have hn : 1 ≤ n := by have := hg.1; unfold inB at this; simp at this; omega
  refine (spec_waMayO n v xss w h hg).mono ?_
  rintro e w' ⟨v', gs, rfl, hl, ho, hb⟩
  have := ho.reads (by omega)
  rw [hl] at this
  exact ⟨v', rfl, this, hb⟩
end Go.Proofs.YtjhljipehnmbnaaGreat
