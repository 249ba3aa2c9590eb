/-
  Walk problems, the program's side: the shortest closed walk, and the ranks of labels.
-/
import Derived.Test.YtjhljipehnmbnaaGreatCwI8
import Derived.Test.YtjhljipehnmbnaaGreatMay
namespace Go.Proofs.YtjhljipehnmbnaaGreat
open Go.RowKit
set_option linter.unusedVariables false
set_option linter.unusedSimpArgs false
def ShRelW (xss : List (List Int)) (a k0 : Nat) (w0 : World) (kv : Value) (wr : World) : Prop :=
  ∃ k : Nat, 1 ≤ k ∧ k ≤ k0 ∧ kv = .int .i64 k ∧ Below w0.heap.size w0 wr
/-- k0 is the length of the shortest closed walk from a. -/
def Short (xss : List (List Int)) (a k0 : Nat) : Prop := 1 ≤ k0 ∧ wk (hasArc xss) k0 a a ∧ ∀ j, 1 ≤ j → j < k0 → ¬ wk (hasArc xss) j a a
theorem short_of {n : Nat} {xss : List (List Int)} (hg : Good n xss) {a : Nat} (h : mates (hasArc xss) a a) : ∃ k0, Short xss a k0 ∧ k0 ≤ n := by
  obtain ⟨j, h1, h2, h3⟩ := rc_short (fun x y => arc_lt hg) h.1
  obtain ⟨d, h4, h5, h6⟩ := least (fun k => 1 ≤ k ∧ wk (hasArc xss) k a a) j ⟨h1, h3⟩
  exact ⟨d, ⟨h5.1, h5.2, fun i hi hd hw => h6 i hd ⟨hi, hw⟩⟩, by omega⟩
def ShPost (xss : List (List Int)) (a k0 : Nat) (w : World) (e : Ending) (w' : World) : Prop :=
  ∃ v, e = .returned v ∧ w'.ownsRow w.heap.size 3 1 v (wbL xss a a k0).length ((natsI (wbL xss a a k0)).map intV) ∧ Below w.heap.size w w'
set_option maxRecDepth 100000 in
set_option maxHeartbeats 1000000 in
theorem impl_shortestClosed (n : Nat) (v : Value) (xss : List (List Int)) (a k0 : Nat) (w : World) (h : RowsR w w.heap.size v xss) (hg : Good n xss) (ha : a < n) (hs : Short xss a k0) (hk0 : k0 ≤ n) :
    Calls Tryz.prog 26 #[.agg #[.int .i64 (n : Int), v], .int .i64 (a : Int)] w (ShPost xss a k0 w) := by
  have hn := good_n hg
  have HH := Lib.hid h; clear h
  have HG := Lib.hid hg; clear hg
  have HSH := Lib.hid hs; clear hs
  obtain ⟨w0, hw0⟩ : ∃ z, z = w.alloc (.cells #[.int .i64 (n : Int), v] 26) := ⟨_, rfl⟩
  have hb0 : Below w.heap.size w w0 := by rw [hw0]; exact bl_alloc (Below.refl _ _) _
  have hz0 : w0.heap.size = w.heap.size + 1 := by rw [hw0]; simp
  have HB0 := Lib.hid (show w0.heap[w.heap.size]? = some (.cells #[.int .i64 (n : Int), v] 26 (0, 0)) by rw [hw0]; exact heap_alloc_new _ _)
  have HW0 := Lib.hid hw0
  have hzz : w.heap.size < w0.heap.size := by omega
  have h1k := HSH.out.1
  clear hw0 hz0
  go_enter Tryz.func26, Tryz.ntmps26
  go_wp2_with fail
  rw [← HW0.out]
  go_loopw [5] (fun kv wr => ShRelW xss a k0 w0 kv wr) (fun kv _ => (k0 + 1) - (intOf kv).toNat)
  case atStart => exact ⟨1, Nat.le_refl _, h1k, rfl, Below.refl _ _⟩
  case round =>
    obtain ⟨k, hk1, hk, rfl, hbl⟩ := hrel
    have hb0r := bl_trans hb0 hbl
    have HBr := bk HB0 hbl (by omega)
    obtain ⟨b0, b1, bf⟩ := cells2 HBr
    have hkn : (k : Int) ≤ (n : Int) := by omega
    go_wp2_with fail
    refine (impl_walkBetween n v xss a a k wr ((HH.out.below hb0r).more hb0r.size) HG.out ha ha (by omega)).mono ?_
    rintro e w2 ⟨u, rfl, hown, hnil, hb2⟩
    have hb02 := bl_trans hb0r hb2
    have hbl2 := hbl.trans (hb2.mono hbl.size)
    by_cases hw : wk (hasArc xss) k a a
    · have hkk : k = k0 := by
        rcases Nat.lt_or_ge k k0 with h | h
        · exact absurd hw (HSH.out.2.2 k hk1 h)
        · omega
      subst hkk
      have hwl := wb_t hw
      have HO := Lib.hid hown
      rw [hwl, lex_len] at hown
      obtain ⟨go, co, cur, rfl, -⟩ := own_one hown
      clear hown hnil hw hwl
      go_wp2_with fail
      go_ret
      exact ⟨_, rfl, base_own HO.out hb0r.size, hb02⟩
    · obtain rfl := hnil hw
      have hk2 : k < k0 := by
        rcases Nat.lt_or_ge k k0 with h | h
        · exact h
        · exact absurd (by rw [show k = k0 by omega]; exact HSH.out.2.1) hw
      clear hw hown hnil
      go_wp2_with fail
      go_roundw
      case rel => exact ⟨k + 1, by omega, by omega, by go_num, hbl2⟩
      case measure => simp [intOf]; omega
/-! ### Rows of numbers, each in a block of its own, that are written -/
def iRow (m : Nat) (f : Nat → Int) : Array Value := ((List.range m).map fun b => Value.int .i64 (f b)).toArray
theorem iRow_at {m b : Nat} {f : Nat → Int} (h : b < m) : (iRow m f)[b]? = some (.int .i64 (f b)) := by simp [iRow, h]
structure OwnMI (w : World) (base : Nat) (v : Value) (m : Nat) (gs : List Nat) (f : Nat → Nat → Int) : Prop where
  row : w.ownsRow base 28 1 v gs.length (gs.map (rowV m))
  nodup : gs.Nodup
  ge : ∀ g ∈ gs, base ≤ g
  blk : ∀ a g, gs[a]? = some g → w.heap[g]? = some (Obj.cells (iRow m (f a)) 3 (0, 0))
section
variable {w w' : World} {base : Nat} {v : Value} {m : Nat} {gs : List Nat} {f : Nat → Nat → Int}
theorem OwnMI.lt (h : OwnMI w base v m gs f) {g : Nat} (hg : g ∈ gs) : g < w.heap.size := by
  obtain ⟨a, ha⟩ := List.mem_iff_getElem?.1 hg
  have := h.blk a g ha
  rcases Nat.lt_or_ge g w.heap.size with k | k
  · exact k
  · rw [Array.getElem?_eq_none k] at this; cases this
theorem OwnMI.far (h : OwnMI w base v m gs f) {g : Nat} (hg : g ∈ gs) : v.ownBlock ≠ some g := by
  obtain ⟨a, ha⟩ := List.mem_iff_getElem?.1 hg
  have hb := h.blk a g ha
  rcases h.row.2 with ⟨rfl, _⟩ | ⟨g', cap, cur, rfl, _, hh, _⟩
  · simp [Value.ownBlock]
  · intro e
    have : g' = g := by simpa [Value.ownBlock] using e
    subst this
    rw [hh] at hb
    injection hb with hb
    injection hb with _ ht
    exact absurd ht (by decide)
theorem OwnMI.up (h : OwnMI w base v m gs f) (hb : Below w.heap.size w w') : OwnMI w' base v m gs f :=
  ⟨own_keep4 h.row hb.size fun b _ hl => hb.block b hl, h.nodup, h.ge, fun a g hg => (hb.block g (h.lt (List.mem_of_getElem? hg))).trans (h.blk a g hg)⟩
theorem OwnMI.congr {f' : Nat → Nat → Int} (h : OwnMI w base v m gs f) (hf : ∀ a, a < gs.length → ∀ b, b < m → f a b = f' a b) : OwnMI w base v m gs f' := by
  refine ⟨h.row, h.nodup, h.ge, fun a g hg => ?_⟩
  rw [h.blk a g hg]
  have hl := (List.getElem?_eq_some_iff.1 hg).1
  unfold iRow
  rw [List.map_congr_left fun b hb => by rw [hf a hl b (List.mem_range.1 hb)]]
/-- A store of one number. -/
theorem OwnMI.store (h : OwnMI w base v m gs f) {x y g : Nat} (hg : gs[x]? = some g) (hy : y < m) (b : Int) :
    OwnMI (w.setCell ⟨g, y, none⟩ (.int .i64 b)) base v m gs (fun a c => if a = x ∧ c = y then b else f a c) := by
  have hm := List.mem_of_getElem? hg
  refine ⟨?_, h.nodup, h.ge, fun a g' hg' => ?_⟩
  · exact h.row.kept (row := some g) ⟨rfl, rfl, rfl, by simp [World.setCell], fun k hk hne => Below.heap_setCell _ _ _ _ (fun e => hne (by simp at e; rw [e]))⟩ (.inr (h.far hm))
  · by_cases e : a = x
    · subst e
      rw [hg] at hg'; cases hg'
      rw [heap_set_same (h.blk a g hg)]
      congr 2
      apply Array.ext_getElem?
      intro j
      rw [Array.getElem?_setIfInBounds]
      by_cases hj : j < m
      · rw [iRow_at hj, iRow_at hj]
        by_cases e2 : y = j
        · subst e2
          have : y < (iRow m (f a)).size := by simp [iRow, hj]
          simp [this]
        · rw [if_neg e2]
          simp [Ne.symm e2]
      · have z1 : (iRow m (f a)).size = m := by simp [iRow]
        have z2 : (iRow m fun c => if a = a ∧ c = y then b else f a c).size = m := by simp [iRow]
        rw [Array.getElem?_eq_none (by omega), if_neg (by omega), Array.getElem?_eq_none (by omega)]
    · have hne : g' ≠ g := by
        intro e2
        subst e2
        have h1 := (List.getElem?_eq_some_iff.1 hg').1
        have h2 := (List.getElem?_eq_some_iff.1 hg).1
        exact e ((List.getElem?_inj h1 h.nodup).1 (hg'.trans hg.symm))
      rw [Below.heap_setCell _ _ _ _ (by simpa using hne), h.blk a g' hg']
      congr 2
      simp [iRow, e]
/-- A row more. -/
theorem OwnMI.push {w1 : World} {v' : Value} {g : Nat} (h : OwnMI w base v m gs f) (hb : Below w.heap.size w w1) (hg : w.heap.size ≤ g) (hg1 : g < w1.heap.size)
    (hnew : w1.heap[g]? = some (Obj.cells (iRow m (f gs.length)) 3 (0, 0))) (hrow : w'.ownsRow base 28 1 v' (gs.length + 1) (gs.map (rowV m) ++ [rowV m g])) (hgr : w1.grownBy w' v.ownBlock) (hbase : base ≤ w.heap.size) :
    OwnMI w' base v' m (gs ++ [g]) f := by
  have hv : ∀ k, w.heap.size ≤ k → v.ownBlock ≠ some k := fun k hk e => by have := (h.row.lt k e).2; omega
  refine ⟨by simpa using hrow, ?_, ?_, ?_⟩
  · rw [List.nodup_append]
    exact ⟨h.nodup, by simp, fun a ha b hb' => by have := h.lt ha; simp at hb'; omega⟩
  · intro x hx
    rcases List.mem_append.1 hx with hx | hx
    · exact h.ge x hx
    · simp at hx; omega
  · intro a x hx
    by_cases ha : a < gs.length
    · rw [List.getElem?_append_left ha] at hx
      have hlt := h.lt (List.mem_of_getElem? hx)
      rw [hgr.block x (by have := hb.size; omega) (fun e => h.far (List.mem_of_getElem? hx) e.symm), hb.block x hlt]
      exact h.blk a x hx
    · rw [List.getElem?_append_right (by omega)] at hx
      have ha' : a = gs.length := by
        have := (List.getElem?_eq_some_iff.1 hx).1
        simp at this; omega
      subst ha'
      simp at hx
      subst hx
      rw [hgr.block g hg1 (fun e => hv g hg e.symm)]
      exact hnew
/-- As a value of rows, each block once. -/
theorem OwnMI.rows (h : OwnMI w base v m gs f) (hm : m ≤ 1000) (hf : ∀ a, a < gs.length → ∀ b, b < m → I64 (f a b)) :
    ∃ bs, OwnRows w 28 3 v ((List.range gs.length).map fun a => (List.range m).map (f a)) bs ∧ bs.Nodup ∧ ∀ b ∈ bs, base ≤ b ∧ b < w.heap.size := by
  obtain ⟨b0, h1, h2, h3⟩ := OwnRow.of_owns h.row
  have hall : ∀ k, k ≤ gs.length → OwnAll w 3 ((gs.take k).map (rowV m)) ((List.range k).map fun a => (List.range m).map (f a)) (gs.take k) := by
    intro k
    induction k with
    | zero => intro _; exact rfl
    | succ k ih =>
      intro hk
      obtain ⟨g, hg⟩ : ∃ g, gs[k]? = some g := ⟨gs[k], List.getElem?_eq_getElem (by omega)⟩
      have e : gs.take (k + 1) = gs.take k ++ [g] := by
        obtain ⟨hk', e⟩ := List.getElem?_eq_some_iff.1 hg
        rw [List.take_succ_eq_append_getElem hk', e]
      rw [e, List.map_append, List.range_succ, List.map_append]
      refine OwnAll.snoc (v := rowV m g) (b := [g]) ⟨?_, ?_⟩ (ih (by omega))
      · have hb := h.blk k g hg
        refine .inr ⟨g, m, _, by unfold rowV; simp, by simp, by unfold maxLen; omega, hb, by simp [iRow], ?_, rfl⟩
        rw [List.length_map, List.length_map, List.length_range, List.take_of_length_le (by simp [iRow])]
        simp [iRow, intV]
      · intro x hx
        obtain ⟨b, hb, rfl⟩ := List.mem_map.1 hx
        exact hf k (by omega) b (List.mem_range.1 hb)
  have ha := hall gs.length (Nat.le_refl _)
  rw [List.take_of_length_le (Nat.le_refl _)] at ha
  refine ⟨b0 ++ gs, ⟨_, b0, gs, h1, ha, rfl⟩, ?_, ?_⟩
  · rw [List.nodup_append]
    refine ⟨h3, h.nodup, fun x hx y hy e => ?_⟩
    subst e
    rcases h1 with ⟨_, rfl, _⟩ | ⟨g, c, cur, rfl, _, _, _, _, _, rfl⟩
    · cases hx
    · have : x = g := by simpa using hx
      subst this
      exact h.far hy rfl
  · intro b hb
    rcases List.mem_append.1 hb with hb | hb
    · exact ⟨h2 b hb, h1.lt b hb⟩
    · exact ⟨h.ge b hb, h.lt hb⟩
end
end Go.Proofs.YtjhljipehnmbnaaGreat
