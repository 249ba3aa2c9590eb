/-
  Walk problems, the reference's side: products and powers of relations of labels.
-/
import Derived.Test.YtldbljflppjanaaOwnOf
import Derived.Test.YtldbljflppjanaaMay
import Derived.Test.YtldbljflppjanaaBitsW
namespace Go.Proofs.Ytldbljflppjanaa
open Go.RowKit
set_option linter.unusedVariables false
set_option linter.unusedSimpArgs false
section
variable {w w' : World} {base : Nat} {v : Value} {m : Nat} {gs : List Nat} {f : Nat → Nat → Bool}
theorem OwnMat.up (h : OwnMat w base v m gs f) (hb : Below w.heap.size w w') : OwnMat w' base v m gs f :=
  ⟨own_keep4 h.row hb.size fun b _ hl => hb.block b hl, h.nodup, h.ge, fun a g hg => (hb.block g (h.lt (List.mem_of_getElem? hg))).trans (h.blk a g hg)⟩
theorem OwnMat.congr {f' : Nat → Nat → Bool} (h : OwnMat w base v m gs f) (hf : ∀ a, a < gs.length → ∀ b, b < m → f a b = f' a b) : OwnMat w base v m gs f' := by
  refine ⟨h.row, h.nodup, h.ge, fun a g hg => ?_⟩
  rw [h.blk a g hg]
  have hl := (List.getElem?_eq_some_iff.1 hg).1
  unfold bRow
  rw [List.map_congr_left fun b hb => by rw [hf a hl b (List.mem_range.1 hb)]]
/-- .. over a step that turns nothing of it. -/
theorem OwnMat.off {a b : Option Nat} (h : OwnMat w base v m gs f) (hg : G2 w w' a b) (ha : ∀ g, a = some g → g < base) (hb : ∀ g, b = some g → g < base) : OwnMat w' base v m gs f := by
  have hk : ∀ g, base ≤ g → g < w.heap.size → w'.heap[g]? = w.heap[g]? := fun g h1 h2 => hg.block g h2 (fun e => by have := ha g e.symm; omega) (fun e => by have := hb g e.symm; omega)
  exact ⟨own_keep4 h.row hg.size fun b hb hl => hk b hb hl, h.nodup, h.ge, fun a g hg => (hk g (h.ge g (List.mem_of_getElem? hg)) (h.lt (List.mem_of_getElem? hg))).trans (h.blk a g hg)⟩
end
/-- The product of two relations. -/
noncomputable def timesF (n : Nat) (f g : Nat → Nat → Bool) (a b : Nat) : Bool := propB (∃ k, k < n ∧ f a k = true ∧ g k b = true)
/-- A row of the product, where k rows have been seen, and of the next one the first j entries. -/
noncomputable def tRow (g : Nat → Nat → Bool) (fa : Nat → Bool) (k j x : Nat) : Bool := propB ((∃ i, i < k ∧ fa i = true ∧ g i x = true) ∨ (x < j ∧ fa k = true ∧ g k x = true))
theorem tRow_zero (g : Nat → Nat → Bool) (fa : Nat → Bool) (x : Nat) : tRow g fa 0 0 x = false := propB_f (by rintro (⟨i, h, _⟩ | ⟨h, _⟩) <;> omega)
theorem tRow_next (g : Nat → Nat → Bool) (fa : Nat → Bool) (k n x : Nat) (hx : x < n) : tRow g fa k n x = tRow g fa (k + 1) 0 x := by
  refine propB_congr ⟨?_, ?_⟩
  · rintro (⟨i, h1, h2⟩ | ⟨_, h2⟩)
    · exact .inl ⟨i, by omega, h2⟩
    · exact .inl ⟨k, by omega, h2⟩
  · rintro (⟨i, h1, h2⟩ | ⟨h, _⟩)
    · by_cases e : i = k
      · subst e; exact .inr ⟨hx, h2⟩
      · exact .inl ⟨i, by omega, h2⟩
    · omega
theorem tRow_at (g : Nat → Nat → Bool) (fa : Nat → Bool) (k j x : Nat) : tRow g fa k (j + 1) x = if x = j then (tRow g fa k j j || (fa k && g k j)) else tRow g fa k j x := by
  unfold tRow
  split
  · rename_i e
    subst e
    rw [Bool.eq_iff_iff, propB_iff, Bool.or_eq_true, propB_iff, Bool.and_eq_true]
    constructor
    · rintro (h | ⟨_, h⟩)
      · exact .inl (.inl h)
      · exact .inr h
    · rintro ((h | ⟨h, _⟩) | h)
      · exact .inl h
      · omega
      · exact .inr ⟨by omega, h⟩
  · rename_i e
    refine propB_congr ⟨?_, ?_⟩
    · rintro (h | ⟨h1, h2⟩)
      · exact .inl h
      · exact .inr ⟨by omega, h2⟩
    · rintro (h | ⟨h1, h2⟩)
      · exact .inl h
      · exact .inr ⟨by omega, h2⟩
theorem tRow_all (n : Nat) (f g : Nat → Nat → Bool) (a x : Nat) : tRow g (f a) n 0 x = timesF n f g a x := propB_congr ⟨by
  rintro (⟨i, h1, h2⟩ | ⟨h, _⟩)
  · exact ⟨i, h1, h2⟩
  · omega, fun ⟨i, h1, h2⟩ => .inl ⟨i, h1, h2⟩⟩
def rowB (m : Nat) (f : Nat → Bool) : List Bool := (List.range m).map f
theorem rowB_len (m : Nat) (f : Nat → Bool) : (rowB m f).length = m := by simp [rowB]
theorem rowB_at {m x : Nat} {f : Nat → Bool} (h : x < m) : (rowB m f)[x]? = some (f x) := by simp [rowB, h]
theorem rowB_congr {m : Nat} {f f' : Nat → Bool} (h : ∀ x, x < m → f x = f' x) : rowB m f = rowB m f' := List.map_congr_left fun x hx => h x (List.mem_range.1 hx)
theorem rowB_set {m j : Nat} {f f' : Nat → Bool} {b : Bool} (hj : j < m) (h : ∀ x, x < m → f' x = if x = j then b else f x) : (rowB m f).set j b = rowB m f' := by
  apply List.ext_getElem?
  intro x
  rw [List.getElem?_set]
  by_cases hx : x < m
  · rw [rowB_at hx, rowB_at hx, h x hx, rowB_len]
    by_cases e : j = x
    · subst e; simp [hj]
    · rw [if_neg e, if_neg (Ne.symm e)]
  · rw [List.getElem?_eq_none (by rw [rowB_len]; omega), List.getElem?_eq_none (by rw [rowB_len]; omega)]
    split <;> simp_all [rowB_len]
theorem bits_bRow {w : World} {g m : Nat} {f : Nat → Bool} (h : BitsAt w g (rowB m f)) : w.heap[g]? = some (Obj.cells (bRow m f) 4 (0, 0)) := by
  unfold BitsAt rowB at h
  rw [h]
  unfold bRow
  simp
def TiRel (n : Nat) (f g : Nat → Nat → Bool) (w0 : World) (v i : Value) (wr : World) : Prop :=
  ∃ (k : Nat) (gs : List Nat), k ≤ n ∧ i = .int .i64 k ∧ gs.length = k ∧ OwnMat wr w0.heap.size v n gs (timesF n f g) ∧ Below w0.heap.size w0 wr
def TkRel (n : Nat) (g : Nat → Nat → Bool) (fa : Nat → Bool) (w1 : World) (G : Nat) (i : Value) (wr : World) : Prop :=
  ∃ k : Nat, k ≤ n ∧ i = .int .i64 k ∧ BitsAt wr G (rowB n (tRow g fa k 0)) ∧ Below G w1 wr
def TjRel (n : Nat) (g : Nat → Nat → Bool) (fa : Nat → Bool) (k : Nat) (w1 : World) (G : Nat) (i : Value) (wr : World) : Prop :=
  ∃ j : Nat, j ≤ n ∧ i = .int .i64 j ∧ BitsAt wr G (rowB n (tRow g fa k j)) ∧ Below G w1 wr
set_option maxRecDepth 100000 in
set_option maxHeartbeats 1000000 in
theorem spec_waTimes (n : Nat) (va vb : Value) (f g : Nat → Nat → Bool) (w : World) (ha : MatB w w.heap.size va n n f) (hb : MatB w w.heap.size vb n n g) (hn : 1 ≤ n) (hn2 : n ≤ 12) :
    Calls Try.prog 75 #[va, vb] w fun e w' => ∃ v gs, e = .returned v ∧ gs.length = n ∧ OwnMat w' w.heap.size v n gs (timesF n f g) ∧ Below w.heap.size w w' := by
  obtain ⟨ada, ca, rfl, a1, a2, a3⟩ := ha
  obtain ⟨adb, cb, rfl, b1, b2, b3⟩ := hb
  have H3 := Lib.hid a3
  have G3 := Lib.hid b3
  clear a3 b3
  have hmk := fun W => run_make1 (P := Try.prog) 76 4 (.bool false) 1 Try.underlying76 boolInfo rfl n (by omega) (by omega) W
  go_enter Try.func75, Try.ntmps75
  go_wp2_with fail
  go_loopw [5, 14] (fun v i wr => TiRel n f g w v i wr) (fun _ i _ => n - (intOf i).toNat)
  case atStart => exact ⟨0, [], Nat.zero_le _, rfl, rfl, ⟨World.ownsRow_nil _ _ _ _, List.nodup_nil, (fun _ h => by cases h), (fun _ _ h => by simp at h)⟩, Below.refl _ _⟩
  case round =>
    obtain ⟨a, gs, hk, rfl, hgs, hown, hbl⟩ := hrel
    obtain ⟨wq, hwq⟩ : ∃ z, z = wr := ⟨_, rfl⟩
    subst hwq
    have HO := Lib.hid hown
    have hsz := hbl.size
    by_cases hlt : a < n
    · obtain ⟨ad1, c1, k1, k2, k3, k4⟩ := H3.out a hlt
      have krow := (hbl.cell (p := ada.add a) (by rw [block_add]; exact a2)).trans k1
      have hmkw := hmk wq
      clear k1 hown hmk
      go_wp2_with fail
      clear hmkw
      obtain ⟨w1, hw1⟩ : ∃ z, z = wq.alloc (.cells (rowOf [] n (.bool false)) 4) := ⟨_, rfl⟩
      have hb1 : Below wq.heap.size wq w1 := by rw [hw1]; exact bl_alloc (Below.refl _ _) _
      have hN0 : BitsAt w1 wq.heap.size (rowB n (tRow g (f a) 0 0)) := by
        unfold BitsAt
        rw [hw1, heap_alloc_new, rowB_congr (f' := fun _ => false) fun x _ => tRow_zero g (f a) x]
        rw [← bRow_false]
        unfold bRow rowB
        simp
      rw [← hw1]
      clear hw1
      have hst : TkRel n g (f a) w1 wq.heap.size (.int .i64 0) w1 := ⟨0, Nat.zero_le _, rfl, hN0, Below.refl _ _⟩
      have HST := Lib.hid hst
      clear hst hN0
      have hw1z := hb1.size
      go_loopw [23] (fun i wr => TkRel n g (f a) w1 wq.heap.size i wr) (fun i _ => n - (intOf i).toNat)
      case atStart => exact HST.out
      case round =>
        clear HST
        obtain ⟨k, hk2, rfl, hbits, hbl2⟩ := hrel
        have HBI := Lib.hid hbits
        have hb12 := hb1.trans hbl2
        clear hbits
        by_cases hlk : k < n
        · have kis := (((hbl.trans (hb12.mono hsz)).cell (p := ad1.add k) (by rw [block_add]; exact k3))).trans (k4 k hlk)
          obtain ⟨ad2, c2, m1, m2, m3, m4⟩ := G3.out k hlk
          have HM := Lib.hid m4
          have hst : TjRel n g (f a) k wr wq.heap.size (.int .i64 0) wr := ⟨0, Nat.zero_le _, rfl, HBI.out, Below.refl _ _⟩
          have HST := Lib.hid hst
          clear hst m4
          obtain ⟨is, his⟩ : ∃ b, b = f a k := ⟨_, rfl⟩
          rw [← his] at kis
          have HIS := Lib.hid his
          clear his
          go_wp2_with fail
          clear kis
          go_loopw [30] (fun i wr' => TjRel n g (f a) k wr wq.heap.size i wr') (fun i _ => n - (intOf i).toNat)
          case atStart => exact HST.out
          case round =>
            clear HST
            obtain ⟨j, hj, rfl, hbits, hbl3⟩ := hrel
            have HBJ := Lib.hid hbits
            have hfull := hbl.trans ((hb12.trans hbl3).mono hsz)
            clear hbits
            by_cases hlj : j < n
            · have kn := HBJ.out.cell (rowB_at (f := tRow g (f a) k j) hlj)
              have kf := HBJ.out.frozen j
              have kb := (hfull.cell (p := adb.add k) (by rw [block_add]; exact b2)).trans m1
              have kg := (hfull.cell (p := ad2.add j) (by rw [block_add]; exact m3)).trans (HM.out j hlj)
              have HS := Lib.hid (fun b (h : b = (tRow g (f a) k j j || (f a k && g k j))) => rowB_set (m := n) (f := tRow g (f a) k j) (f' := tRow g (f a) k (j + 1)) (b := b) hlj (fun x _ => by rw [h]; exact tRow_at g (f a) k j x))
              rw [← HIS.out] at HS
              generalize tRow g (f a) k j j = old at *
              generalize g k j = gv at *
              cases old with
              | true =>
                have HE := HS.out true (by simp)
                have HE2 := Lib.hid HE
                clear HE
                go_wp2_with fail
                go_roundw
                case rel => exact ⟨j + 1, by omega, by go_num, by rw [← HE2.out]; exact HBJ.out.set j true, hbl3.setCell (Nat.le_refl _) _⟩
                case measure => simp [intOf]; omega
              | false =>
                cases is with
                | false =>
                  have HE2 := Lib.hid (HS.out false (by simp))
                  go_wp2_with fail
                  go_roundw
                  case rel => exact ⟨j + 1, by omega, by go_num, by rw [← HE2.out]; exact HBJ.out.set j false, hbl3.setCell (Nat.le_refl _) _⟩
                  case measure => simp [intOf]; omega
                | true =>
                  have HE2 := Lib.hid (HS.out gv (by simp))
                  go_wp2_with fail
                  go_roundw
                  case rel => exact ⟨j + 1, by omega, by go_num, by rw [← HE2.out]; exact HBJ.out.set j gv, hbl3.setCell (Nat.le_refl _) _⟩
                  case measure => simp [intOf]; omega
            · obtain rfl : j = n := by omega
              have HE := Lib.hid (rowB_congr (m := j) fun x hx => tRow_next g (f a) k j x hx)
              rw [HE.out] at HBJ
              go_wp2_with fail
              go_roundw
              case rel => exact ⟨k + 1, by omega, by go_num, HBJ.out, hbl2.trans hbl3⟩
              case measure => simp [intOf]; omega
        · obtain rfl : k = n := by omega
          have HROW := Lib.hid (bits_bRow (show BitsAt wr wq.heap.size (rowB k (timesF k f g a)) by
            have h := HBI.out
            rw [rowB_congr (f' := timesF k f g a) fun x _ => tRow_all k f g a x] at h
            exact h))
          have hbW := Below.trans (hb1) hbl2
          have HOW := Lib.hid (own_keep4 HO.out.row hbW.size fun b _ hl => hbW.block b hl)
          rw [hgs] at HOW
          have hszw := hbW.size
          have hgl := HBI.out.lt
          go_wp2_with ((at_builtin; refine wpList_append1 wr rfl (.tmp 54) (.tmp 56) 77 rfl w.heap.size 76 _ 24 Try.underlying77 boolsInfo rfl _ _ _ rfl _ rfl rfl HOW.out (by unfold maxLen; omega) (by omega) (by omega) ?_; intro v' w' hown' hbl' hgr' hlt' hob'))
          go_roundw
          case rel => exact ⟨a + 1, gs ++ [wq.heap.size], by omega, by go_num, by rw [List.length_append, hgs]; rfl, HO.out.push hbW (Nat.le_refl _) hgl (by rw [hgs]; exact HROW.out) (by rw [hgs]; exact hown') hgr' hsz, (hbl.trans (hbW.mono hsz)).trans hbl'⟩
          case measure => simp [intOf]; omega
    · obtain rfl : a = n := by omega
      clear hmk hown
      go_wp2_with fail
      go_ret
      exact ⟨_, gs, rfl, hgs, HO.out, hbl⟩
end Go.Proofs.Ytldbljflppjanaa
