/-
  Walk problems, the reference's side: products and powers of relations of labels.
  Walk problems, the reference's side: powers of the relation of arcs.
-/
import Derived.Test.YtjhljipehnmbnaaGreatOwnOf
import Derived.Test.YtjhljipehnmbnaaGreatMay
import Derived.Test.YtjhljipehnmbnaaGreatBitsW
import Derived.Test.YtjhljipehnmbnaaGreatOnlyB
namespace Go.Proofs.YtjhljipehnmbnaaGreat
section
open Go.RowKit
set_option linter.unusedVariables false
set_option linter.unusedSimpArgs false
section
variable {w w' : World} {base : Nat} {v : Value} {m : Nat} {gs : List Nat} {f : Nat → Nat → Bool}
theorem OwnMat.up (h : OwnMat w base v m gs f) (hb : Below w.heap.size w w') : OwnMat w' base v m gs f :=
  ⟨own_keep4 h.row hb.size fun b _ hl => hb.block b hl, h.nodup, h.ge, fun a g hg => (hb.block g (h.lt (List.mem_of_getElem? hg))).trans (h.blk a g hg)⟩
theorem OwnMat.congr {f' : Nat → Nat → Bool} (h : OwnMat w base v m gs f) (hf : ∀ a, a < gs.length → ∀ b, b < m → f a b = f' a b) : OwnMat w base v m gs f' := by
  refine ⟨h.row, h.nodup, h.ge, fun a g hg => ?_⟩
  rw [h.blk a g hg]
  have hl := (List.getElem?_eq_some_iff.1 hg).1
  unfold bRow
  rw [List.map_congr_left fun b hb => by rw [hf a hl b (List.mem_range.1 hb)]]
/-- .. over a step that turns nothing of it. -/
theorem OwnMat.off {a b : Option Nat} (h : OwnMat w base v m gs f) (hg : G2 w w' a b) (ha : ∀ g, a = some g → g < base) (hb : ∀ g, b = some g → g < base) : OwnMat w' base v m gs f := by
  have hk : ∀ g, base ≤ g → g < w.heap.size → w'.heap[g]? = w.heap[g]? := fun g h1 h2 => hg.block g h2 (fun e => by have := ha g e.symm; omega) (fun e => by have := hb g e.symm; omega)
  exact ⟨own_keep4 h.row hg.size fun b hb hl => hk b hb hl, h.nodup, h.ge, fun a g hg => (hk g (h.ge g (List.mem_of_getElem? hg)) (h.lt (List.mem_of_getElem? hg))).trans (h.blk a g hg)⟩
end
/-- The product of two relations. -/
noncomputable def timesF (n : Nat) (f g : Nat → Nat → Bool) (a b : Nat) : Bool := propB (∃ k, k < n ∧ f a k = true ∧ g k b = true)
/-- A row of the product, where k rows have been seen, and of the next one the first j entries. -/
noncomputable def tRow (g : Nat → Nat → Bool) (fa : Nat → Bool) (k j x : Nat) : Bool := propB ((∃ i, i < k ∧ fa i = true ∧ g i x = true) ∨ (x < j ∧ fa k = true ∧ g k x = true))
theorem tRow_zero (g : Nat → Nat → Bool) (fa : Nat → Bool) (x : Nat) : tRow g fa 0 0 x = false := propB_f (by rintro (⟨i, h, _⟩ | ⟨h, _⟩) <;> omega)
theorem tRow_next (g : Nat → Nat → Bool) (fa : Nat → Bool) (k n x : Nat) (hx : x < n) : tRow g fa k n x = tRow g fa (k + 1) 0 x := by
  refine propB_congr ⟨?_, ?_⟩
  · rintro (⟨i, h1, h2⟩ | ⟨_, h2⟩)
    · exact .inl ⟨i, by omega, h2⟩
    · exact .inl ⟨k, by omega, h2⟩
  · rintro (⟨i, h1, h2⟩ | ⟨h, _⟩)
    · by_cases e : i = k
      · subst e; exact .inr ⟨hx, h2⟩
      · exact .inl ⟨i, by omega, h2⟩
    · omega
theorem tRow_at (g : Nat → Nat → Bool) (fa : Nat → Bool) (k j x : Nat) : tRow g fa k (j + 1) x = if x = j then (tRow g fa k j j || (fa k && g k j)) else tRow g fa k j x := by
  unfold tRow
  split
  · rename_i e
    subst e
    rw [Bool.eq_iff_iff, propB_iff, Bool.or_eq_true, propB_iff, Bool.and_eq_true]
    constructor
    · rintro (h | ⟨_, h⟩)
      · exact .inl (.inl h)
      · exact .inr h
    · rintro ((h | ⟨h, _⟩) | h)
      · exact .inl h
      · omega
      · exact .inr ⟨by omega, h⟩
  · rename_i e
    refine propB_congr ⟨?_, ?_⟩
    · rintro (h | ⟨h1, h2⟩)
      · exact .inl h
      · exact .inr ⟨by omega, h2⟩
    · rintro (h | ⟨h1, h2⟩)
      · exact .inl h
      · exact .inr ⟨by omega, h2⟩
theorem tRow_all (n : Nat) (f g : Nat → Nat → Bool) (a x : Nat) : tRow g (f a) n 0 x = timesF n f g a x := propB_congr ⟨by
  rintro (⟨i, h1, h2⟩ | ⟨h, _⟩)
  · exact ⟨i, h1, h2⟩
  · omega, fun ⟨i, h1, h2⟩ => .inl ⟨i, h1, h2⟩⟩
def rowB (m : Nat) (f : Nat → Bool) : List Bool := (List.range m).map f
theorem rowB_len (m : Nat) (f : Nat → Bool) : (rowB m f).length = m := by simp [rowB]
theorem rowB_at {m x : Nat} {f : Nat → Bool} (h : x < m) : (rowB m f)[x]? = some (f x) := by simp [rowB, h]
theorem rowB_congr {m : Nat} {f f' : Nat → Bool} (h : ∀ x, x < m → f x = f' x) : rowB m f = rowB m f' := List.map_congr_left fun x hx => h x (List.mem_range.1 hx)
theorem rowB_set {m j : Nat} {f f' : Nat → Bool} {b : Bool} (hj : j < m) (h : ∀ x, x < m → f' x = if x = j then b else f x) : (rowB m f).set j b = rowB m f' := by
  apply List.ext_getElem?
  intro x
  rw [List.getElem?_set]
  by_cases hx : x < m
  · rw [rowB_at hx, rowB_at hx, h x hx, rowB_len]
    by_cases e : j = x
    · subst e; simp [hj]
    · rw [if_neg e, if_neg (Ne.symm e)]
  · rw [List.getElem?_eq_none (by rw [rowB_len]; omega), List.getElem?_eq_none (by rw [rowB_len]; omega)]
    split <;> simp_all [rowB_len]
theorem bits_bRow {w : World} {g m : Nat} {f : Nat → Bool} (h : BitsAt w g (rowB m f)) : w.heap[g]? = some (Obj.cells (bRow m f) 4 (0, 0)) := by
  unfold BitsAt rowB at h
  rw [h]
  unfold bRow
  simp
def TiRel (n : Nat) (f g : Nat → Nat → Bool) (w0 : World) (v i : Value) (wr : World) : Prop :=
  ∃ (k : Nat) (gs : List Nat), k ≤ n ∧ i = .int .i64 k ∧ gs.length = k ∧ OwnMat wr w0.heap.size v n gs (timesF n f g) ∧ Below w0.heap.size w0 wr
def TkRel (n : Nat) (g : Nat → Nat → Bool) (fa : Nat → Bool) (w1 : World) (G : Nat) (i : Value) (wr : World) : Prop :=
  ∃ k : Nat, k ≤ n ∧ i = .int .i64 k ∧ BitsAt wr G (rowB n (tRow g fa k 0)) ∧ Below G w1 wr
def TjRel (n : Nat) (g : Nat → Nat → Bool) (fa : Nat → Bool) (k : Nat) (w1 : World) (G : Nat) (i : Value) (wr : World) : Prop :=
  ∃ j : Nat, j ≤ n ∧ i = .int .i64 j ∧ BitsAt wr G (rowB n (tRow g fa k j)) ∧ Below G w1 wr
set_option maxRecDepth 100000 in
set_option maxHeartbeats 1000000 in
theorem spec_waTimes (n : Nat) (va vb : Value) (f g : Nat → Nat → Bool) (w : World) (ha : MatB w w.heap.size va n n f) (hb : MatB w w.heap.size vb n n g) (hn : 1 ≤ n) (hn2 : n ≤ 12) :
    Calls Tryz.prog 107 #[va, vb] w fun e w' => ∃ v gs, e = .returned v ∧ gs.length = n ∧ OwnMat w' w.heap.size v n gs (timesF n f g) ∧ Below w.heap.size w w' := by
  obtain ⟨ada, ca, rfl, a1, a2, a3⟩ := ha
  obtain ⟨adb, cb, rfl, b1, b2, b3⟩ := hb
  have H3 := Lib.hid a3
  have G3 := Lib.hid b3
  clear a3 b3
  have hmk := fun W => run_make1 (P := Tryz.prog) 86 4 (.bool false) 1 Tryz.underlying86 boolInfo rfl n (by omega) (by omega) W
  go_enter Tryz.func107, Tryz.ntmps107
  go_wp2_with fail
  go_loopw [5, 14] (fun v i wr => TiRel n f g w v i wr) (fun _ i _ => n - (intOf i).toNat)
  case atStart => exact ⟨0, [], Nat.zero_le _, rfl, rfl, ⟨World.ownsRow_nil _ _ _ _, List.nodup_nil, (fun _ h => by cases h), (fun _ _ h => by simp at h)⟩, Below.refl _ _⟩
  case round =>
    obtain ⟨a, gs, hk, rfl, hgs, hown, hbl⟩ := hrel
    obtain ⟨wq, hwq⟩ : ∃ z, z = wr := ⟨_, rfl⟩
    subst hwq
    have HO := Lib.hid hown
    have hsz := hbl.size
    by_cases hlt : a < n
    · obtain ⟨ad1, c1, k1, k2, k3, k4⟩ := H3.out a hlt
      have krow := (hbl.cell (p := ada.add a) (by rw [block_add]; exact a2)).trans k1
      have hmkw := hmk wq
      clear k1 hown hmk
      go_wp2_with fail
      clear hmkw
      obtain ⟨w1, hw1⟩ : ∃ z, z = wq.alloc (.cells (rowOf [] n (.bool false)) 4) := ⟨_, rfl⟩
      have hb1 : Below wq.heap.size wq w1 := by rw [hw1]; exact bl_alloc (Below.refl _ _) _
      have hN0 : BitsAt w1 wq.heap.size (rowB n (tRow g (f a) 0 0)) := by
        unfold BitsAt
        rw [hw1, heap_alloc_new, rowB_congr (f' := fun _ => false) fun x _ => tRow_zero g (f a) x]
        rw [← bRow_false]
        unfold bRow rowB
        simp
      rw [← hw1]
      clear hw1
      have hst : TkRel n g (f a) w1 wq.heap.size (.int .i64 0) w1 := ⟨0, Nat.zero_le _, rfl, hN0, Below.refl _ _⟩
      have HST := Lib.hid hst
      clear hst hN0
      have hw1z := hb1.size
      go_loopw [23] (fun i wr => TkRel n g (f a) w1 wq.heap.size i wr) (fun i _ => n - (intOf i).toNat)
      case atStart => exact HST.out
      case round =>
        clear HST
        obtain ⟨k, hk2, rfl, hbits, hbl2⟩ := hrel
        have HBI := Lib.hid hbits
        have hb12 := hb1.trans hbl2
        clear hbits
        by_cases hlk : k < n
        · have kis := (((hbl.trans (hb12.mono hsz)).cell (p := ad1.add k) (by rw [block_add]; exact k3))).trans (k4 k hlk)
          obtain ⟨ad2, c2, m1, m2, m3, m4⟩ := G3.out k hlk
          have HM := Lib.hid m4
          have hst : TjRel n g (f a) k wr wq.heap.size (.int .i64 0) wr := ⟨0, Nat.zero_le _, rfl, HBI.out, Below.refl _ _⟩
          have HST := Lib.hid hst
          clear hst m4
          obtain ⟨is, his⟩ : ∃ b, b = f a k := ⟨_, rfl⟩
          rw [← his] at kis
          have HIS := Lib.hid his
          clear his
          go_wp2_with fail
          clear kis
          go_loopw [30] (fun i wr' => TjRel n g (f a) k wr wq.heap.size i wr') (fun i _ => n - (intOf i).toNat)
          case atStart => exact HST.out
          case round =>
            clear HST
            obtain ⟨j, hj, rfl, hbits, hbl3⟩ := hrel
            have HBJ := Lib.hid hbits
            have hfull := hbl.trans ((hb12.trans hbl3).mono hsz)
            clear hbits
            by_cases hlj : j < n
            · have kn := HBJ.out.cell (rowB_at (f := tRow g (f a) k j) hlj)
              have kf := HBJ.out.frozen j
              have kb := (hfull.cell (p := adb.add k) (by rw [block_add]; exact b2)).trans m1
              have kg := (hfull.cell (p := ad2.add j) (by rw [block_add]; exact m3)).trans (HM.out j hlj)
              have HS := Lib.hid (fun b (h : b = (tRow g (f a) k j j || (f a k && g k j))) => rowB_set (m := n) (f := tRow g (f a) k j) (f' := tRow g (f a) k (j + 1)) (b := b) hlj (fun x _ => by rw [h]; exact tRow_at g (f a) k j x))
              rw [← HIS.out] at HS
              generalize tRow g (f a) k j j = old at *
              generalize g k j = gv at *
              cases old with
              | true =>
                have HE := HS.out true (by simp)
                have HE2 := Lib.hid HE
                clear HE
                go_wp2_with fail
                go_roundw
                case rel => exact ⟨j + 1, by omega, by go_num, by rw [← HE2.out]; exact HBJ.out.set j true, hbl3.setCell (Nat.le_refl _) _⟩
                case measure => simp [intOf]; omega
              | false =>
                cases is with
                | false =>
                  have HE2 := Lib.hid (HS.out false (by simp))
                  go_wp2_with fail
                  go_roundw
                  case rel => exact ⟨j + 1, by omega, by go_num, by rw [← HE2.out]; exact HBJ.out.set j false, hbl3.setCell (Nat.le_refl _) _⟩
                  case measure => simp [intOf]; omega
                | true =>
                  have HE2 := Lib.hid (HS.out gv (by simp))
                  go_wp2_with fail
                  go_roundw
                  case rel => exact ⟨j + 1, by omega, by go_num, by rw [← HE2.out]; exact HBJ.out.set j gv, hbl3.setCell (Nat.le_refl _) _⟩
                  case measure => simp [intOf]; omega
            · obtain rfl : j = n := by omega
              have HE := Lib.hid (rowB_congr (m := j) fun x hx => tRow_next g (f a) k j x hx)
              rw [HE.out] at HBJ
              go_wp2_with fail
              go_roundw
              case rel => exact ⟨k + 1, by omega, by go_num, HBJ.out, hbl2.trans hbl3⟩
              case measure => simp [intOf]; omega
        · obtain rfl : k = n := by omega
          have HROW := Lib.hid (bits_bRow (show BitsAt wr wq.heap.size (rowB k (timesF k f g a)) by
            have h := HBI.out
            rw [rowB_congr (f' := timesF k f g a) fun x _ => tRow_all k f g a x] at h
            exact h))
          have hbW := Below.trans (hb1) hbl2
          have HOW := Lib.hid (own_keep4 HO.out.row hbW.size fun b _ hl => hbW.block b hl)
          rw [hgs] at HOW
          have hszw := hbW.size
          have hgl := HBI.out.lt
          go_wp2_with ((at_builtin; refine wpList_append1 wr rfl (.tmp 54) (.tmp 56) 87 rfl w.heap.size 86 _ 24 Tryz.underlying87 boolsInfo rfl _ _ _ rfl _ rfl rfl HOW.out (by unfold maxLen; omega) (by omega) (by omega) ?_; intro v' w' hown' hbl' hgr' hlt' hob'))
          go_roundw
          case rel => exact ⟨a + 1, gs ++ [wq.heap.size], by omega, by go_num, by rw [List.length_append, hgs]; rfl, HO.out.push hbW (Nat.le_refl _) hgl (by rw [hgs]; exact HROW.out) (by rw [hgs]; exact hown') hgr' hsz, (hbl.trans (hbW.mono hsz)).trans hbl'⟩
          case measure => simp [intOf]; omega
    · obtain rfl : a = n := by omega
      clear hmk hown
      go_wp2_with fail
      go_ret
      exact ⟨_, gs, rfl, hgs, HO.out, hbl⟩
end
section
open Go.RowKit
set_option linter.unusedVariables false
set_option linter.unusedSimpArgs false
theorem OwnMat.offG {w w' : World} {base : Nat} {v : Value} {m : Nat} {gs : List Nat} {f : Nat → Nat → Bool} {a b : Option Nat} (h : OwnMat w base v m gs f) (hg : G2 w w' a b) (ha : ∀ g, a = some g → g ∉ gs ∧ v.ownBlock ≠ some g) (hb : ∀ g, b = some g → g ∉ gs ∧ v.ownBlock ≠ some g) : OwnMat w' base v m gs f := by
  refine ⟨?_, h.nodup, h.ge, fun x g hx => ?_⟩
  · refine ⟨h.row.1, ?_⟩
    have hlt := h.row.lt
    rcases h.row.2 with h2 | ⟨g, cap, cur, rfl, h1, h2, h3⟩
    · exact .inl h2
    · exact .inr ⟨g, cap, cur, rfl, h1, (hg.block g (hlt g rfl).2 (fun e => (ha g e.symm).2 rfl) (fun e => (hb g e.symm).2 rfl)).trans h2, h3⟩
  · have hm := List.mem_of_getElem? hx
    exact (hg.block g (h.lt hm) (fun e => (ha g e.symm).1 hm) (fun e => (hb g e.symm).1 hm)).trans (h.blk x g hx)
theorem own_single {w : World} {base g : Nat} {e : TypeId} {u : Value} (h : w.heap[g]? = some (.cells #[u] e (0, 0))) (hb : base ≤ g) : w.ownsRow base e 1 (.slice (some ⟨g, 0, none⟩) 1 1) 1 [u] :=
  ⟨rfl, .inr ⟨g, 1, #[u], rfl, hb, h, Nat.le_refl _, by unfold maxLen; omega, rfl, rfl⟩⟩
noncomputable def wkB (xss : List (List Int)) (k a b : Nat) : Bool := propB (wk (hasArc xss) k a b)
theorem wkB_next {n : Nat} {xss : List (List Int)} (hg : Good n xss) (k a b : Nat) : timesF n (wkB xss k) (mayF xss) a b = wkB xss (k + 1) a b := by
  unfold timesF wkB mayF
  refine propB_congr ⟨?_, ?_⟩
  · rintro ⟨c, _, h1, h2⟩; exact ⟨c, propB_iff.1 h1, propB_iff.1 h2⟩
  · rintro ⟨c, h1, h2⟩; exact ⟨c, (arc_lt hg h2).1, propB_iff.2 h1, propB_iff.2 h2⟩
/-- How element i of the powers reads. -/
def PwR (n : Nat) (xss : List (List Int)) (B : Nat) (i : Nat) (u : Value) (W : World) : Prop := MatL W B u n n (wkB xss i)
def IdRel (n : Nat) (w1 : World) (base : Nat) (v : Value) (gs : List Nat) (i : Value) (wr : World) : Prop :=
  ∃ k : Nat, k ≤ n ∧ i = .int .i64 k ∧ OwnMat wr base v n gs (fun a b => decide (a = b ∧ a < k)) ∧ Below base w1 wr
def PwRel (n m : Nat) (xss : List (List Int)) (B base : Nat) (w3 : World) (v : Value) (wr : World) : Prop :=
  ∃ k : Nat, 1 ≤ k ∧ k ≤ m + 1 ∧ lenOf v = k ∧ OwnOf wr base 87 v none k (PwR n xss B) ∧ Below base w3 wr ∧ G2 w3 wr (some base) none ∧ newBlk w3 (some base) v.ownBlock
def PwPost (n m : Nat) (xss : List (List Int)) (w : World) (e : Ending) (w' : World) : Prop :=
  ∃ v, e = .returned v ∧ OwnOf w' w.heap.size 87 v none (m + 1) (PwR n xss w.heap.size) ∧ Below w.heap.size w w'
theorem matsInfo : (Tryz.prog.info? 87).map (fun i => (i.zero, i.size, i.bytes)) = some (some (.slice none 0 0), 1, 24) := by kernel_rfl
theorem good_nil {n : Nat} {xss : List (List Int)} (hg : Good n xss) : Good n [] := ⟨hg.1, fun i h => by simp at h⟩
theorem rows_nilR (w : World) (B : Nat) : RowsR w B (.slice none 0 0) [] := ⟨[], ⟨none, 0, rfl, Nat.zero_le _, by unfold maxLen; omega, fun h => by simp at h⟩, trivial⟩
theorem OwnMat.sl {w : World} {base : Nat} {v : Value} {m : Nat} {gs : List Nat} {f : Nat → Nat → Bool} (h : OwnMat w base v m gs f) (hn : 0 < gs.length) : ∃ g c, v = .slice (some ⟨g, 0, none⟩) gs.length c ∧ base ≤ g ∧ g < w.heap.size := by
  obtain ⟨g, c, e, _, _, h1, h2⟩ := own_some h.row hn
  exact ⟨g, c, e, h1, h2⟩
set_option maxRecDepth 100000 in
set_option maxHeartbeats 1000000 in
theorem spec_waPowers (n m : Nat) (v : Value) (xss : List (List Int)) (w : World) (h : RowsR w w.heap.size v xss) (hg : Good n xss) (hm : m ≤ 1000) :
    Calls Tryz.prog 82 #[.agg #[.int .i64 (n : Int), v], .int .i64 (m : Int)] w (PwPost n m xss w) := by
  have hn := good_n hg
  have HH := Lib.hid h; clear h
  have HG := Lib.hid hg; clear hg
  obtain ⟨w0, hw0⟩ : ∃ z, z = w.alloc (.cells #[.int .i64 (n : Int), v] 26) := ⟨_, rfl⟩
  have hb0 : Below w.heap.size w w0 := by rw [hw0]; exact bl_alloc (Below.refl _ _) _
  have hz0 : w0.heap.size = w.heap.size + 1 := by rw [hw0]; simp
  have HB0 := Lib.hid (show w0.heap[w.heap.size]? = some (.cells #[.int .i64 (n : Int), v] 26 (0, 0)) by rw [hw0]; exact heap_alloc_new _ _)
  have HW0 := Lib.hid hw0
  have hzz : w.heap.size < w0.heap.size := by omega
  clear hw0 hz0
  obtain ⟨b0, b1, bf⟩ := cells2 HB0
  go_enter Tryz.func82, Tryz.ntmps82
  go_wp2_with fail
  rw [← HW0.out]
  refine (spec_waMayO n (.slice none 0 0) [] w0 (rows_nilR _ _) (good_nil HG.out)).mono ?_
  rintro e w1 ⟨u, gs, rfl, hgs, hown, hb1⟩
  have HB1 := bk HB0 hb1 (by omega)
  have hb01 := bl_trans hb0 hb1
  have hz1 := hb1.size
  obtain ⟨go, co, rfl, go1, go2⟩ := hown.sl (by omega)
  rw [hgs] at hown ⊢
  have hst : IdRel n w1 w0.heap.size (.slice (some ⟨go, 0, none⟩) n co) gs (.int .i64 0) w1 := ⟨0, Nat.zero_le _, rfl, hown.congr (fun a _ b _ => by
    unfold mayF
    rw [propB_f (by simp [hasArc])]
    simp), Below.refl _ _⟩
  have HST := Lib.hid hst
  have hgo1 : n ≤ co := by
    obtain ⟨g, c, e, h1, _⟩ := own_some hown.row (by omega)
    cases e
    omega
  clear hst hown b0 b1 bf
  go_wp2_with fail
  go_loopw [15] (fun i wr => IdRel n w1 w0.heap.size (.slice (some ⟨go, 0, none⟩) n co) gs i wr) (fun i _ => n - (intOf i).toNat)
  case atStart => exact HST.out
  case round =>
    clear HST
    obtain ⟨k, hk, rfl, hown, hbl⟩ := hrel
    have HO := Lib.hid hown
    have hb0r := hb01.trans (hbl.mono (by omega))
    have hsr := hbl.size
    clear hown
    by_cases hlt : k < n
    · obtain ⟨g, hgk⟩ : ∃ g, gs[k]? = some g := ⟨gs[k]'(by omega), List.getElem?_eq_getElem (by omega)⟩
      have krow := HO.out.row.cells (g := go) rfl k _ (by rw [List.getElem?_map, hgk]; rfl)
      rw [addr0] at krow
      unfold rowV at krow
      have kc : wr.cell? ⟨g, k, none⟩ = some (.bool (decide (k = k ∧ k < k))) := by rw [cell_of_row wr g k _ _ (0, 0) (HO.out.blk k g hgk)]; exact bRow_at hlt
      have kf : wr.frozen? ⟨g, k, none⟩ = false := frozen_of_row _ _ k _ _ (HO.out.blk k g hgk)
      have HGK := Lib.hid hgk
      clear hgk
      go_wp2_with fail
      go_roundw
      case rel => exact ⟨k + 1, by omega, by go_num, (HO.out.store HGK.out hlt true).congr (fun a _ b _ => by
        split
        · rename_i h; obtain ⟨rfl, rfl⟩ := h; simp
        · rename_i h
          rw [Bool.eq_iff_iff, decide_eq_true_eq, decide_eq_true_eq]
          constructor
          · rintro ⟨h1, h2⟩; exact ⟨h1, by omega⟩
          · rintro ⟨h1, h2⟩
            refine ⟨h1, ?_⟩
            rcases Nat.lt_or_ge a k with q | q
            · exact q
            · exact absurd ⟨by omega, by omega⟩ h), hbl.setCell (HO.out.ge g (List.mem_of_getElem? HGK.out)) _⟩
      case measure => simp [intOf]; omega
    · obtain rfl : k = n := by omega
      have HM0 := Lib.hid (HO.out.congr (f' := wkB xss 0) fun a ha b _ => by
        rw [hgs] at ha
        unfold wkB
        rw [Bool.eq_iff_iff, propB_iff, decide_eq_true_eq]
        show a = b ∧ a < k ↔ a = b
        exact ⟨fun h => h.1, fun h => ⟨h, ha⟩⟩)
      have HBr := bk HB1 hbl (by omega)
      obtain ⟨b0, b1, bf⟩ := cells2 HBr
      obtain ⟨w2, hw2⟩ : ∃ z, z = wr.alloc (.cells #[.slice (some ⟨go, 0, none⟩) k co] 87) := ⟨_, rfl⟩
      have hb2 : Below wr.heap.size wr w2 := by rw [hw2]; exact bl_alloc (Below.refl _ _) _
      have hnew : w2.heap[wr.heap.size]? = some (.cells #[.slice (some ⟨go, 0, none⟩) k co] 87 (0, 0)) := by rw [hw2]; exact heap_alloc_new _ _
      have hz2 : wr.heap.size < w2.heap.size := by rw [hw2]; simp
      have HW2 := Lib.hid hw2
      have HM2 := Lib.hid (HM0.out.up hb2)
      have HP2 := Lib.hid (show OwnOf w2 wr.heap.size 87 (.slice (some ⟨wr.heap.size, 0, none⟩) 1 1) none 1 (PwR k xss w.heap.size) from
        ⟨[.slice (some ⟨go, 0, none⟩) k co], own_single hnew (Nat.le_refl _), fun i u hu w' hg' => by
          have hi : i = 0 := by
            have := (List.getElem?_eq_some_iff.1 hu).1
            simp at this; omega
          subst hi
          simp at hu
          subst hu
          have hoff := HM2.out.offG hg' (fun g hg => by
            have e : g = wr.heap.size := (Option.some.inj hg).symm
            subst e
            refine ⟨fun hm => ?_, fun e2 => ?_⟩
            · have := HM0.out.lt hm; omega
            · have := (HM0.out.row.lt _ e2).2; omega) (fun g hg => by cases hg)
          have hr := hoff.readsL (B := w.heap.size) (by omega) (by omega)
          rw [hgs] at hr
          exact hr⟩)
      have HB2 := bk HBr hb2 (by omega)
      have hb02 := hb0r.trans (hb2.mono (by omega))
      have e0 := b0
      have e1 := b1
      clear b0 b1 bf hnew
      obtain ⟨b0, b1, bf⟩ := cells2 HB2
      rw [hw2] at b0 b1
      clear hw2 e0 e1
      go_wp2_with fail
      rw [← HW2.out]
      refine (spec_waMayO k v xss w2 ((HH.out.below hb02).more hb02.size) HG.out).mono ?_
      rintro e w3 ⟨um, gm, rfl, hgm, hmay, hb3⟩
      have HMY := Lib.hid hmay
      have hb03 := bl_trans hb02 hb3
      have hz3 := hb3.size
      obtain ⟨gom, cm, rfl, m1, m2⟩ := hmay.sl (by omega)
      rw [hgm] at HMY ⊢
      clear b0 b1 hmay
      have hst : PwRel k m xss w.heap.size wr.heap.size w3 (.slice (some ⟨wr.heap.size, 0, none⟩) 1 1) w3 := ⟨1, Nat.le_refl _, by omega, rfl, HP2.out.up hb3, Below.refl _ _, G2.refl _ _ _, .inl rfl⟩
      have HST := Lib.hid hst
      clear hst
      obtain ⟨base, hbase⟩ : ∃ b, b = wr.heap.size := ⟨_, rfl⟩
      rw [← hbase] at HST
      have hbz : base ≤ w3.heap.size := by omega
      have hbz2 : base < w2.heap.size := by omega
      go_wp2_with fail
      go_loopw [7] (fun v wr => PwRel k m xss w.heap.size base w3 v wr) (fun v _ => (m + 2) - lenOf v)
      case atStart => rw [← hbase]; exact HST.out
      case round =>
        clear HST
        obtain ⟨i, hi1, hi2, hlen, hpw, hbl4, hgb, hnb⟩ := hrel
        have HPW := Lib.hid hpw
        have hsz4 := hbl4.size
        obtain ⟨g, c, u, rfl, q1, q2, q3, q4, kcu, hR⟩ := hpw.at_ (i := i - 1) (by omega)
        have hb04 := hb03.trans (hbl4.mono (by omega))
        clear hpw hlen
        by_cases hlt : i ≤ m
        · have HR := Lib.hid (MatL.toB hR)
          obtain ⟨gu, cu, rfl, u1, u2, u3, u4⟩ := hR
          have hi3 : (i : Int) ≤ (m : Int) := by omega
          clear u4
          go_wp2_with fail
          have hmr := (HMY.out.off hgb (fun g hg => by have := Option.some.inj hg; omega) (fun g hg => by cases hg)).reads (by omega)
          rw [hgm] at hmr
          refine (spec_waTimes k _ _ (wkB xss (i - 1)) (mayF xss) wr HR.out hmr (by omega) (by omega)).mono ?_
          rintro e w5 ⟨vt, gs5, rfl, hg5, ho5, hb5⟩
          obtain ⟨go5, co5, rfl, p1, p2⟩ := ho5.sl (by omega)
          have HO5 := Lib.hid ho5
          obtain ⟨vs, hv1, hv2⟩ := HPW.out.up hb5
          have hvl : vs.length = i := by have := hv1.1; omega
          have HV1 := Lib.hid hv1
          have HV2 := Lib.hid hv2
          have HGB := Lib.hid hgb
          have HNB := Lib.hid hnb
          have hz5 := hb5.size
          rw [hg5]
          clear ho5 hv1 hv2 hmr hgb hnb
          go_wp2_with ((at_builtin; refine wpList_append1 w5 rfl (.tmp 33) (.tmp 42) 97 rfl base 87 _ 24 Tryz.underlying97 matsInfo rfl _ _ _ rfl _ rfl rfl HV1.out (by unfold maxLen; omega) (by omega) (by omega) ?_; intro v' w' hown' hbl' hgr' hlt' hob'))
          have hnw : newBlk w5 (Value.slice (some ⟨g, 0, none⟩) i c).ownBlock v'.ownBlock := by
            rcases hob' with h | ⟨g', h, h1, _⟩
            · exact .inl h
            · exact .inr ⟨g', h, h1⟩
          have hpush : OwnOf w' base 87 v' none (i + 1) (PwR k xss w.heap.size) := OwnOf.push HV2.out hvl (fun w2' h2 => by
            have hoff := HO5.out.off h2 (fun g' hg' => by have e : g = g' := Option.some.inj hg'; omega) (fun g' hg' => by cases hg')
            have hr := (hoff.congr (f' := wkB xss i) fun a _ b _ => by
              have := wkB_next HG.out (i - 1) a b
              rwa [show i - 1 + 1 = i by omega] at this).readsL (B := w.heap.size) (by omega) (by omega)
            rw [hg5] at hr
            exact hr) hown' hgr' hob'
          have hln : lenOf v' = i + 1 := by
            obtain ⟨A', c', rfl⟩ := own_sl hown'
            rfl
          go_roundw
          case rel => exact ⟨i + 1, by omega, by omega, hln, hpush, (hbl4.trans (hb5.mono (by omega))).trans hbl', HGB.out.shift ((G2.below hb5).tr (G2.left hgr')) HNB.out (.inl rfl), by
            rcases hnw with h | ⟨g', h, h1⟩
            · rw [h]; exact HNB.out
            · exact .inr ⟨g', h, by omega⟩⟩
          case measure => rw [hln]; simp [lenOf]; omega
        · obtain rfl : i = m + 1 := by omega
          have hi3 : ¬ ((m + 1 : Nat) : Int) ≤ (m : Int) := by omega
          go_wp2_with fail
          go_ret
          exact ⟨_, rfl, HPW.out.base_ (by omega), hb04⟩
end
end Go.Proofs.YtjhljipehnmbnaaGreat
