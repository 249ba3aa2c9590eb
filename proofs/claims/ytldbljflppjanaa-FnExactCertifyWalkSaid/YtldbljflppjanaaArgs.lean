/-
  The laws' own functions over slices of numbers: szIntS, szIntSS (sizes), toIntS, toIntSS (copies), eqIntS, eqIntSS (equality of copies). For lengths that together are at most 1048576 where they copy.
-/
import Derived.Test.YtldbljflppjanaaRows
import Derived.Test.YtldbljflppjanaaKit
import Derived.Test.YtldbljflppjanaaMem
import Derived.WalkKit
import Derived.WalkSpells
import Derived.WalkLawsBesides
import Derived.Lib.Hide
import Derived.Deep.LoopGhost
import Derived.Deep.QuietTactic
import Derived.BigQuiet
namespace Go.Proofs.Ytldbljflppjanaa
open Go.RowKit
set_option linter.unusedVariables false

theorem szR_le {left : Int} {n : Nat} (hl : 0 ≤ left) : szR left n ≤ left := by unfold szR; split <;> omega
theorem szR_add {left : Int} {m n : Nat} (h : (m : Int) ≤ left) : szR (left - m) n = szR left (m + n) := by unfold szR; split <;> split <;> omega
theorem szR_neg {left : Int} {m n : Nat} (h : szR left m < 0) (hl : 0 ≤ left) : szR left (m + n) = -1 := by
  unfold szR at *
  split at h
  · omega
  · rw [if_neg (by omega)]
theorem sz_IntS (A : Option Addr) (n c : Nat) (left : Int) (w : World) (hn : n ≤ maxLen) (hl : 0 ≤ left) (hl' : left ≤ 1048576) :
    Calls Try.prog 32 #[.slice A n c, .int .i64 left] w fun e w' => e = .returned (.int .i64 (szR left n)) ∧ w = w' := by
  unfold maxLen at hn
  go_enter Try.func32, Try.ntmps32
  go_wp2
  all_goals
    go_ret
    exact ⟨ret_int (by unfold szR; split <;> omega), rfl⟩

/-- How many numbers there are; numbers and lists. -/
def lens : List (List Int) → Nat
  | [] => 0
  | xs :: r => xs.length + lens r
def szRows (xss : List (List Int)) : Nat := xss.length + lens xss
theorem lens_append : ∀ (a b : List (List Int)), lens (a ++ b) = lens a + lens b
  | [], b => by simp [lens]
  | x :: a, b => by simp [lens, lens_append a b]; omega
theorem lens_snoc (xss : List (List Int)) (k : Nat) (xs : List Int) (h : xss[k]? = some xs) : lens (xss.take (k + 1)) = lens (xss.take k) + xs.length := by
  obtain ⟨hk, rfl⟩ := List.getElem?_eq_some_iff.1 h
  rw [List.take_succ_eq_append_getElem hk, lens_append]
  rfl
theorem lens_split (xss : List (List Int)) (k : Nat) : lens xss = lens (xss.take k) + lens (xss.drop k) := by
  rw [← lens_append, List.take_append_drop]
theorem lens_all (xss : List (List Int)) (k : Nat) (h : xss.length ≤ k) : lens (xss.take k) = lens xss := by rw [List.take_of_length_le h]
def SzRel (xss : List (List Int)) (left : Int) (w : World) (l i : Value) (wr : World) : Prop :=
  w = wr ∧ ∃ (k q : Nat), k ≤ xss.length ∧ q = lens (xss.take k) ∧ i = .int .i64 k ∧ l = .int .i64 (left - xss.length - q) ∧ (q : Int) ≤ left - xss.length
theorem sz_IntSS (v : Value) (xss : List (List Int)) (left : Int) (w : World) (h : RowsR w w.heap.size v xss) (hl : 0 ≤ left) (hl' : left ≤ 1048576) :
    Calls Try.prog 13 #[v, .int .i64 left] w fun e w' => e = .returned (.int .i64 (szR left (szRows xss))) ∧ w = w' := by
  obtain ⟨A, c, rfl, h1, h2, h3⟩ := h.open_
  have hL : xss.length ≤ 9223372036854775807 := by unfold maxLen at h2; omega
  clear h2 h
  by_cases hs : (xss.length : Int) ≤ left
  · go_enter Try.func13, Try.ntmps13
    go_wp2
    go_loopw [1, 5] (fun l i wr => SzRel xss left w l i wr) (fun _ i _ => xss.length - (intOf i).toNat)
    case atStart => exact ⟨rfl, 0, 0, Nat.zero_le _, rfl, rfl, by simp, by omega⟩
    case round =>
      obtain ⟨rfl, k, q, hk, hq, rfl, rfl, hle⟩ := hrel
      have HQ := Lib.hid hq; clear hq
      by_cases hlt : k < xss.length
      · obtain ⟨xs, hxs⟩ : ∃ xs, xss[k]? = some xs := ⟨xss[k], List.getElem?_eq_getElem hlt⟩
        obtain ⟨ad, rfl, hb, hc⟩ := h3 (by omega)
        obtain ⟨u, hu, hr⟩ := hc k xs hxs
        obtain ⟨A', c', rfl, g1, g2, -⟩ := hr.open_
        have HS := Lib.hid (lens_snoc xss k xs hxs)
        have HT := Lib.hid (lens_split xss (k + 1))
        clear h3 hc hr hxs
        by_cases hx : (xs.length : Int) ≤ left - xss.length - q
        · have h5 : szR (left - xss.length - q) xs.length = left - xss.length - q - xs.length := by unfold szR; rw [if_pos hx]
          go_wp2_with (go_at_call 32; refine (sz_IntS A' xs.length c' _ _ (by omega) (by omega) (by omega)).mono ?_; rintro e w' ⟨rfl, rfl⟩; rw [h5])
          go_roundw
          case rel => exact ⟨rfl, k + 1, q + xs.length, by omega, by rw [HS.out, HQ.out], by go_num, by go_num, by omega⟩
          case measure => simp [intOf]; omega
        · have h5 : szR (left - xss.length - q) xs.length = -1 := by unfold szR; rw [if_neg hx]
          go_wp2_with (go_at_call 32; refine (sz_IntS A' xs.length c' _ _ (by omega) (by omega) (by omega)).mono ?_; rintro e w' ⟨rfl, rfl⟩; rw [h5])
          go_ret
          have h6 := HT.out
          have h7 := HS.out
          have h8 := HQ.out
          exact ⟨ret_int (by unfold szR szRows; rw [if_neg (by omega)]), rfl⟩
      · go_wp2
        go_ret
        have h6 := lens_all xss k (by omega)
        have h8 := HQ.out
        exact ⟨ret_int (by unfold szR szRows; rw [if_pos (by omega)]; omega), rfl⟩
  · have H := Lib.hid (show szR left (szRows xss) = -1 by unfold szR szRows; rw [if_neg (by omega)])
    go_enter Try.func13, Try.ntmps13
    go_wp2
    go_ret
    exact ⟨ret_int H.out.symm, rfl⟩

/-! ### Copies -/
theorem intInfo : (Try.prog.info? 3).map (fun i => (i.zero, i.size, i.bytes)) = some (some (.int .i64 0), 1, 8) := by kernel_rfl
def ToRel (xs : List Int) (w : World) (i : Value) (wr : World) : Prop := ∃ k : Nat, k ≤ xs.length ∧ i = .int .i64 k ∧ wr = w.alloc (.cells (rowOf ((xs.take k).map intV) xs.length (.int .i64 0)) 3)
theorem to_IntS (v : Value) (xs : List Int) (w : World) (h : IntsR w w.heap.size v xs) (hn : xs.length ≤ 1048576) :
    Calls Try.prog 42 #[v] w fun e w' => e = .returned (.slice (some ⟨w.heap.size, 0, none⟩) xs.length xs.length) ∧ w' = w.alloc (.cells (xs.map intV).toArray 3) := by
  obtain ⟨A, c, rfl, h1, h2, h3⟩ := h.open_
  have hmk := fun W => run_make1 (P := Try.prog) 26 3 (.int .i64 0) 8 Try.underlying26 intInfo rfl xs.length (by omega) (by omega) W
  go_enter Try.func42, Try.ntmps42
  go_wp2
  clear hmk
  go_loopw [4] (fun i wr => ToRel xs w i wr) (fun i _ => xs.length - (intOf i).toNat)
  case atStart => exact ⟨0, Nat.zero_le _, rfl, by simp⟩
  case round =>
    obtain ⟨k, hk, rfl, rfl⟩ := hrel
    by_cases hlt : k < xs.length
    · obtain ⟨x, hx⟩ : ∃ x, xs[k]? = some x := ⟨xs[k], List.getElem?_eq_getElem hlt⟩
      obtain ⟨ad, rfl, hb, hc⟩ := h3 (by omega)
      have hcell := hc k x hx
      clear h3 hc
      have hlen : ((xs.take k).map intV).length = k := by simp; omega
      have HN := Lib.hid (show (xs.take (k + 1)).map intV = (xs.take k).map intV ++ [.int .i64 x] by
        obtain ⟨hk', rfl⟩ := List.getElem?_eq_some_iff.1 hx
        rw [List.take_succ_eq_append_getElem hk', List.map_append]; rfl)
      clear hx
      generalize (xs.take k).map intV = done at *
      have hset := Lib.hid (rowOf_set (done := done) (n := xs.length) (z := .int .i64 0) (by omega) (.int .i64 x))
      have hnext := rowOf_next (done := done) (n := xs.length) (z := .int .i64 0) (by omega)
      obtain rfl := hlen
      generalize rowOf done xs.length (.int .i64 0) = C at *
      have hcell2 : (w.alloc (.cells C 3)).cell? ⟨w.heap.size, done.length, none⟩ = some (.int .i64 0) := by rw [World.cell?_alloc_at _ _ _ _ rfl]; exact hnext
      have hcell1 : (w.alloc (.cells C 3)).cell? (ad.add done.length) = some (.int .i64 x) := (World.cell?_alloc_lt w _ _ (by rw [block_add]; exact hb)).trans hcell
      clear hnext hcell
      go_wp2
      go_roundw
      case rel => exact ⟨done.length + 1, by omega, by go_num, by rw [HN.out, ← hset.out]⟩
      case measure => simp [intOf]; omega
    · have e1 : xs.take k = xs := List.take_of_length_le (by omega)
      have e2 := rowOf_full (xs.map intV) (.int .i64 0)
      rw [List.length_map] at e2
      rw [e1, e2]
      clear e1 e2
      go_wp2
      go_ret
      exact ⟨rfl, rfl⟩

/-! ### Copies of lists of lists -/
theorem sliceInfo : (Try.prog.info? 26).map (fun i => (i.zero, i.size, i.bytes)) = some (some (.slice none 0 0), 1, 24) := by kernel_rfl
/-- What toIntSS keeps: the outer row, and the copies that lie in it. -/
def TosRel (xss : List (List Int)) (w : World) (i : Value) (wr : World) : Prop :=
  ∃ (k : Nat) (vs : List Value) (bs : List Nat), k ≤ xss.length ∧ i = .int .i64 k ∧ vs.length = k ∧ wr.heap[w.heap.size]? = some (.cells (rowOf vs xss.length (.slice none 0 0)) 26 (0, 0)) ∧
    OwnAll wr 3 vs (xss.take k) bs ∧ bs.Nodup ∧ (∀ b ∈ bs, w.heap.size < b ∧ b < wr.heap.size) ∧ Below w.heap.size w wr
theorem to_IntSS (v : Value) (xss : List (List Int)) (w : World) (h : RowsR w w.heap.size v xss) (hn : szRows xss ≤ 1048576) :
    Calls Try.prog 16 #[v] w fun e w' => ∃ v' bs, e = .returned v' ∧ OwnRows w' 26 3 v' xss bs ∧ bs.Nodup ∧ (∀ b ∈ bs, w.heap.size ≤ b ∧ b < w'.heap.size) ∧ Below w.heap.size w w' := by
  obtain ⟨A, c, rfl, h1, h2, h3⟩ := h.open_
  have hn' : xss.length ≤ 1048576 := by unfold szRows at hn; omega
  have hmk := fun W => run_make1 (P := Try.prog) 22 26 (.slice none 0 0) 24 Try.underlying22 sliceInfo rfl xss.length (by omega) (by omega) W
  go_enter Try.func16, Try.ntmps16
  go_wp2
  clear hmk
  go_loopw [4] (fun i wr => TosRel xss w i wr) (fun i _ => xss.length - (intOf i).toNat)
  case atStart => exact ⟨0, [], [], Nat.zero_le _, rfl, rfl, heap_alloc_new w _, rfl, List.nodup_nil, (fun _ hb => by cases hb), bl_alloc (Below.refl _ _) _⟩
  case round =>
    obtain ⟨k, vs, bs, hk, rfl, hvs, hblk, hown, hnd, hbs, hbl⟩ := hrel
    have hsz := hbl.size
    have hgt : w.heap.size < wr.heap.size := by
      rcases Nat.lt_or_ge w.heap.size wr.heap.size with h | h
      · exact h
      · rw [Array.getElem?_eq_none h] at hblk; cases hblk
    by_cases hlt : k < xss.length
    · obtain ⟨xs, hxs⟩ : ∃ xs, xss[k]? = some xs := ⟨xss[k], List.getElem?_eq_getElem hlt⟩
      obtain ⟨ad, rfl, hb, hc⟩ := h3 (by omega)
      obtain ⟨u, hu, hr⟩ := hc k xs hxs
      have hcell : wr.cell? (ad.add k) = some u := (hbl.cell (p := ad.add k) (by rw [block_add]; exact hb)).trans hu
      have hr' : IntsR wr wr.heap.size u xs := (hr.below hbl).more hsz
      have hxl : xs.length ≤ 1048576 := by
        have := lens_snoc xss k xs hxs
        have := lens_split xss (k + 1)
        unfold szRows at hn
        omega
      clear h3 hc hr hu
      have HN := Lib.hid (show xss.take (k + 1) = xss.take k ++ [xs] by
        obtain ⟨hk', rfl⟩ := List.getElem?_eq_some_iff.1 hxs
        rw [List.take_succ_eq_append_getElem hk'])
      clear hxs
      have HB := Lib.hid hblk; clear hblk
      go_wp2_with fail
      refine (to_IntS u xs wr hr' hxl).mono ?_
      rintro e w1 ⟨rfl, hw1⟩
      have hb1 : Below wr.heap.size wr w1 := by rw [hw1]; exact bl_alloc (Below.refl _ _) _
      have hblk1 : w1.heap[w.heap.size]? = some (.cells (rowOf vs xss.length (.slice none 0 0)) 26 (0, 0)) := (hb1.block _ hgt).trans HB.out
      have hnew : OwnInts w1 3 (.slice (some ⟨wr.heap.size, 0, none⟩) xs.length xs.length) xs [wr.heap.size] := by
        refine ⟨.inr ⟨wr.heap.size, xs.length, (xs.map intV).toArray, by simp, by simp, by unfold maxLen; omega, ?_, by simp, List.take_of_length_le (by simp), rfl⟩, hr'.2⟩
        rw [hw1]; exact heap_alloc_new wr _
      have hc1 : w1.cell? ⟨w.heap.size, k, none⟩ = some (.slice none 0 0) := by
        rw [cell_of_row w1 _ k _ _ (0, 0) hblk1, ← hvs]
        exact rowOf_next (by omega)
      have hf1 : w1.frozen? ⟨w.heap.size, k, none⟩ = false := by simp [World.frozen?, hblk1]
      have hown1 : OwnAll w1 3 (vs ++ [.slice (some ⟨wr.heap.size, 0, none⟩) xs.length xs.length]) (xss.take k ++ [xs]) (bs ++ [wr.heap.size]) :=
        (hown.keep fun b hb => hb1.block b (hbs b hb).2).snoc hnew
      have hs1 : wr.heap.size < w1.heap.size := by rw [hw1]; simp
      have HB1 := Lib.hid hblk1; clear hblk1
      have HW := Lib.hid hw1; clear hw1
      go_wp2_with fail
      go_roundw
      case rel =>
        refine ⟨k + 1, vs ++ [.slice (some ⟨wr.heap.size, 0, none⟩) xs.length xs.length], bs ++ [wr.heap.size], by omega, by go_num, by simp [hvs], ?_, ?_, ?_, ?_, ?_⟩
        · rw [heap_set_same HB1.out]
          have := rowOf_set (done := vs) (n := xss.length) (z := .slice none 0 0) (by omega) (.slice (some ⟨wr.heap.size, 0, none⟩) xs.length xs.length)
          rw [hvs] at this
          rw [this]
        · rw [HN.out]
          refine hown1.keep fun b hb => Below.heap_setCell _ _ _ _ ?_
          intro e
          rcases List.mem_append.1 hb with h | h
          · have := hbs b h; simp at e; omega
          · simp at h e; omega
        · rw [List.nodup_append]
          exact ⟨hnd, by simp, fun a ha b hb => by have := hbs a ha; simp at hb; omega⟩
        · intro b hb
          rw [size_setCell]
          rcases List.mem_append.1 hb with h | h
          · have := hbs b h; omega
          · simp at h; omega
        · exact (hbl.trans (hb1.mono hsz)).setCell (Nat.le_refl _) _
      case measure => simp [intOf]; omega
    · have e1 : xss.take k = xss := List.take_of_length_le (by omega)
      rw [e1] at hown
      have HB := Lib.hid hblk; clear hblk
      go_wp2
      go_ret
      refine ⟨_, w.heap.size :: bs, rfl, ⟨vs, [w.heap.size], bs, .inr ⟨w.heap.size, xss.length, vs.toArray, ?_, by omega, by unfold maxLen; omega, ?_, by simp; omega, List.take_of_length_le (by simp), rfl⟩, hown, rfl⟩, ?_, ?_, hbl⟩
      · rw [show vs.length = xss.length by omega]; rfl
      · rw [HB.out, show xss.length = vs.length by omega, rowOf_full]
      · rw [List.nodup_cons]
        exact ⟨fun h => by have := hbs _ h; omega, hnd⟩
      · intro b hb
        rcases List.mem_cons.1 hb with h | h
        · omega
        · have := hbs b h; omega

/-! ### Equality of what reads alike -/
def EqRel (n : Nat) (w : World) (i : Value) (wr : World) : Prop := ∃ k m : Nat, k ≤ n ∧ i = .int .i64 k ∧ wr = w.drewN m
theorem eq_IntS (v v' : Value) (xs : List Int) (w : World) (h : IntsR w w.heap.size v xs) (h' : IntsR w w.heap.size v' xs) :
    Calls Try.prog 26 #[v, v'] w fun e w' => e = .returned (.bool true) ∧ ∃ n, w' = w.drewN n := by
  obtain ⟨A, c, rfl, h1, h2, h3⟩ := h.open_
  obtain ⟨A', c', rfl, h1', h2', h3'⟩ := h'.open_
  unfold maxLen at h2
  clear h h'
  go_enter Try.func26, Try.ntmps26
  go_wp2
  go_loopw [5] (fun i wr => EqRel xs.length w i wr) (fun i _ => xs.length - (intOf i).toNat)
  case atStart => exact ⟨0, 0, Nat.zero_le _, rfl, rfl⟩
  case round =>
    obtain ⟨k, m, hk, rfl, rfl⟩ := hrel
    by_cases hlt : k < xs.length
    · obtain ⟨x, hx⟩ : ∃ x, xs[k]? = some x := ⟨xs[k], List.getElem?_eq_getElem hlt⟩
      obtain ⟨ad, rfl, hb, hc⟩ := h3 (by omega)
      obtain ⟨ad', rfl, hb', hc'⟩ := h3' (by omega)
      have hcell : (w.drewN m).cell? (ad.add k) = some (.int .i64 x) := hc k x hx
      have hcell' : (w.drewN m).cell? (ad'.add k) = some (.int .i64 x) := hc' k x hx
      have k1 := hc k x hx
      have k2 := hc' k x hx
      clear h3 h3' hc hc' hx
      go_wp2
      go_quiet (fail)
      go_wp2
      go_roundw
      case rel => exact ⟨k + 1, m + nq, by omega, by go_num, rfl⟩
      case measure => simp [intOf]; omega
    · go_wp2
      go_ret
      exact ⟨rfl, m, rfl⟩

theorem quiet_more {P : Program} {f : FuncId} {args : Array Value} {w : World} {a n : Nat} {v : Value}
    (h : Calls P f args (w.drewN (a + n)) fun e w' => e = .returned v ∧ ∃ m, w' = (w.drewN (a + n)).drewN m) :
    Calls P f args (w.drewN (a + n)) fun e w'' => e = .returned v ∧ ∃ m, w'' = w.drewN (a + m) :=
  h.mono fun _ _ ⟨he, m, hm⟩ => ⟨he, n + m, by rw [hm, World.drewN_drewN, Nat.add_assoc]⟩
theorem eq_IntSS (v v' : Value) (xss : List (List Int)) (w : World) (h : RowsR w w.heap.size v xss) (h' : RowsR w w.heap.size v' xss) :
    Calls Try.prog 27 #[v, v'] w fun e w' => e = .returned (.bool true) ∧ ∃ n, w' = w.drewN n := by
  obtain ⟨A, c, rfl, h1, h2, h3⟩ := h.open_
  obtain ⟨A', c', rfl, h1', h2', h3'⟩ := h'.open_
  unfold maxLen at h2
  clear h h'
  go_enter Try.func27, Try.ntmps27
  go_wp2
  go_loopw [5] (fun i wr => EqRel xss.length w i wr) (fun i _ => xss.length - (intOf i).toNat)
  case atStart => exact ⟨0, 0, Nat.zero_le _, rfl, rfl⟩
  case round =>
    obtain ⟨k, m, hk, rfl, rfl⟩ := hrel
    by_cases hlt : k < xss.length
    · obtain ⟨xs, hx⟩ : ∃ x, xss[k]? = some x := ⟨xss[k], List.getElem?_eq_getElem hlt⟩
      obtain ⟨ad, rfl, hb, hc⟩ := h3 (by omega)
      obtain ⟨ad', rfl, hb', hc'⟩ := h3' (by omega)
      obtain ⟨u, k1, hr⟩ := hc k xs hx
      obtain ⟨u', k2, hr'⟩ := hc' k xs hx
      have hcell : (w.drewN m).cell? (ad.add k) = some u := k1
      have hcell' : (w.drewN m).cell? (ad'.add k) = some u' := k2
      have HR := Lib.hid hr; clear hr
      have HR' := Lib.hid hr'; clear hr'
      clear h3 h3' hc hc' hx
      go_wp2
      go_quiet ((go_at_call 26; exact quiet_more (eq_IntS u u' xs _ HR.out HR'.out)))
      go_wp2
      go_roundw
      case rel => exact ⟨k + 1, m + nq, by omega, by go_num, rfl⟩
      case measure => simp [intOf]; omega
    · go_wp2
      go_ret
      exact ⟨rfl, m, rfl⟩
end Go.Proofs.Ytldbljflppjanaa
