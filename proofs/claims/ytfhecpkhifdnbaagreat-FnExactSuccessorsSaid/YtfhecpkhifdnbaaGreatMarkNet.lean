/-
  The laws' own functions that write into memory and read it again: markIntS, heldIntS, markNetwork; for rows that lie in blocks of their own.
-/
import Derived.Test.YtfhecpkhifdnbaaGreatNetSit
namespace Go.Proofs.YtfhecpkhifdnbaaGreat
open Go.RowKit
set_option linter.unusedVariables false
set_option linter.unusedSimpArgs false

/-- The numbers from k on, n of them. -/
def seqI (k : Int) (n : Nat) : List Int := (List.range n).map fun (i : Nat) => k + (i : Int)
theorem seqI_len (k : Int) (n : Nat) : (seqI k n).length = n := by simp [seqI]
theorem seqI_at (k : Int) (n j : Nat) (h : j < n) : (seqI k n)[j]? = some (k + (j : Int)) := by simp [seqI, h]
theorem seqI_I64 {k : Int} {n : Nat} (h0 : 0 ≤ k) (h1 : k + n ≤ 9000000000000000000) : ∀ x ∈ seqI k n, I64 x := by
  intro x hx
  obtain ⟨i, hi, rfl⟩ := List.mem_map.1 hx
  have := List.mem_range.1 hi
  unfold I64
  omega
def setsI (cur : Array Value) (k : Int) : Nat → Array Value
  | 0 => cur
  | j + 1 => (setsI cur k j).setIfInBounds j (.int .i64 (k + (j : Int)))
theorem setsI_size (cur : Array Value) (k : Int) : ∀ j, (setsI cur k j).size = cur.size
  | 0 => rfl
  | j + 1 => by rw [setsI, Array.size_setIfInBounds, setsI_size cur k j]
theorem setsI_at (cur : Array Value) (k : Int) (i : Nat) (hi : i < cur.size) : ∀ j, (setsI cur k j)[i]? = if i < j then some (.int .i64 (k + (i : Int))) else cur[i]?
  | 0 => by simp [setsI]
  | j + 1 => by
    rw [setsI]
    by_cases h : i = j
    · subst h
      rw [Array.getElem?_setIfInBounds_self_of_lt (by rw [setsI_size]; exact hi), if_pos (by omega)]
    · rw [Array.getElem?_setIfInBounds_ne (fun e => h e.symm), setsI_at cur k i hi j]
      by_cases h2 : i < j
      · rw [if_pos h2, if_pos (by omega)]
      · rw [if_neg h2, if_neg (by omega)]
theorem setsI_take (cur : Array Value) (k : Int) (n : Nat) (h : n ≤ cur.size) : (setsI cur k n).toList.take n = (seqI k n).map intV := by
  apply List.ext_getElem?
  intro i
  rw [List.getElem?_take]
  by_cases hi : i < n
  · rw [if_pos hi, Array.getElem?_toList, setsI_at cur k i (by omega), if_pos hi, List.getElem?_map, seqI_at k n i hi]
    rfl
  · rw [if_neg hi, List.getElem?_eq_none (by simp [seqI_len]; omega)]
theorem SameBut.refl (bs : List Nat) (w : World) : SameBut bs w w := ⟨rfl, rfl, rfl, rfl, fun _ _ => rfl⟩
theorem SameBut.trans {bs : List Nat} {a b c : World} (h : SameBut bs a b) (k : SameBut bs b c) : SameBut bs a c :=
  ⟨k.os.trans h.os, k.tape.trans h.tape, k.output.trans h.output, k.size.trans h.size, fun x hx => (k.block x hx).trans (h.block x hx)⟩
theorem SameBut.mono {bs bs' : List Nat} {a b : World} (h : SameBut bs a b) (hs : ∀ x ∈ bs, x ∈ bs') : SameBut bs' a b :=
  ⟨h.os, h.tape, h.output, h.size, fun x hx => h.block x fun hm => hx (hs x hm)⟩
def MkRel (g : Nat) (cur : Array Value) (e : TypeId) (k : Int) (n : Nat) (w : World) (kv i : Value) (wr : World) : Prop :=
  ∃ j : Nat, j ≤ n ∧ i = .int .i64 j ∧ kv = .int .i64 (k + (j : Int)) ∧ wr.heap[g]? = some (.cells (setsI cur k j) e (0, 0)) ∧ SameBut [g] w wr
theorem mark_IntS (v : Value) (xs : List Int) (bs : List Nat) (k : Int) (w : World) (h : OwnInts w 3 v xs bs) (h0 : 0 ≤ k) (h1 : k + xs.length ≤ 1000000000000) :
    Calls Tryz.prog 33 #[v, .int .i64 k] w fun e w' => e = .returned (.int .i64 (k + xs.length)) ∧ OwnInts w' 3 v (seqI k xs.length) bs ∧ SameBut bs w w' := by
  have hI := seqI_I64 (k := k) (n := xs.length) h0 (by omega)
  have HI := Lib.hid hI; clear hI
  rcases h.1 with ⟨hx, rfl, A, c, rfl, hc⟩ | ⟨g, c, cur, e1, h2, h3, h4, h5, h6, h7⟩
  · have hx' : xs = [] := by simpa using hx
    subst hx'
    clear hx
    have HO := Lib.hid (show OwnInts w 3 (.slice A 0 c) (seqI k 0) [] from ⟨.inl ⟨rfl, rfl, A, c, rfl, hc⟩, fun _ h => by cases h⟩)
    unfold maxLen at hc
    go_enter Tryz.func33, Tryz.ntmps33
    go_wp2
    go_loopw [1, 5] (fun kv i wr => w = wr ∧ kv = .int .i64 k ∧ i = .int .i64 0) (fun _ _ _ => 0)
    case atStart => exact ⟨rfl, rfl, rfl⟩
    case round =>
      obtain ⟨rfl, rfl, rfl⟩ := hrel
      go_wp2
      go_ret
      exact ⟨by simp, HO.out, SameBut.refl _ _⟩
  · rw [List.length_map] at e1 h2 h6
    subst e1 h7
    unfold maxLen at h3
    have HB := Lib.hid h4; clear h4
    have H5 := Lib.hid h5; clear h5
    clear h6 h
    go_enter Tryz.func33, Tryz.ntmps33
    go_wp2
    go_loopw [1, 5] (fun kv i wr => MkRel g cur 3 k xs.length w kv i wr) (fun _ i _ => xs.length - (intOf i).toNat)
    case atStart => exact ⟨0, Nat.zero_le _, rfl, by simp, HB.out, SameBut.refl _ _⟩
    case round =>
      obtain ⟨j, hj, rfl, rfl, hblk, hsame⟩ := hrel
      have HK := Lib.hid hblk
      by_cases hlt : j < xs.length
      · obtain ⟨old, hold⟩ : ∃ u, wr.cell? ⟨g, j, none⟩ = some u := by
          rw [cell_of_row wr _ j _ _ (0, 0) hblk, Array.getElem?_eq_getElem (by rw [setsI_size, H5.out]; omega)]
          exact ⟨_, rfl⟩
        have hfr : wr.frozen? ⟨g, j, none⟩ = false := by unfold World.frozen?; rw [hblk]; simp
        clear hblk
        go_wp2
        go_roundw
        case rel =>
          refine ⟨j + 1, by omega, by go_num, by go_num, heap_set_same HK.out _, hsame.trans ⟨rfl, rfl, rfl, size_setCell _ _ _, fun b hb => Below.heap_setCell _ _ _ _ (by simpa using hb)⟩⟩
        case measure => simp [intOf]; omega
      · obtain rfl : j = xs.length := by omega
        clear hblk
        go_wp2
        go_ret
        exact ⟨rfl, ⟨.inr ⟨g, c, _, by rw [List.length_map, seqI_len], by rw [List.length_map, seqI_len]; exact h2, by unfold maxLen; omega, HK.out, by rw [setsI_size]; exact H5.out, by rw [List.length_map, seqI_len]; exact setsI_take cur k _ (by rw [H5.out]; exact h2), rfl⟩, HI.out⟩, hsame⟩
def HdRel (k : Int) (n : Nat) (w : World) (kv i : Value) (wr : World) : Prop := w = wr ∧ ∃ j : Nat, j ≤ n ∧ i = .int .i64 j ∧ kv = .int .i64 (k + (j : Int))
theorem held_IntS (v : Value) (n : Nat) (k : Int) (w : World) (h : IntsR w w.heap.size v (seqI k n)) (h0 : 0 ≤ k) (h1 : k + n ≤ 1000000000000) :
    Calls Tryz.prog 34 #[v, .int .i64 k] w fun e w' => e = .returned (.int .i64 (k + n)) ∧ w = w' := by
  obtain ⟨A, c, rfl, g1, g2, g3⟩ := h.open_
  rw [seqI_len] at g1 g3
  rw [seqI_len]
  unfold maxLen at g2
  clear h
  go_enter Tryz.func34, Tryz.ntmps34
  go_wp2
  go_loopw [1, 5] (fun kv i wr => HdRel k n w kv i wr) (fun _ i _ => n - (intOf i).toNat)
  case atStart => exact ⟨rfl, 0, Nat.zero_le _, rfl, by simp⟩
  case round =>
    obtain ⟨rfl, j, hj, rfl, rfl⟩ := hrel
    by_cases hlt : j < n
    · obtain ⟨ad, rfl, hb, hc⟩ := g3 (by omega)
      have hcell := hc j _ (seqI_at k n j hlt)
      clear g3 hc
      go_wp2
      go_roundw
      case rel => exact ⟨rfl, j + 1, by omega, by go_num, by go_num⟩
      case measure => simp [intOf]; omega
    · obtain rfl : j = n := by omega
      go_wp2
      go_ret
      exact ⟨rfl, rfl⟩
/-! ### Networks: what is written, nothing of what is said -/
/-- Cells alone have been written, in blocks of S alone. -/
structure Wrote (S : Nat → Prop) (w w' : World) : Prop where
  os : w'.os = w.os
  tape : w'.tape = w.tape
  output : w'.output = w.output
  size : w'.heap.size = w.heap.size
  block : ∀ b : Nat, ¬ S b → w'.heap[b]? = w.heap[b]?
  cells : ∀ (b : Nat) (cur : Array Value) (t : TypeId) (f : Nat × Nat), w.heap[b]? = some (Obj.cells cur t f) → ∃ cur' : Array Value, w'.heap[b]? = some (Obj.cells cur' t f) ∧ cur'.size = cur.size
theorem Wrote.refl (S : Nat → Prop) (w : World) : Wrote S w w := ⟨rfl, rfl, rfl, rfl, fun _ _ => rfl, fun b cur t f h => ⟨cur, h, rfl⟩⟩
theorem Wrote.trans {S : Nat → Prop} {a b c : World} (h : Wrote S a b) (k : Wrote S b c) : Wrote S a c :=
  ⟨k.os.trans h.os, k.tape.trans h.tape, k.output.trans h.output, k.size.trans h.size, fun x hx => (k.block x hx).trans (h.block x hx), fun x cur t f hc => by
    obtain ⟨cur1, h1, e1⟩ := h.cells x cur t f hc
    obtain ⟨cur2, h2, e2⟩ := k.cells x cur1 t f h1
    exact ⟨cur2, h2, e2.trans e1⟩⟩
theorem Wrote.set {S : Nat → Prop} {w : World} {g i : Nat} (v : Value) (hg : S g) : Wrote S w (w.setCell ⟨g, i, none⟩ v) :=
  ⟨rfl, rfl, rfl, size_setCell _ _ _, fun b hb => Below.heap_setCell _ _ _ _ (by intro e; exact hb (by rw [e]; exact hg)), fun b cur t f hc => by
    by_cases e : b = g
    · subst e
      exact ⟨cur.setIfInBounds i v, by simp [World.setCell, Array.getElem?_modify, hc], by simp⟩
    · exact ⟨cur, (Below.heap_setCell _ _ _ _ (by simpa using e)).trans hc, rfl⟩⟩
/-- A row of n ends that may be written. -/
def RowW (w : World) (S : Nat → Prop) (v : Value) (n : Nat) : Prop :=
  ∃ A c, v = .slice A n c ∧ n ≤ c ∧ c ≤ maxLen ∧ (0 < n → ∃ g cur, A = some ⟨g, 0, none⟩ ∧ S g ∧ w.heap[g]? = some (.cells cur 144 (0, 0)) ∧ n * 2 ≤ cur.size)
theorem RowW.wrote {w w' : World} {S T : Nat → Prop} {v : Value} {n : Nat} (h : RowW w S v n) (hw : Wrote T w w') : RowW w' S v n := by
  obtain ⟨A, c, rfl, h1, h2, h3⟩ := h
  refine ⟨A, c, rfl, h1, h2, fun hn => ?_⟩
  obtain ⟨g, cur, rfl, hS, hc, hz⟩ := h3 hn
  obtain ⟨cur', hc', hz'⟩ := hw.cells g cur _ _ hc
  exact ⟨g, cur', rfl, hS, hc', by rw [hz']; exact hz⟩
def MeRelW (n : Nat) (k : Int) (S : Nat → Prop) (w : World) (kv i : Value) (wr : World) : Prop :=
  ∃ j : Nat, j ≤ n ∧ i = .int .i64 j ∧ kv = .int .i64 (k + (j : Int) + (j : Int)) ∧ Wrote S w wr
set_option maxRecDepth 100000 in
theorem mark_EndS (v : Value) (n : Nat) (S : Nat → Prop) (k : Int) (w : World) (h : RowW w S v n) (h0 : 0 ≤ k) (h1 : k + n + n ≤ 1000000000000) :
    Calls Tryz.prog 144 #[v, .int .i64 k] w fun e w' => e = .returned (.int .i64 (k + n + n)) ∧ Wrote S w w' := by
  obtain ⟨A0, c, rfl, hc1, hc2, h3⟩ := h
  unfold maxLen at hc2
  have H3 := Lib.hid h3; clear h3
  go_enter Tryz.func144, Tryz.ntmps144
  go_wp2_with fail
  go_loopw [1, 5] (fun kv i wr => MeRelW n k S w kv i wr) (fun _ i _ => n - (intOf i).toNat)
  case atStart => exact ⟨0, Nat.zero_le _, rfl, by simp, Wrote.refl _ _⟩
  case round =>
    obtain ⟨j, hj, rfl, rfl, hw⟩ := hrel
    have HW := Lib.hid hw; clear hw
    by_cases hlt : j < n
    · obtain ⟨g, cur, rfl, hS, hcur, hcz⟩ := H3.out (by omega)
      obtain ⟨cur', hcur', hcz'⟩ := HW.out.cells g cur _ _ hcur
      obtain ⟨u0, hu0⟩ : ∃ u, wr.cell? ⟨g, j * 2, none⟩ = some u := by
        rw [cell_of_row wr _ (j * 2) _ _ (0, 0) hcur', Array.getElem?_eq_getElem (by omega)]
        exact ⟨_, rfl⟩
      have hfr : ∀ i, wr.frozen? ⟨g, i, none⟩ = false := fun i => frozen_of_row _ _ i _ _ hcur'
      obtain ⟨w1, hw1⟩ : ∃ z, z = wr.setCell ⟨g, j * 2, none⟩ (.int .i64 (k + (j : Int) + (j : Int))) := ⟨_, rfl⟩
      have hW1 : Wrote S wr w1 := by rw [hw1]; exact Wrote.set _ hS
      obtain ⟨cur2, hcur2, hcz2⟩ := hW1.cells g cur' _ _ hcur'
      obtain ⟨u1, hu1⟩ : ∃ u, w1.cell? ⟨g, j * 2 + 1, none⟩ = some u := by
        rw [cell_of_row w1 _ (j * 2 + 1) _ _ (0, 0) hcur2, Array.getElem?_eq_getElem (by omega)]
        exact ⟨_, rfl⟩
      have hfr1 : ∀ i, w1.frozen? ⟨g, i, none⟩ = false := fun i => frozen_of_row _ _ i _ _ hcur2
      rw [hw1] at hu1 hfr1
      have HX := Lib.hid (And.intro hw1 hW1); clear hw1 hW1 hcur hcur' hcur2
      have hq1 : IntKind.i64.wrap (k + (j : Int) + (j : Int) + 1) = k + (j : Int) + (j : Int) + 1 := IntWalk.i64_in _ (by omega)
      have hq2 : IntKind.i64.wrap (k + (j : Int) + (j : Int) + 1 + 1) = k + (j : Int) + (j : Int) + 1 + 1 := IntWalk.i64_in _ (by omega)
      go_wp2_with fail
      go_roundw
      case rel =>
        refine ⟨j + 1, by omega, by go_num, by congr 1; omega, HW.out.trans (HX.out.2.trans ?_)⟩
        rw [← HX.out.1]
        exact Wrote.set _ hS
      case measure => simp [intOf]; omega
    · obtain rfl : j = n := by omega
      go_wp2_with fail
      go_ret
      exact ⟨rfl, HW.out⟩
/-- Rows that may be written, behind headers that are not. -/
def RowsW (w : World) (base : Nat) (S : Nat → Prop) (v : Value) (ns : List Nat) : Prop :=
  ∃ A c, v = .slice A ns.length c ∧ ns.length ≤ c ∧ c ≤ maxLen ∧ (0 < ns.length → A = some ⟨base, 0, none⟩ ∧ ¬ S base ∧ ∀ i n, ns[i]? = some n → ∃ u, w.cell? ⟨base, i, none⟩ = some u ∧ RowW w S u n)
theorem sum_snoc {ns : List Nat} {j n : Nat} (h : ns[j]? = some n) : (ns.take (j + 1)).sum = (ns.take j).sum + n := by
  obtain ⟨hj, rfl⟩ := List.getElem?_eq_some_iff.1 h
  rw [List.take_succ_eq_append_getElem hj, List.sum_append]
  simp
theorem sum_split (ns : List Nat) (j : Nat) : ns.sum = (ns.take j).sum + (ns.drop j).sum := by
  rw [← List.sum_append, List.take_append_drop]
def MsRelW (ns : List Nat) (k : Int) (S : Nat → Prop) (w : World) (kv i : Value) (wr : World) : Prop :=
  ∃ j : Nat, j ≤ ns.length ∧ i = .int .i64 j ∧ kv = .int .i64 (k + ((ns.take j).sum : Nat) + ((ns.take j).sum : Nat)) ∧ Wrote S w wr
set_option maxRecDepth 100000 in
theorem mark_EndSS (v : Value) (ns : List Nat) (base : Nat) (S : Nat → Prop) (k : Int) (w : World) (h : RowsW w base S v ns) (h0 : 0 ≤ k) (h1 : k + ns.sum + ns.sum ≤ 1000000000) :
    Calls Tryz.prog 77 #[v, .int .i64 k] w fun e w' => e = .returned (.int .i64 (k + ns.sum + ns.sum)) ∧ Wrote S w w' := by
  obtain ⟨A0, c, rfl, hc1, hc2, h3⟩ := h
  unfold maxLen at hc2
  have H3 := Lib.hid h3; clear h3
  go_enter Tryz.func77, Tryz.ntmps77
  go_wp2_with fail
  go_loopw [1, 5] (fun kv i wr => MsRelW ns k S w kv i wr) (fun _ i _ => ns.length - (intOf i).toNat)
  case atStart => exact ⟨0, Nat.zero_le _, rfl, by simp, Wrote.refl _ _⟩
  case round =>
    obtain ⟨j, hj, rfl, rfl, hw⟩ := hrel
    have HW := Lib.hid hw; clear hw
    have hsp := sum_split ns j
    by_cases hlt : j < ns.length
    · obtain ⟨rfl, hS, hcs⟩ := H3.out (by omega)
      obtain ⟨n, hn⟩ : ∃ n, ns[j]? = some n := ⟨_, List.getElem?_eq_getElem hlt⟩
      obtain ⟨u, hu, hr⟩ := hcs j n hn
      have hu' := (World.cell?_of_block (a := ⟨base, j, none⟩) (HW.out.block base hS)).trans hu
      have HR := Lib.hid (hr.wrote HW.out); clear hr hcs hu
      have hss := sum_snoc hn
      have hsp2 := sum_split ns (j + 1)
      clear hn
      have HSS := Lib.hid hss; clear hss
      generalize (ns.take j).sum = t at *
      go_wp2_with fail
      refine (mark_EndS u n S (k + (t : Int) + (t : Int)) wr HR.out (by omega) (by have := HSS.out; omega)).mono ?_
      rintro e w1 ⟨rfl, hw1⟩
      have HW1 := Lib.hid hw1; clear hw1
      go_wp2_with fail
      go_roundw
      case rel => exact ⟨j + 1, by omega, by go_num, by rw [HSS.out]; congr 1; omega, HW.out.trans HW1.out⟩
      case measure => simp [intOf]; omega
    · obtain rfl : j = ns.length := by omega
      have HT := Lib.hid (show ns.take ns.length = ns from List.take_length)
      clear hsp
      go_wp2_with fail
      go_ret
      exact ⟨by rw [HT.out]; rfl, HW.out⟩
theorem RowW.keep {w w' : World} {S S' : Nat → Prop} {v : Value} {n : Nat} (h : RowW w S v n) (hS : ∀ b, S b → S' b) (hk : ∀ b, S b → w'.heap[b]? = w.heap[b]?) : RowW w' S' v n := by
  obtain ⟨A, c, rfl, h1, h2, h3⟩ := h
  refine ⟨A, c, rfl, h1, h2, fun hn => ?_⟩
  obtain ⟨g, cur, rfl, hs, hc, hz⟩ := h3 hn
  exact ⟨g, cur, rfl, hS g hs, (hk g hs).trans hc, hz⟩
theorem cell_lt {w : World} {g i : Nat} {u : Value} (h : w.cell? ⟨g, i, none⟩ = some u) : g < w.heap.size := by
  rcases Nat.lt_or_ge g w.heap.size with h' | h'
  · exact h'
  · simp [World.cell?, Array.getElem?_eq_none h'] at h
theorem RowsW.keep {w w' : World} {base hi : Nat} {v : Value} {ns : List Nat} (h : RowsW w base (fun b => base < b ∧ b < hi) v ns) (hh : hi ≤ w.heap.size) (hk : ∀ b, base ≤ b → b < w.heap.size → w'.heap[b]? = w.heap[b]?) : RowsW w' base (fun b => base < b ∧ b < hi) v ns := by
  obtain ⟨A, c, rfl, h1, h2, h3⟩ := h
  refine ⟨A, c, rfl, h1, h2, fun hn => ?_⟩
  obtain ⟨rfl, hS, hcs⟩ := h3 hn
  refine ⟨rfl, hS, fun i n hi' => ?_⟩
  obtain ⟨u, hu, hr⟩ := hcs i n hi'
  exact ⟨u, (World.cell?_of_block (a := ⟨base, i, none⟩) (hk base (Nat.le_refl _) (cell_lt hu))).trans hu, hr.keep (fun _ h => h) fun b h => hk b (by omega) (by omega)⟩
theorem RowsW.stretch {w : World} {base hi hi' : Nat} {v : Value} {ns : List Nat} (h : RowsW w base (fun b => base < b ∧ b < hi) v ns) (hh : hi ≤ hi') : RowsW w base (fun b => base < b ∧ b < hi') v ns := by
  obtain ⟨A, c, rfl, h1, h2, h3⟩ := h
  refine ⟨A, c, rfl, h1, h2, fun hn => ?_⟩
  obtain ⟨rfl, hS, hcs⟩ := h3 hn
  refine ⟨rfl, fun h => absurd h.1 (Nat.lt_irrefl _), fun i n hi' => ?_⟩
  obtain ⟨u, hu, hr⟩ := hcs i n hi'
  exact ⟨u, hu, hr.keep (fun b h => ⟨h.1, by omega⟩) fun _ _ => rfl⟩
/-- Numbers that may be written. -/
def IntsW (w : World) (S : Nat → Prop) (v : Value) (n : Nat) : Prop :=
  ∃ A c, v = .slice A n c ∧ n ≤ c ∧ c ≤ maxLen ∧ (0 < n → ∃ g cur, A = some ⟨g, 0, none⟩ ∧ S g ∧ w.heap[g]? = some (.cells cur 3 (0, 0)) ∧ n ≤ cur.size)
theorem IntsW.wrote {w w' : World} {S T : Nat → Prop} {v : Value} {n : Nat} (h : IntsW w S v n) (hw : Wrote T w w') : IntsW w' S v n := by
  obtain ⟨A, c, rfl, h1, h2, h3⟩ := h
  refine ⟨A, c, rfl, h1, h2, fun hn => ?_⟩
  obtain ⟨g, cur, rfl, hS, hc, hz⟩ := h3 hn
  obtain ⟨cur', hc', hz'⟩ := hw.cells g cur _ _ hc
  exact ⟨g, cur', rfl, hS, hc', by rw [hz']; exact hz⟩
def MiRelW (n : Nat) (k : Int) (S : Nat → Prop) (w : World) (kv i : Value) (wr : World) : Prop :=
  ∃ j : Nat, j ≤ n ∧ i = .int .i64 j ∧ kv = .int .i64 (k + (j : Int)) ∧ Wrote S w wr
theorem mark_IntW (v : Value) (n : Nat) (S : Nat → Prop) (k : Int) (w : World) (h : IntsW w S v n) (h0 : 0 ≤ k) (h1 : k + n ≤ 1000000000000) :
    Calls Tryz.prog 33 #[v, .int .i64 k] w fun e w' => e = .returned (.int .i64 (k + n)) ∧ Wrote S w w' := by
  obtain ⟨A0, c, rfl, hc1, hc2, h3⟩ := h
  unfold maxLen at hc2
  have H3 := Lib.hid h3; clear h3
  go_enter Tryz.func33, Tryz.ntmps33
  go_wp2_with fail
  go_loopw [1, 5] (fun kv i wr => MiRelW n k S w kv i wr) (fun _ i _ => n - (intOf i).toNat)
  case atStart => exact ⟨0, Nat.zero_le _, rfl, by simp, Wrote.refl _ _⟩
  case round =>
    obtain ⟨j, hj, rfl, rfl, hw⟩ := hrel
    have HW := Lib.hid hw; clear hw
    by_cases hlt : j < n
    · obtain ⟨g, cur, rfl, hS, hcur, hcz⟩ := H3.out (by omega)
      obtain ⟨cur', hcur', hcz'⟩ := HW.out.cells g cur _ _ hcur
      obtain ⟨u0, hu0⟩ : ∃ u, wr.cell? ⟨g, j, none⟩ = some u := by
        rw [cell_of_row wr _ j _ _ (0, 0) hcur', Array.getElem?_eq_getElem (by omega)]
        exact ⟨_, rfl⟩
      have hfr : wr.frozen? ⟨g, j, none⟩ = false := frozen_of_row _ _ j _ _ hcur'
      have hq1 : IntKind.i64.wrap (k + (j : Int) + 1) = k + (j : Int) + 1 := IntWalk.i64_in _ (by omega)
      clear hcur hcur'
      go_wp2_with fail
      go_roundw
      case rel => exact ⟨j + 1, by omega, by go_num, by congr 1; omega, HW.out.trans (Wrote.set _ hS)⟩
      case measure => simp [intOf]; omega
    · obtain rfl : j = n := by omega
      go_wp2_with fail
      go_ret
      exact ⟨rfl, HW.out⟩
end Go.Proofs.YtfhecpkhifdnbaaGreat
