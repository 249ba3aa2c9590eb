/-
  numbersTo; slices.IndexFunc and slices.DeleteFunc over numbers, for every predicate that may lay blocks of its own.
-/
import Derived.Test.YtdghoienjegffaaGreatQNetNextV
namespace Go.Proofs.YtdghoienjegffaaGreat
open Go.RowKit
set_option linter.all false
def numsL (n : Nat) : List Int := (List.range n).map fun (i : Nat) => (i : Int)
theorem numsL_len (n : Nat) : (numsL n).length = n := by simp [numsL]
theorem numsL_at {n k : Nat} (h : k < n) : (numsL n)[k]? = some (k : Int) := by simp [numsL, h]
def NumsRel (n : Nat) (w : World) (i : Value) (wr : World) : Prop := ∃ k : Nat, k ≤ n ∧ i = .int .i64 k ∧ wr = w.alloc (.cells (rowOf (((numsL n).take k).map intV) n (.int .i64 0)) 3)
theorem impl_numbersTo (n : Nat) (w : World) (hn : n ≤ 1048576) :
  Calls Tryz.prog 51 #[.int .i64 (n : Int)] w fun e w' => e = .returned (.slice (some ⟨w.heap.size, 0, none⟩) n n) ∧ w' = w.alloc (.cells ((numsL n).map intV).toArray 3) := by
 have hmk := fun W => run_make1 (P := Tryz.prog) 25 3 (.int .i64 0) 8 Tryz.underlying25 intInfo rfl n (by omega) (by omega) W
 go_enter Tryz.func51, Tryz.ntmps51
 go_wp2_with fail
 clear hmk
 go_loopw [9, 4] (fun i _ wr => NumsRel n w i wr) (fun i _ _ => n - (intOf i).toNat)
 case atStart => exact ⟨0, Nat.zero_le _, rfl, by simp⟩
 case round =>
  obtain ⟨k, hk, rfl, rfl⟩ := hrel
  by_cases hlt : k < n
  ·
   have hlen : (((numsL n).take k).map intV).length = k := by rw [List.length_map, List.length_take, numsL_len]; omega
   have HN := Lib.hid (show ((numsL n).take (k + 1)).map intV = ((numsL n).take k).map intV ++ [.int .i64 (k : Int)] by
    obtain ⟨hk', e⟩ := List.getElem?_eq_some_iff.1 (numsL_at hlt)
    rw [List.take_succ_eq_append_getElem hk', List.map_append, e]; rfl)
   generalize ((numsL n).take k).map intV = done at *
   have hset := Lib.hid (rowOf_set (done := done) (n := n) (z := .int .i64 0) (by omega) (.int .i64 (k : Int)))
   have hnext := rowOf_next (done := done) (n := n) (z := .int .i64 0) (by omega)
   obtain rfl := hlen
   generalize rowOf done n (.int .i64 0) = C at *
   have hcell2 : (w.alloc (.cells C 3)).cell? ⟨w.heap.size, done.length, none⟩ = some (.int .i64 0) := by rw [World.cell?_alloc_at _ _ _ _ rfl]; exact hnext
   clear hnext
   go_wp2_with fail
   go_roundw
   case rel => exact ⟨done.length + 1, by omega, by go_num, by rw [HN.out, ← hset.out]⟩
   case measure => simp [intOf]; omega
  ·
   have e1 : (numsL n).take k = numsL n := List.take_of_length_le (by rw [numsL_len]; omega)
   have e2 := rowOf_full ((numsL n).map intV) (.int .i64 0)
   rw [List.length_map, numsL_len] at e2
   rw [e1, e2]
   clear e1 e2
   go_wp2_with fail
   go_ret
   exact ⟨rfl, rfl⟩
def Tells (g : Nat) (lb : Array Value) (p : Int → Bool) (xs : List Int) (n₀ : Nat) (w : World) : Prop :=
  ∀ W x, x ∈ xs → Below n₀ w W → Calls Tryz.prog g (#[.int .i64 x] ++ lb) W fun e W' => e = .returned (.bool (p x)) ∧ Below W.heap.size W W'
theorem Tells.mono {g : Nat} {lb : Array Value} {p : Int → Bool} {xs : List Int} {n₀ : Nat} {w w' : World} (h : Tells g lb p xs n₀ w) (hb : Below n₀ w w') : Tells g lb p xs n₀ w' := fun W x hx hW => h W x hx (hb.trans hW)
def IxRel (p : Int → Bool) (xs : List Int) (w : World) (i : Value) (wr : World) : Prop := Below w.heap.size w wr ∧ ∃ k : Nat, k ≤ xs.length ∧ i = .int .i64 k ∧ PortTo p xs k
set_option maxRecDepth 100000 in
theorem index_ints (g : Nat) (lb : Array Value) (eg : ∀ args w, (callFunc g args).run Tryz.prog w = .ok (.enter g args) w) (p : Int → Bool) (v : Value) (xs : List Int) (w : World) (h : IntsR w w.heap.size v xs) (hl : xs.length ≤ 2000000)
  (n₀ : Nat) (hn : n₀ ≤ w.heap.size) (hp : Tells g lb p xs n₀ w) :
  Calls Tryz.prog 65 #[v, .func (.func g) #[] lb] w fun e w' => e = .returned (.int .i64 (portI p xs)) ∧ Below w.heap.size w w' := by
 obtain ⟨Ax, cx, rfl, h1, h2, h3⟩ := h.open_
 unfold maxLen at h2
 have HC := Lib.hid h3
 have HP := Lib.hid hp
 clear h h3 hp
 go_enter Tryz.func65, Tryz.ntmps65
 go_wp2_with fail
 go_loopw [5, 8] (fun _ i wr => IxRel p xs w i wr) (fun _ i _ => xs.length - (intOf i).toNat)
 case atStart => exact ⟨Below.refl _ _, 0, Nat.zero_le _, rfl, .start _ _⟩
 case round =>
  obtain ⟨hbl, k, hk, rfl, hto⟩ := hrel
  have HTO := Lib.hid hto; clear hto
  by_cases hlt : k < xs.length
  ·
   obtain ⟨x, hx⟩ : ∃ x, xs[k]? = some x := ⟨_, List.getElem?_eq_getElem hlt⟩
   obtain ⟨ad, rfl, hb, hc⟩ := HC.out (by omega)
   have hcx := (hbl.cell (p := ad.add k) (by rw [block_add]; exact hb)).trans (hc k x hx)
   have J := Lib.hid (HP.out wr x (List.mem_of_getElem? hx) (hbl.mono hn))
   have HX := Lib.hid hx
   clear hc hx
   cases hq : p x with
   | true =>
    rw [hq] at J
    have HH := Lib.hid (HTO.out.here HX.out hq)
    go_wp2_with (go_at_fn g; refine J.out.mono ?_; rintro e w' ⟨rfl, hb'⟩)
    go_ret
    exact ⟨ret_int HH.out.symm, bl_trans hbl hb'⟩
   | false =>
    rw [hq] at J
    have HH := Lib.hid (HTO.out.next HX.out hq)
    go_wp2_with (go_at_fn g; refine J.out.mono ?_; rintro e w' ⟨rfl, hb'⟩)
    go_roundw
    case rel => exact ⟨bl_trans hbl hb', k + 1, by omega, by go_num, HH.out⟩
    case measure => simp [intOf]; omega
  ·
   have HH := Lib.hid (HTO.out.fin (by omega))
   go_wp2_with fail
   go_ret
   exact ⟨ret_int HH.out.symm, hbl⟩
theorem heap_setCells {g : Nat} {t : TypeId} : ∀ (vs : List Value) (o : Nat) (w : World) (cs : List Value), w.heap[g]? = some (.cells cs.toArray t (0, 0)) → o + vs.length ≤ cs.length →
    (w.setCells g o vs).heap[g]? = some (.cells (cs.take o ++ vs ++ cs.drop (o + vs.length)).toArray t (0, 0))
  | [], o, w, cs, h, _ => by
    show w.heap[g]? = _
    rw [h, List.append_nil, List.length_nil, Nat.add_zero, List.take_append_drop]
  | v :: r, o, w, cs, h, hl => by
    have hl' : o + 1 + r.length ≤ cs.length := by simp only [List.length_cons] at hl; omega
    have h1 := heap_set_same (i := o) h v
    rw [List.setIfInBounds_toArray] at h1
    have h2 := heap_setCells r (o + 1) (w.setCell ⟨g, o, none⟩ v) (cs.set o v) h1 (by rw [List.length_set]; exact hl')
    show ((w.setCell ⟨g, o, none⟩ v).setCells g (o + 1) r).heap[g]? = _
    rw [h2]
    congr 3
    have e1 : (cs.set o v).take (o + 1) = cs.take o ++ [v] := by
      rw [List.take_set, List.take_succ_eq_append_getElem (by omega : o < cs.length)]
      rw [List.set_append_right _ _ (by rw [List.length_take]; omega)]
      rw [List.length_take, Nat.min_eq_left (by omega), Nat.sub_self]
      rfl
    have e2 : (cs.set o v).drop (o + 1 + r.length) = cs.drop (o + (v :: r).length) := by
      rw [List.drop_set_of_lt (by omega), List.length_cons]
      congr 1
      omega
    rw [e1, e2]
    simp
theorem below_cells {B g : Nat} (hg : B ≤ g) : ∀ (vs : List Value) (o : Nat) (w : World), Below B w (w.setCells g o vs)
  | [], _, w => Below.refl _ _
  | v :: r, o, w => ((Below.refl B w).setCell (p := ⟨g, o, none⟩) hg v).trans (below_cells hg r (o + 1) _)
def keepP (p : Int → Bool) (x : Int) : Bool := !p x
structure DlInv (p : Int → Bool) (xs zs : List Int) (i j : Nat) : Prop where
  len : zs.length = xs.length
  lt : i < j
  low : zs.take i = (xs.take j).filter (keepP p)
  high : zs.drop j = xs.drop j
theorem PortTo.filt {p : Int → Bool} {xs : List Int} {k : Nat} (h : PortTo p xs k) : (xs.take k).filter (keepP p) = xs.take k := by
  refine List.filter_eq_self.2 fun x hx => ?_
  obtain ⟨j, hj⟩ := List.mem_iff_getElem?.1 hx
  have hjl := (List.getElem?_eq_some_iff.1 hj).1
  rw [List.length_take] at hjl
  rw [List.getElem?_take_of_lt (by omega)] at hj
  unfold keepP
  rw [h j x (by omega) hj]
  rfl
theorem take_snoc {xs : List Int} {j : Nat} {x : Int} (h : xs[j]? = some x) : xs.take (j + 1) = xs.take j ++ [x] := by
  obtain ⟨hk, e⟩ := List.getElem?_eq_some_iff.1 h
  rw [List.take_succ_eq_append_getElem hk, e]
theorem DlInv.start {p : Int → Bool} {xs : List Int} {k : Nat} {x : Int} (h : PortTo p xs k) (hx : xs[k]? = some x) (hp : p x = true) : DlInv p xs xs k (k + 1) :=
  ⟨rfl, by omega, by rw [take_snoc hx, List.filter_append, h.filt]; unfold keepP; simp [hp], rfl⟩
theorem DlInv.at_ {p : Int → Bool} {xs zs : List Int} {i j : Nat} (h : DlInv p xs zs i j) (hj : j < xs.length) : zs[j]? = xs[j]? := by
  have := h.high
  have h1 : (zs.drop j)[0]? = (xs.drop j)[0]? := by rw [this]
  rw [List.getElem?_drop, List.getElem?_drop] at h1
  simpa using h1
theorem drop_next {zs xs : List Int} {j : Nat} (h : zs.drop j = xs.drop j) : zs.drop (j + 1) = xs.drop (j + 1) := by
  have : (zs.drop j).drop 1 = (xs.drop j).drop 1 := by rw [h]
  rwa [List.drop_drop, List.drop_drop] at this
theorem DlInv.skip {p : Int → Bool} {xs zs : List Int} {i j : Nat} {x : Int} (h : DlInv p xs zs i j) (hx : xs[j]? = some x) (hp : p x = true) : DlInv p xs zs i (j + 1) :=
  ⟨h.len, by have := h.lt; omega, by rw [take_snoc hx, List.filter_append, ← h.low]; unfold keepP; simp [hp], drop_next h.high⟩
theorem DlInv.keep {p : Int → Bool} {xs zs : List Int} {i j : Nat} {x : Int} (h : DlInv p xs zs i j) (hx : xs[j]? = some x) (hp : p x = false) : DlInv p xs (zs.set i x) (i + 1) (j + 1) := by
  have hjl := (List.getElem?_eq_some_iff.1 hx).1
  have hlt := h.lt
  have hil : i < zs.length := by rw [h.len]; omega
  refine ⟨by rw [List.length_set]; exact h.len, by omega, ?_, ?_⟩
  · rw [take_snoc hx, List.filter_append, ← h.low, take_snoc (x := x) (by rw [List.getElem?_set_self hil]), List.take_set_of_le (Nat.le_refl _)]
    unfold keepP
    simp [hp]
  · rw [List.drop_set_of_lt (by omega)]
    exact drop_next h.high
theorem DlInv.fin {p : Int → Bool} {xs zs : List Int} {i : Nat} (h : DlInv p xs zs i xs.length) : zs.take i = xs.filter (keepP p) := by
  have := h.low
  rwa [List.take_length] at this
def DlRel (p : Int → Bool) (xs : List Int) (B n₀ : Nat) (w : World) (iv jv : Value) (wr : World) : Prop :=
  ∃ (i j : Nat) (zs : List Int), iv = .int .i64 i ∧ jv = .int .i64 j ∧ j ≤ xs.length ∧ DlInv p xs zs i j ∧ wr.heap[B]? = some (.cells (zs.map intV).toArray 3 (0, 0)) ∧ Below n₀ w wr
def delRow (p : Int → Bool) (xs : List Int) : List Int := xs.filter (keepP p) ++ List.replicate (xs.length - (xs.filter (keepP p)).length) 0
def DlPost (p : Int → Bool) (xs : List Int) (B n₀ : Nat) (w : World) (e : Ending) (w' : World) : Prop :=
  e = .returned (.slice (some ⟨B, 0, none⟩) (xs.filter (keepP p)).length xs.length) ∧ w'.heap[B]? = some (.cells ((delRow p xs).map intV).toArray 3 (0, 0)) ∧ Below n₀ w w'
theorem row_slot {w : World} {B i : Nat} {zs : List Int} (h : w.heap[B]? = some (.cells (zs.map intV).toArray 3 (0, 0))) (hi : i < zs.length) : (∃ u, w.cell? ⟨B, i, none⟩ = some u) ∧ w.frozen? ⟨B, i, none⟩ = false := by
  refine ⟨?_, frozen_of_row _ _ i _ _ h⟩
  rw [cell_of_row _ _ i _ _ (0, 0) h]
  rw [List.getElem?_toArray, List.getElem?_map, List.getElem?_eq_getElem hi]
  exact ⟨_, rfl⟩
set_option maxRecDepth 100000 in
set_option maxHeartbeats 1000000 in
theorem delete_ints (g : Nat) (lb : Array Value) (eg : ∀ args w, (callFunc g args).run Tryz.prog w = .ok (.enter g args) w) (p : Int → Bool) (B : Nat) (xs : List Int) (w : World) (n₀ : Nat) (hn : n₀ ≤ B)
    (hrow : w.heap[B]? = some (.cells (xs.map intV).toArray 3 (0, 0))) (hx : ∀ x ∈ xs, I64 x) (hl : xs.length ≤ 2000000) (hp : Tells g lb p xs n₀ w) :
    Calls Tryz.prog 61 #[.slice (some ⟨B, 0, none⟩) xs.length xs.length, .func (.func g) #[] lb] w (DlPost p xs B n₀ w) := by
  have hBl : B < w.heap.size := (Array.getElem?_eq_some_iff.1 hrow).1
  have HI := Lib.hid (ints_row (B := w.heap.size) hrow (by unfold maxLen; omega) hx hBl)
  have HP := Lib.hid hp; clear hp
  have HROW := Lib.hid hrow; clear hrow
  go_enter Tryz.func61, Tryz.ntmps61
  go_wp2_with fail
  refine (index_ints g lb eg p _ xs w HI.out hl n₀ (by omega) HP.out).mono ?_
  rintro e w1 ⟨rfl, hb1⟩
  replace HROW := Lib.hid ((hb1.block B hBl).trans HROW.out)
  replace HP := Lib.hid (HP.out.mono (hb1.mono (by omega)))
  have hB1 : Below n₀ w w1 := hb1.mono (by omega)
  have hz1 := hb1.size
  clear hb1
  by_cases hall : PortTo p xs xs.length
  · have e1 : portI p xs = -1 := hall.fin (Nat.le_refl _)
    have hf := hall.filt
    rw [List.take_length] at hf
    rw [e1]
    have HF := Lib.hid hf; clear hf e1
    go_wp2_with fail
    go_ret
    refine ⟨by rw [HF.out]; rfl, ?_, hB1⟩
    unfold delRow
    rw [HF.out, Nat.sub_self, List.replicate_zero, List.append_nil]
    exact HROW.out
  · obtain ⟨k, x, hk, hxk, hpk, hto⟩ : ∃ (k : Nat) (x : Int), k < xs.length ∧ xs[k]? = some x ∧ p x = true ∧ PortTo p xs k := by
      cases hfi : xs.findIdx? p with
      | none =>
        refine absurd (fun j y hj hy => ?_) hall
        exact List.findIdx?_eq_none_iff.1 hfi y (List.mem_of_getElem? hy)
      | some k =>
        obtain ⟨h1, h2, h3⟩ := List.findIdx?_eq_some_iff_getElem.1 hfi
        exact ⟨k, xs[k], h1, List.getElem?_eq_getElem h1, h2, fun j y hj hy => by
          obtain ⟨hj', rfl⟩ := List.getElem?_eq_some_iff.1 hy
          simpa using h3 j hj⟩
    have e1 : portI p xs = k := hto.here hxk hpk
    rw [e1]
    have HST := Lib.hid (DlInv.start hto hxk hpk)
    have hk1 : ((k : Int) == -1) = false := by rw [beq_eq_false_iff_ne]; omega
    have hwk : IntKind.i64.wrap ((k : Int) + 1) = ((k + 1 : Nat) : Int) := by rw [show (k : Int) + 1 = ((k + 1 : Nat) : Int) by omega]; exact IntWalk.i64_in _ (by omega)
    clear e1 hall
    go_wp2_with fail
    go_loopw [5, 6, 7] (fun iv jv _ wr => DlRel p xs B n₀ w1 iv jv wr) (fun _ jv _ _ => xs.length - (intOf jv).toNat)
    case atStart => exact ⟨k, k + 1, xs, rfl, by simp, by omega, HST.out, HROW.out, Below.refl _ _⟩
    case round =>
      obtain ⟨i, j, zs, rfl, rfl, hj, hinv, hr, hbl⟩ := hrel
      have HV := Lib.hid hinv
      have hij := hinv.lt
      have hzl := hinv.len
      have HZ := Lib.hid hr
      have hBr : B < wr.heap.size := (Array.getElem?_eq_some_iff.1 hr).1
      clear hr
      by_cases hlt : j < xs.length
      · obtain ⟨y, hy⟩ : ∃ y, xs[j]? = some y := ⟨_, List.getElem?_eq_getElem hlt⟩
        have hcy : wr.cell? ⟨B, j, none⟩ = some (.int .i64 y) := by
          rw [cell_of_row _ _ j _ _ (0, 0) HZ.out]
          simp only [List.getElem?_toArray, List.getElem?_map, hinv.at_ hlt, hy]
          rfl
        have J := Lib.hid (HP.out wr y (List.mem_of_getElem? hy) hbl)
        have HY := Lib.hid hy
        clear hy hinv hzl
        cases hq : p y with
        | true =>
          rw [hq] at J
          have HH := Lib.hid (HV.out.skip HY.out hq)
          go_wp2_with (go_at_fn g; refine J.out.mono ?_; rintro e w' ⟨rfl, hb'⟩)
          go_roundw
          case rel => exact ⟨i, j + 1, zs, rfl, by go_num, by omega, HH.out, (hb'.block B hBr).trans HZ.out, hbl.trans (hb'.mono (by omega))⟩
          case measure => simp [intOf]; omega
        | false =>
          rw [hq] at J
          have HH := Lib.hid (HV.out.keep HY.out hq)
          have hil : i < zs.length := by have := HV.out.len; omega
          go_wp2_with (go_at_fn g; refine J.out.mono ?_; rintro e w' ⟨rfl, hb'⟩; obtain ⟨⟨u0, hu0⟩, hf0⟩ := row_slot ((hb'.block B hBr).trans HZ.out) hil)
          have HZ2 := Lib.hid ((hb'.block B hBr).trans HZ.out)
          go_roundw
          case rel =>
            refine ⟨i + 1, j + 1, zs.set i y, by go_num, by go_num, by omega, HH.out, ?_, (hbl.trans (hb'.mono (by omega))).setCell (p := ⟨B, i, none⟩) hn _⟩
            have := heap_set_same (i := i) HZ2.out (.int .i64 y)
            rw [List.setIfInBounds_toArray] at this
            rw [List.map_set]
            exact this
          case measure => simp [intOf]; omega
      · obtain rfl : j = xs.length := by omega
        have hcl : ∀ ty, (Builtin.clear_ #[25] ty #[.slice (some ⟨B, i, none⟩) (xs.length - i) (xs.length - i)]).run Tryz.prog wr = .ok (.tuple #[]) (wr.setCells B i (List.replicate (xs.length - i) (.int .i64 0))) := fun ty =>
          Lib.run_clear_slice wr _ _ ty _ Tryz.underlying25 Tryz.zeroValue3 rfl rfl B i _ _ (by omega) (fun t ht => by
            obtain ⟨⟨u, hu⟩, -⟩ := row_slot (i := i + t) HZ.out (by omega)
            rw [hu]; rfl) (fun t ht => frozen_of_row _ _ _ _ _ HZ.out)
        have hfin := hinv.fin
        have hfl : (xs.filter (keepP p)).length = i := by rw [← hfin, List.length_take]; omega
        have hh := heap_setCells (List.replicate (xs.length - i) (.int .i64 0)) i wr (zs.map intV) HZ.out (by rw [List.length_replicate, List.length_map]; omega)
        have HH := Lib.hid (show (wr.setCells B i (List.replicate (xs.length - i) (.int .i64 0))).heap[B]? = some (.cells ((delRow p xs).map intV).toArray 3 (0, 0)) by
          rw [hh]
          have e : (zs.map intV).take i ++ List.replicate (xs.length - i) (.int .i64 0) ++ (zs.map intV).drop (i + (List.replicate (xs.length - i) (Value.int .i64 0)).length) = (delRow p xs).map intV := by
            rw [List.drop_of_length_le (by rw [List.length_map, List.length_replicate]; omega), List.append_nil]
            unfold delRow
            rw [List.map_append, hfl, List.map_replicate, ← hfin, List.map_take]
            rfl
          rw [e])
        have HFL := Lib.hid hfl
        clear hh hfin hfl hinv hzl
        go_wp2_with fail
        go_ret
        exact ⟨by rw [HFL.out]; rfl, HH.out, hB1.trans (hbl.trans (below_cells hn _ _ _))⟩
end Go.Proofs.YtdghoienjegffaaGreat
