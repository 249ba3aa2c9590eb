/-
  Networks, the program's side: identifiers: copied, put in order, rising.
-/
import Derived.Test.YtfhecpkhifdnbaaGreatNetImpl
import Derived.Lib.OwnBridge
import Derived.Laws.OwnMore
namespace Go.Proofs.YtfhecpkhifdnbaaGreat
open Go.RowKit Go.Sort Go.Lib
set_option linter.unusedVariables false
set_option linter.unusedSimpArgs false
/-- Numbers that a slice reads as: where they lie. -/
theorem ints_cells {w : World} {ad : Addr} {xs : List Int} (h0 : 0 < xs.length) (h : ∀ j x, xs[j]? = some x → w.cell? (ad.add j) = some (.int .i64 x)) :
    ∃ b off, ad = ⟨b, off, none⟩ ∧ ∀ j, j < xs.length → w.cell? ⟨b, off + j, none⟩ = some (.int .i64 (xs.getD j 0)) := by
  obtain ⟨b, off, sp⟩ := ad
  have hs : sp = none := by
    have h1 := h 0 xs[0] (List.getElem?_eq_getElem h0)
    cases sp with
    | none => rfl
    | some s =>
      simp only [World.cell?, Addr.add] at h1
      split at h1 <;> simp at h1
  subst hs
  refine ⟨b, off, rfl, fun j hj => ?_⟩
  have h1 := h j xs[j] (List.getElem?_eq_getElem hj)
  rw [List.getD_eq_getElem?_getD, List.getElem?_eq_getElem hj, Option.getD_some, ← h1]
  rcases j with _ | j <;> simp [Addr.add]
theorem row_sl {w : World} {base n : Nat} {e : TypeId} {v : Value} {xs : List Value} (h : w.ownsRow base e 1 v n xs) : SlR w w.heap.size v xs := by
  have hl : xs.length = n := by simpa using h.1
  have hlt := h.lt
  rcases h.2 with ⟨rfl, e0⟩ | ⟨g, cap, cur, rfl, hb, hg, hn, hm, hs, ht⟩
  · exact ⟨none, 0, by rw [hl, e0], by omega, by unfold maxLen; omega, fun h => by omega⟩
  · refine ⟨some ⟨g, 0, none⟩, cap, by rw [hl], by omega, hm, fun _ => ⟨_, rfl, (hlt g rfl).2, fun j u hu => ?_⟩⟩
    have hj := (List.getElem?_eq_some_iff.1 hu).1
    have := h.cellAt j (by omega)
    rw [← hu, ← this]
    rcases j with _ | j <;> simp [Addr.add]
theorem below_grow (W : World) (os : Array Obj) : Below W.heap.size W (grow W os) :=
  ⟨rfl, rfl, rfl, by simp [grow], fun k hk => by simp only [grow]; rw [Array.getElem?_append_left hk]⟩
def RowPost (xs : List Int) (w : World) (e : Ending) (w' : World) : Prop := ∃ v', e = .returned v' ∧ w'.ownsRow w.heap.size 3 1 v' xs.length (xs.map (Value.int .i64)) ∧ (xs ≠ [] → v' ≠ .slice none 0 0) ∧ Below w.heap.size w w'
theorem impl_Clone (v : Value) (xs : List Int) (w : World) (h : IntsR w w.heap.size v xs) (hn : xs.length ≤ 2000000) : Calls Tryz.prog 193 #[v] w (RowPost xs w) := by
  obtain ⟨A, c, rfl, h1, h2, h3⟩ := h.open_
  by_cases h0 : xs.length = 0
  · obtain rfl : xs = [] := List.eq_nil_of_length_eq_zero h0
    cases A with
    | none =>
      refine (Tryz.slices_Clone_int_nil 0 c w).mono ?_
      rintro e w' ⟨rfl, rfl⟩
      exact ⟨_, rfl, World.ownsRow_nil _ _ _ _, fun h => absurd rfl h, Below.refl _ _⟩
    | some a =>
      refine (Tryz.slices_Clone_int_zero a c w).mono ?_
      rintro e w' ⟨v', rfl, k1, k2, k3⟩
      exact ⟨_, rfl, k1, fun _ => k2, k3⟩
  · obtain ⟨ad, rfl, hb, hc⟩ := h3 (by omega)
    obtain ⟨b, off, rfl, hcc⟩ := ints_cells (by omega) hc
    refine (Tryz.slices_Clone_int b off xs.length c xs w (Nat.le_refl _) (by omega) hcc).mono ?_
    rintro e w' ⟨v', rfl, k1, k2, k3⟩
    rw [List.take_length] at k1
    exact ⟨_, rfl, k1, fun _ => k2, k3⟩
theorem impl_Sort (v : Value) (xs : List Int) (base : Nat) (w : World) (h : w.ownsRow base 3 1 v xs.length (xs.map (Value.int .i64))) (hv : v ≠ .slice none 0 0) (hn : xs.length ≤ 2000000) :
    Calls Tryz.prog 142 #[v] w fun e w' => e = .returned (.tuple #[]) ∧ (∃ ys : List Int, ys.Perm xs ∧ ys.Pairwise (· ≤ ·) ∧ SlR w' w'.heap.size v (ys.map intV)) ∧ Below base w w' := by
  obtain ⟨g, cap, rfl, hg, hgl, hc, hm, -, hH⟩ := holds_of_ownsRow h hv
  refine (Tryz.slices_Sort_int g 0 cap xs w hH hgl (by omega)).mono ?_
  rintro e w' ⟨rfl, n, os, rfl⟩
  have hp := List.mergeSort_perm xs (fun x y => decide (x ≤ y))
  have ho := ownsRow_putRow (q := n) (k := xs.length) h (ys := xs.mergeSort fun x y => decide (x ≤ y)) (by rw [hp.length_eq]) (Nat.le_refl _)
  rw [List.take_of_length_le (by rw [hp.length_eq]; exact Nat.le_refl _)] at ho
  have hs := row_sl ho
  generalize hW : putRow (Value.int .i64) (Sort.ahead w n) g 0 (xs.mergeSort fun x y => decide (x ≤ y)).toArray = W at hs
  have hbW : Below base w W := by rw [← hW]; exact below_putRow (Below.refl _ _) hg
  have hbG : Below W.heap.size W (grow W os) := below_grow W os
  have hsz : base ≤ W.heap.size := by have := hbW.size; omega
  refine ⟨rfl, ⟨_, hp, ?_, (hs.below hbG).more hbG.size⟩, hbW.trans (hbG.mono hsz)⟩
  have := List.pairwise_mergeSort (le := fun x y : Int => decide (x ≤ y)) (fun a b c h1 h2 => by simp only [decide_eq_true_eq] at *; omega) (fun a b => by simp only [Bool.or_eq_true, decide_eq_true_eq]; omega) xs
  exact this.imp fun h => by simpa using h
theorem impl_idsOk (v : Value) (xs : List Int) (k : Nat) (w : World) (h : IntsR w w.heap.size v xs) (hn : xs.length ≤ 2000000) :
    Calls Tryz.prog 201 #[v, .int .i64 (k : Int)] w fun e w' => e = .returned (.bool (idsB xs k)) ∧ Below w.heap.size w w' := by
  have HH := Lib.hid h
  obtain ⟨A, c, rfl, h1, h2, h3⟩ := h.open_
  clear h h3
  by_cases h0 : xs.length = 0
  · obtain rfl : xs = [] := List.eq_nil_of_length_eq_zero h0
    go_enter Tryz.func201, Tryz.ntmps201
    go_wp2_with fail
    go_ret
    exact ⟨ret_bool (propB_t ⟨(fun _ h => by cases h), List.nodup_nil, .inl rfl⟩).symm, Below.refl _ _⟩
  · have HZ := Lib.hid h0
    have kq : (((xs.length : Nat) : Int) == (0 : Int)) = false := by rw [beq_eq_false_iff_ne]; omega
    clear h0
    go_enter Tryz.func201, Tryz.ntmps201
    go_wp2_with fail
    refine (impl_Clone _ xs w HH.out hn).mono ?_
    rintro e w1 ⟨v', rfl, ho, hv, hb1⟩
    have HB1 := Lib.hid hb1; clear hb1
    have HO := Lib.hid ho; clear ho
    have HV := Lib.hid hv; clear hv
    go_wp2_with fail
    refine (impl_Sort v' xs w.heap.size w1 HO.out (HV.out (fun e => HZ.out (by rw [e]; rfl))) hn).mono ?_
    rintro e w2 ⟨rfl, ⟨ys, hp, hs, hr⟩, hb2⟩
    have hb : Below w.heap.size w w2 := HB1.out.trans hb2
    have HB := Lib.hid hb; clear hb hb2
    have HP := Lib.hid hp; clear hp
    have HS := Lib.hid hs; clear hs
    have HR := Lib.hid hr; clear hr
    clear HB1 HO HV
    have HI := Lib.hid (ids_sorted (k := k) HP.out HS.out (fun e => HZ.out (by rw [e]; rfl)))
    by_cases hl : xs.length = k
    · have hx : riseB ys 1 999999 = idsB xs k := by
        unfold riseB idsB
        exact propB_congr ⟨fun h => HI.out.1 ⟨hl, h⟩, fun h => (HI.out.2 h).2⟩
      have HX := Lib.hid hx; clear hx HI
      subst hl
      go_wp2_with fail
      refine (impl_increasing v' ys 1 999999 w2 ⟨HR.out, fun x hx => HH.out.2 x (HP.out.mem_iff.1 hx)⟩).mono ?_
      rintro e w3 ⟨rfl, rfl⟩
      go_wp2_with fail
      go_ret
      exact ⟨ret_bool HX.out, HB.out⟩
    · have kq2 : (((xs.length : Nat) : Int) == (k : Int)) = false := by rw [beq_eq_false_iff_ne]; omega
      have HL := Lib.hid hl; clear hl
      go_wp2_with fail
      go_ret
      exact ⟨ret_bool (propB_f fun h => HL.out (HI.out.2 h).1).symm, HB.out⟩
end Go.Proofs.YtfhecpkhifdnbaaGreat
