/-
  The reference's l1Own: a copy in memory of its own. No condition but on sizes.
-/
import Derived.Test.YtdghoienjegffaaGreatQZ
import Derived.Lib.AppendZeros
namespace Go.Proofs.YtdghoienjegffaaGreat
open Go.RowKit
set_option linter.all false
theorem run_append_nil0 {P : Program} (w : World) (t ty e : TypeId) (i : TypeInfo) (ht : P.underlying t = some (.slice e)) (hi : P.info? e = some i) (g n c m : Nat) (hc : n ≤ c) :
    (Builtin.append_ #[t, t] ty #[.slice (some ⟨g, 0, none⟩) n c, .slice none 0 m]).run P w = .ok (.slice (some ⟨g, 0, none⟩) n c) w := by
  simp [Builtin.append_, run_underlying ht, sizeOf, typeInfo, hi, Builtin.lenOf, Builtin.firstCells, loadCells, loadCellsFrom, storeCells, hc]
def OwnPost (xs : List Int) (w : World) (e : Ending) (w' : World) : Prop :=
  ∃ v, e = .returned v ∧ w'.ownsRow w.heap.size 3 1 v xs.length (xs.map intV) ∧ Below w.heap.size w w'
theorem spec_l1Own (v : Value) (xs : List Int) (w : World) (h : IntsR w w.heap.size v xs) (hn : xs.length ≤ 2000000) :
  Calls Tryz.prog 31 #[v] w (OwnPost xs w) := by
 have h64 := h.2
 obtain ⟨A, c, rfl, h1, h2, h3⟩ := h.open_
 have H64 := Lib.hid h64; clear h64 h
 have hown := World.ownsRow_made (base := w.heap.size) (e := 3) (size := 1) w #[] 0 (Nat.le_refl _) (Nat.zero_le _) (by simp)
 have hb0 := bl_alloc (Below.refl w.heap.size w) (.cells #[] 3)
 obtain ⟨i, hi, hz0, hz1, hz2⟩ := info_parts intInfo
 by_cases h0 : xs.length = 0
 ·
  obtain rfl : xs = [] := List.eq_nil_of_length_eq_zero h0
  have fin : OwnPost [] w (.returned (.slice (some ⟨w.heap.size, 0, none⟩) 0 0)) (w.alloc (.cells #[] 3)) := by
   exact ⟨_, rfl, hown, hb0⟩
  have FIN := Lib.hid fin; clear fin
  clear h3 h0
  cases A with
  | none =>
   have hr := fun ty W => run_append_nil0 (P := Tryz.prog) W 25 ty 3 i Tryz.underlying25 hi w.heap.size 0 0 c (Nat.zero_le _)
   have HR := Lib.hid hr; clear hr
   clear hown hi hz0 hz1 hz2
   simp only [List.length_nil]
   go_enter Tryz.func31, Tryz.ntmps31
   go_wp2_with (at_builtin; refine Lib.wpList_append_run _ rfl _ _ _ _ rfl _ _ rfl rfl _ _ (HR.out _ _) ?_)
   go_ret
   exact FIN.out
  | some ad =>
   have HI := Lib.hid hi; clear hi
   have HO := Lib.hid hown; clear hown
   have Z0 := Lib.hid hz0; clear hz0
   have Z1 := Lib.hid hz1; clear hz1
   have Z2 := Lib.hid hz2; clear hz2
   simp only [List.length_nil]
   go_enter Tryz.func31, Tryz.ntmps31
   go_wp2_with (at_builtin; refine wpList_append_own_at _ rfl _ _ 25 rfl w.heap.size 3 i _ 1 8 Tryz.underlying25 HI.out Z0.out Z1.out Z2.out rfl (by decide) _ _ _ rfl HO.out ad 0 c [] rfl (by simp) (fun j u hj => by simp at hj) (fun u hu => by cases hu) (by unfold maxLen; omega) (by omega) (by simp) ?_; intro v' w1 hown1 hgrow hnil hat)
   go_ret
   exact ⟨_, rfl, by simpa using hown1, hb0.grown hgrow (by simp) (fun k hk => by have e := Option.some.inj (show some w.heap.size = some k from hk); omega)⟩
 ·
  obtain ⟨ad, rfl, hb, hc⟩ := h3 (by omega)
  have HN := Lib.hid (show ∀ j u, (xs.map intV)[j]? = some u → (w.alloc (.cells #[] 3)).cell? (ad.add j) = some u from fun j u hu => by
   rw [List.getElem?_map] at hu
   obtain ⟨x, hx, rfl⟩ := Option.map_eq_some_iff.1 hu
   exact Lib.cell?_alloc_some _ (hc j x hx))
  have H1 := Lib.hid (show ∀ u ∈ xs.map intV, u.oneCell' = true from fun u hu => by
   obtain ⟨x, _, rfl⟩ := List.mem_map.1 hu
   rfl)
  have HI := Lib.hid hi; clear hi
  have HO := Lib.hid hown; clear hown
  have Z0 := Lib.hid hz0; clear hz0
  have Z1 := Lib.hid hz1; clear hz1
  have Z2 := Lib.hid hz2; clear hz2
  clear hc h3 h0
  go_enter Tryz.func31, Tryz.ntmps31
  go_wp2_with (at_builtin; refine wpList_append_own_at _ rfl _ _ 25 rfl w.heap.size 3 i _ 1 8 Tryz.underlying25 HI.out Z0.out Z1.out Z2.out rfl (by decide) _ _ _ rfl HO.out ad xs.length c (xs.map intV) rfl (by simp) HN.out H1.out (by unfold maxLen; omega) (by omega) (by simp) ?_; intro v' w1 hown1 hgrow hnil hat)
  go_ret
  exact ⟨_, rfl, by simpa using hown1, hb0.grown hgrow (by simp) (fun k hk => by have e := Option.some.inj (show some w.heap.size = some k from hk); omega)⟩
end Go.Proofs.YtdghoienjegffaaGreat
