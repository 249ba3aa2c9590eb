/-
  From the reading of an argument (an item, a slice of items) to what the walks ask of memory. No condition.
-/
import Derived.Test.YtkbkbjcpblajjaaGreatDoorRows
import Derived.Test.YtkbkbjcpblajjaaGreatDoorKit
import Derived.Test.YtkbkbjcpblajjaaGreatDoorMem
import Derived.Test.YtkbkbjcpblajjaaGreatDoorOpen
import Derived.Test.YtkbkbjcpblajjaaGreatDoorItem
import Derived.Test.YtkbkbjcpblajjaaGreatDoorStoreAll
import Derived.ProofKit
import Derived.OpenShut
import Derived.Deep.Slices
import Derived.Deep.Fields
namespace Go.Proofs.YtkbkbjcpblajjaaGreatDoor
open Go.RowKit Go.ChangeShapes Go.WideShapes Go.Deep
set_option linter.unusedVariables false
set_option linter.unusedSimpArgs false
/-- What the walks ask of an item beside its reading. -/
def ItemW (x : Item) : Prop := x.nm.size ≤ maxLen ∧ I64 x.lb ∧ I64 x.cl
section
variable {H : Type} {enc : TypeId × Value → H} {w : World} {base : Nat} {spare : Nat → Bool} {held : Bool}
set_option maxRecDepth 100000 in
theorem item_of_trod {fuel : Nat} {cs : List Value} {x : DataW H × List MemPlace} (h : DataW.trod enc Tryz.prog w base spare held fuel 30 cs = some x) :
    ∃ it va vf vs vr, cs = itemL it va vf vs vr ∧ ItemR w w.heap.size it va vf vs vr ∧ ItemW it := by
  obtain ⟨ys, n, _, _, hl, hlen, hg⟩ := DataW.trod_struct Tryz.underlying30 h
  have h8 : cs.length = 8 := hl.trans (by kernel_rfl)
  match cs, h8 with
  | [c0, c1, c2, c3, c4, c5, c6, c7], _ =>
    match ys, hlen with
    | [y0, y1, y2], _ =>
      have s1 : Tryz.prog.cellsOf 9 = 1 := by kernel_rfl
      have s2 : Tryz.prog.cellsOf 25 = 2 := by kernel_rfl
      have s3 : Tryz.prog.cellsOf 28 = 5 := by kernel_rfl
      have s4 : Tryz.prog.cellsOf 3 = 1 := by kernel_rfl
      have s5 : Tryz.prog.cellsOf 23 = 1 := by kernel_rfl
      have s6 : Tryz.prog.cellsOf 26 = 1 := by kernel_rfl
      have g0 : DataW.trod enc Tryz.prog w base spare held n 9 [c0] = some y0 := by simpa [s1] using hg 0 _ rfl
      have g1 : DataW.trod enc Tryz.prog w base spare held n 25 [c1, c2] = some y1 := by simpa [s2] using hg 1 _ rfl
      have g2 : DataW.trod enc Tryz.prog w base spare held n 28 [c3, c4, c5, c6, c7] = some y2 := by simpa [s3] using hg 2 _ rfl
      obtain ⟨nm, e0, -, hnm⟩ := DataW.trod_string Tryz.underlying9 g0
      obtain ⟨zs, m, _, _, _, hlen1, hg1⟩ := DataW.trod_struct Tryz.underlying25 g1
      obtain ⟨us, q, _, _, _, hlen2, hg2⟩ := DataW.trod_struct Tryz.underlying28 g2
      match zs, hlen1 with
      | [z0, z1], _ =>
        match us, hlen2 with
        | [u0, u1, u2, u3, u4], _ =>
          have k0 : DataW.trod enc Tryz.prog w base spare held m 3 [c1] = some z0 := by simpa [s4] using hg1 0 _ rfl
          have k1 : DataW.trod enc Tryz.prog w base spare held m 23 [c2] = some z1 := by simpa [s5] using hg1 1 _ rfl
          have l0 : DataW.trod enc Tryz.prog w base spare held q 3 [c3] = some u0 := by simpa [s4] using hg2 0 _ rfl
          have l1 : DataW.trod enc Tryz.prog w base spare held q 3 [c4] = some u1 := by simpa [s4] using hg2 1 _ rfl
          have l2 : DataW.trod enc Tryz.prog w base spare held q 26 [c5] = some u2 := by simpa [s6] using hg2 2 _ rfl
          have l3 : DataW.trod enc Tryz.prog w base spare held q 26 [c6] = some u3 := by simpa [s6] using hg2 3 _ rfl
          have l4 : DataW.trod enc Tryz.prog w base spare held q 23 [c7] = some u4 := by simpa [s5] using hg2 4 _ rfl
          obtain ⟨pn, p0, -, wn⟩ := DataW.trod_int Tryz.underlying3 k0
          obtain ⟨va, xss, p1, hr⟩ := rows_of_trod Tryz.underlying23 Tryz.underlying26 Tryz.underlying3 (by kernel_rfl) (by kernel_rfl) k1
          obtain ⟨cl, p2, -, wcl⟩ := DataW.trod_int Tryz.underlying3 l0
          obtain ⟨lb, p3, -, wlb⟩ := DataW.trod_int Tryz.underlying3 l1
          obtain ⟨vf, f, p4, hf⟩ := ints_of_trod Tryz.underlying26 Tryz.underlying3 (by kernel_rfl) l2
          obtain ⟨vs, s, p5, hs⟩ := ints_of_trod Tryz.underlying26 Tryz.underlying3 (by kernel_rfl) l3
          obtain ⟨vr, rs, p6, hrr⟩ := rows_of_trod Tryz.underlying23 Tryz.underlying26 Tryz.underlying3 (by kernel_rfl) (by kernel_rfl) l4
          simp only [List.cons.injEq, and_true] at e0 p0 p1 p2 p3 p4 p5 p6
          subst e0 p0 p1 p2 p3 p4 p5 p6
          exact ⟨⟨nm, pn, xss, cl, lb, f, s, rs⟩, _, _, _, _, rfl, ⟨hr, hf, hs, hrr⟩, hnm, I64_of_wf wlb, I64_of_wf wcl⟩
set_option maxRecDepth 100000 in
theorem items_of_trod {fuel : Nat} {cs : List Value} {x : DataW H × List MemPlace} (h : DataW.trod enc Tryz.prog w base spare held fuel 22 cs = some x) :
    ∃ v xs, cs = [v] ∧ ItemsR w w.heap.size v xs ∧ ∀ x ∈ xs, ItemW x := by
  rcases open_slice Tryz.underlying22 h with ⟨rfl, _⟩ | ⟨a, len, cap, m, n, D, Pl, rfl, _, hl, hm, hmm, _, hi⟩
  · exact ⟨_, [], rfl, ⟨none, 0, rfl, Nat.le_refl _, Nat.zero_le _, fun h => absurd h (by simp)⟩, fun _ h => by cases h⟩
  · have hml : len ≤ m := by rw [hmm]; split <;> omega
    have each : ∀ k, k ≤ len → ∃ xs : List Item, xs.length = k ∧ (∀ x ∈ xs, ItemW x) ∧
        ∀ j x, xs[j]? = some x → ∃ va vf vs vr, (∀ i u, (itemL x va vf vs vr)[i]? = some u → w.cell? (a.add (j * 8 + i)) = some u) ∧ ItemR w w.heap.size x va vf vs vr := by
      intro k
      induction k with
      | zero => intro _; exact ⟨[], rfl, (fun _ h => by cases h), fun j x hx => by simp at hx⟩
      | succ k ih =>
        intro hk
        obtain ⟨xs, h1, h2, h3⟩ := ih (by omega)
        obtain ⟨cs', hcells, htr⟩ := hi k (by omega)
        rw [show Tryz.prog.cellsOf 30 = 8 by kernel_rfl] at hcells
        obtain ⟨it, va, vf, vs, vr, rfl, hr, hw⟩ := item_of_trod htr
        obtain ⟨_, _, hat⟩ := World.cells?_some hcells
        refine ⟨xs ++ [it], by simp [h1], ?_, ?_⟩
        · intro x hx
          rcases List.mem_append.1 hx with h | h
          · exact h2 x h
          · obtain rfl : x = it := by simpa using h
            exact hw
        · intro j x hx
          by_cases hj : j < xs.length
          · rw [List.getElem?_append_left hj] at hx
            exact h3 j x hx
          · rw [List.getElem?_append_right (by omega)] at hx
            obtain rfl : j = k := by
              have := (List.getElem?_eq_some_iff.1 hx).1
              simp at this
              omega
            rw [h1, Nat.sub_self] at hx
            obtain rfl : it = x := by simpa using hx
            refine ⟨va, vf, vs, vr, fun i u hu => ?_, hr⟩
            have hil : i < 8 := (List.getElem?_eq_some_iff.1 hu).1
            rw [← Go.Deep.add_add, hat i hil, hu]
    obtain ⟨xs, h1, h2, h3⟩ := each len (Nat.le_refl _)
    refine ⟨_, xs, rfl, ⟨some a, cap, by rw [h1], by rw [h1]; exact hl, hm, fun hn => ?_⟩, h2⟩
    obtain ⟨va, vf, vs, vr, hc, _⟩ := h3 0 (xs[0]) (List.getElem?_eq_getElem hn)
    have hc0 := hc 0 _ rfl
    have hlt := World.block_lt_of_cell? _ _ hc0
    rw [block_add] at hlt
    obtain ⟨b, o, sp⟩ := a
    have e0 : (⟨b, o, sp⟩ : Addr).add (0 * 8 + 0) = ⟨b, o, sp⟩ := by unfold Addr.add; simp
    rw [e0] at hc0
    have hsp : sp = none := by
      cases sp with
      | none => rfl
      | some q =>
        unfold World.cell? at hc0
        split at hc0 <;> simp at hc0
    subst hsp
    refine ⟨b, o, rfl, hlt, fun k x hx => ?_⟩
    obtain ⟨va, vf, vs, vr, hc, hr⟩ := h3 k x hx
    refine ⟨va, vf, vs, vr, fun j u hu => ?_, hr⟩
    have := hc j u hu
    have e1 : (⟨b, o, none⟩ : Addr).add (k * 8 + j) = ⟨b, o + k * 8 + j, none⟩ := by unfold Addr.add; split <;> simp_all; omega
    rwa [e1] at this
end
end Go.Proofs.YtkbkbjcpblajjaaGreatDoor
