/-
  A network marked: markNetwork writes into its own rows alone.
-/
import Derived.Test.YtfhecpkhifdnbaaGreatArgsNetW
namespace Go.Proofs.YtfhecpkhifdnbaaGreat
open Go.RowKit
set_option linter.unusedVariables false
set_option linter.unusedSimpArgs false
theorem IntsW.keep {w w' : World} {S : Nat → Prop} {v : Value} {n : Nat} (h : IntsW w S v n) (hk : ∀ b, S b → w'.heap[b]? = w.heap[b]?) : IntsW w' S v n := by
  obtain ⟨A, c, rfl, h1, h2, h3⟩ := h
  refine ⟨A, c, rfl, h1, h2, fun hn => ?_⟩
  obtain ⟨g, cur, rfl, hs, hc, hz⟩ := h3 hn
  exact ⟨g, cur, rfl, hs, (hk g hs).trans hc, hz⟩
theorem NetW.up {w w' : World} {g hi : Nat} {ve vi vn : Value} {n : Net} (h : NetW w g hi ve vi vn n) (hh : hi ≤ w.heap.size) (hb : Below w.heap.size w w') : NetW w' g hi ve vi vn n :=
  ⟨h.e.keep hh fun b _ h2 => hb.block b h2, h.i.keep fun b h2 => hb.block b (by omega), h.n.keep fun b h2 => hb.block b (by omega)⟩
theorem Wrote.cell {S : Nat → Prop} {w w' : World} {b i : Nat} (h : Wrote S w w') (hb : ¬ S b) : w'.cell? ⟨b, i, none⟩ = w.cell? ⟨b, i, none⟩ := World.cell?_of_block (a := ⟨b, i, none⟩) (h.block b hb)
theorem lens_sum (es : List Ends) : (es.map List.length).sum = lensE es := by
  induction es with
  | nil => rfl
  | cons x r ih => simp [lensE, ih]
/-- What marking leaves behind: what lies outside g < b < hi is as it was. -/
structure Marked (g hi : Nat) (w w' : World) : Prop where
  below : Below g w w'
  off : ∀ b, b < w.heap.size → ¬ (g < b ∧ b < hi) → w'.heap[b]? = w.heap[b]?
set_option maxRecDepth 100000 in
theorem mark_Net (ve vi vn : Value) (n : Net) (g hi : Nat) (k : Int) (w : World) (h : NetW w g hi ve vi vn n) (hh : hi ≤ w.heap.size) (hz : szNet n ≤ 1048576) (h0 : 0 ≤ k) (h1 : k ≤ 1000) (hg : g ≤ w.heap.size) :
    Calls Tryz.prog 32 #[.agg #[ve, vi, vn], .int .i64 k] w fun e w' => (∃ k', e = .returned (.int .i64 k') ∧ 0 ≤ k') ∧ Marked g hi w w' := by
  obtain ⟨he, hi', hn⟩ := h
  have hbd : lensE n.es ≤ 1048576 ∧ n.ids.length ≤ 1048576 ∧ n.ins.length ≤ 1048576 := by unfold szNet szEnds at hz; omega
  obtain ⟨hb0, hb1, hb2⟩ := hbd
  have hsm := lens_sum n.es
  have HSM := Lib.hid hsm; clear hsm
  have HE := Lib.hid he
  have HI := Lib.hid hi'
  have HJ := Lib.hid hn
  obtain ⟨A0, c0, rfl, -⟩ := he
  obtain ⟨A1, c1, rfl, -⟩ := hi'
  obtain ⟨A2, c2, rfl, -⟩ := hn
  generalize (n.es.map List.length).length = m0 at *
  obtain ⟨w0, hw0, hB, HD, hz0, HS0⟩ := box3 w (.slice A0 m0 c0) (.slice A1 n.ids.length c1) (.slice A2 n.ins.length c2) 31
  have HW0 := Lib.hid hw0; clear hw0
  obtain ⟨q0, q1, q2, qf⟩ := cells3 HD
  replace HE := Lib.hid (HE.out.keep hh fun b _ h2 => hB.block b h2)
  replace HI := Lib.hid (HI.out.keep fun b h2 => hB.block b (by omega))
  replace HJ := Lib.hid (HJ.out.keep fun b h2 => hB.block b (by omega))
  have hns : ¬ (g < w.heap.size ∧ w.heap.size < hi) := by omega
  generalize hS : (fun b => g < b ∧ b < hi) = S at *
  have hnS : ¬ S w.heap.size := by rw [← hS]; exact hns
  have HSS := Lib.hid hS; clear hS
  go_enter Tryz.func32, Tryz.ntmps32
  go_wp2_with fail
  rw [← HW0.out]
  refine (mark_EndSS _ _ g S k w0 HE.out h0 (by rw [HSM.out]; omega)).mono ?_
  rintro e w1 ⟨rfl, hw1⟩
  have p1 := (hw1.cell (i := 1) hnS).trans q1
  have p2 := (hw1.cell (i := 2) hnS).trans q2
  have HW1 := Lib.hid hw1; clear hw1 q0 q1 q2 qf
  rw [HSM.out]
  generalize lensE n.es = L at *
  go_wp2_with fail
  refine (mark_IntW _ n.ids.length S _ w1 (HI.out.wrote HW1.out) (by omega) (by omega)).mono ?_
  rintro e w2 ⟨rfl, hw2⟩
  have r2 := (hw2.cell (i := 2) hnS).trans p2
  have HW2 := Lib.hid hw2; clear hw2 p1 p2
  go_wp2_with fail
  refine (mark_IntW _ n.ins.length S _ w2 ((HJ.out.wrote HW1.out).wrote HW2.out) (by omega) (by omega)).mono ?_
  rintro e w3 ⟨rfl, hw3⟩
  have HW3 := Lib.hid hw3; clear hw3 r2
  go_wp2_with fail
  go_ret
  have hT := HW1.out.trans (HW2.out.trans HW3.out)
  refine ⟨⟨_, rfl, by omega⟩, ⟨?_, fun b hb hbS => (hT.block b (by rw [← HSS.out]; exact hbS)).trans (hB.block b hb)⟩⟩
  have hb := hB.mono hg
  exact ⟨hT.os.trans hb.os, hT.tape.trans hb.tape, hT.output.trans hb.output, by rw [hT.size]; exact hb.size, fun b h => (hT.block b (by rw [← HSS.out]; omega)).trans (hb.block b h)⟩
end Go.Proofs.YtfhecpkhifdnbaaGreat
