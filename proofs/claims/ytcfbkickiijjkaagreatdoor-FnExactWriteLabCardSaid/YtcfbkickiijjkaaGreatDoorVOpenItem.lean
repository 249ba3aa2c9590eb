/-
  From the reading of an argument (an item, a slice of items) to what the walks ask of memory. No condition.
-/
import Derived.Test.YtcfbkickiijjkaaGreatDoorVOpen
import Derived.Test.YtcfbkickiijjkaaGreatDoorVStoreAll
namespace Go.Proofs.YtcfbkickiijjkaaGreatDoor
open Go.RowKit Go.ChangeShapes Go.WideShapes Go.Deep
set_option linter.all false
def ItemW (x : Item) : Prop := x.nm.size ≤ maxLen ∧ I64 x.lb ∧ I64 x.cl
section
variable {H : Type} {enc : TypeId × Value → H} {w : World} {base : Nat} {spare : Nat → Bool} {held : Bool}
set_option maxRecDepth 100000 in
theorem item_of_trod {fuel : Nat} {cs : List Value} {x : DataW H × List MemPlace} (h : DataW.trod enc Tryz.prog w base spare held fuel 45 cs = some x) :
  ∃ it va vf vs vr, cs = itemL it va vf vs vr ∧ ItemR w w.heap.size it va vf vs vr ∧ ItemW it := by
 obtain ⟨ys, n, _, _, hl, hlen, hg⟩ := DataW.trod_struct Tryz.underlying45 h
 have h8 : cs.length = 8 := hl.trans (by kernel_rfl)
 match cs, h8 with
 | [c0, c1, c2, c3, c4, c5, c6, c7], _ =>
  match ys, hlen with
  | [y0, y1, y2], _ =>
   have s1 : Tryz.prog.cellsOf 9 = 1 := by kernel_rfl
   have s2 : Tryz.prog.cellsOf 40 = 2 := by kernel_rfl
   have s3 : Tryz.prog.cellsOf 43 = 5 := by kernel_rfl
   have s4 : Tryz.prog.cellsOf 3 = 1 := by kernel_rfl
   have s5 : Tryz.prog.cellsOf 38 = 1 := by kernel_rfl
   have s6 : Tryz.prog.cellsOf 41 = 1 := by kernel_rfl
   have g0 : DataW.trod enc Tryz.prog w base spare held n 9 [c0] = some y0 := by simpa [s1] using hg 0 _ rfl
   have g1 : DataW.trod enc Tryz.prog w base spare held n 40 [c1, c2] = some y1 := by simpa [s2] using hg 1 _ rfl
   have g2 : DataW.trod enc Tryz.prog w base spare held n 43 [c3, c4, c5, c6, c7] = some y2 := by simpa [s3] using hg 2 _ rfl
   obtain ⟨nm, e0, -, hnm⟩ := DataW.trod_string Tryz.underlying9 g0
   obtain ⟨zs, m, _, _, _, hlen1, hg1⟩ := DataW.trod_struct Tryz.underlying40 g1
   obtain ⟨us, q, _, _, _, hlen2, hg2⟩ := DataW.trod_struct Tryz.underlying43 g2
   match zs, hlen1 with
   | [z0, z1], _ =>
    match us, hlen2 with
    | [u0, u1, u2, u3, u4], _ =>
     have k0 : DataW.trod enc Tryz.prog w base spare held m 3 [c1] = some z0 := by simpa [s4] using hg1 0 _ rfl
     have k1 : DataW.trod enc Tryz.prog w base spare held m 38 [c2] = some z1 := by simpa [s5] using hg1 1 _ rfl
     have l0 : DataW.trod enc Tryz.prog w base spare held q 3 [c3] = some u0 := by simpa [s4] using hg2 0 _ rfl
     have l1 : DataW.trod enc Tryz.prog w base spare held q 3 [c4] = some u1 := by simpa [s4] using hg2 1 _ rfl
     have l2 : DataW.trod enc Tryz.prog w base spare held q 41 [c5] = some u2 := by simpa [s6] using hg2 2 _ rfl
     have l3 : DataW.trod enc Tryz.prog w base spare held q 41 [c6] = some u3 := by simpa [s6] using hg2 3 _ rfl
     have l4 : DataW.trod enc Tryz.prog w base spare held q 38 [c7] = some u4 := by simpa [s5] using hg2 4 _ rfl
     obtain ⟨pn, p0, -, wn⟩ := DataW.trod_int Tryz.underlying3 k0
     obtain ⟨va, xss, p1, hr⟩ := rows_of_trod Tryz.underlying38 Tryz.underlying41 Tryz.underlying3 (by kernel_rfl) (by kernel_rfl) k1
     obtain ⟨cl, p2, -, wcl⟩ := DataW.trod_int Tryz.underlying3 l0
     obtain ⟨lb, p3, -, wlb⟩ := DataW.trod_int Tryz.underlying3 l1
     obtain ⟨vf, f, p4, hf⟩ := ints_of_trod Tryz.underlying41 Tryz.underlying3 (by kernel_rfl) l2
     obtain ⟨vs, s, p5, hs⟩ := ints_of_trod Tryz.underlying41 Tryz.underlying3 (by kernel_rfl) l3
     obtain ⟨vr, rs, p6, hrr⟩ := rows_of_trod Tryz.underlying38 Tryz.underlying41 Tryz.underlying3 (by kernel_rfl) (by kernel_rfl) l4
     simp only [List.cons.injEq, and_true] at e0 p0 p1 p2 p3 p4 p5 p6
     subst e0 p0 p1 p2 p3 p4 p5 p6
     exact ⟨⟨nm, pn, xss, cl, lb, f, s, rs⟩, _, _, _, _, rfl, ⟨hr, hf, hs, hrr⟩, hnm, I64_of_wf wlb, I64_of_wf wcl⟩
end
end Go.Proofs.YtcfbkickiijjkaaGreatDoor
