/-
  Which acts are possible, the reference's side: MayAsync; an act copied by the laws' own function.
-/
import Derived.Test.YtcpbbjocaimocaaGreatESyDo
namespace Go.Proofs.YtcpbbjocaimocaaGreat
open Go.RowKit
set_option linter.all false
theorem Did.slices {b : Bool} {w : World} {base : Nat} {xr xb xn xs xf ur ub un us uf : Value} {y : Asy} (h : Did b w base xr xb xn xs xf ur ub un us uf y) (h1 : ∃ A m c, xr = .slice A m c) (h2 : ∃ A m c, xb = .slice A m c) (h3 : ∃ A m c, xn = .slice A m c) (h4 : ∃ A m c, xs = .slice A m c) (h5 : ∃ A m c, xf = .slice A m c) :
    (∃ A m c, ur = .slice A m c) ∧ (∃ A m c, ub = .slice A m c) ∧ (∃ A m c, un = .slice A m c) ∧ (∃ A m c, us = .slice A m c) ∧ ∃ A m c, uf = .slice A m c := by
  cases b with
  | false =>
    obtain ⟨e1, e2, e3, e4, e5⟩ := h.2 rfl
    exact ⟨by rw [e1]; exact h1, by rw [e2]; exact h2, by rw [e3]; exact h3, by rw [e4]; exact h4, by rw [e5]; exact h5⟩
  | true =>
    obtain ⟨val, e1, e2, e3, e4, e5, hk⟩ := h.1 rfl
    obtain ⟨A1, c1, f1⟩ := own_sl1 (hk.own .r trivial)
    obtain ⟨A2, c2, f2⟩ := own_sl1 (hk.own .b trivial)
    obtain ⟨A3, c3, f3⟩ := own_sl1 (hk.own .n trivial)
    obtain ⟨A4, c4, f4⟩ := own_sl1 (hk.own .s trivial)
    obtain ⟨A5, c5, f5⟩ := own_sl1 (hk.own .f trivial)
    exact ⟨⟨_, _, _, e1.trans f1⟩, ⟨_, _, _, e2.trans f2⟩, ⟨_, _, _, e3.trans f3⟩, ⟨_, _, _, e4.trans f4⟩, ⟨_, _, _, e5.trans f5⟩⟩
theorem to_Act (ak an ap aa : Int) (w : World) :
    Calls Tryz.prog 16 #[.agg #[.int .i64 ak, .int .i64 an, .int .i64 ap, .int .i64 aa]] w fun e w' => e = .returned (.agg #[.int .i64 ak, .int .i64 an, .int .i64 ap, .int .i64 aa]) ∧ Below w.heap.size w w' := by
  go_enter Tryz.func16, Tryz.ntmps16
  go_wp2
  refine bodyPost_ret (v := .agg #[.int .i64 ak, .int .i64 an, .int .i64 ap, .int .i64 aa]) (by simp [results, Tryz.results16, go_sem]) rfl ⟨rfl, ?_⟩
  repeat (first | exact Below.refl _ _ | refine Below.drew ?_ | refine bl_alloc ?_ _ | refine Below.setCell ?_ (by simp <;> omega) _)
end Go.Proofs.YtcpbbjocaimocaaGreat
