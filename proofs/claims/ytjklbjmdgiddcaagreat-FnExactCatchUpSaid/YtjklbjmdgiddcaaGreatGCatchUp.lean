/-
  Proved: the law FnExactCatchUp returns true for every machine, network and state, and leaves the arguments as they were. No condition. (The frame at the end is after the kit's proof-skeleton.mjs.)
-/
import Derived.Test.YtjklbjmdgiddcaaGreatGCuWalk
import Derived.Test.YtjklbjmdgiddcaaGreatGOpenA
namespace Go.Proofs.YtjklbjmdgiddcaaGreat.fnExactCatchUp
open Go.ChangeShapes Go.WideShapes Go.ChangeAt Go.RowKit Go.Joins
set_option linter.all false
theorem laidOut : laidOutB Tryz.prog = true := by kernel_rfl
theorem own : ownKnob Tryz.prog.godebug = none := by kernel_rfl
set_option maxRecDepth 100000 in
theorem lifted (os : Os) (started : os.Started) (H : Type) (enc : TypeId × Value → H) :
  ReturnsInHanded {} Tryz.checked os 4 .any (Rows.fnExactCatchUpSpec.pre6 enc Tryz.prog Tryz.f4 Rows.fnExactCatchUpRow.domain false) (Rows.fnExactCatchUpSpec.post enc Tryz.prog Tryz.f4 false true false false) := by
 refine returnsInHanded_of_change (C := Tryz.checked) own started (by kernel_rfl) Tryz.func4
  (ChangeSpec.witness6 (enc := enc) (C := Tryz.checked) false ⟨#[], #[.agg #[.int .i64 0, .int .i64 0, .int .i64 0, .slice none 0 0, .slice none 0 0, .slice none 0 0, .slice none 0 0], .agg #[.slice none 0 0, .slice none 0 0, .slice none 0 0], .agg #[.slice none 0 0, .slice none 0 0, .slice none 0 0, .slice none 0 0, .slice none 0 0]], []⟩ 8 (by kernel_rfl) (by kernel_rfl) (by kernel_rfl) (by kernel_rfl)) ?_
 intro W base args ds gs before hval0 hW hcnd _;have hval : ∀ (j : Nat) t v, Tryz.f4.params[j]? = some t → args[j]? = some v → Value.okWide Tryz.prog W .any base t v := hval0;have hW' := hW;obtain ⟨p, q, hA0, hV, rfl, hfz, hnd⟩ := hW;have hA : DataW.TrodAll enc Tryz.prog W 0 (fun _ => true) true Tryz.f4.params.toList args.toList ds p := hA0;rw [Tryz.params4] at hA hval;obtain ⟨v0, vs0, d0, ds0, p0, q0, hargs, rfl, rfl, h0, r0⟩ := trodAll_cons hA;obtain ⟨v1, vs1, d1, ds1, p1, q1, rfl, rfl, rfl, h1, r1⟩ := trodAll_cons r0;obtain ⟨v2, vs2, d2, ds2, p2, q2, rfl, rfl, rfl, h2, r2⟩ := trodAll_cons r1;obtain ⟨rfl, rfl, rfl⟩ := trodAll_nil r2;obtain rfl : args = #[v0, v1, v2] := by cases args; simp_all
 obtain ⟨rfl, rfl⟩ := trodVars_none hV;obtain ⟨cs0, rfl, -⟩ := okWide_struct Tryz.underlying26 (hval 0 26 v0 rfl rfl);obtain ⟨fu0, hf0⟩ := h0;obtain ⟨m, xs0, xs1, xs2, xs3, e0, hm⟩ := mach_of_trod hf0;obtain rfl : cs0 = #[.int .i64 m.deg, .int .i64 m.st, .int .i64 m.msg, xs0, xs1, xs2, xs3] := by
  have e0' : cs0.toList = [.int .i64 m.deg, .int .i64 m.st, .int .i64 m.msg, xs0, xs1, xs2, xs3] := by simpa [Value.cells] using e0
  cases cs0; simp_all
 obtain ⟨c0, c1, c2, y0, y1, y2, n, rfl, rfl, -, hy0, hy1, hy2⟩ := open_agg3 Tryz.underlying29 (by kernel_rfl) (by kernel_rfl) (hval 1 29 v1 rfl rfl) h1;obtain ⟨u0, ess, e0, he⟩ := endss_of_trod hy0;obtain ⟨u1, ids, e1, hi⟩ := ints_of_trod Tryz.underlying24 Tryz.underlying3 (by kernel_rfl) hy1;obtain ⟨u2, ins, e2, hn⟩ := ints_of_trod Tryz.underlying24 Tryz.underlying3 (by kernel_rfl) hy2;simp only [List.cons.injEq, and_true] at e0 e1 e2;subst e0 e1 e2;obtain ⟨cs2, rfl, -⟩ := okWide_struct Tryz.underlying32 (hval 2 32 v2 rfl rfl);obtain ⟨fu2, hf2⟩ := h2;obtain ⟨x, xr, xb, xn, xs, xf, e2, hx⟩ := asy_of_trod hf2;obtain rfl : cs2 = #[xr, xb, xn, xs, xf] := by
  have e2' : cs2.toList = [xr, xb, xn, xs, xf] := by simpa [Value.cells] using e2
  cases cs2; simp_all
 refine (law_walk _ _ _ _ m _ _ _ ⟨ess, ids, ins⟩ _ _ _ _ _ x W hm ⟨he, hi, hn⟩ hx).mono fun e W' ⟨he, hg⟩ => ?_
 subst he;exact ⟨_, rfl, post_law laidOut (by kernel_rfl) rfl (by kernel_rfl) Tryz.underlying4 rfl hW' hg⟩
theorem over : Rows.fnExactCatchUpRow.holds Tryz.pinned (OpenSpec.ofChange Rows.fnExactCatchUpSpec) :=
  OpenClaim.holds_of_wide 4 Tryz.f4 rfl rfl rfl rfl rfl rfl rfl ⟨rfl, rfl, rfl, rfl, rfl⟩ rfl rfl rfl rfl rfl (by kernel_rfl) Tryz.func4 (by kernel_rfl)
    (of_decide_eq_true (by kernel_rfl)) (by unfold Func.isWrapper; first | (rw [if_pos (by decide +kernel)]; kernel_rfl) | (rw [if_neg (by decide +kernel)]; exact ⟨rfl, rfl⟩))
    (fun os started H enc _ => lifted os started H enc)
theorem proved : Rows.FnExactCatchUpSaid :=
  over
#print axioms proved
end Go.Proofs.YtjklbjmdgiddcaaGreat.fnExactCatchUp
