/-
  How the class of a walk problem, its loop, its flexible labels and its components hang together. Plain facts; no program in sight, no condition.
  The program's and the reference's entries on walk problems: class, loop, flexible labels, components, check of a certificate; for every problem, valid or not.
  The laws' own comparisons, at values that read alike (sameInts, sameLists, pSameCertificate), membership (pHas) and the bound on the input (big).
-/
import Derived.Test.YtjhljipehnmbnaaGreatPlainOK
import Derived.Test.YtjhljipehnmbnaaGreatCwTI
import Derived.Test.YtjhljipehnmbnaaGreatCwTS
import Derived.Test.YtjhljipehnmbnaaGreatCwIY
import Derived.Test.YtjhljipehnmbnaaGreatCertImpl
import Derived.Test.YtjhljipehnmbnaaGreatArgs
import Derived.Test.YtjhljipehnmbnaaGreatReg
import Derived.Test.YtjhljipehnmbnaaGreatCwBox
import Derived.WalkKit
import Derived.WalkSpells
import Derived.WalkLawsBesides
import Derived.Lib.Hide
import Derived.Deep.QuietTactic
namespace Go.Proofs.YtjhljipehnmbnaaGreat
section
set_option linter.unusedVariables false
theorem loop_flex {n : Nat} {xss : List (List Int)} (hg : Good n xss) {a : Nat} (h : hasArc xss a a) : a ∈ flexL n xss := by
  have hn := good_n hg
  have hm := mates_of (Nat.le_refl 1) (wk_one h)
  obtain ⟨r, hr, hra⟩ := root_ex hg hm
  exact mem_lsP.2 ⟨by have := (arc_lt hg h).1; omega, r, hr, hra, Nat.dvd_one.1 (per_dvd_walk hg hr hra (wk_one h))⟩
theorem flex_root {n : Nat} {xss : List (List Int)} (hg : Good n xss) {a : Nat} (h : a ∈ flexL n xss) : 0 < (roots xss n).length := by
  obtain ⟨_, r, hr, _, _⟩ := mem_lsP.1 h
  exact List.length_pos_of_mem (mem_lsTo.2 ⟨root_lt hg hr, hr⟩)
theorem loop_iff {n : Nat} {xss : List (List Int)} (hg : Good n xss) : (∃ a, hasArc xss a a) ↔ classN n xss = 3 := by
  constructor
  · rintro ⟨a, h⟩; exact class_3 hg h
  · intro h
    rcases class_cases n xss with ⟨_, a, _, h1⟩ | ⟨h1, _⟩ | ⟨h1, _⟩ | h1
    · exact ⟨a, h1⟩
    · omega
    · omega
    · omega
theorem flex_iff {n : Nat} {xss : List (List Int)} (hg : Good n xss) : 0 < (flexL n xss).length ↔ 2 ≤ classN n xss := by
  constructor
  · intro h
    by_cases hl : ∃ a, hasArc xss a a
    · rw [(loop_iff hg).1 hl]; omega
    · have : classN n xss = 2 := by unfold classN; rw [if_neg (no_loop fun a ha => hl ⟨a, ha⟩), if_pos h]
      omega
  · intro h
    rcases class_cases n xss with ⟨_, a, _, h1⟩ | ⟨_, h1⟩ | ⟨h1, _⟩ | h1
    · exact List.length_pos_of_mem (loop_flex hg h1)
    · exact h1
    · omega
    · omega
theorem parts_iff {n : Nat} {xss : List (List Int)} (hg : Good n xss) : (roots xss n).length = 0 ↔ classN n xss = 0 := by
  constructor
  · intro h
    have hl : ¬ ∃ a, hasArc xss a a := fun ⟨a, ha⟩ => by have := flex_root hg (loop_flex hg ha); omega
    have hf : ¬ 0 < (flexL n xss).length := fun hf => by
      obtain ⟨b, hb⟩ := List.exists_mem_of_length_pos hf
      have := flex_root hg hb
      omega
    unfold classN
    rw [if_neg (no_loop fun a ha => hl ⟨a, ha⟩), if_neg hf, if_neg (by omega)]
  · intro h
    rcases Nat.eq_zero_or_pos (roots xss n).length with h1 | h1
    · exact h1
    · unfold classN at h
      split at h
      · omega
      · split at h
        · omega
        · first | omega | (rw [if_pos h1] at h; omega)
/-- A component's label is flexible exactly if the component has the period 1. -/
theorem comp_flex {n : Nat} {xss : List (List Int)} (hg : Good n xss) {r a : Nat} (hr : isRoot xss r) (ha : a ∈ compL xss r) : a ∈ flexL n xss ↔ perA n xss r = 1 := by
  have hn := good_n hg
  have hra := (mem_comp hg).1 ha
  constructor
  · intro h
    obtain ⟨_, s, hs, hsa, h1⟩ := mem_lsP.1 h
    rw [root_uniq ⟨hr, hra⟩ ⟨hs, hsa⟩]
    exact h1
  · intro h
    exact mem_lsP.2 ⟨by have := comp_lt hg ha; omega, r, hr, hra, h⟩
end
section
open Go.RowKit
set_option linter.unusedVariables false
set_option linter.unusedSimpArgs false
theorem ceCl_t {n : Nat} {xss : List (List Int)} (hg : Good n xss) : ceCl n xss = (classN n xss : Int) := by unfold ceCl; rw [goodB_t hg]; simp
theorem ceCl_f {n : Int} {xss : List (List Int)} (hg : goodB n xss = false) : ceCl n xss = 0 := by unfold ceCl; rw [hg]; rfl
theorem RowsR.sl2 {w : World} {B : Nat} {v : Value} {xss : List (List Int)} (h : RowsR w B v xss) : ∃ A m c, v = .slice A m c := by
  obtain ⟨A, c, e, _⟩ := h.open_
  exact ⟨A, _, c, e⟩
/-- The parameter's box. -/
theorem box_wp (n : Int) (v : Value) (w : World) : ∃ w0, w0 = w.alloc (.cells #[.int .i64 n, v] 26) ∧ Below w.heap.size w w0 ∧ Hid (w0.heap[w.heap.size]? = some (.cells #[.int .i64 n, v] 26 (0, 0))) ∧ w.heap.size < w0.heap.size :=
  ⟨_, rfl, bl_alloc (Below.refl _ _) _, Lib.hid (heap_alloc_new w _), by simp⟩
theorem impl_ClassOfWalk (n : Int) (v : Value) (xss : List (List Int)) (w : World) (h : RowsR w w.heap.size v xss) :
    Calls Tryz.prog 8 #[.agg #[.int .i64 n, v]] w fun e w' => e = .returned (.tuple #[.int .i64 (ceCl n xss), .bool (goodB n xss)]) ∧ Below w.heap.size w w' := by
  have HV := Lib.hid h.sl2
  have HH := Lib.hid h; clear h
  obtain ⟨w0, hw0, hb0, HB0, hz0⟩ := box_wp n v w
  have HW0 := Lib.hid hw0; clear hw0
  obtain ⟨b0, b1, bf⟩ := cells2 HB0
  go_enter Tryz.func8, Tryz.ntmps8
  go_wp2_with fail
  rw [← HW0.out]
  refine (impl_IsWalkProblem n v xss w0 ((HH.out.below hb0).more hb0.size)).mono ?_
  rintro e w1 ⟨rfl, hb1⟩
  have hB := bl_trans hb0 hb1
  have HB1 := bk HB0 hb1
  clear b0 b1 bf
  obtain ⟨b0, b1, bf⟩ := cells2 HB1
  cases q : goodB n xss with
  | false =>
    have H1 := Lib.hid (ceCl_f q)
    have QG := Lib.hid q
    clear q
    go_wp2_with fail
    go_ret2
    exact ⟨by rw [H1.out, QG.out]; rfl, hB⟩
  | true =>
    have QG := Lib.hid q
    have HG := Lib.hid (goodB_iff.1 q); clear q
    obtain ⟨n, rfl⟩ := Int.eq_ofNat_of_zero_le (show 0 ≤ n by have := HG.out.1; unfold inB at this; simp at this; omega)
    have H1 := Lib.hid (ceCl_t HG.out)
    go_wp2_with fail
    refine (impl_classOf n v xss w1 ((HH.out.below hB).more hB.size) HG.out HV.out).mono ?_
    rintro e w2 ⟨rfl, hb2⟩
    go_wp2_with fail
    go_ret2
    exact ⟨by rw [H1.out, QG.out]; rfl, bl_trans hB hb2⟩
theorem spec_ClassOfWalk (n : Int) (v : Value) (xss : List (List Int)) (w : World) (h : RowsR w w.heap.size v xss) :
    Calls Tryz.prog 9 #[.agg #[.int .i64 n, v]] w fun e w' => e = .returned (.tuple #[.int .i64 (ceCl n xss), .bool (goodB n xss)]) ∧ Below w.heap.size w w' := by
  have HH := Lib.hid h; clear h
  obtain ⟨w0, hw0, hb0, HB0, hz0⟩ := box_wp n v w
  have HW0 := Lib.hid hw0; clear hw0
  obtain ⟨b0, b1, bf⟩ := cells2 HB0
  go_enter Tryz.func9, Tryz.ntmps9
  go_wp2_with fail
  rw [← HW0.out]
  refine (spec_waGood n v xss w0 ((HH.out.below hb0).more hb0.size)).mono ?_
  rintro e w1 ⟨rfl, hb1⟩
  have hB := bl_trans hb0 hb1
  have HB1 := bk HB0 hb1
  clear b0 b1 bf
  obtain ⟨b0, b1, bf⟩ := cells2 HB1
  cases q : goodB n xss with
  | false =>
    have H1 := Lib.hid (ceCl_f q)
    have QG := Lib.hid q
    clear q
    go_wp2_with fail
    go_ret2
    exact ⟨by rw [H1.out, QG.out]; rfl, hB⟩
  | true =>
    have QG := Lib.hid q
    have HG := Lib.hid (goodB_iff.1 q); clear q
    obtain ⟨n, rfl⟩ := Int.eq_ofNat_of_zero_le (show 0 ≤ n by have := HG.out.1; unfold inB at this; simp at this; omega)
    have H1 := Lib.hid (ceCl_t HG.out)
    go_wp2_with fail
    refine (spec_waClass n v xss w1 ((HH.out.below hB).more hB.size) HG.out).mono ?_
    rintro e w2 ⟨rfl, hb2⟩
    go_wp2_with fail
    go_ret2
    exact ⟨by rw [H1.out, QG.out]; rfl, bl_trans hB hb2⟩
def LoPost (n : Nat) (xss : List (List Int)) (w : World) (e : Ending) (w' : World) : Prop :=
  ∃ (i : Int) (b : Bool), e = .returned (.tuple #[.int .i64 i, .bool b]) ∧ I64 i ∧ (b = true → ∃ a : Nat, i = (a : Int) ∧ hasArc xss a a) ∧ b = decide (classN n xss = 3) ∧ Below w.heap.size w w'
theorem impl_LoopOf (n : Nat) (v : Value) (xss : List (List Int)) (w : World) (h : RowsR w w.heap.size v xss) (hg : Good n xss) :
    Calls Tryz.prog 12 #[.agg #[.int .i64 (n : Int), v]] w (LoPost n xss w) := by
  have hn := good_n hg
  have HV := Lib.hid h.sl2
  have HH := Lib.hid h; clear h
  have HG := Lib.hid hg
  have q := goodB_t hg
  have HI := Lib.hid (loop_iff hg)
  clear hg
  obtain ⟨w0, hw0, hb0, HB0, hz0⟩ := box_wp n v w
  have HW0 := Lib.hid hw0; clear hw0
  obtain ⟨b0, b1, bf⟩ := cells2 HB0
  go_enter Tryz.func12, Tryz.ntmps12
  go_wp2_with fail
  rw [← HW0.out]
  refine (impl_IsWalkProblem n v xss w0 ((HH.out.below hb0).more hb0.size)).mono ?_
  rintro e w1 ⟨rfl, hb1⟩
  rw [q]
  have hB := bl_trans hb0 hb1
  have HB1 := bk HB0 hb1
  clear b0 b1 bf q
  obtain ⟨b0, b1, bf⟩ := cells2 HB1
  go_wp2_with fail
  refine (impl_loopOf n v xss w1 ((HH.out.below hB).more hB.size) HG.out HV.out).mono ?_
  rintro e w2 ⟨i, rfl, hi, hb2⟩
  have hB2 := bl_trans hB hb2
  have HB2 := bk HB1 hb2 (by have := hb1.size; omega)
  clear b0 b1 bf
  obtain ⟨b0, b1, bf⟩ := cells2 HB2
  rcases hi with ⟨rfl, hno⟩ | ⟨a, ha, rfl, hl, -⟩
  · have HN := Lib.hid (show false = decide (classN n xss = 3) from (decide_eq_false fun h => by
      obtain ⟨a, ha⟩ := HI.out.2 h
      exact hno a (HG.out.arc_lt ha).1 ha).symm)
    clear hno
    go_wp2_with fail
    go_ret2
    exact ⟨0, false, rfl, by unfold I64; omega, fun h => (by cases h), HN.out, hB2⟩
  · have HN := Lib.hid (show true = decide (classN n xss = 3) from (decide_eq_true (HI.out.1 ⟨a, hl⟩)).symm)
    have HL := Lib.hid hl; clear hl
    go_wp2_with fail
    refine (impl_loopOf n v xss w2 ((HH.out.below hB2).more hB2.size) HG.out HV.out).mono ?_
    rintro e w3 ⟨i, rfl, hi, hb3⟩
    have HX := Lib.hid (show I64 i ∧ ∃ a : Nat, i = (a : Int) ∧ hasArc xss a a by
      rcases hi with ⟨rfl, hno⟩ | ⟨a', ha', rfl, hl', -⟩
      · exact absurd HL.out (hno a ha)
      · exact ⟨by unfold I64; omega, a', rfl, hl'⟩)
    clear hi
    go_wp2_with fail
    go_ret2
    exact ⟨i, true, rfl, HX.out.1, fun _ => HX.out.2, HN.out, bl_trans hB2 hb3⟩
theorem impl_FlexibleLabels (n : Nat) (v : Value) (xss : List (List Int)) (w : World) (h : RowsR w w.heap.size v xss) (hg : Good n xss) :
    Calls Tryz.prog 13 #[.agg #[.int .i64 (n : Int), v]] w fun e w' => ∃ u, e = .returned (.tuple #[u, .bool true]) ∧ (∃ A m c, u = .slice A m c) ∧ IntsR w' w'.heap.size u (natsI (flexL n xss)) ∧ Below w.heap.size w w' := by
  have HV := Lib.hid h.sl2
  have HH := Lib.hid h; clear h
  have HG := Lib.hid hg
  have q := goodB_t hg
  clear hg
  obtain ⟨w0, hw0, hb0, HB0, hz0⟩ := box_wp n v w
  have HW0 := Lib.hid hw0; clear hw0
  obtain ⟨b0, b1, bf⟩ := cells2 HB0
  go_enter Tryz.func13, Tryz.ntmps13
  go_wp2_with fail
  rw [← HW0.out]
  refine (impl_IsWalkProblem n v xss w0 ((HH.out.below hb0).more hb0.size)).mono ?_
  rintro e w1 ⟨rfl, hb1⟩
  rw [q]
  have hB := bl_trans hb0 hb1
  have HB1 := bk HB0 hb1
  clear b0 b1 bf q
  obtain ⟨b0, b1, bf⟩ := cells2 HB1
  go_wp2_with fail
  refine (impl_flexibleLabels n v xss w1 ((HH.out.below hB).more hB.size) HG.out HV.out).mono ?_
  rintro e w2 ⟨u, rfl, ho, hb2⟩
  have HR := Lib.hid (own_intsR ho (nats64 (M := 12) (fun x hx => by have := (mem_lsP.1 hx).1; omega) (by omega)))
  obtain ⟨Au, cu, rfl⟩ := own_sl ho
  clear ho b0 b1 bf
  go_wp2_with fail
  go_ret2
  exact ⟨_, rfl, ⟨_, _, _, rfl⟩, HR.out, bl_trans hB hb2⟩
noncomputable def compsL (n : Nat) (xss : List (List Int)) : List (List Int) := (roots xss n).map fun r => natsI (compL xss r)
theorem impl_WalkComponents (n : Nat) (v : Value) (xss : List (List Int)) (w : World) (h : RowsR w w.heap.size v xss) (hg : Good n xss) :
    Calls Tryz.prog 14 #[.agg #[.int .i64 (n : Int), v]] w fun e w' => ∃ lv pv, e = .returned (.tuple #[lv, pv, .bool true]) ∧ RowsR w' w'.heap.size lv (compsL n xss) ∧ IntsR w' w'.heap.size pv (natsI (pers n xss n)) ∧ Below w.heap.size w w' := by
  have HV := Lib.hid h.sl2
  have HH := Lib.hid h; clear h
  have HG := Lib.hid hg
  have q := goodB_t hg
  clear hg
  obtain ⟨w0, hw0, hb0, HB0, hz0⟩ := box_wp n v w
  have HW0 := Lib.hid hw0; clear hw0
  obtain ⟨b0, b1, bf⟩ := cells2 HB0
  go_enter Tryz.func14, Tryz.ntmps14
  go_wp2_with fail
  rw [← HW0.out]
  refine (impl_IsWalkProblem n v xss w0 ((HH.out.below hb0).more hb0.size)).mono ?_
  rintro e w1 ⟨rfl, hb1⟩
  rw [q]
  have hB := bl_trans hb0 hb1
  have HB1 := bk HB0 hb1
  clear b0 b1 bf q
  obtain ⟨b0, b1, bf⟩ := cells2 HB1
  go_wp2_with fail
  refine (impl_walkComponents n v xss w1 ((HH.out.below hB).more hB.size) HG.out HV.out).mono ?_
  rintro e w2 ⟨lv, pv, rfl, ho, hp, hb2⟩
  have HP := Lib.hid (own_intsR hp (nats64 (M := 1000) (fun x hx => by
    unfold pers at hx
    obtain ⟨r, -, rfl⟩ := List.mem_map.1 hx
    have := perA_le n xss r
    have := good_n HG.out
    omega) (by omega)))
  have HR := Lib.hid (show RowsR w2 w2.heap.size lv (compsL n xss) by
    obtain ⟨vs, o1, o2⟩ := ho
    obtain ⟨bs, p1, -, -⟩ := OwnRow.of_owns o1
    have hl : vs.length = (roots xss n).length := by have := o1.1; omega
    refine ⟨vs, p1.reads p1.lt, ?_⟩
    unfold compsL
    have hat : ∀ i u r, vs[i]? = some u → (roots xss n)[i]? = some r → IntsR w2 w2.heap.size u (natsI (compL xss r)) := fun i u r hu hr => (o2 i u hu w2 (G2.refl _ _ _) r hr).1
    clear o1 o2 p1 hp HP
    generalize roots xss n = rs at hl hat
    induction vs generalizing rs with
    | nil =>
      cases rs with
      | nil => exact trivial
      | cons _ _ => simp at hl
    | cons u vs ih =>
      cases rs with
      | nil => simp at hl
      | cons r rs => exact ⟨hat 0 u r rfl rfl, ih rs (by simpa using hl) (fun i u' r' h1 h2 => hat (i + 1) u' r' (by simpa using h1) (by simpa using h2))⟩)
  obtain ⟨Ap, cp, rfl⟩ := own_sl hp
  obtain ⟨Al, cl, rfl⟩ := ho.sl
  clear ho hp b0 b1 bf
  go_wp2_with fail
  refine bodyPost_ret (v := .tuple #[.slice Al (roots xss n).length cl, .slice Ap (roots xss n).length cp, .bool true]) (by simp [results, Tryz.results14, go_sem]) rfl ?_
  exact ⟨_, _, rfl, HR.out, HP.out, bl_trans hB hb2⟩
noncomputable def ckB (n : Int) (xss : List (List Int)) (cl lb : Int) (f s : List Int) (rs : List (List Int)) : Bool := goodB n xss && propB (certP n.toNat xss cl lb f s rs)
theorem ckB_f {n : Int} {xss : List (List Int)} {cl lb : Int} {f s : List Int} {rs : List (List Int)} (h : goodB n xss = false) : ckB n xss cl lb f s rs = false := by unfold ckB; rw [h]; rfl
theorem ckB_t {n : Nat} {xss : List (List Int)} {cl lb : Int} {f s : List Int} {rs : List (List Int)} (h : Good n xss) : ckB n xss cl lb f s rs = propB (certP n xss cl lb f s rs) := by unfold ckB; rw [goodB_t h]; simp
theorem impl_CheckWalkCertificate (n : Int) (v vf vs vr : Value) (xss : List (List Int)) (cl lb : Int) (f s : List Int) (rs : List (List Int)) (w : World) (h : RowsR w w.heap.size v xss) (hf : IntsR w w.heap.size vf f) (hs : IntsR w w.heap.size vs s) (hr : RowsR w w.heap.size vr rs)
    (hlen : f.length ≤ 1000000000 ∧ s.length ≤ 1000000000 ∧ rs.length ≤ 1000000000) (hlb : I64 lb) :
    Calls Tryz.prog 11 #[.agg #[.int .i64 n, v], .agg #[.int .i64 cl, .int .i64 lb, vf, vs, vr]] w fun e w' => e = .returned (.tuple #[.bool (ckB n xss cl lb f s rs), .bool (goodB n xss)]) ∧ Below w.heap.size w w' := by
  have HV := Lib.hid h.sl2
  have HH := Lib.hid h; clear h
  have HF := Lib.hid hf; clear hf
  have HS := Lib.hid hs; clear hs
  have HR := Lib.hid hr; clear hr
  have hb0 := bl_alloc (bl_alloc (Below.refl w.heap.size w) (.cells #[.int .i64 n, v] 26)) (.cells #[.int .i64 cl, .int .i64 lb, vf, vs, vr] 30)
  have hbx : Boxes ((w.alloc (.cells #[.int .i64 n, v] 26)).alloc (.cells #[.int .i64 cl, .int .i64 lb, vf, vs, vr] 30)) w.heap.size (.int .i64 n) v (.int .i64 cl) (.int .i64 lb) vf vs vr := by
    refine ⟨?_, ?_, ?_, ?_, ?_, ?_, ?_⟩
    · rw [World.cell?_alloc_lt _ _ _ (show w.heap.size < _ by simp), World.cell?_alloc_at _ _ _ _ rfl]; rfl
    · rw [World.cell?_alloc_lt _ _ _ (show w.heap.size < _ by simp), World.cell?_alloc_at _ _ _ _ rfl]; rfl
    all_goals
      rw [World.cell?_alloc_at _ _ _ _ (show w.heap.size + 1 = _ by simp)]; rfl
  have hsz : w.heap.size + 1 < ((w.alloc (.cells #[.int .i64 n, v] 26)).alloc (.cells #[.int .i64 cl, .int .i64 lb, vf, vs, vr] 30)).heap.size := by simp
  have HB := Lib.hid hbx; clear hbx
  have HZ := Lib.hid hsz; clear hsz
  go_enter Tryz.func11, Tryz.ntmps11
  go_wp2_with fail
  generalize (w.alloc (.cells #[.int .i64 n, v] 26)).alloc (.cells #[.int .i64 cl, .int .i64 lb, vf, vs, vr] 30) = w0 at *
  refine (impl_IsWalkProblem n v xss w0 ((HH.out.below hb0).more hb0.size)).mono ?_
  rintro e w1 ⟨rfl, hb1⟩
  have hB1 := bl_trans hb0 hb1
  obtain ⟨p0, p1, c0, c1, c2, c3, c4⟩ := HB.out.below hb1 HZ.out
  cases q : goodB n xss with
  | false =>
    have H1 := Lib.hid (ckB_f (cl := cl) (lb := lb) (f := f) (s := s) (rs := rs) q)
    have QG := Lib.hid q
    clear q
    go_wp2_with fail
    go_ret2
    exact ⟨by rw [H1.out, QG.out]; rfl, hB1⟩
  | true =>
    have QG := Lib.hid q
    have HG := Lib.hid (goodB_iff.1 q); clear q
    obtain ⟨n, rfl⟩ := Int.eq_ofNat_of_zero_le (show 0 ≤ n by have := HG.out.1; unfold inB at this; simp at this; omega)
    have H1 := Lib.hid (ckB_t (cl := cl) (lb := lb) (f := f) (s := s) (rs := rs) HG.out)
    go_wp2_with fail
    refine (impl_isCertificate n v vf vs vr xss cl lb f s rs w1 ((HH.out.below hB1).more hB1.size) ((HF.out.below hB1).more hB1.size) ((HS.out.below hB1).more hB1.size) ((HR.out.below hB1).more hB1.size) HG.out HV.out hlen hlb).mono ?_
    rintro e w2 ⟨rfl, hb2⟩
    go_wp2_with fail
    go_ret2
    exact ⟨by rw [H1.out, QG.out]; rfl, bl_trans hB1 hb2⟩
theorem spec_CheckWalkCertificate (n : Int) (v vf vs vr : Value) (xss : List (List Int)) (cl lb : Int) (f s : List Int) (rs : List (List Int)) (w : World) (h : RowsR w w.heap.size v xss) (hf : IntsR w w.heap.size vf f) (hs : IntsR w w.heap.size vs s) (hr : RowsR w w.heap.size vr rs)
    (hlen : f.length ≤ 1000000000 ∧ s.length ≤ 1000000000 ∧ rs.length ≤ 1000000000) (hlb : I64 lb) :
    Calls Tryz.prog 17 #[.agg #[.int .i64 n, v], .agg #[.int .i64 cl, .int .i64 lb, vf, vs, vr]] w fun e w' => e = .returned (.tuple #[.bool (ckB n xss cl lb f s rs), .bool (goodB n xss)]) ∧ Below w.heap.size w w' := by
  have HV := Lib.hid h.sl2
  have HH := Lib.hid h; clear h
  have HF := Lib.hid hf; clear hf
  have HS := Lib.hid hs; clear hs
  have HR := Lib.hid hr; clear hr
  have hb0 := bl_alloc (bl_alloc (Below.refl w.heap.size w) (.cells #[.int .i64 n, v] 26)) (.cells #[.int .i64 cl, .int .i64 lb, vf, vs, vr] 30)
  have hbx : Boxes ((w.alloc (.cells #[.int .i64 n, v] 26)).alloc (.cells #[.int .i64 cl, .int .i64 lb, vf, vs, vr] 30)) w.heap.size (.int .i64 n) v (.int .i64 cl) (.int .i64 lb) vf vs vr := by
    refine ⟨?_, ?_, ?_, ?_, ?_, ?_, ?_⟩
    · rw [World.cell?_alloc_lt _ _ _ (show w.heap.size < _ by simp), World.cell?_alloc_at _ _ _ _ rfl]; rfl
    · rw [World.cell?_alloc_lt _ _ _ (show w.heap.size < _ by simp), World.cell?_alloc_at _ _ _ _ rfl]; rfl
    all_goals
      rw [World.cell?_alloc_at _ _ _ _ (show w.heap.size + 1 = _ by simp)]; rfl
  have hsz : w.heap.size + 1 < ((w.alloc (.cells #[.int .i64 n, v] 26)).alloc (.cells #[.int .i64 cl, .int .i64 lb, vf, vs, vr] 30)).heap.size := by simp
  have HB := Lib.hid hbx; clear hbx
  have HZ := Lib.hid hsz; clear hsz
  go_enter Tryz.func17, Tryz.ntmps17
  go_wp2_with fail
  generalize (w.alloc (.cells #[.int .i64 n, v] 26)).alloc (.cells #[.int .i64 cl, .int .i64 lb, vf, vs, vr] 30) = w0 at *
  refine (spec_waGood n v xss w0 ((HH.out.below hb0).more hb0.size)).mono ?_
  rintro e w1 ⟨rfl, hb1⟩
  have hB1 := bl_trans hb0 hb1
  obtain ⟨p0, p1, c0, c1, c2, c3, c4⟩ := HB.out.below hb1 HZ.out
  cases q : goodB n xss with
  | false =>
    have H1 := Lib.hid (ckB_f (cl := cl) (lb := lb) (f := f) (s := s) (rs := rs) q)
    have QG := Lib.hid q
    clear q
    go_wp2_with fail
    go_ret2
    exact ⟨by rw [H1.out, QG.out]; rfl, hB1⟩
  | true =>
    have QG := Lib.hid q
    have HG := Lib.hid (goodB_iff.1 q); clear q
    obtain ⟨n, rfl⟩ := Int.eq_ofNat_of_zero_le (show 0 ≤ n by have := HG.out.1; unfold inB at this; simp at this; omega)
    have H1 := Lib.hid (ckB_t (cl := cl) (lb := lb) (f := f) (s := s) (rs := rs) HG.out)
    go_wp2_with fail
    refine (spec_waCheck n v vf vs vr xss cl lb f s rs w1 ((HH.out.below hB1).more hB1.size) ((HF.out.below hB1).more hB1.size) ((HS.out.below hB1).more hB1.size) ((HR.out.below hB1).more hB1.size) HG.out hlen hlb).mono ?_
    rintro e w2 ⟨rfl, hb2⟩
    go_wp2_with fail
    go_ret2
    exact ⟨by rw [H1.out, QG.out]; rfl, bl_trans hB1 hb2⟩
end
section
open Go.RowKit
set_option linter.unusedVariables false
set_option linter.unusedSimpArgs false
def BigPost (n m : Nat) (w : World) (e : Ending) (w' : World) : Prop := ∃ b, e = .returned (.bool b) ∧ (b = false → n ≤ 1048576 ∧ m ≤ 1048576) ∧ w = w'
theorem laws_big (A B : Option Addr) (n c m d : Nat) (w : World) (hn : n ≤ 9223372036854775807) (hm : m ≤ 9223372036854775807) :
    Calls Tryz.prog 4 #[.slice A n c, .slice B m d] w (BigPost n m w) := by
  by_cases h : 1048576 < n
  · go_enter Tryz.func4, Tryz.ntmps4
    go_wp2_with fail
    go_ret
    exact ⟨_, rfl, fun h' => absurd h' (by simp), rfl⟩
  · by_cases h2 : (1048576 : Int) - n < m
    · go_enter Tryz.func4, Tryz.ntmps4
      go_wp2_with fail
      go_ret
      exact ⟨true, ret_bool (by simp), fun h' => (by cases h'), rfl⟩
    · go_enter Tryz.func4, Tryz.ntmps4
      go_wp2_with fail
      go_ret
      exact ⟨false, ret_bool (by simp; omega), fun _ => (by omega), rfl⟩
def PHasRel (x : Int) (xs : List Int) (w : World) (i : Value) (wr : World) : Prop := w = wr ∧ ∃ k : Nat, k ≤ xs.length ∧ i = .int .i64 (k : Int) ∧ ∀ j y, j < k → xs[j]? = some y → y ≠ x
theorem laws_pHas (v : Value) (xs : List Int) (x : Int) (w : World) (h : IntsR w w.heap.size v xs) :
    Calls Tryz.prog 15 #[v, .int .i64 x] w fun e w' => e = .returned (.bool (decide (x ∈ xs))) ∧ w = w' := by
  obtain ⟨A, c, rfl, h1, h2, h3⟩ := h.open_
  unfold maxLen at h2
  clear h
  go_enter Tryz.func15, Tryz.ntmps15
  go_wp2_with fail
  go_loopw [9, 6] (fun i _ wr => PHasRel x xs w i wr) (fun i _ _ => xs.length - (intOf i).toNat)
  case atStart => exact ⟨rfl, 0, Nat.zero_le _, rfl, fun j y hj => absurd hj (by omega)⟩
  case round =>
    obtain ⟨rfl, k, hk, rfl, hup⟩ := hrel
    have HU := Lib.hid hup; clear hup
    by_cases hlt : k < xs.length
    · obtain ⟨y, hy⟩ : ∃ y, xs[k]? = some y := ⟨xs[k], List.getElem?_eq_getElem hlt⟩
      obtain ⟨ad, rfl, hb, hc⟩ := h3 (by omega)
      have hcell := hc k y hy
      have HY := Lib.hid hy
      clear h3 hc hy
      by_cases q : y = x
      · have t1 : (y == x) = true := by simpa using q
        have HM := Lib.hid (show true = decide (x ∈ xs) from (decide_eq_true (by rw [← q]; exact List.mem_of_getElem? HY.out)).symm)
        clear q
        go_wp2_with fail
        go_ret
        exact ⟨ret_bool HM.out, rfl⟩
      · have t1 : (y == x) = false := by simpa using q
        have HQ := Lib.hid q; clear q
        go_wp2_with fail
        go_roundw
        case rel => exact ⟨rfl, k + 1, by omega, by go_num, fun j z hj hz => by
          by_cases e : j = k
          · subst e; rw [HY.out] at hz; rw [← Option.some.inj hz]; exact HQ.out
          · exact HU.out j z (by omega) hz⟩
        case measure => simp [intOf]; omega
    · have HM := Lib.hid (show false = decide (x ∈ xs) from (decide_eq_false (fun h => by
        obtain ⟨j, hj⟩ := List.mem_iff_getElem?.1 h
        exact HU.out j x (by have := (List.getElem?_eq_some_iff.1 hj).1; omega) hj rfl)).symm)
      go_wp2_with fail
      go_ret
      exact ⟨ret_bool HM.out, rfl⟩
theorem laws_pHasQ (v : Value) (xs : List Int) (x : Int) (b : Bool) (w : World) (h : IntsR w w.heap.size v xs) (hb : decide (x ∈ xs) = b) :
    Calls Tryz.prog 15 #[v, .int .i64 x] w fun e w' => e = .returned (.bool b) ∧ ∃ n, w' = w.drewN n :=
  (laws_pHas v xs x w h).mono fun _ _ ⟨h1, h2⟩ => ⟨by rw [h1, hb], 0, by rw [← h2]; rfl⟩
def SiRelL (n : Nat) (w : World) (i : Value) (wr : World) : Prop := ∃ k m : Nat, k ≤ n ∧ i = .int .i64 (k : Int) ∧ wr = w.drewN m
theorem laws_sameInts (v v' : Value) (xs : List Int) (w : World) (h : IntsR w w.heap.size v xs) (h' : IntsR w w.heap.size v' xs) :
    Calls Tryz.prog 31 #[v, v'] w fun e w' => e = .returned (.bool true) ∧ ∃ n, w' = w.drewN n := by
  obtain ⟨A, c, rfl, h1, h2, h3⟩ := h.open_
  obtain ⟨A', c', rfl, h1', h2', h3'⟩ := h'.open_
  unfold maxLen at h2
  clear h h'
  go_enter Tryz.func31, Tryz.ntmps31
  go_wp2_with fail
  go_loopw [13, 5] (fun i _ wr => SiRelL xs.length w i wr) (fun i _ _ => xs.length - (intOf i).toNat)
  case atStart => exact ⟨0, 0, Nat.zero_le _, rfl, rfl⟩
  case round =>
    obtain ⟨k, m, hk, rfl, rfl⟩ := hrel
    by_cases hlt : k < xs.length
    · obtain ⟨x, hx⟩ : ∃ x, xs[k]? = some x := ⟨xs[k], List.getElem?_eq_getElem hlt⟩
      obtain ⟨ad, rfl, hb, hc⟩ := h3 (by omega)
      obtain ⟨ad', rfl, hb', hc'⟩ := h3' (by omega)
      have hcell : (w.drewN m).cell? (ad.add k) = some (.int .i64 x) := hc k x hx
      have hcell' : (w.drewN m).cell? (ad'.add k) = some (.int .i64 x) := hc' k x hx
      have k1 := hc k x hx
      have k2 := hc' k x hx
      clear h3 h3' hc hc' hx
      go_wp2_with fail
      go_quiet (fail)
      go_wp2_with fail
      go_roundw
      case rel => exact ⟨k + 1, m + nq, by omega, by go_num, rfl⟩
      case measure => simp [intOf]; omega
    · go_wp2_with fail
      go_ret
      exact ⟨rfl, m, rfl⟩
theorem laws_sameLists (v v' : Value) (xss : List (List Int)) (w : World) (h : RowsR w w.heap.size v xss) (h' : RowsR w w.heap.size v' xss) :
    Calls Tryz.prog 32 #[v, v'] w fun e w' => e = .returned (.bool true) ∧ ∃ n, w' = w.drewN n := by
  obtain ⟨A, c, rfl, h1, h2, h3⟩ := h.open_
  obtain ⟨A', c', rfl, h1', h2', h3'⟩ := h'.open_
  unfold maxLen at h2
  clear h h'
  go_enter Tryz.func32, Tryz.ntmps32
  go_wp2_with fail
  go_loopw [13, 5] (fun i _ wr => SiRelL xss.length w i wr) (fun i _ _ => xss.length - (intOf i).toNat)
  case atStart => exact ⟨0, 0, Nat.zero_le _, rfl, rfl⟩
  case round =>
    obtain ⟨k, m, hk, rfl, rfl⟩ := hrel
    by_cases hlt : k < xss.length
    · obtain ⟨xs, hx⟩ : ∃ x, xss[k]? = some x := ⟨xss[k], List.getElem?_eq_getElem hlt⟩
      obtain ⟨ad, rfl, hb, hc⟩ := h3 (by omega)
      obtain ⟨ad', rfl, hb', hc'⟩ := h3' (by omega)
      obtain ⟨u, k1, hr⟩ := hc k xs hx
      obtain ⟨u', k2, hr'⟩ := hc' k xs hx
      have hcell : (w.drewN m).cell? (ad.add k) = some u := k1
      have hcell' : (w.drewN m).cell? (ad'.add k) = some u' := k2
      have HR := Lib.hid hr; clear hr
      have HR' := Lib.hid hr'; clear hr'
      clear h3 h3' hc hc' hx
      go_wp2_with fail
      go_quiet ((go_at_call 31; exact quiet_more (laws_sameInts u u' xs _ HR.out HR'.out)))
      go_wp2_with fail
      go_roundw
      case rel => exact ⟨k + 1, m + nq, by omega, by go_num, rfl⟩
      case measure => simp [intOf]; omega
    · go_wp2_with fail
      go_ret
      exact ⟨rfl, m, rfl⟩
theorem laws_pSameCertificate (cl lb : Int) (vf vs vr uf us ur : Value) (F S : List Int) (R : List (List Int)) (w : World) (hf : IntsR w w.heap.size vf F) (hs : IntsR w w.heap.size vs S) (hr : RowsR w w.heap.size vr R)
    (kf : IntsR w w.heap.size uf F) (ks : IntsR w w.heap.size us S) (kr : RowsR w w.heap.size ur R) :
    Calls Tryz.prog 10 #[.agg #[.int .i64 cl, .int .i64 lb, vf, vs, vr], .agg #[.int .i64 cl, .int .i64 lb, uf, us, ur]] w fun e w' => e = .returned (.bool true) ∧ Below w.heap.size w w' := by
  obtain ⟨w0, hw0⟩ : ∃ z, z = (w.alloc (.cells #[.int .i64 cl, .int .i64 lb, vf, vs, vr] 30)).alloc (.cells #[.int .i64 cl, .int .i64 lb, uf, us, ur] 30) := ⟨_, rfl⟩
  have hb0 : Below w.heap.size w w0 := by rw [hw0]; exact bl_alloc (bl_alloc (Below.refl _ _) _) _
  have hz0 : w0.heap.size = w.heap.size + 2 := by rw [hw0]; simp
  have hza : (w.alloc (.cells #[.int .i64 cl, .int .i64 lb, vf, vs, vr] 30)).heap.size = w.heap.size + 1 := by simp
  have hA : w0.heap[w.heap.size]? = some (.cells #[.int .i64 cl, .int .i64 lb, vf, vs, vr] 30 (0, 0)) := by rw [hw0]; exact ((bl_alloc (Below.refl _ _) _).block _ (by omega)).trans (heap_alloc_new _ _)
  have hB : w0.heap[w.heap.size + 1]? = some (.cells #[.int .i64 cl, .int .i64 lb, uf, us, ur] 30 (0, 0)) := by rw [hw0, ← hza]; exact heap_alloc_new _ _
  have HA := Lib.hid hA
  have HB := Lib.hid hB
  have HW0 := Lib.hid hw0
  obtain ⟨⟨a0, a1, a2⟩, ⟨a3, a4⟩, af⟩ := cells5 HA
  obtain ⟨⟨b0, b1, b2⟩, ⟨b3, b4⟩, bf⟩ := cells5 HB
  have HF := Lib.hid hf
  have HS := Lib.hid hs
  have HR := Lib.hid hr
  have KF := Lib.hid kf
  have KS := Lib.hid ks
  have KR := Lib.hid kr
  clear hf hs hr kf ks kr hA hB hw0 hza hz0
  go_enter Tryz.func10, Tryz.ntmps10
  go_wp2_with fail
  rw [← HW0.out]
  refine (laws_sameInts vf uf F w0 ((HF.out.below hb0).more hb0.size) ((KF.out.below hb0).more hb0.size)).mono ?_
  rintro e w1 ⟨rfl, m1, rfl⟩
  go_wp2_with fail
  have hb1 := bl_drewN hb0 m1
  refine (laws_sameInts vs us S (w0.drewN m1) ((HS.out.below hb1).more hb1.size) ((KS.out.below hb1).more hb1.size)).mono ?_
  rintro e w2 ⟨rfl, m2, rfl⟩
  go_wp2_with fail
  have hb2 := bl_drewN hb0 (m1 + m2)
  refine (laws_sameLists vr ur R (w0.drewN (m1 + m2)) ((HR.out.below hb2).more hb2.size) ((KR.out.below hb2).more hb2.size)).mono ?_
  rintro e w3 ⟨rfl, m3, rfl⟩
  go_wp2_with fail
  go_ret
  exact ⟨rfl, bl_drewN hb0 _⟩
end
end Go.Proofs.YtjhljipehnmbnaaGreat
