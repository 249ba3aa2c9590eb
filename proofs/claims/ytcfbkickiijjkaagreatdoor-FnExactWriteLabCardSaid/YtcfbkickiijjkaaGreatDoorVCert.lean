/-
  Certificates of walk problems: the form, and the reference's waCheck, for every good walk problem.
-/
import Derived.Test.YtcfbkickiijjkaaGreatDoorVAbove
import Derived.Test.YtcfbkickiijjkaaGreatDoorVRanksImpl
namespace Go.Proofs.YtcfbkickiijjkaaGreatDoor
open Go.RowKit
set_option linter.all false
def cert3 (n : Nat) (xss : List (List Int)) (cl lb : Int) (f s : List Int) (rs : List (List Int)) : Prop := inB lb 0 ((n : Int) - 1) = true ∧ f.length + s.length + rs.length = 0 ∧ hasArc xss lb.toNat lb.toNat
def cert2 (n : Nat) (xss : List (List Int)) (cl lb : Int) (f s : List Int) (rs : List (List Int)) : Prop := inB lb 0 ((n : Int) - 1) = true ∧ rs.length = 0 ∧ (∀ a, ¬ hasArc xss a a) ∧ closedP n xss f lb ∧ closedP n xss s lb ∧ Nat.gcd (f.length - 1) (s.length - 1) = 1
def cert1 (n : Nat) (xss : List (List Int)) (cl lb : Int) (f s : List Int) (rs : List (List Int)) : Prop := inB lb 0 ((n : Int) - 1) = true ∧ s.length = 0 ∧ closedP n xss f lb ∧ RanksP true n xss rs
def cert0 (n : Nat) (xss : List (List Int)) (cl lb : Int) (f s : List Int) (rs : List (List Int)) : Prop := lb = 0 ∧ f.length + s.length = 0 ∧ RanksP false n xss rs
def certP (n : Nat) (xss : List (List Int)) (cl lb : Int) (f s : List Int) (rs : List (List Int)) : Prop :=
  (cl = 3 ∧ cert3 n xss cl lb f s rs) ∨ (cl = 2 ∧ cert2 n xss cl lb f s rs) ∨ (cl = 1 ∧ cert1 n xss cl lb f s rs) ∨ (cl = 0 ∧ cert0 n xss cl lb f s rs)
theorem certP_3 (n : Nat) (xss : List (List Int)) (lb : Int) (f s : List Int) (rs : List (List Int)) : certP n xss 3 lb f s rs ↔ cert3 n xss 3 lb f s rs := by unfold certP; simp
theorem certP_2 (n : Nat) (xss : List (List Int)) (lb : Int) (f s : List Int) (rs : List (List Int)) : certP n xss 2 lb f s rs ↔ cert2 n xss 2 lb f s rs := by unfold certP; simp
theorem certP_1 (n : Nat) (xss : List (List Int)) (lb : Int) (f s : List Int) (rs : List (List Int)) : certP n xss 1 lb f s rs ↔ cert1 n xss 1 lb f s rs := by unfold certP; simp
theorem certP_0 (n : Nat) (xss : List (List Int)) (lb : Int) (f s : List Int) (rs : List (List Int)) : certP n xss 0 lb f s rs ↔ cert0 n xss 0 lb f s rs := by unfold certP; simp
structure Boxes (w : World) (b : Nat) (n v cl lb vf vs vr : Value) : Prop where
  p0 : w.cell? ⟨b, 0, none⟩ = some n
  p1 : w.cell? ⟨b, 1, none⟩ = some v
  c0 : w.cell? ⟨b + 1, 0, none⟩ = some cl
  c1 : w.cell? ⟨b + 1, 1, none⟩ = some lb
  c2 : w.cell? ⟨b + 1, 2, none⟩ = some vf
  c3 : w.cell? ⟨b + 1, 3, none⟩ = some vs
  c4 : w.cell? ⟨b + 1, 4, none⟩ = some vr
theorem Boxes.below {w w' : World} {b B : Nat} {n v cl lb vf vs vr : Value} (h : Boxes w b n v cl lb vf vs vr) (hb : Below B w w') (hB : b + 1 < B) : Boxes w' b n v cl lb vf vs vr :=
  ⟨(hb.cell (p := ⟨b, 0, none⟩) (by show b < B; omega)).trans h.p0, (hb.cell (p := ⟨b, 1, none⟩) (by show b < B; omega)).trans h.p1,
   (hb.cell (p := ⟨b + 1, 0, none⟩) hB).trans h.c0, (hb.cell (p := ⟨b + 1, 1, none⟩) hB).trans h.c1, (hb.cell (p := ⟨b + 1, 2, none⟩) hB).trans h.c2, (hb.cell (p := ⟨b + 1, 3, none⟩) hB).trans h.c3, (hb.cell (p := ⟨b + 1, 4, none⟩) hB).trans h.c4⟩
/-! A region that draws its order, walked by hand: an operation that is taken first, one that is not wanted, and the one that is ready. -/
theorem take_wanted {P : Program} {md : Region.Mode} {ops : Array Oper} {Q : Exit → Act → World → Prop} {S : World → Prop} {fuel : Nat} {listed : Array Bool} {a : Act} {w : World} (i d : Nat) {oi : Oper} {v : Value}
    (hi : ops.toList[i]? = some oi) (hd : oi.dst = some d) (hs : Region.noSelect ops = true) (hf : Region.free md ops listed i = true) (hr : (Region.ready md ops listed).contains i = true)
    (hQ : ∀ c a w, Q (.panic c) (a.put (some d) v) w → Q (.panic c) a w) (hw : Region.wanted oi (yielded ops a.tmps) = true) (hy : ∀ w, S w → (execOp a.eval oi).run P w = .ok (.value v) w) (hS : S w)
    (h : wpAnyH P md ops Q S fuel (listed.setIfInBounds i true) (a.put (some d) v) w) : wpAnyH P md ops Q S (fuel + 1) listed a w := by
  rw [← hd] at hQ h
  exact wpAnyH_take (by rw [← Array.getElem?_toList]; exact hi) hs hf hr hQ (Or.inl ⟨hw, hy⟩) hS h
theorem take_not {P : Program} {md : Region.Mode} {ops : Array Oper} {Q : Exit → Act → World → Prop} {S : World → Prop} {fuel : Nat} {listed : Array Bool} {a : Act} {w : World} (i d : Nat) {oi : Oper}
    (hi : ops.toList[i]? = some oi) (hd : oi.dst = some d) (hs : Region.noSelect ops = true) (hf : Region.free md ops listed i = true) (hr : (Region.ready md ops listed).contains i = true)
    (hQ : ∀ c a w, Q (.panic c) (a.put (some d) undef) w → Q (.panic c) a w) (hw : Region.wanted oi (yielded ops a.tmps) = false) (hS : S w)
    (h : wpAnyH P md ops Q S fuel (listed.setIfInBounds i true) (a.put (some d) undef) w) : wpAnyH P md ops Q S (fuel + 1) listed a w := by
  rw [← hd] at hQ h
  exact wpAnyH_take (by rw [← Array.getElem?_toList]; exact hi) hs hf hr hQ (Or.inr ⟨hw, rfl⟩) hS h
theorem take_ready {P : Program} {md : Region.Mode} {ops : Array Oper} {Q : Exit → Act → World → Prop} {S : World → Prop} {fuel : Nat} {listed : Array Bool} {a : Act} {w : World} (i : Nat) {o : Oper}
    (hi : ops.toList[i]? = some o) (hr : Region.ready md ops listed = [i])
    (h : ∀ K' : Act → World → Prop, Shut (∀ a w, S w → (S w → wpAnyH P md ops Q S fuel (listed.setIfInBounds i true) a w) → K' a w) → if Region.wanted o (yielded ops a.tmps) = true then Oper.wp P o a w K' Q else K' (a.put o.dst undef) w) :
    wpAnyH P md ops Q S (fuel + 1) listed a w :=
  wpAnyH_ready hr (by simp) (AllReadyH.cons (by rw [← Array.getElem?_toList]; exact hi) h AllReadyH.nil)
theorem mayF_false {xss : List (List Int)} {a b : Nat} (h : mayF xss a b = false) : ¬ hasArc xss a b := fun k => by unfold mayF at h; rw [propB_t k] at h; cases h
theorem propB_ff {p : Prop} (h : propB p = false) : ¬ p := fun k => by rw [propB_t k] at h; cases h
set_option maxRecDepth 100000 in
set_option maxHeartbeats 2000000 in
theorem spec_waCheck (n : Nat) (v vf vs vr : Value) (xss : List (List Int)) (cl lb : Int) (f s : List Int) (rs : List (List Int)) (w : World) (h : RowsR w w.heap.size v xss) (hf : IntsR w w.heap.size vf f) (hs : IntsR w w.heap.size vs s) (hr : RowsR w w.heap.size vr rs) (hg : Good n xss)
  (hlen : f.length ≤ 1000000000 ∧ s.length ≤ 1000000000 ∧ rs.length ≤ 1000000000) (hlb : I64 lb) :
  Calls Tryz.prog 119 #[.agg #[.int .i64 (n : Int), v], .agg #[.int .i64 cl, .int .i64 lb, vf, vs, vr]] w fun e w' => e = .returned (.bool (propB (certP n xss cl lb f s rs))) ∧ Below w.heap.size w w' := by
 have hn : (1 : Int) ≤ n ∧ (n : Int) ≤ 12 := by have := hg.1; unfold inB at this; simpa using this
 have HH := Lib.hid h; clear h
 have HF := Lib.hid hf
 have HS := Lib.hid hs
 have HR := Lib.hid hr
 have HG := Lib.hid hg; clear hg
 obtain ⟨Af, cf, rfl, f1, f2, f3⟩ := hf.open_
 obtain ⟨As, cs, rfl, s1, s2, s3⟩ := hs.open_
 obtain ⟨Ar, cr, rfl, r1, r2, r3⟩ := hr.open_
 clear f3 s3 r3 hf hs hr
 unfold maxLen at f2 s2 r2
 obtain ⟨l1, l2, l3⟩ := hlen
 unfold I64 at hlb
 have hb0 := bl_alloc (bl_alloc (Below.refl w.heap.size w) (.cells #[.int .i64 (n : Int), v] 50)) (.cells #[.int .i64 cl, .int .i64 lb, .slice Af f.length cf, .slice As s.length cs, .slice Ar rs.length cr] 51)
 have hbx : Boxes ((w.alloc (.cells #[.int .i64 (n : Int), v] 50)).alloc (.cells #[.int .i64 cl, .int .i64 lb, .slice Af f.length cf, .slice As s.length cs, .slice Ar rs.length cr] 51)) w.heap.size (.int .i64 (n : Int)) v (.int .i64 cl) (.int .i64 lb) (.slice Af f.length cf) (.slice As s.length cs) (.slice Ar rs.length cr) := by
  refine ⟨?_, ?_, ?_, ?_, ?_, ?_, ?_⟩
  ·
   rw [World.cell?_alloc_lt _ _ _ (show w.heap.size < _ by simp), World.cell?_alloc_at _ _ _ _ rfl]; rfl
  ·
   rw [World.cell?_alloc_lt _ _ _ (show w.heap.size < _ by simp), World.cell?_alloc_at _ _ _ _ rfl]; rfl
  all_goals
   rw [World.cell?_alloc_at _ _ _ _ (show w.heap.size + 1 = _ by simp)]; rfl
 have hsz : ((w.alloc (.cells #[.int .i64 (n : Int), v] 50)).alloc (.cells #[.int .i64 cl, .int .i64 lb, .slice Af f.length cf, .slice As s.length cs, .slice Ar rs.length cr] 51)).heap.size = w.heap.size + 2 := by simp
 have HB := Lib.hid hbx; clear hbx
 have HZ := Lib.hid hsz; clear hsz
 go_enter Tryz.func119, Tryz.ntmps119
 go_wp2_with fail
 generalize (w.alloc (.cells #[.int .i64 (n : Int), v] 50)).alloc (.cells #[.int .i64 cl, .int .i64 lb, .slice Af f.length cf, .slice As s.length cs, .slice Ar rs.length cr] 51) = w0 at *
 refine (spec_l1In lb 0 ((n : Int) - 1) w0).mono ?_
 rintro e w' ⟨rfl, rfl⟩
 have HZw0 := Lib.hid (show w.heap.size + 2 ≤ w0.heap.size by rw [HZ.out]; omega)
 obtain ⟨p0, p1, c0, c1, c2, c3, c4⟩ := HB.out
 by_cases e3 : cl = 3
 ·
  subst e3
  have HP := Lib.hid (certP_3 n xss lb f s rs)
  cases q1 : inB lb 0 ((n : Int) - 1) with
  | false =>
   go_wp2_with fail
   go_quiet (fail)
   go_wp2_with fail
   go_ret
   exact ⟨ret_bool (propB_f (fun h => by have := (HP.out.1 h).1; rw [q1] at this; cases this)).symm, bl_drewN hb0 _⟩
  | true =>
   have hq : 0 ≤ lb ∧ lb ≤ (n : Int) - 1 := by unfold inB at q1; simpa using q1
   obtain ⟨a, rfl⟩ := Int.eq_ofNat_of_zero_le hq.1
   have han : a < n := by omega
   have HQ1 := Lib.hid q1; clear q1
   by_cases q2 : f.length + s.length + rs.length = 0
   ·
    have t0 : ((f.length : Int) + (s.length : Int) + (rs.length : Int) == 0) = true := by rw [beq_iff_eq]; omega
    have HQ2 := Lib.hid q2; clear q2
    have e1 : IntKind.i64.wrap ((f.length : Int) + (s.length : Int)) = (f.length : Int) + (s.length : Int) := IntWalk.i64_in _ (by omega)
    have e2 : IntKind.i64.wrap ((f.length : Int) + (s.length : Int) + (rs.length : Int)) = (f.length : Int) + (s.length : Int) + (rs.length : Int) := IntWalk.i64_in _ (by omega)
    have HM := Lib.hid (fun (W : World) (hW : Below w0.heap.size w0 W) => spec_waMay n v xss W ((HH.out.below (hb0.trans (hW.mono (by rw [HZ.out]; omega)))).more (by have := hW.size; have := hb0.size; omega)) HG.out)
    go_wp2_with fail
    refine wp_region_held_drew (S := (fun w' => w'.cell? ⟨w.heap.size, 0, none⟩ = some (.int .i64 (n : Int)) ∧ w'.cell? ⟨w.heap.size, 1, none⟩ = some v ∧ w'.cell? ⟨w.heap.size + 1, 1, none⟩ = some (.int .i64 (a : Int)) ∧ w'.cell? ⟨w.heap.size + 1, 2, none⟩ = some (.slice Af f.length cf) ∧ w'.cell? ⟨w.heap.size + 1, 3, none⟩ = some (.slice As s.length cs) ∧ w'.cell? ⟨w.heap.size + 1, 4, none⟩ = some (.slice Ar rs.length cr))) (by kernel_rfl) ?_ (fun hHeld => ?_)
    ·
     go_keep
    refine tk 0 16 rfl rfl ?_
    try simp only [pu]
    refine tk 1 17 rfl rfl ?_
    try simp only [pu]
    refine tk 2 18 rfl rfl ?_
    try simp only [pu]
    refine tk 3 19 rfl rfl ?_
    try simp only [pu]
    refine tk 4 20 rfl rfl ?_
    try simp only [pu]
    refine tk 5 21 rfl rfl ?_
    try simp only [pu]
    refine tk 6 22 rfl rfl ?_
    try simp only [pu]
    refine tk 7 23 rfl rfl ?_
    try simp only [pu]
    refine tk 8 24 rfl rfl ?_
    try simp only [pu]
    refine tk 9 25 rfl rfl ?_
    try simp only [pu]
    refine tk 10 26 rfl rfl ?_
    try simp only [pu]
    refine tk 11 27 rfl rfl ?_
    try simp only [pu]
    refine tk 12 28 rfl rfl ?_
    try simp only [pu]
    refine tk 13 29 rfl rfl ?_
    try simp only [pu]
    refine tk 14 30 rfl rfl ?_
    try simp only [pu]
    refine tk 15 31 rfl rfl ?_
    try simp only [pu]
    refine tk 16 32 rfl rfl ?_
    try simp only [pu]
    refine tk 18 34 rfl rfl ?_
    try simp only [pu]
    refine tk 19 35 rfl rfl ?_
    try simp only [pu]
    refine tk 22 38 rfl rfl ?_
    try simp only [pu]
    refine tk 23 39 rfl rfl ?_
    try simp only [pu]
    refine take_ready 17 rfl (by kernel_rfl) (fun K hK => ?_)
    go_simp
    (go_at_call 146; refine (HM.out _ (by first | exact (Below.refl _ _).drew | exact Below.refl _ _)).mono ?_; rintro e w1 ⟨v', rfl, ⟨adm, cm, rfl, g1, g2, g3⟩, hb1⟩; obtain ⟨ad2, c2', k1, k2, k3, k4⟩ := g3 a (by omega); have k5 := k4 a (by omega); clear k4 g3; obtain ⟨z0, z1, z2, z3, z4, z5, z6⟩ := (HB.out.below (Below.refl _ _).drew (show w.heap.size + 1 < w0.heap.size by rw [HZ.out]; omega)).below hb1 (show w.heap.size + 1 < w0.drew.heap.size by show _ < w0.heap.size; rw [HZ.out]; omega))
    refine hK.out _ _ ?_ (fun hHeld => ?_)
    ·
     go_keep
    clear hK K
    try simp only [pu]
    refine tk 20 36 rfl rfl ?_
    try simp only [pu]
    refine take_ready 21 rfl (by kernel_rfl) (fun K hK => ?_)
    go_simp
    refine hK.out _ _ ?_ (fun hHeld => ?_)
    ·
     go_keep
    clear hK K
    try simp only [pu]
    refine tk 24 40 rfl rfl ?_
    try simp only [pu]
    refine take_ready 25 rfl (by kernel_rfl) (fun K hK => ?_)
    go_simp
    refine hK.out _ _ ?_ (fun hHeld => ?_)
    ·
     go_keep
    clear hK K
    try simp only [pu]
    refine tk 26 42 rfl rfl ?_
    try simp only [pu]
    refine tk 27 4 rfl rfl ?_
    try simp only [pu]
    refine wpAnyH_done (by kernel_rfl) ?_ _
    all_goals
     cases q3 : mayF xss a a with
     | true =>
      go_wp2_with fail
      go_ret
      exact ⟨ret_bool (propB_t (HP.out.2 ⟨HQ1.out, HQ2.out, propB_iff.1 q3⟩)).symm, bl_trans hb0.drew hb1⟩
     | false =>
      go_wp2_with fail
      go_ret
      exact ⟨ret_bool (propB_f (fun h => mayF_false q3 (HP.out.1 h).2.2)).symm, bl_trans hb0.drew hb1⟩
   ·
    have t0 : ((f.length : Int) + (s.length : Int) + (rs.length : Int) == 0) = false := by rw [beq_eq_false_iff_ne]; omega
    have HQ2 := Lib.hid q2; clear q2
    go_wp2_with fail
    go_quiet (fail)
    go_wp2_with fail
    go_ret
    exact ⟨ret_bool (propB_f (fun h => HQ2.out (HP.out.1 h).2.1)).symm, bl_drewN hb0 _⟩
 ·
  by_cases e2 : cl = 2
  ·
   subst e2
   have HP := Lib.hid (certP_2 n xss lb f s rs)
   cases q1 : inB lb 0 ((n : Int) - 1) with
   | false =>
    go_wp2_with fail
    go_ret
    exact ⟨ret_bool (propB_f (fun h => by have := (HP.out.1 h).1; rw [q1] at this; cases this)).symm, hb0⟩
   | true =>
    have HQ1 := Lib.hid q1; clear q1
    by_cases q2 : rs.length = 0
    ·
     have t0 : ((rs.length : Int) == 0) = true := by rw [beq_iff_eq]; omega
     have HQ2 := Lib.hid q2; clear q2
     go_wp2_with fail
     refine (spec_waLoop n v xss w0 ((HH.out.below hb0).more hb0.size) HG.out).mono ?_
     rintro e u1 ⟨i, rfl, hi, hb_u1⟩
     have hbu1 := bl_trans hb0 hb_u1
     have HXu1 := Lib.hid (HB.out.below hb_u1 (by have := HZw0.out; omega))
     have HZu1 := Lib.hid (show w.heap.size + 2 ≤ u1.heap.size by have := hb_u1.size; have := HZw0.out; omega)
     obtain ⟨yu10, yu11, yu12, yu13, yu14, yu15, yu16⟩ := HXu1.out
     by_cases q3 : i < 0
     ·
      have HN := Lib.hid (show ∀ a, ¬ hasArc xss a a from by
       rcases hi with ⟨_, h⟩ | ⟨k, a, e, _⟩
       ·
        exact h
       ·
        omega)
      have t1 : decide (i < 0) = true := decide_eq_true q3
      go_wp2_with fail
      refine (spec_waRound n v _ xss f lb u1 ((HH.out.below hbu1).more hbu1.size) ((HF.out.below hbu1).more hbu1.size) HG.out).mono ?_
      rintro e u2 ⟨rfl, hb_u2⟩
      have hbu2 := bl_trans hbu1 hb_u2
      have HXu2 := Lib.hid (HXu1.out.below hb_u2 (by have := HZu1.out; omega))
      have HZu2 := Lib.hid (show w.heap.size + 2 ≤ u2.heap.size by have := hb_u2.size; have := HZu1.out; omega)
      obtain ⟨yu20, yu21, yu22, yu23, yu24, yu25, yu26⟩ := HXu2.out
      cases q4 : propB (closedP n xss f lb) with
      | false =>
       go_wp2_with fail
       go_ret
       exact ⟨ret_bool (propB_f (fun h => propB_ff q4 (HP.out.1 h).2.2.2.1)).symm, hbu2⟩
      | true =>
       go_wp2_with fail
       refine (spec_waRound n v _ xss s lb u2 ((HH.out.below hbu2).more hbu2.size) ((HS.out.below hbu2).more hbu2.size) HG.out).mono ?_
       rintro e u3 ⟨rfl, hb_u3⟩
       have hbu3 := bl_trans hbu2 hb_u3
       have HXu3 := Lib.hid (HXu2.out.below hb_u3 (by have := HZu2.out; omega))
       have HZu3 := Lib.hid (show w.heap.size + 2 ≤ u3.heap.size by have := hb_u3.size; have := HZu2.out; omega)
       obtain ⟨yu30, yu31, yu32, yu33, yu34, yu35, yu36⟩ := HXu3.out
       cases q5 : propB (closedP n xss s lb) with
       | false =>
        go_wp2_with fail
        go_ret
        exact ⟨ret_bool (propB_f (fun h => propB_ff q5 (HP.out.1 h).2.2.2.2.1)).symm, hbu3⟩
       | true =>
        have o1 : (2 : Int) ≤ f.length ∧ (f.length : Int) ≤ 200 := by have := (propB_iff.1 q4).1; unfold inB at this; simpa using this
        have o2 : (2 : Int) ≤ s.length ∧ (s.length : Int) ≤ 200 := by have := (propB_iff.1 q5).1; unfold inB at this; simpa using this
        have x1 : (f.length : Int) - 1 = ((f.length - 1 : Nat) : Int) := by omega
        have x2 : (s.length : Int) - 1 = ((s.length - 1 : Nat) : Int) := by omega
        have X1 := Lib.hid x1; clear x1
        have X2 := Lib.hid x2; clear x2
        go_wp2_with fail
        rw [X1.out, X2.out]
        refine (spec_waGcd (f.length - 1) (s.length - 1) u3 (by omega) (by omega)).mono ?_
        rintro e w' ⟨rfl, m, rfl⟩
        by_cases q6 : Nat.gcd (f.length - 1) (s.length - 1) = 1
        ·
         have t6 : ((Nat.gcd (f.length - 1) (s.length - 1) : Int) == 1) = true := by rw [q6]; rfl
         have HQ6 := Lib.hid q6; clear q6
         go_wp2_with fail
         go_ret
         exact ⟨ret_bool (propB_t (HP.out.2 ⟨HQ1.out, HQ2.out, HN.out, propB_iff.1 q4, propB_iff.1 q5, HQ6.out⟩)).symm, bl_drewN hbu3 _⟩
        ·
         have t6 : ((Nat.gcd (f.length - 1) (s.length - 1) : Int) == 1) = false := by rw [beq_eq_false_iff_ne]; omega
         have HQ6 := Lib.hid q6; clear q6
         go_wp2_with fail
         go_ret
         exact ⟨ret_bool (propB_f (fun h => HQ6.out (HP.out.1 h).2.2.2.2.2)).symm, bl_drewN hbu3 _⟩
     ·
      have HN := Lib.hid (show ∃ a, hasArc xss a a from by
       rcases hi with ⟨e, h⟩ | ⟨k, a, e, h, _⟩
       ·
        omega
       ·
        exact ⟨a, List.mem_of_getElem? h⟩)
      have t1 : decide (i < 0) = false := decide_eq_false q3
      go_wp2_with fail
      go_ret
      exact ⟨ret_bool (propB_f (fun h => by obtain ⟨a, ha⟩ := HN.out; exact (HP.out.1 h).2.2.1 a ha)).symm, hbu1⟩
    ·
     have t0 : ((rs.length : Int) == 0) = false := by rw [beq_eq_false_iff_ne]; omega
     have HQ2 := Lib.hid q2; clear q2
     go_wp2_with fail
     go_ret
     exact ⟨ret_bool (propB_f (fun h => HQ2.out (HP.out.1 h).2.1)).symm, hb0⟩
  ·
   by_cases e1 : cl = 1
   ·
    subst e1
    have HP := Lib.hid (certP_1 n xss lb f s rs)
    cases q1 : inB lb 0 ((n : Int) - 1) with
    | false =>
     go_wp2_with fail
     go_ret
     exact ⟨ret_bool (propB_f (fun h => by have := (HP.out.1 h).1; rw [q1] at this; cases this)).symm, hb0⟩
    | true =>
     have HQ1 := Lib.hid q1; clear q1
     by_cases q2 : s.length = 0
     ·
      have t0 : ((s.length : Int) == 0) = true := by rw [beq_iff_eq]; omega
      have HQ2 := Lib.hid q2; clear q2
      go_wp2_with fail
      refine (spec_waRound n v _ xss f lb w0 ((HH.out.below hb0).more hb0.size) ((HF.out.below hb0).more hb0.size) HG.out).mono ?_
      rintro e u2 ⟨rfl, hb_u2⟩
      have hbu2 := bl_trans hb0 hb_u2
      have HXu2 := Lib.hid (HB.out.below hb_u2 (by have := HZw0.out; omega))
      have HZu2 := Lib.hid (show w.heap.size + 2 ≤ u2.heap.size by have := hb_u2.size; have := HZw0.out; omega)
      obtain ⟨yu20, yu21, yu22, yu23, yu24, yu25, yu26⟩ := HXu2.out
      cases q4 : propB (closedP n xss f lb) with
      | false =>
       go_wp2_with fail
       go_ret
       exact ⟨ret_bool (propB_f (fun h => propB_ff q4 (HP.out.1 h).2.2.1)).symm, hbu2⟩
      | true =>
       go_wp2_with fail
       refine (spec_waRanked n v _ xss rs u2 ((HH.out.below hbu2).more hbu2.size) ((HR.out.below hbu2).more hbu2.size) HG.out).mono ?_
       rintro e u3 ⟨rfl, hb_u3⟩
       have hbu3 := bl_trans hbu2 hb_u3
       have HXu3 := Lib.hid (HXu2.out.below hb_u3 (by have := HZu2.out; omega))
       have HZu3 := Lib.hid (show w.heap.size + 2 ≤ u3.heap.size by have := hb_u3.size; have := HZu2.out; omega)
       obtain ⟨yu30, yu31, yu32, yu33, yu34, yu35, yu36⟩ := HXu3.out
       cases q5 : propB (RanksP true n xss rs) with
       | false =>
        go_wp2_with fail
        go_ret
        exact ⟨ret_bool (propB_f (fun h => propB_ff q5 (HP.out.1 h).2.2.2)).symm, hbu3⟩
       | true =>
        go_wp2_with fail
        go_ret
        exact ⟨ret_bool (propB_t (HP.out.2 ⟨HQ1.out, HQ2.out, propB_iff.1 q4, propB_iff.1 q5⟩)).symm, hbu3⟩
     ·
      have t0 : ((s.length : Int) == 0) = false := by rw [beq_eq_false_iff_ne]; omega
      have HQ2 := Lib.hid q2; clear q2
      go_wp2_with fail
      go_ret
      exact ⟨ret_bool (propB_f (fun h => HQ2.out (HP.out.1 h).2.1)).symm, hb0⟩
   ·
    by_cases e0 : cl = 0
    ·
     subst e0
     have HP := Lib.hid (certP_0 n xss lb f s rs)
     by_cases q1 : lb = 0
     ·
      have t1 : (lb == 0) = true := by rw [beq_iff_eq]; exact q1
      have HQ1 := Lib.hid q1; clear q1
      by_cases q2 : f.length + s.length = 0
      ·
       have t0 : ((f.length : Int) + (s.length : Int) == 0) = true := by rw [beq_iff_eq]; omega
       have HQ2 := Lib.hid q2; clear q2
       go_wp2_with fail
       refine (spec_waRanked n v _ xss rs w0 ((HH.out.below hb0).more hb0.size) ((HR.out.below hb0).more hb0.size) HG.out).mono ?_
       rintro e u2 ⟨rfl, hb_u2⟩
       have hbu2 := bl_trans hb0 hb_u2
       have HXu2 := Lib.hid (HB.out.below hb_u2 (by have := HZw0.out; omega))
       have HZu2 := Lib.hid (show w.heap.size + 2 ≤ u2.heap.size by have := hb_u2.size; have := HZw0.out; omega)
       obtain ⟨yu20, yu21, yu22, yu23, yu24, yu25, yu26⟩ := HXu2.out
       cases q5 : propB (RanksP true n xss rs) with
       | false =>
        go_wp2_with fail
        go_ret
        exact ⟨ret_bool (propB_f (fun h => propB_ff q5 ((RanksP.above n xss rs).1 (HP.out.1 h).2.2).1)).symm, hbu2⟩
       | true =>
        go_wp2_with fail
        refine (spec_waAbove n v _ xss rs u2 ((HH.out.below hbu2).more hbu2.size) ((HR.out.below hbu2).more hbu2.size) HG.out (propB_iff.1 q5).1 (propB_iff.1 q5).2.1).mono ?_
        rintro e u3 ⟨rfl, hb_u3⟩
        have hbu3 := bl_trans hbu2 hb_u3
        have HXu3 := Lib.hid (HXu2.out.below hb_u3 (by have := HZu2.out; omega))
        have HZu3 := Lib.hid (show w.heap.size + 2 ≤ u3.heap.size by have := hb_u3.size; have := HZu2.out; omega)
        obtain ⟨yu30, yu31, yu32, yu33, yu34, yu35, yu36⟩ := HXu3.out
        cases q6 : propB (ArcsTo false rs xss xss.length) with
        | false =>
         go_wp2_with fail
         go_ret
         exact ⟨ret_bool (propB_f (fun h => propB_ff q6 ((RanksP.above n xss rs).1 (HP.out.1 h).2.2).2)).symm, hbu3⟩
        | true =>
         go_wp2_with fail
         go_ret
         exact ⟨ret_bool (propB_t (HP.out.2 ⟨HQ1.out, HQ2.out, (RanksP.above n xss rs).2 ⟨propB_iff.1 q5, propB_iff.1 q6⟩⟩)).symm, hbu3⟩
      ·
       have t0 : ((f.length : Int) + (s.length : Int) == 0) = false := by rw [beq_eq_false_iff_ne]; omega
       have HQ2 := Lib.hid q2; clear q2
       go_wp2_with fail
       go_ret
       exact ⟨ret_bool (propB_f (fun h => HQ2.out (HP.out.1 h).2.1)).symm, hb0⟩
     ·
      have t1 : (lb == 0) = false := by rw [beq_eq_false_iff_ne]; exact q1
      have HQ1 := Lib.hid q1; clear q1
      go_wp2_with fail
      go_ret
      exact ⟨ret_bool (propB_f (fun h => HQ1.out (HP.out.1 h).1)).symm, hb0⟩
    ·
     have d3 : (cl == 3) = false := by rw [beq_eq_false_iff_ne]; exact e3
     have d2 : (cl == 2) = false := by rw [beq_eq_false_iff_ne]; exact e2
     have d1 : (cl == 1) = false := by rw [beq_eq_false_iff_ne]; exact e1
     have d0 : (cl == 0) = false := by rw [beq_eq_false_iff_ne]; exact e0
     have HE := Lib.hid (And.intro e3 (And.intro e2 (And.intro e1 e0))); clear e3 e2 e1 e0
     go_wp2_with fail
     go_ret
     exact ⟨ret_bool (propB_f (fun h => by unfold certP at h; have := HE.out; omega)).symm, hb0⟩
end Go.Proofs.YtcfbkickiijjkaaGreatDoor
