/-
  Proved: the law FnExactCertificateText returns true for every walk problem and every certificate, and leaves them as they were. The row's own condition: the listed tables of strconv and math/bits hold what their text lays (the card ties them).
-/
import Derived.Test.YtoihklgooligkaaDoorRows
import Derived.Test.YtoihklgooligkaaDoorCards
import Derived.Test.YtoihklgooligkaaDoorTie
import Derived.Test.YtoihklgooligkaaDoorLaw
import Derived.Test.YtoihklgooligkaaDoorArgsWalk
import Derived.Test.YtoihklgooligkaaDoorWalkTexts
import Derived.Test.YtoihklgooligkaaDoorOpen
import Derived.Test.YtoihklgooligkaaDoorArgsCert
import Derived.Test.YtoihklgooligkaaDoorCertR
import Derived.ProofKit
import Derived.Lay
import Derived.LaidMore
import Derived.OpenShut
import Derived.ShutString
import Derived.Stop.Joined
import Derived.SevenTiedAt
import Derived.Deep.RegionHeld3
import Derived.Lib.SmallJoins
import Derived.Lib.LaidTab
namespace Go.Proofs.YtoihklgooligkaaDoor.fnExactCertificateText
open Go.ChangeShapes Go.WideShapes Go.ChangeAt Go.RowKit Go.Joins Go.Deep
set_option linter.unusedVariables false

theorem open5 {H : Type} {enc : TypeId × Value → H} {P : Program} {w : World} {base : Nat} {spare : Nat → Bool} {held : Bool} {r : Reach} {b0 : Nat} {t : TypeId} {f0 f1 f2 f3 f4 : Field} {v : Value} {d : DataW H} {p : List MemPlace} (hs : P.underlying t = some (.struct #[f0, f1, f2, f3, f4])) (hone : oneCellFields P #[f0, f1, f2, f3, f4] = true) (hC : P.cellsOf t = 5)
    (hv : Value.okWide P w r b0 t v) (h : DataW.Trod enc P w base spare held t v d p) :
    ∃ (v0 v1 v2 v3 v4 : Value) (y0 y1 y2 y3 y4 : DataW H × List MemPlace) (n : Nat), v = .agg #[v0, v1, v2, v3, v4] ∧
      DataW.trod enc P w base spare held n f0.type [v0] = some y0 ∧ DataW.trod enc P w base spare held n f1.type [v1] = some y1 ∧ DataW.trod enc P w base spare held n f2.type [v2] = some y2 ∧ DataW.trod enc P w base spare held n f3.type [v3] = some y3 ∧ DataW.trod enc P w base spare held n f4.type [v4] = some y4 := by
  obtain ⟨cs, rfl, hsz⟩ := okWide_struct hs hv
  obtain ⟨c0, c1, c2, c3, c4, rfl⟩ : ∃ c0 c1 c2 c3 c4, cs = #[c0, c1, c2, c3, c4] := by
    have h5 := hsz.trans hC
    obtain ⟨l⟩ := cs
    match l, h5 with
    | [c0, c1, c2, c3, c4], _ => exact ⟨c0, c1, c2, c3, c4, rfl⟩
  obtain ⟨fuel, hf⟩ := h
  obtain ⟨xs, n, _, hx, hl, hlen, hg⟩ := DataW.trod_struct hs hf
  match xs, hlen with
  | [y0, y1, y2, y3, y4], _ =>
    obtain ⟨o0, k0⟩ := hone_of hone 0 f0 rfl
    obtain ⟨o1, k1⟩ := hone_of hone 1 f1 rfl
    obtain ⟨o2, k2⟩ := hone_of hone 2 f2 rfl
    obtain ⟨o3, k3⟩ := hone_of hone 3 f3 rfl
    obtain ⟨o4, k4⟩ := hone_of hone 4 f4 rfl
    exact ⟨c0, c1, c2, c3, c4, y0, y1, y2, y3, y4, n, rfl, by simpa [Value.cells, o0, k0] using hg 0 f0 rfl, by simpa [Value.cells, o1, k1] using hg 1 f1 rfl, by simpa [Value.cells, o2, k2] using hg 2 f2 rfl, by simpa [Value.cells, o3, k3] using hg 3 f3 rfl, by simpa [Value.cells, o4, k4] using hg 4 f4 rfl⟩
set_option maxRecDepth 100000 in
set_option maxHeartbeats 2000000 in
theorem walk (n : Int) (v vf vs vr : Value) (xss : List (List Int)) (cl lb : Int) (f s : List Int) (rs : List (List Int)) (w : World) (h : RowsR w w.heap.size v xss) (hf : IntsR w w.heap.size vf f) (hs : IntsR w w.heap.size vs s) (hr : RowsR w w.heap.size vr rs) (hlb : I64 lb) (hp : Pow10 w) :
    Calls Tryd.prog 5 #[walkV n v, certV cl lb vf vs vr] w fun e w' => e = .returned (.bool true) ∧ Below w.heap.size w w' := by
  have HP := Lib.hid hp; clear hp
  have HH := Lib.hid h; clear h
  have HF := Lib.hid hf; clear hf
  have HS := Lib.hid hs; clear hs
  have HR := Lib.hid hr; clear hr
  have hb0 := bl_alloc (bl_alloc (Below.refl w.heap.size w) (.cells #[.int .i64 n, v] 25)) (.cells #[.int .i64 cl, .int .i64 lb, vf, vs, vr] 35)
  have hbx : Boxes ((w.alloc (.cells #[.int .i64 n, v] 25)).alloc (.cells #[.int .i64 cl, .int .i64 lb, vf, vs, vr] 35)) w.heap.size (.int .i64 n) v (.int .i64 cl) (.int .i64 lb) vf vs vr := by
    refine ⟨?_, ?_, ?_, ?_, ?_, ?_, ?_⟩
    · rw [World.cell?_alloc_lt _ _ _ (show w.heap.size < _ by simp), World.cell?_alloc_at _ _ _ _ rfl]; rfl
    · rw [World.cell?_alloc_lt _ _ _ (show w.heap.size < _ by simp), World.cell?_alloc_at _ _ _ _ rfl]; rfl
    all_goals
      rw [World.cell?_alloc_at _ _ _ _ (show w.heap.size + 1 = _ by simp)]; rfl
  have hsz : w.heap.size + 1 < ((w.alloc (.cells #[.int .i64 n, v] 25)).alloc (.cells #[.int .i64 cl, .int .i64 lb, vf, vs, vr] 35)).heap.size := by simp
  have HX0 := Lib.hid hbx; clear hbx
  have HZ0 := Lib.hid hsz; clear hsz
  have hz1 := szR_le (left := 1048576) (n := szRows xss) (by omega)
  go_enter Tryd.func5, Tryd.ntmps5
  go_wp2_with fail
  generalize (w.alloc (.cells #[.int .i64 n, v] 25)).alloc (.cells #[.int .i64 cl, .int .i64 lb, vf, vs, vr] 35) = w0 at *
  refine (sz_Walk n v xss 1048576 w0 ((HH.out.below hb0).more hb0.size) (by omega) (by omega)).mono ?_
  rintro e w1 ⟨rfl, hb1⟩
  have hB1 := bl_trans hb0 hb1
  have HX1 := Lib.hid (HX0.out.below hb1 HZ0.out); have HZ1 := Lib.hid (Nat.lt_of_lt_of_le HZ0.out hb1.size); obtain ⟨a10, a11, a12, a13, a14, a15, a16⟩ := HX1.out
  by_cases q1 : szR 1048576 (szRows xss) < 0
  · go_wp2_with fail
    go_ret
    exact ⟨rfl, hB1⟩
  · obtain ⟨k1, k2⟩ := szR_pos q1
    have hs1 : szRows xss ≤ 1048576 := by omega
    have K2 := Lib.hid k2; clear k2
    have kb : 0 ≤ szR 1048576 (szRows xss) ∧ szR 1048576 (szRows xss) ≤ 1048576 := by rw [K2.out]; omega
    go_wp2_with fail
    refine (sz_Cert cl lb vf vs vr f s rs (szR 1048576 (szRows xss)) w1 ((HF.out.below hB1).more hB1.size) ((HS.out.below hB1).more hB1.size) ((HR.out.below hB1).more hB1.size) kb.1 kb.2).mono ?_
    rintro e w2 ⟨rfl, hb2⟩
    have hB2 := bl_trans hB1 hb2
    have HX2 := Lib.hid (HX1.out.below hb2 HZ1.out); have HZ2 := Lib.hid (Nat.lt_of_lt_of_le HZ1.out hb2.size); obtain ⟨a20, a21, a22, a23, a24, a25, a26⟩ := HX2.out
    by_cases q2 : szR (szR 1048576 (szRows xss)) (szCert f s rs) < 0
    · go_wp2_with fail
      go_ret
      exact ⟨rfl, hB2⟩
    · obtain ⟨k3, k4⟩ := szR_pos q2
      have hs2 : szCert f s rs ≤ 1048576 := by omega
      have K4 := Lib.hid k4; clear k4
      have hlen : f.length ≤ 1000000000 ∧ s.length ≤ 1000000000 ∧ rs.length ≤ 1000000000 := by unfold szCert szRows at hs2; omega
      go_wp2_with fail
      refine wp_region_held_drew (S := (fun w' => w'.cell? ⟨w.heap.size, 0, none⟩ = some (.int .i64 n) ∧ w'.cell? ⟨w.heap.size, 1, none⟩ = some v ∧ w'.cell? ⟨w.heap.size + 1, 0, none⟩ = some (.int .i64 cl) ∧ w'.cell? ⟨w.heap.size + 1, 1, none⟩ = some (.int .i64 lb) ∧ w'.cell? ⟨w.heap.size + 1, 2, none⟩ = some vf ∧ w'.cell? ⟨w.heap.size + 1, 3, none⟩ = some vs ∧ w'.cell? ⟨w.heap.size + 1, 4, none⟩ = some vr)) (by kernel_rfl) ?_ (fun hHeld => ?_)
      · go_keep
      refine take_wanted 0 23 (v := ?v100) rfl rfl (by kernel_rfl) (by kernel_rfl) (by kernel_rfl) (fun _ _ _ h => h) (by rfl) ?y100 (by assumption) ?r100
      case y100 => intro w hSw; (try dsimp only at hSw); go_simp <;> with_reducible rfl
      try simp only [Act.put, List.setIfInBounds_toArray, List.set_cons_zero, List.set_cons_succ]
      refine take_wanted 2 25 (v := ?v102) rfl rfl (by kernel_rfl) (by kernel_rfl) (by kernel_rfl) (fun _ _ _ h => h) (by rfl) ?y102 (by assumption) ?r102
      case y102 => intro w hSw; (try dsimp only at hSw); go_simp <;> with_reducible rfl
      try simp only [Act.put, List.setIfInBounds_toArray, List.set_cons_zero, List.set_cons_succ]
      refine take_ready 1 rfl (by kernel_rfl) (fun K hK => ?_)
      go_simp
      (go_at_call 11; refine (to_Walk n v xss _ ((HH.out.below hB2.drew).more hB2.drew.size) hs1).mono ?_; rintro e w3 ⟨v3, bs3, rfl, ho3, hn3, hbs3, hb3⟩; have hB3 := bl_trans hB2.drew hb3; have HO3 := Lib.hid (ho3.reads (fun b hb => (hbs3 b hb).2)); clear ho3 hn3 hbs3; have HX2d := Lib.hid (HX2.out.below (Below.refl w2.heap.size w2).drew HZ2.out); have HZ2d := HZ2; have HX3 := Lib.hid (HX2d.out.below hb3 HZ2d.out); have HZ3 := Lib.hid (Nat.lt_of_lt_of_le HZ2d.out hb3.size); obtain ⟨a30, a31, a32, a33, a34, a35, a36⟩ := HX3.out)
      refine hK.out _ _ ?_ (fun hHeld => ?_)
      · go_keep
      clear hK K
      try simp only [Act.put, List.setIfInBounds_toArray, List.set_cons_zero, List.set_cons_succ]
      refine take_ready 3 rfl (by kernel_rfl) (fun K hK => ?_)
      go_simp
      (go_at_call 16; refine (to_Cert cl lb vf vs vr f s rs _ ((HF.out.below hB3).more hB3.size) ((HS.out.below hB3).more hB3.size) ((HR.out.below hB3).more hB3.size) hs2).mono ?_; rintro e w4 ⟨vf4, vs4, vr4, bf4, bs4, br4, rfl, hof4, hos4, hor4, hn4, hbs4, hb4⟩; have hB4 := bl_trans hB3 hb4; have HF4 := Lib.hid (hof4.reads hof4.1.lt); have HS4 := Lib.hid (hos4.reads hos4.1.lt); have HR4 := Lib.hid (hor4.reads (fun b hb => (hbs4 b (by simp [hb])).2)); have HW4 := Lib.hid ((HO3.out.below hb4).more hb4.size); clear hof4 hos4 hor4 hn4 hbs4; have HX4 := Lib.hid (HX3.out.below hb4 HZ3.out); have HZ4 := Lib.hid (Nat.lt_of_lt_of_le HZ3.out hb4.size); obtain ⟨a40, a41, a42, a43, a44, a45, a46⟩ := HX4.out)
      refine hK.out _ _ ?_ (fun hHeld => ?_)
      · go_keep
      clear hK K
      try simp only [Act.put, List.setIfInBounds_toArray, List.set_cons_zero, List.set_cons_succ]
      refine take_ready 4 rfl (by kernel_rfl) (fun K hK => ?_)
      go_simp
      (go_at_call 15; refine (spec_CertificateText n v3 vf4 vs4 vr4 xss cl lb f s rs w4 HW4.out HF4.out HS4.out HR4.out hlen hlb).mono ?_; rintro e w5 ⟨rfl, hb5⟩; have hB5 := bl_trans hB4 hb5; have HX5 := Lib.hid (HX4.out.below hb5 HZ4.out); have HZ5 := Lib.hid (Nat.lt_of_lt_of_le HZ4.out hb5.size); obtain ⟨a50, a51, a52, a53, a54, a55, a56⟩ := HX5.out)
      refine hK.out _ _ ?_ (fun hHeld => ?_)
      · go_keep
      clear hK K
      try simp only [Act.put, List.setIfInBounds_toArray, List.set_cons_zero, List.set_cons_succ]
      refine take_wanted 5 22 (v := ?v105) rfl rfl (by kernel_rfl) (by kernel_rfl) (by kernel_rfl) (fun _ _ _ h => h) (by rfl) ?y105 (by assumption) ?r105
      case y105 => intro w hSw; (try dsimp only at hSw); go_simp <;> with_reducible rfl
      try simp only [Act.put, List.setIfInBounds_toArray, List.set_cons_zero, List.set_cons_succ]
      refine take_wanted 6 28 (v := ?v106) rfl rfl (by kernel_rfl) (by kernel_rfl) (by kernel_rfl) (fun _ _ _ h => h) (by rfl) ?y106 (by assumption) ?r106
      case y106 => intro w hSw; (try dsimp only at hSw); go_simp <;> with_reducible rfl
      try simp only [Act.put, List.setIfInBounds_toArray, List.set_cons_zero, List.set_cons_succ]
      refine take_wanted 7 29 (v := ?v107) rfl rfl (by kernel_rfl) (by kernel_rfl) (by kernel_rfl) (fun _ _ _ h => h) (by rfl) ?y107 (by assumption) ?r107
      case y107 => intro w hSw; (try dsimp only at hSw); go_simp <;> with_reducible rfl
      try simp only [Act.put, List.setIfInBounds_toArray, List.set_cons_zero, List.set_cons_succ]
      refine take_wanted 8 6 (v := ?v108) rfl rfl (by kernel_rfl) (by kernel_rfl) (by kernel_rfl) (fun _ _ _ h => h) (by rfl) ?y108 (by assumption) ?r108
      case y108 => intro w hSw; (try dsimp only at hSw); go_simp <;> with_reducible rfl
      try simp only [Act.put, List.setIfInBounds_toArray, List.set_cons_zero, List.set_cons_succ]
      refine take_wanted 9 7 (v := ?v109) rfl rfl (by kernel_rfl) (by kernel_rfl) (by kernel_rfl) (fun _ _ _ h => h) (by rfl) ?y109 (by assumption) ?r109
      case y109 => intro w hSw; (try dsimp only at hSw); go_simp <;> with_reducible rfl
      try simp only [Act.put, List.setIfInBounds_toArray, List.set_cons_zero, List.set_cons_succ]
      refine wpAnyH_done (by kernel_rfl) ?_ _
      go_wp2_with fail
      refine (to_Walk n v xss w5 ((HH.out.below hB5).more hB5.size) hs1).mono ?_
      rintro e w6 ⟨v6, bs6, rfl, ho6, hn6, hbs6, hb6⟩
      have hB6 := bl_trans hB5 hb6
      have HX6 := Lib.hid (HX5.out.below hb6 HZ5.out); have HZ6 := Lib.hid (Nat.lt_of_lt_of_le HZ5.out hb6.size); obtain ⟨a60, a61, a62, a63, a64, a65, a66⟩ := HX6.out
      obtain ⟨A6, m6, c6, rfl⟩ := ho6.isSlice
      have HO6 := Lib.hid (ho6.reads (fun b hb => (hbs6 b hb).2)); clear ho6 hn6 hbs6
      have hz6 := HZ6.out
      have hb6s := bl_alloc (Below.refl w6.heap.size w6) (.cells #[.int .i64 n, .slice A6 m6 c6] 29)
      have x60 : (w6.alloc (.cells #[.int .i64 n, .slice A6 m6 c6] 29)).cell? ⟨w6.heap.size, 0, none⟩ = some (.int .i64 n) := by rw [World.cell?_alloc_at _ _ _ _ rfl]; rfl
      have x61 : (w6.alloc (.cells #[.int .i64 n, .slice A6 m6 c6] 29)).cell? ⟨w6.heap.size, 1, none⟩ = some (.slice A6 m6 c6) := by rw [World.cell?_alloc_at _ _ _ _ rfl]; rfl
      have s6s : (w6.alloc (.cells #[.int .i64 n, .slice A6 m6 c6] 29)).heap.size = w6.heap.size + 1 := by simp
      have X60 := Lib.hid x60; clear x60
      have X61 := Lib.hid x61; clear x61
      have S6 := Lib.hid s6s; clear s6s
      go_wp2_with fail
      generalize w6.alloc (.cells #[.int .i64 n, .slice A6 m6 c6] 29) = w6s at *
      have hB6s := bl_trans hB6 hb6s
      have HX6s := Lib.hid (HX6.out.below hb6s HZ6.out)
      have HZ6s := Lib.hid (Nat.lt_of_lt_of_le HZ6.out hb6s.size)
      refine (to_Cert cl lb vf vs vr f s rs w6s ((HF.out.below hB6s).more hB6s.size) ((HS.out.below hB6s).more hB6s.size) ((HR.out.below hB6s).more hB6s.size) hs2).mono ?_
      rintro e w7 ⟨vf7, vs7, vr7, bf7, bs7, br7, rfl, hof7, hos7, hor7, hn7, hbs7, hb7⟩
      have hB7 := bl_trans hB6s hb7
      obtain ⟨Af7, mf7, cf7, rfl⟩ := hof7.1.isSlice
      obtain ⟨As7, ms7, cs7, rfl⟩ := hos7.1.isSlice
      obtain ⟨Ar7, mr7, cr7, rfl⟩ := hor7.isSlice
      have HF7 := Lib.hid (hof7.reads hof7.1.lt)
      have HS7 := Lib.hid (hos7.reads hos7.1.lt)
      have HR7 := Lib.hid (hor7.reads (fun b hb => (hbs7 b (by simp [hb])).2))
      clear hof7 hos7 hor7 hn7 hbs7
      have y60 := (hb7.cell (p := ⟨w6.heap.size, 0, none⟩) (show w6.heap.size < w6s.heap.size by rw [S6.out]; omega)).trans X60.out
      have y61 := (hb7.cell (p := ⟨w6.heap.size, 1, none⟩) (show w6.heap.size < w6s.heap.size by rw [S6.out]; omega)).trans X61.out
      have hz67 : w6.heap.size < w7.heap.size := by have := hb7.size; rw [S6.out] at this; omega
      have hz7 : w.heap.size + 1 < w7.heap.size := Nat.lt_of_lt_of_le HZ6s.out hb7.size
      have hb7s := bl_alloc (Below.refl w7.heap.size w7) (.cells #[.int .i64 cl, .int .i64 lb, .slice Af7 mf7 cf7, .slice As7 ms7 cs7, .slice Ar7 mr7 cr7] 38)
      have hx1 : Box5 (w7.alloc (.cells #[.int .i64 cl, .int .i64 lb, .slice Af7 mf7 cf7, .slice As7 ms7 cs7, .slice Ar7 mr7 cr7] 38)) w7.heap.size (.int .i64 cl) (.int .i64 lb) (.slice Af7 mf7 cf7) (.slice As7 ms7 cs7) (.slice Ar7 mr7 cr7) := by
        refine ⟨?_, ?_, ?_, ?_, ?_⟩
        all_goals
          rw [World.cell?_alloc_at _ _ _ _ rfl]; rfl
      have s7s : (w7.alloc (.cells #[.int .i64 cl, .int .i64 lb, .slice Af7 mf7 cf7, .slice As7 ms7 cs7, .slice Ar7 mr7 cr7] 38)).heap.size = w7.heap.size + 1 := by simp
      have BX := Lib.hid hx1; clear hx1
      have S7 := Lib.hid s7s; clear s7s
      go_wp2_with fail
      generalize w7.alloc (.cells #[.int .i64 cl, .int .i64 lb, .slice Af7 mf7 cf7, .slice As7 ms7 cs7, .slice Ar7 mr7 cr7] 38) = w7s at *
      have hB7s := bl_trans hB7 hb7s
      have Y0 := Lib.hid ((hb7s.cell (p := ⟨w6.heap.size, 0, none⟩) hz67).trans y60)
      have Y1 := Lib.hid ((hb7s.cell (p := ⟨w6.heap.size, 1, none⟩) hz67).trans y61)
      have HX7s := Lib.hid (((HX6s.out.below hb7 HZ6s.out).below hb7s hz7))
      have HZ7s := Lib.hid (Nat.lt_of_lt_of_le hz7 hb7s.size)
      have hl7 : w7.heap.size < w7s.heap.size := by rw [S7.out]; omega
      have hl6 : w6.heap.size < w7s.heap.size := by rw [S7.out]; omega
      have hkeep := Lib.hid (fun (W : World) (h : Below w7s.heap.size w7s W) => And.intro ((h.cell (p := ⟨w6.heap.size, 0, none⟩) hl6).trans Y0.out) (And.intro ((h.cell (p := ⟨w6.heap.size, 1, none⟩) hl6).trans Y1.out) (And.intro (BX.out.below h hl7).c0 (And.intro (BX.out.below h hl7).c1 (And.intro (BX.out.below h hl7).c2 (And.intro (BX.out.below h hl7).c3 (BX.out.below h hl7).c4))))))
      have HW7 := Lib.hid (fun (W : World) (h : Below w7s.heap.size w7s W) => show RowsR W W.heap.size (.slice A6 m6 c6) xss from ((((HO6.out.below hb6s).more hb6s.size).below (hb7.trans (hb7s.mono hb7.size))).below (h.mono (by have := hb7.size; have := hb7s.size; omega))).more (by have := h.size; have := hb7.size; have := hb7s.size; omega))
      have HF8 := Lib.hid (fun (W : World) (h : Below w7s.heap.size w7s W) => show IntsR W W.heap.size (.slice Af7 mf7 cf7) f from ((HF7.out.below hb7s).below (h.mono hb7s.size)).more (by have := h.size; have := hb7s.size; omega))
      have HS8r := Lib.hid (fun (W : World) (h : Below w7s.heap.size w7s W) => show IntsR W W.heap.size (.slice As7 ms7 cs7) s from ((HS7.out.below hb7s).below (h.mono hb7s.size)).more (by have := h.size; have := hb7s.size; omega))
      have HR8 := Lib.hid (fun (W : World) (h : Below w7s.heap.size w7s W) => show RowsR W W.heap.size (.slice Ar7 mr7 cr7) rs from ((HR7.out.below hb7s).below (h.mono hb7s.size)).more (by have := h.size; have := hb7s.size; omega))
      refine (impl_CertificateText n _ _ _ _ xss cl lb f s rs w7s (HW7.out _ (Below.refl _ _)) (HF8.out _ (Below.refl _ _)) (HS8r.out _ (Below.refl _ _)) (HR8.out _ (Below.refl _ _)) hlen hlb (HP.out.below hB7s)).mono ?_
      rintro e w8 ⟨rfl, hb8⟩
      have hB8 := bl_trans hB7s hb8
      have HX8 := Lib.hid (HX7s.out.below hb8 HZ7s.out); have HZ8 := Lib.hid (Nat.lt_of_lt_of_le HZ7s.out hb8.size); obtain ⟨a80, a81, a82, a83, a84, a85, a86⟩ := HX8.out
      have HE8 := Lib.hid hb8
      have HS8 := Lib.hid hb8.size
      obtain ⟨e80, e81, e82, e83, e84, e85, e86⟩ := hkeep.out _ HE8.out
      unfold strV
      go_wp2_with fail
      refine wp_region_held_drew (S := (fun w' => w'.cell? ⟨w.heap.size, 0, none⟩ = some (.int .i64 n) ∧ w'.cell? ⟨w.heap.size, 1, none⟩ = some v ∧ w'.cell? ⟨w.heap.size + 1, 0, none⟩ = some (.int .i64 cl) ∧ w'.cell? ⟨w.heap.size + 1, 1, none⟩ = some (.int .i64 lb) ∧ w'.cell? ⟨w.heap.size + 1, 2, none⟩ = some vf ∧ w'.cell? ⟨w.heap.size + 1, 3, none⟩ = some vs ∧ w'.cell? ⟨w.heap.size + 1, 4, none⟩ = some vr ∧ w'.cell? ⟨w6.heap.size, 0, none⟩ = some (.int .i64 n) ∧ w'.cell? ⟨w6.heap.size, 1, none⟩ = some (.slice A6 m6 c6) ∧ w'.cell? ⟨w7.heap.size, 0, none⟩ = some (.int .i64 cl) ∧ w'.cell? ⟨w7.heap.size, 1, none⟩ = some (.int .i64 lb) ∧ w'.cell? ⟨w7.heap.size, 2, none⟩ = some (.slice Af7 mf7 cf7) ∧ w'.cell? ⟨w7.heap.size, 3, none⟩ = some (.slice As7 ms7 cs7) ∧ w'.cell? ⟨w7.heap.size, 4, none⟩ = some (.slice Ar7 mr7 cr7))) (by kernel_rfl) ?_ (fun hHeld => ?_)
      · go_keep
      refine take_wanted 0 48 (v := ?v200) rfl rfl (by kernel_rfl) (by kernel_rfl) (by kernel_rfl) (fun _ _ _ h => h) (by rfl) ?y200 (by assumption) ?r200
      case y200 => intro w hSw; (try dsimp only at hSw); go_simp <;> with_reducible rfl
      try simp only [Act.put, List.setIfInBounds_toArray, List.set_cons_zero, List.set_cons_succ]
      refine take_wanted 1 49 (v := ?v201) rfl rfl (by kernel_rfl) (by kernel_rfl) (by kernel_rfl) (fun _ _ _ h => h) (by rfl) ?y201 (by assumption) ?r201
      case y201 => intro w hSw; (try dsimp only at hSw); go_simp <;> with_reducible rfl
      try simp only [Act.put, List.setIfInBounds_toArray, List.set_cons_zero, List.set_cons_succ]
      refine take_ready 2 rfl (by kernel_rfl) (fun K hK => ?_)
      go_simp
      (go_at_call 11; refine (to_Walk n v xss _ ((HH.out.below hB8.drew).more hB8.drew.size) hs1).mono ?_; rintro e w9 ⟨v9, bs9, rfl, ho9, hn9, hbs9, hb9⟩; have hB9 := bl_trans hB8.drew hb9; have HO9 := Lib.hid (ho9.reads (fun b hb => (hbs9 b hb).2)); clear ho9 hn9 hbs9; have HX8d := Lib.hid (HX8.out.below (Below.refl w8.heap.size w8).drew HZ8.out); have HZ8d := HZ8; have HE8d := Lib.hid (HE8.out.trans (Below.refl w7s.heap.size w8).drew); have HS8d := HS8; have HX9 := Lib.hid (HX8d.out.below hb9 HZ8d.out); have HZ9 := Lib.hid (Nat.lt_of_lt_of_le HZ8d.out hb9.size); obtain ⟨a90, a91, a92, a93, a94, a95, a96⟩ := HX9.out; have HE9 := Lib.hid (HE8d.out.trans (hb9.mono HS8d.out)); have HS9 := Lib.hid (Nat.le_trans HS8d.out hb9.size); obtain ⟨e90, e91, e92, e93, e94, e95, e96⟩ := hkeep.out _ HE9.out)
      refine hK.out _ _ ?_ (fun hHeld => ?_)
      · go_keep
      clear hK K
      try simp only [Act.put, List.setIfInBounds_toArray, List.set_cons_zero, List.set_cons_succ]
      refine take_ready 3 rfl (by kernel_rfl) (fun K hK => ?_)
      go_simp
      (go_at_call 13; refine (eq_Walk n _ v9 xss w9 (HW7.out w9 HE9.out) HO9.out).mono ?_; rintro e w10 ⟨rfl, hb10⟩; have hB10 := bl_trans hB9 hb10; have HX10 := Lib.hid (HX9.out.below hb10 HZ9.out); have HZ10 := Lib.hid (Nat.lt_of_lt_of_le HZ9.out hb10.size); obtain ⟨a100, a101, a102, a103, a104, a105, a106⟩ := HX10.out; have HE10 := Lib.hid (HE9.out.trans (hb10.mono HS9.out)); have HS10 := Lib.hid (Nat.le_trans HS9.out hb10.size); obtain ⟨e100, e101, e102, e103, e104, e105, e106⟩ := hkeep.out _ HE10.out)
      refine hK.out _ _ ?_ (fun hHeld => ?_)
      · go_keep
      clear hK K
      try simp only [Act.put, List.setIfInBounds_toArray, List.set_cons_zero, List.set_cons_succ]
      refine take_wanted 4 52 (v := ?v204) rfl rfl (by kernel_rfl) (by kernel_rfl) (by kernel_rfl) (fun _ _ _ h => h) (by rfl) ?y204 (by assumption) ?r204
      case y204 => intro w hSw; (try dsimp only at hSw); go_simp <;> with_reducible rfl
      try simp only [Act.put, List.setIfInBounds_toArray, List.set_cons_zero, List.set_cons_succ]
      refine wpAnyH_done (by kernel_rfl) ?_ _
      go_wp2_with fail
      refine wp_region_held_drew (S := (fun w' => w'.cell? ⟨w.heap.size, 0, none⟩ = some (.int .i64 n) ∧ w'.cell? ⟨w.heap.size, 1, none⟩ = some v ∧ w'.cell? ⟨w.heap.size + 1, 0, none⟩ = some (.int .i64 cl) ∧ w'.cell? ⟨w.heap.size + 1, 1, none⟩ = some (.int .i64 lb) ∧ w'.cell? ⟨w.heap.size + 1, 2, none⟩ = some vf ∧ w'.cell? ⟨w.heap.size + 1, 3, none⟩ = some vs ∧ w'.cell? ⟨w.heap.size + 1, 4, none⟩ = some vr ∧ w'.cell? ⟨w6.heap.size, 0, none⟩ = some (.int .i64 n) ∧ w'.cell? ⟨w6.heap.size, 1, none⟩ = some (.slice A6 m6 c6) ∧ w'.cell? ⟨w7.heap.size, 0, none⟩ = some (.int .i64 cl) ∧ w'.cell? ⟨w7.heap.size, 1, none⟩ = some (.int .i64 lb) ∧ w'.cell? ⟨w7.heap.size, 2, none⟩ = some (.slice Af7 mf7 cf7) ∧ w'.cell? ⟨w7.heap.size, 3, none⟩ = some (.slice As7 ms7 cs7) ∧ w'.cell? ⟨w7.heap.size, 4, none⟩ = some (.slice Ar7 mr7 cr7))) (by kernel_rfl) ?_ (fun hHeld => ?_)
      · go_keep
      refine take_wanted 0 53 (v := ?v300) rfl rfl (by kernel_rfl) (by kernel_rfl) (by kernel_rfl) (fun _ _ _ h => h) (by rfl) ?y300 (by assumption) ?r300
      case y300 => intro w hSw; (try dsimp only at hSw); go_simp <;> with_reducible rfl
      try simp only [Act.put, List.setIfInBounds_toArray, List.set_cons_zero, List.set_cons_succ]
      refine take_wanted 1 54 (v := ?v301) rfl rfl (by kernel_rfl) (by kernel_rfl) (by kernel_rfl) (fun _ _ _ h => h) (by rfl) ?y301 (by assumption) ?r301
      case y301 => intro w hSw; (try dsimp only at hSw); go_simp <;> with_reducible rfl
      try simp only [Act.put, List.setIfInBounds_toArray, List.set_cons_zero, List.set_cons_succ]
      refine take_ready 2 rfl (by kernel_rfl) (fun K hK => ?_)
      go_simp
      (go_at_call 16; refine (to_Cert cl lb vf vs vr f s rs _ ((HF.out.below hB10.drew).more hB10.drew.size) ((HS.out.below hB10.drew).more hB10.drew.size) ((HR.out.below hB10.drew).more hB10.drew.size) hs2).mono ?_; rintro e w11 ⟨vf11, vs11, vr11, bf11, bs11, br11, rfl, hof11, hos11, hor11, hn11, hbs11, hb11⟩; have hB11 := bl_trans hB10.drew hb11; have HF11 := Lib.hid (hof11.reads hof11.1.lt); have HS11 := Lib.hid (hos11.reads hos11.1.lt); have HR11 := Lib.hid (hor11.reads (fun b hb => (hbs11 b (by simp [hb])).2)); clear hof11 hos11 hor11 hn11 hbs11; have HX10d := Lib.hid (HX10.out.below (Below.refl w10.heap.size w10).drew HZ10.out); have HZ10d := HZ10; have HE10d := Lib.hid (HE10.out.trans (Below.refl w7s.heap.size w10).drew); have HS10d := HS10; have HX11 := Lib.hid (HX10d.out.below hb11 HZ10d.out); have HZ11 := Lib.hid (Nat.lt_of_lt_of_le HZ10d.out hb11.size); obtain ⟨a110, a111, a112, a113, a114, a115, a116⟩ := HX11.out; have HE11 := Lib.hid (HE10d.out.trans (hb11.mono HS10d.out)); have HSz11 := Lib.hid (Nat.le_trans HS10d.out hb11.size); obtain ⟨e110, e111, e112, e113, e114, e115, e116⟩ := hkeep.out _ HE11.out)
      refine hK.out _ _ ?_ (fun hHeld => ?_)
      · go_keep
      clear hK K
      try simp only [Act.put, List.setIfInBounds_toArray, List.set_cons_zero, List.set_cons_succ]
      refine take_ready 3 rfl (by kernel_rfl) (fun K hK => ?_)
      go_simp
      (go_at_call 18; refine (eq_Cert cl lb _ _ _ vf11 vs11 vr11 f s rs w11 (HF8.out w11 HE11.out) (HS8r.out w11 HE11.out) (HR8.out w11 HE11.out) HF11.out HS11.out HR11.out).mono ?_; rintro e w12 ⟨rfl, hb12⟩; have hB12 := bl_trans hB11 hb12; have HX12 := Lib.hid (HX11.out.below hb12 HZ11.out); have HZ12 := Lib.hid (Nat.lt_of_lt_of_le HZ11.out hb12.size); obtain ⟨a120, a121, a122, a123, a124, a125, a126⟩ := HX12.out; have HE12 := Lib.hid (HE11.out.trans (hb12.mono HSz11.out)); have HS12 := Lib.hid (Nat.le_trans HSz11.out hb12.size); obtain ⟨e120, e121, e122, e123, e124, e125, e126⟩ := hkeep.out _ HE12.out)
      refine hK.out _ _ ?_ (fun hHeld => ?_)
      · go_keep
      clear hK K
      try simp only [Act.put, List.setIfInBounds_toArray, List.set_cons_zero, List.set_cons_succ]
      refine take_wanted 4 57 (v := ?v304) rfl rfl (by kernel_rfl) (by kernel_rfl) (by kernel_rfl) (fun _ _ _ h => h) (by rfl) ?y304 (by assumption) ?r304
      case y304 => intro w hSw; (try dsimp only at hSw); go_simp <;> with_reducible rfl
      try simp only [Act.put, List.setIfInBounds_toArray, List.set_cons_zero, List.set_cons_succ]
      refine wpAnyH_done (by kernel_rfl) ?_ _
      go_wp2_with fail
      go_ret
      exact ⟨rfl, hB12⟩

theorem laidOut : laidOutB Tryd.prog = true := by kernel_rfl
theorem own : ownKnob Tryd.prog.godebug = none := by kernel_rfl
set_option maxRecDepth 100000 in
theorem lifted (os : Os) (started : os.Started) (H : Type) (enc : TypeId × Value → H) :
    ReturnsInHanded {} Tryd.checked os 5 .any (fun w args => (Rows.fnExactCertificateTextSpec.pre enc Tryd.prog Tryd.f5 [] false w args ∧ laidMetH Tryd.prog Rows.fnExactCertificateTextRow.laid w) ∧ sizedMet enc Tryd.prog Tryd.f5 (OpenSpec.ofChange Rows.fnExactCertificateTextSpec) false w args)
      (Rows.fnExactCertificateTextSpec.post enc Tryd.prog Tryd.f5 false true false false) := by
  refine law_lifted (C := Tryd.checked) (X := fun w _ => laidMetH Tryd.prog Rows.fnExactCertificateTextRow.laid w) (fun _ _ _ hh h => h.of_heap hh) own started (by kernel_rfl) Tryd.func5
    laidOut (by kernel_rfl) rfl (by kernel_rfl) Tryd.underlying4 (fun ds h => by match ds, h with | [_, _], _ => rfl)
    (ChangeSpec.witness_shaped (enc := enc) (C := Tryd.checked) (os := os) (X := fun w _ => laidMetH Tryd.prog Rows.fnExactCertificateTextRow.laid w) false (World.laidAll Tryd.prog os Rows.fnExactCertificateTextRow.laid) #[.agg #[.int .i64 0, .slice none 0 0], .agg #[.int .i64 0, .int .i64 0, .slice none 0 0, .slice none 0 0, .slice none 0 0]] 8 (World.laidAll_os _ _ _)
      (World.shaped_of_ZipB (by kernel_rfl) (by kernel_rfl)) (by kernel_rfl) (by kernel_rfl) (by kernel_rfl)
      (by rw [MakeChecks.laidMetH_plain _ _ _ (by kernel_rfl)]; exact laidMet_laidAll _ (by kernel_rfl) (by kernel_rfl))) ?_
  intro W base args ds p hval0 hA0 hlt hL hsh
  have hval : ∀ (j : Nat) t v, Tryd.f5.params[j]? = some t → args[j]? = some v → Value.okWide Tryd.prog W .any base t v := hval0
  have hA : DataW.TrodAll enc Tryd.prog W 0 (fun _ => true) true Tryd.f5.params.toList args.toList ds p := hA0
  rw [Tryd.params5] at hA hval
  obtain ⟨v0, vs0, d0, ds0, p0, q0, hargs, rfl, rfl, h0, r0⟩ := trodAll_cons hA
  obtain ⟨v1, vs1, d1, ds1, p1, q1, rfl, rfl, rfl, h1, r1⟩ := trodAll_cons r0
  obtain ⟨rfl, rfl, rfl⟩ := trodAll_nil r1
  obtain rfl : args = #[v0, v1] := by cases args; simp_all
  obtain ⟨c0, c1, y0, y1, m, rfl, rfl, -, hy0, hy1⟩ := open_agg2 Tryd.underlying25 (by kernel_rfl) (by kernel_rfl) (hval 0 25 v0 rfl rfl) h0
  obtain ⟨n, e0, -, wn⟩ := DataW.trod_int Tryd.underlying3 hy0
  obtain ⟨v, xss, e1, hr⟩ := rows_of_trod Tryd.underlying23 Tryd.underlying33 Tryd.underlying3 (by kernel_rfl) (by kernel_rfl) hy1
  simp only [List.cons.injEq, and_true] at e0 e1
  subst e0 e1
  obtain ⟨d0, d1, d2, d3, d4, z0, z1, z2, z3, z4, m', rfl, hz0, hz1, hz2, hz3, hz4⟩ := open5 Tryd.underlying35 (by kernel_rfl) (by kernel_rfl) (hval 1 35 v1 rfl rfl) h1
  obtain ⟨cl, g0, -, wcl⟩ := DataW.trod_int Tryd.underlying3 hz0
  obtain ⟨lb, g1, -, wlb⟩ := DataW.trod_int Tryd.underlying3 hz1
  obtain ⟨vf, f, g2, hf⟩ := ints_of_trod Tryd.underlying33 Tryd.underlying3 (by kernel_rfl) hz2
  obtain ⟨vs, s, g3, hs⟩ := ints_of_trod Tryd.underlying33 Tryd.underlying3 (by kernel_rfl) hz3
  obtain ⟨vr, rs, g4, hrr⟩ := rows_of_trod Tryd.underlying23 Tryd.underlying33 Tryd.underlying3 (by kernel_rfl) (by kernel_rfl) hz4
  simp only [List.cons.injEq, and_true] at g0 g1 g2 g3 g4
  subst g0 g1 g2 g3 g4
  rw [MakeChecks.laidMetH_plain _ _ _ (by kernel_rfl)] at hL
  have hP : Pow10 W := pow10_of_laid (r := []) 2 (by kernel_rfl) hL
  exact walk n _ _ _ _ xss cl lb f s rs W hr hf hs hrr (I64_of_wf wlb) hP

theorem over : Rows.FnExactCertificateTextSaid :=
  OpenClaim.holds_of_wide 5 Tryd.f5 rfl rfl rfl rfl rfl rfl rfl ⟨rfl, rfl, rfl, rfl, rfl⟩ rfl rfl rfl rfl rfl (by kernel_rfl) Tryd.func5 (by kernel_rfl)
    (of_decide_eq_true (by kernel_rfl)) (by unfold Func.isWrapper; first | (rw [if_pos (by decide +kernel)]; kernel_rfl) | (rw [if_neg (by decide +kernel)]; exact ⟨rfl, rfl⟩))
    (fun os started H enc _ => lifted os started H enc)

/-- The statement: the tied card. -/
theorem proved : Rows.FnExactCertificateTextCardSaid :=
  Claim7.holds_tied_plain_at .later [] [.data, .data, .data] true Rows.fnExactCertificateTextCard.stood.harness false
    over (fun _ h => by cases h) (by kernel_rfl) (fun _ h => by cases h) fnExactCertificateText_row_tie rfl ⟨rfl, rfl⟩ (by kernel_rfl) rfl
    (fun f fn hf hfn => by
      obtain rfl : f = 5 := Option.some.inj ((show Tryd.prog.funcNamed Rows.fnExactCertificateTextRow.func = some 5 by kernel_rfl).symm.trans hf) |>.symm
      obtain rfl : fn = Tryd.f5 := (Option.some.inj (Tryd.func5.symm.trans hfn)).symm
      exact ⟨by kernel_rfl, fun j t ht => by
        rw [Tryd.params5] at ht
        have hm : t ∈ [25, 35] := by simpa using Array.mem_of_getElem? ht
        have hall : ([25, 35].all fun u => !Tryd.prog.wantsStandIn u) = true := by kernel_rfl
        exact (show Tryd.prog.wantsStandIn t = false by simpa using List.all_eq_true.1 hall t hm)⟩)
    (by kernel_rfl)
#print axioms proved
end Go.Proofs.YtoihklgooligkaaDoor.fnExactCertificateText
