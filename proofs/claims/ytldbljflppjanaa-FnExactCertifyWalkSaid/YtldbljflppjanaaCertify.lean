/-
  Proved: the law FnExactCertifyWalk returns true for every walk problem, and leaves it as it was. No condition. (The frame at the end is after the kit's proof-skeleton.mjs.)
-/
import Derived.Test.YtldbljflppjanaaRows
import Derived.Test.YtldbljflppjanaaCwTS
import Derived.Test.YtldbljflppjanaaMark
import Derived.Test.YtldbljflppjanaaMarkCert
import Derived.Test.YtldbljflppjanaaArgsWalk
import Derived.Test.YtldbljflppjanaaArgsCert
import Derived.Test.YtldbljflppjanaaOpen
import Derived.ProofKit
import Derived.OpenShut
import Derived.ShutString
import Derived.Deep.RegionHeld3
import Derived.Lib.SmallJoins
namespace Go.Proofs.Ytldbljflppjanaa.fnExactCertifyWalk
open Go.ChangeShapes Go.WideShapes Go.ChangeAt Go.RowKit Go.Joins Go.Deep
set_option linter.unusedVariables false
set_option linter.unusedSimpArgs false
structure BoxW (w : World) (b : Nat) (x v : Value) : Prop where
  c0 : w.cell? ⟨b, 0, none⟩ = some x
  c1 : w.cell? ⟨b, 1, none⟩ = some v
  f0 : w.frozen? ⟨b, 0, none⟩ = false
  f1 : w.frozen? ⟨b, 1, none⟩ = false
theorem BoxW.below {w w' : World} {b B : Nat} {x v : Value} (h : BoxW w b x v) (hb : Below B w w') (hB : b < B) : BoxW w' b x v :=
  ⟨(hb.cell (p := ⟨b, 0, none⟩) hB).trans h.c0, (hb.cell (p := ⟨b, 1, none⟩) hB).trans h.c1, (hb.frozen (p := ⟨b, 0, none⟩) hB).trans h.f0, (hb.frozen (p := ⟨b, 1, none⟩) hB).trans h.f1⟩
theorem BoxW.new (w : World) (t : TypeId) (x v : Value) : BoxW (w.alloc (.cells #[x, v] t)) w.heap.size x v := by
  have h : (w.alloc (.cells #[x, v] t)).heap[w.heap.size]? = some (.cells #[x, v] t (0, 0)) := heap_alloc_new _ _
  refine ⟨?_, ?_, ?_, ?_⟩
  · rw [World.cell?_alloc_at _ _ _ _ rfl]; rfl
  · rw [World.cell?_alloc_at _ _ _ _ rfl]; rfl
  · unfold World.frozen?; rw [h]; rfl
  · unfold World.frozen?; rw [h]; rfl
structure BoxC (w : World) (b : Nat) (x0 x1 x2 x3 x4 : Value) : Prop where
  c0 : w.cell? ⟨b, 0, none⟩ = some x0
  c1 : w.cell? ⟨b, 1, none⟩ = some x1
  c2 : w.cell? ⟨b, 2, none⟩ = some x2
  c3 : w.cell? ⟨b, 3, none⟩ = some x3
  c4 : w.cell? ⟨b, 4, none⟩ = some x4
  f0 : w.frozen? ⟨b, 0, none⟩ = false
  f1 : w.frozen? ⟨b, 1, none⟩ = false
  f2 : w.frozen? ⟨b, 2, none⟩ = false
  f3 : w.frozen? ⟨b, 3, none⟩ = false
  f4 : w.frozen? ⟨b, 4, none⟩ = false
theorem BoxC.keep {w w' : World} {b : Nat} {x0 x1 x2 x3 x4 : Value} (h : BoxC w b x0 x1 x2 x3 x4) (hk : w'.heap[b]? = w.heap[b]?) : BoxC w' b x0 x1 x2 x3 x4 := by
  have e1 : ∀ i, w'.cell? ⟨b, i, none⟩ = w.cell? ⟨b, i, none⟩ := fun i => by unfold World.cell?; simp only [hk]
  have e2 : ∀ i, w'.frozen? ⟨b, i, none⟩ = w.frozen? ⟨b, i, none⟩ := fun i => by unfold World.frozen?; simp only [hk]
  exact ⟨(e1 0).trans h.c0, (e1 1).trans h.c1, (e1 2).trans h.c2, (e1 3).trans h.c3, (e1 4).trans h.c4, (e2 0).trans h.f0, (e2 1).trans h.f1, (e2 2).trans h.f2, (e2 3).trans h.f3, (e2 4).trans h.f4⟩
theorem BoxC.below {w w' : World} {b B : Nat} {x0 x1 x2 x3 x4 : Value} (h : BoxC w b x0 x1 x2 x3 x4) (hb : Below B w w') (hB : b < B) : BoxC w' b x0 x1 x2 x3 x4 := h.keep (hb.block b hB)
theorem BoxC.new (w : World) (t : TypeId) (x0 x1 x2 x3 x4 : Value) : BoxC (w.alloc (.cells #[x0, x1, x2, x3, x4] t)) w.heap.size x0 x1 x2 x3 x4 := by
  have h : (w.alloc (.cells #[x0, x1, x2, x3, x4] t)).heap[w.heap.size]? = some (.cells #[x0, x1, x2, x3, x4] t (0, 0)) := heap_alloc_new _ _
  refine ⟨?_, ?_, ?_, ?_, ?_, ?_, ?_, ?_, ?_, ?_⟩
  iterate 5 (· rw [World.cell?_alloc_at _ _ _ _ rfl]; rfl)
  iterate 5 (· unfold World.frozen?; rw [h]; rfl)
theorem take_wanted {P : Program} {md : Region.Mode} {ops : Array Oper} {Q : Exit → Act → World → Prop} {S : World → Prop} {fuel : Nat} {listed : Array Bool} {a : Act} {w : World} (i d : Nat) {oi : Oper} {v : Value}
    (hi : ops.toList[i]? = some oi) (hd : oi.dst = some d) (hs : Region.noSelect ops = true) (hf : Region.free md ops listed i = true) (hr : (Region.ready md ops listed).contains i = true)
    (hQ : ∀ c a w, Q (.panic c) (a.put (some d) v) w → Q (.panic c) a w) (hw : Region.wanted oi (yielded ops a.tmps) = true) (hy : ∀ w, S w → (execOp a.eval oi).run P w = .ok (.value v) w) (hS : S w)
    (h : wpAnyH P md ops Q S fuel (listed.setIfInBounds i true) (a.put (some d) v) w) : wpAnyH P md ops Q S (fuel + 1) listed a w := by
  rw [← hd] at hQ h
  exact wpAnyH_take (by rw [← Array.getElem?_toList]; exact hi) hs hf hr hQ (Or.inl ⟨hw, hy⟩) hS h
theorem take_not {P : Program} {md : Region.Mode} {ops : Array Oper} {Q : Exit → Act → World → Prop} {S : World → Prop} {fuel : Nat} {listed : Array Bool} {a : Act} {w : World} (i d : Nat) {oi : Oper}
    (hi : ops.toList[i]? = some oi) (hd : oi.dst = some d) (hs : Region.noSelect ops = true) (hf : Region.free md ops listed i = true) (hr : (Region.ready md ops listed).contains i = true)
    (hQ : ∀ c a w, Q (.panic c) (a.put (some d) undef) w → Q (.panic c) a w) (hw : Region.wanted oi (yielded ops a.tmps) = false) (hS : S w)
    (h : wpAnyH P md ops Q S fuel (listed.setIfInBounds i true) (a.put (some d) undef) w) : wpAnyH P md ops Q S (fuel + 1) listed a w := by
  rw [← hd] at hQ h
  exact wpAnyH_take (by rw [← Array.getElem?_toList]; exact hi) hs hf hr hQ (Or.inr ⟨hw, rfl⟩) hS h
theorem take_ready {P : Program} {md : Region.Mode} {ops : Array Oper} {Q : Exit → Act → World → Prop} {S : World → Prop} {fuel : Nat} {listed : Array Bool} {a : Act} {w : World} (i : Nat) {o : Oper}
    (hi : ops.toList[i]? = some o) (hr : Region.ready md ops listed = [i])
    (h : ∀ K' : Act → World → Prop, Shut (∀ a w, S w → (S w → wpAnyH P md ops Q S fuel (listed.setIfInBounds i true) a w) → K' a w) → if Region.wanted o (yielded ops a.tmps) = true then Oper.wp P o a w K' Q else K' (a.put o.dst undef) w) :
    wpAnyH P md ops Q S (fuel + 1) listed a w :=
  wpAnyH_ready hr (by simp) (AllReadyH.cons (by rw [← Array.getElem?_toList]; exact hi) h AllReadyH.nil)
theorem box_keep {w w' : World} {b : Nat} {x v : Value} (h : BoxW w b x v) (hk : w'.heap[b]? = w.heap[b]?) : BoxW w' b x v := by
  have e1 : ∀ i, w'.cell? ⟨b, i, none⟩ = w.cell? ⟨b, i, none⟩ := fun i => by unfold World.cell?; simp only [hk]
  have e2 : ∀ i, w'.frozen? ⟨b, i, none⟩ = w.frozen? ⟨b, i, none⟩ := fun i => by unfold World.frozen?; simp only [hk]
  exact ⟨(e1 0).trans h.c0, (e1 1).trans h.c1, (e2 0).trans h.f0, (e2 1).trans h.f1⟩
theorem lens_le {M : Nat} : ∀ (xss : List (List Int)), (∀ x ∈ xss, x.length ≤ M) → lens xss ≤ xss.length * M
  | [], _ => by simp [lens]
  | x :: r, h => by
    have h1 := h x (by simp)
    have h2 := lens_le r fun y hy => h y (by simp [hy])
    simp only [lens, List.length_cons, Nat.succ_mul]
    omega
theorem cw_lens {n : Nat} {xss : List (List Int)} (hg : Good n xss) : (cwF n xss).length ≤ 400 ∧ (cwS n xss).length ≤ 400 ∧ lens (cwR n xss) ≤ 400 := by
  have hn := good_n hg
  refine ⟨?_, ?_, ?_⟩
  · unfold cwF
    split
    · have h1 := wb_len xss (cwLb n xss) (cwLb n xss) (flexN xss (cwLb n xss) 288)
      have h2 : flexN xss (cwLb n xss) 288 ≤ 289 := down_le _ _
      omega
    · split
      · rename_i hc
        have hl := wb_len xss (cwLb n xss) (cwLb n xss) (shortK xss (cwLb n xss))
        have hlb : cwLb n xss = (roots xss n).headD 0 := by unfold cwLb; rw [hc]; rfl
        rcases class_cases n xss with ⟨h, _⟩ | ⟨h, _⟩ | ⟨_, hrt⟩ | h
        · omega
        · omega
        · have hroot : isRoot xss ((roots xss n).headD 0) := (mem_lsTo.1 (mem_headD hrt)).2
          obtain ⟨k0, hsh, hk0⟩ := short_of hg hroot.1
          rw [hlb, shortK_eq hsh] at hl
          rw [hlb, shortK_eq hsh]
          omega
        · omega
      · simp
  · unfold cwS
    split
    · have h1 := wb_len xss (cwLb n xss) (cwLb n xss) (flexN xss (cwLb n xss) 288 + 1)
      have h2 : flexN xss (cwLb n xss) 288 ≤ 289 := down_le _ _
      omega
    · simp
  · unfold cwR
    split
    · have := lens_le (M := 3) (rksL n xss) fun x hx => by
        unfold rksL at hx
        obtain ⟨a, _, rfl⟩ := List.mem_map.1 hx
        simp
      have h2 : (rksL n xss).length = n := by simp [rksL]
      omega
    · simp [lens]
theorem ce_lens (n : Int) (xss : List (List Int)) : (ceF n xss).length ≤ 400 ∧ (ceS n xss).length ≤ 400 ∧ lens (ceR n xss) ≤ 400 := by
  by_cases hg : Good n xss
  · have h1 : 1 ≤ n ∧ n ≤ 12 := by have := hg.1; unfold inB at this; simpa using this
    obtain ⟨m, rfl⟩ := Int.eq_ofNat_of_zero_le (show 0 ≤ n by omega)
    have := cw_lens hg
    unfold ceF ceS ceR
    rw [goodB_t hg]
    simpa [natsI_len] using this
  · unfold ceF ceS ceR
    rw [goodB_f hg]
    simp [lens]
set_option maxRecDepth 100000 in
set_option maxHeartbeats 2000000 in
theorem walk (n : Int) (v : Value) (xss : List (List Int)) (w : World) (h : RowsR w w.heap.size v xss) :
    Calls Try.prog 3 #[walkV n v] w fun e w' => e = .returned (.bool true) ∧ Below w.heap.size w w' := by
  have Rp := Lib.hid h; clear h
  have hb0 := bl_alloc (Below.refl w.heap.size w) (.cells #[.int .i64 n, v] 24)
  have HBa := Lib.hid (BoxW.new w 24 (.int .i64 n) v)
  have hs0 : (w.alloc (.cells #[.int .i64 n, v] 24)).heap.size = w.heap.size + 1 := by simp
  have hB := hb0
  have hz0 := hb0.size
  replace Rp := Lib.hid (Rp.out.below hb0)
  have HS0 := Lib.hid hs0; clear hs0
  have hq1 := szR_le (left := 1048576) (n := szRows xss) (by omega)
  have J1 := Lib.hid (fun (W : World) (u : Value) (hr : RowsR W W.heap.size u xss) => spec_CertifyWalk n u xss W hr)
  have J2 := Lib.hid (fun (W : World) (u : Value) (hr : RowsR W W.heap.size u xss) (hu : ∃ A m c, u = .slice A m c) => impl_CertifyWalk n u xss W hr hu)
  obtain ⟨hl1, hl2, hl3⟩ := ce_lens n xss
  unfold CeP CwP at J1 J2
  generalize goodB n xss = ok at *
  generalize ceCl n xss = cl at *
  generalize ceLb n xss = lb at *
  generalize ceF n xss = F at *
  generalize ceS n xss = S at *
  generalize ceR n xss = R at *
  go_enter Try.func3, Try.ntmps3
  obtain ⟨ba10, ba11, ba12, ba13⟩ := HBa.out
  go_wp2_with fail
  generalize w.alloc (.cells #[.int .i64 n, v] 24) = w0 at *
  have hs0 := HS0.out
  refine (sz_Walk n v xss 1048576 w0 (Rp.out.more (show w.heap.size ≤ w0.heap.size by omega)) (by omega) (by omega)).mono ?_
  rintro e w1 ⟨rfl, hb1⟩
  have hz1 := hb1.size
  replace hB := bl_trans hB hb1
  clear ba10 ba11 ba12 ba13
  replace HBa := Lib.hid (HBa.out.below hb1 (show w.heap.size < w0.heap.size by omega))
  replace Rp := Lib.hid (Rp.out.below (hb1.mono (show w.heap.size ≤ w0.heap.size by omega)))
  obtain ⟨ba20, ba21, ba22, ba23⟩ := HBa.out
  by_cases q1 : szR 1048576 (szRows xss) < 0
  · go_wp2_with fail
    go_ret
    exact ⟨rfl, hB⟩
  · obtain ⟨k1, -⟩ := szR_pos q1
    have hs1 : szRows xss ≤ 1048576 := by omega
    clear k1
    go_wp2_with fail
    refine (to_Walk n v xss _ (Rp.out.more (show w.heap.size ≤ w1.heap.size by omega)) hs1).mono ?_
    rintro e w2 ⟨va, bsa, rfl, ho, hna, hra, hbw2⟩
    have hz2 := hbw2.size
    replace hB := bl_trans hB hbw2
    clear ba20 ba21 ba22 ba23
    replace HBa := Lib.hid (HBa.out.below hbw2 (show w.heap.size < w1.heap.size by omega))
    replace Rp := Lib.hid (Rp.out.below (hbw2.mono (show w.heap.size ≤ w1.heap.size by omega)))
    obtain ⟨ba30, ba31, ba32, ba33⟩ := HBa.out
    obtain ⟨Aa, ma, ca, rfl⟩ := ho.isSlice
    have Ra := Lib.hid (ho.reads (B := w2.heap.size) (fun b hb => (hra b hb).2)); clear ho hna hra
    go_wp2_with fail
    refine (J1.out w2 _ (Ra.out.more (show w2.heap.size ≤ w2.heap.size by omega))).mono ?_
    rintro e w3 ⟨vfw, vsw, vrw, bfw, bsw, brw, rfl, hof, hos, hor, hnw, hrgw, hbw3⟩
    have hz3 := hbw3.size
    replace hB := bl_trans hB hbw3
    clear ba30 ba31 ba32 ba33
    replace HBa := Lib.hid (HBa.out.below hbw3 (show w.heap.size < w2.heap.size by omega))
    replace Rp := Lib.hid (Rp.out.below (hbw3.mono (show w.heap.size ≤ w2.heap.size by omega)))
    replace Ra := Lib.hid (Ra.out.below (hbw3.mono (show w2.heap.size ≤ w2.heap.size by omega)))
    obtain ⟨ba40, ba41, ba42, ba43⟩ := HBa.out
    obtain ⟨Afw, mfw, cfw, rfl⟩ := hof.1.isSlice
    obtain ⟨Asw, msw, csw, rfl⟩ := hos.1.isSlice
    obtain ⟨Arw, mrw, crw, rfl⟩ := hor.isSlice
    have Rfw := Lib.hid (hof.reads (B := w3.heap.size) (fun b hb => (hrgw b (by simp [hb])).2))
    have Rsw := Lib.hid (hos.reads (B := w3.heap.size) (fun b hb => (hrgw b (by simp [hb])).2))
    have Rrw := Lib.hid (hor.reads (B := w3.heap.size) (fun b hb => (hrgw b (by simp [hb])).2))
    clear hof hos hor hnw hrgw J1
    clear Ra
    have hba4 := bl_alloc (Below.refl w3.heap.size w3) (.cells #[.int .i64 cl, .int .i64 lb, .slice Afw mfw cfw, .slice Asw msw csw, .slice Arw mrw crw] 28)
    have HBw := Lib.hid (BoxC.new w3 28 (.int .i64 cl) (.int .i64 lb) (.slice Afw mfw cfw) (.slice Asw msw csw) (.slice Arw mrw crw))
    have hs4 : w3.heap.size < (w3.alloc (.cells #[.int .i64 cl, .int .i64 lb, .slice Afw mfw cfw, .slice Asw msw csw, .slice Arw mrw crw] 28)).heap.size := by simp
    have HS4 := Lib.hid hs4; clear hs4
    have hz5 := hba4.size
    replace hB := bl_trans hB hba4
    clear ba40 ba41 ba42 ba43
    replace HBa := Lib.hid (HBa.out.below hba4 (show w.heap.size < w3.heap.size by omega))
    replace Rp := Lib.hid (Rp.out.below (hba4.mono (show w.heap.size ≤ w3.heap.size by omega)))
    replace Rfw := Lib.hid (Rfw.out.below (hba4.mono (show w3.heap.size ≤ w3.heap.size by omega)))
    replace Rsw := Lib.hid (Rsw.out.below (hba4.mono (show w3.heap.size ≤ w3.heap.size by omega)))
    replace Rrw := Lib.hid (Rrw.out.below (hba4.mono (show w3.heap.size ≤ w3.heap.size by omega)))
    obtain ⟨ba50, ba51, ba52, ba53⟩ := HBa.out
    obtain ⟨bw10, bw11, bw12, bw13, bw14, bw1f0, bw1f1, bw1f2, bw1f3, bw1f4⟩ := HBw.out
    go_wp2_with fail
    generalize w3.alloc (.cells #[.int .i64 cl, .int .i64 lb, .slice Afw mfw cfw, .slice Asw msw csw, .slice Arw mrw crw] 28) = w3s at *
    have hs4 := HS4.out
    refine (to_Walk n v xss _ (Rp.out.more (show w.heap.size ≤ w3s.heap.size by omega)) hs1).mono ?_
    rintro e w4 ⟨vx, bsx, rfl, ho, hnx, hrx, hbw4⟩
    have hz6 := hbw4.size
    replace hB := bl_trans hB hbw4
    clear ba50 ba51 ba52 ba53
    replace HBa := Lib.hid (HBa.out.below hbw4 (show w.heap.size < w3s.heap.size by omega))
    clear bw10 bw11 bw12 bw13 bw14 bw1f0 bw1f1 bw1f2 bw1f3 bw1f4
    replace HBw := Lib.hid (HBw.out.below hbw4 (show w3.heap.size < w3s.heap.size by omega))
    replace Rp := Lib.hid (Rp.out.below (hbw4.mono (show w.heap.size ≤ w3s.heap.size by omega)))
    replace Rfw := Lib.hid (Rfw.out.below (hbw4.mono (show w3.heap.size ≤ w3s.heap.size by omega)))
    replace Rsw := Lib.hid (Rsw.out.below (hbw4.mono (show w3.heap.size ≤ w3s.heap.size by omega)))
    replace Rrw := Lib.hid (Rrw.out.below (hbw4.mono (show w3.heap.size ≤ w3s.heap.size by omega)))
    obtain ⟨ba60, ba61, ba62, ba63⟩ := HBa.out
    obtain ⟨bw20, bw21, bw22, bw23, bw24, bw2f0, bw2f1, bw2f2, bw2f3, bw2f4⟩ := HBw.out
    obtain ⟨Ax, mx, cx, rfl⟩ := ho.isSlice
    have Ox := Lib.hid ho; clear ho
    have Gx := Lib.hid hrx; clear hrx
    have Rx := Lib.hid (Ox.out.reads (B := w4.heap.size) (fun b hb => (Gx.out b hb).2))
    have hba7 := bl_alloc (Below.refl w4.heap.size w4) (.cells #[.int .i64 n, .slice Ax mx cx] 31)
    have HBx := Lib.hid (BoxW.new w4 31 (.int .i64 n) (.slice Ax mx cx))
    have hs7 : w4.heap.size < (w4.alloc (.cells #[.int .i64 n, .slice Ax mx cx] 31)).heap.size := by simp
    have HS7 := Lib.hid hs7; clear hs7
    have hz8 := hba7.size
    replace hB := bl_trans hB hba7
    clear ba60 ba61 ba62 ba63
    replace HBa := Lib.hid (HBa.out.below hba7 (show w.heap.size < w4.heap.size by omega))
    clear bw20 bw21 bw22 bw23 bw24 bw2f0 bw2f1 bw2f2 bw2f3 bw2f4
    replace HBw := Lib.hid (HBw.out.below hba7 (show w3.heap.size < w4.heap.size by omega))
    replace Rp := Lib.hid (Rp.out.below (hba7.mono (show w.heap.size ≤ w4.heap.size by omega)))
    replace Rfw := Lib.hid (Rfw.out.below (hba7.mono (show w3.heap.size ≤ w4.heap.size by omega)))
    replace Rsw := Lib.hid (Rsw.out.below (hba7.mono (show w3.heap.size ≤ w4.heap.size by omega)))
    replace Rrw := Lib.hid (Rrw.out.below (hba7.mono (show w3.heap.size ≤ w4.heap.size by omega)))
    replace Rx := Lib.hid (Rx.out.below (hba7.mono (show w4.heap.size ≤ w4.heap.size by omega)))
    replace Ox := Lib.hid (Ox.out.keep fun b hb' => hba7.block b (by have := Gx.out b hb'; omega))
    obtain ⟨ba70, ba71, ba72, ba73⟩ := HBa.out
    obtain ⟨bw30, bw31, bw32, bw33, bw34, bw3f0, bw3f1, bw3f2, bw3f3, bw3f4⟩ := HBw.out
    obtain ⟨bx10, bx11, bx12, bx13⟩ := HBx.out
    go_wp2_with fail
    generalize w4.alloc (.cells #[.int .i64 n, .slice Ax mx cx] 31) = w4s at *
    have hs7 := HS7.out
    refine (J2.out w4s _ (Rx.out.more (show w4.heap.size ≤ w4s.heap.size by omega)) ⟨_, _, _, rfl⟩).mono ?_
    rintro e w5 ⟨vfg, vsg, vrg, bfg, bsg, brg, rfl, hof, hos, hor, hng, hrgg, hbw5⟩
    have hz9 := hbw5.size
    replace hB := bl_trans hB hbw5
    clear ba70 ba71 ba72 ba73
    replace HBa := Lib.hid (HBa.out.below hbw5 (show w.heap.size < w4s.heap.size by omega))
    clear bw30 bw31 bw32 bw33 bw34 bw3f0 bw3f1 bw3f2 bw3f3 bw3f4
    replace HBw := Lib.hid (HBw.out.below hbw5 (show w3.heap.size < w4s.heap.size by omega))
    clear bx10 bx11 bx12 bx13
    replace HBx := Lib.hid (HBx.out.below hbw5 (show w4.heap.size < w4s.heap.size by omega))
    replace Rp := Lib.hid (Rp.out.below (hbw5.mono (show w.heap.size ≤ w4s.heap.size by omega)))
    replace Rfw := Lib.hid (Rfw.out.below (hbw5.mono (show w3.heap.size ≤ w4s.heap.size by omega)))
    replace Rsw := Lib.hid (Rsw.out.below (hbw5.mono (show w3.heap.size ≤ w4s.heap.size by omega)))
    replace Rrw := Lib.hid (Rrw.out.below (hbw5.mono (show w3.heap.size ≤ w4s.heap.size by omega)))
    replace Rx := Lib.hid (Rx.out.below (hbw5.mono (show w4.heap.size ≤ w4s.heap.size by omega)))
    replace Ox := Lib.hid (Ox.out.keep fun b hb' => hbw5.block b (by have := Gx.out b hb'; omega))
    obtain ⟨ba80, ba81, ba82, ba83⟩ := HBa.out
    obtain ⟨bw40, bw41, bw42, bw43, bw44, bw4f0, bw4f1, bw4f2, bw4f3, bw4f4⟩ := HBw.out
    obtain ⟨bx20, bx21, bx22, bx23⟩ := HBx.out
    obtain ⟨Afg, mfg, cfg, rfl⟩ := hof.1.isSlice
    obtain ⟨Asg, msg, csg, rfl⟩ := hos.1.isSlice
    obtain ⟨Arg, mrg, crg, rfl⟩ := hor.isSlice
    have Of := Lib.hid hof; clear hof
    have Os := Lib.hid hos; clear hos
    have Or := Lib.hid hor; clear hor
    have Gg := Lib.hid hrgg; clear hrgg
    have hba10 := bl_alloc (Below.refl w5.heap.size w5) (.cells #[.int .i64 cl, .int .i64 lb, .slice Afg mfg cfg, .slice Asg msg csg, .slice Arg mrg crg] 28)
    have HBg := Lib.hid (BoxC.new w5 28 (.int .i64 cl) (.int .i64 lb) (.slice Afg mfg cfg) (.slice Asg msg csg) (.slice Arg mrg crg))
    have hs10 : w5.heap.size < (w5.alloc (.cells #[.int .i64 cl, .int .i64 lb, .slice Afg mfg cfg, .slice Asg msg csg, .slice Arg mrg crg] 28)).heap.size := by simp
    have HS10 := Lib.hid hs10; clear hs10
    have hz11 := hba10.size
    replace hB := bl_trans hB hba10
    clear ba80 ba81 ba82 ba83
    replace HBa := Lib.hid (HBa.out.below hba10 (show w.heap.size < w5.heap.size by omega))
    clear bw40 bw41 bw42 bw43 bw44 bw4f0 bw4f1 bw4f2 bw4f3 bw4f4
    replace HBw := Lib.hid (HBw.out.below hba10 (show w3.heap.size < w5.heap.size by omega))
    clear bx20 bx21 bx22 bx23
    replace HBx := Lib.hid (HBx.out.below hba10 (show w4.heap.size < w5.heap.size by omega))
    replace Rp := Lib.hid (Rp.out.below (hba10.mono (show w.heap.size ≤ w5.heap.size by omega)))
    replace Rfw := Lib.hid (Rfw.out.below (hba10.mono (show w3.heap.size ≤ w5.heap.size by omega)))
    replace Rsw := Lib.hid (Rsw.out.below (hba10.mono (show w3.heap.size ≤ w5.heap.size by omega)))
    replace Rrw := Lib.hid (Rrw.out.below (hba10.mono (show w3.heap.size ≤ w5.heap.size by omega)))
    replace Rx := Lib.hid (Rx.out.below (hba10.mono (show w4.heap.size ≤ w5.heap.size by omega)))
    replace Ox := Lib.hid (Ox.out.keep fun b hb' => hba10.block b (by have := Gx.out b hb'; omega))
    replace Of := Lib.hid (Of.out.keep fun b hb' => hba10.block b (by have := Gg.out b (by simp [hb']); omega))
    replace Os := Lib.hid (Os.out.keep fun b hb' => hba10.block b (by have := Gg.out b (by simp [hb']); omega))
    replace Or := Lib.hid (Or.out.keep fun b hb' => hba10.block b (by have := Gg.out b (by simp [hb']); omega))
    obtain ⟨ba90, ba91, ba92, ba93⟩ := HBa.out
    obtain ⟨bw50, bw51, bw52, bw53, bw54, bw5f0, bw5f1, bw5f2, bw5f3, bw5f4⟩ := HBw.out
    obtain ⟨bx30, bx31, bx32, bx33⟩ := HBx.out
    obtain ⟨bg10, bg11, bg12, bg13, bg14, bg1f0, bg1f1, bg1f2, bg1f3, bg1f4⟩ := HBg.out
    go_wp2_with fail
    generalize w5.alloc (.cells #[.int .i64 cl, .int .i64 lb, .slice Afg mfg cfg, .slice Asg msg csg, .slice Arg mrg crg] 28) = w5s at *
    have hs10 := HS10.out
    refine (eq_Cert cl lb _ _ _ _ _ _ F S R w5s (Of.out.reads (B := w5s.heap.size) (fun b hb' => by have := Gg.out b (by simp [hb']); omega)) (Os.out.reads (B := w5s.heap.size) (fun b hb' => by have := Gg.out b (by simp [hb']); omega)) (Or.out.reads (B := w5s.heap.size) (fun b hb' => by have := Gg.out b (by simp [hb']); omega)) (Rfw.out.more (show w3.heap.size ≤ w5s.heap.size by omega)) (Rsw.out.more (show w3.heap.size ≤ w5s.heap.size by omega)) (Rrw.out.more (show w3.heap.size ≤ w5s.heap.size by omega))).mono ?_
    rintro e w6 ⟨rfl, hbw6⟩
    have hz12 := hbw6.size
    replace hB := bl_trans hB hbw6
    clear ba90 ba91 ba92 ba93
    replace HBa := Lib.hid (HBa.out.below hbw6 (show w.heap.size < w5s.heap.size by omega))
    clear bw50 bw51 bw52 bw53 bw54 bw5f0 bw5f1 bw5f2 bw5f3 bw5f4
    replace HBw := Lib.hid (HBw.out.below hbw6 (show w3.heap.size < w5s.heap.size by omega))
    clear bx30 bx31 bx32 bx33
    replace HBx := Lib.hid (HBx.out.below hbw6 (show w4.heap.size < w5s.heap.size by omega))
    clear bg10 bg11 bg12 bg13 bg14 bg1f0 bg1f1 bg1f2 bg1f3 bg1f4
    replace HBg := Lib.hid (HBg.out.below hbw6 (show w5.heap.size < w5s.heap.size by omega))
    replace Rp := Lib.hid (Rp.out.below (hbw6.mono (show w.heap.size ≤ w5s.heap.size by omega)))
    replace Rfw := Lib.hid (Rfw.out.below (hbw6.mono (show w3.heap.size ≤ w5s.heap.size by omega)))
    replace Rsw := Lib.hid (Rsw.out.below (hbw6.mono (show w3.heap.size ≤ w5s.heap.size by omega)))
    replace Rrw := Lib.hid (Rrw.out.below (hbw6.mono (show w3.heap.size ≤ w5s.heap.size by omega)))
    replace Rx := Lib.hid (Rx.out.below (hbw6.mono (show w4.heap.size ≤ w5s.heap.size by omega)))
    replace Ox := Lib.hid (Ox.out.keep fun b hb' => hbw6.block b (by have := Gx.out b hb'; omega))
    replace Of := Lib.hid (Of.out.keep fun b hb' => hbw6.block b (by have := Gg.out b (by simp [hb']); omega))
    replace Os := Lib.hid (Os.out.keep fun b hb' => hbw6.block b (by have := Gg.out b (by simp [hb']); omega))
    replace Or := Lib.hid (Or.out.keep fun b hb' => hbw6.block b (by have := Gg.out b (by simp [hb']); omega))
    obtain ⟨ba100, ba101, ba102, ba103⟩ := HBa.out
    obtain ⟨bw60, bw61, bw62, bw63, bw64, bw6f0, bw6f1, bw6f2, bw6f3, bw6f4⟩ := HBw.out
    obtain ⟨bx40, bx41, bx42, bx43⟩ := HBx.out
    obtain ⟨bg20, bg21, bg22, bg23, bg24, bg2f0, bg2f1, bg2f2, bg2f3, bg2f4⟩ := HBg.out
    go_wp2_with fail
    refine wp_region_held_drew (S := (fun w' => w'.cell? ⟨w4.heap.size, 0, none⟩ = some (.int .i64 n) ∧ w'.cell? ⟨w4.heap.size, 1, none⟩ = some (.slice Ax mx cx) ∧ w'.cell? ⟨w.heap.size, 0, none⟩ = some (.int .i64 n) ∧ w'.cell? ⟨w.heap.size, 1, none⟩ = some v)) (by kernel_rfl) ?_ (fun hHeld => ?_)
    · go_keep
    have hz13 := (Below.refl w6.heap.size w6).drew.size
    replace hB := bl_trans hB (Below.refl w6.heap.size w6).drew
    clear ba100 ba101 ba102 ba103
    replace HBa := Lib.hid (HBa.out.below (Below.refl w6.heap.size w6).drew (show w.heap.size < w6.heap.size by omega))
    clear bw60 bw61 bw62 bw63 bw64 bw6f0 bw6f1 bw6f2 bw6f3 bw6f4
    replace HBw := Lib.hid (HBw.out.below (Below.refl w6.heap.size w6).drew (show w3.heap.size < w6.heap.size by omega))
    clear bx40 bx41 bx42 bx43
    replace HBx := Lib.hid (HBx.out.below (Below.refl w6.heap.size w6).drew (show w4.heap.size < w6.heap.size by omega))
    clear bg20 bg21 bg22 bg23 bg24 bg2f0 bg2f1 bg2f2 bg2f3 bg2f4
    replace HBg := Lib.hid (HBg.out.below (Below.refl w6.heap.size w6).drew (show w5.heap.size < w6.heap.size by omega))
    replace Rp := Lib.hid (Rp.out.below ((Below.refl w6.heap.size w6).drew.mono (show w.heap.size ≤ w6.heap.size by omega)))
    replace Rfw := Lib.hid (Rfw.out.below ((Below.refl w6.heap.size w6).drew.mono (show w3.heap.size ≤ w6.heap.size by omega)))
    replace Rsw := Lib.hid (Rsw.out.below ((Below.refl w6.heap.size w6).drew.mono (show w3.heap.size ≤ w6.heap.size by omega)))
    replace Rrw := Lib.hid (Rrw.out.below ((Below.refl w6.heap.size w6).drew.mono (show w3.heap.size ≤ w6.heap.size by omega)))
    replace Rx := Lib.hid (Rx.out.below ((Below.refl w6.heap.size w6).drew.mono (show w4.heap.size ≤ w6.heap.size by omega)))
    replace Ox := Lib.hid (Ox.out.keep fun b hb' => (Below.refl w6.heap.size w6).drew.block b (by have := Gx.out b hb'; omega))
    replace Of := Lib.hid (Of.out.keep fun b hb' => (Below.refl w6.heap.size w6).drew.block b (by have := Gg.out b (by simp [hb']); omega))
    replace Os := Lib.hid (Os.out.keep fun b hb' => (Below.refl w6.heap.size w6).drew.block b (by have := Gg.out b (by simp [hb']); omega))
    replace Or := Lib.hid (Or.out.keep fun b hb' => (Below.refl w6.heap.size w6).drew.block b (by have := Gg.out b (by simp [hb']); omega))
    obtain ⟨ba110, ba111, ba112, ba113⟩ := HBa.out
    obtain ⟨bw70, bw71, bw72, bw73, bw74, bw7f0, bw7f1, bw7f2, bw7f3, bw7f4⟩ := HBw.out
    obtain ⟨bx50, bx51, bx52, bx53⟩ := HBx.out
    obtain ⟨bg30, bg31, bg32, bg33, bg34, bg3f0, bg3f1, bg3f2, bg3f3, bg3f4⟩ := HBg.out
    refine take_wanted 0 41 (v := ?v100) rfl rfl (by kernel_rfl) (by kernel_rfl) (by kernel_rfl) (fun _ _ _ h => h) (by rfl) ?y100 (by assumption) ?r100
    case y100 => intro w hSw; (try dsimp only at hSw); go_simp <;> with_reducible rfl
    try simp only [Act.put, List.setIfInBounds_toArray, List.set_cons_zero, List.set_cons_succ]
    refine take_wanted 1 42 (v := ?v101) rfl rfl (by kernel_rfl) (by kernel_rfl) (by kernel_rfl) (fun _ _ _ h => h) (by rfl) ?y101 (by assumption) ?r101
    case y101 => intro w hSw; (try dsimp only at hSw); go_simp <;> with_reducible rfl
    try simp only [Act.put, List.setIfInBounds_toArray, List.set_cons_zero, List.set_cons_succ]
    refine take_ready 2 rfl (by kernel_rfl) (fun K hK => ?_)
    go_simp
    go_at_call 6
    refine (to_Walk n v xss _ (Rp.out.more (show w.heap.size ≤ w6.drew.heap.size by omega)) hs1).mono ?_
    rintro e w7 ⟨vy, bsy, rfl, ho, hny, hry, hbw7⟩
    have hz14 := hbw7.size
    replace hB := bl_trans hB hbw7
    clear ba110 ba111 ba112 ba113
    replace HBa := Lib.hid (HBa.out.below hbw7 (show w.heap.size < w6.drew.heap.size by omega))
    clear bw70 bw71 bw72 bw73 bw74 bw7f0 bw7f1 bw7f2 bw7f3 bw7f4
    replace HBw := Lib.hid (HBw.out.below hbw7 (show w3.heap.size < w6.drew.heap.size by omega))
    clear bx50 bx51 bx52 bx53
    replace HBx := Lib.hid (HBx.out.below hbw7 (show w4.heap.size < w6.drew.heap.size by omega))
    clear bg30 bg31 bg32 bg33 bg34 bg3f0 bg3f1 bg3f2 bg3f3 bg3f4
    replace HBg := Lib.hid (HBg.out.below hbw7 (show w5.heap.size < w6.drew.heap.size by omega))
    replace Rp := Lib.hid (Rp.out.below (hbw7.mono (show w.heap.size ≤ w6.drew.heap.size by omega)))
    replace Rfw := Lib.hid (Rfw.out.below (hbw7.mono (show w3.heap.size ≤ w6.drew.heap.size by omega)))
    replace Rsw := Lib.hid (Rsw.out.below (hbw7.mono (show w3.heap.size ≤ w6.drew.heap.size by omega)))
    replace Rrw := Lib.hid (Rrw.out.below (hbw7.mono (show w3.heap.size ≤ w6.drew.heap.size by omega)))
    replace Rx := Lib.hid (Rx.out.below (hbw7.mono (show w4.heap.size ≤ w6.drew.heap.size by omega)))
    replace Ox := Lib.hid (Ox.out.keep fun b hb' => hbw7.block b (by have := Gx.out b hb'; omega))
    replace Of := Lib.hid (Of.out.keep fun b hb' => hbw7.block b (by have := Gg.out b (by simp [hb']); omega))
    replace Os := Lib.hid (Os.out.keep fun b hb' => hbw7.block b (by have := Gg.out b (by simp [hb']); omega))
    replace Or := Lib.hid (Or.out.keep fun b hb' => hbw7.block b (by have := Gg.out b (by simp [hb']); omega))
    obtain ⟨ba120, ba121, ba122, ba123⟩ := HBa.out
    obtain ⟨bw80, bw81, bw82, bw83, bw84, bw8f0, bw8f1, bw8f2, bw8f3, bw8f4⟩ := HBw.out
    obtain ⟨bx60, bx61, bx62, bx63⟩ := HBx.out
    obtain ⟨bg40, bg41, bg42, bg43, bg44, bg4f0, bg4f1, bg4f2, bg4f3, bg4f4⟩ := HBg.out
    obtain ⟨Ay, my, cy, rfl⟩ := ho.isSlice
    have Ry := Lib.hid (ho.reads (B := w7.heap.size) (fun b hb => (hry b hb).2)); clear ho hny hry
    refine hK.out _ _ ?_ (fun hHeld => ?_)
    · go_keep
    clear hK K
    try simp only [Act.put, List.setIfInBounds_toArray, List.set_cons_zero, List.set_cons_succ]
    refine take_ready 3 rfl (by kernel_rfl) (fun K hK => ?_)
    go_simp
    go_at_call 9
    refine (eq_Walk n _ _ xss w7 (Rx.out.more (show w4.heap.size ≤ w7.heap.size by omega)) (Ry.out.more (show w7.heap.size ≤ w7.heap.size by omega))).mono ?_
    rintro e w8 ⟨rfl, hb8⟩
    have hz15 := hb8.size
    replace hB := bl_trans hB hb8
    clear ba120 ba121 ba122 ba123
    replace HBa := Lib.hid (HBa.out.below hb8 (show w.heap.size < w7.heap.size by omega))
    clear bw80 bw81 bw82 bw83 bw84 bw8f0 bw8f1 bw8f2 bw8f3 bw8f4
    replace HBw := Lib.hid (HBw.out.below hb8 (show w3.heap.size < w7.heap.size by omega))
    clear bx60 bx61 bx62 bx63
    replace HBx := Lib.hid (HBx.out.below hb8 (show w4.heap.size < w7.heap.size by omega))
    clear bg40 bg41 bg42 bg43 bg44 bg4f0 bg4f1 bg4f2 bg4f3 bg4f4
    replace HBg := Lib.hid (HBg.out.below hb8 (show w5.heap.size < w7.heap.size by omega))
    replace Rp := Lib.hid (Rp.out.below (hb8.mono (show w.heap.size ≤ w7.heap.size by omega)))
    replace Rfw := Lib.hid (Rfw.out.below (hb8.mono (show w3.heap.size ≤ w7.heap.size by omega)))
    replace Rsw := Lib.hid (Rsw.out.below (hb8.mono (show w3.heap.size ≤ w7.heap.size by omega)))
    replace Rrw := Lib.hid (Rrw.out.below (hb8.mono (show w3.heap.size ≤ w7.heap.size by omega)))
    replace Rx := Lib.hid (Rx.out.below (hb8.mono (show w4.heap.size ≤ w7.heap.size by omega)))
    replace Ry := Lib.hid (Ry.out.below (hb8.mono (show w7.heap.size ≤ w7.heap.size by omega)))
    replace Ox := Lib.hid (Ox.out.keep fun b hb' => hb8.block b (by have := Gx.out b hb'; omega))
    replace Of := Lib.hid (Of.out.keep fun b hb' => hb8.block b (by have := Gg.out b (by simp [hb']); omega))
    replace Os := Lib.hid (Os.out.keep fun b hb' => hb8.block b (by have := Gg.out b (by simp [hb']); omega))
    replace Or := Lib.hid (Or.out.keep fun b hb' => hb8.block b (by have := Gg.out b (by simp [hb']); omega))
    obtain ⟨ba130, ba131, ba132, ba133⟩ := HBa.out
    obtain ⟨bw90, bw91, bw92, bw93, bw94, bw9f0, bw9f1, bw9f2, bw9f3, bw9f4⟩ := HBw.out
    obtain ⟨bx70, bx71, bx72, bx73⟩ := HBx.out
    obtain ⟨bg50, bg51, bg52, bg53, bg54, bg5f0, bg5f1, bg5f2, bg5f3, bg5f4⟩ := HBg.out
    refine hK.out _ _ ?_ (fun hHeld => ?_)
    · go_keep
    clear hK K
    try simp only [Act.put, List.setIfInBounds_toArray, List.set_cons_zero, List.set_cons_succ]
    refine take_wanted 4 45 (v := ?v104) rfl rfl (by kernel_rfl) (by kernel_rfl) (by kernel_rfl) (fun _ _ _ h => h) (by rfl) ?y104 (by assumption) ?r104
    case y104 => intro w hSw; (try dsimp only at hSw); go_simp <;> with_reducible rfl
    try simp only [Act.put, List.setIfInBounds_toArray, List.set_cons_zero, List.set_cons_succ]
    refine wpAnyH_done (by kernel_rfl) ?_ _
    go_wp2_with fail
    clear Ry
    clear Rx
    refine (mark_Walk n _ xss bsx 1 w8 Ox.out hnx (fun b hb => by have := Gx.out b hb; omega) (by omega) (by unfold szRows at hs1; omega)).mono ?_
    rintro e w9 ⟨rfl, -, hk9⟩
    have hlx : 0 ≤ 1 + (lens xss : Int) := by omega
    have hz16 := hk9.size
    replace hB := hB.trans (hk9.below (fun b hb' => by have := Gx.out b hb'; omega) (show w.heap.size ≤ w8.heap.size by omega))
    clear ba130 ba131 ba132 ba133
    replace HBa := Lib.hid (box_keep HBa.out (hk9.block (w.heap.size) (by omega) (fun hm => by have := Gx.out _ hm; omega)))
    clear bw90 bw91 bw92 bw93 bw94 bw9f0 bw9f1 bw9f2 bw9f3 bw9f4
    replace HBw := Lib.hid (HBw.out.keep (hk9.block (w3.heap.size) (by omega) (fun hm => by have := Gx.out _ hm; omega)))
    clear bx70 bx71 bx72 bx73
    replace HBx := Lib.hid (box_keep HBx.out (hk9.block (w4.heap.size) (by omega) (fun hm => by have := Gx.out _ hm; omega)))
    clear bg50 bg51 bg52 bg53 bg54 bg5f0 bg5f1 bg5f2 bg5f3 bg5f4
    replace HBg := Lib.hid (HBg.out.keep (hk9.block (w5.heap.size) (by omega) (fun hm => by have := Gx.out _ hm; omega)))
    replace Rp := Lib.hid (Rp.out.below (hk9.below (fun b hb' => by have := Gx.out b hb'; omega) (show w.heap.size ≤ w8.heap.size by omega)))
    replace Rfw := Lib.hid (Rfw.out.below (hk9.below (fun b hb' => by have := Gx.out b hb'; omega) (show w3.heap.size ≤ w8.heap.size by omega)))
    replace Rsw := Lib.hid (Rsw.out.below (hk9.below (fun b hb' => by have := Gx.out b hb'; omega) (show w3.heap.size ≤ w8.heap.size by omega)))
    replace Rrw := Lib.hid (Rrw.out.below (hk9.below (fun b hb' => by have := Gx.out b hb'; omega) (show w3.heap.size ≤ w8.heap.size by omega)))
    replace Of := Lib.hid (Of.out.keep fun b hb' => hk9.block b (by have := Gg.out b (by simp [hb']); omega) (fun hm => by have := Gg.out b (by simp [hb']); have := Gx.out _ hm; omega))
    replace Os := Lib.hid (Os.out.keep fun b hb' => hk9.block b (by have := Gg.out b (by simp [hb']); omega) (fun hm => by have := Gg.out b (by simp [hb']); have := Gx.out _ hm; omega))
    replace Or := Lib.hid (Or.out.keep fun b hb' => hk9.block b (by have := Gg.out b (by simp [hb']); omega) (fun hm => by have := Gg.out b (by simp [hb']); have := Gx.out _ hm; omega))
    obtain ⟨ba140, ba141, ba142, ba143⟩ := HBa.out
    obtain ⟨bw100, bw101, bw102, bw103, bw104, bw10f0, bw10f1, bw10f2, bw10f3, bw10f4⟩ := HBw.out
    obtain ⟨bx80, bx81, bx82, bx83⟩ := HBx.out
    obtain ⟨bg60, bg61, bg62, bg63, bg64, bg6f0, bg6f1, bg6f2, bg6f3, bg6f4⟩ := HBg.out
    clear hk9 Ox
    go_wp2_with fail
    refine (eq_Cert cl lb _ _ _ _ _ _ F S R w9 (Of.out.reads (B := w9.heap.size) (fun b hb' => by have := Gg.out b (by simp [hb']); omega)) (Os.out.reads (B := w9.heap.size) (fun b hb' => by have := Gg.out b (by simp [hb']); omega)) (Or.out.reads (B := w9.heap.size) (fun b hb' => by have := Gg.out b (by simp [hb']); omega)) (Rfw.out.more (show w3.heap.size ≤ w9.heap.size by omega)) (Rsw.out.more (show w3.heap.size ≤ w9.heap.size by omega)) (Rrw.out.more (show w3.heap.size ≤ w9.heap.size by omega))).mono ?_
    rintro e w10 ⟨rfl, hbw10⟩
    have hz17 := hbw10.size
    replace hB := bl_trans hB hbw10
    clear ba140 ba141 ba142 ba143
    replace HBa := Lib.hid (HBa.out.below hbw10 (show w.heap.size < w9.heap.size by omega))
    clear bw100 bw101 bw102 bw103 bw104 bw10f0 bw10f1 bw10f2 bw10f3 bw10f4
    replace HBw := Lib.hid (HBw.out.below hbw10 (show w3.heap.size < w9.heap.size by omega))
    clear bx80 bx81 bx82 bx83
    replace HBx := Lib.hid (HBx.out.below hbw10 (show w4.heap.size < w9.heap.size by omega))
    clear bg60 bg61 bg62 bg63 bg64 bg6f0 bg6f1 bg6f2 bg6f3 bg6f4
    replace HBg := Lib.hid (HBg.out.below hbw10 (show w5.heap.size < w9.heap.size by omega))
    replace Rp := Lib.hid (Rp.out.below (hbw10.mono (show w.heap.size ≤ w9.heap.size by omega)))
    replace Rfw := Lib.hid (Rfw.out.below (hbw10.mono (show w3.heap.size ≤ w9.heap.size by omega)))
    replace Rsw := Lib.hid (Rsw.out.below (hbw10.mono (show w3.heap.size ≤ w9.heap.size by omega)))
    replace Rrw := Lib.hid (Rrw.out.below (hbw10.mono (show w3.heap.size ≤ w9.heap.size by omega)))
    replace Of := Lib.hid (Of.out.keep fun b hb' => hbw10.block b (by have := Gg.out b (by simp [hb']); omega))
    replace Os := Lib.hid (Os.out.keep fun b hb' => hbw10.block b (by have := Gg.out b (by simp [hb']); omega))
    replace Or := Lib.hid (Or.out.keep fun b hb' => hbw10.block b (by have := Gg.out b (by simp [hb']); omega))
    obtain ⟨ba150, ba151, ba152, ba153⟩ := HBa.out
    obtain ⟨bw110, bw111, bw112, bw113, bw114, bw11f0, bw11f1, bw11f2, bw11f3, bw11f4⟩ := HBw.out
    obtain ⟨bx90, bx91, bx92, bx93⟩ := HBx.out
    obtain ⟨bg70, bg71, bg72, bg73, bg74, bg7f0, bg7f1, bg7f2, bg7f3, bg7f4⟩ := HBg.out
    go_wp2_with fail
    refine (mark_Cert cl lb _ _ _ F S R bfg bsg brg 1 w10 Of.out Os.out Or.out hng (fun b hb => by have := Gg.out b hb; omega) (by omega) (by omega)).mono ?_
    rintro e w11 ⟨rfl, hof, hos, hor, hk11⟩
    clear Of Os Or
    have Of := Lib.hid hof; clear hof
    have Os := Lib.hid hos; clear hos
    have Or := Lib.hid hor; clear hor
    have hz18 := hk11.size
    replace hB := hB.trans (hk11.below (fun b hb' => by have := Gg.out b hb'; omega) (show w.heap.size ≤ w10.heap.size by omega))
    clear ba150 ba151 ba152 ba153
    replace HBa := Lib.hid (box_keep HBa.out (hk11.block (w.heap.size) (by omega) (fun hm => by have := Gg.out _ hm; omega)))
    clear bw110 bw111 bw112 bw113 bw114 bw11f0 bw11f1 bw11f2 bw11f3 bw11f4
    replace HBw := Lib.hid (HBw.out.keep (hk11.block (w3.heap.size) (by omega) (fun hm => by have := Gg.out _ hm; omega)))
    clear bx90 bx91 bx92 bx93
    replace HBx := Lib.hid (box_keep HBx.out (hk11.block (w4.heap.size) (by omega) (fun hm => by have := Gg.out _ hm; omega)))
    clear bg70 bg71 bg72 bg73 bg74 bg7f0 bg7f1 bg7f2 bg7f3 bg7f4
    replace HBg := Lib.hid (HBg.out.keep (hk11.block (w5.heap.size) (by omega) (fun hm => by have := Gg.out _ hm; omega)))
    replace Rp := Lib.hid (Rp.out.below (hk11.below (fun b hb' => by have := Gg.out b hb'; omega) (show w.heap.size ≤ w10.heap.size by omega)))
    replace Rfw := Lib.hid (Rfw.out.below (hk11.below (fun b hb' => by have := Gg.out b hb'; omega) (show w3.heap.size ≤ w10.heap.size by omega)))
    replace Rsw := Lib.hid (Rsw.out.below (hk11.below (fun b hb' => by have := Gg.out b hb'; omega) (show w3.heap.size ≤ w10.heap.size by omega)))
    replace Rrw := Lib.hid (Rrw.out.below (hk11.below (fun b hb' => by have := Gg.out b hb'; omega) (show w3.heap.size ≤ w10.heap.size by omega)))
    obtain ⟨ba160, ba161, ba162, ba163⟩ := HBa.out
    obtain ⟨bw120, bw121, bw122, bw123, bw124, bw12f0, bw12f1, bw12f2, bw12f3, bw12f4⟩ := HBw.out
    obtain ⟨bx100, bx101, bx102, bx103⟩ := HBx.out
    obtain ⟨bg80, bg81, bg82, bg83, bg84, bg8f0, bg8f1, bg8f2, bg8f3, bg8f4⟩ := HBg.out
    clear hk11
    go_wp2_with fail
    refine (held_Cert cl lb _ _ _ F S R 1 w11 (Of.out.reads (B := w11.heap.size) (fun b hb' => by have := Gg.out b (by simp [hb']); omega)) (Os.out.reads (B := w11.heap.size) (fun b hb' => by have := Gg.out b (by simp [hb']); omega)) (Or.out.reads (B := w11.heap.size) (fun b hb' => by have := Gg.out b (by simp [hb']); omega)) (by omega) (by omega)).mono ?_
    rintro e w12 ⟨rfl, hbw12⟩
    have hz19 := hbw12.size
    replace hB := bl_trans hB hbw12
    clear ba160 ba161 ba162 ba163
    replace HBa := Lib.hid (HBa.out.below hbw12 (show w.heap.size < w11.heap.size by omega))
    clear bw120 bw121 bw122 bw123 bw124 bw12f0 bw12f1 bw12f2 bw12f3 bw12f4
    replace HBw := Lib.hid (HBw.out.below hbw12 (show w3.heap.size < w11.heap.size by omega))
    clear bx100 bx101 bx102 bx103
    replace HBx := Lib.hid (HBx.out.below hbw12 (show w4.heap.size < w11.heap.size by omega))
    clear bg80 bg81 bg82 bg83 bg84 bg8f0 bg8f1 bg8f2 bg8f3 bg8f4
    replace HBg := Lib.hid (HBg.out.below hbw12 (show w5.heap.size < w11.heap.size by omega))
    replace Rp := Lib.hid (Rp.out.below (hbw12.mono (show w.heap.size ≤ w11.heap.size by omega)))
    replace Rfw := Lib.hid (Rfw.out.below (hbw12.mono (show w3.heap.size ≤ w11.heap.size by omega)))
    replace Rsw := Lib.hid (Rsw.out.below (hbw12.mono (show w3.heap.size ≤ w11.heap.size by omega)))
    replace Rrw := Lib.hid (Rrw.out.below (hbw12.mono (show w3.heap.size ≤ w11.heap.size by omega)))
    replace Of := Lib.hid (Of.out.keep fun b hb' => hbw12.block b (by have := Gg.out b (by simp [hb']); omega))
    replace Os := Lib.hid (Os.out.keep fun b hb' => hbw12.block b (by have := Gg.out b (by simp [hb']); omega))
    replace Or := Lib.hid (Or.out.keep fun b hb' => hbw12.block b (by have := Gg.out b (by simp [hb']); omega))
    obtain ⟨ba170, ba171, ba172, ba173⟩ := HBa.out
    obtain ⟨bw130, bw131, bw132, bw133, bw134, bw13f0, bw13f1, bw13f2, bw13f3, bw13f4⟩ := HBw.out
    obtain ⟨bx110, bx111, bx112, bx113⟩ := HBx.out
    obtain ⟨bg90, bg91, bg92, bg93, bg94, bg9f0, bg9f1, bg9f2, bg9f3, bg9f4⟩ := HBg.out
    go_wp2_with fail
    refine (to_Walk n v xss _ (Rp.out.more (show w.heap.size ≤ w12.heap.size by omega)) hs1).mono ?_
    rintro e w13 ⟨vz, bsz, rfl, ho, hnz, hrz, hbw13⟩
    have hz20 := hbw13.size
    replace hB := bl_trans hB hbw13
    clear ba170 ba171 ba172 ba173
    replace HBa := Lib.hid (HBa.out.below hbw13 (show w.heap.size < w12.heap.size by omega))
    clear bw130 bw131 bw132 bw133 bw134 bw13f0 bw13f1 bw13f2 bw13f3 bw13f4
    replace HBw := Lib.hid (HBw.out.below hbw13 (show w3.heap.size < w12.heap.size by omega))
    clear bx110 bx111 bx112 bx113
    replace HBx := Lib.hid (HBx.out.below hbw13 (show w4.heap.size < w12.heap.size by omega))
    clear bg90 bg91 bg92 bg93 bg94 bg9f0 bg9f1 bg9f2 bg9f3 bg9f4
    replace HBg := Lib.hid (HBg.out.below hbw13 (show w5.heap.size < w12.heap.size by omega))
    replace Rp := Lib.hid (Rp.out.below (hbw13.mono (show w.heap.size ≤ w12.heap.size by omega)))
    replace Rfw := Lib.hid (Rfw.out.below (hbw13.mono (show w3.heap.size ≤ w12.heap.size by omega)))
    replace Rsw := Lib.hid (Rsw.out.below (hbw13.mono (show w3.heap.size ≤ w12.heap.size by omega)))
    replace Rrw := Lib.hid (Rrw.out.below (hbw13.mono (show w3.heap.size ≤ w12.heap.size by omega)))
    replace Of := Lib.hid (Of.out.keep fun b hb' => hbw13.block b (by have := Gg.out b (by simp [hb']); omega))
    replace Os := Lib.hid (Os.out.keep fun b hb' => hbw13.block b (by have := Gg.out b (by simp [hb']); omega))
    replace Or := Lib.hid (Or.out.keep fun b hb' => hbw13.block b (by have := Gg.out b (by simp [hb']); omega))
    obtain ⟨ba180, ba181, ba182, ba183⟩ := HBa.out
    obtain ⟨bw140, bw141, bw142, bw143, bw144, bw14f0, bw14f1, bw14f2, bw14f3, bw14f4⟩ := HBw.out
    obtain ⟨bx120, bx121, bx122, bx123⟩ := HBx.out
    obtain ⟨bg100, bg101, bg102, bg103, bg104, bg10f0, bg10f1, bg10f2, bg10f3, bg10f4⟩ := HBg.out
    obtain ⟨Az, mz, cz, rfl⟩ := ho.isSlice
    have Rz := Lib.hid (ho.reads (B := w13.heap.size) (fun b hb => (hrz b hb).2)); clear ho hnz hrz
    go_wp2_with fail
    refine (J2.out w13 _ (Rz.out.more (show w13.heap.size ≤ w13.heap.size by omega)) ⟨_, _, _, rfl⟩).mono ?_
    rintro e w14 ⟨vfh, vsh, vrh, bfh, bsh, brh, rfl, hof, hos, hor, hnh, hrgh, hbw14⟩
    have hz21 := hbw14.size
    replace hB := bl_trans hB hbw14
    clear ba180 ba181 ba182 ba183
    replace HBa := Lib.hid (HBa.out.below hbw14 (show w.heap.size < w13.heap.size by omega))
    clear bw140 bw141 bw142 bw143 bw144 bw14f0 bw14f1 bw14f2 bw14f3 bw14f4
    replace HBw := Lib.hid (HBw.out.below hbw14 (show w3.heap.size < w13.heap.size by omega))
    clear bx120 bx121 bx122 bx123
    replace HBx := Lib.hid (HBx.out.below hbw14 (show w4.heap.size < w13.heap.size by omega))
    clear bg100 bg101 bg102 bg103 bg104 bg10f0 bg10f1 bg10f2 bg10f3 bg10f4
    replace HBg := Lib.hid (HBg.out.below hbw14 (show w5.heap.size < w13.heap.size by omega))
    replace Rp := Lib.hid (Rp.out.below (hbw14.mono (show w.heap.size ≤ w13.heap.size by omega)))
    replace Rfw := Lib.hid (Rfw.out.below (hbw14.mono (show w3.heap.size ≤ w13.heap.size by omega)))
    replace Rsw := Lib.hid (Rsw.out.below (hbw14.mono (show w3.heap.size ≤ w13.heap.size by omega)))
    replace Rrw := Lib.hid (Rrw.out.below (hbw14.mono (show w3.heap.size ≤ w13.heap.size by omega)))
    replace Rz := Lib.hid (Rz.out.below (hbw14.mono (show w13.heap.size ≤ w13.heap.size by omega)))
    replace Of := Lib.hid (Of.out.keep fun b hb' => hbw14.block b (by have := Gg.out b (by simp [hb']); omega))
    replace Os := Lib.hid (Os.out.keep fun b hb' => hbw14.block b (by have := Gg.out b (by simp [hb']); omega))
    replace Or := Lib.hid (Or.out.keep fun b hb' => hbw14.block b (by have := Gg.out b (by simp [hb']); omega))
    obtain ⟨ba190, ba191, ba192, ba193⟩ := HBa.out
    obtain ⟨bw150, bw151, bw152, bw153, bw154, bw15f0, bw15f1, bw15f2, bw15f3, bw15f4⟩ := HBw.out
    obtain ⟨bx130, bx131, bx132, bx133⟩ := HBx.out
    obtain ⟨bg110, bg111, bg112, bg113, bg114, bg11f0, bg11f1, bg11f2, bg11f3, bg11f4⟩ := HBg.out
    obtain ⟨Afh, mfh, cfh, rfl⟩ := hof.1.isSlice
    obtain ⟨Ash, msh, csh, rfl⟩ := hos.1.isSlice
    obtain ⟨Arh, mrh, crh, rfl⟩ := hor.isSlice
    have Rfh := Lib.hid (hof.reads (B := w14.heap.size) (fun b hb => (hrgh b (by simp [hb])).2))
    have Rsh := Lib.hid (hos.reads (B := w14.heap.size) (fun b hb => (hrgh b (by simp [hb])).2))
    have Rrh := Lib.hid (hor.reads (B := w14.heap.size) (fun b hb => (hrgh b (by simp [hb])).2))
    clear hof hos hor hnh hrgh J2
    clear Rz
    have hba22 := bl_alloc (Below.refl w14.heap.size w14) (.cells #[.int .i64 cl, .int .i64 lb, .slice Afh mfh cfh, .slice Ash msh csh, .slice Arh mrh crh] 28)
    have HBh := Lib.hid (BoxC.new w14 28 (.int .i64 cl) (.int .i64 lb) (.slice Afh mfh cfh) (.slice Ash msh csh) (.slice Arh mrh crh))
    have hs22 : w14.heap.size < (w14.alloc (.cells #[.int .i64 cl, .int .i64 lb, .slice Afh mfh cfh, .slice Ash msh csh, .slice Arh mrh crh] 28)).heap.size := by simp
    have HS22 := Lib.hid hs22; clear hs22
    have hz23 := hba22.size
    replace hB := bl_trans hB hba22
    clear ba190 ba191 ba192 ba193
    replace HBa := Lib.hid (HBa.out.below hba22 (show w.heap.size < w14.heap.size by omega))
    clear bw150 bw151 bw152 bw153 bw154 bw15f0 bw15f1 bw15f2 bw15f3 bw15f4
    replace HBw := Lib.hid (HBw.out.below hba22 (show w3.heap.size < w14.heap.size by omega))
    clear bx130 bx131 bx132 bx133
    replace HBx := Lib.hid (HBx.out.below hba22 (show w4.heap.size < w14.heap.size by omega))
    clear bg110 bg111 bg112 bg113 bg114 bg11f0 bg11f1 bg11f2 bg11f3 bg11f4
    replace HBg := Lib.hid (HBg.out.below hba22 (show w5.heap.size < w14.heap.size by omega))
    replace Rp := Lib.hid (Rp.out.below (hba22.mono (show w.heap.size ≤ w14.heap.size by omega)))
    replace Rfw := Lib.hid (Rfw.out.below (hba22.mono (show w3.heap.size ≤ w14.heap.size by omega)))
    replace Rsw := Lib.hid (Rsw.out.below (hba22.mono (show w3.heap.size ≤ w14.heap.size by omega)))
    replace Rrw := Lib.hid (Rrw.out.below (hba22.mono (show w3.heap.size ≤ w14.heap.size by omega)))
    replace Rfh := Lib.hid (Rfh.out.below (hba22.mono (show w14.heap.size ≤ w14.heap.size by omega)))
    replace Rsh := Lib.hid (Rsh.out.below (hba22.mono (show w14.heap.size ≤ w14.heap.size by omega)))
    replace Rrh := Lib.hid (Rrh.out.below (hba22.mono (show w14.heap.size ≤ w14.heap.size by omega)))
    replace Of := Lib.hid (Of.out.keep fun b hb' => hba22.block b (by have := Gg.out b (by simp [hb']); omega))
    replace Os := Lib.hid (Os.out.keep fun b hb' => hba22.block b (by have := Gg.out b (by simp [hb']); omega))
    replace Or := Lib.hid (Or.out.keep fun b hb' => hba22.block b (by have := Gg.out b (by simp [hb']); omega))
    obtain ⟨ba200, ba201, ba202, ba203⟩ := HBa.out
    obtain ⟨bw160, bw161, bw162, bw163, bw164, bw16f0, bw16f1, bw16f2, bw16f3, bw16f4⟩ := HBw.out
    obtain ⟨bx140, bx141, bx142, bx143⟩ := HBx.out
    obtain ⟨bg120, bg121, bg122, bg123, bg124, bg12f0, bg12f1, bg12f2, bg12f3, bg12f4⟩ := HBg.out
    obtain ⟨bh10, bh11, bh12, bh13, bh14, bh1f0, bh1f1, bh1f2, bh1f3, bh1f4⟩ := HBh.out
    go_wp2_with fail
    generalize w14.alloc (.cells #[.int .i64 cl, .int .i64 lb, .slice Afh mfh cfh, .slice Ash msh csh, .slice Arh mrh crh] 28) = w14s at *
    have hs22 := HS22.out
    refine (eq_Cert cl lb _ _ _ _ _ _ F S R w14s (Rfh.out.more (show w14.heap.size ≤ w14s.heap.size by omega)) (Rsh.out.more (show w14.heap.size ≤ w14s.heap.size by omega)) (Rrh.out.more (show w14.heap.size ≤ w14s.heap.size by omega)) (Rfw.out.more (show w3.heap.size ≤ w14s.heap.size by omega)) (Rsw.out.more (show w3.heap.size ≤ w14s.heap.size by omega)) (Rrw.out.more (show w3.heap.size ≤ w14s.heap.size by omega))).mono ?_
    rintro e w15 ⟨rfl, hbw15⟩
    have hz24 := hbw15.size
    replace hB := bl_trans hB hbw15
    clear ba200 ba201 ba202 ba203
    replace HBa := Lib.hid (HBa.out.below hbw15 (show w.heap.size < w14s.heap.size by omega))
    clear bw160 bw161 bw162 bw163 bw164 bw16f0 bw16f1 bw16f2 bw16f3 bw16f4
    replace HBw := Lib.hid (HBw.out.below hbw15 (show w3.heap.size < w14s.heap.size by omega))
    clear bx140 bx141 bx142 bx143
    replace HBx := Lib.hid (HBx.out.below hbw15 (show w4.heap.size < w14s.heap.size by omega))
    clear bg120 bg121 bg122 bg123 bg124 bg12f0 bg12f1 bg12f2 bg12f3 bg12f4
    replace HBg := Lib.hid (HBg.out.below hbw15 (show w5.heap.size < w14s.heap.size by omega))
    clear bh10 bh11 bh12 bh13 bh14 bh1f0 bh1f1 bh1f2 bh1f3 bh1f4
    replace HBh := Lib.hid (HBh.out.below hbw15 (show w14.heap.size < w14s.heap.size by omega))
    replace Rp := Lib.hid (Rp.out.below (hbw15.mono (show w.heap.size ≤ w14s.heap.size by omega)))
    replace Rfw := Lib.hid (Rfw.out.below (hbw15.mono (show w3.heap.size ≤ w14s.heap.size by omega)))
    replace Rsw := Lib.hid (Rsw.out.below (hbw15.mono (show w3.heap.size ≤ w14s.heap.size by omega)))
    replace Rrw := Lib.hid (Rrw.out.below (hbw15.mono (show w3.heap.size ≤ w14s.heap.size by omega)))
    replace Rfh := Lib.hid (Rfh.out.below (hbw15.mono (show w14.heap.size ≤ w14s.heap.size by omega)))
    replace Rsh := Lib.hid (Rsh.out.below (hbw15.mono (show w14.heap.size ≤ w14s.heap.size by omega)))
    replace Rrh := Lib.hid (Rrh.out.below (hbw15.mono (show w14.heap.size ≤ w14s.heap.size by omega)))
    replace Of := Lib.hid (Of.out.keep fun b hb' => hbw15.block b (by have := Gg.out b (by simp [hb']); omega))
    replace Os := Lib.hid (Os.out.keep fun b hb' => hbw15.block b (by have := Gg.out b (by simp [hb']); omega))
    replace Or := Lib.hid (Or.out.keep fun b hb' => hbw15.block b (by have := Gg.out b (by simp [hb']); omega))
    obtain ⟨ba210, ba211, ba212, ba213⟩ := HBa.out
    obtain ⟨bw170, bw171, bw172, bw173, bw174, bw17f0, bw17f1, bw17f2, bw17f3, bw17f4⟩ := HBw.out
    obtain ⟨bx150, bx151, bx152, bx153⟩ := HBx.out
    obtain ⟨bg130, bg131, bg132, bg133, bg134, bg13f0, bg13f1, bg13f2, bg13f3, bg13f4⟩ := HBg.out
    obtain ⟨bh20, bh21, bh22, bh23, bh24, bh2f0, bh2f1, bh2f2, bh2f3, bh2f4⟩ := HBh.out
    go_wp2_with fail
    refine (held_Cert cl lb _ _ _ F S R 1 w15 (Of.out.reads (B := w15.heap.size) (fun b hb' => by have := Gg.out b (by simp [hb']); omega)) (Os.out.reads (B := w15.heap.size) (fun b hb' => by have := Gg.out b (by simp [hb']); omega)) (Or.out.reads (B := w15.heap.size) (fun b hb' => by have := Gg.out b (by simp [hb']); omega)) (by omega) (by omega)).mono ?_
    rintro e w16 ⟨rfl, hbw16⟩
    have hz25 := hbw16.size
    replace hB := bl_trans hB hbw16
    clear ba210 ba211 ba212 ba213
    replace HBa := Lib.hid (HBa.out.below hbw16 (show w.heap.size < w15.heap.size by omega))
    clear bw170 bw171 bw172 bw173 bw174 bw17f0 bw17f1 bw17f2 bw17f3 bw17f4
    replace HBw := Lib.hid (HBw.out.below hbw16 (show w3.heap.size < w15.heap.size by omega))
    clear bx150 bx151 bx152 bx153
    replace HBx := Lib.hid (HBx.out.below hbw16 (show w4.heap.size < w15.heap.size by omega))
    clear bg130 bg131 bg132 bg133 bg134 bg13f0 bg13f1 bg13f2 bg13f3 bg13f4
    replace HBg := Lib.hid (HBg.out.below hbw16 (show w5.heap.size < w15.heap.size by omega))
    clear bh20 bh21 bh22 bh23 bh24 bh2f0 bh2f1 bh2f2 bh2f3 bh2f4
    replace HBh := Lib.hid (HBh.out.below hbw16 (show w14.heap.size < w15.heap.size by omega))
    replace Rp := Lib.hid (Rp.out.below (hbw16.mono (show w.heap.size ≤ w15.heap.size by omega)))
    replace Rfw := Lib.hid (Rfw.out.below (hbw16.mono (show w3.heap.size ≤ w15.heap.size by omega)))
    replace Rsw := Lib.hid (Rsw.out.below (hbw16.mono (show w3.heap.size ≤ w15.heap.size by omega)))
    replace Rrw := Lib.hid (Rrw.out.below (hbw16.mono (show w3.heap.size ≤ w15.heap.size by omega)))
    replace Rfh := Lib.hid (Rfh.out.below (hbw16.mono (show w14.heap.size ≤ w15.heap.size by omega)))
    replace Rsh := Lib.hid (Rsh.out.below (hbw16.mono (show w14.heap.size ≤ w15.heap.size by omega)))
    replace Rrh := Lib.hid (Rrh.out.below (hbw16.mono (show w14.heap.size ≤ w15.heap.size by omega)))
    replace Of := Lib.hid (Of.out.keep fun b hb' => hbw16.block b (by have := Gg.out b (by simp [hb']); omega))
    replace Os := Lib.hid (Os.out.keep fun b hb' => hbw16.block b (by have := Gg.out b (by simp [hb']); omega))
    replace Or := Lib.hid (Or.out.keep fun b hb' => hbw16.block b (by have := Gg.out b (by simp [hb']); omega))
    obtain ⟨ba220, ba221, ba222, ba223⟩ := HBa.out
    obtain ⟨bw180, bw181, bw182, bw183, bw184, bw18f0, bw18f1, bw18f2, bw18f3, bw18f4⟩ := HBw.out
    obtain ⟨bx160, bx161, bx162, bx163⟩ := HBx.out
    obtain ⟨bg140, bg141, bg142, bg143, bg144, bg14f0, bg14f1, bg14f2, bg14f3, bg14f4⟩ := HBg.out
    obtain ⟨bh30, bh31, bh32, bh33, bh34, bh3f0, bh3f1, bh3f2, bh3f3, bh3f4⟩ := HBh.out
    go_wp2_with fail
    go_ret
    exact ⟨rfl, hB⟩
theorem laidOut : laidOutB Try.prog = true := by kernel_rfl
theorem own : ownKnob Try.prog.godebug = none := by kernel_rfl
set_option maxRecDepth 100000 in
theorem lifted (os : Os) (started : os.Started) (H : Type) (enc : TypeId × Value → H) :
    ReturnsInHanded {} Try.checked os 3 .any (Rows.fnExactCertifyWalkSpec.pre6 enc Try.prog Try.f3 Rows.fnExactCertifyWalkRow.domain false) (Rows.fnExactCertifyWalkSpec.post enc Try.prog Try.f3 false true false false) := by
  refine returnsInHanded_of_change (C := Try.checked) own started (by kernel_rfl) Try.func3
    (ChangeSpec.witness6 (enc := enc) (C := Try.checked) false ⟨#[], #[.agg #[.int .i64 0, .slice none 0 0]], []⟩ 8 (by kernel_rfl) (by kernel_rfl) (by kernel_rfl) (by kernel_rfl)) ?_
  intro W base args ds gs before hval0 hW hcnd _
  have hval : ∀ (j : Nat) t v, Try.f3.params[j]? = some t → args[j]? = some v → Value.okWide Try.prog W .any base t v := hval0
  have hW' := hW
  obtain ⟨p, q, hA0, hV, rfl, hfz, hnd⟩ := hW
  have hA : DataW.TrodAll enc Try.prog W 0 (fun _ => true) true Try.f3.params.toList args.toList ds p := hA0
  rw [Try.params3] at hA hval
  obtain ⟨v0, vs0, d0, ds0, p0, q0, hargs, rfl, rfl, h0, r0⟩ := trodAll_cons hA
  obtain ⟨rfl, rfl, rfl⟩ := trodAll_nil r0
  obtain rfl : args = #[v0] := by cases args; simp_all
  obtain ⟨rfl, rfl⟩ := trodVars_none hV
  obtain ⟨c0, c1, y0, y1, m, rfl, rfl, -, hy0, hy1⟩ := open_agg2 Try.underlying24 (by kernel_rfl) (by kernel_rfl) (hval 0 24 v0 rfl rfl) h0
  obtain ⟨n, e0, -, wn⟩ := DataW.trod_int Try.underlying3 hy0
  obtain ⟨v, xss, e1, hr⟩ := rows_of_trod Try.underlying22 Try.underlying26 Try.underlying3 (by kernel_rfl) (by kernel_rfl) hy1
  simp only [List.cons.injEq, and_true] at e0 e1
  subst e0 e1
  refine (walk n _ xss W hr).mono fun e W' ⟨he, hg⟩ => ?_
  subst he
  exact ⟨_, rfl, post_law laidOut (by kernel_rfl) rfl (by kernel_rfl) Try.underlying4 rfl hW' hg⟩

theorem over : Rows.fnExactCertifyWalkRow.holds Try.pinned (OpenSpec.ofChange Rows.fnExactCertifyWalkSpec) :=
  OpenClaim.holds_of_wide 3 Try.f3 rfl rfl rfl rfl rfl rfl rfl ⟨rfl, rfl, rfl, rfl, rfl⟩ rfl rfl rfl rfl rfl (by kernel_rfl) Try.func3 (by kernel_rfl)
    (of_decide_eq_true (by kernel_rfl)) (by unfold Func.isWrapper; first | (rw [if_pos (by decide +kernel)]; kernel_rfl) | (rw [if_neg (by decide +kernel)]; exact ⟨rfl, rfl⟩))
    (fun os started H enc _ => lifted os started H enc)

/-- The statement. -/
theorem proved : Rows.FnExactCertifyWalkSaid :=
  over
#print axioms proved
end Go.Proofs.Ytldbljflppjanaa.fnExactCertifyWalk
