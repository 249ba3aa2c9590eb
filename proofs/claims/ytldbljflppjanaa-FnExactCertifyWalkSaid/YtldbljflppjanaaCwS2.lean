/-
  Walk problems, the reference's side: powers of the relation of arcs.
-/
import Derived.Test.YtldbljflppjanaaCwS1
import Derived.Test.YtldbljflppjanaaOnlyB
namespace Go.Proofs.Ytldbljflppjanaa
open Go.RowKit
set_option linter.unusedVariables false
set_option linter.unusedSimpArgs false
theorem OwnMat.offG {w w' : World} {base : Nat} {v : Value} {m : Nat} {gs : List Nat} {f : Nat → Nat → Bool} {a b : Option Nat} (h : OwnMat w base v m gs f) (hg : G2 w w' a b) (ha : ∀ g, a = some g → g ∉ gs ∧ v.ownBlock ≠ some g) (hb : ∀ g, b = some g → g ∉ gs ∧ v.ownBlock ≠ some g) : OwnMat w' base v m gs f := by
  refine ⟨?_, h.nodup, h.ge, fun x g hx => ?_⟩
  · refine ⟨h.row.1, ?_⟩
    have hlt := h.row.lt
    rcases h.row.2 with h2 | ⟨g, cap, cur, rfl, h1, h2, h3⟩
    · exact .inl h2
    · exact .inr ⟨g, cap, cur, rfl, h1, (hg.block g (hlt g rfl).2 (fun e => (ha g e.symm).2 rfl) (fun e => (hb g e.symm).2 rfl)).trans h2, h3⟩
  · have hm := List.mem_of_getElem? hx
    exact (hg.block g (h.lt hm) (fun e => (ha g e.symm).1 hm) (fun e => (hb g e.symm).1 hm)).trans (h.blk x g hx)
theorem own_single {w : World} {base g : Nat} {e : TypeId} {u : Value} (h : w.heap[g]? = some (.cells #[u] e (0, 0))) (hb : base ≤ g) : w.ownsRow base e 1 (.slice (some ⟨g, 0, none⟩) 1 1) 1 [u] :=
  ⟨rfl, .inr ⟨g, 1, #[u], rfl, hb, h, Nat.le_refl _, by unfold maxLen; omega, rfl, rfl⟩⟩
noncomputable def wkB (xss : List (List Int)) (k a b : Nat) : Bool := propB (wk (hasArc xss) k a b)
theorem wkB_next {n : Nat} {xss : List (List Int)} (hg : Good n xss) (k a b : Nat) : timesF n (wkB xss k) (mayF xss) a b = wkB xss (k + 1) a b := by
  unfold timesF wkB mayF
  refine propB_congr ⟨?_, ?_⟩
  · rintro ⟨c, _, h1, h2⟩; exact ⟨c, propB_iff.1 h1, propB_iff.1 h2⟩
  · rintro ⟨c, h1, h2⟩; exact ⟨c, (arc_lt hg h2).1, propB_iff.2 h1, propB_iff.2 h2⟩
/-- How element i of the powers reads. -/
def PwR (n : Nat) (xss : List (List Int)) (B : Nat) (i : Nat) (u : Value) (W : World) : Prop := MatL W B u n n (wkB xss i)
def IdRel (n : Nat) (w1 : World) (base : Nat) (v : Value) (gs : List Nat) (i : Value) (wr : World) : Prop :=
  ∃ k : Nat, k ≤ n ∧ i = .int .i64 k ∧ OwnMat wr base v n gs (fun a b => decide (a = b ∧ a < k)) ∧ Below base w1 wr
def PwRel (n m : Nat) (xss : List (List Int)) (B base : Nat) (w3 : World) (v : Value) (wr : World) : Prop :=
  ∃ k : Nat, 1 ≤ k ∧ k ≤ m + 1 ∧ lenOf v = k ∧ OwnOf wr base 77 v none k (PwR n xss B) ∧ Below base w3 wr ∧ G2 w3 wr (some base) none ∧ newBlk w3 (some base) v.ownBlock
def PwPost (n m : Nat) (xss : List (List Int)) (w : World) (e : Ending) (w' : World) : Prop :=
  ∃ v, e = .returned v ∧ OwnOf w' w.heap.size 77 v none (m + 1) (PwR n xss w.heap.size) ∧ Below w.heap.size w w'
theorem matsInfo : (Try.prog.info? 77).map (fun i => (i.zero, i.size, i.bytes)) = some (some (.slice none 0 0), 1, 24) := by kernel_rfl
theorem good_nil {n : Nat} {xss : List (List Int)} (hg : Good n xss) : Good n [] := ⟨hg.1, fun i h => by simp at h⟩
theorem rows_nilR (w : World) (B : Nat) : RowsR w B (.slice none 0 0) [] := ⟨[], ⟨none, 0, rfl, Nat.zero_le _, by unfold maxLen; omega, fun h => by simp at h⟩, trivial⟩
theorem OwnMat.sl {w : World} {base : Nat} {v : Value} {m : Nat} {gs : List Nat} {f : Nat → Nat → Bool} (h : OwnMat w base v m gs f) (hn : 0 < gs.length) : ∃ g c, v = .slice (some ⟨g, 0, none⟩) gs.length c ∧ base ≤ g ∧ g < w.heap.size := by
  obtain ⟨g, c, e, _, _, h1, h2⟩ := own_some h.row hn
  exact ⟨g, c, e, h1, h2⟩
set_option maxRecDepth 100000 in
set_option maxHeartbeats 1000000 in
theorem spec_waPowers (n m : Nat) (v : Value) (xss : List (List Int)) (w : World) (h : RowsR w w.heap.size v xss) (hg : Good n xss) (hm : m ≤ 1000) :
    Calls Try.prog 60 #[.agg #[.int .i64 (n : Int), v], .int .i64 (m : Int)] w (PwPost n m xss w) := by
  have hn := good_n hg
  have HH := Lib.hid h; clear h
  have HG := Lib.hid hg; clear hg
  obtain ⟨w0, hw0⟩ : ∃ z, z = w.alloc (.cells #[.int .i64 (n : Int), v] 31) := ⟨_, rfl⟩
  have hb0 : Below w.heap.size w w0 := by rw [hw0]; exact bl_alloc (Below.refl _ _) _
  have hz0 : w0.heap.size = w.heap.size + 1 := by rw [hw0]; simp
  have HB0 := Lib.hid (show w0.heap[w.heap.size]? = some (.cells #[.int .i64 (n : Int), v] 31 (0, 0)) by rw [hw0]; exact heap_alloc_new _ _)
  have HW0 := Lib.hid hw0
  have hzz : w.heap.size < w0.heap.size := by omega
  clear hw0 hz0
  obtain ⟨b0, b1, bf⟩ := cells2 HB0
  go_enter Try.func60, Try.ntmps60
  go_wp2_with fail
  rw [← HW0.out]
  refine (spec_waMayO n (.slice none 0 0) [] w0 (rows_nilR _ _) (good_nil HG.out)).mono ?_
  rintro e w1 ⟨u, gs, rfl, hgs, hown, hb1⟩
  have HB1 := bk HB0 hb1 (by omega)
  have hb01 := bl_trans hb0 hb1
  have hz1 := hb1.size
  obtain ⟨go, co, rfl, go1, go2⟩ := hown.sl (by omega)
  rw [hgs] at hown ⊢
  have hst : IdRel n w1 w0.heap.size (.slice (some ⟨go, 0, none⟩) n co) gs (.int .i64 0) w1 := ⟨0, Nat.zero_le _, rfl, hown.congr (fun a _ b _ => by
    unfold mayF
    rw [propB_f (by simp [hasArc])]
    simp), Below.refl _ _⟩
  have HST := Lib.hid hst
  have hgo1 : n ≤ co := by
    obtain ⟨g, c, e, h1, _⟩ := own_some hown.row (by omega)
    cases e
    omega
  clear hst hown b0 b1 bf
  go_wp2_with fail
  go_loopw [15] (fun i wr => IdRel n w1 w0.heap.size (.slice (some ⟨go, 0, none⟩) n co) gs i wr) (fun i _ => n - (intOf i).toNat)
  case atStart => exact HST.out
  case round =>
    clear HST
    obtain ⟨k, hk, rfl, hown, hbl⟩ := hrel
    have HO := Lib.hid hown
    have hb0r := hb01.trans (hbl.mono (by omega))
    have hsr := hbl.size
    clear hown
    by_cases hlt : k < n
    · obtain ⟨g, hgk⟩ : ∃ g, gs[k]? = some g := ⟨gs[k]'(by omega), List.getElem?_eq_getElem (by omega)⟩
      have krow := HO.out.row.cells (g := go) rfl k _ (by rw [List.getElem?_map, hgk]; rfl)
      rw [addr0] at krow
      unfold rowV at krow
      have kc : wr.cell? ⟨g, k, none⟩ = some (.bool (decide (k = k ∧ k < k))) := by rw [cell_of_row wr g k _ _ (0, 0) (HO.out.blk k g hgk)]; exact bRow_at hlt
      have kf : wr.frozen? ⟨g, k, none⟩ = false := frozen_of_row _ _ k _ _ (HO.out.blk k g hgk)
      have HGK := Lib.hid hgk
      clear hgk
      go_wp2_with fail
      go_roundw
      case rel => exact ⟨k + 1, by omega, by go_num, (HO.out.store HGK.out hlt true).congr (fun a _ b _ => by
        split
        · rename_i h; obtain ⟨rfl, rfl⟩ := h; simp
        · rename_i h
          rw [Bool.eq_iff_iff, decide_eq_true_eq, decide_eq_true_eq]
          constructor
          · rintro ⟨h1, h2⟩; exact ⟨h1, by omega⟩
          · rintro ⟨h1, h2⟩
            refine ⟨h1, ?_⟩
            rcases Nat.lt_or_ge a k with q | q
            · exact q
            · exact absurd ⟨by omega, by omega⟩ h), hbl.setCell (HO.out.ge g (List.mem_of_getElem? HGK.out)) _⟩
      case measure => simp [intOf]; omega
    · obtain rfl : k = n := by omega
      have HM0 := Lib.hid (HO.out.congr (f' := wkB xss 0) fun a ha b _ => by
        rw [hgs] at ha
        unfold wkB
        rw [Bool.eq_iff_iff, propB_iff, decide_eq_true_eq]
        show a = b ∧ a < k ↔ a = b
        exact ⟨fun h => h.1, fun h => ⟨h, ha⟩⟩)
      have HBr := bk HB1 hbl (by omega)
      obtain ⟨b0, b1, bf⟩ := cells2 HBr
      obtain ⟨w2, hw2⟩ : ∃ z, z = wr.alloc (.cells #[.slice (some ⟨go, 0, none⟩) k co] 77) := ⟨_, rfl⟩
      have hb2 : Below wr.heap.size wr w2 := by rw [hw2]; exact bl_alloc (Below.refl _ _) _
      have hnew : w2.heap[wr.heap.size]? = some (.cells #[.slice (some ⟨go, 0, none⟩) k co] 77 (0, 0)) := by rw [hw2]; exact heap_alloc_new _ _
      have hz2 : wr.heap.size < w2.heap.size := by rw [hw2]; simp
      have HW2 := Lib.hid hw2
      have HM2 := Lib.hid (HM0.out.up hb2)
      have HP2 := Lib.hid (show OwnOf w2 wr.heap.size 77 (.slice (some ⟨wr.heap.size, 0, none⟩) 1 1) none 1 (PwR k xss w.heap.size) from
        ⟨[.slice (some ⟨go, 0, none⟩) k co], own_single hnew (Nat.le_refl _), fun i u hu w' hg' => by
          have hi : i = 0 := by
            have := (List.getElem?_eq_some_iff.1 hu).1
            simp at this; omega
          subst hi
          simp at hu
          subst hu
          have hoff := HM2.out.offG hg' (fun g hg => by
            have e : g = wr.heap.size := (Option.some.inj hg).symm
            subst e
            refine ⟨fun hm => ?_, fun e2 => ?_⟩
            · have := HM0.out.lt hm; omega
            · have := (HM0.out.row.lt _ e2).2; omega) (fun g hg => by cases hg)
          have hr := hoff.readsL (B := w.heap.size) (by omega) (by omega)
          rw [hgs] at hr
          exact hr⟩)
      have HB2 := bk HBr hb2 (by omega)
      have hb02 := hb0r.trans (hb2.mono (by omega))
      have e0 := b0
      have e1 := b1
      clear b0 b1 bf hnew
      obtain ⟨b0, b1, bf⟩ := cells2 HB2
      rw [hw2] at b0 b1
      clear hw2 e0 e1
      go_wp2_with fail
      rw [← HW2.out]
      refine (spec_waMayO k v xss w2 ((HH.out.below hb02).more hb02.size) HG.out).mono ?_
      rintro e w3 ⟨um, gm, rfl, hgm, hmay, hb3⟩
      have HMY := Lib.hid hmay
      have hb03 := bl_trans hb02 hb3
      have hz3 := hb3.size
      obtain ⟨gom, cm, rfl, m1, m2⟩ := hmay.sl (by omega)
      rw [hgm] at HMY ⊢
      clear b0 b1 hmay
      have hst : PwRel k m xss w.heap.size wr.heap.size w3 (.slice (some ⟨wr.heap.size, 0, none⟩) 1 1) w3 := ⟨1, Nat.le_refl _, by omega, rfl, HP2.out.up hb3, Below.refl _ _, G2.refl _ _ _, .inl rfl⟩
      have HST := Lib.hid hst
      clear hst
      obtain ⟨base, hbase⟩ : ∃ b, b = wr.heap.size := ⟨_, rfl⟩
      rw [← hbase] at HST
      have hbz : base ≤ w3.heap.size := by omega
      have hbz2 : base < w2.heap.size := by omega
      go_wp2_with fail
      go_loopw [7] (fun v wr => PwRel k m xss w.heap.size base w3 v wr) (fun v _ => (m + 2) - lenOf v)
      case atStart => rw [← hbase]; exact HST.out
      case round =>
        clear HST
        obtain ⟨i, hi1, hi2, hlen, hpw, hbl4, hgb, hnb⟩ := hrel
        have HPW := Lib.hid hpw
        have hsz4 := hbl4.size
        obtain ⟨g, c, u, rfl, q1, q2, q3, q4, kcu, hR⟩ := hpw.at_ (i := i - 1) (by omega)
        have hb04 := hb03.trans (hbl4.mono (by omega))
        clear hpw hlen
        by_cases hlt : i ≤ m
        · have HR := Lib.hid (MatL.toB hR)
          obtain ⟨gu, cu, rfl, u1, u2, u3, u4⟩ := hR
          have hi3 : (i : Int) ≤ (m : Int) := by omega
          clear u4
          go_wp2_with fail
          have hmr := (HMY.out.off hgb (fun g hg => by have := Option.some.inj hg; omega) (fun g hg => by cases hg)).reads (by omega)
          rw [hgm] at hmr
          refine (spec_waTimes k _ _ (wkB xss (i - 1)) (mayF xss) wr HR.out hmr (by omega) (by omega)).mono ?_
          rintro e w5 ⟨vt, gs5, rfl, hg5, ho5, hb5⟩
          obtain ⟨go5, co5, rfl, p1, p2⟩ := ho5.sl (by omega)
          have HO5 := Lib.hid ho5
          obtain ⟨vs, hv1, hv2⟩ := HPW.out.up hb5
          have hvl : vs.length = i := by have := hv1.1; omega
          have HV1 := Lib.hid hv1
          have HV2 := Lib.hid hv2
          have HGB := Lib.hid hgb
          have HNB := Lib.hid hnb
          have hz5 := hb5.size
          rw [hg5]
          clear ho5 hv1 hv2 hmr hgb hnb
          go_wp2_with ((at_builtin; refine wpList_append1 w5 rfl (.tmp 33) (.tmp 42) 74 rfl base 77 _ 24 Try.underlying74 matsInfo rfl _ _ _ rfl _ rfl rfl HV1.out (by unfold maxLen; omega) (by omega) (by omega) ?_; intro v' w' hown' hbl' hgr' hlt' hob'))
          have hnw : newBlk w5 (Value.slice (some ⟨g, 0, none⟩) i c).ownBlock v'.ownBlock := by
            rcases hob' with h | ⟨g', h, h1, _⟩
            · exact .inl h
            · exact .inr ⟨g', h, h1⟩
          have hpush : OwnOf w' base 77 v' none (i + 1) (PwR k xss w.heap.size) := OwnOf.push HV2.out hvl (fun w2' h2 => by
            have hoff := HO5.out.off h2 (fun g' hg' => by have e : g = g' := Option.some.inj hg'; omega) (fun g' hg' => by cases hg')
            have hr := (hoff.congr (f' := wkB xss i) fun a _ b _ => by
              have := wkB_next HG.out (i - 1) a b
              rwa [show i - 1 + 1 = i by omega] at this).readsL (B := w.heap.size) (by omega) (by omega)
            rw [hg5] at hr
            exact hr) hown' hgr' hob'
          have hln : lenOf v' = i + 1 := by
            obtain ⟨A', c', rfl⟩ := own_sl hown'
            rfl
          go_roundw
          case rel => exact ⟨i + 1, by omega, by omega, hln, hpush, (hbl4.trans (hb5.mono (by omega))).trans hbl', HGB.out.shift ((G2.below hb5).tr (G2.left hgr')) HNB.out (.inl rfl), by
            rcases hnw with h | ⟨g', h, h1⟩
            · rw [h]; exact HNB.out
            · exact .inr ⟨g', h, by omega⟩⟩
          case measure => rw [hln]; simp [lenOf]; omega
        · obtain rfl : i = m + 1 := by omega
          have hi3 : ¬ ((m + 1 : Nat) : Int) ≤ (m : Int) := by omega
          go_wp2_with fail
          go_ret
          exact ⟨_, rfl, HPW.out.base_ (by omega), hb04⟩
end Go.Proofs.Ytldbljflppjanaa
