/-
  What can be reached from a situation, the reference's side: ReachableNumbers.
  What can be reached from a situation, the program's side: ReachableNumbers.
-/
import Derived.Test.YtfhecpkhifdnbaaGreatNetSuccS
import Derived.Test.YtfhecpkhifdnbaaGreatImplA
import Derived.Test.YtfhecpkhifdnbaaGreatPlainReach
import Derived.Test.YtfhecpkhifdnbaaGreatSuccJ
namespace Go.Proofs.YtfhecpkhifdnbaaGreat
section
open Go.RowKit
set_option linter.unusedVariables false
set_option linter.unusedSimpArgs false
/-- An append to a queue; the blocks that are not the queue's stay as they are. -/
theorem wpList_append_q2 {w : World} {ops : Array Oper} {rest : List Oper} {o : Oper} {a : Act} {Q : Exit → Act → World → Prop} (hgd : o.guard = none) (s x : Operand)
    (ho : o.op = .call { callee := .builtin .append, args := #[s, x], argTypes := #[23, 23] }) {base : Nat} {v : Value} {q : List Int} (hs : a.eval s = v) (hq : QRow w base v q)
    (b : Nat) (y : Int) (hx : a.eval x = .slice (some ⟨b, 0, none⟩) 1 1) (hy : w.cell? ⟨b, 0, none⟩ = some (.int .i64 y)) (hl : q.length ≤ 2000000) (hbs : base ≤ w.heap.size)
    (hK : ∀ v' w', QRow w' base v' (q ++ [y]) → Below base w w' → (∀ k, k < w.heap.size → v.ownBlock ≠ some k → w'.heap[k]? = w.heap[k]?) → (v'.ownBlock = v.ownBlock ∨ ∃ g', v'.ownBlock = some g' ∧ w.heap.size ≤ g') → wpList Tryz.prog ops Q rest (a.put o.dst v') w') : wpList Tryz.prog ops Q (o :: rest) a w := by
  obtain ⟨i, hi, hz0, hz1, hz2⟩ := info_parts intInfo
  obtain ⟨g, off, m, cap, cur, rfl, rfl, h1, h2, h3, h4, h5, h6⟩ := hq
  have hgl : g < w.heap.size := by
    rcases Nat.lt_or_ge g w.heap.size with h | h
    · exact h
    · rw [Array.getElem?_eq_none h] at h2; cases h2
  have hcel : ∀ (j : Nat) (u : Value), cur[j]? = some u → w.cell? ⟨g, j, none⟩ = some u := fun j u hu => by rw [cell_of_row _ _ j _ _ (0, 0) h2]; exact hu
  refine wpList_append_arg w hgd s x 23 ho 3 i _ 1 8 Tryz.underlying23 hi hz0 hz1 hz2 rfl (by decide) g off q.length cap (q.map intV) hs (by simp) (fun j u hu => ?_)
    ⟨b, 0, none⟩ 1 1 [.int .i64 y] hx rfl (fun j u hu => ?_) (fun u hu => ?_) (fun hr j hj => ?_) (by unfold maxLen; omega) (by omega) (fun hr => ?_) (fun hr v' w' hown hgr => ?_)
  · rw [List.getElem?_map] at hu
    obtain ⟨z, hz, rfl⟩ := Option.map_eq_some_iff.1 hu
    exact hcel _ _ (h6 j z hz)
  · rcases j with _ | j
    · simp only [List.getElem?_cons_zero, Option.some.injEq] at hu
      subst hu
      exact hy
    · simp at hu
  · rw [List.mem_singleton] at hu
    subst hu
    rfl
  · obtain rfl : j = 0 := by simp at hj; omega
    refine ⟨?_, frozen_of_row _ _ _ _ _ h2⟩
    rw [hcel _ _ (Array.getElem?_eq_getElem (show off + q.length * 1 + 0 < cur.size by omega))]
    rfl
  · refine hK _ _ ⟨g, off, q.length + 1, cap, cur.setIfInBounds (off + q.length) (.int .i64 y), rfl, by simp, h1, ?_, hr, h4, by simpa using h5, fun j z hz => ?_⟩ ?_ (fun k _ hne => ?_) (.inl rfl)
    · simp [World.setCells, World.setCell, Array.getElem?_modify, h2]
    · rw [Array.getElem?_setIfInBounds]
      by_cases hj : j < q.length
      · rw [if_neg (by omega)]
        rw [List.getElem?_append_left hj] at hz
        exact h6 j z hz
      · rw [List.getElem?_append_right (by omega)] at hz
        have hj2 : j - q.length = 0 := by
          have := (List.getElem?_eq_some_iff.1 hz).1
          simp at this
          omega
        rw [hj2] at hz
        simp only [List.getElem?_cons_zero, Option.some.injEq] at hz
        subst hz
        rw [if_pos (by omega), if_pos (by omega)]
    · simp only [World.setCells]
      exact (Below.refl _ _).setCell h1 _
    · simp only [World.setCells]
      exact Below.heap_setCell _ _ _ _ (fun e => hne (by rw [e]; rfl))
  · have hq' := QRow.own (q := q ++ [y]) (by rw [List.map_append]; exact hown) (by simp)
    obtain ⟨g', o', m', c', cur', rfl, r1, r2, r3⟩ := hq'
    exact hK _ _ ⟨g', o', m', c', cur', rfl, r1, by omega, r3⟩ ⟨hgr.os, hgr.tape, hgr.output, hgr.size, fun k hk => hgr.block k (by omega) (by simp)⟩ (fun k hk _ => hgr.block k hk (by simp)) (.inr ⟨g', rfl, r2⟩)
theorem own_some4 {w : World} {base n : Nat} {e : TypeId} {v : Value} {vs : List Value} (h : w.ownsRow base e 1 v n vs) (hn : 0 < n) : ∃ g c, v = .slice (some ⟨g, 0, none⟩) n c := by
  rcases h.2 with ⟨_, h0⟩ | ⟨g, cap, cur, rfl, -⟩
  · omega
  · exact ⟨g, cap, rfl⟩
/-- What the reference's search holds: the list and the queue, in blocks of their own. -/
structure RS (w : World) (base : Nat) (ov qv : Value) (out q : List Int) : Prop where
  o : w.ownsRow base 3 1 ov out.length (out.map intV)
  q : QRow w base qv q
  sep : ov.ownBlock ≠ qv.ownBlock
theorem QRow.blk {w : World} {base : Nat} {v : Value} {q : List Int} (h : QRow w base v q) : ∃ g, v.ownBlock = some g ∧ base ≤ g ∧ g < w.heap.size := by
  obtain ⟨g, o, m, cap, cur, rfl, rfl, h1, h2, -⟩ := h
  exact ⟨g, rfl, h1, (Array.getElem?_eq_some_iff.1 h2).1⟩
theorem RS.below {w w' : World} {base : Nat} {ov qv : Value} {out q : List Int} (h : RS w base ov qv out q) (hb : Below w.heap.size w w') : RS w' base ov qv out q :=
  ⟨own_keep4 h.o hb.size (fun b _ hb' => hb.block b hb'), h.q.keep (fun b _ hb' => hb.block b hb'), h.sep⟩
/-- The list anew, in a row that has just been laid. -/
theorem RS.put {w w' : World} {base : Nat} {ov ov' qv : Value} {out out' q : List Int} (h : RS w base ov qv out q) (hbs : base ≤ w.heap.size) (ho : w'.ownsRow w.heap.size 3 1 ov' out'.length (out'.map intV)) (hb : Below w.heap.size w w') : RS w' base ov' qv out' q := by
  refine ⟨own_mono ho hbs, h.q.keep (fun b _ hb' => hb.block b hb'), fun e => ?_⟩
  obtain ⟨g, hg, -, hgl⟩ := h.q.blk
  rw [hg] at e
  have := ho.lt g e
  omega
/-- The queue anew. -/
theorem RS.push {w w' : World} {base : Nat} {ov qv qv' : Value} {out q q' : List Int} (h : RS w base ov qv out q) (hq : QRow w' base qv' q') (hs : w.heap.size ≤ w'.heap.size) (hk : ∀ k, k < w.heap.size → qv.ownBlock ≠ some k → w'.heap[k]? = w.heap[k]?) (hb : qv'.ownBlock = qv.ownBlock ∨ ∃ g', qv'.ownBlock = some g' ∧ w.heap.size ≤ g') (hne : out ≠ []) : RS w' base ov qv' out q' := by
  have hlt := h.o.lt
  obtain ⟨g, c, e⟩ := own_some4 h.o (List.length_pos_iff.2 hne)
  have hgb : ov.ownBlock = some g := by rw [e]; rfl
  have hg := hlt g hgb
  have hgn : qv.ownBlock ≠ some g := fun e' => h.sep (hgb.trans e'.symm)
  refine ⟨?_, hq, fun e' => ?_⟩
  · rcases h.o.2 with ⟨e1, e2⟩ | ⟨g', cap, cur, e1, hb1, hg1, r⟩
    · exact ⟨h.o.1, .inl ⟨e1, e2⟩⟩
    · rw [e] at e1
      cases e1
      exact ⟨h.o.1, .inr ⟨g, _, cur, e, hb1, (hk g hg.2 hgn).trans hg1, r⟩⟩
  · rcases hb with hb | ⟨g', hb, hb2⟩
    · exact h.sep (e'.trans hb)
    · rw [hgb, hb] at e'
      have := Option.some.inj e'
      omega
/-- The queue without its first. -/
theorem RS.tail {w : World} {base : Nat} {ov qv qv' : Value} {out q q' : List Int} (h : RS w base ov qv out q) (hq : QRow w base qv' q') (hb : qv'.ownBlock = qv.ownBlock) : RS w base ov qv' out q' := ⟨h.o, hq, by rw [hb]; exact h.sep⟩
def InT (T : Nat) (out : List Int) : Prop := Rising out ∧ ∀ z ∈ out, 0 ≤ z ∧ z < T
theorem InT.len {T : Nat} {out : List Int} (h : InT T out) : out.length ≤ T := rising_len h.1 h.2
theorem InT.put {T : Nat} {out : List Int} {y : Int} (h : InT T out) (hy : 0 ≤ y ∧ y < T) : InT T (putS out y) := ⟨putS_rising _ _ h.1, fun z hz => by
  rcases (putS_mem out y z).1 hz with rfl | hz
  · exact hy
  · exact h.2 z hz⟩
theorem putS_len1 : ∀ {l : List Int} {x : Int}, x ∉ l → (putS l x).length = l.length + 1
  | [], x, _ => rfl
  | y :: r, x, h => by
    unfold putS
    split
    · rw [List.length_cons, putS_len1 (fun hm => h (by simp [hm])), List.length_cons]
    · split
      · rename_i e; exact absurd (by simp [e]) h
      · rfl
def ReRelA (nx : Int → List Int) (x : Int) (T : Nat) (w : World) (ov qv : Value) (wr : World) : Prop :=
  ∃ out q : List Int, RS wr w.heap.size ov qv out q ∧ InT T out ∧ out ≠ [] ∧ (∀ s ∈ q, s ∈ out) ∧ q.length ≤ out.length ∧ BInv nx x (· ∈ out) (· ∈ q) ∧ Below w.heap.size w wr
def ReRelB (nx : Int → List Int) (x k : Int) (T : Nat) (w : World) (L : List Int) (lv : Value) (n0 m0 : Nat) (ov qv i : Value) (wr : World) : Prop :=
  ∃ (out q : List Int) (j : Nat), i = .int .i64 j ∧ j ≤ L.length ∧ RS wr w.heap.size ov qv out q ∧ RS wr w.heap.size lv qv L q ∧ InT T out ∧ out ≠ [] ∧ (∀ s ∈ q, s ∈ out) ∧ q.length + n0 = m0 + out.length ∧ q.length ≤ out.length ∧ k ∈ out ∧ (∀ z ∈ L.take j, z ∈ out) ∧ BInv nx x (· ∈ out) (fun s => s ∈ q ∨ s = k) ∧ Below w.heap.size w wr
theorem lenOf_own {w : World} {base n : Nat} {e : TypeId} {v : Value} {vs : List Value} (h : w.ownsRow base e 1 v n vs) : lenOf v = n := by
  obtain ⟨A, c, rfl⟩ := own_sl h
  rfl
theorem inT_i64 {T : Nat} {out : List Int} (h : InT T out) (hT : T ≤ 3000) : ∀ z ∈ out, I64 z := fun z hz => by have := h.2 z hz; unfold I64; omega
theorem RS.o_ints {w : World} {base T : Nat} {ov qv : Value} {out q : List Int} (h : RS w base ov qv out q) (hi : InT T out) (hT : T ≤ 3000) : IntsR w w.heap.size ov out := own_intsR h.o (inT_i64 hi hT)
/-- What the reference finds. -/
noncomputable def rcL (n : Net) (r d x : Int) : List Int := if scB n r d x = true then reachL (nextN n r d) x (prodI (cnts n r)).toNat else []
theorem rc_f {n : Net} {r d x : Int} (h : scB n r d x = false) : rcL n r d x = [] := if_neg (by rw [h]; simp)
theorem rc_t {n : Net} {r d x : Int} (h : scB n r d x = true) : rcL n r d x = reachL (nextN n r d) x (prodI (cnts n r)).toNat := if_pos h
theorem reach_fin {nx : Int → List Int} {x : Int} {T : Nat} {out : List Int} (hi : InT T out) (hb : BInv nx x (· ∈ out) (· ∈ ([] : List Int))) : out = reachL nx x T :=
  reachL_eq hi.1 fun z => ⟨fun hz => ⟨hi.2 z hz, (hb.fin (fun s hs => by cases hs) z).1 hz⟩, fun hz => (hb.fin (fun s hs => by cases hs) z).2 hz.2⟩
theorem take_all {L out : List Int} {j : Nat} (h : ∀ z ∈ L.take j, z ∈ out) (hj : L.length ≤ j) : ∀ z ∈ L, z ∈ out := by rwa [List.take_of_length_le hj] at h
theorem take_one {L out out' : List Int} {j : Nat} {s : Int} (h : ∀ z ∈ L.take j, z ∈ out) (hs : L[j]? = some s) (hi : ∀ z ∈ out, z ∈ out') (hn : s ∈ out') : ∀ z ∈ L.take (j + 1), z ∈ out' := fun z hz => by
  rw [List.take_add_one, hs, List.mem_append] at hz
  rcases hz with hz | hz
  · exact hi z (h z hz)
  · simp at hz; subst hz; exact hn
theorem boxA (w : World) (a : Value) (t : TypeId) : ∃ w0, w0 = w.alloc (.cells #[a] t) ∧ Below w.heap.size w w0 ∧ Hid (w0.heap[w.heap.size]? = some (.cells #[a] t (0, 0))) ∧ w.heap.size < w0.heap.size ∧ Hid (w0.heap.size = w.heap.size + 1) :=
  ⟨_, rfl, bl_alloc (Below.refl _ _) _, Lib.hid (heap_alloc_new w _), by simp, Lib.hid (by simp)⟩
theorem ownA {w : World} {base g : Nat} {x : Int} (h : w.heap[g]? = some (.cells #[.int .i64 x] 3 (0, 0))) (hb : base ≤ g) : w.ownsRow base 3 1 (.slice (some ⟨g, 0, none⟩) 1 1) [x].length ([x].map intV) :=
  ⟨by simp, .inr ⟨g, 1, _, rfl, hb, h, Nat.le_refl _, by unfold maxLen; omega, rfl, rfl⟩⟩
set_option maxRecDepth 100000 in
set_option maxHeartbeats 1000000 in
theorem spec_ReachableNumbers (ve vi vn : Value) (n : Net) (r d x : Int) (w : World) (h : NetR w w.heap.size ve vi vn n) (hz : n.es.length ≤ 2000000) :
    Calls Tryz.prog 37 #[.agg #[ve, vi, vn], .int .i64 r, .int .i64 d, .int .i64 x] w fun e w' => ∃ u, e = .returned (.tuple #[u, .bool (scB n r d x)]) ∧ (∃ A m c, u = .slice A m c) ∧ IntsR w' w'.heap.size u (rcL n r d x) ∧ Below w.heap.size w w' := by
  have HNB := Lib.hid (show scB n r d x = (dmB n r d && inB x 0 (capd (cnts n r) - 1)) from rfl)
  obtain ⟨⟨A0, m0, c0, rfl⟩, ⟨A1, m1, c1, rfl⟩, A2, m2, c2, rfl⟩ := h.slices
  obtain ⟨w0, hw0, hB, HD, hz0, HS0⟩ := box3 w (.slice A0 m0 c0) (.slice A1 m1 c1) (.slice A2 m2 c2) 31
  have HN0 := Lib.hid h; have HN := Lib.hid (h.up hB); clear h
  have HW0 := Lib.hid hw0; clear hw0
  obtain ⟨q0, q1, q2, qf⟩ := cells3 HD
  go_enter Tryz.func37, Tryz.ntmps37
  go_wp2_with fail
  rw [← HW0.out]
  refine (spec_cvDaemons _ _ _ n r d w0 HN.out hz).mono ?_
  rintro e w1 ⟨rfl, hb1⟩
  have hzhb1 := hb1.size
  clear q0 q1 q2 qf
  replace HD := bk HD hb1
  replace HN := Lib.hid (HN.out.up hb1)
  replace hB := bl_trans hB hb1
  obtain ⟨q0, q1, q2, qf⟩ := cells3 HD
  cases h1 : dmB n r d with
  | false =>
    have HF := Lib.hid (show scB n r d x = false by rw [HNB.out, h1]; rfl)
    go_wp2_with fail
    go_ret2
    exact ⟨_, ret2b HF.out.symm, ⟨_, _, _, rfl⟩, by rw [rc_f HF.out]; exact ints_nil _ _, hB⟩
  | true =>
    obtain ⟨hcv, hd, hd6⟩ := dm_cv h1
    have HC := Lib.hid hcv
    have HP := Lib.hid (cvB_net hcv)
    have HA := Lib.hid (show askP n r by unfold cvB at hcv; rw [Bool.and_eq_true] at hcv; exact propB_iff.1 hcv.1)
    have HD6 := Lib.hid hd6; clear hd6
    obtain ⟨hfew, hcap⟩ := few_of hcv
    have HFW := Lib.hid hfew
    have hcb : 1 ≤ capd (cnts n r) ∧ capd (cnts n r) ≤ 3001 := capd_bd fun y hy => (cnts_bd HP.out r y hy).1
    have hc3 : capd (cnts n r) ≤ 3000 := by rw [hcap]; exact hfew.2.1
    have HCAP := Lib.hid hcap
    clear hfew hcap hcv
    go_wp2_with fail
    refine (spec_cvCount _ _ _ n r w1 HN.out HP.out).mono ?_
    rintro e w2 ⟨rfl, hb2⟩
    have hzhb2 := hb2.size
    clear q0 q1 q2 qf
    replace HD := bk HD hb2
    replace HN := Lib.hid (HN.out.up hb2)
    replace hB := bl_trans hB hb2
    obtain ⟨q0, q1, q2, qf⟩ := cells3 HD
    obtain ⟨T, hT⟩ : ∃ T : Nat, capd (cnts n r) = T := ⟨(capd (cnts n r)).toNat, by omega⟩
    have HT0 := Lib.hid (show prodI (cnts n r) = T from HCAP.out.symm.trans hT)
    rw [hT] at HNB hc3 hcb ⊢
    clear hT
    cases h2 : inB x 0 ((T : Int) - 1) with
    | false =>
      have HF := Lib.hid (show scB n r d x = false by rw [HNB.out, h1, h2]; rfl)
      go_wp2_with (go_at_call 72; refine (spec_l1In _ _ _ _).mono ?_; rintro e w' ⟨rfl, rfl⟩)
      go_ret2
      exact ⟨_, ret2b HF.out.symm, ⟨_, _, _, rfl⟩, by rw [rc_f HF.out]; exact ints_nil _ _, hB⟩
    | true =>
      have HT := Lib.hid (show scB n r d x = true by rw [HNB.out, h1, h2]; rfl)
      have hx : 0 ≤ x ∧ x < T := by unfold inB at h2; have := of_decide_eq_true h2; omega
      have HNXB := Lib.hid (fun k (hk : 0 ≤ k) z (hz : z ∈ nextN n r d k) => show 0 ≤ z ∧ z < (T : Int) by have := nextN_bd HA.out HFW.out hk z hz; rw [HT0.out] at this; exact this)
      have HFIN := Lib.hid (show rcL n r d x = reachL (nextN n r d) x T by rw [rc_t HT.out, HT0.out]; rfl)
      have HNXR := Lib.hid (fun k => nextN_rising n r d k)
      go_wp2_with (go_at_call 72; refine (spec_l1In _ _ _ _).mono ?_; rintro e w' ⟨rfl, rfl⟩)
      refine (spec_ssCounts _ _ _ n r w2 HN.out HP.out).mono ?_
      rintro e w3 ⟨u, rfl, ⟨A', m', c', rfl⟩, hu, hb3⟩
      have HU := Lib.hid hu; clear hu
      have hzhb3 := hb3.size
      clear q0 q1 q2 qf
      replace HD := bk HD hb3
      replace HN := Lib.hid (HN.out.up hb3)
      replace hB := bl_trans hB hb3
      obtain ⟨q0, q1, q2, qf⟩ := cells3 HD
      obtain ⟨w4, hw4, hb4, HB4, hz4, HS4⟩ := boxA w3 (.int .i64 x) 3
      have HW4 := Lib.hid hw4; clear hw4
      obtain ⟨w5, hw5, hb5, HB5, hz5, HS5⟩ := boxA w4 (.int .i64 x) 3
      have HW5 := Lib.hid hw5; clear hw5
      have hrs : RS w5 w3.heap.size (.slice (some ⟨w3.heap.size, 0, none⟩) 1 1) (.slice (some ⟨w4.heap.size, 0, none⟩) 1 1) [x] [x] :=
        ⟨ownA (by exact (hb5.block _ (by omega)).trans HB4.out) (Nat.le_refl _), QRow.start HB5.out (by omega), fun e => by
          have e' : some w3.heap.size = some w4.heap.size := e
          have := Option.some.inj e'
          omega⟩
      go_wp2_with fail
      rw [← HW4.out, ← HW5.out]
      go_loopw [11, 12] (fun ov qv wr => ReRelA (nextN n r d) x T w3 ov qv wr) (fun ov qv wr => T + lenOf qv - lenOf ov)
      case atStart => exact ⟨[x], [x], by rw [← HS4.out]; exact hrs, ⟨List.pairwise_singleton _ _, fun z hz => by rw [List.mem_singleton] at hz; subst hz; exact hx⟩, by simp, fun s hs => hs, Nat.le_refl _, (BInv.start (nextN n r d) x).same (fun z => by simp) |>.open (fun z => by simp), bl_trans hb4 hb5⟩
      case round =>
        clear hrs
        obtain ⟨out, q, hrs, hin, hne, hqo, hql, hbi, hbl⟩ := hrel
        have hlen := hin.len
        have hlo := lenOf_own hrs.o
        have hlq := hrs.q.len
        have hzhbl := hbl.size
        clear q0 q1 q2 qf
        replace HD := bk HD hbl
        replace HN := Lib.hid (HN.out.up hbl)
        replace hB := bl_trans hB hbl
        obtain ⟨q0, q1, q2, qf⟩ := cells3 HD
        have HU4 := Lib.hid ((HU.out.below hbl).more hbl.size)
        have HRS := Lib.hid hrs
        have HIN := Lib.hid hin
        have HNE := Lib.hid hne
        have HQO := Lib.hid hqo
        have HBI := Lib.hid hbi
        clear hin hne hqo hbi
        obtain ⟨Ao, co, rfl⟩ := own_sl hrs.o
        cases q with
        | nil =>
          obtain ⟨gq, o, m, cap, cur, rfl, hm, -⟩ := hrs.q
          obtain rfl : m = 0 := by simpa using hm
          clear hm hrs
          have HF := Lib.hid (show IntsR wr wr.heap.size (.slice Ao out.length co) (rcL n r d x) by rw [HFIN.out, ← reach_fin HIN.out HBI.out]; exact HRS.out.o_ints HIN.out (by omega))
          go_wp2_with fail
          go_ret2
          exact ⟨_, ret2b HT.out.symm, ⟨_, _, _, rfl⟩, HF.out, hB⟩
        | cons k q =>
          obtain ⟨gq, o, m, cap, cur, rfl, hm, hgq, hcur, hmc, hcm, hoc, hcc⟩ := hrs.q
          have hcx : wr.cell? ⟨gq, o, none⟩ = some (.int .i64 k) := by rw [cell_of_row _ _ o _ _ (0, 0) hcur]; exact hcc 0 k rfl
          have hqt := QRow.tail hm hgq hcur hmc hcm hoc hcc
          have hm1 : 1 ≤ m := by simp at hm; omega
          have hsl := run_tail gq o m cap hm1
          have htb : (Value.slice (if cap = 1 then some ⟨gq, o, none⟩ else some ⟨gq, o + 1, none⟩) (m - 1) (cap - 1)).ownBlock = (Value.slice (some ⟨gq, o, none⟩) m cap).ownBlock := by split <;> rfl
          have hrt := hrs.tail hqt htb
          have hlm : m = q.length + 1 := by simpa using hm
          generalize Value.slice (if cap = 1 then some ⟨gq, o, none⟩ else some ⟨gq, o + 1, none⟩) (m - 1) (cap - 1) = v2 at hrt hsl
          have HRT := Lib.hid hrt
          have HLM := Lib.hid hlm
          clear hqt htb hrt hrs hcur hcc hm hoc hlm
          have hsa : ∀ W, (Instr.sliceAt 23 (.slice (some ⟨gq, o, none⟩) m cap) (some (.int .i64 1)) none none).run Tryz.prog W = .ok v2 W := fun W => (Go.run_sliceAt_slice (P := Tryz.prog) (w := W) 23 _ _ _ _ (by kernel_rfl)).trans (hsl W)
          unfold maxLen at hcm
          have hkT := HIN.out.2 k (HQO.out k (by simp))
          go_wp2_with fail
          refine wp_region_held_drew (S := fun w' => w'.cell? ⟨w.heap.size, 0, none⟩ = some (.slice A0 m0 c0) ∧ w'.cell? ⟨w.heap.size, 1, none⟩ = some (.slice A1 m1 c1) ∧ w'.cell? ⟨w.heap.size, 2, none⟩ = some (.slice A2 m2 c2) ∧ w'.cell? ⟨gq, o, none⟩ = some (.int .i64 k)) (by kernel_rfl) ?_ (fun hHeld => ?_)
          · go_keep
          refine tk 0 40 rfl rfl ?_
          try simp only [Act.put, pu]
          refine tk 1 41 rfl rfl ?_
          try simp only [Act.put, pu]
          refine tk 2 42 rfl rfl ?_
          try simp only [Act.put, pu]
          refine tk 3 43 rfl rfl ?_
          try simp only [Act.put, pu]
          refine tk 4 44 rfl rfl ?_
          try simp only [Act.put, pu]
          refine tk 5 45 rfl rfl ?_
          try simp only [Act.put, pu]
          refine tk 6 46 rfl rfl ?_
          try simp only [Act.put, pu]
          refine tr 7 rfl (by kernel_rfl) (fun K hK => ?_)
          go_simp
          go_at_call 74
          refine (spec_cvNext _ _ _ _ n r d k wr.drew (HN.out.up (Below.refl _ _).drew) HC.out HD6.out (HU4.out.below (Below.refl _ _).drew) hkT.1 (by omega)).mono ?_
          rintro e w6 ⟨lv, rfl, -, hu, how, hb6'⟩
          have hb6 : Below wr.heap.size wr w6 := (Below.refl _ _).drew.trans hb6'
          clear hb6'
          have hLi : InT T (nextN n r d k) := ⟨HNXR.out k, HNXB.out k hkT.1⟩
          have HLV := Lib.hid hu; clear hu
          have HOW := Lib.hid how; clear how
          have hzhb6 := hb6.size
          clear q0 q1 q2 qf
          replace HD := bk HD hb6
          replace HN := Lib.hid (HN.out.up hb6)
          replace hB := bl_trans hB hb6
          obtain ⟨q0, q1, q2, qf⟩ := cells3 HD
          replace hcx := (hb6.cell (p := ⟨gq, o, none⟩) (by exact HRS.out.q.blk.elim fun g hg => by obtain ⟨e1, -, e2⟩ := hg; cases e1; exact e2)).trans hcx
          refine hK.out _ _ ?_ (fun hHeld => ?_)
          · go_keep
          clear hK K
          try simp only [Act.put, pu]
          refine tk 8 13 rfl rfl ?_
          try simp only [Act.put, pu]
          refine wpAnyH_done (by kernel_rfl) ?_ _
          have hrw := hbl.size
          have HRL := Lib.hid (HRT.out.put hbl.size HOW.out hb6)
          have HRO := Lib.hid (HRT.out.below hb6)
          have HNK := Lib.hid (rfl : nextN n r d k = nextN n r d k)
          have HINL := Lib.hid hLi
          have hLT := hLi.len
          obtain ⟨L, hL⟩ : ∃ L, nextN n r d k = L := ⟨_, rfl⟩
          rw [hL] at HRL HINL HLV hLT
          clear HOW hLi HNK
          have HL := Lib.hid hL; clear hL
          obtain ⟨AL, cL, rfl, hLc, hLm, hLr⟩ := HLV.out.open_
          unfold maxLen at hLm
          clear hcx
          go_wp2_with fail
          clear hsl hsa
          go_loopw [11, 12, 15, 52] (fun ov qv _ i wr' => ReRelB (nextN n r d) x k T w3 L (.slice AL L.length cL) out.length q.length ov qv i wr') (fun _ _ _ i _ => L.length - (intOf i).toNat)
          case atStart => exact ⟨out, q, 0, rfl, Nat.zero_le _, HRO.out, HRL.out, HIN.out, HNE.out, fun s hs => HQO.out s (by simp [hs]), by omega, by simp at hql; omega, HQO.out k (by simp), fun z hz => by simp at hz, HBI.out.open fun z hz => (List.mem_cons.1 hz).symm, bl_trans hbl hb6⟩
          case round =>
            obtain ⟨out2, q2', j, rfl, hj, hrs, hrl, hin2, hne2, hqo2, hnum, hql2, hko, htk, hbi2, hbl2⟩ := hrel
            have hlen2 := hin2.len
            have hz2 := hbl2.size
            have HRS2 := Lib.hid hrs
            have HRL2 := Lib.hid hrl
            have HIN2 := Lib.hid hin2
            have HNE2 := Lib.hid hne2
            have HQO2 := Lib.hid hqo2
            have HKO2 := Lib.hid hko
            have HTK2 := Lib.hid htk
            have HBI2 := Lib.hid hbi2
            have HBL2 := Lib.hid hbl2
            clear hin2 hne2 hqo2 hko htk hbi2 q0 q1 q2 qf
            have HIO := Lib.hid (hrs.o_ints HIN2.out (by omega))
            have hlo2 := lenOf_own hrs.o
            have hlq2 := hrs.q.len
            by_cases hlt : j < L.length
            · obtain ⟨s, hs⟩ : ∃ s, L[j]? = some s := ⟨_, List.getElem?_eq_getElem hlt⟩
              obtain ⟨ad, rfl, -, -⟩ := hLr (by omega)
              clear hLr
              have hLI := hrl.o_ints HINL.out (by omega)
              obtain ⟨A9, c9, e9, -, -, h9⟩ := hLI.open_
              obtain ⟨ad9, e9', -, h9⟩ := h9 (by omega)
              cases e9
              cases e9'
              have hcell := h9 j s hs
              have hsL : s ∈ L := List.mem_of_getElem? hs
              have HSN := Lib.hid (show s ∈ nextN n r d k by rw [HL.out]; exact hsL)
              have hsT := HINL.out.2 s hsL
              have HS := Lib.hid hs
              have hLne : L ≠ [] := fun e => by rw [e] at hlt; simp at hlt
              have HLNE := Lib.hid hLne
              clear h9 hLI hs hsL hLne hrs hrl hlo2 hlq2
              by_cases hm : s ∈ out2
              · have HM := Lib.hid hm
                have kq := hasB_t hm
                clear hm
                go_wp2_with (go_at_call 83; refine (spec_l1Has _ out2 s _ HIO.out).mono ?_; rintro e w' ⟨rfl, rfl⟩; rw [kq])
                go_roundw
                case rel => exact ⟨out2, q2', j + 1, by go_num, by omega, HRS2.out, HRL2.out, HIN2.out, HNE2.out, HQO2.out, hnum, hql2, HKO2.out, take_one HTK2.out HS.out (fun z h => h) HM.out, HBI2.out, HBL2.out⟩
                case measure => simp [intOf]; omega
              · have HM := Lib.hid hm
                have kq := hasB_f hm
                clear hm
                go_wp2_with (go_at_call 83; refine (spec_l1Has _ out2 s _ HIO.out).mono ?_; rintro e w' ⟨rfl, rfl⟩; rw [kq])
                refine (spec_l1Put _ out2 s _ HIO.out (by omega) (by unfold I64; omega) (fun e => absurd e HNE2.out)).mono ?_
                rintro e w7 ⟨u, rfl, ⟨A7, m7, c7, rfl⟩, hu, hso, hb7⟩
                have hz7 := hb7.size
                have HRS7 := Lib.hid (HRS2.out.put hz2 (hso.resolve_left fun h => HM.out h.2) hb7)
                have HRL7 := Lib.hid (HRL2.out.below hb7)
                clear hso hu
                obtain ⟨w8, hw8, hb8, HB8, hz8, -⟩ := boxA w7 (.int .i64 s) 3
                have HRS8 := Lib.hid (HRS7.out.below hb8)
                have HRL8 := Lib.hid (HRL7.out.below hb8)
                have HC8 := Lib.hid (show w8.cell? ⟨w7.heap.size, 0, none⟩ = some (.int .i64 s) from cell_of_row _ _ 0 _ _ (0, 0) HB8.out)
                have HZ8 := Lib.hid hz8
                have HBB8 := Lib.hid hb8
                clear hb8 hz8 HRS7 HRL7 HB8
                subst hw8
                go_wp2_with ((at_builtin; refine wpList_append_q2 rfl (.tmp 63) (.tmp 65) rfl rfl HRS8.out.q w7.heap.size s rfl HC8.out (by omega) (by have := HZ8.out; omega) ?_; intro v' w' hq'' hb'' hk'' hbk''))
                go_roundw
                case rel =>
                  have hl1 := putS_len1 HM.out
                  exact ⟨putS out2 s, q2' ++ [s], j + 1, by go_num, by omega, HRS8.out.push hq'' hb''.size hk'' hbk'' (putS_ne _ _), HRL8.out.push hq'' hb''.size hk'' hbk'' HLNE.out, HIN2.out.put hsT, putS_ne _ _,
                    fun z hz => (putS_mem _ _ _).2 ((List.mem_append.1 hz).symm.imp (fun h => by simpa using h) (HQO2.out z)), by rw [List.length_append, hl1]; simp; omega, by rw [List.length_append, hl1]; simp; omega, (putS_mem _ _ _).2 (.inr HKO2.out), take_one HTK2.out HS.out (fun z h => (putS_mem _ _ _).2 (.inr h)) ((putS_mem _ _ _).2 (.inl rfl)),
                    ((HBI2.out.add HKO2.out HSN.out).same fun z => (putS_mem out2 s z).symm).open fun z h => by simp only [List.mem_append, List.mem_singleton]; rcases h with h | h | h <;> simp [h],
                    (HBL2.out.trans (hb7.mono hz2)).trans ((HBB8.out.mono (by omega)).trans hb'')⟩
                case measure => simp [intOf]; omega
            · go_wp2_with fail
              refine ⟨⟨out2, q2', HRS2.out, HIN2.out, HNE2.out, HQO2.out, hql2, HBI2.out.close (fun z h => h) (by rw [HL.out]; exact take_all HTK2.out (by omega)), HBL2.out⟩, ?_⟩
              have := HLM.out
              rw [hlo2, hlq2]
              show T + q2'.length - out2.length < T + m - out.length
              omega
end
section
open Go.RowKit
set_option linter.unusedVariables false
set_option linter.unusedSimpArgs false
theorem boolInf : (Tryz.prog.info? 4).map (fun i => (i.zero, i.size, i.bytes)) = some (some (.bool false), 1, 1) := by kernel_rfl
/-- A row of truths in a block. -/
def BitsAt (w : World) (g : Nat) (d : List Bool) : Prop := w.heap[g]? = some (.cells (d.map Value.bool).toArray 4 (0, 0))
theorem BitsAt.cell {w : World} {g : Nat} {d : List Bool} (h : BitsAt w g d) {i : Nat} {x : Bool} (hx : d[i]? = some x) : w.cell? ⟨g, i, none⟩ = some (.bool x) := by
  rw [cell_of_row _ _ i _ _ (0, 0) h, ← Array.getElem?_toList]
  simp [hx]
theorem BitsAt.frozen {w : World} {g : Nat} {d : List Bool} (h : BitsAt w g d) (i : Nat) : w.frozen? ⟨g, i, none⟩ = false := frozen_of_row _ _ i _ _ h
theorem BitsAt.set {w : World} {g : Nat} {d : List Bool} (h : BitsAt w g d) (i : Nat) (x : Bool) : BitsAt (w.setCell ⟨g, i, none⟩ (.bool x)) g (d.set i x) := by
  unfold BitsAt
  rw [heap_set_same h]
  simp [List.map_set]
theorem BitsAt.keep {w w' : World} {g : Nat} {d : List Bool} (h : BitsAt w g d) (hk : w'.heap[g]? = w.heap[g]?) : BitsAt w' g d := hk.trans h
theorem BitsAt.lt {w : World} {g : Nat} {d : List Bool} (h : BitsAt w g d) : g < w.heap.size := (Array.getElem?_eq_some_iff.1 h).1
def offs (d : List Bool) : Nat := d.countP (! ·)
def offAt (w : World) (g : Nat) : Nat := match w.heap[g]? with | some (.cells c _ _) => c.toList.countP (fun v => match v with | .bool false => true | _ => false) | _ => 0
theorem offAt_eq {w : World} {g : Nat} {d : List Bool} (h : BitsAt w g d) : offAt w g = offs d := by
  unfold offAt offs
  rw [show w.heap[g]? = _ from h]
  simp only [List.countP_map]
  refine List.countP_congr fun x _ => ?_
  cases x <;> simp
theorem offs_set : ∀ {d : List Bool} {j : Nat}, d[j]? = some false → offs (d.set j true) + 1 = offs d
  | a :: r, 0, h => by
    simp only [List.getElem?_cons_zero, Option.some.injEq] at h
    subst h
    simp [offs]
  | a :: r, j + 1, h => by
    have := offs_set (d := r) (j := j) (by simpa using h)
    unfold offs at this ⊢
    simp only [List.set_cons_succ, List.countP_cons]
    omega
def InB (d : List Bool) (z : Int) : Prop := 0 ≤ z ∧ d[z.toNat]? = some true
theorem InB.set {d : List Bool} {j : Nat} (hj : j < d.length) (z : Int) : InB (d.set j true) z ↔ z = (j : Int) ∨ InB d z := by
  unfold InB
  rw [List.getElem?_set]
  by_cases e : j = z.toNat
  · rw [if_pos e, if_pos (by omega)]
    constructor
    · rintro ⟨h, -⟩; exact .inl (by omega)
    · rintro (h | h)
      · exact ⟨by omega, rfl⟩
      · exact ⟨h.1, rfl⟩
  · rw [if_neg e]
    constructor
    · exact fun h => .inr h
    · rintro (h | h)
      · exact absurd h (by omega)
      · exact h
theorem InB.lt {d : List Bool} {z : Int} (h : InB d z) : 0 ≤ z ∧ z < d.length := ⟨h.1, by have := (List.getElem?_eq_some_iff.1 h.2).1; omega⟩
def notIn (d : List Bool) (z : Int) : Bool := !(d.getD z.toNat false)
theorem kept_reach {nx : Int → List Int} {x : Int} {T : Nat} {d : List Bool} (hd : d.length = T) (hb : BInv nx x (InB d) (· ∈ ([] : List Int))) : (numsL T).filter (keepP (notIn d)) = reachL nx x T := by
  refine reachL_eq ?_ fun z => ?_
  · unfold numsL Rising
    refine List.Pairwise.filter _ (List.Pairwise.map _ (R := fun a b : Nat => a < b) (fun a b hab => by omega) List.pairwise_lt_range)
  · have hf := hb.fin (fun s hs => by cases hs) z
    rw [← hf, List.mem_filter]
    unfold keepP notIn numsL InB
    constructor
    · rintro ⟨h1, h2⟩
      obtain ⟨k, hk, rfl⟩ := List.mem_map.1 h1
      have hk := List.mem_range.1 hk
      refine ⟨by omega, by omega, ?_⟩
      rw [Bool.not_not, List.getD_eq_getElem?_getD, List.getElem?_eq_getElem (by omega)] at h2
      rw [List.getElem?_eq_getElem (by omega)]
      exact congrArg some (by simpa using h2)
    · rintro ⟨h1, h2, h3⟩
      refine ⟨List.mem_map.2 ⟨z.toNat, List.mem_range.2 (by omega), by omega⟩, ?_⟩
      rw [Bool.not_not, List.getD_eq_getElem?_getD, h3]
      rfl
theorem RS.keep {w w' : World} {base : Nat} {ov qv : Value} {out q : List Int} (h : RS w base ov qv out q) (hs : w.heap.size ≤ w'.heap.size) (hk : ∀ b, base ≤ b → b < w.heap.size → w'.heap[b]? = w.heap[b]?) : RS w' base ov qv out q :=
  ⟨own_keep4 h.o hs hk, h.q.keep hk, h.sep⟩
set_option maxRecDepth 100000 in
theorem closure_rc (P g T : Nat) (d : List Bool) (w : World) (hp : w.cell? ⟨P, 0, none⟩ = some (.slice (some ⟨g, 0, none⟩) T T)) (hg : BitsAt w g d) (hd : d.length = T) (k : Nat) (hk : k < T) (hT : T ≤ 3000) :
    Calls Tryz.prog 85 #[.int .i64 (k : Int), .pointer (some ⟨P, 0, none⟩)] w fun e w' => e = .returned (.bool (notIn d k)) ∧ Below w.heap.size w w' := by
  obtain ⟨b, hb⟩ : ∃ b, d[k]? = some b := ⟨_, List.getElem?_eq_getElem (by omega)⟩
  have hc := hg.cell hb
  have HR := Lib.hid (show (!b) = notIn d k by unfold notIn; rw [List.getD_eq_getElem?_getD, Int.toNat_natCast, hb]; rfl)
  clear hg hb hd
  go_enter Tryz.func85, Tryz.ntmps85
  go_wp2_with fail
  go_ret
  exact ⟨ret_bool HR.out, Below.refl _ _⟩
def QqRel (nx : Int → List Int) (x : Int) (T : Nat) (w : World) (v : Value) (wr : World) : Prop :=
  ∃ (d : List Bool) (q : List Int), d.length = T ∧ BitsAt wr w.heap.size d ∧ Hid (wr.heap[w.heap.size + 1]? = some (.cells #[.slice (some ⟨w.heap.size, 0, none⟩) T T] 102 (0, 0))) ∧ QRow wr (w.heap.size + 2) v q ∧ (∀ s ∈ q, InB d s) ∧ q.length + offs d ≤ T ∧ BInv nx x (InB d) (· ∈ q) ∧ Below w.heap.size w wr
def QxRel (nx : Int → List Int) (x k : Int) (T : Nat) (w : World) (L : List Int) (lv : Value) (m0 f0 : Nat) (v i : Value) (wr : World) : Prop :=
  ∃ (d : List Bool) (q : List Int) (j : Nat), i = .int .i64 j ∧ j ≤ L.length ∧ d.length = T ∧ BitsAt wr w.heap.size d ∧ Hid (wr.heap[w.heap.size + 1]? = some (.cells #[.slice (some ⟨w.heap.size, 0, none⟩) T T] 102 (0, 0))) ∧ RS wr (w.heap.size + 2) lv v L q ∧ (∀ s ∈ q, InB d s) ∧ q.length + offs d = m0 + f0 ∧ InB d k ∧ (∀ z ∈ L.take j, InB d z) ∧ BInv nx x (InB d) (fun s => s ∈ q ∨ s = k) ∧ Below w.heap.size w wr
def RcPost (n : Net) (r d x : Int) (w : World) (e : Ending) (w' : World) : Prop :=
  ∃ u, e = .returned (.tuple #[u, .bool (scB n r d x)]) ∧ (∃ A m c, u = .slice A m c) ∧ IntsR w' w'.heap.size u (rcL n r d x) ∧ w'.ownsRow w.heap.size 3 1 u (rcL n r d x).length ((rcL n r d x).map intV) ∧ Below w.heap.size w w'
set_option maxRecDepth 100000 in
set_option maxHeartbeats 1000000 in
theorem impl_ReachableNumbers (ve vi vn : Value) (n : Net) (r d x : Int) (w : World) (h : NetR w w.heap.size ve vi vn n) (hz : n.es.length ≤ 2000000) (hzi : n.ids.length ≤ 2000000) :
    Calls Tryz.prog 38 #[.agg #[ve, vi, vn], .int .i64 r, .int .i64 d, .int .i64 x] w (RcPost n r d x w) := by
  obtain ⟨⟨A0, m0, c0, rfl⟩, ⟨A1, m1, c1, rfl⟩, A2, m2, c2, rfl⟩ := h.slices
  obtain ⟨w0, hw0, hB, HD, hz0, HS0⟩ := box3 w (.slice A0 m0 c0) (.slice A1 m1 c1) (.slice A2 m2 c2) 31
  have HN0 := Lib.hid h; have HN := Lib.hid (h.up hB); clear h
  have HW0 := Lib.hid hw0; clear hw0
  obtain ⟨q0, q1, q2, qf⟩ := cells3 HD
  go_enter Tryz.func38, Tryz.ntmps38
  go_wp2_with fail
  rw [← HW0.out]
  refine (impl_newExplorerD _ _ _ n r d w0 HN.out hz hzi).mono ?_
  rintro e w1 ⟨hb1, hx⟩
  have hzhb1 := hb1.size
  clear q0 q1 q2 qf
  replace HD := bk HD hb1
  replace HN := Lib.hid (HN.out.up hb1)
  replace hB := bl_trans hB hb1
  obtain ⟨q0, q1, q2, qf⟩ := cells3 HD
  rcases hx with ⟨h1, rfl⟩ | ⟨h1, G, rfl, A', m', c', a, b, hE, hG, hU⟩
  · have HF := Lib.hid (show scB n r d x = false by unfold scB; rw [dm_no h1]; rfl)
    go_wp2_with fail
    go_ret2
    exact ⟨_, ret2b HF.out.symm, ⟨_, _, _, rfl⟩, by rw [rc_f HF.out]; exact ints_nil _ _, by rw [rc_f HF.out]; exact World.ownsRow_nil _ _ _ _, hB⟩
  · have HC := Lib.hid (dm_pos h1)
    have hGl : G < w1.heap.size := (Array.getElem?_eq_some_iff.1 hE).1
    have g0 : w1.cell? ⟨G, 0, none⟩ = some (.slice A0 m0 c0) := cell_of_row _ _ 0 _ _ (0, 0) hE
    have g1 : w1.cell? ⟨G, 1, none⟩ = some (.slice A1 m1 c1) := cell_of_row _ _ 1 _ _ (0, 0) hE
    have g2 : w1.cell? ⟨G, 2, none⟩ = some (.slice A2 m2 c2) := cell_of_row _ _ 2 _ _ (0, 0) hE
    have g3 : w1.cell? ⟨G, 3, none⟩ = some (.int .i64 r) := cell_of_row _ _ 3 _ _ (0, 0) hE
    have g4 : w1.cell? ⟨G, 4, none⟩ = some (.int .i64 d) := cell_of_row _ _ 4 _ _ (0, 0) hE
    have g5 : w1.cell? ⟨G, 5, none⟩ = some (.slice A' m' c') := cell_of_row _ _ 5 _ _ (0, 0) hE
    have g6 : w1.cell? ⟨G, 6, none⟩ = some (.int .i64 (sitG (cnts n r) 1)) := cell_of_row _ _ 6 _ _ (0, 0) hE
    have HU := Lib.hid hU; clear hU
    cases h2 : decide (0 < sitG (cnts n r) 1) with
    | false =>
      have HF := Lib.hid (show scB n r d x = false by unfold scB; rw [HC.out, h2]; rfl)
      go_wp2_with fail
      go_ret2
      exact ⟨_, ret2b HF.out.symm, ⟨_, _, _, rfl⟩, by rw [rc_f HF.out]; exact ints_nil _ _, by rw [rc_f HF.out]; exact World.ownsRow_nil _ _ _ _, hB⟩
    | true =>
      have hdm : dmB n r d = true := by rw [HC.out, h2]
      obtain ⟨hcv, -, hd6⟩ := dm_cv hdm
      obtain ⟨hfew, hcap⟩ := few_of hcv
      have hcs : sitG (cnts n r) 1 = capd (cnts n r) := by rw [← ct_sit hcv, ctN_t hcv]
      have hsg : sitG (cnts n r) 1 ≤ 3000 := by rw [hcs, hcap]; exact hfew.2.1
      have HS := Lib.hid (sc_cv (x := x) hdm)
      have HCV := Lib.hid hcv
      have HFW := Lib.hid hfew
      have HA := Lib.hid (show askP n r by unfold cvB at hcv; rw [Bool.and_eq_true] at hcv; exact propB_iff.1 hcv.1)
      have HD6 := Lib.hid hd6
      have hsp := of_decide_eq_true h2
      have HPR := Lib.hid (show sitG (cnts n r) 1 = prodI (cnts n r) from hcs.trans hcap)
      clear hfew hcap hcv hd6 hdm hcs
      obtain ⟨T, hT⟩ : ∃ T : Nat, sitG (cnts n r) 1 = T := ⟨(sitG (cnts n r) 1).toNat, by omega⟩
      rw [hT] at g6 hsg hsp HS HPR hE
      clear hT HC
      have HE := Lib.hid hE; clear hE
      have hwr : IntKind.i64.wrap ((T : Int) - 1) = T - 1 := IntWalk.i64_in _ (by omega)
      cases h3 : inB x 0 ((T : Int) - 1) with
      | false =>
        have HF := Lib.hid (show scB n r d x = false by rw [HS.out, h3])
        go_wp2_with (go_at_call 75; refine (impl_within _ _ _ _).mono ?_; rintro e w' ⟨rfl, rfl⟩)
        go_ret2
        exact ⟨_, ret2b HF.out.symm, ⟨_, _, _, rfl⟩, by rw [rc_f HF.out]; exact ints_nil _ _, by rw [rc_f HF.out]; exact World.ownsRow_nil _ _ _ _, hB⟩
      | true =>
        have HT := Lib.hid (show scB n r d x = true by rw [HS.out, h3])
        have HFIN := Lib.hid (show rcL n r d x = reachL (nextN n r d) x T by rw [rc_t HT.out, ← HPR.out]; rfl)
        have hx : 0 ≤ x ∧ x < T := by unfold inB at h3; have := of_decide_eq_true h3; omega
        obtain ⟨xn, rfl⟩ : ∃ xn : Nat, x = xn := ⟨x.toNat, by omega⟩
        have hmk := fun W => run_make1 (P := Tryz.prog) 102 4 (.bool false) 1 Tryz.underlying102 boolInf rfl T (by omega) (by omega) W
        have HR0 := Lib.hid (show rowOf [] T (.bool false) = ((List.replicate T false).map Value.bool).toArray by simp [rowOf])
        have hR1 : (rowOf [] T (.bool false))[xn]? = some (.bool false) := by rw [HR0.out, List.getElem?_toArray, List.getElem?_map, List.getElem?_replicate, if_pos (by omega)]; rfl
        generalize rowOf [] T (.bool false) = R at *
        have HNXB := Lib.hid (fun k (hk : 0 ≤ k) z (hz : z ∈ nextN n r d k) => show 0 ≤ z ∧ z < (T : Int) by have := nextN_bd HA.out HFW.out hk z hz; rw [← HPR.out] at this; exact this)
        have HNXR := Lib.hid (fun k => nextN_rising n r d k)
        obtain ⟨d0, hd0⟩ : ∃ d0, d0 = (List.replicate T false).set xn true := ⟨_, rfl⟩
        have hdl : d0.length = T := by rw [hd0]; simp
        have hdb : R.setIfInBounds xn (.bool true) = (d0.map Value.bool).toArray := by rw [HR0.out, hd0, List.setIfInBounds_toArray, List.map_set]
        have hdo : offs d0 + 1 = T := by rw [hd0, offs_set (by rw [List.getElem?_replicate, if_pos (by omega)])]; unfold offs; rw [List.countP_replicate]; simp
        have hdi : ∀ z, InB d0 z ↔ z = (xn : Int) := fun z => by
          rw [hd0, InB.set (by simp; omega)]
          refine ⟨fun h => h.resolve_right fun h => ?_, .inl⟩
          have h2 := h.2
          rw [List.getElem?_replicate] at h2
          split at h2 <;> simp at h2
        clear hd0
        obtain ⟨w2, hw2⟩ : ∃ z, z = ((w1.alloc (.cells (R.setIfInBounds xn (.bool true)) 4)).alloc (.cells #[.slice (some ⟨w1.heap.size, 0, none⟩) T T] 102)).alloc (.cells #[.int .i64 (xn : Int)] 3) := ⟨_, rfl⟩
        have hbA : BitsAt (w1.alloc (.cells (R.setIfInBounds xn (.bool true)) 4)) w1.heap.size d0 := by rw [hdb]; exact heap_alloc_new w1 _
        have hz2 : w2.heap.size = w1.heap.size + 1 + 1 + 1 := by rw [hw2]; simp
        have hQ2 : QqRel (nextN n r d) xn T w1 (.slice (some ⟨w1.heap.size + 1 + 1, 0, none⟩) 1 1) w2 := by
          refine ⟨d0, [(xn : Int)], hdl, ?_, Lib.hid ?_, ?_, fun s hs => by rw [List.mem_singleton] at hs; rw [hs]; exact (hdi _).2 rfl, by simp only [List.length_singleton]; omega, ((BInv.start (nextN n r d) xn).same fun z => (hdi z).symm).open fun z h => by simp [h], ?_⟩
          · rw [hw2]
            exact (hbA.keep ((bl_alloc (Below.refl _ _) _).block _ (by simp))).keep ((bl_alloc (Below.refl _ _) _).block _ (by simp; omega))
          · rw [hw2]
            refine Eq.trans ((bl_alloc (Below.refl _ _) _).block _ (by simp)) ?_
            have := heap_alloc_new (w1.alloc (.cells (R.setIfInBounds xn (.bool true)) 4)) (.cells #[.slice (some ⟨w1.heap.size, 0, none⟩) T T] 102)
            simpa using this
          · refine QRow.start ?_ (Nat.le_refl _)
            rw [hw2]
            have := heap_alloc_new ((w1.alloc (.cells (R.setIfInBounds xn (.bool true)) 4)).alloc (.cells #[.slice (some ⟨w1.heap.size, 0, none⟩) T T] 102)) (.cells #[.int .i64 (xn : Int)] 3)
            simpa using this
          · rw [hw2]
            exact bl_trans (bl_trans (bl_alloc (Below.refl _ _) _) (bl_alloc (Below.refl _ _) _)) (bl_alloc (Below.refl _ _) _)
        have HW2 := Lib.hid hw2
        have HQ2 := Lib.hid hQ2
        clear hw2 hQ2 hdl hdb hdo hdi hbA
        go_wp2_with (go_at_call 75; refine (impl_within _ _ _ _).mono ?_; rintro e w' ⟨rfl, rfl⟩)
        rw [← HW2.out]
        clear hmk hR1 g0 g1 g2 g3 g4 g5 g6
        go_loopw [13] (fun v wr => QqRel (nextN n r d) xn T w1 v wr) (fun v wr => offAt wr w1.heap.size + lenOf v)
        case atStart => exact HQ2.out
        case round =>
          obtain ⟨dd, q, hdl, hda, hbx, hq, hqi, hqn, hbi, hbl⟩ := hrel
          have hlq := hq.len
          have hld := offAt_eq hda
          have hrow0 := HN.out
          have hzhbl := hbl.size
          clear q0 q1 q2 qf
          replace HD := bk HD hbl
          replace HN := Lib.hid (HN.out.up hbl)
          replace hB := bl_trans hB hbl
          obtain ⟨q0, q1, q2, qf⟩ := cells3 HD
          have HU3 := Lib.hid ((HU.out.below hbl).more hbl.size)
          have HE3 := bk HE hbl
          have HDA := Lib.hid hda
          have HBX := hbx
          have HQI := Lib.hid hqi
          have HBI := Lib.hid hbi
          have HDL := Lib.hid hdl
          have hp : wr.cell? ⟨w1.heap.size + 1, 0, none⟩ = some (.slice (some ⟨w1.heap.size, 0, none⟩) T T) := cell_of_row _ _ 0 _ _ (0, 0) HBX.out
          have hBs := hB.size
          clear hda hbx hqi hbi hdl hrow0
          cases q with
          | nil =>
            obtain ⟨gq, o, m, cap, cur, rfl, hm, -⟩ := hq
            obtain rfl : m = 0 := by simpa using hm
            have hg6 : wr.cell? ⟨G, 6, none⟩ = some (.int .i64 (T : Int)) := cell_of_row _ _ 6 _ _ (0, 0) HE3.out
            have HKR := Lib.hid (kept_reach HDL.out HBI.out)
            have HTL := Lib.hid (show Tells 85 #[.pointer (some ⟨w1.heap.size + 1, 0, none⟩)] (notIn dd) (numsL T) wr.heap.size wr from fun W y hy hb => by
              unfold numsL at hy
              obtain ⟨k, hk, rfl⟩ := List.mem_map.1 hy
              have hk := List.mem_range.1 hk
              exact closure_rc (w1.heap.size + 1) w1.heap.size T dd W ((hb.cell (p := ⟨w1.heap.size + 1, 0, none⟩) (World.block_lt_of_cell? _ _ hp)).trans hp) (HDA.out.keep (hb.block _ HDA.out.lt)) HDL.out k hk (by omega))
            clear hm hld hlq hp
            go_wp2_with fail
            refine (impl_numbersTo T wr (by omega)).mono ?_
            rintro e w3 ⟨rfl, hw3⟩
            have hb3 : Below wr.heap.size wr w3 := by rw [hw3]; exact bl_alloc (Below.refl _ _) _
            have hrow : w3.heap[wr.heap.size]? = some (.cells ((numsL T).map intV).toArray 3 (0, 0)) := by rw [hw3]; exact heap_alloc_new wr _
            have hx64 : ∀ x ∈ numsL T, I64 x := fun x hx => by
              unfold numsL at hx
              obtain ⟨k, hk, rfl⟩ := List.mem_map.1 hx
              have hk := List.mem_range.1 hk
              unfold I64
              omega
            have J := delete_ints 85 #[.pointer (some ⟨w1.heap.size + 1, 0, none⟩)] (enters_of Tryz.func85 (by kernel_rfl) rfl) (notIn dd) wr.heap.size (numsL T) w3 wr.heap.size (Nat.le_refl _) hrow hx64 (by rw [numsL_len]; omega) (HTL.out.mono hb3)
            rw [numsL_len] at J
            have HJ := Lib.hid J
            clear J hrow hw3 hx64 hg6 q0 q1 q2 qf
            go_wp2_with fail
            refine HJ.out.mono ?_
            rintro e w4 ⟨rfl, hr4, hb4⟩
            unfold delRow at hr4
            rw [HKR.out, numsL_len] at hr4
            rw [HKR.out, numsL_len]
            have hrl : (reachL (nextN n r d) (xn : Int) T).length ≤ T := rising_len (reachL_rising _ _ _) fun z hz => (reachL_mem.1 hz).1
            have hown : w4.ownsRow wr.heap.size 3 1 (.slice (some ⟨wr.heap.size, 0, none⟩) (reachL (nextN n r d) (xn : Int) T).length T) (reachL (nextN n r d) (xn : Int) T).length ((reachL (nextN n r d) (xn : Int) T).map intV) := by
              refine ⟨by simp, .inr ⟨wr.heap.size, T, _, rfl, Nat.le_refl _, hr4, hrl, by unfold maxLen; omega, by simp; omega, ?_⟩⟩
              rw [Nat.mul_one, List.map_append]
              exact List.take_left' (by simp)
            have HO := Lib.hid hown
            have hR64 : ∀ z ∈ reachL (nextN n r d) (xn : Int) T, I64 z := fun z hz => by have := (reachL_mem.1 hz).1; unfold I64; omega
            have HI := Lib.hid (own_intsR hown hR64)
            have HBF := Lib.hid (hB.trans ((hb3.trans hb4).mono hBs))
            clear hown hR64 hr4 hrl
            go_wp2_with fail
            go_ret2
            exact ⟨_, ret2b HT.out.symm, ⟨_, _, _, rfl⟩, by rw [HFIN.out]; exact HI.out, by rw [HFIN.out]; exact own_mono HO.out hBs, HBF.out⟩
          | cons k q =>
            obtain ⟨gq, o, m, cap, cur, rfl, hm, hgq, hcur, hmc, hcm, hoc, hcc⟩ := hq
            have hcx : wr.cell? ⟨gq, o, none⟩ = some (.int .i64 k) := by rw [cell_of_row _ _ o _ _ (0, 0) hcur]; exact hcc 0 k rfl
            have hqt := QRow.tail hm hgq hcur hmc hcm hoc hcc
            have hm1 : 1 ≤ m := by simp at hm; omega
            have hsl := run_tail gq o m cap hm1
            have hlm : m = q.length + 1 := by simpa using hm
            generalize Value.slice (if cap = 1 then some ⟨gq, o, none⟩ else some ⟨gq, o + 1, none⟩) (m - 1) (cap - 1) = v2 at hqt hsl
            have HQT := Lib.hid hqt
            have HLM := Lib.hid hlm
            have hqn2 : q.length + 1 + offs dd ≤ T := by simpa using hqn
            clear hqt hcur hcc hm hoc hlm hqn
            have hsa : ∀ W, (Instr.sliceAt 23 (.slice (some ⟨gq, o, none⟩) m cap) (some (.int .i64 1)) none none).run Tryz.prog W = .ok v2 W := fun W => (Go.run_sliceAt_slice (P := Tryz.prog) (w := W) 23 _ _ _ _ (by kernel_rfl)).trans (hsl W)
            unfold maxLen at hcm
            have hkT := (HQI.out k (by simp)).lt
            rw [HDL.out] at hkT
            clear hp
            go_wp2_with fail
            clear hcx hsl hsa
            have g0 : wr.cell? ⟨G, 0, none⟩ = some (.slice A0 m0 c0) := cell_of_row _ _ 0 _ _ (0, 0) HE3.out
            have g1 : wr.cell? ⟨G, 1, none⟩ = some (.slice A1 m1 c1) := cell_of_row _ _ 1 _ _ (0, 0) HE3.out
            have g2 : wr.cell? ⟨G, 2, none⟩ = some (.slice A2 m2 c2) := cell_of_row _ _ 2 _ _ (0, 0) HE3.out
            have g3 : wr.cell? ⟨G, 3, none⟩ = some (.int .i64 r) := cell_of_row _ _ 3 _ _ (0, 0) HE3.out
            have g4 : wr.cell? ⟨G, 4, none⟩ = some (.int .i64 d) := cell_of_row _ _ 4 _ _ (0, 0) HE3.out
            have g5 : wr.cell? ⟨G, 5, none⟩ = some (.slice A' m' c') := cell_of_row _ _ 5 _ _ (0, 0) HE3.out
            refine (impl_successors G A0 A1 A2 A' m0 c0 m1 c1 m2 c2 m' c' n r d k wr HN.out g0 g1 g2 g3 g4 g5 HU3.out HCV.out HD6.out hkT.1 (by omega)).mono ?_
            rintro e w4 ⟨lv, rfl, -, hu, ho, hb4⟩
            clear g0 g1 g2 g3 g4 g5
            have hLi : InT T (nextN n r d k) := ⟨HNXR.out k, HNXB.out k hkT.1⟩
            have hsep : RS w4 (w1.heap.size + 2) lv v2 (nextN n r d k) q := ⟨own_mono ho (by have := HBX.out; have := (Array.getElem?_eq_some_iff.1 this).1; omega), HQT.out.keep fun b _ hb => hb4.block b hb, fun e => by
              obtain ⟨g, hg, -, hgl⟩ := HQT.out.blk
              rw [hg] at e
              have := ho.lt g e
              omega⟩
            have HLV := Lib.hid hu
            have HINL := Lib.hid hLi
            have HRL := Lib.hid hsep
            have hLT := hLi.len
            clear hu ho hLi hsep
            obtain ⟨L, hL⟩ : ∃ L, nextN n r d k = L := ⟨_, rfl⟩
            rw [hL] at HRL HINL HLV hLT
            have HL := Lib.hid hL; clear hL
            obtain ⟨AL, cL, rfl, hLc, hLm, hLr⟩ := HLV.out.open_
            unfold maxLen at hLm
            have HDA4 := Lib.hid (HDA.out.keep (hb4.block _ HDA.out.lt))
            have HBX4 := Lib.hid ((hb4.block _ (Array.getElem?_eq_some_iff.1 HBX.out).1).trans HBX.out)
            have HBL4 := Lib.hid (bl_trans hbl hb4)
            clear q0 q1 q2 qf
            go_wp2_with fail
            obtain ⟨wq, rfl⟩ : ∃ z, z = wr := ⟨_, rfl⟩
            go_loopw [13, 16, 58] (fun v _ i wr' => QxRel (nextN n r d) xn k T w1 L (.slice AL L.length cL) q.length (offs dd) v i wr') (fun _ _ i _ => L.length - (intOf i).toNat)
            case atStart => exact ⟨dd, q, 0, rfl, Nat.zero_le _, HDL.out, HDA4.out, HBX4, HRL.out, fun s hs => HQI.out s (by simp [hs]), rfl, HQI.out k (by simp), fun z hz => by simp at hz, HBI.out.open fun z hz => (List.mem_cons.1 hz).symm, HBL4.out⟩
            case round =>
              obtain ⟨d2, q2', j, rfl, hj, hdl2, hda2, hbx2, hrs2, hqi2, hnum, hk2, htk, hbi2, hbl2⟩ := hrel
              have hz2 := hbl2.size
              have HRS2 := Lib.hid hrs2
              have HQI2 := Lib.hid hqi2
              have HK2 := Lib.hid hk2
              have HTK2 := Lib.hid htk
              have HBI2 := Lib.hid hbi2
              have HBL2 := Lib.hid hbl2
              have HDA2 := Lib.hid hda2
              have HDL2 := Lib.hid hdl2
              have hlt2 := hda2.lt
              have hlx := (Array.getElem?_eq_some_iff.1 hbx2.out).1
              have hp2 : wr.cell? ⟨w1.heap.size + 1, 0, none⟩ = some (.slice (some ⟨w1.heap.size, 0, none⟩) T T) := cell_of_row _ _ 0 _ _ (0, 0) hbx2.out
              clear hqi2 hk2 htk hbi2 hdl2
              by_cases hlt : j < L.length
              · obtain ⟨s, hs⟩ : ∃ s, L[j]? = some s := ⟨_, List.getElem?_eq_getElem hlt⟩
                obtain ⟨ad, rfl, -, -⟩ := hLr (by omega)
                clear hLr
                have hLI := hrs2.o_ints HINL.out (by omega)
                obtain ⟨A9, c9, e9, -, -, h9⟩ := hLI.open_
                obtain ⟨ad9, e9', -, h9⟩ := h9 (by omega)
                cases e9
                cases e9'
                have hcell := h9 j s hs
                have hsL : s ∈ L := List.mem_of_getElem? hs
                have HSN := Lib.hid (show s ∈ nextN n r d k by rw [HL.out]; exact hsL)
                have hsT := HINL.out.2 s hsL
                have HS := Lib.hid hs
                have HLNE := Lib.hid (show L ≠ [] from fun e => by rw [e] at hlt; simp at hlt)
                clear h9 hLI hs hsL hrs2
                obtain ⟨sn, rfl⟩ : ∃ sn : Nat, s = sn := ⟨s.toNat, by omega⟩
                obtain ⟨b, hb⟩ : ∃ b, d2[sn]? = some b := ⟨_, List.getElem?_eq_getElem (by have := HDL2.out; omega)⟩
                have hcb := hda2.cell hb
                have hfz := hda2.frozen sn
                have HB := Lib.hid hb
                clear hb hda2
                cases b with
                | true =>
                  have HIS := Lib.hid (show InB d2 (sn : Int) from ⟨by omega, by rw [Int.toNat_natCast]; exact HB.out⟩)
                  go_wp2_with fail
                  go_roundw
                  case rel => exact ⟨d2, q2', j + 1, by go_num, by omega, HDL2.out, HDA2.out, hbx2, HRS2.out, HQI2.out, hnum, HK2.out, fun z hz => by
                    rw [List.take_add_one, HS.out, List.mem_append] at hz
                    rcases hz with hz | hz
                    · exact HTK2.out z hz
                    · simp at hz; subst hz; exact HIS.out, HBI2.out, HBL2.out⟩
                  case measure => simp [intOf]; omega
                | false =>
                  obtain ⟨w5, hw5⟩ : ∃ z, z = wr.setCell ⟨w1.heap.size, sn, none⟩ (.bool true) := ⟨_, rfl⟩
                  have hka : ∀ b, b ≠ w1.heap.size → w5.heap[b]? = wr.heap[b]? := fun b hb => by rw [hw5]; exact Below.heap_setCell wr _ _ _ (by simpa using hb)
                  have hsz5 : w5.heap.size = wr.heap.size := by rw [hw5]; exact size_setCell wr _ _
                  have hda5 : BitsAt w5 w1.heap.size (d2.set sn true) := by rw [hw5]; exact HDA2.out.set sn true
                  have hrs5 : RS w5 (w1.heap.size + 2) (.slice (some ad) L.length cL) u13 L q2' := HRS2.out.keep (by omega) fun b hb _ => hka b (by omega)
                  have hbl5 : Below w1.heap.size w1 w5 := by rw [hw5]; exact HBL2.out.setCell (Nat.le_refl _) _
                  obtain ⟨w6, hw6, hb6, HB6, hz6, -⟩ := boxA w5 (.int .i64 (sn : Int)) 3
                  have HDA6 := Lib.hid (hda5.keep (hb6.block _ hda5.lt))
                  have HBX6 := Lib.hid ((hb6.block _ (by omega)).trans ((hka (w1.heap.size + 1) (by omega)).trans hbx2.out))
                  have HRS6 := Lib.hid (hrs5.below hb6)
                  have HBL6 := Lib.hid (hbl5.trans (hb6.mono (by omega)))
                  have HC6 := Lib.hid (show w6.cell? ⟨wr.heap.size, 0, none⟩ = some (.int .i64 (sn : Int)) by rw [← hsz5]; exact cell_of_row _ _ 0 _ _ (0, 0) HB6.out)
                  have HZ6 := Lib.hid (show w1.heap.size + 2 ≤ w6.heap.size by omega)
                  have HIN5 := Lib.hid (fun z => InB.set (d := d2) (j := sn) (by have := HDL2.out; omega) z)
                  have HOF := Lib.hid (offs_set HB.out)
                  have hql2 : q2'.length ≤ 2000000 := by omega
                  clear hka hsz5 hda5 hrs5 hbl5 hb6 HB6 hz6
                  subst hw6
                  subst hw5
                  go_wp2_with ((at_builtin; refine wpList_append_q2 rfl (.tmp 70) (.tmp 72) rfl rfl HRS6.out.q wr.heap.size (sn : Int) rfl HC6.out hql2 HZ6.out ?_; intro v' w' hq'' hb'' hk'' hbk''))
                  go_roundw
                  case rel =>
                    have hof := HOF.out
                    refine ⟨d2.set sn true, q2' ++ [(sn : Int)], j + 1, by go_num, by omega, by rw [List.length_set]; exact HDL2.out, HDA6.out.keep (hb''.block _ (by omega)), Lib.hid ((hb''.block _ (by omega)).trans HBX6.out), HRS6.out.push hq'' hb''.size hk'' hbk'' HLNE.out, fun z hz => ?_, by rw [List.length_append]; simp only [List.length_singleton]; omega, (HIN5.out k).2 (.inr HK2.out), fun z hz => ?_, ((HBI2.out.add HK2.out HSN.out).same fun z => (HIN5.out z).symm).open fun z h => ?_, HBL6.out.trans (hb''.mono (by omega))⟩
                    · rcases List.mem_append.1 hz with h | h
                      · exact (HIN5.out z).2 (.inr (HQI2.out z h))
                      · exact (HIN5.out z).2 (.inl (by simpa using h))
                    · rw [List.take_add_one, HS.out, List.mem_append] at hz
                      rcases hz with hz | hz
                      · exact (HIN5.out z).2 (.inr (HTK2.out z hz))
                      · exact (HIN5.out z).2 (.inl (by simpa [eq_comm] using hz))
                    · simp only [List.mem_append, List.mem_singleton]
                      rcases h with h | h | h <;> simp [h]
                  case measure => simp [intOf]; omega
              · go_wp2_with fail
                refine ⟨⟨d2, q2', HDL2.out, HDA2.out, hbx2, HRS2.out.q, HQI2.out, by omega, HBI2.out.close (fun z h => h) (by rw [HL.out]; intro z hz; exact HTK2.out z (by rw [List.take_of_length_le (by omega)]; exact hz)), HBL2.out⟩, ?_⟩
                have k1 := HLM.out
                rw [hld, offAt_eq HDA2.out, HRS2.out.q.len]
                show offs d2 + q2'.length < offs dd + m
                omega
end
end Go.Proofs.YtfhecpkhifdnbaaGreat
