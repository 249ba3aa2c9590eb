/-
  Networks, the program's side: no stubs and no loops; a token ring; which rules run.
-/
import Derived.Test.YtfhecpkhifdnbaaGreatNetEdge
namespace Go.Proofs.YtfhecpkhifdnbaaGreat
open Go.RowKit
set_option linter.unusedVariables false
set_option linter.unusedSimpArgs false
theorem closure_loop (x : Edge) (w : World) :
    Calls Tryz.prog 240 #[.agg #[.int .i64 x.1, .int .i64 x.2.1, .int .i64 x.2.2.1, .int .i64 x.2.2.2]] w fun e w' => e = .returned (.bool (x.1 == x.2.2.1)) ∧ Below w.heap.size w w' := by
  go_enter Tryz.func240, Tryz.ntmps240
  go_wp2_with fail
  go_ret
  exact ⟨rfl, bl_alloc (Below.refl _ _) _⟩
/-- Where the cells of a row of edges lie. -/
theorem edge_at {E : List Edge} {k : Nat} {x : Edge} (h : E[k]? = some x) : (edCells E)[k * 4]? = some (.int .i64 x.1) ∧ (edCells E)[k * 4 + 1]? = some (.int .i64 x.2.1) ∧ (edCells E)[k * 4 + 2]? = some (.int .i64 x.2.2.1) ∧ (edCells E)[k * 4 + 3]? = some (.int .i64 x.2.2.2) := by
  induction E generalizing k with
  | nil => simp at h
  | cons y r ih =>
    rcases k with _ | k
    · simp only [List.getElem?_cons_zero, Option.some.injEq] at h
      subst h
      exact ⟨rfl, rfl, rfl, rfl⟩
    · have := ih (k := k) h
      have e : edCells (y :: r) = edC y ++ edCells r := rfl
      rw [e]
      have hl : (edC y).length = 4 := rfl
      rw [List.getElem?_append_right (by rw [hl]; omega), List.getElem?_append_right (by rw [hl]; omega), List.getElem?_append_right (by rw [hl]; omega), List.getElem?_append_right (by rw [hl]; omega), hl]
      rw [show (k + 1) * 4 - 4 = k * 4 by omega, show (k + 1) * 4 + 1 - 4 = k * 4 + 1 by omega, show (k + 1) * 4 + 2 - 4 = k * 4 + 2 by omega, show (k + 1) * 4 + 3 - 4 = k * 4 + 3 by omega]
      exact this
/-- None of the first k ends where it starts. -/
def NoLoopTo (E : List Edge) (k : Nat) : Prop := ∀ (j : Nat) (x : Edge), j < k → E[j]? = some x → x.1 ≠ x.2.2.1
theorem NoLoopTo.next {E : List Edge} {k : Nat} {x : Edge} (h : NoLoopTo E k) (hx : E[k]? = some x) (hn : x.1 ≠ x.2.2.1) : NoLoopTo E (k + 1) := fun j y hj hy => by
  by_cases e : j = k
  · subst e
    obtain rfl := Option.some.inj (hx.symm.trans hy)
    exact hn
  · exact h j y (by omega) hy
noncomputable def loopB (E : List Edge) : Bool := propB (∃ x ∈ E, x.1 = x.2.2.1)
theorem NoLoopTo.fin {E : List Edge} {k : Nat} (h : NoLoopTo E k) (hk : E.length ≤ k) : loopB E = false := propB_f fun ⟨x, hx, e⟩ => by
  obtain ⟨j, hj⟩ := List.mem_iff_getElem?.1 hx
  exact h j x (by have := (List.getElem?_eq_some_iff.1 hj).1; omega) hj e
def LpRel (E : List Edge) (w : World) (i : Value) (wr : World) : Prop := Below w.heap.size w wr ∧ ∃ k : Nat, k ≤ E.length ∧ i = .int .i64 k ∧ NoLoopTo E k
def LpIdx (E : List Edge) (w : World) (e : Ending) (w' : World) : Prop := ∃ i : Int, e = .returned (.int .i64 i) ∧ -1 ≤ i ∧ i ≤ E.length ∧ decide (0 ≤ i) = loopB E ∧ Below w.heap.size w w'
theorem edges_index (v : Value) (E : List Edge) (base : Nat) (w : World) (h : w.ownsRow base 154 4 v E.length (edCells E)) (hE : E.length ≤ 300) :
    Calls Tryz.prog 191 #[v, .func (.func 240) #[] #[]] w (LpIdx E w) := by
  obtain ⟨A0, c0, rfl⟩ : ∃ A0 c0, v = .slice A0 E.length c0 := by
    rcases h.2 with ⟨rfl, e0⟩ | ⟨g, cap, cur, rfl, -⟩
    · exact ⟨none, 0, by rw [e0]⟩
    · exact ⟨_, _, rfl⟩
  go_enter Tryz.func191, Tryz.ntmps191
  go_wp2_with fail
  go_loopw [8, 5] (fun i _ wr => LpRel E w i wr) (fun i _ _ => E.length - (intOf i).toNat)
  case atStart => exact ⟨Below.refl _ _, 0, Nat.zero_le _, rfl, fun _ _ h => absurd h (by omega)⟩
  case round =>
    obtain ⟨hb, k, hk, rfl, hup⟩ := hrel
    have HU := Lib.hid hup; clear hup
    have hz := hb.size
    by_cases hlt : k < E.length
    · obtain ⟨x, hx⟩ : ∃ x, E[k]? = some x := ⟨E[k], List.getElem?_eq_getElem hlt⟩
      obtain ⟨c0', c1', c2', c3'⟩ := edge_at hx
      have HX := Lib.hid hx; clear hx
      obtain ⟨g, rfl⟩ : ∃ g, A0 = some ⟨g, 0, none⟩ := by
        rcases h.2 with ⟨e, e0⟩ | ⟨g, cap, cur, e, -⟩
        · omega
        · cases e
          exact ⟨g, rfl⟩
      have hgl := (h.lt g rfl).2
      have hc : ∀ i u, i < E.length * 4 → (edCells E)[i]? = some u → wr.cell? ⟨g, i, none⟩ = some u := fun i u hi hu => (hb.cell (p := ⟨g, i, none⟩) hgl).trans ((h.cellAt i hi).trans hu)
      have k0 := hc _ _ (by omega) c0'
      have k1 := hc _ _ (by omega) c1'
      have k2 := hc _ _ (by omega) c2'
      have k3 := hc _ _ (by omega) c3'
      clear hc c0' c1' c2' c3'
      by_cases hq : x.1 = x.2.2.1
      · have kq : (x.1 == x.2.2.1) = true := by rw [beq_iff_eq]; exact hq
        have HQ := Lib.hid (show loopB E = true from propB_t ⟨x, List.mem_of_getElem? HX.out, hq⟩)
        clear hq
        go_wp2_with fail
        refine (closure_loop x wr).mono ?_
        rintro e w' ⟨rfl, hb'⟩
        rw [kq]
        go_wp2_with fail
        go_ret
        exact ⟨k, rfl, by omega, by omega, by rw [HQ.out]; simp, hb.trans (hb'.mono hz)⟩
      · have kq : (x.1 == x.2.2.1) = false := by rw [beq_eq_false_iff_ne]; exact hq
        have HQ := Lib.hid (HU.out.next HX.out hq)
        clear hq
        go_wp2_with fail
        refine (closure_loop x wr).mono ?_
        rintro e w' ⟨rfl, hb'⟩
        rw [kq]
        go_wp2_with fail
        go_roundw
        case rel => exact ⟨hb.trans (hb'.mono hz), k + 1, by omega, by go_num, HQ.out⟩
        case measure => simp [intOf]; omega
    · have HF := Lib.hid (HU.out.fin (by omega))
      go_wp2_with fail
      go_ret
      exact ⟨-1, rfl, by omega, by omega, by rw [HF.out]; rfl, hb⟩
theorem edges_contain (v : Value) (E : List Edge) (base : Nat) (w : World) (h : w.ownsRow base 154 4 v E.length (edCells E)) (hE : E.length ≤ 300) :
    Calls Tryz.prog 131 #[v, .func (.func 240) #[] #[]] w fun e w' => e = .returned (.bool (loopB E)) ∧ Below w.heap.size w w' := by
  have HH := Lib.hid h; clear h
  go_enter Tryz.func131, Tryz.ntmps131
  go_wp2_with fail
  refine (edges_index v E base w HH.out hE).mono ?_
  rintro e w' ⟨i, rfl, h1, h2, h3, hb⟩
  have H3 := Lib.hid h3; clear h3
  go_wp2_with fail
  go_ret
  exact ⟨ret_bool H3.out, hb⟩
theorem loop_plain {n : Net} {E : List Edge} (h : EdAll n E) (hp : netP n) : loopB E = !plainB n := by
  by_cases hq : plainP n
  · rw [show plainB n = true from propB_t hq]
    exact propB_f fun hl => (h.loop hp).1 hl hq
  · rw [show plainB n = false from propB_f hq]
    exact propB_t ((h.loop hp).2 hq)
theorem impl_hasStubsOrLoops (ve vi vn : Value) (n : Net) (w : World) (h : NetR w w.heap.size ve vi vn n) (hp : netP n) :
    Calls Tryz.prog 203 #[.agg #[ve, vi, vn]] w fun e w' => e = .returned (.bool (!plainB n)) ∧ Below w.heap.size w w' := by
  have HP := Lib.hid hp; clear hp
  obtain ⟨⟨A0, m0, c0, rfl⟩, ⟨A1, m1, c1, rfl⟩, A2, m2, c2, rfl⟩ := h.slices
  obtain ⟨w0, hw0, hB, HD, hz0, HS0⟩ := box3 w (.slice A0 m0 c0) (.slice A1 m1 c1) (.slice A2 m2 c2) 31
  have HN0 := Lib.hid h; have HN := Lib.hid (h.up hB); clear h
  have HW0 := Lib.hid hw0; clear hw0
  obtain ⟨q0, q1, q2, qf⟩ := cells3 HD
  go_enter Tryz.func203, Tryz.ntmps203
  go_wp2_with fail
  rw [← HW0.out]
  refine (impl_edges _ _ _ n w0 HN.out HP.out).mono ?_
  rintro e w1 ⟨u, E, rfl, hed, hlen, hown, hb1⟩
  have HED := Lib.hid (loop_plain hed HP.out); clear hed
  have HO := Lib.hid hown; clear hown
  have hzhb1 := hb1.size
  clear q0 q1 q2 qf
  replace HD := bk HD hb1
  replace HN := Lib.hid (HN.out.up hb1)
  replace hB := bl_trans hB hb1
  obtain ⟨q0, q1, q2, qf⟩ := cells3 HD
  go_wp2_with fail
  refine (edges_contain u E w0.heap.size w1 HO.out hlen).mono ?_
  rintro e w2 ⟨rfl, hb2⟩
  have hzhb2 := hb2.size
  clear q0 q1 q2 qf
  replace HD := bk HD hb2
  replace HN := Lib.hid (HN.out.up hb2)
  replace hB := bl_trans hB hb2
  obtain ⟨q0, q1, q2, qf⟩ := cells3 HD
  go_wp2_with fail
  go_ret
  exact ⟨ret_bool HED.out, hB⟩
end Go.Proofs.YtfhecpkhifdnbaaGreat
