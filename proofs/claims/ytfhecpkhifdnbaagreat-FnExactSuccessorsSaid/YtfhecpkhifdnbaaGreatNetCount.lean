/-
  Situations, the reference's side: the counts of states, the number of situations, their numbers.
-/
import Derived.Test.YtfhecpkhifdnbaaGreatNetGood
namespace Go.Proofs.YtfhecpkhifdnbaaGreat
open Go.RowKit
set_option linter.unusedVariables false
set_option linter.unusedSimpArgs false
theorem ask_eq (n : Net) (r : Int) : askB n r = (netB n && (inB r 1 5 && runsB n r)) := by
  unfold askB netB runsB askP
  rw [Bool.eq_iff_iff, propB_iff, Bool.and_eq_true, Bool.and_eq_true, propB_iff, propB_iff]
  unfold inB
  rw [decide_eq_true_eq]
theorem spec_ssAsked (ve vi vn : Value) (n : Net) (r : Int) (w : World) (h : NetR w w.heap.size ve vi vn n) (hz : n.es.length ≤ 2000000) :
    Calls Tryz.prog 94 #[.agg #[ve, vi, vn], .int .i64 r] w fun e w' => e = .returned (.bool (askB n r)) ∧ Below w.heap.size w w' := by
  have HE := Lib.hid (ask_eq n r)
  obtain ⟨⟨A0, m0, c0, rfl⟩, ⟨A1, m1, c1, rfl⟩, A2, m2, c2, rfl⟩ := h.slices
  obtain ⟨w0, hw0, hB, HD, hz0, HS0⟩ := box3 w (.slice A0 m0 c0) (.slice A1 m1 c1) (.slice A2 m2 c2) 31
  have HN0 := Lib.hid h; have HN := Lib.hid (h.up hB); clear h
  have HW0 := Lib.hid hw0; clear hw0
  obtain ⟨q0, q1, q2, qf⟩ := cells3 HD
  go_enter Tryz.func94, Tryz.ntmps94
  go_wp2_with fail
  rw [← HW0.out]
  refine (spec_neGood _ _ _ n w0 HN.out hz).mono ?_
  rintro e w1 ⟨rfl, hb1⟩
  have hzhb1 := hb1.size
  clear q0 q1 q2 qf
  replace HD := bk HD hb1
  replace HN := Lib.hid (HN.out.up hb1)
  replace hB := bl_trans hB hb1
  obtain ⟨q0, q1, q2, qf⟩ := cells3 HD
  cases h1 : netB n with
  | false =>
    go_wp2_with fail
    go_ret
    exact ⟨ret_bool (by rw [HE.out, h1]; rfl), hB⟩
  | true =>
    have HP := Lib.hid (propB_iff.1 h1)
    cases h2 : inB r 1 5 with
    | false =>
      go_wp2_with (go_at_call 153; refine (spec_ssRule _ _).mono ?_; rintro e w2 ⟨rfl, rfl⟩)
      go_ret
      exact ⟨ret_bool (by rw [HE.out, h1, h2]; rfl), hB⟩
    | true =>
      go_wp2_with (first | (go_at_call 153; refine (spec_ssRule _ _).mono ?_; rintro e w2 ⟨rfl, rfl⟩) | (go_at_call 154; refine (spec_ssRuns _ _ _ n r w1 HN.out HP.out).mono ?_; rintro e w2 ⟨rfl, hb2⟩))
      go_ret
      exact ⟨ret_bool (by rw [HE.out, h1, h2]; rfl), bl_trans hB hb2⟩
/-- One node's count. -/
def cntAt (n : Net) (r : Int) (l : Ends) : Int := if r = 2 then most (degs n) + 1 else if r = 3 then 2 else if r = 4 then (l.length : Int) + 1 else n.es.length + 1
theorem cnts_at {n : Net} {r : Int} {v : Nat} {l : Ends} (h : n.es[v]? = some l) : (cnts n r)[v]? = some (cntAt n r l) := by
  have hv : v < n.es.length := (List.getElem?_eq_some_iff.1 h).1
  unfold cnts cntAt
  split
  · rw [List.getElem?_replicate, if_pos hv]
  split
  · rw [List.getElem?_replicate, if_pos hv]
  split
  · unfold degs
    rw [List.getElem?_map, List.getElem?_map, h]
    rfl
  · rw [List.getElem?_replicate, if_pos hv]
theorem spec_ssCount (ve vi vn : Value) (n : Net) (r : Int) (v : Nat) (l : Ends) (w : World) (h : NetR w w.heap.size ve vi vn n) (hp : netP n) (hl : n.es[v]? = some l) :
    Calls Tryz.prog 95 #[.agg #[ve, vi, vn], .int .i64 r, .int .i64 (v : Int)] w fun e w' => e = .returned (.int .i64 (cntAt n r l)) ∧ Below w.heap.size w w' := by
  have h40 := hp.1.2
  have hl6 := hp.len hl
  have HP := Lib.hid hp; clear hp
  have hvl : v < n.es.length := (List.getElem?_eq_some_iff.1 hl).1
  obtain ⟨⟨A0, m0, c0, rfl⟩, ⟨A1, m1, c1, rfl⟩, A2, m2, c2, rfl⟩ := h.slices
  obtain ⟨w0, hw0, hB, HD, hz0, HS0⟩ := box3 w (.slice A0 m0 c0) (.slice A1 m1 c1) (.slice A2 m2 c2) 31
  have HN0 := Lib.hid h; have HN := Lib.hid (h.up hB); clear h
  have HW0 := Lib.hid hw0; clear hw0
  obtain ⟨q0, q1, q2, qf⟩ := cells3 HD
  obtain ⟨hm0, -, -⟩ := HN.out.e.len_slice
  subst hm0
  obtain ⟨ad, rfl⟩ := HN.out.e.some_ (by omega)
  obtain ⟨-, u, hu, hr⟩ := HN.out.e.at_ hl
  obtain ⟨A', c', rfl, -⟩ := hr
  have hu' := hu
  rw [HW0.out] at hu'
  clear hl hu
  by_cases h2 : r = 2
  · subst h2
    have HE := Lib.hid (show cntAt n 2 l = most (degs n) + 1 from rfl)
    have hm6 : most (degs n) ≤ 6 := most_le (by omega) fun x hx => (degs_bd HP.out x hx).2
    have hm0 := most_nn (degs n)
    go_enter Tryz.func95, Tryz.ntmps95
    go_wp2_with fail
    rw [← HW0.out]
    refine (spec_neDegrees _ _ _ n w0 HN.out HP.out).mono ?_
    rintro e w1 ⟨u, rfl, ⟨A'', m'', c'', rfl⟩, hu, hb1⟩
    have HU := Lib.hid hu; clear hu
    have hzhb1 := hb1.size
    clear q0 q1 q2 qf
    replace HD := bk HD hb1
    replace HN := Lib.hid (HN.out.up hb1)
    replace hB := bl_trans hB hb1
    obtain ⟨q0, q1, q2, qf⟩ := cells3 HD
    go_wp2_with fail
    refine (spec_meMost _ (degs n) w1 HU.out).mono ?_
    rintro e w2 ⟨rfl, rfl⟩
    generalize most (degs n) = q at *
    go_wp2_with fail
    go_ret
    exact ⟨ret_int (by rw [HE.out]), hB⟩
  · have k2 : (r == 2) = false := by simpa using h2
    by_cases h3 : r = 3
    · subst h3
      have HE := Lib.hid (show cntAt n 3 l = 2 from rfl)
      go_enter Tryz.func95, Tryz.ntmps95
      go_wp2_with fail
      go_ret
      rw [← HW0.out]
      exact ⟨ret_int HE.out.symm, hB⟩
    · have k3 : (r == 3) = false := by simpa using h3
      by_cases h4 : r = 4
      · subst h4
        have HE := Lib.hid (show cntAt n 4 l = (l.length : Int) + 1 from rfl)
        go_enter Tryz.func95, Tryz.ntmps95
        go_wp2_with fail
        go_ret
        rw [← HW0.out]
        exact ⟨ret_int HE.out.symm, hB⟩
      · have k4 : (r == 4) = false := by simpa using h4
        have HE := Lib.hid (show cntAt n r l = (n.es.length : Int) + 1 by unfold cntAt; rw [if_neg h2, if_neg h3, if_neg h4])
        clear h2 h3 h4
        go_enter Tryz.func95, Tryz.ntmps95
        go_wp2_with fail
        go_ret
        rw [← HW0.out]
        exact ⟨ret_int HE.out.symm, hB⟩
theorem cnts_I64 {n : Net} (h : netP n) (r : Int) : ∀ x ∈ cnts n r, I64 x := fun x hx => small_I64 (cnts_bd h r x hx) (by omega) (by omega)
theorem spec_ssCounts (ve vi vn : Value) (n : Net) (r : Int) (w : World) (h : NetR w w.heap.size ve vi vn n) (hp : netP n) :
    Calls Tryz.prog 50 #[.agg #[ve, vi, vn], .int .i64 r] w fun e w' => ∃ u, e = .returned u ∧ (∃ A m c, u = .slice A m c) ∧ IntsR w' w'.heap.size u (cnts n r) ∧ Below w.heap.size w w' := by
  have h40 := hp.1.2
  have HP := Lib.hid hp; clear hp
  obtain ⟨⟨A0, m0, c0, rfl⟩, ⟨A1, m1, c1, rfl⟩, A2, m2, c2, rfl⟩ := h.slices
  obtain ⟨w0, hw0, hB, HD, hz0, HS0⟩ := box3 w (.slice A0 m0 c0) (.slice A1 m1 c1) (.slice A2 m2 c2) 31
  have HN0 := Lib.hid h; have HN := Lib.hid (h.up hB); clear h
  have HW0 := Lib.hid hw0; clear hw0
  obtain ⟨q0, q1, q2, qf⟩ := cells3 HD
  obtain ⟨hm0, -, -⟩ := HN.out.e.len_slice
  subst hm0
  have HDL := Lib.hid (cnts_len n r)
  go_enter Tryz.func50, Tryz.ntmps50
  go_wp2_with fail
  rw [← HW0.out]
  go_loopw [5, 6, 10] (fun v _ i wr => IntsRel (cnts n r) w0 v i wr) (fun _ _ i _ => n.es.length - (intOf i).toNat)
  case atStart => exact ⟨0, Nat.zero_le _, rfl, World.ownsRow_nil _ _ _ _, Below.refl _ _⟩
  case round =>
    obtain ⟨k, hk, rfl, hown, hb1⟩ := hrel
    rw [HDL.out] at hk
    have hzhb1 := hb1.size
    clear q0 q1 q2 qf
    replace HD := bk HD hb1
    replace HN := Lib.hid (HN.out.up hb1)
    replace hB := bl_trans hB hb1
    obtain ⟨q0, q1, q2, qf⟩ := cells3 HD
    by_cases hlt : k < n.es.length
    · obtain ⟨l, hl⟩ : ∃ y, n.es[k]? = some y := ⟨n.es[k], List.getElem?_eq_getElem hlt⟩
      have HL := Lib.hid hl
      have HS := Lib.hid (ints_snoc (cnts_at (r := r) hl)); clear hl
      go_wp2_with fail
      refine (spec_ssCount _ _ _ n r k l wr HN.out HP.out HL.out).mono ?_
      rintro e w2 ⟨rfl, hb2⟩
      have hown2 := kept_below hown hb2
      have hb12 := bl_trans hb1 hb2
      have hzhb2 := hb2.size
      clear q0 q1 q2 qf
      replace HD := bk HD hb2
      replace HN := Lib.hid (HN.out.up hb2)
      replace hB := bl_trans hB hb2
      obtain ⟨q0, q1, q2, qf⟩ := cells3 HD
      generalize cntAt n r l = x at *
      go_wp2_with ((at_builtin; refine wpList_append1 w2 rfl (.tmp 13) (.tmp 18) 23 rfl w0.heap.size 3 _ 8 Tryz.underlying23 intInfo rfl _ _ _ rfl _ rfl rfl hown2 (by unfold maxLen; omega) (by omega) hb12.size ?_; intro v' w' hown' hbl' hgr' hlt' hob'))
      go_roundw
      case rel => exact ⟨k + 1, by rw [HDL.out]; omega, by go_num, by rw [HS.out]; exact hown', hb12.trans hbl'⟩
      case measure => simp [intOf]; omega
    · have hI := IntsRel.fin hown (by rw [HDL.out]; omega) (cnts_I64 HP.out r)
      have HO := Lib.hid hI; clear hI hown
      go_wp2_with fail
      go_ret
      exact ⟨_, rfl, HO.out.isSlice, HO.out, hB⟩
theorem cap_snoc {xs : List Int} {k : Nat} {x : Int} (h : xs[k]? = some x) : capd (xs.take (k + 1)) = if capd (xs.take k) * x < 3001 then capd (xs.take k) * x else 3001 := by
  obtain ⟨hk, rfl⟩ := List.getElem?_eq_some_iff.1 h
  rw [List.take_succ_eq_append_getElem hk]
  unfold capd
  rw [List.foldl_append]
  rfl
theorem capd_bd {xs : List Int} (h : ∀ x ∈ xs, 1 ≤ x) : 1 ≤ capd xs ∧ capd xs ≤ 3001 := by
  refine ⟨capG_pos h (a := 1) (by omega), ?_⟩
  cases hx : xs.reverse with
  | nil => obtain rfl : xs = [] := List.reverse_eq_nil_iff.1 hx; show (1 : Int) ≤ 3001; omega
  | cons y r =>
    have e : xs = r.reverse ++ [y] := by rw [← List.reverse_reverse xs, hx]; simp
    rw [e]
    unfold capd
    rw [List.foldl_append]
    simp only [List.foldl_cons, List.foldl_nil]
    split <;> omega
def CapRel (xs : List Int) (w : World) (o i : Value) (wr : World) : Prop := w = wr ∧ ∃ k : Nat, k ≤ xs.length ∧ i = .int .i64 k ∧ o = .int .i64 (capd (xs.take k))
theorem spec_cvCount (ve vi vn : Value) (n : Net) (r : Int) (w : World) (h : NetR w w.heap.size ve vi vn n) (hp : netP n) :
    Calls Tryz.prog 73 #[.agg #[ve, vi, vn], .int .i64 r] w fun e w' => e = .returned (.int .i64 (capd (cnts n r))) ∧ Below w.heap.size w w' := by
  have h40 := hp.1.2
  have HP := Lib.hid hp; clear hp
  obtain ⟨⟨A0, m0, c0, rfl⟩, ⟨A1, m1, c1, rfl⟩, A2, m2, c2, rfl⟩ := h.slices
  obtain ⟨w0, hw0, hB, HD, hz0, HS0⟩ := box3 w (.slice A0 m0 c0) (.slice A1 m1 c1) (.slice A2 m2 c2) 31
  have HN0 := Lib.hid h; have HN := Lib.hid (h.up hB); clear h
  have HW0 := Lib.hid hw0; clear hw0
  obtain ⟨q0, q1, q2, qf⟩ := cells3 HD
  have HDL := Lib.hid (cnts_len n r)
  have HC := Lib.hid (cnts_bd HP.out r)
  go_enter Tryz.func73, Tryz.ntmps73
  go_wp2_with fail
  rw [← HW0.out]
  refine (spec_ssCounts _ _ _ n r w0 HN.out HP.out).mono ?_
  rintro e w1 ⟨u, rfl, ⟨A', m', c', rfl⟩, hu, hb1⟩
  obtain ⟨hm', -, hcm, hc⟩ := hu.some_
  subst hm'
  have hu40 : (cnts n r).length ≤ 40 := by rw [HDL.out]; exact h40
  clear hu
  have hzhb1 := hb1.size
  clear q0 q1 q2 qf
  replace HD := bk HD hb1
  replace HN := Lib.hid (HN.out.up hb1)
  replace hB := bl_trans hB hb1
  obtain ⟨q0, q1, q2, qf⟩ := cells3 HD
  obtain ⟨xs, hxs⟩ : ∃ xs, xs = cnts n r := ⟨_, rfl⟩
  rw [← hxs] at hc HC hu40 HDL
  have HXS := Lib.hid hxs
  rw [← hxs]
  clear hxs
  unfold maxLen at hcm
  go_wp2_with fail
  go_loopw [5, 7, 12] (fun o _ i wr => CapRel xs w1 o i wr) (fun _ _ i _ => xs.length - (intOf i).toNat)
  case atStart => exact ⟨rfl, 0, Nat.zero_le _, rfl, rfl⟩
  case round =>
    obtain ⟨rfl, k, hk, rfl, rfl⟩ := hrel
    by_cases hlt : k < xs.length
    · obtain ⟨x, hx⟩ : ∃ y, xs[k]? = some y := ⟨xs[k], List.getElem?_eq_getElem hlt⟩
      obtain ⟨ad, rfl, hb, hc'⟩ := hc (by omega)
      have hcell := hc' k x hx
      have hbd := HC.out x (List.mem_of_getElem? hx)
      have hq := capd_bd (xs := xs.take k) (fun y hy => (HC.out y (List.mem_of_mem_take hy)).1)
      have HS := Lib.hid (cap_snoc hx)
      clear hc hc' hx
      generalize capd (xs.take k) = q at *
      have hm1 : (1 : Int) * 1 ≤ q * x := Int.mul_le_mul hq.1 hbd.1 (by omega) (by omega)
      have hm2 : q * x ≤ 3001 * 41 := Int.mul_le_mul hq.2 hbd.2 (by omega) (by omega)
      have hwr : IntKind.i64.wrap (q * x) = q * x := IntWalk.i64_in _ (by omega)
      go_wp2_with (go_at_call 135; refine (spec_l1Least _ _ _).mono ?_; rintro e w' ⟨rfl, rfl⟩)
      go_roundw
      case rel => exact ⟨rfl, k + 1, by omega, by go_num, by rw [HS.out]⟩
      case measure => simp [intOf]; omega
    · have e1 : xs.take k = xs := List.take_of_length_le (by omega)
      rw [e1]
      go_wp2_with fail
      go_ret
      exact ⟨ret_int (by rw [HXS.out]), hB⟩
end Go.Proofs.YtfhecpkhifdnbaaGreat
