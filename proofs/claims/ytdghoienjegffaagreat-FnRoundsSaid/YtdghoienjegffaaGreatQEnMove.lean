/-
  EnabledNodes (program) and MoveSet (both sides) as entries. Conditions: sizes.
-/
import Derived.Test.YtdghoienjegffaaGreatQRunTogI
import Derived.Test.YtdghoienjegffaaGreatQNetLegA
namespace Go.Proofs.YtdghoienjegffaaGreat
open Go.RowKit
set_option linter.all false
theorem spec_l1Rising (v : Value) (xs : List Int) (lo hi : Int) (w : World) (h : IntsR w w.heap.size v xs) :
  Calls Tryz.prog 42 #[v, .int .i64 lo, .int .i64 hi] w fun e w' => e = .returned (.bool (riseB xs lo hi)) ∧ w = w' := by
 obtain ⟨A, c, rfl, h1, h2, h3⟩ := h.open_
 unfold maxLen at h2
 clear h
 go_enter Tryz.func42, Tryz.ntmps42
 go_wp2_with fail
 go_loopw [7, 8, 11] (fun _ _ i wr => RsRel xs lo hi w i wr) (fun _ _ i _ => xs.length - (intOf i).toNat)
 case atStart => exact ⟨rfl, 0, Nat.zero_le _, rfl, fun _ _ h => absurd h (by omega)⟩
 case round =>
  obtain ⟨rfl, k, hk, rfl, hup⟩ := hrel
  have HU := Lib.hid hup; clear hup
  by_cases hlt : k < xs.length
  ·
   obtain ⟨x, hx⟩ : ∃ y, xs[k]? = some y := ⟨xs[k], List.getElem?_eq_getElem hlt⟩
   obtain ⟨ad, rfl, hb, hc⟩ := h3 (by omega)
   have hcell := hc k x hx
   have HX := Lib.hid hx
   cases hp : inB x lo hi with
   | false =>
    clear h3 hc hx
    go_wp2_with (go_at_call 46; refine (spec_l1In _ _ _ _).mono ?_; rintro e w' ⟨rfl, rfl⟩)
    go_ret
    exact ⟨ret_bool (rise_no1 HX.out hp).symm, rfl⟩
   | true =>
    by_cases h0 : 0 < k
    ·
     obtain ⟨j, hj⟩ : ∃ j, j = k - 1 := ⟨_, rfl⟩
     have HJ := Lib.hid (show k = j + 1 by omega)
     have hjl : j < xs.length := by omega
     obtain ⟨y, hy⟩ : ∃ y, xs[j]? = some y := ⟨_, List.getElem?_eq_getElem hjl⟩
     have hcell2 := hc j y hy
     have HY := Lib.hid hy
     have hj1 : (k : Int) - 1 = (j : Int) := by omega
     clear hj
     clear h3 hc hx hy
     by_cases hlt2 : y < x
     ·
      go_wp2_with (go_at_call 46; refine (spec_l1In _ _ _ _).mono ?_; rintro e w' ⟨rfl, rfl⟩)
      go_roundw
      case rel => exact ⟨rfl, k + 1, by omega, by go_num, HU.out.next HX.out hp fun _ z hz => by
       rw [HJ.out, Nat.add_sub_cancel] at hz
       obtain rfl := Option.some.inj (HY.out.symm.trans hz)
       exact hlt2⟩
      case measure => simp [intOf]; omega
     ·
      go_wp2_with (go_at_call 46; refine (spec_l1In _ _ _ _).mono ?_; rintro e w' ⟨rfl, rfl⟩)
      go_ret
      exact ⟨ret_bool (rise_no2 (k := j) (by rw [← HJ.out]; exact HX.out) HY.out (by omega)).symm, rfl⟩
    ·
     clear h3 hc hx
     go_wp2_with (go_at_call 46; refine (spec_l1In _ _ _ _).mono ?_; rintro e w' ⟨rfl, rfl⟩)
     go_roundw
     case rel => exact ⟨rfl, k + 1, by omega, by go_num, HU.out.next HX.out hp fun h => absurd h (by omega)⟩
     case measure => simp [intOf]; omega
  ·
   go_wp2
   go_ret
   exact ⟨ret_bool (rise_end HU.out (by omega)).symm, rfl⟩
def EnPost (n : Net) (r : Int) (ss : List Int) (w : World) (e : Ending) (w' : World) : Prop :=
  Below w.heap.size w w' ∧ ∃ (u : Value) (xs : List Int), e = .returned (.tuple #[u, .bool (sitB n r ss)]) ∧ (∃ A m c, u = .slice A m c) ∧ IntsR w' w'.heap.size u xs ∧ (sitB n r ss = true → xs = enS n r ss)
noncomputable def mvsB (n : Net) (r : Int) (ss set : List Int) : Bool := (sitB n r ss && riseB set 0 ((ss.length : Int) - 1)) && set.all (fun x => hasB (enS n r ss) x)
def MvPost (n : Net) (r : Int) (ss set : List Int) (w : World) (e : Ending) (w' : World) : Prop :=
  Below w.heap.size w w' ∧ ∃ (u : Value) (xs : List Int), e = .returned (.tuple #[u, .bool (mvsB n r ss set)]) ∧ (∃ A m c, u = .slice A m c) ∧ IntsR w' w'.heap.size u xs ∧ (mvsB n r ss set = true → xs = moveS n r ss set) ∧ (mvsB n r ss set = false → xs = [])
set_option maxRecDepth 100000 in
set_option maxHeartbeats 1000000 in
theorem impl_EnabledNodes (ve vi vn vs : Value) (n : Net) (r : Int) (ss : List Int) (w : World) (h : NetR w w.heap.size ve vi vn n) (hs : IntsR w w.heap.size vs ss) (hz : n.es.length ≤ 2000000) (hzi : n.ids.length ≤ 2000000) :
  Calls Tryz.prog 10 #[.agg #[ve, vi, vn], .int .i64 r, vs] w (EnPost n r ss w) := by
 have HN := Lib.hid h
 have HS := Lib.hid hs
 obtain ⟨⟨A0, m0, c0, rfl⟩, ⟨A1, m1, c1, rfl⟩, A2, m2, c2, rfl⟩ := h.slices
 obtain ⟨As, ms, cs, rfl⟩ := hs.isSlice
 clear h hs
 obtain ⟨w0, hw0, hb0, HD, hz0, HS0⟩ := box3 w (.slice A0 m0 c0) (.slice A1 m1 c1) (.slice A2 m2 c2) 27
 have HW0 := Lib.hid hw0
 obtain ⟨q0, q1, q2, qf⟩ := cells3 HD
 have eq0 := q0
 have eq1 := q1
 have eq2 := q2
 rw [hw0] at eq0 eq1 eq2
 clear hw0
 go_enter Tryz.func10, Tryz.ntmps10
 go_wp2_with fail
 rw [← HW0.out]
 clear eq0 eq1 eq2
 refine (impl_situationOk _ _ _ _ n r ss w0 (HN.out.up hb0) (ints_upR HS.out hb0) hz hzi).mono ?_
 rintro e w1 ⟨rfl, hb1⟩
 have hzz1 := hb1.size
 have hB1 := bl_trans hb0 hb1
 have HD1 := bk HD hb1
 clear q0 q1 q2 qf
 obtain ⟨q0, q1, q2, qf⟩ := cells3 HD1
 cases hsit : sitB n r ss with
 | false =>
  have HT := Lib.hid hsit
  clear hsit
  go_wp2_with fail
  exact bodyPost_ret (v := .tuple #[.slice none 0 0, .bool false]) (by simp [results, Tryz.results10, go_sem]) rfl ⟨hB1, _, [], by rw [HT.out], ⟨_, _, _, rfl⟩, ints_nil _ _, fun h' => absurd h' (by rw [HT.out]; decide)⟩
 | true =>
  have HT := Lib.hid hsit
  obtain ⟨hask, hsts⟩ := propB_iff.1 hsit
  have HAS := Lib.hid hask
  have HST := Lib.hid hsts
  clear hsit hask hsts
  go_wp2_with fail
  refine (impl_enabledNodes _ _ _ _ n r ss w1 (HN.out.up hB1) HAS.out (ints_upR HS.out hB1) HST.out).mono ?_
  rintro e w4 ⟨u, rfl, ⟨g6, c6, rfl, hg6⟩, he4, hb4⟩
  have HE4 := Lib.hid he4
  have hB4 := bl_trans hB1 hb4
  clear he4 hb4 hg6 q0 q1 q2 qf
  go_wp2_with fail
  exact bodyPost_ret (v := .tuple #[.slice (some ⟨g6, 0, none⟩) (enS n r ss).length c6, .bool true]) (by simp [results, Tryz.results10, go_sem]) rfl ⟨hB4, _, _, by rw [HT.out], ⟨_, _, _, rfl⟩, HE4.out, fun _ => rfl⟩
def MsRel (n : Net) (r : Int) (ss set : List Int) (w : World) (k : Value) (wr : World) : Prop :=
  w = wr ∧ ∃ j : Nat, j ≤ set.length ∧ k = .int .i64 (j : Int) ∧ ∀ i x, i < j → set[i]? = some x → hasB (enS n r ss) x = true
theorem rise_in {xs : List Int} {N : Nat} (h : riseB xs 0 ((N : Int) - 1) = true) : ∀ v ∈ xs, 0 ≤ v ∧ v.toNat < N := fun v hv => by
  have := (propB_iff.1 h).1 v hv
  omega
set_option maxRecDepth 100000 in
set_option maxHeartbeats 4000000 in
theorem spec_MoveSet (ve vi vn vs vt : Value) (n : Net) (r : Int) (ss set : List Int) (w : World) (h : NetR w w.heap.size ve vi vn n) (hs : IntsR w w.heap.size vs ss) (ht : IntsR w w.heap.size vt set) (hz : n.es.length ≤ 2000000) (hzi : n.ids.length ≤ 2000000) (hzs : ss.length ≤ 1048576) (hzt : set.length ≤ 1048576) :
  Calls Tryz.prog 14 #[.agg #[ve, vi, vn], .int .i64 r, vs, vt] w (MvPost n r ss set w) := by
 have HN := Lib.hid h
 have HS := Lib.hid hs
 obtain ⟨⟨A0, m0, c0, rfl⟩, ⟨A1, m1, c1, rfl⟩, A2, m2, c2, rfl⟩ := h.slices
 obtain ⟨As, cs, rfl, -, -, -⟩ := hs.open_
 clear h hs
 obtain ⟨w0, hw0, hb0, HD, hz0, HS0⟩ := box3 w (.slice A0 m0 c0) (.slice A1 m1 c1) (.slice A2 m2 c2) 27
 have HW0 := Lib.hid hw0
 obtain ⟨q0, q1, q2, qf⟩ := cells3 HD
 have eq0 := q0
 have eq1 := q1
 have eq2 := q2
 rw [hw0] at eq0 eq1 eq2
 clear hw0
 have HTT := Lib.hid ht
 obtain ⟨At, ct, rfl, -, hcm, hsc⟩ := ht.open_
 unfold maxLen at hcm
 clear ht
 have HSC := Lib.hid hsc
 clear hsc
 go_enter Tryz.func14, Tryz.ntmps14
 go_wp2_with fail
 rw [← HW0.out]
 clear eq0 eq1 eq2
 refine (spec_ssStates _ _ _ _ n r ss w0 (HN.out.up hb0) (ints_upR HS.out hb0) hz hzs).mono ?_
 rintro e w1 ⟨rfl, hb1⟩
 have hzz1 := hb1.size
 have hB1 := bl_trans hb0 hb1
 have HD1 := bk HD hb1
 clear q0 q1 q2 qf
 obtain ⟨q0, q1, q2, qf⟩ := cells3 HD1
 have hbad : mvsB n r ss set = false → ∀ w', Below w.heap.size w w' → MvPost n r ss set w (.returned (.tuple #[.slice none 0 0, .bool false])) w' := fun h w' hb =>
  ⟨hb, .slice none 0 0, [], by rw [h], ⟨_, _, _, rfl⟩, ints_nil _ _, fun h' => absurd h' (by rw [h]; decide), fun _ => rfl⟩
 have HBAD := Lib.hid hbad
 clear hbad
 cases hsit : sitB n r ss with
 | false =>
  have hto : mvsB n r ss set = false := by unfold mvsB; rw [hsit]; rfl
  have HTO := Lib.hid hto
  clear hsit hto
  go_wp2_with fail
  exact bodyPost_ret (v := .tuple #[.slice none 0 0, .bool false]) (by simp [results, Tryz.results14, go_sem]) rfl (HBAD.out HTO.out _ hB1)
 | true =>
  have HSIT := Lib.hid hsit
  clear hsit
  go_wp2_with fail
  refine (spec_l1Rising _ set 0 ((ss.length : Int) - 1) w1 (ints_upR HTT.out hB1)).mono ?_
  rintro e w' ⟨rfl, rfl⟩
  cases hin : riseB set 0 ((ss.length : Int) - 1) with
  | false =>
   have hto : mvsB n r ss set = false := by unfold mvsB; rw [hin, Bool.and_false]; rfl
   have HTO := Lib.hid hto
   clear hin hto
   go_wp2_with fail
   exact bodyPost_ret (v := .tuple #[.slice none 0 0, .bool false]) (by simp [results, Tryz.results14, go_sem]) rfl (HBAD.out HTO.out _ hB1)
  | true =>
   have HIN := Lib.hid hin
   obtain ⟨hask, hsts⟩ := propB_iff.1 HSIT.out
   have HAS := Lib.hid hask
   have HST := Lib.hid hsts
   have HMV := Lib.hid (show mvsB n r ss set = set.all (fun x => hasB (enS n r ss) x) by unfold mvsB; rw [HSIT.out, hin]; rfl)
   clear hin hask hsts
   go_wp2_with fail
   refine (spec_ssEnabled _ _ _ _ n r ss w1 (HN.out.up hB1) HAS.out (ints_upR HS.out hB1) HST.out).mono ?_
   rintro e w4 ⟨u, rfl, ⟨A6, m6, c6, rfl⟩, he4, hb4⟩
   have HE4 := Lib.hid he4
   have hzz4 := hb4.size
   have hB4 := bl_trans hB1 hb4
   have HD4 := bk HD1 hb4
   clear q0 q1 q2 qf
   obtain ⟨q0, q1, q2, qf⟩ := cells3 HD4
   have hzt2 : set.length ≤ 2000000 := by omega
   clear he4 hb4
   go_wp2_with fail
   go_loopw [12, 32] (fun _ k wr => MsRel n r ss set w4 k wr) (fun _ k _ => set.length - (intOf k).toNat)
   case atStart => exact ⟨rfl, 0, Nat.zero_le _, rfl, fun i x hi => absurd hi (by omega)⟩
   case round =>
    obtain ⟨rfl, j, hjK, rfl, hto⟩ := hrel
    have HTO := Lib.hid hto
    clear hto
    by_cases hj : j < set.length
    ·
     obtain ⟨x, hx⟩ : ∃ y, set[j]? = some y := ⟨set[j], List.getElem?_eq_getElem hj⟩
     have hT4 := (ints_upR HTT.out hB4)
     obtain ⟨ad, rfl, hab, hrow⟩ := HSC.out (by omega)
     have hcell := (hB4.cell (p := ad.add j) (by unfold Addr.add; split <;> exact hab)).trans (hrow j x hx)
     have HX := Lib.hid hx
     clear hrow hx hT4
     go_wp2_with fail
     refine (spec_l1Has _ _ x w4 HE4.out).mono ?_
     rintro e w' ⟨rfl, rfl⟩
     cases hp : hasB (enS n r ss) x with
     | false =>
      have HF := Lib.hid (show mvsB n r ss set = false by
       rw [HMV.out, List.all_eq_false]
       exact ⟨x, List.mem_of_getElem? HX.out, by rw [hp]; decide⟩)
      clear hp
      go_wp2_with fail
      exact bodyPost_ret (v := .tuple #[.slice none 0 0, .bool false]) (by simp [results, Tryz.results14, go_sem]) rfl (HBAD.out HF.out _ hB4)
     | true =>
      have HP := Lib.hid hp
      clear hp
      go_wp2_with fail
      go_roundw
      case rel => exact ⟨rfl, j + 1, by omega, by go_num, fun i y hi hy => by
       rcases Nat.lt_or_ge i j with h1 | h1
       ·
        exact HTO.out i y h1 hy
       ·
        obtain rfl : i = j := by omega
        obtain rfl := Option.some.inj (HX.out.symm.trans hy)
        exact HP.out⟩
      case measure => simp [intOf]; omega
    ·
     have HT := Lib.hid (show mvsB n r ss set = true by
      rw [HMV.out, List.all_eq_true]
      intro x hx
      obtain ⟨i, hi⟩ := List.mem_iff_getElem?.1 hx
      exact HTO.out i x (by have := (List.getElem?_eq_some_iff.1 hi).1; omega) hi)
     go_wp2_with fail
     refine (spec_ssMove _ _ _ _ _ n r ss set w4 (HN.out.up hB4) HAS.out (ints_upR HS.out hB4) HST.out (ints_upR HTT.out hB4) (rise_in HIN.out) hzt2).mono ?_
     rintro e w5 ⟨u5, rfl, ⟨A7, m7, c7, rfl⟩, hm5, hb5⟩
     have HM5 := Lib.hid hm5
     have HB5 := Lib.hid (bl_trans hB4 hb5)
     clear hm5 hb5 q0 q1 q2 qf
     go_wp2_with fail
     exact bodyPost_ret (v := .tuple #[.slice A7 m7 c7, .bool true]) (by simp [results, Tryz.results14, go_sem]) rfl ⟨HB5.out, _, _, by rw [HT.out], ⟨_, _, _, rfl⟩, HM5.out, fun _ => rfl, fun h => absurd h (by rw [HT.out]; decide)⟩
theorem contains_mv (g : Nat) (lb : Array Value) (eg : ∀ args w, (callFunc g args).run Tryz.prog w = .ok (.enter g args) w) (p : Int → Bool) (v : Value) (xs : List Int) (w : World) (h : IntsR w w.heap.size v xs) (hl : xs.length ≤ 2000000)
    (n₀ : Nat) (hn : n₀ ≤ w.heap.size) (hp : Tells g lb p xs n₀ w) :
    Calls Tryz.prog 35 #[v, .func (.func g) #[] lb] w fun e w' => e = .returned (.bool (xs.any p)) ∧ Below w.heap.size w w' := by
  have J := Lib.hid (index_ints g lb eg p v xs w h hl n₀ hn hp)
  have HA := Lib.hid (portI_any (p := p) (l := xs))
  clear h hp
  go_enter Tryz.func35, Tryz.ntmps35
  go_wp2_with fail
  refine J.out.mono ?_
  rintro e w' ⟨rfl, hb⟩
  go_wp2_with fail
  go_ret
  exact ⟨ret_bool HA.out, hb⟩
theorem closure_mv (P : Nat) (v : Value) (xs : List Int) (x : Int) (w : World) (h : IntsR w w.heap.size v xs) (hp : w.cell? ⟨P, 0, none⟩ = some v) :
    Calls Tryz.prog 36 #[.int .i64 x, .pointer (some ⟨P, 0, none⟩)] w fun e w' => e = .returned (.bool (!hasB xs x)) ∧ Below w.heap.size w w' := by
  have HI := Lib.hid h
  obtain ⟨A1, m1, c1, rfl⟩ := h.isSlice
  clear h
  have HE := Lib.hid (has_contains xs x)
  go_enter Tryz.func36, Tryz.ntmps36
  go_wp2_with fail
  refine (impl_Contains _ xs x w HI.out).mono ?_
  rintro e w' ⟨rfl, rfl⟩
  go_wp2_with fail
  go_ret
  exact ⟨ret_bool (by rw [← HE.out]; simp), Below.refl _ _⟩
set_option maxRecDepth 100000 in
set_option maxHeartbeats 4000000 in
theorem impl_MoveSet (ve vi vn vs vt : Value) (n : Net) (r : Int) (ss set : List Int) (w : World) (h : NetR w w.heap.size ve vi vn n) (hs : IntsR w w.heap.size vs ss) (ht : IntsR w w.heap.size vt set) (hz : n.es.length ≤ 2000000) (hzi : n.ids.length ≤ 2000000) (hzs : ss.length ≤ 1048576) (hzt : set.length ≤ 1048576) :
  Calls Tryz.prog 11 #[.agg #[ve, vi, vn], .int .i64 r, vs, vt] w (MvPost n r ss set w) := by
 have HN := Lib.hid h
 have HS := Lib.hid hs
 obtain ⟨⟨A0, m0, c0, rfl⟩, ⟨A1, m1, c1, rfl⟩, A2, m2, c2, rfl⟩ := h.slices
 obtain ⟨As, cs, rfl, -, -, -⟩ := hs.open_
 clear h hs
 obtain ⟨w0, hw0, hb0, HD, hz0, HS0⟩ := box3 w (.slice A0 m0 c0) (.slice A1 m1 c1) (.slice A2 m2 c2) 27
 have HW0 := Lib.hid hw0
 obtain ⟨q0, q1, q2, qf⟩ := cells3 HD
 have eq0 := q0
 have eq1 := q1
 have eq2 := q2
 rw [hw0] at eq0 eq1 eq2
 clear hw0
 have HTT := Lib.hid ht
 obtain ⟨At, ct, rfl, -, hcm, hsc⟩ := ht.open_
 unfold maxLen at hcm
 clear ht
 have HSC := Lib.hid hsc
 clear hsc
 go_enter Tryz.func11, Tryz.ntmps11
 go_wp2_with fail
 rw [← HW0.out]
 clear eq0 eq1 eq2
 refine (impl_situationOk _ _ _ _ n r ss w0 (HN.out.up hb0) (ints_upR HS.out hb0) hz hzi).mono ?_
 rintro e w1 ⟨rfl, hb1⟩
 have hzz1 := hb1.size
 have hB1 := bl_trans hb0 hb1
 have HD1 := bk HD hb1
 clear q0 q1 q2 qf
 obtain ⟨q0, q1, q2, qf⟩ := cells3 HD1
 have hbad : mvsB n r ss set = false → ∀ w', Below w.heap.size w w' → MvPost n r ss set w (.returned (.tuple #[.slice none 0 0, .bool false])) w' := fun h w' hb =>
  ⟨hb, .slice none 0 0, [], by rw [h], ⟨_, _, _, rfl⟩, ints_nil _ _, fun h' => absurd h' (by rw [h]; decide), fun _ => rfl⟩
 have HBAD := Lib.hid hbad
 clear hbad
 cases hsit : sitB n r ss with
 | false =>
  have hto : mvsB n r ss set = false := by unfold mvsB; rw [hsit]; rfl
  have HTO := Lib.hid hto
  clear hsit hto
  go_wp2_with fail
  exact bodyPost_ret (v := .tuple #[.slice none 0 0, .bool false]) (by simp [results, Tryz.results11, go_sem]) rfl (HBAD.out HTO.out _ hB1)
 | true =>
  have HSIT := Lib.hid hsit
  clear hsit
  go_wp2_with fail
  refine (impl_increasing _ set 0 ((ss.length : Int) - 1) w1 (ints_upR HTT.out hB1)).mono ?_
  rintro e w' ⟨rfl, rfl⟩
  cases hin : riseB set 0 ((ss.length : Int) - 1) with
  | false =>
   have hto : mvsB n r ss set = false := by unfold mvsB; rw [hin, Bool.and_false]; rfl
   have HTO := Lib.hid hto
   clear hin hto
   go_wp2_with fail
   exact bodyPost_ret (v := .tuple #[.slice none 0 0, .bool false]) (by simp [results, Tryz.results11, go_sem]) rfl (HBAD.out HTO.out _ hB1)
  | true =>
   have HIN := Lib.hid hin
   obtain ⟨hask, hsts⟩ := propB_iff.1 HSIT.out
   have HAS := Lib.hid hask
   have HST := Lib.hid hsts
   have HMV := Lib.hid (show mvsB n r ss set = set.all (fun x => hasB (enS n r ss) x) by unfold mvsB; rw [HSIT.out, hin]; rfl)
   clear hin hask hsts
   go_wp2_with fail
   refine (impl_enabledNodes _ _ _ _ n r ss w1 (HN.out.up hB1) HAS.out (ints_upR HS.out hB1) HST.out).mono ?_
   rintro e w4 ⟨u, rfl, ⟨g6, c6, rfl, hg6⟩, he4, hb4⟩
   have HE4 := Lib.hid he4
   have hzz4 := hb4.size
   have hB4 := bl_trans hB1 hb4
   have HD4 := bk HD1 hb4
   clear q0 q1 q2 qf
   obtain ⟨q0, q1, q2, qf⟩ := cells3 HD4
   have hzt2 : set.length ≤ 2000000 := by omega
   clear he4 hb4 hg6
   obtain ⟨m6, hm6⟩ : ∃ m : Nat, m = (enS n r ss).length := ⟨_, rfl⟩
   rw [← hm6] at HE4 ⊢
   clear hm6
   have hz4 := HS0
   obtain ⟨w5, hw5, hb5, hd5, hz5⟩ : ∃ w5, w5 = w4.alloc (.cells #[.slice (some ⟨g6, 0, none⟩) m6 c6] 25) ∧ Below w4.heap.size w4 w5 ∧ Hid (w5.heap[w4.heap.size]? = some (.cells #[.slice (some ⟨g6, 0, none⟩) m6 c6] 25 (0, 0))) ∧ w4.heap.size < w5.heap.size :=
    ⟨_, rfl, bl_alloc (Below.refl _ _) _, Lib.hid (heap_alloc_new w4 _), by simp⟩
   have hE5 := Lib.hid (ints_upR HE4.out hb5)
   have HB5 := Lib.hid (bl_trans hB4 hb5)
   have JJ := fun W (hW : Below w5.heap.size w5 W) => Lib.hid (contains_mv 36 #[.pointer (some ⟨w4.heap.size, 0, none⟩)] (enters_of Tryz.func36 (by kernel_rfl) rfl) (fun x => !hasB (enS n r ss) x) _ set W (ints_upR HTT.out (bl_trans HB5.out hW)) hzt2 W.heap.size (Nat.le_refl _)
    fun W' x _ hW' => closure_mv w4.heap.size _ (enS n r ss) x W' (ints_upR (ints_upR hE5.out hW) hW') (by
     have := hW.size
     rw [hW'.cell (p := ⟨w4.heap.size, 0, none⟩) (by show w4.heap.size < W.heap.size; omega), hW.cell (p := ⟨w4.heap.size, 0, none⟩) (by show w4.heap.size < w5.heap.size; omega)]
     exact cell_of_row _ _ 0 _ _ (0, 0) hd5.out))
   have hD5 := bk HD4 hb5
   have HJ := Lib.hid (show set.any (fun x => !hasB (enS n r ss) x) = !mvsB n r ss set by
    rw [HMV.out, List.not_all_eq_any_not])
   have HRI := Lib.hid (rise_in HIN.out)
   go_wp2_with fail
   rw [show w4.alloc (.cells #[.slice (some ⟨g6, 0, none⟩) m6 c6] 25) = w5 from hw5.symm]
   refine (JJ w5 (Below.refl _ _)).out.mono ?_
   rintro e w6 ⟨rfl, hb6⟩
   rw [HJ.out]
   have hzz6 := hb6.size
   have HB6 := Lib.hid (bl_trans HB5.out hb6)
   have HD6 := bk hD5 hb6
   clear JJ hb5 hb6 hw5 hd5 q0 q1 q2 qf
   obtain ⟨q0, q1, q2, qf⟩ := cells3 HD6
   cases hm : mvsB n r ss set with
   | false =>
    have HF := Lib.hid hm
    clear hm
    go_wp2_with fail
    exact bodyPost_ret (v := .tuple #[.slice none 0 0, .bool false]) (by simp [results, Tryz.results11, go_sem]) rfl (HBAD.out HF.out _ HB6.out)
   | true =>
    have HF := Lib.hid hm
    clear hm
    go_wp2_with fail
    refine (impl_moveSet _ _ _ _ _ n r ss set w6 (HN.out.up HB6.out) HAS.out (ints_upR HS.out HB6.out) HST.out (ints_upR HTT.out HB6.out) HRI.out hzt2).mono ?_
    rintro e w7 ⟨u7, rfl, ⟨A7, m7, c7, rfl⟩, hm7, hb7⟩
    have HM7 := Lib.hid hm7
    have HB7 := Lib.hid (bl_trans HB6.out hb7)
    clear hm7 hb7 q0 q1 q2 qf
    go_wp2_with fail
    exact bodyPost_ret (v := .tuple #[.slice A7 m7 c7, .bool true]) (by simp [results, Tryz.results11, go_sem]) rfl ⟨HB7.out, _, _, by rw [HF.out], ⟨_, _, _, rfl⟩, HM7.out, fun _ => rfl, fun h => absurd h (by rw [HF.out]; decide)⟩
end Go.Proofs.YtdghoienjegffaaGreat
