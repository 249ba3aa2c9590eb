/-
  Successors of a situation, the reference's side: cvDaemons, cvNext, Successors.
-/
import Derived.Test.YthfgklckmedggaaGreatSetsAll
namespace Go.Proofs.YthfgklckmedggaaGreat
open Go.RowKit
set_option linter.unusedVariables false
set_option linter.unusedSimpArgs false
noncomputable def dmB (n : Net) (r d : Int) : Bool := cvB n r && (inB d 1 3 && (d != 3 || decide (n.es.length ≤ 6)))
theorem dm_cv {n : Net} {r d : Int} (h : dmB n r d = true) : cvB n r = true ∧ (1 ≤ d ∧ d ≤ 3) ∧ (d ≠ 1 → d ≠ 2 → n.es.length ≤ 6) := by
  unfold dmB at h
  rw [Bool.and_eq_true, Bool.and_eq_true, Bool.or_eq_true] at h
  obtain ⟨h1, h2, h3⟩ := h
  unfold inB at h2
  have h2 := of_decide_eq_true h2
  refine ⟨h1, h2, fun a b => ?_⟩
  rcases h3 with h3 | h3
  · rw [bne_iff_ne] at h3; omega
  · exact of_decide_eq_true h3
theorem spec_cvDaemon (d : Int) (w : World) : Calls Tryz.prog 55 #[.int .i64 d] w fun e w' => e = .returned (.bool (inB d 1 3)) ∧ w = w' := by
  go_enter Tryz.func55, Tryz.ntmps55
  go_wp2_with (go_at_call 38; refine (spec_l1In _ _ _ _).mono ?_; rintro e w' ⟨rfl, rfl⟩)
  go_ret
  exact ⟨rfl, rfl⟩
set_option maxRecDepth 100000 in
theorem spec_cvDaemons (ve vi vn : Value) (n : Net) (r d : Int) (w : World) (h : NetR w w.heap.size ve vi vn n) (hz : n.es.length ≤ 2000000) :
    Calls Tryz.prog 31 #[.agg #[ve, vi, vn], .int .i64 r, .int .i64 d] w fun e w' => e = .returned (.bool (dmB n r d)) ∧ Below w.heap.size w w' := by
  have HE := Lib.hid (show dmB n r d = (cvB n r && (inB d 1 3 && (d != 3 || decide (n.es.length ≤ 6)))) from rfl)
  obtain ⟨⟨A0, m0, c0, rfl⟩, ⟨A1, m1, c1, rfl⟩, A2, m2, c2, rfl⟩ := h.slices
  obtain ⟨w0, hw0, hB, HD, hz0, HS0⟩ := box3 w (.slice A0 m0 c0) (.slice A1 m1 c1) (.slice A2 m2 c2) 31
  have HN0 := Lib.hid h; have HN := Lib.hid (h.up hB); clear h
  have HW0 := Lib.hid hw0; clear hw0
  obtain ⟨q0, q1, q2, qf⟩ := cells3 HD
  obtain ⟨hm0, -, -⟩ := HN.out.e.len_slice
  subst hm0
  go_enter Tryz.func31, Tryz.ntmps31
  go_wp2_with fail
  rw [← HW0.out]
  refine (spec_cvAsked _ _ _ n r w0 HN.out hz).mono ?_
  rintro e w1 ⟨rfl, hb1⟩
  have hzhb1 := hb1.size
  clear q0 q1 q2 qf
  replace HD := bk HD hb1
  replace HN := Lib.hid (HN.out.up hb1)
  replace hB := bl_trans hB hb1
  obtain ⟨q0, q1, q2, qf⟩ := cells3 HD
  cases h1 : cvB n r with
  | false =>
    have HF := Lib.hid (show false = dmB n r d by rw [HE.out, h1]; rfl)
    go_wp2_with fail
    go_ret
    exact ⟨ret_bool HF.out, hB⟩
  | true =>
    have J := Lib.hid (spec_cvDaemon d w1)
    cases h2 : inB d 1 3 with
    | false =>
      rw [h2] at J
      have HF := Lib.hid (show false = dmB n r d by rw [HE.out, h1, h2]; rfl)
      go_wp2_with (go_at_call 55; refine J.out.mono ?_; rintro e w' ⟨rfl, rfl⟩)
      go_ret
      exact ⟨ret_bool HF.out, hB⟩
    | true =>
      rw [h2] at J
      cases h3 : (d != 3) with
      | true =>
        have HF := Lib.hid (show true = dmB n r d by rw [HE.out, h1, h2, h3]; rfl)
        go_wp2_with (go_at_call 55; refine J.out.mono ?_; rintro e w' ⟨rfl, rfl⟩)
        go_ret
        exact ⟨ret_bool HF.out, hB⟩
      | false =>
        have HF := Lib.hid (show decide ((n.es.length : Int) ≤ 6) = dmB n r d by
          rw [HE.out, h1, h2, h3]
          simp only [Bool.true_and, Bool.false_or]
          by_cases hc : n.es.length ≤ 6
          · rw [decide_eq_true hc, decide_eq_true (by omega)]
          · rw [decide_eq_false hc, decide_eq_false (by omega)])
        by_cases hc : (n.es.length : Int) ≤ 6
        · rw [decide_eq_true hc] at HF
          go_wp2_with (go_at_call 55; refine J.out.mono ?_; rintro e w' ⟨rfl, rfl⟩)
          go_ret
          exact ⟨ret_bool HF.out, hB⟩
        · go_wp2_with (go_at_call 55; refine J.out.mono ?_; rintro e w' ⟨rfl, rfl⟩)
          go_ret
          exact ⟨ret_bool HF.out, hB⟩
theorem setsS_len {en : List Int} {d : Int} (hl : en.length ≤ 40) (h6 : d ≠ 1 → d ≠ 2 → en.length ≤ 6) : (setsS en d).length ≤ 64 := by
  unfold setsS
  split
  · simp
  split
  · simp
  split
  · rw [List.length_map]; omega
  · rw [List.length_map, List.length_range]
    rename_i h0 h2 h1
    have hpw : 2 ^ en.length ≤ 2 ^ 6 := Nat.pow_le_pow_right (by omega) (h6 h1 h2)
    omega
theorem setsS_each {en : List Int} {d : Int} (hl : en.length ≤ 40) : ∀ set ∈ setsS en d, set.length ≤ 40 := fun set h => by
  unfold setsS at h
  split at h
  · cases h
  split at h
  · rw [List.mem_singleton] at h; subst h; exact hl
  split at h
  · obtain ⟨u, hu, rfl⟩ := List.mem_map.1 h
    simp
  · obtain ⟨m, hm, rfl⟩ := List.mem_map.1 h
    exact Nat.le_trans (pickTo_len _ _ _) hl
theorem putS_len : ∀ (l : List Int) (x : Int), (putS l x).length ≤ l.length + 1
  | [], x => by simp [putS]
  | y :: r, x => by
    have := putS_len r x
    unfold putS
    split
    · simp only [List.length_cons]; omega
    · split <;> simp
theorem puts_len : ∀ (L l : List Int), (L.foldl putS l).length ≤ l.length + L.length
  | [], l => by simp
  | x :: r, l => by
    have h1 := puts_len r (putS l x)
    have h2 := putS_len l x
    rw [List.foldl_cons, List.length_cons]
    omega
theorem putS_ne (l : List Int) (x : Int) : putS l x ≠ [] := fun h => by
  have : x ∈ putS l x := (putS_mem l x x).2 (.inl rfl)
  rw [h] at this
  cases this
theorem enS_len (n : Net) (r : Int) (ss : List Int) : (enS n r ss).length ≤ ss.length := enTo_len n r ss ss.length
noncomputable def outTo (n : Net) (r : Int) (ss : List Int) (sets : List (List Int)) (k : Nat) : List Int := ((sets.take k).map (numM n r ss)).foldl putS []
theorem outTo_succ {n : Net} {r : Int} {ss : List Int} {sets : List (List Int)} {k : Nat} {set : List Int} (h : sets[k]? = some set) : outTo n r ss sets (k + 1) = putS (outTo n r ss sets k) (numM n r ss set) := by
  obtain ⟨hk, e⟩ := List.getElem?_eq_some_iff.1 h
  unfold outTo
  rw [List.take_succ_eq_append_getElem hk, List.map_append, List.foldl_append, e]
  rfl
theorem outTo_len (n : Net) (r : Int) (ss : List Int) (sets : List (List Int)) (k : Nat) : (outTo n r ss sets k).length ≤ k := by
  unfold outTo
  refine Nat.le_trans (puts_len _ _) ?_
  rw [List.length_map, List.length_take]
  simp
  omega
theorem put_mem_same : ∀ {l : List Int} {x : Int}, Rising l → x ∈ l → putS l x = l
  | [], x, _, h => by cases h
  | y :: r, x, hr, h => by
    obtain ⟨h1, h2⟩ := List.pairwise_cons.1 hr
    unfold putS
    rcases List.mem_cons.1 h with rfl | h
    · rw [if_neg (by omega), if_pos rfl]
    · rw [if_pos (h1 x h), put_mem_same h2 h]
theorem outTo_rising (n : Net) (r : Int) (ss : List Int) (sets : List (List Int)) (k : Nat) : Rising (outTo n r ss sets k) := puts_rising _ _ List.Pairwise.nil
def NxRel (n : Net) (r : Int) (ss : List Int) (sets : List (List Int)) (w : World) (v i : Value) (wr : World) : Prop :=
  ∃ k : Nat, k ≤ sets.length ∧ i = .int .i64 k ∧ IntsR wr wr.heap.size v (outTo n r ss sets k) ∧ (outTo n r ss sets k = [] → v = .slice none 0 0) ∧ wr.ownsRow w.heap.size 3 1 v (outTo n r ss sets k).length ((outTo n r ss sets k).map intV) ∧ Below w.heap.size w wr
set_option maxRecDepth 100000 in
set_option maxHeartbeats 1000000 in
theorem spec_cvNext (ve vi vn vc : Value) (n : Net) (r d x : Int) (w : World) (h : NetR w w.heap.size ve vi vn n) (hcv : cvB n r = true) (hd6 : d ≠ 1 → d ≠ 2 → n.es.length ≤ 6) (hc : IntsR w w.heap.size vc (cnts n r)) (hx0 : 0 ≤ x) (hx1 : x ≤ 3000) :
    Calls Tryz.prog 58 #[.agg #[ve, vi, vn], .int .i64 r, .int .i64 d, vc, .int .i64 x] w fun e w' => ∃ u, e = .returned u ∧ (∃ A m c, u = .slice A m c) ∧ IntsR w' w'.heap.size u (nextN n r d x) ∧ w'.ownsRow w.heap.size 3 1 u (nextN n r d x).length ((nextN n r d x).map intV) ∧ Below w.heap.size w w' := by
  have ha : askP n r := by
    unfold cvB at hcv
    rw [Bool.and_eq_true] at hcv
    exact propB_iff.1 hcv.1
  have hfew := (few_of hcv).1
  have hS := stsS_ok (x := x) (fun k hk => (hfew.1 k hk).1) hx0
  have h40 := ha.1.1.2
  have hslen : (stsS (cnts n r) x).length = n.es.length := by rw [stsS_len, cnts_len]
  have HA := Lib.hid ha
  have HFW := Lib.hid hfew
  have HS := Lib.hid hS; clear ha hfew hS
  have HCI := Lib.hid hc
  obtain ⟨Ac, cc, rfl, -, -, -⟩ := hc.open_
  clear hc
  have hel : (enS n r (stsS (cnts n r) x)).length ≤ n.es.length := by rw [← hslen]; exact enS_len _ _ _
  have hstl := setsS_len (en := enS n r (stsS (cnts n r) x)) (d := d) (by omega) (fun a b => by have := hd6 a b; omega)
  have HLEN := Lib.hid (setsS_each (en := enS n r (stsS (cnts n r) x)) (d := d) (by omega))
  have HOK := Lib.hid (fun set (hm : set ∈ setsS (enS n r (stsS (cnts n r) x)) d) => set_ok hm)
  have HNX := Lib.hid (show outTo n r (stsS (cnts n r) x) (setsS (enS n r (stsS (cnts n r) x)) d) (setsS (enS n r (stsS (cnts n r) x)) d).length = nextN n r d x by
    unfold outTo nextN succL
    rw [List.take_length])
  obtain ⟨⟨A0, m0, c0, rfl⟩, ⟨A1, m1, c1, rfl⟩, A2, m2, c2, rfl⟩ := h.slices
  obtain ⟨w0, hw0, hB, HD, hz0, HS0⟩ := box3 w (.slice A0 m0 c0) (.slice A1 m1 c1) (.slice A2 m2 c2) 31
  have HN0 := Lib.hid h; have HN := Lib.hid (h.up hB); clear h
  have HW0 := Lib.hid hw0; clear hw0
  obtain ⟨q0, q1, q2, qf⟩ := cells3 HD
  have HI := Lib.hid ((HCI.out.below hB).more hB.size)
  go_enter Tryz.func58, Tryz.ntmps58
  go_wp2_with fail
  rw [← HW0.out]
  refine (spec_cvStates _ (cnts n r) x w0 HI.out HFW.out hx0 hx1).mono ?_
  rintro e w1 ⟨u, rfl, ⟨A5, m5, c5, rfl⟩, hu, hb1⟩
  generalize stsS (cnts n r) x = ss at *
  have HST := Lib.hid hu; clear hu
  replace HI := Lib.hid ((HI.out.below hb1).more hb1.size)
  have hzhb1 := hb1.size
  clear q0 q1 q2 qf
  replace HD := bk HD hb1
  replace HN := Lib.hid (HN.out.up hb1)
  replace hB := bl_trans hB hb1
  obtain ⟨q0, q1, q2, qf⟩ := cells3 HD
  go_wp2_with fail
  refine (spec_ssEnabled _ _ _ _ n r ss w1 HN.out HA.out HST.out HS.out).mono ?_
  rintro e w2 ⟨u, rfl, ⟨A6, m6, c6, rfl⟩, hu, hb2⟩
  generalize enS n r ss = en at *
  have HEN := Lib.hid hu; clear hu
  replace HI := Lib.hid ((HI.out.below hb2).more hb2.size)
  replace HST := Lib.hid ((HST.out.below hb2).more hb2.size)
  have hzhb2 := hb2.size
  clear q0 q1 q2 qf
  replace HD := bk HD hb2
  replace HN := Lib.hid (HN.out.up hb2)
  replace hB := bl_trans hB hb2
  obtain ⟨q0, q1, q2, qf⟩ := cells3 HD
  go_wp2_with fail
  refine (spec_cvSets _ en d w2 HEN.out (by omega) (fun a b => by have := hd6 a b; omega)).mono ?_
  rintro e w3 ⟨u, rfl, ⟨A7, m7, c7, rfl⟩, hu, hb3⟩
  generalize setsS en d = sets at *
  replace HI := Lib.hid ((HI.out.below hb3).more hb3.size)
  replace HST := Lib.hid ((HST.out.below hb3).more hb3.size)
  have hzhb3 := hb3.size
  clear q0 q1 q2 qf
  replace HD := bk HD hb3
  replace HN := Lib.hid (HN.out.up hb3)
  replace hB := bl_trans hB hb3
  obtain ⟨q0, q1, q2, qf⟩ := cells3 HD
  obtain ⟨A8, c8, e8, hc8, hcm, hrow⟩ := hu.open_
  cases e8
  have HROW := Lib.hid hrow; clear hrow hu
  unfold maxLen at hcm
  go_wp2_with fail
  obtain ⟨wz, rfl⟩ : ∃ z, z = w3 := ⟨_, rfl⟩
  go_loopw [12, 14, 25] (fun v _ i wr => NxRel n r ss sets wz v i wr) (fun _ _ i _ => sets.length - (intOf i).toNat)
  case atStart => exact ⟨0, Nat.zero_le _, rfl, ints_nil _ _, fun _ => rfl, World.ownsRow_nil _ _ _ _, Below.refl _ _⟩
  case round =>
    obtain ⟨k, hk, rfl, hout, hnil, how, hbl⟩ := hrel
    have HOW := Lib.hid how; clear how
    have hwz := hbl.size
    have HOUT := Lib.hid hout
    have HNIL := Lib.hid hnil; clear hnil
    obtain ⟨A9, m9, c9, rfl⟩ := hout.isSlice
    clear hout
    have hb4 := bl_trans hb3 hbl
    have HI4 := Lib.hid ((HI.out.below hbl).more hbl.size)
    have HST4 := Lib.hid ((HST.out.below hbl).more hbl.size)
    have hzhbl := hbl.size
    clear q0 q1 q2 qf
    replace HD := bk HD hbl
    replace HN := Lib.hid (HN.out.up hbl)
    replace hB := bl_trans hB hbl
    obtain ⟨q0, q1, q2, qf⟩ := cells3 HD
    by_cases hlt : k < sets.length
    · obtain ⟨set, hset⟩ : ∃ set, sets[k]? = some set := ⟨_, List.getElem?_eq_getElem hlt⟩
      obtain ⟨ad, rfl, hab, hrow⟩ := HROW.out (by omega)
      obtain ⟨u, hcu, hru⟩ := hrow k set hset
      obtain ⟨Au, mu, cu, rfl⟩ := hru.isSlice
      have hcr := (hbl.cell (p := ad.add k) (by rw [block_add]; exact hab)).trans hcu
      have HSET := Lib.hid ((hru.below hbl).more hbl.size)
      have hok := HOK.out set (List.mem_of_getElem? hset)
      have hsl : set.length ≤ 2000000 := by have := HLEN.out set (List.mem_of_getElem? hset); omega
      have HON := Lib.hid (outTo_succ (n := n) (r := r) (ss := ss) hset)
      have hol := outTo_len n r ss sets k
      have hnb := numM_bd HA.out HFW.out HS.out hok
      have hms := moveS_sts HA.out HS.out set hok
      have h3k := HFW.out.2.1
      clear hrow hcu hru hset
      go_wp2_with fail
      refine (spec_ssMove _ _ _ _ _ n r ss set wr HN.out HA.out HST4.out HS.out HSET.out hok hsl).mono ?_
      rintro e w5 ⟨u, rfl, ⟨A10, m10, c10, rfl⟩, hu, hb5⟩
      have HMV := Lib.hid hu; clear hu
      replace HI4 := Lib.hid ((HI4.out.below hb5).more hb5.size)
      replace HOUT := Lib.hid ((HOUT.out.below hb5).more hb5.size)
      replace HOW := Lib.hid (own_keep4 HOW.out hb5.size (fun b _ hb => hb5.block b hb))
      have hz5 := hb5.size
      go_wp2_with fail
      refine (spec_cvNumber _ _ (cnts n r) (moveS n r ss set) w5 HI4.out HMV.out HFW.out hms).mono ?_
      rintro e w6 ⟨rfl, a6, hw6⟩
      have hb6 : Below w5.heap.size w5 w6 := by rw [hw6]; exact bl_drewN (Below.refl _ _) _
      clear hw6
      replace HOUT := Lib.hid ((HOUT.out.below hb6).more hb6.size)
      replace HOW := Lib.hid (own_keep4 HOW.out hb6.size (fun b _ hb => hb6.block b hb))
      have hz6 := hb6.size
      go_wp2_with fail
      refine (spec_l1Put _ (outTo n r ss sets k) (numM n r ss set) w6 HOUT.out (by omega) (by unfold I64; omega) HNIL.out).mono ?_
      rintro e w7 ⟨u, rfl, ⟨A11, m11, c11, rfl⟩, hu, hso, hb7⟩
      have HU7 := Lib.hid hu; clear hu
      have HOW7 := Lib.hid (show w7.ownsRow wz.heap.size 3 1 (.slice A11 m11 c11) (putS (outTo n r ss sets k) (numM n r ss set)).length ((putS (outTo n r ss sets k) (numM n r ss set)).map intV) from by
        rcases hso with ⟨e, hm⟩ | h
        · rw [e, put_mem_same (outTo_rising _ _ _ _ _) hm]
          exact own_keep4 HOW.out hb7.size (fun b _ hb => hb7.block b hb)
        · exact own_mono h (by omega))
      clear hso
      go_wp2_with fail
      go_roundw
      case rel => exact ⟨k + 1, by omega, by go_num, by rw [HON.out]; exact HU7.out, by rw [HON.out]; exact fun e => absurd e (putS_ne _ _), by rw [HON.out]; exact HOW7.out, bl_trans (bl_trans (bl_trans hbl hb5) hb6) hb7⟩
      case measure => simp [intOf]; omega
    · obtain rfl : k = sets.length := by omega
      have HF := Lib.hid (show IntsR wr wr.heap.size (.slice A9 m9 c9) (nextN n r d x) by rw [← HNX.out]; exact HOUT.out)
      have HFO := Lib.hid (show wr.ownsRow wz.heap.size 3 1 (.slice A9 m9 c9) (nextN n r d x).length ((nextN n r d x).map intV) by rw [← HNX.out]; exact HOW.out)
      have hwz3 := hb3.size
      have hwB := hB.size
      go_wp2_with fail
      go_ret
      exact ⟨_, rfl, ⟨_, _, _, rfl⟩, HF.out, own_mono HFO.out (by omega), hB⟩
noncomputable def scB (n : Net) (r d x : Int) : Bool := dmB n r d && inB x 0 (capd (cnts n r) - 1)
noncomputable def scL (n : Net) (r d x : Int) : List Int := if scB n r d x = true then nextN n r d x else []
theorem sc_f {n : Net} {r d x : Int} (h : scB n r d x = false) : scL n r d x = [] := if_neg (by rw [h]; simp)
theorem sc_t {n : Net} {r d x : Int} (h : scB n r d x = true) : scL n r d x = nextN n r d x := if_pos h
end Go.Proofs.YthfgklckmedggaaGreat
