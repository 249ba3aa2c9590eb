/-
  Networks, the program's side: whether a list is a situation; its number; the situation of a number.
-/
import Derived.Test.YtfhecpkhifdnbaaGreatNetExp
namespace Go.Proofs.YtfhecpkhifdnbaaGreat
open Go.RowKit
set_option linter.unusedVariables false
set_option linter.unusedSimpArgs false
theorem impl_situationOk (ve vi vn vs : Value) (n : Net) (r : Int) (ss : List Int) (w : World) (h : NetR w w.heap.size ve vi vn n) (hs : IntsR w w.heap.size vs ss) (hz : n.es.length ≤ 2000000) (hzi : n.ids.length ≤ 2000000) :
    Calls Tryz.prog 53 #[.agg #[ve, vi, vn], .int .i64 r, vs] w fun e w' => e = .returned (.bool (sitB n r ss)) ∧ Below w.heap.size w w' := by
  have HSS := Lib.hid hs
  obtain ⟨As, cs, rfl, -, hcm, hsc⟩ := hs.open_
  clear hs
  obtain ⟨⟨A0, m0, c0, rfl⟩, ⟨A1, m1, c1, rfl⟩, A2, m2, c2, rfl⟩ := h.slices
  obtain ⟨w0, hw0, hB, HD, hz0, HS0⟩ := box3 w (.slice A0 m0 c0) (.slice A1 m1 c1) (.slice A2 m2 c2) 31
  have HN0 := Lib.hid h; have HN := Lib.hid (h.up hB); clear h
  have HW0 := Lib.hid hw0; clear hw0
  obtain ⟨q0, q1, q2, qf⟩ := cells3 HD
  obtain ⟨hm0, -, -⟩ := HN.out.e.len_slice
  subst hm0
  unfold maxLen at hcm
  go_enter Tryz.func53, Tryz.ntmps53
  go_wp2_with fail
  rw [← HW0.out]
  refine (impl_ruleOk _ _ _ n r w0 HN.out hz hzi).mono ?_
  rintro e w1 ⟨rfl, hb1⟩
  have hzhb1 := hb1.size
  clear q0 q1 q2 qf
  replace HD := bk HD hb1
  replace HN := Lib.hid (HN.out.up hb1)
  replace hB := bl_trans hB hb1
  obtain ⟨q0, q1, q2, qf⟩ := cells3 HD
  cases h1 : askB n r with
  | false =>
    go_wp2_with fail
    go_ret
    exact ⟨ret_bool (sit_noA h1).symm, hB⟩
  | true =>
    have HA := Lib.hid h1
    have HP := Lib.hid (askB_net h1)
    have h40 := HP.out.1.2
    by_cases hl : ss.length = n.es.length
    · have HL := Lib.hid hl
      have kq : (((ss.length : Nat) : Int) != (n.es.length : Int)) = false := by rw [hl]; simp
      clear hl h1
      go_wp2_with fail
      refine (impl_stateCounts _ _ _ n r w1 HN.out HP.out).mono ?_
      rintro e w2 ⟨u, rfl, ⟨A', m', c', rfl⟩, hu, hb2⟩
      obtain ⟨hm', -, hcm', hc'⟩ := hu.some_
      rw [cnts_len] at hm'
      subst hm'
      have hcl := cnts_len n r
      have hcb := cnts_bd HP.out r
      have HU2 := Lib.hid hu; clear hu hc' hcm'
      have hzhb2 := hb2.size
      clear q0 q1 q2 qf
      replace HD := bk HD hb2
      replace HN := Lib.hid (HN.out.up hb2)
      replace hB := bl_trans hB hb2
      obtain ⟨q0, q1, q2, qf⟩ := cells3 HD
      have HCL := Lib.hid hcl; clear hcl
      have HCB := Lib.hid hcb; clear hcb
      go_wp2_with fail
      go_loopw [7, 8, 25] (fun _ _ i wr => SsRel n r ss w2 i wr) (fun _ _ i _ => ss.length - (intOf i).toNat)
      case atStart => exact ⟨Below.refl _ _, 0, Nat.zero_le _, rfl, fun _ _ _ h => absurd h (by omega)⟩
      case round =>
        obtain ⟨hb3, k, hk, rfl, hup⟩ := hrel
        have HU := Lib.hid hup; clear hup
        have HUR := Lib.hid (HU2.out.below hb3)
        have hzhb3 := hb3.size
        clear q0 q1 q2 qf
        replace HD := bk HD hb3
        replace HN := Lib.hid (HN.out.up hb3)
        replace hB := bl_trans hB hb3
        obtain ⟨q0, q1, q2, qf⟩ := cells3 HD
        have hkl : k ≤ n.es.length := by have := HL.out; omega
        by_cases hlt : k < n.es.length
        · have hlt2 : k < ss.length := by have := HL.out; omega
          obtain ⟨s, hs⟩ : ∃ s, ss[k]? = some s := ⟨_, List.getElem?_eq_getElem hlt2⟩
          obtain ⟨q, hq⟩ : ∃ q, (cnts n r)[k]? = some q := ⟨_, List.getElem?_eq_getElem (by rw [HCL.out]; exact hlt)⟩
          obtain ⟨ad, rfl, hb, hc⟩ := hsc (by omega)
          have hcell := (hB.cell (p := ad.add k) (by rw [block_add]; exact hb)).trans (hc k s hs)
          obtain ⟨-, -, hcm2, hc2⟩ := HUR.out.some_
          obtain ⟨ad2, rfl, -, hcc2⟩ := hc2 (by rw [HCL.out]; omega)
          have hcell2 := hcc2 k q hq
          have hqb := HCB.out q (List.mem_of_getElem? hq)
          have hwr : IntKind.i64.wrap (q - 1) = q - 1 := IntWalk.i64_in _ (by omega)
          have HS := Lib.hid hs
          have HK := Lib.hid hq
          clear hsc hc hs hq hcc2 hc2 hcm2
          cases hi : inB s 0 (q - 1) with
          | false =>
            go_wp2_with (go_at_call 75; refine (impl_within _ _ _ _).mono ?_; rintro e w' ⟨rfl, rfl⟩)
            go_ret
            exact ⟨ret_bool (sit_noS HK.out HS.out hi).symm, hB⟩
          | true =>
            go_wp2_with (go_at_call 75; refine (impl_within _ _ _ _).mono ?_; rintro e w' ⟨rfl, rfl⟩)
            go_roundw
            case rel => exact ⟨hb3, k + 1, by omega, by go_num, HU.out.next HK.out HS.out hi⟩
            case measure => simp [intOf]; omega
        · have HF := Lib.hid (sit_end HA.out HL.out HU.out (by have := HL.out; omega))
          go_wp2_with fail
          go_ret
          exact ⟨ret_bool HF.out.symm, hB⟩
    · have kq : (((ss.length : Nat) : Int) != (n.es.length : Int)) = true := by rw [bne_iff_ne]; omega
      have HF := Lib.hid (sit_noL (n := n) (r := r) hl)
      clear hl
      go_wp2_with fail
      go_ret
      exact ⟨ret_bool HF.out.symm, hB⟩
theorem impl_states (G : Nat) (A0 : Option Addr) (m0 c0 : Nat) (cs : List Int) (x : Int) (w : World) (hg : w.cell? ⟨G, 5, none⟩ = some (.slice A0 m0 c0)) (h : IntsR w w.heap.size (.slice A0 m0 c0) cs) (hf : Few cs) (hx0 : 0 ≤ x) (hx1 : x ≤ 3000) :
    Calls Tryz.prog 139 #[.pointer (some ⟨G, 0, none⟩), .int .i64 x] w fun e w' => ∃ u, e = .returned u ∧ (∃ A m c, u = .slice A m c) ∧ IntsR w' w'.heap.size u (stsS cs x) ∧ w'.ownsRow w.heap.size 3 1 u (stsS cs x).length ((stsS cs x).map intV) ∧ Below w.heap.size w w' := by
  obtain ⟨hm, h1, h2, h3⟩ := h.some_
  subst hm
  unfold maxLen at h2
  have h40 := hf.2.2
  have HF := Lib.hid hf
  clear h hf
  have HLS := Lib.hid (stsS_len cs x)
  go_enter Tryz.func139, Tryz.ntmps139
  go_wp2_with fail
  clear hg
  go_loopw [5, 7, 1, 13] (fun v _ xv i wr => StsRel cs x w v xv i wr) (fun _ _ _ i _ => cs.length - (intOf i).toNat)
  case atStart => exact ⟨0, x, Nat.zero_le _, rfl, rfl, .start cs hx0, World.ownsRow_nil _ _ _ _, Below.refl _ _⟩
  case round =>
    obtain ⟨k, y, hk, rfl, rfl, hst, hown, hbl⟩ := hrel
    by_cases hlt : k < cs.length
    · obtain ⟨a, ha⟩ : ∃ a, cs[k]? = some a := ⟨_, List.getElem?_eq_getElem hlt⟩
      obtain ⟨ad, rfl, hb, hc⟩ := h3 (by omega)
      have hcell := (hbl.cell (p := ad.add k) (by rw [block_add]; exact hb)).trans (hc k a ha)
      have hab := HF.out.1 a (List.mem_of_getElem? ha)
      obtain ⟨hn1, hn2⟩ := hst.next ha hab.1
      have HN := Lib.hid hn1
      have HS := Lib.hid (ints_snoc hn2)
      have hy : 0 ≤ y ∧ y ≤ 3000 := by have := hst.2; omega
      have hm : 0 ≤ y.tmod a ∧ y.tmod a < 41 := ⟨Int.tmod_nonneg _ hy.1, by have := Int.tmod_lt_of_pos y (show 0 < a by omega); omega⟩
      have hd : 0 ≤ y.tdiv a ∧ y.tdiv a ≤ 3000 := ⟨Int.tdiv_nonneg hy.1 (by omega), by have := Int.tdiv_le_self a hy.1; omega⟩
      have hnz : (a == 0) = false := by rw [beq_eq_false_iff_ne]; omega
      have hwd : IntKind.i64.wrap (y.tdiv a) = y.tdiv a := IntWalk.i64_in _ (by omega)
      have hwm : IntKind.i64.wrap (y.tmod a) = y.tmod a := IntWalk.i64_in _ (by omega)
      clear h3 hc ha hst hn1 hn2
      generalize hqm : y.tmod a = qm at *
      generalize hqd : y.tdiv a = qd at *
      go_wp2_with ((at_builtin; refine wpList_append1 wr rfl (.tmp 17) (.tmp 21) 23 rfl w.heap.size 3 _ 8 Tryz.underlying23 intInfo rfl _ _ _ rfl _ rfl rfl hown (by unfold maxLen; omega) (by omega) hbl.size ?_; intro v' w' hown' hbl' hgr' hlt' hob'))
      go_roundw
      case rel => exact ⟨k + 1, qd, by omega, by go_num, rfl, HN.out, by rw [HS.out]; exact hown', hbl.trans hbl'⟩
      case measure => simp [intOf]; omega
    · have hI := IntsRel.fin hown (by rw [HLS.out]; omega) (fun z hz => by
        obtain ⟨j, hj⟩ := List.mem_iff_getElem?.1 hz
        have hjl : j < cs.length := by rw [← HLS.out]; exact (List.getElem?_eq_some_iff.1 hj).1
        have := (stsS_ok (x := x) (fun k hk => (HF.out.1 k hk).1) hx0).2 j _ z (List.getElem?_eq_getElem hjl) hj
        have := HF.out.1 _ (List.getElem_mem hjl)
        unfold I64
        omega)
      have HO := Lib.hid hI; clear hI
      obtain rfl : k = cs.length := by omega
      rw [List.take_of_length_le (by rw [HLS.out]; exact Nat.le_refl _)] at hown
      have HW := Lib.hid hown; clear hown
      go_wp2_with fail
      go_ret
      exact ⟨_, rfl, HO.out.isSlice, HO.out, by rw [HLS.out]; exact HW.out, hbl⟩
theorem so_cv {n : Net} {r x : Int} (h : cvB n r = true) : soB n r x = inB x 0 (sitG (cnts n r) 1 - 1) := by
  have ha : askB n r = true := by
    unfold cvB at h
    exact (Bool.and_eq_true_iff.1 h).1
  unfold soB
  rw [h, ← ct_sit h, ctN_t h]
  rfl
def SnPost (n : Net) (r x : Int) (w : World) (e : Ending) (w' : World) : Prop :=
  ∃ u, e = .returned (.tuple #[u, .bool (soB n r x)]) ∧ (∃ A m c, u = .slice A m c) ∧ IntsR w' w'.heap.size u (soL n r x) ∧ w'.ownsRow w.heap.size 3 1 u (soL n r x).length ((soL n r x).map intV) ∧ Below w.heap.size w w'
end Go.Proofs.YtfhecpkhifdnbaaGreat
