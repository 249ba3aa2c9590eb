/-
  Small lemmas and contracts that the texts of this claim share. No condition.
-/
import Derived.Test.YtdghoienjegffaaGreatRPlainCalmG
namespace Go.Proofs.YtdghoienjegffaaGreat
open Go.RowKit
set_option linter.all false
def CenPost (n : Net) (r : Int) (ss ps : List Int) (most : Int) (w : World) (e : Ending) (w' : World) : Prop :=
  Below w.heap.size w w' ∧ ∃ (u : Value) (k : Int) (xs : List Int), e = .returned (.tuple #[u, .int .i64 k, .bool (cenB n r ss ps most)]) ∧ (∃ A m c, u = .slice A m c) ∧ IntsR w' w'.heap.size u xs ∧
    (cenB n r ss ps most = true → k = (cenN n r ps ss most.toNat 0 : Nat) ∧ xs = cenS n r ps ss (cenN n r ps ss most.toNat 0)) ∧ (cenB n r ss ps most = false → k = 0 ∧ xs = [])
theorem CenPost.bad {n : Net} {r : Int} {ss ps : List Int} {most : Int} {w w' : World} (h : cenB n r ss ps most = false) (hb : Below w.heap.size w w') : CenPost n r ss ps most w (.returned (.tuple #[.slice none 0 0, .int .i64 0, .bool false])) w' :=
  ⟨hb, .slice none 0 0, 0, [], by rw [h], ⟨_, _, _, rfl⟩, ints_nil _ _, fun h' => absurd h' (by rw [h]; decide), fun _ => ⟨rfl, rfl⟩⟩
theorem CenPost.good {n : Net} {r : Int} {ss ps : List Int} {K j : Nat} {w w' : World} {u : Value} (h : cenB n r ss ps K = true) (hb : Below w.heap.size w w') (hu : ∃ A m c, u = .slice A m c) (hi : IntsR w' w'.heap.size u (cenS n r ps ss j)) (hj : cenN n r ps ss K 0 = j) : CenPost n r ss ps K w (.returned (.tuple #[u, .int .i64 (j : Int), .bool true])) w' := by subst hj;exact ⟨hb, u, _, _, by rw [h], hu, hi, fun _ => ⟨by rw [Int.toNat_natCast], by rw [Int.toNat_natCast]⟩, fun h' => absurd h' (by rw [h]; decide)⟩
theorem enS_le (n : Net) (r : Int) (ss : List Int) : (enS n r ss).length ≤ ss.length := by unfold enS enN;rw [List.length_map];exact Nat.le_trans (List.length_filter_le _ _) (by rw [List.length_range]; exact Nat.le_refl _)
theorem pick_reads {n : Net} {r : Int} {ps xs : List Int} {j : Nat} (h1 : 1 ≤ ps.length) (h0 : ∀ x ∈ ps, 0 ≤ x) (he : ¬ enS n r xs = []) : ∃ (jm pn kk : Nat) (v : Int), (j : Int).tmod (ps.length : Int) = (jm : Int) ∧ jm < ps.length ∧ ps[jm]? = some (pn : Int) ∧ (pn : Int).tmod ((enS n r xs).length : Int) = (kk : Int) ∧ kk < (enS n r xs).length ∧ (enS n r xs)[kk]? = some v ∧ v = pickV n r ps j xs := by obtain ⟨x, hx, hx2⟩ := pick_at (ps := ps) (j := j) h1;have h2 := h0 x (List.mem_of_getElem? hx);refine ⟨j % ps.length, x.toNat, pickK n r ps j xs, _, (Int.ofNat_tmod j ps.length).symm, Nat.mod_lt _ (by omega), by rw [hx, Int.toNat_of_nonneg h2], ?_, pickK_lt he, pickV_at he, rfl⟩;unfold pickK;rw [hx2];exact (Int.ofNat_tmod x.toNat _).symm
def PkRel (ps : List Int) (w : World) (i : Value) (wr : World) : Prop := w = wr ∧ ∃ k : Nat, k ≤ ps.length ∧ i = .int .i64 (k : Int) ∧ ∀ x ∈ ps.take k, 0 ≤ x
def RcRel (n : Net) (r : Int) (ps ss : List Int) (K : Nat) (w : World) (now k en : Value) (wr : World) : Prop :=
  Below w.heap.size w wr ∧ ∃ j : Nat, j ≤ K ∧ k = .int .i64 (j : Int) ∧ (∃ A m c, now = .slice A m c) ∧ IntsR wr wr.heap.size now (cenS n r ps ss j) ∧ (∃ A m c, en = .slice A m c) ∧ IntsR wr wr.heap.size en (enS n r (cenS n r ps ss j)) ∧ cenN n r ps ss (K - j) j = cenN n r ps ss K 0
set_option maxRecDepth 100000 in
set_option maxHeartbeats 4000000 in
theorem spec_RunCentral (ve vi vn vs vp : Value) (n : Net) (r : Int) (ss ps : List Int) (most : Int) (w : World) (h : NetR w w.heap.size ve vi vn n) (hs : IntsR w w.heap.size vs ss) (hp : IntsR w w.heap.size vp ps) (hz : n.es.length ≤ 2000000) (hzs : ss.length ≤ 1048576) :
  Calls Tryz.prog 17 #[.agg #[ve, vi, vn], .int .i64 r, vs, vp, .int .i64 most] w (CenPost n r ss ps most w) := by
 have HN := Lib.hid h;have HS := Lib.hid hs;have HP := Lib.hid hp;obtain ⟨⟨A0, m0, c0, rfl⟩, ⟨A1, m1, c1, rfl⟩, A2, m2, c2, rfl⟩ := h.slices;obtain ⟨As, ms, cs, rfl⟩ := hs.isSlice;obtain ⟨Ap, cp, rfl, -, hcp, -⟩ := hp.open_;unfold maxLen at hcp;clear h hs hp;obtain ⟨w0, hw0, hb0, HD, hz0, HS0⟩ := box3 w (.slice A0 m0 c0) (.slice A1 m1 c1) (.slice A2 m2 c2) 27;have HW0 := Lib.hid hw0;obtain ⟨q0, q1, q2, qf⟩ := cells3 HD;have eq0 := q0;have eq1 := q1;have eq2 := q2;rw [hw0] at eq0 eq1 eq2;clear hw0;go_enter Tryz.func17, Tryz.ntmps17;go_wp2_with fail;rw [← HW0.out];clear eq0 eq1 eq2;refine (spec_ssStates _ _ _ _ n r ss w0 (HN.out.up hb0) (ints_upR HS.out hb0) hz hzs).mono ?_;rintro e w1 ⟨rfl, hb1⟩;have hzz1 := hb1.size;have hB1 := bl_trans hb0 hb1;have HD1 := bk HD hb1;have HPI := Lib.hid (ints_upR HP.out hB1);clear q0 q1 q2 qf;obtain ⟨q0, q1, q2, qf⟩ := cells3 HD1;cases hsit : sitB n r ss with
 | false =>
  have HTO := Lib.hid (show cenB n r ss ps most = false by unfold cenB; rw [hsit]; rfl);clear hsit;go_wp2_with fail;exact bodyPost_ret (v := .tuple #[.slice none 0 0, .int .i64 0, .bool false]) (by simp [results, Tryz.results17, go_sem]) rfl (.bad HTO.out hB1)
 | true =>
  have HSIT := Lib.hid hsit;clear hsit;go_wp2_with fail;refine (spec_l1In _ _ _ _).mono ?_;rintro e w' ⟨rfl, rfl⟩;cases hil : inB ps.length 1 100 with
  | false =>
   have HTO := Lib.hid (show cenB n r ss ps most = false by unfold cenB; rw [hil, Bool.false_and, Bool.and_false]);clear hil;go_wp2_with fail;exact bodyPost_ret (v := .tuple #[.slice none 0 0, .int .i64 0, .bool false]) (by simp [results, Tryz.results17, go_sem]) rfl (.bad HTO.out hB1)
  | true =>
   have HIL := Lib.hid hil;have hl1 : 1 ≤ ps.length ∧ ps.length ≤ 100 := by
    have : 1 ≤ (ps.length : Int) ∧ (ps.length : Int) ≤ 100 := by unfold inB at hil; simpa using hil
    omega
   clear hil;go_wp2_with fail;refine (spec_ssMost _ _).mono ?_;rintro e w' ⟨rfl, rfl⟩;cases hin : inB most 0 2000 with
   | false =>
    have HTO := Lib.hid (show cenB n r ss ps most = false by unfold cenB; rw [hin, Bool.false_and, Bool.and_false, Bool.and_false]);clear hin;go_wp2_with fail;exact bodyPost_ret (v := .tuple #[.slice none 0 0, .int .i64 0, .bool false]) (by simp [results, Tryz.results17, go_sem]) rfl (.bad HTO.out hB1)
   | true =>
    have HCB := Lib.hid (show cenB n r ss ps most = ps.all fun x => decide (0 ≤ x) by unfold cenB; rw [HSIT.out, HIL.out, hin]; rfl);obtain ⟨hask, hsts⟩ := propB_iff.1 HSIT.out;have hin' : 0 ≤ most ∧ most ≤ 2000 := by unfold inB at hin; simpa using hin
    obtain ⟨K, rfl⟩ : ∃ K : Nat, most = K := ⟨most.toNat, by omega⟩
    have hK : K ≤ 2000 := by omega
    have HAS := Lib.hid hask;have HST := Lib.hid hsts;clear hin hin' hask hsts HIL;go_wp2_with fail;go_loopw [14, 37] (fun _ i wr => PkRel ps w1 i wr) (fun _ i _ => ps.length - (intOf i).toNat)
    case atStart => exact ⟨rfl, 0, Nat.zero_le _, rfl, fun x hx => by rw [List.take_zero] at hx; cases hx⟩
    case round =>
     obtain ⟨rfl, k, hk, rfl, hup⟩ := hrel;have HU := Lib.hid hup;clear hup;by_cases hlt : k < ps.length
     ·
      obtain ⟨x, hx⟩ : ∃ y, ps[k]? = some y := ⟨_, List.getElem?_eq_getElem hlt⟩
      obtain ⟨Ap', cp', e0, -, -, h3⟩ := HPI.out.open_;obtain ⟨rfl, -, rfl⟩ := Value.slice.inj e0;obtain ⟨ad, rfl, -, hc⟩ := h3 (by omega);have hcell := hc k x hx;have HX := Lib.hid hx;clear h3 hc hx e0;by_cases h0 : x < 0
      ·
       have HTO := Lib.hid (show cenB n r ss ps K = false by
        rw [HCB.out, List.all_eq_false]
        exact ⟨x, List.mem_of_getElem? HX.out, by simp; omega⟩)
       go_wp2_with fail;exact bodyPost_ret (v := .tuple #[.slice none 0 0, .int .i64 0, .bool false]) (by simp [results, Tryz.results17, go_sem]) rfl (.bad HTO.out hB1)
      ·
       go_wp2_with fail;go_roundw
       case rel => exact ⟨rfl, k + 1, by omega, by go_num, fun y hy => by
        obtain ⟨hk', e⟩ := List.getElem?_eq_some_iff.1 HX.out;rw [List.take_succ_eq_append_getElem hk'] at hy;rcases List.mem_append.1 hy with hy | hy
        · exact HU.out y hy
        · rw [List.mem_singleton.1 hy, e]; omega⟩
       case measure => simp [intOf]; omega
     ·
      have hkk : ((k : Int) < (ps.length : Int)) = False := eq_false (by omega);have hnn : ∀ x ∈ ps, 0 ≤ x := fun x hx => HU.out x (by rw [List.take_of_length_le (by omega)]; exact hx)
      have HNN := Lib.hid hnn
      have HTO := Lib.hid (show cenB n r ss ps K = true by
       rw [HCB.out, List.all_eq_true]
       exact fun x hx => decide_eq_true (hnn x hx))
      clear hnn HU;go_wp2_with fail;clear hkk hk hlt;refine (spec_l1Own _ ss w1 (ints_upR HS.out hB1) (by omega)).mono ?_;rintro e w2 ⟨v2, rfl, ho2, hb2⟩;have hi2 : IntsR w2 w2.heap.size v2 ss := own_intsR ho2 HS.out.2;obtain ⟨A3, m3, c3, rfl⟩ := hi2.isSlice;have HI2 := Lib.hid hi2;have hzz2 := hb2.size;have HD2 := bk HD1 hb2;have hB2 := bl_trans hB1 hb2;clear ho2 hb2 hi2 q0 q1 q2 qf;obtain ⟨q0, q1, q2, qf⟩ := cells3 HD2;go_wp2_with fail;refine (spec_ssEnabled _ _ _ _ n r ss w2 (HN.out.up hB2) HAS.out HI2.out HST.out).mono ?_;rintro e w3 ⟨u, rfl, ⟨A4, m4, c4, rfl⟩, he3, hb3⟩;have hzz3 := hb3.size;have HD3 := bk HD2 hb3;have hB3 := bl_trans hB2 hb3;have HI3 := Lib.hid (ints_upR HI2.out hb3);have HE3 := Lib.hid he3;clear he3 hb3 q0 q1 q2 qf;go_wp2_with fail;go_loopw [15, 16, 17] (fun now k en wr => RcRel n r ps ss K w3 now k en wr) (fun _ k _ _ => K - (intOf k).toNat)
      case atStart => exact ⟨Below.refl _ _, 0, Nat.zero_le _, rfl, ⟨_, _, _, rfl⟩, HI3.out, ⟨_, _, _, rfl⟩, HE3.out, rfl⟩
      case round =>
       obtain ⟨hbr, j, hjK, rfl, ⟨A5, m5, c5, rfl⟩, hnow, ⟨A6, m6, c6, rfl⟩, hen, htog⟩ := hrel;have HNOW := Lib.hid hnow;have HTG := Lib.hid htog;have hzzr := hbr.size;have hBr := bl_trans hB3 hbr;have HDr := bk HD3 hbr;obtain ⟨xs, hxs⟩ : ∃ z, z = cenS n r ps ss j := ⟨_, rfl⟩
       have HXS := Lib.hid hxs;have hstj := Lib.hid (show Sts (cnts n r) xs by rw [hxs]; exact cenS_sts HAS.out HST.out j);have hlj : xs.length = ss.length := by rw [hxs]; exact cenS_len j
       have hel := enS_le n r xs;rw [← hxs] at hen HNOW;obtain ⟨Ae, ce, e1, -, -, h3e⟩ := hen.open_;obtain ⟨rfl, hm6, rfl⟩ := Value.slice.inj e1;have HM6 := Lib.hid hm6;rw [← hm6] at hel;obtain ⟨q0, q1, q2, qf⟩ := cells3 HDr;clear hnow hen htog hm6 hxs e1;by_cases h0 : 0 < m6
       ·
        have hg0 : ((m6 : Int) > 0) = True := eq_true (by omega);have hne : ¬ enS n r xs = [] := fun e => by have := HM6.out; rw [e] at this; simp at this; omega
        by_cases hj : j < K
        ·
         have hjk : ((j : Int) < (K : Int)) = True := eq_true (by omega);have hne' : ¬ enS n r (cenS n r ps ss j) = [] := by rw [← HXS.out]; exact hne
         have hTS := Lib.hid (show cenN n r ps ss (K - (j + 1)) (j + 1) = cenN n r ps ss K 0 by rw [← HTG.out, show K - j = K - (j + 1) + 1 by omega, cenN_step hne']);obtain ⟨jm, pn, kk, v, hmod, hjm, hpn, hmod2, hkk, hv, hpv⟩ := pick_reads (j := j) hl1.1 HNN.out hne;have HSTEP := Lib.hid (show cenS n r ps ss (j + 1) = moveS n r xs [v] by rw [cenS_step hne', hpv, ← HXS.out]);have HVM := Lib.hid (show v ∈ enS n r xs from List.mem_of_getElem? hv);rw [← HM6.out] at hmod2 hkk;obtain ⟨Ap', cp', e0, -, -, h3⟩ := (ints_upR HP.out hBr).open_;obtain ⟨rfl, -, rfl⟩ := Value.slice.inj e0;obtain ⟨ad, rfl, -, hc⟩ := h3 (by omega);have hcell := hc jm _ hpn;obtain ⟨ae, rfl, -, hce⟩ := h3e (by rw [← HM6.out]; omega);have hcell2 := hce kk v hv;obtain ⟨wz, hwz⟩ : ∃ z, z = wr.alloc (.cells #[.int .i64 v] 3) := ⟨_, rfl⟩
         have hbz : Below wr.heap.size wr wz := by rw [hwz]; exact bl_alloc (Below.refl _ _) _
         have HWZ := Lib.hid hwz;have hoz := own_madeN wr 3 1 (.int .i64 v) (by unfold maxLen; omega);rw [show rowOf [] 1 (Value.int .i64 v) = #[.int .i64 v] from rfl, ← hwz] at hoz;have hvb : 0 ≤ v ∧ v ≤ 1048576 := by have := enS_mem HVM.out; omega
         have HIZ := Lib.hid (show IntsR wz wz.heap.size (.slice (some ⟨wr.heap.size, 0, none⟩) 1 1) [v] from own_intsR (show wz.ownsRow wr.heap.size 3 1 (.slice (some ⟨wr.heap.size, 0, none⟩) 1 1) [v].length ([v].map intV) from hoz) (fun y hy => by rw [List.mem_singleton.1 hy]; exact ⟨by omega, by omega⟩));have hzzz := hbz.size;have HBZ := Lib.hid hbz;have HDz := bk HDr hbz;clear hne hne' h3 h3e hc hce hv hpv hpn e0 hwz hbz hoz;go_wp2_with fail;rw [← HWZ.out];clear hcell hcell2 hmod hmod2 q0 q1 q2 qf;refine (spec_ssMove _ _ _ _ _ n r xs [v] wz (HN.out.up (bl_trans hBr HBZ.out)) HAS.out (ints_upR HNOW.out HBZ.out) hstj.out HIZ.out (fun z hz => by rw [List.mem_singleton.1 hz]; exact enS_mem HVM.out) (by show 1 ≤ 2000000; omega)).mono ?_;rintro e w5 ⟨u5, rfl, ⟨A7, m7, c7, rfl⟩, hm5, hb5⟩;have HM5 := Lib.hid (show IntsR w5 w5.heap.size (.slice A7 m7 c7) (cenS n r ps ss (j + 1)) by rw [HSTEP.out]; exact hm5);have hzz5 := hb5.size;have HD5 := bk HDz hb5;have hB5 := bl_trans (bl_trans hBr HBZ.out) hb5;have hBr5 := bl_trans (bl_trans hbr HBZ.out) hb5;clear hm5 hb5 hg0 hjk;obtain ⟨q0, q1, q2, qf⟩ := cells3 HD5;go_wp2_with fail;refine (spec_ssEnabled _ _ _ _ n r (cenS n r ps ss (j + 1)) w5 (HN.out.up hB5) HAS.out HM5.out (cenS_sts HAS.out HST.out (j + 1))).mono ?_;rintro e w6 ⟨u6, rfl, ⟨A8, m8, c8, rfl⟩, he6, hb6⟩;have HE6 := Lib.hid he6;have HM6' := Lib.hid (ints_upR HM5.out hb6);have hBr6 := bl_trans hBr5 hb6;clear he6 hb6 q0 q1 q2 qf;go_wp2_with fail;go_roundw
         case rel => exact ⟨hBr6, j + 1, by omega, by go_num, ⟨_, _, _, rfl⟩, HM6'.out, ⟨_, _, _, rfl⟩, HE6.out, hTS.out⟩
         case measure => simp [intOf]; omega
        ·
         obtain rfl : j = K := by omega
         have hjk : ((j : Int) < (j : Int)) = False := eq_false (by omega);have HT := Lib.hid (show cenN n r ps ss j 0 = j by rw [← HTG.out, Nat.sub_self]; rfl);clear hne h3e;go_wp2_with fail;exact bodyPost_ret (v := .tuple #[.slice A5 m5 c5, .int .i64 (j : Int), .bool true]) (by simp [results, Tryz.results17, go_sem]) rfl (.good HTO.out hBr ⟨_, _, _, rfl⟩ (by rw [← HXS.out]; exact HNOW.out) HT.out)
       ·
        have hg0 : ((m6 : Int) > 0) = False := eq_false (by omega);have hne : enS n r (cenS n r ps ss j) = [] := by rw [← HXS.out]; exact List.eq_nil_of_length_eq_zero (by have := HM6.out; omega)
        have HT := Lib.hid (show cenN n r ps ss K 0 = j by rw [← HTG.out, cenN_calm hne]);clear hne h3e;go_wp2_with fail;exact bodyPost_ret (v := .tuple #[.slice A5 m5 c5, .int .i64 (j : Int), .bool true]) (by simp [results, Tryz.results17, go_sem]) rfl (.good HTO.out hBr ⟨_, _, _, rfl⟩ (by rw [← HXS.out]; exact HNOW.out) HT.out)
end Go.Proofs.YtdghoienjegffaaGreat
namespace Go.Proofs.YtdghoienjegffaaGreat
open Go.RowKit
set_option linter.all false
def numsL (n : Nat) : List Int := (List.range n).map fun (i : Nat) => (i : Int)
theorem numsL_len (n : Nat) : (numsL n).length = n := by simp [numsL]
theorem numsL_at {n k : Nat} (h : k < n) : (numsL n)[k]? = some (k : Int) := by simp [numsL, h]
def NumsRel (n : Nat) (w : World) (i : Value) (wr : World) : Prop := ∃ k : Nat, k ≤ n ∧ i = .int .i64 k ∧ wr = w.alloc (.cells (rowOf (((numsL n).take k).map intV) n (.int .i64 0)) 3)
theorem impl_numbersTo (n : Nat) (w : World) (hn : n ≤ 1048576) :
  Calls Tryz.prog 51 #[.int .i64 (n : Int)] w fun e w' => e = .returned (.slice (some ⟨w.heap.size, 0, none⟩) n n) ∧ w' = w.alloc (.cells ((numsL n).map intV).toArray 3) := by
 have hmk := fun W => run_make1 (P := Tryz.prog) 25 3 (.int .i64 0) 8 Tryz.underlying25 intInfo rfl n (by omega) (by omega) W
 go_enter Tryz.func51, Tryz.ntmps51;go_wp2_with fail;clear hmk;go_loopw [9, 4] (fun i _ wr => NumsRel n w i wr) (fun i _ _ => n - (intOf i).toNat)
 case atStart => exact ⟨0, Nat.zero_le _, rfl, by simp⟩
 case round =>
  obtain ⟨k, hk, rfl, rfl⟩ := hrel;by_cases hlt : k < n
  ·
   have hlen : (((numsL n).take k).map intV).length = k := by rw [List.length_map, List.length_take, numsL_len]; omega
   have HN := Lib.hid (show ((numsL n).take (k + 1)).map intV = ((numsL n).take k).map intV ++ [.int .i64 (k : Int)] by
    obtain ⟨hk', e⟩ := List.getElem?_eq_some_iff.1 (numsL_at hlt)
    rw [List.take_succ_eq_append_getElem hk', List.map_append, e]; rfl)
   generalize ((numsL n).take k).map intV = done at *;have hset := Lib.hid (rowOf_set (done := done) (n := n) (z := .int .i64 0) (by omega) (.int .i64 (k : Int)));have hnext := rowOf_next (done := done) (n := n) (z := .int .i64 0) (by omega);obtain rfl := hlen;generalize rowOf done n (.int .i64 0) = C at *;have hcell2 : (w.alloc (.cells C 3)).cell? ⟨w.heap.size, done.length, none⟩ = some (.int .i64 0) := by rw [World.cell?_alloc_at _ _ _ _ rfl]; exact hnext
   clear hnext;go_wp2_with fail;go_roundw
   case rel => exact ⟨done.length + 1, by omega, by go_num, by rw [HN.out, ← hset.out]⟩
   case measure => simp [intOf]; omega
  · have e1 : (numsL n).take k = numsL n := List.take_of_length_le (by rw [numsL_len]; omega);have e2 := rowOf_full ((numsL n).map intV) (.int .i64 0);rw [List.length_map, numsL_len] at e2;rw [e1, e2];clear e1 e2;go_wp2_with fail;go_ret;exact ⟨rfl, rfl⟩
def Tells (g : Nat) (lb : Array Value) (p : Int → Bool) (xs : List Int) (n₀ : Nat) (w : World) : Prop :=
  ∀ W x, x ∈ xs → Below n₀ w W → Calls Tryz.prog g (#[.int .i64 x] ++ lb) W fun e W' => e = .returned (.bool (p x)) ∧ Below W.heap.size W W'
theorem Tells.mono {g : Nat} {lb : Array Value} {p : Int → Bool} {xs : List Int} {n₀ : Nat} {w w' : World} (h : Tells g lb p xs n₀ w) (hb : Below n₀ w w') : Tells g lb p xs n₀ w' := fun W x hx hW => h W x hx (hb.trans hW)
def IxRel (p : Int → Bool) (xs : List Int) (w : World) (i : Value) (wr : World) : Prop := Below w.heap.size w wr ∧ ∃ k : Nat, k ≤ xs.length ∧ i = .int .i64 k ∧ PortTo p xs k
set_option maxRecDepth 100000 in
theorem index_ints (g : Nat) (lb : Array Value) (eg : ∀ args w, (callFunc g args).run Tryz.prog w = .ok (.enter g args) w) (p : Int → Bool) (v : Value) (xs : List Int) (w : World) (h : IntsR w w.heap.size v xs) (hl : xs.length ≤ 2000000)
  (n₀ : Nat) (hn : n₀ ≤ w.heap.size) (hp : Tells g lb p xs n₀ w) :
  Calls Tryz.prog 65 #[v, .func (.func g) #[] lb] w fun e w' => e = .returned (.int .i64 (portI p xs)) ∧ Below w.heap.size w w' := by
 obtain ⟨Ax, cx, rfl, h1, h2, h3⟩ := h.open_;unfold maxLen at h2;have HC := Lib.hid h3;have HP := Lib.hid hp;clear h h3 hp;go_enter Tryz.func65, Tryz.ntmps65;go_wp2_with fail;go_loopw [5, 8] (fun _ i wr => IxRel p xs w i wr) (fun _ i _ => xs.length - (intOf i).toNat)
 case atStart => exact ⟨Below.refl _ _, 0, Nat.zero_le _, rfl, .start _ _⟩
 case round =>
  obtain ⟨hbl, k, hk, rfl, hto⟩ := hrel;have HTO := Lib.hid hto; clear hto;by_cases hlt : k < xs.length
  ·
   obtain ⟨x, hx⟩ : ∃ x, xs[k]? = some x := ⟨_, List.getElem?_eq_getElem hlt⟩
   obtain ⟨ad, rfl, hb, hc⟩ := HC.out (by omega);have hcx := (hbl.cell (p := ad.add k) (by rw [block_add]; exact hb)).trans (hc k x hx);have J := Lib.hid (HP.out wr x (List.mem_of_getElem? hx) (hbl.mono hn));have HX := Lib.hid hx;clear hc hx;cases hq : p x with
   | true =>
    rw [hq] at J;have HH := Lib.hid (HTO.out.here HX.out hq);go_wp2_with (go_at_fn g; refine J.out.mono ?_; rintro e w' ⟨rfl, hb'⟩)
    go_ret;exact ⟨ret_int HH.out.symm, bl_trans hbl hb'⟩
   | false =>
    rw [hq] at J;have HH := Lib.hid (HTO.out.next HX.out hq);go_wp2_with (go_at_fn g; refine J.out.mono ?_; rintro e w' ⟨rfl, hb'⟩)
    go_roundw
    case rel => exact ⟨bl_trans hbl hb', k + 1, by omega, by go_num, HH.out⟩
    case measure => simp [intOf]; omega
  · have HH := Lib.hid (HTO.out.fin (by omega));go_wp2_with fail;go_ret;exact ⟨ret_int HH.out.symm, hbl⟩
theorem heap_setCells {g : Nat} {t : TypeId} : ∀ (vs : List Value) (o : Nat) (w : World) (cs : List Value), w.heap[g]? = some (.cells cs.toArray t (0, 0)) → o + vs.length ≤ cs.length →
    (w.setCells g o vs).heap[g]? = some (.cells (cs.take o ++ vs ++ cs.drop (o + vs.length)).toArray t (0, 0))
  | [], o, w, cs, h, _ => by show w.heap[g]? = _;rw [h, List.append_nil, List.length_nil, Nat.add_zero, List.take_append_drop]
  | v :: r, o, w, cs, h, hl => by
    have hl' : o + 1 + r.length ≤ cs.length := by simp only [List.length_cons] at hl; omega
    have h1 := heap_set_same (i := o) h v;rw [List.setIfInBounds_toArray] at h1;have h2 := heap_setCells r (o + 1) (w.setCell ⟨g, o, none⟩ v) (cs.set o v) h1 (by rw [List.length_set]; exact hl');show ((w.setCell ⟨g, o, none⟩ v).setCells g (o + 1) r).heap[g]? = _;rw [h2];congr 3;have e1 : (cs.set o v).take (o + 1) = cs.take o ++ [v] := by rw [List.take_set, List.take_succ_eq_append_getElem (by omega : o < cs.length)];rw [List.set_append_right _ _ (by rw [List.length_take]; omega)];rw [List.length_take, Nat.min_eq_left (by omega), Nat.sub_self];rfl
    have e2 : (cs.set o v).drop (o + 1 + r.length) = cs.drop (o + (v :: r).length) := by rw [List.drop_set_of_lt (by omega), List.length_cons];congr 1;omega
    rw [e1, e2];simp
theorem below_cells {B g : Nat} (hg : B ≤ g) : ∀ (vs : List Value) (o : Nat) (w : World), Below B w (w.setCells g o vs)
  | [], _, w => Below.refl _ _
  | v :: r, o, w => ((Below.refl B w).setCell (p := ⟨g, o, none⟩) hg v).trans (below_cells hg r (o + 1) _)
def keepP (p : Int → Bool) (x : Int) : Bool := !p x
structure DlInv (p : Int → Bool) (xs zs : List Int) (i j : Nat) : Prop where
  len : zs.length = xs.length
  lt : i < j
  low : zs.take i = (xs.take j).filter (keepP p)
  high : zs.drop j = xs.drop j
theorem PortTo.filt {p : Int → Bool} {xs : List Int} {k : Nat} (h : PortTo p xs k) : (xs.take k).filter (keepP p) = xs.take k := by
  refine List.filter_eq_self.2 fun x hx => ?_
  obtain ⟨j, hj⟩ := List.mem_iff_getElem?.1 hx;have hjl := (List.getElem?_eq_some_iff.1 hj).1;rw [List.length_take] at hjl;rw [List.getElem?_take_of_lt (by omega)] at hj;unfold keepP;rw [h j x (by omega) hj];rfl
theorem take_snoc {xs : List Int} {j : Nat} {x : Int} (h : xs[j]? = some x) : xs.take (j + 1) = xs.take j ++ [x] := by obtain ⟨hk, e⟩ := List.getElem?_eq_some_iff.1 h;rw [List.take_succ_eq_append_getElem hk, e]
theorem DlInv.start {p : Int → Bool} {xs : List Int} {k : Nat} {x : Int} (h : PortTo p xs k) (hx : xs[k]? = some x) (hp : p x = true) : DlInv p xs xs k (k + 1) :=
  ⟨rfl, by omega, by rw [take_snoc hx, List.filter_append, h.filt]; unfold keepP; simp [hp], rfl⟩
theorem DlInv.at_ {p : Int → Bool} {xs zs : List Int} {i j : Nat} (h : DlInv p xs zs i j) (hj : j < xs.length) : zs[j]? = xs[j]? := by
  have := h.high;have h1 : (zs.drop j)[0]? = (xs.drop j)[0]? := by rw [this]
  rw [List.getElem?_drop, List.getElem?_drop] at h1;simpa using h1
theorem drop_next {zs xs : List Int} {j : Nat} (h : zs.drop j = xs.drop j) : zs.drop (j + 1) = xs.drop (j + 1) := by
  have : (zs.drop j).drop 1 = (xs.drop j).drop 1 := by rw [h]
  rwa [List.drop_drop, List.drop_drop] at this
theorem DlInv.skip {p : Int → Bool} {xs zs : List Int} {i j : Nat} {x : Int} (h : DlInv p xs zs i j) (hx : xs[j]? = some x) (hp : p x = true) : DlInv p xs zs i (j + 1) :=
  ⟨h.len, by have := h.lt; omega, by rw [take_snoc hx, List.filter_append, ← h.low]; unfold keepP; simp [hp], drop_next h.high⟩
theorem DlInv.keep {p : Int → Bool} {xs zs : List Int} {i j : Nat} {x : Int} (h : DlInv p xs zs i j) (hx : xs[j]? = some x) (hp : p x = false) : DlInv p xs (zs.set i x) (i + 1) (j + 1) := by
  have hjl := (List.getElem?_eq_some_iff.1 hx).1;have hlt := h.lt;have hil : i < zs.length := by rw [h.len]; omega
  refine ⟨by rw [List.length_set]; exact h.len, by omega, ?_, ?_⟩
  · rw [take_snoc hx, List.filter_append, ← h.low, take_snoc (x := x) (by rw [List.getElem?_set_self hil]), List.take_set_of_le (Nat.le_refl _)]
    unfold keepP;simp [hp]
  · rw [List.drop_set_of_lt (by omega)]
    exact drop_next h.high
theorem DlInv.fin {p : Int → Bool} {xs zs : List Int} {i : Nat} (h : DlInv p xs zs i xs.length) : zs.take i = xs.filter (keepP p) := by have := h.low;rwa [List.take_length] at this
def DlRel (p : Int → Bool) (xs : List Int) (B n₀ : Nat) (w : World) (iv jv : Value) (wr : World) : Prop :=
  ∃ (i j : Nat) (zs : List Int), iv = .int .i64 i ∧ jv = .int .i64 j ∧ j ≤ xs.length ∧ DlInv p xs zs i j ∧ wr.heap[B]? = some (.cells (zs.map intV).toArray 3 (0, 0)) ∧ Below n₀ w wr
def delRow (p : Int → Bool) (xs : List Int) : List Int := xs.filter (keepP p) ++ List.replicate (xs.length - (xs.filter (keepP p)).length) 0
def DlPost (p : Int → Bool) (xs : List Int) (B n₀ : Nat) (w : World) (e : Ending) (w' : World) : Prop :=
  e = .returned (.slice (some ⟨B, 0, none⟩) (xs.filter (keepP p)).length xs.length) ∧ w'.heap[B]? = some (.cells ((delRow p xs).map intV).toArray 3 (0, 0)) ∧ Below n₀ w w'
theorem row_slot {w : World} {B i : Nat} {zs : List Int} (h : w.heap[B]? = some (.cells (zs.map intV).toArray 3 (0, 0))) (hi : i < zs.length) : (∃ u, w.cell? ⟨B, i, none⟩ = some u) ∧ w.frozen? ⟨B, i, none⟩ = false := by refine ⟨?_, frozen_of_row _ _ i _ _ h⟩;rw [cell_of_row _ _ i _ _ (0, 0) h];rw [List.getElem?_toArray, List.getElem?_map, List.getElem?_eq_getElem hi];exact ⟨_, rfl⟩
set_option maxRecDepth 100000 in
set_option maxHeartbeats 1000000 in
theorem delete_ints (g : Nat) (lb : Array Value) (eg : ∀ args w, (callFunc g args).run Tryz.prog w = .ok (.enter g args) w) (p : Int → Bool) (B : Nat) (xs : List Int) (w : World) (n₀ : Nat) (hn : n₀ ≤ B)
    (hrow : w.heap[B]? = some (.cells (xs.map intV).toArray 3 (0, 0))) (hx : ∀ x ∈ xs, I64 x) (hl : xs.length ≤ 2000000) (hp : Tells g lb p xs n₀ w) :
    Calls Tryz.prog 61 #[.slice (some ⟨B, 0, none⟩) xs.length xs.length, .func (.func g) #[] lb] w (DlPost p xs B n₀ w) := by
  have hBl : B < w.heap.size := (Array.getElem?_eq_some_iff.1 hrow).1;have HI := Lib.hid (ints_row (B := w.heap.size) hrow (by unfold maxLen; omega) hx hBl);have HP := Lib.hid hp; clear hp;have HROW := Lib.hid hrow; clear hrow;go_enter Tryz.func61, Tryz.ntmps61;go_wp2_with fail;refine (index_ints g lb eg p _ xs w HI.out hl n₀ (by omega) HP.out).mono ?_;rintro e w1 ⟨rfl, hb1⟩;replace HROW := Lib.hid ((hb1.block B hBl).trans HROW.out);replace HP := Lib.hid (HP.out.mono (hb1.mono (by omega)));have hB1 : Below n₀ w w1 := hb1.mono (by omega);have hz1 := hb1.size;clear hb1;by_cases hall : PortTo p xs xs.length
  · have e1 : portI p xs = -1 := hall.fin (Nat.le_refl _)
    have hf := hall.filt;rw [List.take_length] at hf;rw [e1];have HF := Lib.hid hf; clear hf e1;go_wp2_with fail;go_ret;refine ⟨by rw [HF.out]; rfl, ?_, hB1⟩;unfold delRow;rw [HF.out, Nat.sub_self, List.replicate_zero, List.append_nil];exact HROW.out
  · obtain ⟨k, x, hk, hxk, hpk, hto⟩ : ∃ (k : Nat) (x : Int), k < xs.length ∧ xs[k]? = some x ∧ p x = true ∧ PortTo p xs k := by
      cases hfi : xs.findIdx? p with
      | none =>
        refine absurd (fun j y hj hy => ?_) hall;exact List.findIdx?_eq_none_iff.1 hfi y (List.mem_of_getElem? hy)
      | some k =>
        obtain ⟨h1, h2, h3⟩ := List.findIdx?_eq_some_iff_getElem.1 hfi
        exact ⟨k, xs[k], h1, List.getElem?_eq_getElem h1, h2, fun j y hj hy => by
          obtain ⟨hj', rfl⟩ := List.getElem?_eq_some_iff.1 hy
          simpa using h3 j hj⟩
    have e1 : portI p xs = k := hto.here hxk hpk;rw [e1];have HST := Lib.hid (DlInv.start hto hxk hpk);have hk1 : ((k : Int) == -1) = false := by rw [beq_eq_false_iff_ne]; omega
    have hwk : IntKind.i64.wrap ((k : Int) + 1) = ((k + 1 : Nat) : Int) := by rw [show (k : Int) + 1 = ((k + 1 : Nat) : Int) by omega]; exact IntWalk.i64_in _ (by omega)
    clear e1 hall;go_wp2_with fail;go_loopw [5, 6, 7] (fun iv jv _ wr => DlRel p xs B n₀ w1 iv jv wr) (fun _ jv _ _ => xs.length - (intOf jv).toNat)
    case atStart => exact ⟨k, k + 1, xs, rfl, by simp, by omega, HST.out, HROW.out, Below.refl _ _⟩
    case round =>
      obtain ⟨i, j, zs, rfl, rfl, hj, hinv, hr, hbl⟩ := hrel;have HV := Lib.hid hinv;have hij := hinv.lt;have hzl := hinv.len;have HZ := Lib.hid hr;have hBr : B < wr.heap.size := (Array.getElem?_eq_some_iff.1 hr).1;clear hr;by_cases hlt : j < xs.length
      · obtain ⟨y, hy⟩ : ∃ y, xs[j]? = some y := ⟨_, List.getElem?_eq_getElem hlt⟩
        have hcy : wr.cell? ⟨B, j, none⟩ = some (.int .i64 y) := by rw [cell_of_row _ _ j _ _ (0, 0) HZ.out];simp only [List.getElem?_toArray, List.getElem?_map, hinv.at_ hlt, hy];rfl
        have J := Lib.hid (HP.out wr y (List.mem_of_getElem? hy) hbl);have HY := Lib.hid hy;clear hy hinv hzl;cases hq : p y with
        | true =>
          rw [hq] at J;have HH := Lib.hid (HV.out.skip HY.out hq);go_wp2_with (go_at_fn g; refine J.out.mono ?_; rintro e w' ⟨rfl, hb'⟩)
          go_roundw
          case rel => exact ⟨i, j + 1, zs, rfl, by go_num, by omega, HH.out, (hb'.block B hBr).trans HZ.out, hbl.trans (hb'.mono (by omega))⟩
          case measure => simp [intOf]; omega
        | false =>
          rw [hq] at J;have HH := Lib.hid (HV.out.keep HY.out hq);have hil : i < zs.length := by have := HV.out.len; omega
          go_wp2_with (go_at_fn g; refine J.out.mono ?_; rintro e w' ⟨rfl, hb'⟩; obtain ⟨⟨u0, hu0⟩, hf0⟩ := row_slot ((hb'.block B hBr).trans HZ.out) hil)
          have HZ2 := Lib.hid ((hb'.block B hBr).trans HZ.out);go_roundw
          case rel => refine ⟨i + 1, j + 1, zs.set i y, by go_num, by go_num, by omega, HH.out, ?_, (hbl.trans (hb'.mono (by omega))).setCell (p := ⟨B, i, none⟩) hn _⟩;have := heap_set_same (i := i) HZ2.out (.int .i64 y);rw [List.setIfInBounds_toArray] at this;rw [List.map_set];exact this
          case measure => simp [intOf]; omega
      · obtain rfl : j = xs.length := by omega
        have hcl : ∀ ty, (Builtin.clear_ #[25] ty #[.slice (some ⟨B, i, none⟩) (xs.length - i) (xs.length - i)]).run Tryz.prog wr = .ok (.tuple #[]) (wr.setCells B i (List.replicate (xs.length - i) (.int .i64 0))) := fun ty =>
          Lib.run_clear_slice wr _ _ ty _ Tryz.underlying25 Tryz.zeroValue3 rfl rfl B i _ _ (by omega) (fun t ht => by
            obtain ⟨⟨u, hu⟩, -⟩ := row_slot (i := i + t) HZ.out (by omega)
            rw [hu]; rfl) (fun t ht => frozen_of_row _ _ _ _ _ HZ.out)
        have hfin := hinv.fin;have hfl : (xs.filter (keepP p)).length = i := by rw [← hfin, List.length_take]; omega
        have hh := heap_setCells (List.replicate (xs.length - i) (.int .i64 0)) i wr (zs.map intV) HZ.out (by rw [List.length_replicate, List.length_map]; omega)
        have HH := Lib.hid (show (wr.setCells B i (List.replicate (xs.length - i) (.int .i64 0))).heap[B]? = some (.cells ((delRow p xs).map intV).toArray 3 (0, 0)) by
          rw [hh];have e : (zs.map intV).take i ++ List.replicate (xs.length - i) (.int .i64 0) ++ (zs.map intV).drop (i + (List.replicate (xs.length - i) (Value.int .i64 0)).length) = (delRow p xs).map intV := by rw [List.drop_of_length_le (by rw [List.length_map, List.length_replicate]; omega), List.append_nil];unfold delRow;rw [List.map_append, hfl, List.map_replicate, ← hfin, List.map_take];rfl
          rw [e])
        have HFL := Lib.hid hfl;clear hh hfin hfl hinv hzl;go_wp2_with fail;go_ret;exact ⟨by rw [HFL.out]; rfl, HH.out, hB1.trans (hbl.trans (below_cells hn _ _ _))⟩
end Go.Proofs.YtdghoienjegffaaGreat
