/-
  Proved: the law FnStableRuns returns true for all bytes, and leaves them as they were. No condition. (The frame at the end is after the kit's proof-skeleton.mjs.)
-/
import Derived.Test.YtdghoienjegffaaGreatRPlainStG
import Derived.ShutString
import Derived.Lib.SmallJoins
namespace Go.Proofs.YtdghoienjegffaaGreat.fnStableRuns
open Go.ChangeShapes Go.WideShapes Go.ChangeAt Go.RowKit Go.Joins Go.Deep
set_option linter.all false
def BytesU (w : World) (v : Value) : Prop :=
  ∃ A n c, v = .slice A n c ∧ n ≤ c ∧ n ≤ 9223372036854775807 ∧ (0 < n → ∃ ad, A = some ad ∧ ad.block < w.heap.size ∧ ∀ j, j < n → ∃ x : Nat, x ≤ 255 ∧ w.cell? (ad.add j) = some (.int .u8 (x : Int)))
theorem same_b (v v' : Value) (xs : List Int) (w : World) (h : IntsR w w.heap.size v xs) (h' : IntsR w w.heap.size v' xs) :
    Calls Tryz.prog 9 #[v, v'] w fun e w' => e = .returned (.bool true) ∧ Below w.heap.size w w' :=
  (laws_sameInts v v' xs w h h').mono fun _ _ ⟨h1, k, h2⟩ => ⟨h1, by rw [h2]; exact ⟨rfl, rfl, rfl, Nat.le_refl _, fun _ _ => rfl⟩⟩
def StlRel (K : Nat) (w : World) (i : Value) (wr : World) : Prop := Below w.heap.size w wr ∧ ∃ k : Nat, k ≤ K ∧ i = .int .i64 (k : Int)
set_option maxRecDepth 100000 in
set_option maxHeartbeats 10000000 in
theorem walk (v u : Value) (w : World) (h : BytesU w v) (h' : BytesU w u) :
  Calls Tryz.prog 4 #[v, u] w fun e w' => e = .returned (.bool true) ∧ Below w.heap.size w w' := by
 obtain ⟨B0, n0, k0, rfl, hc0, hn0, h0⟩ := h;obtain ⟨B1, n1, k1, rfl, hc1, hn1, h1⟩ := h';have hB := Below.refl w.heap.size w;go_enter Tryz.func4, Tryz.ntmps4;go_wp2_with fail;refine (laws_big B0 B1 n0 k0 n1 k1 w hn0 hn1).mono ?_;rintro e w0 ⟨b, rfl, hb, rfl⟩;cases b with
 | true =>
  go_wp2_with fail;go_ret;exact ⟨rfl, hB⟩
 | false =>
  obtain ⟨hl0, hl1⟩ := hb rfl;have Ra := Lib.hid (show BytesC w w.heap.size (.slice B0 n0 k0) from ⟨⟨_, _, _, rfl, hl0, h0⟩, _, _, _, rfl, hc0⟩);have Rb := Lib.hid (show BytesR w w.heap.size (.slice B1 n1 k1) from ⟨_, _, _, rfl, hl1, h1⟩);clear hb h0 h1 hn0 hn1 hl0 hl1 hB;go_wp2_with fail;refine (spec_DrawRunCentral _ w Ra.out).mono ?_;rintro e w1 ⟨val, n, r, us, xs, tv, ps, x, rfl, ⟨As, ms, cs, rfl⟩, ⟨At, mt, ct, rfl⟩, hde, hys, hyl, hx⟩;have hk1 := hde.net;obtain ⟨ge, ce, x0⟩ := own_slN (hk1.own .e trivial);obtain ⟨C1, c1', x1⟩ := own_slN (hk1.own .i trivial);obtain ⟨C2, c2', x2⟩ := own_slN (hk1.own .n trivial);have HV := Lib.hid (And.intro x0 (And.intro x1 x2));rw [x0, x1, x2];clear x0 x1 x2;generalize (rowN n val .e).len = m0 at HV ⊢;generalize (rowN n val .i).len = m1 at HV ⊢;generalize (rowN n val .n).len = m2 at HV ⊢
  have HN := Lib.hid (show NetR w1 w1.heap.size (.slice ge m0 ce) (.slice C1 m1 c1') (.slice C2 m2 c2') n by
   have h1 := hde.net.reads hde.fit.i64;rw [HV.out.1, HV.out.2.1, HV.out.2.2] at h1
   exact h1)
  have HS := Lib.hid (own_intsR hde.own hde.i64);have HF := Lib.hid hde.fit;have HT := Lib.hid hys;have hxl := hde.len;have hes := hde.fit.es;have hids := hde.fit.ids;have hB1 := hde.bl;clear hk1 hde HV hys;obtain ⟨w2, hw2, hb2, HD, hz2, HS2⟩ := box3 w1 (.slice ge m0 ce) (.slice C1 m1 c1') (.slice C2 m2 c2') 27;obtain ⟨P, hP⟩ : ∃ z, z = w1.heap.size := ⟨_, rfl⟩
  have HP := Lib.hid hP;rw [← hP] at HD hz2;have hPl : P ≤ w1.heap.size := by omega
  have HW2 := Lib.hid hw2;replace HN := Lib.hid (HN.out.up hb2);replace HS := Lib.hid (ints_upS HS.out hb2);replace HT := Lib.hid (ints_upS HT.out hb2);have hB := bl_trans hB1 hb2;have hz1 := hb2.size;obtain ⟨q0, q1, q2, qf⟩ := cells3 HD;have eq0 := q0;have eq1 := q1;have eq2 := q2;rw [hw2, hP] at eq0 eq1 eq2;clear hw2 hP hb2 hB1 q0 q1 q2 qf;go_wp2_with fail;rw [← HW2.out, ← HP.out];clear eq0 eq1 eq2;obtain ⟨q0, q1, q2, qf⟩ := cells3 HD;refine (impl_RunCentral _ _ _ _ _ n r xs ps x w2 HN.out HS.out HT.out (by omega) (by omega) (by omega)).mono ?_;rintro e w3 ⟨hb3, u3, k3, ys3, rfl, ⟨A3, m3, c3, rfl⟩, hu3, ht3, hf3⟩;have HU := Lib.hid hu3;replace HT := Lib.hid (ints_upS HT.out hb3);have hzhb3 := hb3.size;clear q0 q1 q2 qf;replace HD := bk HD hb3;replace HN := Lib.hid (HN.out.up hb3);replace HS := Lib.hid (ints_upS HS.out hb3);replace hB := bl_trans hB hb3;obtain ⟨q0, q1, q2, qf⟩ := cells3 HD;clear hu3;go_wp2_with fail;refine (spec_RunCentral _ _ _ _ _ n r xs ps x w3 HN.out HS.out HT.out (by omega) (by omega)).mono ?_;rintro e w4 ⟨hb4, u4, k4, ys4, rfl, ⟨A4, m4, c4, rfl⟩, hu4, ht4, hf4⟩;have hsame : k3 = k4 ∧ ys3 = ys4 := by
   cases hb : cenB n r xs ps x with
   | true => exact ⟨(ht3 hb).1.trans (ht4 hb).1.symm, (ht3 hb).2.trans (ht4 hb).2.symm⟩
   | false => exact ⟨(hf3 hb).1.trans (hf4 hb).1.symm, (hf3 hb).2.trans (hf4 hb).2.symm⟩
  obtain ⟨rfl, rfl⟩ := hsame;replace HU := Lib.hid (ints_upS HU.out hb4);have HU4 := Lib.hid hu4
  have HTY := Lib.hid (fun h : cenB n r xs ps x = true => show ∃ T : Nat, k3 = (T : Int) ∧ sitB n r xs = true ∧ sitB n r ys3 = true ∧ (T : Int) ≤ x ∧ ((T : Int) < x → enS n r ys3 = []) ∧ (enS n r ys3 = [] → ilB n r ys3 = true) ∧ (ilB n r xs = true → ilB n r ys3 = true) by
   obtain ⟨h1, h2⟩ := ht3 h;refine ⟨_, h1, ?_⟩;rw [h2]
   exact st_run h)
  have hzhb4 := hb4.size;clear q0 q1 q2 qf;replace HD := bk HD hb4;replace HN := Lib.hid (HN.out.up hb4);replace HS := Lib.hid (ints_upS HS.out hb4);replace hB := bl_trans hB hb4;obtain ⟨q0, q1, q2, qf⟩ := cells3 HD;clear hu4 ht3 ht4 hf3 hf4 HT;generalize cenB n r xs ps x = tb at *;go_upto_if 83 with (first | (go_at_call 9; refine (same_b _ _ ys3 w4 HU.out HU4.out).mono ?_; rintro e w5 ⟨rfl, hb5⟩))
  replace HU := Lib.hid (ints_upS HU.out hb5);clear HU4;have hzhb5 := hb5.size;clear q0 q1 q2 qf;replace HD := bk HD hb5;replace HN := Lib.hid (HN.out.up hb5);replace HS := Lib.hid (ints_upS HS.out hb5);replace hB := bl_trans hB hb5;obtain ⟨q0, q1, q2, qf⟩ := cells3 HD;go_upto_if 84 with fail;go_cut [] from 16 to 276 (fun wc => Below w.heap.size w wc)
  case first =>
   cases tb with
   | false =>
    clear q0 q1 q2 qf;go_wp2_with fail;go_meet
    case rel => exact hB
   | true =>
    obtain ⟨T, rfl, hsx, hsy, hT1, hT2, hT3, hT4⟩ := HTY.out rfl;have HF := Lib.hid (And.intro hsx (And.intro hsy (And.intro hT2 (And.intro hT3 hT4))));have hyl3 : ys3.length = n.es.length := by have h1 := (propB_iff.1 hsy).2.1;rw [← h1, cnts_len]
    have hyl3' : ys3.length ≤ 300 := by omega
    clear HTY hsx hsy hT2 hT3 hT4 hyl3;go_wp2_with fail;refine (impl_EnabledNodes _ _ _ _ n r ys3 w5 HN.out HU.out (by omega) (by omega)).mono ?_;rintro e w6 ⟨hb6, uE, E', rfl, ⟨A6, m6, c6, rfl⟩, huE, hE⟩;obtain rfl := hE HF.out.2.1;obtain ⟨E, hEE⟩ : ∃ z, z = enS n r ys3 := ⟨_, rfl⟩
    have HEE := Lib.hid hEE;rw [← hEE] at huE;have hEl : E.length ≤ 300 := by rw [hEE]; exact Nat.le_trans (enTo_len n r ys3 _) hyl3'
    obtain ⟨A6', c6', e6, -, hc6, -⟩ := huE.open_;obtain ⟨rfl, rfl, rfl⟩ := Value.slice.inj e6;unfold maxLen at hc6;have HE := Lib.hid huE;replace HU := Lib.hid (ints_upS HU.out hb6);have hzhb6 := hb6.size;clear q0 q1 q2 qf;replace HD := bk HD hb6;replace HN := Lib.hid (HN.out.up hb6);replace HS := Lib.hid (ints_upS HS.out hb6);replace hB := bl_trans hB hb6;obtain ⟨q0, q1, q2, qf⟩ := cells3 HD;rw [HF.out.2.1];clear huE e6 hEE hE;go_wp2_with fail;refine (impl_IsLegalState _ _ _ _ n r ys3 w6 HN.out HU.out (by omega) (by omega)).mono ?_;rintro e w7 ⟨rfl, hb7⟩;rw [HF.out.2.1];replace HU := Lib.hid (ints_upS HU.out hb7);replace HE := Lib.hid (ints_upS HE.out hb7);have hzhb7 := hb7.size;clear q0 q1 q2 qf;replace HD := bk HD hb7;replace HN := Lib.hid (HN.out.up hb7);replace HS := Lib.hid (ints_upS HS.out hb7);replace hB := bl_trans hB hb7;obtain ⟨q0, q1, q2, qf⟩ := cells3 HD;obtain ⟨lb, hlb⟩ : ∃ z, z = ilB n r ys3 := ⟨_, rfl⟩
    have HLB := Lib.hid hlb;rw [← hlb];have hg1 : ((T : Int) > x) = False := eq_false (by omega);have hg2 : (x < (T : Int)) = False := eq_false (by omega);have hcase : ((T : Int) < x → E.length = 0) ∧ (E.length = 0 → lb = true) := ⟨fun h => by rw [HEE.out, HF.out.2.2.1 h]; rfl, fun h => by rw [hlb]; exact HF.out.2.2.2.1 (by rw [← HEE.out]; exact List.eq_nil_of_length_eq_zero h)⟩
    have HCA := Lib.hid hcase;clear hlb hcase;by_cases h0 : E.length = 0
    ·
     obtain rfl := HCA.out.2 h0;obtain rfl : E = [] := List.eq_nil_of_length_eq_zero h0;by_cases hTx : (T : Int) < x
     ·
      have hTx' : ((T : Int) < x) = True := eq_true hTx;go_wp2_with fail;refine (impl_IsLegalState _ _ _ _ n r xs w7 HN.out HS.out (by omega) (by omega)).mono ?_;rintro e w8 ⟨rfl, hb8⟩;rw [HF.out.1];replace HU := Lib.hid (ints_upS HU.out hb8);replace HE := Lib.hid (ints_upS HE.out hb8);have hzhb8 := hb8.size;clear q0 q1 q2 qf;replace HD := bk HD hb8;replace HN := Lib.hid (HN.out.up hb8);replace HS := Lib.hid (ints_upS HS.out hb8);replace hB := bl_trans hB hb8;obtain ⟨q0, q1, q2, qf⟩ := cells3 HD;cases hlx : ilB n r xs with
      | true =>
       clear hlx
       as_aux_lemma =>
        go_wp2_with fail;go_loopw [147] (fun i wr => StlRel 0 w8 i wr) (fun i _ => 0 - (intOf i).toNat)
        case atStart => exact ⟨Below.refl _ _, 0, Nat.le_refl _, rfl⟩
        case round =>
         obtain ⟨hbr, k, hk, rfl⟩ := hrel;obtain rfl : k = 0 := by omega
         have HBR := Lib.hid (bl_trans hB hbr);go_wp2_with fail;go_meet
         case rel => exact HBR.out
      | false =>
       clear hlx
       as_aux_lemma =>
        go_wp2_with fail;go_loopw [147] (fun i wr => StlRel 0 w8 i wr) (fun i _ => 0 - (intOf i).toNat)
        case atStart => exact ⟨Below.refl _ _, 0, Nat.le_refl _, rfl⟩
        case round =>
         obtain ⟨hbr, k, hk, rfl⟩ := hrel;obtain rfl : k = 0 := by omega
         have HBR := Lib.hid (bl_trans hB hbr);go_wp2_with fail;go_meet
         case rel => exact HBR.out
     ·
      have hTx' : ((T : Int) < x) = False := eq_false hTx;go_wp2_with fail;refine (impl_IsLegalState _ _ _ _ n r xs w7 HN.out HS.out (by omega) (by omega)).mono ?_;rintro e w8 ⟨rfl, hb8⟩;rw [HF.out.1];replace HU := Lib.hid (ints_upS HU.out hb8);replace HE := Lib.hid (ints_upS HE.out hb8);have hzhb8 := hb8.size;clear q0 q1 q2 qf;replace HD := bk HD hb8;replace HN := Lib.hid (HN.out.up hb8);replace HS := Lib.hid (ints_upS HS.out hb8);replace hB := bl_trans hB hb8;obtain ⟨q0, q1, q2, qf⟩ := cells3 HD;cases hlx : ilB n r xs with
      | true =>
       clear hlx
       as_aux_lemma =>
        go_wp2_with fail;go_loopw [147] (fun i wr => StlRel 0 w8 i wr) (fun i _ => 0 - (intOf i).toNat)
        case atStart => exact ⟨Below.refl _ _, 0, Nat.le_refl _, rfl⟩
        case round =>
         obtain ⟨hbr, k, hk, rfl⟩ := hrel;obtain rfl : k = 0 := by omega
         have HBR := Lib.hid (bl_trans hB hbr);go_wp2_with fail;go_meet
         case rel => exact HBR.out
      | false =>
       clear hlx
       as_aux_lemma =>
        go_wp2_with fail;go_loopw [147] (fun i wr => StlRel 0 w8 i wr) (fun i _ => 0 - (intOf i).toNat)
        case atStart => exact ⟨Below.refl _ _, 0, Nat.le_refl _, rfl⟩
        case round =>
         obtain ⟨hbr, k, hk, rfl⟩ := hrel;obtain rfl : k = 0 := by omega
         have HBR := Lib.hid (bl_trans hB hbr);go_wp2_with fail;go_meet
         case rel => exact HBR.out
    ·
     have hTx' : ((T : Int) < x) = False := eq_false (fun h => h0 (HCA.out.1 h));have hE0 : ((E.length : Int) == 0) = false := by rw [beq_eq_false_iff_ne]; omega
     have hE1 : ((E.length : Int) = 0) = False := eq_false (by omega);go_wp2_with fail;refine (impl_IsLegalState _ _ _ _ n r xs w7 HN.out HS.out (by omega) (by omega)).mono ?_;rintro e w8 ⟨rfl, hb8⟩;rw [HF.out.1];replace HU := Lib.hid (ints_upS HU.out hb8);replace HE := Lib.hid (ints_upS HE.out hb8);have hzhb8 := hb8.size;clear q0 q1 q2 qf;replace HD := bk HD hb8;replace HN := Lib.hid (HN.out.up hb8);replace HS := Lib.hid (ints_upS HS.out hb8);replace hB := bl_trans hB hb8;obtain ⟨q0, q1, q2, qf⟩ := cells3 HD;cases hlx : ilB n r xs with
     | true =>
      obtain rfl : lb = true := by rw [HLB.out]; exact HF.out.2.2.2.2 hlx
      clear hlx
      as_aux_lemma =>
       go_wp2_with fail;go_loopw [147] (fun i wr => StlRel E.length w8 i wr) (fun i _ => E.length - (intOf i).toNat)
       case atStart => exact ⟨Below.refl _ _, 0, Nat.zero_le _, rfl⟩
       case round =>
        obtain ⟨hbr, k, hk, rfl⟩ := hrel;have HBR := Lib.hid hbr;replace HU := Lib.hid (ints_upS HU.out hbr);replace HE := Lib.hid (ints_upS HE.out hbr);have hzhbr := hbr.size;clear q0 q1 q2 qf;replace HD := bk HD hbr;replace HN := Lib.hid (HN.out.up hbr);replace HS := Lib.hid (ints_upS HS.out hbr);replace hB := bl_trans hB hbr;obtain ⟨q0, q1, q2, qf⟩ := cells3 HD;by_cases hlt : k < E.length
        ·
         obtain ⟨v, hv⟩ : ∃ v, E[k]? = some v := ⟨_, List.getElem?_eq_getElem hlt⟩
         obtain ⟨z, s, hvz, hzl, hmv, hsz, hne, hnz, hst', hil⟩ := st_move HF.out.2.1 (by rw [← HEE.out]; exact hv);obtain ⟨A6', c6'', e6, -, -, h6⟩ := HE.out.open_;obtain ⟨rfl, -, rfl⟩ := Value.slice.inj e6;obtain ⟨ad, rfl, hadb, hc6x⟩ := h6 (by omega);have hcE := hc6x k v hv;obtain ⟨vc, hsl, hcut, Ac, mc, cc, rfl⟩ := ints_cut HE.out hv;have hsa : ∀ W, (Instr.sliceAt 25 (.slice (some ad) E.length c6) (some (.int .i64 (k : Int))) (some (.int .i64 ((k : Int) + 1))) none).run Tryz.prog W = .ok (.slice Ac mc cc) W := fun W => (Go.run_sliceAt_slice (P := Tryz.prog) (w := W) 25 _ _ _ _ (by kernel_rfl)).trans (hsl W)
         have hwk : IntKind.i64.wrap ((k : Int) + 1) = (k : Int) + 1 := IntWalk.i64_in _ (by omega);have hsa2 : ∀ W, (Instr.sliceAt 25 (.slice (some ad) E.length c6) (some (.int .i64 (k : Int))) (some (.int .i64 (IntKind.i64.wrap ((k : Int) + 1)))) none).run Tryz.prog W = .ok (.slice Ac mc cc) W := by rw [hwk]; exact hsa
         have HCUT := Lib.hid hcut;have HMV := Lib.hid hmv;have HSZ := Lib.hid hsz;have HNE := Lib.hid hne;have HNZ := Lib.hid hnz;have HST2 := Lib.hid hst';have HNL := Lib.hid (show true = true → ilB n r (moveS n r ys3 [v]) = true from fun h => hil (HLB.out.symm.trans h));have hml : (moveS n r ys3 [v]).length = ys3.length := moveS_len n r ys3 [v];have HML := Lib.hid hml;clear h6 hc6x hv hcut hmv hsz hne hnz hst' hil e6 hml;subst hvz;go_upto_region 19 with fail;refine wp_region_held_drew (S := fun w' => w'.cell? ⟨P, 0, none⟩ = some (.slice ge m0 ce) ∧ w'.cell? ⟨P, 1, none⟩ = some (.slice C1 m1 c1') ∧ w'.cell? ⟨P, 2, none⟩ = some (.slice C2 m2 c2')) (by kernel_rfl) ?_ (fun hHeld => ?_)
         · go_keep
         refine stk 0 151 ?_;refine stk 1 152 ?_;refine stk 2 153 ?_;refine stk 3 154 ?_;refine stk 4 155 ?_;refine stk 5 156 ?_;refine stk 6 157 ?_;refine tr 7 rfl (by kernel_rfl) (fun K hK => ?_);go_simp;refine hK.out _ _ ?_ (fun hHeld => ?_)
         · go_keep
         clear hK K
         try simp only [Act.put, pu]
         refine tr 8 rfl (by kernel_rfl) (fun K hK => ?_);go_simp;go_at_call 11;refine (impl_MoveSet _ _ _ _ _ n r ys3 [(z : Int)] wr.drew (HN.out.up (Below.refl _ _).drew) (ints_upS HU.out (Below.refl _ _).drew) (ints_upS HCUT.out (Below.refl _ _).drew) (by omega) (by omega) (by omega) (by show 1 ≤ 1048576; omega)).mono ?_;rintro e w9 ⟨hb9', uM, M, rfl, ⟨A7, m7, c7, rfl⟩, huM, hM, -⟩;have hb9 : Below wr.heap.size wr w9 := (Below.refl _ _).drew.trans hb9';obtain rfl := hM HMV.out;rw [HMV.out];have HM := Lib.hid huM;have HB9 := Lib.hid hb9;replace HU := Lib.hid (ints_upS HU.out hb9);replace HE := Lib.hid (ints_upS HE.out hb9);replace hcE := (hb9.cell (p := ad.add k) (by rw [block_add]; exact hadb)).trans hcE;have hzhb9 := hb9.size;clear q0 q1 q2 qf;replace HD := bk HD hb9;replace HN := Lib.hid (HN.out.up hb9);replace HS := Lib.hid (ints_upS HS.out hb9);replace hB := bl_trans hB hb9;obtain ⟨q0, q1, q2, qf⟩ := cells3 HD;clear huM hM hb9';refine hK.out _ _ ?_ (fun hHeld => ?_)
         · go_keep
         clear hK K
         try simp only [Act.put, pu]
         refine stk 9 150 ?_;refine stk 10 160 ?_;refine stk 11 161 ?_;refine stk 12 23 ?_;refine stk 13 24 ?_;refine wpAnyH_done (by kernel_rfl) ?_ _;clear hsl hsa hsa2 hwk;go_upto_region 20 with fail;refine wp_region_held_drew (S := fun w' => w'.cell? ⟨P, 0, none⟩ = some (.slice ge m0 ce) ∧ w'.cell? ⟨P, 1, none⟩ = some (.slice C1 m1 c1') ∧ w'.cell? ⟨P, 2, none⟩ = some (.slice C2 m2 c2') ∧ w'.cell? (ad.add k) = some (.int .i64 (z : Int))) (by kernel_rfl) ?_ (fun hHeld => ?_)
         · go_keep
         refine stk 0 163 ?_;refine stk 1 164 ?_;refine stk 2 165 ?_;refine stk 3 166 ?_;refine stk 4 167 ?_;refine stk 5 168 ?_;refine stk 6 169 ?_;refine tr 7 rfl (by kernel_rfl) (fun K hK => ?_);go_simp;go_at_call 18;refine (impl_NextStateOf _ _ _ _ n r ys3 z s w9.drew (HN.out.up (Below.refl _ _).drew) (ints_upS HU.out (Below.refl _ _).drew) (by omega) (by omega) HF.out.2.1 HSZ.out HNE.out).mono ?_;rintro e w10 ⟨rfl, hb10'⟩;have hb10 : Below w9.heap.size w9 w10 := (Below.refl _ _).drew.trans hb10';have HB10 := Lib.hid hb10;replace HU := Lib.hid (ints_upS HU.out hb10);replace HE := Lib.hid (ints_upS HE.out hb10);replace HM := Lib.hid (ints_upS HM.out hb10);replace hcE := (hb10.cell (p := ad.add k) (by rw [block_add]; omega)).trans hcE;have hzhb10 := hb10.size;clear q0 q1 q2 qf;replace HD := bk HD hb10;replace HN := Lib.hid (HN.out.up hb10);replace HS := Lib.hid (ints_upS HS.out hb10);replace hB := bl_trans hB hb10;obtain ⟨q0, q1, q2, qf⟩ := cells3 HD;clear hb10';refine hK.out _ _ ?_ (fun hHeld => ?_)
         · go_keep
         clear hK K
         try simp only [Act.put, pu]
         refine stk 8 162 ?_;refine stk 9 171 ?_;refine stk 10 172 ?_;refine stk 11 25 ?_;refine stk 12 26 ?_;refine wpAnyH_done (by kernel_rfl) ?_ _;obtain ⟨y, hy⟩ : ∃ y, y = nextS n r ys3 z := ⟨_, rfl⟩
         have HY := Lib.hid hy;rw [← hy];clear hy;go_wp2_with fail;refine (impl_IsLegalState _ _ _ _ n r (moveS n r ys3 [(z : Int)]) w10 HN.out HM.out (by omega) (by omega)).mono ?_;rintro e w11 ⟨rfl, hb11⟩;rw [HST2.out];have HB11 := Lib.hid hb11;replace HU := Lib.hid (ints_upS HU.out hb11);replace HM := Lib.hid (ints_upS HM.out hb11);replace hcE := (hb11.cell (p := ad.add k) (by rw [block_add]; omega)).trans hcE;have hzhb11 := hb11.size;clear q0 q1 q2 qf;replace HD := bk HD hb11;replace HN := Lib.hid (HN.out.up hb11);replace HS := Lib.hid (ints_upS HS.out hb11);replace hB := bl_trans hB hb11;obtain ⟨q0, q1, q2, qf⟩ := cells3 HD;have HBA := Lib.hid (show Below w8.heap.size w8 w11 from (((HBR.out.trans (HB9.out.mono (by omega))).trans (HB10.out.mono (by omega))).trans (HB11.out.mono (by omega))));obtain ⟨Am', cm', em, -, hcm, hm⟩ := HM.out.open_;obtain ⟨rfl, hml, rfl⟩ := Value.slice.inj em;obtain ⟨am, rfl, -, hcm2⟩ := hm (by rw [HML.out]; omega);have hcM := hcm2 z y (by rw [HY.out]; exact HNZ.out);obtain ⟨Au', cu', eu, -, hcu, hu⟩ := HU.out.open_;obtain ⟨rfl, hul, rfl⟩ := Value.slice.inj eu;obtain ⟨au, rfl, -, hcu2⟩ := hu (by omega);have hcU := hcu2 z s HSZ.out;have hm7 : z < m7 := by rw [hml, HML.out]; exact hzl
         have hm3 : z < m3 := by rw [hul]; exact hzl
         have hys : (y = s) = False := eq_false (by rw [HY.out]; exact HNE.out);have hys2 : (y == s) = false := by rw [HY.out]; simpa using HNE.out
         clear hm hcm2 hu hcu2 em eu hml hul q0 q1 q2 qf;rw [HNL.out (by simp)];go_wp2_with fail;go_roundw
         case rel => exact ⟨HBA.out, k + 1, by omega, by go_num⟩
         case measure => simp [intOf]; omega
        ·
         have hkk : ((k : Int) < (E.length : Int)) = False := eq_false (by omega);have HBZ := Lib.hid hB;clear q0 q1 q2 qf;go_wp2_with fail;go_meet
         case rel => exact HBZ.out
     | false =>
      clear hlx
      as_aux_lemma =>
       go_wp2_with fail;go_loopw [147] (fun i wr => StlRel E.length w8 i wr) (fun i _ => E.length - (intOf i).toNat)
       case atStart => exact ⟨Below.refl _ _, 0, Nat.zero_le _, rfl⟩
       case round =>
        obtain ⟨hbr, k, hk, rfl⟩ := hrel;have HBR := Lib.hid hbr;replace HU := Lib.hid (ints_upS HU.out hbr);replace HE := Lib.hid (ints_upS HE.out hbr);have hzhbr := hbr.size;clear q0 q1 q2 qf;replace HD := bk HD hbr;replace HN := Lib.hid (HN.out.up hbr);replace HS := Lib.hid (ints_upS HS.out hbr);replace hB := bl_trans hB hbr;obtain ⟨q0, q1, q2, qf⟩ := cells3 HD;by_cases hlt : k < E.length
        ·
         obtain ⟨v, hv⟩ : ∃ v, E[k]? = some v := ⟨_, List.getElem?_eq_getElem hlt⟩
         obtain ⟨z, s, hvz, hzl, hmv, hsz, hne, hnz, hst', hil⟩ := st_move HF.out.2.1 (by rw [← HEE.out]; exact hv);obtain ⟨A6', c6'', e6, -, -, h6⟩ := HE.out.open_;obtain ⟨rfl, -, rfl⟩ := Value.slice.inj e6;obtain ⟨ad, rfl, hadb, hc6x⟩ := h6 (by omega);have hcE := hc6x k v hv;obtain ⟨vc, hsl, hcut, Ac, mc, cc, rfl⟩ := ints_cut HE.out hv;have hsa : ∀ W, (Instr.sliceAt 25 (.slice (some ad) E.length c6) (some (.int .i64 (k : Int))) (some (.int .i64 ((k : Int) + 1))) none).run Tryz.prog W = .ok (.slice Ac mc cc) W := fun W => (Go.run_sliceAt_slice (P := Tryz.prog) (w := W) 25 _ _ _ _ (by kernel_rfl)).trans (hsl W)
         have hwk : IntKind.i64.wrap ((k : Int) + 1) = (k : Int) + 1 := IntWalk.i64_in _ (by omega);have hsa2 : ∀ W, (Instr.sliceAt 25 (.slice (some ad) E.length c6) (some (.int .i64 (k : Int))) (some (.int .i64 (IntKind.i64.wrap ((k : Int) + 1)))) none).run Tryz.prog W = .ok (.slice Ac mc cc) W := by rw [hwk]; exact hsa
         have HCUT := Lib.hid hcut;have HMV := Lib.hid hmv;have HSZ := Lib.hid hsz;have HNE := Lib.hid hne;have HNZ := Lib.hid hnz;have HST2 := Lib.hid hst';have HNL := Lib.hid (show lb = true → ilB n r (moveS n r ys3 [v]) = true from fun h => hil (HLB.out.symm.trans h));have hml : (moveS n r ys3 [v]).length = ys3.length := moveS_len n r ys3 [v];have HML := Lib.hid hml;clear h6 hc6x hv hcut hmv hsz hne hnz hst' hil e6 hml;subst hvz;go_upto_region 19 with fail;refine wp_region_held_drew (S := fun w' => w'.cell? ⟨P, 0, none⟩ = some (.slice ge m0 ce) ∧ w'.cell? ⟨P, 1, none⟩ = some (.slice C1 m1 c1') ∧ w'.cell? ⟨P, 2, none⟩ = some (.slice C2 m2 c2')) (by kernel_rfl) ?_ (fun hHeld => ?_)
         · go_keep
         refine stk 0 151 ?_;refine stk 1 152 ?_;refine stk 2 153 ?_;refine stk 3 154 ?_;refine stk 4 155 ?_;refine stk 5 156 ?_;refine stk 6 157 ?_;refine tr 7 rfl (by kernel_rfl) (fun K hK => ?_);go_simp;refine hK.out _ _ ?_ (fun hHeld => ?_)
         · go_keep
         clear hK K
         try simp only [Act.put, pu]
         refine tr 8 rfl (by kernel_rfl) (fun K hK => ?_);go_simp;go_at_call 11;refine (impl_MoveSet _ _ _ _ _ n r ys3 [(z : Int)] wr.drew (HN.out.up (Below.refl _ _).drew) (ints_upS HU.out (Below.refl _ _).drew) (ints_upS HCUT.out (Below.refl _ _).drew) (by omega) (by omega) (by omega) (by show 1 ≤ 1048576; omega)).mono ?_;rintro e w9 ⟨hb9', uM, M, rfl, ⟨A7, m7, c7, rfl⟩, huM, hM, -⟩;have hb9 : Below wr.heap.size wr w9 := (Below.refl _ _).drew.trans hb9';obtain rfl := hM HMV.out;rw [HMV.out];have HM := Lib.hid huM;have HB9 := Lib.hid hb9;replace HU := Lib.hid (ints_upS HU.out hb9);replace HE := Lib.hid (ints_upS HE.out hb9);replace hcE := (hb9.cell (p := ad.add k) (by rw [block_add]; exact hadb)).trans hcE;have hzhb9 := hb9.size;clear q0 q1 q2 qf;replace HD := bk HD hb9;replace HN := Lib.hid (HN.out.up hb9);replace HS := Lib.hid (ints_upS HS.out hb9);replace hB := bl_trans hB hb9;obtain ⟨q0, q1, q2, qf⟩ := cells3 HD;clear huM hM hb9';refine hK.out _ _ ?_ (fun hHeld => ?_)
         · go_keep
         clear hK K
         try simp only [Act.put, pu]
         refine stk 9 150 ?_;refine stk 10 160 ?_;refine stk 11 161 ?_;refine stk 12 23 ?_;refine stk 13 24 ?_;refine wpAnyH_done (by kernel_rfl) ?_ _;clear hsl hsa hsa2 hwk;go_upto_region 20 with fail;refine wp_region_held_drew (S := fun w' => w'.cell? ⟨P, 0, none⟩ = some (.slice ge m0 ce) ∧ w'.cell? ⟨P, 1, none⟩ = some (.slice C1 m1 c1') ∧ w'.cell? ⟨P, 2, none⟩ = some (.slice C2 m2 c2') ∧ w'.cell? (ad.add k) = some (.int .i64 (z : Int))) (by kernel_rfl) ?_ (fun hHeld => ?_)
         · go_keep
         refine stk 0 163 ?_;refine stk 1 164 ?_;refine stk 2 165 ?_;refine stk 3 166 ?_;refine stk 4 167 ?_;refine stk 5 168 ?_;refine stk 6 169 ?_;refine tr 7 rfl (by kernel_rfl) (fun K hK => ?_);go_simp;go_at_call 18;refine (impl_NextStateOf _ _ _ _ n r ys3 z s w9.drew (HN.out.up (Below.refl _ _).drew) (ints_upS HU.out (Below.refl _ _).drew) (by omega) (by omega) HF.out.2.1 HSZ.out HNE.out).mono ?_;rintro e w10 ⟨rfl, hb10'⟩;have hb10 : Below w9.heap.size w9 w10 := (Below.refl _ _).drew.trans hb10';have HB10 := Lib.hid hb10;replace HU := Lib.hid (ints_upS HU.out hb10);replace HE := Lib.hid (ints_upS HE.out hb10);replace HM := Lib.hid (ints_upS HM.out hb10);replace hcE := (hb10.cell (p := ad.add k) (by rw [block_add]; omega)).trans hcE;have hzhb10 := hb10.size;clear q0 q1 q2 qf;replace HD := bk HD hb10;replace HN := Lib.hid (HN.out.up hb10);replace HS := Lib.hid (ints_upS HS.out hb10);replace hB := bl_trans hB hb10;obtain ⟨q0, q1, q2, qf⟩ := cells3 HD;clear hb10';refine hK.out _ _ ?_ (fun hHeld => ?_)
         · go_keep
         clear hK K
         try simp only [Act.put, pu]
         refine stk 8 162 ?_;refine stk 9 171 ?_;refine stk 10 172 ?_;refine stk 11 25 ?_;refine stk 12 26 ?_;refine wpAnyH_done (by kernel_rfl) ?_ _;obtain ⟨y, hy⟩ : ∃ y, y = nextS n r ys3 z := ⟨_, rfl⟩
         have HY := Lib.hid hy;rw [← hy];clear hy;go_wp2_with fail;refine (impl_IsLegalState _ _ _ _ n r (moveS n r ys3 [(z : Int)]) w10 HN.out HM.out (by omega) (by omega)).mono ?_;rintro e w11 ⟨rfl, hb11⟩;rw [HST2.out];have HB11 := Lib.hid hb11;replace HU := Lib.hid (ints_upS HU.out hb11);replace HM := Lib.hid (ints_upS HM.out hb11);replace hcE := (hb11.cell (p := ad.add k) (by rw [block_add]; omega)).trans hcE;have hzhb11 := hb11.size;clear q0 q1 q2 qf;replace HD := bk HD hb11;replace HN := Lib.hid (HN.out.up hb11);replace HS := Lib.hid (ints_upS HS.out hb11);replace hB := bl_trans hB hb11;obtain ⟨q0, q1, q2, qf⟩ := cells3 HD;have HBA := Lib.hid (show Below w8.heap.size w8 w11 from (((HBR.out.trans (HB9.out.mono (by omega))).trans (HB10.out.mono (by omega))).trans (HB11.out.mono (by omega))));obtain ⟨Am', cm', em, -, hcm, hm⟩ := HM.out.open_;obtain ⟨rfl, hml, rfl⟩ := Value.slice.inj em;obtain ⟨am, rfl, -, hcm2⟩ := hm (by rw [HML.out]; omega);have hcM := hcm2 z y (by rw [HY.out]; exact HNZ.out);obtain ⟨Au', cu', eu, -, hcu, hu⟩ := HU.out.open_;obtain ⟨rfl, hul, rfl⟩ := Value.slice.inj eu;obtain ⟨au, rfl, -, hcu2⟩ := hu (by omega);have hcU := hcu2 z s HSZ.out;have hm7 : z < m7 := by rw [hml, HML.out]; exact hzl
         have hm3 : z < m3 := by rw [hul]; exact hzl
         have hys : (y = s) = False := eq_false (by rw [HY.out]; exact HNE.out);have hys2 : (y == s) = false := by rw [HY.out]; simpa using HNE.out
         clear hm hcm2 hu hcu2 em eu hml hul q0 q1 q2 qf;cases lb with
         | true =>
          rw [HNL.out (by simp)];go_wp2_with fail;go_roundw
          case rel => exact ⟨HBA.out, k + 1, by omega, by go_num⟩
          case measure => simp [intOf]; omega
         | false =>
          go_wp2_with fail;go_roundw
          case rel => exact ⟨HBA.out, k + 1, by omega, by go_num⟩
          case measure => simp [intOf]; omega
        ·
         have hkk : ((k : Int) < (E.length : Int)) = False := eq_false (by omega);have HBZ := Lib.hid hB;clear q0 q1 q2 qf;go_wp2_with fail;go_meet
         case rel => exact HBZ.out
  case rest =>
   as_aux_lemma =>
    have HBC := Lib.hid hcut;clear HD HN HS HU HTY q0 q1 q2 qf hcut;go_wp2_with fail;refine (spec_DrawLegalStateOf _ wc ((Rb.out.keep fun b hb => HBC.out.block b hb).more HBC.out.size)).mono ?_;rintro e wd ⟨val, n, r, rfl, hk1, hfit, hbd⟩;have HKK := Lib.hid hk1;obtain ⟨ge, ce, x0⟩ := own_slN (hk1.own .e trivial);obtain ⟨C1, c1', x1⟩ := own_slN (hk1.own .i trivial);obtain ⟨C2, c2', x2⟩ := own_slN (hk1.own .n trivial);have HV := Lib.hid (And.intro x0 (And.intro x1 x2));rw [x0, x1, x2];clear x0 x1 x2;generalize (rowN n val .e).len = m0 at HV ⊢;generalize (rowN n val .i).len = m1 at HV ⊢;generalize (rowN n val .n).len = m2 at HV ⊢
    have HN := Lib.hid (show NetR wd wd.heap.size (.slice ge m0 ce) (.slice C1 m1 c1') (.slice C2 m2 c2') n by
     have h1 := HKK.out.reads hfit.i64;rw [HV.out.1, HV.out.2.1, HV.out.2.2] at h1
     exact h1)
    have hes := hfit.es;have hids := hfit.ids;have hB1 := bl_trans HBC.out hbd;clear hk1 hbd HV hfit HKK;obtain ⟨w2, hw2, hb2, HD, hz2, HS2⟩ := box3 wd (.slice ge m0 ce) (.slice C1 m1 c1') (.slice C2 m2 c2') 27;obtain ⟨P, hP⟩ : ∃ z, z = wd.heap.size := ⟨_, rfl⟩
    have HP := Lib.hid hP;rw [← hP] at HD hz2;have hPl : P ≤ wd.heap.size := by omega
    have HW2 := Lib.hid hw2;replace HN := Lib.hid (HN.out.up hb2);have hB := bl_trans hB1 hb2;obtain ⟨q0, q1, q2, qf⟩ := cells3 HD;have eq0 := q0;have eq1 := q1;have eq2 := q2;rw [hw2, hP] at eq0 eq1 eq2;clear hw2 hP hb2 hB1 q0 q1 q2 qf;go_wp2_with fail;rw [← HW2.out, ← HP.out];clear eq0 eq1 eq2;obtain ⟨q0, q1, q2, qf⟩ := cells3 HD;refine (impl_LegalStateOf _ _ _ n r w2 HN.out (by omega) (by omega)).mono ?_;rintro e w3 ⟨hb3, u3, M3, rfl, ⟨A3, m3, c3, rfl⟩, hu3, ht3, hf3⟩;have HU := Lib.hid hu3;have hzhb3 := hb3.size;clear q0 q1 q2 qf;replace HD := bk HD hb3;replace HN := Lib.hid (HN.out.up hb3);replace hB := bl_trans hB hb3;obtain ⟨q0, q1, q2, qf⟩ := cells3 HD;clear hu3;go_wp2_with fail;refine (spec_LegalStateOf _ _ _ n r w3 HN.out (by omega)).mono ?_;rintro e w4 ⟨hb4, u4, M4, rfl, ⟨A4, m4, c4, rfl⟩, hu4, ht4, hf4⟩;obtain rfl : M3 = M4 := by
     cases hb : askB n r with
     | true => exact (ht3 hb).trans (ht4 hb).symm
     | false => exact (hf3 hb).trans (hf4 hb).symm
    replace HU := Lib.hid (ints_upS HU.out hb4);have HU4 := Lib.hid hu4;have hzhb4 := hb4.size;clear q0 q1 q2 qf;replace HD := bk HD hb4;replace HN := Lib.hid (HN.out.up hb4);replace hB := bl_trans hB hb4;obtain ⟨q0, q1, q2, qf⟩ := cells3 HD
    have HL := Lib.hid (fun h : askB n r = true => show M3 = legL n r ∧ sitB n r M3 = true ∧ ilB n r M3 = true ∧ (enS n r M3 = [] ↔ r ≠ 5) by
     obtain rfl := ht3 h
     exact ⟨rfl, st_leg h⟩)
    clear hu4 ht3 ht4 hf3 hf4;cases ha : askB n r with
    | false =>
     clear ha HL q0 q1 q2 qf;go_wp2_with (go_at_call 9; refine (same_b _ _ M3 w4 HU.out HU4.out).mono ?_; rintro e w5 ⟨rfl, hb5⟩)
     go_ret;exact ⟨rfl, bl_trans hB hb5⟩
    | true =>
     obtain ⟨hM, hsm, him, hem⟩ := HL.out ha;have HX := Lib.hid (And.intro hsm him);have hMl : M3.length ≤ 300 := by rw [hM, legL_len]; omega
     clear ha HL hM hsm him;go_wp2_with (go_at_call 9; refine (same_b _ _ M3 w4 HU.out HU4.out).mono ?_; rintro e w5 ⟨rfl, hb5⟩; replace HU := Lib.hid (ints_upS HU.out hb5); have hzhb5 := hb5.size; clear q0 q1 q2 qf; replace HD := bk HD hb5; replace HN := Lib.hid (HN.out.up hb5); replace hB := bl_trans hB hb5; obtain ⟨q0, q1, q2, qf⟩ := cells3 HD)
     refine (impl_IsLegalState _ _ _ _ n r M3 w5 HN.out HU.out (by omega) (by omega)).mono ?_;rintro e w6 ⟨rfl, hb6⟩;rw [HX.out.1, HX.out.2];replace HU := Lib.hid (ints_upS HU.out hb6);have hzhb6 := hb6.size;clear q0 q1 q2 qf;replace HD := bk HD hb6;replace HN := Lib.hid (HN.out.up hb6);replace hB := bl_trans hB hb6;obtain ⟨q0, q1, q2, qf⟩ := cells3 HD;go_wp2_with fail;refine (impl_EnabledNodes _ _ _ _ n r M3 w6 HN.out HU.out (by omega) (by omega)).mono ?_;rintro e w7 ⟨hb7, uE, E, rfl, ⟨A6, m6, c6, rfl⟩, huE, hE⟩;obtain rfl := hE HX.out.1;rw [HX.out.1];obtain ⟨A6', c6', e6, -, -, -⟩ := huE.open_;obtain ⟨rfl, hm6, rfl⟩ := Value.slice.inj e6;have HBF := Lib.hid (bl_trans hB hb7);have HEM := Lib.hid hem;have HM6 := Lib.hid hm6;clear q0 q1 q2 qf hem hE huE e6 hm6;by_cases hr : r = 5
     ·
      subst hr;have hm0 : m6 ≠ 0 := fun h => absurd rfl (HEM.out.1 (List.eq_nil_of_length_eq_zero (by rw [← HM6.out]; exact h)))
      have hm1 : ((m6 : Int) == 0) = false := by simp; omega
      have hm2 : ((m6 : Int) = 0) = False := eq_false (by omega);go_wp2_with fail;go_ret;exact ⟨rfl, HBF.out⟩
     ·
      have hm0 : m6 = 0 := by rw [HM6.out, HEM.out.2 hr]; rfl
      subst hm0;have hr1 : (r == 5) = false := by simpa using hr
      have hr3 : (r != 5) = true := by simpa using hr
      have hr2 : (r = 5) = False := eq_false hr;go_wp2_with fail;go_ret;exact ⟨rfl, HBF.out⟩
set_option maxRecDepth 100000 in
/-- The reading of a slice of bytes. -/
theorem bytes_of_trod {H : Type} {enc : TypeId × Value → H} {W : World} {r : Reach} {b0 : Nat} {base : Nat} {sp : Nat → Bool} {hd : Bool} {v : Value} {d : DataW H} {ps : List MemPlace} (hval : Value.okWide Tryz.prog W r b0 22 v)
  (h : DataW.Trod enc Tryz.prog W base sp hd 22 v d ps) : BytesU W v := by
 obtain ⟨a, l, c, rfl⟩ := okWide_slice Tryz.underlying22 hval;obtain ⟨fuel, hf⟩ := h;rcases open_ints Tryz.underlying22 Tryz.underlying5 (by kernel_rfl) hf with ⟨e, _⟩ | ⟨ad, len, cap, zs, e, _, hl, hm, hz, _, hcell, hwf⟩
 · have e' : Value.slice a l c = .slice none 0 0 := (List.cons.inj (show [Value.slice a l c] = [.slice none 0 0] from e)).1;exact ⟨none, 0, 0, e', by omega, by omega, fun h => absurd h (by omega)⟩
 ·
  have e' : Value.slice a l c = .slice (some ad) len cap := (List.cons.inj (show [Value.slice a l c] = [.slice (some ad) len cap] from e)).1;unfold maxLen at hm;refine ⟨some ad, len, cap, e', by omega, by omega, fun hn => ⟨ad, rfl, ?_, fun j hj => ?_⟩⟩
  · have h0 := hcell 0 (by rw [hz]; split <;> omega);have := World.block_lt_of_cell? _ _ h0;rwa [block_add] at this
  ·
   have hjz : j < zs.length := by rw [hz]; split <;> omega
   have h1 := hcell j hjz;have hw := hwf (zs.getD j 0) (by rw [List.getD_eq_getElem?_getD, List.getElem?_eq_getElem hjz]; exact List.getElem_mem _);have h2 : 0 ≤ zs.getD j 0 ∧ zs.getD j 0 ≤ 255 := by simpa [Lit.wf, IntKind.min, IntKind.max, IntKind.signed, IntKind.bits] using hw
   refine ⟨(zs.getD j 0).toNat, by omega, ?_⟩;rw [h1, show ((zs.getD j 0).toNat : Int) = zs.getD j 0 by omega]
theorem laidOut : laidOutB Tryz.prog = true := by kernel_rfl
theorem own : ownKnob Tryz.prog.godebug = none := by kernel_rfl
set_option maxRecDepth 100000 in
theorem lifted (os : Os) (started : os.Started) (H : Type) (enc : TypeId × Value → H) :
  ReturnsInHanded {} Tryz.checked os 4 .any (Rows.fnStableRunsSpec.pre6 enc Tryz.prog Tryz.f4 Rows.fnStableRunsRow.domain false) (Rows.fnStableRunsSpec.post enc Tryz.prog Tryz.f4 false true false false) := by
 refine returnsInHanded_of_change (C := Tryz.checked) own started (by kernel_rfl) Tryz.func4
  (ChangeSpec.witness6 (enc := enc) (C := Tryz.checked) false ⟨#[], #[.slice none 0 0, .slice none 0 0], []⟩ 8 (by kernel_rfl) (by kernel_rfl) (by kernel_rfl) (by kernel_rfl)) ?_
 intro W base args ds gs before hval0 hW hcnd _;have hval : ∀ (j : Nat) t v, Tryz.f4.params[j]? = some t → args[j]? = some v → Value.okWide Tryz.prog W .any base t v := hval0;have hW' := hW;obtain ⟨p, q, hA0, hV, rfl, hfz, hnd⟩ := hW;have hA : DataW.TrodAll enc Tryz.prog W 0 (fun _ => true) true Tryz.f4.params.toList args.toList ds p := hA0;rw [Tryz.params4] at hA hval;obtain ⟨v0, vs0, d0, ds0, p0, q0, hargs, rfl, rfl, h0, r0⟩ := trodAll_cons hA;obtain ⟨v1, vs1, d1, ds1, p1, q1, rfl, rfl, rfl, h1, r1⟩ := trodAll_cons r0;obtain ⟨rfl, rfl, rfl⟩ := trodAll_nil r1;obtain rfl : args = #[v0, v1] := by cases args; simp_all
 obtain ⟨rfl, rfl⟩ := trodVars_none hV;have hb0 := bytes_of_trod (hval 0 22 v0 rfl rfl) h0;have hb1 := bytes_of_trod (hval 1 22 v1 rfl rfl) h1;refine (walk v0 v1 W hb0 hb1).mono fun e W' ⟨he, hg⟩ => ?_
 subst he;exact ⟨_, rfl, post_law laidOut (by kernel_rfl) rfl (by kernel_rfl) Tryz.underlying4 rfl hW' hg⟩
theorem over : Rows.fnStableRunsRow.holds Tryz.pinned (OpenSpec.ofChange Rows.fnStableRunsSpec) :=
  OpenClaim.holds_of_wide 4 Tryz.f4 rfl rfl rfl rfl rfl rfl rfl ⟨rfl, rfl, rfl, rfl, rfl⟩ rfl rfl rfl rfl rfl (by kernel_rfl) Tryz.func4 (by kernel_rfl)
    (of_decide_eq_true (by kernel_rfl)) (by unfold Func.isWrapper; first | (rw [if_pos (by decide +kernel)]; kernel_rfl) | (rw [if_neg (by decide +kernel)]; exact ⟨rfl, rfl⟩))
    (fun os started H enc _ => lifted os started H enc)
theorem proved : Rows.FnStableRunsSaid :=
  over
#print axioms proved
end Go.Proofs.YtdghoienjegffaaGreat.fnStableRuns
