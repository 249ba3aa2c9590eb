/-
  Small lemmas and contracts that the texts of this claim share. No condition.
-/
import Derived.Test.YtjklbjmdgiddcaaGreatGPlainNetG
import Derived.Laws.StructEq
namespace Go.Proofs.YtjklbjmdgiddcaaGreat
section
open Go.RowKit
set_option linter.all false
theorem eqIn_End (a b c d : Int) (w : World) : (Op.equalIn 10000 138 (.agg #[.int .i64 a, .int .i64 b]) (.agg #[.int .i64 c, .int .i64 d])).run Tryz.prog w = .ok (a == c && b == d) w := by
  have u3 := Tryz.underlying3;have hS : Tryz.prog.underlying 138 = some (.struct (Tryz.prog.fieldsOf 138)) := by kernel_rfl
  have hp : Tryz.prog.stoodInHeld 138 = false := by kernel_rfl
  have a3 := Tryz.isAgg3;have z3 := Tryz.sizeOf3;rw [show (10000 : Nat) = 9999 + 1 from rfl, run_equalIn_agg w 9999 138 _ _ hS hp];simp only [Program.fieldsOf, Tryz.underlying138];go_simp;by_cases h1 : a = c <;> by_cases h2 : b = d <;> simp [h1, h2]
theorem endOk_of {es : List Ends} {v i a p : Nat} {e x : Int × Int} {m : Ends} (h1 : e.1 = a) (h2 : e.2 = p) (hm : es[a]? = some m) (hx : m[p]? = some x) (hv : x.1 = v ∧ x.2 = i) : endOk es v i e := by refine ⟨by omega, by omega, m, by rw [h1]; exact hm, ?_⟩;rw [h2, Int.toNat_natCast, hx, ← hv.1, ← hv.2]
theorem endOk_no1 {es : List Ends} {v i : Nat} {e : Int × Int} (h : inB e.1 0 ((es.length : Int) - 1) = false) : ¬ endOk es v i e := fun ⟨h0, _, m, hm, _⟩ => by have := (aB.1 hm).1;rw [inB_t (by omega)] at h;cases h
theorem endOk_no2 {es : List Ends} {v i a : Nat} {e : Int × Int} {m : Ends} (h1 : e.1 = a) (hm : es[a]? = some m) (h : inB e.2 0 ((m.length : Int) - 1) = false) : ¬ endOk es v i e := fun ⟨_, h0, m', hm', hx⟩ => by rw [h1, Int.toNat_natCast, hm] at hm';obtain rfl := aE hm';have := (aB.1 hx).1;rw [inB_t (by omega)] at h;cases h
theorem endOk_no3 {es : List Ends} {v i a p : Nat} {e x : Int × Int} {m : Ends} (h1 : e.1 = a) (h2 : e.2 = p) (hm : es[a]? = some m) (hx : m[p]? = some x) (hv : ¬ (x.1 = v ∧ x.2 = i)) : ¬ endOk es v i e := fun ⟨_, _, m', hm', hx'⟩ => by rw [h1, Int.toNat_natCast, hm] at hm';obtain rfl := aE hm';rw [h2, Int.toNat_natCast, hx] at hx';exact hv (by rw [aE hx']; exact ⟨rfl, rfl⟩)
def NodesTo (n : Net) (k : Nat) : Prop := ∀ (v : Nat) (l : Ends), v < k → n.es[v]? = some l → nodeOk n.es v l
def EndsOkTo (n : Net) (v : Nat) (l : Ends) (k : Nat) : Prop := ∀ (i : Nat) (e : Int × Int), i < k → l[i]? = some e → endOk n.es v i e
theorem EndsOkTo.next {n : Net} {v k : Nat} {l : Ends} {e : Int × Int} (h : EndsOkTo n v l k) (he : l[k]? = some e) (ho : endOk n.es v k e) : EndsOkTo n v l (k + 1) := fun i e' hi he' => by
  by_cases e1 : i = k
  · subst e1
    obtain rfl := aE (he.symm.trans he');exact ho
  · exact h i e' (by omega) he'
theorem NodesTo.next {n : Net} {k j : Nat} {l : Ends} (h : NodesTo n k) (hl : n.es[k]? = some l) (h6 : l.length ≤ 6) (ho : EndsOkTo n k l j) (hj : l.length ≤ j) : NodesTo n (k + 1) := fun v l' hv hl' => by
  by_cases e : v = k
  · subst e
    obtain rfl := aE (hl.symm.trans hl');exact ⟨h6, fun i x hx => ho i x (by have := (aB.1 hx).1; omega) hx⟩
  · exact h v l' (by omega) hl'
def HeadP (n : Net) : Prop := (1 ≤ n.es.length ∧ n.es.length ≤ 40) ∧ idsP n.ids n.es.length ∧ n.ins.length = n.es.length ∧ ∀ x ∈ n.ins, 0 ≤ x ∧ x ≤ 9
theorem net_end {n : Net} {k : Nat} (hh : HeadP n) (h : NodesTo n k) (hk : n.es.length ≤ k) : netB n = true :=
  propB_t ⟨hh.1, hh.2.1, hh.2.2.1, hh.2.2.2, fun v l hl => h v l (by have := (aB.1 hl).1; omega) hl⟩
theorem net_no6 {n : Net} {k : Nat} {l : Ends} (hl : n.es[k]? = some l) (h : ¬ l.length ≤ 6) : netB n = false := propB_f fun hp => h (hp.2.2.2.2 k l hl).1
theorem net_noE {n : Net} {k j : Nat} {l : Ends} {e : Int × Int} (hl : n.es[k]? = some l) (he : l[j]? = some e) (h : ¬ endOk n.es k j e) : netB n = false := propB_f fun hp => h ((hp.2.2.2.2 k l hl).2 j e he)
theorem net_noH {n : Net} (h : ¬ HeadP n) : netB n = false := propB_f fun hp => h ⟨hp.1, hp.2.1, hp.2.2.1, hp.2.2.2.1⟩
def GdRel (n : Net) (w : World) (i : Value) (wr : World) : Prop := Below w.heap.size w wr ∧ ∃ k : Nat, k ≤ n.es.length ∧ i = .int .i64 k ∧ NodesTo n k
def GeRel (n : Net) (v : Nat) (l : Ends) (w : World) (i : Value) (wr : World) : Prop := Below w.heap.size w wr ∧ ∃ k : Nat, k ≤ l.length ∧ i = .int .i64 k ∧ EndsOkTo n v l k
theorem inAll_iff (xs : List Int) : allB xs 0 9 = true ↔ ∀ x ∈ xs, 0 ≤ x ∧ x ≤ 9 := allB_iff
set_option maxRecDepth 100000 in
set_option maxHeartbeats 2000000 in
theorem spec_neGood (ve vi vn : Value) (n : Net) (w : World) (h : NetR w w.heap.size ve vi vn n) (hz : n.es.length ≤ 2000000) :
  Calls Tryz.prog 97 #[.agg #[ve, vi, vn]] w fun e w' => e = .returned (.bool (netB n)) ∧ Below w.heap.size w w' := by
 have hgd : Tryz.prog.eqGuardType Tryz.prog.depth 138 = false := by kernel_rfl
 have heq := eqIn_End;obtain ⟨⟨A0, m0, c0, rfl⟩, ⟨A1, m1, c1, rfl⟩, A2, m2, c2, rfl⟩ := h.slices;obtain ⟨w0, hw0, hB, HD, hz0, HS0⟩ := box3 w (.slice A0 m0 c0) (.slice A1 m1 c1) (.slice A2 m2 c2) 50;have HN0 := aA h; have HN := aA (h.up hB); clear h;have HW0 := aA hw0; clear hw0;obtain ⟨q0, q1, q2, qf⟩ := cells3 HD;obtain ⟨hm0, hcc, hmx⟩ := HN.out.e.len_slice;subst hm0;obtain ⟨hm1, -, -, -⟩ := HN.out.i.some_;subst hm1;obtain ⟨hm2, hd2, hd3, -⟩ := HN.out.n.some_;subst hm2;have hmx' : n.es.length ≤ 9223372036854775807 := by unfold maxLen at hmx; omega
 have hmi' : n.ins.length ≤ 9223372036854775807 := by unfold maxLen at hd3; omega
 clear hmx hd3 hcc hd2;go_enter Tryz.func97, Tryz.ntmps97;cases g1 : inB (n.es.length : Int) 1 40 with
 | false =>
  go_wp2_with (go_at_call 93; refine (spec_l1In _ _ _ _).mono ?_; rintro e w' ⟨rfl, rfl⟩)
  go_ret;rw [← HW0.out];exact ⟨ret_bool (net_noH fun hh => by rw [inB_t (by have := hh.1; omega)] at g1; cases g1).symm, hB⟩
 | true =>
  have h40 : 1 ≤ n.es.length ∧ n.es.length ≤ 40 := by unfold inB at g1; have := of_decide_eq_true g1; omega
  go_wp2_with (go_at_call 93; refine (spec_l1In _ _ _ _).mono ?_; rintro e w' ⟨rfl, rfl⟩)
  rw [← HW0.out];refine (spec_neIds _ n.ids n.es.length w0 HN.out.i (by omega)).mono ?_;rintro e w' ⟨rfl, rfl⟩;cases g2 : idsB n.ids n.es.length with
  | false =>
   go_wp2_with fail;go_ret;exact ⟨ret_bool (net_noH fun hh => by rw [show idsB n.ids n.es.length = true from propB_t hh.2.1] at g2; cases g2).symm, hB⟩
  | true =>
   by_cases g3 : n.ins.length = n.es.length
   ·
    have kq : (((n.ins.length : Nat) : Int) != (n.es.length : Int)) = false := by rw [g3]; simp
    have HG3 := aA g3; clear g3;go_wp2_with fail;refine (spec_l1All _ n.ins 0 9 w0 HN.out.n).mono ?_;rintro e w' ⟨rfl, rfl⟩;cases g4 : allB n.ins 0 9 with
    | false =>
     go_wp2_with fail;go_ret;exact ⟨ret_bool (net_noH fun hh => by rw [(inAll_iff _).2 hh.2.2.2] at g4; cases g4).symm, hB⟩
    | true =>
     have HH := aA (show HeadP n from ⟨h40, propB_iff.1 g2, HG3.out, (inAll_iff _).1 g4⟩);go_wp2_with fail;go_loopw [3, 4, 39] (fun _ _ i wr => GdRel n w0 i wr) (fun _ _ i _ => n.es.length - (intOf i).toNat)
     case atStart => exact ⟨Below.refl _ _, 0, Nat.zero_le _, rfl, fun _ _ h => absurd h (by omega)⟩
     case round =>
      obtain ⟨hb1, k, hk, rfl, hup⟩ := hrel;have HU := aA hup; clear hup;have hzhb1 := hb1.size;clear q0 q1 q2 qf;replace HD := bk HD hb1;replace HN := aA (HN.out.up hb1);replace hB := bl_trans hB hb1;obtain ⟨q0, q1, q2, qf⟩ := cells3 HD;by_cases hlt : k < n.es.length
      ·
       obtain ⟨l, hl⟩ : ∃ y, n.es[k]? = some y := ⟨n.es[k], aC hlt⟩
       obtain ⟨ad, rfl⟩ := HN.out.e.some_ (by omega);obtain ⟨hbb, u, hu, hr⟩ := HN.out.e.at_ hl;have HR := aA hr;obtain ⟨A', c', rfl, hlc, hlm, -, h4⟩ := hr;unfold maxLen at hlm;have HL := aA hl; clear hl;by_cases h6 : l.length ≤ 6
       ·
        go_wp2_with fail;obtain ⟨wq, rfl⟩ : ∃ z, z = wr := ⟨_, rfl⟩
        go_loopw [5, 6, 49] (fun _ _ i wr' => GeRel n k l wq i wr') (fun _ _ i _ => l.length - (intOf i).toNat)
        case atStart => exact ⟨Below.refl _ _, 0, Nat.zero_le _, rfl, fun _ _ h => absurd h (by omega)⟩
        case round =>
         obtain ⟨hb2, j, hj, rfl, hup2⟩ := hrel;have HU2 := aA hup2; clear hup2;have hzhb2 := hb2.size;clear q0 q1 q2 qf;replace HD := bk HD hb2;replace HN := aA (HN.out.up hb2);replace hB := bl_trans hB hb2;obtain ⟨q0, q1, q2, qf⟩ := cells3 HD;by_cases hlt2 : j < l.length
         ·
          obtain ⟨e, he⟩ : ∃ y, l[j]? = some y := ⟨_, aC hlt2⟩
          obtain ⟨b, o, rfl, -, -⟩ := h4 (by omega);obtain ⟨hbb, p0, p1⟩ := (HR.out.below hb2).at_ he;obtain ⟨wv, hwv, hb3, HE, hzv, HSV⟩ := box2 wr (.int .i64 e.1) (.int .i64 e.2) 138;have HWV := aA hwv; clear hwv;have HEL := aA he; clear he;go_wp2_with fail;rw [← HWV.out];replace hb2 := bl_trans hb2 hb3;have hzhb3 := hb3.size;clear q0 q1 q2 qf;replace HD := bk HD hb3;replace HN := aA (HN.out.up hb3);replace hB := bl_trans hB hb3;obtain ⟨q0, q1, q2, qf⟩ := cells3 HD;obtain ⟨e0, e1, ef⟩ := cells2 HE;have HNS := aA (fun h => net_noE HL.out HEL.out h);cases g : inB e.1 0 ((n.es.length : Int) - 1) with
          | false =>
           have HF := aA (HNS.out (endOk_no1 g));clear HNS p0 p1;refine aH (S := fun w' => w'.cell? ⟨w.heap.size, 0, none⟩ = some (.slice (some ad) n.es.length c0) ∧ w'.cell? ⟨wr.heap.size, 0, none⟩ = some (.int .i64 e.1) ∧ w'.cell? ⟨wr.heap.size, 1, none⟩ = some (.int .i64 e.2)) (by kernel_rfl) ?_ (fun hHeld => ?_)
           · go_keep
           refine stk 0 54 ?_;refine stk 1 55 ?_;refine stk 2 56 ?_;refine stk 3 57 ?_;refine stk 4 58 ?_;refine stk 5 59 ?_;refine tr 6 rfl (by kernel_rfl) (fun K hK => ?_);go_simp;go_at_call 93;refine (spec_l1In _ _ _ _).mono ?_;rintro e w' ⟨rfl, rfl⟩;rw [show IntKind.i64.wrap ((n.es.length : Int) - 1) = (n.es.length : Int) - 1 from aL _ (by omega), g];refine hK.out _ _ ?_ (fun hHeld => ?_)
           · go_keep
           clear hK K
           try simp only [Act.put, pu]
           refine stk 7 61 ?_;refine stk 8 62 ?_;refine stn 9 63 ?_;refine stn 10 64 ?_;refine stn 11 65 ?_;refine stn 12 66 ?_;refine stn 13 67 ?_;refine stn 14 68 ?_;refine stn 15 69 ?_;refine stn 16 70 ?_;refine stn 17 71 ?_;refine stn 18 72 ?_;refine stn 19 73 ?_;refine stn 20 74 ?_;refine stk 21 75 ?_;refine stk 22 76 ?_;refine stn 23 77 ?_;refine stn 24 78 ?_;refine stn 25 79 ?_;refine stn 26 80 ?_;refine stn 27 81 ?_;refine stn 28 82 ?_;refine stn 29 83 ?_;refine stn 30 84 ?_;refine stn 31 85 ?_;refine stn 32 86 ?_;refine stn 33 87 ?_;refine stn 34 88 ?_;refine stn 35 89 ?_;refine stn 36 90 ?_;refine stk 37 91 ?_;refine aK (by kernel_rfl) ?_ _;go_wp2_with fail;go_ret;exact ⟨ret_bool HF.out.symm, hB.drew⟩
          | true =>
           obtain ⟨a, ha, hal⟩ := inB_nat g;obtain ⟨m, hm⟩ : ∃ y, n.es[a]? = some y := ⟨_, aC hal⟩
           obtain ⟨-, u2, r0, hrm⟩ := HN.out.e.at_ hm;have HRM := aA hrm;obtain ⟨Am, cm, rfl, hmc, hmm, -, h5⟩ := hrm;unfold maxLen at hmm;rw [ha] at e0 g;have HA := aA ha; clear ha;have HM := aA hm; clear hm;cases g2' : inB e.2 0 ((m.length : Int) - 1) with
           | false =>
            have HF := aA (HNS.out (endOk_no2 HA.out HM.out g2'));clear HNS p0 p1 h5;refine aH (S := fun w' => w'.cell? ⟨w.heap.size, 0, none⟩ = some (.slice (some ad) n.es.length c0) ∧ w'.cell? ⟨wr.heap.size, 0, none⟩ = some (.int .i64 (a : Int)) ∧ w'.cell? ⟨wr.heap.size, 1, none⟩ = some (.int .i64 e.2) ∧ w'.cell? (ad.add a) = some (.slice Am m.length cm)) (by kernel_rfl) ?_ (fun hHeld => ?_)
            · go_keep
            refine stk 0 54 ?_;refine stk 1 55 ?_;refine stk 2 56 ?_;refine stk 3 57 ?_;refine stk 4 58 ?_;refine stk 5 59 ?_;refine tr 6 rfl (by kernel_rfl) (fun K hK => ?_);go_simp;go_at_call 93;refine (spec_l1In _ _ _ _).mono ?_;rintro e w' ⟨rfl, rfl⟩;rw [show IntKind.i64.wrap ((n.es.length : Int) - 1) = (n.es.length : Int) - 1 from aL _ (by omega), g];refine hK.out _ _ ?_ (fun hHeld => ?_)
            · go_keep
            clear hK K
            try simp only [Act.put, pu]
            refine stk 7 61 ?_;refine stk 8 62 ?_;refine stk 9 63 ?_;refine stk 10 64 ?_;refine stk 11 65 ?_;refine stk 12 66 ?_;refine stk 13 67 ?_;refine stk 14 68 ?_;refine stk 15 69 ?_;refine stk 16 70 ?_;refine stk 17 71 ?_;refine stk 18 72 ?_;refine tr 19 rfl (by kernel_rfl) (fun K hK => ?_);go_simp;go_at_call 93;refine (spec_l1In _ _ _ _).mono ?_;rintro e w' ⟨rfl, rfl⟩;rw [show IntKind.i64.wrap ((m.length : Int) - 1) = (m.length : Int) - 1 from aL _ (by omega), g2'];refine hK.out _ _ ?_ (fun hHeld => ?_)
            · go_keep
            clear hK K
            try simp only [Act.put, pu]
            refine stk 20 74 ?_;refine stk 21 75 ?_;refine stk 22 76 ?_;refine stn 23 77 ?_;refine stn 24 78 ?_;refine stn 25 79 ?_;refine stn 26 80 ?_;refine stn 27 81 ?_;refine stn 28 82 ?_;refine stn 29 83 ?_;refine stn 30 84 ?_;refine stn 31 85 ?_;refine stn 32 86 ?_;refine stn 33 87 ?_;refine stn 34 88 ?_;refine stn 35 89 ?_;refine stn 36 90 ?_;refine stk 37 91 ?_;refine aK (by kernel_rfl) ?_ _;go_wp2_with fail;go_ret;exact ⟨ret_bool HF.out.symm, hB.drew⟩
           | true =>
            obtain ⟨p, hp, hpl⟩ := inB_nat g2';obtain ⟨x, hx⟩ : ∃ y, m[p]? = some y := ⟨_, aC hpl⟩
            obtain ⟨b2, o2, rfl, -, -⟩ := h5 (by omega);obtain ⟨-, x0, x1⟩ := HRM.out.at_ hx;rw [hp] at e1 g2';have HPP := aA hp; clear hp;have HX := aA hx; clear hx;clear p0 p1 h5;by_cases hv : x.1 = (k : Int) ∧ x.2 = (j : Int)
            ·
             have kq : (x.1 == (k : Int) && x.2 == (j : Int)) = true := by rw [hv.1, hv.2]; simp
             have HO := aA (HU2.out.next HEL.out (endOk_of HA.out HPP.out HM.out HX.out hv));clear hv HNS;refine aH (S := fun w' => w'.cell? ⟨w.heap.size, 0, none⟩ = some (.slice (some ad) n.es.length c0) ∧ w'.cell? ⟨wr.heap.size, 0, none⟩ = some (.int .i64 (a : Int)) ∧ w'.cell? ⟨wr.heap.size, 1, none⟩ = some (.int .i64 (p : Int)) ∧ w'.cell? (ad.add a) = some (.slice (some ⟨b2, o2, none⟩) m.length cm) ∧ w'.cell? ⟨b2, o2 + p * 2, none⟩ = some (.int .i64 x.1) ∧ w'.cell? ⟨b2, o2 + p * 2 + 1, none⟩ = some (.int .i64 x.2)) (by kernel_rfl) ?_ (fun hHeld => ?_)
             · go_keep
             refine stk 0 54 ?_;refine stk 1 55 ?_;refine stk 2 56 ?_;refine stk 3 57 ?_;refine stk 4 58 ?_;refine stk 5 59 ?_;refine tr 6 rfl (by kernel_rfl) (fun K hK => ?_);go_simp;go_at_call 93;refine (spec_l1In _ _ _ _).mono ?_;rintro e w' ⟨rfl, rfl⟩;rw [show IntKind.i64.wrap ((n.es.length : Int) - 1) = (n.es.length : Int) - 1 from aL _ (by omega), g];refine hK.out _ _ ?_ (fun hHeld => ?_)
             · go_keep
             clear hK K
             try simp only [Act.put, pu]
             refine stk 7 61 ?_;refine stk 8 62 ?_;refine stk 9 63 ?_;refine stk 10 64 ?_;refine stk 11 65 ?_;refine stk 12 66 ?_;refine stk 13 67 ?_;refine stk 14 68 ?_;refine stk 15 69 ?_;refine stk 16 70 ?_;refine stk 17 71 ?_;refine stk 18 72 ?_;refine tr 19 rfl (by kernel_rfl) (fun K hK => ?_);go_simp;go_at_call 93;refine (spec_l1In _ _ _ _).mono ?_;rintro e w' ⟨rfl, rfl⟩;rw [show IntKind.i64.wrap ((m.length : Int) - 1) = (m.length : Int) - 1 from aL _ (by omega), g2'];refine hK.out _ _ ?_ (fun hHeld => ?_)
             · go_keep
             clear hK K
             try simp only [Act.put, pu]
             refine stk 20 74 ?_;refine stk 21 75 ?_;refine stk 22 76 ?_;refine stk 23 77 ?_;refine stk 24 78 ?_;refine stk 25 79 ?_;refine stk 26 80 ?_;refine stk 27 81 ?_;refine stk 28 82 ?_;refine stk 29 83 ?_;refine stk 30 84 ?_;refine stk 31 85 ?_;refine stk 32 86 ?_;refine stk 33 87 ?_;refine stk 34 88 ?_;refine stk 35 89 ?_;refine stk 36 90 ?_;refine stk 37 91 ?_;refine aK (by kernel_rfl) ?_ _;go_wp2_with fail;go_roundw
             case rel => exact ⟨hb2.drew, j + 1, by omega, by go_num, HO.out⟩
             case measure => simp [intOf]; omega
            ·
             have kq : (x.1 == (k : Int) && x.2 == (j : Int)) = false := by
              rw [Bool.and_eq_false_iff, beq_eq_false_iff_ne, beq_eq_false_iff_ne];by_cases h1 : x.1 = (k : Int)
              · exact .inr fun h2 => hv ⟨h1, h2⟩
              · exact .inl h1
             have HF := aA (HNS.out (endOk_no3 HA.out HPP.out HM.out HX.out hv));clear hv HNS;refine aH (S := fun w' => w'.cell? ⟨w.heap.size, 0, none⟩ = some (.slice (some ad) n.es.length c0) ∧ w'.cell? ⟨wr.heap.size, 0, none⟩ = some (.int .i64 (a : Int)) ∧ w'.cell? ⟨wr.heap.size, 1, none⟩ = some (.int .i64 (p : Int)) ∧ w'.cell? (ad.add a) = some (.slice (some ⟨b2, o2, none⟩) m.length cm) ∧ w'.cell? ⟨b2, o2 + p * 2, none⟩ = some (.int .i64 x.1) ∧ w'.cell? ⟨b2, o2 + p * 2 + 1, none⟩ = some (.int .i64 x.2)) (by kernel_rfl) ?_ (fun hHeld => ?_)
             · go_keep
             refine stk 0 54 ?_;refine stk 1 55 ?_;refine stk 2 56 ?_;refine stk 3 57 ?_;refine stk 4 58 ?_;refine stk 5 59 ?_;refine tr 6 rfl (by kernel_rfl) (fun K hK => ?_);go_simp;go_at_call 93;refine (spec_l1In _ _ _ _).mono ?_;rintro e w' ⟨rfl, rfl⟩;rw [show IntKind.i64.wrap ((n.es.length : Int) - 1) = (n.es.length : Int) - 1 from aL _ (by omega), g];refine hK.out _ _ ?_ (fun hHeld => ?_)
             · go_keep
             clear hK K
             try simp only [Act.put, pu]
             refine stk 7 61 ?_;refine stk 8 62 ?_;refine stk 9 63 ?_;refine stk 10 64 ?_;refine stk 11 65 ?_;refine stk 12 66 ?_;refine stk 13 67 ?_;refine stk 14 68 ?_;refine stk 15 69 ?_;refine stk 16 70 ?_;refine stk 17 71 ?_;refine stk 18 72 ?_;refine tr 19 rfl (by kernel_rfl) (fun K hK => ?_);go_simp;go_at_call 93;refine (spec_l1In _ _ _ _).mono ?_;rintro e w' ⟨rfl, rfl⟩;rw [show IntKind.i64.wrap ((m.length : Int) - 1) = (m.length : Int) - 1 from aL _ (by omega), g2'];refine hK.out _ _ ?_ (fun hHeld => ?_)
             · go_keep
             clear hK K
             try simp only [Act.put, pu]
             refine stk 20 74 ?_;refine stk 21 75 ?_;refine stk 22 76 ?_;refine stk 23 77 ?_;refine stk 24 78 ?_;refine stk 25 79 ?_;refine stk 26 80 ?_;refine stk 27 81 ?_;refine stk 28 82 ?_;refine stk 29 83 ?_;refine stk 30 84 ?_;refine stk 31 85 ?_;refine stk 32 86 ?_;refine stk 33 87 ?_;refine stk 34 88 ?_;refine stk 35 89 ?_;refine stk 36 90 ?_;refine stk 37 91 ?_;refine aK (by kernel_rfl) ?_ _;go_wp2_with fail;go_ret;exact ⟨ret_bool HF.out.symm, hB.drew⟩
         ·
          have hl2 : l.length ≤ j := by omega
          go_wp2_with fail;refine ⟨⟨bl_trans hb1 hb2, k + 1, by omega, by go_num, HU.out.next HL.out h6 HU2.out hl2⟩, ?_⟩;simp [intOf];omega
       · have HF := aA (net_no6 HL.out h6);go_wp2_with fail;go_ret;exact ⟨ret_bool HF.out.symm, hB⟩
      · have HF := aA (net_end HH.out HU.out (by omega));go_wp2_with fail;go_ret;exact ⟨ret_bool HF.out.symm, hB⟩
   ·
    have kq : (((n.ins.length : Nat) : Int) != (n.es.length : Int)) = true := by rw [bne_iff_ne]; omega
    have HF := aA (net_noH (n := n) fun hh => g3 hh.2.2.1);clear g3;go_wp2_with fail;go_ret;exact ⟨ret_bool HF.out.symm, hB⟩
end
section
open Go.RowKit
set_option linter.all false
end
section
open Go.RowKit
set_option linter.all false
/-! ### The number of a situation -/
/-! ### The states of a number -/
end
section
open Go.RowKit
set_option linter.all false
end
end Go.Proofs.YtjklbjmdgiddcaaGreat
namespace Go.Proofs.YtjklbjmdgiddcaaGreat
open Go.RowKit
set_option linter.all false
theorem closure_within (x lo hi : Int) (a b : Nat) (w : World) (ha : w.cell? ⟨a, 0, none⟩ = some (.int .i64 lo)) (hb : w.cell? ⟨b, 0, none⟩ = some (.int .i64 hi)) :
    Calls Tryz.prog 129 #[.int .i64 x, .pointer (some ⟨a, 0, none⟩), .pointer (some ⟨b, 0, none⟩)] w fun e w' => e = .returned (.bool (!inB x lo hi)) ∧ w = w' := by
  go_enter Tryz.func129, Tryz.ntmps129;go_wp2_with (go_at_call 94; refine (impl_within _ _ _ _).mono ?_; rintro e w' ⟨rfl, rfl⟩)
  go_ret;exact ⟨rfl, rfl⟩
def NotIdx (xs : List Int) (lo hi : Int) (w : World) (e : Ending) (w' : World) : Prop := ∃ i : Int, e = .returned (.int .i64 i) ∧ -1 ≤ i ∧ i ≤ xs.length ∧ decide (0 ≤ i) = !allB xs lo hi ∧ w = w'
theorem indexFunc_within (v : Value) (xs : List Int) (lo hi : Int) (a b : Nat) (w : World) (h : IntsR w w.heap.size v xs) (ha : w.cell? ⟨a, 0, none⟩ = some (.int .i64 lo)) (hb : w.cell? ⟨b, 0, none⟩ = some (.int .i64 hi)) :
  Calls Tryz.prog 140 #[v, .func (.func 129) #[] #[.pointer (some ⟨a, 0, none⟩), .pointer (some ⟨b, 0, none⟩)]] w (NotIdx xs lo hi w) := by
 obtain ⟨A, c, rfl, h1, h2, h3⟩ := h.open_;unfold maxLen at h2;clear h;go_enter Tryz.func140, Tryz.ntmps140;go_wp2_with fail;go_loopw [8, 5] (fun i _ wr => AllRel (fun x => inB x lo hi) xs w i wr) (fun i _ _ => xs.length - (intOf i).toNat)
 case atStart => exact ⟨rfl, 0, Nat.zero_le _, rfl, fun _ _ h => absurd h (by omega)⟩
 case round =>
  obtain ⟨rfl, k, hk, rfl, hup⟩ := hrel;have HU := aA hup; clear hup;by_cases hlt : k < xs.length
  ·
   obtain ⟨x, hx⟩ : ∃ x, xs[k]? = some x := ⟨xs[k], aC hlt⟩
   obtain ⟨ad, rfl, hb', hc⟩ := h3 (by omega);have hcell := hc k x hx;have HX := aA hx;clear h3 hc hx;cases hp : inB x lo hi with
   | true =>
    go_wp2_with (go_at_call 129; refine (closure_within x lo hi a b _ ha hb).mono ?_; rintro e w' ⟨rfl, rfl⟩)
    go_roundw
    case rel => exact ⟨rfl, k + 1, by omega, by go_num, HU.out.next HX.out hp⟩
    case measure => simp [intOf]; omega
   | false =>
    go_wp2_with (go_at_call 129; refine (closure_within x lo hi a b _ ha hb).mono ?_; rintro e w' ⟨rfl, rfl⟩)
    go_ret;exact ⟨k, rfl, by omega, by omega, by rw [allB_f HX.out hp]; simp, rfl⟩
  · go_wp2;go_ret;exact ⟨-1, rfl, by omega, by omega, by rw [allB_t (HU.out.all (by omega))]; simp, rfl⟩
theorem containsFunc_within (v : Value) (xs : List Int) (lo hi : Int) (a b : Nat) (w : World) (h : IntsR w w.heap.size v xs) (ha : w.cell? ⟨a, 0, none⟩ = some (.int .i64 lo)) (hb : w.cell? ⟨b, 0, none⟩ = some (.int .i64 hi)) :
    Calls Tryz.prog 128 #[v, .func (.func 129) #[] #[.pointer (some ⟨a, 0, none⟩), .pointer (some ⟨b, 0, none⟩)]] w fun e w' => e = .returned (.bool (!allB xs lo hi)) ∧ w = w' := by
  have HH := aA h; clear h;have HA := aA ha; clear ha;have HB := aA hb; clear hb;go_enter Tryz.func128, Tryz.ntmps128;go_wp2_with fail;refine (indexFunc_within v xs lo hi a b w HH.out HA.out HB.out).mono ?_;rintro e w' ⟨i, rfl, h1, h2, h3, rfl⟩;have H3 := aA h3; clear h3;go_wp2_with fail;go_ret;exact ⟨ret_bool H3.out, rfl⟩
theorem impl_allWithin (v : Value) (xs : List Int) (lo hi : Int) (w : World) (h : IntsR w w.heap.size v xs) :
    Calls Tryz.prog 107 #[v, .int .i64 lo, .int .i64 hi] w fun e w' => e = .returned (.bool (allB xs lo hi)) ∧ Below w.heap.size w w' := by
  have hmf : ∀ (fn : Fn) (first cap : Array Value) (w : World), (Instr.makeFunc fn first cap).run Tryz.prog w = .ok (.func fn first cap) w := fun _ _ _ _ => rfl
  have HH := aA h; clear h;go_enter Tryz.func107, Tryz.ntmps107;go_wp2_with fail;refine (containsFunc_within v xs lo hi w.heap.size (w.heap.size + 1) _ ((HH.out.below (bl_alloc (bl_alloc (Below.refl _ _) _) _)).more (by simp; omega)) ?_ ?_).mono ?_
  · rw [World.cell?_alloc_past _ _ _ (by simp), World.cell?_alloc_at _ _ _ _ rfl]; rfl
  · rw [World.cell?_alloc_at _ _ _ _ (by simp)]; rfl
  rintro e w' ⟨rfl, rfl⟩;go_wp2_with fail;go_ret;exact ⟨ret_bool (by simp), bl_alloc (bl_alloc (Below.refl _ _) _) _⟩
end Go.Proofs.YtjklbjmdgiddcaaGreat
