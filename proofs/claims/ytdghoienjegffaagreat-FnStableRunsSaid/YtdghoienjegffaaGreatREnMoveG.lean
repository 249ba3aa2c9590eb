/-
  Small lemmas and contracts that the texts of this claim share. No condition.
-/
import Derived.Test.YtdghoienjegffaaGreatRRunTogI
import Derived.Test.YtdghoienjegffaaGreatRNetLegA
namespace Go.Proofs.YtdghoienjegffaaGreat
open Go.RowKit
set_option linter.all false
def EnPost (n : Net) (r : Int) (ss : List Int) (w : World) (e : Ending) (w' : World) : Prop :=
  Below w.heap.size w w' ∧ ∃ (u : Value) (xs : List Int), e = .returned (.tuple #[u, .bool (sitB n r ss)]) ∧ (∃ A m c, u = .slice A m c) ∧ IntsR w' w'.heap.size u xs ∧ (sitB n r ss = true → xs = enS n r ss)
noncomputable def mvsB (n : Net) (r : Int) (ss set : List Int) : Bool := (sitB n r ss && riseB set 0 ((ss.length : Int) - 1)) && set.all (fun x => hasB (enS n r ss) x)
def MvPost (n : Net) (r : Int) (ss set : List Int) (w : World) (e : Ending) (w' : World) : Prop :=
  Below w.heap.size w w' ∧ ∃ (u : Value) (xs : List Int), e = .returned (.tuple #[u, .bool (mvsB n r ss set)]) ∧ (∃ A m c, u = .slice A m c) ∧ IntsR w' w'.heap.size u xs ∧ (mvsB n r ss set = true → xs = moveS n r ss set) ∧ (mvsB n r ss set = false → xs = [])
set_option maxRecDepth 100000 in
set_option maxHeartbeats 1000000 in
theorem impl_EnabledNodes (ve vi vn vs : Value) (n : Net) (r : Int) (ss : List Int) (w : World) (h : NetR w w.heap.size ve vi vn n) (hs : IntsR w w.heap.size vs ss) (hz : n.es.length ≤ 2000000) (hzi : n.ids.length ≤ 2000000) :
  Calls Tryz.prog 10 #[.agg #[ve, vi, vn], .int .i64 r, vs] w (EnPost n r ss w) := by
 have HN := Lib.hid h;have HS := Lib.hid hs;obtain ⟨⟨A0, m0, c0, rfl⟩, ⟨A1, m1, c1, rfl⟩, A2, m2, c2, rfl⟩ := h.slices;obtain ⟨As, ms, cs, rfl⟩ := hs.isSlice;clear h hs;obtain ⟨w0, hw0, hb0, HD, hz0, HS0⟩ := box3 w (.slice A0 m0 c0) (.slice A1 m1 c1) (.slice A2 m2 c2) 27;have HW0 := Lib.hid hw0;obtain ⟨q0, q1, q2, qf⟩ := cells3 HD;have eq0 := q0;have eq1 := q1;have eq2 := q2;rw [hw0] at eq0 eq1 eq2;clear hw0;go_enter Tryz.func10, Tryz.ntmps10;go_wp2_with fail;rw [← HW0.out];clear eq0 eq1 eq2;refine (impl_situationOk _ _ _ _ n r ss w0 (HN.out.up hb0) (ints_upR HS.out hb0) hz hzi).mono ?_;rintro e w1 ⟨rfl, hb1⟩;have hzz1 := hb1.size;have hB1 := bl_trans hb0 hb1;have HD1 := bk HD hb1;clear q0 q1 q2 qf;obtain ⟨q0, q1, q2, qf⟩ := cells3 HD1;cases hsit : sitB n r ss with
 | false =>
  have HT := Lib.hid hsit;clear hsit;go_wp2_with fail;exact bodyPost_ret (v := .tuple #[.slice none 0 0, .bool false]) (by simp [results, Tryz.results10, go_sem]) rfl ⟨hB1, _, [], by rw [HT.out], ⟨_, _, _, rfl⟩, ints_nil _ _, fun h' => absurd h' (by rw [HT.out]; decide)⟩
 | true =>
  have HT := Lib.hid hsit;obtain ⟨hask, hsts⟩ := propB_iff.1 hsit;have HAS := Lib.hid hask;have HST := Lib.hid hsts;clear hsit hask hsts;go_wp2_with fail;refine (impl_enabledNodes _ _ _ _ n r ss w1 (HN.out.up hB1) HAS.out (ints_upR HS.out hB1) HST.out).mono ?_;rintro e w4 ⟨u, rfl, ⟨g6, c6, rfl, hg6⟩, he4, hb4⟩;have HE4 := Lib.hid he4;have hB4 := bl_trans hB1 hb4;clear he4 hb4 hg6 q0 q1 q2 qf;go_wp2_with fail;exact bodyPost_ret (v := .tuple #[.slice (some ⟨g6, 0, none⟩) (enS n r ss).length c6, .bool true]) (by simp [results, Tryz.results10, go_sem]) rfl ⟨hB4, _, _, by rw [HT.out], ⟨_, _, _, rfl⟩, HE4.out, fun _ => rfl⟩
theorem rise_in {xs : List Int} {N : Nat} (h : riseB xs 0 ((N : Int) - 1) = true) : ∀ v ∈ xs, 0 ≤ v ∧ v.toNat < N := fun v hv => by have := (propB_iff.1 h).1 v hv;omega
theorem contains_mv (g : Nat) (lb : Array Value) (eg : ∀ args w, (callFunc g args).run Tryz.prog w = .ok (.enter g args) w) (p : Int → Bool) (v : Value) (xs : List Int) (w : World) (h : IntsR w w.heap.size v xs) (hl : xs.length ≤ 2000000)
    (n₀ : Nat) (hn : n₀ ≤ w.heap.size) (hp : Tells g lb p xs n₀ w) :
    Calls Tryz.prog 35 #[v, .func (.func g) #[] lb] w fun e w' => e = .returned (.bool (xs.any p)) ∧ Below w.heap.size w w' := by
  have J := Lib.hid (index_ints g lb eg p v xs w h hl n₀ hn hp);have HA := Lib.hid (portI_any (p := p) (l := xs));clear h hp;go_enter Tryz.func35, Tryz.ntmps35;go_wp2_with fail;refine J.out.mono ?_;rintro e w' ⟨rfl, hb⟩;go_wp2_with fail;go_ret;exact ⟨ret_bool HA.out, hb⟩
theorem closure_mv (P : Nat) (v : Value) (xs : List Int) (x : Int) (w : World) (h : IntsR w w.heap.size v xs) (hp : w.cell? ⟨P, 0, none⟩ = some v) :
    Calls Tryz.prog 36 #[.int .i64 x, .pointer (some ⟨P, 0, none⟩)] w fun e w' => e = .returned (.bool (!hasB xs x)) ∧ Below w.heap.size w w' := by
  have HI := Lib.hid h;obtain ⟨A1, m1, c1, rfl⟩ := h.isSlice;clear h;have HE := Lib.hid (has_contains xs x);go_enter Tryz.func36, Tryz.ntmps36;go_wp2_with fail;refine (impl_Contains _ xs x w HI.out).mono ?_;rintro e w' ⟨rfl, rfl⟩;go_wp2_with fail;go_ret;exact ⟨ret_bool (by rw [← HE.out]; simp), Below.refl _ _⟩
set_option maxRecDepth 100000 in
set_option maxHeartbeats 4000000 in
theorem impl_MoveSet (ve vi vn vs vt : Value) (n : Net) (r : Int) (ss set : List Int) (w : World) (h : NetR w w.heap.size ve vi vn n) (hs : IntsR w w.heap.size vs ss) (ht : IntsR w w.heap.size vt set) (hz : n.es.length ≤ 2000000) (hzi : n.ids.length ≤ 2000000) (hzs : ss.length ≤ 1048576) (hzt : set.length ≤ 1048576) :
  Calls Tryz.prog 11 #[.agg #[ve, vi, vn], .int .i64 r, vs, vt] w (MvPost n r ss set w) := by
 have HN := Lib.hid h;have HS := Lib.hid hs;obtain ⟨⟨A0, m0, c0, rfl⟩, ⟨A1, m1, c1, rfl⟩, A2, m2, c2, rfl⟩ := h.slices;obtain ⟨As, cs, rfl, -, -, -⟩ := hs.open_;clear h hs;obtain ⟨w0, hw0, hb0, HD, hz0, HS0⟩ := box3 w (.slice A0 m0 c0) (.slice A1 m1 c1) (.slice A2 m2 c2) 27;have HW0 := Lib.hid hw0;obtain ⟨q0, q1, q2, qf⟩ := cells3 HD;have eq0 := q0;have eq1 := q1;have eq2 := q2;rw [hw0] at eq0 eq1 eq2;clear hw0;have HTT := Lib.hid ht;obtain ⟨At, ct, rfl, -, hcm, hsc⟩ := ht.open_;unfold maxLen at hcm;clear ht;have HSC := Lib.hid hsc;clear hsc;go_enter Tryz.func11, Tryz.ntmps11;go_wp2_with fail;rw [← HW0.out];clear eq0 eq1 eq2;refine (impl_situationOk _ _ _ _ n r ss w0 (HN.out.up hb0) (ints_upR HS.out hb0) hz hzi).mono ?_;rintro e w1 ⟨rfl, hb1⟩;have hzz1 := hb1.size;have hB1 := bl_trans hb0 hb1;have HD1 := bk HD hb1;clear q0 q1 q2 qf;obtain ⟨q0, q1, q2, qf⟩ := cells3 HD1;have hbad : mvsB n r ss set = false → ∀ w', Below w.heap.size w w' → MvPost n r ss set w (.returned (.tuple #[.slice none 0 0, .bool false])) w' := fun h w' hb =>
  ⟨hb, .slice none 0 0, [], by rw [h], ⟨_, _, _, rfl⟩, ints_nil _ _, fun h' => absurd h' (by rw [h]; decide), fun _ => rfl⟩
 have HBAD := Lib.hid hbad;clear hbad;cases hsit : sitB n r ss with
 | false =>
  have hto : mvsB n r ss set = false := by unfold mvsB; rw [hsit]; rfl
  have HTO := Lib.hid hto;clear hsit hto;go_wp2_with fail;exact bodyPost_ret (v := .tuple #[.slice none 0 0, .bool false]) (by simp [results, Tryz.results11, go_sem]) rfl (HBAD.out HTO.out _ hB1)
 | true =>
  have HSIT := Lib.hid hsit;clear hsit;go_wp2_with fail;refine (impl_increasing _ set 0 ((ss.length : Int) - 1) w1 (ints_upR HTT.out hB1)).mono ?_;rintro e w' ⟨rfl, rfl⟩;cases hin : riseB set 0 ((ss.length : Int) - 1) with
  | false =>
   have hto : mvsB n r ss set = false := by unfold mvsB; rw [hin, Bool.and_false]; rfl
   have HTO := Lib.hid hto;clear hin hto;go_wp2_with fail;exact bodyPost_ret (v := .tuple #[.slice none 0 0, .bool false]) (by simp [results, Tryz.results11, go_sem]) rfl (HBAD.out HTO.out _ hB1)
  | true =>
   have HIN := Lib.hid hin;obtain ⟨hask, hsts⟩ := propB_iff.1 HSIT.out;have HAS := Lib.hid hask;have HST := Lib.hid hsts;have HMV := Lib.hid (show mvsB n r ss set = set.all (fun x => hasB (enS n r ss) x) by unfold mvsB; rw [HSIT.out, hin]; rfl);clear hin hask hsts;go_wp2_with fail;refine (impl_enabledNodes _ _ _ _ n r ss w1 (HN.out.up hB1) HAS.out (ints_upR HS.out hB1) HST.out).mono ?_;rintro e w4 ⟨u, rfl, ⟨g6, c6, rfl, hg6⟩, he4, hb4⟩;have HE4 := Lib.hid he4;have hzz4 := hb4.size;have hB4 := bl_trans hB1 hb4;have HD4 := bk HD1 hb4;clear q0 q1 q2 qf;obtain ⟨q0, q1, q2, qf⟩ := cells3 HD4;have hzt2 : set.length ≤ 2000000 := by omega
   clear he4 hb4 hg6;obtain ⟨m6, hm6⟩ : ∃ m : Nat, m = (enS n r ss).length := ⟨_, rfl⟩
   rw [← hm6] at HE4 ⊢;clear hm6;have hz4 := HS0;obtain ⟨w5, hw5, hb5, hd5, hz5⟩ : ∃ w5, w5 = w4.alloc (.cells #[.slice (some ⟨g6, 0, none⟩) m6 c6] 25) ∧ Below w4.heap.size w4 w5 ∧ Hid (w5.heap[w4.heap.size]? = some (.cells #[.slice (some ⟨g6, 0, none⟩) m6 c6] 25 (0, 0))) ∧ w4.heap.size < w5.heap.size :=
    ⟨_, rfl, bl_alloc (Below.refl _ _) _, Lib.hid (heap_alloc_new w4 _), by simp⟩
   have hE5 := Lib.hid (ints_upR HE4.out hb5);have HB5 := Lib.hid (bl_trans hB4 hb5)
   have JJ := fun W (hW : Below w5.heap.size w5 W) => Lib.hid (contains_mv 36 #[.pointer (some ⟨w4.heap.size, 0, none⟩)] (enters_of Tryz.func36 (by kernel_rfl) rfl) (fun x => !hasB (enS n r ss) x) _ set W (ints_upR HTT.out (bl_trans HB5.out hW)) hzt2 W.heap.size (Nat.le_refl _)
    fun W' x _ hW' => closure_mv w4.heap.size _ (enS n r ss) x W' (ints_upR (ints_upR hE5.out hW) hW') (by
     have := hW.size;rw [hW'.cell (p := ⟨w4.heap.size, 0, none⟩) (by show w4.heap.size < W.heap.size; omega), hW.cell (p := ⟨w4.heap.size, 0, none⟩) (by show w4.heap.size < w5.heap.size; omega)]
     exact cell_of_row _ _ 0 _ _ (0, 0) hd5.out))
   have hD5 := bk HD4 hb5;have HJ := Lib.hid (show set.any (fun x => !hasB (enS n r ss) x) = !mvsB n r ss set by rw [HMV.out, List.not_all_eq_any_not]);have HRI := Lib.hid (rise_in HIN.out);go_wp2_with fail;rw [show w4.alloc (.cells #[.slice (some ⟨g6, 0, none⟩) m6 c6] 25) = w5 from hw5.symm];refine (JJ w5 (Below.refl _ _)).out.mono ?_;rintro e w6 ⟨rfl, hb6⟩;rw [HJ.out];have hzz6 := hb6.size;have HB6 := Lib.hid (bl_trans HB5.out hb6);have HD6 := bk hD5 hb6;clear JJ hb5 hb6 hw5 hd5 q0 q1 q2 qf;obtain ⟨q0, q1, q2, qf⟩ := cells3 HD6;cases hm : mvsB n r ss set with
   | false =>
    have HF := Lib.hid hm;clear hm;go_wp2_with fail;exact bodyPost_ret (v := .tuple #[.slice none 0 0, .bool false]) (by simp [results, Tryz.results11, go_sem]) rfl (HBAD.out HF.out _ HB6.out)
   | true =>
    have HF := Lib.hid hm;clear hm;go_wp2_with fail;refine (impl_moveSet _ _ _ _ _ n r ss set w6 (HN.out.up HB6.out) HAS.out (ints_upR HS.out HB6.out) HST.out (ints_upR HTT.out HB6.out) HRI.out hzt2).mono ?_;rintro e w7 ⟨u7, rfl, ⟨A7, m7, c7, rfl⟩, hm7, hb7⟩;have HM7 := Lib.hid hm7;have HB7 := Lib.hid (bl_trans HB6.out hb7);clear hm7 hb7 q0 q1 q2 qf;go_wp2_with fail;exact bodyPost_ret (v := .tuple #[.slice A7 m7 c7, .bool true]) (by simp [results, Tryz.results11, go_sem]) rfl ⟨HB7.out, _, _, by rw [HF.out], ⟨_, _, _, rfl⟩, HM7.out, fun _ => rfl, fun h => absurd h (by rw [HF.out]; decide)⟩
end Go.Proofs.YtdghoienjegffaaGreat
namespace Go.Proofs.YtdghoienjegffaaGreat
open Go.RowKit
set_option linter.all false
theorem below_zero (x : Int) (w : World) : Calls Tryz.prog 44 #[.int .i64 x] w fun e w' => e = .returned (.bool (decide (x < 0))) ∧ Below w.heap.size w w' := by
  by_cases h : x < 0
  · have hd : decide (x < 0) = true := decide_eq_true h
    go_enter Tryz.func44, Tryz.ntmps44;go_wp2_with fail;go_ret;exact ⟨ret_bool (by rw [hd]), Below.refl _ _⟩
  · go_enter Tryz.func44, Tryz.ntmps44
    go_wp2_with fail;go_ret;exact ⟨ret_bool (decide_eq_false (by omega)).symm, Below.refl _ _⟩
theorem move_one (n : Net) (r : Int) (xs : List Int) {v : Nat} : moveS n r xs [(v : Int)] = xs.set v (nextS n r xs v) := by unfold moveS;simp
theorem st_i64 {n : Net} {r : Int} {xs : List Int} (ha : askP n r) (hs : Sts (cnts n r) xs) : ∀ x ∈ xs, I64 x := fun x hx => by have := (hs.stB ha.1).2 x hx;exact ⟨by omega, by omega⟩
def RiRel (n : Net) (r : Int) (ps ss : List Int) (K : Nat) (v : Value) (w : World) (k : Value) (wr : World) : Prop :=
  Below w.heap.size w wr ∧ ∃ j : Nat, j ≤ K ∧ k = .int .i64 (j : Int) ∧ wr.ownsRow w.heap.size 3 1 v ss.length ((cenS n r ps ss j).map intV) ∧ cenN n r ps ss (K - j) j = cenN n r ps ss K 0
set_option maxRecDepth 100000 in
set_option maxHeartbeats 4000000 in
theorem impl_RunCentral (ve vi vn vs vp : Value) (n : Net) (r : Int) (ss ps : List Int) (most : Int) (w : World) (h : NetR w w.heap.size ve vi vn n) (hs : IntsR w w.heap.size vs ss) (hp : IntsR w w.heap.size vp ps) (hz : n.es.length ≤ 2000000) (hzi : n.ids.length ≤ 2000000) (hzs : ss.length ≤ 1048576) :
  Calls Tryz.prog 16 #[.agg #[ve, vi, vn], .int .i64 r, vs, vp, .int .i64 most] w (CenPost n r ss ps most w) := by
 have HN := Lib.hid h;have HS := Lib.hid hs;have HP := Lib.hid hp;obtain ⟨⟨A0, m0, c0, rfl⟩, ⟨A1, m1, c1, rfl⟩, A2, m2, c2, rfl⟩ := h.slices;obtain ⟨As, ms, cs, rfl⟩ := hs.isSlice;obtain ⟨Ap, cp, rfl, -, hcp, -⟩ := hp.open_;unfold maxLen at hcp;clear h hs hp;obtain ⟨w0, hw0, hb0, HD, hz0, HS0⟩ := box3 w (.slice A0 m0 c0) (.slice A1 m1 c1) (.slice A2 m2 c2) 27;have HW0 := Lib.hid hw0;obtain ⟨q0, q1, q2, qf⟩ := cells3 HD;have eq0 := q0;have eq1 := q1;have eq2 := q2;rw [hw0] at eq0 eq1 eq2;clear hw0;go_enter Tryz.func16, Tryz.ntmps16;go_wp2_with fail;rw [← HW0.out];clear eq0 eq1 eq2;refine (impl_situationOk _ _ _ _ n r ss w0 (HN.out.up hb0) (ints_upR HS.out hb0) hz hzi).mono ?_;rintro e w1 ⟨rfl, hb1⟩;have hzz1 := hb1.size;have hB1 := bl_trans hb0 hb1;have HD1 := bk HD hb1;have HPI := Lib.hid (ints_upR HP.out hB1);clear q0 q1 q2 qf;obtain ⟨q0, q1, q2, qf⟩ := cells3 HD1;cases hsit : sitB n r ss with
 | false =>
  have HTO := Lib.hid (show cenB n r ss ps most = false by unfold cenB; rw [hsit]; rfl);clear hsit;go_wp2_with fail;exact bodyPost_ret (v := .tuple #[.slice none 0 0, .int .i64 0, .bool false]) (by simp [results, Tryz.results16, go_sem]) rfl (.bad HTO.out hB1)
 | true =>
  have HSIT := Lib.hid hsit;clear hsit;go_wp2_with fail;refine (impl_within _ _ _ _).mono ?_;rintro e w' ⟨rfl, rfl⟩;cases hil : inB ps.length 1 100 with
  | false =>
   have HTO := Lib.hid (show cenB n r ss ps most = false by unfold cenB; rw [hil, Bool.false_and, Bool.and_false]);clear hil;go_wp2_with fail;exact bodyPost_ret (v := .tuple #[.slice none 0 0, .int .i64 0, .bool false]) (by simp [results, Tryz.results16, go_sem]) rfl (.bad HTO.out hB1)
  | true =>
   have HIL := Lib.hid hil;have hl1 : 1 ≤ ps.length ∧ ps.length ≤ 100 := by
    have : 1 ≤ (ps.length : Int) ∧ (ps.length : Int) ≤ 100 := by unfold inB at hil; simpa using hil
    omega
   clear hil;go_wp2_with fail;refine (impl_within _ _ _ _).mono ?_;rintro e w' ⟨rfl, rfl⟩;cases hin : inB most 0 2000 with
   | false =>
    have HTO := Lib.hid (show cenB n r ss ps most = false by unfold cenB; rw [hin, Bool.false_and, Bool.and_false, Bool.and_false]);clear hin;go_wp2_with fail;exact bodyPost_ret (v := .tuple #[.slice none 0 0, .int .i64 0, .bool false]) (by simp [results, Tryz.results16, go_sem]) rfl (.bad HTO.out hB1)
   | true =>
    have HCB := Lib.hid (show cenB n r ss ps most = ps.all fun x => decide (0 ≤ x) by unfold cenB; rw [HSIT.out, HIL.out, hin]; rfl);obtain ⟨hask, hsts⟩ := propB_iff.1 HSIT.out;have hin' : 0 ≤ most ∧ most ≤ 2000 := by unfold inB at hin; simpa using hin
    obtain ⟨K, rfl⟩ : ∃ K : Nat, most = K := ⟨most.toNat, by omega⟩
    have hK : K ≤ 2000 := by omega
    have HAS := Lib.hid hask;have HST := Lib.hid hsts;clear hin hin' hask hsts HIL;go_wp2_with fail;refine (contains_mv 44 #[] (enters_of Tryz.func44 (by kernel_rfl) rfl) (fun x => decide (x < 0)) _ ps w1 HPI.out (by omega) w1.heap.size (Nat.le_refl _) (fun W x _ _ => below_zero x W)).mono ?_;rintro e w2 ⟨rfl, hb2⟩;have hzz2 := hb2.size;have HD2 := bk HD1 hb2;have hB2 := bl_trans hB1 hb2
    have HNG := Lib.hid (show (ps.any fun x => decide (x < 0)) = !cenB n r ss ps K by
     rw [HCB.out];rw [List.not_all_eq_any_not];refine congrArg ps.any (funext fun x => ?_);by_cases h : x < 0
     · rw [decide_eq_true h, decide_eq_false (show ¬ 0 ≤ x by omega)]; rfl
     · rw [decide_eq_false h, decide_eq_true (show 0 ≤ x by omega)]; rfl)
    rw [HNG.out];clear hb2 q0 q1 q2 qf;obtain ⟨q0, q1, q2, qf⟩ := cells3 HD2;cases hcb : cenB n r ss ps K with
    | false =>
     have HTO := Lib.hid hcb;clear hcb;go_wp2_with fail;exact bodyPost_ret (v := .tuple #[.slice none 0 0, .int .i64 0, .bool false]) (by simp [results, Tryz.results16, go_sem]) rfl (.bad HTO.out hB2)
    | true =>
     have HTO := Lib.hid hcb;have HNN := Lib.hid (cenB_all hcb).2.2.2;clear hcb;go_wp2_with fail;refine (impl_Clone _ ss w2 (ints_upR HS.out hB2) (by omega)).mono ?_;rintro e w3 ⟨v3, rfl, ho3, hne3, hb3⟩;obtain ⟨A3, c3, rfl⟩ := own_slN ho3;obtain ⟨b2, hb2e⟩ : ∃ z, z = w2.heap.size := ⟨_, rfl⟩
     have HB2E := Lib.hid hb2e;have HO3 := Lib.hid ho3;have hzz3 := hb3.size;have HD3 := bk HD2 hb3;have HB3 := Lib.hid hb3;clear ho3 hb3 hne3 hb2e q0 q1 q2 qf;obtain ⟨q0, q1, q2, qf⟩ := cells3 HD3;go_wp2_with fail;go_loopw [38] (fun k wr => RiRel n r ps ss K (.slice A3 ss.length c3) w2 k wr) (fun k _ => K - (intOf k).toNat)
     case atStart => exact ⟨HB3.out, 0, Nat.zero_le _, rfl, HO3.out, rfl⟩
     case round =>
      obtain ⟨hbr, j, hjK, rfl, hown, htog⟩ := hrel;have HOW := Lib.hid hown;have HTG := Lib.hid htog;have hzzr := hbr.size;have hBr := bl_trans hB2 hbr;have HDr := bk HD2 hbr;obtain ⟨xs, hxs⟩ : ∃ z, z = cenS n r ps ss j := ⟨_, rfl⟩
      have HXS := Lib.hid hxs;have hst := show Sts (cnts n r) xs by rw [hxs]; exact cenS_sts HAS.out HST.out j
      have hstj := Lib.hid hst;have hlj : xs.length = ss.length := by rw [hxs]; exact cenS_len j
      have hel := enS_le n r xs;rw [← hxs] at HOW;have HNOW := Lib.hid (show IntsR wr wr.heap.size (.slice A3 ss.length c3) xs from own_intsR (show wr.ownsRow w2.heap.size 3 1 (.slice A3 ss.length c3) xs.length (xs.map intV) by rw [hlj]; exact HOW.out) (st_i64 HAS.out hst));obtain ⟨q0, q1, q2, qf⟩ := cells3 HDr;clear hown htog hxs hst;by_cases hj : j < K
      ·
       have hjk : ((j : Int) < (K : Int)) = True := eq_true (by omega);go_wp2_with fail;refine (impl_enabledNodes _ _ _ _ n r xs wr (HN.out.up hBr) HAS.out HNOW.out hstj.out).mono ?_;rintro e w4 ⟨u, rfl, ⟨g6, c6, rfl, hg6⟩, he4, hb4⟩;have hzz4 := hb4.size;have HD4 := bk HDr hb4;have hB4 := bl_trans hBr hb4;have hBr4 := bl_trans hbr hb4;have HI4 := Lib.hid (ints_upR HNOW.out hb4);have HO4 := Lib.hid (own_upN HOW.out hb4);have HE4 := Lib.hid he4;clear he4 hb4 hg6 q0 q1 q2 qf;obtain ⟨q0, q1, q2, qf⟩ := cells3 HD4;obtain ⟨m6, hm6⟩ : ∃ m : Nat, m = (enS n r xs).length := ⟨_, rfl⟩
       have HM6 := Lib.hid hm6;rw [← hm6] at hel ⊢;have HE5 := Lib.hid (show IntsR w4 w4.heap.size (.slice (some ⟨g6, 0, none⟩) m6 c6) (enS n r xs) by rw [hm6]; exact HE4.out);clear hm6 HE4;by_cases h0 : m6 = 0
       ·
        subst h0;have hne : enS n r (cenS n r ps ss j) = [] := by rw [← HXS.out]; exact List.eq_nil_of_length_eq_zero HM6.out.symm
        have HT := Lib.hid (show cenN n r ps ss K 0 = j by rw [← HTG.out, cenN_calm hne]);clear hne;go_wp2_with fail;exact bodyPost_ret (v := .tuple #[.slice A3 ss.length c3, .int .i64 (j : Int), .bool true]) (by simp [results, Tryz.results16, go_sem]) rfl (.good HTO.out hB4 ⟨_, _, _, rfl⟩ (by rw [← HXS.out]; exact HI4.out) HT.out)
       ·
        have hg0 : ((m6 : Int) = 0) = False := eq_false (by omega);have hne : ¬ enS n r xs = [] := fun e => by have := HM6.out; rw [e] at this; simp at this; omega
        have hne' : ¬ enS n r (cenS n r ps ss j) = [] := by rw [← HXS.out]; exact hne
        have hTS := Lib.hid (show cenN n r ps ss (K - (j + 1)) (j + 1) = cenN n r ps ss K 0 by rw [← HTG.out, show K - j = K - (j + 1) + 1 by omega, cenN_step hne']);obtain ⟨jm, pn, kk, v, hmod, hjm, hpn, hmod2, hkk, hv, hpv⟩ := pick_reads (j := j) hl1.1 HNN.out hne;have hvm := enS_mem (List.mem_of_getElem? hv);obtain ⟨z, rfl⟩ : ∃ z : Nat, v = (z : Int) := ⟨v.toNat, by omega⟩
        have hzl : z < ss.length := by omega
        obtain ⟨s, hs⟩ : ∃ s, xs[z]? = some s := ⟨_, List.getElem?_eq_getElem (by omega)⟩
        obtain ⟨l, hl⟩ : ∃ l, n.es[z]? = some l := ⟨_, List.getElem?_eq_getElem (by have := (hstj.out.stB HAS.out.1).1; omega)⟩
        have HNX := Lib.hid (nextS_at (r := r) hl hs);have HSTEP := Lib.hid (show cenS n r ps ss (j + 1) = xs.set z (nextAt n r xs z l s) by rw [cenS_step hne', ← HXS.out, ← hpv, move_one, HNX.out]);have HLS := Lib.hid (And.intro hl hs);rw [← HM6.out] at hmod2 hkk;obtain ⟨Ap', cp', e0, -, -, h3⟩ := (ints_upR HP.out hB4).open_;obtain ⟨rfl, -, rfl⟩ := Value.slice.inj e0;obtain ⟨ad, rfl, -, hc⟩ := h3 (by omega);have hcell := hc jm _ hpn;obtain ⟨Ae, ce, e1, -, -, h3e⟩ := HE5.out.open_;obtain ⟨rfl, -, rfl⟩ := Value.slice.inj e1;obtain ⟨ae, eae, -, hce⟩ := h3e (by rw [← HM6.out]; omega);obtain rfl := Option.some.inj eae;have hcell2 : w4.cell? ⟨g6, kk, none⟩ = some (.int .i64 (z : Int)) := by have h := hce kk _ hv;rw [show (⟨g6, 0, none⟩ : Addr).add kk = ⟨g6, kk, none⟩ by unfold Addr.add; split <;> simp_all] at h;exact h
        obtain ⟨gE, cE, eE⟩ : ∃ g c, Value.slice A3 ss.length c3 = .slice (some ⟨g, 0, none⟩) ss.length c := by
         rcases HO4.out.2 with ⟨_, e⟩ | ⟨g, cap, cur, e, _⟩
         · omega
         · exact ⟨g, cap, e⟩
        obtain ⟨rfl, -, rfl⟩ := Value.slice.inj eE;clear hne hne' h3 h3e hc hce hv hpv hpn e0 e1 eE hl hs;go_wp2_with fail;clear hcell hcell2 hmod hmod2;refine (impl_nextState _ _ _ _ n r xs z l s w4 (HN.out.up hB4) HAS.out HI4.out hstj.out HLS.out.1 HLS.out.2).mono ?_;rintro e w5 ⟨rfl, hb5⟩;have HO5 := Lib.hid (own_upN HO4.out hb5);have hzz5 := hb5.size;have HB5 := Lib.hid (bl_trans hBr4 hb5);have fi := own_thaw HO5.out z;have ci := own_cellI HO5.out hzl HLS.out.2;have hgl := HO5.out.lt gE rfl;clear hb5 q0 q1 q2 qf;go_wp2_with fail;go_roundw
        case rel => exact ⟨HB5.out.setCell (p := ⟨gE, z, none⟩) hgl.1 _, j + 1, by omega, by go_num, by rw [HSTEP.out]; exact own_setI HO5.out _, hTS.out⟩
        case measure => simp [intOf]; omega
      ·
       obtain rfl : j = K := by omega
       have hjk : ((j : Int) < (j : Int)) = False := eq_false (by omega);have HT := Lib.hid (show cenN n r ps ss j 0 = j by rw [← HTG.out, Nat.sub_self]; rfl);go_wp2_with fail;exact bodyPost_ret (v := .tuple #[.slice A3 ss.length c3, .int .i64 (j : Int), .bool true]) (by simp [results, Tryz.results16, go_sem]) rfl (.good HTO.out hBr ⟨_, _, _, rfl⟩ (by rw [← HXS.out]; exact HNOW.out) HT.out)
end Go.Proofs.YtdghoienjegffaaGreat
namespace Go.Proofs.YtdghoienjegffaaGreat
open Go.RowKit
set_option linter.all false
set_option maxRecDepth 100000 in
set_option maxHeartbeats 1000000 in
theorem impl_NextStateOf (ve vi vn vs : Value) (n : Net) (r : Int) (ss : List Int) (v : Nat) (s : Int) (w : World) (h : NetR w w.heap.size ve vi vn n) (hs : IntsR w w.heap.size vs ss) (hz : n.es.length ≤ 2000000) (hzi : n.ids.length ≤ 2000000) (hsit : sitB n r ss = true) (hv : ss[v]? = some s) (hne : nextS n r ss v ≠ s) :
  Calls Tryz.prog 18 #[.agg #[ve, vi, vn], .int .i64 r, vs, .int .i64 (v : Int)] w fun e w' => e = .returned (.tuple #[.int .i64 (nextS n r ss v), .bool true]) ∧ Below w.heap.size w w' := by
 have HN := Lib.hid h;have HS := Lib.hid hs;have hsts := (propB_iff.1 hsit).2;have hvl := (List.getElem?_eq_some_iff.1 hv).1;have hnl : ss.length = n.es.length := by rw [← hsts.1, cnts_len]
 obtain ⟨l, hl⟩ : ∃ l, n.es[v]? = some l := ⟨_, List.getElem?_eq_getElem (by omega)⟩
 have hnx := nextS_at (r := r) hl hv;rw [hnx] at hne ⊢;have HNE := Lib.hid hne;have HAS := Lib.hid (propB_iff.1 hsit);have HLS := Lib.hid (And.intro hl hv);have HB := Lib.hid (show inB (v : Int) 0 ((n.es.length : Int) - 1) = true from inB_t ⟨by omega, by omega⟩);have HSIT := Lib.hid hsit;obtain ⟨⟨A0, m0, c0, rfl⟩, ⟨A1, m1, c1, rfl⟩, A2, m2, c2, rfl⟩ := h.slices;obtain ⟨As, cs, rfl, -, hcs, -⟩ := hs.open_;unfold maxLen at hcs;clear h hs hsts hl hv hnx hne hsit hnl;obtain ⟨w0, hw0, hb0, HD, hz0, HS0⟩ := box3 w (.slice A0 m0 c0) (.slice A1 m1 c1) (.slice A2 m2 c2) 27;have HW0 := Lib.hid hw0;obtain ⟨q0, q1, q2, qf⟩ := cells3 HD;have eq0 := q0;have eq1 := q1;have eq2 := q2;rw [hw0] at eq0 eq1 eq2;clear hw0;go_enter Tryz.func18, Tryz.ntmps18;go_wp2_with fail;rw [← HW0.out];clear eq0 eq1 eq2;refine (impl_situationOk _ _ _ _ n r ss w0 (HN.out.up hb0) (ints_upR HS.out hb0) hz hzi).mono ?_;rintro e w1 ⟨rfl, hb1⟩;rw [HSIT.out];have hzz1 := hb1.size;have hB1 := bl_trans hb0 hb1;have HD1 := bk HD hb1;clear q0 q1 q2 qf;obtain ⟨q0, q1, q2, qf⟩ := cells3 HD1;go_wp2_with fail;refine (impl_hasNode _ _ _ n (v : Int) w1 (HN.out.up hB1) hz).mono ?_;rintro e w2 ⟨rfl, hb2⟩;rw [HB.out];have hzz2 := hb2.size;have hB2 := bl_trans hB1 hb2;have HD2 := bk HD1 hb2;clear q0 q1 q2 qf;obtain ⟨q0, q1, q2, qf⟩ := cells3 HD2;go_wp2_with fail;refine (impl_nextState _ _ _ _ n r ss v l s w2 (HN.out.up hB2) HAS.out.1 (ints_upR HS.out hB2) HAS.out.2 HLS.out.1 HLS.out.2).mono ?_;rintro e w3 ⟨rfl, hb3⟩;have hB3 := bl_trans hB2 hb3;obtain ⟨As', cs', e0, -, -, h3⟩ := (ints_upR HS.out hB3).open_;obtain ⟨rfl, -, rfl⟩ := Value.slice.inj e0;obtain ⟨ad, rfl, -, hc⟩ := h3 (by omega);have hcell := hc v s HLS.out.2;obtain ⟨x, hx⟩ : ∃ z, z = nextAt n r ss v l s := ⟨_, rfl⟩
 have HX := Lib.hid (show (x == s) = false by rw [hx]; simpa using HNE.out);have HX2 := Lib.hid (show (x = s) = False by rw [hx]; exact eq_false HNE.out);have HXE := Lib.hid hx;rw [← hx];have hxs := HX.out;have hxs2 := HX2.out;clear h3 hc e0 hx q0 q1 q2 qf;go_wp2_with fail;exact bodyPost_ret (v := .tuple #[.int .i64 x, .bool true]) (by simp [results, Tryz.results18, go_sem]) rfl ⟨by rw [HXE.out], hB3⟩
def LgPost (n : Net) (r : Int) (w : World) (e : Ending) (w' : World) : Prop :=
  Below w.heap.size w w' ∧ ∃ (u : Value) (xs : List Int), e = .returned (.tuple #[u, .bool (askB n r)]) ∧ (∃ A m c, u = .slice A m c) ∧ IntsR w' w'.heap.size u xs ∧ (askB n r = true → xs = legL n r) ∧ (askB n r = false → xs = [])
theorem LgPost.bad {n : Net} {r : Int} {w w' : World} (h : askB n r = false) (hb : Below w.heap.size w w') : LgPost n r w (.returned (.tuple #[.slice none 0 0, .bool false])) w' :=
  ⟨hb, _, [], by rw [h], ⟨_, _, _, rfl⟩, ints_nil _ _, fun h' => absurd h' (by rw [h]; decide), fun _ => rfl⟩
theorem LgPost.good {n : Net} {r : Int} {w w' : World} {u : Value} (h : askB n r = true) (hb : Below w.heap.size w w') (hu : ∃ A m c, u = .slice A m c) (hi : IntsR w' w'.heap.size u (legL n r)) : LgPost n r w (.returned (.tuple #[u, .bool true])) w' :=
  ⟨hb, _, _, by rw [h], hu, hi, fun _ => rfl, fun h' => absurd h' (by rw [h]; decide)⟩
theorem leg_i64 {n : Net} (hp : netP n) (r : Int) : ∀ x ∈ legL n r, I64 x := fun x hx => by have := legL_bd hp r x hx;exact ⟨by omega, by omega⟩
set_option maxRecDepth 100000 in
set_option maxHeartbeats 1000000 in
theorem spec_LegalStateOf (ve vi vn : Value) (n : Net) (r : Int) (w : World) (h : NetR w w.heap.size ve vi vn n) (hz : n.es.length ≤ 2000000) :
  Calls Tryz.prog 21 #[.agg #[ve, vi, vn], .int .i64 r] w (LgPost n r w) := by
 have HN := Lib.hid h;obtain ⟨⟨A0, m0, c0, rfl⟩, ⟨A1, m1, c1, rfl⟩, A2, m2, c2, rfl⟩ := h.slices;clear h;obtain ⟨w0, hw0, hb0, HD, hz0, HS0⟩ := box3 w (.slice A0 m0 c0) (.slice A1 m1 c1) (.slice A2 m2 c2) 27;have HW0 := Lib.hid hw0;obtain ⟨q0, q1, q2, qf⟩ := cells3 HD;have eq0 := q0;have eq1 := q1;have eq2 := q2;rw [hw0] at eq0 eq1 eq2;clear hw0;go_enter Tryz.func21, Tryz.ntmps21;go_wp2_with fail;rw [← HW0.out];clear eq0 eq1 eq2;refine (spec_ssAsked _ _ _ n r w0 (HN.out.up hb0) hz).mono ?_;rintro e w1 ⟨rfl, hb1⟩;have hzz1 := hb1.size;have hB1 := bl_trans hb0 hb1;have HD1 := bk HD hb1;clear q0 q1 q2 qf;obtain ⟨q0, q1, q2, qf⟩ := cells3 HD1;cases ha : askB n r with
 | false =>
  have HT := Lib.hid ha;clear ha;go_wp2_with fail;exact bodyPost_ret (v := .tuple #[.slice none 0 0, .bool false]) (by simp [results, Tryz.results21, go_sem]) rfl (.bad HT.out hB1)
 | true =>
  have HT := Lib.hid ha;have HAS := Lib.hid (propB_iff.1 ha);clear ha;go_wp2_with fail;refine (spec_ssLegalOf _ _ _ n r w1 (HN.out.up hB1) HAS.out.1).mono ?_;rintro e w2 ⟨u, rfl, ho, hb2⟩;obtain ⟨Au, cu, rfl⟩ := own_slN ho;have HI := Lib.hid (show IntsR w2 w2.heap.size (.slice Au n.es.length cu) (legL n r) from own_intsR (show w2.ownsRow w1.heap.size 3 1 (.slice Au n.es.length cu) (legL n r).length ((legL n r).map intV) by rw [legL_len]; exact ho) (leg_i64 HAS.out.1 r));have hB2 := bl_trans hB1 hb2;clear ho hb2 q0 q1 q2 qf;go_wp2_with fail;exact bodyPost_ret (v := .tuple #[.slice Au n.es.length cu, .bool true]) (by simp [results, Tryz.results21, go_sem]) rfl (.good HT.out hB2 ⟨_, _, _, rfl⟩ HI.out)
end Go.Proofs.YtdghoienjegffaaGreat
