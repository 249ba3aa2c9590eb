/-
  The texts of entries: the reference's srText, LabEntryText and the program's labEntryText, LabEntryText.
-/
import Derived.Test.YtcfbkickiijjkaaGreatDoorVCertSpec
import Derived.Test.YtcfbkickiijjkaaGreatDoorVCertImplText
import Derived.Test.YtcfbkickiijjkaaGreatDoorVEntry
namespace Go.Proofs.YtcfbkickiijjkaaGreatDoor
open Go.RowKit
set_option linter.all false
theorem str_eq (s : ByteArray) : Value.string s = strV s.data.toList := rfl
def putT (x : Item) : List UInt8 := ((([112, 117, 116, 32] ++ x.nm.data.toList) ++ [32] ++ walkT x.n x.xss) ++ [32, 124, 32]) ++ certT x.cl x.lb x.f x.s x.rs
def entryT (e : Entry) : List UInt8 :=
  if e.kd = 1 then putT e.it else if e.kd = 2 then [100, 114, 111, 112, 32] ++ e.nm.data.toList else ([110, 97, 109, 101, 32] ++ e.nm.data.toList ++ [32]) ++ e.tn.data.toList
theorem walkT_len {n : Int} {xss : List (List Int)} (h : Good n xss) (hl : xss.length ≤ 1048576) : (walkT n xss).length ≤ 40000000 := by
  have h1 := arcsT_len xss h.small
  have hn : (1 : Int) ≤ n ∧ n ≤ 12 := by have := h.1; unfold inB at this; simpa using this
  have h2 := numT_len (M := 12) (x := n) (by omega) (by omega)
  unfold walkT
  simp only [List.length_append, List.length_cons, List.length_nil]
  omega
theorem certT_len {cl lb : Int} {f s : List Int} {rs : List (List Int)} (h : CertS cl lb f s rs) : (certT cl lb f s rs).length ≤ 1000000 := by
  have h1 := headT_len h
  have h2 := ranksT_len rs h.r.2
  have h3 := h.r.1
  unfold certT
  simp only [List.length_append]
  omega
theorem itemP.good {x : Item} (h : itemP x) : Good x.n x.xss := h.2.1
theorem itemP.cert {x : Item} (h : itemP x) : CertS x.cl x.lb x.f x.s x.rs := by
  have hg := h.2.1
  obtain ⟨m, hm⟩ := Int.eq_ofNat_of_zero_le (show 0 ≤ x.n by have := hg.1; unfold inB at this; simp at this; omega)
  have hc := h.2.2
  rw [hm] at hg hc
  exact certP.small hg hc
theorem putT_len {x : Item} (h : itemP x) (hz : szItem x ≤ 1048576) : (putT x).length ≤ 60000000 := by
  have h1 := walkT_len h.good (show x.xss.length ≤ 1048576 by unfold szItem szRows at hz; omega)
  have h2 := certT_len h.cert
  have h3 := h.1.2.2
  unfold putT
  simp only [List.length_append, List.length_cons, List.length_nil]
  omega
theorem entryP.kinds {e : Entry} (h : entryP e) : e.kd = 1 ∨ e.kd = 2 ∨ e.kd = 3 := by
  rcases h with h | h | h
  · exact .inl h.1
  · exact .inr (.inl h.1)
  · exact .inr (.inr h.1)
set_option maxRecDepth 100000 in
set_option maxHeartbeats 2000000 in
theorem spec_srText (en : Entry) (va vf vs vr : Value) (w : World) (h : ItemR w w.heap.size en.it va vf vs vr) (hz : szEntry en ≤ 1048576) (hen : entryP en) :
  Calls Tryz.prog 59 #[entryV en va vf vs vr] w fun e w' => e = .returned (strV (entryT en)) ∧ Below w.heap.size w w' := by
 obtain ⟨z1, z2, z3, _⟩ := nm_len (Nat.le_trans hz (by omega))
 have z4 : szItem en.it ≤ 1048576 := by unfold szEntry at hz; omega
 obtain ⟨Aa, ma, ca, rfl⟩ := h.a.isSlice'
 obtain ⟨Af, mf, cf, rfl⟩ := h.f.isSlice
 obtain ⟨As, ms, cs, rfl⟩ := h.s.isSlice
 obtain ⟨Ar, mr, cr, rfl⟩ := h.r.isSlice'
 have HH := Lib.hid h; clear h
 have HE := Lib.hid hen; clear hen
 have HZS := Lib.hid hz; clear hz
 have HZI := Lib.hid z4; clear z4
 have HT := Lib.hid (show entryT en = if en.kd = 1 then putT en.it else if en.kd = 2 then [100, 114, 111, 112, 32] ++ en.nm.data.toList else ([110, 97, 109, 101, 32] ++ en.nm.data.toList ++ [32]) ++ en.tn.data.toList from rfl)
 obtain ⟨R, hR⟩ : ∃ R, R = entryT en := ⟨_, rfl⟩
 rw [← hR] at HT
 rw [← hR]
 clear hR
 obtain ⟨kd, nm, tn, ⟨inm, n, xss, cl, lb, f, s, rs⟩⟩ := en
 dsimp only at *
 unfold entryV
 dsimp only
 rw [str_eq nm, str_eq tn, str_eq inm]
 have s1 := Lib.size_eq nm
 have s2 := Lib.size_eq tn
 have s3 := Lib.size_eq inm
 have s4 : nm.data.toList.length ≤ 1048576 ∧ tn.data.toList.length ≤ 1048576 ∧ inm.data.toList.length ≤ 1048576 := by have := HZS.out; unfold szEntry szItem at this; dsimp only at this; omega
 obtain ⟨NM, hNM⟩ : ∃ l, l = nm.data.toList := ⟨_, rfl⟩
 obtain ⟨TN, hTN⟩ : ∃ l, l = tn.data.toList := ⟨_, rfl⟩
 obtain ⟨IN, hIN⟩ : ∃ l, l = inm.data.toList := ⟨_, rfl⟩
 rw [← hNM, ← hTN, ← hIN] at s4
 rw [← hNM, ← hTN, ← hIN]
 rw [← hNM, ← hTN] at HT
 obtain ⟨s4, s5, s6⟩ := s4
 have NMh := Lib.hid hNM; clear hNM
 have TNh := Lib.hid hTN; clear hTN
 have INh := Lib.hid hIN; clear hIN
 clear s1 s2 s3 z1 z2 z3
 have hb0 := bl_alloc (Below.refl w.heap.size w) (.cells #[.int .i64 kd, strV NM, strV TN, strV IN, .int .i64 n, .slice Aa ma ca, .int .i64 cl, .int .i64 lb, .slice Af mf cf, .slice As ms cs, .slice Ar mr cr] 55)
 have HX0 := Lib.hid (Box11.new w 55 (.int .i64 kd) (strV NM) (strV TN) (strV IN) (.int .i64 n) (.slice Aa ma ca) (.int .i64 cl) (.int .i64 lb) (.slice Af mf cf) (.slice As ms cs) (.slice Ar mr cr))
 have HZ0 := Lib.hid (show w.heap.size < (w.alloc (.cells #[.int .i64 kd, strV NM, strV TN, strV IN, .int .i64 n, .slice Aa ma ca, .int .i64 cl, .int .i64 lb, .slice Af mf cf, .slice As ms cs, .slice Ar mr cr] 55)).heap.size by simp)
 by_cases e1 : kd = 1
 ·
  subst e1
  have HI := Lib.hid (show itemP ⟨inm, n, xss, cl, lb, f, s, rs⟩ by rcases HE.out with h | h | h; exact h.2.2.2; exact absurd (show (1 : Int) = 2 from h.1) (by decide); exact absurd (show (1 : Int) = 3 from h.1) (by decide))
  have m1 := walkT_len HI.out.good (show xss.length ≤ 1048576 by have := HZI.out; unfold szItem szRows at this; dsimp only at this; omega)
  have m2 := certT_len HI.out.cert
  dsimp only at m1 m2
  have HL := Lib.hid (show xss.length ≤ 1048576 by have := HZI.out; unfold szItem szRows at this; dsimp only at this; omega)
  obtain ⟨WT, hWT⟩ : ∃ T, T = walkT n xss := ⟨_, rfl⟩
  obtain ⟨CT, hCT⟩ : ∃ T, T = certT cl lb f s rs := ⟨_, rfl⟩
  have JW := Lib.hid (fun (W : World) (h : Below w.heap.size w W) => show Calls Tryz.prog 95 #[.agg #[.int .i64 n, .slice Aa ma ca]] W fun e w' => e = .returned (strV WT) ∧ Below W.heap.size W w' by
   rw [hWT]; exact spec_srWalk n _ xss W (HH.out.up h).a HI.out.good HL.out)
  have JC := Lib.hid (fun (W : World) (h : Below w.heap.size w W) => show Calls Tryz.prog 96 #[.agg #[.int .i64 cl, .int .i64 lb, .slice Af mf cf, .slice As ms cs, .slice Ar mr cr]] W fun e w' => e = .returned (strV CT) ∧ Below W.heap.size W w' by
   rw [hCT]; exact spec_srCertificate _ _ _ cl lb f s rs W (HH.out.up h).f (HH.out.up h).s (HH.out.up h).r HI.out.cert)
  have HR := Lib.hid (show R = ((([112, 117, 116, 32] ++ IN) ++ [32] ++ WT) ++ [32, 124, 32]) ++ CT by rw [HT.out, if_pos rfl, hWT, hCT, INh.out]; rfl)
  rw [← hWT] at m1
  rw [← hCT] at m2
  clear hWT hCT HT
  obtain ⟨T1, hT1⟩ : ∃ T, T = [112, 117, 116, 32] ++ IN := ⟨_, rfl⟩
  have lT1 : T1.length ≤ 100000000 * 1 := by rw [hT1]; simp only [List.length_append, List.length_cons, List.length_nil]; omega
  have kT1 : ∀ W, (binOp .add 9 (.string ⟨#[112, 117, 116, 32]⟩) (strV IN)).run Tryz.prog W = .ok (strV T1) W := by rw [hT1]; exact cat_cv ⟨#[112, 117, 116, 32]⟩ IN (by have : (ByteArray.mk #[112, 117, 116, 32]).size = 4 := rfl; omega)
  obtain ⟨T2, hT2⟩ : ∃ T, T = T1 ++ [32] := ⟨_, rfl⟩
  have lT2 : T2.length ≤ 100000000 * 2 := by rw [hT2]; simp only [List.length_append, List.length_cons, List.length_nil]; omega
  have kT2 : ∀ W, (binOp .add 9 (strV T1) (.string ⟨#[32]⟩)).run Tryz.prog W = .ok (strV T2) W := by rw [hT2]; exact cat_vc T1 ⟨#[32]⟩ (by have : (ByteArray.mk #[32]).size = 1 := rfl; omega)
  obtain ⟨T3, hT3⟩ : ∃ T, T = T2 ++ WT := ⟨_, rfl⟩
  have lT3 : T3.length ≤ 100000000 * 3 := by rw [hT3]; simp only [List.length_append, List.length_cons, List.length_nil]; omega
  have kT3 : ∀ W, (binOp .add 9 (strV T2) (strV WT)).run Tryz.prog W = .ok (strV T3) W := by rw [hT3]; exact cat_vv T2 WT (by omega)
  obtain ⟨T4, hT4⟩ : ∃ T, T = T3 ++ [32, 124, 32] := ⟨_, rfl⟩
  have lT4 : T4.length ≤ 100000000 * 4 := by rw [hT4]; simp only [List.length_append, List.length_cons, List.length_nil]; omega
  have kT4 : ∀ W, (binOp .add 9 (strV T3) (.string ⟨#[32, 124, 32]⟩)).run Tryz.prog W = .ok (strV T4) W := by rw [hT4]; exact cat_vc T3 ⟨#[32, 124, 32]⟩ (by have : (ByteArray.mk #[32, 124, 32]).size = 3 := rfl; omega)
  obtain ⟨T5, hT5⟩ : ∃ T, T = T4 ++ CT := ⟨_, rfl⟩
  have lT5 : T5.length ≤ 100000000 * 5 := by rw [hT5]; simp only [List.length_append, List.length_cons, List.length_nil]; omega
  have kT5 : ∀ W, (binOp .add 9 (strV T4) (strV CT)).run Tryz.prog W = .ok (strV T5) W := by rw [hT5]; exact cat_vv T4 CT (by omega)
  have HF := Lib.hid (show T5 = R by rw [hT5, hT4, hT3, hT2, hT1, HR.out])
  clear hT1 hT2 hT3 hT4 hT5
  obtain ⟨y0, y1, y2, y3, y4, y5, y6, y7, y8, y9, ya⟩ := HX0.out
  go_enter Tryz.func59, Tryz.ntmps59
  go_wp2_with fail
  generalize w.alloc (.cells #[.int .i64 1, strV NM, strV TN, strV IN, .int .i64 n, .slice Aa ma ca, .int .i64 cl, .int .i64 lb, .slice Af mf cf, .slice As ms cs, .slice Ar mr cr] 55) = w0 at *
  refine wp_region_held_drew (S := (fun w' => w'.cell? ⟨w.heap.size, 3, none⟩ = some (strV IN) ∧ w'.cell? ⟨w.heap.size, 4, none⟩ = some (.int .i64 n) ∧ w'.cell? ⟨w.heap.size, 5, none⟩ = some (.slice Aa ma ca) ∧ w'.cell? ⟨w.heap.size, 6, none⟩ = some (.int .i64 cl) ∧ w'.cell? ⟨w.heap.size, 7, none⟩ = some (.int .i64 lb) ∧ w'.cell? ⟨w.heap.size, 8, none⟩ = some (.slice Af mf cf) ∧ w'.cell? ⟨w.heap.size, 9, none⟩ = some (.slice As ms cs) ∧ w'.cell? ⟨w.heap.size, 10, none⟩ = some (.slice Ar mr cr))) (by kernel_rfl) ?_ (fun hHeld => ?_)
  ·
   go_keep
  refine tk 0 7 rfl rfl ?_
  try simp only [pu]
  refine tk 1 8 rfl rfl ?_
  try simp only [pu]
  refine tk 2 9 rfl rfl ?_
  try simp only [pu]
  refine tk 3 10 rfl rfl ?_
  try simp only [pu]
  refine tk 4 11 rfl rfl ?_
  try simp only [pu]
  refine tk 5 12 rfl rfl ?_
  try simp only [pu]
  refine tk 6 13 rfl rfl ?_
  try simp only [pu]
  refine tk 7 14 rfl rfl ?_
  try simp only [pu]
  refine tk 11 18 rfl rfl ?_
  try simp only [pu]
  refine tk 12 19 rfl rfl ?_
  try simp only [pu]
  refine tk 13 20 rfl rfl ?_
  try simp only [pu]
  refine take_ready 8 rfl (by kernel_rfl) (fun K hK => ?_)
  go_simp
  (go_at_call 95; refine (JW.out _ hb0.drew).mono ?_; rintro e w1 ⟨rfl, hb1⟩; have hB1 := bl_trans hb0.drew hb1; have HX1 := Lib.hid ((HX0.out.below (Below.refl w0.heap.size w0).drew HZ0.out).below hb1 (show w.heap.size < w0.drew.heap.size from HZ0.out)); have HZ1 := Lib.hid (Nat.lt_of_lt_of_le HZ0.out hb1.size); obtain ⟨d0, d1, d2, d3, d4, d5, d6, d7, d8, d9, da⟩ := HX1.out)
  refine hK.out _ _ ?_ (fun hHeld => ?_)
  ·
   go_keep
  clear hK K
  try simp only [pu]
  refine tk 9 16 rfl rfl ?_
  try simp only [pu]
  refine tk 10 17 rfl rfl ?_
  try simp only [pu]
  refine take_ready 14 rfl (by kernel_rfl) (fun K hK => ?_)
  go_simp
  (go_at_call 96; refine (JC.out w1 hB1).mono ?_; rintro e w2 ⟨rfl, hb2⟩; have hB2 := bl_trans hB1 hb2; have HX2 := Lib.hid (HX1.out.below hb2 HZ1.out); obtain ⟨f0, f1, f2, f3, f4, f5, f6, f7, f8, f9, fa⟩ := HX2.out)
  refine hK.out _ _ ?_ (fun hHeld => ?_)
  ·
   go_keep
  clear hK K
  try simp only [pu]
  refine tk 15 22 rfl rfl ?_
  try simp only [pu]
  refine tk 16 2 rfl rfl ?_
  try simp only [pu]
  refine wpAnyH_done (by kernel_rfl) ?_ _
  go_wp2_with fail
  go_ret
  rw [← HF.out]
  exact ⟨rfl, hB2⟩
 ·
  by_cases e2 : kd = 2
  ·
   subst e2
   have HR := Lib.hid (show R = [100, 114, 111, 112, 32] ++ NM by rw [HT.out, if_neg (by decide), if_pos rfl])
   obtain ⟨T1, hT1⟩ : ∃ T, T = [100, 114, 111, 112, 32] ++ NM := ⟨_, rfl⟩
   have lT1 : T1.length ≤ 100000000 * 1 := by rw [hT1]; simp only [List.length_append, List.length_cons, List.length_nil]; omega
   have kT1 : ∀ W, (binOp .add 9 (.string ⟨#[100, 114, 111, 112, 32]⟩) (strV NM)).run Tryz.prog W = .ok (strV T1) W := by rw [hT1]; exact cat_cv ⟨#[100, 114, 111, 112, 32]⟩ NM (by have : (ByteArray.mk #[100, 114, 111, 112, 32]).size = 5 := rfl; omega)
   have HF := Lib.hid (show T1 = R by rw [hT1, HR.out])
   clear hT1
   go_enter Tryz.func59, Tryz.ntmps59
   go_wp2_with fail
   go_ret
   rw [← HF.out]
   exact ⟨rfl, hb0⟩
  ·
   have g1 : (kd == 1) = false := by rw [beq_eq_false_iff_ne]; exact e1
   have g2 : (kd == 2) = false := by rw [beq_eq_false_iff_ne]; exact e2
   have HR := Lib.hid (show R = ([110, 97, 109, 101, 32] ++ NM ++ [32]) ++ TN by rw [HT.out, if_neg e1, if_neg e2])
   clear e1 e2
   obtain ⟨T1, hT1⟩ : ∃ T, T = [110, 97, 109, 101, 32] ++ NM := ⟨_, rfl⟩
   have lT1 : T1.length ≤ 100000000 * 1 := by rw [hT1]; simp only [List.length_append, List.length_cons, List.length_nil]; omega
   have kT1 : ∀ W, (binOp .add 9 (.string ⟨#[110, 97, 109, 101, 32]⟩) (strV NM)).run Tryz.prog W = .ok (strV T1) W := by rw [hT1]; exact cat_cv ⟨#[110, 97, 109, 101, 32]⟩ NM (by have : (ByteArray.mk #[110, 97, 109, 101, 32]).size = 5 := rfl; omega)
   obtain ⟨T2, hT2⟩ : ∃ T, T = T1 ++ [32] := ⟨_, rfl⟩
   have lT2 : T2.length ≤ 100000000 * 2 := by rw [hT2]; simp only [List.length_append, List.length_cons, List.length_nil]; omega
   have kT2 : ∀ W, (binOp .add 9 (strV T1) (.string ⟨#[32]⟩)).run Tryz.prog W = .ok (strV T2) W := by rw [hT2]; exact cat_vc T1 ⟨#[32]⟩ (by have : (ByteArray.mk #[32]).size = 1 := rfl; omega)
   obtain ⟨T3, hT3⟩ : ∃ T, T = T2 ++ TN := ⟨_, rfl⟩
   have lT3 : T3.length ≤ 100000000 * 3 := by rw [hT3]; simp only [List.length_append, List.length_cons, List.length_nil]; omega
   have kT3 : ∀ W, (binOp .add 9 (strV T2) (strV TN)).run Tryz.prog W = .ok (strV T3) W := by rw [hT3]; exact cat_vv T2 TN (by omega)
   have HF := Lib.hid (show T3 = R by rw [hT3, hT2, hT1, HR.out])
   clear hT1 hT2 hT3
   go_enter Tryz.func59, Tryz.ntmps59
   go_wp2_with fail
   go_ret
   rw [← HF.out]
   exact ⟨rfl, hb0⟩
set_option maxRecDepth 100000 in
set_option maxHeartbeats 2000000 in
theorem impl_labEntryText (en : Entry) (va vf vs vr : Value) (w : World) (h : ItemR w w.heap.size en.it va vf vs vr) (hz : szEntry en ≤ 1048576) (hen : entryP en) (hp : Pow10 w) :
  Calls Tryz.prog 69 #[entryV en va vf vs vr] w fun e w' => e = .returned (strV (entryT en)) ∧ Below w.heap.size w w' := by
 obtain ⟨z1, z2, z3, _⟩ := nm_len (Nat.le_trans hz (by omega))
 have z4 : szItem en.it ≤ 1048576 := by unfold szEntry at hz; omega
 obtain ⟨Aa, ma, ca, rfl⟩ := h.a.isSlice'
 obtain ⟨Af, mf, cf, rfl⟩ := h.f.isSlice
 obtain ⟨As, ms, cs, rfl⟩ := h.s.isSlice
 obtain ⟨Ar, mr, cr, rfl⟩ := h.r.isSlice'
 have HH := Lib.hid h; clear h
 have HPw := Lib.hid hp; clear hp
 have HE := Lib.hid hen; clear hen
 have HZS := Lib.hid hz; clear hz
 have HZI := Lib.hid z4; clear z4
 have HT := Lib.hid (show entryT en = if en.kd = 1 then putT en.it else if en.kd = 2 then [100, 114, 111, 112, 32] ++ en.nm.data.toList else ([110, 97, 109, 101, 32] ++ en.nm.data.toList ++ [32]) ++ en.tn.data.toList from rfl)
 obtain ⟨R, hR⟩ : ∃ R, R = entryT en := ⟨_, rfl⟩
 rw [← hR] at HT
 rw [← hR]
 clear hR
 obtain ⟨kd, nm, tn, ⟨inm, n, xss, cl, lb, f, s, rs⟩⟩ := en
 dsimp only at *
 unfold entryV
 dsimp only
 rw [str_eq nm, str_eq tn, str_eq inm]
 have s1 := Lib.size_eq nm
 have s2 := Lib.size_eq tn
 have s3 := Lib.size_eq inm
 have s4 : nm.data.toList.length ≤ 1048576 ∧ tn.data.toList.length ≤ 1048576 ∧ inm.data.toList.length ≤ 1048576 := by have := HZS.out; unfold szEntry szItem at this; dsimp only at this; omega
 obtain ⟨NM, hNM⟩ : ∃ l, l = nm.data.toList := ⟨_, rfl⟩
 obtain ⟨TN, hTN⟩ : ∃ l, l = tn.data.toList := ⟨_, rfl⟩
 obtain ⟨IN, hIN⟩ : ∃ l, l = inm.data.toList := ⟨_, rfl⟩
 rw [← hNM, ← hTN, ← hIN] at s4
 rw [← hNM, ← hTN, ← hIN]
 rw [← hNM, ← hTN] at HT
 obtain ⟨s4, s5, s6⟩ := s4
 have NMh := Lib.hid hNM; clear hNM
 have TNh := Lib.hid hTN; clear hTN
 have INh := Lib.hid hIN; clear hIN
 clear s1 s2 s3 z1 z2 z3
 have hb0 := bl_alloc (Below.refl w.heap.size w) (.cells #[.int .i64 kd, strV NM, strV TN, strV IN, .int .i64 n, .slice Aa ma ca, .int .i64 cl, .int .i64 lb, .slice Af mf cf, .slice As ms cs, .slice Ar mr cr] 55)
 have HX0 := Lib.hid (Box11.new w 55 (.int .i64 kd) (strV NM) (strV TN) (strV IN) (.int .i64 n) (.slice Aa ma ca) (.int .i64 cl) (.int .i64 lb) (.slice Af mf cf) (.slice As ms cs) (.slice Ar mr cr))
 have HZ0 := Lib.hid (show w.heap.size < (w.alloc (.cells #[.int .i64 kd, strV NM, strV TN, strV IN, .int .i64 n, .slice Aa ma ca, .int .i64 cl, .int .i64 lb, .slice Af mf cf, .slice As ms cs, .slice Ar mr cr] 55)).heap.size by simp)
 by_cases e1 : kd = 1
 ·
  subst e1
  have HI := Lib.hid (show itemP ⟨inm, n, xss, cl, lb, f, s, rs⟩ by rcases HE.out with h | h | h; exact h.2.2.2; exact absurd (show (1 : Int) = 2 from h.1) (by decide); exact absurd (show (1 : Int) = 3 from h.1) (by decide))
  have m1 := walkT_len HI.out.good (show xss.length ≤ 1048576 by have := HZI.out; unfold szItem szRows at this; dsimp only at this; omega)
  have m2 := certT_len HI.out.cert
  dsimp only at m1 m2
  have HL := Lib.hid (show xss.length ≤ 1048576 by have := HZI.out; unfold szItem szRows at this; dsimp only at this; omega)
  obtain ⟨WT, hWT⟩ : ∃ T, T = walkT n xss := ⟨_, rfl⟩
  obtain ⟨CT, hCT⟩ : ∃ T, T = certT cl lb f s rs := ⟨_, rfl⟩
  have JW := Lib.hid (fun (W : World) (h : Below w.heap.size w W) => show Calls Tryz.prog 108 #[.agg #[.int .i64 n, .slice Aa ma ca]] W fun e w' => e = .returned (strV WT) ∧ Below W.heap.size W w' by
   rw [hWT]; exact impl_walkText n _ xss W (HH.out.up h).a HI.out.good HL.out (HPw.out.below h))
  have JC := Lib.hid (fun (W : World) (h : Below w.heap.size w W) => show Calls Tryz.prog 109 #[.agg #[.int .i64 cl, .int .i64 lb, .slice Af mf cf, .slice As ms cs, .slice Ar mr cr]] W fun e w' => e = .returned (strV CT) ∧ Below W.heap.size W w' by
   rw [hCT]; exact impl_certificateText _ _ _ cl lb f s rs W (HH.out.up h).f (HH.out.up h).s (HH.out.up h).r HI.out.cert (HPw.out.below h))
  have HR := Lib.hid (show R = ((([112, 117, 116, 32] ++ IN) ++ [32] ++ WT) ++ [32, 124, 32]) ++ CT by rw [HT.out, if_pos rfl, hWT, hCT, INh.out]; rfl)
  rw [← hWT] at m1
  rw [← hCT] at m2
  clear hWT hCT HT
  obtain ⟨T1, hT1⟩ : ∃ T, T = [112, 117, 116, 32] ++ IN := ⟨_, rfl⟩
  have lT1 : T1.length ≤ 100000000 * 1 := by rw [hT1]; simp only [List.length_append, List.length_cons, List.length_nil]; omega
  have kT1 : ∀ W, (binOp .add 9 (.string ⟨#[112, 117, 116, 32]⟩) (strV IN)).run Tryz.prog W = .ok (strV T1) W := by rw [hT1]; exact cat_cv ⟨#[112, 117, 116, 32]⟩ IN (by have : (ByteArray.mk #[112, 117, 116, 32]).size = 4 := rfl; omega)
  obtain ⟨T2, hT2⟩ : ∃ T, T = T1 ++ [32] := ⟨_, rfl⟩
  have lT2 : T2.length ≤ 100000000 * 2 := by rw [hT2]; simp only [List.length_append, List.length_cons, List.length_nil]; omega
  have kT2 : ∀ W, (binOp .add 9 (strV T1) (.string ⟨#[32]⟩)).run Tryz.prog W = .ok (strV T2) W := by rw [hT2]; exact cat_vc T1 ⟨#[32]⟩ (by have : (ByteArray.mk #[32]).size = 1 := rfl; omega)
  obtain ⟨T3, hT3⟩ : ∃ T, T = T2 ++ WT := ⟨_, rfl⟩
  have lT3 : T3.length ≤ 100000000 * 3 := by rw [hT3]; simp only [List.length_append, List.length_cons, List.length_nil]; omega
  have kT3 : ∀ W, (binOp .add 9 (strV T2) (strV WT)).run Tryz.prog W = .ok (strV T3) W := by rw [hT3]; exact cat_vv T2 WT (by omega)
  obtain ⟨T4, hT4⟩ : ∃ T, T = T3 ++ [32, 124, 32] := ⟨_, rfl⟩
  have lT4 : T4.length ≤ 100000000 * 4 := by rw [hT4]; simp only [List.length_append, List.length_cons, List.length_nil]; omega
  have kT4 : ∀ W, (binOp .add 9 (strV T3) (.string ⟨#[32, 124, 32]⟩)).run Tryz.prog W = .ok (strV T4) W := by rw [hT4]; exact cat_vc T3 ⟨#[32, 124, 32]⟩ (by have : (ByteArray.mk #[32, 124, 32]).size = 3 := rfl; omega)
  obtain ⟨T5, hT5⟩ : ∃ T, T = T4 ++ CT := ⟨_, rfl⟩
  have lT5 : T5.length ≤ 100000000 * 5 := by rw [hT5]; simp only [List.length_append, List.length_cons, List.length_nil]; omega
  have kT5 : ∀ W, (binOp .add 9 (strV T4) (strV CT)).run Tryz.prog W = .ok (strV T5) W := by rw [hT5]; exact cat_vv T4 CT (by omega)
  have HF := Lib.hid (show T5 = R by rw [hT5, hT4, hT3, hT2, hT1, HR.out])
  clear hT1 hT2 hT3 hT4 hT5
  obtain ⟨y0, y1, y2, y3, y4, y5, y6, y7, y8, y9, ya⟩ := HX0.out
  go_enter Tryz.func69, Tryz.ntmps69
  go_wp2_with fail
  generalize w.alloc (.cells #[.int .i64 1, strV NM, strV TN, strV IN, .int .i64 n, .slice Aa ma ca, .int .i64 cl, .int .i64 lb, .slice Af mf cf, .slice As ms cs, .slice Ar mr cr] 55) = w0 at *
  refine wp_region_held_drew (S := (fun w' => w'.cell? ⟨w.heap.size, 3, none⟩ = some (strV IN) ∧ w'.cell? ⟨w.heap.size, 4, none⟩ = some (.int .i64 n) ∧ w'.cell? ⟨w.heap.size, 5, none⟩ = some (.slice Aa ma ca) ∧ w'.cell? ⟨w.heap.size, 6, none⟩ = some (.int .i64 cl) ∧ w'.cell? ⟨w.heap.size, 7, none⟩ = some (.int .i64 lb) ∧ w'.cell? ⟨w.heap.size, 8, none⟩ = some (.slice Af mf cf) ∧ w'.cell? ⟨w.heap.size, 9, none⟩ = some (.slice As ms cs) ∧ w'.cell? ⟨w.heap.size, 10, none⟩ = some (.slice Ar mr cr))) (by kernel_rfl) ?_ (fun hHeld => ?_)
  ·
   go_keep
  refine tk 0 7 rfl rfl ?_
  try simp only [pu]
  refine tk 1 8 rfl rfl ?_
  try simp only [pu]
  refine tk 2 9 rfl rfl ?_
  try simp only [pu]
  refine tk 3 10 rfl rfl ?_
  try simp only [pu]
  refine tk 4 11 rfl rfl ?_
  try simp only [pu]
  refine tk 5 12 rfl rfl ?_
  try simp only [pu]
  refine tk 6 13 rfl rfl ?_
  try simp only [pu]
  refine tk 7 14 rfl rfl ?_
  try simp only [pu]
  refine tk 11 18 rfl rfl ?_
  try simp only [pu]
  refine tk 12 19 rfl rfl ?_
  try simp only [pu]
  refine tk 13 20 rfl rfl ?_
  try simp only [pu]
  refine take_ready 8 rfl (by kernel_rfl) (fun K hK => ?_)
  go_simp
  (go_at_call 108; refine (JW.out _ hb0.drew).mono ?_; rintro e w1 ⟨rfl, hb1⟩; have hB1 := bl_trans hb0.drew hb1; have HX1 := Lib.hid ((HX0.out.below (Below.refl w0.heap.size w0).drew HZ0.out).below hb1 (show w.heap.size < w0.drew.heap.size from HZ0.out)); have HZ1 := Lib.hid (Nat.lt_of_lt_of_le HZ0.out hb1.size); obtain ⟨d0, d1, d2, d3, d4, d5, d6, d7, d8, d9, da⟩ := HX1.out)
  refine hK.out _ _ ?_ (fun hHeld => ?_)
  ·
   go_keep
  clear hK K
  try simp only [pu]
  refine tk 9 16 rfl rfl ?_
  try simp only [pu]
  refine tk 10 17 rfl rfl ?_
  try simp only [pu]
  refine take_ready 14 rfl (by kernel_rfl) (fun K hK => ?_)
  go_simp
  (go_at_call 109; refine (JC.out w1 hB1).mono ?_; rintro e w2 ⟨rfl, hb2⟩; have hB2 := bl_trans hB1 hb2; have HX2 := Lib.hid (HX1.out.below hb2 HZ1.out); obtain ⟨f0, f1, f2, f3, f4, f5, f6, f7, f8, f9, fa⟩ := HX2.out)
  refine hK.out _ _ ?_ (fun hHeld => ?_)
  ·
   go_keep
  clear hK K
  try simp only [pu]
  refine tk 15 22 rfl rfl ?_
  try simp only [pu]
  refine tk 16 2 rfl rfl ?_
  try simp only [pu]
  refine wpAnyH_done (by kernel_rfl) ?_ _
  go_wp2_with fail
  go_ret
  rw [← HF.out]
  exact ⟨rfl, hB2⟩
 ·
  by_cases e2 : kd = 2
  ·
   subst e2
   have HR := Lib.hid (show R = [100, 114, 111, 112, 32] ++ NM by rw [HT.out, if_neg (by decide), if_pos rfl])
   obtain ⟨T1, hT1⟩ : ∃ T, T = [100, 114, 111, 112, 32] ++ NM := ⟨_, rfl⟩
   have lT1 : T1.length ≤ 100000000 * 1 := by rw [hT1]; simp only [List.length_append, List.length_cons, List.length_nil]; omega
   have kT1 : ∀ W, (binOp .add 9 (.string ⟨#[100, 114, 111, 112, 32]⟩) (strV NM)).run Tryz.prog W = .ok (strV T1) W := by rw [hT1]; exact cat_cv ⟨#[100, 114, 111, 112, 32]⟩ NM (by have : (ByteArray.mk #[100, 114, 111, 112, 32]).size = 5 := rfl; omega)
   have HF := Lib.hid (show T1 = R by rw [hT1, HR.out])
   clear hT1
   go_enter Tryz.func69, Tryz.ntmps69
   go_wp2_with fail
   go_ret
   rw [← HF.out]
   exact ⟨rfl, hb0⟩
  ·
   have g1 : (kd == 1) = false := by rw [beq_eq_false_iff_ne]; exact e1
   have g2 : (kd == 2) = false := by rw [beq_eq_false_iff_ne]; exact e2
   have HR := Lib.hid (show R = ([110, 97, 109, 101, 32] ++ NM ++ [32]) ++ TN by rw [HT.out, if_neg e1, if_neg e2])
   clear e1 e2
   obtain ⟨T1, hT1⟩ : ∃ T, T = [110, 97, 109, 101, 32] ++ NM := ⟨_, rfl⟩
   have lT1 : T1.length ≤ 100000000 * 1 := by rw [hT1]; simp only [List.length_append, List.length_cons, List.length_nil]; omega
   have kT1 : ∀ W, (binOp .add 9 (.string ⟨#[110, 97, 109, 101, 32]⟩) (strV NM)).run Tryz.prog W = .ok (strV T1) W := by rw [hT1]; exact cat_cv ⟨#[110, 97, 109, 101, 32]⟩ NM (by have : (ByteArray.mk #[110, 97, 109, 101, 32]).size = 5 := rfl; omega)
   obtain ⟨T2, hT2⟩ : ∃ T, T = T1 ++ [32] := ⟨_, rfl⟩
   have lT2 : T2.length ≤ 100000000 * 2 := by rw [hT2]; simp only [List.length_append, List.length_cons, List.length_nil]; omega
   have kT2 : ∀ W, (binOp .add 9 (strV T1) (.string ⟨#[32]⟩)).run Tryz.prog W = .ok (strV T2) W := by rw [hT2]; exact cat_vc T1 ⟨#[32]⟩ (by have : (ByteArray.mk #[32]).size = 1 := rfl; omega)
   obtain ⟨T3, hT3⟩ : ∃ T, T = T2 ++ TN := ⟨_, rfl⟩
   have lT3 : T3.length ≤ 100000000 * 3 := by rw [hT3]; simp only [List.length_append, List.length_cons, List.length_nil]; omega
   have kT3 : ∀ W, (binOp .add 9 (strV T2) (strV TN)).run Tryz.prog W = .ok (strV T3) W := by rw [hT3]; exact cat_vv T2 TN (by omega)
   have HF := Lib.hid (show T3 = R by rw [hT3, hT2, hT1, HR.out])
   clear hT1 hT2 hT3
   go_enter Tryz.func69, Tryz.ntmps69
   go_wp2_with fail
   go_ret
   rw [← HF.out]
   exact ⟨rfl, hb0⟩
end Go.Proofs.YtcfbkickiijjkaaGreatDoor
