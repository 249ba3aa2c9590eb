/-
  Certificates of walk problems: the program's isCertificate, for every good walk problem.
-/
import Derived.Test.YtjhljipehnmbnaaGreatRows
import Derived.Test.YtjhljipehnmbnaaGreatKit
import Derived.Test.YtjhljipehnmbnaaGreatMem
import Derived.Test.YtjhljipehnmbnaaGreatBasic
import Derived.Test.YtjhljipehnmbnaaGreatArgs
import Derived.Test.YtjhljipehnmbnaaGreatLists
import Derived.Test.YtjhljipehnmbnaaGreatWithin
import Derived.Test.YtjhljipehnmbnaaGreatGood
import Derived.Test.YtjhljipehnmbnaaGreatSmallA
import Derived.Test.YtjhljipehnmbnaaGreatAfter
import Derived.Test.YtjhljipehnmbnaaGreatClosed
import Derived.Test.YtjhljipehnmbnaaGreatMay
import Derived.Test.YtjhljipehnmbnaaGreatSpecWalk
import Derived.Test.YtjhljipehnmbnaaGreatCertB
import Derived.WalkKit
import Derived.WalkSpells
import Derived.WalkLawsBesides
import Derived.Lib.Hide
import Derived.Deep.QuietTactic
import Derived.BigQuiet
import Derived.Deep.RegionHeld3
namespace Go.Proofs.YtjhljipehnmbnaaGreat
open Go.RowKit
set_option linter.unusedVariables false

theorem Good.arc_lt {n : Nat} {xss : List (List Int)} (h : Good n xss) {a b : Nat} (ha : hasArc xss a b) : a < n ∧ b < n := by
  obtain ⟨i, hi⟩ := List.mem_iff_getElem?.1 ha
  obtain ⟨xs', e, _, h4, _⟩ := h.2 i (List.getElem?_eq_some_iff.1 hi).1
  rw [hi] at e; cases e
  have h5 := allB_iff.1 h4
  have h6 := h5 a (by simp)
  have h7 := h5 b (by simp)
  omega
theorem IntsR.one (W : World) (b : Nat) (hb : W.heap.size = b) (x : Int) (hx : I64 x) : IntsR (W.alloc (.cells #[.int .i64 x] 3)) (W.alloc (.cells #[.int .i64 x] 3)).heap.size (.slice (some ⟨b, 0, none⟩) 1 1) [x] := by
  subst hb
  have ho : OwnInts (W.alloc (.cells #[.int .i64 x] 3)) 3 (.slice (some ⟨W.heap.size, 0, none⟩) 1 1) [x] [W.heap.size] :=
    ⟨.inr ⟨W.heap.size, 1, #[.int .i64 x], rfl, Nat.le_refl _, by unfold maxLen; omega, heap_alloc_new _ _, rfl, rfl, rfl⟩, by intro y hy; simp at hy; subst hy; exact hx⟩
  exact ho.reads ho.1.lt
theorem IntsR.two (W : World) (x y : Int) (hx : I64 x) (hy : I64 y) : IntsR (W.alloc (.cells #[.int .i64 x, .int .i64 y] 3)) (W.alloc (.cells #[.int .i64 x, .int .i64 y] 3)).heap.size (.slice (some ⟨W.heap.size, 0, none⟩) 2 2) [x, y] := by
  have ho : OwnInts (W.alloc (.cells #[.int .i64 x, .int .i64 y] 3)) 3 (.slice (some ⟨W.heap.size, 0, none⟩) 2 2) [x, y] [W.heap.size] :=
    ⟨.inr ⟨W.heap.size, 2, #[.int .i64 x, .int .i64 y], rfl, Nat.le_refl _, by unfold maxLen; omega, heap_alloc_new _ _, rfl, rfl, rfl⟩, by intro z hz; simp at hz; rcases hz with rfl | rfl <;> assumption⟩
  exact ho.reads ho.1.lt
theorem allB_one (x lo hi : Int) : allB [x] lo hi = inB x lo hi := by simp [allB]
set_option maxRecDepth 100000 in
set_option maxHeartbeats 2000000 in
theorem impl_isCertificate (n : Nat) (v vf vs vr : Value) (xss : List (List Int)) (cl lb : Int) (f s : List Int) (rs : List (List Int)) (w : World) (h : RowsR w w.heap.size v xss) (hf : IntsR w w.heap.size vf f) (hs : IntsR w w.heap.size vs s) (hr : RowsR w w.heap.size vr rs) (hg : Good n xss) (hv : ∃ A m c, v = .slice A m c)
    (hlen : f.length ≤ 1000000000 ∧ s.length ≤ 1000000000 ∧ rs.length ≤ 1000000000) (hlb : I64 lb) :
    Calls Tryz.prog 33 #[.agg #[.int .i64 (n : Int), v], .agg #[.int .i64 cl, .int .i64 lb, vf, vs, vr]] w fun e w' => e = .returned (.bool (propB (certP n xss cl lb f s rs))) ∧ Below w.heap.size w w' := by
  have hn : (1 : Int) ≤ n ∧ (n : Int) ≤ 12 := by have := hg.1; unfold inB at this; simpa using this
  have HH := Lib.hid h; clear h
  have HV := Lib.hid hv; clear hv
  have HF := Lib.hid hf
  have HS := Lib.hid hs
  have HR := Lib.hid hr
  have HG := Lib.hid hg; clear hg
  obtain ⟨Af, cf, rfl, f1, f2, f3⟩ := hf.open_
  obtain ⟨As, cs, rfl, s1, s2, s3⟩ := hs.open_
  obtain ⟨Ar, cr, rfl, r1, r2, r3⟩ := hr.open_
  clear f3 s3 r3 hf hs hr
  unfold maxLen at f2 s2 r2
  obtain ⟨l1, l2, l3⟩ := hlen
  unfold I64 at hlb
  have hb0 := bl_alloc (bl_alloc (Below.refl w.heap.size w) (.cells #[.int .i64 (n : Int), v] 26)) (.cells #[.int .i64 cl, .int .i64 lb, .slice Af f.length cf, .slice As s.length cs, .slice Ar rs.length cr] 30)
  have hbx : Boxes ((w.alloc (.cells #[.int .i64 (n : Int), v] 26)).alloc (.cells #[.int .i64 cl, .int .i64 lb, .slice Af f.length cf, .slice As s.length cs, .slice Ar rs.length cr] 30)) w.heap.size (.int .i64 (n : Int)) v (.int .i64 cl) (.int .i64 lb) (.slice Af f.length cf) (.slice As s.length cs) (.slice Ar rs.length cr) := by
    refine ⟨?_, ?_, ?_, ?_, ?_, ?_, ?_⟩
    · rw [World.cell?_alloc_lt _ _ _ (show w.heap.size < _ by simp), World.cell?_alloc_at _ _ _ _ rfl]; rfl
    · rw [World.cell?_alloc_lt _ _ _ (show w.heap.size < _ by simp), World.cell?_alloc_at _ _ _ _ rfl]; rfl
    all_goals
      rw [World.cell?_alloc_at _ _ _ _ (show w.heap.size + 1 = _ by simp)]; rfl
  have hsz : ((w.alloc (.cells #[.int .i64 (n : Int), v] 26)).alloc (.cells #[.int .i64 cl, .int .i64 lb, .slice Af f.length cf, .slice As s.length cs, .slice Ar rs.length cr] 30)).heap.size = w.heap.size + 2 := by simp
  have HB := Lib.hid hbx; clear hbx
  have HZ := Lib.hid hsz; clear hsz
  go_enter Tryz.func33, Tryz.ntmps33
  go_wp2_with fail
  generalize (w.alloc (.cells #[.int .i64 (n : Int), v] 26)).alloc (.cells #[.int .i64 cl, .int .i64 lb, .slice Af f.length cf, .slice As s.length cs, .slice Ar rs.length cr] 30) = w0 at *
  have h1 := IntsR.one w0 (w.heap.size + 1 + 1) HZ.out lb (by unfold I64; omega)
  have HL := Lib.hid h1; clear h1
  have hba := bl_alloc hb0 (.cells #[.int .i64 lb] 3)
  refine (impl_hasLabels (n : Int) v _ [lb] _ HL.out (by omega) (by omega)).mono ?_
  rintro e w1 ⟨rfl, hb_w1⟩
  rw [allB_one]
  have hbw1 := bl_trans hba hb_w1
  have HXw1 := Lib.hid ((HB.out.below ((Below.refl w0.heap.size w0).alloc (Nat.le_refl _) (.cells #[.int .i64 lb] 3)) (by have := HZ.out; omega)).below hb_w1 (by have := HZ.out; simp; omega))
  have HZw1 := Lib.hid (show w.heap.size + 2 ≤ w1.heap.size by
    have h3 : (w0.alloc (.cells #[.int .i64 lb] 3)).heap.size = w0.heap.size + 1 := by simp
    have := hb_w1.size; have := HZ.out; omega)
  obtain ⟨p0, p1, c0, c1, c2, c3, c4⟩ := HXw1.out
  by_cases e3 : cl = 3
  · subst e3
    have HP := Lib.hid (certP_3 n xss lb f s rs)
    cases q1 : inB lb 0 ((n : Int) - 1) with
    | false =>
      go_wp2_with fail
      go_quiet (fail)
      go_wp2_with fail
      go_ret
      exact ⟨ret_bool (propB_f (fun h => by have := (HP.out.1 h).1; rw [q1] at this; cases this)).symm, bl_drewN hbw1 _⟩
    | true =>
      have hq : 0 ≤ lb ∧ lb ≤ (n : Int) - 1 := by unfold inB at q1; simpa using q1
      obtain ⟨a, rfl⟩ := Int.eq_ofNat_of_zero_le hq.1
      have han : a < n := by omega
      have HQ1 := Lib.hid q1; clear q1
      have ha1 : (0 : Int) ≤ (a : Int) := by omega
      have ha2 : (a : Int) < (n : Int) := by omega
      have hm := mask_lt HG.out.small a
      have HMB := Lib.hid (mask_bit HG.out.small a a)
      have e1 : IntKind.i64.wrap ((f.length : Int) + (s.length : Int)) = (f.length : Int) + (s.length : Int) := IntWalk.i64_in _ (by omega)
      have e2 : IntKind.i64.wrap ((f.length : Int) + (s.length : Int) + (rs.length : Int)) = (f.length : Int) + (s.length : Int) + (rs.length : Int) := IntWalk.i64_in _ (by omega)
      have HM := Lib.hid (fun (W : World) (hW : Below w1.heap.size w1 W) => impl_after n v xss W ((HH.out.below (bl_trans hbw1 hW)).more (by have := hW.size; have := hbw1.size; omega)) HG.out)
      by_cases ht : (mask xss a).testBit a = true
      · have hbit := bit_t hm (by omega) ht
        have HA := Lib.hid (HMB.out.1 ht); clear ht
        by_cases q2 : f.length + s.length + rs.length = 0
        · have t0 : ((f.length : Int) + (s.length : Int) + (rs.length : Int) == 0) = true := by rw [beq_iff_eq]; omega
          have HQ2 := Lib.hid q2; clear q2
          go_wp2_with fail
          refine wp_region_held_drew (S := (fun w' => w'.cell? ⟨w.heap.size, 0, none⟩ = some (.int .i64 (n : Int)) ∧ w'.cell? ⟨w.heap.size, 1, none⟩ = some v ∧ w'.cell? ⟨w.heap.size + 1, 1, none⟩ = some (.int .i64 (a : Int)) ∧ w'.cell? ⟨w.heap.size + 1, 2, none⟩ = some (.slice Af f.length cf) ∧ w'.cell? ⟨w.heap.size + 1, 3, none⟩ = some (.slice As s.length cs) ∧ w'.cell? ⟨w.heap.size + 1, 4, none⟩ = some (.slice Ar rs.length cr))) (by kernel_rfl) ?_ (fun hHeld => ?_)
          · go_keep
          refine take_wanted 0 15 (v := ?v200) rfl rfl (by kernel_rfl) (by kernel_rfl) (by kernel_rfl) (fun _ _ _ h => h) (by rfl) ?y200 (by assumption) ?r200
          case y200 => intro w hSw; (try dsimp only at hSw); go_simp <;> with_reducible rfl
          try simp only [Act.put, List.setIfInBounds_toArray, List.set_cons_zero, List.set_cons_succ]
          refine take_wanted 1 16 (v := ?v201) rfl rfl (by kernel_rfl) (by kernel_rfl) (by kernel_rfl) (fun _ _ _ h => h) (by rfl) ?y201 (by assumption) ?r201
          case y201 => intro w hSw; (try dsimp only at hSw); go_simp <;> with_reducible rfl
          try simp only [Act.put, List.setIfInBounds_toArray, List.set_cons_zero, List.set_cons_succ]
          refine take_wanted 2 17 (v := ?v202) rfl rfl (by kernel_rfl) (by kernel_rfl) (by kernel_rfl) (fun _ _ _ h => h) (by rfl) ?y202 (by assumption) ?r202
          case y202 => intro w hSw; (try dsimp only at hSw); go_simp <;> with_reducible rfl
          try simp only [Act.put, List.setIfInBounds_toArray, List.set_cons_zero, List.set_cons_succ]
          refine take_wanted 4 19 (v := ?v204) rfl rfl (by kernel_rfl) (by kernel_rfl) (by kernel_rfl) (fun _ _ _ h => h) (by rfl) ?y204 (by assumption) ?r204
          case y204 => intro w hSw; (try dsimp only at hSw); go_simp <;> with_reducible rfl
          try simp only [Act.put, List.setIfInBounds_toArray, List.set_cons_zero, List.set_cons_succ]
          refine take_wanted 5 20 (v := ?v205) rfl rfl (by kernel_rfl) (by kernel_rfl) (by kernel_rfl) (fun _ _ _ h => h) (by rfl) ?y205 (by assumption) ?r205
          case y205 => intro w hSw; (try dsimp only at hSw); go_simp <;> with_reducible rfl
          try simp only [Act.put, List.setIfInBounds_toArray, List.set_cons_zero, List.set_cons_succ]
          refine take_wanted 8 23 (v := ?v208) rfl rfl (by kernel_rfl) (by kernel_rfl) (by kernel_rfl) (fun _ _ _ h => h) (by rfl) ?y208 (by assumption) ?r208
          case y208 => intro w hSw; (try dsimp only at hSw); go_simp <;> with_reducible rfl
          try simp only [Act.put, List.setIfInBounds_toArray, List.set_cons_zero, List.set_cons_succ]
          refine take_wanted 9 24 (v := ?v209) rfl rfl (by kernel_rfl) (by kernel_rfl) (by kernel_rfl) (fun _ _ _ h => h) (by rfl) ?y209 (by assumption) ?r209
          case y209 => intro w hSw; (try dsimp only at hSw); go_simp <;> with_reducible rfl
          try simp only [Act.put, List.setIfInBounds_toArray, List.set_cons_zero, List.set_cons_succ]
          refine take_ready 3 rfl (by kernel_rfl) (fun K hK => ?_)
          go_simp
          (go_at_call 46; refine (HM.out _ (by first | exact (Below.refl _ _).drew | exact Below.refl _ _)).mono ?_; rintro e w2 ⟨v', rfl, ho, hb2⟩; obtain ⟨A', c', rfl, g1, g2, g3⟩ := (ho.reads (B := w2.heap.size) ho.1.lt).open_; rw [maskL_len] at g1 g3 ⊢; obtain ⟨ad', rfl, hb', hc'⟩ := g3 (by omega); have k3 := hc' a _ (maskL_at (n := n) (xss := xss) (by omega)); clear hc' ho; obtain ⟨z0, z1, z2, z3, z4, z5, z6⟩ := (HXw1.out.below (Below.refl _ _).drew (show w.heap.size + 1 < w1.heap.size by have := HZw1.out; omega)).below hb2 (show w.heap.size + 1 < w1.drew.heap.size by show _ < w1.heap.size; have := HZw1.out; omega))
          refine hK.out _ _ ?_ (fun hHeld => ?_)
          · go_keep
          clear hK K
          try simp only [Act.put, List.setIfInBounds_toArray, List.set_cons_zero, List.set_cons_succ]
          refine take_wanted 6 21 (v := ?v206) rfl rfl (by kernel_rfl) (by kernel_rfl) (by kernel_rfl) (fun _ _ _ h => h) (by rfl) ?y206 (by assumption) ?r206
          case y206 => intro w hSw; (try dsimp only at hSw); go_simp <;> with_reducible rfl
          try simp only [Act.put, List.setIfInBounds_toArray, List.set_cons_zero, List.set_cons_succ]
          refine take_ready 7 rfl (by kernel_rfl) (fun K hK => ?_)
          go_simp
          refine hK.out _ _ ?_ (fun hHeld => ?_)
          · go_keep
          clear hK K
          try simp only [Act.put, List.setIfInBounds_toArray, List.set_cons_zero, List.set_cons_succ]
          refine take_wanted 10 25 (v := ?v210) rfl rfl (by kernel_rfl) (by kernel_rfl) (by kernel_rfl) (fun _ _ _ h => h) (by rfl) ?y210 (by assumption) ?r210
          case y210 => intro w hSw; (try dsimp only at hSw); go_simp <;> with_reducible rfl
          try simp only [Act.put, List.setIfInBounds_toArray, List.set_cons_zero, List.set_cons_succ]
          refine take_wanted 11 26 (v := ?v211) rfl rfl (by kernel_rfl) (by kernel_rfl) (by kernel_rfl) (fun _ _ _ h => h) (by rfl) ?y211 (by assumption) ?r211
          case y211 => intro w hSw; (try dsimp only at hSw); go_simp <;> with_reducible rfl
          try simp only [Act.put, List.setIfInBounds_toArray, List.set_cons_zero, List.set_cons_succ]
          refine take_wanted 12 27 (v := ?v212) rfl rfl (by kernel_rfl) (by kernel_rfl) (by kernel_rfl) (fun _ _ _ h => h) (by rfl) ?y212 (by assumption) ?r212
          case y212 => intro w hSw; (try dsimp only at hSw); go_simp <;> with_reducible rfl
          try simp only [Act.put, List.setIfInBounds_toArray, List.set_cons_zero, List.set_cons_succ]
          refine take_wanted 13 28 (v := ?v213) rfl rfl (by kernel_rfl) (by kernel_rfl) (by kernel_rfl) (fun _ _ _ h => h) (by rfl) ?y213 (by assumption) ?r213
          case y213 => intro w hSw; (try dsimp only at hSw); go_simp <;> with_reducible rfl
          try simp only [Act.put, List.setIfInBounds_toArray, List.set_cons_zero, List.set_cons_succ]
          refine take_wanted 14 29 (v := ?v214) rfl rfl (by kernel_rfl) (by kernel_rfl) (by kernel_rfl) (fun _ _ _ h => h) (by rfl) ?y214 (by assumption) ?r214
          case y214 => intro w hSw; (try dsimp only at hSw); go_simp <;> with_reducible rfl
          try simp only [Act.put, List.setIfInBounds_toArray, List.set_cons_zero, List.set_cons_succ]
          refine take_wanted 15 30 (v := ?v215) rfl rfl (by kernel_rfl) (by kernel_rfl) (by kernel_rfl) (fun _ _ _ h => h) (by rfl) ?y215 (by assumption) ?r215
          case y215 => intro w hSw; (try dsimp only at hSw); go_simp <;> with_reducible rfl
          try simp only [Act.put, List.setIfInBounds_toArray, List.set_cons_zero, List.set_cons_succ]
          refine take_wanted 16 31 (v := ?v216) rfl rfl (by kernel_rfl) (by kernel_rfl) (by kernel_rfl) (fun _ _ _ h => h) (by rfl) ?y216 (by assumption) ?r216
          case y216 => intro w hSw; (try dsimp only at hSw); go_simp <;> with_reducible rfl
          try simp only [Act.put, List.setIfInBounds_toArray, List.set_cons_zero, List.set_cons_succ]
          refine take_wanted 17 32 (v := ?v217) rfl rfl (by kernel_rfl) (by kernel_rfl) (by kernel_rfl) (fun _ _ _ h => h) (by rfl) ?y217 (by assumption) ?r217
          case y217 => intro w hSw; (try dsimp only at hSw); go_simp <;> with_reducible rfl
          try simp only [Act.put, List.setIfInBounds_toArray, List.set_cons_zero, List.set_cons_succ]
          refine take_wanted 18 33 (v := ?v218) rfl rfl (by kernel_rfl) (by kernel_rfl) (by kernel_rfl) (fun _ _ _ h => h) (by rfl) ?y218 (by assumption) ?r218
          case y218 => intro w hSw; (try dsimp only at hSw); go_simp <;> with_reducible rfl
          try simp only [Act.put, List.setIfInBounds_toArray, List.set_cons_zero, List.set_cons_succ]
          refine take_wanted 19 34 (v := ?v219) rfl rfl (by kernel_rfl) (by kernel_rfl) (by kernel_rfl) (fun _ _ _ h => h) (by rfl) ?y219 (by assumption) ?r219
          case y219 => intro w hSw; (try dsimp only at hSw); go_simp <;> with_reducible rfl
          try simp only [Act.put, List.setIfInBounds_toArray, List.set_cons_zero, List.set_cons_succ]
          refine take_wanted 20 35 (v := ?v220) rfl rfl (by kernel_rfl) (by kernel_rfl) (by kernel_rfl) (fun _ _ _ h => h) (by rfl) ?y220 (by assumption) ?r220
          case y220 => intro w hSw; (try dsimp only at hSw); go_simp <;> with_reducible rfl
          try simp only [Act.put, List.setIfInBounds_toArray, List.set_cons_zero, List.set_cons_succ]
          refine take_wanted 21 36 (v := ?v221) rfl rfl (by kernel_rfl) (by kernel_rfl) (by kernel_rfl) (fun _ _ _ h => h) (by rfl) ?y221 (by assumption) ?r221
          case y221 => intro w hSw; (try dsimp only at hSw); go_simp <;> with_reducible rfl
          try simp only [Act.put, List.setIfInBounds_toArray, List.set_cons_zero, List.set_cons_succ]
          refine take_wanted 22 37 (v := ?v222) rfl rfl (by kernel_rfl) (by kernel_rfl) (by kernel_rfl) (fun _ _ _ h => h) (by rfl) ?y222 (by assumption) ?r222
          case y222 => intro w hSw; (try dsimp only at hSw); go_simp <;> with_reducible rfl
          try simp only [Act.put, List.setIfInBounds_toArray, List.set_cons_zero, List.set_cons_succ]
          refine take_wanted 23 38 (v := ?v223) rfl rfl (by kernel_rfl) (by kernel_rfl) (by kernel_rfl) (fun _ _ _ h => h) (by rfl) ?y223 (by assumption) ?r223
          case y223 => intro w hSw; (try dsimp only at hSw); go_simp <;> with_reducible rfl
          try simp only [Act.put, List.setIfInBounds_toArray, List.set_cons_zero, List.set_cons_succ]
          refine take_wanted 24 39 (v := ?v224) rfl rfl (by kernel_rfl) (by kernel_rfl) (by kernel_rfl) (fun _ _ _ h => h) (by rfl) ?y224 (by assumption) ?r224
          case y224 => intro w hSw; (try dsimp only at hSw); go_simp <;> with_reducible rfl
          try simp only [Act.put, List.setIfInBounds_toArray, List.set_cons_zero, List.set_cons_succ]
          refine take_wanted 25 40 (v := ?v225) rfl rfl (by kernel_rfl) (by kernel_rfl) (by kernel_rfl) (fun _ _ _ h => h) (by rfl) ?y225 (by assumption) ?r225
          case y225 => intro w hSw; (try dsimp only at hSw); go_simp <;> with_reducible rfl
          try simp only [Act.put, List.setIfInBounds_toArray, List.set_cons_zero, List.set_cons_succ]
          refine take_wanted 26 41 (v := ?v226) rfl rfl (by kernel_rfl) (by kernel_rfl) (by kernel_rfl) (fun _ _ _ h => h) (by rfl) ?y226 (by assumption) ?r226
          case y226 => intro w hSw; (try dsimp only at hSw); go_simp <;> with_reducible rfl
          try simp only [Act.put, List.setIfInBounds_toArray, List.set_cons_zero, List.set_cons_succ]
          refine take_wanted 27 42 (v := ?v227) rfl rfl (by kernel_rfl) (by kernel_rfl) (by kernel_rfl) (fun _ _ _ h => h) (by rfl) ?y227 (by assumption) ?r227
          case y227 => intro w hSw; (try dsimp only at hSw); go_simp <;> with_reducible rfl
          try simp only [Act.put, List.setIfInBounds_toArray, List.set_cons_zero, List.set_cons_succ]
          refine take_wanted 28 4 (v := ?v228) rfl rfl (by kernel_rfl) (by kernel_rfl) (by kernel_rfl) (fun _ _ _ h => h) (by rfl) ?y228 (by assumption) ?r228
          case y228 => intro w hSw; (try dsimp only at hSw); go_simp <;> with_reducible rfl
          try simp only [Act.put, List.setIfInBounds_toArray, List.set_cons_zero, List.set_cons_succ]
          refine wpAnyH_done (by kernel_rfl) ?_ _
          all_goals
            go_wp2_with fail
            go_ret
            exact ⟨ret_bool (propB_t (HP.out.2 ⟨HQ1.out, HQ2.out, HA.out⟩)).symm, bl_trans hbw1.drew hb2⟩
        · have t0 : ((f.length : Int) + (s.length : Int) + (rs.length : Int) == 0) = false := by rw [beq_eq_false_iff_ne]; omega
          have HQ2 := Lib.hid q2; clear q2
          go_wp2_with fail
          refine wp_region_held_drew (S := (fun w' => w'.cell? ⟨w.heap.size, 0, none⟩ = some (.int .i64 (n : Int)) ∧ w'.cell? ⟨w.heap.size, 1, none⟩ = some v ∧ w'.cell? ⟨w.heap.size + 1, 1, none⟩ = some (.int .i64 (a : Int)) ∧ w'.cell? ⟨w.heap.size + 1, 2, none⟩ = some (.slice Af f.length cf) ∧ w'.cell? ⟨w.heap.size + 1, 3, none⟩ = some (.slice As s.length cs) ∧ w'.cell? ⟨w.heap.size + 1, 4, none⟩ = some (.slice Ar rs.length cr))) (by kernel_rfl) ?_ (fun hHeld => ?_)
          · go_keep
          refine take_wanted 0 15 (v := ?v300) rfl rfl (by kernel_rfl) (by kernel_rfl) (by kernel_rfl) (fun _ _ _ h => h) (by rfl) ?y300 (by assumption) ?r300
          case y300 => intro w hSw; (try dsimp only at hSw); go_simp <;> with_reducible rfl
          try simp only [Act.put, List.setIfInBounds_toArray, List.set_cons_zero, List.set_cons_succ]
          refine take_wanted 1 16 (v := ?v301) rfl rfl (by kernel_rfl) (by kernel_rfl) (by kernel_rfl) (fun _ _ _ h => h) (by rfl) ?y301 (by assumption) ?r301
          case y301 => intro w hSw; (try dsimp only at hSw); go_simp <;> with_reducible rfl
          try simp only [Act.put, List.setIfInBounds_toArray, List.set_cons_zero, List.set_cons_succ]
          refine take_wanted 2 17 (v := ?v302) rfl rfl (by kernel_rfl) (by kernel_rfl) (by kernel_rfl) (fun _ _ _ h => h) (by rfl) ?y302 (by assumption) ?r302
          case y302 => intro w hSw; (try dsimp only at hSw); go_simp <;> with_reducible rfl
          try simp only [Act.put, List.setIfInBounds_toArray, List.set_cons_zero, List.set_cons_succ]
          refine take_wanted 4 19 (v := ?v304) rfl rfl (by kernel_rfl) (by kernel_rfl) (by kernel_rfl) (fun _ _ _ h => h) (by rfl) ?y304 (by assumption) ?r304
          case y304 => intro w hSw; (try dsimp only at hSw); go_simp <;> with_reducible rfl
          try simp only [Act.put, List.setIfInBounds_toArray, List.set_cons_zero, List.set_cons_succ]
          refine take_wanted 5 20 (v := ?v305) rfl rfl (by kernel_rfl) (by kernel_rfl) (by kernel_rfl) (fun _ _ _ h => h) (by rfl) ?y305 (by assumption) ?r305
          case y305 => intro w hSw; (try dsimp only at hSw); go_simp <;> with_reducible rfl
          try simp only [Act.put, List.setIfInBounds_toArray, List.set_cons_zero, List.set_cons_succ]
          refine take_wanted 8 23 (v := ?v308) rfl rfl (by kernel_rfl) (by kernel_rfl) (by kernel_rfl) (fun _ _ _ h => h) (by rfl) ?y308 (by assumption) ?r308
          case y308 => intro w hSw; (try dsimp only at hSw); go_simp <;> with_reducible rfl
          try simp only [Act.put, List.setIfInBounds_toArray, List.set_cons_zero, List.set_cons_succ]
          refine take_wanted 9 24 (v := ?v309) rfl rfl (by kernel_rfl) (by kernel_rfl) (by kernel_rfl) (fun _ _ _ h => h) (by rfl) ?y309 (by assumption) ?r309
          case y309 => intro w hSw; (try dsimp only at hSw); go_simp <;> with_reducible rfl
          try simp only [Act.put, List.setIfInBounds_toArray, List.set_cons_zero, List.set_cons_succ]
          refine take_ready 3 rfl (by kernel_rfl) (fun K hK => ?_)
          go_simp
          (go_at_call 46; refine (HM.out _ (by first | exact (Below.refl _ _).drew | exact Below.refl _ _)).mono ?_; rintro e w2 ⟨v', rfl, ho, hb2⟩; obtain ⟨A', c', rfl, g1, g2, g3⟩ := (ho.reads (B := w2.heap.size) ho.1.lt).open_; rw [maskL_len] at g1 g3 ⊢; obtain ⟨ad', rfl, hb', hc'⟩ := g3 (by omega); have k3 := hc' a _ (maskL_at (n := n) (xss := xss) (by omega)); clear hc' ho; obtain ⟨z0, z1, z2, z3, z4, z5, z6⟩ := (HXw1.out.below (Below.refl _ _).drew (show w.heap.size + 1 < w1.heap.size by have := HZw1.out; omega)).below hb2 (show w.heap.size + 1 < w1.drew.heap.size by show _ < w1.heap.size; have := HZw1.out; omega))
          refine hK.out _ _ ?_ (fun hHeld => ?_)
          · go_keep
          clear hK K
          try simp only [Act.put, List.setIfInBounds_toArray, List.set_cons_zero, List.set_cons_succ]
          refine take_wanted 6 21 (v := ?v306) rfl rfl (by kernel_rfl) (by kernel_rfl) (by kernel_rfl) (fun _ _ _ h => h) (by rfl) ?y306 (by assumption) ?r306
          case y306 => intro w hSw; (try dsimp only at hSw); go_simp <;> with_reducible rfl
          try simp only [Act.put, List.setIfInBounds_toArray, List.set_cons_zero, List.set_cons_succ]
          refine take_ready 7 rfl (by kernel_rfl) (fun K hK => ?_)
          go_simp
          refine hK.out _ _ ?_ (fun hHeld => ?_)
          · go_keep
          clear hK K
          try simp only [Act.put, List.setIfInBounds_toArray, List.set_cons_zero, List.set_cons_succ]
          refine take_wanted 10 25 (v := ?v310) rfl rfl (by kernel_rfl) (by kernel_rfl) (by kernel_rfl) (fun _ _ _ h => h) (by rfl) ?y310 (by assumption) ?r310
          case y310 => intro w hSw; (try dsimp only at hSw); go_simp <;> with_reducible rfl
          try simp only [Act.put, List.setIfInBounds_toArray, List.set_cons_zero, List.set_cons_succ]
          refine take_wanted 11 26 (v := ?v311) rfl rfl (by kernel_rfl) (by kernel_rfl) (by kernel_rfl) (fun _ _ _ h => h) (by rfl) ?y311 (by assumption) ?r311
          case y311 => intro w hSw; (try dsimp only at hSw); go_simp <;> with_reducible rfl
          try simp only [Act.put, List.setIfInBounds_toArray, List.set_cons_zero, List.set_cons_succ]
          refine take_wanted 12 27 (v := ?v312) rfl rfl (by kernel_rfl) (by kernel_rfl) (by kernel_rfl) (fun _ _ _ h => h) (by rfl) ?y312 (by assumption) ?r312
          case y312 => intro w hSw; (try dsimp only at hSw); go_simp <;> with_reducible rfl
          try simp only [Act.put, List.setIfInBounds_toArray, List.set_cons_zero, List.set_cons_succ]
          refine take_wanted 13 28 (v := ?v313) rfl rfl (by kernel_rfl) (by kernel_rfl) (by kernel_rfl) (fun _ _ _ h => h) (by rfl) ?y313 (by assumption) ?r313
          case y313 => intro w hSw; (try dsimp only at hSw); go_simp <;> with_reducible rfl
          try simp only [Act.put, List.setIfInBounds_toArray, List.set_cons_zero, List.set_cons_succ]
          refine take_wanted 14 29 (v := ?v314) rfl rfl (by kernel_rfl) (by kernel_rfl) (by kernel_rfl) (fun _ _ _ h => h) (by rfl) ?y314 (by assumption) ?r314
          case y314 => intro w hSw; (try dsimp only at hSw); go_simp <;> with_reducible rfl
          try simp only [Act.put, List.setIfInBounds_toArray, List.set_cons_zero, List.set_cons_succ]
          refine take_wanted 15 30 (v := ?v315) rfl rfl (by kernel_rfl) (by kernel_rfl) (by kernel_rfl) (fun _ _ _ h => h) (by rfl) ?y315 (by assumption) ?r315
          case y315 => intro w hSw; (try dsimp only at hSw); go_simp <;> with_reducible rfl
          try simp only [Act.put, List.setIfInBounds_toArray, List.set_cons_zero, List.set_cons_succ]
          refine take_wanted 16 31 (v := ?v316) rfl rfl (by kernel_rfl) (by kernel_rfl) (by kernel_rfl) (fun _ _ _ h => h) (by rfl) ?y316 (by assumption) ?r316
          case y316 => intro w hSw; (try dsimp only at hSw); go_simp <;> with_reducible rfl
          try simp only [Act.put, List.setIfInBounds_toArray, List.set_cons_zero, List.set_cons_succ]
          refine take_wanted 17 32 (v := ?v317) rfl rfl (by kernel_rfl) (by kernel_rfl) (by kernel_rfl) (fun _ _ _ h => h) (by rfl) ?y317 (by assumption) ?r317
          case y317 => intro w hSw; (try dsimp only at hSw); go_simp <;> with_reducible rfl
          try simp only [Act.put, List.setIfInBounds_toArray, List.set_cons_zero, List.set_cons_succ]
          refine take_wanted 18 33 (v := ?v318) rfl rfl (by kernel_rfl) (by kernel_rfl) (by kernel_rfl) (fun _ _ _ h => h) (by rfl) ?y318 (by assumption) ?r318
          case y318 => intro w hSw; (try dsimp only at hSw); go_simp <;> with_reducible rfl
          try simp only [Act.put, List.setIfInBounds_toArray, List.set_cons_zero, List.set_cons_succ]
          refine take_wanted 19 34 (v := ?v319) rfl rfl (by kernel_rfl) (by kernel_rfl) (by kernel_rfl) (fun _ _ _ h => h) (by rfl) ?y319 (by assumption) ?r319
          case y319 => intro w hSw; (try dsimp only at hSw); go_simp <;> with_reducible rfl
          try simp only [Act.put, List.setIfInBounds_toArray, List.set_cons_zero, List.set_cons_succ]
          refine take_wanted 20 35 (v := ?v320) rfl rfl (by kernel_rfl) (by kernel_rfl) (by kernel_rfl) (fun _ _ _ h => h) (by rfl) ?y320 (by assumption) ?r320
          case y320 => intro w hSw; (try dsimp only at hSw); go_simp <;> with_reducible rfl
          try simp only [Act.put, List.setIfInBounds_toArray, List.set_cons_zero, List.set_cons_succ]
          refine take_wanted 21 36 (v := ?v321) rfl rfl (by kernel_rfl) (by kernel_rfl) (by kernel_rfl) (fun _ _ _ h => h) (by rfl) ?y321 (by assumption) ?r321
          case y321 => intro w hSw; (try dsimp only at hSw); go_simp <;> with_reducible rfl
          try simp only [Act.put, List.setIfInBounds_toArray, List.set_cons_zero, List.set_cons_succ]
          refine take_wanted 22 37 (v := ?v322) rfl rfl (by kernel_rfl) (by kernel_rfl) (by kernel_rfl) (fun _ _ _ h => h) (by rfl) ?y322 (by assumption) ?r322
          case y322 => intro w hSw; (try dsimp only at hSw); go_simp <;> with_reducible rfl
          try simp only [Act.put, List.setIfInBounds_toArray, List.set_cons_zero, List.set_cons_succ]
          refine take_wanted 23 38 (v := ?v323) rfl rfl (by kernel_rfl) (by kernel_rfl) (by kernel_rfl) (fun _ _ _ h => h) (by rfl) ?y323 (by assumption) ?r323
          case y323 => intro w hSw; (try dsimp only at hSw); go_simp <;> with_reducible rfl
          try simp only [Act.put, List.setIfInBounds_toArray, List.set_cons_zero, List.set_cons_succ]
          refine take_wanted 24 39 (v := ?v324) rfl rfl (by kernel_rfl) (by kernel_rfl) (by kernel_rfl) (fun _ _ _ h => h) (by rfl) ?y324 (by assumption) ?r324
          case y324 => intro w hSw; (try dsimp only at hSw); go_simp <;> with_reducible rfl
          try simp only [Act.put, List.setIfInBounds_toArray, List.set_cons_zero, List.set_cons_succ]
          refine take_wanted 25 40 (v := ?v325) rfl rfl (by kernel_rfl) (by kernel_rfl) (by kernel_rfl) (fun _ _ _ h => h) (by rfl) ?y325 (by assumption) ?r325
          case y325 => intro w hSw; (try dsimp only at hSw); go_simp <;> with_reducible rfl
          try simp only [Act.put, List.setIfInBounds_toArray, List.set_cons_zero, List.set_cons_succ]
          refine take_wanted 26 41 (v := ?v326) rfl rfl (by kernel_rfl) (by kernel_rfl) (by kernel_rfl) (fun _ _ _ h => h) (by rfl) ?y326 (by assumption) ?r326
          case y326 => intro w hSw; (try dsimp only at hSw); go_simp <;> with_reducible rfl
          try simp only [Act.put, List.setIfInBounds_toArray, List.set_cons_zero, List.set_cons_succ]
          refine take_wanted 27 42 (v := ?v327) rfl rfl (by kernel_rfl) (by kernel_rfl) (by kernel_rfl) (fun _ _ _ h => h) (by rfl) ?y327 (by assumption) ?r327
          case y327 => intro w hSw; (try dsimp only at hSw); go_simp <;> with_reducible rfl
          try simp only [Act.put, List.setIfInBounds_toArray, List.set_cons_zero, List.set_cons_succ]
          refine take_wanted 28 4 (v := ?v328) rfl rfl (by kernel_rfl) (by kernel_rfl) (by kernel_rfl) (fun _ _ _ h => h) (by rfl) ?y328 (by assumption) ?r328
          case y328 => intro w hSw; (try dsimp only at hSw); go_simp <;> with_reducible rfl
          try simp only [Act.put, List.setIfInBounds_toArray, List.set_cons_zero, List.set_cons_succ]
          refine wpAnyH_done (by kernel_rfl) ?_ _
          all_goals
            go_wp2_with fail
            go_ret
            exact ⟨ret_bool (propB_f (fun h => HQ2.out (HP.out.1 h).2.1)).symm, bl_trans hbw1.drew hb2⟩
      · have hbit := bit_f hm (by omega) ht
        have HA := Lib.hid (show ¬ hasArc xss a a from fun h => ht (HMB.out.2 h)); clear ht
        go_wp2_with fail
        refine wp_region_held_drew (S := (fun w' => w'.cell? ⟨w.heap.size, 0, none⟩ = some (.int .i64 (n : Int)) ∧ w'.cell? ⟨w.heap.size, 1, none⟩ = some v ∧ w'.cell? ⟨w.heap.size + 1, 1, none⟩ = some (.int .i64 (a : Int)) ∧ w'.cell? ⟨w.heap.size + 1, 2, none⟩ = some (.slice Af f.length cf) ∧ w'.cell? ⟨w.heap.size + 1, 3, none⟩ = some (.slice As s.length cs) ∧ w'.cell? ⟨w.heap.size + 1, 4, none⟩ = some (.slice Ar rs.length cr))) (by kernel_rfl) ?_ (fun hHeld => ?_)
        · go_keep
        refine take_wanted 0 15 (v := ?v400) rfl rfl (by kernel_rfl) (by kernel_rfl) (by kernel_rfl) (fun _ _ _ h => h) (by rfl) ?y400 (by assumption) ?r400
        case y400 => intro w hSw; (try dsimp only at hSw); go_simp <;> with_reducible rfl
        try simp only [Act.put, List.setIfInBounds_toArray, List.set_cons_zero, List.set_cons_succ]
        refine take_wanted 1 16 (v := ?v401) rfl rfl (by kernel_rfl) (by kernel_rfl) (by kernel_rfl) (fun _ _ _ h => h) (by rfl) ?y401 (by assumption) ?r401
        case y401 => intro w hSw; (try dsimp only at hSw); go_simp <;> with_reducible rfl
        try simp only [Act.put, List.setIfInBounds_toArray, List.set_cons_zero, List.set_cons_succ]
        refine take_wanted 2 17 (v := ?v402) rfl rfl (by kernel_rfl) (by kernel_rfl) (by kernel_rfl) (fun _ _ _ h => h) (by rfl) ?y402 (by assumption) ?r402
        case y402 => intro w hSw; (try dsimp only at hSw); go_simp <;> with_reducible rfl
        try simp only [Act.put, List.setIfInBounds_toArray, List.set_cons_zero, List.set_cons_succ]
        refine take_wanted 4 19 (v := ?v404) rfl rfl (by kernel_rfl) (by kernel_rfl) (by kernel_rfl) (fun _ _ _ h => h) (by rfl) ?y404 (by assumption) ?r404
        case y404 => intro w hSw; (try dsimp only at hSw); go_simp <;> with_reducible rfl
        try simp only [Act.put, List.setIfInBounds_toArray, List.set_cons_zero, List.set_cons_succ]
        refine take_wanted 5 20 (v := ?v405) rfl rfl (by kernel_rfl) (by kernel_rfl) (by kernel_rfl) (fun _ _ _ h => h) (by rfl) ?y405 (by assumption) ?r405
        case y405 => intro w hSw; (try dsimp only at hSw); go_simp <;> with_reducible rfl
        try simp only [Act.put, List.setIfInBounds_toArray, List.set_cons_zero, List.set_cons_succ]
        refine take_wanted 8 23 (v := ?v408) rfl rfl (by kernel_rfl) (by kernel_rfl) (by kernel_rfl) (fun _ _ _ h => h) (by rfl) ?y408 (by assumption) ?r408
        case y408 => intro w hSw; (try dsimp only at hSw); go_simp <;> with_reducible rfl
        try simp only [Act.put, List.setIfInBounds_toArray, List.set_cons_zero, List.set_cons_succ]
        refine take_wanted 9 24 (v := ?v409) rfl rfl (by kernel_rfl) (by kernel_rfl) (by kernel_rfl) (fun _ _ _ h => h) (by rfl) ?y409 (by assumption) ?r409
        case y409 => intro w hSw; (try dsimp only at hSw); go_simp <;> with_reducible rfl
        try simp only [Act.put, List.setIfInBounds_toArray, List.set_cons_zero, List.set_cons_succ]
        refine take_ready 3 rfl (by kernel_rfl) (fun K hK => ?_)
        go_simp
        (go_at_call 46; refine (HM.out _ (by first | exact (Below.refl _ _).drew | exact Below.refl _ _)).mono ?_; rintro e w2 ⟨v', rfl, ho, hb2⟩; obtain ⟨A', c', rfl, g1, g2, g3⟩ := (ho.reads (B := w2.heap.size) ho.1.lt).open_; rw [maskL_len] at g1 g3 ⊢; obtain ⟨ad', rfl, hb', hc'⟩ := g3 (by omega); have k3 := hc' a _ (maskL_at (n := n) (xss := xss) (by omega)); clear hc' ho; obtain ⟨z0, z1, z2, z3, z4, z5, z6⟩ := (HXw1.out.below (Below.refl _ _).drew (show w.heap.size + 1 < w1.heap.size by have := HZw1.out; omega)).below hb2 (show w.heap.size + 1 < w1.drew.heap.size by show _ < w1.heap.size; have := HZw1.out; omega))
        refine hK.out _ _ ?_ (fun hHeld => ?_)
        · go_keep
        clear hK K
        try simp only [Act.put, List.setIfInBounds_toArray, List.set_cons_zero, List.set_cons_succ]
        refine take_wanted 6 21 (v := ?v406) rfl rfl (by kernel_rfl) (by kernel_rfl) (by kernel_rfl) (fun _ _ _ h => h) (by rfl) ?y406 (by assumption) ?r406
        case y406 => intro w hSw; (try dsimp only at hSw); go_simp <;> with_reducible rfl
        try simp only [Act.put, List.setIfInBounds_toArray, List.set_cons_zero, List.set_cons_succ]
        refine take_ready 7 rfl (by kernel_rfl) (fun K hK => ?_)
        go_simp
        refine hK.out _ _ ?_ (fun hHeld => ?_)
        · go_keep
        clear hK K
        try simp only [Act.put, List.setIfInBounds_toArray, List.set_cons_zero, List.set_cons_succ]
        refine take_wanted 10 25 (v := ?v410) rfl rfl (by kernel_rfl) (by kernel_rfl) (by kernel_rfl) (fun _ _ _ h => h) (by rfl) ?y410 (by assumption) ?r410
        case y410 => intro w hSw; (try dsimp only at hSw); go_simp <;> with_reducible rfl
        try simp only [Act.put, List.setIfInBounds_toArray, List.set_cons_zero, List.set_cons_succ]
        refine take_wanted 11 26 (v := ?v411) rfl rfl (by kernel_rfl) (by kernel_rfl) (by kernel_rfl) (fun _ _ _ h => h) (by rfl) ?y411 (by assumption) ?r411
        case y411 => intro w hSw; (try dsimp only at hSw); go_simp <;> with_reducible rfl
        try simp only [Act.put, List.setIfInBounds_toArray, List.set_cons_zero, List.set_cons_succ]
        refine take_wanted 12 27 (v := ?v412) rfl rfl (by kernel_rfl) (by kernel_rfl) (by kernel_rfl) (fun _ _ _ h => h) (by rfl) ?y412 (by assumption) ?r412
        case y412 => intro w hSw; (try dsimp only at hSw); go_simp <;> with_reducible rfl
        try simp only [Act.put, List.setIfInBounds_toArray, List.set_cons_zero, List.set_cons_succ]
        refine take_wanted 13 28 (v := ?v413) rfl rfl (by kernel_rfl) (by kernel_rfl) (by kernel_rfl) (fun _ _ _ h => h) (by rfl) ?y413 (by assumption) ?r413
        case y413 => intro w hSw; (try dsimp only at hSw); go_simp <;> with_reducible rfl
        try simp only [Act.put, List.setIfInBounds_toArray, List.set_cons_zero, List.set_cons_succ]
        refine take_wanted 14 29 (v := ?v414) rfl rfl (by kernel_rfl) (by kernel_rfl) (by kernel_rfl) (fun _ _ _ h => h) (by rfl) ?y414 (by assumption) ?r414
        case y414 => intro w hSw; (try dsimp only at hSw); go_simp <;> with_reducible rfl
        try simp only [Act.put, List.setIfInBounds_toArray, List.set_cons_zero, List.set_cons_succ]
        refine take_not 15 30 rfl rfl (by kernel_rfl) (by kernel_rfl) (by kernel_rfl) (fun _ _ _ h => h) (by rfl) (by assumption) ?_
        try simp only [Act.put, List.setIfInBounds_toArray, List.set_cons_zero, List.set_cons_succ]
        refine take_not 16 31 rfl rfl (by kernel_rfl) (by kernel_rfl) (by kernel_rfl) (fun _ _ _ h => h) (by rfl) (by assumption) ?_
        try simp only [Act.put, List.setIfInBounds_toArray, List.set_cons_zero, List.set_cons_succ]
        refine take_not 17 32 rfl rfl (by kernel_rfl) (by kernel_rfl) (by kernel_rfl) (fun _ _ _ h => h) (by rfl) (by assumption) ?_
        try simp only [Act.put, List.setIfInBounds_toArray, List.set_cons_zero, List.set_cons_succ]
        refine take_not 18 33 rfl rfl (by kernel_rfl) (by kernel_rfl) (by kernel_rfl) (fun _ _ _ h => h) (by rfl) (by assumption) ?_
        try simp only [Act.put, List.setIfInBounds_toArray, List.set_cons_zero, List.set_cons_succ]
        refine take_not 19 34 rfl rfl (by kernel_rfl) (by kernel_rfl) (by kernel_rfl) (fun _ _ _ h => h) (by rfl) (by assumption) ?_
        try simp only [Act.put, List.setIfInBounds_toArray, List.set_cons_zero, List.set_cons_succ]
        refine take_not 20 35 rfl rfl (by kernel_rfl) (by kernel_rfl) (by kernel_rfl) (fun _ _ _ h => h) (by rfl) (by assumption) ?_
        try simp only [Act.put, List.setIfInBounds_toArray, List.set_cons_zero, List.set_cons_succ]
        refine take_not 21 36 rfl rfl (by kernel_rfl) (by kernel_rfl) (by kernel_rfl) (fun _ _ _ h => h) (by rfl) (by assumption) ?_
        try simp only [Act.put, List.setIfInBounds_toArray, List.set_cons_zero, List.set_cons_succ]
        refine take_not 22 37 rfl rfl (by kernel_rfl) (by kernel_rfl) (by kernel_rfl) (fun _ _ _ h => h) (by rfl) (by assumption) ?_
        try simp only [Act.put, List.setIfInBounds_toArray, List.set_cons_zero, List.set_cons_succ]
        refine take_not 23 38 rfl rfl (by kernel_rfl) (by kernel_rfl) (by kernel_rfl) (fun _ _ _ h => h) (by rfl) (by assumption) ?_
        try simp only [Act.put, List.setIfInBounds_toArray, List.set_cons_zero, List.set_cons_succ]
        refine take_not 24 39 rfl rfl (by kernel_rfl) (by kernel_rfl) (by kernel_rfl) (fun _ _ _ h => h) (by rfl) (by assumption) ?_
        try simp only [Act.put, List.setIfInBounds_toArray, List.set_cons_zero, List.set_cons_succ]
        refine take_not 25 40 rfl rfl (by kernel_rfl) (by kernel_rfl) (by kernel_rfl) (fun _ _ _ h => h) (by rfl) (by assumption) ?_
        try simp only [Act.put, List.setIfInBounds_toArray, List.set_cons_zero, List.set_cons_succ]
        refine take_not 26 41 rfl rfl (by kernel_rfl) (by kernel_rfl) (by kernel_rfl) (fun _ _ _ h => h) (by rfl) (by assumption) ?_
        try simp only [Act.put, List.setIfInBounds_toArray, List.set_cons_zero, List.set_cons_succ]
        refine take_wanted 27 42 (v := ?v427) rfl rfl (by kernel_rfl) (by kernel_rfl) (by kernel_rfl) (fun _ _ _ h => h) (by rfl) ?y427 (by assumption) ?r427
        case y427 => intro w hSw; (try dsimp only at hSw); go_simp <;> with_reducible rfl
        try simp only [Act.put, List.setIfInBounds_toArray, List.set_cons_zero, List.set_cons_succ]
        refine take_wanted 28 4 (v := ?v428) rfl rfl (by kernel_rfl) (by kernel_rfl) (by kernel_rfl) (fun _ _ _ h => h) (by rfl) ?y428 (by assumption) ?r428
        case y428 => intro w hSw; (try dsimp only at hSw); go_simp <;> with_reducible rfl
        try simp only [Act.put, List.setIfInBounds_toArray, List.set_cons_zero, List.set_cons_succ]
        refine wpAnyH_done (by kernel_rfl) ?_ _
        all_goals
          go_wp2_with fail
          go_ret
          exact ⟨ret_bool (propB_f (fun h => HA.out (HP.out.1 h).2.2)).symm, bl_trans hbw1.drew hb2⟩
  · by_cases e2 : cl = 2
    · subst e2
      have HP := Lib.hid (certP_2 n xss lb f s rs)
      cases q1 : inB lb 0 ((n : Int) - 1) with
      | false =>
        go_wp2_with fail
        go_ret
        exact ⟨ret_bool (propB_f (fun h => by have := (HP.out.1 h).1; rw [q1] at this; cases this)).symm, hbw1⟩
      | true =>
        have HQ1 := Lib.hid q1; clear q1
        go_wp2_with fail
        refine (impl_loopOf n v xss w1 ((HH.out.below hbw1).more hbw1.size) HG.out HV.out).mono ?_
        rintro e u1 ⟨i, rfl, hi, hb_u1⟩
        have hbu1 := bl_trans hbw1 hb_u1
        have HXu1 := Lib.hid (HXw1.out.below hb_u1 (by have := HZw1.out; omega))
        have HZu1 := Lib.hid (show w.heap.size + 2 ≤ u1.heap.size by have := hb_u1.size; have := HZw1.out; omega)
        obtain ⟨yu10, yu11, yu12, yu13, yu14, yu15, yu16⟩ := HXu1.out
        by_cases q3 : i < 0
        · have HN := Lib.hid (show ∀ a, ¬ hasArc xss a a from by
            rcases hi with ⟨_, h⟩ | ⟨a, _, e, _⟩
            · exact fun a ha => h a (HG.out.arc_lt ha).1 ha
            · omega)
          have t1 : decide (i < 0) = true := decide_eq_true q3
          by_cases q2 : rs.length = 0
          · have t0 : ((rs.length : Int) == 0) = true := by rw [beq_iff_eq]; omega
            have HQ2 := Lib.hid q2; clear q2
            go_wp2_with fail
            refine (impl_isClosedFrom n v _ xss f lb u1 ((HH.out.below hbu1).more hbu1.size) ((HF.out.below hbu1).more hbu1.size) HG.out).mono ?_
            rintro e u2 ⟨rfl, hb_u2⟩
            have hbu2 := bl_trans hbu1 hb_u2
            have HXu2 := Lib.hid (HXu1.out.below hb_u2 (by have := HZu1.out; omega))
            have HZu2 := Lib.hid (show w.heap.size + 2 ≤ u2.heap.size by have := hb_u2.size; have := HZu1.out; omega)
            obtain ⟨yu20, yu21, yu22, yu23, yu24, yu25, yu26⟩ := HXu2.out
            cases q4 : propB (closedP n xss f lb) with
            | false =>
              go_wp2_with fail
              go_ret
              exact ⟨ret_bool (propB_f (fun h => propB_ff q4 (HP.out.1 h).2.2.2.1)).symm, hbu2⟩
            | true =>
              go_wp2_with fail
              refine (impl_isClosedFrom n v _ xss s lb u2 ((HH.out.below hbu2).more hbu2.size) ((HS.out.below hbu2).more hbu2.size) HG.out).mono ?_
              rintro e u3 ⟨rfl, hb_u3⟩
              have hbu3 := bl_trans hbu2 hb_u3
              have HXu3 := Lib.hid (HXu2.out.below hb_u3 (by have := HZu2.out; omega))
              have HZu3 := Lib.hid (show w.heap.size + 2 ≤ u3.heap.size by have := hb_u3.size; have := HZu2.out; omega)
              obtain ⟨yu30, yu31, yu32, yu33, yu34, yu35, yu36⟩ := HXu3.out
              cases q5 : propB (closedP n xss s lb) with
              | false =>
                go_wp2_with fail
                go_ret
                exact ⟨ret_bool (propB_f (fun h => propB_ff q5 (HP.out.1 h).2.2.2.2.1)).symm, hbu3⟩
              | true =>
                have o1 : (2 : Int) ≤ f.length ∧ (f.length : Int) ≤ 200 := by have := (propB_iff.1 q4).1; unfold inB at this; simpa using this
                have o2 : (2 : Int) ≤ s.length ∧ (s.length : Int) ≤ 200 := by have := (propB_iff.1 q5).1; unfold inB at this; simpa using this
                have x1 : (f.length : Int) - 1 = ((f.length - 1 : Nat) : Int) := by omega
                have x2 : (s.length : Int) - 1 = ((s.length - 1 : Nat) : Int) := by omega
                have X1 := Lib.hid x1; clear x1
                have X2 := Lib.hid x2; clear x2
                go_wp2_with fail
                have HV2 := Lib.hid (IntsR.two u3 ((f.length : Int) - 1) ((s.length : Int) - 1) (by unfold I64; omega) (by unfold I64; omega))
                rw [show [(f.length : Int) - 1, (s.length : Int) - 1] = [f.length - 1, s.length - 1].map (fun (x : Nat) => (x : Int)) by rw [X1.out, X2.out]; rfl] at HV2
                refine (impl_gcd _ [f.length - 1, s.length - 1] _ HV2.out (by intro x hx; simp at hx; omega)).mono ?_
                rintro e w' ⟨rfl, m, rfl⟩
                have hg2 : gcdL [f.length - 1, s.length - 1] = Nat.gcd (f.length - 1) (s.length - 1) := by simp [gcdL]
                rw [hg2]
                clear hg2
                by_cases q6 : Nat.gcd (f.length - 1) (s.length - 1) = 1
                · have t6 : ((Nat.gcd (f.length - 1) (s.length - 1) : Int) == 1) = true := by rw [q6]; rfl
                  have HQ6 := Lib.hid q6; clear q6
                  go_wp2_with fail
                  go_ret
                  exact ⟨ret_bool (propB_t (HP.out.2 ⟨HQ1.out, HQ2.out, HN.out, propB_iff.1 q4, propB_iff.1 q5, HQ6.out⟩)).symm, bl_drewN (bl_alloc hbu3 _) _⟩
                · have t6 : ((Nat.gcd (f.length - 1) (s.length - 1) : Int) == 1) = false := by rw [beq_eq_false_iff_ne]; omega
                  have HQ6 := Lib.hid q6; clear q6
                  go_wp2_with fail
                  go_ret
                  exact ⟨ret_bool (propB_f (fun h => HQ6.out (HP.out.1 h).2.2.2.2.2)).symm, bl_drewN (bl_alloc hbu3 _) _⟩
          · have t0 : ((rs.length : Int) == 0) = false := by rw [beq_eq_false_iff_ne]; omega
            have HQ2 := Lib.hid q2; clear q2
            go_wp2_with fail
            go_ret
            exact ⟨ret_bool (propB_f (fun h => HQ2.out (HP.out.1 h).2.1)).symm, hbu1⟩
        · have HN := Lib.hid (show ∃ a, hasArc xss a a from by
            rcases hi with ⟨e, h⟩ | ⟨a, _, e, h, _⟩
            · omega
            · exact ⟨a, h⟩)
          have t1 : decide (i < 0) = false := decide_eq_false q3
          go_wp2_with fail
          go_ret
          exact ⟨ret_bool (propB_f (fun h => by obtain ⟨a, ha⟩ := HN.out; exact (HP.out.1 h).2.2.1 a ha)).symm, hbu1⟩
    · by_cases e1 : cl = 1
      · subst e1
        have HP := Lib.hid (certP_1 n xss lb f s rs)
        cases q1 : inB lb 0 ((n : Int) - 1) with
        | false =>
          go_wp2_with fail
          go_ret
          exact ⟨ret_bool (propB_f (fun h => by have := (HP.out.1 h).1; rw [q1] at this; cases this)).symm, hbw1⟩
        | true =>
          have HQ1 := Lib.hid q1; clear q1
          by_cases q2 : s.length = 0
          · have t0 : ((s.length : Int) == 0) = true := by rw [beq_iff_eq]; omega
            have HQ2 := Lib.hid q2; clear q2
            go_wp2_with fail
            refine (impl_isClosedFrom n v _ xss f lb w1 ((HH.out.below hbw1).more hbw1.size) ((HF.out.below hbw1).more hbw1.size) HG.out).mono ?_
            rintro e u2 ⟨rfl, hb_u2⟩
            have hbu2 := bl_trans hbw1 hb_u2
            have HXu2 := Lib.hid (HXw1.out.below hb_u2 (by have := HZw1.out; omega))
            have HZu2 := Lib.hid (show w.heap.size + 2 ≤ u2.heap.size by have := hb_u2.size; have := HZw1.out; omega)
            obtain ⟨yu20, yu21, yu22, yu23, yu24, yu25, yu26⟩ := HXu2.out
            cases q4 : propB (closedP n xss f lb) with
            | false =>
              go_wp2_with fail
              go_ret
              exact ⟨ret_bool (propB_f (fun h => propB_ff q4 (HP.out.1 h).2.2.1)).symm, hbu2⟩
            | true =>
              go_wp2_with fail
              refine (impl_ranksOk n v _ xss rs u2 true ((HH.out.below hbu2).more hbu2.size) ((HR.out.below hbu2).more hbu2.size) HG.out).mono ?_
              rintro e u3 ⟨rfl, hb_u3⟩
              have hbu3 := bl_trans hbu2 hb_u3
              have HXu3 := Lib.hid (HXu2.out.below hb_u3 (by have := HZu2.out; omega))
              have HZu3 := Lib.hid (show w.heap.size + 2 ≤ u3.heap.size by have := hb_u3.size; have := HZu2.out; omega)
              obtain ⟨yu30, yu31, yu32, yu33, yu34, yu35, yu36⟩ := HXu3.out
              cases q5 : propB (RanksP true n xss rs) with
              | false =>
                go_wp2_with fail
                go_ret
                exact ⟨ret_bool (propB_f (fun h => propB_ff q5 (HP.out.1 h).2.2.2)).symm, hbu3⟩
              | true =>
                go_wp2_with fail
                go_ret
                exact ⟨ret_bool (propB_t (HP.out.2 ⟨HQ1.out, HQ2.out, propB_iff.1 q4, propB_iff.1 q5⟩)).symm, hbu3⟩
          · have t0 : ((s.length : Int) == 0) = false := by rw [beq_eq_false_iff_ne]; omega
            have HQ2 := Lib.hid q2; clear q2
            go_wp2_with fail
            go_ret
            exact ⟨ret_bool (propB_f (fun h => HQ2.out (HP.out.1 h).2.1)).symm, hbw1⟩
      · by_cases e0 : cl = 0
        · subst e0
          have HP := Lib.hid (certP_0 n xss lb f s rs)
          by_cases q1 : lb = 0
          · have t1 : (lb == 0) = true := by rw [beq_iff_eq]; exact q1
            have HQ1 := Lib.hid q1; clear q1
            by_cases q2 : f.length + s.length = 0
            · have t0 : ((f.length : Int) + (s.length : Int) == 0) = true := by rw [beq_iff_eq]; omega
              have HQ2 := Lib.hid q2; clear q2
              go_wp2_with fail
              refine (impl_ranksOk n v _ xss rs w1 false ((HH.out.below hbw1).more hbw1.size) ((HR.out.below hbw1).more hbw1.size) HG.out).mono ?_
              rintro e u2 ⟨rfl, hb_u2⟩
              have hbu2 := bl_trans hbw1 hb_u2
              have HXu2 := Lib.hid (HXw1.out.below hb_u2 (by have := HZw1.out; omega))
              have HZu2 := Lib.hid (show w.heap.size + 2 ≤ u2.heap.size by have := hb_u2.size; have := HZw1.out; omega)
              obtain ⟨yu20, yu21, yu22, yu23, yu24, yu25, yu26⟩ := HXu2.out
              cases q5 : propB (RanksP false n xss rs) with
              | false =>
                go_wp2_with fail
                go_ret
                exact ⟨ret_bool (propB_f (fun h => propB_ff q5 (HP.out.1 h).2.2)).symm, hbu2⟩
              | true =>
                go_wp2_with fail
                go_ret
                exact ⟨ret_bool (propB_t (HP.out.2 ⟨HQ1.out, HQ2.out, propB_iff.1 q5⟩)).symm, hbu2⟩
            · have t0 : ((f.length : Int) + (s.length : Int) == 0) = false := by rw [beq_eq_false_iff_ne]; omega
              have HQ2 := Lib.hid q2; clear q2
              go_wp2_with fail
              go_ret
              exact ⟨ret_bool (propB_f (fun h => HQ2.out (HP.out.1 h).2.1)).symm, hbw1⟩
          · have t1 : (lb == 0) = false := by rw [beq_eq_false_iff_ne]; exact q1
            have HQ1 := Lib.hid q1; clear q1
            go_wp2_with fail
            go_ret
            exact ⟨ret_bool (propB_f (fun h => HQ1.out (HP.out.1 h).1)).symm, hbw1⟩
        · have d3 : (cl == 3) = false := by rw [beq_eq_false_iff_ne]; exact e3
          have d2 : (cl == 2) = false := by rw [beq_eq_false_iff_ne]; exact e2
          have d1 : (cl == 1) = false := by rw [beq_eq_false_iff_ne]; exact e1
          have d0 : (cl == 0) = false := by rw [beq_eq_false_iff_ne]; exact e0
          have HE := Lib.hid (And.intro e3 (And.intro e2 (And.intro e1 e0))); clear e3 e2 e1 e0
          go_wp2_with fail
          go_ret
          exact ⟨ret_bool (propB_f (fun h => by unfold certP at h; have := HE.out; omega)).symm, hbw1⟩
end Go.Proofs.YtjhljipehnmbnaaGreat
