/-
  A certificate of a walk problem that is accepted has the class of the problem. Plain facts; no program in sight, no condition.
  The certificate that is made of a walk problem is accepted. Plain facts; no program in sight, no condition.
  The certificate that is made of a walk problem has one of the accepted forms. Plain facts; no program in sight, no condition.
-/
import Derived.Test.YtjhljipehnmbnaaGreatCertB
import Derived.Test.YtjhljipehnmbnaaGreatPlainRk
import Derived.Test.YtjhljipehnmbnaaGreatCwIY
import Derived.Test.YtjhljipehnmbnaaGreatCwT9
import Derived.Test.YtjhljipehnmbnaaGreatPlainCert2
import Derived.Test.YtjhljipehnmbnaaGreatCwTS
import Derived.Test.YtjhljipehnmbnaaGreatCwT7
namespace Go.Proofs.YtjhljipehnmbnaaGreat
section
set_option linter.unusedVariables false
theorem wk_of_list {xss : List (List Int)} {l : List Int} (h : walkP xss l) (hn : ∀ x ∈ l, 0 ≤ x) : ∀ (k i : Nat) {a b : Int}, l[i]? = some a → l[i + k]? = some b → wk (hasArc xss) k a.toNat b.toNat
  | 0, i, a, b, ha, hb => by
    rw [Nat.add_zero, ha] at hb
    cases hb
    rfl
  | k + 1, i, a, b, ha, hb => by
    have hl := (List.getElem?_eq_some_iff.1 hb).1
    obtain ⟨c, hc⟩ : ∃ c, l[i + k]? = some c := ⟨_, List.getElem?_eq_getElem (by omega)⟩
    refine ⟨c.toNat, wk_of_list h hn k i ha hc, ?_⟩
    have h1 := h (i + k) c b hc (by rw [show i + k + 1 = i + (k + 1) by omega]; exact hb)
    have hc0 := hn c (List.mem_of_getElem? hc)
    have hb0 := hn b (List.mem_of_getElem? hb)
    unfold hasArc
    rw [Int.toNat_of_nonneg hc0, Int.toNat_of_nonneg hb0]
    exact h1
theorem closed_wk {n : Nat} {xss : List (List Int)} {l : List Int} {a : Int} (h : closedP n xss l a) : 1 ≤ l.length - 1 ∧ wk (hasArc xss) (l.length - 1) a.toNat a.toNat := by
  obtain ⟨h1, h2, h3, h4, h5⟩ := h
  have h6 : 2 ≤ (l.length : Int) := by unfold inB at h1; simp at h1; omega
  refine ⟨by omega, ?_⟩
  exact wk_of_list h5 (fun x hx => (allB_iff.1 h2 x hx).1) (l.length - 1) 0 h3 (by rw [Nat.zero_add]; exact h4)
theorem mates_of {xss : List (List Int)} {a k : Nat} (hk : 1 ≤ k) (h : wk (hasArc xss) k a a) : mates (hasArc xss) a a := ⟨⟨k, hk, h⟩, ⟨k, hk, h⟩⟩
/-- The period divides the length of every closed walk. -/
theorem per_dvd_walk {n : Nat} {xss : List (List Int)} (hg : Good n xss) {r a p : Nat} (hr : isRoot xss r) (ha : mates (hasArc xss) r a) (h : wk (hasArc xss) p a a) : perA n xss r ∣ p := by
  have hd := (perA_per hg r (perA n xss r)).1 (Nat.dvd_refl _)
  have hp := dF_pot hg r
  have h1 := hp.2 a ha
  have h2 := pot_walk hr.1 hp.1 hd _ _ ha (wk_add h1 h)
  have h3 : ((dF n xss r a + p : Nat) : Int) - (dF n xss r a : Int) = (p : Int) := by push_cast; omega
  rw [h3] at h2
  exact Int.natCast_dvd_natCast.1 h2
theorem class_3 {n : Nat} {xss : List (List Int)} (hg : Good n xss) {a : Nat} (h : hasArc xss a a) : classN n xss = 3 := by
  unfold classN
  rw [if_pos (propB_t ⟨a, (arc_lt hg h).1, h⟩)]
theorem no_loop {n : Nat} {xss : List (List Int)} (h : ∀ a, ¬ hasArc xss a a) : ¬ propB (∃ a, a < n ∧ hasArc xss a a) = true := by
  rw [propB_iff]
  rintro ⟨a, _, h1⟩
  exact h a h1
theorem class_2 {n : Nat} {xss : List (List Int)} (hg : Good n xss) (hno : ∀ a, ¬ hasArc xss a a) {a p q : Nat} (hp1 : 1 ≤ p) (hp : wk (hasArc xss) p a a) (hq : wk (hasArc xss) q a a) (hpq : Nat.gcd p q = 1) : classN n xss = 2 := by
  have hn := good_n hg
  have hm := mates_of hp1 hp
  obtain ⟨r, hr, hra⟩ := root_ex hg hm
  have h1 : perA n xss r = 1 := by
    have := Nat.dvd_gcd (per_dvd_walk hg hr hra hp) (per_dvd_walk hg hr hra hq)
    rw [hpq] at this
    exact Nat.dvd_one.1 this
  have hf : a ∈ flexL n xss := mem_lsP.2 ⟨by have := (rc_lt (fun x y => arc_lt hg) hra.1).2; omega, r, hr, hra, h1⟩
  have hl : 0 < (flexL n xss).length := List.length_pos_of_mem hf
  unfold classN
  rw [if_neg (no_loop hno), if_pos hl]
/-- Ranks along a walk. -/
theorem ranks_walk {n : Nat} {xss rs : List (List Int)} (hg : Good n xss) (h : RanksP true n xss rs) : ∀ {k a b : Nat}, wk (hasArc xss) k a b →
    (rs.getD a []).getD 0 0 ≤ (rs.getD b []).getD 0 0 ∧ ((rs.getD a []).getD 0 0 = (rs.getD b []).getD 0 0 → (rs.getD a []).getD 1 0 = (rs.getD b []).getD 1 0 ∧ (1 ≤ k → 2 ≤ (rs.getD a []).getD 1 0) ∧ (rs.getD a []).getD 1 0 ∣ (rs.getD b []).getD 2 0 - (rs.getD a []).getD 2 0 - k)
  | 0, a, b, hw => by
    cases (show a = b from hw)
    refine ⟨Int.le_refl _, fun _ => ⟨rfl, fun h => by omega, ?_⟩⟩
    simp
  | k + 1, a, b, hw => by
    obtain ⟨c, h1, h2⟩ := hw
    obtain ⟨i1, i2⟩ := ranks_walk hg h h1
    obtain ⟨j, hj⟩ := List.mem_iff_getElem?.1 h2
    have ha := h.2.2 j c b (List.getElem?_eq_some_iff.1 hj).1 hj
    rcases ha with hu | ⟨-, e0, e1, e2, e3⟩
    · have hu' : (rs.getD c []).getD 0 0 < (rs.getD b []).getD 0 0 := hu
      exact ⟨by omega, fun e => by omega⟩
    · refine ⟨by omega, fun e => ?_⟩
      obtain ⟨k1, k2, k3⟩ := i2 (by omega)
      refine ⟨by omega, fun _ => by omega, ?_⟩
      have h4 : (rs.getD c []).getD 1 0 ∣ (rs.getD b []).getD 2 0 - (rs.getD c []).getD 2 0 - 1 := Int.dvd_of_tmod_eq_zero e3
      rw [← k1] at h4
      have := Int.dvd_add k3 h4
      have e5 : (rs.getD c []).getD 2 0 - (rs.getD a []).getD 2 0 - (k : Int) + ((rs.getD b []).getD 2 0 - (rs.getD c []).getD 2 0 - 1) = (rs.getD b []).getD 2 0 - (rs.getD a []).getD 2 0 - ((k + 1 : Nat) : Int) := by push_cast; omega
      rwa [e5] at this
theorem ranks_closed {n : Nat} {xss rs : List (List Int)} (hg : Good n xss) (h : RanksP true n xss rs) {k a : Nat} (hk : 1 ≤ k) (hw : wk (hasArc xss) k a a) : ∃ p : Int, p = (rs.getD a []).getD 1 0 ∧ 2 ≤ p ∧ p ∣ (k : Int) := by
  obtain ⟨_, h3⟩ := ranks_walk hg h hw
  obtain ⟨_, h4, h5⟩ := h3 rfl
  refine ⟨_, rfl, h4 hk, ?_⟩
  rw [show (rs.getD a []).getD 2 0 - (rs.getD a []).getD 2 0 - (k : Int) = -(k : Int) by omega] at h5
  exact (Int.dvd_neg).1 h5
theorem two_dvd {p k : Int} (h2 : 2 ≤ p) (h : p ∣ k) (h' : p ∣ k + 1) : False := by
  have h3 := Int.dvd_sub h' h
  rw [show k + 1 - k = 1 by omega] at h3
  have := Int.le_of_dvd (by omega) h3
  omega
theorem class_1 {n : Nat} {xss rs : List (List Int)} (hg : Good n xss) (h : RanksP true n xss rs) {a p : Nat} (hp1 : 1 ≤ p) (hp : wk (hasArc xss) p a a) : classN n xss = 1 := by
  have hn := good_n hg
  have hno : ∀ b, ¬ hasArc xss b b := fun b hb => by
    obtain ⟨q, _, h2, h3⟩ := ranks_closed hg h (Nat.le_refl 1) (wk_one hb)
    have := Int.le_of_dvd (by omega) h3
    omega
  have hfl : ¬ 0 < (flexL n xss).length := fun hl => by
    obtain ⟨b, hb⟩ := List.exists_mem_of_length_pos hl
    obtain ⟨_, r, hr, hrb, h1⟩ := mem_lsP.1 hb
    have hper := perA_per hg r
    rw [h1] at hper
    have hall := fun k hk => flex_all (fun x y => arc_lt hg) hr.1 hrb (dF_pot hg r) hper k hk
    have hnn : 1 ≤ n * n := Nat.mul_pos hn.1 hn.1
    obtain ⟨q, e1, h2, h3⟩ := ranks_closed hg h hnn (hall (n * n) (Nat.le_refl _))
    obtain ⟨q', e2, _, h4⟩ := ranks_closed hg h (by omega) (hall (n * n + 1) (by omega))
    subst e1
    subst e2
    exact two_dvd h2 h3 (by simpa using h4)
  obtain ⟨r, hr, hra⟩ := root_ex hg (mates_of hp1 hp)
  have hrt : 0 < (roots xss n).length := List.length_pos_of_mem (mem_lsTo.2 ⟨(rc_lt (fun x y => arc_lt hg) hra.1).1, hr⟩)
  unfold classN
  rw [if_neg (no_loop hno), if_neg hfl, if_pos hrt]
theorem ranks_up {n : Nat} {xss rs : List (List Int)} (h : RanksP false n xss rs) : ∀ {k a b : Nat}, 1 ≤ k → wk (hasArc xss) k a b → (rs.getD a []).getD 0 0 < (rs.getD b []).getD 0 0
  | k + 1, a, b, _, hw => by
    obtain ⟨c, h1, h2⟩ := hw
    obtain ⟨j, hj⟩ := List.mem_iff_getElem?.1 h2
    have ha : (rs.getD c []).getD 0 0 < (rs.getD b []).getD 0 0 := by
      rcases h.2.2 j c b (List.getElem?_eq_some_iff.1 hj).1 hj with hu | ⟨hf, _⟩
      · exact hu
      · cases hf
    rcases Nat.eq_zero_or_pos k with rfl | hk
    · cases (show a = c from h1)
      exact ha
    · have := ranks_up h hk h1
      omega
theorem class_0 {n : Nat} {xss rs : List (List Int)} (hg : Good n xss) (h : RanksP false n xss rs) : classN n xss = 0 := by
  have hno : ∀ b, ¬ mates (hasArc xss) b b := fun b hb => by
    obtain ⟨k, hk, hw⟩ := hb.1
    have := ranks_up h hk hw
    omega
  have hfl : ¬ 0 < (flexL n xss).length := fun hl => by
    obtain ⟨b, hb⟩ := List.exists_mem_of_length_pos hl
    obtain ⟨_, r, hr, _, _⟩ := mem_lsP.1 hb
    exact hno r hr.1
  have hrt : ¬ 0 < (roots xss n).length := fun hl => by
    obtain ⟨b, hb⟩ := List.exists_mem_of_length_pos hl
    exact hno b (mem_lsTo.1 hb).2.1
  unfold classN
  rw [if_neg (no_loop fun a ha => hno a (mates_of (Nat.le_refl 1) (wk_one ha))), if_neg hfl, if_neg hrt]
/-- What is accepted has the class of the problem. -/
theorem accepted_class {n : Nat} {xss : List (List Int)} (hg : Good n xss) {cl lb : Int} {f s : List Int} {rs : List (List Int)} (h : certP n xss cl lb f s rs) : cl = classN n xss := by
  rcases h with ⟨rfl, _, _, h⟩ | ⟨rfl, _, _, h1, h2, h3, h4⟩ | ⟨rfl, _, _, h1, h2⟩ | ⟨rfl, _, _, h⟩
  · rw [class_3 hg h]; rfl
  · rw [class_2 hg h1 (closed_wk h2).1 (closed_wk h2).2 (closed_wk h3).2 h4]; rfl
  · rw [class_1 hg h2 (closed_wk h1).1 (closed_wk h1).2]; rfl
  · rw [class_0 hg h]; rfl
end
section
set_option linter.unusedVariables false
theorem ls_mono {p q : Nat → Prop} : ∀ n, (∀ b, b < n → p b → q b) → (lsTo p n).length ≤ (lsTo q n).length
  | 0, _ => Nat.le_refl _
  | n + 1, h => by
    have ih := ls_mono n fun b hb => h b (by omega)
    by_cases hp : p n
    · rw [lsTo_t hp, lsTo_t (h n (Nat.lt_succ_self n) hp), List.length_append, List.length_append]
      simp
      exact ih
    · rw [lsTo_f hp]
      by_cases hq : q n
      · rw [lsTo_t hq, List.length_append]; omega
      · rw [lsTo_f hq]; exact ih
theorem ls_strict {p q : Nat → Prop} : ∀ n, (∀ b, b < n → p b → q b) → (∃ b, b < n ∧ q b ∧ ¬ p b) → (lsTo p n).length < (lsTo q n).length
  | 0, _, ⟨b, hb, _⟩ => by omega
  | n + 1, h, ⟨b, hb, hq, hp⟩ => by
    by_cases e : b = n
    · subst e
      have := ls_mono b fun c hc => h c (by omega)
      rw [lsTo_f hp, lsTo_t hq, List.length_append]
      simp
      omega
    · have ih := ls_strict n (fun c hc => h c (by omega)) ⟨b, by omega, hq, hp⟩
      by_cases hp : p n
      · rw [lsTo_t hp, lsTo_t (h n (Nat.lt_succ_self n) hp), List.length_append, List.length_append]
        simp
        exact ih
      · rw [lsTo_f hp]
        by_cases hq : q n
        · rw [lsTo_t hq, List.length_append]; omega
        · rw [lsTo_f hq]; exact ih
theorem un_sub {xss : List (List Int)} {x y c : Nat} (h : hasArc xss x y) (hc : unP xss x c) : unP xss y c := by
  refine ⟨fun e => hc.2 (e ▸ rc_one h), fun h2 => hc.2 (rc_trans (rc_one h) h2)⟩
theorem rk_arc {n : Nat} {xss : List (List Int)} (hg : Good n xss) {x y : Nat} (h : hasArc xss x y) (hr : ¬ rc (hasArc xss) y x) : rkN n xss x < rkN n xss y := by
  obtain ⟨hx, hy⟩ := arc_lt hg h
  rw [← rk_count hg hx, ← rk_count hg hy]
  exact ls_strict n (fun c _ hc => un_sub h hc) ⟨x, hx, ⟨fun e => hr (e ▸ rc_one (e ▸ h)), hr⟩, fun hc => hc.1 rfl⟩
theorem rk_same {n : Nat} {xss : List (List Int)} (hg : Good n xss) {x y : Nat} (h : mates (hasArc xss) x y) (hx : x < n) (hy : y < n) : rkN n xss x = rkN n xss y := by
  have h1 : ∀ {a b : Nat}, mates (hasArc xss) a b → ∀ c, unP xss a c → unP xss b c := fun hm c hc => ⟨fun e => hc.2 (e ▸ hm.1), fun h2 => hc.2 (rc_trans hm.1 h2)⟩
  rw [← rk_count hg hx, ← rk_count hg hy]
  have h2 := ls_mono n fun c _ hc => h1 h c hc
  have h3 := ls_mono n fun c _ hc => h1 h.symm c hc
  omega
theorem rks_row {n : Nat} {xss : List (List Int)} {x : Nat} (hx : x < n) : (rksL n xss).getD x [] = [fR n xss (catL xss (roots xss n)) x 0, fR n xss (catL xss (roots xss n)) x 1, fR n xss (catL xss (roots xss n)) x 2] := by
  unfold rksL
  rw [List.getD_eq_getElem?_getD, List.getElem?_map, List.getElem?_range hx]
  rfl
theorem fR_mate {n : Nat} {xss : List (List Int)} (hg : Good n xss) {r x : Nat} (hr : isRoot xss r) (hx : mates (hasArc xss) r x) : fR n xss (catL xss (roots xss n)) x 1 = (perA n xss r : Int) ∧ fR n xss (catL xss (roots xss n)) x 2 = ((dF n xss r x % perA n xss r : Nat) : Int) := by
  have hm : (catL xss (roots xss n)).contains x = true := by
    rw [List.contains_iff_mem]
    exact (cat_mem hg).2 hx.symm.self
  have he := rootN_eq hg hr hx
  unfold fR
  rw [if_neg (by omega), if_pos hm, if_pos rfl, if_neg (by omega), if_pos hm, if_neg (by omega), he]
  exact ⟨rfl, rfl⟩
theorem ranks_made {n : Nat} {xss : List (List Int)} (hg : Good n xss) (ar : Bool) (hper : ar = true → ∀ r, isRoot xss r → 2 ≤ perA n xss r) (hno : ar = false → ∀ a, ¬ mates (hasArc xss) a a) : RanksP ar n xss (rksL n xss) := by
  have hn := good_n hg
  refine ⟨by simp [rksL], fun i r hi hr => ?_, fun i x y hi hxy => ?_⟩
  · unfold rksL at hr
    rw [List.getElem?_map] at hr
    obtain ⟨a, _, rfl⟩ := Option.map_eq_some_iff.1 hr
    refine ⟨by simp, allB_iff.2 fun z hz => ?_⟩
    obtain ⟨b, _, rfl⟩ := List.mem_map.1 hz
    have := fR_bd n xss (catL xss (roots xss n)) a b
    omega
  · have h : hasArc xss x y := List.mem_of_getElem? hxy
    obtain ⟨hx, hy⟩ := arc_lt hg h
    unfold arcR upR aroundR
    rw [rks_row hx, rks_row hy]
    have e0 : ∀ a, fR n xss (catL xss (roots xss n)) a 0 = (rkN n xss a : Int) := fun a => by unfold fR; rw [if_pos rfl]
    by_cases hr : rc (hasArc xss) y x
    · right
      have hm : mates (hasArc xss) x y := ⟨rc_one h, hr⟩
      have har : ar = true := by
        cases ar with
        | true => rfl
        | false => exact absurd hm.self (hno rfl x)
      obtain ⟨r, hrt, hrx⟩ := root_ex hg hm.self
      have hry := hrx.trans hm
      obtain ⟨x1, x2⟩ := fR_mate hg hrt hrx
      obtain ⟨y1, y2⟩ := fR_mate hg hrt hry
      have hp := hper har r hrt
      refine ⟨har, ?_⟩
      simp only [List.getD_cons_zero, List.getD_cons_succ, e0, x1, x2, y1, y2]
      refine ⟨by rw [rk_same hg hm hx hy], trivial, by omega, ?_⟩
      have hd := (perA_per hg r (perA n xss r)).1 (Nat.dvd_refl _) x y h hrx hry
      unfold dft at hd
      apply Int.tmod_eq_zero_of_dvd
      generalize perA n xss r = p at *
      have q1 := Int.emod_add_mul_ediv (dF n xss r x : Int) (p : Int)
      have q2 := Int.emod_add_mul_ediv (dF n xss r y : Int) (p : Int)
      have d1 : (p : Int) ∣ (dF n xss r x : Int) - ((dF n xss r x % p : Nat) : Int) := ⟨(dF n xss r x : Int) / p, by push_cast; omega⟩
      have d2 : (p : Int) ∣ (dF n xss r y : Int) - ((dF n xss r y % p : Nat) : Int) := ⟨(dF n xss r y : Int) / p, by push_cast; omega⟩
      have d3 := Int.dvd_sub (Int.dvd_sub d1 d2) hd
      have e : (dF n xss r x : Int) - ((dF n xss r x % p : Nat) : Int) - ((dF n xss r y : Int) - ((dF n xss r y % p : Nat) : Int)) - ((dF n xss r x : Int) + 1 - (dF n xss r y : Int)) = ((dF n xss r y % p : Nat) : Int) - ((dF n xss r x % p : Nat) : Int) - 1 := by omega
      rwa [e] at d3
    · left
      simp only [List.getD_cons_zero, e0]
      have := rk_arc hg h hr
      omega
end
section
set_option linter.unusedVariables false
theorem wb_closed {n : Nat} {xss : List (List Int)} (hg : Good n xss) {a f : Nat} (ha : a < n) (h1 : 1 ≤ f) (hf : f ≤ 199) (h : wk (hasArc xss) f a a) : closedP n xss (natsI (wbL xss a a f)) (a : Int) := by
  have hlen : (natsI (wbL xss a a f)).length = f + 1 := by rw [natsI_len, wb_t h, lex_len]
  refine ⟨inB_t (by rw [hlen]; omega), allB_iff.2 fun x hx => ?_, ?_, ?_, fun i x y hx hy => ?_⟩
  · obtain ⟨y, hy, rfl⟩ := List.mem_map.1 hx
    have := wb_lt hg ha y hy
    omega
  · exact natsI_at (by rw [wb_t h]; exact lex_zero _ _ _ _)
  · rw [hlen]
    obtain ⟨x, hx⟩ : ∃ x, (lexW xss a f a)[f]? = some x := ⟨_, List.getElem?_eq_getElem (by rw [lex_len]; omega)⟩
    have := (lex_next hg h hx).1
    rw [Nat.sub_self] at this
    cases (show x = a from this)
    exact natsI_at (by rw [wb_t h]; exact hx)
  · obtain ⟨u, hu, rfl⟩ := natsI_of hx
    obtain ⟨z, hz, rfl⟩ := natsI_of hy
    rw [wb_t h] at hu hz
    have hl := (List.getElem?_eq_some_iff.1 hz).1
    rw [lex_len] at hl
    obtain ⟨k1, k2⟩ := lex_next hg h hu
    have k3 := k2 (by omega)
    rw [hz] at k3
    cases k3
    exact (onL_head hg (show wk (hasArc xss) (f - 1 - i + 1) u a by rw [show f - 1 - i + 1 = f - i by omega]; exact k1)).2.1
theorem gcd_next (f : Nat) : Nat.gcd f (f + 1) = 1 := by
  have h1 : Nat.gcd f (f + 1) ∣ f := Nat.gcd_dvd_left _ _
  have h2 : Nat.gcd f (f + 1) ∣ f + 1 := Nat.gcd_dvd_right _ _
  exact Nat.dvd_one.1 ((Nat.dvd_add_right h1).1 h2)
theorem flex_small {n : Nat} {xss : List (List Int)} (hg : Good n xss) {a : Nat} (h : a ∈ flexL n xss) : flexN xss a 288 ≤ 146 := by
  have hn := good_n hg
  have hnn : n * n ≤ 12 * 12 := Nat.mul_le_mul hn.2 hn.2
  rw [flex_down hg h]
  have := down_le (loopB xss a) (n * n + 1)
  omega
theorem made_ok {n : Nat} {xss : List (List Int)} (hg : Good n xss) : certP n xss (classN n xss) (cwLb n xss) (natsI (cwF n xss)) (natsI (cwS n xss)) (cwR n xss) := by
  have hn := good_n hg
  have hno : classN n xss ≠ 3 → ∀ a, ¬ hasArc xss a a := fun h a ha => h (class_3 hg ha)
  rcases class_cases n xss with ⟨hc, a, ha, haa⟩ | ⟨hc, hfl⟩ | ⟨hc, hrt⟩ | hc
  · left
    obtain ⟨b, hb1, hb2, hb3⟩ := least (fun x => hasArc xss x x) a haa
    have hlb : cwLb n xss = b := by unfold cwLb; rw [if_pos hc]; exact loop_head hg hb2 hb3
    have hbn := (arc_lt hg hb2).1
    rw [hc, hlb]
    refine ⟨rfl, inB_t (by omega), ?_, hb2⟩
    unfold cwF cwS cwR
    rw [hc]
    rfl
  · right; left
    have hlb : cwLb n xss = (flexL n xss).headD 0 := by unfold cwLb; rw [hc]; rfl
    have hm := mem_headD hfl
    obtain ⟨l, hl⟩ : ∃ l, l = (flexL n xss).headD 0 := ⟨_, rfl⟩
    rw [← hl] at hlb hm
    have hln := flex_lt hg hm
    have hF : cwF n xss = wbL xss l l (flexN xss l 288) := by unfold cwF; rw [if_pos hc, hlb]
    have hS : cwS n xss = wbL xss l l (flexN xss l 288 + 1) := by unfold cwS; rw [if_pos hc, hlb]
    have hR : cwR n xss = [] := by unfold cwR; rw [hc]; rfl
    have hsm := flex_small hg hm
    have hps : 1 ≤ flexN xss l 288 := down_pos _ _
    have hup : ∀ k, flexN xss l 288 ≤ k → k ≤ 288 → wk (hasArc xss) k l l := fun k h1 h2 => propB_iff.1 (down_up _ _ k h1 h2)
    have w1 := hup (flexN xss l 288) (Nat.le_refl _) (by omega)
    have w2 := hup (flexN xss l 288 + 1) (by omega) (by omega)
    rw [hc, hlb, hF, hS, hR]
    refine ⟨rfl, inB_t (by omega), rfl, hno (by omega), wb_closed hg hln hps (by omega) w1, wb_closed hg hln (by omega) (by omega) w2, ?_⟩
    rw [natsI_len, natsI_len, wb_t w1, wb_t w2, lex_len, lex_len]
    exact gcd_next _
  · right; right; left
    have hlb : cwLb n xss = (roots xss n).headD 0 := by unfold cwLb; rw [hc]; rfl
    have hroot : isRoot xss ((roots xss n).headD 0) := (mem_lsTo.1 (mem_headD hrt)).2
    obtain ⟨r, hr⟩ : ∃ r, r = (roots xss n).headD 0 := ⟨_, rfl⟩
    rw [← hr] at hlb hroot
    have hrn := root_lt hg hroot
    obtain ⟨k0, hsh, hk0⟩ := short_of hg hroot.1
    have hF : cwF n xss = wbL xss r r k0 := by unfold cwF; rw [hc, hlb, shortK_eq hsh]; rfl
    have hS : cwS n xss = [] := by unfold cwS; rw [hc]; rfl
    have hR : cwR n xss = rksL n xss := by unfold cwR; rw [if_pos (.inr hc)]
    have hfl : ¬ 0 < (flexL n xss).length := fun h => by
      have : classN n xss = 2 := by unfold classN; rw [if_neg (no_loop (hno (by omega))), if_pos h]
      omega
    rw [hc, hlb, hF, hS, hR]
    refine ⟨rfl, inB_t (by omega), rfl, wb_closed hg hrn hsh.1 (by omega) hsh.2.1, ranks_made hg true (fun _ s hs => ?_) (fun h => by cases h)⟩
    have h1 := perA_pos hg hs.1
    rcases Nat.lt_or_ge 1 (perA n xss s) with h | h
    · exact h
    · exact absurd (List.length_pos_of_mem (mem_lsP.2 ⟨by have := root_lt hg hs; omega, s, hs, hs.1, by omega⟩)) hfl
  · right; right; right
    have hlb : cwLb n xss = 0 := by unfold cwLb; rw [hc]; rfl
    have hF : cwF n xss = [] := by unfold cwF; rw [hc]; rfl
    have hS : cwS n xss = [] := by unfold cwS; rw [hc]; rfl
    have hR : cwR n xss = rksL n xss := by unfold cwR; rw [if_pos (.inl hc)]
    rw [hc, hlb, hF, hS, hR]
    refine ⟨rfl, rfl, rfl, ranks_made hg false (fun h => by cases h) fun _ a ha => ?_⟩
    obtain ⟨r, hr, hra⟩ := root_ex hg ha
    have hrt : 0 < (roots xss n).length := List.length_pos_of_mem (mem_lsTo.2 ⟨root_lt hg hr, hr⟩)
    have hlp := hno (by omega)
    unfold classN at hc
    rw [if_neg (no_loop hlp)] at hc
    split at hc
    · omega
    · first | omega | (rw [if_pos hrt] at hc; omega)
end
end Go.Proofs.YtjhljipehnmbnaaGreat
