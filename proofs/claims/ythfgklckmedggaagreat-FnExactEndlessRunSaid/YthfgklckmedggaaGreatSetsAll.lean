/-
  The reference's nuBit (a digit of a number) and l1Put (a number into a rising list).
  A list of lists of the call's own, while it grows. No program in sight, no condition.
  The reference's cvSets: the sets of enabled nodes that a daemon may choose.
-/
import Derived.Test.YthfgklckmedggaaGreatPlainPut
import Derived.Test.YthfgklckmedggaaGreatNetOwn
import Derived.Test.YthfgklckmedggaaGreatSpecA
import Derived.Test.YthfgklckmedggaaGreatNetNextV
namespace Go.Proofs.YthfgklckmedggaaGreat
section
open Go.RowKit
set_option linter.unusedVariables false
set_option linter.unusedSimpArgs false
def BitRel (m i : Nat) (w : World) (nv iv : Value) (wr : World) : Prop := w = wr ∧ ∃ k : Nat, k ≤ i ∧ nv = .int .i64 ((m / 2 ^ k : Nat) : Int) ∧ iv = .int .i64 ((i - k : Nat) : Int)
theorem spec_nuBit (m i : Nat) (w : World) (hm : m ≤ 2000000) (hi : i ≤ 100) :
    Calls Tryz.prog 108 #[.int .i64 (m : Int), .int .i64 (i : Int)] w fun e w' => e = .returned (.int .i64 ((m / 2 ^ i % 2 : Nat) : Int)) ∧ w = w' := by
  go_enter Tryz.func108, Tryz.ntmps108
  go_wp2_with fail
  go_loopw [0, 1] (fun nv iv wr => BitRel m i w nv iv wr) (fun _ iv _ => (intOf iv).toNat)
  case atStart => exact ⟨rfl, 0, Nat.zero_le _, by simp, rfl⟩
  case round =>
    obtain ⟨rfl, k, hk, rfl, rfl⟩ := hrel
    have hle : m / 2 ^ k ≤ m := Nat.div_le_self _ _
    by_cases hlt : k < i
    · have HD := Lib.hid (show m / 2 ^ (k + 1) = m / 2 ^ k / 2 by rw [Nat.pow_succ, Nat.div_div_eq_div_mul])
      have HJ := Lib.hid (show i - (k + 1) = i - k - 1 by omega)
      have hJ : 0 < i - k := by omega
      have hJ2 : i - k ≤ 100 := by omega
      generalize m / 2 ^ k = q at *
      generalize i - k = J at *
      have hjp : (0 : Int) < (J : Int) := by omega
      have hj1 : IntKind.i64.wrap ((J : Int) - 1) = ((J - 1 : Nat) : Int) := by rw [show (J : Int) - 1 = ((J - 1 : Nat) : Int) by omega]; exact IntWalk.i64_in _ (by omega)
      have hq : IntKind.i64.wrap ((q : Int).tdiv 2) = ((q / 2 : Nat) : Int) := by
        rw [Int.tdiv_eq_ediv_of_nonneg (by omega)]
        exact IntWalk.i64_in _ (by omega)
      go_wp2_with fail
      go_roundw
      case rel => exact ⟨rfl, k + 1, by omega, by rw [HD.out]; simp, by rw [HJ.out]⟩
      case measure => simp [intOf]; omega
    · obtain rfl : k = i := by omega
      have hk0 : ((k - k : Nat) : Int) = 0 := by omega
      rw [hk0]
      obtain ⟨q, hqq⟩ : ∃ q, q = m / 2 ^ k := ⟨_, rfl⟩
      rw [← hqq] at hle ⊢
      have HQ := Lib.hid hqq; clear hqq
      have hq : IntKind.i64.wrap ((q : Int).tmod 2) = ((q % 2 : Nat) : Int) := by
        rw [Int.tmod_eq_emod_of_nonneg (by omega)]
        exact IntWalk.i64_in _ (by omega)
      go_wp2_with fail
      go_ret
      exact ⟨ret_int (by rw [← HQ.out]; simp), rfl⟩
/-- What stands ahead of a number's place in a rising list. -/
def Less (l : List Int) (x : Int) (k : Nat) : Prop := ∀ (j : Nat) (y : Int), j < k → l[j]? = some y → y < x
theorem Less.next {l : List Int} {x y : Int} {k : Nat} (h : Less l x k) (hy : l[k]? = some y) (hl : y < x) : Less l x (k + 1) := fun j z hj hz => by
  by_cases e : j = k
  · subst e
    obtain rfl := Option.some.inj (hy.symm.trans hz)
    exact hl
  · exact h j z (by omega) hz
theorem put_end : ∀ {l : List Int} {x : Int}, Less l x l.length → putS l x = l ++ [x]
  | [], x, _ => rfl
  | y :: r, x, h => by
    unfold putS
    rw [if_pos (h 0 y (by simp) rfl), put_end fun j z hj hz => h (j + 1) z (by simpa using hj) (by simpa using hz)]
    rfl
theorem put_same : ∀ {l : List Int} {x : Int} {k : Nat}, Less l x k → l[k]? = some x → putS l x = l
  | [], x, k, _, h => by simp at h
  | y :: r, x, 0, _, h => by
    obtain rfl : y = x := by simpa using h
    unfold putS
    rw [if_neg (by omega), if_pos rfl]
  | y :: r, x, k + 1, h, hx => by
    unfold putS
    rw [if_pos (h 0 y (by omega) rfl), put_same (k := k) (fun j z hj hz => h (j + 1) z (by omega) (by simpa using hz)) (by simpa using hx)]
theorem put_mid : ∀ {l : List Int} {x y : Int} {k : Nat}, Less l x k → l[k]? = some y → x < y → putS l x = l.take k ++ [x] ++ l.drop k
  | [], x, y, k, _, h, _ => by simp at h
  | z :: r, x, y, 0, _, h, hlt => by
    obtain rfl : z = y := by simpa using h
    unfold putS
    rw [if_neg (by omega), if_neg (by omega)]
    rfl
  | z :: r, x, y, k + 1, h, hy, hlt => by
    unfold putS
    rw [if_pos (h 0 z (by omega) rfl), put_mid (k := k) (fun j u hj hu => h (j + 1) u (by omega) (by simpa using hu)) (by simpa using hy) hlt]
    rfl
def PutRel (l : List Int) (x : Int) (w : World) (kv : Value) (wr : World) : Prop := w = wr ∧ ∃ k : Nat, k ≤ l.length ∧ kv = .int .i64 k ∧ Less l x k
theorem own_sl {w : World} {base n : Nat} {e : TypeId} {v : Value} {vs : List Value} (h : w.ownsRow base e 1 v n vs) : ∃ A c, v = .slice A n c := by
  rcases h.2 with ⟨rfl, h0⟩ | ⟨g, cap, cur, rfl, -⟩
  · exact ⟨none, 0, by rw [h0]⟩
  · exact ⟨_, _, rfl⟩
theorem own_len {w : World} {base n : Nat} {v : Value} {xs : List Int} (h : w.ownsRow base 3 1 v n (xs.map intV)) : w.ownsRow base 3 1 v xs.length (xs.map intV) := by
  have : xs.length = n := by simpa using h.1
  rw [this]; exact h
theorem put_I64 {l : List Int} {x : Int} (h : ∀ y ∈ l, I64 y) (hx : I64 x) : ∀ y ∈ putS l x, I64 y := fun y hy => by
  rcases (putS_mem l x y).1 hy with rfl | hy
  · exact hx
  · exact h y hy
theorem own_one {w : World} {base n : Nat} {e : TypeId} {v : Value} {vs : List Value} (h : w.ownsRow base e 1 v (n + 1) vs) : ∃ g cap cur, v = .slice (some ⟨g, 0, none⟩) (n + 1) cap ∧ base ≤ g ∧ w.heap[g]? = some (.cells cur e (0, 0)) ∧ n + 1 ≤ cap ∧ cap ≤ maxLen ∧ cur.size = cap * 1 ∧ cur.toList.take ((n + 1) * 1) = vs := by
  rcases h.2 with ⟨rfl, h0⟩ | h2
  · omega
  · exact h2
set_option maxRecDepth 100000 in
set_option maxHeartbeats 1000000 in
theorem spec_l1Put (v : Value) (l : List Int) (x : Int) (w : World) (h : IntsR w w.heap.size v l) (hl : l.length ≤ 2000000) (hx : I64 x) (hnil : l = [] → v = .slice none 0 0) :
    Calls Tryz.prog 85 #[v, .int .i64 x] w fun e w' => ∃ u, e = .returned u ∧ (∃ A m c, u = .slice A m c) ∧ IntsR w' w'.heap.size u (putS l x) ∧ ((u = v ∧ x ∈ l) ∨ w'.ownsRow w.heap.size 3 1 u (putS l x).length ((putS l x).map intV)) ∧ Below w.heap.size w w' := by
  have h64 := h.2
  by_cases h0 : l = []
  · obtain rfl := hnil h0
    subst h0
    go_enter Tryz.func85, Tryz.ntmps85
    have hown := World.ownsRow_made (base := w.heap.size) (e := 3) (size := 1) w #[] 0 (Nat.le_refl _) (Nat.zero_le _) (by simp)
    have hb0 := bl_alloc (Below.refl w.heap.size w) (.cells #[] 3)
    obtain ⟨i, hi, hz0, hz1, hz2⟩ := info_parts intInfo
    have HR := Lib.hid (fun g n c m hc ty W => run_append_nil0 (P := Tryz.prog) W 23 ty 3 i Tryz.underlying23 hi g n c m hc)
    have HO := Lib.hid hown
    clear hi hz0 hz1 hz2
    go_wp2_with fail
    go_loopw [5] (fun kv wr => PutRel [] x w kv wr) (fun kv _ => 0)
    case atStart => exact ⟨rfl, 0, Nat.zero_le _, rfl, fun _ _ h => absurd h (by omega)⟩
    case round =>
      obtain ⟨rfl, k, hk, rfl, -⟩ := hrel
      obtain rfl : k = 0 := by simpa using hk
      go_wp2_with (first
        | (at_builtin; refine Lib.wpList_append_run _ rfl (.tmp 34) (.tmp 37) _ _ rfl _ _ rfl rfl _ _ (HR.out w.heap.size 0 0 _ (Nat.le_refl _) _ _) ?_)
        | (at_builtin; refine wpList_append1 (w.alloc (.cells #[] 3)) rfl (.tmp 39) (.tmp 41) 23 rfl w.heap.size 3 _ 8 Tryz.underlying23 intInfo rfl _ _ _ rfl _ rfl (by show Value.slice (some ⟨w.heap.size + 1, 0, none⟩) 1 1 = _; simp) HO.out (by unfold maxLen; omega) (by omega) (by simp) ?_; intro v2 w2 hown2 hbl2 hgr2 hlt2 hob2; obtain ⟨g2, c2, cur2, rfl, -, -, hc2, -, -, -⟩ := own_one hown2; have hb02 := hb0.trans hbl2; clear hgr2 hlt2 hob2)
        | (at_builtin; refine Lib.wpList_append_run _ rfl (.tmp 43) (.tmp 46) _ _ rfl _ _ rfl rfl _ _ (HR.out _ _ _ _ hc2 _ _) ?_))
      go_ret
      exact ⟨_, rfl, ⟨_, _, _, rfl⟩, own_intsR hown2 (fun y hy => by rcases List.mem_singleton.1 hy with rfl; exact hx), .inr hown2, hb02⟩
  · have HI := Lib.hid h
    obtain ⟨Al, cl, rfl, h1, h2, h3⟩ := h.open_
    unfold maxLen at h2
    have hlp : 0 < l.length := List.length_pos_iff.2 h0
    obtain ⟨ad, rfl, hb, hc⟩ := h3 hlp
    have HC := Lib.hid hc; clear hc h3 h hnil h0
    go_enter Tryz.func85, Tryz.ntmps85
    go_wp2_with fail
    go_loopw [5] (fun kv wr => PutRel l x w kv wr) (fun kv _ => l.length - (intOf kv).toNat)
    case atStart => exact ⟨rfl, 0, Nat.zero_le _, rfl, fun _ _ h => absurd h (by omega)⟩
    case round =>
      obtain ⟨rfl, k, hk, rfl, hless⟩ := hrel
      have HLS := Lib.hid hless; clear hless
      by_cases hlt : k < l.length
      · obtain ⟨y, hy⟩ : ∃ y, l[k]? = some y := ⟨_, List.getElem?_eq_getElem hlt⟩
        have hcy := HC.out k y hy
        have HY := Lib.hid hy; clear hy
        by_cases hyx : y < x
        · have HN := Lib.hid (HLS.out.next HY.out hyx)
          go_wp2_with fail
          go_roundw
          case rel => exact ⟨rfl, k + 1, by omega, by go_num, HN.out⟩
          case measure => simp [intOf]; omega
        · by_cases hxy : y = x
          · have kq : (y == x) = true := by simpa using hxy
            have HF := Lib.hid (show putS l x = l from put_same HLS.out (by rw [HY.out, hxy]))
            have HM := Lib.hid (show x ∈ l from hxy ▸ List.mem_of_getElem? HY.out)
            clear hxy
            go_wp2_with fail
            go_ret
            exact ⟨_, rfl, ⟨_, _, _, rfl⟩, by rw [HF.out]; exact HI.out, .inl ⟨rfl, HM.out⟩, Below.refl _ _⟩
          · have kq : (y == x) = false := by simpa using hxy
            have HF := Lib.hid (put_mid HLS.out HY.out (show x < y by omega))
            clear hxy
            have hne : ¬ cl = k := by omega
            have hown := World.ownsRow_made (base := w.heap.size) (e := 3) (size := 1) w #[] 0 (Nat.le_refl _) (Nat.zero_le _) (by simp)
            have hb0 := bl_alloc (Below.refl w.heap.size w) (.cells #[] 3)
            obtain ⟨i, hi, hz0, hz1, hz2⟩ := info_parts intInfo
            have HIF := Lib.hid hi; clear hi
            have Z0 := Lib.hid hz0; clear hz0
            have Z1 := Lib.hid hz1; clear hz1
            have Z2 := Lib.hid hz2; clear hz2
            have HO := Lib.hid hown; clear hown
            have HN1 := Lib.hid (show ∀ j u, ((l.take k).map intV)[j]? = some u → (w.alloc (.cells #[] 3)).cell? (ad.add j) = some u from fun j u hu => by
              rw [List.getElem?_map] at hu
              obtain ⟨z, hz, rfl⟩ := Option.map_eq_some_iff.1 hu
              exact Lib.cell?_alloc_some _ (HC.out j z (by rw [List.getElem?_take] at hz; split at hz; exact hz; cases hz)))
            have HN3 := Lib.hid (show ∀ W, Below w.heap.size w W → ∀ j u, ((l.drop k).map intV)[j]? = some u → W.cell? ((ad.add k).add j) = some u from fun W hW j u hu => by
              rw [List.getElem?_map, List.getElem?_drop] at hu
              obtain ⟨z, hz, rfl⟩ := Option.map_eq_some_iff.1 hu
              rw [Addr.add_add]
              exact (hW.cell (p := ad.add (k + j)) (by rw [block_add]; exact hb)).trans (HC.out _ z hz))
            have H1 := Lib.hid (show ∀ (zs : List Int), ∀ u ∈ zs.map intV, u.oneCell' = true from fun zs u hu => by
              obtain ⟨z, _, rfl⟩ := List.mem_map.1 hu
              rfl)
            have hl1 : ((l.take k).map intV).length = k * 1 := by rw [List.length_map, List.length_take]; omega
            have hl3 : ((l.drop k).map intV).length = (l.length - k) * 1 := by rw [List.length_map, List.length_drop]; omega
            have HL1 := Lib.hid hl1; clear hl1
            have HL3 := Lib.hid hl3; clear hl3
            go_wp2_with (first
              | (at_builtin; refine wpList_append_own_at _ rfl (.tmp 34) (.tmp 37) 23 rfl w.heap.size 3 i _ 1 8 Tryz.underlying23 HIF.out Z0.out Z1.out Z2.out rfl (by decide) _ _ _ rfl HO.out ad k _ ((l.take k).map intV) rfl HL1.out HN1.out (H1.out _) (by unfold maxLen; omega) (by omega) (by simp) ?_; intro v1 w1 hown1 hgrow1 hnil1 hat1; replace hown1 : w1.ownsRow w.heap.size 3 1 v1 k ((l.take k).map intV) := (by simpa using hown1); obtain ⟨A1, c1, rfl⟩ := own_sl hown1; have hbl1 := hb0.grown hgrow1 (by simp) (fun k hk => by have e := Option.some.inj (show some w.heap.size = some k from hk); omega); clear hgrow1 hnil1 hat1)
              | (at_builtin; refine wpList_append1 w1 rfl (.tmp 39) (.tmp 41) 23 rfl w.heap.size 3 _ 8 Tryz.underlying23 intInfo rfl _ _ _ rfl _ rfl rfl hown1 (by unfold maxLen; omega) (by omega) hbl1.size ?_; intro v2 w2 hown2 hbl2 hgr2 hlt2 hob2; obtain ⟨A2, c2, rfl⟩ := own_sl hown2; have hb02 := hbl1.trans hbl2; clear hgr2 hlt2 hob2)
              | (at_builtin; refine wpList_append_own_at _ rfl (.tmp 43) (.tmp 46) 23 rfl w.heap.size 3 i _ 1 8 Tryz.underlying23 HIF.out Z0.out Z1.out Z2.out rfl (by decide) _ _ _ rfl hown2 _ _ _ ((l.drop k).map intV) rfl HL3.out (HN3.out w2 hb02) (H1.out _) (by unfold maxLen; omega) (by omega) hb02.size ?_; intro v3 w3 hown3 hgrow3 hnil3 hat3))
            go_ret
            have hlt2 := hown2.lt
            refine ⟨_, rfl, (by obtain ⟨A3, c3, e3⟩ := own_sl hown3; exact ⟨_, _, _, e3⟩), own_intsR (by rw [HF.out]; simp only [List.map_append, List.map_cons, List.map_nil]; exact hown3) (put_I64 h64 hx), .inr (own_len (by rw [HF.out]; simp only [List.map_append, List.map_cons, List.map_nil]; exact hown3)), hb02.grown hgrow3 hb02.size (fun k hk => (hlt2 k hk).1)⟩
      · obtain rfl : k = l.length := by omega
        have HF := Lib.hid (put_end HLS.out)
        by_cases hce : cl = l.length
        · subst hce
          have hown := World.ownsRow_made (base := w.heap.size) (e := 3) (size := 1) w #[] 0 (Nat.le_refl _) (Nat.zero_le _) (by simp)
          have hb0 := bl_alloc (Below.refl w.heap.size w) (.cells #[] 3)
          obtain ⟨i, hi, hz0, hz1, hz2⟩ := info_parts intInfo
          have HIF := Lib.hid hi; clear hi
          have Z0 := Lib.hid hz0; clear hz0
          have Z1 := Lib.hid hz1; clear hz1
          have Z2 := Lib.hid hz2; clear hz2
          have HO := Lib.hid hown; clear hown
          have HN1 := Lib.hid (show ∀ j u, ((l.take l.length).map intV)[j]? = some u → (w.alloc (.cells #[] 3)).cell? (ad.add j) = some u from fun j u hu => by
            rw [List.getElem?_map] at hu
            obtain ⟨z, hz, rfl⟩ := Option.map_eq_some_iff.1 hu
            exact Lib.cell?_alloc_some _ (HC.out j z (by rw [List.getElem?_take] at hz; split at hz; exact hz; cases hz)))
          have HN3 := Lib.hid (show ∀ W, Below w.heap.size w W → ∀ j u, ((l.drop l.length).map intV)[j]? = some u → W.cell? ((ad.add l.length).add j) = some u from fun W hW j u hu => by
            rw [List.getElem?_map, List.getElem?_drop] at hu
            obtain ⟨z, hz, rfl⟩ := Option.map_eq_some_iff.1 hu
            rw [Addr.add_add]
            exact (hW.cell (p := ad.add (l.length + j)) (by rw [block_add]; exact hb)).trans (HC.out _ z hz))
          have H1 := Lib.hid (show ∀ (zs : List Int), ∀ u ∈ zs.map intV, u.oneCell' = true from fun zs u hu => by
            obtain ⟨z, _, rfl⟩ := List.mem_map.1 hu
            rfl)
          have hl1 : ((l.take l.length).map intV).length = l.length * 1 := by rw [List.length_map, List.length_take]; omega
          have hl3 : ((l.drop l.length).map intV).length = (l.length - l.length) * 1 := by rw [List.length_map, List.length_drop]; omega
          have HL1 := Lib.hid hl1; clear hl1
          have HL3 := Lib.hid hl3; clear hl3
          go_wp2_with (first
            | (at_builtin; refine wpList_append_own_at _ rfl (.tmp 34) (.tmp 37) 23 rfl w.heap.size 3 i _ 1 8 Tryz.underlying23 HIF.out Z0.out Z1.out Z2.out rfl (by decide) _ _ _ rfl HO.out ad l.length _ ((l.take l.length).map intV) rfl HL1.out HN1.out (H1.out _) (by unfold maxLen; omega) (by omega) (by simp) ?_; intro v1 w1 hown1 hgrow1 hnil1 hat1; replace hown1 : w1.ownsRow w.heap.size 3 1 v1 l.length ((l.take l.length).map intV) := (by simpa using hown1); obtain ⟨A1, c1, rfl⟩ := own_sl hown1; have hbl1 := hb0.grown hgrow1 (by simp) (fun k hk => by have e := Option.some.inj (show some w.heap.size = some k from hk); omega); clear hgrow1 hnil1 hat1)
            | (at_builtin; refine wpList_append1 w1 rfl (.tmp 39) (.tmp 41) 23 rfl w.heap.size 3 _ 8 Tryz.underlying23 intInfo rfl _ _ _ rfl _ rfl rfl hown1 (by unfold maxLen; omega) (by omega) hbl1.size ?_; intro v2 w2 hown2 hbl2 hgr2 hlt2 hob2; obtain ⟨A2, c2, rfl⟩ := own_sl hown2; have hb02 := hbl1.trans hbl2; clear hgr2 hlt2 hob2)
            | (at_builtin; refine wpList_append_own_at _ rfl (.tmp 43) (.tmp 46) 23 rfl w.heap.size 3 i _ 1 8 Tryz.underlying23 HIF.out Z0.out Z1.out Z2.out rfl (by decide) _ _ _ rfl hown2 _ _ _ [] rfl rfl (fun j u hj => by simp at hj) (fun u hu => by cases hu) (by unfold maxLen; omega) (by omega) hb02.size ?_; intro v3 w3 hown3 hgrow3 hnil3 hat3))
          go_ret
          have hlt2 := hown2.lt
          refine ⟨_, rfl, (by obtain ⟨A3, c3, e3⟩ := own_sl hown3; exact ⟨_, _, _, e3⟩), own_intsR (by have h := hown3; rw [List.take_length, List.append_nil] at h; rw [HF.out, List.map_append]; exact h) (put_I64 h64 hx), .inr (own_len (by have h := hown3; rw [List.take_length, List.append_nil] at h; rw [HF.out, List.map_append]; exact h)), hb02.grown hgrow3 hb02.size (fun k hk => (hlt2 k hk).1)⟩
        · skip
          have hown := World.ownsRow_made (base := w.heap.size) (e := 3) (size := 1) w #[] 0 (Nat.le_refl _) (Nat.zero_le _) (by simp)
          have hb0 := bl_alloc (Below.refl w.heap.size w) (.cells #[] 3)
          obtain ⟨i, hi, hz0, hz1, hz2⟩ := info_parts intInfo
          have HIF := Lib.hid hi; clear hi
          have Z0 := Lib.hid hz0; clear hz0
          have Z1 := Lib.hid hz1; clear hz1
          have Z2 := Lib.hid hz2; clear hz2
          have HO := Lib.hid hown; clear hown
          have HN1 := Lib.hid (show ∀ j u, ((l.take l.length).map intV)[j]? = some u → (w.alloc (.cells #[] 3)).cell? (ad.add j) = some u from fun j u hu => by
            rw [List.getElem?_map] at hu
            obtain ⟨z, hz, rfl⟩ := Option.map_eq_some_iff.1 hu
            exact Lib.cell?_alloc_some _ (HC.out j z (by rw [List.getElem?_take] at hz; split at hz; exact hz; cases hz)))
          have HN3 := Lib.hid (show ∀ W, Below w.heap.size w W → ∀ j u, ((l.drop l.length).map intV)[j]? = some u → W.cell? ((ad.add l.length).add j) = some u from fun W hW j u hu => by
            rw [List.getElem?_map, List.getElem?_drop] at hu
            obtain ⟨z, hz, rfl⟩ := Option.map_eq_some_iff.1 hu
            rw [Addr.add_add]
            exact (hW.cell (p := ad.add (l.length + j)) (by rw [block_add]; exact hb)).trans (HC.out _ z hz))
          have H1 := Lib.hid (show ∀ (zs : List Int), ∀ u ∈ zs.map intV, u.oneCell' = true from fun zs u hu => by
            obtain ⟨z, _, rfl⟩ := List.mem_map.1 hu
            rfl)
          have hl1 : ((l.take l.length).map intV).length = l.length * 1 := by rw [List.length_map, List.length_take]; omega
          have hl3 : ((l.drop l.length).map intV).length = (l.length - l.length) * 1 := by rw [List.length_map, List.length_drop]; omega
          have HL1 := Lib.hid hl1; clear hl1
          have HL3 := Lib.hid hl3; clear hl3
          go_wp2_with (first
            | (at_builtin; refine wpList_append_own_at _ rfl (.tmp 34) (.tmp 37) 23 rfl w.heap.size 3 i _ 1 8 Tryz.underlying23 HIF.out Z0.out Z1.out Z2.out rfl (by decide) _ _ _ rfl HO.out ad l.length _ ((l.take l.length).map intV) rfl HL1.out HN1.out (H1.out _) (by unfold maxLen; omega) (by omega) (by simp) ?_; intro v1 w1 hown1 hgrow1 hnil1 hat1; replace hown1 : w1.ownsRow w.heap.size 3 1 v1 l.length ((l.take l.length).map intV) := (by simpa using hown1); obtain ⟨A1, c1, rfl⟩ := own_sl hown1; have hbl1 := hb0.grown hgrow1 (by simp) (fun k hk => by have e := Option.some.inj (show some w.heap.size = some k from hk); omega); clear hgrow1 hnil1 hat1)
            | (at_builtin; refine wpList_append1 w1 rfl (.tmp 39) (.tmp 41) 23 rfl w.heap.size 3 _ 8 Tryz.underlying23 intInfo rfl _ _ _ rfl _ rfl rfl hown1 (by unfold maxLen; omega) (by omega) hbl1.size ?_; intro v2 w2 hown2 hbl2 hgr2 hlt2 hob2; obtain ⟨A2, c2, rfl⟩ := own_sl hown2; have hb02 := hbl1.trans hbl2; clear hgr2 hlt2 hob2)
            | (at_builtin; refine wpList_append_own_at _ rfl (.tmp 43) (.tmp 46) 23 rfl w.heap.size 3 i _ 1 8 Tryz.underlying23 HIF.out Z0.out Z1.out Z2.out rfl (by decide) _ _ _ rfl hown2 _ _ _ [] rfl rfl (fun j u hj => by simp at hj) (fun u hu => by cases hu) (by unfold maxLen; omega) (by omega) hb02.size ?_; intro v3 w3 hown3 hgrow3 hnil3 hat3))
          go_ret
          have hlt2 := hown2.lt
          refine ⟨_, rfl, (by obtain ⟨A3, c3, e3⟩ := own_sl hown3; exact ⟨_, _, _, e3⟩), own_intsR (by have h := hown3; rw [List.take_length, List.append_nil] at h; rw [HF.out, List.map_append]; exact h) (put_I64 h64 hx), .inr (own_len (by have h := hown3; rw [List.take_length, List.append_nil] at h; rw [HF.out, List.map_append]; exact h)), hb02.grown hgrow3 hb02.size (fun k hk => (hlt2 k hk).1)⟩
end
section
open Go.RowKit
set_option linter.unusedVariables false
set_option linter.unusedSimpArgs false
theorem own_ints {w : World} {base : Nat} {v : Value} {xs : List Int} {n : Nat} (h : w.ownsRow base 3 1 v n (xs.map intV)) (hx : ∀ x ∈ xs, I64 x) : ∃ bs, OwnInts w 3 v xs bs ∧ bs.Nodup ∧ ∀ b ∈ bs, base ≤ b ∧ b < w.heap.size := by
  obtain ⟨bs, h1, h2, h3⟩ := OwnRow.of_owns h
  exact ⟨bs, ⟨h1, hx⟩, h3, fun b hb => ⟨h2 b hb, h1.lt b hb⟩⟩
theorem OwnRow.of_owns' {w : World} {e : TypeId} {base n : Nat} {v : Value} {vs : List Value} (h : w.ownsRow base e 1 v n vs) : ∃ bs, OwnRow w e v vs bs ∧ (∀ b ∈ bs, v.ownBlock = some b ∧ base ≤ b) ∧ bs.Nodup := by
  have hl : vs.length = n := by have := h.1; omega
  rcases h.2 with ⟨rfl, hn⟩ | ⟨g, cap, cur, h1, h2, h3, h4, h5, h6, h7⟩
  · have : vs = [] := List.eq_nil_of_length_eq_zero (by omega)
    exact ⟨[], .inl ⟨this, rfl, none, 0, rfl, Nat.zero_le _⟩, (fun _ hb => by cases hb), List.nodup_nil⟩
  · refine ⟨[g], .inr ⟨g, cap, cur, by rw [hl]; exact h1, by omega, h5, h3, by omega, ?_, rfl⟩, fun b hb => ?_, by simp⟩
    · rw [hl]
      simpa using h7
    · obtain rfl : b = g := by simpa using hb
      exact ⟨by rw [h1]; rfl, h2⟩
/-- A list of lists of the call's own, while it grows. -/
def RowsSt (base : Nat) (w : World) (v : Value) (xss : List (List Int)) : Prop :=
  ∃ vs bs, w.ownsRow base 23 1 v xss.length vs ∧ OwnAll w 3 vs xss bs ∧ bs.Nodup ∧ (∀ b ∈ bs, base ≤ b ∧ b < w.heap.size ∧ v.ownBlock ≠ some b)
theorem RowsSt.nil (base : Nat) (w : World) : RowsSt base w (.slice none 0 0) [] := ⟨[], [], World.ownsRow_nil _ _ _ _, rfl, List.nodup_nil, fun _ h => by cases h⟩
theorem RowsSt.below {base : Nat} {w w' : World} {v : Value} {xss : List (List Int)} (h : RowsSt base w v xss) (hb : Below w.heap.size w w') : RowsSt base w' v xss := by
  obtain ⟨vs, bs, h1, h2, h3, h4⟩ := h
  have := hb.size
  exact ⟨vs, bs, kept_below h1 hb, h2.keep fun b hb' => hb.block b (h4 b hb').2.1, h3, fun b hb' => by have := h4 b hb'; exact ⟨this.1, by omega, this.2.2⟩⟩
theorem RowsSt.fin {base : Nat} {w : World} {v : Value} {xss : List (List Int)} (h : RowsSt base w v xss) : ∃ bs, OwnRows w 23 3 v xss bs ∧ bs.Nodup ∧ ∀ b ∈ bs, base ≤ b ∧ b < w.heap.size := by
  obtain ⟨vs, bs, h1, h2, h3, h4⟩ := h
  obtain ⟨b0, k1, k2, k3⟩ := OwnRow.of_owns' h1
  refine ⟨b0 ++ bs, ⟨vs, b0, bs, k1, h2, rfl⟩, ?_, fun b hb => ?_⟩
  · rw [List.nodup_append]
    exact ⟨k3, h3, fun a ha b hb e => (h4 b hb).2.2 (by rw [← e]; exact (k2 a ha).1)⟩
  · rcases List.mem_append.1 hb with h | h
    · exact ⟨(k2 b h).2, k1.lt b h⟩
    · have := h4 b h; exact ⟨this.1, this.2.1⟩
theorem RowsSt.isSlice {base : Nat} {w : World} {v : Value} {xss : List (List Int)} (h : RowsSt base w v xss) : ∃ A n c, v = .slice A n c := by
  obtain ⟨bs, h1, _⟩ := h.fin
  exact h1.isSlice
theorem RowsSt.step {base : Nat} {wr w1 : World} {v u : Value} {xss : List (List Int)} {xs : List Int} {b1 : List Nat} (h : RowsSt base wr v xss) (hbase : base ≤ wr.heap.size) (hb : Below wr.heap.size wr w1) (ho : OwnInts w1 3 u xs b1) (hn : b1.Nodup) (hr : ∀ b ∈ b1, wr.heap.size ≤ b ∧ b < w1.heap.size) :
    ∃ vs, w1.ownsRow base 23 1 v xss.length vs ∧ ∀ v' w2, w2.ownsRow base 23 1 v' (xss.length + 1) (vs ++ [u]) → w1.grownBy w2 v.ownBlock → (v'.ownBlock = v.ownBlock ∨ ∃ g, v'.ownBlock = some g ∧ w1.heap.size ≤ g ∧ g < w2.heap.size) → RowsSt base w2 v' (xss ++ [xs]) := by
  obtain ⟨vs, bs, h1, h2, h3, h4⟩ := h
  have hsz := hb.size
  have hlt := h1.lt
  refine ⟨vs, kept_below h1 hb, fun v' w2 k1 k2 k3 => ?_⟩
  have hsz2 := k2.size
  have hall := (h2.keep fun b hb' => hb.block b (h4 b hb').2.1).snoc ho
  have hin : ∀ b ∈ bs ++ b1, base ≤ b ∧ b < w1.heap.size ∧ v.ownBlock ≠ some b := by
    intro b hb'
    rcases List.mem_append.1 hb' with h | h
    · have := h4 b h; exact ⟨this.1, by omega, this.2.2⟩
    · have := hr b h
      refine ⟨by omega, by omega, fun e => ?_⟩
      have := hlt b e
      omega
  refine ⟨vs ++ [u], bs ++ b1, by simpa using k1, hall.keep fun b hb' => k2.block b (hin b hb').2.1 (fun e => (hin b hb').2.2 e.symm), ?_, fun b hb' => ?_⟩
  · rw [List.nodup_append]
    exact ⟨h3, hn, fun a ha b hb' e => by have := h4 a ha; have := hr b hb'; omega⟩
  · have h5 := hin b hb'
    refine ⟨h5.1, by omega, fun e => ?_⟩
    rcases k3 with k3 | ⟨g, k3, k4, _⟩
    · exact h5.2.2 (k3 ▸ e)
    · rw [k3] at e
      obtain rfl : g = b := by simpa using e
      omega
end
section
open Go.RowKit
set_option linter.unusedVariables false
set_option linter.unusedSimpArgs false
theorem ownInts_one {w : World} {x : Int} (hx : I64 x) : OwnInts (w.alloc (.cells #[.int .i64 x] 3)) 3 (.slice (some ⟨w.heap.size, 0, none⟩) 1 1) [x] [w.heap.size] :=
  ⟨.inr ⟨w.heap.size, 1, #[.int .i64 x], rfl, Nat.le_refl _, by unfold maxLen; omega, heap_alloc_new w _, rfl, rfl, rfl⟩, fun y hy => by rcases List.mem_singleton.1 hy with rfl; exact hx⟩
theorem rows_nil (w : World) : RowsR w w.heap.size (.slice none 0 0) [] := ⟨[], ⟨none, 0, rfl, Nat.le_refl _, Nat.zero_le _, fun h => absurd h (by simp)⟩, trivial⟩
theorem rows_one {w : World} {u : Value} {xs : List Int} (h : IntsR w w.heap.size u xs) : RowsR (w.alloc (.cells #[u] 23)) (w.alloc (.cells #[u] 23)).heap.size (.slice (some ⟨w.heap.size, 0, none⟩) 1 1) [xs] := by
  have hb := bl_alloc (Below.refl w.heap.size w) (.cells #[u] 23)
  refine ⟨[u], ⟨some ⟨w.heap.size, 0, none⟩, 1, rfl, Nat.le_refl _, by unfold maxLen; omega, fun _ => ⟨_, rfl, by simp, fun j v hv => ?_⟩⟩, ⟨(h.below hb).more hb.size, trivial⟩⟩
  exact cell_one_new w u _ j v hv
def CtRel (en : List Int) (w : World) (v i : Value) (wr : World) : Prop :=
  ∃ k : Nat, k ≤ en.length ∧ i = .int .i64 k ∧ RowsSt w.heap.size wr v ((en.take k).map fun x => [x]) ∧ Below w.heap.size w wr
def setsTo (en : List Int) (m : Nat) : List (List Int) := (List.range m).map fun j => pick en (j + 1)
def StRel (en : List Int) (N : Nat) (w : World) (v mv : Value) (wr : World) : Prop :=
  ∃ M m : Nat, M = m + 1 ∧ M ≤ N ∧ mv = .int .i64 (M : Int) ∧ RowsSt w.heap.size wr v (setsTo en m) ∧ Below w.heap.size w wr
def PkRel (en : List Int) (m : Nat) (wr : World) (v i : Value) (wq : World) : Prop :=
  ∃ j c : Nat, j ≤ en.length ∧ i = .int .i64 j ∧ c = (pickTo en m j).length ∧ wq.ownsRow wr.heap.size 3 1 v c ((pickTo en m j).map intV) ∧ Below wr.heap.size wr wq
theorem pickTo_I64 {en : List Int} {m j : Nat} (h : ∀ x ∈ en, I64 x) (hj : j ≤ en.length) : ∀ x ∈ pickTo en m j, I64 x := fun x hx => by
  unfold pickTo at hx
  obtain ⟨k, hk, rfl⟩ := List.mem_map.1 hx
  have := List.mem_range.1 (List.mem_filter.1 hk).1
  rw [List.getD_eq_getElem?_getD, List.getElem?_eq_getElem (by omega)]
  exact h _ (List.getElem_mem _)
set_option maxRecDepth 100000 in
set_option maxHeartbeats 1000000 in
theorem spec_cvSets (v : Value) (en : List Int) (d : Int) (w : World) (h : IntsR w w.heap.size v en) (hl : en.length ≤ 40) (h6 : d ≠ 1 → d ≠ 2 → en.length ≤ 6) :
    Calls Tryz.prog 83 #[v, .int .i64 d] w fun e w' => ∃ u, e = .returned u ∧ (∃ A m c, u = .slice A m c) ∧ RowsR w' w'.heap.size u (setsS en d) ∧ Below w.heap.size w w' := by
  have HI := Lib.hid h
  have h64 := h.2
  obtain ⟨Ae, ce, rfl, h1, h2, h3⟩ := h.open_
  unfold maxLen at h2
  clear h
  by_cases he : en = []
  · have HE := Lib.hid (show setsS en d = [] by unfold setsS; rw [if_pos he])
    have hl0 : en.length = 0 := by rw [he]; rfl
    have kq : (((en.length : Nat) : Int) == 0) = true := by rw [hl0]; rfl
    clear he h64
    go_enter Tryz.func83, Tryz.ntmps83
    go_wp2_with fail
    go_ret
    exact ⟨_, rfl, ⟨_, _, _, rfl⟩, by rw [HE.out]; exact rows_nil _, Below.refl _ _⟩
  have hpos : 0 < en.length := List.length_pos_iff.2 he
  have kq0 : (((en.length : Nat) : Int) == 0) = false := by rw [beq_eq_false_iff_ne]; omega
  by_cases hd2 : d = 2
  · subst hd2
    have HE := Lib.hid (show setsS en 2 = [en] by unfold setsS; rw [if_neg he, if_pos rfl])
    clear he
    go_enter Tryz.func83, Tryz.ntmps83
    go_wp2_with fail
    go_ret
    exact ⟨_, rfl, ⟨_, _, _, rfl⟩, by rw [HE.out]; exact rows_one HI.out, bl_alloc (Below.refl _ _) _⟩
  have kd2 : (d == 2) = false := by simpa using hd2
  obtain ⟨ad, rfl, hb, hc⟩ := h3 hpos
  have HC := Lib.hid hc; clear h3 hc
  have H64 := Lib.hid h64; clear h64
  by_cases hd1 : d = 1
  · subst hd1
    have HE := Lib.hid (show setsS en 1 = en.map fun x => [x] by unfold setsS; rw [if_neg he, if_neg (by omega), if_pos rfl])
    clear he
    go_enter Tryz.func83, Tryz.ntmps83
    go_wp2_with fail
    go_loopw [5, 7, 26] (fun v _ i wr => CtRel en w v i wr) (fun _ _ i _ => en.length - (intOf i).toNat)
    case atStart => exact ⟨0, Nat.zero_le _, rfl, RowsSt.nil _ _, Below.refl _ _⟩
    case round =>
      obtain ⟨k, hk, rfl, hst, hbl⟩ := hrel
      by_cases hlt : k < en.length
      · obtain ⟨x, hx⟩ : ∃ x, en[k]? = some x := ⟨_, List.getElem?_eq_getElem hlt⟩
        have hcx := (hbl.cell (p := ad.add k) (by rw [block_add]; exact hb)).trans (HC.out k x hx)
        have hx64 := H64.out x (List.mem_of_getElem? hx)
        have hb2 := bl_alloc (Below.refl wr.heap.size wr) (.cells #[.int .i64 x] 3)
        obtain ⟨vs, hown1, hstep⟩ := hst.step hbl.size hb2 (ownInts_one hx64) (by simp) (fun b hb => by rcases List.mem_singleton.1 hb with rfl; simp)
        have HST := Lib.hid hstep; clear hstep hst
        have HN := Lib.hid (show (en.take (k + 1)).map (fun x => [x]) = (en.take k).map (fun x => [x]) ++ [[x]] by
          obtain ⟨hk', e⟩ := List.getElem?_eq_some_iff.1 hx
          rw [List.take_succ_eq_append_getElem hk', List.map_append, e]; rfl)
        have hlen : ((en.take k).map fun x => [x]).length = k := by rw [List.length_map, List.length_take]; omega
        rw [hlen] at hown1 HST
        have hbl2 := bl_trans hbl hb2
        clear hlen hx
        go_wp2_with ((at_builtin; refine wpList_append1 (wr.alloc (.cells #[.int .i64 x] 3)) rfl (.tmp 30) (.tmp 33) 47 rfl w.heap.size 23 _ 24 Tryz.underlying47 sliceInfo rfl _ _ _ rfl _ rfl (by show Value.slice (some ⟨wr.heap.size + 1, 0, none⟩) 1 1 = _; simp) hown1 (by unfold maxLen; omega) (by omega) hbl2.size ?_; intro v' w' hown' hbl' hgr' hlt' hob'))
        go_roundw
        case rel => exact ⟨k + 1, by omega, by go_num, by rw [HN.out]; exact HST.out _ _ hown' hgr' hob', hbl2.trans hbl'⟩
        case measure => simp [intOf]; omega
      · have e1 : en.take k = en := List.take_of_length_le (by omega)
        rw [e1] at hst
        have HF := Lib.hid hst; clear hst e1
        obtain ⟨A5, m5, c5, rfl⟩ := HF.out.isSlice
        go_wp2_with fail
        go_ret
        obtain ⟨bs, k1, -, k3⟩ := HF.out.fin
        exact ⟨_, rfl, ⟨_, _, _, rfl⟩, by rw [HE.out]; exact k1.reads fun b hb => (k3 b hb).2, hbl⟩
  have kd1 : (d == 1) = false := by simpa using hd1
  have hl6 := h6 hd1 hd2
  have HE := Lib.hid (show setsS en d = setsTo en (2 ^ en.length - 1) by unfold setsS setsTo; rw [if_neg he, if_neg hd2, if_neg hd1])
  have hpw : 2 ^ en.length ≤ 64 := Nat.le_trans (Nat.pow_le_pow_right (by omega) hl6) (by omega)
  have hpw1 : 1 < 2 ^ en.length := Nat.one_lt_two_pow (by omega)
  have hwp : wrap64 ((2 : Int) ^ en.length) = ((2 ^ en.length : Nat) : Int) := by
    have h1 : (2 : Int) ^ en.length = ((2 ^ en.length : Nat) : Int) := by rw [Int.natCast_pow]; rfl
    rw [h1]
    exact IntWalk.wrap64_in _ (by omega)
  generalize 2 ^ en.length = N at *
  clear he
  go_enter Tryz.func83, Tryz.ntmps83
  go_wp2_with fail
  go_loopw [5, 8] (fun v mv wr => StRel en N w v mv wr) (fun _ mv _ => N - (intOf mv).toNat)
  case atStart => exact ⟨1, 0, rfl, by omega, rfl, RowsSt.nil _ _, Below.refl _ _⟩
  case round =>
    obtain ⟨M, m, hMm, hm, rfl, hst, hbl⟩ := hrel
    have HMM := Lib.hid hMm
    have hM1 : 1 ≤ M := by omega
    have hmM : m ≤ M := by omega
    clear hMm
    have HST := Lib.hid hst; clear hst
    have hbz := hbl.size
    by_cases hlt : M < N
    · have hltI : (M : Int) < (N : Int) := by omega
      go_wp2_with fail
      clear hwp
      obtain ⟨w1, rfl⟩ : ∃ z, z = wr := ⟨_, rfl⟩
      go_loopw [9, 10, 11, 47] (fun v _ _ i wq => PkRel en M w1 v i wq) (fun _ _ _ i _ => en.length - (intOf i).toNat)
      case atStart => exact ⟨0, 0, Nat.zero_le _, rfl, rfl, World.ownsRow_nil _ _ _ _, Below.refl _ _⟩
      case round =>
        obtain ⟨j, c, hj, rfl, hcl, hown, hbq⟩ := hrel
        have hcj := pickTo_len en M j
        have HCL := Lib.hid hcl
        replace hcj : c ≤ j := by omega
        clear hcl
        by_cases hjl : j < en.length
        · obtain ⟨x, hx⟩ : ∃ x, en[j]? = some x := ⟨_, List.getElem?_eq_getElem hjl⟩
          have hcx := ((bl_trans hbl hbq).cell (p := ad.add j) (by rw [block_add]; exact hb)).trans (HC.out j x hx)
          have J := Lib.hid (spec_nuBit M j wr (by omega) (by omega))
          have HTB := Lib.hid (Nat.testBit_eq_decide_div_mod_eq (x := M) (i := j))
          have HG := Lib.hid (show en.getD j 0 = x by rw [List.getD_eq_getElem?_getD, hx]; rfl)
          clear hx
          generalize M / 2 ^ j % 2 = b at *
          by_cases hb1 : b = 1
          · have kb : ((b : Int) == 1) = true := by rw [hb1]; rfl
            have HN := Lib.hid (show pickTo en M (j + 1) = pickTo en M j ++ [x] by rw [pickTo_succ, HTB.out, decide_eq_true hb1, if_pos rfl, HG.out])
            clear hb1
            go_wp2_with (first | (go_at_call 108; refine J.out.mono ?_; rintro e w' ⟨rfl, rfl⟩) | (at_builtin; refine wpList_append1 wr rfl (.tmp 56) (.tmp 58) 23 rfl w1.heap.size 3 _ 8 Tryz.underlying23 intInfo rfl _ _ _ rfl _ rfl rfl hown (by unfold maxLen; omega) (by omega) hbq.size ?_; intro v' w' hown' hbl' hgr' hlt' hob'))
            go_roundw
            case rel => exact ⟨j + 1, c + 1, by omega, by go_num, by rw [HN.out, List.length_append, HCL.out]; rfl, by rw [HN.out, List.map_append]; exact hown', hbq.trans hbl'⟩
            case measure => simp [intOf]; omega
          · have kb : ((b : Int) == 1) = false := by rw [beq_eq_false_iff_ne]; omega
            have HN := Lib.hid (show pickTo en M (j + 1) = pickTo en M j by rw [pickTo_succ, HTB.out, decide_eq_false hb1, if_neg (by simp), List.append_nil])
            clear hb1
            go_wp2_with (go_at_call 108; refine J.out.mono ?_; rintro e w' ⟨rfl, rfl⟩)
            go_roundw
            case rel => exact ⟨j + 1, c, by omega, by go_num, by rw [HN.out]; exact HCL.out, by rw [HN.out]; exact hown, hbq⟩
            case measure => simp [intOf]; omega
        · obtain rfl : j = en.length := by omega
          obtain ⟨bs, ho, hnd, hr⟩ := own_ints hown (pickTo_I64 H64.out (Nat.le_refl _))
          obtain ⟨A9, c9, rfl⟩ := own_sl hown
          obtain ⟨vs, hown1, hstep⟩ := HST.out.step hbz hbq ho hnd hr
          have HSP := Lib.hid hstep; clear hstep ho hnd hr
          have HN := Lib.hid (show setsTo en (m + 1) = setsTo en m ++ [pickTo en M en.length] by
            rw [HMM.out]
            unfold setsTo
            rw [List.range_succ, List.map_append]; rfl)
          have hlen : (setsTo en m).length = m := by unfold setsTo; rw [List.length_map, List.length_range]
          rw [hlen] at hown1 HSP
          have hbl2 := bl_trans hbl hbq
          clear hlen
          go_wp2_with ((at_builtin; refine wpList_append1 wr rfl (.tmp 61) (.tmp 63) 47 rfl w.heap.size 23 _ 24 Tryz.underlying47 sliceInfo rfl _ _ _ rfl _ rfl rfl hown1 (by unfold maxLen; omega) (by omega) hbl2.size ?_; intro v' w' hown' hbl' hgr' hlt' hob'))
          go_roundw
          case rel => exact ⟨M + 1, m + 1, by rw [HMM.out], by omega, by go_num, by rw [HN.out]; exact HSP.out _ _ hown' hgr' hob', hbl2.trans hbl'⟩
          case measure => simp [intOf]; omega
    · have hltI : ¬ (M : Int) < (N : Int) := by omega
      obtain ⟨A5, m5, c5, rfl⟩ := HST.out.isSlice
      have hmN : m = N - 1 := by have := HMM.out; omega
      have HM := Lib.hid hmN; clear hmN
      go_wp2_with fail
      go_ret
      obtain ⟨bs, k1, -, k3⟩ := HST.out.fin
      rw [HM.out] at k1
      exact ⟨_, rfl, ⟨_, _, _, rfl⟩, by rw [HE.out]; exact k1.reads fun b hb => (k3 b hb).2, hbl⟩
end
end Go.Proofs.YthfgklckmedggaaGreat
