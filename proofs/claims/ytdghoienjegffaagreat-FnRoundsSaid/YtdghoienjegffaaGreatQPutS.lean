/-
  The reference's l1Put: a number into a rising list. (Cut out of the text NetPut, of which nuBit is left out.)
-/
import Derived.Test.YtdghoienjegffaaGreatQPlainPut
import Derived.Test.YtdghoienjegffaaGreatQNetOwn
namespace Go.Proofs.YtdghoienjegffaaGreat
open Go.RowKit
set_option linter.all false
def Less (l : List Int) (x : Int) (k : Nat) : Prop := ∀ (j : Nat) (y : Int), j < k → l[j]? = some y → y < x
theorem Less.next {l : List Int} {x y : Int} {k : Nat} (h : Less l x k) (hy : l[k]? = some y) (hl : y < x) : Less l x (k + 1) := fun j z hj hz => by
  by_cases e : j = k
  · subst e
    obtain rfl := Option.some.inj (hy.symm.trans hz)
    exact hl
  · exact h j z (by omega) hz
theorem put_end : ∀ {l : List Int} {x : Int}, Less l x l.length → putS l x = l ++ [x]
  | [], x, _ => rfl
  | y :: r, x, h => by
    unfold putS
    rw [if_pos (h 0 y (by simp) rfl), put_end fun j z hj hz => h (j + 1) z (by simpa using hj) (by simpa using hz)]
    rfl
theorem put_same : ∀ {l : List Int} {x : Int} {k : Nat}, Less l x k → l[k]? = some x → putS l x = l
  | [], x, k, _, h => by simp at h
  | y :: r, x, 0, _, h => by
    obtain rfl : y = x := by simpa using h
    unfold putS
    rw [if_neg (by omega), if_pos rfl]
  | y :: r, x, k + 1, h, hx => by
    unfold putS
    rw [if_pos (h 0 y (by omega) rfl), put_same (k := k) (fun j z hj hz => h (j + 1) z (by omega) (by simpa using hz)) (by simpa using hx)]
theorem put_mid : ∀ {l : List Int} {x y : Int} {k : Nat}, Less l x k → l[k]? = some y → x < y → putS l x = l.take k ++ [x] ++ l.drop k
  | [], x, y, k, _, h, _ => by simp at h
  | z :: r, x, y, 0, _, h, hlt => by
    obtain rfl : z = y := by simpa using h
    unfold putS
    rw [if_neg (by omega), if_neg (by omega)]
    rfl
  | z :: r, x, y, k + 1, h, hy, hlt => by
    unfold putS
    rw [if_pos (h 0 z (by omega) rfl), put_mid (k := k) (fun j u hj hu => h (j + 1) u (by omega) (by simpa using hu)) (by simpa using hy) hlt]
    rfl
def PutRel (l : List Int) (x : Int) (w : World) (kv : Value) (wr : World) : Prop := w = wr ∧ ∃ k : Nat, k ≤ l.length ∧ kv = .int .i64 k ∧ Less l x k
theorem own_sl {w : World} {base n : Nat} {e : TypeId} {v : Value} {vs : List Value} (h : w.ownsRow base e 1 v n vs) : ∃ A c, v = .slice A n c := by
  rcases h.2 with ⟨rfl, h0⟩ | ⟨g, cap, cur, rfl, -⟩
  · exact ⟨none, 0, by rw [h0]⟩
  · exact ⟨_, _, rfl⟩
theorem own_len {w : World} {base n : Nat} {v : Value} {xs : List Int} (h : w.ownsRow base 3 1 v n (xs.map intV)) : w.ownsRow base 3 1 v xs.length (xs.map intV) := by
  have : xs.length = n := by simpa using h.1
  rw [this]; exact h
theorem put_I64 {l : List Int} {x : Int} (h : ∀ y ∈ l, I64 y) (hx : I64 x) : ∀ y ∈ putS l x, I64 y := fun y hy => by
  rcases (putS_mem l x y).1 hy with rfl | hy
  · exact hx
  · exact h y hy
theorem own_one {w : World} {base n : Nat} {e : TypeId} {v : Value} {vs : List Value} (h : w.ownsRow base e 1 v (n + 1) vs) : ∃ g cap cur, v = .slice (some ⟨g, 0, none⟩) (n + 1) cap ∧ base ≤ g ∧ w.heap[g]? = some (.cells cur e (0, 0)) ∧ n + 1 ≤ cap ∧ cap ≤ maxLen ∧ cur.size = cap * 1 ∧ cur.toList.take ((n + 1) * 1) = vs := by
  rcases h.2 with ⟨rfl, h0⟩ | h2
  · omega
  · exact h2
set_option maxRecDepth 100000 in
set_option maxHeartbeats 1000000 in
theorem spec_l1Put (v : Value) (l : List Int) (x : Int) (w : World) (h : IntsR w w.heap.size v l) (hl : l.length ≤ 2000000) (hx : I64 x) (hnil : l = [] → v = .slice none 0 0) :
  Calls Tryz.prog 150 #[v, .int .i64 x] w fun e w' => ∃ u, e = .returned u ∧ (∃ A m c, u = .slice A m c) ∧ IntsR w' w'.heap.size u (putS l x) ∧ ((u = v ∧ x ∈ l) ∨ w'.ownsRow w.heap.size 3 1 u (putS l x).length ((putS l x).map intV)) ∧ Below w.heap.size w w' := by
 have h64 := h.2
 by_cases h0 : l = []
 ·
  obtain rfl := hnil h0
  subst h0
  go_enter Tryz.func150, Tryz.ntmps150
  have hown := World.ownsRow_made (base := w.heap.size) (e := 3) (size := 1) w #[] 0 (Nat.le_refl _) (Nat.zero_le _) (by simp)
  have hb0 := bl_alloc (Below.refl w.heap.size w) (.cells #[] 3)
  obtain ⟨i, hi, hz0, hz1, hz2⟩ := info_parts intInfo
  have HR := Lib.hid (fun g n c m hc ty W => run_append_nil0 (P := Tryz.prog) W 25 ty 3 i Tryz.underlying25 hi g n c m hc)
  have HO := Lib.hid hown
  clear hi hz0 hz1 hz2
  go_wp2_with fail
  go_loopw [5] (fun kv wr => PutRel [] x w kv wr) (fun kv _ => 0)
  case atStart => exact ⟨rfl, 0, Nat.zero_le _, rfl, fun _ _ h => absurd h (by omega)⟩
  case round =>
   obtain ⟨rfl, k, hk, rfl, -⟩ := hrel
   obtain rfl : k = 0 := by simpa using hk
   go_wp2_with (first
    | (at_builtin; refine Lib.wpList_append_run _ rfl (.tmp 34) (.tmp 37) _ _ rfl _ _ rfl rfl _ _ (HR.out w.heap.size 0 0 _ (Nat.le_refl _) _ _) ?_)
    | (at_builtin; refine wpList_append1 (w.alloc (.cells #[] 3)) rfl (.tmp 39) (.tmp 41) 25 rfl w.heap.size 3 _ 8 Tryz.underlying25 intInfo rfl _ _ _ rfl _ rfl (by show Value.slice (some ⟨w.heap.size + 1, 0, none⟩) 1 1 = _; simp) HO.out (by unfold maxLen; omega) (by omega) (by simp) ?_; intro v2 w2 hown2 hbl2 hgr2 hlt2 hob2; obtain ⟨g2, c2, cur2, rfl, -, -, hc2, -, -, -⟩ := own_one hown2; have hb02 := hb0.trans hbl2; clear hgr2 hlt2 hob2)
    | (at_builtin; refine Lib.wpList_append_run _ rfl (.tmp 43) (.tmp 46) _ _ rfl _ _ rfl rfl _ _ (HR.out _ _ _ _ hc2 _ _) ?_))
   go_ret
   exact ⟨_, rfl, ⟨_, _, _, rfl⟩, own_intsR hown2 (fun y hy => by rcases List.mem_singleton.1 hy with rfl; exact hx), .inr hown2, hb02⟩
 ·
  have HI := Lib.hid h
  obtain ⟨Al, cl, rfl, h1, h2, h3⟩ := h.open_
  unfold maxLen at h2
  have hlp : 0 < l.length := List.length_pos_iff.2 h0
  obtain ⟨ad, rfl, hb, hc⟩ := h3 hlp
  have HC := Lib.hid hc; clear hc h3 h hnil h0
  go_enter Tryz.func150, Tryz.ntmps150
  go_wp2_with fail
  go_loopw [5] (fun kv wr => PutRel l x w kv wr) (fun kv _ => l.length - (intOf kv).toNat)
  case atStart => exact ⟨rfl, 0, Nat.zero_le _, rfl, fun _ _ h => absurd h (by omega)⟩
  case round =>
   obtain ⟨rfl, k, hk, rfl, hless⟩ := hrel
   have HLS := Lib.hid hless; clear hless
   by_cases hlt : k < l.length
   ·
    obtain ⟨y, hy⟩ : ∃ y, l[k]? = some y := ⟨_, List.getElem?_eq_getElem hlt⟩
    have hcy := HC.out k y hy
    have HY := Lib.hid hy; clear hy
    by_cases hyx : y < x
    ·
     have HN := Lib.hid (HLS.out.next HY.out hyx)
     go_wp2_with fail
     go_roundw
     case rel => exact ⟨rfl, k + 1, by omega, by go_num, HN.out⟩
     case measure => simp [intOf]; omega
    ·
     by_cases hxy : y = x
     ·
      have kq : (y == x) = true := by simpa using hxy
      have HF := Lib.hid (show putS l x = l from put_same HLS.out (by rw [HY.out, hxy]))
      have HM := Lib.hid (show x ∈ l from hxy ▸ List.mem_of_getElem? HY.out)
      clear hxy
      go_wp2_with fail
      go_ret
      exact ⟨_, rfl, ⟨_, _, _, rfl⟩, by rw [HF.out]; exact HI.out, .inl ⟨rfl, HM.out⟩, Below.refl _ _⟩
     ·
      have kq : (y == x) = false := by simpa using hxy
      have HF := Lib.hid (put_mid HLS.out HY.out (show x < y by omega))
      clear hxy
      have hne : ¬ cl = k := by omega
      have hown := World.ownsRow_made (base := w.heap.size) (e := 3) (size := 1) w #[] 0 (Nat.le_refl _) (Nat.zero_le _) (by simp)
      have hb0 := bl_alloc (Below.refl w.heap.size w) (.cells #[] 3)
      obtain ⟨i, hi, hz0, hz1, hz2⟩ := info_parts intInfo
      have HIF := Lib.hid hi; clear hi
      have Z0 := Lib.hid hz0; clear hz0
      have Z1 := Lib.hid hz1; clear hz1
      have Z2 := Lib.hid hz2; clear hz2
      have HO := Lib.hid hown; clear hown
      have HN1 := Lib.hid (show ∀ j u, ((l.take k).map intV)[j]? = some u → (w.alloc (.cells #[] 3)).cell? (ad.add j) = some u from fun j u hu => by
       rw [List.getElem?_map] at hu
       obtain ⟨z, hz, rfl⟩ := Option.map_eq_some_iff.1 hu
       exact Lib.cell?_alloc_some _ (HC.out j z (by rw [List.getElem?_take] at hz; split at hz; exact hz; cases hz)))
      have HN3 := Lib.hid (show ∀ W, Below w.heap.size w W → ∀ j u, ((l.drop k).map intV)[j]? = some u → W.cell? ((ad.add k).add j) = some u from fun W hW j u hu => by
       rw [List.getElem?_map, List.getElem?_drop] at hu
       obtain ⟨z, hz, rfl⟩ := Option.map_eq_some_iff.1 hu
       rw [Addr.add_add]
       exact (hW.cell (p := ad.add (k + j)) (by rw [block_add]; exact hb)).trans (HC.out _ z hz))
      have H1 := Lib.hid (show ∀ (zs : List Int), ∀ u ∈ zs.map intV, u.oneCell' = true from fun zs u hu => by
       obtain ⟨z, _, rfl⟩ := List.mem_map.1 hu
       rfl)
      have hl1 : ((l.take k).map intV).length = k * 1 := by rw [List.length_map, List.length_take]; omega
      have hl3 : ((l.drop k).map intV).length = (l.length - k) * 1 := by rw [List.length_map, List.length_drop]; omega
      have HL1 := Lib.hid hl1; clear hl1
      have HL3 := Lib.hid hl3; clear hl3
      go_wp2_with (first
       | (at_builtin; refine wpList_append_own_at _ rfl (.tmp 34) (.tmp 37) 25 rfl w.heap.size 3 i _ 1 8 Tryz.underlying25 HIF.out Z0.out Z1.out Z2.out rfl (by decide) _ _ _ rfl HO.out ad k _ ((l.take k).map intV) rfl HL1.out HN1.out (H1.out _) (by unfold maxLen; omega) (by omega) (by simp) ?_; intro v1 w1 hown1 hgrow1 hnil1 hat1; replace hown1 : w1.ownsRow w.heap.size 3 1 v1 k ((l.take k).map intV) := (by simpa using hown1); obtain ⟨A1, c1, rfl⟩ := own_sl hown1; have hbl1 := hb0.grown hgrow1 (by simp) (fun k hk => by have e := Option.some.inj (show some w.heap.size = some k from hk); omega); clear hgrow1 hnil1 hat1)
       | (at_builtin; refine wpList_append1 w1 rfl (.tmp 39) (.tmp 41) 25 rfl w.heap.size 3 _ 8 Tryz.underlying25 intInfo rfl _ _ _ rfl _ rfl rfl hown1 (by unfold maxLen; omega) (by omega) hbl1.size ?_; intro v2 w2 hown2 hbl2 hgr2 hlt2 hob2; obtain ⟨A2, c2, rfl⟩ := own_sl hown2; have hb02 := hbl1.trans hbl2; clear hgr2 hlt2 hob2)
       | (at_builtin; refine wpList_append_own_at _ rfl (.tmp 43) (.tmp 46) 25 rfl w.heap.size 3 i _ 1 8 Tryz.underlying25 HIF.out Z0.out Z1.out Z2.out rfl (by decide) _ _ _ rfl hown2 _ _ _ ((l.drop k).map intV) rfl HL3.out (HN3.out w2 hb02) (H1.out _) (by unfold maxLen; omega) (by omega) hb02.size ?_; intro v3 w3 hown3 hgrow3 hnil3 hat3))
      go_ret
      have hlt2 := hown2.lt
      refine ⟨_, rfl, (by obtain ⟨A3, c3, e3⟩ := own_sl hown3; exact ⟨_, _, _, e3⟩), own_intsR (by rw [HF.out]; simp only [List.map_append, List.map_cons, List.map_nil]; exact hown3) (put_I64 h64 hx), .inr (own_len (by rw [HF.out]; simp only [List.map_append, List.map_cons, List.map_nil]; exact hown3)), hb02.grown hgrow3 hb02.size (fun k hk => (hlt2 k hk).1)⟩
   ·
    obtain rfl : k = l.length := by omega
    have HF := Lib.hid (put_end HLS.out)
    by_cases hce : cl = l.length
    ·
     subst hce
     have hown := World.ownsRow_made (base := w.heap.size) (e := 3) (size := 1) w #[] 0 (Nat.le_refl _) (Nat.zero_le _) (by simp)
     have hb0 := bl_alloc (Below.refl w.heap.size w) (.cells #[] 3)
     obtain ⟨i, hi, hz0, hz1, hz2⟩ := info_parts intInfo
     have HIF := Lib.hid hi; clear hi
     have Z0 := Lib.hid hz0; clear hz0
     have Z1 := Lib.hid hz1; clear hz1
     have Z2 := Lib.hid hz2; clear hz2
     have HO := Lib.hid hown; clear hown
     have HN1 := Lib.hid (show ∀ j u, ((l.take l.length).map intV)[j]? = some u → (w.alloc (.cells #[] 3)).cell? (ad.add j) = some u from fun j u hu => by
      rw [List.getElem?_map] at hu
      obtain ⟨z, hz, rfl⟩ := Option.map_eq_some_iff.1 hu
      exact Lib.cell?_alloc_some _ (HC.out j z (by rw [List.getElem?_take] at hz; split at hz; exact hz; cases hz)))
     have HN3 := Lib.hid (show ∀ W, Below w.heap.size w W → ∀ j u, ((l.drop l.length).map intV)[j]? = some u → W.cell? ((ad.add l.length).add j) = some u from fun W hW j u hu => by
      rw [List.getElem?_map, List.getElem?_drop] at hu
      obtain ⟨z, hz, rfl⟩ := Option.map_eq_some_iff.1 hu
      rw [Addr.add_add]
      exact (hW.cell (p := ad.add (l.length + j)) (by rw [block_add]; exact hb)).trans (HC.out _ z hz))
     have H1 := Lib.hid (show ∀ (zs : List Int), ∀ u ∈ zs.map intV, u.oneCell' = true from fun zs u hu => by
      obtain ⟨z, _, rfl⟩ := List.mem_map.1 hu
      rfl)
     have hl1 : ((l.take l.length).map intV).length = l.length * 1 := by rw [List.length_map, List.length_take]; omega
     have hl3 : ((l.drop l.length).map intV).length = (l.length - l.length) * 1 := by rw [List.length_map, List.length_drop]; omega
     have HL1 := Lib.hid hl1; clear hl1
     have HL3 := Lib.hid hl3; clear hl3
     go_wp2_with (first
      | (at_builtin; refine wpList_append_own_at _ rfl (.tmp 34) (.tmp 37) 25 rfl w.heap.size 3 i _ 1 8 Tryz.underlying25 HIF.out Z0.out Z1.out Z2.out rfl (by decide) _ _ _ rfl HO.out ad l.length _ ((l.take l.length).map intV) rfl HL1.out HN1.out (H1.out _) (by unfold maxLen; omega) (by omega) (by simp) ?_; intro v1 w1 hown1 hgrow1 hnil1 hat1; replace hown1 : w1.ownsRow w.heap.size 3 1 v1 l.length ((l.take l.length).map intV) := (by simpa using hown1); obtain ⟨A1, c1, rfl⟩ := own_sl hown1; have hbl1 := hb0.grown hgrow1 (by simp) (fun k hk => by have e := Option.some.inj (show some w.heap.size = some k from hk); omega); clear hgrow1 hnil1 hat1)
      | (at_builtin; refine wpList_append1 w1 rfl (.tmp 39) (.tmp 41) 25 rfl w.heap.size 3 _ 8 Tryz.underlying25 intInfo rfl _ _ _ rfl _ rfl rfl hown1 (by unfold maxLen; omega) (by omega) hbl1.size ?_; intro v2 w2 hown2 hbl2 hgr2 hlt2 hob2; obtain ⟨A2, c2, rfl⟩ := own_sl hown2; have hb02 := hbl1.trans hbl2; clear hgr2 hlt2 hob2)
      | (at_builtin; refine wpList_append_own_at _ rfl (.tmp 43) (.tmp 46) 25 rfl w.heap.size 3 i _ 1 8 Tryz.underlying25 HIF.out Z0.out Z1.out Z2.out rfl (by decide) _ _ _ rfl hown2 _ _ _ [] rfl rfl (fun j u hj => by simp at hj) (fun u hu => by cases hu) (by unfold maxLen; omega) (by omega) hb02.size ?_; intro v3 w3 hown3 hgrow3 hnil3 hat3))
     go_ret
     have hlt2 := hown2.lt
     refine ⟨_, rfl, (by obtain ⟨A3, c3, e3⟩ := own_sl hown3; exact ⟨_, _, _, e3⟩), own_intsR (by have h := hown3; rw [List.take_length, List.append_nil] at h; rw [HF.out, List.map_append]; exact h) (put_I64 h64 hx), .inr (own_len (by have h := hown3; rw [List.take_length, List.append_nil] at h; rw [HF.out, List.map_append]; exact h)), hb02.grown hgrow3 hb02.size (fun k hk => (hlt2 k hk).1)⟩
    ·
     skip
     have hown := World.ownsRow_made (base := w.heap.size) (e := 3) (size := 1) w #[] 0 (Nat.le_refl _) (Nat.zero_le _) (by simp)
     have hb0 := bl_alloc (Below.refl w.heap.size w) (.cells #[] 3)
     obtain ⟨i, hi, hz0, hz1, hz2⟩ := info_parts intInfo
     have HIF := Lib.hid hi; clear hi
     have Z0 := Lib.hid hz0; clear hz0
     have Z1 := Lib.hid hz1; clear hz1
     have Z2 := Lib.hid hz2; clear hz2
     have HO := Lib.hid hown; clear hown
     have HN1 := Lib.hid (show ∀ j u, ((l.take l.length).map intV)[j]? = some u → (w.alloc (.cells #[] 3)).cell? (ad.add j) = some u from fun j u hu => by
      rw [List.getElem?_map] at hu
      obtain ⟨z, hz, rfl⟩ := Option.map_eq_some_iff.1 hu
      exact Lib.cell?_alloc_some _ (HC.out j z (by rw [List.getElem?_take] at hz; split at hz; exact hz; cases hz)))
     have HN3 := Lib.hid (show ∀ W, Below w.heap.size w W → ∀ j u, ((l.drop l.length).map intV)[j]? = some u → W.cell? ((ad.add l.length).add j) = some u from fun W hW j u hu => by
      rw [List.getElem?_map, List.getElem?_drop] at hu
      obtain ⟨z, hz, rfl⟩ := Option.map_eq_some_iff.1 hu
      rw [Addr.add_add]
      exact (hW.cell (p := ad.add (l.length + j)) (by rw [block_add]; exact hb)).trans (HC.out _ z hz))
     have H1 := Lib.hid (show ∀ (zs : List Int), ∀ u ∈ zs.map intV, u.oneCell' = true from fun zs u hu => by
      obtain ⟨z, _, rfl⟩ := List.mem_map.1 hu
      rfl)
     have hl1 : ((l.take l.length).map intV).length = l.length * 1 := by rw [List.length_map, List.length_take]; omega
     have hl3 : ((l.drop l.length).map intV).length = (l.length - l.length) * 1 := by rw [List.length_map, List.length_drop]; omega
     have HL1 := Lib.hid hl1; clear hl1
     have HL3 := Lib.hid hl3; clear hl3
     go_wp2_with (first
      | (at_builtin; refine wpList_append_own_at _ rfl (.tmp 34) (.tmp 37) 25 rfl w.heap.size 3 i _ 1 8 Tryz.underlying25 HIF.out Z0.out Z1.out Z2.out rfl (by decide) _ _ _ rfl HO.out ad l.length _ ((l.take l.length).map intV) rfl HL1.out HN1.out (H1.out _) (by unfold maxLen; omega) (by omega) (by simp) ?_; intro v1 w1 hown1 hgrow1 hnil1 hat1; replace hown1 : w1.ownsRow w.heap.size 3 1 v1 l.length ((l.take l.length).map intV) := (by simpa using hown1); obtain ⟨A1, c1, rfl⟩ := own_sl hown1; have hbl1 := hb0.grown hgrow1 (by simp) (fun k hk => by have e := Option.some.inj (show some w.heap.size = some k from hk); omega); clear hgrow1 hnil1 hat1)
      | (at_builtin; refine wpList_append1 w1 rfl (.tmp 39) (.tmp 41) 25 rfl w.heap.size 3 _ 8 Tryz.underlying25 intInfo rfl _ _ _ rfl _ rfl rfl hown1 (by unfold maxLen; omega) (by omega) hbl1.size ?_; intro v2 w2 hown2 hbl2 hgr2 hlt2 hob2; obtain ⟨A2, c2, rfl⟩ := own_sl hown2; have hb02 := hbl1.trans hbl2; clear hgr2 hlt2 hob2)
      | (at_builtin; refine wpList_append_own_at _ rfl (.tmp 43) (.tmp 46) 25 rfl w.heap.size 3 i _ 1 8 Tryz.underlying25 HIF.out Z0.out Z1.out Z2.out rfl (by decide) _ _ _ rfl hown2 _ _ _ [] rfl rfl (fun j u hj => by simp at hj) (fun u hu => by cases hu) (by unfold maxLen; omega) (by omega) hb02.size ?_; intro v3 w3 hown3 hgrow3 hnil3 hat3))
     go_ret
     have hlt2 := hown2.lt
     refine ⟨_, rfl, (by obtain ⟨A3, c3, e3⟩ := own_sl hown3; exact ⟨_, _, _, e3⟩), own_intsR (by have h := hown3; rw [List.take_length, List.append_nil] at h; rw [HF.out, List.map_append]; exact h) (put_I64 h64 hx), .inr (own_len (by have h := hown3; rw [List.take_length, List.append_nil] at h; rw [HF.out, List.map_append]; exact h)), hb02.grown hgrow3 hb02.size (fun k hk => (hlt2 k hk).1)⟩
end Go.Proofs.YtdghoienjegffaaGreat
