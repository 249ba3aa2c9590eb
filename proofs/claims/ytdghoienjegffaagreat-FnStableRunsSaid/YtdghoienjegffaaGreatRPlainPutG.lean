/-
  Small lemmas and contracts that the texts of this claim share. No condition.
-/
import Derived.Lib.SlicesCompact
import Derived.Test.YtdghoienjegffaaGreatRCwBoxG
namespace Go.Proofs.YtdghoienjegffaaGreat
open Go
set_option linter.all false
def putS : List Int → Int → List Int
  | [], x => [x]
  | y :: r, x => if y < x then y :: putS r x else if y = x then y :: r else x :: y :: r
theorem putS_mem : ∀ (l : List Int) (x z : Int), z ∈ putS l x ↔ z = x ∨ z ∈ l
  | [], x, z => by simp [putS]
  | y :: r, x, z => by
    unfold putS;split
    · rw [List.mem_cons, putS_mem r x z, List.mem_cons]
      constructor <;> (intro h; rcases h with h | h | h <;> simp [h])
    · split
      · rename_i h; subst h; simp
      · simp
end Go.Proofs.YtdghoienjegffaaGreat
namespace Go.Proofs.YtdghoienjegffaaGreat
open Go.RowKit
set_option linter.all false
def Less (l : List Int) (x : Int) (k : Nat) : Prop := ∀ (j : Nat) (y : Int), j < k → l[j]? = some y → y < x
theorem Less.next {l : List Int} {x y : Int} {k : Nat} (h : Less l x k) (hy : l[k]? = some y) (hl : y < x) : Less l x (k + 1) := fun j z hj hz => by
  by_cases e : j = k
  · subst e
    obtain rfl := Option.some.inj (hy.symm.trans hz);exact hl
  · exact h j z (by omega) hz
theorem put_end : ∀ {l : List Int} {x : Int}, Less l x l.length → putS l x = l ++ [x]
  | [], x, _ => rfl
  | y :: r, x, h => by unfold putS;rw [if_pos (h 0 y (by simp) rfl), put_end fun j z hj hz => h (j + 1) z (by simpa using hj) (by simpa using hz)];rfl
theorem put_same : ∀ {l : List Int} {x : Int} {k : Nat}, Less l x k → l[k]? = some x → putS l x = l
  | [], x, k, _, h => by simp at h
  | y :: r, x, 0, _, h => by
    obtain rfl : y = x := by simpa using h
    unfold putS;rw [if_neg (by omega), if_pos rfl]
  | y :: r, x, k + 1, h, hx => by unfold putS;rw [if_pos (h 0 y (by omega) rfl), put_same (k := k) (fun j z hj hz => h (j + 1) z (by omega) (by simpa using hz)) (by simpa using hx)]
theorem put_mid : ∀ {l : List Int} {x y : Int} {k : Nat}, Less l x k → l[k]? = some y → x < y → putS l x = l.take k ++ [x] ++ l.drop k
  | [], x, y, k, _, h, _ => by simp at h
  | z :: r, x, y, 0, _, h, hlt => by
    obtain rfl : z = y := by simpa using h
    unfold putS;rw [if_neg (by omega), if_neg (by omega)];rfl
  | z :: r, x, y, k + 1, h, hy, hlt => by unfold putS;rw [if_pos (h 0 z (by omega) rfl), put_mid (k := k) (fun j u hj hu => h (j + 1) u (by omega) (by simpa using hu)) (by simpa using hy) hlt];rfl
def PutRel (l : List Int) (x : Int) (w : World) (kv : Value) (wr : World) : Prop := w = wr ∧ ∃ k : Nat, k ≤ l.length ∧ kv = .int .i64 k ∧ Less l x k
theorem own_sl {w : World} {base n : Nat} {e : TypeId} {v : Value} {vs : List Value} (h : w.ownsRow base e 1 v n vs) : ∃ A c, v = .slice A n c := by
  rcases h.2 with ⟨rfl, h0⟩ | ⟨g, cap, cur, rfl, -⟩
  · exact ⟨none, 0, by rw [h0]⟩
  · exact ⟨_, _, rfl⟩
theorem own_len {w : World} {base n : Nat} {v : Value} {xs : List Int} (h : w.ownsRow base 3 1 v n (xs.map intV)) : w.ownsRow base 3 1 v xs.length (xs.map intV) := by
  have : xs.length = n := by simpa using h.1
  rw [this]; exact h
theorem put_I64 {l : List Int} {x : Int} (h : ∀ y ∈ l, I64 y) (hx : I64 x) : ∀ y ∈ putS l x, I64 y := fun y hy => by
  rcases (putS_mem l x y).1 hy with rfl | hy
  · exact hx
  · exact h y hy
theorem own_one {w : World} {base n : Nat} {e : TypeId} {v : Value} {vs : List Value} (h : w.ownsRow base e 1 v (n + 1) vs) : ∃ g cap cur, v = .slice (some ⟨g, 0, none⟩) (n + 1) cap ∧ base ≤ g ∧ w.heap[g]? = some (.cells cur e (0, 0)) ∧ n + 1 ≤ cap ∧ cap ≤ maxLen ∧ cur.size = cap * 1 ∧ cur.toList.take ((n + 1) * 1) = vs := by
  rcases h.2 with ⟨rfl, h0⟩ | h2
  · omega
  · exact h2
set_option maxRecDepth 100000 in
set_option maxHeartbeats 1000000 in
theorem spec_l1Put (v : Value) (l : List Int) (x : Int) (w : World) (h : IntsR w w.heap.size v l) (hl : l.length ≤ 2000000) (hx : I64 x) (hnil : l = [] → v = .slice none 0 0) :
  Calls Tryz.prog 150 #[v, .int .i64 x] w fun e w' => ∃ u, e = .returned u ∧ (∃ A m c, u = .slice A m c) ∧ IntsR w' w'.heap.size u (putS l x) ∧ ((u = v ∧ x ∈ l) ∨ w'.ownsRow w.heap.size 3 1 u (putS l x).length ((putS l x).map intV)) ∧ Below w.heap.size w w' := by
 have h64 := h.2;by_cases h0 : l = []
 ·
  obtain rfl := hnil h0;subst h0;go_enter Tryz.func150, Tryz.ntmps150;have hown := World.ownsRow_made (base := w.heap.size) (e := 3) (size := 1) w #[] 0 (Nat.le_refl _) (Nat.zero_le _) (by simp);have hb0 := bl_alloc (Below.refl w.heap.size w) (.cells #[] 3);obtain ⟨i, hi, hz0, hz1, hz2⟩ := info_parts intInfo;have HR := Lib.hid (fun g n c m hc ty W => run_append_nil0 (P := Tryz.prog) W 25 ty 3 i Tryz.underlying25 hi g n c m hc);have HO := Lib.hid hown;clear hi hz0 hz1 hz2;go_wp2_with fail;go_loopw [5] (fun kv wr => PutRel [] x w kv wr) (fun kv _ => 0)
  case atStart => exact ⟨rfl, 0, Nat.zero_le _, rfl, fun _ _ h => absurd h (by omega)⟩
  case round =>
   obtain ⟨rfl, k, hk, rfl, -⟩ := hrel;obtain rfl : k = 0 := by simpa using hk
   go_wp2_with (first
    | (at_builtin; refine Lib.wpList_append_run _ rfl (.tmp 34) (.tmp 37) _ _ rfl _ _ rfl rfl _ _ (HR.out w.heap.size 0 0 _ (Nat.le_refl _) _ _) ?_)
    | (at_builtin; refine wpList_append1 (w.alloc (.cells #[] 3)) rfl (.tmp 39) (.tmp 41) 25 rfl w.heap.size 3 _ 8 Tryz.underlying25 intInfo rfl _ _ _ rfl _ rfl (by show Value.slice (some ⟨w.heap.size + 1, 0, none⟩) 1 1 = _; simp) HO.out (by unfold maxLen; omega) (by omega) (by simp) ?_; intro v2 w2 hown2 hbl2 hgr2 hlt2 hob2; obtain ⟨g2, c2, cur2, rfl, -, -, hc2, -, -, -⟩ := own_one hown2; have hb02 := hb0.trans hbl2; clear hgr2 hlt2 hob2)
    | (at_builtin; refine Lib.wpList_append_run _ rfl (.tmp 43) (.tmp 46) _ _ rfl _ _ rfl rfl _ _ (HR.out _ _ _ _ hc2 _ _) ?_))
   go_ret;exact ⟨_, rfl, ⟨_, _, _, rfl⟩, own_intsR hown2 (fun y hy => by rcases List.mem_singleton.1 hy with rfl; exact hx), .inr hown2, hb02⟩
 ·
  have HI := Lib.hid h;obtain ⟨Al, cl, rfl, h1, h2, h3⟩ := h.open_;unfold maxLen at h2;have hlp : 0 < l.length := List.length_pos_iff.2 h0;obtain ⟨ad, rfl, hb, hc⟩ := h3 hlp;have HC := Lib.hid hc; clear hc h3 h hnil h0;go_enter Tryz.func150, Tryz.ntmps150;go_wp2_with fail;go_loopw [5] (fun kv wr => PutRel l x w kv wr) (fun kv _ => l.length - (intOf kv).toNat)
  case atStart => exact ⟨rfl, 0, Nat.zero_le _, rfl, fun _ _ h => absurd h (by omega)⟩
  case round =>
   obtain ⟨rfl, k, hk, rfl, hless⟩ := hrel;have HLS := Lib.hid hless; clear hless;by_cases hlt : k < l.length
   ·
    obtain ⟨y, hy⟩ : ∃ y, l[k]? = some y := ⟨_, List.getElem?_eq_getElem hlt⟩
    have hcy := HC.out k y hy;have HY := Lib.hid hy; clear hy;by_cases hyx : y < x
    ·
     have HN := Lib.hid (HLS.out.next HY.out hyx);go_wp2_with fail;go_roundw
     case rel => exact ⟨rfl, k + 1, by omega, by go_num, HN.out⟩
     case measure => simp [intOf]; omega
    ·
     by_cases hxy : y = x
     ·
      have kq : (y == x) = true := by simpa using hxy
      have HF := Lib.hid (show putS l x = l from put_same HLS.out (by rw [HY.out, hxy]));have HM := Lib.hid (show x ∈ l from hxy ▸ List.mem_of_getElem? HY.out);clear hxy;go_wp2_with fail;go_ret;exact ⟨_, rfl, ⟨_, _, _, rfl⟩, by rw [HF.out]; exact HI.out, .inl ⟨rfl, HM.out⟩, Below.refl _ _⟩
     ·
      have kq : (y == x) = false := by simpa using hxy
      have HF := Lib.hid (put_mid HLS.out HY.out (show x < y by omega));clear hxy;have hne : ¬ cl = k := by omega
      have hown := World.ownsRow_made (base := w.heap.size) (e := 3) (size := 1) w #[] 0 (Nat.le_refl _) (Nat.zero_le _) (by simp);have hb0 := bl_alloc (Below.refl w.heap.size w) (.cells #[] 3);obtain ⟨i, hi, hz0, hz1, hz2⟩ := info_parts intInfo;have HIF := Lib.hid hi; clear hi;have Z0 := Lib.hid hz0; clear hz0;have Z1 := Lib.hid hz1; clear hz1;have Z2 := Lib.hid hz2; clear hz2;have HO := Lib.hid hown; clear hown
      have HN1 := Lib.hid (show ∀ j u, ((l.take k).map intV)[j]? = some u → (w.alloc (.cells #[] 3)).cell? (ad.add j) = some u from fun j u hu => by
       rw [List.getElem?_map] at hu;obtain ⟨z, hz, rfl⟩ := Option.map_eq_some_iff.1 hu
       exact Lib.cell?_alloc_some _ (HC.out j z (by rw [List.getElem?_take] at hz; split at hz; exact hz; cases hz)))
      have HN3 := Lib.hid (show ∀ W, Below w.heap.size w W → ∀ j u, ((l.drop k).map intV)[j]? = some u → W.cell? ((ad.add k).add j) = some u from fun W hW j u hu => by
       rw [List.getElem?_map, List.getElem?_drop] at hu;obtain ⟨z, hz, rfl⟩ := Option.map_eq_some_iff.1 hu;rw [Addr.add_add]
       exact (hW.cell (p := ad.add (k + j)) (by rw [block_add]; exact hb)).trans (HC.out _ z hz))
      have H1 := Lib.hid (show ∀ (zs : List Int), ∀ u ∈ zs.map intV, u.oneCell' = true from fun zs u hu => by
       obtain ⟨z, _, rfl⟩ := List.mem_map.1 hu
       rfl)
      have hl1 : ((l.take k).map intV).length = k * 1 := by rw [List.length_map, List.length_take]; omega
      have hl3 : ((l.drop k).map intV).length = (l.length - k) * 1 := by rw [List.length_map, List.length_drop]; omega
      have HL1 := Lib.hid hl1; clear hl1;have HL3 := Lib.hid hl3; clear hl3
      go_wp2_with (first
       | (at_builtin; refine wpList_append_own_at _ rfl (.tmp 34) (.tmp 37) 25 rfl w.heap.size 3 i _ 1 8 Tryz.underlying25 HIF.out Z0.out Z1.out Z2.out rfl (by decide) _ _ _ rfl HO.out ad k _ ((l.take k).map intV) rfl HL1.out HN1.out (H1.out _) (by unfold maxLen; omega) (by omega) (by simp) ?_; intro v1 w1 hown1 hgrow1 hnil1 hat1; replace hown1 : w1.ownsRow w.heap.size 3 1 v1 k ((l.take k).map intV) := (by simpa using hown1); obtain ⟨A1, c1, rfl⟩ := own_sl hown1; have hbl1 := hb0.grown hgrow1 (by simp) (fun k hk => by have e := Option.some.inj (show some w.heap.size = some k from hk); omega); clear hgrow1 hnil1 hat1)
       | (at_builtin; refine wpList_append1 w1 rfl (.tmp 39) (.tmp 41) 25 rfl w.heap.size 3 _ 8 Tryz.underlying25 intInfo rfl _ _ _ rfl _ rfl rfl hown1 (by unfold maxLen; omega) (by omega) hbl1.size ?_; intro v2 w2 hown2 hbl2 hgr2 hlt2 hob2; obtain ⟨A2, c2, rfl⟩ := own_sl hown2; have hb02 := hbl1.trans hbl2; clear hgr2 hlt2 hob2)
       | (at_builtin; refine wpList_append_own_at _ rfl (.tmp 43) (.tmp 46) 25 rfl w.heap.size 3 i _ 1 8 Tryz.underlying25 HIF.out Z0.out Z1.out Z2.out rfl (by decide) _ _ _ rfl hown2 _ _ _ ((l.drop k).map intV) rfl HL3.out (HN3.out w2 hb02) (H1.out _) (by unfold maxLen; omega) (by omega) hb02.size ?_; intro v3 w3 hown3 hgrow3 hnil3 hat3))
      go_ret;have hlt2 := hown2.lt;refine ⟨_, rfl, (by obtain ⟨A3, c3, e3⟩ := own_sl hown3; exact ⟨_, _, _, e3⟩), own_intsR (by rw [HF.out]; simp only [List.map_append, List.map_cons, List.map_nil]; exact hown3) (put_I64 h64 hx), .inr (own_len (by rw [HF.out]; simp only [List.map_append, List.map_cons, List.map_nil]; exact hown3)), hb02.grown hgrow3 hb02.size (fun k hk => (hlt2 k hk).1)⟩
   ·
    obtain rfl : k = l.length := by omega
    have HF := Lib.hid (put_end HLS.out);by_cases hce : cl = l.length
    ·
     subst hce;have hown := World.ownsRow_made (base := w.heap.size) (e := 3) (size := 1) w #[] 0 (Nat.le_refl _) (Nat.zero_le _) (by simp);have hb0 := bl_alloc (Below.refl w.heap.size w) (.cells #[] 3);obtain ⟨i, hi, hz0, hz1, hz2⟩ := info_parts intInfo;have HIF := Lib.hid hi; clear hi;have Z0 := Lib.hid hz0; clear hz0;have Z1 := Lib.hid hz1; clear hz1;have Z2 := Lib.hid hz2; clear hz2;have HO := Lib.hid hown; clear hown
     have HN1 := Lib.hid (show ∀ j u, ((l.take l.length).map intV)[j]? = some u → (w.alloc (.cells #[] 3)).cell? (ad.add j) = some u from fun j u hu => by
      rw [List.getElem?_map] at hu;obtain ⟨z, hz, rfl⟩ := Option.map_eq_some_iff.1 hu
      exact Lib.cell?_alloc_some _ (HC.out j z (by rw [List.getElem?_take] at hz; split at hz; exact hz; cases hz)))
     have HN3 := Lib.hid (show ∀ W, Below w.heap.size w W → ∀ j u, ((l.drop l.length).map intV)[j]? = some u → W.cell? ((ad.add l.length).add j) = some u from fun W hW j u hu => by
      rw [List.getElem?_map, List.getElem?_drop] at hu;obtain ⟨z, hz, rfl⟩ := Option.map_eq_some_iff.1 hu;rw [Addr.add_add]
      exact (hW.cell (p := ad.add (l.length + j)) (by rw [block_add]; exact hb)).trans (HC.out _ z hz))
     have H1 := Lib.hid (show ∀ (zs : List Int), ∀ u ∈ zs.map intV, u.oneCell' = true from fun zs u hu => by
      obtain ⟨z, _, rfl⟩ := List.mem_map.1 hu
      rfl)
     have hl1 : ((l.take l.length).map intV).length = l.length * 1 := by rw [List.length_map, List.length_take]; omega
     have hl3 : ((l.drop l.length).map intV).length = (l.length - l.length) * 1 := by rw [List.length_map, List.length_drop]; omega
     have HL1 := Lib.hid hl1; clear hl1;have HL3 := Lib.hid hl3; clear hl3
     go_wp2_with (first
      | (at_builtin; refine wpList_append_own_at _ rfl (.tmp 34) (.tmp 37) 25 rfl w.heap.size 3 i _ 1 8 Tryz.underlying25 HIF.out Z0.out Z1.out Z2.out rfl (by decide) _ _ _ rfl HO.out ad l.length _ ((l.take l.length).map intV) rfl HL1.out HN1.out (H1.out _) (by unfold maxLen; omega) (by omega) (by simp) ?_; intro v1 w1 hown1 hgrow1 hnil1 hat1; replace hown1 : w1.ownsRow w.heap.size 3 1 v1 l.length ((l.take l.length).map intV) := (by simpa using hown1); obtain ⟨A1, c1, rfl⟩ := own_sl hown1; have hbl1 := hb0.grown hgrow1 (by simp) (fun k hk => by have e := Option.some.inj (show some w.heap.size = some k from hk); omega); clear hgrow1 hnil1 hat1)
      | (at_builtin; refine wpList_append1 w1 rfl (.tmp 39) (.tmp 41) 25 rfl w.heap.size 3 _ 8 Tryz.underlying25 intInfo rfl _ _ _ rfl _ rfl rfl hown1 (by unfold maxLen; omega) (by omega) hbl1.size ?_; intro v2 w2 hown2 hbl2 hgr2 hlt2 hob2; obtain ⟨A2, c2, rfl⟩ := own_sl hown2; have hb02 := hbl1.trans hbl2; clear hgr2 hlt2 hob2)
      | (at_builtin; refine wpList_append_own_at _ rfl (.tmp 43) (.tmp 46) 25 rfl w.heap.size 3 i _ 1 8 Tryz.underlying25 HIF.out Z0.out Z1.out Z2.out rfl (by decide) _ _ _ rfl hown2 _ _ _ [] rfl rfl (fun j u hj => by simp at hj) (fun u hu => by cases hu) (by unfold maxLen; omega) (by omega) hb02.size ?_; intro v3 w3 hown3 hgrow3 hnil3 hat3))
     go_ret;have hlt2 := hown2.lt;refine ⟨_, rfl, (by obtain ⟨A3, c3, e3⟩ := own_sl hown3; exact ⟨_, _, _, e3⟩), own_intsR (by have h := hown3; rw [List.take_length, List.append_nil] at h; rw [HF.out, List.map_append]; exact h) (put_I64 h64 hx), .inr (own_len (by have h := hown3; rw [List.take_length, List.append_nil] at h; rw [HF.out, List.map_append]; exact h)), hb02.grown hgrow3 hb02.size (fun k hk => (hlt2 k hk).1)⟩
    ·
     skip
     have hown := World.ownsRow_made (base := w.heap.size) (e := 3) (size := 1) w #[] 0 (Nat.le_refl _) (Nat.zero_le _) (by simp);have hb0 := bl_alloc (Below.refl w.heap.size w) (.cells #[] 3);obtain ⟨i, hi, hz0, hz1, hz2⟩ := info_parts intInfo;have HIF := Lib.hid hi; clear hi;have Z0 := Lib.hid hz0; clear hz0;have Z1 := Lib.hid hz1; clear hz1;have Z2 := Lib.hid hz2; clear hz2;have HO := Lib.hid hown; clear hown
     have HN1 := Lib.hid (show ∀ j u, ((l.take l.length).map intV)[j]? = some u → (w.alloc (.cells #[] 3)).cell? (ad.add j) = some u from fun j u hu => by
      rw [List.getElem?_map] at hu;obtain ⟨z, hz, rfl⟩ := Option.map_eq_some_iff.1 hu
      exact Lib.cell?_alloc_some _ (HC.out j z (by rw [List.getElem?_take] at hz; split at hz; exact hz; cases hz)))
     have HN3 := Lib.hid (show ∀ W, Below w.heap.size w W → ∀ j u, ((l.drop l.length).map intV)[j]? = some u → W.cell? ((ad.add l.length).add j) = some u from fun W hW j u hu => by
      rw [List.getElem?_map, List.getElem?_drop] at hu;obtain ⟨z, hz, rfl⟩ := Option.map_eq_some_iff.1 hu;rw [Addr.add_add]
      exact (hW.cell (p := ad.add (l.length + j)) (by rw [block_add]; exact hb)).trans (HC.out _ z hz))
     have H1 := Lib.hid (show ∀ (zs : List Int), ∀ u ∈ zs.map intV, u.oneCell' = true from fun zs u hu => by
      obtain ⟨z, _, rfl⟩ := List.mem_map.1 hu
      rfl)
     have hl1 : ((l.take l.length).map intV).length = l.length * 1 := by rw [List.length_map, List.length_take]; omega
     have hl3 : ((l.drop l.length).map intV).length = (l.length - l.length) * 1 := by rw [List.length_map, List.length_drop]; omega
     have HL1 := Lib.hid hl1; clear hl1;have HL3 := Lib.hid hl3; clear hl3
     go_wp2_with (first
      | (at_builtin; refine wpList_append_own_at _ rfl (.tmp 34) (.tmp 37) 25 rfl w.heap.size 3 i _ 1 8 Tryz.underlying25 HIF.out Z0.out Z1.out Z2.out rfl (by decide) _ _ _ rfl HO.out ad l.length _ ((l.take l.length).map intV) rfl HL1.out HN1.out (H1.out _) (by unfold maxLen; omega) (by omega) (by simp) ?_; intro v1 w1 hown1 hgrow1 hnil1 hat1; replace hown1 : w1.ownsRow w.heap.size 3 1 v1 l.length ((l.take l.length).map intV) := (by simpa using hown1); obtain ⟨A1, c1, rfl⟩ := own_sl hown1; have hbl1 := hb0.grown hgrow1 (by simp) (fun k hk => by have e := Option.some.inj (show some w.heap.size = some k from hk); omega); clear hgrow1 hnil1 hat1)
      | (at_builtin; refine wpList_append1 w1 rfl (.tmp 39) (.tmp 41) 25 rfl w.heap.size 3 _ 8 Tryz.underlying25 intInfo rfl _ _ _ rfl _ rfl rfl hown1 (by unfold maxLen; omega) (by omega) hbl1.size ?_; intro v2 w2 hown2 hbl2 hgr2 hlt2 hob2; obtain ⟨A2, c2, rfl⟩ := own_sl hown2; have hb02 := hbl1.trans hbl2; clear hgr2 hlt2 hob2)
      | (at_builtin; refine wpList_append_own_at _ rfl (.tmp 43) (.tmp 46) 25 rfl w.heap.size 3 i _ 1 8 Tryz.underlying25 HIF.out Z0.out Z1.out Z2.out rfl (by decide) _ _ _ rfl hown2 _ _ _ [] rfl rfl (fun j u hj => by simp at hj) (fun u hu => by cases hu) (by unfold maxLen; omega) (by omega) hb02.size ?_; intro v3 w3 hown3 hgrow3 hnil3 hat3))
     go_ret;have hlt2 := hown2.lt;refine ⟨_, rfl, (by obtain ⟨A3, c3, e3⟩ := own_sl hown3; exact ⟨_, _, _, e3⟩), own_intsR (by have h := hown3; rw [List.take_length, List.append_nil] at h; rw [HF.out, List.map_append]; exact h) (put_I64 h64 hx), .inr (own_len (by have h := hown3; rw [List.take_length, List.append_nil] at h; rw [HF.out, List.map_append]; exact h)), hb02.grown hgrow3 hb02.size (fun k hk => (hlt2 k hk).1)⟩
end Go.Proofs.YtdghoienjegffaaGreat
namespace Go.Proofs.YtdghoienjegffaaGreat
set_option linter.all false
def LeastFree (xs : List Int) (c : Nat) : Prop := (∀ j, j < c → (j : Int) ∈ xs) ∧ (c : Int) ∉ xs
noncomputable def leastN (xs : List Int) : Nat := by classical exact if h : ∃ c, LeastFree xs c then Classical.choose h else 0
theorem LeastFree.eq {xs : List Int} {c d : Nat} (h : LeastFree xs c) (k : LeastFree xs d) : c = d := by
  rcases Nat.lt_trichotomy c d with hc | hc | hc
  · exact absurd (k.1 c hc) h.2
  · exact hc
  · exact absurd (h.1 d hc) k.2
theorem leastN_eq {xs : List Int} {c : Nat} (h : LeastFree xs c) : leastN xs = c := by
  have hx : ∃ c, LeastFree xs c := ⟨c, h⟩
  unfold leastN;rw [dif_pos hx];exact (Classical.choose_spec hx).eq h
theorem pigeon : ∀ (c : Nat) (xs : List Int), (∀ j, j < c → (j : Int) ∈ xs) → c ≤ xs.length
  | 0, _, _ => Nat.zero_le _
  | c + 1, xs, h => by
    have hm := h c (by omega);have := pigeon c (xs.erase (c : Int)) fun j hj => (List.mem_erase_of_ne (by omega)).2 (h j (by omega))
    rw [List.length_erase_of_mem hm] at this;have := List.length_pos_of_mem hm;omega
def nearSt (l : List (Int × Int)) (ss : List Int) : List Int := l.map fun e => ss.getD e.1.toNat 0
theorem nearSt_len (l : List (Int × Int)) (ss : List Int) : (nearSt l ss).length = l.length := by simp [nearSt]
def portI {α : Type} (p : α → Bool) (l : List α) : Int := match l.findIdx? p with | some i => (i : Int) | none => -1
def pointsTo (ss : List Int) (e : Int × Int) : Bool := ss.getD e.1.toNat 0 == e.2 + 1
def isFree (ss : List Int) (e : Int × Int) : Bool := ss.getD e.1.toNat 0 == 0
def matchS (l : List (Int × Int)) (ss : List Int) (s : Int) : Int :=
  if 0 < s then (if isFree ss (l.getD (s - 1).toNat (0, 0)) || pointsTo ss (l.getD (s - 1).toNat (0, 0)) then s else 0)
  else if 0 ≤ portI (pointsTo ss) l then portI (pointsTo ss) l + 1 else portI (isFree ss) l + 1
def leastOf (k : Int) (xs : List Int) : Int := xs.foldl (fun a x => if a < x + 1 then a else x + 1) k
def treeS (n : Net) (l : List (Int × Int)) (ss : List Int) (v : Nat) : Int := if n.ins.getD v 0 = 1 then 0 else leastOf n.es.length (nearSt l ss)
def tokenS (n : Net) (l : List (Int × Int)) (ss : List Int) (v : Nat) (s : Int) : Int :=
  if n.ins.getD v 0 ≠ 1 then ss.getD (l.getD 1 (0, 0)).1.toNat 0
  else if ss.getD (l.getD 1 (0, 0)).1.toNat 0 = s then (s + 1).tmod (n.es.length + 1) else s
noncomputable def nextAt (n : Net) (r : Int) (ss : List Int) (v : Nat) (l : List (Int × Int)) (s : Int) : Int :=
  if r = 1 then treeS n l ss v
  else if r = 2 then (if s ∈ nearSt l ss then (leastN (nearSt l ss) : Int) else s)
  else if r = 3 then (if (1 : Int) ∈ nearSt l ss then 0 else 1)
  else if r = 4 then matchS l ss s
  else tokenS n l ss v s
noncomputable def nextS (n : Net) (r : Int) (ss : List Int) (v : Nat) : Int := nextAt n r ss v (n.es.getD v []) (ss.getD v 0)
theorem nextS_at {n : Net} {r : Int} {ss : List Int} {v : Nat} {l : List (Int × Int)} {s : Int} (hl : n.es[v]? = some l) (hs : ss[v]? = some s) : nextS n r ss v = nextAt n r ss v l s := by unfold nextS;rw [List.getD_eq_getElem?_getD, hl, List.getD_eq_getElem?_getD, hs];rfl
theorem leastOf_min (k : Int) : ∀ (xs : List Int) (x : Int), leastOf k (x :: xs) = min (xs.foldl min x + 1) k
  | [], x => by show (if k < x + 1 then k else x + 1) = _;simp only [List.foldl_nil];omega
  | y :: r, x => by have h := leastOf_min k r (min x y);simp only [List.foldl_cons] at h ⊢;rw [← h];show leastOf (if (if k < x + 1 then k else x + 1) < y + 1 then (if k < x + 1 then k else x + 1) else y + 1) r = leastOf (if k < min x y + 1 then k else min x y + 1) r;congr 1;omega
noncomputable def enN (n : Net) (r : Int) (ss : List Int) : List Nat := (List.range ss.length).filter fun v => decide (nextS n r ss v ≠ ss.getD v 0)
noncomputable def enS (n : Net) (r : Int) (ss : List Int) : List Int := (enN n r ss).map fun v : Nat => (v : Int)
noncomputable def moveS (n : Net) (r : Int) (ss : List Int) (set : List Int) : List Int := set.foldl (fun out v => out.set v.toNat (nextS n r ss v.toNat)) ss
theorem moveS_snoc (n : Net) (r : Int) (ss set : List Int) (v : Int) : moveS n r ss (set ++ [v]) = (moveS n r ss set).set v.toNat (nextS n r ss v.toNat) := by unfold moveS; rw [List.foldl_append]; rfl
theorem moveS_len (n : Net) (r : Int) (ss : List Int) : ∀ set : List Int, (moveS n r ss set).length = ss.length := by
  suffices h : ∀ (set out : List Int), (set.foldl (fun out v => out.set v.toNat (nextS n r ss v.toNat)) out).length = out.length from fun set => h set ss
  intro set;induction set with
  | nil => intro out; rfl
  | cons v t ih => intro out; rw [List.foldl_cons, ih, List.length_set]
theorem enS_mem {n : Net} {r : Int} {ss : List Int} {v : Int} (h : v ∈ enS n r ss) : 0 ≤ v ∧ v.toNat < ss.length := by unfold enS enN at h;obtain ⟨u, hu, rfl⟩ := List.mem_map.1 h;have := List.mem_range.1 (List.mem_filter.1 hu).1;omega
end Go.Proofs.YtdghoienjegffaaGreat
namespace Go.Proofs.YtdghoienjegffaaGreat
set_option linter.all false
theorem row_in {n : Net} (h : netP n) {v : Nat} {l : Ends} (hl : n.es[v]? = some l) {e : Int × Int} (he : e ∈ l) : 0 ≤ e.1 ∧ e.1.toNat < n.es.length := h.endsIn l (List.mem_of_getElem? hl) e he
theorem sts_at {n : Net} {r : Int} {ss : List Int} (hs : Sts (cnts n r) ss) {v : Nat} {l : Ends} (hl : n.es[v]? = some l) : ∃ s, ss[v]? = some s ∧ 0 ≤ s ∧ s < cntAt n r l := by
  have hv : v < ss.length := by rw [← hs.1, cnts_len]; exact (List.getElem?_eq_some_iff.1 hl).1
  exact ⟨_, List.getElem?_eq_getElem hv, hs.2 v _ _ (cnts_at hl) (List.getElem?_eq_getElem hv)⟩
theorem cntAt_bd {n : Net} (h : netP n) (r : Int) {v : Nat} {l : Ends} (hl : n.es[v]? = some l) : 1 ≤ cntAt n r l ∧ cntAt n r l ≤ 41 := cnts_bd h r _ (List.mem_of_getElem? (cnts_at (r := r) hl))
theorem near_bd {n : Net} {r : Int} {ss : List Int} (h : netP n) (hs : Sts (cnts n r) ss) {v : Nat} {l : Ends} (hl : n.es[v]? = some l) {x : Int} (hx : x ∈ nearSt l ss) : 0 ≤ x ∧ x ≤ 40 := by obtain ⟨e, he, rfl⟩ := List.mem_map.1 hx;obtain ⟨e0, e1⟩ := row_in h hl he;obtain ⟨s, hs1, hs2, hs3⟩ := sts_at hs (List.getElem?_eq_getElem e1);have := cntAt_bd h r (List.getElem?_eq_getElem e1);rw [List.getD_eq_getElem?_getD, hs1];show 0 ≤ s ∧ s ≤ 40;omega
theorem leastOf_bd (k : Int) : ∀ (xs : List Int) (a : Int), 0 ≤ a → a ≤ k → (∀ x ∈ xs, 0 ≤ x) → 0 ≤ leastOf a xs ∧ leastOf a xs ≤ k
  | [], a, h0, h1, _ => ⟨h0, h1⟩
  | x :: r, a, h0, h1, hx => by have hx0 := hx x (by simp);show 0 ≤ leastOf (if a < x + 1 then a else x + 1) r ∧ leastOf (if a < x + 1 then a else x + 1) r ≤ k;exact leastOf_bd k r _ (by split <;> omega) (by split <;> omega) fun y hy => hx y (by simp [hy])
theorem portI_bd {α : Type} (p : α → Bool) (l : List α) : -1 ≤ portI p l ∧ portI p l < l.length := by
  unfold portI;cases h : l.findIdx? p with
  | none => dsimp only; omega
  | some i =>
    have := (List.findIdx?_eq_some_iff_getElem.1 h).1;dsimp only;omega
theorem next_bd {n : Net} {r : Int} {ss : List Int} {v : Nat} {l : Ends} {s : Int} (ha : askP n r) (hs : Sts (cnts n r) ss) (hl : n.es[v]? = some l) (hv : ss[v]? = some s) :
  0 ≤ nextAt n r ss v l s ∧ nextAt n r ss v l s < cntAt n r l := by
 obtain ⟨hn, hr, hp, hring⟩ := ha;have hb := hs.2 v _ _ (cnts_at hl) hv;have hlm := List.mem_of_getElem? hl;have hnear : ∀ x ∈ nearSt l ss, 0 ≤ x ∧ x ≤ 40 := fun x hx => near_bd hn hs hl hx
 unfold nextAt;by_cases h1 : r = 1
 ·
  subst h1;rw [if_pos rfl];have hc : cntAt n 1 l = n.es.length + 1 := rfl;rw [hc];unfold treeS;split
  · omega
  ·
   have := leastOf_bd n.es.length (nearSt l ss) n.es.length (by omega) (by omega) fun x hx => (hnear x hx).1
   omega
 rw [if_neg h1];by_cases h2 : r = 2
 ·
  subst h2;rw [if_pos rfl];have hc : cntAt n 2 l = most (degs n) + 1 := rfl;rw [hc] at hb ⊢;split
  ·
   have hd : (l.length : Int) ≤ most (degs n) := most_ge _ (List.mem_map.2 ⟨l, hlm, rfl⟩);have hlf : leastN (nearSt l ss) ≤ l.length := by
    by_cases hx : ∃ c, LeastFree (nearSt l ss) c
    · obtain ⟨c, hc⟩ := hx;rw [leastN_eq hc, ← nearSt_len l ss];exact pigeon c _ hc.1
    · unfold leastN;rw [dif_neg hx];omega
   omega
  · exact hb
 rw [if_neg h2];by_cases h3 : r = 3
 · subst h3;rw [if_pos rfl];have hc : cntAt n 3 l = 2 := rfl;rw [hc];split <;> omega
 rw [if_neg h3];by_cases h4 : r = 4
 ·
  subst h4;rw [if_pos rfl];have hc : cntAt n 4 l = l.length + 1 := rfl;rw [hc] at hb ⊢;unfold matchS;have b1 := portI_bd (pointsTo ss) l;have b2 := portI_bd (isFree ss) l;split
  · split <;> omega
  · split <;> omega
 rw [if_neg h4];have h5 : r = 5 := by omega
 subst h5;have hc : cntAt n 5 l = n.es.length + 1 := rfl;rw [hc] at hb ⊢;obtain ⟨hl2, -⟩ := (hring rfl).2.2.2 l hlm;have hm : ss.getD (l.getD 1 (0, 0)).1.toNat 0 ∈ nearSt l ss := by refine List.mem_map.2 ⟨l.getD 1 (0, 0), ?_, rfl⟩;rw [List.getD_eq_getElem?_getD, List.getElem?_eq_getElem (by omega : 1 < l.length)];exact List.getElem_mem _
 obtain ⟨e, he, hee⟩ := List.mem_map.1 hm;obtain ⟨e0, e1⟩ := row_in hn hl he;obtain ⟨t, ht1, ht2, ht3⟩ := sts_at hs (List.getElem?_eq_getElem e1);have hc' : ∀ m : Ends, cntAt n 5 m = n.es.length + 1 := fun _ => rfl
 rw [hc'] at ht3;have hee' : ss.getD (l.getD 1 (0, 0)).1.toNat 0 = t := by rw [← hee, List.getD_eq_getElem?_getD, ht1]; rfl
 unfold tokenS;rw [hee'];split
 · omega
 ·
  split
  · exact ⟨Int.tmod_nonneg _ (by omega), Int.tmod_lt_of_pos _ (by omega)⟩
  · exact hb
theorem nextS_bd {n : Net} {r : Int} {ss : List Int} {v : Nat} (ha : askP n r) (hs : Sts (cnts n r) ss) (hv : v < ss.length) :
    ∃ k, (cnts n r)[v]? = some k ∧ 0 ≤ nextS n r ss v ∧ nextS n r ss v < k ∧ k ≤ 41 := by
  have hl : v < n.es.length := by rw [← cnts_len n r, hs.1]; exact hv
  rw [nextS_at (List.getElem?_eq_getElem hl) (List.getElem?_eq_getElem hv)];obtain ⟨h1, h2⟩ := next_bd ha hs (List.getElem?_eq_getElem hl) (List.getElem?_eq_getElem hv);exact ⟨_, cnts_at (List.getElem?_eq_getElem hl), h1, h2, (cntAt_bd ha.1 r (List.getElem?_eq_getElem hl)).2⟩
theorem Sts.put {cs ss : List Int} (h : Sts cs ss) {v : Nat} {k x : Int} (hk : cs[v]? = some k) (h0 : 0 ≤ x) (h1 : x < k) : Sts cs (ss.set v x) := by
  refine ⟨by rw [List.length_set]; exact h.1, fun u a b ha hb => ?_⟩;by_cases e : u = v
  · subst e
    rw [hk] at ha;obtain rfl := Option.some.inj ha;have hu : u < ss.length := by rw [← h.1]; exact (List.getElem?_eq_some_iff.1 hk).1
    rw [List.getElem?_set_self hu] at hb;obtain rfl := Option.some.inj hb;exact ⟨h0, h1⟩
  · rw [List.getElem?_set_ne (Ne.symm e)] at hb
    exact h.2 u a b ha hb
theorem moveS_sts {n : Net} {r : Int} {ss : List Int} (ha : askP n r) (hs : Sts (cnts n r) ss) (set : List Int) (hset : ∀ v ∈ set, 0 ≤ v ∧ v.toNat < ss.length) : Sts (cnts n r) (moveS n r ss set) := by
  suffices h : ∀ (set out : List Int), Sts (cnts n r) out → (∀ v ∈ set, 0 ≤ v ∧ v.toNat < ss.length) → Sts (cnts n r) (set.foldl (fun out v => out.set v.toNat (nextS n r ss v.toNat)) out) from h set ss hs hset
  intro set;induction set with
  | nil => intro out ho _; exact ho
  | cons v t ih =>
    intro out ho hv;rw [List.foldl_cons];obtain ⟨k, hk, h0, h1, -⟩ := nextS_bd ha hs (hv v (by simp)).2;exact ih _ (ho.put hk h0 h1) fun u hu => hv u (by simp [hu])
end Go.Proofs.YtdghoienjegffaaGreat
