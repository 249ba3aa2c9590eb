/-
  Plain facts on the texts of numbers, walk problems and certificates: which bytes stand in them, and that cutting them gives back their words. No program's function is called here.
  The plain law of ParseLabEntry: the text of a valid entry is read back by the reference's words, and cut by the program's cuts. No program's function is called here.
  The reference's srWords and srReadPut: the words of a put are read as rdPut says.
  The reference's srRead and ParseLabEntry: a string is read as the entry whose text it is, if there is one.
  The program's readPut and ParseLabEntry: a string is read as the entry whose text it is, if there is one.
-/
import Derived.Lib.IndexMore
import Derived.Lib.IndexLaws
import Derived.Test.YtcfbkickiijjkaaGreatDoorVParseCertSpec
import Derived.Test.YtcfbkickiijjkaaGreatDoorVShelf4
namespace Go.Proofs.YtcfbkickiijjkaaGreatDoor
section
set_option linter.all false
theorem spl_app (b : UInt8) : ∀ (l r cur : List UInt8), spl b (l ++ b :: r) cur = spl b l cur ++ spl b r []
  | [], r, cur => by simp [spl]
  | c :: l, r, cur => by
    rw [List.cons_append, spl_cons, spl_cons]
    by_cases h : c = b
    · rw [if_pos h, if_pos h, spl_app b l r []]; rfl
    · rw [if_neg h, if_neg h, spl_app b l r (cur ++ [c])]
theorem spl_no (b : UInt8) : ∀ (l cur : List UInt8), b ∉ l → spl b l cur = [cur ++ l]
  | [], cur, _ => by simp [spl]
  | c :: l, cur, h => by
    have h1 : c ≠ b := fun e => h (by simp [e])
    rw [spl_cons, if_neg h1, spl_no b l _ (fun k => h (by simp [k]))]
    simp
theorem spl_join (b : UInt8) : ∀ (ls : List (List UInt8)), ls ≠ [] → (∀ l ∈ ls, b ∉ l) → spl b (joinL [b] ls) [] = ls
  | [], h, _ => absurd rfl h
  | [x], _, h => by rw [show joinL [b] [x] = x from rfl, spl_no b x [] (h x (by simp))]; rfl
  | x :: y :: r, _, h => by
    rw [joinL_cons _ _ _ (by simp)]
    show spl b (x ++ b :: joinL [b] (y :: r)) [] = _
    rw [spl_app, spl_no b x [] (h x (by simp)), spl_join b (y :: r) (by simp) (fun l hl => h l (by simp [hl]))]
    rfl
theorem spl_mem (b : UInt8) : ∀ (l cur p : List UInt8), p ∈ spl b l cur → ∀ x ∈ p, x ∈ cur ∨ x ∈ l
  | [], cur, p, hp, x, hx => by
    have : p = cur := by simpa [spl] using hp
    subst this
    exact .inl hx
  | c :: l, cur, p, hp, x, hx => by
    rw [spl_cons] at hp
    split at hp
    · rcases List.mem_cons.1 hp with rfl | hp
      · exact .inl hx
      · rcases spl_mem b l [] p hp x hx with h | h
        · cases h
        · exact .inr (by simp [h])
    · rcases spl_mem b l _ p hp x hx with h | h
      · rcases List.mem_append.1 h with h | h
        · exact .inl h
        · exact .inr (by simpa using .inl (by simpa using h))
      · exact .inr (by simp [h])
theorem dec_len_le : ∀ (k n : Nat), n < 10 ^ (k + 1) → (Lib.decDigits n).length ≤ k + 1
  | 0, n, h => by rw [dec_small (by simpa using h)]; simp
  | k + 1, n, h => by
    by_cases h1 : n < 10
    · rw [dec_small h1]; simp
    · rw [dec_big h1]
      have := dec_len_le k (n / 10) (by rw [Nat.pow_succ] at h; omega)
      simp
      omega
theorem num_can {x : Int} (h0 : 0 ≤ x) (h1 : x < 1000000) : canP (numT x) ∧ rdI (numT x) = x := by
  obtain ⟨h, hv⟩ := val_dec (x.toNat + 1) x.toNat (by omega)
  have hc : canP (numT x) := ⟨h, dec_len_le 5 x.toNat (by omega)⟩
  refine ⟨hc, ?_⟩
  rw [rdI_t hc]
  show ((valD (Lib.decDigits x.toNat) : Nat) : Int) = x
  rw [hv]
  omega
theorem num_bytes (x : Int) : ∀ b ∈ numT x, dgt b := (val_dec (x.toNat + 1) x.toNat (by omega)).1.2.1
theorem num_free {x : Int} {b : UInt8} (hb : ¬ dgt b) : b ∉ numT x := fun h => hb (num_bytes x b h)
theorem nd45 : ¬ dgt 45 := by unfold dgt; decide
theorem nd46 : ¬ dgt 46 := by unfold dgt; decide
theorem nd32 : ¬ dgt 32 := by unfold dgt; decide
theorem nums_rd {b : UInt8} (hb : ¬ dgt b) {xs : List Int} (hne : xs ≠ []) (h : ∀ x ∈ xs, 0 ≤ x ∧ x < 1000000) : spl b (numsT [b] xs) [] = xs.map numT ∧ numsR b (numsT [b] xs) = xs ∧ numsOk b (numsT [b] xs) := by
  have e : spl b (numsT [b] xs) [] = xs.map numT := spl_join b _ (by simpa using hne) (fun l hl => by
    obtain ⟨x, _, rfl⟩ := List.mem_map.1 hl
    exact num_free hb)
  refine ⟨e, ?_, ?_⟩
  · unfold numsR
    rw [e, List.map_map]
    have : xs.map (rdI ∘ numT) = xs.map id := List.map_congr_left fun x hx => (num_can (h x hx).1 (h x hx).2).2
    rw [this, List.map_id]
  · intro p hp
    rw [e] at hp
    obtain ⟨x, hx, rfl⟩ := List.mem_map.1 hp
    exact (num_can (h x hx).1 (h x hx).2).1
theorem joinL_mem (sep : List UInt8) : ∀ (ls : List (List UInt8)) (b : UInt8), b ∈ joinL sep ls → b ∈ sep ∨ ∃ l ∈ ls, b ∈ l
  | [], b, h => by cases h
  | [x], b, h => .inr ⟨x, by simp, h⟩
  | x :: y :: r, b, h => by
    rw [joinL_cons _ _ _ (by simp)] at h
    rcases List.mem_append.1 h with h | h
    · exact .inr ⟨x, by simp, h⟩
    · rcases List.mem_append.1 h with h | h
      · exact .inl h
      · rcases joinL_mem sep (y :: r) b h with h | ⟨l, hl, hb⟩
        · exact .inl h
        · exact .inr ⟨l, by simp [List.mem_cons.1 hl], hb⟩
theorem nums_free {b c : UInt8} (hb : ¬ dgt b) (hbc : b ≠ c) (xs : List Int) : b ∉ numsT [c] xs := fun h => by
  rcases joinL_mem _ _ _ h with h | ⟨l, hl, h⟩
  · exact hbc (by simpa using h)
  · obtain ⟨x, _, rfl⟩ := List.mem_map.1 hl
    exact num_free hb h
def txB (b : UInt8) : Prop := b.toNat = 32 ∨ b.toNat = 45 ∨ b.toNat = 46 ∨ (48 ≤ b.toNat ∧ b.toNat ≤ 57) ∨ (97 ≤ b.toNat ∧ b.toNat ≤ 122)
theorem tx_dgt {b : UInt8} (h : dgt b) : txB b := .inr (.inr (.inr (.inl h)))
theorem tx_nums {c : UInt8} (hc : txB c) (xs : List Int) : ∀ b ∈ numsT [c] xs, txB b := fun b h => by
  rcases joinL_mem _ _ _ h with h | ⟨l, hl, h⟩
  · obtain rfl : b = c := by simpa using h
    exact hc
  · obtain ⟨x, _, rfl⟩ := List.mem_map.1 hl
    exact tx_dgt (num_bytes x b h)
theorem tx_list (l : List UInt8) (h : (l.all fun b => b.toNat == 32 || b.toNat == 45 || b.toNat == 46 || (decide (48 ≤ b.toNat) && decide (b.toNat ≤ 57)) || (decide (97 ≤ b.toNat) && decide (b.toNat ≤ 122))) = true) : ∀ b ∈ l, txB b := fun b hb => by
  have := List.all_eq_true.1 h b hb
  simp only [Bool.or_eq_true, Bool.and_eq_true, beq_iff_eq, decide_eq_true_eq] at this
  unfold txB
  omega
theorem tx45 : txB 45 := by unfold txB; decide
theorem tx46 : txB 46 := by unfold txB; decide
theorem tx_walk (n : Int) (xss : List (List Int)) : ∀ b ∈ walkT n xss, txB b := fun b hb => by
  unfold walkT at hb
  rcases List.mem_append.1 hb with hb | hb
  · rcases List.mem_append.1 hb with hb | hb
    · exact tx_list _ (by decide) b hb
    · exact tx_dgt (num_bytes n b hb)
  · unfold arcsT at hb
    obtain ⟨l, hl, hb⟩ := List.mem_flatten.1 hb
    obtain ⟨xs, _, rfl⟩ := List.mem_map.1 hl
    rcases List.mem_cons.1 hb with rfl | hb
    · exact .inl rfl
    · exact tx_nums tx45 xs b hb
theorem tx_ranks (rs : List (List Int)) : ∀ b ∈ ranksT rs, txB b := fun b hb => by
  unfold ranksT at hb
  obtain ⟨l, hl, hb⟩ := List.mem_flatten.1 hb
  obtain ⟨xs, _, rfl⟩ := List.mem_map.1 hl
  rcases List.mem_cons.1 hb with rfl | hb
  · exact .inl rfl
  · exact tx_nums tx46 xs b hb
theorem tx_app {l r : List UInt8} (hl : ∀ b ∈ l, txB b) (hr : ∀ b ∈ r, txB b) : ∀ b ∈ l ++ r, txB b := fun b hb => by
  rcases List.mem_append.1 hb with h | h
  · exact hl b h
  · exact hr b h
theorem tx_cert (cl lb : Int) (f s : List Int) (rs : List (List Int)) : ∀ b ∈ certT cl lb f s rs, txB b := by
  unfold certT headT
  refine tx_app ?_ (tx_ranks rs)
  have hn : ∀ b ∈ numT lb, txB b := fun b hb => tx_dgt (num_bytes lb b hb)
  split
  · exact tx_app (tx_list _ (by decide)) hn
  · split
    · exact tx_app (tx_app (tx_app (tx_app (tx_app (tx_list _ (by decide)) hn) (tx_list _ (by decide))) (tx_nums tx45 f)) (tx_list _ (by decide))) (tx_nums tx45 s)
    · split
      · exact tx_app (tx_app (tx_app (tx_list _ (by decide)) hn) (tx_list _ (by decide))) (tx_nums tx45 f)
      · exact tx_list _ (by decide)
theorem tx_not {l : List UInt8} (h : ∀ b ∈ l, txB b) (c : UInt8) (hc : ¬ txB c) : c ∉ l := fun k => hc (h c k)
theorem nt124 : ¬ txB 124 := by unfold txB; decide
theorem nt10 : ¬ txB 10 := by unfold txB; decide
theorem nt35 : ¬ txB 35 := by unfold txB; decide
theorem walk_words {n : Int} {xss : List (List Int)} (hg : Good n xss) : spl 32 (walkT n xss) [] = walkW :: numT n :: xss.map (numsT [45]) := by
  rw [← walkT_join]
  refine spl_join 32 _ (by simp) (fun l hl => ?_)
  rcases List.mem_cons.1 hl with rfl | hl
  · decide
  · rcases List.mem_cons.1 hl with rfl | hl
    · exact num_free nd32
    · obtain ⟨xs, _, rfl⟩ := List.mem_map.1 hl
      exact nums_free nd32 (by decide) xs
theorem Good.n_bd {n : Int} {xss : List (List Int)} (hg : Good n xss) : 1 ≤ n ∧ n ≤ 12 := by have := hg.1; unfold inB at this; simpa using this
theorem map_back {α β : Type} (f : α → β) (g : β → α) : ∀ (l : List α), (∀ x ∈ l, g (f x) = x) → (l.map f).map g = l
  | [], _ => rfl
  | x :: l, h => by simp only [List.map_cons, h x (by simp), map_back f g l (fun y hy => h y (by simp [hy]))]
theorem arc_rd {n : Int} {xss : List (List Int)} (hg : Good n xss) {xs : List Int} (h : xs ∈ xss) : numsR 45 (numsT [45] xs) = xs ∧ numsOk 45 (numsT [45] xs) := by
  have h1 := hg.small xs h
  exact (nums_rd nd45 (fun e => by rw [e] at h1; simp at h1) (fun x hx => by have := h1.2 x hx; omega)).2
theorem pw_text {n : Int} {xss : List (List Int)} (hg : Good n xss) : pwP (walkT n xss) ∧ pwB (walkT n xss) = true ∧ pwN (walkT n xss) = n ∧ pwX (walkT n xss) = xss := by
  have hw := walk_words hg
  have hb := hg.n_bd
  obtain ⟨c1, c2⟩ := num_can (x := n) (by omega) (by omega)
  have hx : (xss.map (numsT [45])).map (numsR 45) = xss := map_back _ _ _ fun xs hxs => (arc_rd hg hxs).1
  have hp : pwP (walkT n xss) := ⟨numT n, xss.map (numsT [45]), hw, c1, fun p hp => by
    obtain ⟨xs, hxs, rfl⟩ := List.mem_map.1 hp
    exact (arc_rd hg hxs).2, by rw [c2, hx]; exact hg⟩
  obtain ⟨a, b, c⟩ := pw_t hw hp
  exact ⟨hp, a, by rw [b, c2], by rw [c, hx]⟩
theorem cert_words {cl lb : Int} {f s : List Int} {rs : List (List Int)} : spl 32 (certT cl lb f s rs) [] = headW cl lb f s ++ rs.map (numsT [46]) := by
  rw [← headW_join]
  refine spl_join 32 _ (by unfold headW; split <;> (try split) <;> (try split) <;> simp) (fun l hl => ?_)
  rcases List.mem_append.1 hl with hl | hl
  · have hn : (32 : UInt8) ∉ numT lb := num_free nd32
    have hf : (32 : UInt8) ∉ numsT [45] f := nums_free nd32 (by decide) f
    have hs : (32 : UInt8) ∉ numsT [45] s := nums_free nd32 (by decide) s
    unfold headW at hl
    split at hl
    · rcases List.mem_cons.1 hl with rfl | hl
      · decide
      · rcases List.mem_cons.1 hl with rfl | hl
        · exact hn
        · cases hl
    · split at hl
      · rcases List.mem_cons.1 hl with rfl | hl
        · decide
        · rcases List.mem_cons.1 hl with rfl | hl
          · exact hn
          · rcases List.mem_cons.1 hl with rfl | hl
            · exact hf
            · rcases List.mem_cons.1 hl with rfl | hl
              · exact hs
              · cases hl
      · split at hl
        · rcases List.mem_cons.1 hl with rfl | hl
          · decide
          · rcases List.mem_cons.1 hl with rfl | hl
            · exact hn
            · rcases List.mem_cons.1 hl with rfl | hl
              · exact hf
              · cases hl
        · rcases List.mem_cons.1 hl with rfl | hl
          · decide
          · cases hl
  · obtain ⟨xs, _, rfl⟩ := List.mem_map.1 hl
    exact nums_free nd32 (by decide) xs
theorem rank_rd {rs : List (List Int)} (h : ∀ r ∈ rs, r.length = 3 ∧ ∀ x ∈ r, 0 ≤ x ∧ x ≤ 1000) : (rs.map (numsT [46])).map (numsR 46) = rs := map_back _ _ _ fun r hr =>
  (nums_rd nd46 (fun e => by have := (h r hr).1; rw [e] at this; simp at this) (fun x hx => by have := (h r hr).2 x hx; omega)).2.1
theorem closed_rd {f : List Int} (h2 : 2 ≤ f.length) (h : ∀ x ∈ f, 0 ≤ x ∧ x ≤ 11) : numsR 45 (numsT [45] f) = f :=
  (nums_rd nd45 (fun e => by rw [e] at h2; simp at h2) (fun x hx => by have := h x hx; omega)).2.1
theorem pc_text {n : Nat} {xss : List (List Int)} {cl lb : Int} {f s : List Int} {rs : List (List Int)} (hg : Good n xss) (hc : certP n xss cl lb f s rs) :
  ∃ p0 t, spl 32 (certT cl lb f s rs) [] = p0 :: t ∧ clsI p0 = cl ∧ scLb cl t = lb ∧ scF cl t = f ∧ scS cl t = s ∧ scR cl t = rs ∧ pcP n xss p0 t := by
 have sm := certP.small hg hc
 have hlb := (num_can (x := lb) (by have := sm.lb; omega) (by have := sm.lb; omega)).2
 have hfin : ∀ p0 t, spl 32 (certT cl lb f s rs) [] = p0 :: t → clsI p0 = cl → (cl ≠ 0 → t ≠ []) → scLb cl t = lb → scF cl t = f → scS cl t = s → scR cl t = rs → pcP n xss p0 t := by
  intro p0 t h1 h2 h3 h4 h5 h6 h7
  subst h2
  have := (sc_iff hg h1).1 ⟨h3, by rw [h4, h5, h6, h7]; exact hc, by rw [h4, h5, h6, h7]⟩
  exact ⟨hg, ⟨this.1, this.2.1⟩, this.2.2⟩
 have hw := cert_words (cl := cl) (lb := lb) (f := f) (s := s) (rs := rs)
 have hrs := rank_rd sm.r.2
 have in2 : ∀ {l : List Int}, inB l.length 2 200 = true → 2 ≤ l.length := fun h => by unfold inB at h; simp at h; omega
 rcases hc with ⟨rfl, hc⟩ | ⟨rfl, hc⟩ | ⟨rfl, hc⟩ | ⟨rfl, hc⟩
 ·
  have hz := hc.2.1
  obtain rfl : f = [] := List.eq_nil_of_length_eq_zero (by omega)
  obtain rfl : s = [] := List.eq_nil_of_length_eq_zero (by omega)
  obtain rfl : rs = [] := List.eq_nil_of_length_eq_zero (by omega)
  have h1 : spl 32 (certT 3 lb [] [] []) [] = wConstant :: [numT lb] := hw
  have a1 : scLb 3 [numT lb] = lb := hlb
  refine ⟨_, _, h1, by decide, a1, rfl, rfl, rfl, hfin _ _ h1 (by decide) (by simp) a1 rfl rfl rfl⟩
 ·
  have hz := hc.2.1
  obtain rfl : rs = [] := List.eq_nil_of_length_eq_zero (by omega)
  have h1 : spl 32 (certT 2 lb f s []) [] = wStar :: [numT lb, numsT [45] f, numsT [45] s] := hw
  have a1 : scLb 2 [numT lb, numsT [45] f, numsT [45] s] = lb := hlb
  have a2 : scF 2 [numT lb, numsT [45] f, numsT [45] s] = f := closed_rd (in2 hc.2.2.2.1.1) sm.f.2
  have a3 : scS 2 [numT lb, numsT [45] f, numsT [45] s] = s := closed_rd (in2 hc.2.2.2.2.1.1) sm.s.2
  refine ⟨_, _, h1, by decide, a1, a2, a3, rfl, hfin _ _ h1 (by decide) (by simp) a1 a2 a3 rfl⟩
 ·
  have hz := hc.2.1
  obtain rfl : s = [] := List.eq_nil_of_length_eq_zero (by omega)
  have h1 : spl 32 (certT 1 lb f [] rs) [] = wGlobal :: (numT lb :: numsT [45] f :: rs.map (numsT [46])) := hw
  have a1 : scLb 1 (numT lb :: numsT [45] f :: rs.map (numsT [46])) = lb := hlb
  have a2 : scF 1 (numT lb :: numsT [45] f :: rs.map (numsT [46])) = f := by
   unfold scF
   rw [if_pos ⟨.inl rfl, by simp⟩]
   exact closed_rd (in2 hc.2.2.1.1) sm.f.2
  have a4 : scR 1 (numT lb :: numsT [45] f :: rs.map (numsT [46])) = rs := hrs
  have a3 : scS 1 (numT lb :: numsT [45] f :: rs.map (numsT [46])) = [] := by unfold scS; rw [if_neg (fun h => by cases h.1)]
  refine ⟨_, _, h1, by decide, a1, a2, a3, a4, hfin _ _ h1 (by decide) (by simp) a1 a2 a3 a4⟩
 ·
  have hz := hc.2.1
  obtain rfl : f = [] := List.eq_nil_of_length_eq_zero (by omega)
  obtain rfl : s = [] := List.eq_nil_of_length_eq_zero (by omega)
  obtain rfl : lb = 0 := hc.1
  have h1 : spl 32 (certT 0 0 [] [] rs) [] = wNever :: rs.map (numsT [46]) := hw
  have a4 : scR 0 (rs.map (numsT [46])) = rs := hrs
  refine ⟨_, _, h1, by decide, rfl, rfl, rfl, a4, hfin _ _ h1 (by decide) (fun h => absurd rfl h) rfl rfl rfl a4⟩
end
section
set_option linter.all false
def putW : List UInt8 := [112, 117, 116]
def dropW : List UInt8 := [100, 114, 111, 112]
def nameW : List UInt8 := [110, 97, 109, 101]
def barW : List UInt8 := [124]
def byt (l : List UInt8) : ByteArray := ⟨l.toArray⟩
theorem byt_data (s : ByteArray) : byt s.data.toList = s := rfl
theorem ba_ext {a b : ByteArray} (h : a.data.toList = b.data.toList) : a = b := by
  rw [← byt_data a, ← byt_data b, h]
theorem tx_name {l : List UInt8} (h : nameP l) : ∀ b ∈ l, 45 < b.toNat ∧ b.toNat ≤ 122 := fun b hb => by
  obtain ⟨j, hj, rfl⟩ := List.mem_iff_getElem.1 hb
  have := h.1 j l[j] (List.getElem?_eq_getElem hj)
  rcases this with h | h <;> omega
theorem name_free {l : List UInt8} (h : nameP l) (c : UInt8) (hc : ¬ (45 < c.toNat ∧ c.toNat ≤ 122)) : c ∉ l := fun k => hc (tx_name h c k)
def zI : Item := ⟨byt [], 0, [], 0, 0, [], [], []⟩
def zE : Entry := ⟨0, byt [], byt [], zI⟩
theorem emptyP.zero {x : Item} (h : emptyP x) : x = zI := by
  obtain ⟨h1, h2, h3, h4, h5⟩ := h
  have e1 : x.nm = byt [] := ba_ext (by rw [h1]; rfl)
  have e2 : x.xss = [] := List.eq_nil_of_length_eq_zero (by omega)
  have e3 : x.f = [] := List.eq_nil_of_length_eq_zero (by omega)
  have e4 : x.s = [] := List.eq_nil_of_length_eq_zero (by omega)
  have e5 : x.rs = [] := List.eq_nil_of_length_eq_zero (by omega)
  cases x
  simp only at *
  subst_vars
  rfl
def barTo (w : List (List UInt8)) : Nat → Nat
  | 0 => 0
  | k + 1 => if w[k]? = some barW then k else barTo w k
theorem barTo_at {w : List (List UInt8)} {b : Nat} (hb : w[b]? = some barW) : ∀ (k : Nat), b < k → (∀ j, b < j → j < k → w[j]? ≠ some barW) → barTo w k = b
  | 0, h, _ => absurd h (by omega)
  | k + 1, h, hn => by
    unfold barTo
    by_cases e : k = b
    · subst e; rw [if_pos hb]
    · rw [if_neg (hn k (by omega) (by omega)), barTo_at hb k (by omega) fun j h1 h2 => hn j h1 (by omega)]
theorem barTo_le {w : List (List UInt8)} : ∀ k, barTo w k ≤ k
  | 0 => Nat.le_refl _
  | k + 1 => by unfold barTo; split; omega; have := barTo_le (w := w) k; omega
def wlk (w : List (List UInt8)) : List UInt8 := joinL [32] ((w.take (barTo w w.length)).drop 2)
def crt (w : List (List UInt8)) : List UInt8 := joinL [32] (w.drop (barTo w w.length + 1))
noncomputable def pcOk (n : Int) (xss : List (List Int)) (l : List UInt8) : Bool := pcB n xss ((spl 32 l []).headD []) ((spl 32 l []).tail)
noncomputable def pcI (nm : ByteArray) (n : Int) (xss : List (List Int)) (l : List UInt8) : Item :=
  let p0 := (spl 32 l []).headD []
  let t := (spl 32 l []).tail
  ⟨nm, n, xss, if pcB n xss p0 t = true then clsI p0 else 0, if pcB n xss p0 t = true then scLb (clsI p0) t else 0, if pcB n xss p0 t = true then scF (clsI p0) t else [], if pcB n xss p0 t = true then scS (clsI p0) t else [], if pcB n xss p0 t = true then scR (clsI p0) t else []⟩
theorem put_words {x : Item} (h : itemP x) : ∃ W C, spl 32 (walkT x.n x.xss) [] = W ∧ spl 32 (certT x.cl x.lb x.f x.s x.rs) [] = C ∧ spl 32 (putT x) [] = putW :: x.nm.data.toList :: (W ++ barW :: C) ∧ 2 ≤ W.length ∧ 1 ≤ C.length ∧ barW ∉ W ∧ barW ∉ C := by
  refine ⟨_, _, rfl, rfl, ?_, ?_, ?_, ?_, ?_⟩
  · have e : putT x = [112, 117, 116] ++ 32 :: (x.nm.data.toList ++ 32 :: (walkT x.n x.xss ++ 32 :: ([124] ++ 32 :: certT x.cl x.lb x.f x.s x.rs))) := by unfold putT; simp
    rw [e, spl_app, spl_app, spl_app, spl_app, spl_no 32 [112, 117, 116] [] (by decide), spl_no 32 x.nm.data.toList [] (name_free h.1 32 (by decide)), spl_no 32 [124] [] (by decide)]
    rfl
  · rw [walk_words h.good]; simp
  · exact List.length_pos_iff.2 (spl_ne _ _ _)
  · intro k
    rcases spl_mem 32 _ _ _ k 124 (by decide) with h1 | h1
    · cases h1
    · exact tx_not (tx_walk _ _) 124 nt124 h1
  · intro k
    rcases spl_mem 32 _ _ _ k 124 (by decide) with h1 | h1
    · cases h1
    · exact tx_not (tx_cert _ _ _ _ _) 124 nt124 h1
theorem bar_of {a b : List UInt8} {W C : List (List UInt8)} (ha : a ≠ barW) (hW : barW ∉ W) (hC : barW ∉ C) :
    barTo (a :: b :: (W ++ barW :: C)) (a :: b :: (W ++ barW :: C)).length = W.length + 2 := by
  refine barTo_at ?_ _ (by simp only [List.length_cons, List.length_append]; omega) (fun j h1 h2 h3 => ?_)
  · simp
  · obtain ⟨i, rfl⟩ : ∃ i, j = W.length + 2 + (i + 1) := ⟨j - W.length - 3, by omega⟩
    have : (a :: b :: (W ++ barW :: C))[W.length + 2 + (i + 1)]? = C[i]? := by
      rw [show W.length + 2 + (i + 1) = (W.length + (i + 1)) + 1 + 1 by omega]
      simp only [List.getElem?_cons_succ]
      rw [List.getElem?_append_right (by omega)]
      rw [show W.length + (i + 1) - W.length = i + 1 by omega]
      simp
    rw [this] at h3
    exact hC (List.mem_of_getElem? h3)
theorem wlk_of {a b : List UInt8} {W C : List (List UInt8)} (ha : a ≠ barW) (hW : barW ∉ W) (hC : barW ∉ C) : wlk (a :: b :: (W ++ barW :: C)) = joinL [32] W ∧ crt (a :: b :: (W ++ barW :: C)) = joinL [32] C := by
  unfold wlk crt
  rw [bar_of ha hW hC]
  constructor
  · congr 1
    simp
  · congr 1
    rw [show W.length + 2 + 1 = (W.length + 1) + 1 + 1 by omega]
    simp only [List.drop_succ_cons]
    rw [List.drop_append]
    simp
noncomputable def rdPut (w : List (List UInt8)) : Entry :=
  if barTo w w.length < 3 ∨ w.length ≤ barTo w w.length + 1 ∨ pwB (wlk w) = false then zE
  else ⟨1, byt [], byt [], pcI (byt (w.getD 1 [])) (pwN (wlk w)) (pwX (wlk w)) (crt w)⟩
noncomputable def rdE (w : List (List UInt8)) : Entry :=
  if w.getD 0 [] = putW then rdPut w else if w.getD 0 [] = dropW ∧ w.length = 2 then ⟨2, byt (w.getD 1 []), byt [], zI⟩
  else if w.getD 0 [] = nameW ∧ w.length = 3 then ⟨3, byt (w.getD 1 []), byt (w.getD 2 []), zI⟩ else zE
theorem pcI_text {x : Item} (h : itemP x) : pcI x.nm x.n x.xss (certT x.cl x.lb x.f x.s x.rs) = x ∧ pcOk x.n x.xss (certT x.cl x.lb x.f x.s x.rs) = true := by
  have hb := h.good.n_bd
  have hn : ((x.n.toNat : Nat) : Int) = x.n := by omega
  have hg : Good (x.n.toNat : Int) x.xss := by rw [hn]; exact h.good
  obtain ⟨p0, t, h1, h2, h3, h4, h5, h6, h7⟩ := pc_text hg h.2.2
  rw [hn] at h7
  have hB : pcB x.n x.xss p0 t = true := propB_t h7
  constructor
  · unfold pcI
    simp only [h1, List.headD_cons, List.tail_cons, hB, if_true, h2, h3, h4, h5, h6]
  · unfold pcOk
    rw [h1]
    exact hB
theorem kd_text {e : Entry} (h : entryP e) : (e.kd = 1 ∧ e.nm = byt [] ∧ e.tn = byt [] ∧ itemP e.it ∧ entryT e = putT e.it) ∨ (e.kd = 2 ∧ nameP e.nm.data.toList ∧ e.tn = byt [] ∧ e.it = zI ∧ entryT e = dropW ++ 32 :: e.nm.data.toList) ∨
    (e.kd = 3 ∧ nameP e.nm.data.toList ∧ nameP e.tn.data.toList ∧ e.it = zI ∧ entryT e = nameW ++ 32 :: (e.nm.data.toList ++ 32 :: e.tn.data.toList)) := by
  rcases h with ⟨h1, h2, h3, h4⟩ | ⟨h1, h2, h3, h4⟩ | ⟨h1, h2, h3, h4⟩
  · exact .inl ⟨h1, ba_ext (by rw [h2]; rfl), ba_ext (by rw [h3]; rfl), h4, by unfold entryT; rw [if_pos h1]⟩
  · exact .inr (.inl ⟨h1, h2, ba_ext (by rw [h3]; rfl), h4.zero, by unfold entryT; rw [if_neg (by omega), if_pos h1]; rfl⟩)
  · exact .inr (.inr ⟨h1, h2, h3, h4.zero, by unfold entryT; rw [if_neg (by omega), if_neg (by omega)]; unfold nameW; simp⟩)
theorem rd_text {e : Entry} (h : entryP e) : rdE (spl 32 (entryT e) []) = e := by
 rcases kd_text h with ⟨h1, h2, h3, h4, h5⟩ | ⟨h1, h2, h3, h4, h5⟩ | ⟨h1, h2, h3, h4, h5⟩
 ·
  obtain ⟨W, C, e1, e2, e3, l1, l2, n1, n2⟩ := put_words h4
  obtain ⟨j1, j2⟩ := wlk_of (a := putW) (b := e.it.nm.data.toList) (by decide) n1 n2
  have jw : joinL [32] W = walkT e.it.n e.it.xss := by rw [← e1]; exact join_spl 32 _ []
  have jc : joinL [32] C = certT e.it.cl e.it.lb e.it.f e.it.s e.it.rs := by rw [← e2]; exact join_spl 32 _ []
  obtain ⟨_, q1, q2, q3⟩ := pw_text h4.good
  rw [h5, e3]
  unfold rdE
  rw [if_pos (by rfl)]
  unfold rdPut
  rw [bar_of (by decide) n1 n2, j1, j2, jw, jc, q1, q2, q3, if_neg (fun h => by
   rcases h with h | h | h
   ·
    omega
   ·
    simp only [List.length_cons, List.length_append] at h; omega
   ·
    cases h)]
  have : byt ((putW :: e.it.nm.data.toList :: (W ++ barW :: C)).getD 1 []) = e.it.nm := rfl
  rw [this, (pcI_text h4).1]
  cases e
  simp only at *
  subst_vars
  rfl
 ·
  have e1 : spl 32 (entryT e) [] = [dropW, e.nm.data.toList] := by
   rw [h5, spl_app, spl_no 32 dropW [] (by decide), spl_no 32 _ [] (name_free h2 32 (by decide))]; rfl
  rw [e1]
  unfold rdE
  rw [if_neg (by show ¬ dropW = putW; decide), if_pos ⟨rfl, rfl⟩]
  cases e
  simp only at *
  subst_vars
  rfl
 ·
  have e1 : spl 32 (entryT e) [] = [nameW, e.nm.data.toList, e.tn.data.toList] := by
   rw [h5, spl_app, spl_app, spl_no 32 nameW [] (by decide), spl_no 32 _ [] (name_free h2 32 (by decide)), spl_no 32 _ [] (name_free h3 32 (by decide))]; rfl
  rw [e1]
  unfold rdE
  rw [if_neg (by show ¬ nameW = putW; decide), if_neg (fun k => absurd (show nameW = dropW from k.1) (by decide)), if_pos ⟨rfl, rfl⟩]
  cases e
  simp only at *
  subst_vars
  rfl
def peP (l : List UInt8) : Prop := ∃ e, entryP e ∧ entryT e = l
noncomputable def peB (l : List UInt8) : Bool := propB (peP l)
noncomputable def peE (l : List UInt8) : Entry := if peB l = true then rdE (spl 32 l []) else zE
theorem pe_t {l : List UInt8} {e : Entry} (h : entryP e) (ht : entryT e = l) : peB l = true ∧ peE l = e := by
  have hb : peB l = true := propB_t ⟨e, h, ht⟩
  refine ⟨hb, ?_⟩
  unfold peE
  rw [if_pos hb, ← ht, rd_text h]
theorem pe_f {l : List UInt8} (h : ¬ peP l) : peB l = false ∧ peE l = zE := by
  have hb : peB l = false := propB_f h
  exact ⟨hb, by unfold peE; rw [hb]; rfl⟩
theorem pe_no {l : List UInt8} (h : ¬ (entryP (rdE (spl 32 l [])) ∧ entryT (rdE (spl 32 l [])) = l)) : ¬ peP l := fun ⟨e, h1, h2⟩ => by
  have := rd_text h1
  rw [h2] at this
  rw [this] at h
  exact h ⟨h1, h2⟩
theorem occ_first {l r sep : List UInt8} (hs : sep ≠ []) (h : ∀ b ∈ l, b ∉ sep → True) (hn : ∀ j, j < l.length → Lib.occAt (l ++ sep ++ r) sep j = false) : Lib.cut (l ++ sep ++ r) sep = (l, r, true) := by
  have ho : Lib.occAt (l ++ sep ++ r) sep l.length = true := by
    unfold Lib.occAt
    rw [List.append_assoc, List.drop_left]
    exact List.isPrefixOf_iff_prefix.2 ⟨r, rfl⟩
  have hi := Lib.index_first (i := l.length) (by simp) ho hn
  unfold Lib.cut
  rw [hi, if_pos (by omega)]
  refine Prod.ext ?_ (Prod.ext ?_ rfl)
  · show List.take _ _ = _
    simp
  · show List.drop _ _ = _
    rw [show ((l.length : Int)).toNat + sep.length = (l ++ sep).length by simp]
    exact List.drop_left
theorem cut_one {l r : List UInt8} {c : UInt8} (h : c ∉ l) : Lib.cut (l ++ c :: r) [c] = (l, r, true) := by
  have e : l ++ c :: r = l ++ [c] ++ r := by simp
  rw [e]
  refine occ_first (by simp) (fun _ _ _ => trivial) (fun j hj => ?_)
  unfold Lib.occAt
  rw [Bool.eq_false_iff]
  intro k
  have k1 := List.isPrefixOf_iff_prefix.1 k
  obtain ⟨t, ht⟩ := k1
  have : (l ++ [c] ++ r)[j]? = some c := by
    have := congrArg (fun x => x[0]?) ht
    simp only [List.singleton_append, List.getElem?_cons_zero, List.getElem?_drop, Nat.add_zero] at this
    exact this.symm
  rw [List.append_assoc, List.getElem?_append_left hj] at this
  exact h (List.mem_of_getElem? this)
theorem cut_bar {l r : List UInt8} (h : (124 : UInt8) ∉ l) : Lib.cut (l ++ ([32, 124, 32] ++ r)) [32, 124, 32] = (l, r, true) := by
  rw [← List.append_assoc]
  refine occ_first (by simp) (fun _ _ _ => trivial) (fun j hj => ?_)
  unfold Lib.occAt
  rw [Bool.eq_false_iff]
  intro k
  obtain ⟨t, ht⟩ := List.isPrefixOf_iff_prefix.1 k
  have h1 : (l ++ [32, 124, 32] ++ r)[j + 1]? = some 124 := by
    have := congrArg (fun x => x[1]?) ht
    simp only [List.cons_append, List.getElem?_cons_zero, List.getElem?_cons_succ, List.getElem?_drop] at this
    exact this.symm
  by_cases hl : j + 1 < l.length
  · rw [List.append_assoc, List.getElem?_append_left hl] at h1
    exact h (List.mem_of_getElem? h1)
  · rw [List.append_assoc, List.getElem?_append_right (by omega), show j + 1 - l.length = 0 by omega] at h1
    simp at h1
end
section
open Go.RowKit
set_option linter.all false
theorem joinL_take_le (sep : List UInt8) : ∀ (ws : List (List UInt8)) (k : Nat), (joinL sep (ws.take k)).length ≤ (joinL sep ws).length
  | [], k => by simp [joinL]
  | [x], 0 => by simp [joinL]
  | [x], k + 1 => by simp
  | x :: y :: r, 0 => by simp [joinL]
  | x :: y :: r, 1 => by simp [joinL]
  | x :: y :: r, k + 2 => by
    have h : (joinL sep (y :: r.take k)).length ≤ (joinL sep (y :: r)).length := joinL_take_le sep (y :: r) (k + 1)
    show (joinL sep (x :: y :: r.take k)).length ≤ _
    rw [joinL_cons sep x (y :: r.take k) (by simp), joinL_cons sep x (y :: r) (by simp)]
    simp only [List.length_append]
    omega
theorem joinL_drop_le (sep : List UInt8) : ∀ (ws : List (List UInt8)) (k : Nat), (joinL sep (ws.drop k)).length ≤ (joinL sep ws).length
  | ws, 0 => by simp
  | [], k + 1 => by simp
  | [x], k + 1 => by simp [joinL]
  | x :: y :: r, k + 1 => by
    have h := joinL_drop_le sep (y :: r) k
    rw [List.drop_succ_cons, joinL_cons _ _ _ (by simp)]
    simp only [List.length_append]
    omega
theorem joinL_next (ws : List (List UInt8)) (k : Nat) (x : List UInt8) (h : ws[k]? = some x) : joinL [32] (ws.take (k + 1)) = if k = 0 then x else joinL [32] (ws.take k) ++ [32] ++ x := by
  obtain ⟨hk, rfl⟩ := List.getElem?_eq_some_iff.1 h
  rw [List.take_succ_eq_append_getElem hk]
  by_cases e : k = 0
  · subst e; simp [joinL]
  · rw [if_neg e, joinL_snoc [32] _ _ (fun h0 => by
      have : (ws.take k).length = 0 := by rw [h0]; rfl
      rw [List.length_take] at this
      omega), List.append_assoc]
theorem SlR.part {w : World} {B : Nat} {ad : Addr} {n c i j : Nat} {vs : List Value} (h : SlR w B (.slice (some ad) n c) vs) (h0 : 0 < i) (hi : i < j) (hj : j ≤ vs.length) : SlR w B (.slice (some ⟨ad.block, ad.off + i, none⟩) (j - i) (c - i)) ((vs.take j).drop i) := by
  obtain ⟨A, c', e, h1, h2, h3⟩ := h
  simp only [Value.slice.injEq] at e
  obtain ⟨e1, e2, e3⟩ := e
  obtain ⟨ad', e', hb, hc⟩ := h3 (by omega)
  rw [← e1] at e'
  obtain rfl : ad = ad' := by simpa using e'
  have hl : ((vs.take j).drop i).length = j - i := by simp; omega
  refine ⟨some ⟨ad.block, ad.off + i, none⟩, c - i, by rw [hl], by rw [hl]; omega, by omega, fun _ => ⟨⟨ad.block, ad.off + i, none⟩, rfl, hb, fun k u hu => ?_⟩⟩
  have hk : k < j - i := by rw [← hl]; exact (List.getElem?_eq_some_iff.1 hu).1
  rw [List.getElem?_drop, List.getElem?_take_of_lt (by omega)] at hu
  have := hc (i + k) u hu
  have e4 : ad.add (i + k) = (⟨ad.block, ad.off + i, none⟩ : Addr).add k := by
    rw [add_lit]
    unfold Addr.add
    rw [if_neg (by omega)]
    simp only [Addr.mk.injEq, true_and, and_true]; omega
  rw [← e4]
  exact this
def SwRel (ws : List (List UInt8)) (w : World) (o i : Value) (wr : World) : Prop := ∃ k : Nat, k ≤ ws.length ∧ i = .int .i64 k ∧ o = strV (joinL [32] (ws.take k)) ∧ w = wr
theorem spec_srWords (v : Value) (ws : List (List UInt8)) (w : World) (h : SlR w w.heap.size v (ws.map strV)) (hn : ws.length ≤ 1048577) (hl : (joinL [32] ws).length ≤ 2000000) (hp : ∀ p ∈ ws, p.length ≤ 2000000) :
  Calls Tryz.prog 134 #[v] w fun e w' => e = .returned (.string ⟨(joinL [32] ws).toArray⟩) ∧ w = w' := by
 obtain ⟨A, c, rfl, h1, h2, h3⟩ := h.open1
 unfold maxLen at h2
 clear h
 rw [List.length_map] at h1 h3
 rw [List.length_map]
 have H3 := Lib.hid h3; clear h3
 have HP := Lib.hid hp; clear hp
 have HL := Lib.hid hl; clear hl
 go_enter Tryz.func134, Tryz.ntmps134
 go_wp2_with fail
 go_loopw [3, 4, 5, 8] (fun o _ _ i wr => SwRel ws w o i wr) (fun _ _ _ i _ => ws.length - (intOf i).toNat)
 case atStart => exact ⟨0, Nat.zero_le _, rfl, rfl, rfl⟩
 case round =>
  obtain ⟨k, hk, rfl, rfl, rfl⟩ := hrel
  by_cases hlt : k < ws.length
  ·
   obtain ⟨p, hx⟩ : ∃ p, ws[k]? = some p := ⟨ws[k], List.getElem?_eq_getElem hlt⟩
   obtain ⟨ad, rfl, hb, hc⟩ := H3.out (by omega)
   have hcell : w.cell? (ad.add k) = some (strV p) := hc k _ (by rw [List.getElem?_map, hx]; rfl)
   clear hc
   have HN := Lib.hid (joinL_next ws k p hx)
   have hl1 := HP.out p (List.mem_of_getElem? hx)
   have hl2 := Nat.le_trans (joinL_take_le [32] ws k) HL.out
   clear hx
   generalize hcur : joinL [32] (ws.take k) = cur at *
   have HC := Lib.hid hcur; clear hcur
   by_cases e : k = 0
   ·
    have t3 : ¬ (0 : Int) < (k : Int) := by omega
    have c2 := fun W => cat_vv cur p (by omega) W
    have H1 := Lib.hid (show joinL [32] (ws.take (k + 1)) = p by rw [HN.out, if_pos e])
    have H0 := Lib.hid (show cur = [] by rw [← HC.out, e]; rfl)
    clear e
    go_wp2_with fail
    go_roundw
    case rel => exact ⟨k + 1, by omega, by go_num, by rw [H1.out, H0.out]; rfl, rfl⟩
    case measure => simp [intOf]; omega
   ·
    have t3 : (0 : Int) < (k : Int) := by omega
    have c1 : ∀ W, (binOp .add 9 (strV cur) (.string ⟨#[32]⟩)).run Tryz.prog W = .ok (strV (cur ++ [32])) W := fun W => cat_vc cur ⟨#[32]⟩ (by show _ + 1 ≤ _; omega) W
    have c2 := fun W => cat_vv (cur ++ [32]) p (by rw [List.length_append]; show _ + 1 + _ ≤ _; omega) W
    have H1 := Lib.hid (show joinL [32] (ws.take (k + 1)) = cur ++ [32] ++ p by rw [HN.out, if_neg e])
    clear e
    go_wp2_with fail
    go_roundw
    case rel => exact ⟨k + 1, by omega, by go_num, by rw [H1.out]; simp, rfl⟩
    case measure => simp [intOf]; omega
  ·
   have e1 : ws.take k = ws := List.take_of_length_le (by omega)
   rw [e1]
   clear e1
   go_wp2_with fail
   go_ret
   exact ⟨rfl, rfl⟩
def EnPost (E : Entry) (w : World) (e : Ending) (w' : World) : Prop :=
  ∃ va vf vs vr bs, e = .returned (entryV E va vf vs vr) ∧ OwnItem w' E.it va vf vs vr bs ∧ bs.Nodup ∧ (∀ b ∈ bs, w.heap.size ≤ b ∧ b < w'.heap.size) ∧ Below w.heap.size w w'
def CiPost (IT : Item) (w : World) (e : Ending) (w' : World) : Prop :=
  ∃ vf vs vr bf bs br, (∃ ok : Bool, e = .returned (.tuple #[certV IT.cl IT.lb vf vs vr, .bool ok])) ∧ OwnInts w' 3 vf IT.f bf ∧ OwnInts w' 3 vs IT.s bs ∧ OwnRows w' 41 3 vr IT.rs br ∧ (bf ++ bs ++ br).Nodup ∧ (∀ x ∈ bf ++ bs ++ br, w.heap.size ≤ x ∧ x < w'.heap.size) ∧ Below w.heap.size w w'
theorem pc_item {n : Int} {X : List (List Int)} {p0 : List UInt8} {t : List (List UInt8)} {w w' : World} {e : Ending} {nm : ByteArray} {lc : List UInt8} (h : PcPost n X p0 t w e w') (hs : spl 32 lc [] = p0 :: t) : CiPost (pcI nm n X lc) w e w' := by
  obtain ⟨vf, vs, vr, bf, bs, br, h1, h2, h3, h4, h5, h6, h7⟩ := h
  unfold CiPost pcI
  rw [hs]
  exact ⟨vf, vs, vr, bf, bs, br, ⟨_, h1⟩, h2, h3, h4, h5, h6, h7⟩
def CutC (IT : Item) (w3 : World) (s8 : Value) (wx : World) : Prop :=
  ∃ (bb : Nat) (vf vs vr : Value) (bf bs br : List Nat), s8 = .pointer (some ⟨bb, 0, none⟩) ∧ wx.heap[bb]? = some (.cells #[.int .i64 IT.cl, .int .i64 IT.lb, vf, vs, vr] 51 (0, 0)) ∧ OwnInts wx 3 vf IT.f bf ∧ OwnInts wx 3 vs IT.s bs ∧ OwnRows wx 41 3 vr IT.rs br ∧
    (bf ++ bs ++ br).Nodup ∧ (∀ x ∈ bf ++ bs ++ br, w3.heap.size ≤ x ∧ x < wx.heap.size) ∧ Below w3.heap.size w3 wx ∧ w3.heap.size ≤ bb ∧ bb < wx.heap.size
theorem cutC_mk {IT : Item} {w3 w5 : World} {bb : Nat} {a0 a1 a2 a3 a4 vf vs vr : Value} {bf bs br : List Nat} (hc : w5.heap[bb]? = some (.cells #[a0, a1, a2, a3, a4] 51 (0, 0))) (hof : OwnInts w5 3 vf IT.f bf) (hos : OwnInts w5 3 vs IT.s bs) (hor : OwnRows w5 41 3 vr IT.rs br)
  (hnd : (bf ++ bs ++ br).Nodup) (hrg : ∀ x ∈ bf ++ bs ++ br, w3.heap.size ≤ x ∧ x < w5.heap.size ∧ x ≠ bb) (hb : Below w3.heap.size w3 w5) (hbb : w3.heap.size ≤ bb) (hlt : bb < w5.heap.size) :
  CutC IT w3 (.pointer (some ⟨bb, 0, none⟩)) (((((w5.setCell ⟨bb, 0, none⟩ (.int .i64 IT.cl)).setCell ⟨bb, 1, none⟩ (.int .i64 IT.lb)).setCell ⟨bb, 2, none⟩ vf).setCell ⟨bb, 3, none⟩ vs).setCell ⟨bb, 4, none⟩ vr) := by
 have hk : ∀ b, b ≠ bb → (((((w5.setCell ⟨bb, 0, none⟩ (.int .i64 IT.cl)).setCell ⟨bb, 1, none⟩ (.int .i64 IT.lb)).setCell ⟨bb, 2, none⟩ vf).setCell ⟨bb, 3, none⟩ vs).setCell ⟨bb, 4, none⟩ vr).heap[b]? = w5.heap[b]? := fun b h => by
  iterate 5 rw [Below.heap_setCell _ _ _ _ (by simpa using h)]
 refine ⟨bb, vf, vs, vr, bf, bs, br, rfl, ?_, hof.keep fun b h => hk b (hrg b (by simp [h])).2.2, hos.keep fun b h => hk b (hrg b (by simp [h])).2.2, hor.keep fun b h => hk b (hrg b (by simp [h])).2.2, hnd, fun x hx => ?_, ?_, hbb, by simpa only [size_setCell] using hlt⟩
 ·
  have e := heap_set_same (i := 4) (heap_set_same (i := 3) (heap_set_same (i := 2) (heap_set_same (i := 1) (heap_set_same (i := 0) hc (.int .i64 IT.cl)) (.int .i64 IT.lb)) vf) vs) vr
  exact e
 ·
  have := hrg x hx
  simp only [size_setCell]
  omega
 ·
  iterate 5 (refine Below.setCell ?_ (by simpa using hbb) _)
  exact hb
def BarRel (ws : List (List UInt8)) (w : World) (b i : Value) (wr : World) : Prop := ∃ k : Nat, k ≤ ws.length ∧ i = .int .i64 k ∧ b = .int .i64 (barTo ws k) ∧ w = wr
theorem bar_t {ws : List (List UInt8)} {k : Nat} {p : List UInt8} (h : ws[k]? = some p) (q : (p == [124]) = true) : barTo ws (k + 1) = k := by
  have e : p = [124] := LawfulBEq.eq_of_beq q
  unfold barTo; rw [if_pos (by rw [h, e]; rfl)]
theorem bar_f {ws : List (List UInt8)} {k : Nat} {p : List UInt8} (h : ws[k]? = some p) (q : (p == [124]) = false) : barTo ws (k + 1) = barTo ws k := by
  conv => lhs; unfold barTo
  rw [if_neg (by rw [h]; intro e; have : p = [124] := by simpa [barW] using e
                 rw [this] at q; simp at q)]
theorem rp_core {IT : Item} {n : Nat} {X : List (List Int)} {p1 : List UInt8} {w w5 w9 : World} {va vf vs vr : Value} {bx bf bs br : List Nat} {E : Entry} (hE : E = ⟨1, byt [], byt [], IT⟩) (h1 : IT.nm = byt p1) (h2 : IT.n = (n : Int)) (h3 : IT.xss = X)
    (ox : OwnRows w5 41 3 va X bx) (hof : OwnInts w5 3 vf IT.f bf) (hos : OwnInts w5 3 vs IT.s bs) (hor : OwnRows w5 41 3 vr IT.rs br) (hnd : (bx ++ (bf ++ bs ++ br)).Nodup) (hr : ∀ x ∈ bx ++ (bf ++ bs ++ br), w.heap.size < x ∧ x < w5.heap.size) (hb : Below w.heap.size w w5) (hkp : ∀ b, b ≠ w.heap.size → w9.heap[b]? = w5.heap[b]?) (hsz : w9.heap.size = w5.heap.size) (hb9 : Below w.heap.size w w9) :
    EnPost E w (.returned (.agg #[.int .i64 1, .string ⟨#[]⟩, .string ⟨#[]⟩, .string ⟨p1.toArray⟩, .int .i64 (n : Int), va, .int .i64 IT.cl, .int .i64 IT.lb, vf, vs, vr])) w9 := by
  have hm : ∀ b ∈ bx ++ (bf ++ bs ++ br), w9.heap[b]? = w5.heap[b]? := fun b h => hkp b (by have := hr b h; omega)
  rw [hE]
  refine ⟨va, vf, vs, vr, bx ++ (bf ++ bs ++ br), ?_, ⟨bx, bf, bs, br, ?_, hof.keep fun b h => hm b (by simp [h]), hos.keep fun b h => hm b (by simp [h]), hor.keep fun b h => hm b (by simp [h]), rfl⟩, hnd, fun x hx => by have := hr x hx; omega, hb9⟩
  · show _ = Ending.returned (.agg #[.int .i64 1, .string ⟨#[]⟩, .string ⟨#[]⟩, .string IT.nm, .int .i64 IT.n, va, .int .i64 IT.cl, .int .i64 IT.lb, vf, vs, vr])
    rw [h1, h2]
    rfl
  · show OwnRows _ _ _ _ IT.xss _
    rw [h3]
    exact ox.keep fun b h => hm b (by simp [h])
theorem rp_mk {IT : Item} {n : Nat} {X : List (List Int)} {p1 : List UInt8} {w w5 : World} {va vf vs vr : Value} {bx bf bs br : List Nat} {E : Entry} (hE : E = ⟨1, byt [], byt [], IT⟩) (h1 : IT.nm = byt p1) (h2 : IT.n = (n : Int)) (h3 : IT.xss = X)
  (ox : OwnRows w5 41 3 va X bx) (hof : OwnInts w5 3 vf IT.f bf) (hos : OwnInts w5 3 vs IT.s bs) (hor : OwnRows w5 41 3 vr IT.rs br) (hnd : (bx ++ (bf ++ bs ++ br)).Nodup) (hr : ∀ x ∈ bx ++ (bf ++ bs ++ br), w.heap.size < x ∧ x < w5.heap.size) (hb : Below w.heap.size w w5) :
  EnPost E w (.returned (.agg #[.int .i64 1, .string ⟨#[]⟩, .string ⟨#[]⟩, .string ⟨p1.toArray⟩, .int .i64 (n : Int), va, .int .i64 IT.cl, .int .i64 IT.lb, vf, vs, vr])) (((((((((((((w5.setCell ⟨w.heap.size, 0, none⟩ (.int .i64 1)).setCell ⟨w.heap.size, 1, none⟩ (.string ⟨#[]⟩)).setCell ⟨w.heap.size, 2, none⟩ (.string ⟨#[]⟩)).setCell ⟨w.heap.size, 3, none⟩ (.string ⟨p1.toArray⟩)).setCell ⟨w.heap.size, 4, none⟩ (.int .i64 (n : Int))).setCell ⟨w.heap.size, 5, none⟩ va).setCell ⟨w.heap.size, 6, none⟩ (.int .i64 IT.cl)).setCell ⟨w.heap.size, 7, none⟩ (.int .i64 IT.lb)).setCell ⟨w.heap.size, 8, none⟩ vf).setCell ⟨w.heap.size, 9, none⟩ vs).setCell ⟨w.heap.size, 10, none⟩ vr)).drew) := by
 have e : ∀ (W : World) (v : Value) (i b : Nat), b ≠ w.heap.size → (W.setCell ⟨w.heap.size, i, none⟩ v).heap[b]? = W.heap[b]? := fun W v i b h => Below.heap_setCell _ _ _ _ (by simpa using h)
 have z : ∀ (W : World) (v : Value) (i : Nat), (W.setCell ⟨w.heap.size, i, none⟩ v).heap.size = W.heap.size := fun W v i => size_setCell _ _ _
 have q : ∀ (W : World) (v : Value) (i : Nat), Below w.heap.size w W → Below w.heap.size w (W.setCell ⟨w.heap.size, i, none⟩ v) := fun W v i h => Below.setCell h (by simp) _
 have hd : ∀ W : World, W.drew.heap = W.heap := fun _ => rfl
 exact rp_core hE h1 h2 h3 ox hof hos hor hnd hr hb (fun b h => by rw [hd]; exact (e _ _ 10 b h).trans ((e _ _ 9 b h).trans ((e _ _ 8 b h).trans ((e _ _ 7 b h).trans ((e _ _ 6 b h).trans ((e _ _ 5 b h).trans ((e _ _ 4 b h).trans ((e _ _ 3 b h).trans ((e _ _ 2 b h).trans ((e _ _ 1 b h).trans (e _ _ 0 b h))))))))))) (by rw [hd]; exact (z _ _ 10).trans ((z _ _ 9).trans ((z _ _ 8).trans ((z _ _ 7).trans ((z _ _ 6).trans ((z _ _ 5).trans ((z _ _ 4).trans ((z _ _ 3).trans ((z _ _ 2).trans ((z _ _ 1).trans (z _ _ 0))))))))))) (Below.drew (q _ _ 10 (q _ _ 9 (q _ _ 8 (q _ _ 7 (q _ _ 6 (q _ _ 5 (q _ _ 4 (q _ _ 3 (q _ _ 2 (q _ _ 1 (q _ _ 0 (hb)))))))))))))
theorem own_item_zero (w : World) : OwnItem w zI (.slice none 0 0) (.slice none 0 0) (.slice none 0 0) (.slice none 0 0) [] :=
  ⟨[], [], [], [], rows_none _ _ _, own_none _ _, own_none _ _, rows_none _ _ _, rfl⟩
set_option maxRecDepth 100000 in
set_option maxHeartbeats 1000000 in
theorem spec_srReadPut (v : Value) (ws : List (List UInt8)) (w : World) (h : SlR w w.heap.size v (ws.map strV)) (hn : ws.length ≤ 1048577) (hl : (joinL [32] ws).length ≤ 1048576) (hp : ∀ p ∈ ws, p.length ≤ 1048576) :
  Calls Tryz.prog 111 #[v] w fun e w' => EnPost (rdPut ws) w e w' := by
 obtain ⟨A, c, rfl, h1, h2, h3⟩ := h.open1
 unfold maxLen at h2
 have HSL := Lib.hid h; clear h
 rw [List.length_map] at h1 h3
 have e0 : (List.map strV ws).length = ws.length := List.length_map _
 rw [e0] at HSL ⊢
 clear e0
 have H3 := Lib.hid h3; clear h3
 have HP := Lib.hid hp; clear hp
 have HL := Lib.hid hl; clear hl
 have hb0 := bl_alloc (Below.refl w.heap.size w) (.cells #[.int .i64 0, .string ⟨#[]⟩, .string ⟨#[]⟩, .string ⟨#[]⟩, .int .i64 0, .slice none 0 0, .int .i64 0, .int .i64 0, .slice none 0 0, .slice none 0 0, .slice none 0 0] 55)
 have HR0 := Lib.hid (heap_alloc_new w (.cells #[.int .i64 0, .string ⟨#[]⟩, .string ⟨#[]⟩, .string ⟨#[]⟩, .int .i64 0, .slice none 0 0, .int .i64 0, .int .i64 0, .slice none 0 0, .slice none 0 0, .slice none 0 0] 55))
 have HS0 := Lib.hid (show w.heap.size < (w.alloc (.cells #[.int .i64 0, .string ⟨#[]⟩, .string ⟨#[]⟩, .string ⟨#[]⟩, .int .i64 0, .slice none 0 0, .int .i64 0, .int .i64 0, .slice none 0 0, .slice none 0 0, .slice none 0 0] 55)).heap.size by simp)
 go_enter Tryz.func111, Tryz.ntmps111
 go_wp2_with fail
 generalize w.alloc (.cells #[.int .i64 0, .string ⟨#[]⟩, .string ⟨#[]⟩, .string ⟨#[]⟩, .int .i64 0, .slice none 0 0, .int .i64 0, .int .i64 0, .slice none 0 0, .slice none 0 0, .slice none 0 0] 55) = w0 at *
 have hs0 := HS0.out
 go_loopw [3, 4, 5, 12] (fun b _ _ i wr => BarRel ws w0 b i wr) (fun _ _ _ i _ => ws.length - (intOf i).toNat)
 case atStart => exact ⟨0, Nat.zero_le _, rfl, rfl, rfl⟩
 case round =>
  obtain ⟨k, hk, rfl, rfl, rfl⟩ := hrel
  by_cases hlt : k < ws.length
  ·
   obtain ⟨p, hx⟩ : ∃ p, ws[k]? = some p := ⟨ws[k], List.getElem?_eq_getElem hlt⟩
   obtain ⟨ad, rfl, hb, hc⟩ := H3.out (by omega)
   have hcell : w0.cell? (ad.add k) = some (.string ⟨p.toArray⟩) := (hb0.cell (p := ad.add k) (by rw [block_add]; exact hb)).trans (hc k _ (by rw [List.getElem?_map, hx]; rfl))
   clear hc
   have HX := Lib.hid hx; clear hx
   cases q : (p == [124]) with
   | true =>
    have HB := Lib.hid (bar_t HX.out q)
    go_wp2_with fail
    go_roundw
    case rel => exact ⟨k + 1, by omega, by go_num, by rw [HB.out], rfl⟩
    case measure => simp [intOf]; omega
   | false =>
    have HB := Lib.hid (bar_f HX.out q)
    go_wp2_with fail
    go_roundw
    case rel => exact ⟨k + 1, by omega, by go_num, by rw [HB.out], rfl⟩
    case measure => simp [intOf]; omega
  ·
   obtain rfl : k = ws.length := by omega
   have hbl := barTo_le (w := ws) ws.length
   obtain ⟨b, hbar⟩ : ∃ b, b = barTo ws ws.length := ⟨_, rfl⟩
   rw [← hbar] at hbl ⊢
   have HBAR := Lib.hid hbar; clear hbar
   obtain ⟨x0, x1, x2, x3, x4, x5, x6, x7, x8, x9, x10, xf⟩ := cells11 HR0
   by_cases hb3 : b < 3
   ·
    have HZ := Lib.hid (show rdPut ws = zE by unfold rdPut; rw [if_pos (.inl (by rw [← HBAR.out]; exact hb3))])
    have hd : decide ((b : Int) < 3) = true := decide_eq_true (by omega)
    go_wp2_with fail
    refine bodyPost_ret (v := .agg #[.int .i64 0, .string ⟨#[]⟩, .string ⟨#[]⟩, .string ⟨#[]⟩, .int .i64 0, .slice none 0 0, .int .i64 0, .int .i64 0, .slice none 0 0, .slice none 0 0, .slice none 0 0]) (by simp [results, Tryz.results111, go_sem, x0, x1, x2, x3, x4, x5, x6, x7, x8, x9, x10]) rfl ?_
    rw [HZ.out]
    refine ⟨_, _, _, _, [], rfl, own_item_zero _, List.nodup_nil, (fun _ h => by cases h), ?_⟩
    iterate 11 (refine Below.setCell ?_ (by simp) _)
    exact hb0
   ·
    have hd : decide ((b : Int) < 3) = false := decide_eq_false (by omega)
    by_cases hb4 : ws.length ≤ b + 1
    ·
     have HZ := Lib.hid (show rdPut ws = zE by unfold rdPut; rw [if_pos (.inr (.inl (by rw [← HBAR.out]; exact hb4)))])
     have hd2 : decide ((b : Int) + 1 ≥ (ws.length : Int)) = true := decide_eq_true (by omega)
     go_wp2_with fail
     refine bodyPost_ret (v := .agg #[.int .i64 0, .string ⟨#[]⟩, .string ⟨#[]⟩, .string ⟨#[]⟩, .int .i64 0, .slice none 0 0, .int .i64 0, .int .i64 0, .slice none 0 0, .slice none 0 0, .slice none 0 0]) (by simp [results, Tryz.results111, go_sem, x0, x1, x2, x3, x4, x5, x6, x7, x8, x9, x10]) rfl ?_
     rw [HZ.out]
     refine ⟨_, _, _, _, [], rfl, own_item_zero _, List.nodup_nil, (fun _ h => by cases h), ?_⟩
     iterate 11 (refine Below.setCell ?_ (by simp) _)
     exact hb0
    ·
     have hd2 : decide ((b : Int) + 1 ≥ (ws.length : Int)) = false := decide_eq_false (by omega)
     obtain ⟨ad, rfl, hb, hc⟩ := H3.out (by omega)
     have hB := hb0
     have hb0s := hb0.size
     have HRD := Lib.hid (show rdPut ws = if pwB (wlk ws) = false then zE else ⟨1, byt [], byt [], pcI (byt (ws.getD 1 [])) (pwN (wlk ws)) (pwX (wlk ws)) (crt ws)⟩ by
      unfold rdPut
      rw [← HBAR.out]
      by_cases q : pwB (wlk ws) = false
      ·
       rw [if_pos (.inr (.inr q)), if_pos q]
      ·
       rw [if_neg (fun k => by rcases k with k | k | k; exact hb3 k; exact hb4 k; exact q k), if_neg q])
     obtain ⟨p1, hp1⟩ : ∃ p1, ws[1]? = some p1 := ⟨ws[1]'(by omega), List.getElem?_eq_getElem (by omega)⟩
     have q1 : w.cell? (ad.add 1) = some (strV p1) := hc 1 _ (by rw [List.getElem?_map, hp1]; rfl)
     have e1 : ws.getD 1 [] = p1 := by simp [List.getD, hp1]
     rw [e1] at HRD
     have Q1 := Lib.hid q1; clear q1 e1 hp1 hc
     have JW1 := Lib.hid (fun W (hx : Below w.heap.size w W) => show Calls Tryz.prog 134 #[.slice (some ⟨ad.block, ad.off + 2, none⟩) (b - 2) (c - 2)] W fun e w' => e = .returned (.string ⟨(wlk ws).toArray⟩) ∧ W = w' by
      have h := SlR.part HSL.out (i := 2) (j := b) (by omega) (by omega) (by rw [List.length_map]; omega)
      rw [← List.map_take, ← List.map_drop] at h
      have e : joinL [32] ((ws.take b).drop 2) = wlk ws := by unfold wlk; rw [← HBAR.out]
      rw [← e]
      exact spec_srWords _ _ W ((h.below hx).more hx.size) (by simp; omega) (Nat.le_trans (joinL_drop_le _ _ _) (Nat.le_trans (joinL_take_le _ _ _) (by have := HL.out; omega))) (fun p hp => by have := HP.out p (List.mem_of_mem_take (List.mem_of_mem_drop hp)); omega))
     have hlw : (wlk ws).length ≤ 1048576 := Nat.le_trans (joinL_drop_le _ _ _) (Nat.le_trans (joinL_take_le _ _ _) HL.out)
     have JW2 := Lib.hid (fun W (hx : Below w.heap.size w W) => show Calls Tryz.prog 134 #[.slice (some ⟨ad.block, ad.off + (b + 1), none⟩) (ws.length - (b + 1)) (c - (b + 1))] W fun e w' => e = .returned (.string ⟨(crt ws).toArray⟩) ∧ W = w' by
      have h := SlR.part HSL.out (i := b + 1) (j := ws.length) (by omega) (by omega) (by rw [List.length_map]; omega)
      rw [← List.map_take, ← List.map_drop, List.take_length] at h
      have e : joinL [32] (ws.drop (b + 1)) = crt ws := by unfold crt; rw [← HBAR.out]
      rw [← e]
      exact spec_srWords _ _ W ((h.below hx).more hx.size) (by simp; omega) (Nat.le_trans (joinL_drop_le _ _ _) (by have := HL.out; omega)) (fun p hp => by have := HP.out p (List.mem_of_mem_drop hp); omega))
     have hlc : (crt ws).length ≤ 1048576 := Nat.le_trans (joinL_drop_le _ _ _) HL.out
     clear HBAR
     generalize wlk ws = lw at *
     generalize crt ws = lc at *
     have JR := Lib.hid (show Calls Tryz.prog 133 #[.string ⟨lw.toArray⟩] w0 fun e w' => PwPost lw w0 e w' from spec_srReadWalk ⟨lw.toArray⟩ w0 (by rw [Lib.size_eq]; exact hlw))
     unfold PwPost at JR
     have HPW := Lib.hid (show pwB lw = true → Good (pwN lw) (pwX lw) from fun h => by
      obtain ⟨a, r, h1, h2, h3, h4⟩ := propB_iff.1 h
      obtain ⟨_, e2, e3⟩ := pw_t h1 ⟨a, r, h1, h2, h3, h4⟩
      rw [e2, e3]; exact h4)
     generalize pwB lw = ok at *
     generalize pwN lw = n at *
     generalize pwX lw = X at *
     go_wp2_with fail
     refine (JW1.out w0 hB).mono ?_
     rintro e w1 ⟨rfl, hw1⟩
     subst hw1
     go_wp2_with fail
     refine (JR.out).mono ?_
     rintro e w2 ⟨vx, bx, rfl, ho, hnx, hrx, hb2⟩
     have hz2 := hb2.size
     replace hB := bl_trans hB hb2
     clear x0 x1 x2 x3 x4 x5 x6 x7 x8 x9 x10 xf
     replace HR0 := bk HR0 hb2
     obtain ⟨x1_0, x1_1, x1_2, x1_3, x1_4, x1_5, x1_6, x1_7, x1_8, x1_9, x1_10, x1_f⟩ := cells11 HR0
     obtain ⟨Ax, mx, cx, rfl⟩ := ho.isSlice
     have Ox := Lib.hid ho; clear ho
     have Gx := Lib.hid hrx; clear hrx JR JW1
     cases ok with
     | false =>
      have HZ := Lib.hid (show rdPut ws = zE by rw [HRD.out]; rfl)
      have hb3 := bl_alloc (Below.refl w2.heap.size w2) (.cells #[.int .i64 n, .slice Ax mx cx] 50)
      have HP0 := Lib.hid (heap_alloc_new w2 (.cells #[.int .i64 n, .slice Ax mx cx] 50))
      have hs3 : w2.heap.size < (w2.alloc (.cells #[.int .i64 n, .slice Ax mx cx] 50)).heap.size := by simp
      have HS3 := Lib.hid hs3; clear hs3; have hs3 := HS3.out
      have hz4 := hb3.size
      replace hB := bl_trans hB hb3
      clear x1_0 x1_1 x1_2 x1_3 x1_4 x1_5 x1_6 x1_7 x1_8 x1_9 x1_10 x1_f
      replace HR0 := bk HR0 hb3
      replace Ox := Lib.hid (Ox.out.keep fun b hb' => hb3.block b (by have := Gx.out b hb'; omega))
      obtain ⟨x2_0, x2_1, x2_2, x2_3, x2_4, x2_5, x2_6, x2_7, x2_8, x2_9, x2_10, x2_f⟩ := cells11 HR0
      have p01 := cells2 HP0
      go_wp2_with fail
      generalize w2.alloc (.cells #[.int .i64 n, .slice Ax mx cx] 50) = w3 at *
      refine bodyPost_ret (v := .agg #[.int .i64 0, .string ⟨#[]⟩, .string ⟨#[]⟩, .string ⟨#[]⟩, .int .i64 0, .slice none 0 0, .int .i64 0, .int .i64 0, .slice none 0 0, .slice none 0 0, .slice none 0 0]) (by simp [results, Tryz.results111, go_sem, x2_0, x2_1, x2_2, x2_3, x2_4, x2_5, x2_6, x2_7, x2_8, x2_9, x2_10]) rfl ?_
      rw [HZ.out]
      refine ⟨_, _, _, _, [], rfl, own_item_zero _, List.nodup_nil, (fun _ h => by cases h), ?_⟩
      iterate 11 (refine Below.setCell ?_ (by simp) _)
      exact hB
     | true =>
      have HGD := Lib.hid (HPW.out rfl); clear HPW
      obtain ⟨n, rfl⟩ := Int.eq_ofNat_of_zero_le (show 0 ≤ n by have := HGD.out.n_bd; omega)
      have HRD2 := Lib.hid (show rdPut ws = ⟨1, byt [], byt [], pcI (byt p1) (n : Int) X lc⟩ by rw [HRD.out]; rfl); clear HRD
      obtain ⟨p0, t, hspl⟩ : ∃ p0 t, spl 32 lc [] = p0 :: t := by
       cases hq : spl 32 lc [] with
       | nil => exact absurd hq (spl_ne _ _ _)
       | cons a b => exact ⟨_, _, rfl⟩
      have JC := Lib.hid (fun W (u : Value) (hr : RowsR W W.heap.size u X) => show Calls Tryz.prog 135 #[.agg #[.int .i64 (n : Int), u], .string ⟨lc.toArray⟩] W fun e w' => CiPost (pcI (byt p1) (n : Int) X lc) W e w' from
       (spec_srReadCertificate n u X ⟨lc.toArray⟩ p0 t W hr HGD.out (by rw [Lib.size_eq]; exact hlc) hspl).mono fun e w' h => pc_item h hspl)
      have HI := Lib.hid (show (pcI (byt p1) (n : Int) X lc).nm = byt p1 ∧ (pcI (byt p1) (n : Int) X lc).n = (n : Int) ∧ (pcI (byt p1) (n : Int) X lc).xss = X from ⟨rfl, rfl, rfl⟩)
      generalize pcI (byt p1) (n : Int) X lc = IT at *
      clear hspl
      have hlt2 : w.heap.size < w2.heap.size := by omega
      have hb3 := bl_alloc (Below.refl w2.heap.size w2) (.cells #[.int .i64 (n : Int), .slice Ax mx cx] 50)
      have HP0 := Lib.hid (heap_alloc_new w2 (.cells #[.int .i64 (n : Int), .slice Ax mx cx] 50))
      have hs3 : w2.heap.size < (w2.alloc (.cells #[.int .i64 (n : Int), .slice Ax mx cx] 50)).heap.size := by simp
      have HS3 := Lib.hid hs3; clear hs3; have hs3 := HS3.out
      have hz4 := hb3.size
      replace hB := bl_trans hB hb3
      clear x1_0 x1_1 x1_2 x1_3 x1_4 x1_5 x1_6 x1_7 x1_8 x1_9 x1_10 x1_f
      replace HR0 := bk HR0 hb3
      replace Ox := Lib.hid (Ox.out.keep fun b hb' => hb3.block b (by have := Gx.out b hb'; omega))
      obtain ⟨x2_0, x2_1, x2_2, x2_3, x2_4, x2_5, x2_6, x2_7, x2_8, x2_9, x2_10, x2_f⟩ := cells11 HR0
      have p01 := cells2 HP0
      go_upto_region 13 with fail
      generalize w2.alloc (.cells #[.int .i64 (n : Int), .slice Ax mx cx] 50) = w3 at *
      have hs3 : w2.heap.size < w3.heap.size := by omega
      have RX := Lib.hid (Ox.out.reads (B := w3.heap.size) (fun b hb' => by have := Gx.out b hb'; omega))
      go_cut [8] (fun s8 wx => CutC IT w3 s8 wx)
      case first =>
       have hB3 := Below.refl w3.heap.size w3
       refine wp_region_held_drew (S := (fun w' => w'.cell? ⟨w2.heap.size, 0, none⟩ = some (.int .i64 (n : Int)) ∧ w'.cell? ⟨w2.heap.size, 1, none⟩ = some (.slice Ax mx cx))) (by kernel_rfl) ?_ (fun hHeld => ?_)
       ·
        go_keep
       have hz5 := (Below.refl w3.heap.size w3).drew.size
       replace hB := bl_trans hB (Below.refl w3.heap.size w3).drew
       replace hB3 := bl_trans hB3 (Below.refl w3.heap.size w3).drew
       clear p01
       replace HP0 := Lib.hid (((Below.refl w3.heap.size w3).drew.block (w2.heap.size) (show w2.heap.size < w3.heap.size by omega)).trans HP0.out)
       clear x2_0 x2_1 x2_2 x2_3 x2_4 x2_5 x2_6 x2_7 x2_8 x2_9 x2_10 x2_f
       replace HR0 := Lib.hid (((Below.refl w3.heap.size w3).drew.block (w.heap.size) (show w.heap.size < w3.heap.size by omega)).trans HR0.out)
       have p02 := cells2 HP0
       refine tk 0 43 rfl rfl ?_
       try simp only [pu]
       refine tk 1 44 rfl rfl ?_
       try simp only [pu]
       refine tk 2 45 rfl rfl ?_
       try simp only [pu]
       have hwr : IntKind.i64.wrap ((b : Int) + 1) = (b : Int) + 1 := by rw [IntKind.wrap_i64]; omega
       have hle1 : (0 : Int) ≤ (b : Int) + 1 := by omega
       have hle2 : (b : Int) + 1 ≤ (ws.length : Int) := by omega
       have hnc : ¬ c = b + 1 := by omega
       have htn : ((b : Int) + 1).toNat = b + 1 := by omega
       refine tk 3 46 rfl rfl ?_
       try simp only [pu]
       refine tk 4 47 rfl rfl ?_
       try simp only [pu]
       refine take_ready2 5 10 rfl rfl (by kernel_rfl) (fun K hK => ?_) (fun K hK => ?_)
       ·
        go_simp
        go_at_call 134
        refine (JW2.out _ hB).mono ?_
        rintro e wz ⟨rfl, hwz⟩
        subst hwz
        refine hK.out _ _ ?_ (fun hHeld => ?_)
        ·
         go_keep
        clear hK K
        try simp only [pu]
        refine take_ready2 6 10 rfl rfl (by kernel_rfl) (fun K hK => ?_) (fun K hK => ?_)
        ·
         go_simp
         go_at_call 135
         refine (JC.out _ _ ((RX.out.below ((Below.refl w3.heap.size w3).drew)).more (by omega))).mono ?_
         rintro e w4 ⟨vf, vs, vr, bf, bs, br, ⟨ok2, rfl⟩, hof, hos, hor, hnd, hrg, hbw4⟩
         obtain ⟨Af, mf, cf, rfl⟩ := hof.1.isSlice
         obtain ⟨As, ms, cs, rfl⟩ := hos.1.isSlice
         obtain ⟨Ar, mr, cr, rfl⟩ := hor.isSlice
         have hz6 := hbw4.size
         replace hB := bl_trans hB hbw4
         replace hB3 := bl_trans hB3 hbw4
         clear p02
         replace HP0 := bk HP0 hbw4
         replace HR0 := bk HR0 hbw4
         have p03 := cells2 HP0
         have Of := Lib.hid hof; clear hof
         have Os := Lib.hid hos; clear hos
         have Or := Lib.hid hor; clear hor
         have Gc := Lib.hid hrg; clear hrg
         refine hK.out _ _ ?_ (fun hHeld => ?_)
         ·
          go_keep
         clear hK K
         try simp only [pu]
         refine tk 7 42 rfl rfl ?_
         try simp only [pu]
         refine tk 8 50 rfl rfl ?_
         try simp only [pu]
         refine tk 9 51 rfl rfl ?_
         try simp only [pu]
         refine take_ready 10 rfl (by kernel_rfl) (fun K hK => ?_)
         go_simp
         have hb7 := show Below w4.heap.size w4 (w4.alloc (.cells #[.int .i64 0, .int .i64 0, .slice none 0 0, .slice none 0 0, .slice none 0 0] 51)) from bl_alloc (Below.refl w4.heap.size w4) (.cells #[.int .i64 0, .int .i64 0, .slice none 0 0, .slice none 0 0, .slice none 0 0] 51)
         have HC0 := Lib.hid (show (w4.alloc (.cells #[.int .i64 0, .int .i64 0, .slice none 0 0, .slice none 0 0, .slice none 0 0] 51)).heap[w4.heap.size]? = some (.cells #[.int .i64 0, .int .i64 0, .slice none 0 0, .slice none 0 0, .slice none 0 0] 51) from heap_alloc_new w4 (.cells #[.int .i64 0, .int .i64 0, .slice none 0 0, .slice none 0 0, .slice none 0 0] 51))
         have hs7 : w4.heap.size < (w4.alloc (.cells #[.int .i64 0, .int .i64 0, .slice none 0 0, .slice none 0 0, .slice none 0 0] 51)).heap.size := by simp
         have hz8 := hb7.size
         replace hB := bl_trans hB hb7
         replace hB3 := bl_trans hB3 hb7
         clear p03
         replace HP0 := bk HP0 hb7
         replace HR0 := bk HR0 hb7
         replace Of := Lib.hid (Of.out.keep fun b hb' => hb7.block b (by have := Gc.out b (by simp [hb']); omega))
         replace Os := Lib.hid (Os.out.keep fun b hb' => hb7.block b (by have := Gc.out b (by simp [hb']); omega))
         replace Or := Lib.hid (Or.out.keep fun b hb' => hb7.block b (by have := Gc.out b (by simp [hb']); omega))
         have p04 := cells2 HP0
         have c01 := cells5 HC0
         generalize hgen : w4.alloc (.cells #[.int .i64 0, .int .i64 0, .slice none 0 0, .slice none 0 0, .slice none 0 0] 51) = w5 at *
         clear hgen
         refine hK.out _ _ ?_ (fun hHeld => ?_)
         ·
          go_keep
         clear hK K
         try simp only [pu]
         have hne : ¬ w4.heap.size = w2.heap.size := by simp only [World.size_drew] at *; omega
         refine take_ready 11 rfl (by kernel_rfl) (fun K hK => ?_)
         go_simp
         refine hK.out _ _ ?_ (fun hHeld => ?_)
         ·
          go_keep
         clear hK K
         try simp only [pu]
         refine tk 12 9 rfl rfl ?_
         try simp only [pu]
         refine wpAnyH_done (by kernel_rfl) ?_ _
         go_wp2_with fail
         go_meet
         have hdz : w3.drew.heap.size = w3.heap.size := rfl
         exact cutC_mk HC0.out Of.out Os.out Or.out hnd (fun x hx => by have := Gc.out x hx; omega) hB3 (by omega) (by omega)
        ·
         go_simp
         have hb6 := show Below w3.drew.heap.size w3.drew ((w3.alloc (.cells #[.int .i64 0, .int .i64 0, .slice none 0 0, .slice none 0 0, .slice none 0 0] 51)).drew) from bl_alloc (Below.refl w3.drew.heap.size w3.drew) (.cells #[.int .i64 0, .int .i64 0, .slice none 0 0, .slice none 0 0, .slice none 0 0] 51)
         have HC0 := Lib.hid (show ((w3.alloc (.cells #[.int .i64 0, .int .i64 0, .slice none 0 0, .slice none 0 0, .slice none 0 0] 51)).drew).heap[w3.heap.size]? = some (.cells #[.int .i64 0, .int .i64 0, .slice none 0 0, .slice none 0 0, .slice none 0 0] 51) from heap_alloc_new w3.drew (.cells #[.int .i64 0, .int .i64 0, .slice none 0 0, .slice none 0 0, .slice none 0 0] 51))
         have hs6 : w3.drew.heap.size < ((w3.alloc (.cells #[.int .i64 0, .int .i64 0, .slice none 0 0, .slice none 0 0, .slice none 0 0] 51)).drew).heap.size := by simp
         have hz7 := hb6.size
         replace hB := bl_trans hB hb6
         replace hB3 := bl_trans hB3 hb6
         clear p02
         replace HP0 := bk HP0 hb6
         replace HR0 := bk HR0 hb6
         have p03 := cells2 HP0
         have c01 := cells5 HC0
         generalize hgen : (w3.alloc (.cells #[.int .i64 0, .int .i64 0, .slice none 0 0, .slice none 0 0, .slice none 0 0] 51)).drew = w4 at *
         clear hgen
         refine hK.out _ _ ?_ (fun hHeld => ?_)
         ·
          go_keep
         clear hK K
         try simp only [pu]
         refine take_ready 6 rfl (by kernel_rfl) (fun K hK => ?_)
         go_simp
         go_at_call 135
         refine (JC.out _ _ ((RX.out.below (((Below.refl w3.heap.size w3).drew.trans (hb6.mono (by simp))))).more (by omega))).mono ?_
         rintro e w5 ⟨vf, vs, vr, bf, bs, br, ⟨ok2, rfl⟩, hof, hos, hor, hnd, hrg, hbw5⟩
         obtain ⟨Af, mf, cf, rfl⟩ := hof.1.isSlice
         obtain ⟨As, ms, cs, rfl⟩ := hos.1.isSlice
         obtain ⟨Ar, mr, cr, rfl⟩ := hor.isSlice
         have hz8 := hbw5.size
         replace hB := bl_trans hB hbw5
         replace hB3 := bl_trans hB3 hbw5
         clear p03
         replace HP0 := bk HP0 hbw5
         replace HR0 := bk HR0 hbw5
         clear c01
         replace HC0 := bk HC0 hbw5
         have p04 := cells2 HP0
         have c02 := cells5 HC0
         have Of := Lib.hid hof; clear hof
         have Os := Lib.hid hos; clear hos
         have Or := Lib.hid hor; clear hor
         have Gc := Lib.hid hrg; clear hrg
         refine hK.out _ _ ?_ (fun hHeld => ?_)
         ·
          go_keep
         clear hK K
         try simp only [pu]
         refine tk 7 42 rfl rfl ?_
         try simp only [pu]
         refine tk 8 50 rfl rfl ?_
         try simp only [pu]
         refine tk 9 51 rfl rfl ?_
         try simp only [pu]
         have hne : ¬ w3.heap.size = w2.heap.size := by simp only [World.size_drew] at *; omega
         refine take_ready 11 rfl (by kernel_rfl) (fun K hK => ?_)
         go_simp
         refine hK.out _ _ ?_ (fun hHeld => ?_)
         ·
          go_keep
         clear hK K
         try simp only [pu]
         refine tk 12 9 rfl rfl ?_
         try simp only [pu]
         refine wpAnyH_done (by kernel_rfl) ?_ _
         go_wp2_with fail
         go_meet
         have hdz : w3.drew.heap.size = w3.heap.size := rfl
         exact cutC_mk HC0.out Of.out Os.out Or.out hnd (fun x hx => by have := Gc.out x hx; omega) hB3 (by omega) (by omega)
       ·
        go_simp
        have hb6 := show Below w3.drew.heap.size w3.drew ((w3.alloc (.cells #[.int .i64 0, .int .i64 0, .slice none 0 0, .slice none 0 0, .slice none 0 0] 51)).drew) from bl_alloc (Below.refl w3.drew.heap.size w3.drew) (.cells #[.int .i64 0, .int .i64 0, .slice none 0 0, .slice none 0 0, .slice none 0 0] 51)
        have HC0 := Lib.hid (show ((w3.alloc (.cells #[.int .i64 0, .int .i64 0, .slice none 0 0, .slice none 0 0, .slice none 0 0] 51)).drew).heap[w3.heap.size]? = some (.cells #[.int .i64 0, .int .i64 0, .slice none 0 0, .slice none 0 0, .slice none 0 0] 51) from heap_alloc_new w3.drew (.cells #[.int .i64 0, .int .i64 0, .slice none 0 0, .slice none 0 0, .slice none 0 0] 51))
        have hs6 : w3.drew.heap.size < ((w3.alloc (.cells #[.int .i64 0, .int .i64 0, .slice none 0 0, .slice none 0 0, .slice none 0 0] 51)).drew).heap.size := by simp
        have hz7 := hb6.size
        replace hB := bl_trans hB hb6
        replace hB3 := bl_trans hB3 hb6
        clear p02
        replace HP0 := bk HP0 hb6
        replace HR0 := bk HR0 hb6
        have p03 := cells2 HP0
        have c01 := cells5 HC0
        generalize hgen : (w3.alloc (.cells #[.int .i64 0, .int .i64 0, .slice none 0 0, .slice none 0 0, .slice none 0 0] 51)).drew = w4 at *
        clear hgen
        refine hK.out _ _ ?_ (fun hHeld => ?_)
        ·
         go_keep
        clear hK K
        try simp only [pu]
        refine take_ready 5 rfl (by kernel_rfl) (fun K hK => ?_)
        go_simp
        go_at_call 134
        refine (JW2.out _ hB).mono ?_
        rintro e wz ⟨rfl, hwz⟩
        subst hwz
        refine hK.out _ _ ?_ (fun hHeld => ?_)
        ·
         go_keep
        clear hK K
        try simp only [pu]
        refine take_ready 6 rfl (by kernel_rfl) (fun K hK => ?_)
        go_simp
        go_at_call 135
        refine (JC.out _ _ ((RX.out.below (((Below.refl w3.heap.size w3).drew.trans (hb6.mono (by simp))))).more (by omega))).mono ?_
        rintro e w5 ⟨vf, vs, vr, bf, bs, br, ⟨ok2, rfl⟩, hof, hos, hor, hnd, hrg, hbw5⟩
        obtain ⟨Af, mf, cf, rfl⟩ := hof.1.isSlice
        obtain ⟨As, ms, cs, rfl⟩ := hos.1.isSlice
        obtain ⟨Ar, mr, cr, rfl⟩ := hor.isSlice
        have hz8 := hbw5.size
        replace hB := bl_trans hB hbw5
        replace hB3 := bl_trans hB3 hbw5
        clear p03
        replace HP0 := bk HP0 hbw5
        replace HR0 := bk HR0 hbw5
        clear c01
        replace HC0 := bk HC0 hbw5
        have p04 := cells2 HP0
        have c02 := cells5 HC0
        have Of := Lib.hid hof; clear hof
        have Os := Lib.hid hos; clear hos
        have Or := Lib.hid hor; clear hor
        have Gc := Lib.hid hrg; clear hrg
        refine hK.out _ _ ?_ (fun hHeld => ?_)
        ·
         go_keep
        clear hK K
        try simp only [pu]
        refine tk 7 42 rfl rfl ?_
        try simp only [pu]
        refine tk 8 50 rfl rfl ?_
        try simp only [pu]
        refine tk 9 51 rfl rfl ?_
        try simp only [pu]
        have hne : ¬ w3.heap.size = w2.heap.size := by simp only [World.size_drew] at *; omega
        refine take_ready 11 rfl (by kernel_rfl) (fun K hK => ?_)
        go_simp
        refine hK.out _ _ ?_ (fun hHeld => ?_)
        ·
         go_keep
        clear hK K
        try simp only [pu]
        refine tk 12 9 rfl rfl ?_
        try simp only [pu]
        refine wpAnyH_done (by kernel_rfl) ?_ _
        go_wp2_with fail
        go_meet
        have hdz : w3.drew.heap.size = w3.heap.size := rfl
        exact cutC_mk HC0.out Of.out Os.out Or.out hnd (fun x hx => by have := Gc.out x hx; omega) hB3 (by omega) (by omega)
      case rest =>
       obtain ⟨bb, vf, vs, vr, bf, bs, br, rfl, hcc, hof, hos, hor, hnd, hrg, hb3, hbb, hblt⟩ := hcut
       obtain ⟨w5, rfl⟩ : ∃ x, x = wc := ⟨_, rfl⟩
       obtain ⟨Af, mf, cf, rfl⟩ := hof.1.isSlice
       obtain ⟨As, ms, cs, rfl⟩ := hos.1.isSlice
       obtain ⟨Ar, mr, cr, rfl⟩ := hor.isSlice
       have HC0 := Lib.hid hcc; clear hcc
       have Of := Lib.hid hof; clear hof
       have Os := Lib.hid hos; clear hos
       have Or := Lib.hid hor; clear hor
       have Gc := Lib.hid hrg; clear hrg
       have hz5 := hb3.size
       replace hB := bl_trans hB hb3
       clear p01
       replace HP0 := bk HP0 hb3
       clear x2_0 x2_1 x2_2 x2_3 x2_4 x2_5 x2_6 x2_7 x2_8 x2_9 x2_10 x2_f
       replace HR0 := bk HR0 hb3
       replace Ox := Lib.hid (Ox.out.keep fun b hb' => hb3.block b (by have := Gx.out b hb'; omega))
       have p02 := cells2 HP0
       obtain ⟨x3_0, x3_1, x3_2, x3_3, x3_4, x3_5, x3_6, x3_7, x3_8, x3_9, x3_10, x3_f⟩ := cells11 HR0
       have c01 := cells5 HC0
       have q1 : w5.cell? (ad.add 1) = some (.string ⟨p1.toArray⟩) := (hB.cell (p := ad.add 1) (by rw [block_add]; exact hb)).trans Q1.out
       rw [show ad.add 1 = ⟨ad.block, ad.off + 1, none⟩ by unfold Addr.add; rw [if_neg (by omega)]] at q1
       have hl1i : (1 : Int) < (ws.length : Int) := by omega
       have hne1 : ¬ w.heap.size = ad.block := by omega
       have hne2 : ¬ w.heap.size = w2.heap.size := by omega
       have hne3 : ¬ w.heap.size = bb := by omega
       go_wp2_with fail
       refine wp_region_held_drew (S := (fun w' => w'.cell? ⟨ad.block, ad.off + 1, none⟩ = some (.string ⟨p1.toArray⟩) ∧ w'.cell? ⟨w2.heap.size, 0, none⟩ = some (.int .i64 (n : Int)) ∧ w'.cell? ⟨w2.heap.size, 1, none⟩ = some (.slice Ax mx cx) ∧ w'.cell? ⟨bb, 0, none⟩ = some (.int .i64 IT.cl) ∧ w'.cell? ⟨bb, 1, none⟩ = some (.int .i64 IT.lb) ∧ w'.cell? ⟨bb, 2, none⟩ = some (.slice Af mf cf) ∧ w'.cell? ⟨bb, 3, none⟩ = some (.slice As ms cs) ∧ w'.cell? ⟨bb, 4, none⟩ = some (.slice Ar mr cr))) (by kernel_rfl) ?_ (fun hHeld => ?_)
       ·
        go_keep
       refine tk 0 52 rfl rfl ?_
       try simp only [pu]
       refine tk 1 53 rfl rfl ?_
       try simp only [pu]
       refine tk 2 54 rfl rfl ?_
       try simp only [pu]
       refine tk 3 55 rfl rfl ?_
       try simp only [pu]
       refine tk 4 56 rfl rfl ?_
       try simp only [pu]
       refine tk 5 57 rfl rfl ?_
       try simp only [pu]
       refine tk 6 58 rfl rfl ?_
       try simp only [pu]
       refine take_ready 7 rfl (by kernel_rfl) (fun K hK => ?_)
       go_simp
       refine hK.out _ _ ?_ (fun hHeld => ?_)
       ·
        go_keep
       clear hK K
       try simp only [pu]
       refine wpAnyH_done (by kernel_rfl) ?_ _
       go_wp2_with fail
       refine bodyPost_ret (v := .agg #[.int .i64 1, .string ⟨#[]⟩, .string ⟨#[]⟩, .string ⟨p1.toArray⟩, .int .i64 (n : Int), .slice Ax mx cx, .int .i64 IT.cl, .int .i64 IT.lb, .slice Af mf cf, .slice As ms cs, .slice Ar mr cr]) (by simp [results, Tryz.results111, go_sem, x3_0, x3_1, x3_2, x3_3, x3_4, x3_5, x3_6, x3_7, x3_8, x3_9, x3_10]) rfl ?_
       exact rp_mk HRD2.out HI.out.1 HI.out.2.1 HI.out.2.2 Ox.out Of.out Os.out Or.out (List.nodup_append.2 ⟨hnx, hnd, fun a ha b hb e => by
        have h1 := Gx.out a ha
        have h2 := Gc.out b hb
        omega⟩) (fun x hx => by
        rcases List.mem_append.1 hx with h | h
        ·
         have := Gx.out x h; omega
        ·
         have := Gc.out x h; omega) hB
end
section
open Go.RowKit
set_option linter.all false
theorem sets11 (W : World) (b : Nat) (v0 v1 v2 v3 v4 v5 v6 v7 v8 v9 v10 : Value) : (∀ k, k ≠ b → ((((((((((((W.setCell ⟨b, 0, none⟩ v0).setCell ⟨b, 1, none⟩ v1).setCell ⟨b, 2, none⟩ v2).setCell ⟨b, 3, none⟩ v3).setCell ⟨b, 4, none⟩ v4).setCell ⟨b, 5, none⟩ v5).setCell ⟨b, 6, none⟩ v6).setCell ⟨b, 7, none⟩ v7).setCell ⟨b, 8, none⟩ v8).setCell ⟨b, 9, none⟩ v9).setCell ⟨b, 10, none⟩ v10)).heap[k]? = W.heap[k]?) ∧ ((((((((((((W.setCell ⟨b, 0, none⟩ v0).setCell ⟨b, 1, none⟩ v1).setCell ⟨b, 2, none⟩ v2).setCell ⟨b, 3, none⟩ v3).setCell ⟨b, 4, none⟩ v4).setCell ⟨b, 5, none⟩ v5).setCell ⟨b, 6, none⟩ v6).setCell ⟨b, 7, none⟩ v7).setCell ⟨b, 8, none⟩ v8).setCell ⟨b, 9, none⟩ v9).setCell ⟨b, 10, none⟩ v10)).heap.size = W.heap.size ∧ (∀ (B : Nat) (w : World), B ≤ b → Below B w W → Below B w ((((((((((((W.setCell ⟨b, 0, none⟩ v0).setCell ⟨b, 1, none⟩ v1).setCell ⟨b, 2, none⟩ v2).setCell ⟨b, 3, none⟩ v3).setCell ⟨b, 4, none⟩ v4).setCell ⟨b, 5, none⟩ v5).setCell ⟨b, 6, none⟩ v6).setCell ⟨b, 7, none⟩ v7).setCell ⟨b, 8, none⟩ v8).setCell ⟨b, 9, none⟩ v9).setCell ⟨b, 10, none⟩ v10))) ∧
  (∀ (a0 a1 a2 a3 a4 a5 a6 a7 a8 a9 a10 : Value) (t : TypeId) (m : Nat × Nat), W.heap[b]? = some (.cells #[a0, a1, a2, a3, a4, a5, a6, a7, a8, a9, a10] t m) → ((((((((((((W.setCell ⟨b, 0, none⟩ v0).setCell ⟨b, 1, none⟩ v1).setCell ⟨b, 2, none⟩ v2).setCell ⟨b, 3, none⟩ v3).setCell ⟨b, 4, none⟩ v4).setCell ⟨b, 5, none⟩ v5).setCell ⟨b, 6, none⟩ v6).setCell ⟨b, 7, none⟩ v7).setCell ⟨b, 8, none⟩ v8).setCell ⟨b, 9, none⟩ v9).setCell ⟨b, 10, none⟩ v10)).heap[b]? = some (.cells #[v0, v1, v2, v3, v4, v5, v6, v7, v8, v9, v10] t m)) := by
 have e : ∀ (W : World) (v : Value) (i k : Nat), k ≠ b → (W.setCell ⟨b, i, none⟩ v).heap[k]? = W.heap[k]? := fun W v i k h => Below.heap_setCell _ _ _ _ (by simpa using h)
 have z : ∀ (W : World) (v : Value) (i : Nat), (W.setCell ⟨b, i, none⟩ v).heap.size = W.heap.size := fun W v i => size_setCell _ _ _
 have q : ∀ (B : Nat) (w W : World) (v : Value) (i : Nat), B ≤ b → Below B w W → Below B w (W.setCell ⟨b, i, none⟩ v) := fun B w W v i hb h => Below.setCell h hb _
 refine ⟨fun k h => (e _ _ 10 k h).trans ((e _ _ 9 k h).trans ((e _ _ 8 k h).trans ((e _ _ 7 k h).trans ((e _ _ 6 k h).trans ((e _ _ 5 k h).trans ((e _ _ 4 k h).trans ((e _ _ 3 k h).trans ((e _ _ 2 k h).trans ((e _ _ 1 k h).trans (e _ _ 0 k h)))))))))), (z _ _ 10).trans ((z _ _ 9).trans ((z _ _ 8).trans ((z _ _ 7).trans ((z _ _ 6).trans ((z _ _ 5).trans ((z _ _ 4).trans ((z _ _ 3).trans ((z _ _ 2).trans ((z _ _ 1).trans (z _ _ 0)))))))))), fun B w hb h => q B w _ _ 10 hb (q B w _ _ 9 hb (q B w _ _ 8 hb (q B w _ _ 7 hb (q B w _ _ 6 hb (q B w _ _ 5 hb (q B w _ _ 4 hb (q B w _ _ 3 hb (q B w _ _ 2 hb (q B w _ _ 1 hb (q B w _ _ 0 hb (h))))))))))), fun a0 a1 a2 a3 a4 a5 a6 a7 a8 a9 a10 t m h => ?_⟩
 have h0 : ((W.setCell ⟨b, 0, none⟩ v0)).heap[b]? = some (.cells #[v0, a1, a2, a3, a4, a5, a6, a7, a8, a9, a10] t m) := heap_set_same h v0
 have h1 : (((W.setCell ⟨b, 0, none⟩ v0).setCell ⟨b, 1, none⟩ v1)).heap[b]? = some (.cells #[v0, v1, a2, a3, a4, a5, a6, a7, a8, a9, a10] t m) := heap_set_same h0 v1
 have h2 : ((((W.setCell ⟨b, 0, none⟩ v0).setCell ⟨b, 1, none⟩ v1).setCell ⟨b, 2, none⟩ v2)).heap[b]? = some (.cells #[v0, v1, v2, a3, a4, a5, a6, a7, a8, a9, a10] t m) := heap_set_same h1 v2
 have h3 : (((((W.setCell ⟨b, 0, none⟩ v0).setCell ⟨b, 1, none⟩ v1).setCell ⟨b, 2, none⟩ v2).setCell ⟨b, 3, none⟩ v3)).heap[b]? = some (.cells #[v0, v1, v2, v3, a4, a5, a6, a7, a8, a9, a10] t m) := heap_set_same h2 v3
 have h4 : ((((((W.setCell ⟨b, 0, none⟩ v0).setCell ⟨b, 1, none⟩ v1).setCell ⟨b, 2, none⟩ v2).setCell ⟨b, 3, none⟩ v3).setCell ⟨b, 4, none⟩ v4)).heap[b]? = some (.cells #[v0, v1, v2, v3, v4, a5, a6, a7, a8, a9, a10] t m) := heap_set_same h3 v4
 have h5 : (((((((W.setCell ⟨b, 0, none⟩ v0).setCell ⟨b, 1, none⟩ v1).setCell ⟨b, 2, none⟩ v2).setCell ⟨b, 3, none⟩ v3).setCell ⟨b, 4, none⟩ v4).setCell ⟨b, 5, none⟩ v5)).heap[b]? = some (.cells #[v0, v1, v2, v3, v4, v5, a6, a7, a8, a9, a10] t m) := heap_set_same h4 v5
 have h6 : ((((((((W.setCell ⟨b, 0, none⟩ v0).setCell ⟨b, 1, none⟩ v1).setCell ⟨b, 2, none⟩ v2).setCell ⟨b, 3, none⟩ v3).setCell ⟨b, 4, none⟩ v4).setCell ⟨b, 5, none⟩ v5).setCell ⟨b, 6, none⟩ v6)).heap[b]? = some (.cells #[v0, v1, v2, v3, v4, v5, v6, a7, a8, a9, a10] t m) := heap_set_same h5 v6
 have h7 : (((((((((W.setCell ⟨b, 0, none⟩ v0).setCell ⟨b, 1, none⟩ v1).setCell ⟨b, 2, none⟩ v2).setCell ⟨b, 3, none⟩ v3).setCell ⟨b, 4, none⟩ v4).setCell ⟨b, 5, none⟩ v5).setCell ⟨b, 6, none⟩ v6).setCell ⟨b, 7, none⟩ v7)).heap[b]? = some (.cells #[v0, v1, v2, v3, v4, v5, v6, v7, a8, a9, a10] t m) := heap_set_same h6 v7
 have h8 : ((((((((((W.setCell ⟨b, 0, none⟩ v0).setCell ⟨b, 1, none⟩ v1).setCell ⟨b, 2, none⟩ v2).setCell ⟨b, 3, none⟩ v3).setCell ⟨b, 4, none⟩ v4).setCell ⟨b, 5, none⟩ v5).setCell ⟨b, 6, none⟩ v6).setCell ⟨b, 7, none⟩ v7).setCell ⟨b, 8, none⟩ v8)).heap[b]? = some (.cells #[v0, v1, v2, v3, v4, v5, v6, v7, v8, a9, a10] t m) := heap_set_same h7 v8
 have h9 : (((((((((((W.setCell ⟨b, 0, none⟩ v0).setCell ⟨b, 1, none⟩ v1).setCell ⟨b, 2, none⟩ v2).setCell ⟨b, 3, none⟩ v3).setCell ⟨b, 4, none⟩ v4).setCell ⟨b, 5, none⟩ v5).setCell ⟨b, 6, none⟩ v6).setCell ⟨b, 7, none⟩ v7).setCell ⟨b, 8, none⟩ v8).setCell ⟨b, 9, none⟩ v9)).heap[b]? = some (.cells #[v0, v1, v2, v3, v4, v5, v6, v7, v8, v9, a10] t m) := heap_set_same h8 v9
 have h10 : ((((((((((((W.setCell ⟨b, 0, none⟩ v0).setCell ⟨b, 1, none⟩ v1).setCell ⟨b, 2, none⟩ v2).setCell ⟨b, 3, none⟩ v3).setCell ⟨b, 4, none⟩ v4).setCell ⟨b, 5, none⟩ v5).setCell ⟨b, 6, none⟩ v6).setCell ⟨b, 7, none⟩ v7).setCell ⟨b, 8, none⟩ v8).setCell ⟨b, 9, none⟩ v9).setCell ⟨b, 10, none⟩ v10)).heap[b]? = some (.cells #[v0, v1, v2, v3, v4, v5, v6, v7, v8, v9, v10] t m) := heap_set_same h9 v10
 exact h10
theorem pcI_sz {nm : ByteArray} {n : Int} {X : List (List Int)} (hg : Good n X) (l : List UInt8) : szItem (pcI nm n X l) ≤ nm.size + 880 ∧ I64 (pcI nm n X l).lb := by
  have hn := hg.n_bd
  have hX := hg.sz
  unfold pcI szItem
  generalize (spl 32 l []).headD [] = p0
  generalize (spl 32 l []).tail = t
  dsimp only
  by_cases h : pcB n X p0 t = true
  · simp only [h, if_true]
    obtain ⟨h1, h2, h3⟩ := propB_iff.1 h
    have e : ((n.toNat : Nat) : Int) = n := by omega
    have sm := (certP.small (n := n.toNat) (by rw [e]; exact h1) h3).sz
    exact ⟨by omega, I64_scLb _ _⟩
  · have h' : pcB n X p0 t = false := by simpa using h
    simp only [h']
    refine ⟨?_, ?_⟩
    · show nm.size + szRows X + 0 ≤ _
      omega
    · show I64 0
      unfold I64; omega
theorem byt_size (l : List UInt8) : (byt l).size = l.length := by show l.toArray.size = _; simp
theorem rdPut_sz {ws : List (List UInt8)} (hp : ∀ p ∈ ws, p.length ≤ 1048576) : szEntry (rdPut ws) ≤ 2000000 ∧ I64 (rdPut ws).it.lb := by
  unfold rdPut
  split
  · exact ⟨by show 0 ≤ _; omega, by show I64 0; unfold I64; omega⟩
  · rename_i h
    have hb : pwB (wlk ws) = true := by
      cases q : pwB (wlk ws) with
      | true => rfl
      | false => exact absurd (.inr (.inr q)) h
    obtain ⟨a, r, h1, h2, h3, h4⟩ := propB_iff.1 hb
    obtain ⟨_, e2, e3⟩ := pw_t h1 ⟨a, r, h1, h2, h3, h4⟩
    rw [e2, e3]
    obtain ⟨k1, k2⟩ := pcI_sz (nm := byt (ws.getD 1 [])) h4 (crt ws)
    refine ⟨?_, k2⟩
    have hz : (byt (ws.getD 1 [])).size ≤ 1048576 := by
      rw [byt_size]
      unfold List.getD
      cases q : ws[1]? with
      | none => simp
      | some p => exact hp p (List.mem_of_getElem? q)
    unfold szEntry
    dsimp only
    have h0 : (byt []).size = 0 := rfl
    omega
theorem entryP.sz {e : Entry} (h : entryP e) : szEntry e ≤ 1048576 := by
  have nz : ∀ {s : ByteArray}, nameP s.data.toList → s.size ≤ 8 := fun {s} h => by have := h.2.2; rw [Lib.size_eq]; exact this
  have z0 : szItem zI = 0 := rfl
  have h0 : (byt []).size = 0 := rfl
  unfold szEntry
  rcases kd_text h with ⟨h1, h2, h3, h4, h5⟩ | ⟨h1, h2, h3, h4, h5⟩ | ⟨h1, h2, h3, h4, h5⟩
  · rw [h2, h3]
    have a := nz h4.1
    have b := h4.good.sz
    have c := h4.cert.sz
    unfold szItem
    omega
  · rw [h3, h4]
    have a := nz h2
    omega
  · rw [h4]
    have a := nz h2
    have b := nz h3
    omega
def PePost (l : List UInt8) (w : World) (e : Ending) (w' : World) : Prop :=
  ∃ va vf vs vr bs, e = .returned (.tuple #[entryV (peE l) va vf vs vr, .bool (peB l)]) ∧ OwnItem w' (peE l).it va vf vs vr bs ∧ bs.Nodup ∧ (∀ b ∈ bs, w.heap.size ≤ b ∧ b < w'.heap.size) ∧ Below w.heap.size w w'
def CutE (E : Entry) (b : Nat) (w2 wx : World) : Prop :=
  ∃ va vf vs vr bs, wx.heap[b]? = some (.cells #[.int .i64 E.kd, .string E.nm, .string E.tn, .string E.it.nm, .int .i64 E.it.n, va, .int .i64 E.it.cl, .int .i64 E.it.lb, vf, vs, vr] 55 (0, 0)) ∧ OwnItem wx E.it va vf vs vr bs ∧ bs.Nodup ∧ (∀ x ∈ bs, b < x ∧ x < wx.heap.size) ∧ Below b w2 wx ∧ b < wx.heap.size
theorem cutE_mk {E : Entry} {b : Nat} {w2 W : World} {a0 a1 a2 a3 a4 a5 a6 a7 a8 a9 a10 va vf vs vr : Value} {bs : List Nat} (hc : W.heap[b]? = some (.cells #[a0, a1, a2, a3, a4, a5, a6, a7, a8, a9, a10] 55 (0, 0))) (ho : OwnItem W E.it va vf vs vr bs) (hn : bs.Nodup) (hr : ∀ x ∈ bs, b < x ∧ x < W.heap.size) (hb : Below b w2 W) (hlt : b < W.heap.size) :
    CutE E b w2 ((((((((((((W.setCell ⟨b, 0, none⟩ (.int .i64 E.kd)).setCell ⟨b, 1, none⟩ (.string E.nm)).setCell ⟨b, 2, none⟩ (.string E.tn)).setCell ⟨b, 3, none⟩ (.string E.it.nm)).setCell ⟨b, 4, none⟩ (.int .i64 E.it.n)).setCell ⟨b, 5, none⟩ va).setCell ⟨b, 6, none⟩ (.int .i64 E.it.cl)).setCell ⟨b, 7, none⟩ (.int .i64 E.it.lb)).setCell ⟨b, 8, none⟩ vf).setCell ⟨b, 9, none⟩ vs).setCell ⟨b, 10, none⟩ vr)) := by
  obtain ⟨h1, h2, h3, h4⟩ := sets11 W b (.int .i64 E.kd) (.string E.nm) (.string E.tn) (.string E.it.nm) (.int .i64 E.it.n) va (.int .i64 E.it.cl) (.int .i64 E.it.lb) vf vs vr
  exact ⟨va, vf, vs, vr, bs, h4 _ _ _ _ _ _ _ _ _ _ _ _ _ hc, ho.keep fun k hk => h1 k (by have := hr k hk; omega), hn, fun x hx => by rw [h2]; exact hr x hx, h3 _ _ (Nat.le_refl _) hb, by rw [h2]; exact hlt⟩
theorem rdE_put {p0 : List UInt8} {t : List (List UInt8)} (q : (p0 == [112, 117, 116]) = true) : rdE (p0 :: t) = rdPut (p0 :: t) := by
  have e : p0 = putW := LawfulBEq.eq_of_beq q
  unfold rdE; rw [if_pos (show (p0 :: t).getD 0 [] = putW from e)]
theorem ne_of_beq {p q : List UInt8} (h : (p == q) = false) : ¬ p = q := fun e => by rw [e] at h; simp at h
theorem rdE_drop {p0 p1 : List UInt8} (q : (p0 == [112, 117, 116]) = false) (q2 : (p0 == [100, 114, 111, 112]) = true) : rdE [p0, p1] = ⟨2, byt p1, byt [], zI⟩ := by
  unfold rdE; rw [if_neg (show ¬ [p0, p1].getD 0 [] = putW from ne_of_beq q), if_pos ⟨show [p0, p1].getD 0 [] = dropW from LawfulBEq.eq_of_beq q2, rfl⟩]; rfl
theorem rdE_name {p0 p1 p2 : List UInt8} (q : (p0 == [112, 117, 116]) = false) (q3 : (p0 == [110, 97, 109, 101]) = true) : rdE [p0, p1, p2] = ⟨3, byt p1, byt p2, zI⟩ := by
  unfold rdE; rw [if_neg (show ¬ [p0, p1, p2].getD 0 [] = putW from ne_of_beq q), if_neg (fun h => by have := h.2; simp at this), if_pos ⟨show [p0, p1, p2].getD 0 [] = nameW from LawfulBEq.eq_of_beq q3, rfl⟩]; rfl
theorem rdE_none {p0 : List UInt8} {t : List (List UInt8)} (q : (p0 == [112, 117, 116]) = false) (h2 : (p0 == [100, 114, 111, 112]) = false ∨ t.length ≠ 1) (h3 : (p0 == [110, 97, 109, 101]) = false ∨ t.length ≠ 2) : rdE (p0 :: t) = zE := by
  unfold rdE
  rw [if_neg (show ¬ (p0 :: t).getD 0 [] = putW from ne_of_beq q), if_neg (fun h => ?_), if_neg (fun h => ?_)]
  · rcases h3 with h3 | h3
    · exact ne_of_beq h3 (show p0 = nameW from h.1)
    · have := h.2; simp only [List.length_cons] at this; omega
  · rcases h2 with h2 | h2
    · exact ne_of_beq h2 (show p0 = dropW from h.1)
    · have := h.2; simp only [List.length_cons] at this; omega
theorem rdE_sz {ws : List (List UInt8)} (hp : ∀ p ∈ ws, p.length ≤ 1048576) (hj : (joinL [32] ws).length ≤ 1048576) : szEntry (rdE ws) ≤ 2000000 ∧ I64 (rdE ws).it.lb := by
  have i0 : I64 zI.lb := by show I64 0; unfold I64; omega
  have z0 : szItem zI = 0 := rfl
  have h0 : (byt []).size = 0 := rfl
  have hg : ∀ k, (ws.getD k []).length ≤ 1048576 := fun k => by
    unfold List.getD
    cases q : ws[k]? with
    | none => simp
    | some p => exact hp p (List.mem_of_getElem? q)
  unfold rdE
  split
  · exact rdPut_sz hp
  · split
    · refine ⟨?_, i0⟩
      unfold szEntry
      dsimp only
      have := hg 1
      rw [byt_size, z0, h0]
      omega
    · split
      · rename_i h
        refine ⟨?_, i0⟩
        unfold szEntry
        dsimp only
        rw [byt_size, byt_size, z0]
        match ws, h.2 with
        | [a, b, c], _ =>
          have e : joinL [32] [a, b, c] = a ++ ([32] ++ (b ++ ([32] ++ c))) := rfl
          rw [e] at hj
          simp only [List.length_append, List.length_cons, List.length_nil] at hj
          show b.length + c.length + 0 ≤ _
          omega
      · exact ⟨by show 0 ≤ _; omega, i0⟩
theorem pe_yes {l : List UInt8} {E : Entry} {b : Nat} {w W : World} {va vf vs vr : Value} {bs : List Nat} (hb : peB l = true) (he : peE l = E) (ho : OwnItem W E.it va vf vs vr bs) (hn : bs.Nodup) (hr : ∀ x ∈ bs, b < x ∧ x < W.heap.size) (hbl : Below w.heap.size w W) (hbb : b = w.heap.size) :
    PePost l w (.returned (.tuple #[.agg #[.int .i64 E.kd, .string E.nm, .string E.tn, .string E.it.nm, .int .i64 E.it.n, va, .int .i64 E.it.cl, .int .i64 E.it.lb, vf, vs, vr], .bool true])) ((((((((((((W.setCell ⟨b, 0, none⟩ (.int .i64 E.kd)).setCell ⟨b, 1, none⟩ (.string E.nm)).setCell ⟨b, 2, none⟩ (.string E.tn)).setCell ⟨b, 3, none⟩ (.string E.it.nm)).setCell ⟨b, 4, none⟩ (.int .i64 E.it.n)).setCell ⟨b, 5, none⟩ va).setCell ⟨b, 6, none⟩ (.int .i64 E.it.cl)).setCell ⟨b, 7, none⟩ (.int .i64 E.it.lb)).setCell ⟨b, 8, none⟩ vf).setCell ⟨b, 9, none⟩ vs).setCell ⟨b, 10, none⟩ vr)) := by
  obtain ⟨h1, h2, h3, h4⟩ := sets11 W b (.int .i64 E.kd) (.string E.nm) (.string E.tn) (.string E.it.nm) (.int .i64 E.it.n) va (.int .i64 E.it.cl) (.int .i64 E.it.lb) vf vs vr
  unfold PePost
  rw [hb, he]
  exact ⟨va, vf, vs, vr, bs, rfl, ho.keep fun k hk => h1 k (by have := hr k hk; omega), hn, fun x hx => by rw [h2]; have := hr x hx; omega, h3 _ _ (by omega) hbl⟩
theorem pe_none {l : List UInt8} {w W : World} (h : ¬ peP l) (hb : Below w.heap.size w W) : PePost l w (.returned (.tuple #[.agg #[.int .i64 0, .string ⟨#[]⟩, .string ⟨#[]⟩, .string ⟨#[]⟩, .int .i64 0, .slice none 0 0, .int .i64 0, .int .i64 0, .slice none 0 0, .slice none 0 0, .slice none 0 0], .bool false])) W := by
  obtain ⟨h1, h2⟩ := pe_f h
  unfold PePost
  rw [h1, h2]
  exact ⟨_, _, _, _, [], rfl, own_item_zero _, List.nodup_nil, (fun _ h => by cases h), hb⟩
theorem cutE_drew {E : Entry} {b : Nat} {w2 W : World} (h : CutE E b w2 W) : CutE E b w2 W.drew := by
  obtain ⟨va, vf, vs, vr, bs, h1, h2, h3, h4, h5, h6⟩ := h
  exact ⟨va, vf, vs, vr, bs, h1, h2.keep fun _ _ => rfl, h3, h4, h5.drew, h6⟩
set_option maxRecDepth 100000 in
set_option maxHeartbeats 1000000 in
theorem spec_srRead (s : ByteArray) (w : World) (hs : s.size ≤ 1048576) :
  Calls Tryz.prog 75 #[.string s] w fun e w' => PePost s.data.toList w e w' := by
 have HL := Lib.hid (show ∀ p ∈ spl 32 s.data.toList [], p.length ≤ 1048576 from fun p hp => by have := spl_part 32 _ _ p hp; simp only [List.length_nil] at this; have := Lib.size_eq s; omega)
 have hcnt : (spl 32 s.data.toList []).length ≤ 1048577 := by rw [spl_len]; have := List.count_le_length (a := 32) (l := s.data.toList); have := Lib.size_eq s; omega
 have HJ := Lib.hid (show (joinL [32] (spl 32 s.data.toList [])).length ≤ 1048576 by rw [join_spl]; have := Lib.size_eq s; simp only [List.nil_append]; omega)
 have HSZ := Lib.hid (rdE_sz HL.out HJ.out)
 have hb0 := bl_alloc (Below.refl w.heap.size w) (.cells #[.int .i64 0, .string ⟨#[]⟩, .string ⟨#[]⟩, .string ⟨#[]⟩, .int .i64 0, .slice none 0 0, .int .i64 0, .int .i64 0, .slice none 0 0, .slice none 0 0, .slice none 0 0] 55)
 have HR0 := Lib.hid (heap_alloc_new w (.cells #[.int .i64 0, .string ⟨#[]⟩, .string ⟨#[]⟩, .string ⟨#[]⟩, .int .i64 0, .slice none 0 0, .int .i64 0, .int .i64 0, .slice none 0 0, .slice none 0 0, .slice none 0 0] 55))
 have HS0 := Lib.hid (show w.heap.size < (w.alloc (.cells #[.int .i64 0, .string ⟨#[]⟩, .string ⟨#[]⟩, .string ⟨#[]⟩, .int .i64 0, .slice none 0 0, .int .i64 0, .int .i64 0, .slice none 0 0, .slice none 0 0, .slice none 0 0] 55)).heap.size by simp)
 go_enter Tryz.func75, Tryz.ntmps75
 go_wp2_with fail
 generalize w.alloc (.cells #[.int .i64 0, .string ⟨#[]⟩, .string ⟨#[]⟩, .string ⟨#[]⟩, .int .i64 0, .slice none 0 0, .int .i64 0, .int .i64 0, .slice none 0 0, .slice none 0 0, .slice none 0 0] 55) = w0 at *
 have hs0 := HS0.out
 have hB := hb0
 refine (l1Split_any s 32 w0 hs).mono ?_
 rintro e w1 ⟨v1, rfl, hown, hb1⟩
 have hsl := own_reads hown
 clear hown
 have hz1 := hb1.size
 replace hB := bl_trans hB hb1
 replace HR0 := bk HR0 hb1
 have HPE := Lib.hid (fun h => @pe_no s.data.toList h)
 have HPY := Lib.hid (fun (E : Entry) h1 h2 => @pe_t s.data.toList E h1 h2)
 obtain ⟨p0, t, hspl⟩ : ∃ p0 t, spl 32 s.data.toList [] = p0 :: t := by
  cases hq : spl 32 s.data.toList [] with
  | nil => exact absurd hq (spl_ne _ _ _)
  | cons a b => exact ⟨_, _, rfl⟩
 rw [hspl] at hsl HL hcnt HJ HSZ HPE
 clear hspl
 obtain ⟨A, c, rfl, g1, g2, g3⟩ := hsl.open1
 simp only [List.length_map, List.length_cons] at g1 g3
 obtain ⟨ad, rfl, hb, hc⟩ := g3 (by omega)
 unfold maxLen at g2
 have eL : (List.map strV (p0 :: t)).length = t.length + 1 := by simp
 rw [eL] at hsl ⊢
 clear eL g3
 have Rw := Lib.hid hsl; clear hsl
 have q0 : w1.cell? ad = some (.string ⟨p0.toArray⟩) := by have h0 : w1.cell? (ad.add 0) = some (strV p0) := hc 0 _ rfl; rw [add_zero'] at h0; exact h0
 have HC1 := Lib.hid (fun p1 (h : t[0]? = some p1) => show w1.cell? ⟨ad.block, ad.off + 1, none⟩ = some (.string ⟨p1.toArray⟩) by
  have h1 := hc 1 (strV p1) (by rw [List.map_cons, List.getElem?_cons_succ, List.getElem?_map, h]; rfl)
  rwa [show ad.add 1 = ⟨ad.block, ad.off + 1, none⟩ by unfold Addr.add; rw [if_neg (by omega)]] at h1)
 have HC2 := Lib.hid (fun p1 (h : t[1]? = some p1) => show w1.cell? ⟨ad.block, ad.off + 2, none⟩ = some (.string ⟨p1.toArray⟩) by
  have h1 := hc 2 (strV p1) (by rw [List.map_cons, List.getElem?_cons_succ, List.getElem?_map, h]; rfl)
  rwa [show ad.add 2 = ⟨ad.block, ad.off + 2, none⟩ by unfold Addr.add; rw [if_neg (by omega)]] at h1)
 have Q0 := Lib.hid q0; clear q0 hc
 have hb2 := bl_alloc (Below.refl w1.heap.size w1) (.cells #[.int .i64 0, .string ⟨#[]⟩, .string ⟨#[]⟩, .string ⟨#[]⟩, .int .i64 0, .slice none 0 0, .int .i64 0, .int .i64 0, .slice none 0 0, .slice none 0 0, .slice none 0 0] 55)
 have HE0 := Lib.hid (heap_alloc_new w1 (.cells #[.int .i64 0, .string ⟨#[]⟩, .string ⟨#[]⟩, .string ⟨#[]⟩, .int .i64 0, .slice none 0 0, .int .i64 0, .int .i64 0, .slice none 0 0, .slice none 0 0, .slice none 0 0] 55))
 have hs2 : w1.heap.size < (w1.alloc (.cells #[.int .i64 0, .string ⟨#[]⟩, .string ⟨#[]⟩, .string ⟨#[]⟩, .int .i64 0, .slice none 0 0, .int .i64 0, .int .i64 0, .slice none 0 0, .slice none 0 0, .slice none 0 0] 55)).heap.size := by simp
 have HS2 := Lib.hid hs2; clear hs2; have hs2 := HS2.out
 have hz3 := hb2.size
 replace hB := bl_trans hB hb2
 replace HR0 := bk HR0 hb2
 replace Rw := Lib.hid (Rw.out.below (hb2.mono (by omega)))
 have e01 := cells11 HE0
 clear e01
 go_upto_block 0 with fail
 generalize w1.alloc (.cells #[.int .i64 0, .string ⟨#[]⟩, .string ⟨#[]⟩, .string ⟨#[]⟩, .int .i64 0, .slice none 0 0, .int .i64 0, .int .i64 0, .slice none 0 0, .slice none 0 0, .slice none 0 0] 55) = w2 at *
 have e02 := cells11 HE0
 have hb12 := hb2
 have q0 := (hb12.cell (p := ad) hb).trans Q0.out
 go_cut [] (fun wx => CutE (rdE (p0 :: t)) w1.heap.size w2 wx)
 case first =>
  cases q1 : (p0 == [112, 117, 116]) with
  | true =>
   have hE := rdE_put (t := t) q1
   have HE := Lib.hid hE; clear hE
   have J := Lib.hid (spec_srReadPut _ (p0 :: t) w2 (by have h := (Rw.out.more (show w1.heap.size ≤ w2.heap.size by omega)); simpa using h) hcnt HJ.out HL.out)
   go_wp2_with fail
   refine (J.out).mono ?_
   rintro e w3 ⟨va, vf, vs, vr, bs, rfl, ho, hn, hr, hb3⟩
   have hz4 := hb3.size
   replace hB := bl_trans hB hb3
   replace HR0 := bk HR0 hb3
   clear e02
   replace HE0 := bk HE0 hb3
   replace Rw := Lib.hid (Rw.out.below (hb3.mono (by omega)))
   obtain ⟨ba, bf, bz, br, oa, of, oz, or, hbs⟩ := id ho
   obtain ⟨Aa, ma, ca, rfl⟩ := oa.isSlice
   obtain ⟨Af, mf, cf, rfl⟩ := of.1.isSlice
   obtain ⟨As, ms, cs, rfl⟩ := oz.1.isSlice
   obtain ⟨Ar, mr, cr, rfl⟩ := or.isSlice
   clear oa of oz or hbs
   have HO := Lib.hid ho; clear ho
   have e03 := cells11 HE0
   go_wp2_with fail
   go_meet
   rw [HE.out]
   exact cutE_mk HE0.out HO.out hn (fun x hx => by have := hr x hx; omega) (hb3.mono (by omega)) (by omega)
  | false =>
   match t with
   | [] =>
    simp only [List.length_nil] at *
    cases q2 : (p0 == [100, 114, 111, 112]) with
    | true =>
     have q3 : (p0 == [110, 97, 109, 101]) = false := by rw [show p0 = [100, 114, 111, 112] from LawfulBEq.eq_of_beq q2]; decide
     have hE := rdE_none (t := []) q1 (.inr (by simp)) (.inl q3)
     have HE := Lib.hid hE; clear hE
     go_wp2_with fail
     go_meet
     rw [HE.out]
     exact ⟨_, _, _, _, [], HE0.out, own_item_zero _, List.nodup_nil, (fun _ h => by cases h), Below.refl _ _, by omega⟩
    | false =>
     cases q3 : (p0 == [110, 97, 109, 101]) with
     | true =>
      have hE := rdE_none (t := []) q1 (.inl q2) (.inr (by simp))
      have HE := Lib.hid hE; clear hE
      go_wp2_with fail
      go_meet
      rw [HE.out]
      exact ⟨_, _, _, _, [], HE0.out, own_item_zero _, List.nodup_nil, (fun _ h => by cases h), Below.refl _ _, by omega⟩
     | false =>
      have hE := rdE_none (t := []) q1 (.inl q2) (.inl q3)
      have HE := Lib.hid hE; clear hE
      go_wp2_with fail
      go_meet
      rw [HE.out]
      exact ⟨_, _, _, _, [], HE0.out, own_item_zero _, List.nodup_nil, (fun _ h => by cases h), Below.refl _ _, by omega⟩
   | [p1] =>
    simp only [List.length_cons, List.length_nil] at *
    have x1 := (hb12.cell (p := ⟨ad.block, ad.off + 1, none⟩) hb).trans (HC1.out p1 rfl)
    cases q2 : (p0 == [100, 114, 111, 112]) with
    | true =>
     have HE := Lib.hid (rdE_drop (p1 := p1) q1 q2)
     go_wp2_with fail
     go_meet
     rw [HE.out]
     exact cutE_mk (E := ⟨2, byt p1, byt [], zI⟩) HE0.out (own_item_zero _) List.nodup_nil (fun _ h => by cases h) (Below.refl _ _) (by omega)
    | false =>
     cases q3 : (p0 == [110, 97, 109, 101]) with
     | true =>
      have hE := rdE_none (t := [p1]) q1 (.inl q2) (.inr (by simp))
      have HE := Lib.hid hE; clear hE
      go_wp2_with fail
      go_meet
      rw [HE.out]
      exact ⟨_, _, _, _, [], HE0.out, own_item_zero _, List.nodup_nil, (fun _ h => by cases h), Below.refl _ _, by omega⟩
     | false =>
      have hE := rdE_none (t := [p1]) q1 (.inl q2) (.inl q3)
      have HE := Lib.hid hE; clear hE
      go_wp2_with fail
      go_meet
      rw [HE.out]
      exact ⟨_, _, _, _, [], HE0.out, own_item_zero _, List.nodup_nil, (fun _ h => by cases h), Below.refl _ _, by omega⟩
   | [p1, p2] =>
    simp only [List.length_cons, List.length_nil] at *
    have x1 := (hb12.cell (p := ⟨ad.block, ad.off + 1, none⟩) hb).trans (HC1.out p1 rfl)
    have x2 := (hb12.cell (p := ⟨ad.block, ad.off + 2, none⟩) hb).trans (HC2.out p2 rfl)
    cases q2 : (p0 == [100, 114, 111, 112]) with
    | true =>
     have q3 : (p0 == [110, 97, 109, 101]) = false := by rw [show p0 = [100, 114, 111, 112] from LawfulBEq.eq_of_beq q2]; decide
     have hE := rdE_none (t := [p1, p2]) q1 (.inr (by simp)) (.inl q3)
     have HE := Lib.hid hE; clear hE
     go_wp2_with fail
     go_meet
     rw [HE.out]
     exact ⟨_, _, _, _, [], HE0.out, own_item_zero _, List.nodup_nil, (fun _ h => by cases h), Below.refl _ _, by omega⟩
    | false =>
     cases q3 : (p0 == [110, 97, 109, 101]) with
     | true =>
      have HE := Lib.hid (rdE_name (p1 := p1) (p2 := p2) q1 q3)
      have hne : ¬ w1.heap.size = ad.block := by omega
      go_wp2_with fail
      refine wp_region_held_drew (S := (fun w' => w'.cell? ⟨ad.block, ad.off + 1, none⟩ = some (.string ⟨p1.toArray⟩) ∧ w'.cell? ⟨ad.block, ad.off + 2, none⟩ = some (.string ⟨p2.toArray⟩))) (by kernel_rfl) ?_ (fun hHeld => ?_)
      ·
       go_keep
      refine tk 0 40 rfl rfl ?_
      try simp only [pu]
      refine tk 1 41 rfl rfl ?_
      try simp only [pu]
      refine tk 2 42 rfl rfl ?_
      try simp only [pu]
      refine tk 3 43 rfl rfl ?_
      try simp only [pu]
      refine tk 4 44 rfl rfl ?_
      try simp only [pu]
      refine tk 5 45 rfl rfl ?_
      try simp only [pu]
      refine tk 6 46 rfl rfl ?_
      try simp only [pu]
      refine take_ready 7 rfl (by kernel_rfl) (fun K hK => ?_)
      go_simp
      refine hK.out _ _ ?_ (fun hHeld => ?_)
      ·
       go_keep
      clear hK K
      try simp only [pu]
      refine wpAnyH_done (by kernel_rfl) ?_ _
      go_wp2_with fail
      go_meet
      rw [HE.out]
      exact cutE_drew (cutE_mk (E := ⟨3, byt p1, byt p2, zI⟩) HE0.out (own_item_zero _) List.nodup_nil (fun _ h => by cases h) (Below.refl _ _) (by omega))
     | false =>
      have hE := rdE_none (t := [p1, p2]) q1 (.inl q2) (.inl q3)
      have HE := Lib.hid hE; clear hE
      go_wp2_with fail
      go_meet
      rw [HE.out]
      exact ⟨_, _, _, _, [], HE0.out, own_item_zero _, List.nodup_nil, (fun _ h => by cases h), Below.refl _ _, by omega⟩
   | p1 :: p2 :: p3 :: r =>
    simp only [List.length_cons] at *
    have hd2 : ¬ ((r.length : Int) + 1 + 1 + 1 + 1 = 2) := by omega
    have hd3 : ¬ ((r.length : Int) + 1 + 1 + 1 + 1 = 3) := by omega
    cases q2 : (p0 == [100, 114, 111, 112]) with
    | true =>
     have q3 : (p0 == [110, 97, 109, 101]) = false := by rw [show p0 = [100, 114, 111, 112] from LawfulBEq.eq_of_beq q2]; decide
     have hE := rdE_none (t := p1 :: p2 :: p3 :: r) q1 (.inr (by simp)) (.inl q3)
     have HE := Lib.hid hE; clear hE
     go_wp2_with fail
     go_meet
     rw [HE.out]
     exact ⟨_, _, _, _, [], HE0.out, own_item_zero _, List.nodup_nil, (fun _ h => by cases h), Below.refl _ _, by omega⟩
    | false =>
     cases q3 : (p0 == [110, 97, 109, 101]) with
     | true =>
      have hE := rdE_none (t := p1 :: p2 :: p3 :: r) q1 (.inl q2) (.inr (by simp))
      have HE := Lib.hid hE; clear hE
      go_wp2_with fail
      go_meet
      rw [HE.out]
      exact ⟨_, _, _, _, [], HE0.out, own_item_zero _, List.nodup_nil, (fun _ h => by cases h), Below.refl _ _, by omega⟩
     | false =>
      have hE := rdE_none (t := p1 :: p2 :: p3 :: r) q1 (.inl q2) (.inl q3)
      have HE := Lib.hid hE; clear hE
      go_wp2_with fail
      go_meet
      rw [HE.out]
      exact ⟨_, _, _, _, [], HE0.out, own_item_zero _, List.nodup_nil, (fun _ h => by cases h), Below.refl _ _, by omega⟩
 case rest =>
  obtain ⟨va, vf, vs, vr, bs, hbx, ho, hn, hr, hb3, hlt3⟩ := hcut
  obtain ⟨w5, rfl⟩ : ∃ x, x = wc := ⟨_, rfl⟩
  obtain ⟨ba, bf, bz, br, oa, of, oz, or, hbs⟩ := id ho
  obtain ⟨Aa, ma, ca, rfl⟩ := oa.isSlice
  obtain ⟨Af, mf, cf, rfl⟩ := of.1.isSlice
  obtain ⟨As, ms, cs, rfl⟩ := oz.1.isSlice
  obtain ⟨Ar, mr, cr, rfl⟩ := or.isSlice
  clear oa of oz or hbs HE0 Rw HC1 HC2 Q0 q0
  have OI := Lib.hid ho; clear ho
  have HE0 := Lib.hid hbx; clear hbx
  have GI := Lib.hid hr; clear hr
  replace hB : Below w.heap.size w w5 := hB.trans (hb3.mono (by omega))
  replace HR0 := bk HR0 hb3
  have hz9 : w1.heap.size < w5.heap.size := hlt3
  have hz9b : w1.heap.size < w2.heap.size := by omega
  generalize rdE (p0 :: t) = E at *
  have HSE := Lib.hid HSZ.out.1
  have HLB := Lib.hid HSZ.out.2; clear HSZ
  have r01 := cells11 HR0
  have e01 := cells11 HE0
  go_wp2_with fail
  refine (spec_srEntry E _ _ _ _ w5 (OI.out.reads (B := w5.heap.size) (fun b hb' => by have := GI.out b hb'; omega)) HSE.out HLB.out).mono ?_
  rintro e w6 ⟨rfl, hb6⟩
  have hz4 := hb6.size
  replace hB := bl_trans hB hb6
  clear r01
  replace HR0 := bk HR0 hb6
  clear e01
  replace HE0 := bk HE0 hb6
  replace OI := Lib.hid (OI.out.keep fun b hb' => hb6.block b (by have := GI.out b hb'; omega))
  have r02 := cells11 HR0
  have e02 := cells11 HE0
  cases q4 : entryB E with
  | false =>
   have hno := HPE.out (fun h => propB_ff q4 h.1)
   go_wp2_with fail
   refine bodyPost_ret (v := .tuple #[.agg #[.int .i64 0, .string ⟨#[]⟩, .string ⟨#[]⟩, .string ⟨#[]⟩, .int .i64 0, .slice none 0 0, .int .i64 0, .int .i64 0, .slice none 0 0, .slice none 0 0, .slice none 0 0], .bool false]) (by simp [results, Tryz.results75, go_sem, r02]) rfl (pe_none hno ?_)
   iterate 11 (refine Below.setCell ?_ (by simp) _)
   exact hB
  | true =>
   have HEP := Lib.hid (propB_iff.1 q4); clear q4
   obtain ⟨T, hT⟩ : ∃ T, T = entryT E := ⟨_, rfl⟩
   have JT := Lib.hid (show Calls Tryz.prog 59 #[entryV E (.slice Aa ma ca) (.slice Af mf cf) (.slice As ms cs) (.slice Ar mr cr)] w6 fun e w' => e = .returned (.string ⟨T.toArray⟩) ∧ Below w6.heap.size w6 w' by
    rw [hT]
    exact spec_srText E _ _ _ _ w6 (OI.out.reads (B := w6.heap.size) (fun b hb' => by have := GI.out b hb'; omega)) HEP.out.sz HEP.out)
   have HTT := Lib.hid hT; clear hT
   go_wp2_with fail
   refine (JT.out).mono ?_
   rintro e w7 ⟨rfl, hb7⟩
   have hz5 := hb7.size
   replace hB := bl_trans hB hb7
   clear r02
   replace HR0 := bk HR0 hb7
   clear e02
   replace HE0 := bk HE0 hb7
   replace OI := Lib.hid (OI.out.keep fun b hb' => hb7.block b (by have := GI.out b hb'; omega))
   have r03 := cells11 HR0
   have e03 := cells11 HE0
   by_cases q7 : T = s.data.toList
   ·
    obtain ⟨y1, y2⟩ := HPY.out E HEP.out (by rw [← HTT.out]; exact q7)
    have k1 : (T == s.toList) = true := by rw [Lib.toList_data, q7]; simp
    have k2 : (T == s.data.toList) = true := by rw [q7]; simp
    have Y1 := Lib.hid y1; clear y1
    have Y2 := Lib.hid y2; clear y2
    clear q7 HPE HPY
    go_wp2_with fail
    refine bodyPost_ret (v := .tuple #[.agg #[.int .i64 E.kd, .string E.nm, .string E.tn, .string E.it.nm, .int .i64 E.it.n, .slice Aa ma ca, .int .i64 E.it.cl, .int .i64 E.it.lb, .slice Af mf cf, .slice As ms cs, .slice Ar mr cr], .bool true]) (by simp [results, Tryz.results75, go_sem, r03]) rfl (pe_yes Y1.out Y2.out OI.out hn (fun x hx => by have := GI.out x hx; omega) hB rfl)
   ·
    have k1 : (T == s.toList) = false := by rw [Lib.toList_data, beq_eq_false_iff_ne]; exact q7
    have k2 : (T == s.data.toList) = false := by rw [beq_eq_false_iff_ne]; exact q7
    have Q7 := Lib.hid q7; clear q7
    have hno := HPE.out (fun h => Q7.out (by rw [HTT.out]; exact h.2))
    go_wp2_with fail
    refine bodyPost_ret (v := .tuple #[.agg #[.int .i64 0, .string ⟨#[]⟩, .string ⟨#[]⟩, .string ⟨#[]⟩, .int .i64 0, .slice none 0 0, .int .i64 0, .int .i64 0, .slice none 0 0, .slice none 0 0, .slice none 0 0], .bool false]) (by simp [results, Tryz.results75, go_sem, r03]) rfl (pe_none hno ?_)
    iterate 11 (refine Below.setCell ?_ (by simp) _)
    exact hB
end
section
open Go.RowKit
set_option linter.all false
theorem cut_call (s sep : ByteArray) (w : World) (hs : s.size ≤ 1048576) (hm : MaxAt w) :
    Calls Tryz.prog 85 #[.string s, .string sep] w fun e w' => e = .returned (.tuple #[.string ⟨(Lib.cut s.data.toList sep.data.toList).1.toArray⟩, .string ⟨(Lib.cut s.data.toList sep.data.toList).2.1.toArray⟩, .bool (Lib.cut s.data.toList sep.data.toList).2.2]) ∧ Below w.heap.size w w' := by
  obtain ⟨m, hm⟩ := hm
  refine (Tryz.strings_Cut s sep m w (by omega) hm).mono ?_
  rintro e w' ⟨rfl, n, rfl⟩
  exact ⟨rfl, bl_drewN (Below.refl _ _) n⟩
theorem cut_len (l sep : List UInt8) : (Lib.cut l sep).1.length + (Lib.cut l sep).2.1.length ≤ l.length := by
  unfold Lib.cut
  split
  · simp only [List.length_take, List.length_drop]
    omega
  · simp
noncomputable def ipE (l : List UInt8) : Entry :=
  if pwB (Lib.cut (Lib.cut l [32]).2.1 [32, 124, 32]).1 = true then ⟨1, byt [], byt [], pcI (byt (Lib.cut l [32]).1) (pwN (Lib.cut (Lib.cut l [32]).2.1 [32, 124, 32]).1) (pwX (Lib.cut (Lib.cut l [32]).2.1 [32, 124, 32]).1) (Lib.cut (Lib.cut l [32]).2.1 [32, 124, 32]).2.1⟩ else zE
noncomputable def ipB (l : List UInt8) : Bool :=
  if pwB (Lib.cut (Lib.cut l [32]).2.1 [32, 124, 32]).1 = true then pcOk (pwN (Lib.cut (Lib.cut l [32]).2.1 [32, 124, 32]).1) (pwX (Lib.cut (Lib.cut l [32]).2.1 [32, 124, 32]).1) (Lib.cut (Lib.cut l [32]).2.1 [32, 124, 32]).2.1 else false
theorem ip_text {x : Item} (h : itemP x) : ipE (x.nm.data.toList ++ 32 :: (walkT x.n x.xss ++ ([32, 124, 32] ++ certT x.cl x.lb x.f x.s x.rs))) = ⟨1, byt [], byt [], x⟩ ∧ ipB (x.nm.data.toList ++ 32 :: (walkT x.n x.xss ++ ([32, 124, 32] ++ certT x.cl x.lb x.f x.s x.rs))) = true := by
  have e1 := cut_one (r := walkT x.n x.xss ++ ([32, 124, 32] ++ certT x.cl x.lb x.f x.s x.rs)) (name_free h.1 32 (by decide))
  have e2 := cut_bar (r := certT x.cl x.lb x.f x.s x.rs) (tx_not (tx_walk x.n x.xss) 124 nt124)
  obtain ⟨_, q1, q2, q3⟩ := pw_text h.good
  obtain ⟨q4, q5⟩ := pcI_text h
  unfold ipE ipB
  rw [e1]
  dsimp only
  rw [e2]
  dsimp only
  rw [q1, q2, q3, if_pos rfl, if_pos rfl, byt_data, q4, q5]
  exact ⟨rfl, rfl⟩
noncomputable def jE (l : List UInt8) : Entry :=
  if (Lib.cut l [32]).1 = putW then ipE (Lib.cut l [32]).2.1 else if (Lib.cut l [32]).1 = dropW then ⟨2, byt (Lib.cut l [32]).2.1, byt [], zI⟩
  else if (Lib.cut l [32]).1 = nameW then ⟨3, byt (Lib.cut (Lib.cut l [32]).2.1 [32]).1, byt (Lib.cut (Lib.cut l [32]).2.1 [32]).2.1, zI⟩ else zE
noncomputable def jB (l : List UInt8) : Bool := if (Lib.cut l [32]).1 = putW then ipB (Lib.cut l [32]).2.1 else true
theorem j_text {e : Entry} (h : entryP e) : jE (entryT e) = e ∧ jB (entryT e) = true := by
  rcases kd_text h with ⟨h1, h2, h3, h4, h5⟩ | ⟨h1, h2, h3, h4, h5⟩ | ⟨h1, h2, h3, h4, h5⟩
  · have e0 : putT e.it = putW ++ 32 :: (e.it.nm.data.toList ++ 32 :: (walkT e.it.n e.it.xss ++ ([32, 124, 32] ++ certT e.it.cl e.it.lb e.it.f e.it.s e.it.rs))) := by unfold putT putW; simp
    have e1 := cut_one (l := putW) (r := e.it.nm.data.toList ++ 32 :: (walkT e.it.n e.it.xss ++ ([32, 124, 32] ++ certT e.it.cl e.it.lb e.it.f e.it.s e.it.rs))) (c := 32) (by decide)
    obtain ⟨q1, q2⟩ := ip_text h4
    unfold jE jB
    rw [h5, e0, e1]
    dsimp only
    rw [if_pos rfl, if_pos rfl, q1, q2]
    refine ⟨?_, rfl⟩
    cases e
    simp only at *
    subst_vars
    rfl
  · have e1 := cut_one (l := dropW) (r := e.nm.data.toList) (c := 32) (by decide)
    unfold jE jB
    rw [h5, e1]
    dsimp only
    rw [if_neg (by decide), if_pos rfl, if_neg (by decide), byt_data]
    refine ⟨?_, rfl⟩
    cases e
    simp only at *
    subst_vars
    rfl
  · have e1 := cut_one (l := nameW) (r := e.nm.data.toList ++ 32 :: e.tn.data.toList) (c := 32) (by decide)
    have e2 := cut_one (r := e.tn.data.toList) (name_free h2 32 (by decide))
    unfold jE jB
    rw [h5, e1]
    dsimp only
    rw [e2, if_neg (by decide), if_neg (by decide), if_pos rfl, if_neg (by decide)]
    dsimp only
    rw [byt_data, byt_data]
    refine ⟨?_, rfl⟩
    cases e
    simp only at *
    subst_vars
    rfl
theorem j_no {l : List UInt8} (h : ¬ (jB l = true ∧ entryP (jE l) ∧ entryT (jE l) = l)) : ¬ peP l := fun ⟨e, h1, h2⟩ => by
  obtain ⟨q1, q2⟩ := j_text h1
  rw [h2] at q1 q2
  rw [q1, q2] at h
  exact h ⟨rfl, h1, h2⟩
theorem ipE_sz {l : List UInt8} (hl : l.length ≤ 1048576) : szEntry (ipE l) ≤ 2000000 ∧ I64 (ipE l).it.lb := by
  have i0 : I64 zI.lb := by show I64 0; unfold I64; omega
  have h0 : (byt []).size = 0 := rfl
  unfold ipE
  split
  · rename_i hb
    obtain ⟨a, r, h1, h2, h3, h4⟩ := propB_iff.1 hb
    obtain ⟨_, e2, e3⟩ := pw_t h1 ⟨a, r, h1, h2, h3, h4⟩
    rw [e2, e3]
    obtain ⟨k1, k2⟩ := pcI_sz (nm := byt (Lib.cut l [32]).1) h4 (Lib.cut (Lib.cut l [32]).2.1 [32, 124, 32]).2.1
    refine ⟨?_, k2⟩
    have hz : (byt (Lib.cut l [32]).1).size ≤ 1048576 := by rw [byt_size]; have := cut_len l [32]; omega
    unfold szEntry
    dsimp only
    omega
  · exact ⟨by show 0 ≤ _; omega, i0⟩
theorem jE_sz {l : List UInt8} (hl : l.length ≤ 1048576) : szEntry (jE l) ≤ 2000000 ∧ I64 (jE l).it.lb := by
  have i0 : I64 zI.lb := by show I64 0; unfold I64; omega
  have z0 : szItem zI = 0 := rfl
  have h0 : (byt []).size = 0 := rfl
  have c1 := cut_len l [32]
  have c2 := cut_len (Lib.cut l [32]).2.1 [32]
  unfold jE
  split
  · exact ipE_sz (by omega)
  · split
    · refine ⟨?_, i0⟩
      unfold szEntry
      dsimp only
      rw [byt_size, z0, h0]
      omega
    · split
      · refine ⟨?_, i0⟩
        unfold szEntry
        dsimp only
        rw [byt_size, byt_size, z0]
        omega
      · exact ⟨by show 0 ≤ _; omega, i0⟩
def IpPost (E : Entry) (ok : Bool) (w : World) (e : Ending) (w' : World) : Prop :=
  ∃ va vf vs vr bs, e = .returned (.tuple #[entryV E va vf vs vr, .bool ok]) ∧ OwnItem w' E.it va vf vs vr bs ∧ bs.Nodup ∧ (∀ b ∈ bs, w.heap.size ≤ b ∧ b < w'.heap.size) ∧ Below w.heap.size w w'
theorem ip_end {ok : Bool} {E : Entry} {b : Nat} {w W : World} {va vf vs vr : Value} {bs : List Nat} (ho : OwnItem W E.it va vf vs vr bs) (hn : bs.Nodup) (hr : ∀ x ∈ bs, b < x ∧ x < W.heap.size) (hbl : Below w.heap.size w W) (hbb : b = w.heap.size) :
    IpPost E ok w (.returned (.tuple #[.agg #[.int .i64 E.kd, .string E.nm, .string E.tn, .string E.it.nm, .int .i64 E.it.n, va, .int .i64 E.it.cl, .int .i64 E.it.lb, vf, vs, vr], .bool ok])) ((((((((((((W.setCell ⟨b, 0, none⟩ (.int .i64 E.kd)).setCell ⟨b, 1, none⟩ (.string E.nm)).setCell ⟨b, 2, none⟩ (.string E.tn)).setCell ⟨b, 3, none⟩ (.string E.it.nm)).setCell ⟨b, 4, none⟩ (.int .i64 E.it.n)).setCell ⟨b, 5, none⟩ va).setCell ⟨b, 6, none⟩ (.int .i64 E.it.cl)).setCell ⟨b, 7, none⟩ (.int .i64 E.it.lb)).setCell ⟨b, 8, none⟩ vf).setCell ⟨b, 9, none⟩ vs).setCell ⟨b, 10, none⟩ vr)) := by
  obtain ⟨h1, h2, h3, h4⟩ := sets11 W b (.int .i64 E.kd) (.string E.nm) (.string E.tn) (.string E.it.nm) (.int .i64 E.it.n) va (.int .i64 E.it.cl) (.int .i64 E.it.lb) vf vs vr
  exact ⟨va, vf, vs, vr, bs, rfl, ho.keep fun k hk => h1 k (by have := hr k hk; omega), hn, fun x hx => by rw [h2]; have := hr x hx; omega, h3 _ _ (by omega) hbl⟩
theorem ip_none {w W : World} (hb : Below w.heap.size w W) : IpPost zE false w (.returned (.tuple #[.agg #[.int .i64 0, .string ⟨#[]⟩, .string ⟨#[]⟩, .string ⟨#[]⟩, .int .i64 0, .slice none 0 0, .int .i64 0, .int .i64 0, .slice none 0 0, .slice none 0 0, .slice none 0 0], .bool false])) W :=
  ⟨_, _, _, _, [], rfl, own_item_zero _, List.nodup_nil, (fun _ h => by cases h), hb⟩
def CjPost (IT : Item) (ok : Bool) (w : World) (e : Ending) (w' : World) : Prop :=
  ∃ vf vs vr bf bs br, e = .returned (.tuple #[certV IT.cl IT.lb vf vs vr, .bool ok]) ∧ OwnInts w' 3 vf IT.f bf ∧ OwnInts w' 3 vs IT.s bs ∧ OwnRows w' 41 3 vr IT.rs br ∧ (bf ++ bs ++ br).Nodup ∧ (∀ x ∈ bf ++ bs ++ br, w.heap.size ≤ x ∧ x < w'.heap.size) ∧ Below w.heap.size w w'
theorem pj_item {n : Int} {X : List (List Int)} {p0 : List UInt8} {t : List (List UInt8)} {w w' : World} {e : Ending} {nm : ByteArray} {lc : List UInt8} (h : PcPost n X p0 t w e w') (hs : spl 32 lc [] = p0 :: t) : CjPost (pcI nm n X lc) (pcOk n X lc) w e w' := by
  obtain ⟨vf, vs, vr, bf, bs, br, h1, h2, h3, h4, h5, h6, h7⟩ := h
  unfold CjPost pcI pcOk
  rw [hs]
  exact ⟨vf, vs, vr, bf, bs, br, h1, h2, h3, h4, h5, h6, h7⟩
theorem ip_mk {IT : Item} {n : Int} {X : List (List Int)} {l1 : List UInt8} {ok : Bool} {w W : World} {va vf vs vr : Value} {bx bf bs br : List Nat} (h1 : IT.nm = byt l1) (h2 : IT.n = n) (h3 : IT.xss = X)
    (ox : OwnRows W 41 3 va X bx) (hof : OwnInts W 3 vf IT.f bf) (hos : OwnInts W 3 vs IT.s bs) (hor : OwnRows W 41 3 vr IT.rs br) (hnd : (bx ++ (bf ++ bs ++ br)).Nodup) (hr : ∀ x ∈ bx ++ (bf ++ bs ++ br), w.heap.size < x ∧ x < W.heap.size) (hb : Below w.heap.size w W) :
    IpPost ⟨1, byt [], byt [], IT⟩ ok w (.returned (.tuple #[.agg #[.int .i64 1, .string ⟨#[]⟩, .string ⟨#[]⟩, .string ⟨l1.toArray⟩, .int .i64 n, va, .int .i64 IT.cl, .int .i64 IT.lb, vf, vs, vr], .bool ok])) ((((((((((((W.setCell ⟨w.heap.size, 0, none⟩ (.int .i64 1)).setCell ⟨w.heap.size, 1, none⟩ (.string ⟨#[]⟩)).setCell ⟨w.heap.size, 2, none⟩ (.string ⟨#[]⟩)).setCell ⟨w.heap.size, 3, none⟩ (.string ⟨l1.toArray⟩)).setCell ⟨w.heap.size, 4, none⟩ (.int .i64 n)).setCell ⟨w.heap.size, 5, none⟩ va).setCell ⟨w.heap.size, 6, none⟩ (.int .i64 IT.cl)).setCell ⟨w.heap.size, 7, none⟩ (.int .i64 IT.lb)).setCell ⟨w.heap.size, 8, none⟩ vf).setCell ⟨w.heap.size, 9, none⟩ vs).setCell ⟨w.heap.size, 10, none⟩ vr)) := by
  subst h2 h3
  have e : Value.string ⟨l1.toArray⟩ = .string IT.nm := by rw [h1]; rfl
  rw [e]
  exact ip_end (E := ⟨1, byt [], byt [], IT⟩) ⟨bx, bf, bs, br, ox, hof, hos, hor, rfl⟩ hnd hr hb rfl
set_option maxRecDepth 100000 in
set_option maxHeartbeats 1000000 in
theorem impl_readPut (s : ByteArray) (w : World) (hs : s.size ≤ 1048576) (hm : MaxAt w) (hp : Pow10 w) (he : ErrAt w) :
  Calls Tryz.prog 115 #[.string s] w fun e w' => IpPost (ipE s.data.toList) (ipB s.data.toList) w e w' := by
 have HM := Lib.hid hm; clear hm
 have HP := Lib.hid hp; clear hp
 have HE := Lib.hid he; clear he
 have hsl : s.data.toList.length ≤ 1048576 := by rw [← Lib.size_eq]; exact hs
 have hb0 := bl_alloc (Below.refl w.heap.size w) (.cells #[.int .i64 0, .string ⟨#[]⟩, .string ⟨#[]⟩, .string ⟨#[]⟩, .int .i64 0, .slice none 0 0, .int .i64 0, .int .i64 0, .slice none 0 0, .slice none 0 0, .slice none 0 0] 55)
 have HR0 := Lib.hid (heap_alloc_new w (.cells #[.int .i64 0, .string ⟨#[]⟩, .string ⟨#[]⟩, .string ⟨#[]⟩, .int .i64 0, .slice none 0 0, .int .i64 0, .int .i64 0, .slice none 0 0, .slice none 0 0, .slice none 0 0] 55))
 have HS0 := Lib.hid (show w.heap.size < (w.alloc (.cells #[.int .i64 0, .string ⟨#[]⟩, .string ⟨#[]⟩, .string ⟨#[]⟩, .int .i64 0, .slice none 0 0, .int .i64 0, .int .i64 0, .slice none 0 0, .slice none 0 0, .slice none 0 0] 55)).heap.size by simp)
 have hc1 := cut_len s.data.toList [32]
 have hc2 := cut_len (Lib.cut s.data.toList [32]).2.1 [32, 124, 32]
 unfold ipE ipB
 have J1 := Lib.hid (fun W (h : Below w.heap.size w W) => show Calls Tryz.prog 85 #[.string s, .string ⟨#[32]⟩] W fun e w' => e = .returned (.tuple #[.string ⟨(Lib.cut s.data.toList [32]).1.toArray⟩, .string ⟨(Lib.cut s.data.toList [32]).2.1.toArray⟩, .bool (Lib.cut s.data.toList [32]).2.2]) ∧ Below W.heap.size W w' from cut_call s ⟨#[32]⟩ W hs (HM.out.below h))
 generalize Lib.cut s.data.toList [32] = c1 at *
 obtain ⟨l1, l2, k1⟩ := c1
 dsimp only at hc1 hc2 J1 ⊢
 have J2 := Lib.hid (fun W (h : Below w.heap.size w W) => show Calls Tryz.prog 85 #[.string ⟨l2.toArray⟩, .string ⟨#[32, 124, 32]⟩] W fun e w' => e = .returned (.tuple #[.string ⟨(Lib.cut l2 [32, 124, 32]).1.toArray⟩, .string ⟨(Lib.cut l2 [32, 124, 32]).2.1.toArray⟩, .bool (Lib.cut l2 [32, 124, 32]).2.2]) ∧ Below W.heap.size W w' from cut_call ⟨l2.toArray⟩ ⟨#[32, 124, 32]⟩ W (by rw [Lib.size_eq]; show l2.length ≤ _; omega) (HM.out.below h))
 generalize Lib.cut l2 [32, 124, 32] = c2 at *
 obtain ⟨l3, l4, k2⟩ := c2
 dsimp only at hc2 J2 ⊢
 have J3 := Lib.hid (fun W (h : Below w.heap.size w W) => show Calls Tryz.prog 142 #[.string ⟨l3.toArray⟩] W fun e w' => PwPost l3 W e w' from impl_ParseWalk ⟨l3.toArray⟩ W (by rw [Lib.size_eq]; show l3.length ≤ _; omega) (HM.out.below h) (HP.out.below h) (HE.out.below h))
 unfold PwPost at J3
 have hl4 : l4.length ≤ 1048576 := by omega
 clear hc1 hc2
 generalize pwB l3 = ok at *
 generalize pwN l3 = n at *
 generalize pwX l3 = X at *
 go_enter Tryz.func115, Tryz.ntmps115
 go_wp2_with fail
 generalize w.alloc (.cells #[.int .i64 0, .string ⟨#[]⟩, .string ⟨#[]⟩, .string ⟨#[]⟩, .int .i64 0, .slice none 0 0, .int .i64 0, .int .i64 0, .slice none 0 0, .slice none 0 0, .slice none 0 0] 55) = w0 at *
 have hs0 := HS0.out
 have hB := hb0
 refine (J1.out w0 hB).mono ?_
 rintro e w1 ⟨rfl, hb1⟩
 have hz2 := hb1.size
 replace hB := bl_trans hB hb1
 replace HR0 := bk HR0 hb1
 go_wp2_with fail
 refine (J2.out w1 hB).mono ?_
 rintro e w2 ⟨rfl, hb2⟩
 have hz3 := hb2.size
 replace hB := bl_trans hB hb2
 replace HR0 := bk HR0 hb2
 go_wp2_with fail
 refine (J3.out w2 hB).mono ?_
 rintro e w3 ⟨vx, bx, rfl, hox, hnx, hrx, hb3⟩
 have hz4 := hb3.size
 replace hB := bl_trans hB hb3
 replace HR0 := bk HR0 hb3
 obtain ⟨Ax, mx, cx, rfl⟩ := hox.isSlice
 have Ox := Lib.hid hox; clear hox
 have Gx := Lib.hid hrx; clear hrx J1 J2 J3
 cases ok with
 | false =>
  have hb5 := bl_alloc (Below.refl w3.heap.size w3) (.cells #[.int .i64 n, .slice Ax mx cx] 50)
  have HP0 := Lib.hid (heap_alloc_new w3 (.cells #[.int .i64 n, .slice Ax mx cx] 50))
  have hs5 : w3.heap.size < (w3.alloc (.cells #[.int .i64 n, .slice Ax mx cx] 50)).heap.size := by simp
  have HS5 := Lib.hid hs5; clear hs5; have hs5 := HS5.out
  have hz6 := hb5.size
  replace hB := bl_trans hB hb5
  replace HR0 := bk HR0 hb5
  replace Ox := Lib.hid (Ox.out.keep fun b hb' => hb5.block b (by have := Gx.out b hb'; omega))
  have r01 := cells11 HR0
  have p01 := cells2 HP0
  go_wp2_with fail
  generalize w3.alloc (.cells #[.int .i64 n, .slice Ax mx cx] 50) = w4 at *
  refine bodyPost_ret (v := .tuple #[.agg #[.int .i64 0, .string ⟨#[]⟩, .string ⟨#[]⟩, .string ⟨#[]⟩, .int .i64 0, .slice none 0 0, .int .i64 0, .int .i64 0, .slice none 0 0, .slice none 0 0, .slice none 0 0], .bool false]) (by simp [results, Tryz.results115, go_sem, r01]) rfl ?_
  refine ip_none ?_
  iterate 11 (refine Below.setCell ?_ (by simp) _)
  exact hB
 | true =>
  obtain ⟨p0, t, hspl⟩ : ∃ p0 t, spl 32 l4 [] = p0 :: t := by
   cases hq : spl 32 l4 [] with
   | nil => exact absurd hq (spl_ne _ _ _)
   | cons a b => exact ⟨_, _, rfl⟩
  have JC := Lib.hid (fun W (u : Value) (hr : RowsR W W.heap.size u X) (h : Below w.heap.size w W) => show Calls Tryz.prog 143 #[.agg #[.int .i64 n, u], .string ⟨l4.toArray⟩] W fun e w' => CjPost (pcI (byt l1) n X l4) (pcOk n X l4) W e w' from
   (impl_ParseCertificate n u X ⟨l4.toArray⟩ p0 t W hr (by rw [Lib.size_eq]; exact hl4) hspl (HM.out.below h) (HP.out.below h) (HE.out.below h)).mono fun e w' h => pj_item h hspl)
  have HI := Lib.hid (show (pcI (byt l1) n X l4).nm = byt l1 ∧ (pcI (byt l1) n X l4).n = n ∧ (pcI (byt l1) n X l4).xss = X from ⟨rfl, rfl, rfl⟩)
  generalize hIT : pcI (byt l1) n X l4 = IT at *
  generalize hOK : pcOk n X l4 = ok2 at *
  have EI := Lib.hid hIT; clear hIT
  have EO := Lib.hid hOK; clear hOK
  clear hspl
  have hb5 := bl_alloc (Below.refl w3.heap.size w3) (.cells #[.int .i64 n, .slice Ax mx cx] 50)
  have HP0 := Lib.hid (heap_alloc_new w3 (.cells #[.int .i64 n, .slice Ax mx cx] 50))
  have hs5 : w3.heap.size < (w3.alloc (.cells #[.int .i64 n, .slice Ax mx cx] 50)).heap.size := by simp
  have HS5 := Lib.hid hs5; clear hs5; have hs5 := HS5.out
  have hz6 := hb5.size
  replace hB := bl_trans hB hb5
  replace HR0 := bk HR0 hb5
  replace Ox := Lib.hid (Ox.out.keep fun b hb' => hb5.block b (by have := Gx.out b hb'; omega))
  have p01 := cells2 HP0
  go_wp2_with fail
  generalize w3.alloc (.cells #[.int .i64 n, .slice Ax mx cx] 50) = w4 at *
  refine (JC.out w4 _ (Ox.out.reads (B := w4.heap.size) (fun b hb' => by have := Gx.out b hb'; omega)) hB).mono ?_
  rintro e w5 ⟨vf, vs, vr, bf, bs, br, rfl, hof, hos, hor, hnd, hrg, hb5⟩
  have hz7 := hb5.size
  replace hB := bl_trans hB hb5
  replace HR0 := bk HR0 hb5
  clear p01
  replace HP0 := bk HP0 hb5
  replace Ox := Lib.hid (Ox.out.keep fun b hb' => hb5.block b (by have := Gx.out b hb'; omega))
  obtain ⟨Af, mf, cf, rfl⟩ := hof.1.isSlice
  obtain ⟨As, ms, cs, rfl⟩ := hos.1.isSlice
  obtain ⟨Ar, mr, cr, rfl⟩ := hor.isSlice
  have Of := Lib.hid hof; clear hof
  have Os := Lib.hid hos; clear hos
  have Or := Lib.hid hor; clear hor
  have Gc := Lib.hid hrg; clear hrg JC
  have hb8 := bl_alloc (Below.refl w5.heap.size w5) (.cells #[.int .i64 IT.cl, .int .i64 IT.lb, .slice Af mf cf, .slice As ms cs, .slice Ar mr cr] 51)
  have HC0 := Lib.hid (heap_alloc_new w5 (.cells #[.int .i64 IT.cl, .int .i64 IT.lb, .slice Af mf cf, .slice As ms cs, .slice Ar mr cr] 51))
  have hs8 : w5.heap.size < (w5.alloc (.cells #[.int .i64 IT.cl, .int .i64 IT.lb, .slice Af mf cf, .slice As ms cs, .slice Ar mr cr] 51)).heap.size := by simp
  have HS8 := Lib.hid hs8; clear hs8; have hs8 := HS8.out
  have hz9 := hb8.size
  replace hB := bl_trans hB hb8
  replace HR0 := bk HR0 hb8
  replace HP0 := bk HP0 hb8
  replace Ox := Lib.hid (Ox.out.keep fun b hb' => hb8.block b (by have := Gx.out b hb'; omega))
  replace Of := Lib.hid (Of.out.keep fun b hb' => hb8.block b (by have := Gc.out b (by simp [hb']); omega))
  replace Os := Lib.hid (Os.out.keep fun b hb' => hb8.block b (by have := Gc.out b (by simp [hb']); omega))
  replace Or := Lib.hid (Or.out.keep fun b hb' => hb8.block b (by have := Gc.out b (by simp [hb']); omega))
  have r01 := cells11 HR0
  have p02 := cells2 HP0
  have c01 := cells5 HC0
  go_wp2_with fail
  generalize w5.alloc (.cells #[.int .i64 IT.cl, .int .i64 IT.lb, .slice Af mf cf, .slice As ms cs, .slice Ar mr cr] 51) = w6 at *
  refine bodyPost_ret (v := .tuple #[.agg #[.int .i64 1, .string ⟨#[]⟩, .string ⟨#[]⟩, .string ⟨l1.toArray⟩, .int .i64 n, .slice Ax mx cx, .int .i64 IT.cl, .int .i64 IT.lb, .slice Af mf cf, .slice As ms cs, .slice Ar mr cr], .bool ok2]) (by simp [results, Tryz.results115, go_sem, r01]) rfl ?_
  show IpPost ⟨1, byt [], byt [], pcI (byt l1) n X l4⟩ (pcOk n X l4) w _ _
  rw [EI.out, EO.out]
  exact ip_mk HI.out.1 HI.out.2.1 HI.out.2.2 Ox.out Of.out Os.out Or.out (List.nodup_append.2 ⟨hnx, hnd, fun a ha b hb e => by
   have h1 := Gx.out a ha
   have h2 := Gc.out b hb
   omega⟩) (fun x hx => by
   rcases List.mem_append.1 hx with h | h
   ·
    have := Gx.out x h; omega
   ·
    have := Gc.out x h; omega) hB
set_option maxRecDepth 100000 in
set_option maxHeartbeats 1000000 in
theorem impl_ParseLabEntry (s : ByteArray) (w : World) (hs : s.size ≤ 1048576) (hm : MaxAt w) (hp : Pow10 w) (he : ErrAt w) :
  Calls Tryz.prog 82 #[.string s] w fun e w' => PePost s.data.toList w e w' := by
 have HM := Lib.hid hm; clear hm
 have HP := Lib.hid hp; clear hp
 have HE := Lib.hid he; clear he
 have hsl : s.data.toList.length ≤ 1048576 := by rw [← Lib.size_eq]; exact hs
 have hb0 := bl_alloc (Below.refl w.heap.size w) (.cells #[.int .i64 0, .string ⟨#[]⟩, .string ⟨#[]⟩, .string ⟨#[]⟩, .int .i64 0, .slice none 0 0, .int .i64 0, .int .i64 0, .slice none 0 0, .slice none 0 0, .slice none 0 0] 55)
 have HR0 := Lib.hid (heap_alloc_new w (.cells #[.int .i64 0, .string ⟨#[]⟩, .string ⟨#[]⟩, .string ⟨#[]⟩, .int .i64 0, .slice none 0 0, .int .i64 0, .int .i64 0, .slice none 0 0, .slice none 0 0, .slice none 0 0] 55))
 have HS0 := Lib.hid (show w.heap.size < (w.alloc (.cells #[.int .i64 0, .string ⟨#[]⟩, .string ⟨#[]⟩, .string ⟨#[]⟩, .int .i64 0, .slice none 0 0, .int .i64 0, .int .i64 0, .slice none 0 0, .slice none 0 0, .slice none 0 0] 55)).heap.size by simp)
 have HNO := Lib.hid (fun h => @j_no s.data.toList h)
 have HPY := Lib.hid (fun (E : Entry) h1 h2 => @pe_t s.data.toList E h1 h2)
 have HSZ := Lib.hid (jE_sz hsl)
 have hc1 := cut_len s.data.toList [32]
 have HJE := Lib.hid (show jE s.data.toList = jE s.data.toList ∧ jB s.data.toList = jB s.data.toList from ⟨rfl, rfl⟩)
 generalize hje : jE s.data.toList = E at *
 generalize hjb : jB s.data.toList = ok at *
 unfold jE at hje
 unfold jB at hjb
 have J1 := Lib.hid (fun W (h : Below w.heap.size w W) => show Calls Tryz.prog 85 #[.string s, .string ⟨#[32]⟩] W fun e w' => e = .returned (.tuple #[.string ⟨(Lib.cut s.data.toList [32]).1.toArray⟩, .string ⟨(Lib.cut s.data.toList [32]).2.1.toArray⟩, .bool (Lib.cut s.data.toList [32]).2.2]) ∧ Below W.heap.size W w' from cut_call s ⟨#[32]⟩ W hs (HM.out.below h))
 generalize Lib.cut s.data.toList [32] = c1 at *
 obtain ⟨l1, l2, k1⟩ := c1
 dsimp only at hc1 J1 hje hjb
 have HJ := Lib.hid hje; clear hje
 have HK := Lib.hid hjb; clear hjb HJE
 have hl2 : l2.length ≤ 1048576 := by omega
 clear hc1
 go_enter Tryz.func82, Tryz.ntmps82
 go_wp2_with fail
 generalize w.alloc (.cells #[.int .i64 0, .string ⟨#[]⟩, .string ⟨#[]⟩, .string ⟨#[]⟩, .int .i64 0, .slice none 0 0, .int .i64 0, .int .i64 0, .slice none 0 0, .slice none 0 0, .slice none 0 0] 55) = w0 at *
 have hs0 := HS0.out
 have hB := hb0
 refine (J1.out w0 hB).mono ?_
 rintro e w1 ⟨rfl, hb1⟩
 have hz2 := hb1.size
 replace hB := bl_trans hB hb1
 replace HR0 := bk HR0 hb1
 clear J1
 have hb3 := bl_alloc (Below.refl w1.heap.size w1) (.cells #[.int .i64 0, .string ⟨#[]⟩, .string ⟨#[]⟩, .string ⟨#[]⟩, .int .i64 0, .slice none 0 0, .int .i64 0, .int .i64 0, .slice none 0 0, .slice none 0 0, .slice none 0 0] 55)
 have HE0 := Lib.hid (heap_alloc_new w1 (.cells #[.int .i64 0, .string ⟨#[]⟩, .string ⟨#[]⟩, .string ⟨#[]⟩, .int .i64 0, .slice none 0 0, .int .i64 0, .int .i64 0, .slice none 0 0, .slice none 0 0, .slice none 0 0] 55))
 have hs3 : w1.heap.size < (w1.alloc (.cells #[.int .i64 0, .string ⟨#[]⟩, .string ⟨#[]⟩, .string ⟨#[]⟩, .int .i64 0, .slice none 0 0, .int .i64 0, .int .i64 0, .slice none 0 0, .slice none 0 0, .slice none 0 0] 55)).heap.size := by simp
 have HS3 := Lib.hid hs3; clear hs3; have hs3 := HS3.out
 have hz4 := hb3.size
 replace hB := bl_trans hB hb3
 replace HR0 := bk HR0 hb3
 have e01 := cells11 HE0
 go_upto_block 0 with fail
 generalize w1.alloc (.cells #[.int .i64 0, .string ⟨#[]⟩, .string ⟨#[]⟩, .string ⟨#[]⟩, .int .i64 0, .slice none 0 0, .int .i64 0, .int .i64 0, .slice none 0 0, .slice none 0 0, .slice none 0 0] 55) = w2 at *
 go_cut [8] (fun s8 wx => s8 = .bool ok ∧ CutE E w1.heap.size w2 wx)
 case first =>
  cases q1 : (l1 == [112, 117, 116]) with
  | true =>
   have e1 : l1 = putW := LawfulBEq.eq_of_beq q1
   have HJ1 := Lib.hid (show ipE l2 = E ∧ ipB l2 = ok by
    have a := HJ.out
    have b := HK.out
    rw [if_pos e1] at a b
    exact ⟨a, b⟩)
   clear e1
   have J := Lib.hid (fun W (h : Below w.heap.size w W) => show Calls Tryz.prog 115 #[.string ⟨l2.toArray⟩] W fun e w' => IpPost E ok W e w' by
    rw [← HJ1.out.1, ← HJ1.out.2]
    exact impl_readPut ⟨l2.toArray⟩ W (by rw [Lib.size_eq]; exact hl2) (HM.out.below h) (HP.out.below h) (HE.out.below h))
   go_wp2_with fail
   refine (J.out w2 hB).mono ?_
   rintro e w3 ⟨va, vf, vs, vr, bs, rfl, ho, hn, hr, hb3⟩
   have hz5 := hb3.size
   replace hB := bl_trans hB hb3
   replace HR0 := bk HR0 hb3
   clear e01
   replace HE0 := bk HE0 hb3
   obtain ⟨ba, bf, bz, br, oa, of, oz, or, hbs⟩ := id ho
   obtain ⟨Aa, ma, ca, rfl⟩ := oa.isSlice
   obtain ⟨Af, mf, cf, rfl⟩ := of.1.isSlice
   obtain ⟨As, ms, cs, rfl⟩ := oz.1.isSlice
   obtain ⟨Ar, mr, cr, rfl⟩ := or.isSlice
   clear oa of oz or hbs
   have HO := Lib.hid ho; clear ho
   have e02 := cells11 HE0
   go_wp2_with fail
   go_meet
   exact ⟨rfl, cutE_mk HE0.out HO.out hn (fun x hx => by have := hr x hx; omega) (hb3.mono (by omega)) (by omega)⟩
  | false =>
   have HK1 := Lib.hid (show ok = true by have b := HK.out; rw [if_neg (show ¬ l1 = putW from ne_of_beq q1)] at b; exact b.symm)
   have HJ1 := Lib.hid (show (if l1 = dropW then (⟨2, byt l2, byt [], zI⟩ : Entry) else if l1 = nameW then ⟨3, byt (Lib.cut l2 [32]).1, byt (Lib.cut l2 [32]).2.1, zI⟩ else zE) = E by have a := HJ.out; rw [if_neg (show ¬ l1 = putW from ne_of_beq q1)] at a; exact a)
   cases q2 : (l1 == [100, 114, 111, 112]) with
   | true =>
    have HJ2 := Lib.hid (show E = ⟨2, byt l2, byt [], zI⟩ by rw [← HJ1.out, if_pos (show l1 = dropW from LawfulBEq.eq_of_beq q2)])
    go_wp2_with fail
    go_meet
    rw [HJ2.out]
    exact ⟨by rw [HK1.out], cutE_mk (E := ⟨2, byt l2, byt [], zI⟩) HE0.out (own_item_zero _) List.nodup_nil (fun _ h => by cases h) (Below.refl _ _) (by omega)⟩
   | false =>
    cases q3 : (l1 == [110, 97, 109, 101]) with
    | true =>
     have HJ2 := Lib.hid (show E = ⟨3, byt (Lib.cut l2 [32]).1, byt (Lib.cut l2 [32]).2.1, zI⟩ by rw [← HJ1.out, if_neg (show ¬ l1 = dropW from ne_of_beq q2), if_pos (show l1 = nameW from LawfulBEq.eq_of_beq q3)])
     have J := Lib.hid (fun W (h : Below w.heap.size w W) => show Calls Tryz.prog 85 #[.string ⟨l2.toArray⟩, .string ⟨#[32]⟩] W fun e w' => e = .returned (.tuple #[.string ⟨(Lib.cut l2 [32]).1.toArray⟩, .string ⟨(Lib.cut l2 [32]).2.1.toArray⟩, .bool (Lib.cut l2 [32]).2.2]) ∧ Below W.heap.size W w' from cut_call ⟨l2.toArray⟩ ⟨#[32]⟩ W (by rw [Lib.size_eq]; exact hl2) (HM.out.below h))
     clear HJ HJ1
     generalize Lib.cut l2 [32] = c2 at *
     obtain ⟨l3, l4, k2⟩ := c2
     dsimp only at HJ2 J
     go_wp2_with fail
     refine (J.out w2 hB).mono ?_
     rintro e w3 ⟨rfl, hb3⟩
     have hz5 := hb3.size
     replace hB := bl_trans hB hb3
     replace HR0 := bk HR0 hb3
     clear e01
     replace HE0 := bk HE0 hb3
     have e02 := cells11 HE0
     go_wp2_with fail
     go_meet
     rw [HJ2.out]
     exact ⟨by rw [HK1.out], cutE_mk (E := ⟨3, byt l3, byt l4, zI⟩) HE0.out (own_item_zero _) List.nodup_nil (fun _ h => by cases h) (hb3.mono (by omega)) (by omega)⟩
    | false =>
     have HJ2 := Lib.hid (show E = zE by rw [← HJ1.out, if_neg (show ¬ l1 = dropW from ne_of_beq q2), if_neg (show ¬ l1 = nameW from ne_of_beq q3)])
     go_wp2_with fail
     go_meet
     rw [HJ2.out]
     exact ⟨by rw [HK1.out], _, _, _, _, [], HE0.out, own_item_zero _, List.nodup_nil, (fun _ h => by cases h), Below.refl _ _, by omega⟩
 case rest =>
  obtain ⟨rfl, va, vf, vs, vr, bs, hbx, ho, hn, hr, hb3, hlt3⟩ := hcut
  obtain ⟨w5, rfl⟩ : ∃ x, x = wc := ⟨_, rfl⟩
  obtain ⟨ba, bf, bz, br, oa, of, oz, or, hbs⟩ := id ho
  obtain ⟨Aa, ma, ca, rfl⟩ := oa.isSlice
  obtain ⟨Af, mf, cf, rfl⟩ := of.1.isSlice
  obtain ⟨As, ms, cs, rfl⟩ := oz.1.isSlice
  obtain ⟨Ar, mr, cr, rfl⟩ := or.isSlice
  clear e01
  clear oa of oz or hbs HE0 HJ HK
  have OI := Lib.hid ho; clear ho
  have HE0 := Lib.hid hbx; clear hbx
  have GI := Lib.hid hr; clear hr
  replace hB : Below w.heap.size w w5 := hB.trans (hb3.mono (by omega))
  replace HR0 := bk HR0 hb3
  have hz9 : w1.heap.size < w5.heap.size := hlt3
  have hz9b : w1.heap.size < w2.heap.size := by omega
  have HSE := Lib.hid HSZ.out.1
  have HLB := Lib.hid HSZ.out.2; clear HSZ
  have r01 := cells11 HR0
  have e01 := cells11 HE0
  cases ok with
  | false =>
   have hno := HNO.out (fun h => by cases h.1)
   go_wp2_with fail
   refine bodyPost_ret (v := .tuple #[.agg #[.int .i64 0, .string ⟨#[]⟩, .string ⟨#[]⟩, .string ⟨#[]⟩, .int .i64 0, .slice none 0 0, .int .i64 0, .int .i64 0, .slice none 0 0, .slice none 0 0, .slice none 0 0], .bool false]) (by simp [results, Tryz.results82, go_sem, r01]) rfl (pe_none hno ?_)
   iterate 11 (refine Below.setCell ?_ (by simp) _)
   exact hB
  | true =>
   go_wp2_with fail
   refine (impl_entryOk E _ _ _ _ w5 (OI.out.reads (B := w5.heap.size) (fun b hb' => by have := GI.out b hb'; omega)) HSE.out HLB.out).mono ?_
   rintro e w6 ⟨rfl, hb6⟩
   have hz5 := hb6.size
   replace hB := bl_trans hB hb6
   clear r01
   replace HR0 := bk HR0 hb6
   clear e01
   replace HE0 := bk HE0 hb6
   replace OI := Lib.hid (OI.out.keep fun b hb' => hb6.block b (by have := GI.out b hb'; omega))
   have r02 := cells11 HR0
   have e02 := cells11 HE0
   cases q4 : entryB E with
   | false =>
    have hno := HNO.out (fun h => propB_ff q4 h.2.1)
    go_wp2_with fail
    refine bodyPost_ret (v := .tuple #[.agg #[.int .i64 0, .string ⟨#[]⟩, .string ⟨#[]⟩, .string ⟨#[]⟩, .int .i64 0, .slice none 0 0, .int .i64 0, .int .i64 0, .slice none 0 0, .slice none 0 0, .slice none 0 0], .bool false]) (by simp [results, Tryz.results82, go_sem, r02]) rfl (pe_none hno ?_)
    iterate 11 (refine Below.setCell ?_ (by simp) _)
    exact hB
   | true =>
    have HEP := Lib.hid (propB_iff.1 q4); clear q4
    obtain ⟨T, hT⟩ : ∃ T, T = entryT E := ⟨_, rfl⟩
    have JT := Lib.hid (show Calls Tryz.prog 69 #[entryV E (.slice Aa ma ca) (.slice Af mf cf) (.slice As ms cs) (.slice Ar mr cr)] w6 fun e w' => e = .returned (.string ⟨T.toArray⟩) ∧ Below w6.heap.size w6 w' by
     rw [hT]
     exact impl_labEntryText E _ _ _ _ w6 (OI.out.reads (B := w6.heap.size) (fun b hb' => by have := GI.out b hb'; omega)) HEP.out.sz HEP.out (HP.out.below hB))
    have HTT := Lib.hid hT; clear hT
    go_wp2_with fail
    refine (JT.out).mono ?_
    rintro e w7 ⟨rfl, hb7⟩
    have hz6 := hb7.size
    replace hB := bl_trans hB hb7
    clear r02
    replace HR0 := bk HR0 hb7
    clear e02
    replace HE0 := bk HE0 hb7
    replace OI := Lib.hid (OI.out.keep fun b hb' => hb7.block b (by have := GI.out b hb'; omega))
    have r03 := cells11 HR0
    have e03 := cells11 HE0
    by_cases q7 : T = s.data.toList
    ·
     obtain ⟨y1, y2⟩ := HPY.out E HEP.out (by rw [← HTT.out]; exact q7)
     have k1 : (T == s.toList) = true := by rw [Lib.toList_data, q7]; simp
     have k2 : (T == s.data.toList) = true := by rw [q7]; simp
     have Y1 := Lib.hid y1; clear y1
     have Y2 := Lib.hid y2; clear y2
     clear q7 HNO HPY
     go_wp2_with fail
     refine bodyPost_ret (v := .tuple #[.agg #[.int .i64 E.kd, .string E.nm, .string E.tn, .string E.it.nm, .int .i64 E.it.n, .slice Aa ma ca, .int .i64 E.it.cl, .int .i64 E.it.lb, .slice Af mf cf, .slice As ms cs, .slice Ar mr cr], .bool true]) (by simp [results, Tryz.results82, go_sem, r03]) rfl (pe_yes Y1.out Y2.out OI.out hn (fun x hx => by have := GI.out x hx; omega) hB rfl)
    ·
     have k1 : (T == s.toList) = false := by rw [Lib.toList_data, beq_eq_false_iff_ne]; exact q7
     have k2 : (T == s.data.toList) = false := by rw [beq_eq_false_iff_ne]; exact q7
     have Q7 := Lib.hid q7; clear q7
     have hno := HNO.out (fun h => Q7.out (by rw [HTT.out]; exact h.2.2))
     go_wp2_with fail
     refine bodyPost_ret (v := .tuple #[.agg #[.int .i64 0, .string ⟨#[]⟩, .string ⟨#[]⟩, .string ⟨#[]⟩, .int .i64 0, .slice none 0 0, .int .i64 0, .int .i64 0, .slice none 0 0, .slice none 0 0, .slice none 0 0], .bool false]) (by simp [results, Tryz.results82, go_sem, r03]) rfl (pe_none hno ?_)
     iterate 11 (refine Below.setCell ?_ (by simp) _)
     exact hB
end
end Go.Proofs.YtcfbkickiijjkaaGreatDoor
