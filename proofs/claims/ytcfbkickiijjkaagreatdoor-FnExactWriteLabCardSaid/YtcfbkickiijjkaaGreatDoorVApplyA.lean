/-
  What a store is after an entry: the plain law, with no program in sight. No condition.
  copy, clear and append over a row whose elements take several cells, as equations of their runs; a row of the call's own with cells put in, taken out, put over. No condition.
  The reference's l1Own, srLists, srOwn: copies in memory of their own. No condition but on sizes.
  The program's slices.Clone of numbers, copyLists, copyItem: copies in memory of their own. No condition but on sizes.
  The reference's srFind, srWithout, srWith, srApply and ApplyLab: what a store is after an entry.
-/
import Derived.Test.YtcfbkickiijjkaaGreatDoorVStoreAll
import Derived.Laws.IdiomCopy
import Derived.Laws.CopyRow
import Derived.Laws.NewBlocks
import Derived.Lib.SliceRun
import Derived.Lib.AppendZeros
import Derived.Lib.AppendZerosOnto
import Derived.Lib.Overlaps
import Derived.Deep.RegionLaw
import Derived.Laws.Externs
import Derived.Test.YtcfbkickiijjkaaGreatDoorVReadWalk
namespace Go.Proofs.YtcfbkickiijjkaaGreatDoor
section
set_option linter.all false
theorem bytesLess_lt : ∀ (x y : List UInt8), Op.bytesLess x y = decide (x < y)
  | [], [] => by simp [Op.bytesLess]
  | _ :: _, [] => by simp [Op.bytesLess]
  | [], _ :: _ => by simp [Op.bytesLess]
  | a :: x, b :: y => by
    unfold Op.bytesLess
    rw [bytesLess_lt x y, Bool.eq_iff_iff]
    simp [List.cons_lt_cons_iff]
theorem ltS_iff {a b : ByteArray} : ltS a b = true ↔ a.toList < b.toList := by
  unfold ltS
  rw [bytesLess_lt]
  exact decide_eq_true_iff
theorem ltS_ff {a b : ByteArray} : ltS a b = false ↔ ¬ a.toList < b.toList := by
  rw [← ltS_iff]
  cases ltS a b <;> simp
theorem lt_tr {a b c : List UInt8} (h : a < b) (k : b < c) : a < c := List.lt_trans h k
theorem lt_ir (a : List UInt8) : ¬ a < a := List.lt_irrefl a
theorem lt_tri (a b : List UInt8) : a < b ∨ a = b ∨ b < a := by
  by_cases h : a < b
  · exact .inl h
  · by_cases k : b < a
    · exact .inr (.inr k)
    · exact .inr (.inl (List.le_antisymm (List.not_lt.1 k) (List.not_lt.1 h)))
def Sd (xs : List Item) : Prop := xs.Pairwise fun x y => x.nm.toList < y.nm.toList
theorem sd_of_adj : ∀ (xs : List Item), (∀ k x y, xs[k + 1]? = some x → xs[k]? = some y → y.nm.toList < x.nm.toList) → Sd xs
  | [], _ => List.Pairwise.nil
  | [x], _ => by unfold Sd; simp
  | x :: y :: r, h => by
    have ih : Sd (y :: r) := sd_of_adj (y :: r) fun k a b h1 h2 => h (k + 1) a b (by simpa using h1) (by simpa using h2)
    have hxy : x.nm.toList < y.nm.toList := h 0 y x (by simp) (by simp)
    unfold Sd at ih ⊢
    rw [List.pairwise_cons]
    refine ⟨fun z hz => ?_, ih⟩
    rcases List.mem_cons.1 hz with rfl | hz
    · exact hxy
    · exact lt_tr hxy ((List.pairwise_cons.1 ih).1 z hz)
theorem storeP.sd {xs : List Item} (h : storeP xs) : Sd xs :=
  sd_of_adj xs fun k x y h1 h2 => ltS_iff.1 ((h.1 (k + 1) (List.getElem?_eq_some_iff.1 h1).1).2 (Nat.succ_pos _) x y h1 (by simpa using h2))
theorem storeP.all {xs : List Item} (h : storeP xs) : ∀ x ∈ xs, itemP x := fun x hx => by
  obtain ⟨k, hk, e⟩ := List.getElem_of_mem hx
  exact (h.1 k hk).1 x (by rw [List.getElem?_eq_getElem hk, e])
theorem store_of {xs : List Item} (h : ∀ x ∈ xs, itemP x) (hs : Sd xs) (hl : xs.length ≤ 8) : storeP xs := by
  refine ⟨fun i hi => ⟨fun x hx => h x (List.mem_of_getElem? hx), fun h0 x y hx hy => ltS_iff.2 ?_⟩, hl⟩
  obtain ⟨hi1, e1⟩ := List.getElem?_eq_some_iff.1 hx
  obtain ⟨hi2, e2⟩ := List.getElem?_eq_some_iff.1 hy
  rw [← e1, ← e2]
  exact List.pairwise_iff_getElem.1 hs (i - 1) i hi2 hi1 (by omega)
def cntN (nm : ByteArray) (xs : List Item) : Nat := xs.countP fun x => ltS x.nm nm
def hasN (nm : ByteArray) (xs : List Item) : Bool := xs.any fun x => x.nm.toList == nm.toList
def fN (nm : ByteArray) (xs : List Item) : Int := if hasN nm xs = true then (cntN nm xs : Int) else -1
theorem cntI_le (nm : ByteArray) (xs : List Item) : cntN nm xs ≤ xs.length := List.countP_le_length
theorem cnt_cases {nm : ByteArray} : ∀ {xs : List Item}, Sd xs → (∀ k x, xs[k]? = some x → k < cntN nm xs → x.nm.toList < nm.toList) ∧ (∀ k x, xs[k]? = some x → cntN nm xs ≤ k → ¬ x.nm.toList < nm.toList)
  | [], _ => ⟨fun k x h => by simp at h, fun k x h => by simp at h⟩
  | x :: r, h => by
    obtain ⟨hx, hr⟩ := List.pairwise_cons.1 h
    obtain ⟨ih1, ih2⟩ := cnt_cases (nm := nm) (xs := r) hr
    by_cases hlt : x.nm.toList < nm.toList
    · have e : cntN nm (x :: r) = cntN nm r + 1 := List.countP_cons_of_pos (ltS_iff.2 hlt)
      rw [e]
      constructor
      · intro k y hy hk
        cases k with
        | zero => obtain rfl : x = y := by simpa using hy
                  exact hlt
        | succ k => exact ih1 k y (by simpa using hy) (by omega)
      · intro k y hy hk
        cases k with
        | zero => omega
        | succ k => exact ih2 k y (by simpa using hy) (by omega)
    · have e : cntN nm (x :: r) = 0 := by
        unfold cntN
        rw [List.countP_eq_zero]
        intro y hy hc
        have hc := ltS_iff.1 hc
        rcases List.mem_cons.1 hy with rfl | hy
        · exact hlt hc
        · exact hlt (lt_tr (hx y hy) hc)
      rw [e]
      refine ⟨fun k y hy hk => absurd hk (Nat.not_lt_zero _), fun k y hy _ hc => ?_⟩
      rcases List.mem_cons.1 (List.mem_of_getElem? hy) with rfl | hy
      · exact hlt hc
      · exact hlt (lt_tr (hx y hy) hc)
theorem hasI_iff {nm : ByteArray} {xs : List Item} : hasN nm xs = true ↔ ∃ x ∈ xs, x.nm.toList = nm.toList := by
  unfold hasN
  simp [List.any_eq_true]
theorem has_at {nm : ByteArray} {xs : List Item} (h : Sd xs) {k : Nat} {x : Item} (hx : xs[k]? = some x) (e : x.nm.toList = nm.toList) : hasN nm xs = true ∧ cntN nm xs = k := by
  obtain ⟨c1, c2⟩ := cnt_cases (nm := nm) h
  refine ⟨hasI_iff.2 ⟨x, List.mem_of_getElem? hx, e⟩, ?_⟩
  have hk := (List.getElem?_eq_some_iff.1 hx).1
  have h1 : ¬ k < cntN nm xs := fun hk => lt_ir _ (e ▸ c1 k x hx hk)
  refine Nat.le_antisymm (Nat.not_lt.1 fun h2 => h1 h2) (Nat.not_lt.1 fun h2 => ?_)
  have hc : cntN nm xs < xs.length := by omega
  have h3 := List.pairwise_iff_getElem.1 h _ _ hc hk h2
  rw [(List.getElem?_eq_some_iff.1 hx).2, e] at h3
  exact c2 _ _ (List.getElem?_eq_getElem hc) (Nat.le_refl _) h3
theorem has_cnt {nm : ByteArray} {xs : List Item} (h : Sd xs) (hh : hasN nm xs = true) : ∃ x, xs[cntN nm xs]? = some x ∧ x.nm.toList = nm.toList := by
  obtain ⟨x, hx, e⟩ := hasI_iff.1 hh
  obtain ⟨k, hk, ek⟩ := List.getElem_of_mem hx
  have hk' : xs[k]? = some x := by rw [List.getElem?_eq_getElem hk, ek]
  obtain ⟨_, c⟩ := has_at h hk' e
  exact ⟨x, by rw [c]; exact hk', e⟩
theorem has_no {nm : ByteArray} {xs : List Item} (h : ∀ x ∈ xs, x.nm.toList ≠ nm.toList) : hasN nm xs = false := by
  cases q : hasN nm xs with
  | false => rfl
  | true => obtain ⟨x, hx, e⟩ := hasI_iff.1 q; exact absurd e (h x hx)
def insI (x : Item) : List Item → List Item
  | [] => [x]
  | y :: r => if ltS x.nm y.nm = true then x :: y :: r else y :: insI x r
theorem ins_snoc (x y : Item) : ∀ (l : List Item), insI x (l ++ [y]) = if l.any (fun z => ltS x.nm z.nm) = true then insI x l ++ [y] else if ltS x.nm y.nm = true then l ++ [x, y] else l ++ [y, x]
  | [] => by by_cases h : ltS x.nm y.nm = true <;> simp [insI, h]
  | z :: l => by
    rw [List.cons_append, insI, insI, ins_snoc x y l]
    by_cases h : ltS x.nm z.nm = true
    · simp [h]
    · by_cases k : l.any (fun z => ltS x.nm z.nm) = true
      · simp only [List.any_cons, h, k]
        simp
      · by_cases q : ltS x.nm y.nm = true <;> simp only [List.any_cons, h, k, q] <;> simp [h, k, q]
theorem ins_none (x : Item) : ∀ (l : List Item), l.any (fun z => ltS x.nm z.nm) = false → insI x l = l ++ [x]
  | [], _ => rfl
  | z :: l, h => by
    rw [List.any_cons, Bool.or_eq_false_iff] at h
    rw [insI, h.1, ins_none x l h.2]
    rfl
theorem ins_mem (x : Item) : ∀ (l : List Item), ∀ z, z ∈ insI x l ↔ z = x ∨ z ∈ l
  | [], z => by simp [insI]
  | y :: l, z => by
    rw [insI]
    by_cases h : ltS x.nm y.nm = true
    · rw [if_pos h]; simp
    · rw [if_neg h, List.mem_cons, ins_mem x l z, List.mem_cons]
      constructor
      · rintro (h | h | h) <;> simp [h]
      · rintro (h | h | h) <;> simp [h]
theorem ins_len (x : Item) : ∀ (l : List Item), (insI x l).length = l.length + 1
  | [] => rfl
  | y :: l => by
    rw [insI]
    by_cases h : ltS x.nm y.nm = true
    · rw [if_pos h]; rfl
    · rw [if_neg h, List.length_cons, ins_len x l]; rfl
theorem ins_sd (x : Item) : ∀ (l : List Item), Sd l → (∀ z ∈ l, z.nm.toList ≠ x.nm.toList) → Sd (insI x l)
  | [], _, _ => by unfold Sd insI; simp
  | y :: l, h, hn => by
    obtain ⟨hy, hl⟩ := List.pairwise_cons.1 h
    rw [insI]
    by_cases q : ltS x.nm y.nm = true
    · rw [if_pos q]
      have hxy := ltS_iff.1 q
      refine List.pairwise_cons.2 ⟨fun z hz => ?_, h⟩
      rcases List.mem_cons.1 hz with rfl | hz
      · exact hxy
      · exact lt_tr hxy (hy z hz)
    · rw [if_neg q]
      have hyx : y.nm.toList < x.nm.toList := by
        rcases lt_tri x.nm.toList y.nm.toList with h1 | h1 | h1
        · exact absurd (ltS_iff.2 h1) q
        · exact absurd h1.symm (hn y (by simp))
        · exact h1
      refine List.pairwise_cons.2 ⟨fun z hz => ?_, ins_sd x l hl fun z hz => hn z (by simp [hz])⟩
      rcases (ins_mem x l z).1 hz with rfl | hz
      · exact hyx
      · exact hy z hz
theorem ins_at (x : Item) : ∀ (l : List Item), Sd l → (∀ z ∈ l, z.nm.toList ≠ x.nm.toList) → insI x l = l.take (cntN x.nm l) ++ x :: l.drop (cntN x.nm l)
  | [], _, _ => rfl
  | y :: l, h, hn => by
    obtain ⟨hy, hl⟩ := List.pairwise_cons.1 h
    rw [insI]
    by_cases q : ltS x.nm y.nm = true
    · rw [if_pos q]
      have hxy := ltS_iff.1 q
      have e : cntN x.nm (y :: l) = 0 := by
        unfold cntN
        rw [List.countP_eq_zero]
        intro z hz hc
        have hc := ltS_iff.1 hc
        rcases List.mem_cons.1 hz with rfl | hz
        · exact lt_ir _ (lt_tr hxy hc)
        · exact lt_ir _ (lt_tr hxy (lt_tr (hy z hz) hc))
      rw [e]; rfl
    · rw [if_neg q]
      have hyx : y.nm.toList < x.nm.toList := by
        rcases lt_tri x.nm.toList y.nm.toList with h1 | h1 | h1
        · exact absurd (ltS_iff.2 h1) q
        · exact absurd h1.symm (hn y (by simp))
        · exact h1
      have e : cntN x.nm (y :: l) = cntN x.nm l + 1 := List.countP_cons_of_pos (ltS_iff.2 hyx)
      rw [e, ins_at x l hl fun z hz => hn z (by simp [hz])]
      rfl
def delI (xs : List Item) (k : Int) : List Item := if 0 ≤ k then xs.eraseIdx k.toNat else xs
theorem delI_mem {xs : List Item} {k : Int} {z : Item} (h : z ∈ delI xs k) : z ∈ xs := by
  unfold delI at h
  split at h
  · exact List.mem_of_mem_eraseIdx h
  · exact h
theorem delI_sd {xs : List Item} {k : Int} (h : Sd xs) : Sd (delI xs k) := by
  unfold delI
  split
  · exact h.sublist (List.eraseIdx_sublist _ _)
  · exact h
theorem delI_step {xs : List Item} {j : Nat} {x : Item} (h : xs[j]? = some x) (k : Int) : delI (xs.take (j + 1)) k = if (j : Int) = k then delI (xs.take j) k else delI (xs.take j) k ++ [x] := by
  have hj := (List.getElem?_eq_some_iff.1 h).1
  have e : xs.take (j + 1) = xs.take j ++ [x] := by
    rw [List.take_succ_eq_append_getElem hj, ((List.getElem?_eq_some_iff.1 h).2)]
  have hl : (xs.take j).length = j := by rw [List.length_take]; omega
  rw [e]
  unfold delI
  by_cases h0 : 0 ≤ k
  · rw [if_pos h0, if_pos h0]
    by_cases q : (j : Int) = k
    · rw [if_pos q, List.eraseIdx_append_of_length_le (by omega), List.eraseIdx_of_length_le (l := xs.take j) (by omega)]
      have : k.toNat - (xs.take j).length = 0 := by omega
      rw [this]; simp
    · rw [if_neg q]
      by_cases q2 : k.toNat < j
      · rw [List.eraseIdx_append_of_lt_length (by omega)]
      · rw [List.eraseIdx_of_length_le (by simp; omega), List.eraseIdx_of_length_le (l := xs.take j) (by omega)]
  · rw [if_neg h0, if_neg h0, if_neg (by omega)]
theorem delI_none {xs : List Item} {nm : ByteArray} (h : hasN nm xs = false) : delI xs (fN nm xs) = xs := by
  unfold fN
  rw [h]
  rfl
theorem delI_some {xs : List Item} {nm : ByteArray} (h : hasN nm xs = true) : delI xs (fN nm xs) = xs.eraseIdx (cntN nm xs) := by
  unfold fN delI
  rw [if_pos h, if_pos (by omega), Int.toNat_natCast]
theorem not_in {xs : List Item} {nm : ByteArray} (h : Sd xs) : ∀ z ∈ delI xs (fN nm xs), z.nm.toList ≠ nm.toList := by
  intro z hz e
  cases q : hasN nm xs with
  | false =>
    rw [delI_none q] at hz
    have : hasN nm xs = true := hasI_iff.2 ⟨z, hz, e⟩
    rw [q] at this; cases this
  | true =>
    rw [delI_some q] at hz
    obtain ⟨k, hk, ek⟩ := List.getElem_of_mem hz
    rw [List.getElem_eraseIdx] at ek
    split at ek
    · have := (has_at h (nm := nm) (k := k) (x := z) (List.getElem?_eq_some_iff.2 ⟨_, ek⟩) e).2
      omega
    · have := (has_at h (nm := nm) (k := k + 1) (x := z) (List.getElem?_eq_some_iff.2 ⟨_, ek⟩) e).2
      omega
theorem cnt_erase (p : Item → Bool) {xs : List Item} {k : Nat} {y : Item} (hy : xs[k]? = some y) : xs.countP p = (xs.eraseIdx k).countP p + [y].countP p := by
  obtain ⟨hk, e⟩ := List.getElem?_eq_some_iff.1 hy
  have h1 : xs = xs.take k ++ y :: xs.drop (k + 1) := by rw [← e, ← List.drop_eq_getElem_cons hk, List.take_append_drop]
  rw [List.eraseIdx_eq_take_drop_succ, List.countP_append]
  conv => lhs; rw [h1]
  rw [List.countP_append, List.countP_cons, List.countP_cons]
  simp
  omega
theorem ins_over {xs : List Item} {x : Item} (h : Sd xs) (hh : hasN x.nm xs = true) : insI x (delI xs (fN x.nm xs)) = xs.set (cntN x.nm xs) x := by
  have hn := not_in (nm := x.nm) h
  rw [ins_at x _ (delI_sd h) hn]
  rw [delI_some hh] at hn ⊢
  obtain ⟨y, hy, e⟩ := has_cnt h hh
  have hk := (List.getElem?_eq_some_iff.1 hy).1
  obtain ⟨c1, c2⟩ := cnt_cases (nm := x.nm) h
  have ec : cntN x.nm (xs.eraseIdx (cntN x.nm xs)) = cntN x.nm xs := by
    have : cntN x.nm xs = cntN x.nm (xs.eraseIdx (cntN x.nm xs)) + cntN x.nm [y] := cnt_erase _ hy
    have h0 : cntN x.nm [y] = 0 := by
      unfold cntN
      rw [List.countP_eq_zero]
      intro z hz hc
      obtain rfl : z = y := by simpa using hz
      rw [ltS_iff, e] at hc
      exact lt_ir _ hc
    omega
  rw [ec, List.eraseIdx_eq_take_drop_succ, List.take_append_of_le_length (by rw [List.length_take]; omega), List.take_take, Nat.min_self, List.drop_append_of_le_length (by rw [List.length_take]; omega)]
  rw [List.drop_of_length_le (l := xs.take _) (by rw [List.length_take]; omega), List.nil_append, List.set_eq_take_append_cons_drop, if_pos hk]
def rnI (x : Item) (tn : ByteArray) : Item := { x with nm := tn }
def apX (xs : List Item) (e : Entry) : List Item :=
  if e.kd = 1 then insI e.it (delI xs (fN e.it.nm xs))
  else if e.kd = 2 then delI xs (fN e.nm xs)
  else match xs[cntN e.nm xs]? with
    | some x => insI (rnI x e.tn) (delI xs (fN e.nm xs))
    | none => []
def apP (xs : List Item) (e : Entry) : Prop :=
  entryP e ∧ ((e.kd = 1 ∧ (apX xs e).length ≤ 8) ∨ (e.kd = 2 ∧ hasN e.nm xs = true) ∨ (e.kd = 3 ∧ hasN e.nm xs = true ∧ hasN e.tn (delI xs (fN e.nm xs)) = false))
noncomputable def apB (xs : List Item) (e : Entry) : Bool := propB (apP xs e)
theorem rn_item {x : Item} {tn : ByteArray} (h : itemP x) (hn : nameP tn.data.toList) : itemP (rnI x tn) := ⟨hn, h.2.1, h.2.2⟩
theorem ap_store {xs : List Item} {e : Entry} (h : storeP xs) (ha : apP xs e) : storeP (apX xs e) := by
 obtain ⟨he, hc⟩ := ha
 have hs := h.sd
 have hi := h.all
 have h8 := h.2
 rcases hc with ⟨hk, hl⟩ | ⟨hk, hh⟩ | ⟨hk, hh, ht⟩
 ·
  have hit : itemP e.it := by
   rcases he with he | he | he
   ·
    exact he.2.2.2
   ·
    have := he.1; omega
   ·
    have := he.1; omega
  have e1 : apX xs e = insI e.it (delI xs (fN e.it.nm xs)) := by unfold apX; rw [if_pos hk]
  refine store_of (fun z hz => ?_) ?_ hl
  ·
   rw [e1] at hz
   rcases (ins_mem _ _ _).1 hz with rfl | hz
   ·
    exact hit
   ·
    exact hi z (delI_mem hz)
  ·
   rw [e1]
   exact ins_sd _ _ (delI_sd hs) (not_in hs)
 ·
  have e1 : apX xs e = delI xs (fN e.nm xs) := by unfold apX; rw [if_neg (by omega), if_pos hk]
  rw [e1]
  refine store_of (fun z hz => hi z (delI_mem hz)) (delI_sd hs) ?_
  rw [delI_some hh]
  exact Nat.le_trans (List.length_eraseIdx_le _ _) h8
 ·
  obtain ⟨x, hx, ex⟩ := has_cnt hs hh
  have hk' := (List.getElem?_eq_some_iff.1 hx).1
  have e1 : apX xs e = insI (rnI x e.tn) (delI xs (fN e.nm xs)) := by unfold apX; rw [if_neg (by omega), if_neg (by omega), hx]
  have hnm : nameP e.tn.data.toList := by
   rcases he with he | he | he
   ·
    have := he.1; omega
   ·
    have := he.1; omega
   ·
    exact he.2.2.1
  rw [e1]
  refine store_of (fun z hz => ?_) (ins_sd _ _ (delI_sd hs) fun z hz ez => ?_) ?_
  ·
   rcases (ins_mem _ _ _).1 hz with rfl | hz
   ·
    exact rn_item (hi x (List.mem_of_getElem? hx)) hnm
   ·
    exact hi z (delI_mem hz)
  ·
   have : hasN e.tn (delI xs (fN e.nm xs)) = true := hasI_iff.2 ⟨z, hz, ez⟩
   rw [ht] at this
   cases this
  ·
   rw [ins_len, delI_some hh, List.length_eraseIdx_of_lt hk']
   omega
theorem ap_1 {xs : List Item} {e : Entry} (he : entryP e) (h1 : e.kd = 1) : apX xs e = insI e.it (delI xs (fN e.it.nm xs)) ∧ apB xs e = decide (((insI e.it (delI xs (fN e.it.nm xs))).length : Int) ≤ 8) := by
  have e1 : apX xs e = insI e.it (delI xs (fN e.it.nm xs)) := by unfold apX; rw [if_pos h1]
  refine ⟨e1, ?_⟩
  by_cases q : (insI e.it (delI xs (fN e.it.nm xs))).length ≤ 8
  · rw [show apB xs e = true from propB_t ⟨he, .inl ⟨h1, by rw [e1]; exact q⟩⟩]
    exact (decide_eq_true (by omega)).symm
  · rw [show apB xs e = false from propB_f fun h => by
      rcases h.2 with h | h | h
      · rw [e1] at h; exact q h.2
      · have := h.1; omega
      · have := h.1; omega]
    exact (decide_eq_false (by omega)).symm
theorem ap_none {xs : List Item} {e : Entry} (h1 : e.kd ≠ 1) (hh : hasN e.nm xs = false) : apB xs e = false := propB_f fun h => by
  rcases h.2 with h | h | h
  · exact h1 h.1
  · rw [hh] at h; exact absurd h.2 (by simp)
  · rw [hh] at h; exact absurd h.2.1 (by simp)
theorem ap_2 {xs : List Item} {e : Entry} (he : entryP e) (h2 : e.kd = 2) (hh : hasN e.nm xs = true) : apX xs e = delI xs (fN e.nm xs) ∧ apB xs e = true :=
  ⟨by unfold apX; rw [if_neg (by omega), if_pos h2], propB_t ⟨he, .inr (.inl ⟨h2, hh⟩)⟩⟩
theorem ap_taken {xs : List Item} {e : Entry} (h3 : e.kd = 3) (ht : hasN e.tn (delI xs (fN e.nm xs)) = true) : apB xs e = false := propB_f fun h => by
  rcases h.2 with h | h | h
  · have := h.1; omega
  · have := h.1; omega
  · rw [ht] at h; exact absurd h.2.2 (by simp)
theorem ap_3 {xs : List Item} {e : Entry} (he : entryP e) (h3 : e.kd = 3) (hh : hasN e.nm xs = true) (ht : hasN e.tn (delI xs (fN e.nm xs)) = false) {x : Item} (hx : xs[cntN e.nm xs]? = some x) :
    apX xs e = insI (rnI x e.tn) (delI xs (fN e.nm xs)) ∧ apB xs e = true :=
  ⟨by unfold apX; rw [if_neg (by omega), if_neg (by omega), hx], propB_t ⟨he, .inr (.inr ⟨h3, hh, ht⟩)⟩⟩
theorem fN_t {nm : ByteArray} {xs : List Item} (h : hasN nm xs = true) : fN nm xs = (cntN nm xs : Int) := by unfold fN; rw [if_pos h]
theorem fN_f {nm : ByteArray} {xs : List Item} (h : hasN nm xs = false) : fN nm xs = -1 := by unfold fN; rw [h]; rfl
theorem ap_len {xs : List Item} {e : Entry} (h : storeP xs) (ha : apB xs e = true) : (apX xs e).length ≤ 8 := (ap_store h (propB_iff.1 ha)).2
theorem ap_not {xs : List Item} {e : Entry} (h : ¬ entryP e) : apB xs e = false := propB_f fun k => h k.1
end
section
open Go.RowKit
set_option linter.all false
variable {P : Program}
theorem run_copy_row (w : World) (dT sT ty elem e : TypeId) (g o dLen dCap : Nat) (cur : Array Value) (hg : w.heap[g]? = some (.cells cur e (0, 0))) (a : Addr) (sLen sCap : Nat) (cs : List Value) (k : Nat)
    (hu : P.underlying dT = some (.slice elem)) (hs : (P.info? elem).map (·.size) = some k) (hn : cs.length = Nat.min sLen dLen * k)
    (hsrc : ∀ j v, cs[j]? = some v → w.cell? (a.add j) = some v) (hfit : o + cs.length ≤ cur.size) (h1 : ∀ v ∈ cs, v.oneCell' = true) :
    (Builtin.copy_ #[dT, sT] ty #[.slice (some ⟨g, o, none⟩) dLen dCap, .slice (some a) sLen sCap]).run P w =
      .ok (goInt (Nat.min sLen dLen)) (w.setRow g (cur.toList.take o ++ cs ++ cur.toList.drop (o + cs.length)).toArray) := by
  have hl := run_loadCells_list (P := P) w a cs hsrc
  have hst := run_storeCells_at P g o e cs 0 cur w hg (by simpa using hfit) h1
  simp only [Nat.add_zero] at hst
  cases hq : P.info? elem with
  | none => simp [hq] at hs
  | some i =>
    have hi : i.size = k := by simpa [hq] using hs
    rw [hn] at hl
    simp [Builtin.copy_, run_underlying hu, Builtin.lenOf, Builtin.firstCells, sizeOf, typeInfo, hq, hi, hl, hst]
theorem run_clear_row (w : World) (t el ty e : TypeId) (z : Value) (ht : P.underlying t = some (.slice el)) (hv : ∀ w, (zeroValue el).run P w = .ok z w) (h1 : ∀ v ∈ z.cells, v.oneCell' = true) (g o n c : Nat) (hn : 0 < n) (cur : Array Value)
    (hg : w.heap[g]? = some (.cells cur e (0, 0))) (hfit : o + n * z.cells.size ≤ cur.size) :
    (Builtin.clear_ #[t] ty #[.slice (some ⟨g, o, none⟩) n c]).run P w = .ok (.tuple #[]) (w.setRow g (cur.toList.take o ++ (Builtin.zeroCells z.cells n).toList ++ cur.toList.drop (o + n * z.cells.size)).toArray) := by
  have hlen : (Builtin.zeroCells z.cells n).toList.length = n * z.cells.size := by rw [Array.length_toList, size_zeroCells]
  have hone : ∀ v ∈ (Builtin.zeroCells z.cells n).toList, v.oneCell' = true := by
    intro v hv'
    unfold Builtin.zeroCells at hv'
    simp only [Array.toList_map, List.mem_map] at hv'
    obtain ⟨i, hi, rfl⟩ := hv'
    have hz : 0 < z.cells.size := by
      rcases Nat.eq_zero_or_pos z.cells.size with h | h
      · rw [h] at hi; simp at hi
      · exact h
    have hlt : i % z.cells.size < z.cells.size := Nat.mod_lt _ hz
    rw [getElem!_pos z.cells _ hlt]
    exact h1 _ (Array.getElem_mem hlt)
  have hst := run_storeCells_at P g o e (Builtin.zeroCells z.cells n).toList 0 cur w hg (by rw [hlen]; simpa using hfit) hone
  simp only [Nat.add_zero, hlen] at hst
  obtain ⟨m, rfl⟩ : ∃ m, n = m + 1 := ⟨n - 1, by omega⟩
  simp [Builtin.clear_, run_underlying ht, hv, hst]
theorem step_copy_runK {ops : Array Oper} {o : Oper} {a : Act} {w : World} {K : Act → World → Prop} {Q : Exit → Act → World → Prop} {E : Prop}
    (hg : o.guard = none) (d x : Operand) (dT sT : TypeId) (hop : o.op = Op.call { callee := Callee.builtin Builtin.copy, args := #[d, x], argTypes := #[dT, sT] })
    (v u : Value) (hd : a.eval d = v) (hx : a.eval x = u) {v' : Value} {w' : World} (hr : (Builtin.copy_ #[dT, sT] o.type #[v, u]).run P w = .ok v' w') (hK : K (a.put o.dst v') w') :
    if Region.wanted o (yielded ops a.tmps) = true then Oper.wp P o a w K Q else E := by
  have hw : Region.wanted o (yielded ops a.tmps) = true := by simp [Region.wanted, hg]
  rw [if_pos hw]
  unfold Oper.wp
  simp [execOp, hop, resolve, invoke, builtin, hd, hx, hr, Result.andThen]
  exact hK
theorem step_append_runK {ops : Array Oper} {o : Oper} {a : Act} {w : World} {K : Act → World → Prop} {Q : Exit → Act → World → Prop} {E : Prop}
    (hg : o.guard = none) (d x : Operand) (dT sT : TypeId) (hop : o.op = Op.call { callee := Callee.builtin Builtin.append, args := #[d, x], argTypes := #[dT, sT] })
    (v u : Value) (hd : a.eval d = v) (hx : a.eval x = u) {v' : Value} {w' : World} (hr : (Builtin.append_ #[dT, sT] o.type #[v, u]).run P w = .ok v' w') (hK : K (a.put o.dst v') w') :
    if Region.wanted o (yielded ops a.tmps) = true then Oper.wp P o a w K Q else E := by
  have hw : Region.wanted o (yielded ops a.tmps) = true := by simp [Region.wanted, hg]
  rw [if_pos hw]
  unfold Oper.wp
  simp [execOp, hop, resolve, invoke, builtin, hd, hx, hr, Result.andThen]
  exact hK
theorem row_open {w : World} {base : Nat} {e : TypeId} {k n : Nat} {v : Value} {vs : List Value} (h : w.ownsRow base e k v n vs) (h0 : 0 < n) :
    ∃ g cap cur, v = .slice (some ⟨g, 0, none⟩) n cap ∧ base ≤ g ∧ w.heap[g]? = some (.cells cur e (0, 0)) ∧ n ≤ cap ∧ cap ≤ maxLen ∧ cur.size = cap * k ∧ cur.toList.take (n * k) = vs ∧ vs.length = n * k := by
  obtain ⟨hl, h⟩ := h
  rcases h with ⟨e, rfl⟩ | ⟨g, cap, cur, e, h1, h2, h3, h4, h5, h6⟩
  · omega
  · exact ⟨g, cap, cur, e, h1, h2, h3, h4, h5, h6, hl⟩
theorem row_set {w : World} {base : Nat} {e : TypeId} {k g cap n : Nat} {cur cur' : Array Value} {vs : List Value} (hg : w.heap[g]? = some (.cells cur e (0, 0))) (hb : base ≤ g) (hn : n ≤ cap) (hc : cap ≤ maxLen) (hs : cur'.size = cap * k) (hl : vs.length = n * k) (ht : cur'.toList.take (n * k) = vs) :
    (w.setRow g cur').ownsRow base e k (.slice (some ⟨g, 0, none⟩) n cap) n vs ∧ w.grownBy (w.setRow g cur') (some g) := by
  refine ⟨⟨hl, .inr ⟨g, cap, cur', rfl, hb, setRow_heap w g cur _ e _ hg, hn, hc, hs, ht⟩⟩, ⟨rfl, rfl, rfl, by simp, fun j _ hj => setRow_other w g j _ fun e => hj (by rw [e])⟩⟩
theorem grown_drew {w w' : World} {r : Option Nat} (h : w.drew.grownBy w' r) : w.grownBy w' r := ⟨h.os, h.tape, h.output, h.size, h.block⟩
theorem grown_tr {w w1 w2 : World} {r : Option Nat} (h : w.grownBy w1 r) (k : w1.grownBy w2 r) : w.grownBy w2 r :=
  ⟨k.os.trans h.os, k.tape.trans h.tape, k.output.trans h.output, Nat.le_trans h.size k.size, fun j hj hne => (k.block j (Nat.lt_of_lt_of_le hj h.size) hne).trans (h.block j hj hne)⟩
section lists
variable {w : World}
theorem OwnIts.join : ∀ {xs ys : List Item} {vs us : List Value} {b1 b2 : List Nat}, OwnIts w vs xs b1 → OwnIts w us ys b2 → OwnIts w (vs ++ us) (xs ++ ys) (b1 ++ b2)
  | [], ys, vs, us, b1, b2, ⟨h1, h2⟩, k => by subst h1 h2; exact k
  | x :: xs, ys, vs, us, b1, b2, ⟨va, vf, vz, vr, rest, c1, c2, h1, h2, h3, h4⟩, k => by
    subst h1 h4
    exact ⟨va, vf, vz, vr, rest ++ us, c1, c2 ++ b2, by rw [List.append_assoc], h2, h3.join k, by rw [List.append_assoc]⟩
theorem OwnIts.one {x : Item} {va vf vz vr : Value} {b : List Nat} (h : OwnItem w x va vf vz vr b) : OwnIts w (itemL x va vf vz vr) [x] b :=
  ⟨va, vf, vz, vr, [], b, [], by simp, h, ⟨rfl, rfl⟩, by simp⟩
theorem OwnIts.cut : ∀ {xs : List Item} {vs : List Value} {bs : List Nat}, OwnIts w vs xs bs → ∀ (k : Nat), k ≤ xs.length →
    ∃ b1 b2, OwnIts w (vs.take (k * 8)) (xs.take k) b1 ∧ OwnIts w (vs.drop (k * 8)) (xs.drop k) b2 ∧ bs = b1 ++ b2
  | xs, vs, bs, h, 0, _ => ⟨[], bs, by simp [OwnIts], by simpa using h, rfl⟩
  | [], vs, bs, h, k + 1, hk => absurd hk (by simp)
  | x :: xs, vs, bs, ⟨va, vf, vz, vr, rest, c1, c2, h1, h2, h3, h4⟩, k + 1, hk => by
    subst h1 h4
    obtain ⟨b1, b2, g1, g2, g3⟩ := h3.cut k (by simpa using hk)
    refine ⟨c1 ++ b1, b2, ⟨va, vf, vz, vr, rest.take (k * 8), c1, b1, ?_, h2, g1, rfl⟩, ?_, by rw [g3, List.append_assoc]⟩
    · rw [List.take_append, List.take_of_length_le (by show 8 ≤ _; omega)]
      congr 2
      show (k + 1) * 8 - 8 = _
      omega
    · rw [List.drop_append, List.drop_of_length_le (by show 8 ≤ _; omega), List.nil_append, show (k + 1) * 8 - (itemL x va vf vz vr).length = k * 8 by show (k + 1) * 8 - 8 = _; omega]
      exact g2
theorem OwnIts.ones : ∀ {xs : List Item} {vs : List Value} {bs : List Nat}, OwnIts w vs xs bs → ∀ u ∈ vs, u.oneCell' = true
  | [], vs, bs, ⟨h1, _⟩, u, hu => by subst h1; cases hu
  | x :: xs, vs, bs, ⟨va, vf, vz, vr, rest, c1, c2, h1, h2, h3, h4⟩, u, hu => by
    subst h1
    rcases List.mem_append.1 hu with h | h
    · obtain ⟨ba, bf, bz, br, oa, of, oz, or, _⟩ := h2
      obtain ⟨Aa, ma, ca, rfl⟩ := oa.isSlice
      obtain ⟨Af, mf, cf, rfl⟩ := of.1.isSlice
      obtain ⟨As, ms, cs, rfl⟩ := oz.1.isSlice
      obtain ⟨Ar, mr, cr, rfl⟩ := or.isSlice
      simp only [itemL, List.mem_cons, List.not_mem_nil, or_false] at h
      rcases h with rfl | rfl | rfl | rfl | rfl | rfl | rfl | rfl <;> rfl
    · exact h3.ones u h
end lists
theorem ItemsSt.put {base : Nat} {wr w1 : World} {v : Value} {xs : List Item} {x : Item} {va vf vz vr : Value} {b1 : List Nat} (h : ItemsSt base wr v xs) (hbase : base ≤ wr.heap.size) (hb : Below wr.heap.size wr w1) (ho : OwnItem w1 x va vf vz vr b1) (hn : b1.Nodup) (hr : ∀ b ∈ b1, wr.heap.size ≤ b ∧ b < w1.heap.size) (k : Nat) (hk : k ≤ xs.length) :
  ∃ vs, w1.ownsRow base 53 8 v xs.length vs ∧ (∀ u ∈ vs, u.oneCell' = true) ∧ (∀ g, v.ownBlock = some g → g < wr.heap.size) ∧ ∀ v' w2, w2.ownsRow base 53 8 v' (xs.length + 1) (vs.take (k * 8) ++ itemL x va vf vz vr ++ vs.drop (k * 8)) → w1.grownBy w2 v.ownBlock → (v'.ownBlock = v.ownBlock ∨ ∃ g, v'.ownBlock = some g ∧ w1.heap.size ≤ g ∧ g < w2.heap.size) → ItemsSt base w2 v' (xs.take k ++ [x] ++ xs.drop k) := by
 obtain ⟨vs, bs, h1, h2, h3, h4⟩ := h
 have hsz := hb.size
 have hlt := h1.lt
 refine ⟨vs, keptK h1 hb, h2.ones, fun g hg => (hlt g hg).2, fun v' w2 k1 k2 k3 => ?_⟩
 have hsz2 := k2.size
 have h2' := h2.keep (w' := w1) fun b hb' => hb.block b (h4 b hb').2.1
 obtain ⟨c1, c2, g1, g2, g3⟩ := h2'.cut k hk
 have hall := (g1.join (OwnIts.one ho)).join g2
 have hin : ∀ b ∈ (c1 ++ b1) ++ c2, base ≤ b ∧ b < w1.heap.size ∧ v.ownBlock ≠ some b := by
  intro b hb'
  have : b ∈ bs ∨ b ∈ b1 := by
   rw [g3]
   simp only [List.mem_append] at hb' ⊢
   rcases hb' with (h | h) | h
   ·
    exact .inl (.inl h)
   ·
    exact .inr h
   ·
    exact .inl (.inr h)
  rcases this with h | h
  ·
   have := h4 b h; exact ⟨this.1, by omega, this.2.2⟩
  ·
   have := hr b h
   refine ⟨by omega, by omega, fun e => ?_⟩
   have := hlt b e
   omega
 have hlen : (xs.take k ++ [x] ++ xs.drop k).length = xs.length + 1 := by simp; omega
 refine ⟨_, (c1 ++ b1) ++ c2, by rw [hlen]; exact k1, hall.keep fun b hb' => k2.block b (hin b hb').2.1 (fun e => (hin b hb').2.2 e.symm), ?_, fun b hb' => ?_⟩
 ·
  rw [g3] at h3
  have n1 := (List.nodup_append.1 h3)
  rw [List.nodup_append]
  refine ⟨List.nodup_append.2 ⟨n1.1, hn, fun a ha b hb' e => ?_⟩, n1.2.1, fun a ha b hb' e => ?_⟩
  ·
   have := h4 a (by rw [g3]; simp [ha]); have := hr b hb'; omega
  ·
   rcases List.mem_append.1 ha with h | h
   ·
    exact n1.2.2 a h b hb' e
   ·
    have := h4 b (by rw [g3]; simp [hb']); have := hr a h; omega
 ·
  have h5 := hin b hb'
  refine ⟨h5.1, by omega, fun e => ?_⟩
  rcases k3 with k3 | ⟨g, k3, k4, _⟩
  ·
   exact h5.2.2 (k3 ▸ e)
  ·
   rw [k3] at e
   obtain rfl : g = b := by simpa using e
   omega
theorem ItemsSt.over {base : Nat} {wr w1 : World} {v : Value} {xs : List Item} {x : Item} {va vf vz vr : Value} {b1 : List Nat} (h : ItemsSt base wr v xs) (hbase : base ≤ wr.heap.size) (hb : Below wr.heap.size wr w1) (ho : OwnItem w1 x va vf vz vr b1) (hn : b1.Nodup) (hr : ∀ b ∈ b1, wr.heap.size ≤ b ∧ b < w1.heap.size) (k : Nat) (hk : k < xs.length) :
  ∃ vs, w1.ownsRow base 53 8 v xs.length vs ∧ (∀ u ∈ vs, u.oneCell' = true) ∧ ∀ w2, w2.ownsRow base 53 8 v xs.length (vs.take (k * 8) ++ itemL x va vf vz vr ++ vs.drop ((k + 1) * 8)) → w1.grownBy w2 v.ownBlock → ItemsSt base w2 v (xs.set k x) := by
 obtain ⟨vs, bs, h1, h2, h3, h4⟩ := h
 have hsz := hb.size
 have hlt := h1.lt
 refine ⟨vs, keptK h1 hb, h2.ones, fun w2 k1 k2 => ?_⟩
 have hsz2 := k2.size
 have h2' := h2.keep (w' := w1) fun b hb' => hb.block b (h4 b hb').2.1
 obtain ⟨c1, c2, g1, g2, g3⟩ := h2'.cut k (by omega)
 obtain ⟨d1, d2, f1, f2, f3⟩ := g2.cut 1 (by rw [List.length_drop]; omega)
 rw [List.drop_drop, List.drop_drop, ← Nat.add_mul] at f2
 have hall := (g1.join (OwnIts.one ho)).join f2
 have hin : ∀ b ∈ (c1 ++ b1) ++ d2, base ≤ b ∧ b < w1.heap.size ∧ v.ownBlock ≠ some b := by
  intro b hb'
  have : b ∈ bs ∨ b ∈ b1 := by
   rw [g3, f3]
   simp only [List.mem_append] at hb' ⊢
   rcases hb' with (h | h) | h
   ·
    exact .inl (.inl h)
   ·
    exact .inr h
   ·
    exact .inl (.inr (.inr h))
  rcases this with h | h
  ·
   have := h4 b h; exact ⟨this.1, by omega, this.2.2⟩
  ·
   have := hr b h
   refine ⟨by omega, by omega, fun e => ?_⟩
   have := hlt b e
   omega
 have hlen : (xs.set k x).length = xs.length := List.length_set
 refine ⟨_, (c1 ++ b1) ++ d2, by rw [hlen]; exact k1, ?_, ?_, fun b hb' => ?_⟩
 ·
  have e : xs.set k x = xs.take k ++ [x] ++ xs.drop (k + 1) := by rw [List.set_eq_take_append_cons_drop, if_pos hk, List.append_assoc]; rfl
  rw [e]
  exact hall.keep fun b hb' => k2.block b (hin b hb').2.1 (fun e => (hin b hb').2.2 e.symm)
 ·
  rw [g3, f3] at h3
  have n1 := List.nodup_append.1 h3
  have n2 := List.nodup_append.1 n1.2.1
  refine List.nodup_append.2 ⟨List.nodup_append.2 ⟨n1.1, hn, fun a ha b hb' e => ?_⟩, n2.2.1, fun a ha b hb' e => ?_⟩
  ·
   have := h4 a (by rw [g3]; simp [ha]); have := hr b hb'; omega
  ·
   rcases List.mem_append.1 ha with h | h
   ·
    exact n1.2.2 a h b (by simp [hb']) e
   ·
    have := h4 b (by rw [g3, f3]; simp [hb']); have := hr a h; omega
 ·
  have h5 := hin b hb'
  exact ⟨h5.1, by omega, h5.2.2⟩
end
section
open Go.RowKit
set_option linter.all false
theorem run_append_nil0 {P : Program} (w : World) (t ty e : TypeId) (i : TypeInfo) (ht : P.underlying t = some (.slice e)) (hi : P.info? e = some i) (g n c m : Nat) (hc : n ≤ c) :
    (Builtin.append_ #[t, t] ty #[.slice (some ⟨g, 0, none⟩) n c, .slice none 0 m]).run P w = .ok (.slice (some ⟨g, 0, none⟩) n c) w := by
  simp [Builtin.append_, run_underlying ht, sizeOf, typeInfo, hi, Builtin.lenOf, Builtin.firstCells, loadCells, loadCellsFrom, storeCells, hc]
def OwnPost (xs : List Int) (w : World) (e : Ending) (w' : World) : Prop :=
  ∃ v bs, e = .returned v ∧ OwnInts w' 3 v xs bs ∧ bs.Nodup ∧ (∀ b ∈ bs, w.heap.size ≤ b ∧ b < w'.heap.size) ∧ Below w.heap.size w w'
theorem spec_l1Own (v : Value) (xs : List Int) (w : World) (h : IntsR w w.heap.size v xs) (hn : xs.length ≤ 2000000) :
  Calls Tryz.prog 94 #[v] w (OwnPost xs w) := by
 have h64 := h.2
 obtain ⟨A, c, rfl, h1, h2, h3⟩ := h.open_
 have H64 := Lib.hid h64; clear h64 h
 have hown := World.ownsRow_made (base := w.heap.size) (e := 3) (size := 1) w #[] 0 (Nat.le_refl _) (Nat.zero_le _) (by simp)
 have hb0 := bl_alloc (Below.refl w.heap.size w) (.cells #[] 3)
 obtain ⟨i, hi, hz0, hz1, hz2⟩ := info_parts intInfo
 by_cases h0 : xs.length = 0
 ·
  obtain rfl : xs = [] := List.eq_nil_of_length_eq_zero h0
  have fin : OwnPost [] w (.returned (.slice (some ⟨w.heap.size, 0, none⟩) 0 0)) (w.alloc (.cells #[] 3)) := by
   obtain ⟨bs, k1, k2, k3⟩ := own_ints (xs := []) hown (fun x hx => by cases hx)
   exact ⟨_, bs, rfl, k1, k2, k3, hb0⟩
  have FIN := Lib.hid fin; clear fin
  clear h3 h0
  cases A with
  | none =>
   have hr := fun ty W => run_append_nil0 (P := Tryz.prog) W 41 ty 3 i Tryz.underlying41 hi w.heap.size 0 0 c (Nat.zero_le _)
   have HR := Lib.hid hr; clear hr
   clear hown hi hz0 hz1 hz2
   simp only [List.length_nil]
   go_enter Tryz.func94, Tryz.ntmps94
   go_wp2_with (at_builtin; refine Lib.wpList_append_run _ rfl _ _ _ _ rfl _ _ rfl rfl _ _ (HR.out _ _) ?_)
   go_ret
   exact FIN.out
  | some ad =>
   have HI := Lib.hid hi; clear hi
   have HO := Lib.hid hown; clear hown
   have Z0 := Lib.hid hz0; clear hz0
   have Z1 := Lib.hid hz1; clear hz1
   have Z2 := Lib.hid hz2; clear hz2
   simp only [List.length_nil]
   go_enter Tryz.func94, Tryz.ntmps94
   go_wp2_with (at_builtin; refine wpList_append_own_at _ rfl _ _ 41 rfl w.heap.size 3 i _ 1 8 Tryz.underlying41 HI.out Z0.out Z1.out Z2.out rfl (by decide) _ _ _ rfl HO.out ad 0 c [] rfl (by simp) (fun j u hj => by simp at hj) (fun u hu => by cases hu) (by unfold maxLen; omega) (by omega) (by simp) ?_; intro v' w1 hown1 hgrow hnil hat)
   go_ret
   obtain ⟨bs, k1, k2, k3⟩ := own_ints (xs := []) (by simpa using hown1) (fun x hx => by cases hx)
   exact ⟨_, bs, rfl, k1, k2, k3, hb0.grown hgrow (by simp) (fun k hk => by have e := Option.some.inj (show some w.heap.size = some k from hk); omega)⟩
 ·
  obtain ⟨ad, rfl, hb, hc⟩ := h3 (by omega)
  have HN := Lib.hid (show ∀ j u, (xs.map intV)[j]? = some u → (w.alloc (.cells #[] 3)).cell? (ad.add j) = some u from fun j u hu => by
   rw [List.getElem?_map] at hu
   obtain ⟨x, hx, rfl⟩ := Option.map_eq_some_iff.1 hu
   exact Lib.cell?_alloc_some _ (hc j x hx))
  have H1 := Lib.hid (show ∀ u ∈ xs.map intV, u.oneCell' = true from fun u hu => by
   obtain ⟨x, _, rfl⟩ := List.mem_map.1 hu
   rfl)
  have HI := Lib.hid hi; clear hi
  have HO := Lib.hid hown; clear hown
  have Z0 := Lib.hid hz0; clear hz0
  have Z1 := Lib.hid hz1; clear hz1
  have Z2 := Lib.hid hz2; clear hz2
  clear hc h3 h0
  go_enter Tryz.func94, Tryz.ntmps94
  go_wp2_with (at_builtin; refine wpList_append_own_at _ rfl _ _ 41 rfl w.heap.size 3 i _ 1 8 Tryz.underlying41 HI.out Z0.out Z1.out Z2.out rfl (by decide) _ _ _ rfl HO.out ad xs.length c (xs.map intV) rfl (by simp) HN.out H1.out (by unfold maxLen; omega) (by omega) (by simp) ?_; intro v' w1 hown1 hgrow hnil hat)
  go_ret
  obtain ⟨bs, k1, k2, k3⟩ := own_ints (xs := xs) (by simpa using hown1) H64.out
  exact ⟨_, bs, rfl, k1, k2, k3, hb0.grown hgrow (by simp) (fun k hk => by have e := Option.some.inj (show some w.heap.size = some k from hk); omega)⟩
def OwnsPost (xss : List (List Int)) (w : World) (e : Ending) (w' : World) : Prop :=
  ∃ v bs, e = .returned v ∧ OwnRows w' 41 3 v xss bs ∧ bs.Nodup ∧ (∀ b ∈ bs, w.heap.size ≤ b ∧ b < w'.heap.size) ∧ Below w.heap.size w w'
def SlsRel (xss : List (List Int)) (w : World) (v i : Value) (wr : World) : Prop :=
  ∃ k : Nat, k ≤ xss.length ∧ i = .int .i64 k ∧ RowsSt w.heap.size wr v (xss.take k) ∧ Below w.heap.size w wr
theorem take_one {α : Type} {l : List α} {k : Nat} {x : α} (h : l[k]? = some x) : l.take (k + 1) = l.take k ++ [x] := by
  obtain ⟨hk, e⟩ := List.getElem?_eq_some_iff.1 h
  rw [List.take_succ_eq_append_getElem hk, e]
theorem spec_srLists (v : Value) (xss : List (List Int)) (w : World) (h : RowsR w w.heap.size v xss) (hn : szRows xss ≤ 2000000) :
  Calls Tryz.prog 93 #[v] w (OwnsPost xss w) := by
 obtain ⟨A, c, rfl, g1, g2, g3⟩ := h.open_
 have hl : xss.length ≤ 2000000 := by unfold szRows at hn; omega
 have HL := Lib.hid (show ∀ xs ∈ xss, xs.length ≤ 2000000 from fun xs hx => by
  obtain ⟨k, hk⟩ := List.mem_iff_getElem?.1 hx
  have h1 := lens_snoc xss k xs hk
  have h2 := lens_split xss (k + 1)
  unfold szRows at hn
  omega)
 clear h hn
 go_enter Tryz.func93, Tryz.ntmps93
 go_wp2_with fail
 go_loopw [3, 8] (fun v i wr => SlsRel xss w v i wr) (fun _ i _ => xss.length - (intOf i).toNat)
 case atStart => exact ⟨0, Nat.zero_le _, rfl, RowsSt.nil _ _, Below.refl _ _⟩
 case round =>
  obtain ⟨k, hk, rfl, hst, hbl⟩ := hrel
  have HS := Lib.hid hst; clear hst
  obtain ⟨Av, mv, cv, rfl⟩ := HS.out.isSlice
  by_cases hlt : k < xss.length
  ·
   obtain ⟨xs, hx⟩ : ∃ xs, xss[k]? = some xs := ⟨xss[k], List.getElem?_eq_getElem hlt⟩
   obtain ⟨ad, rfl, hbb, hc⟩ := g3 (by omega)
   obtain ⟨u, hu, hr⟩ := hc k xs hx
   have hcell : wr.cell? (ad.add k) = some u := (hbl.cell (p := ad.add k) (by rw [block_add]; exact hbb)).trans hu
   obtain ⟨Au, mu, cu, rfl⟩ := hr.isSlice
   have HR := Lib.hid ((hr.below hbl).more hbl.size); clear hr
   have HN := Lib.hid (take_one hx)
   have hxl := HL.out xs (List.mem_of_getElem? hx)
   clear hc g3 hx hu
   go_wp2_with fail
   refine (spec_l1Own _ xs wr HR.out hxl).mono ?_
   rintro e w2 ⟨u2, b1, rfl, ho, hnd, hrg, hb2⟩
   have hbl2 := bl_trans hbl hb2
   obtain ⟨A1, m1, c1, rfl⟩ := ho.1.isSlice
   obtain ⟨vs, hown1, hstep⟩ := HS.out.step hbl.size hb2 ho hnd hrg
   have HST := Lib.hid hstep; clear hstep ho hnd hrg
   have hlen : (xss.take k).length = k := by simp; omega
   rw [hlen] at hown1 HST
   clear hlen
   go_wp2_with ((at_builtin; refine wpList_append1 w2 rfl (.tmp 12) (.tmp 15) 38 rfl w.heap.size 41 _ 24 Tryz.underlying38 sliceInfo rfl _ _ _ rfl _ rfl rfl hown1 (by unfold maxLen; omega) (by omega) hbl2.size ?_; intro v' w' hown' hbl' hgr' hlt' hob'))
   go_roundw
   case rel => exact ⟨k + 1, by omega, by go_num, by rw [HN.out]; exact HST.out _ _ hown' hgr' hob', hbl2.trans hbl'⟩
   case measure => simp [intOf]; omega
  ·
   have e1 : xss.take k = xss := List.take_of_length_le (by omega)
   have hst := HS.out
   rw [e1] at hst
   obtain ⟨bs, ho, hnd, hr⟩ := hst.fin
   have HO := Lib.hid ho; clear ho hst e1
   go_wp2_with fail
   go_ret
   exact ⟨_, bs, rfl, HO.out, hnd, hr, hbl⟩
theorem nodup_app {a b : List Nat} (ha : a.Nodup) (hb : b.Nodup) (h : ∀ x ∈ a, ∀ y ∈ b, x ≠ y) : (a ++ b).Nodup := List.nodup_append.2 ⟨ha, hb, h⟩
def ItPost (x : Item) (w : World) (e : Ending) (w' : World) : Prop :=
  ∃ va vf vs vr bs, e = .returned (itemV x va vf vs vr) ∧ OwnItem w' x va vf vs vr bs ∧ bs.Nodup ∧ (∀ b ∈ bs, w.heap.size ≤ b ∧ b < w'.heap.size) ∧ Below w.heap.size w w'
theorem it_end {x : Item} {b : Nat} {w W : World} {va vf vs vr : Value} {bs : List Nat} (ho : OwnItem W x va vf vs vr bs) (hn : bs.Nodup) (hr : ∀ y ∈ bs, b < y ∧ y < W.heap.size) (hb : Below w.heap.size w W) (hbb : w.heap.size ≤ b) (hlt : b < W.heap.size) :
    ItPost x w (.returned (.agg #[.string x.nm, .int .i64 x.n, va, .int .i64 x.cl, .int .i64 x.lb, vf, vs, vr])) ((((((((W.setCell ⟨b, 0, none⟩ (.string x.nm)).setCell ⟨b, 1, none⟩ (.int .i64 x.n)).setCell ⟨b, 2, none⟩ va).setCell ⟨b, 3, none⟩ (.int .i64 x.cl)).setCell ⟨b, 4, none⟩ (.int .i64 x.lb)).setCell ⟨b, 5, none⟩ vf).setCell ⟨b, 6, none⟩ vs).setCell ⟨b, 7, none⟩ vr) := by
  refine ⟨va, vf, vs, vr, bs, rfl, ho.keep fun y hy => ?_, hn, fun y hy => ?_, ?_⟩
  · have := hr y hy
    iterate 8 rw [Below.heap_setCell _ _ _ _ (by simp; omega)]
  · have := hr y hy
    simp only [size_setCell]
    omega
  · iterate 8 (refine Below.setCell ?_ (by simp <;> omega) _)
    exact hb
set_option maxRecDepth 100000 in
set_option maxHeartbeats 1000000 in
theorem spec_srOwn (x : Item) (va vf vs vr : Value) (w : World) (h : ItemR w w.heap.size x va vf vs vr) (hz : szItem x ≤ 2000000) :
  Calls Tryz.prog 57 #[itemV x va vf vs vr] w (ItPost x w) := by
 obtain ⟨Aa, ma, ca, rfl⟩ := h.a.isSlice'
 obtain ⟨Af, mf, cf, rfl⟩ := h.f.isSlice
 obtain ⟨As, ms, cs, rfl⟩ := h.s.isSlice
 obtain ⟨Ar, mr, cr, rfl⟩ := h.r.isSlice'
 have s1 : szRows x.xss ≤ 2000000 := by unfold szItem at hz; omega
 have s2 : x.f.length ≤ 2000000 := by unfold szItem szCert at hz; omega
 have s3 : x.s.length ≤ 2000000 := by unfold szItem szCert at hz; omega
 have s4 : szRows x.rs ≤ 2000000 := by unfold szItem szCert at hz; omega
 have Ra := Lib.hid h.a
 have Rf := Lib.hid h.f
 have Rs := Lib.hid h.s
 have Rr := Lib.hid h.r
 clear h hz
 obtain ⟨nm, n, xss, cl, lb, f, s, rs⟩ := x
 dsimp only at *
 have hB := Below.refl w.heap.size w
 obtain ⟨w0, hw0⟩ : ∃ x, x = w.alloc (.cells #[.string nm, .int .i64 n, .slice Aa ma ca, .int .i64 cl, .int .i64 lb, .slice Af mf cf, .slice As ms cs, .slice Ar mr cr] 53) := ⟨_, rfl⟩
 have hbaw0 : Below w.heap.size w w0 := by rw [hw0]; exact bl_alloc (Below.refl _ _) _
 have hszw0 : w0.heap.size = w.heap.size + 1 := by rw [hw0]; simp
 have HX0 := Lib.hid (show w0.heap[w.heap.size]? = some (.cells #[.string nm, .int .i64 n, .slice Aa ma ca, .int .i64 cl, .int .i64 lb, .slice Af mf cf, .slice As ms cs, .slice Ar mr cr] 53) by have h := heap_alloc_new w (.cells #[.string nm, .int .i64 n, .slice Aa ma ca, .int .i64 cl, .int .i64 lb, .slice Af mf cf, .slice As ms cs, .slice Ar mr cr] 53); rw [← hw0] at h; exact h)
 have hz1 := hbaw0.size
 replace hB := bl_trans hB hbaw0
 replace Ra := Lib.hid (Ra.out.below (hbaw0.mono (by omega)))
 replace Rf := Lib.hid (Rf.out.below (hbaw0.mono (by omega)))
 replace Rs := Lib.hid (Rs.out.below (hbaw0.mono (by omega)))
 replace Rr := Lib.hid (Rr.out.below (hbaw0.mono (by omega)))
 obtain ⟨w1, hw1⟩ : ∃ x, x = w0.alloc (.cells #[.string ⟨#[]⟩, .int .i64 0, .slice none 0 0, .int .i64 0, .int .i64 0, .slice none 0 0, .slice none 0 0, .slice none 0 0] 53) := ⟨_, rfl⟩
 have hbaw1 : Below w0.heap.size w0 w1 := by rw [hw1]; exact bl_alloc (Below.refl _ _) _
 have hszw1 : w1.heap.size = w.heap.size + 1 + 1 := by rw [hw1]; simp [hszw0]
 have HZ0 := Lib.hid (show w1.heap[w.heap.size + 1]? = some (.cells #[.string ⟨#[]⟩, .int .i64 0, .slice none 0 0, .int .i64 0, .int .i64 0, .slice none 0 0, .slice none 0 0, .slice none 0 0] 53) by have h := heap_alloc_new w0 (.cells #[.string ⟨#[]⟩, .int .i64 0, .slice none 0 0, .int .i64 0, .int .i64 0, .slice none 0 0, .slice none 0 0, .slice none 0 0] 53); rw [← hw1, hszw0] at h; exact h)
 have hz2 := hbaw1.size
 replace hB := bl_trans hB hbaw1
 replace HX0 := bk HX0 hbaw1
 replace Ra := Lib.hid (Ra.out.below (hbaw1.mono (by omega)))
 replace Rf := Lib.hid (Rf.out.below (hbaw1.mono (by omega)))
 replace Rs := Lib.hid (Rs.out.below (hbaw1.mono (by omega)))
 replace Rr := Lib.hid (Rr.out.below (hbaw1.mono (by omega)))
 obtain ⟨w2, hw2⟩ : ∃ x, x = w1.alloc (.cells #[.int .i64 cl, .int .i64 lb, .slice Af mf cf, .slice As ms cs, .slice Ar mr cr] 51) := ⟨_, rfl⟩
 have hbaw2 : Below w1.heap.size w1 w2 := by rw [hw2]; exact bl_alloc (Below.refl _ _) _
 have hszw2 : w2.heap.size = w.heap.size + 1 + 1 + 1 := by rw [hw2]; simp [hszw1]
 have HC0 := Lib.hid (show w2.heap[w.heap.size + 1 + 1]? = some (.cells #[.int .i64 cl, .int .i64 lb, .slice Af mf cf, .slice As ms cs, .slice Ar mr cr] 51) by have h := heap_alloc_new w1 (.cells #[.int .i64 cl, .int .i64 lb, .slice Af mf cf, .slice As ms cs, .slice Ar mr cr] 51); rw [← hw2, hszw1] at h; exact h)
 have hz3 := hbaw2.size
 replace hB := bl_trans hB hbaw2
 replace HX0 := bk HX0 hbaw2
 replace HZ0 := bk HZ0 hbaw2
 replace Ra := Lib.hid (Ra.out.below (hbaw2.mono (by omega)))
 replace Rf := Lib.hid (Rf.out.below (hbaw2.mono (by omega)))
 replace Rs := Lib.hid (Rs.out.below (hbaw2.mono (by omega)))
 replace Rr := Lib.hid (Rr.out.below (hbaw2.mono (by omega)))
 have HQw0 := Lib.hid hw0; clear hw0
 have HQw1 := Lib.hid hw1; clear hw1
 have HQw2 := Lib.hid hw2; clear hw2
 have HSZ := Lib.hid (And.intro hszw0 (And.intro hszw1 hszw2)); clear hszw0 hszw1 hszw2
 go_enter Tryz.func57, Tryz.ntmps57
 go_wp2_with fail
 rw [← HQw0.out, ← HQw1.out, ← HQw2.out]
 have hlw : w.heap.size + 1 + 1 < w2.heap.size := by have := HSZ.out; omega
 have x01 := cells8 HX0
 have z01 := cells8 HZ0
 have c01 := cells5 HC0
 have hdr : w2.drew.heap.size = w2.heap.size := rfl
 have HDR := Lib.hid hdr; clear hdr
 refine wp_region_held_drew (S := (fun w' => w'.cell? ⟨w.heap.size, 0, none⟩ = some (.string nm) ∧ w'.cell? ⟨w.heap.size, 1, none⟩ = some (.int .i64 n) ∧ w'.cell? ⟨w.heap.size, 2, none⟩ = some (.slice Aa ma ca) ∧ w'.cell? ⟨w.heap.size + 1 + 1, 0, none⟩ = some (.int .i64 cl) ∧ w'.cell? ⟨w.heap.size + 1 + 1, 1, none⟩ = some (.int .i64 lb) ∧ w'.cell? ⟨w.heap.size + 1 + 1, 2, none⟩ = some (.slice Af mf cf) ∧ w'.cell? ⟨w.heap.size + 1 + 1, 3, none⟩ = some (.slice As ms cs) ∧ w'.cell? ⟨w.heap.size + 1 + 1, 4, none⟩ = some (.slice Ar mr cr))) (by kernel_rfl) ?_ (fun hHeld => ?_)
 ·
  go_keep
 have hz4 := (Below.refl w2.heap.size w2).drew.size
 replace hB := bl_trans hB (Below.refl w2.heap.size w2).drew
 clear x01
 replace HX0 := Lib.hid (((Below.refl w2.heap.size w2).drew.block (w.heap.size) (show w.heap.size < w2.heap.size by omega)).trans HX0.out)
 clear z01
 replace HZ0 := Lib.hid (((Below.refl w2.heap.size w2).drew.block (w.heap.size + 1) (show w.heap.size + 1 < w2.heap.size by omega)).trans HZ0.out)
 clear c01
 replace HC0 := Lib.hid (((Below.refl w2.heap.size w2).drew.block (w.heap.size + 1 + 1) (show w.heap.size + 1 + 1 < w2.heap.size by omega)).trans HC0.out)
 replace Ra := Lib.hid (Ra.out.below ((Below.refl w2.heap.size w2).drew.mono (by omega)))
 replace Rf := Lib.hid (Rf.out.below ((Below.refl w2.heap.size w2).drew.mono (by omega)))
 replace Rs := Lib.hid (Rs.out.below ((Below.refl w2.heap.size w2).drew.mono (by omega)))
 replace Rr := Lib.hid (Rr.out.below ((Below.refl w2.heap.size w2).drew.mono (by omega)))
 have x02 := cells8 HX0
 have z02 := cells8 HZ0
 have c02 := cells5 HC0
 refine tk 0 6 rfl rfl ?_
 try simp only [pu]
 refine tk 1 7 rfl rfl ?_
 try simp only [pu]
 refine tk 2 8 rfl rfl ?_
 try simp only [pu]
 refine tk 3 9 rfl rfl ?_
 try simp only [pu]
 refine tk 4 10 rfl rfl ?_
 try simp only [pu]
 refine tk 5 11 rfl rfl ?_
 try simp only [pu]
 refine tk 6 12 rfl rfl ?_
 try simp only [pu]
 refine tk 7 13 rfl rfl ?_
 try simp only [pu]
 refine tk 10 16 rfl rfl ?_
 try simp only [pu]
 refine tk 11 17 rfl rfl ?_
 try simp only [pu]
 refine tk 12 18 rfl rfl ?_
 try simp only [pu]
 refine tk 13 19 rfl rfl ?_
 try simp only [pu]
 refine tk 14 20 rfl rfl ?_
 try simp only [pu]
 refine tk 15 21 rfl rfl ?_
 try simp only [pu]
 refine tk 17 23 rfl rfl ?_
 try simp only [pu]
 refine tk 18 24 rfl rfl ?_
 try simp only [pu]
 refine tk 20 26 rfl rfl ?_
 try simp only [pu]
 refine tk 21 27 rfl rfl ?_
 try simp only [pu]
 refine take_ready 8 rfl (by kernel_rfl) (fun K hK => ?_)
 go_simp
 go_at_call 93
 refine (spec_srLists _ xss _ (Ra.out.more (show w.heap.size ≤ w2.drew.heap.size by omega)) s1).mono ?_
 rintro e w3 ⟨v1, b1, rfl, ho, n1, hr, hbw3⟩
 have hz5 := hbw3.size
 replace hB := bl_trans hB hbw3
 clear x02
 replace HX0 := bk HX0 hbw3
 clear z02
 replace HZ0 := bk HZ0 hbw3
 clear c02
 replace HC0 := bk HC0 hbw3
 replace Ra := Lib.hid (Ra.out.below (hbw3.mono (by omega)))
 replace Rf := Lib.hid (Rf.out.below (hbw3.mono (by omega)))
 replace Rs := Lib.hid (Rs.out.below (hbw3.mono (by omega)))
 replace Rr := Lib.hid (Rr.out.below (hbw3.mono (by omega)))
 have x03 := cells8 HX0
 have z03 := cells8 HZ0
 have c03 := cells5 HC0
 obtain ⟨A1, m1, c1, rfl⟩ := ho.isSlice
 have O1 := Lib.hid ho; clear ho
 have G1 := Lib.hid (show ∀ b ∈ b1, w2.drew.heap.size ≤ b ∧ b < w3.heap.size from hr); clear hr
 refine hK.out _ _ ?_ (fun hHeld => ?_)
 ·
  go_keep
 clear hK K
 try simp only [pu]
 refine tk 9 15 rfl rfl ?_
 try simp only [pu]
 refine take_ready 16 rfl (by kernel_rfl) (fun K hK => ?_)
 go_simp
 go_at_call 94
 refine (spec_l1Own _ f _ (Rf.out.more (show w.heap.size ≤ w3.heap.size by omega)) s2).mono ?_
 rintro e w4 ⟨v2, b2, rfl, ho, n2, hr, hbw4⟩
 have hz6 := hbw4.size
 replace hB := bl_trans hB hbw4
 clear x03
 replace HX0 := bk HX0 hbw4
 clear z03
 replace HZ0 := bk HZ0 hbw4
 clear c03
 replace HC0 := bk HC0 hbw4
 replace Ra := Lib.hid (Ra.out.below (hbw4.mono (by omega)))
 replace Rf := Lib.hid (Rf.out.below (hbw4.mono (by omega)))
 replace Rs := Lib.hid (Rs.out.below (hbw4.mono (by omega)))
 replace Rr := Lib.hid (Rr.out.below (hbw4.mono (by omega)))
 replace O1 := Lib.hid (O1.out.keep fun b hb' => hbw4.block b (by have := G1.out b hb'; omega))
 have x04 := cells8 HX0
 have z04 := cells8 HZ0
 have c04 := cells5 HC0
 obtain ⟨A2, m2, c2, rfl⟩ := ho.1.isSlice
 have O2 := Lib.hid ho; clear ho
 have G2 := Lib.hid (show ∀ b ∈ b2, w3.heap.size ≤ b ∧ b < w4.heap.size from hr); clear hr
 refine hK.out _ _ ?_ (fun hHeld => ?_)
 ·
  go_keep
 clear hK K
 try simp only [pu]
 refine take_ready 19 rfl (by kernel_rfl) (fun K hK => ?_)
 go_simp
 go_at_call 94
 refine (spec_l1Own _ s _ (Rs.out.more (show w.heap.size ≤ w4.heap.size by omega)) s3).mono ?_
 rintro e w5 ⟨v3, b3, rfl, ho, n3, hr, hbw5⟩
 have hz7 := hbw5.size
 replace hB := bl_trans hB hbw5
 clear x04
 replace HX0 := bk HX0 hbw5
 clear z04
 replace HZ0 := bk HZ0 hbw5
 clear c04
 replace HC0 := bk HC0 hbw5
 replace Ra := Lib.hid (Ra.out.below (hbw5.mono (by omega)))
 replace Rf := Lib.hid (Rf.out.below (hbw5.mono (by omega)))
 replace Rs := Lib.hid (Rs.out.below (hbw5.mono (by omega)))
 replace Rr := Lib.hid (Rr.out.below (hbw5.mono (by omega)))
 replace O1 := Lib.hid (O1.out.keep fun b hb' => hbw5.block b (by have := G1.out b hb'; omega))
 replace O2 := Lib.hid (O2.out.keep fun b hb' => hbw5.block b (by have := G2.out b hb'; omega))
 have x05 := cells8 HX0
 have z05 := cells8 HZ0
 have c05 := cells5 HC0
 obtain ⟨A3, m3, c3, rfl⟩ := ho.1.isSlice
 have O3 := Lib.hid ho; clear ho
 have G3 := Lib.hid (show ∀ b ∈ b3, w4.heap.size ≤ b ∧ b < w5.heap.size from hr); clear hr
 refine hK.out _ _ ?_ (fun hHeld => ?_)
 ·
  go_keep
 clear hK K
 try simp only [pu]
 refine take_ready 22 rfl (by kernel_rfl) (fun K hK => ?_)
 go_simp
 go_at_call 93
 refine (spec_srLists _ rs _ (Rr.out.more (show w.heap.size ≤ w5.heap.size by omega)) s4).mono ?_
 rintro e w6 ⟨v4, b4, rfl, ho, n4, hr, hbw6⟩
 have hz8 := hbw6.size
 replace hB := bl_trans hB hbw6
 clear x05
 replace HX0 := bk HX0 hbw6
 clear z05
 replace HZ0 := bk HZ0 hbw6
 clear c05
 replace HC0 := bk HC0 hbw6
 replace Ra := Lib.hid (Ra.out.below (hbw6.mono (by omega)))
 replace Rf := Lib.hid (Rf.out.below (hbw6.mono (by omega)))
 replace Rs := Lib.hid (Rs.out.below (hbw6.mono (by omega)))
 replace Rr := Lib.hid (Rr.out.below (hbw6.mono (by omega)))
 replace O1 := Lib.hid (O1.out.keep fun b hb' => hbw6.block b (by have := G1.out b hb'; omega))
 replace O2 := Lib.hid (O2.out.keep fun b hb' => hbw6.block b (by have := G2.out b hb'; omega))
 replace O3 := Lib.hid (O3.out.keep fun b hb' => hbw6.block b (by have := G3.out b hb'; omega))
 have x06 := cells8 HX0
 obtain ⟨z06_0, z06_1, z06_2, z06_3, z06_4, z06_5, z06_6, z06_7, z06_f⟩ := cells8 HZ0
 have c06 := cells5 HC0
 obtain ⟨A4, m4, c4, rfl⟩ := ho.isSlice
 have O4 := Lib.hid ho; clear ho
 have G4 := Lib.hid (show ∀ b ∈ b4, w5.heap.size ≤ b ∧ b < w6.heap.size from hr); clear hr
 refine hK.out _ _ ?_ (fun hHeld => ?_)
 ·
  go_keep
 clear hK K
 try simp only [pu]
 refine tk 23 29 rfl rfl ?_
 try simp only [pu]
 refine tk 24 30 rfl rfl ?_
 try simp only [pu]
 refine take_ready 25 rfl (by kernel_rfl) (fun K hK => ?_)
 go_simp
 have HZ := HDR.out
 refine hK.out _ _ ?_ (fun hHeld => ?_)
 ·
  go_keep
 clear hK K
 try simp only [pu]
 refine wpAnyH_done (by kernel_rfl) ?_ _
 go_wp2_with fail
 have HO := Lib.hid (show OwnItem w6 ⟨nm, n, xss, cl, lb, f, s, rs⟩ (.slice A1 m1 c1) (.slice A2 m2 c2) (.slice A3 m3 c3) (.slice A4 m4 c4) (b1 ++ (b2 ++ b3 ++ b4)) from ⟨b1, b2, b3, b4, O1.out, O2.out, O3.out, O4.out, rfl⟩)
 have HR := Lib.hid (show ∀ b ∈ b1 ++ (b2 ++ b3 ++ b4), w.heap.size + 1 + 1 < b ∧ b < w6.heap.size from fun b hb => by
  simp only [List.mem_append] at hb
  rcases hb with hb | (hb | hb) | hb
  ·
   have := G1.out b hb; omega
  ·
   have := G2.out b hb; omega
  ·
   have := G3.out b hb; omega
  ·
   have := G4.out b hb; omega)
 have HN := Lib.hid (show (b1 ++ (b2 ++ b3 ++ b4)).Nodup from by
  have e1 := G1.out; have e2 := G2.out; have e3 := G3.out; have e4 := G4.out
  refine nodup_app n1 (nodup_app (nodup_app n2 n3 fun a ha b hb' e => ?_) n4 fun a ha b hb' e => ?_) fun a ha b hb' e => ?_
  ·
   have := e2 a ha; have := e3 b hb'; omega
  ·
   have := e4 b hb'
   rcases List.mem_append.1 ha with h | h
   ·
    have := e2 a h; omega
   ·
    have := e3 a h; omega
  ·
   have := e1 a ha
   simp only [List.mem_append] at hb'
   rcases hb' with (h | h) | h
   ·
    have := e2 b h; omega
   ·
    have := e3 b h; omega
   ·
    have := e4 b h; omega)
 refine bodyPost_ret (v := .agg #[.string nm, .int .i64 n, .slice A1 m1 c1, .int .i64 cl, .int .i64 lb, .slice A2 m2 c2, .slice A3 m3 c3, .slice A4 m4 c4]) (by simp [results, Tryz.results57, go_sem, z06_0, z06_1, z06_2, z06_3, z06_4, z06_5, z06_6, z06_7, z06_f]) rfl ?_
 exact it_end (x := ⟨nm, n, xss, cl, lb, f, s, rs⟩) HO.out HN.out (fun b hb => by have := HR.out b hb; omega) hB (by omega) (by omega)
end
section
open Go.RowKit
set_option linter.all false
set_option maxRecDepth 100000 in
theorem impl_Clone (v : Value) (xs : List Int) (w : World) (h : IntsR w w.heap.size v xs) (hn : xs.length ≤ 2000000) :
  Calls Tryz.prog 125 #[v] w (OwnPost xs w) := by
 have h64 := h.2
 obtain ⟨A, c, rfl, h1, h2, h3⟩ := h.open_
 have H64 := Lib.hid h64; clear h64 h
 have hown := World.ownsRow_made (base := w.heap.size) (e := 3) (size := 1) w #[] 0 (Nat.le_refl _) (Nat.zero_le _) (by simp)
 have hb0 := bl_alloc (Below.refl w.heap.size w) (.cells #[] 3)
 obtain ⟨i, hi, hz0, hz1, hz2⟩ := info_parts intInfo
 by_cases h0 : xs.length = 0
 ·
  obtain rfl : xs = [] := List.eq_nil_of_length_eq_zero h0
  have fin : OwnPost [] w (.returned (.slice (some ⟨w.heap.size, 0, none⟩) 0 0)) (w.alloc (.cells #[] 3)) := by
   obtain ⟨bs, k1, k2, k3⟩ := own_ints (xs := []) hown (fun x hx => by cases hx)
   exact ⟨_, bs, rfl, k1, k2, k3, hb0⟩
  have FIN := Lib.hid fin; clear fin
  clear h3 h0
  cases A with
  | none =>
   have F0 := Lib.hid (show OwnPost [] w (.returned (.slice none 0 0)) w from ⟨_, [], rfl, own_none _ _, List.nodup_nil, (fun _ h => by cases h), Below.refl _ _⟩)
   clear hown hi hz0 hz1 hz2 hb0
   simp only [List.length_nil]
   have q22 : ∀ (W : World) (a : Option Addr) (n c n' c' : Nat), (binOp .eql 41 (.slice a n c) (.slice none n' c')).run Tryz.prog W = .ok (.bool a.isNone) W := fun W a n c n' c' => Lib.run_eql_slice_nil W _ _ a n c n' c' Tryz.underlying41
   go_enter Tryz.func125, Tryz.ntmps125
   go_wp2_with fail
   go_ret
   exact F0.out
  | some ad =>
   have HI := Lib.hid hi; clear hi
   have HO := Lib.hid hown; clear hown
   have Z0 := Lib.hid hz0; clear hz0
   have Z1 := Lib.hid hz1; clear hz1
   have Z2 := Lib.hid hz2; clear hz2
   simp only [List.length_nil]
   have q22 : ∀ (W : World) (a : Option Addr) (n c n' c' : Nat), (binOp .eql 41 (.slice a n c) (.slice none n' c')).run Tryz.prog W = .ok (.bool a.isNone) W := fun W a n c n' c' => Lib.run_eql_slice_nil W _ _ a n c n' c' Tryz.underlying41
   go_enter Tryz.func125, Tryz.ntmps125
   go_wp2_with (at_builtin; refine wpList_append_own_at _ rfl _ _ 41 rfl w.heap.size 3 i _ 1 8 Tryz.underlying41 HI.out Z0.out Z1.out Z2.out rfl (by decide) _ _ _ rfl HO.out ad 0 c [] rfl (by simp) (fun j u hj => by simp at hj) (fun u hu => by cases hu) (by unfold maxLen; omega) (by omega) (by simp) ?_; intro v' w1 hown1 hgrow hnil hat)
   go_ret
   obtain ⟨bs, k1, k2, k3⟩ := own_ints (xs := []) (by simpa using hown1) (fun x hx => by cases hx)
   exact ⟨_, bs, rfl, k1, k2, k3, hb0.grown hgrow (by simp) (fun k hk => by have e := Option.some.inj (show some w.heap.size = some k from hk); omega)⟩
 ·
  obtain ⟨ad, rfl, hb, hc⟩ := h3 (by omega)
  have HN := Lib.hid (show ∀ j u, (xs.map intV)[j]? = some u → (w.alloc (.cells #[] 3)).cell? (ad.add j) = some u from fun j u hu => by
   rw [List.getElem?_map] at hu
   obtain ⟨x, hx, rfl⟩ := Option.map_eq_some_iff.1 hu
   exact Lib.cell?_alloc_some _ (hc j x hx))
  have H1 := Lib.hid (show ∀ u ∈ xs.map intV, u.oneCell' = true from fun u hu => by
   obtain ⟨x, _, rfl⟩ := List.mem_map.1 hu
   rfl)
  have HI := Lib.hid hi; clear hi
  have HO := Lib.hid hown; clear hown
  have Z0 := Lib.hid hz0; clear hz0
  have Z1 := Lib.hid hz1; clear hz1
  have Z2 := Lib.hid hz2; clear hz2
  clear hc h3 h0
  have q22 : ∀ (W : World) (a : Option Addr) (n c n' c' : Nat), (binOp .eql 41 (.slice a n c) (.slice none n' c')).run Tryz.prog W = .ok (.bool a.isNone) W := fun W a n c n' c' => Lib.run_eql_slice_nil W _ _ a n c n' c' Tryz.underlying41
  go_enter Tryz.func125, Tryz.ntmps125
  go_wp2_with (at_builtin; refine wpList_append_own_at _ rfl _ _ 41 rfl w.heap.size 3 i _ 1 8 Tryz.underlying41 HI.out Z0.out Z1.out Z2.out rfl (by decide) _ _ _ rfl HO.out ad xs.length c (xs.map intV) rfl (by simp) HN.out H1.out (by unfold maxLen; omega) (by omega) (by simp) ?_; intro v' w1 hown1 hgrow hnil hat)
  go_ret
  obtain ⟨bs, k1, k2, k3⟩ := own_ints (xs := xs) (by simpa using hown1) H64.out
  exact ⟨_, bs, rfl, k1, k2, k3, hb0.grown hgrow (by simp) (fun k hk => by have e := Option.some.inj (show some w.heap.size = some k from hk); omega)⟩
set_option maxRecDepth 100000 in
theorem impl_copyLists (v : Value) (xss : List (List Int)) (w : World) (h : RowsR w w.heap.size v xss) (hn : szRows xss ≤ 2000000) :
  Calls Tryz.prog 124 #[v] w (OwnsPost xss w) := by
 obtain ⟨A, c, rfl, h1, h2, h3⟩ := h.open_
 have hn' : xss.length ≤ 2000000 := by unfold szRows at hn; omega
 have HL := Lib.hid (show ∀ xs ∈ xss, xs.length ≤ 2000000 from fun xs hx => by
  obtain ⟨k, hk⟩ := List.mem_iff_getElem?.1 hx
  have h1 := lens_snoc xss k xs hk
  have h2 := lens_split xss (k + 1)
  unfold szRows at hn
  omega)
 clear h hn
 have hmk := fun W => run_make1 (P := Tryz.prog) 38 41 (.slice none 0 0) 24 Tryz.underlying38 sliceInfo rfl xss.length (by omega) (by omega) W
 go_enter Tryz.func124, Tryz.ntmps124
 go_wp2
 clear hmk
 go_loopw [10] (fun i wr => TosRel xss w i wr) (fun i _ => xss.length - (intOf i).toNat)
 case atStart => exact ⟨0, [], [], Nat.zero_le _, rfl, rfl, heap_alloc_new w _, rfl, List.nodup_nil, (fun _ hb => by cases hb), bl_alloc (Below.refl _ _) _⟩
 case round =>
  obtain ⟨k, vs, bs, hk, rfl, hvs, hblk, hown, hnd, hbs, hbl⟩ := hrel
  have hsz := hbl.size
  have hgt : w.heap.size < wr.heap.size := by
   rcases Nat.lt_or_ge w.heap.size wr.heap.size with h | h
   ·
    exact h
   ·
    rw [Array.getElem?_eq_none h] at hblk; cases hblk
  have HVS := Lib.hid hvs; clear hvs
  by_cases hlt : k < xss.length
  ·
   obtain ⟨xs, hxs⟩ : ∃ xs, xss[k]? = some xs := ⟨xss[k], List.getElem?_eq_getElem hlt⟩
   obtain ⟨ad, rfl, hb, hc⟩ := h3 (by omega)
   obtain ⟨u, hu, hr⟩ := hc k xs hxs
   have hcell : wr.cell? (ad.add k) = some u := (hbl.cell (p := ad.add k) (by rw [block_add]; exact hb)).trans hu
   obtain ⟨Au, mu, cu, rfl⟩ := hr.isSlice
   have HR := Lib.hid ((hr.below hbl).more hsz)
   have hxl := HL.out xs (List.mem_of_getElem? hxs)
   clear h3 hc hr hu
   have HN := Lib.hid (take_one hxs)
   clear hxs
   have HB := Lib.hid hblk; clear hblk
   have HOW := Lib.hid hown; clear hown
   have HBS := Lib.hid hbs; clear hbs
   have h0k : (0 : Int) ≤ (k : Int) := by omega
   go_wp2_with fail
   refine (impl_Clone _ xs wr HR.out hxl).mono ?_
   rintro e w1 ⟨u2, b1, rfl, ho, hn1, hr1, hb1⟩
   have hs1 := hb1.size
   have hblk1 : w1.heap[w.heap.size]? = some (.cells (rowOf vs xss.length (.slice none 0 0)) 41 (0, 0)) := (hb1.block _ hgt).trans HB.out
   have hc1 : w1.cell? ⟨w.heap.size, k, none⟩ = some (.slice none 0 0) := by
    rw [cell_of_row w1 _ k _ _ (0, 0) hblk1, ← HVS.out]
    exact rowOf_next (by rw [HVS.out]; omega)
   have hf1 : w1.frozen? ⟨w.heap.size, k, none⟩ = false := by simp [World.frozen?, hblk1]
   have hown1 : OwnAll w1 3 (vs ++ [u2]) (xss.take k ++ [xs]) (bs ++ b1) :=
    (HOW.out.keep fun b hb => hb1.block b (HBS.out b hb).2).snoc ho
   obtain ⟨A1, m1, c1, rfl⟩ := ho.1.isSlice
   have HO1 := Lib.hid hown1; clear hown1 ho
   have HB1 := Lib.hid hblk1; clear hblk1
   go_wp2_with fail
   go_roundw
   case rel =>
    refine ⟨k + 1, vs ++ [.slice A1 m1 c1], bs ++ b1, by omega, by go_num, by simp [HVS.out], ?_, ?_, ?_, ?_, ?_⟩
    ·
     rw [heap_set_same HB1.out]
     have := rowOf_set (done := vs) (n := xss.length) (z := .slice none 0 0) (by rw [HVS.out]; omega) (.slice A1 m1 c1)
     rw [HVS.out] at this
     rw [this]
    ·
     rw [HN.out]
     refine HO1.out.keep fun b hb => Below.heap_setCell _ _ _ _ ?_
     intro e
     rcases List.mem_append.1 hb with h | h
     ·
      have := HBS.out b h; simp at e; omega
     ·
      have := hr1 b h; simp at e; omega
    ·
     refine nodup_app hnd hn1 fun a ha b hb => ?_
     have := HBS.out a ha; have := hr1 b hb; omega
    ·
     intro b hb
     rw [size_setCell]
     rcases List.mem_append.1 hb with h | h
     ·
      have := HBS.out b h; omega
     ·
      have := hr1 b h; omega
    ·
     exact (hbl.trans (hb1.mono hsz)).setCell (Nat.le_refl _) _
   case measure => simp [intOf]; omega
  ·
   have e1 : xss.take k = xss := List.take_of_length_le (by omega)
   rw [e1] at hown
   have HB := Lib.hid hblk; clear hblk e1
   have HOW := Lib.hid hown; clear hown
   have HBS := Lib.hid hbs; clear hbs
   go_wp2
   go_ret
   have hvs := HVS.out
   refine ⟨_, w.heap.size :: bs, rfl, ⟨vs, [w.heap.size], bs, .inr ⟨w.heap.size, xss.length, vs.toArray, ?_, by omega, by unfold maxLen; omega, ?_, by simp; omega, List.take_of_length_le (by simp), rfl⟩, HOW.out, rfl⟩, ?_, ?_, hbl⟩
   ·
    rw [show vs.length = xss.length by omega]; rfl
   ·
    rw [HB.out, show xss.length = vs.length by omega, rowOf_full]
   ·
    rw [List.nodup_cons]
    exact ⟨fun h => by have := HBS.out _ h; omega, hnd⟩
   ·
    intro b hb
    rcases List.mem_cons.1 hb with h | h
    ·
     omega
    ·
     have := HBS.out b h; omega
theorem kept_set (w : World) (b i : Nat) (u : Value) : Kept [b] w (w.setCell ⟨b, i, none⟩ u) :=
  ⟨rfl, rfl, rfl, Nat.le_of_eq (size_setCell w _ u).symm, fun b _ hb => Below.heap_setCell _ _ _ _ (fun e => hb (by simp [e]))⟩
set_option maxRecDepth 100000 in
set_option maxHeartbeats 2000000 in
theorem impl_copyItem (x : Item) (va vf vs vr : Value) (w : World) (h : ItemR w w.heap.size x va vf vs vr) (hz : szItem x ≤ 2000000) :
  Calls Tryz.prog 102 #[itemV x va vf vs vr] w (ItPost x w) := by
 obtain ⟨Aa, ma, ca, rfl⟩ := h.a.isSlice'
 obtain ⟨Af, mf, cf, rfl⟩ := h.f.isSlice
 obtain ⟨As, ms, cs, rfl⟩ := h.s.isSlice
 obtain ⟨Ar, mr, cr, rfl⟩ := h.r.isSlice'
 have s1 : szRows x.xss ≤ 2000000 := by unfold szItem at hz; omega
 have s2 : x.f.length ≤ 2000000 := by unfold szItem szCert at hz; omega
 have s3 : x.s.length ≤ 2000000 := by unfold szItem szCert at hz; omega
 have s4 : szRows x.rs ≤ 2000000 := by unfold szItem szCert at hz; omega
 have Ra := Lib.hid h.a
 have Rf := Lib.hid h.f
 have Rs := Lib.hid h.s
 have Rr := Lib.hid h.r
 clear h hz
 obtain ⟨nm, n, xss, cl, lb, f, s, rs⟩ := x
 dsimp only at *
 have hB := Below.refl w.heap.size w
 obtain ⟨w0, hw0⟩ : ∃ x, x = w.alloc (.cells #[.string nm, .int .i64 n, .slice Aa ma ca, .int .i64 cl, .int .i64 lb, .slice Af mf cf, .slice As ms cs, .slice Ar mr cr] 53) := ⟨_, rfl⟩
 have hbaw0 : Below w.heap.size w w0 := by rw [hw0]; exact bl_alloc (Below.refl _ _) _
 have hszw0 : w0.heap.size = w.heap.size + 1 := by rw [hw0]; simp
 have HX0 := Lib.hid (show w0.heap[w.heap.size]? = some (.cells #[.string nm, .int .i64 n, .slice Aa ma ca, .int .i64 cl, .int .i64 lb, .slice Af mf cf, .slice As ms cs, .slice Ar mr cr] 53) by have h := heap_alloc_new w (.cells #[.string nm, .int .i64 n, .slice Aa ma ca, .int .i64 cl, .int .i64 lb, .slice Af mf cf, .slice As ms cs, .slice Ar mr cr] 53); rw [← hw0] at h; exact h)
 have hz1 := hbaw0.size
 replace hB := bl_trans hB hbaw0
 replace Ra := Lib.hid (Ra.out.below (hbaw0.mono (by omega)))
 replace Rf := Lib.hid (Rf.out.below (hbaw0.mono (by omega)))
 replace Rs := Lib.hid (Rs.out.below (hbaw0.mono (by omega)))
 replace Rr := Lib.hid (Rr.out.below (hbaw0.mono (by omega)))
 obtain ⟨w1, hw1⟩ : ∃ x, x = w0.alloc (.cells #[.string ⟨#[]⟩, .int .i64 0, .slice none 0 0, .int .i64 0, .int .i64 0, .slice none 0 0, .slice none 0 0, .slice none 0 0] 53) := ⟨_, rfl⟩
 have hbaw1 : Below w0.heap.size w0 w1 := by rw [hw1]; exact bl_alloc (Below.refl _ _) _
 have hszw1 : w1.heap.size = w.heap.size + 1 + 1 := by rw [hw1]; simp [hszw0]
 have HZ0 := Lib.hid (show w1.heap[w.heap.size + 1]? = some (.cells #[.string ⟨#[]⟩, .int .i64 0, .slice none 0 0, .int .i64 0, .int .i64 0, .slice none 0 0, .slice none 0 0, .slice none 0 0] 53) by have h := heap_alloc_new w0 (.cells #[.string ⟨#[]⟩, .int .i64 0, .slice none 0 0, .int .i64 0, .int .i64 0, .slice none 0 0, .slice none 0 0, .slice none 0 0] 53); rw [← hw1, hszw0] at h; exact h)
 have hz2 := hbaw1.size
 replace hB := bl_trans hB hbaw1
 replace HX0 := bk HX0 hbaw1
 replace Ra := Lib.hid (Ra.out.below (hbaw1.mono (by omega)))
 replace Rf := Lib.hid (Rf.out.below (hbaw1.mono (by omega)))
 replace Rs := Lib.hid (Rs.out.below (hbaw1.mono (by omega)))
 replace Rr := Lib.hid (Rr.out.below (hbaw1.mono (by omega)))
 have HQw0 := Lib.hid hw0; clear hw0
 have HQw1 := Lib.hid hw1; clear hw1
 have HSZ := Lib.hid (And.intro hszw0 hszw1); clear hszw0 hszw1
 go_enter Tryz.func102, Tryz.ntmps102
 go_wp2_with fail
 rw [← HQw0.out, ← HQw1.out]
 have hlw : w.heap.size + 1 < w1.heap.size := by have := HSZ.out; omega
 have x01 := cells8 HX0
 have z01 := cells8 HZ0
 refine (impl_copyLists _ xss _ (Ra.out.more (show w.heap.size ≤ w1.heap.size by omega)) s1).mono ?_
 rintro e w2 ⟨v1, b1, rfl, ho, n1, hr, hbw2⟩
 have hz3 := hbw2.size
 replace hB := bl_trans hB hbw2
 clear x01
 replace HX0 := bk HX0 hbw2
 clear z01
 replace HZ0 := bk HZ0 hbw2
 replace Ra := Lib.hid (Ra.out.below (hbw2.mono (by omega)))
 replace Rf := Lib.hid (Rf.out.below (hbw2.mono (by omega)))
 replace Rs := Lib.hid (Rs.out.below (hbw2.mono (by omega)))
 replace Rr := Lib.hid (Rr.out.below (hbw2.mono (by omega)))
 have x02 := cells8 HX0
 have z02 := cells8 HZ0
 obtain ⟨A1, m1, c1, rfl⟩ := ho.isSlice
 have O1 := Lib.hid ho; clear ho
 have G1 := Lib.hid (show ∀ b ∈ b1, w1.heap.size ≤ b ∧ b < w2.heap.size from hr); clear hr
 go_wp2_with fail
 have hk4 : Kept [w.heap.size] w2 (w2.setCell ⟨w.heap.size, 2, none⟩ (.slice A1 m1 c1)) := kept_set w2 _ _ _
 have HG4 := Lib.hid (show ∀ b ∈ [w.heap.size], w.heap.size ≤ b ∧ b < w.heap.size + 1 from fun b hb' => by simp only [List.mem_singleton] at hb'; omega)
 have HN4 := Lib.hid (show (w2.setCell ⟨w.heap.size, 2, none⟩ (.slice A1 m1 c1)).heap[w.heap.size]? = some (.cells #[.string nm, .int .i64 n, .slice A1 m1 c1, .int .i64 cl, .int .i64 lb, .slice Af mf cf, .slice As ms cs, .slice Ar mr cr] 53 (0, 0)) from heap_set_same HX0.out _)
 clear x02
 have hz5 := hk4.size
 have hk4x := hk4.below (fun b hb' => by have := HG4.out b hb'; omega) (show w.heap.size ≤ w2.heap.size by omega)
 replace hB := hB.trans hk4x
 clear z02
 replace HZ0 := Lib.hid ((hk4.block (w.heap.size + 1) (by omega) (fun hm => by have := HG4.out _ hm; omega)).trans HZ0.out)
 replace Ra := Lib.hid (Ra.out.below hk4x)
 replace Rf := Lib.hid (Rf.out.below hk4x)
 replace Rs := Lib.hid (Rs.out.below hk4x)
 replace Rr := Lib.hid (Rr.out.below hk4x)
 replace O1 := Lib.hid (O1.out.keep fun b hb' => hk4.block b (by have := G1.out b hb'; omega) (fun hm => by have := G1.out b hb'; have := HG4.out _ hm; omega))
 replace HX0 := HN4; clear HN4 HG4
 generalize w2.setCell ⟨w.heap.size, 2, none⟩ (.slice A1 m1 c1) = w3 at *
 have x03 := cells8 HX0
 have z03 := cells8 HZ0
 refine wp_region_held_drew (S := fun _ => True) (by kernel_rfl) ?_ (fun hHeld => ?_)
 ·
  trivial
 have hz6 := (Below.refl w3.heap.size w3).drew.size
 replace hB := bl_trans hB (Below.refl w3.heap.size w3).drew
 clear z03
 replace HZ0 := Lib.hid (((Below.refl w3.heap.size w3).drew.block (w.heap.size + 1) (show w.heap.size + 1 < w3.heap.size by omega)).trans HZ0.out)
 clear x03
 replace HX0 := Lib.hid (((Below.refl w3.heap.size w3).drew.block (w.heap.size) (show w.heap.size < w3.heap.size by omega)).trans HX0.out)
 replace Ra := Lib.hid (Ra.out.below ((Below.refl w3.heap.size w3).drew.mono (by omega)))
 replace Rf := Lib.hid (Rf.out.below ((Below.refl w3.heap.size w3).drew.mono (by omega)))
 replace Rs := Lib.hid (Rs.out.below ((Below.refl w3.heap.size w3).drew.mono (by omega)))
 replace Rr := Lib.hid (Rr.out.below ((Below.refl w3.heap.size w3).drew.mono (by omega)))
 replace O1 := Lib.hid (O1.out.keep fun b hb' => (Below.refl w3.heap.size w3).drew.block b (by have := G1.out b hb'; omega))
 have z04 := cells8 HZ0
 have x04 := cells8 HX0
 refine tk 0 9 rfl rfl ?_ (hS := trivial)
 try simp only [pu]
 refine tk 1 10 rfl rfl ?_ (hS := trivial)
 try simp only [pu]
 refine tk 4 13 rfl rfl ?_ (hS := trivial)
 try simp only [pu]
 refine tk 5 14 rfl rfl ?_ (hS := trivial)
 try simp only [pu]
 refine take_ready2 2 6 rfl rfl (by kernel_rfl) (fun K hK => ?_) (fun K hK => ?_)
 ·
  go_simp
  refine hK.out _ _ ?_ (fun hHeld => ?_)
  ·
   trivial
  clear hK K
  try simp only [pu]
  refine take_ready2 3 6 rfl rfl (by kernel_rfl) (fun K hK => ?_) (fun K hK => ?_)
  ·
   go_simp
   go_at_call 125
   refine (impl_Clone _ f _ (Rf.out.more (show w.heap.size ≤ w3.drew.heap.size by omega)) s2).mono ?_
   rintro e w4 ⟨v2, b2, rfl, ho, n2, hr, hbw4⟩
   have hz7 := hbw4.size
   replace hB := bl_trans hB hbw4
   clear z04
   replace HZ0 := bk HZ0 hbw4
   clear x04
   replace HX0 := bk HX0 hbw4
   replace Ra := Lib.hid (Ra.out.below (hbw4.mono (by omega)))
   replace Rf := Lib.hid (Rf.out.below (hbw4.mono (by omega)))
   replace Rs := Lib.hid (Rs.out.below (hbw4.mono (by omega)))
   replace Rr := Lib.hid (Rr.out.below (hbw4.mono (by omega)))
   replace O1 := Lib.hid (O1.out.keep fun b hb' => hbw4.block b (by have := G1.out b hb'; omega))
   have z05 := cells8 HZ0
   have x05 := cells8 HX0
   obtain ⟨A2, m2, c2, rfl⟩ := ho.1.isSlice
   have O2 := Lib.hid ho; clear ho
   have G2 := Lib.hid (show ∀ b ∈ b2, w3.drew.heap.size ≤ b ∧ b < w4.heap.size from hr); clear hr
   refine hK.out _ _ ?_ (fun hHeld => ?_)
   ·
    trivial
   clear hK K
   try simp only [pu]
   refine take_ready 6 rfl (by kernel_rfl) (fun K hK => ?_)
   go_simp
   refine hK.out _ _ ?_ (fun hHeld => ?_)
   ·
    trivial
   clear hK K
   try simp only [pu]
   refine tk 8 17 rfl rfl ?_ (hS := trivial)
   try simp only [pu]
   refine tk 9 18 rfl rfl ?_ (hS := trivial)
   try simp only [pu]
   refine take_ready 7 rfl (by kernel_rfl) (fun K hK => ?_)
   go_simp
   go_at_call 125
   refine (impl_Clone _ s _ (Rs.out.more (show w.heap.size ≤ w4.heap.size by omega)) s3).mono ?_
   rintro e w5 ⟨v3, b3, rfl, ho, n3, hr, hbw5⟩
   have hz8 := hbw5.size
   replace hB := bl_trans hB hbw5
   clear z05
   replace HZ0 := bk HZ0 hbw5
   clear x05
   replace HX0 := bk HX0 hbw5
   replace Ra := Lib.hid (Ra.out.below (hbw5.mono (by omega)))
   replace Rf := Lib.hid (Rf.out.below (hbw5.mono (by omega)))
   replace Rs := Lib.hid (Rs.out.below (hbw5.mono (by omega)))
   replace Rr := Lib.hid (Rr.out.below (hbw5.mono (by omega)))
   replace O1 := Lib.hid (O1.out.keep fun b hb' => hbw5.block b (by have := G1.out b hb'; omega))
   replace O2 := Lib.hid (O2.out.keep fun b hb' => hbw5.block b (by have := G2.out b hb'; omega))
   have z06 := cells8 HZ0
   have x06 := cells8 HX0
   obtain ⟨A3, m3, c3, rfl⟩ := ho.1.isSlice
   have O3 := Lib.hid ho; clear ho
   have G3 := Lib.hid (show ∀ b ∈ b3, w4.heap.size ≤ b ∧ b < w5.heap.size from hr); clear hr
   refine hK.out _ _ ?_ (fun hHeld => ?_)
   ·
    trivial
   clear hK K
   try simp only [pu]
   refine take_ready 10 rfl (by kernel_rfl) (fun K hK => ?_)
   go_simp
   refine hK.out _ _ ?_ (fun hHeld => ?_)
   ·
    trivial
   clear hK K
   try simp only [pu]
   refine tk 11 19 rfl rfl ?_ (hS := trivial)
   try simp only [pu]
   refine tk 12 20 rfl rfl ?_ (hS := trivial)
   try simp only [pu]
   refine take_ready 13 rfl (by kernel_rfl) (fun K hK => ?_)
   go_simp
   refine hK.out _ _ ?_ (fun hHeld => ?_)
   ·
    trivial
   clear hK K
   try simp only [pu]
   refine wpAnyH_done (by kernel_rfl) ?_ _
   go_wp2_with fail
   have hk9 : Kept [w.heap.size] w5 (w5.setCell ⟨w.heap.size, 5, none⟩ (.slice A2 m2 c2)) := kept_set w5 _ _ _
   have HG9 := Lib.hid (show ∀ b ∈ [w.heap.size], w.heap.size ≤ b ∧ b < w.heap.size + 1 from fun b hb' => by simp only [List.mem_singleton] at hb'; omega)
   have HN9 := Lib.hid (show (w5.setCell ⟨w.heap.size, 5, none⟩ (.slice A2 m2 c2)).heap[w.heap.size]? = some (.cells #[.string nm, .int .i64 n, .slice A1 m1 c1, .int .i64 cl, .int .i64 lb, .slice A2 m2 c2, .slice As ms cs, .slice Ar mr cr] 53 (0, 0)) from heap_set_same HX0.out _)
   clear x06
   have hz10 := hk9.size
   have hk9x := hk9.below (fun b hb' => by have := HG9.out b hb'; omega) (show w.heap.size ≤ w5.heap.size by omega)
   replace hB := hB.trans hk9x
   clear z06
   replace HZ0 := Lib.hid ((hk9.block (w.heap.size + 1) (by omega) (fun hm => by have := HG9.out _ hm; omega)).trans HZ0.out)
   replace Ra := Lib.hid (Ra.out.below hk9x)
   replace Rf := Lib.hid (Rf.out.below hk9x)
   replace Rs := Lib.hid (Rs.out.below hk9x)
   replace Rr := Lib.hid (Rr.out.below hk9x)
   replace O1 := Lib.hid (O1.out.keep fun b hb' => hk9.block b (by have := G1.out b hb'; omega) (fun hm => by have := G1.out b hb'; have := HG9.out _ hm; omega))
   replace O2 := Lib.hid (O2.out.keep fun b hb' => hk9.block b (by have := G2.out b hb'; omega) (fun hm => by have := G2.out b hb'; have := HG9.out _ hm; omega))
   replace O3 := Lib.hid (O3.out.keep fun b hb' => hk9.block b (by have := G3.out b hb'; omega) (fun hm => by have := G3.out b hb'; have := HG9.out _ hm; omega))
   replace HX0 := HN9; clear HN9 HG9
   generalize w5.setCell ⟨w.heap.size, 5, none⟩ (.slice A2 m2 c2) = w6 at *
   have hk11 : Kept [w.heap.size] w6 (w6.setCell ⟨w.heap.size, 6, none⟩ (.slice A3 m3 c3)) := kept_set w6 _ _ _
   have HG11 := Lib.hid (show ∀ b ∈ [w.heap.size], w.heap.size ≤ b ∧ b < w.heap.size + 1 from fun b hb' => by simp only [List.mem_singleton] at hb'; omega)
   have HN11 := Lib.hid (show (w6.setCell ⟨w.heap.size, 6, none⟩ (.slice A3 m3 c3)).heap[w.heap.size]? = some (.cells #[.string nm, .int .i64 n, .slice A1 m1 c1, .int .i64 cl, .int .i64 lb, .slice A2 m2 c2, .slice A3 m3 c3, .slice Ar mr cr] 53 (0, 0)) from heap_set_same HX0.out _)
   have hz12 := hk11.size
   have hk11x := hk11.below (fun b hb' => by have := HG11.out b hb'; omega) (show w.heap.size ≤ w6.heap.size by omega)
   replace hB := hB.trans hk11x
   replace HZ0 := Lib.hid ((hk11.block (w.heap.size + 1) (by omega) (fun hm => by have := HG11.out _ hm; omega)).trans HZ0.out)
   replace Ra := Lib.hid (Ra.out.below hk11x)
   replace Rf := Lib.hid (Rf.out.below hk11x)
   replace Rs := Lib.hid (Rs.out.below hk11x)
   replace Rr := Lib.hid (Rr.out.below hk11x)
   replace O1 := Lib.hid (O1.out.keep fun b hb' => hk11.block b (by have := G1.out b hb'; omega) (fun hm => by have := G1.out b hb'; have := HG11.out _ hm; omega))
   replace O2 := Lib.hid (O2.out.keep fun b hb' => hk11.block b (by have := G2.out b hb'; omega) (fun hm => by have := G2.out b hb'; have := HG11.out _ hm; omega))
   replace O3 := Lib.hid (O3.out.keep fun b hb' => hk11.block b (by have := G3.out b hb'; omega) (fun hm => by have := G3.out b hb'; have := HG11.out _ hm; omega))
   replace HX0 := HN11; clear HN11 HG11
   generalize w6.setCell ⟨w.heap.size, 6, none⟩ (.slice A3 m3 c3) = w7 at *
   have x07 := cells8 HX0
   have z07 := cells8 HZ0
   refine (impl_copyLists _ rs _ (Rr.out.more (show w.heap.size ≤ w7.heap.size by omega)) s4).mono ?_
   rintro e w8 ⟨v4, b4, rfl, ho, n4, hr, hbw8⟩
   have hz13 := hbw8.size
   replace hB := bl_trans hB hbw8
   clear z07
   replace HZ0 := bk HZ0 hbw8
   clear x07
   replace HX0 := bk HX0 hbw8
   replace Ra := Lib.hid (Ra.out.below (hbw8.mono (by omega)))
   replace Rf := Lib.hid (Rf.out.below (hbw8.mono (by omega)))
   replace Rs := Lib.hid (Rs.out.below (hbw8.mono (by omega)))
   replace Rr := Lib.hid (Rr.out.below (hbw8.mono (by omega)))
   replace O1 := Lib.hid (O1.out.keep fun b hb' => hbw8.block b (by have := G1.out b hb'; omega))
   replace O2 := Lib.hid (O2.out.keep fun b hb' => hbw8.block b (by have := G2.out b hb'; omega))
   replace O3 := Lib.hid (O3.out.keep fun b hb' => hbw8.block b (by have := G3.out b hb'; omega))
   have z08 := cells8 HZ0
   have x08 := cells8 HX0
   obtain ⟨A4, m4, c4, rfl⟩ := ho.isSlice
   have O4 := Lib.hid ho; clear ho
   have G4 := Lib.hid (show ∀ b ∈ b4, w7.heap.size ≤ b ∧ b < w8.heap.size from hr); clear hr
   go_wp2_with fail
   have hk14 : Kept [w.heap.size] w8 (w8.setCell ⟨w.heap.size, 7, none⟩ (.slice A4 m4 c4)) := kept_set w8 _ _ _
   have HG14 := Lib.hid (show ∀ b ∈ [w.heap.size], w.heap.size ≤ b ∧ b < w.heap.size + 1 from fun b hb' => by simp only [List.mem_singleton] at hb'; omega)
   have HN14 := Lib.hid (show (w8.setCell ⟨w.heap.size, 7, none⟩ (.slice A4 m4 c4)).heap[w.heap.size]? = some (.cells #[.string nm, .int .i64 n, .slice A1 m1 c1, .int .i64 cl, .int .i64 lb, .slice A2 m2 c2, .slice A3 m3 c3, .slice A4 m4 c4] 53 (0, 0)) from heap_set_same HX0.out _)
   clear x08
   have hz15 := hk14.size
   have hk14x := hk14.below (fun b hb' => by have := HG14.out b hb'; omega) (show w.heap.size ≤ w8.heap.size by omega)
   replace hB := hB.trans hk14x
   clear z08
   replace HZ0 := Lib.hid ((hk14.block (w.heap.size + 1) (by omega) (fun hm => by have := HG14.out _ hm; omega)).trans HZ0.out)
   replace Ra := Lib.hid (Ra.out.below hk14x)
   replace Rf := Lib.hid (Rf.out.below hk14x)
   replace Rs := Lib.hid (Rs.out.below hk14x)
   replace Rr := Lib.hid (Rr.out.below hk14x)
   replace O1 := Lib.hid (O1.out.keep fun b hb' => hk14.block b (by have := G1.out b hb'; omega) (fun hm => by have := G1.out b hb'; have := HG14.out _ hm; omega))
   replace O2 := Lib.hid (O2.out.keep fun b hb' => hk14.block b (by have := G2.out b hb'; omega) (fun hm => by have := G2.out b hb'; have := HG14.out _ hm; omega))
   replace O3 := Lib.hid (O3.out.keep fun b hb' => hk14.block b (by have := G3.out b hb'; omega) (fun hm => by have := G3.out b hb'; have := HG14.out _ hm; omega))
   replace O4 := Lib.hid (O4.out.keep fun b hb' => hk14.block b (by have := G4.out b hb'; omega) (fun hm => by have := G4.out b hb'; have := HG14.out _ hm; omega))
   replace HX0 := HN14; clear HN14 HG14
   generalize w8.setCell ⟨w.heap.size, 7, none⟩ (.slice A4 m4 c4) = w9 at *
   obtain ⟨z09_0, z09_1, z09_2, z09_3, z09_4, z09_5, z09_6, z09_7, z09_f⟩ := cells8 HZ0
   have HO := Lib.hid (show OwnItem w9 ⟨nm, n, xss, cl, lb, f, s, rs⟩ (.slice A1 m1 c1) (.slice A2 m2 c2) (.slice A3 m3 c3) (.slice A4 m4 c4) (b1 ++ (b2 ++ b3 ++ b4)) from ⟨b1, b2, b3, b4, O1.out, O2.out, O3.out, O4.out, rfl⟩)
   have HR := Lib.hid (show ∀ b ∈ b1 ++ (b2 ++ b3 ++ b4), w.heap.size + 1 < b ∧ b < w9.heap.size from fun b hb => by
    simp only [List.mem_append] at hb
    rcases hb with hb | (hb | hb) | hb
    ·
     have := G1.out b hb; omega
    ·
     have := G2.out b hb; omega
    ·
     have := G3.out b hb; omega
    ·
     have := G4.out b hb; omega)
   have HN := Lib.hid (show (b1 ++ (b2 ++ b3 ++ b4)).Nodup from by
    have e1 := G1.out; have e2 := G2.out; have e3 := G3.out; have e4 := G4.out
    refine nodup_app n1 (nodup_app (nodup_app n2 n3 fun a ha b hb' e => ?_) n4 fun a ha b hb' e => ?_) fun a ha b hb' e => ?_
    ·
     have := e2 a ha; have := e3 b hb'; omega
    ·
     have := e4 b hb'
     rcases List.mem_append.1 ha with h | h
     ·
      have := e2 a h; omega
     ·
      have := e3 a h; omega
    ·
     have := e1 a ha
     simp only [List.mem_append] at hb'
     rcases hb' with (h | h) | h
     ·
      have := e2 b h; omega
     ·
      have := e3 b h; omega
     ·
      have := e4 b h; omega)
   refine bodyPost_ret (v := .agg #[.string nm, .int .i64 n, .slice A1 m1 c1, .int .i64 cl, .int .i64 lb, .slice A2 m2 c2, .slice A3 m3 c3, .slice A4 m4 c4]) (by simp [results, Tryz.results102, go_sem, z09_0, z09_1, z09_2, z09_3, z09_4, z09_5, z09_6, z09_7, z09_f]) rfl ?_
   exact it_end (x := ⟨nm, n, xss, cl, lb, f, s, rs⟩) HO.out HN.out (fun b hb => by have := HR.out b hb; omega) hB (by omega) (by omega)
  ·
   go_simp
   refine hK.out _ _ ?_ (fun hHeld => ?_)
   ·
    trivial
   clear hK K
   try simp only [pu]
   refine take_ready 3 rfl (by kernel_rfl) (fun K hK => ?_)
   go_simp
   go_at_call 125
   refine (impl_Clone _ f _ (Rf.out.more (show w.heap.size ≤ w3.drew.heap.size by omega)) s2).mono ?_
   rintro e w4 ⟨v2, b2, rfl, ho, n2, hr, hbw4⟩
   have hz7 := hbw4.size
   replace hB := bl_trans hB hbw4
   clear z04
   replace HZ0 := bk HZ0 hbw4
   clear x04
   replace HX0 := bk HX0 hbw4
   replace Ra := Lib.hid (Ra.out.below (hbw4.mono (by omega)))
   replace Rf := Lib.hid (Rf.out.below (hbw4.mono (by omega)))
   replace Rs := Lib.hid (Rs.out.below (hbw4.mono (by omega)))
   replace Rr := Lib.hid (Rr.out.below (hbw4.mono (by omega)))
   replace O1 := Lib.hid (O1.out.keep fun b hb' => hbw4.block b (by have := G1.out b hb'; omega))
   have z05 := cells8 HZ0
   have x05 := cells8 HX0
   obtain ⟨A2, m2, c2, rfl⟩ := ho.1.isSlice
   have O2 := Lib.hid ho; clear ho
   have G2 := Lib.hid (show ∀ b ∈ b2, w3.drew.heap.size ≤ b ∧ b < w4.heap.size from hr); clear hr
   refine hK.out _ _ ?_ (fun hHeld => ?_)
   ·
    trivial
   clear hK K
   try simp only [pu]
   refine tk 8 17 rfl rfl ?_ (hS := trivial)
   try simp only [pu]
   refine tk 9 18 rfl rfl ?_ (hS := trivial)
   try simp only [pu]
   refine take_ready 7 rfl (by kernel_rfl) (fun K hK => ?_)
   go_simp
   go_at_call 125
   refine (impl_Clone _ s _ (Rs.out.more (show w.heap.size ≤ w4.heap.size by omega)) s3).mono ?_
   rintro e w5 ⟨v3, b3, rfl, ho, n3, hr, hbw5⟩
   have hz8 := hbw5.size
   replace hB := bl_trans hB hbw5
   clear z05
   replace HZ0 := bk HZ0 hbw5
   clear x05
   replace HX0 := bk HX0 hbw5
   replace Ra := Lib.hid (Ra.out.below (hbw5.mono (by omega)))
   replace Rf := Lib.hid (Rf.out.below (hbw5.mono (by omega)))
   replace Rs := Lib.hid (Rs.out.below (hbw5.mono (by omega)))
   replace Rr := Lib.hid (Rr.out.below (hbw5.mono (by omega)))
   replace O1 := Lib.hid (O1.out.keep fun b hb' => hbw5.block b (by have := G1.out b hb'; omega))
   replace O2 := Lib.hid (O2.out.keep fun b hb' => hbw5.block b (by have := G2.out b hb'; omega))
   have z06 := cells8 HZ0
   have x06 := cells8 HX0
   obtain ⟨A3, m3, c3, rfl⟩ := ho.1.isSlice
   have O3 := Lib.hid ho; clear ho
   have G3 := Lib.hid (show ∀ b ∈ b3, w4.heap.size ≤ b ∧ b < w5.heap.size from hr); clear hr
   refine hK.out _ _ ?_ (fun hHeld => ?_)
   ·
    trivial
   clear hK K
   try simp only [pu]
   refine take_ready 10 rfl (by kernel_rfl) (fun K hK => ?_)
   go_simp
   refine hK.out _ _ ?_ (fun hHeld => ?_)
   ·
    trivial
   clear hK K
   try simp only [pu]
   refine tk 11 19 rfl rfl ?_ (hS := trivial)
   try simp only [pu]
   refine tk 12 20 rfl rfl ?_ (hS := trivial)
   try simp only [pu]
   refine take_ready 13 rfl (by kernel_rfl) (fun K hK => ?_)
   go_simp
   refine hK.out _ _ ?_ (fun hHeld => ?_)
   ·
    trivial
   clear hK K
   try simp only [pu]
   refine wpAnyH_done (by kernel_rfl) ?_ _
   go_wp2_with fail
   have hk9 : Kept [w.heap.size] w5 (w5.setCell ⟨w.heap.size, 5, none⟩ (.slice A2 m2 c2)) := kept_set w5 _ _ _
   have HG9 := Lib.hid (show ∀ b ∈ [w.heap.size], w.heap.size ≤ b ∧ b < w.heap.size + 1 from fun b hb' => by simp only [List.mem_singleton] at hb'; omega)
   have HN9 := Lib.hid (show (w5.setCell ⟨w.heap.size, 5, none⟩ (.slice A2 m2 c2)).heap[w.heap.size]? = some (.cells #[.string nm, .int .i64 n, .slice A1 m1 c1, .int .i64 cl, .int .i64 lb, .slice A2 m2 c2, .slice As ms cs, .slice Ar mr cr] 53 (0, 0)) from heap_set_same HX0.out _)
   clear x06
   have hz10 := hk9.size
   have hk9x := hk9.below (fun b hb' => by have := HG9.out b hb'; omega) (show w.heap.size ≤ w5.heap.size by omega)
   replace hB := hB.trans hk9x
   clear z06
   replace HZ0 := Lib.hid ((hk9.block (w.heap.size + 1) (by omega) (fun hm => by have := HG9.out _ hm; omega)).trans HZ0.out)
   replace Ra := Lib.hid (Ra.out.below hk9x)
   replace Rf := Lib.hid (Rf.out.below hk9x)
   replace Rs := Lib.hid (Rs.out.below hk9x)
   replace Rr := Lib.hid (Rr.out.below hk9x)
   replace O1 := Lib.hid (O1.out.keep fun b hb' => hk9.block b (by have := G1.out b hb'; omega) (fun hm => by have := G1.out b hb'; have := HG9.out _ hm; omega))
   replace O2 := Lib.hid (O2.out.keep fun b hb' => hk9.block b (by have := G2.out b hb'; omega) (fun hm => by have := G2.out b hb'; have := HG9.out _ hm; omega))
   replace O3 := Lib.hid (O3.out.keep fun b hb' => hk9.block b (by have := G3.out b hb'; omega) (fun hm => by have := G3.out b hb'; have := HG9.out _ hm; omega))
   replace HX0 := HN9; clear HN9 HG9
   generalize w5.setCell ⟨w.heap.size, 5, none⟩ (.slice A2 m2 c2) = w6 at *
   have hk11 : Kept [w.heap.size] w6 (w6.setCell ⟨w.heap.size, 6, none⟩ (.slice A3 m3 c3)) := kept_set w6 _ _ _
   have HG11 := Lib.hid (show ∀ b ∈ [w.heap.size], w.heap.size ≤ b ∧ b < w.heap.size + 1 from fun b hb' => by simp only [List.mem_singleton] at hb'; omega)
   have HN11 := Lib.hid (show (w6.setCell ⟨w.heap.size, 6, none⟩ (.slice A3 m3 c3)).heap[w.heap.size]? = some (.cells #[.string nm, .int .i64 n, .slice A1 m1 c1, .int .i64 cl, .int .i64 lb, .slice A2 m2 c2, .slice A3 m3 c3, .slice Ar mr cr] 53 (0, 0)) from heap_set_same HX0.out _)
   have hz12 := hk11.size
   have hk11x := hk11.below (fun b hb' => by have := HG11.out b hb'; omega) (show w.heap.size ≤ w6.heap.size by omega)
   replace hB := hB.trans hk11x
   replace HZ0 := Lib.hid ((hk11.block (w.heap.size + 1) (by omega) (fun hm => by have := HG11.out _ hm; omega)).trans HZ0.out)
   replace Ra := Lib.hid (Ra.out.below hk11x)
   replace Rf := Lib.hid (Rf.out.below hk11x)
   replace Rs := Lib.hid (Rs.out.below hk11x)
   replace Rr := Lib.hid (Rr.out.below hk11x)
   replace O1 := Lib.hid (O1.out.keep fun b hb' => hk11.block b (by have := G1.out b hb'; omega) (fun hm => by have := G1.out b hb'; have := HG11.out _ hm; omega))
   replace O2 := Lib.hid (O2.out.keep fun b hb' => hk11.block b (by have := G2.out b hb'; omega) (fun hm => by have := G2.out b hb'; have := HG11.out _ hm; omega))
   replace O3 := Lib.hid (O3.out.keep fun b hb' => hk11.block b (by have := G3.out b hb'; omega) (fun hm => by have := G3.out b hb'; have := HG11.out _ hm; omega))
   replace HX0 := HN11; clear HN11 HG11
   generalize w6.setCell ⟨w.heap.size, 6, none⟩ (.slice A3 m3 c3) = w7 at *
   have x07 := cells8 HX0
   have z07 := cells8 HZ0
   refine (impl_copyLists _ rs _ (Rr.out.more (show w.heap.size ≤ w7.heap.size by omega)) s4).mono ?_
   rintro e w8 ⟨v4, b4, rfl, ho, n4, hr, hbw8⟩
   have hz13 := hbw8.size
   replace hB := bl_trans hB hbw8
   clear z07
   replace HZ0 := bk HZ0 hbw8
   clear x07
   replace HX0 := bk HX0 hbw8
   replace Ra := Lib.hid (Ra.out.below (hbw8.mono (by omega)))
   replace Rf := Lib.hid (Rf.out.below (hbw8.mono (by omega)))
   replace Rs := Lib.hid (Rs.out.below (hbw8.mono (by omega)))
   replace Rr := Lib.hid (Rr.out.below (hbw8.mono (by omega)))
   replace O1 := Lib.hid (O1.out.keep fun b hb' => hbw8.block b (by have := G1.out b hb'; omega))
   replace O2 := Lib.hid (O2.out.keep fun b hb' => hbw8.block b (by have := G2.out b hb'; omega))
   replace O3 := Lib.hid (O3.out.keep fun b hb' => hbw8.block b (by have := G3.out b hb'; omega))
   have z08 := cells8 HZ0
   have x08 := cells8 HX0
   obtain ⟨A4, m4, c4, rfl⟩ := ho.isSlice
   have O4 := Lib.hid ho; clear ho
   have G4 := Lib.hid (show ∀ b ∈ b4, w7.heap.size ≤ b ∧ b < w8.heap.size from hr); clear hr
   go_wp2_with fail
   have hk14 : Kept [w.heap.size] w8 (w8.setCell ⟨w.heap.size, 7, none⟩ (.slice A4 m4 c4)) := kept_set w8 _ _ _
   have HG14 := Lib.hid (show ∀ b ∈ [w.heap.size], w.heap.size ≤ b ∧ b < w.heap.size + 1 from fun b hb' => by simp only [List.mem_singleton] at hb'; omega)
   have HN14 := Lib.hid (show (w8.setCell ⟨w.heap.size, 7, none⟩ (.slice A4 m4 c4)).heap[w.heap.size]? = some (.cells #[.string nm, .int .i64 n, .slice A1 m1 c1, .int .i64 cl, .int .i64 lb, .slice A2 m2 c2, .slice A3 m3 c3, .slice A4 m4 c4] 53 (0, 0)) from heap_set_same HX0.out _)
   clear x08
   have hz15 := hk14.size
   have hk14x := hk14.below (fun b hb' => by have := HG14.out b hb'; omega) (show w.heap.size ≤ w8.heap.size by omega)
   replace hB := hB.trans hk14x
   clear z08
   replace HZ0 := Lib.hid ((hk14.block (w.heap.size + 1) (by omega) (fun hm => by have := HG14.out _ hm; omega)).trans HZ0.out)
   replace Ra := Lib.hid (Ra.out.below hk14x)
   replace Rf := Lib.hid (Rf.out.below hk14x)
   replace Rs := Lib.hid (Rs.out.below hk14x)
   replace Rr := Lib.hid (Rr.out.below hk14x)
   replace O1 := Lib.hid (O1.out.keep fun b hb' => hk14.block b (by have := G1.out b hb'; omega) (fun hm => by have := G1.out b hb'; have := HG14.out _ hm; omega))
   replace O2 := Lib.hid (O2.out.keep fun b hb' => hk14.block b (by have := G2.out b hb'; omega) (fun hm => by have := G2.out b hb'; have := HG14.out _ hm; omega))
   replace O3 := Lib.hid (O3.out.keep fun b hb' => hk14.block b (by have := G3.out b hb'; omega) (fun hm => by have := G3.out b hb'; have := HG14.out _ hm; omega))
   replace O4 := Lib.hid (O4.out.keep fun b hb' => hk14.block b (by have := G4.out b hb'; omega) (fun hm => by have := G4.out b hb'; have := HG14.out _ hm; omega))
   replace HX0 := HN14; clear HN14 HG14
   generalize w8.setCell ⟨w.heap.size, 7, none⟩ (.slice A4 m4 c4) = w9 at *
   obtain ⟨z09_0, z09_1, z09_2, z09_3, z09_4, z09_5, z09_6, z09_7, z09_f⟩ := cells8 HZ0
   have HO := Lib.hid (show OwnItem w9 ⟨nm, n, xss, cl, lb, f, s, rs⟩ (.slice A1 m1 c1) (.slice A2 m2 c2) (.slice A3 m3 c3) (.slice A4 m4 c4) (b1 ++ (b2 ++ b3 ++ b4)) from ⟨b1, b2, b3, b4, O1.out, O2.out, O3.out, O4.out, rfl⟩)
   have HR := Lib.hid (show ∀ b ∈ b1 ++ (b2 ++ b3 ++ b4), w.heap.size + 1 < b ∧ b < w9.heap.size from fun b hb => by
    simp only [List.mem_append] at hb
    rcases hb with hb | (hb | hb) | hb
    ·
     have := G1.out b hb; omega
    ·
     have := G2.out b hb; omega
    ·
     have := G3.out b hb; omega
    ·
     have := G4.out b hb; omega)
   have HN := Lib.hid (show (b1 ++ (b2 ++ b3 ++ b4)).Nodup from by
    have e1 := G1.out; have e2 := G2.out; have e3 := G3.out; have e4 := G4.out
    refine nodup_app n1 (nodup_app (nodup_app n2 n3 fun a ha b hb' e => ?_) n4 fun a ha b hb' e => ?_) fun a ha b hb' e => ?_
    ·
     have := e2 a ha; have := e3 b hb'; omega
    ·
     have := e4 b hb'
     rcases List.mem_append.1 ha with h | h
     ·
      have := e2 a h; omega
     ·
      have := e3 a h; omega
    ·
     have := e1 a ha
     simp only [List.mem_append] at hb'
     rcases hb' with (h | h) | h
     ·
      have := e2 b h; omega
     ·
      have := e3 b h; omega
     ·
      have := e4 b h; omega)
   refine bodyPost_ret (v := .agg #[.string nm, .int .i64 n, .slice A1 m1 c1, .int .i64 cl, .int .i64 lb, .slice A2 m2 c2, .slice A3 m3 c3, .slice A4 m4 c4]) (by simp [results, Tryz.results102, go_sem, z09_0, z09_1, z09_2, z09_3, z09_4, z09_5, z09_6, z09_7, z09_f]) rfl ?_
   exact it_end (x := ⟨nm, n, xss, cl, lb, f, s, rs⟩) HO.out HN.out (fun b hb => by have := HR.out b hb; omega) hB (by omega) (by omega)
 ·
  go_simp
  refine hK.out _ _ ?_ (fun hHeld => ?_)
  ·
   trivial
  clear hK K
  try simp only [pu]
  refine take_ready 2 rfl (by kernel_rfl) (fun K hK => ?_)
  go_simp
  refine hK.out _ _ ?_ (fun hHeld => ?_)
  ·
   trivial
  clear hK K
  try simp only [pu]
  refine take_ready 3 rfl (by kernel_rfl) (fun K hK => ?_)
  go_simp
  go_at_call 125
  refine (impl_Clone _ f _ (Rf.out.more (show w.heap.size ≤ w3.drew.heap.size by omega)) s2).mono ?_
  rintro e w4 ⟨v2, b2, rfl, ho, n2, hr, hbw4⟩
  have hz7 := hbw4.size
  replace hB := bl_trans hB hbw4
  clear z04
  replace HZ0 := bk HZ0 hbw4
  clear x04
  replace HX0 := bk HX0 hbw4
  replace Ra := Lib.hid (Ra.out.below (hbw4.mono (by omega)))
  replace Rf := Lib.hid (Rf.out.below (hbw4.mono (by omega)))
  replace Rs := Lib.hid (Rs.out.below (hbw4.mono (by omega)))
  replace Rr := Lib.hid (Rr.out.below (hbw4.mono (by omega)))
  replace O1 := Lib.hid (O1.out.keep fun b hb' => hbw4.block b (by have := G1.out b hb'; omega))
  have z05 := cells8 HZ0
  have x05 := cells8 HX0
  obtain ⟨A2, m2, c2, rfl⟩ := ho.1.isSlice
  have O2 := Lib.hid ho; clear ho
  have G2 := Lib.hid (show ∀ b ∈ b2, w3.drew.heap.size ≤ b ∧ b < w4.heap.size from hr); clear hr
  refine hK.out _ _ ?_ (fun hHeld => ?_)
  ·
   trivial
  clear hK K
  try simp only [pu]
  refine tk 8 17 rfl rfl ?_ (hS := trivial)
  try simp only [pu]
  refine tk 9 18 rfl rfl ?_ (hS := trivial)
  try simp only [pu]
  refine take_ready 7 rfl (by kernel_rfl) (fun K hK => ?_)
  go_simp
  go_at_call 125
  refine (impl_Clone _ s _ (Rs.out.more (show w.heap.size ≤ w4.heap.size by omega)) s3).mono ?_
  rintro e w5 ⟨v3, b3, rfl, ho, n3, hr, hbw5⟩
  have hz8 := hbw5.size
  replace hB := bl_trans hB hbw5
  clear z05
  replace HZ0 := bk HZ0 hbw5
  clear x05
  replace HX0 := bk HX0 hbw5
  replace Ra := Lib.hid (Ra.out.below (hbw5.mono (by omega)))
  replace Rf := Lib.hid (Rf.out.below (hbw5.mono (by omega)))
  replace Rs := Lib.hid (Rs.out.below (hbw5.mono (by omega)))
  replace Rr := Lib.hid (Rr.out.below (hbw5.mono (by omega)))
  replace O1 := Lib.hid (O1.out.keep fun b hb' => hbw5.block b (by have := G1.out b hb'; omega))
  replace O2 := Lib.hid (O2.out.keep fun b hb' => hbw5.block b (by have := G2.out b hb'; omega))
  have z06 := cells8 HZ0
  have x06 := cells8 HX0
  obtain ⟨A3, m3, c3, rfl⟩ := ho.1.isSlice
  have O3 := Lib.hid ho; clear ho
  have G3 := Lib.hid (show ∀ b ∈ b3, w4.heap.size ≤ b ∧ b < w5.heap.size from hr); clear hr
  refine hK.out _ _ ?_ (fun hHeld => ?_)
  ·
   trivial
  clear hK K
  try simp only [pu]
  refine take_ready 10 rfl (by kernel_rfl) (fun K hK => ?_)
  go_simp
  refine hK.out _ _ ?_ (fun hHeld => ?_)
  ·
   trivial
  clear hK K
  try simp only [pu]
  refine tk 11 19 rfl rfl ?_ (hS := trivial)
  try simp only [pu]
  refine tk 12 20 rfl rfl ?_ (hS := trivial)
  try simp only [pu]
  refine take_ready 13 rfl (by kernel_rfl) (fun K hK => ?_)
  go_simp
  refine hK.out _ _ ?_ (fun hHeld => ?_)
  ·
   trivial
  clear hK K
  try simp only [pu]
  refine wpAnyH_done (by kernel_rfl) ?_ _
  go_wp2_with fail
  have hk9 : Kept [w.heap.size] w5 (w5.setCell ⟨w.heap.size, 5, none⟩ (.slice A2 m2 c2)) := kept_set w5 _ _ _
  have HG9 := Lib.hid (show ∀ b ∈ [w.heap.size], w.heap.size ≤ b ∧ b < w.heap.size + 1 from fun b hb' => by simp only [List.mem_singleton] at hb'; omega)
  have HN9 := Lib.hid (show (w5.setCell ⟨w.heap.size, 5, none⟩ (.slice A2 m2 c2)).heap[w.heap.size]? = some (.cells #[.string nm, .int .i64 n, .slice A1 m1 c1, .int .i64 cl, .int .i64 lb, .slice A2 m2 c2, .slice As ms cs, .slice Ar mr cr] 53 (0, 0)) from heap_set_same HX0.out _)
  clear x06
  have hz10 := hk9.size
  have hk9x := hk9.below (fun b hb' => by have := HG9.out b hb'; omega) (show w.heap.size ≤ w5.heap.size by omega)
  replace hB := hB.trans hk9x
  clear z06
  replace HZ0 := Lib.hid ((hk9.block (w.heap.size + 1) (by omega) (fun hm => by have := HG9.out _ hm; omega)).trans HZ0.out)
  replace Ra := Lib.hid (Ra.out.below hk9x)
  replace Rf := Lib.hid (Rf.out.below hk9x)
  replace Rs := Lib.hid (Rs.out.below hk9x)
  replace Rr := Lib.hid (Rr.out.below hk9x)
  replace O1 := Lib.hid (O1.out.keep fun b hb' => hk9.block b (by have := G1.out b hb'; omega) (fun hm => by have := G1.out b hb'; have := HG9.out _ hm; omega))
  replace O2 := Lib.hid (O2.out.keep fun b hb' => hk9.block b (by have := G2.out b hb'; omega) (fun hm => by have := G2.out b hb'; have := HG9.out _ hm; omega))
  replace O3 := Lib.hid (O3.out.keep fun b hb' => hk9.block b (by have := G3.out b hb'; omega) (fun hm => by have := G3.out b hb'; have := HG9.out _ hm; omega))
  replace HX0 := HN9; clear HN9 HG9
  generalize w5.setCell ⟨w.heap.size, 5, none⟩ (.slice A2 m2 c2) = w6 at *
  have hk11 : Kept [w.heap.size] w6 (w6.setCell ⟨w.heap.size, 6, none⟩ (.slice A3 m3 c3)) := kept_set w6 _ _ _
  have HG11 := Lib.hid (show ∀ b ∈ [w.heap.size], w.heap.size ≤ b ∧ b < w.heap.size + 1 from fun b hb' => by simp only [List.mem_singleton] at hb'; omega)
  have HN11 := Lib.hid (show (w6.setCell ⟨w.heap.size, 6, none⟩ (.slice A3 m3 c3)).heap[w.heap.size]? = some (.cells #[.string nm, .int .i64 n, .slice A1 m1 c1, .int .i64 cl, .int .i64 lb, .slice A2 m2 c2, .slice A3 m3 c3, .slice Ar mr cr] 53 (0, 0)) from heap_set_same HX0.out _)
  have hz12 := hk11.size
  have hk11x := hk11.below (fun b hb' => by have := HG11.out b hb'; omega) (show w.heap.size ≤ w6.heap.size by omega)
  replace hB := hB.trans hk11x
  replace HZ0 := Lib.hid ((hk11.block (w.heap.size + 1) (by omega) (fun hm => by have := HG11.out _ hm; omega)).trans HZ0.out)
  replace Ra := Lib.hid (Ra.out.below hk11x)
  replace Rf := Lib.hid (Rf.out.below hk11x)
  replace Rs := Lib.hid (Rs.out.below hk11x)
  replace Rr := Lib.hid (Rr.out.below hk11x)
  replace O1 := Lib.hid (O1.out.keep fun b hb' => hk11.block b (by have := G1.out b hb'; omega) (fun hm => by have := G1.out b hb'; have := HG11.out _ hm; omega))
  replace O2 := Lib.hid (O2.out.keep fun b hb' => hk11.block b (by have := G2.out b hb'; omega) (fun hm => by have := G2.out b hb'; have := HG11.out _ hm; omega))
  replace O3 := Lib.hid (O3.out.keep fun b hb' => hk11.block b (by have := G3.out b hb'; omega) (fun hm => by have := G3.out b hb'; have := HG11.out _ hm; omega))
  replace HX0 := HN11; clear HN11 HG11
  generalize w6.setCell ⟨w.heap.size, 6, none⟩ (.slice A3 m3 c3) = w7 at *
  have x07 := cells8 HX0
  have z07 := cells8 HZ0
  refine (impl_copyLists _ rs _ (Rr.out.more (show w.heap.size ≤ w7.heap.size by omega)) s4).mono ?_
  rintro e w8 ⟨v4, b4, rfl, ho, n4, hr, hbw8⟩
  have hz13 := hbw8.size
  replace hB := bl_trans hB hbw8
  clear z07
  replace HZ0 := bk HZ0 hbw8
  clear x07
  replace HX0 := bk HX0 hbw8
  replace Ra := Lib.hid (Ra.out.below (hbw8.mono (by omega)))
  replace Rf := Lib.hid (Rf.out.below (hbw8.mono (by omega)))
  replace Rs := Lib.hid (Rs.out.below (hbw8.mono (by omega)))
  replace Rr := Lib.hid (Rr.out.below (hbw8.mono (by omega)))
  replace O1 := Lib.hid (O1.out.keep fun b hb' => hbw8.block b (by have := G1.out b hb'; omega))
  replace O2 := Lib.hid (O2.out.keep fun b hb' => hbw8.block b (by have := G2.out b hb'; omega))
  replace O3 := Lib.hid (O3.out.keep fun b hb' => hbw8.block b (by have := G3.out b hb'; omega))
  have z08 := cells8 HZ0
  have x08 := cells8 HX0
  obtain ⟨A4, m4, c4, rfl⟩ := ho.isSlice
  have O4 := Lib.hid ho; clear ho
  have G4 := Lib.hid (show ∀ b ∈ b4, w7.heap.size ≤ b ∧ b < w8.heap.size from hr); clear hr
  go_wp2_with fail
  have hk14 : Kept [w.heap.size] w8 (w8.setCell ⟨w.heap.size, 7, none⟩ (.slice A4 m4 c4)) := kept_set w8 _ _ _
  have HG14 := Lib.hid (show ∀ b ∈ [w.heap.size], w.heap.size ≤ b ∧ b < w.heap.size + 1 from fun b hb' => by simp only [List.mem_singleton] at hb'; omega)
  have HN14 := Lib.hid (show (w8.setCell ⟨w.heap.size, 7, none⟩ (.slice A4 m4 c4)).heap[w.heap.size]? = some (.cells #[.string nm, .int .i64 n, .slice A1 m1 c1, .int .i64 cl, .int .i64 lb, .slice A2 m2 c2, .slice A3 m3 c3, .slice A4 m4 c4] 53 (0, 0)) from heap_set_same HX0.out _)
  clear x08
  have hz15 := hk14.size
  have hk14x := hk14.below (fun b hb' => by have := HG14.out b hb'; omega) (show w.heap.size ≤ w8.heap.size by omega)
  replace hB := hB.trans hk14x
  clear z08
  replace HZ0 := Lib.hid ((hk14.block (w.heap.size + 1) (by omega) (fun hm => by have := HG14.out _ hm; omega)).trans HZ0.out)
  replace Ra := Lib.hid (Ra.out.below hk14x)
  replace Rf := Lib.hid (Rf.out.below hk14x)
  replace Rs := Lib.hid (Rs.out.below hk14x)
  replace Rr := Lib.hid (Rr.out.below hk14x)
  replace O1 := Lib.hid (O1.out.keep fun b hb' => hk14.block b (by have := G1.out b hb'; omega) (fun hm => by have := G1.out b hb'; have := HG14.out _ hm; omega))
  replace O2 := Lib.hid (O2.out.keep fun b hb' => hk14.block b (by have := G2.out b hb'; omega) (fun hm => by have := G2.out b hb'; have := HG14.out _ hm; omega))
  replace O3 := Lib.hid (O3.out.keep fun b hb' => hk14.block b (by have := G3.out b hb'; omega) (fun hm => by have := G3.out b hb'; have := HG14.out _ hm; omega))
  replace O4 := Lib.hid (O4.out.keep fun b hb' => hk14.block b (by have := G4.out b hb'; omega) (fun hm => by have := G4.out b hb'; have := HG14.out _ hm; omega))
  replace HX0 := HN14; clear HN14 HG14
  generalize w8.setCell ⟨w.heap.size, 7, none⟩ (.slice A4 m4 c4) = w9 at *
  obtain ⟨z09_0, z09_1, z09_2, z09_3, z09_4, z09_5, z09_6, z09_7, z09_f⟩ := cells8 HZ0
  have HO := Lib.hid (show OwnItem w9 ⟨nm, n, xss, cl, lb, f, s, rs⟩ (.slice A1 m1 c1) (.slice A2 m2 c2) (.slice A3 m3 c3) (.slice A4 m4 c4) (b1 ++ (b2 ++ b3 ++ b4)) from ⟨b1, b2, b3, b4, O1.out, O2.out, O3.out, O4.out, rfl⟩)
  have HR := Lib.hid (show ∀ b ∈ b1 ++ (b2 ++ b3 ++ b4), w.heap.size + 1 < b ∧ b < w9.heap.size from fun b hb => by
   simp only [List.mem_append] at hb
   rcases hb with hb | (hb | hb) | hb
   ·
    have := G1.out b hb; omega
   ·
    have := G2.out b hb; omega
   ·
    have := G3.out b hb; omega
   ·
    have := G4.out b hb; omega)
  have HN := Lib.hid (show (b1 ++ (b2 ++ b3 ++ b4)).Nodup from by
   have e1 := G1.out; have e2 := G2.out; have e3 := G3.out; have e4 := G4.out
   refine nodup_app n1 (nodup_app (nodup_app n2 n3 fun a ha b hb' e => ?_) n4 fun a ha b hb' e => ?_) fun a ha b hb' e => ?_
   ·
    have := e2 a ha; have := e3 b hb'; omega
   ·
    have := e4 b hb'
    rcases List.mem_append.1 ha with h | h
    ·
     have := e2 a h; omega
    ·
     have := e3 a h; omega
   ·
    have := e1 a ha
    simp only [List.mem_append] at hb'
    rcases hb' with (h | h) | h
    ·
     have := e2 b h; omega
    ·
     have := e3 b h; omega
    ·
     have := e4 b h; omega)
  refine bodyPost_ret (v := .agg #[.string nm, .int .i64 n, .slice A1 m1 c1, .int .i64 cl, .int .i64 lb, .slice A2 m2 c2, .slice A3 m3 c3, .slice A4 m4 c4]) (by simp [results, Tryz.results102, go_sem, z09_0, z09_1, z09_2, z09_3, z09_4, z09_5, z09_6, z09_7, z09_f]) rfl ?_
  exact it_end (x := ⟨nm, n, xss, cl, lb, f, s, rs⟩) HO.out HN.out (fun b hb => by have := HR.out b hb; omega) hB (by omega) (by omega)
end
section
open Go.RowKit
set_option linter.all false
theorem Box8.grown {w w' : World} {r : Option Nat} {b : Nat} {v0 v1 v2 v3 v4 v5 v6 v7 : Value} (h : Box8 w b v0 v1 v2 v3 v4 v5 v6 v7) (hg : w.grownBy w' r) (hb : b < w.heap.size) (hr : r ≠ some b) : Box8 w' b v0 v1 v2 v3 v4 v5 v6 v7 := by
  have e := fun (o : Nat) => World.cell?_of_block (w := w) (w' := w') (a := ⟨b, o, none⟩) (hg.block b hb (fun e => hr e.symm))
  exact ⟨(e 0).trans h.c0, (e 1).trans h.c1, (e 2).trans h.c2, (e 3).trans h.c3, (e 4).trans h.c4, (e 5).trans h.c5, (e 6).trans h.c6, (e 7).trans h.c7⟩
theorem ItemsSt.own_ne {base : Nat} {w : World} {v : Value} {xs : List Item} (h : ItemsSt base w v xs) {b : Nat} (hb : w.heap.size ≤ b) : v.ownBlock ≠ some b := fun e => by
  obtain ⟨vs, bs, h1, _⟩ := h
  have := (h1.lt b e).2
  omega
theorem ItemsSt.reads {base : Nat} {w : World} {v : Value} {xs : List Item} (h : ItemsSt base w v xs) : ItemsR w w.heap.size v xs := by
  obtain ⟨bs, ho, _, hr⟩ := h.fin
  exact ho.reads fun b hb => (hr b hb).2
def ItsPost (xs : List Item) (w : World) (e : Ending) (w' : World) : Prop := ∃ v, e = .returned v ∧ ItemsSt w.heap.size w' v xs ∧ Below w.heap.size w w'
theorem ItemsSt.lower {base base' : Nat} {w : World} {v : Value} {xs : List Item} (h : ItemsSt base w v xs) (hb : base' ≤ base) : ItemsSt base' w v xs := by
  obtain ⟨vs, bs, h1, h2, h3, h4⟩ := h
  refine ⟨vs, bs, ⟨h1.1, ?_⟩, h2, h3, fun b hb' => ⟨by have := h4 b hb'; omega, (h4 b hb').2⟩⟩
  rcases h1.2 with h | ⟨g, cap, cur, e, k1, k2⟩
  · exact .inl h
  · exact .inr ⟨g, cap, cur, e, by omega, k2⟩
def FdRel (nm : ByteArray) (xs : List Item) (w : World) (i : Value) (wr : World) : Prop :=
  ∃ k : Nat, k ≤ xs.length ∧ i = .int .i64 k ∧ (∀ j y, j < k → xs[j]? = some y → y.nm.toList ≠ nm.toList) ∧ Below w.heap.size w wr
set_option maxHeartbeats 1000000 in
theorem spec_srFind (v : Value) (xs : List Item) (nm : ByteArray) (w : World) (h : ItemsR w w.heap.size v xs) (hs : Sd xs) (hl : xs.length ≤ 1000000) :
  Calls Tryz.prog 56 #[v, .string nm] w fun e w' => e = .returned (.int .i64 (fN nm xs)) ∧ Below w.heap.size w w' := by
 obtain ⟨A, c, rfl, h1, h2, h3⟩ := h
 have SD := Lib.hid hs; clear hs
 unfold maxLen at h2
 go_enter Tryz.func56, Tryz.ntmps56
 go_wp2
 go_loopw [9] (fun i wr => FdRel nm xs w i wr) (fun i _ => xs.length - (intOf i).toNat)
 case atStart => exact ⟨0, Nat.zero_le _, rfl, (fun j y hj => by omega), Below.refl _ _⟩
 case round =>
  obtain ⟨k, hk, rfl, hto, hbl⟩ := hrel
  have HT := Lib.hid hto; clear hto
  by_cases hlt : k < xs.length
  ·
   obtain ⟨y, hy⟩ : ∃ y, xs[k]? = some y := ⟨xs[k], List.getElem?_eq_getElem hlt⟩
   obtain ⟨b, o, rfl, hb, hc⟩ := h3 (by omega)
   obtain ⟨va, vf, vs, vr, hcl, hr⟩ := hc k y hy
   obtain ⟨Aa, ma, ca, rfl⟩ := hr.a.isSlice'
   obtain ⟨Af, mf, cf, rfl⟩ := hr.f.isSlice
   obtain ⟨As, ms, cs, rfl⟩ := hr.s.isSlice
   obtain ⟨Ar, mr, cr, rfl⟩ := hr.r.isSlice'
   have q0 := (hbl.cell (p := ⟨b, o + k * 8, none⟩) hb).trans (hcl 0 _ rfl)
   have q1 := (hbl.cell (p := ⟨b, o + k * 8 + 1, none⟩) hb).trans (hcl 1 _ rfl)
   have q2 := (hbl.cell (p := ⟨b, o + k * 8 + 2, none⟩) hb).trans (hcl 2 _ rfl)
   have q3 := (hbl.cell (p := ⟨b, o + k * 8 + 3, none⟩) hb).trans (hcl 3 _ rfl)
   have q4 := (hbl.cell (p := ⟨b, o + k * 8 + 4, none⟩) hb).trans (hcl 4 _ rfl)
   have q5 := (hbl.cell (p := ⟨b, o + k * 8 + 5, none⟩) hb).trans (hcl 5 _ rfl)
   have q6 := (hbl.cell (p := ⟨b, o + k * 8 + 6, none⟩) hb).trans (hcl 6 _ rfl)
   have q7 := (hbl.cell (p := ⟨b, o + k * 8 + 7, none⟩) hb).trans (hcl 7 _ rfl)
   have RY := Lib.hid ((hr.below hbl).more hbl.size)
   have RY0 := Lib.hid hr; clear hr hcl hc h3
   have HY := Lib.hid hy; clear hy
   have hb0 := bl_alloc (Below.refl wr.heap.size wr) (.cells #[.string y.nm, .int .i64 y.n, .slice Aa ma ca, .int .i64 y.cl, .int .i64 y.lb, .slice Af mf cf, .slice As ms cs, .slice Ar mr cr] 53)
   have hbl2 := bl_trans hbl hb0
   clear hb0
   by_cases e : y.nm.toList = nm.toList
   ·
    have HF := Lib.hid (show fN nm xs = (k : Int) from by
     obtain ⟨e1, e2⟩ := has_at SD.out HY.out e
     unfold fN; rw [e1, e2]; rfl)
    have k1 : (y.nm.toList == nm.toList) = true := by rw [beq_iff_eq]; exact e
    clear e
    go_wp2_with fail
    go_ret
    exact ⟨ret_int HF.out.symm, hbl2⟩
   ·
    have HX := Lib.hid (show ∀ j z, j < k + 1 → xs[j]? = some z → z.nm.toList ≠ nm.toList from fun j z hj hz => by
     rcases Nat.lt_or_ge j k with h | h
     ·
      exact HT.out j z h hz
     ·
      obtain rfl : j = k := by omega
      obtain rfl : y = z := Option.some.inj (HY.out.symm.trans hz)
      exact e)
    have k1 : (y.nm.toList == nm.toList) = false := beq_eq_false_iff_ne.2 e
    clear e
    go_wp2_with fail
    go_roundw
    case rel => exact ⟨k + 1, by omega, by go_num, HX.out, hbl2⟩
    case measure => simp [intOf]; omega
  ·
   have HF := Lib.hid (show fN nm xs = -1 from by
    have e1 := has_no (nm := nm) (xs := xs) fun y hy => by
     obtain ⟨j, hj⟩ := List.mem_iff_getElem?.1 hy
     exact HT.out j y (by have := (List.getElem?_eq_some_iff.1 hj).1; omega) hj
    unfold fN; rw [e1]; rfl)
   go_wp2_with fail
   go_ret
   exact ⟨ret_int HF.out.symm, hbl⟩
def WoRel (xs : List Item) (kk : Int) (w : World) (v i : Value) (wr : World) : Prop :=
  ∃ k : Nat, k ≤ xs.length ∧ i = .int .i64 k ∧ ItemsSt w.heap.size wr v (delI (xs.take k) kk) ∧ Below w.heap.size w wr
theorem delI_le (xs : List Item) (kk : Int) : (delI xs kk).length ≤ xs.length := by
  unfold delI
  split
  · exact List.length_eraseIdx_le _ _
  · exact Nat.le_refl _
set_option maxHeartbeats 1000000 in
theorem spec_srWithout (v : Value) (xs : List Item) (kk : Int) (w : World) (h : ItemsR w w.heap.size v xs) (hok : ∀ x ∈ xs, szItem x ≤ 2000000) (hl : xs.length ≤ 1000000) :
  Calls Tryz.prog 55 #[v, .int .i64 kk] w (ItsPost (delI xs kk) w) := by
 obtain ⟨A, c, rfl, h1, h2, h3⟩ := h
 have HOK := Lib.hid hok; clear hok
 unfold maxLen at h2
 go_enter Tryz.func55, Tryz.ntmps55
 go_wp2
 go_loopw [5, 10] (fun v i wr => WoRel xs kk w v i wr) (fun _ i _ => xs.length - (intOf i).toNat)
 case atStart => exact ⟨0, Nat.zero_le _, rfl, by rw [List.take_zero]; unfold delI; split <;> exact ItemsSt.nil _ _, Below.refl _ _⟩
 case round =>
  obtain ⟨k, hk, rfl, hst, hbl⟩ := hrel
  have HS := Lib.hid hst; clear hst
  obtain ⟨Av, mv, cv, rfl⟩ := HS.out.isSlice
  by_cases hlt : k < xs.length
  ·
   obtain ⟨y, hy⟩ : ∃ y, xs[k]? = some y := ⟨xs[k], List.getElem?_eq_getElem hlt⟩
   obtain ⟨b, o, rfl, hb, hc⟩ := h3 (by omega)
   obtain ⟨va, vf, vs, vr, hcl, hr⟩ := hc k y hy
   obtain ⟨Aa, ma, ca, rfl⟩ := hr.a.isSlice'
   obtain ⟨Af, mf, cf, rfl⟩ := hr.f.isSlice
   obtain ⟨As, ms, cs, rfl⟩ := hr.s.isSlice
   obtain ⟨Ar, mr, cr, rfl⟩ := hr.r.isSlice'
   have q0 := (hbl.cell (p := ⟨b, o + k * 8, none⟩) hb).trans (hcl 0 _ rfl)
   have q1 := (hbl.cell (p := ⟨b, o + k * 8 + 1, none⟩) hb).trans (hcl 1 _ rfl)
   have q2 := (hbl.cell (p := ⟨b, o + k * 8 + 2, none⟩) hb).trans (hcl 2 _ rfl)
   have q3 := (hbl.cell (p := ⟨b, o + k * 8 + 3, none⟩) hb).trans (hcl 3 _ rfl)
   have q4 := (hbl.cell (p := ⟨b, o + k * 8 + 4, none⟩) hb).trans (hcl 4 _ rfl)
   have q5 := (hbl.cell (p := ⟨b, o + k * 8 + 5, none⟩) hb).trans (hcl 5 _ rfl)
   have q6 := (hbl.cell (p := ⟨b, o + k * 8 + 6, none⟩) hb).trans (hcl 6 _ rfl)
   have q7 := (hbl.cell (p := ⟨b, o + k * 8 + 7, none⟩) hb).trans (hcl 7 _ rfl)
   have RY := Lib.hid ((hr.below hbl).more hbl.size)
   have RY0 := Lib.hid hr; clear hr hcl hc h3
   have HY := Lib.hid hy; clear hy
   have HSTEP := Lib.hid (delI_step HY.out kk)
   have hzy := HOK.out y (List.mem_of_getElem? HY.out)
   have hln : (delI (xs.take k) kk).length ≤ k := Nat.le_trans (delI_le _ _) (by rw [List.length_take]; omega)
   obtain ⟨ww, hww⟩ : ∃ x, x = wr.alloc (.cells #[.string y.nm, .int .i64 y.n, .slice Aa ma ca, .int .i64 y.cl, .int .i64 y.lb, .slice Af mf cf, .slice As ms cs, .slice Ar mr cr] 53) := ⟨_, rfl⟩
   have hb0 : Below wr.heap.size wr ww := by rw [hww]; exact bl_alloc (Below.refl _ _) _
   have HB := Lib.hid (show Box8 ww wr.heap.size _ _ _ _ _ _ _ _ by rw [hww]; exact Box8.new wr 53 (.string y.nm) (.int .i64 y.n) (.slice Aa ma ca) (.int .i64 y.cl) (.int .i64 y.lb) (.slice Af mf cf) (.slice As ms cs) (.slice Ar mr cr))
   have HW := Lib.hid hww; clear hww
   have hz0 := hb0.size
   by_cases e : (k : Int) = kk
   ·
    have HE := Lib.hid (show delI (xs.take (k + 1)) kk = delI (xs.take k) kk by rw [HSTEP.out, if_pos e])
    have k1 : ((k : Int) != kk) = false := by rw [e]; simp
    clear e
    go_wp2_with fail
    rw [← HW.out]
    go_roundw
    case rel => exact ⟨k + 1, by omega, by go_num, by rw [HE.out]; exact HS.out.below hb0, bl_trans hbl hb0⟩
    case measure => simp [intOf]; omega
   ·
    have HE := Lib.hid (show delI (xs.take (k + 1)) kk = delI (xs.take k) kk ++ [y] by rw [HSTEP.out, if_neg e])
    have k1 : ((k : Int) != kk) = true := by simpa using e
    clear e
    go_wp2_with fail
    rw [← HW.out]
    have J := Lib.hid (show Calls Tryz.prog 57 #[itemV y (.slice Aa ma ca) (.slice Af mf cf) (.slice As ms cs) (.slice Ar mr cr)] ww (ItPost y ww) from spec_srOwn y _ _ _ _ ww (RY.out.up hb0) hzy)
    refine J.out.mono ?_
    rintro e w2 ⟨va2, vf2, vs2, vr2, b1, rfl, ho, hnd, hr, hb2⟩
    obtain ⟨ba, bf, bz, br, oa, of, oz, or, hbs⟩ := id ho
    obtain ⟨A1, m1, c1, rfl⟩ := oa.isSlice
    obtain ⟨A2, m2, c2, rfl⟩ := of.1.isSlice
    obtain ⟨A3, m3, c3, rfl⟩ := oz.1.isSlice
    obtain ⟨A4, m4, c4, rfl⟩ := or.isSlice
    clear oa of oz or hbs J
    have hb02 := hb0.trans (hb2.mono hz0)
    obtain ⟨vs, hown1, hstep⟩ := HS.out.step hbl.size hb02 ho hnd (fun b hb => by have := hr b hb; omega)
    have HST := Lib.hid hstep; clear hstep ho hnd hr
    have hw2 : w.heap.size ≤ w2.heap.size := by have := hbl.size; have := hb2.size; omega
    have HONE := Lib.hid (one8 y A1 m1 c1 A2 m2 c2 A3 m3 c3 A4 m4 c4)
    generalize hD : (delI (xs.take k) kk) = D at *
    have HD := Lib.hid hD; clear hD
    go_wp2_with ((at_builtin; refine wpList_appendK w2 rfl (.tmp 18) (.tmp 21) 33 rfl w.heap.size 53 _ 8 136 Tryz.underlying33 itemInfo rfl (by decide) _ _ _ rfl (itemL y (.slice A1 m1 c1) (.slice A2 m2 c2) (.slice A3 m3 c3) (.slice A4 m4 c4)) rfl HONE.out rfl hown1 (by unfold maxLen; omega) (by omega) hw2 ?_; intro v' w' hown' hbl' hgr' hlt' hob'))
    go_roundw
    case rel => exact ⟨k + 1, by omega, by go_num, by rw [HE.out]; exact HST.out _ _ hown' hgr' hob', (hbl.trans (hb02.mono hbl.size)).trans hbl'⟩
    case measure => simp [intOf]; omega
  ·
   have e1 : xs.take k = xs := List.take_of_length_le (by omega)
   have hst := HS.out
   rw [e1] at hst
   have HF := Lib.hid hst; clear hst e1
   go_wp2_with fail
   go_ret
   exact ⟨_, rfl, HF.out, hbl⟩
def withL (x : Item) (l : List Item) : List Item := if l.any (fun z => ltS x.nm z.nm) = true then insI x l else l
def gtB (x : Item) (l : List Item) : Bool := l.any (fun z => ltS x.nm z.nm)
theorem gtB_snoc (x y : Item) (l : List Item) : gtB x (l ++ [y]) = (gtB x l || ltS x.nm y.nm) := by unfold gtB; rw [List.any_append]; simp
theorem with_t {x y : Item} {l : List Item} (h : gtB x l = true) : withL x (l ++ [y]) = withL x l ++ [y] := by
  have h2 : gtB x (l ++ [y]) = true := by rw [gtB_snoc, h]; rfl
  unfold gtB at h h2
  unfold withL
  rw [h, h2, if_pos rfl, if_pos rfl, ins_snoc, if_pos h]
theorem with_g {x y : Item} {l : List Item} (h : gtB x l = false) (hy : ltS x.nm y.nm = true) : withL x (l ++ [y]) = withL x l ++ [x] ++ [y] := by
  have h2 : gtB x (l ++ [y]) = true := by rw [gtB_snoc, hy, Bool.or_true]
  unfold gtB at h h2
  unfold withL
  rw [h, h2, if_pos rfl, if_neg (by simp), ins_snoc, if_neg (by simp [h]), if_pos hy]
  simp
theorem with_n {x y : Item} {l : List Item} (h : gtB x l = false) (hy : ltS x.nm y.nm = false) : withL x (l ++ [y]) = withL x l ++ [y] := by
  have h2 : gtB x (l ++ [y]) = false := by rw [gtB_snoc, h, hy]; rfl
  unfold gtB at h h2
  unfold withL
  rw [h, h2, if_neg (by simp), if_neg (by simp)]
theorem with_end {x : Item} {l : List Item} : insI x l = if gtB x l = true then withL x l else withL x l ++ [x] := by
  cases h : gtB x l with
  | true => unfold gtB at h; unfold withL; rw [h, if_pos rfl, if_pos rfl]
  | false => unfold gtB at h; rw [ins_none x l h]; unfold withL; rw [h]; simp
theorem withL_len (x : Item) (l : List Item) : (withL x l).length ≤ l.length + 1 := by
  unfold withL
  split
  · rw [ins_len]; exact Nat.le_refl _
  · omega
def WiRel (x : Item) (xs : List Item) (w w0 : World) (v p i : Value) (wr : World) : Prop :=
  ∃ (k : Nat) (pb : Bool), k ≤ xs.length ∧ i = .int .i64 k ∧ pb = gtB x (xs.take k) ∧ p = .bool pb ∧ ItemsSt w0.heap.size wr v (withL x (xs.take k)) ∧ Below w0.heap.size w0 wr
set_option maxHeartbeats 1000000 in
theorem spec_srWith (v : Value) (xs : List Item) (x : Item) (vax vfx vsx vrx : Value) (w : World) (h : ItemsR w w.heap.size v xs) (hx : ItemR w w.heap.size x vax vfx vsx vrx) (hok : ∀ x ∈ xs, szItem x ≤ 2000000) (hzx : szItem x ≤ 2000000) (hl : xs.length ≤ 1000000) :
  Calls Tryz.prog 54 #[v, itemV x vax vfx vsx vrx] w (ItsPost (insI x xs) w) := by
 obtain ⟨A, c, rfl, h1, h2, h3⟩ := h
 have HOK := Lib.hid hok; clear hok
 obtain ⟨Aax, max, cax, rfl⟩ := hx.a.isSlice'
 obtain ⟨Afx, mfx, cfx, rfl⟩ := hx.f.isSlice
 obtain ⟨Asx, msx, csx, rfl⟩ := hx.s.isSlice
 obtain ⟨Arx, mrx, crx, rfl⟩ := hx.r.isSlice'
 unfold maxLen at h2
 obtain ⟨w0, hw0⟩ : ∃ z, z = w.alloc (.cells #[.string x.nm, .int .i64 x.n, .slice Aax max cax, .int .i64 x.cl, .int .i64 x.lb, .slice Afx mfx cfx, .slice Asx msx csx, .slice Arx mrx crx] 53) := ⟨_, rfl⟩
 have hbw : Below w.heap.size w w0 := by rw [hw0]; exact bl_alloc (Below.refl _ _) _
 have HBX := Lib.hid (show Box8 w0 w.heap.size _ _ _ _ _ _ _ _ by rw [hw0]; exact Box8.new w 53 (.string x.nm) (.int .i64 x.n) (.slice Aax max cax) (.int .i64 x.cl) (.int .i64 x.lb) (.slice Afx mfx cfx) (.slice Asx msx csx) (.slice Arx mrx crx))
 have hlt0 : w.heap.size < w0.heap.size := by rw [hw0]; simp
 have RX := Lib.hid (hx.below hbw); clear hx
 have HW0 := Lib.hid hw0; clear hw0
 go_enter Tryz.func54, Tryz.ntmps54
 go_wp2
 rw [← HW0.out]
 go_loopw [5, 6, 11] (fun v p i wr => WiRel x xs w w0 v p i wr) (fun _ _ i _ => xs.length - (intOf i).toNat)
 case atStart => exact ⟨0, false, Nat.zero_le _, rfl, rfl, rfl, by rw [List.take_zero]; exact ItemsSt.nil _ _, Below.refl _ _⟩
 case round =>
  obtain ⟨k, pb, hk, rfl, hpb, rfl, hst, hbl0⟩ := hrel
  have HP := Lib.hid hpb; clear hpb
  have hbl := bl_trans hbw hbl0
  have hsz0 := hbl0.size
  have HBXr := Lib.hid (HBX.out.below hbl0 hlt0)
  have RXr := Lib.hid ((RX.out.below (hbl0.mono hbw.size)).more hbl.size)
  have HS := Lib.hid hst; clear hst
  obtain ⟨Av, mv, cv, rfl⟩ := HS.out.isSlice
  have hlw : w.heap.size < wr.heap.size := by omega
  obtain ⟨x0, x1, x2, x3, x4, x5, x6, x7⟩ := HBXr.out
  by_cases hlt : k < xs.length
  ·
   obtain ⟨y, hy⟩ : ∃ y, xs[k]? = some y := ⟨xs[k], List.getElem?_eq_getElem hlt⟩
   obtain ⟨b, o, rfl, hb, hc⟩ := h3 (by omega)
   obtain ⟨va, vf, vs, vr, hcl, hr⟩ := hc k y hy
   obtain ⟨Aa, ma, ca, rfl⟩ := hr.a.isSlice'
   obtain ⟨Af, mf, cf, rfl⟩ := hr.f.isSlice
   obtain ⟨As, ms, cs, rfl⟩ := hr.s.isSlice
   obtain ⟨Ar, mr, cr, rfl⟩ := hr.r.isSlice'
   have q0 := (hbl.cell (p := ⟨b, o + k * 8, none⟩) hb).trans (hcl 0 _ rfl)
   have q1 := (hbl.cell (p := ⟨b, o + k * 8 + 1, none⟩) hb).trans (hcl 1 _ rfl)
   have q2 := (hbl.cell (p := ⟨b, o + k * 8 + 2, none⟩) hb).trans (hcl 2 _ rfl)
   have q3 := (hbl.cell (p := ⟨b, o + k * 8 + 3, none⟩) hb).trans (hcl 3 _ rfl)
   have q4 := (hbl.cell (p := ⟨b, o + k * 8 + 4, none⟩) hb).trans (hcl 4 _ rfl)
   have q5 := (hbl.cell (p := ⟨b, o + k * 8 + 5, none⟩) hb).trans (hcl 5 _ rfl)
   have q6 := (hbl.cell (p := ⟨b, o + k * 8 + 6, none⟩) hb).trans (hcl 6 _ rfl)
   have q7 := (hbl.cell (p := ⟨b, o + k * 8 + 7, none⟩) hb).trans (hcl 7 _ rfl)
   have RY := Lib.hid ((hr.below hbl).more hbl.size)
   have RY0 := Lib.hid hr; clear hr hcl hc h3
   have HY := Lib.hid hy; clear hy
   have HT := Lib.hid (take_one HY.out)
   have hzy := HOK.out y (List.mem_of_getElem? HY.out)
   obtain ⟨D, hD⟩ : ∃ D, D = withL x (xs.take k) := ⟨_, rfl⟩
   have hln : D.length ≤ k + 1 := by rw [hD]; exact Nat.le_trans (withL_len _ _) (by rw [List.length_take]; omega)
   rw [← hD] at HS
   have HD := Lib.hid hD; clear hD
   obtain ⟨ww, hww⟩ : ∃ x, x = wr.alloc (.cells #[.string y.nm, .int .i64 y.n, .slice Aa ma ca, .int .i64 y.cl, .int .i64 y.lb, .slice Af mf cf, .slice As ms cs, .slice Ar mr cr] 53) := ⟨_, rfl⟩
   have hb0 : Below wr.heap.size wr ww := by rw [hww]; exact bl_alloc (Below.refl _ _) _
   have hlt1 : wr.heap.size < ww.heap.size := by rw [hww]; simp
   have HB := Lib.hid (show Box8 ww wr.heap.size _ _ _ _ _ _ _ _ by rw [hww]; exact Box8.new wr 53 (.string y.nm) (.int .i64 y.n) (.slice Aa ma ca) (.int .i64 y.cl) (.int .i64 y.lb) (.slice Af mf cf) (.slice As ms cs) (.slice Ar mr cr))
   have HW := Lib.hid hww; clear hww
   have hz0 := hb0.size
   have hwz := hbl.size
   cases pb with
   | true =>
    have HE := Lib.hid (show withL x (xs.take (k + 1)) = D ++ [y] by rw [HT.out, with_t HP.out.symm, HD.out])
    have HG := Lib.hid (show true = gtB x (xs.take (k + 1)) by rw [HT.out, gtB_snoc, ← HP.out]; rfl)
    clear x0 x1 x2 x3 x4 x5 x6 x7
    go_wp2_with fail
    rw [← HW.out]
    refine (show Calls Tryz.prog 57 #[itemV y (.slice Aa ma ca) (.slice Af mf cf) (.slice As ms cs) (.slice Ar mr cr)] ww (ItPost y ww) from spec_srOwn y _ _ _ _ ww (RY.out.up hb0) hzy).mono ?_
    rintro e w2 ⟨va2, vf2, vs2, vr2, b1, rfl, ho, hnd1, hr1, hb2⟩
    obtain ⟨ba, bf, bz, br, oa, of, oz, or, hbs⟩ := id ho
    obtain ⟨Aa1, ma1, ca1, rfl⟩ := oa.isSlice
    obtain ⟨Af1, mf1, cf1, rfl⟩ := of.1.isSlice
    obtain ⟨As1, ms1, cs1, rfl⟩ := oz.1.isSlice
    obtain ⟨Ar1, mr1, cr1, rfl⟩ := or.isSlice
    clear oa of oz or hbs
    have O1 := Lib.hid ho; clear ho
    have hb02 := hb0.trans (hb2.mono hz0)
    have hw2 : w0.heap.size ≤ w2.heap.size := by have := hb2.size; omega
    obtain ⟨vs1, hown1, hstep⟩ := HS.out.step hbl0.size hb02 O1.out hnd1 (fun b hb => by have := hr1 b hb; omega)
    have HST1 := Lib.hid hstep; clear hstep hnd1 hr1 O1
    have HONE1 := Lib.hid (one8 y Aa1 ma1 ca1 Af1 mf1 cf1 As1 ms1 cs1 Ar1 mr1 cr1)
    go_wp2_with ((at_builtin; refine wpList_appendK w2 rfl (.tmp 29) (.tmp 32) 33 rfl w0.heap.size 53 _ 8 136 Tryz.underlying33 itemInfo rfl (by decide) _ _ _ rfl (itemL y (.slice Aa1 ma1 ca1) (.slice Af1 mf1 cf1) (.slice As1 ms1 cs1) (.slice Ar1 mr1 cr1)) rfl HONE1.out rfl hown1 (by unfold maxLen; omega) (by omega) hw2 ?_; intro v' w' hown1' hbl1' hgr1' hlt1' hob1'))
    go_roundw
    case rel => exact ⟨k + 1, true, by omega, by go_num, HG.out, rfl, by rw [HE.out]; exact HST1.out _ _ hown1' hgr1' hob1', hbl0.trans ((hb02.mono hsz0).trans hbl1')⟩
    case measure => simp [intOf]; omega
   | false =>
    by_cases q : x.nm.toList < y.nm.toList
    ·
     have hlx : ltS x.nm y.nm = true := ltS_iff.2 q
     have HE := Lib.hid (show withL x (xs.take (k + 1)) = D ++ [x] ++ [y] by rw [HT.out, with_g HP.out.symm hlx, HD.out])
     have HG := Lib.hid (show true = gtB x (xs.take (k + 1)) by rw [HT.out, gtB_snoc, ← HP.out, hlx]; rfl)
     have k1 : Op.bytesLess y.nm.toList x.nm.toList = false := ltS_ff.2 fun h => lt_ir _ (lt_tr q h)
     have k2 : (y.nm.toList == x.nm.toList) = false := beq_eq_false_iff_ne.2 fun h => lt_ir _ (h ▸ q)
     clear q hlx
     go_wp2_with fail
     rw [← HW.out]
     refine (show Calls Tryz.prog 57 #[itemV x (.slice Aax max cax) (.slice Afx mfx cfx) (.slice Asx msx csx) (.slice Arx mrx crx)] ww (ItPost x ww) from spec_srOwn x _ _ _ _ ww (RXr.out.up hb0) hzx).mono ?_
     rintro e w2 ⟨va2, vf2, vs2, vr2, b1, rfl, ho, hnd1, hr1, hb2⟩
     obtain ⟨ba, bf, bz, br, oa, of, oz, or, hbs⟩ := id ho
     obtain ⟨Aa1, ma1, ca1, rfl⟩ := oa.isSlice
     obtain ⟨Af1, mf1, cf1, rfl⟩ := of.1.isSlice
     obtain ⟨As1, ms1, cs1, rfl⟩ := oz.1.isSlice
     obtain ⟨Ar1, mr1, cr1, rfl⟩ := or.isSlice
     clear oa of oz or hbs
     have O1 := Lib.hid ho; clear ho
     have hb02 := hb0.trans (hb2.mono hz0)
     have hw2 : w0.heap.size ≤ w2.heap.size := by have := hb2.size; omega
     have HB2 := Lib.hid (HB.out.below hb2 hlt1)
     have hlt2 : wr.heap.size < w2.heap.size := by have := hb2.size; omega
     clear x0 x1 x2 x3 x4 x5 x6 x7
     obtain ⟨vs1, hown1, hstep⟩ := HS.out.step hbl0.size hb02 O1.out hnd1 (fun b hb => by have := hr1 b hb; omega)
     have HST1 := Lib.hid hstep; clear hstep hnd1 hr1 O1
     have HONE1 := Lib.hid (one8 x Aa1 ma1 ca1 Af1 mf1 cf1 As1 ms1 cs1 Ar1 mr1 cr1)
     go_wp2_with ((at_builtin; refine wpList_appendK w2 rfl (.tmp 24) (.tmp 27) 33 rfl w0.heap.size 53 _ 8 136 Tryz.underlying33 itemInfo rfl (by decide) _ _ _ rfl (itemL x (.slice Aa1 ma1 ca1) (.slice Af1 mf1 cf1) (.slice As1 ms1 cs1) (.slice Ar1 mr1 cr1)) rfl HONE1.out rfl hown1 (by unfold maxLen; omega) (by omega) hw2 ?_; intro v1 w3 hown1' hbl1' hgr1' hlt1' hob1'; obtain ⟨y0, y1, y2, y3, y4, y5, y6, y7⟩ := (HB2.out.grown hgr1' hlt2 (HS.out.own_ne (Nat.le_refl _)))))
     have HS3 := Lib.hid (HST1.out _ _ hown1' hgr1' hob1')
     have hz3 : w2.heap.size < w3.heap.size := hlt1'
     have RY3 := Lib.hid ((RY0.out.below (hbl.trans ((hb02.mono hwz).trans (hbl1'.mono hbw.size)))).more (show w.heap.size ≤ w3.heap.size by omega))
     refine (show Calls Tryz.prog 57 #[itemV y (.slice Aa ma ca) (.slice Af mf cf) (.slice As ms cs) (.slice Ar mr cr)] w3 (ItPost y w3) from spec_srOwn y _ _ _ _ w3 RY3.out hzy).mono ?_
     rintro e w4 ⟨va2, vf2, vs2, vr2, b2, rfl, ho, hnd2, hr2, hb4⟩
     obtain ⟨ba, bf, bz, br, oa, of, oz, or, hbs⟩ := id ho
     obtain ⟨Aa2, ma2, ca2, rfl⟩ := oa.isSlice
     obtain ⟨Af2, mf2, cf2, rfl⟩ := of.1.isSlice
     obtain ⟨As2, ms2, cs2, rfl⟩ := oz.1.isSlice
     obtain ⟨Ar2, mr2, cr2, rfl⟩ := or.isSlice
     clear oa of oz or hbs
     have O2 := Lib.hid ho; clear ho
     obtain ⟨vs2, hown2, hstep⟩ := HS3.out.step (show w0.heap.size ≤ w3.heap.size by omega) hb4 O2.out hnd2 (fun b hb => by have := hr2 b hb; omega)
     have HST2 := Lib.hid hstep; clear hstep hnd2 hr2 O2
     have HONE2 := Lib.hid (one8 y Aa2 ma2 ca2 Af2 mf2 cf2 As2 ms2 cs2 Ar2 mr2 cr2)
     go_wp2_with ((at_builtin; refine wpList_appendK w4 rfl (.tmp 29) (.tmp 32) 33 rfl w0.heap.size 53 _ 8 136 Tryz.underlying33 itemInfo rfl (by decide) _ _ _ rfl (itemL y (.slice Aa2 ma2 ca2) (.slice Af2 mf2 cf2) (.slice As2 ms2 cs2) (.slice Ar2 mr2 cr2)) rfl HONE2.out rfl hown2 (by unfold maxLen; rw [List.length_append, List.length_singleton]; omega) (by rw [List.length_append, List.length_singleton]; omega) (show w0.heap.size ≤ w4.heap.size by have := hb4.size; omega) ?_; intro v2 w5 hown2' hbl2' hgr2' hlt2' hob2'))
     go_roundw
     case rel => exact ⟨k + 1, true, by omega, by go_num, HG.out, rfl, by rw [HE.out]; exact HST2.out _ _ hown2' hgr2' hob2', hbl0.trans ((hb02.mono hsz0).trans (hbl1'.trans ((hb4.mono (show w0.heap.size ≤ w3.heap.size by omega)).trans hbl2')))⟩
     case measure => simp [intOf]; omega
    ·
     have hlx : ltS x.nm y.nm = false := ltS_ff.2 q
     have HE := Lib.hid (show withL x (xs.take (k + 1)) = D ++ [y] by rw [HT.out, with_n HP.out.symm hlx, HD.out])
     have HG := Lib.hid (show false = gtB x (xs.take (k + 1)) by rw [HT.out, gtB_snoc, ← HP.out, hlx]; rfl)
     have k1 : (Op.bytesLess y.nm.toList x.nm.toList || y.nm.toList == x.nm.toList) = true := by
      rcases lt_tri x.nm.toList y.nm.toList with h | h | h
      ·
       exact absurd h q
      ·
       rw [h]; simp
      ·
       have : Op.bytesLess y.nm.toList x.nm.toList = true := ltS_iff.2 h
       rw [this]; rfl
     clear q hlx
     go_wp2_with fail
     rw [← HW.out]
     clear x0 x1 x2 x3 x4 x5 x6 x7
     refine (show Calls Tryz.prog 57 #[itemV y (.slice Aa ma ca) (.slice Af mf cf) (.slice As ms cs) (.slice Ar mr cr)] ww (ItPost y ww) from spec_srOwn y _ _ _ _ ww (RY.out.up hb0) hzy).mono ?_
     rintro e w2 ⟨va2, vf2, vs2, vr2, b1, rfl, ho, hnd1, hr1, hb2⟩
     obtain ⟨ba, bf, bz, br, oa, of, oz, or, hbs⟩ := id ho
     obtain ⟨Aa1, ma1, ca1, rfl⟩ := oa.isSlice
     obtain ⟨Af1, mf1, cf1, rfl⟩ := of.1.isSlice
     obtain ⟨As1, ms1, cs1, rfl⟩ := oz.1.isSlice
     obtain ⟨Ar1, mr1, cr1, rfl⟩ := or.isSlice
     clear oa of oz or hbs
     have O1 := Lib.hid ho; clear ho
     have hb02 := hb0.trans (hb2.mono hz0)
     have hw2 : w0.heap.size ≤ w2.heap.size := by have := hb2.size; omega
     obtain ⟨vs1, hown1, hstep⟩ := HS.out.step hbl0.size hb02 O1.out hnd1 (fun b hb => by have := hr1 b hb; omega)
     have HST1 := Lib.hid hstep; clear hstep hnd1 hr1 O1
     have HONE1 := Lib.hid (one8 y Aa1 ma1 ca1 Af1 mf1 cf1 As1 ms1 cs1 Ar1 mr1 cr1)
     go_wp2_with ((at_builtin; refine wpList_appendK w2 rfl (.tmp 29) (.tmp 32) 33 rfl w0.heap.size 53 _ 8 136 Tryz.underlying33 itemInfo rfl (by decide) _ _ _ rfl (itemL y (.slice Aa1 ma1 ca1) (.slice Af1 mf1 cf1) (.slice As1 ms1 cs1) (.slice Ar1 mr1 cr1)) rfl HONE1.out rfl hown1 (by unfold maxLen; omega) (by omega) hw2 ?_; intro v' w' hown1' hbl1' hgr1' hlt1' hob1'))
     go_roundw
     case rel => exact ⟨k + 1, false, by omega, by go_num, HG.out, rfl, by rw [HE.out]; exact HST1.out _ _ hown1' hgr1' hob1', hbl0.trans ((hb02.mono hsz0).trans hbl1')⟩
     case measure => simp [intOf]; omega
  ·
   have e1 : xs.take k = xs := List.take_of_length_le (by omega)
   have hst := HS.out
   have hp := HP.out
   rw [e1] at hst hp
   have HE := Lib.hid (with_end (x := x) (l := xs))
   have hln := withL_len x xs
   clear e1 HS HP
   cases pb with
   | true =>
    have HF := Lib.hid (show insI x xs = withL x xs by rw [HE.out, ← hp]; rfl)
    have HS := Lib.hid (hst.lower hbw.size); clear hst hp
    clear x0 x1 x2 x3 x4 x5 x6 x7
    go_wp2_with fail
    go_ret
    exact ⟨_, rfl, by rw [HF.out]; exact HS.out, hbl⟩
   | false =>
    have HF := Lib.hid (show insI x xs = withL x xs ++ [x] by rw [HE.out, ← hp]; rfl)
    have HS := Lib.hid hst; clear hst hp
    obtain ⟨D, hD⟩ : ∃ D, D = withL x xs := ⟨_, rfl⟩
    rw [← hD] at HS HF hln
    clear hD
    go_wp2_with fail
    refine (show Calls Tryz.prog 57 #[itemV x (.slice Aax max cax) (.slice Afx mfx cfx) (.slice Asx msx csx) (.slice Arx mrx crx)] wr (ItPost x wr) from spec_srOwn x _ _ _ _ wr RXr.out hzx).mono ?_
    rintro e w2 ⟨va2, vf2, vs2, vr2, b1, rfl, ho, hnd1, hr1, hb2⟩
    obtain ⟨ba, bf, bz, br, oa, of, oz, or, hbs⟩ := id ho
    obtain ⟨Aa1, ma1, ca1, rfl⟩ := oa.isSlice
    obtain ⟨Af1, mf1, cf1, rfl⟩ := of.1.isSlice
    obtain ⟨As1, ms1, cs1, rfl⟩ := oz.1.isSlice
    obtain ⟨Ar1, mr1, cr1, rfl⟩ := or.isSlice
    clear oa of oz or hbs
    have O1 := Lib.hid ho; clear ho
    have hw2 : w0.heap.size ≤ w2.heap.size := by have := hb2.size; omega
    clear x0 x1 x2 x3 x4 x5 x6 x7
    obtain ⟨vs1, hown1, hstep⟩ := HS.out.step hbl0.size hb2 O1.out hnd1 (fun b hb => by have := hr1 b hb; omega)
    have HST1 := Lib.hid hstep; clear hstep hnd1 hr1 O1
    have HONE1 := Lib.hid (one8 x Aa1 ma1 ca1 Af1 mf1 cf1 As1 ms1 cs1 Ar1 mr1 cr1)
    go_wp2_with ((at_builtin; refine wpList_appendK w2 rfl (.tmp 37) (.tmp 40) 33 rfl w0.heap.size 53 _ 8 136 Tryz.underlying33 itemInfo rfl (by decide) _ _ _ rfl (itemL x (.slice Aa1 ma1 ca1) (.slice Af1 mf1 cf1) (.slice As1 ms1 cs1) (.slice Ar1 mr1 cr1)) rfl HONE1.out rfl hown1 (by unfold maxLen; omega) (by omega) hw2 ?_; intro v' w' hown1' hbl1' hgr1' hlt1' hob1'))
    go_ret
    exact ⟨_, rfl, by rw [HF.out]; exact (HST1.out _ _ hown1' hgr1' hob1').lower hbw.size, hbl.trans ((hb2.mono hbl.size).trans (hbl1'.mono hbw.size))⟩
end
end Go.Proofs.YtcfbkickiijjkaaGreatDoor
