/-
  Records of the store's log: the plain law, with no program in sight. No condition.
-/
import Derived.Test.YtcfbkickiijjkaaGreatDoorVSnapAll
namespace Go.Proofs.YtcfbkickiijjkaaGreatDoor
set_option linter.all false
def recX (g : Int) (e : Entry) : List UInt8 := (numT g ++ [32]) ++ entryT e
def recT (g : Int) (e : Entry) : List UInt8 := ((recX g e ++ [32, 35]) ++ numT (sumOf (recX g e))) ++ [10]
def recP (g : Int) (l : List UInt8) : Prop := ∃ e, entryP e ∧ recT g e = l
noncomputable def recB (g : Int) (l : List UInt8) : Bool := propB (recP g l)
def LH (l : List UInt8) (k : Nat) : Prop := k < l.length ∧ (∀ j b, k < j → l[j]? = some b → b ≠ 35) ∧ (k = 0 ∨ l[k]? = some 35)
theorem nd35 : ¬ dgt 35 := by unfold dgt; decide
theorem name_tx {l : List UInt8} (h : nameP l) : ∀ b ∈ l, txB b := fun b hb => by
  obtain ⟨j, hj⟩ := List.mem_iff_getElem?.1 hb
  rcases h.1 j b hj with h | ⟨_, h⟩
  · exact .inr (.inr (.inr (.inr h)))
  · exact .inr (.inr (.inr (.inl h)))
theorem entry_free {e : Entry} (h : entryP e) (c : UInt8) (hc : ¬ txB c) (hc2 : c ≠ 124) : c ∉ entryT e := by
  have h32 : txB 32 := .inl rfl
  have hw : ∀ w : List UInt8, (w.all fun b => b.toNat == 32 || b.toNat == 45 || b.toNat == 46 || (decide (48 ≤ b.toNat) && decide (b.toNat ≤ 57)) || (decide (97 ≤ b.toNat) && decide (b.toNat ≤ 122))) = true → c ∉ w := fun w hw => tx_not (tx_list w hw) c hc
  rcases kd_text h with ⟨h1, h2, h3, h4, h5⟩ | ⟨h1, h2, h3, h4, h5⟩ | ⟨h1, h2, h3, h4, h5⟩
  · rw [h5]; exact put_free h4 c hc hc2
  · rw [h5]
    intro hm
    rcases List.mem_append.1 hm with hm | hm
    · exact hw dropW (by decide) hm
    · rcases List.mem_cons.1 hm with rfl | hm
      · exact hc h32
      · exact tx_not (name_tx h2) c hc hm
  · rw [h5]
    intro hm
    rcases List.mem_append.1 hm with hm | hm
    · exact hw nameW (by decide) hm
    · rcases List.mem_cons.1 hm with rfl | hm
      · exact hc h32
      · rcases List.mem_append.1 hm with hm | hm
        · exact tx_not (name_tx h2) c hc hm
        · rcases List.mem_cons.1 hm with rfl | hm
          · exact hc h32
          · exact tx_not (name_tx h3) c hc hm
theorem LH.of_rec {g : Int} {e : Entry} {k : Nat} (h : LH (recT g e) k) : k = (recX g e).length + 1 := by
  obtain ⟨h1, h2, h3⟩ := h
  have hat : (recT g e)[(recX g e).length + 1]? = some 35 := by
    unfold recT
    rw [List.append_assoc, List.append_assoc, List.getElem?_append_right (by omega)]
    rw [show (recX g e).length + 1 - (recX g e).length = 1 by omega]
    rfl
  rcases Nat.lt_trichotomy k ((recX g e).length + 1) with h | h | h
  · exact absurd rfl (h2 _ _ h hat)
  · exact h
  · rcases h3 with h3 | h3
    · omega
    · exfalso
      unfold recT at h3
      rw [List.append_assoc, List.getElem?_append_right (by rw [List.length_append]; simp; omega)] at h3
      have hm := List.mem_of_getElem? h3
      rcases List.mem_append.1 hm with hm | hm
      · exact num_free nd35 hm
      · simp at hm
theorem rec_text {g : Int} {e : Entry} {k : Nat} (h : LH (recT g e) k) : ((recT g e).take (k - 1)).drop (numT g ++ [32]).length = entryT e ∧ (recT g e).take (numT g ++ [32]).length = numT g ++ [32] ∧ (numT g ++ [32]).length < k := by
  rw [h.of_rec]
  have e1 : recT g e = recX g e ++ ([32, 35] ++ (numT (sumOf (recX g e)) ++ [10])) := by unfold recT; simp
  refine ⟨?_, ?_, by unfold recX; simp only [List.length_append]; omega⟩
  · rw [e1, Nat.add_sub_cancel, List.take_left]
    unfold recX
    rw [List.drop_left]
  · rw [e1]
    unfold recX
    rw [List.append_assoc, List.take_left]
theorem rec_iff {g : Int} {l t : List UInt8} (ht : ∀ e, entryP e → recT g e = l → t = entryT e) : (peB t = true ∧ recT g (peE t) = l) ↔ recP g l := by
  constructor
  · rintro ⟨h1, h2⟩
    obtain ⟨e, he, hte⟩ := (propB_iff.1 h1 : peP t)
    obtain ⟨_, h3⟩ := pe_t he hte
    exact ⟨e, he, by rw [← h3]; exact h2⟩
  · rintro ⟨e, he, hl⟩
    have h1 := ht e he hl
    obtain ⟨h2, h3⟩ := pe_t he h1.symm
    exact ⟨h2, by rw [h3]; exact hl⟩
noncomputable def recE (g : Int) (l : List UInt8) : Entry := @dite Entry (recP g l) (Classical.propDecidable _) (fun h => Classical.choose h) (fun _ => zE)
theorem recT_inj {g : Int} {e e' : Entry} (he : entryP e) (he' : entryP e') (h : recT g e = recT g e') : e = e' := by
  have hk : LH (recT g e) ((recX g e).length + 1) := by
    have e1 : recT g e = (recX g e ++ [32]) ++ (35 :: (numT (sumOf (recX g e)) ++ [10])) := by unfold recT; simp
    refine ⟨by rw [e1, List.length_append, List.length_append]; simp, fun j b hj hb => ?_, .inr ?_⟩
    · rw [e1, List.getElem?_append_right (by rw [List.length_append]; simp; omega), List.length_append, List.length_singleton] at hb
      obtain ⟨i, hi⟩ : ∃ i, j - ((recX g e).length + 1) = i + 1 := ⟨j - ((recX g e).length + 1) - 1, by omega⟩
      rw [hi, List.getElem?_cons_succ] at hb
      rintro rfl
      have hm := List.mem_of_getElem? hb
      rcases List.mem_append.1 hm with hm | hm
      · exact num_free nd35 hm
      · simp at hm
    · rw [e1, List.getElem?_append_right (by rw [List.length_append]; simp), List.length_append]
      simp
  have h1 := (rec_text hk).1
  rw [h] at hk h1
  have h2 := (rec_text hk).1
  rw [h2] at h1
  obtain ⟨_, k1⟩ := pe_t he rfl
  obtain ⟨_, k2⟩ := pe_t he' rfl
  rw [← k1, ← k2, h1]
theorem recE_t {g : Int} {l : List UInt8} {e : Entry} (he : entryP e) (h : recT g e = l) : recB g l = true ∧ recE g l = e := by
  have hp : recP g l := ⟨e, he, h⟩
  refine ⟨propB_t hp, ?_⟩
  unfold recE
  rw [dif_pos hp]
  obtain ⟨k1, k2⟩ := Classical.choose_spec hp
  exact recT_inj k1 he (k2.trans h.symm)
theorem rec_same {g : Int} {l t : List UInt8} (h : peB t = true ∧ recT g (peE t) = l) : recE g l = peE t := by
  obtain ⟨e, he, hte⟩ := (propB_iff.1 h.1 : peP t)
  obtain ⟨_, h3⟩ := pe_t he hte
  rw [h3] at h ⊢
  exact (recE_t he h.2).2
theorem recE_p {g : Int} {l : List UInt8} (h : recB g l = true) : entryP (recE g l) ∧ recT g (recE g l) = l := by
  obtain ⟨e, he, hl⟩ := (propB_iff.1 h : recP g l)
  rw [(recE_t he hl).2]
  exact ⟨he, hl⟩
theorem cut_hash {l r : List UInt8} (h : (35 : UInt8) ∉ l) : Lib.cut (l ++ ([32, 35] ++ r)) [32, 35] = (l, r, true) := by
  rw [← List.append_assoc]
  refine occ_first (by simp) (fun _ _ _ => trivial) (fun j hj => ?_)
  unfold Lib.occAt
  rw [Bool.eq_false_iff]
  intro k
  obtain ⟨t, ht⟩ := List.isPrefixOf_iff_prefix.1 k
  have h1 : (l ++ [32, 35] ++ r)[j + 1]? = some 35 := by
    have := congrArg (fun x => x[1]?) ht
    simp only [List.cons_append, List.getElem?_cons_zero, List.getElem?_cons_succ, List.getElem?_drop] at this
    exact this.symm
  by_cases hl : j + 1 < l.length
  · rw [List.append_assoc, List.getElem?_append_left hl] at h1
    exact h (List.mem_of_getElem? h1)
  · rw [List.append_assoc, List.getElem?_append_right (by omega), show j + 1 - l.length = 0 by omega] at h1
    simp at h1
theorem rec_cuts {g : Int} {e : Entry} (he : entryP e) {l : List UInt8} (h : recT g e = l ++ [10]) : (Lib.cut (Lib.cut l [32, 35]).1 [32]).2.1 = entryT e := by
  have e1 : l = recX g e ++ ([32, 35] ++ numT (sumOf (recX g e))) := by
    unfold recT at h
    have := List.append_inj_left' h rfl
    rw [← this, List.append_assoc]
  have n35 : (35 : UInt8) ∉ recX g e := by
    unfold recX
    intro hm
    rcases List.mem_append.1 hm with hm | hm
    · rcases List.mem_append.1 hm with hm | hm
      · exact num_free nd35 hm
      · simp at hm
    · exact entry_free he 35 nt35 (by decide) hm
  rw [e1, cut_hash n35]
  unfold recX
  rw [List.append_assoc, List.singleton_append, cut_one (num_free nd32)]
end Go.Proofs.YtcfbkickiijjkaaGreatDoor
