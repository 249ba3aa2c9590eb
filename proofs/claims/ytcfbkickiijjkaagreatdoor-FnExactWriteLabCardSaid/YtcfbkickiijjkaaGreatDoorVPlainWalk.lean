/-
  The plain law of ParseWalk: the text that the reference reads and writes again is the text that the program reads strictly. No program's function is called here.
-/
import Derived.Test.YtcfbkickiijjkaaGreatDoorVReadLists
namespace Go.Proofs.YtcfbkickiijjkaaGreatDoor
set_option linter.all false
theorem spl_ne (b : UInt8) : ∀ (l cur : List UInt8), spl b l cur ≠ []
  | [], cur => by simp [spl]
  | c :: l, cur => by
    rw [spl_cons]
    split
    · simp
    · exact spl_ne b l _
theorem joinL_cons (sep x : List UInt8) (l : List (List UInt8)) (h : l ≠ []) : joinL sep (x :: l) = x ++ (sep ++ joinL sep l) := by
  cases l with
  | nil => exact absurd rfl h
  | cons y r => rfl
theorem join_spl (b : UInt8) : ∀ (l cur : List UInt8), joinL [b] (spl b l cur) = cur ++ l
  | [], cur => by simp [spl, joinL]
  | c :: l, cur => by
    rw [spl_cons]
    split
    · rename_i h
      subst h
      rw [joinL_cons _ _ _ (spl_ne _ _ _), join_spl c l []]
      simp
    · rw [join_spl b l (cur ++ [c])]
      simp
def walkW : List UInt8 := [119, 97, 108, 107]
def pwP (l : List UInt8) : Prop := ∃ w1 rest, spl 32 l [] = walkW :: w1 :: rest ∧ canP w1 ∧ (∀ p ∈ rest, numsOk 45 p) ∧ Good (rdI w1) (rest.map (numsR 45))
def spP (l : List UInt8) : Prop := ∃ w0 w1 rest, spl 32 l [] = w0 :: w1 :: rest ∧ Good (rdI w1) (rest.map (numsR 45)) ∧ walkT (rdI w1) (rest.map (numsR 45)) = l
theorem nums_join {p : List UInt8} (h : numsOk 45 p) : numsT [45] (numsR 45 p) = p := by
  unfold numsT numsR
  rw [List.map_map]
  have : (spl 45 p []).map (numT ∘ rdI) = (spl 45 p []).map id := List.map_congr_left fun q hq => numT_rd (h q hq)
  rw [this, List.map_id, join_spl]
  rfl
theorem sp_iff_pw (l : List UInt8) : spP l ↔ pwP l := by
  constructor
  · rintro ⟨w0, w1, rest, h1, h2, h3⟩
    have hn : (1 : Int) ≤ rdI w1 ∧ rdI w1 ≤ 12 := by have := h2.1; unfold inB at this; simpa using this
    have hs := h2.small
    refine ⟨w1, rest, ?_, (rdI_pos (by omega)).1, fun p hp q hq => ?_, h2⟩
    · have e : w0 = walkW := by
        have hl : l = 119 :: 97 :: 108 :: 107 :: 32 :: (numT (rdI w1) ++ arcsT (rest.map (numsR 45))) := by rw [← h3]; unfold walkT; simp
        have : spl 32 l [] = walkW :: spl 32 (numT (rdI w1) ++ arcsT (rest.map (numsR 45))) [] := by
          rw [hl]
          simp [spl_cons, walkW]
        rw [h1] at this
        exact (List.cons.inj this).1
      rw [h1, e]
    · exact (rdI_pos ((hs (numsR 45 p) (List.mem_map.2 ⟨p, hp, rfl⟩)).2 (rdI q) (List.mem_map.2 ⟨q, hq, rfl⟩)).1).1
  · rintro ⟨w1, rest, h1, h2, h3, h4⟩
    refine ⟨walkW, w1, rest, h1, h4, ?_⟩
    have e := join_spl 32 l []
    rw [h1] at e
    rw [← walkT_join, numT_rd h2, List.map_map]
    have : rest.map (numsT [45] ∘ numsR 45) = rest.map id := List.map_congr_left fun p hp => nums_join (h3 p hp)
    rw [this, List.map_id]
    exact e
noncomputable def pwB (l : List UInt8) : Bool := propB (pwP l)
noncomputable def pwN (l : List UInt8) : Int := if pwB l = true then rdI ((spl 32 l []).getD 1 []) else 0
noncomputable def pwX (l : List UInt8) : List (List Int) := if pwB l = true then ((spl 32 l []).drop 2).map (numsR 45) else []
theorem pw_t {l w0 w1 : List UInt8} {rest : List (List UInt8)} (hs : spl 32 l [] = w0 :: w1 :: rest) (h : pwP l) : pwB l = true ∧ pwN l = rdI w1 ∧ pwX l = rest.map (numsR 45) := by
  have e : pwB l = true := propB_t h
  refine ⟨e, ?_, ?_⟩
  · unfold pwN; rw [e, hs]; rfl
  · unfold pwX; rw [e, hs]; rfl
theorem pw_f {l : List UInt8} (h : ¬ pwP l) : pwB l = false ∧ pwN l = 0 ∧ pwX l = [] := by
  have e : pwB l = false := propB_f h
  exact ⟨e, by unfold pwN; rw [e]; rfl, by unfold pwX; rw [e]; rfl⟩
theorem pw_of {l w0 w1 : List UInt8} {rest : List (List UInt8)} (hs : spl 32 l [] = w0 :: w1 :: rest) (h : pwP l) : w0 = walkW ∧ canP w1 ∧ (∀ p ∈ rest, numsOk 45 p) ∧ Good (rdI w1) (rest.map (numsR 45)) := by
  obtain ⟨a, r, h1, h2, h3, h4⟩ := h
  rw [hs] at h1
  simp only [List.cons.injEq] at h1
  obtain ⟨rfl, rfl, rfl⟩ := h1
  exact ⟨rfl, h2, h3, h4⟩
end Go.Proofs.YtcfbkickiijjkaaGreatDoor
