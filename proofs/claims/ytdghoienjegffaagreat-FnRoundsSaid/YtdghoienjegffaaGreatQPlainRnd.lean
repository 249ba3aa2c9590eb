/-
  What the law FnRounds says of rounds: all enabled nodes are a set that may move; a run of so many rounds is as many moves of it; the tree rule ends legal. No program in sight.
-/
import Derived.Test.YtdghoienjegffaaGreatQEnMove
import Derived.Test.YtdghoienjegffaaGreatQNetLegI
namespace Go.Proofs.YtdghoienjegffaaGreat
open Go.RowKit
set_option linter.all false
theorem enS_rise (n : Net) (r : Int) (ss : List Int) : riseB (enS n r ss) 0 ((ss.length : Int) - 1) = true := by
  refine propB_t ⟨fun x hx => ?_, fun k y x hy hx => ?_⟩
  · have := enS_mem hx
    omega
  · have hp : (enS n r ss).Pairwise (· < ·) := by
      unfold enS enN
      rw [List.pairwise_map]
      exact (List.pairwise_lt_range.filter _).imp (fun h => by omega)
    obtain ⟨h1, rfl⟩ := List.getElem?_eq_some_iff.1 hy
    obtain ⟨h2, rfl⟩ := List.getElem?_eq_some_iff.1 hx
    exact (List.pairwise_iff_getElem.1 hp) k (k + 1) h1 h2 (by omega)
theorem enS_mvs {n : Net} {r : Int} {ss : List Int} (h : sitB n r ss = true) : mvsB n r ss (enS n r ss) = true := by
  unfold mvsB
  rw [h, enS_rise, Bool.true_and, Bool.true_and, List.all_eq_true]
  exact fun x hx => hasB_t hx
theorem rounds_sit {n : Net} {r : Int} {ss : List Int} (h : sitB n r ss = true) (k : Nat) : sitB n r (roundsT n r k ss) = true := by
  have h1 := propB_iff.1 h
  exact propB_t ⟨h1.1, roundsT_sts h1.1 h1.2 k⟩
theorem tog_rounds (n : Net) (r : Int) (ss : List Int) : ∀ d j, roundsT n r (togN n r ss d j) ss = roundsT n r (j + d) ss ∧ togN n r ss d j ≤ j + d
  | 0, j => ⟨rfl, Nat.le_refl _⟩
  | d + 1, j => by
    by_cases h : enS n r (roundsT n r j ss) = []
    · rw [togN_calm h, roundsT_calm h (d + 1)]
      exact ⟨rfl, by omega⟩
    · rw [togN_step h]
      have h1 := tog_rounds n r ss d (j + 1)
      rw [show j + (d + 1) = j + 1 + d by omega]
      exact h1
theorem tog_k {n : Net} {r : Int} {ss : List Int} (h : sitB n r ss = true) {k : Nat} (hk : k ≤ 100) : togB n r ss ((k : Int) + 1) = true ∧ togN n r ss (((k : Int) + 1).toNat) 0 ≤ k + 1 ∧ roundsT n r (togN n r ss (((k : Int) + 1).toNat) 0) ss = roundsT n r (k + 1) ss := by
  have e : ((k : Int) + 1).toNat = k + 1 := by omega
  rw [e]
  have h1 := tog_rounds n r ss (k + 1) 0
  rw [Nat.zero_add] at h1
  refine ⟨?_, h1.2, h1.1⟩
  unfold togB
  rw [h, Bool.true_and]
  exact inB_t ⟨by omega, by omega⟩
theorem tog_sit {n : Net} {r x : Int} {ss : List Int} (h : togB n r ss x = true) : sitB n r ss = true ∧ 0 ≤ x := by
  unfold togB at h
  rw [Bool.and_eq_true] at h
  refine ⟨h.1, ?_⟩
  have h2 := h.2
  unfold inB at h2
  have : 0 ≤ x ∧ x ≤ 2000 := by simpa using h2
  exact this.1
theorem tog_tree {n : Net} {x : Int} {ss : List Int} (h : togB n 1 ss x = true) (hx : 100 ≤ x) : ilB n 1 (roundsT n 1 (togN n 1 ss x.toNat 0) ss) = true ∧ sitB n 1 (roundsT n 1 (togN n 1 ss x.toNat 0) ss) = true := by
  have hs := (tog_sit h).1
  have h1 := propB_iff.1 hs
  have hp := h1.1.1
  have hl : ss.length = n.es.length := by rw [← h1.2.1, cnts_len]
  have hq := rounds_sit hs (togN n 1 ss x.toNat 0)
  refine ⟨?_, hq⟩
  unfold ilB
  rw [hq, Bool.true_and]
  refine propB_t ?_
  unfold legP
  rw [if_pos rfl]
  have h2 := (tog_rounds n 1 ss x.toNat 0).1
  rw [Nat.zero_add] at h2
  rw [h2]
  refine tree_conv hp hl (fun y hy => ?_) (by have := hp.1.2; omega)
  obtain ⟨v, hv⟩ := List.getElem?_of_mem hy
  have hvl := (List.getElem?_eq_some_iff.1 hv).1
  obtain ⟨k, hk⟩ : ∃ k, (cnts n 1)[v]? = some k := ⟨_, List.getElem?_eq_getElem (by rw [cnts_len]; omega)⟩
  exact (h1.2.2 v k y hk hv).1
end Go.Proofs.YtdghoienjegffaaGreat
