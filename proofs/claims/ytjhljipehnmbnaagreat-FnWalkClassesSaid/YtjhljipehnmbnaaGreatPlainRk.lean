/-
  The ranks, periods and residues of labels. Plain facts; no program in sight, no condition.
-/
import Derived.Test.YtjhljipehnmbnaaGreatPlainComp
namespace Go.Proofs.YtjhljipehnmbnaaGreat
set_option linter.unusedVariables false
/-- How many labels are not reached. -/
noncomputable def rkN (n : Nat) (xss : List (List Int)) (a : Nat) : Nat := n - (bl (closN n xss a) 12).length
theorem clos_len {n : Nat} {xss : List (List Int)} (hg : Good n xss) {a : Nat} (ha : a < n) : (bl (closN n xss a) 12).length ≤ n := by
  have hn := good_n hg
  have h : ∀ k, n ≤ k → bl (closN n xss a) k = bl (closN n xss a) n := fun k hk => lsTo_stop k hk fun b h1 _ h3 => by
    have := (bitSet_bit.1 h3).2
    obtain ⟨j, _, hj⟩ := this
    have := wk_lt hg ha hj
    omega
  rw [h 12 (by omega)]
  exact lsTo_len _ n
/-- The least label of a's component. -/
noncomputable def rootN (xss : List (List Int)) (a : Nat) : Nat := (lsP fun r => isRoot xss r ∧ mates (hasArc xss) r a).headD 0
theorem root_uniq {xss : List (List Int)} {r s a : Nat} (h : isRoot xss r ∧ mates (hasArc xss) r a) (h' : isRoot xss s ∧ mates (hasArc xss) s a) : r = s := by
  have h1 : mates (hasArc xss) r s := h.2.trans h'.2.symm
  rcases Nat.lt_trichotomy r s with q | q | q
  · exact absurd h1 (h'.1.2 r q)
  · exact q
  · exact absurd h1.symm (h.1.2 s q)
theorem rootN_eq {n : Nat} {xss : List (List Int)} (hg : Good n xss) {r a : Nat} (h : isRoot xss r) (hm : mates (hasArc xss) r a) : rootN xss a = r := by
  have hn := good_n hg
  have hmem : r ∈ lsP fun r => isRoot xss r ∧ mates (hasArc xss) r a := mem_lsP.2 ⟨by have := (rc_lt (fun x y => arc_lt hg) hm.1).1; omega, h, hm⟩
  unfold rootN
  cases hl : (lsP fun r => isRoot xss r ∧ mates (hasArc xss) r a) with
  | nil => rw [hl] at hmem; cases hmem
  | cons x t =>
    have hx := (mem_lsP (p := fun r => isRoot xss r ∧ mates (hasArc xss) r a)).1 (show x ∈ _ by rw [hl]; simp)
    exact root_uniq hx.2 ⟨h, hm⟩
theorem root_ex {n : Nat} {xss : List (List Int)} (hg : Good n xss) {a : Nat} (h : mates (hasArc xss) a a) : ∃ r, isRoot xss r ∧ mates (hasArc xss) r a := by
  obtain ⟨d, _, h2, h3⟩ := least (fun r => mates (hasArc xss) r a) a h
  exact ⟨d, ⟨h2.trans h2.symm, fun b hb hm => h3 b hb (hm.trans h2)⟩, h2⟩
/-- The entry b of a's row, where the components' labels in D have been seen. -/
noncomputable def fR (n : Nat) (xss : List (List Int)) (D : List Nat) (a b : Nat) : Int :=
  if b = 0 then (rkN n xss a : Int) else if D.contains a = true then (if b = 1 then (perA n xss (rootN xss a) : Int) else ((dF n xss (rootN xss a) a % perA n xss (rootN xss a) : Nat) : Int)) else 0
theorem fR_nil (n : Nat) (xss : List (List Int)) (a b : Nat) : fR n xss [] a b = if b = 0 then (rkN n xss a : Int) else 0 := by simp [fR]
theorem fR_next {n : Nat} {xss : List (List Int)} {D : List Nat} {x p q : Nat} (hp : perA n xss (rootN xss x) = p) (hq : dF n xss (rootN xss x) x % p = q) (a b : Nat) (hb : b < 3) :
    (fun a c => if a = x ∧ c = 2 then (q : Int) else (fun a c => if a = x ∧ c = 1 then (p : Int) else fR n xss D a c) a c) a b = fR n xss (D ++ [x]) a b := by
  simp only []
  unfold fR
  by_cases e : a = x
  · subst e
    rcases (show b = 0 ∨ b = 1 ∨ b = 2 by omega) with rfl | rfl | rfl
    · simp
    · simp [hp]
    · simp [hp, hq]
  · have : (D ++ [x]).contains a = D.contains a := by
      rw [Bool.eq_iff_iff, List.contains_iff_mem, List.contains_iff_mem]
      simp [e]
    rw [if_neg (by simp [e]), if_neg (by simp [e]), this]
noncomputable def catL (xss : List (List Int)) (l : List Nat) : List Nat := (l.map (compL xss)).flatten
theorem cat_snoc (xss : List (List Int)) (l : List Nat) (r : Nat) : catL xss (l ++ [r]) = catL xss l ++ compL xss r := by simp [catL]
theorem cat_mem {n : Nat} {xss : List (List Int)} (hg : Good n xss) {a : Nat} : a ∈ catL xss (roots xss n) ↔ mates (hasArc xss) a a := by
  unfold catL
  rw [List.mem_flatten]
  constructor
  · rintro ⟨l, h1, h2⟩
    obtain ⟨r, _, rfl⟩ := List.mem_map.1 h1
    exact ((mem_comp hg).1 h2).symm.self
  · intro h
    obtain ⟨r, h1, h2⟩ := root_ex hg h
    exact ⟨compL xss r, List.mem_map.2 ⟨r, mem_lsTo.2 ⟨(rc_lt (fun x y => arc_lt hg) h2.1).1, h1⟩, rfl⟩, (mem_comp hg).2 h2⟩
/-- The whole table. -/
noncomputable def rksL (n : Nat) (xss : List (List Int)) : List (List Int) := (List.range n).map fun a => (List.range 3).map (fR n xss (catL xss (roots xss n)) a)
theorem fR_bd (n : Nat) (xss : List (List Int)) (D : List Nat) (a b : Nat) : 0 ≤ fR n xss D a b ∧ fR n xss D a b ≤ n + 1 := by
  have h1 := perA_le n xss (rootN xss a)
  have h2 := dF_le n xss (rootN xss a) a
  have h3 : dF n xss (rootN xss a) a % perA n xss (rootN xss a) ≤ dF n xss (rootN xss a) a := Nat.mod_le _ _
  unfold fR rkN
  split
  · omega
  · split
    · split <;> omega
    · omega
end Go.Proofs.YtjhljipehnmbnaaGreat
