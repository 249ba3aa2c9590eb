/-
  What is recovered from a disk: the plain law, with no program in sight. No condition.
-/
import Derived.Test.YtcfbkickiijjkaaGreatDoorVPlainRecord
import Derived.Test.YtcfbkickiijjkaaGreatDoorVApplyA
namespace Go.Proofs.YtcfbkickiijjkaaGreatDoor
set_option linter.all false
def nlI (l : List UInt8) : Int := Lib.indexByte l 10
theorem nlI_ge (l : List UInt8) : -1 ≤ nlI l := Lib.indexByte_ge l 10
theorem nl_none {l : List UInt8} (h : ∀ (j : Nat) (b : UInt8), l[j]? = some b → b ≠ 10) : nlI l = -1 := by
  have hg := nlI_ge l
  rcases (show nlI l = -1 ∨ 0 ≤ nlI l by omega) with h1 | h1
  · exact h1
  · obtain ⟨k, hk⟩ : ∃ k : Nat, nlI l = k := ⟨(nlI l).toNat, by omega⟩
    exact absurd rfl (h _ _ (Lib.indexByte_some hk).1)
theorem nl_some {l : List UInt8} {k : Nat} (h1 : l[k]? = some 10) (h2 : ∀ (j : Nat) (b : UInt8), j < k → l[j]? = some b → b ≠ 10) : nlI l = k := by
  have hg := nlI_ge l
  rcases (show nlI l = -1 ∨ 0 ≤ nlI l by omega) with h | h
  · exact absurd h1 (Lib.indexByte_none h k)
  · obtain ⟨i, hi⟩ : ∃ i : Nat, nlI l = i := ⟨(nlI l).toNat, by omega⟩
    obtain ⟨k1, k2⟩ := Lib.indexByte_some hi
    rcases Nat.lt_trichotomy i k with q | q | q
    · exact absurd rfl (h2 i 10 q k1)
    · rw [hi, q]
    · exact absurd h1 (k2 k q)
theorem nl_at {l : List UInt8} {k : Nat} (h : nlI l = k) : k < l.length ∧ l[k]? = some 10 := by
  obtain ⟨k1, _⟩ := Lib.indexByte_some h
  exact ⟨(List.getElem?_eq_some_iff.1 k1).1, k1⟩
theorem nl_take {l : List UInt8} {k : Nat} (h : nlI l = k) : l.take (k + 1) = l.take k ++ [10] := by
  obtain ⟨h1, h2⟩ := nl_at h
  obtain ⟨_, e⟩ := List.getElem?_eq_some_iff.1 h2
  rw [List.take_succ_eq_append_getElem h1, e]
noncomputable def okR (g : Int) (xs : List Item) (rest : List UInt8) : Bool := decide (0 ≤ nlI rest) && (recB g (rest.take ((nlI rest).toNat + 1)) && apB xs (recE g (rest.take ((nlI rest).toNat + 1))))
noncomputable def recGo (g : Int) : Nat → List UInt8 → List Item → Nat → Nat → List Item × Nat × Nat
  | 0, _, xs, n, b => (xs, n, b)
  | f + 1, rest, xs, n, b => if okR g xs rest = true then recGo g f (rest.drop ((nlI rest).toNat + 1)) (apX xs (recE g (rest.take ((nlI rest).toNat + 1)))) (n + 1) (b + ((nlI rest).toNat + 1)) else (xs, n, b)
theorem go_end {g : Int} {xs : List Item} {rest : List UInt8} (h : okR g xs rest = false) (f n b : Nat) : recGo g f rest xs n b = (xs, n, b) := by
  cases f with
  | zero => rfl
  | succ f => unfold recGo; rw [h]; rfl
theorem ok_no {g : Int} {xs : List Item} {rest : List UInt8} (h : nlI rest = -1) : okR g xs rest = false := by
  unfold okR; rw [h]; rfl
theorem ok_rec {g : Int} {xs : List Item} {rest : List UInt8} {k : Nat} (h : nlI rest = k) : okR g xs rest = (recB g (rest.take (k + 1)) && apB xs (recE g (rest.take (k + 1)))) := by
  unfold okR
  rw [h, Int.toNat_natCast, decide_eq_true (by omega), Bool.true_and]
theorem go_step {g : Int} {xs : List Item} {rest : List UInt8} {k : Nat} (h : nlI rest = k) (hok : okR g xs rest = true) {f n b : Nat} (hf : rest.length ≤ f) :
    ∃ f', recGo g f rest xs n b = recGo g f' (rest.drop (k + 1)) (apX xs (recE g (rest.take (k + 1)))) (n + 1) (b + (k + 1)) ∧ (rest.drop (k + 1)).length ≤ f' := by
  have hk := (nl_at h).1
  cases f with
  | zero => omega
  | succ f =>
    refine ⟨f, ?_, by rw [List.length_drop]; omega⟩
    conv => lhs; unfold recGo
    rw [if_pos hok, h, Int.toNat_natCast]
def GoTo (g : Int) (log : List UInt8) (R : List Item × Nat × Nat) (xs : List Item) (n b : Nat) : Prop :=
  ∃ f, recGo g f (log.drop b) xs n b = R ∧ (log.drop b).length ≤ f ∧ b ≤ log.length ∧ n ≤ b ∧ storeP xs
theorem GoTo.next {g : Int} {log : List UInt8} {R : List Item × Nat × Nat} {xs : List Item} {n b k : Nat} (h : GoTo g log R xs n b) (hk : nlI (log.drop b) = k) (hr : recB g ((log.drop b).take (k + 1)) = true) (ha : apB xs (recE g ((log.drop b).take (k + 1))) = true) :
    GoTo g log R (apX xs (recE g ((log.drop b).take (k + 1)))) (n + 1) (b + (k + 1)) := by
  obtain ⟨f, h1, h2, h3, h4, h5⟩ := h
  obtain ⟨f', e1, e2⟩ := go_step (xs := xs) (g := g) (n := n) (b := b) hk (by rw [ok_rec hk, hr, ha]; rfl) h2
  have hkl := (nl_at hk).1
  rw [List.length_drop] at hkl
  rw [List.drop_drop] at e1 e2
  exact ⟨f', by rw [← e1]; exact h1, e2, by omega, by omega, ap_store h5 (propB_iff.1 ha)⟩
theorem GoTo.fin {g : Int} {log : List UInt8} {R : List Item × Nat × Nat} {xs : List Item} {n b : Nat} (h : GoTo g log R xs n b) (ho : okR g xs (log.drop b) = false) : R = (xs, n, b) := by
  obtain ⟨f, h1, _⟩ := h
  rw [← h1, go_end ho]
theorem GoTo.no {g : Int} {log : List UInt8} {R : List Item × Nat × Nat} {xs : List Item} {n b : Nat} (h : GoTo g log R xs n b) (hk : nlI (log.drop b) = -1) : R = (xs, n, b) := h.fin (ok_no hk)
theorem GoTo.nr {g : Int} {log : List UInt8} {R : List Item × Nat × Nat} {xs : List Item} {n b k : Nat} (h : GoTo g log R xs n b) (hk : nlI (log.drop b) = k) (hr : recB g ((log.drop b).take (k + 1)) = false) : R = (xs, n, b) := h.fin (by rw [ok_rec hk, hr]; rfl)
theorem GoTo.na {g : Int} {log : List UInt8} {R : List Item × Nat × Nat} {xs : List Item} {n b k : Nat} (h : GoTo g log R xs n b) (hk : nlI (log.drop b) = k) (ha : apB xs (recE g ((log.drop b).take (k + 1))) = false) : R = (xs, n, b) := h.fin (by rw [ok_rec hk, ha, Bool.and_false])
noncomputable def rvS (a b : List UInt8) : Bool := !rsB a || (rsB b && decide (rsG a < rsG b))
noncomputable def rvOk (a b log : List UInt8) : Bool := decide (log.length ≤ 20000) && (rsB a || rsB b)
noncomputable def rvG (a b : List UInt8) : Int := if rvS a b = true then rsG b else rsG a
noncomputable def rvX (a b : List UInt8) : List Item := if rvS a b = true then rsX b else rsX a
noncomputable def rvR (a b log : List UInt8) : List Item × Nat × Nat := recGo (rvG a b) log.length log (rvX a b) 0 0
theorem rs_store {l : List UInt8} (h : rsB l = true) : storeP (rsX l) ∧ 0 ≤ rsG l ∧ rsG l ≤ 100000 := by
  obtain ⟨g, xs, h0, h1, h2, h3, _⟩ := rs_ok (propB_iff.1 h)
  obtain ⟨_, e1, e2⟩ := rs_t h0 h1 h2 h3
  rw [e1, e2]
  exact ⟨h2, h0, h1⟩
theorem rv_start {a b log : List UInt8} (h : rvOk a b log = true) : GoTo (rvG a b) log (rvR a b log) (rvX a b) 0 0 ∧ 0 ≤ rvG a b ∧ rvG a b ≤ 100000 := by
  unfold rvOk at h
  rw [Bool.and_eq_true, Bool.or_eq_true] at h
  have hs : storeP (rvX a b) ∧ 0 ≤ rvG a b ∧ rvG a b ≤ 100000 := by
    unfold rvX rvG rvS
    cases ha : rsB a with
    | false =>
      have hb : rsB b = true := by rcases h.2 with h | h; rw [ha] at h; cases h; exact h
      simpa using rs_store hb
    | true =>
      cases hb : rsB b with
      | false => simpa using rs_store ha
      | true =>
        by_cases q : rsG a < rsG b
        · simpa [q] using rs_store hb
        · simpa [q] using rs_store ha
  exact ⟨⟨log.length, by unfold rvR; rw [List.drop_zero], by rw [List.drop_zero]; exact Nat.le_refl _, Nat.zero_le _, Nat.le_refl _, hs.1⟩, hs.2⟩
end Go.Proofs.YtcfbkickiijjkaaGreatDoor
