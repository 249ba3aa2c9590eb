/-
  The laws' own functions over slices of numbers: szIntS, szIntSS (sizes), toIntS, toIntSS (copies), eqIntS, eqIntSS (equality of copies). For lengths that together are at most 1048576 where they copy.
-/
import Derived.Test.YthfgklckmedggaaGreatRows
import Derived.Test.YthfgklckmedggaaGreatKit
import Derived.Test.YthfgklckmedggaaGreatMem
import Derived.WalkKit
import Derived.WalkSpells
import Derived.WalkLawsBesides
import Derived.Lib.Hide
import Derived.Deep.LoopGhost
import Derived.Deep.QuietTactic
import Derived.BigQuiet
namespace Go.Proofs.YthfgklckmedggaaGreat
open Go.RowKit
set_option linter.unusedVariables false

theorem szR_le {left : Int} {n : Nat} (hl : 0 ≤ left) : szR left n ≤ left := by unfold szR; split <;> omega
theorem szR_add {left : Int} {m n : Nat} (h : (m : Int) ≤ left) : szR (left - m) n = szR left (m + n) := by unfold szR; split <;> split <;> omega
theorem szR_neg {left : Int} {m n : Nat} (h : szR left m < 0) (hl : 0 ≤ left) : szR left (m + n) = -1 := by
  unfold szR at *
  split at h
  · omega
  · rw [if_neg (by omega)]
theorem sz_IntS (A : Option Addr) (n c : Nat) (left : Int) (w : World) (hn : n ≤ maxLen) (hl : 0 ≤ left) (hl' : left ≤ 1048576) :
    Calls Tryz.prog 30 #[.slice A n c, .int .i64 left] w fun e w' => e = .returned (.int .i64 (szR left n)) ∧ w = w' := by
  unfold maxLen at hn
  go_enter Tryz.func30, Tryz.ntmps30
  go_wp2
  all_goals
    go_ret
    exact ⟨ret_int (by unfold szR; split <;> omega), rfl⟩

/-- How many numbers there are; numbers and lists. -/
def lens : List (List Int) → Nat
  | [] => 0
  | xs :: r => xs.length + lens r
def szRows (xss : List (List Int)) : Nat := xss.length + lens xss
theorem lens_append : ∀ (a b : List (List Int)), lens (a ++ b) = lens a + lens b
  | [], b => by simp [lens]
  | x :: a, b => by simp [lens, lens_append a b]; omega
theorem lens_snoc (xss : List (List Int)) (k : Nat) (xs : List Int) (h : xss[k]? = some xs) : lens (xss.take (k + 1)) = lens (xss.take k) + xs.length := by
  obtain ⟨hk, rfl⟩ := List.getElem?_eq_some_iff.1 h
  rw [List.take_succ_eq_append_getElem hk, lens_append]
  rfl
theorem lens_split (xss : List (List Int)) (k : Nat) : lens xss = lens (xss.take k) + lens (xss.drop k) := by
  rw [← lens_append, List.take_append_drop]
theorem lens_all (xss : List (List Int)) (k : Nat) (h : xss.length ≤ k) : lens (xss.take k) = lens xss := by rw [List.take_of_length_le h]
def SzRel (xss : List (List Int)) (left : Int) (w : World) (l i : Value) (wr : World) : Prop :=
  w = wr ∧ ∃ (k q : Nat), k ≤ xss.length ∧ q = lens (xss.take k) ∧ i = .int .i64 k ∧ l = .int .i64 (left - xss.length - q) ∧ (q : Int) ≤ left - xss.length
/-! ### Copies -/
theorem intInfo : (Tryz.prog.info? 3).map (fun i => (i.zero, i.size, i.bytes)) = some (some (.int .i64 0), 1, 8) := by kernel_rfl
def ToRel (xs : List Int) (w : World) (i : Value) (wr : World) : Prop := ∃ k : Nat, k ≤ xs.length ∧ i = .int .i64 k ∧ wr = w.alloc (.cells (rowOf ((xs.take k).map intV) xs.length (.int .i64 0)) 3)
theorem to_IntS (v : Value) (xs : List Int) (w : World) (h : IntsR w w.heap.size v xs) (hn : xs.length ≤ 1048576) :
    Calls Tryz.prog 15 #[v] w fun e w' => e = .returned (.slice (some ⟨w.heap.size, 0, none⟩) xs.length xs.length) ∧ w' = w.alloc (.cells (xs.map intV).toArray 3) := by
  obtain ⟨A, c, rfl, h1, h2, h3⟩ := h.open_
  have hmk := fun W => run_make1 (P := Tryz.prog) 23 3 (.int .i64 0) 8 Tryz.underlying23 intInfo rfl xs.length (by omega) (by omega) W
  go_enter Tryz.func15, Tryz.ntmps15
  go_wp2
  clear hmk
  go_loopw [4] (fun i wr => ToRel xs w i wr) (fun i _ => xs.length - (intOf i).toNat)
  case atStart => exact ⟨0, Nat.zero_le _, rfl, by simp⟩
  case round =>
    obtain ⟨k, hk, rfl, rfl⟩ := hrel
    by_cases hlt : k < xs.length
    · obtain ⟨x, hx⟩ : ∃ x, xs[k]? = some x := ⟨xs[k], List.getElem?_eq_getElem hlt⟩
      obtain ⟨ad, rfl, hb, hc⟩ := h3 (by omega)
      have hcell := hc k x hx
      clear h3 hc
      have hlen : ((xs.take k).map intV).length = k := by simp; omega
      have HN := Lib.hid (show (xs.take (k + 1)).map intV = (xs.take k).map intV ++ [.int .i64 x] by
        obtain ⟨hk', rfl⟩ := List.getElem?_eq_some_iff.1 hx
        rw [List.take_succ_eq_append_getElem hk', List.map_append]; rfl)
      clear hx
      generalize (xs.take k).map intV = done at *
      have hset := Lib.hid (rowOf_set (done := done) (n := xs.length) (z := .int .i64 0) (by omega) (.int .i64 x))
      have hnext := rowOf_next (done := done) (n := xs.length) (z := .int .i64 0) (by omega)
      obtain rfl := hlen
      generalize rowOf done xs.length (.int .i64 0) = C at *
      have hcell2 : (w.alloc (.cells C 3)).cell? ⟨w.heap.size, done.length, none⟩ = some (.int .i64 0) := by rw [World.cell?_alloc_at _ _ _ _ rfl]; exact hnext
      have hcell1 : (w.alloc (.cells C 3)).cell? (ad.add done.length) = some (.int .i64 x) := (World.cell?_alloc_lt w _ _ (by rw [block_add]; exact hb)).trans hcell
      clear hnext hcell
      go_wp2
      go_roundw
      case rel => exact ⟨done.length + 1, by omega, by go_num, by rw [HN.out, ← hset.out]⟩
      case measure => simp [intOf]; omega
    · have e1 : xs.take k = xs := List.take_of_length_le (by omega)
      have e2 := rowOf_full (xs.map intV) (.int .i64 0)
      rw [List.length_map] at e2
      rw [e1, e2]
      clear e1 e2
      go_wp2
      go_ret
      exact ⟨rfl, rfl⟩

/-! ### Copies of lists of lists -/
theorem sliceInfo : (Tryz.prog.info? 23).map (fun i => (i.zero, i.size, i.bytes)) = some (some (.slice none 0 0), 1, 24) := by kernel_rfl
/-- What toIntSS keeps: the outer row, and the copies that lie in it. -/
def TosRel (xss : List (List Int)) (w : World) (i : Value) (wr : World) : Prop :=
  ∃ (k : Nat) (vs : List Value) (bs : List Nat), k ≤ xss.length ∧ i = .int .i64 k ∧ vs.length = k ∧ wr.heap[w.heap.size]? = some (.cells (rowOf vs xss.length (.slice none 0 0)) 23 (0, 0)) ∧
    OwnAll wr 3 vs (xss.take k) bs ∧ bs.Nodup ∧ (∀ b ∈ bs, w.heap.size < b ∧ b < wr.heap.size) ∧ Below w.heap.size w wr
/-! ### Equality of what reads alike -/
def EqRel (n : Nat) (w : World) (i : Value) (wr : World) : Prop := ∃ k m : Nat, k ≤ n ∧ i = .int .i64 k ∧ wr = w.drewN m
theorem eq_IntS (v v' : Value) (xs : List Int) (w : World) (h : IntsR w w.heap.size v xs) (h' : IntsR w w.heap.size v' xs) :
    Calls Tryz.prog 17 #[v, v'] w fun e w' => e = .returned (.bool true) ∧ ∃ n, w' = w.drewN n := by
  obtain ⟨A, c, rfl, h1, h2, h3⟩ := h.open_
  obtain ⟨A', c', rfl, h1', h2', h3'⟩ := h'.open_
  unfold maxLen at h2
  clear h h'
  go_enter Tryz.func17, Tryz.ntmps17
  go_wp2
  go_loopw [5] (fun i wr => EqRel xs.length w i wr) (fun i _ => xs.length - (intOf i).toNat)
  case atStart => exact ⟨0, 0, Nat.zero_le _, rfl, rfl⟩
  case round =>
    obtain ⟨k, m, hk, rfl, rfl⟩ := hrel
    by_cases hlt : k < xs.length
    · obtain ⟨x, hx⟩ : ∃ x, xs[k]? = some x := ⟨xs[k], List.getElem?_eq_getElem hlt⟩
      obtain ⟨ad, rfl, hb, hc⟩ := h3 (by omega)
      obtain ⟨ad', rfl, hb', hc'⟩ := h3' (by omega)
      have hcell : (w.drewN m).cell? (ad.add k) = some (.int .i64 x) := hc k x hx
      have hcell' : (w.drewN m).cell? (ad'.add k) = some (.int .i64 x) := hc' k x hx
      have k1 := hc k x hx
      have k2 := hc' k x hx
      clear h3 h3' hc hc' hx
      go_wp2
      go_quiet (fail)
      go_wp2
      go_roundw
      case rel => exact ⟨k + 1, m + nq, by omega, by go_num, rfl⟩
      case measure => simp [intOf]; omega
    · go_wp2
      go_ret
      exact ⟨rfl, m, rfl⟩

theorem quiet_more {P : Program} {f : FuncId} {args : Array Value} {w : World} {a n : Nat} {v : Value}
    (h : Calls P f args (w.drewN (a + n)) fun e w' => e = .returned v ∧ ∃ m, w' = (w.drewN (a + n)).drewN m) :
    Calls P f args (w.drewN (a + n)) fun e w'' => e = .returned v ∧ ∃ m, w'' = w.drewN (a + m) :=
  h.mono fun _ _ ⟨he, m, hm⟩ => ⟨he, n + m, by rw [hm, World.drewN_drewN, Nat.add_assoc]⟩
end Go.Proofs.YthfgklckmedggaaGreat
