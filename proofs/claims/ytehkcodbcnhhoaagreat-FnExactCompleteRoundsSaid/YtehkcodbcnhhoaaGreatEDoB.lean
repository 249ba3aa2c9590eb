/-
  What the walks of doAsync need: slices.Repeat at any count, states in a box behind an act. No condition.
-/
import Derived.Test.YtehkcodbcnhhoaaGreatECpRows
import Derived.Test.YtehkcodbcnhhoaaGreatESyStep
namespace Go.Proofs.YtehkcodbcnhhoaaGreat
open Go.RowKit
set_option linter.all false
set_option maxRecDepth 100000 in
theorem impl_Repeat0 (x : Int) (k g0 : Nat) (w : World) (hg : NumsAt w g0 [x]) (hk : k = 0) :
  Calls Tryz.prog 85 #[.slice (some ⟨g0, 0, none⟩) 1 1, .int .i64 (k : Int)] w fun e w' => e = .returned (.slice (some ⟨w.heap.size, 0, none⟩) k k) ∧ NumsAt w' w.heap.size (List.replicate k x) ∧ Below w.heap.size w w' := by
 have hmk := fun W => run_make1 (P := Tryz.prog) 24 3 (.int .i64 0) 8 Tryz.underlying24 intInfo rfl k (by omega) (by omega) W
 have hN0 : NumsAt (w.alloc (.cells (rowOf [] k (.int .i64 0)) 3)) w.heap.size (List.replicate k 0) := by
  unfold NumsAt
  rw [heap_alloc_new]
  simp [rowOf, intV]
 have hm1 : Nat.min 1 k = 0 := by rw [hk]; rfl
 have hcp := copy_nums (c := k) (n := k) (m := 1) (c' := 1) (o := 0) (gs := g0) (so := 0) (ss := [x]) hN0 (fun j hj => by omega) (by omega) (by omega)
 rw [hm1] at hcp
 obtain ⟨w1, hw1⟩ : ∃ z, z = (w.alloc (.cells (rowOf [] k (.int .i64 0)) 3)).setRow w.heap.size (((List.replicate k (0 : Int)).take 0 ++ [x].take 0 ++ (List.replicate k (0 : Int)).drop (0 + 0)).map intV).toArray := ⟨_, rfl⟩
 rw [← hw1] at hcp
 have hN1 : NumsAt w1 w.heap.size (List.replicate k x) := by
  unfold NumsAt
  rw [hw1, setRow_heap _ _ _ _ _ _ hN0]
  simp [hk]
 have hb1 : Below w.heap.size w w1 := by
  rw [hw1]
  exact below_setRow (bl_alloc (Below.refl _ _) _) (Nat.le_refl _) _
 have HN1 := Lib.hid hN1; clear hN1 hN0 hm1
 have HB1 := Lib.hid hb1; clear hb1 hw1
 have hwk1 : IntKind.u64.wrap (k : Int) = (k : Int) := IntWalk.u64_in _ (by omega)
 have hwk2 : IntKind.i64.wrap (k : Int) = (k : Int) := IntWalk.i64_in _ (by omega)
 have HK := Lib.hid hk
 clear hk hg
 have hk2 : k ≤ 100000 := by have := HK.out; omega
 go_enter Tryz.func85, Tryz.ntmps85
 go_wp2_with (go_at_call 102; refine (mul_one k hk2 _).mono ?_; rintro e w' ⟨rfl, rfl⟩)
 go_loopw [8] (fun i wr => i = .int .i64 0 ∧ wr = w1) (fun i _ => 0)
 case atStart => exact ⟨rfl, rfl⟩
 case round =>
  clear hcp
  obtain ⟨rfl, rfl⟩ := hrel
  have d0 : ¬ 0 < k := by have := HK.out; omega
  go_wp2_with fail
  go_ret
  exact ⟨rfl, HN1.out, HB1.out⟩
theorem nums_own {w : World} {g base : Nat} {d : List Int} (h : NumsAt w g d) (hb : base ≤ g) (hm : d.length ≤ 1000) : w.ownsRow base 3 1 (.slice (some ⟨g, 0, none⟩) d.length d.length) d.length (d.map intV) :=
  ⟨by simp, .inr ⟨g, d.length, _, rfl, hb, h, Nat.le_refl _, by unfold maxLen; omega, by simp, List.take_of_length_le (by simp)⟩⟩
theorem impl_Repeats (x : Int) (k g0 : Nat) (w : World) (hg : NumsAt w g0 [x]) (hk2 : k ≤ 1000) :
    Calls Tryz.prog 85 #[.slice (some ⟨g0, 0, none⟩) 1 1, .int .i64 (k : Int)] w fun e w' => ∃ v, e = .returned v ∧ w'.ownsRow w.heap.size 3 1 v k ((List.replicate k x).map intV) ∧ Below w.heap.size w w' := by
  have h : Calls Tryz.prog 85 #[.slice (some ⟨g0, 0, none⟩) 1 1, .int .i64 (k : Int)] w fun e w' => e = .returned (.slice (some ⟨w.heap.size, 0, none⟩) k k) ∧ NumsAt w' w.heap.size (List.replicate k x) ∧ Below w.heap.size w w' := by
    rcases Nat.eq_zero_or_pos k with h0 | h0
    · exact impl_Repeat0 x k g0 w hg h0
    · exact impl_Repeat x k g0 w hg h0 (by omega)
  refine h.mono ?_
  rintro e w' ⟨rfl, hn, hb⟩
  have ho := nums_own hn (Nat.le_refl _) (by rw [List.length_replicate]; exact hk2)
  rw [List.length_replicate] at ho
  exact ⟨_, rfl, ho, hb⟩
theorem keyOf_of {x y : Asy} (h1 : y.slots.length = x.slots.length) (h2 : y.flight.length = x.flight.length) (h3 : ∀ k, k < x.flight.length → (portsAt y k).length = (portsAt x k).length) {j : Key} (h : keyOf y j) : keyOf x j := by
  cases j with
  | sl k => have : k < y.slots.length := h; show k < x.slots.length; omega
  | fr k => have : k < y.flight.length := h; show k < x.flight.length; omega
  | le k p =>
    have hk : k < y.flight.length := h.1
    have hp : p < (portsAt y k).length := h.2
    exact ⟨by omega, by rw [← h3 k (by omega)]; exact hp⟩
  | _ => trivial
section
variable {w w' : World} {base P : Nat} {val val' : Key → Value} {x y : Asy}
theorem AsyB.after (h : AsyB w base val x P) (hF : Frame val x w w') (hk : AsyK w' base val' y) (hs : SameHeads val val') (hne : ∀ j, keyOf y j → (val' j).ownBlock ≠ some P) : AsyB w' base val' y P := by
  obtain ⟨h1, h2, h3, h4, h5⟩ := hs
  refine ⟨hk, hne, ?_⟩
  rw [h1, h2, h3, h4, h5]
  exact (hF.2 P h.lt (fun j hj => h.ne j hj)).trans h.box
theorem AsyB.ne_upd (h : AsyB w base val x P) (hy : ∀ j, keyOf y j → keyOf x j) (i : Key) {v : Value} (hv : v.ownBlock ≠ some P) : ∀ j, keyOf y j → (upd val i v j).ownBlock ≠ some P := fun j hj => by
  by_cases e : j = i
  · subst e; rw [upd_same]; exact hv
  · rw [upd_ne _ _ e]; exact h.ne j (hy j hj)
theorem keyOf_fset {k p : Nat} {ls : Ends} (hk : k < x.flight.length) : ∀ j, keyOf { x with flight := x.flight.set k ((portsAt x k).set p ls) } j → keyOf x j := fun j hj => keyOf_of (x := x) (y := { x with flight := x.flight.set k ((portsAt x k).set p ls) }) rfl (by simp) (fun i hi => by
  rw [portsAt_set hk]
  split
  · next e => subst e; simp
  · rfl) hj
end
end Go.Proofs.YtehkcodbcnhhoaaGreat
