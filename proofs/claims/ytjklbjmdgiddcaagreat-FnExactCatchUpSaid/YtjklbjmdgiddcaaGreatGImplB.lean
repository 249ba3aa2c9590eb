/-
  Networks, the program's side: whether a network hangs together; stubs and loops; a token ring; which rules run on it.
  Networks, the program's side: the edges, each once; stubs and loops.
  Networks, the program's side: no stubs and no loops; a token ring; which rules run.
  Networks, the program's side: a token ring; what a daemon is; which rules run on a network.
  Networks, the program's side: what a daemon is; which rules run on a network; how many states each node has.
  Networks, the program's side: how many states each node has.
  Networks, the program's side: an explorer of a rule's situations; how many there are.
  Networks, the program's side: whether a list is a situation; its number; the situation of a number.
-/
import Derived.Test.YtjklbjmdgiddcaaGreatGImplA
namespace Go.Proofs.YtjklbjmdgiddcaaGreat
section
open Go.RowKit
set_option linter.all false
theorem impl_Contains (v : Value) (xs : List Int) (x : Int) (w : World) (h : IntsR w w.heap.size v xs) :
    Calls Tryz.prog 111 #[v, .int .i64 x] w fun e w' => e = .returned (.bool (xs.contains x)) ∧ w = w' := by
  obtain ⟨A, c, rfl, h1, h2, h3⟩ := h.open_;unfold maxLen at h2;by_cases h0 : xs.length = 0
  · obtain rfl : xs = [] := List.eq_nil_of_length_eq_zero h0
    refine (Tryz.slices_Contains_int_empty A c x w).mono ?_;rintro e w' ⟨rfl, rfl⟩;exact ⟨rfl, rfl⟩
  · obtain ⟨ad, rfl, hb, hc⟩ := h3 (by omega)
    obtain ⟨b, off, rfl, hcc⟩ := ints_cells (by omega) hc;refine (Tryz.slices_Contains_int b off xs.length c xs x w (Nat.le_refl _) (by omega) hcc).mono ?_;rintro e w' ⟨rfl, rfl⟩;rw [List.take_length];exact ⟨rfl, rfl⟩
end
section
open Go.RowKit
set_option linter.all false
theorem own_mono {w : World} {base base' : Nat} {e : TypeId} {size : Nat} {v : Value} {n : Nat} {xs : List Value} (h : w.ownsRow base e size v n xs) (hb : base' ≤ base) : w.ownsRow base' e size v n xs :=
  ⟨h.1, h.2.imp id fun ⟨g, cap, cur, h1, h2, h3⟩ => ⟨g, cap, cur, h1, Nat.le_trans hb h2, h3⟩⟩
theorem own_keep4 {w w' : World} {base n size : Nat} {e : TypeId} {v : Value} {vs : List Value} (h : w.ownsRow base e size v n vs) (hs : w.heap.size ≤ w'.heap.size) (hk : ∀ b, base ≤ b → b < w.heap.size → w'.heap[b]? = w.heap[b]?) : w'.ownsRow base e size v n vs := by
  refine ⟨h.1, ?_⟩;have hlt := h.lt;rcases h.2 with h2 | ⟨g, cap, cur, rfl, hb, hg, r⟩
  · exact .inl h2
  · exact .inr ⟨g, cap, cur, rfl, hb, (hk g hb (hlt g rfl).2).trans hg, r⟩
end
section
open Go.RowKit
set_option linter.all false
end
section
open Go.RowKit
set_option linter.all false
end
section
open Go.RowKit
set_option linter.all false
end
section
open Go.RowKit
set_option linter.all false
theorem most_max (l : List Int) (a : Int) : l.foldl (fun a x => if a > x then a else x) a = l.foldl max a := by
  have e : (fun a x : Int => if a > x then a else x) = max := by
    funext a x;by_cases h : a > x
    · rw [if_pos h]; omega
    · rw [if_neg h]; omega
  rw [e]
theorem maxOf_most {l : List Int} (h0 : 0 < l.length) (h : ∀ x ∈ l, 0 ≤ x) : Lib.maxOf l = most l := by
  cases l with
  | nil => simp at h0
  | cons y r =>
    unfold Lib.maxOf most;rw [most_max];simp only [List.headD_cons, List.foldl_cons];have := h y (by simp);rw [show max y y = y by omega, show max 0 y = y by omega]
theorem impl_Max (v : Value) (xs : List Int) (w : World) (h : IntsR w w.heap.size v xs) (h0 : 0 < xs.length) (hn : ∀ x ∈ xs, 0 ≤ x) :
    Calls Tryz.prog 64 #[v] w fun e w' => e = .returned (.int .i64 (most xs)) ∧ w = w' := by
  obtain ⟨A, c, rfl, h1, h2, h3⟩ := h.open_;unfold maxLen at h2;obtain ⟨ad, rfl, hb, hc⟩ := h3 h0;obtain ⟨b, off, rfl, hcc⟩ := ints_cells h0 hc;refine (Tryz.slices_Max_int b off xs.length c xs w h0 (Nat.le_refl _) (by omega) hcc).mono ?_;rintro e w' ⟨rfl, rfl⟩;rw [List.take_length, maxOf_most h0 hn];exact ⟨rfl, rfl⟩
end
section
open Go.RowKit
set_option linter.all false
end
section
open Go.RowKit
set_option linter.all false
end
end Go.Proofs.YtjklbjmdgiddcaaGreat
