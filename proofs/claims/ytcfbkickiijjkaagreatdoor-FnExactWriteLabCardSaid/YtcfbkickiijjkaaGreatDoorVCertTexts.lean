/-
  The texts of certificates: srCertificate, for every certificate of one of the four forms.
-/
import Derived.Test.YtcfbkickiijjkaaGreatDoorVCert
namespace Go.Proofs.YtcfbkickiijjkaaGreatDoor
open Go.RowKit
set_option linter.all false
def ranksT (rs : List (List Int)) : List UInt8 := (rs.map fun a => 32 :: numsT [46] a).flatten
def headT (cl lb : Int) (f s : List Int) : List UInt8 :=
  if cl = 3 then [99, 111, 110, 115, 116, 97, 110, 116, 32] ++ numT lb
  else if cl = 2 then [115, 116, 97, 114, 32] ++ numT lb ++ [32] ++ numsT [45] f ++ [32] ++ numsT [45] s
  else if cl = 1 then [103, 108, 111, 98, 97, 108, 32] ++ numT lb ++ [32] ++ numsT [45] f
  else [110, 101, 118, 101, 114]
def certT (cl lb : Int) (f s : List Int) (rs : List (List Int)) : List UInt8 := headT cl lb f s ++ ranksT rs
theorem ranksT_take (xss : List (List Int)) (k : Nat) (xs : List Int) (h : xss[k]? = some xs) : ranksT (xss.take (k + 1)) = ranksT (xss.take k) ++ 32 :: numsT [46] xs := by
  obtain ⟨hk, rfl⟩ := List.getElem?_eq_some_iff.1 h
  unfold ranksT
  rw [List.take_succ_eq_append_getElem hk, List.map_append, List.flatten_append]
  simp
structure CertS (cl lb : Int) (f s : List Int) (rs : List (List Int)) : Prop where
  lb : 0 ≤ lb ∧ lb ≤ 11
  f : f.length ≤ 200 ∧ ∀ x ∈ f, 0 ≤ x ∧ x ≤ 11
  s : s.length ≤ 200 ∧ ∀ x ∈ s, 0 ≤ x ∧ x ≤ 11
  r : rs.length ≤ 12 ∧ ∀ r ∈ rs, r.length = 3 ∧ ∀ x ∈ r, 0 ≤ x ∧ x ≤ 1000
  c : cl = 3 ∨ cl = 2 → rs = []
theorem closedP.small {n : Nat} {xss : List (List Int)} {l : List Int} {a : Int} (hn : (n : Int) ≤ 12) (h : closedP n xss l a) : l.length ≤ 200 ∧ ∀ x ∈ l, 0 ≤ x ∧ x ≤ 11 := by
  have h1 := h.1
  unfold inB at h1
  simp at h1
  refine ⟨by omega, fun x hx => ?_⟩
  have := allB_iff.1 h.2.1 x hx
  omega
theorem RanksP.small {ar : Bool} {n : Nat} {xss rs : List (List Int)} (hn : (n : Int) ≤ 12) (h : RanksP ar n xss rs) : rs.length ≤ 12 ∧ ∀ r ∈ rs, r.length = 3 ∧ ∀ x ∈ r, 0 ≤ x ∧ x ≤ 1000 := by
  refine ⟨by have := h.1; omega, fun r hr => ?_⟩
  obtain ⟨i, hi⟩ := List.mem_iff_getElem?.1 hr
  have := h.2.1 i r (List.getElem?_eq_some_iff.1 hi).1 hi
  exact ⟨this.1, allB_iff.1 this.2⟩
theorem certP.small {n : Nat} {xss : List (List Int)} {cl lb : Int} {f s : List Int} {rs : List (List Int)} (hg : Good n xss) (h : certP n xss cl lb f s rs) : CertS cl lb f s rs := by
  have hn : (1 : Int) ≤ n ∧ (n : Int) ≤ 12 := by have := hg.1; unfold inB at this; simpa using this
  have nil1 : ∀ l : List Int, l.length = 0 → l.length ≤ 200 ∧ ∀ x ∈ l, 0 ≤ x ∧ x ≤ 11 := fun l hl => by
    rw [List.length_eq_zero_iff] at hl; subst hl; simp
  have nil2 : ∀ l : List (List Int), l.length = 0 → l.length ≤ 12 ∧ ∀ r ∈ l, r.length = 3 ∧ ∀ x ∈ r, 0 ≤ x ∧ x ≤ 1000 := fun l hl => by
    rw [List.length_eq_zero_iff] at hl; subst hl; simp
  have lab : inB lb 0 ((n : Int) - 1) = true → 0 ≤ lb ∧ lb ≤ 11 := fun h => by unfold inB at h; simp at h; omega
  rcases h with ⟨rfl, h1, h2, h3⟩ | ⟨rfl, h1, h2, h3, h4, h5, h6⟩ | ⟨rfl, h1, h2, h3, h4⟩ | ⟨rfl, h1, h2, h3⟩
  · exact ⟨lab h1, nil1 f (by omega), nil1 s (by omega), nil2 rs (by omega), fun _ => List.length_eq_zero_iff.1 (by omega)⟩
  · exact ⟨lab h1, h4.small hn.2, h5.small hn.2, nil2 rs h2, fun _ => List.length_eq_zero_iff.1 h2⟩
  · exact ⟨lab h1, h3.small hn.2, nil1 s h2, h4.small hn.2, fun h => by omega⟩
  · exact ⟨by omega, nil1 f (by omega), nil1 s (by omega), h3.small hn.2, fun h => by omega⟩
theorem ranksT_len : ∀ (rs : List (List Int)), (∀ r ∈ rs, r.length = 3 ∧ ∀ x ∈ r, 0 ≤ x ∧ x ≤ 1000) → (ranksT rs).length ≤ rs.length * 4000
  | [], _ => by simp [ranksT]
  | xs :: r, h => by
    have h1 := ranksT_len r (fun x hx => h x (by simp [hx]))
    have h2 := h xs (by simp)
    have h3 := numsT_len (sep := [46]) (xs := xs) (M := 1000) h2.2
    have e : ranksT (xs :: r) = 32 :: numsT [46] xs ++ ranksT r := by simp [ranksT]
    rw [e]
    rw [h2.1] at h3
    simp only [List.length_append, List.length_cons, List.length_nil] at *
    omega
theorem headT_len {cl lb : Int} {f s : List Int} {rs : List (List Int)} (h : CertS cl lb f s rs) : (headT cl lb f s).length ≤ 100000 := by
  have h1 := numT_len (M := 11) h.lb.1 (by have := h.lb.2; omega)
  have h2 := numsT_len (sep := [45]) (M := 11) h.f.2
  have h3 := numsT_len (sep := [45]) (M := 11) h.s.2
  have h4 := h.f.1
  have h5 := h.s.1
  unfold headT
  simp only [List.length_cons, List.length_nil] at h2 h3
  split
  · simp only [List.length_append, List.length_cons, List.length_nil]; omega
  · split
    · simp only [List.length_append, List.length_cons, List.length_nil]; omega
    · split
      · simp only [List.length_append, List.length_cons, List.length_nil]; omega
      · simp
structure Box5 (w : World) (b : Nat) (cl lb vf vs vr : Value) : Prop where
  c0 : w.cell? ⟨b, 0, none⟩ = some cl
  c1 : w.cell? ⟨b, 1, none⟩ = some lb
  c2 : w.cell? ⟨b, 2, none⟩ = some vf
  c3 : w.cell? ⟨b, 3, none⟩ = some vs
  c4 : w.cell? ⟨b, 4, none⟩ = some vr
theorem Box5.below {w w' : World} {b B : Nat} {cl lb vf vs vr : Value} (h : Box5 w b cl lb vf vs vr) (hb : Below B w w') (hB : b < B) : Box5 w' b cl lb vf vs vr :=
  ⟨(hb.cell (p := ⟨b, 0, none⟩) hB).trans h.c0, (hb.cell (p := ⟨b, 1, none⟩) hB).trans h.c1, (hb.cell (p := ⟨b, 2, none⟩) hB).trans h.c2, (hb.cell (p := ⟨b, 3, none⟩) hB).trans h.c3, (hb.cell (p := ⟨b, 4, none⟩) hB).trans h.c4⟩
def CtRel (h : List UInt8) (rs : List (List Int)) (w : World) (o i : Value) (wr : World) : Prop :=
  ∃ k : Nat, k ≤ rs.length ∧ i = .int .i64 k ∧ o = strV (h ++ ranksT (rs.take k)) ∧ Below w.heap.size w wr
end Go.Proofs.YtcfbkickiijjkaaGreatDoor
