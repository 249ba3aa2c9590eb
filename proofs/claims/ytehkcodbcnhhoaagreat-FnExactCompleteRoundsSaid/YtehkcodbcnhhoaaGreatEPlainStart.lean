/-
  The state at the start, the acts of a round, complete rounds: the plain law, with no program in sight. No condition.
-/
import Derived.Test.YtehkcodbcnhhoaaGreatEZ
namespace Go.Proofs.YtehkcodbcnhhoaaGreat
set_option linter.all false
def startAt (m : Mach) (n : Net) (v : Nat) : Int := (m.start.getD (n.es.getD v []).length []).getD (n.ins.getD v 0).toNat 0
def startK (m : Mach) (n : Net) (k : Nat) : List Int := (List.range k).map (startAt m n)
def startS (m : Mach) (n : Net) : List Int := startK m n n.es.length
theorem startK_succ (m : Mach) (n : Net) (k : Nat) : startK m n (k + 1) = startK m n k ++ [startAt m n k] := by simp [startK, List.range_succ]
def freeS (n : Net) : List (List Int) := n.es.map fun l => List.replicate l.length (-1)
def freeF (n : Net) : List (List Ends) := n.es.map fun l => List.replicate l.length []
def startX (m : Mach) (n : Net) : Asy := ⟨List.replicate n.es.length 0, startS m n, startS m n, freeS n, freeF n⟩
theorem startAt_ok {m : Mach} {n : Net} (h : fitP m n) {v : Nat} (hv : v < n.es.length) :
    ∃ l i r, n.es[v]? = some l ∧ n.ins[v]? = some i ∧ 0 ≤ i ∧ m.start[l.length]? = some r ∧ r[i.toNat]? = some (startAt m n v) ∧ 0 ≤ startAt m n v ∧ startAt m n v ≤ m.st - 1 := by
  obtain ⟨hm, hn, ho⟩ := h
  have hi : v < n.ins.length := by rw [hn.2.2.1]; exact hv
  have hl := List.getElem?_eq_getElem hv
  have hin := List.getElem?_eq_getElem hi
  have h1 := ho.1 _ (List.getElem_mem hv)
  have h2 := ho.2 _ (List.getElem_mem hi)
  have h3 := hn.2.2.2.1 _ (List.getElem_mem hi)
  have hsl := hm.2.1.1
  have hr : (n.es[v]).length < m.start.length := by omega
  have hrow := hm.2.2.2.1 _ (List.getElem_mem hr)
  have hx : (n.ins[v]).toNat < (m.start[(n.es[v]).length]).length := by have := hrow.1; omega
  have e : startAt m n v = (m.start[(n.es[v]).length])[(n.ins[v]).toNat] := by
    unfold startAt
    simp [List.getD_eq_getElem?_getD, hl, hin, List.getElem?_eq_getElem hr, List.getElem?_eq_getElem hx]
  refine ⟨_, _, _, hl, hin, h3.1, List.getElem?_eq_getElem hr, ?_, ?_⟩
  · rw [List.getElem?_eq_getElem hx, e]
  · rw [e]
    exact hrow.2 _ (List.getElem_mem hx)
theorem good_start {m : Mach} {n : Net} (h : fitP m n) : goodP m n (startX m n) := by
  refine ⟨h, ⟨by simp [startX], fun x hx => ?_⟩, ?_, ?_, by simp [startX, freeS], by simp [startX, freeF], fun v l s f hl hs hf => ?_⟩
  · have := (List.mem_replicate.1 hx).2
    omega
  · refine ⟨by simp [startX, startS, startK], fun x hx => ?_⟩
    obtain ⟨v, hv, rfl⟩ := List.mem_map.1 hx
    obtain ⟨_, _, _, _, _, _, _, _, h1, h2⟩ := startAt_ok h (List.mem_range.1 hv)
    omega
  · refine ⟨by simp [startX, startS, startK], fun x hx => ?_⟩
    obtain ⟨v, hv, rfl⟩ := List.mem_map.1 hx
    obtain ⟨_, _, _, _, _, _, _, _, h1, h2⟩ := startAt_ok h (List.mem_range.1 hv)
    omega
  · have hmsg := h.1.1.2.2
    have e1 : s = List.replicate l.length (-1) := by
      have : (freeS n)[v]? = some s := hs
      unfold freeS at this
      rw [List.getElem?_map, hl] at this
      exact (Option.some.inj this).symm
    have e2 : f = List.replicate l.length [] := by
      have : (freeF n)[v]? = some f := hf
      unfold freeF at this
      rw [List.getElem?_map, hl] at this
      exact (Option.some.inj this).symm
    subst e1 e2
    refine ⟨by simp, by simp, fun y hy => ?_, fun ls hls => ?_⟩
    · have := (List.mem_replicate.1 hy).2
      omega
    · rw [(List.mem_replicate.1 hls).2]
      exact ⟨by simp, fun e he => by cases he⟩
/-! ### acts -/
def actsOf (k : Int) (v many : Nat) : List Acts := (List.range many).map fun (p : Nat) => ⟨k, v, p, 0⟩
def portActs (k : Int) (es : List Ends) (j : Nat) : List Acts := (List.range j).flatMap fun v => actsOf k v (es.getD v []).length
def stepActs (j : Nat) : List Acts := (List.range j).map fun (v : Nat) => ⟨5, v, 0, 0⟩
def roundA (n : Net) : List Acts := portActs 1 n.es n.es.length ++ portActs 2 n.es n.es.length ++ stepActs n.es.length
theorem actsOf_succ (k : Int) (v j : Nat) : actsOf k v (j + 1) = actsOf k v j ++ [⟨k, v, j, 0⟩] := by simp [actsOf, List.range_succ]
theorem portActs_succ (k : Int) (es : List Ends) (j : Nat) : portActs k es (j + 1) = portActs k es j ++ actsOf k j (es.getD j []).length := by simp [portActs, List.range_succ, List.flatMap_append]
theorem stepActs_succ (j : Nat) : stepActs (j + 1) = stepActs j ++ [⟨5, j, 0, 0⟩] := by simp [stepActs, List.range_succ]
end Go.Proofs.YtehkcodbcnhhoaaGreat
