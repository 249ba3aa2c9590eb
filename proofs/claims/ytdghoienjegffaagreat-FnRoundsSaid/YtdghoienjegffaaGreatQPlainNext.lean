/-
  Situations of a rule: what a node does next, which nodes are enabled, what a move makes: the plain law, with no program in sight. No condition.
-/
import Derived.Test.YtdghoienjegffaaGreatQZ
namespace Go.Proofs.YtdghoienjegffaaGreat
set_option linter.all false
def LeastFree (xs : List Int) (c : Nat) : Prop := (∀ j, j < c → (j : Int) ∈ xs) ∧ (c : Int) ∉ xs
noncomputable def leastN (xs : List Int) : Nat := by
  classical exact if h : ∃ c, LeastFree xs c then Classical.choose h else 0
theorem LeastFree.eq {xs : List Int} {c d : Nat} (h : LeastFree xs c) (k : LeastFree xs d) : c = d := by
  rcases Nat.lt_trichotomy c d with hc | hc | hc
  · exact absurd (k.1 c hc) h.2
  · exact hc
  · exact absurd (h.1 d hc) k.2
theorem leastN_eq {xs : List Int} {c : Nat} (h : LeastFree xs c) : leastN xs = c := by
  have hx : ∃ c, LeastFree xs c := ⟨c, h⟩
  unfold leastN
  rw [dif_pos hx]
  exact (Classical.choose_spec hx).eq h
theorem pigeon : ∀ (c : Nat) (xs : List Int), (∀ j, j < c → (j : Int) ∈ xs) → c ≤ xs.length
  | 0, _, _ => Nat.zero_le _
  | c + 1, xs, h => by
    have hm := h c (by omega)
    have := pigeon c (xs.erase (c : Int)) fun j hj => (List.mem_erase_of_ne (by omega)).2 (h j (by omega))
    rw [List.length_erase_of_mem hm] at this
    have := List.length_pos_of_mem hm
    omega
def nearSt (l : List (Int × Int)) (ss : List Int) : List Int := l.map fun e => ss.getD e.1.toNat 0
theorem nearSt_len (l : List (Int × Int)) (ss : List Int) : (nearSt l ss).length = l.length := by simp [nearSt]
def portI {α : Type} (p : α → Bool) (l : List α) : Int := match l.findIdx? p with | some i => (i : Int) | none => -1
def pointsTo (ss : List Int) (e : Int × Int) : Bool := ss.getD e.1.toNat 0 == e.2 + 1
def isFree (ss : List Int) (e : Int × Int) : Bool := ss.getD e.1.toNat 0 == 0
def matchS (l : List (Int × Int)) (ss : List Int) (s : Int) : Int :=
  if 0 < s then (if isFree ss (l.getD (s - 1).toNat (0, 0)) || pointsTo ss (l.getD (s - 1).toNat (0, 0)) then s else 0)
  else if 0 ≤ portI (pointsTo ss) l then portI (pointsTo ss) l + 1 else portI (isFree ss) l + 1
def leastOf (k : Int) (xs : List Int) : Int := xs.foldl (fun a x => if a < x + 1 then a else x + 1) k
def treeS (n : Net) (l : List (Int × Int)) (ss : List Int) (v : Nat) : Int := if n.ins.getD v 0 = 1 then 0 else leastOf n.es.length (nearSt l ss)
def tokenS (n : Net) (l : List (Int × Int)) (ss : List Int) (v : Nat) (s : Int) : Int :=
  if n.ins.getD v 0 ≠ 1 then ss.getD (l.getD 1 (0, 0)).1.toNat 0
  else if ss.getD (l.getD 1 (0, 0)).1.toNat 0 = s then (s + 1).tmod (n.es.length + 1) else s
noncomputable def nextAt (n : Net) (r : Int) (ss : List Int) (v : Nat) (l : List (Int × Int)) (s : Int) : Int :=
  if r = 1 then treeS n l ss v
  else if r = 2 then (if s ∈ nearSt l ss then (leastN (nearSt l ss) : Int) else s)
  else if r = 3 then (if (1 : Int) ∈ nearSt l ss then 0 else 1)
  else if r = 4 then matchS l ss s
  else tokenS n l ss v s
noncomputable def nextS (n : Net) (r : Int) (ss : List Int) (v : Nat) : Int := nextAt n r ss v (n.es.getD v []) (ss.getD v 0)
theorem nextS_at {n : Net} {r : Int} {ss : List Int} {v : Nat} {l : List (Int × Int)} {s : Int} (hl : n.es[v]? = some l) (hs : ss[v]? = some s) : nextS n r ss v = nextAt n r ss v l s := by
  unfold nextS
  rw [List.getD_eq_getElem?_getD, hl, List.getD_eq_getElem?_getD, hs]
  rfl
theorem leastOf_min (k : Int) : ∀ (xs : List Int) (x : Int), leastOf k (x :: xs) = min (xs.foldl min x + 1) k
  | [], x => by
    show (if k < x + 1 then k else x + 1) = _
    simp only [List.foldl_nil]
    omega
  | y :: r, x => by
    have h := leastOf_min k r (min x y)
    simp only [List.foldl_cons] at h ⊢
    rw [← h]
    show leastOf (if (if k < x + 1 then k else x + 1) < y + 1 then (if k < x + 1 then k else x + 1) else y + 1) r = leastOf (if k < min x y + 1 then k else min x y + 1) r
    congr 1
    omega
noncomputable def enN (n : Net) (r : Int) (ss : List Int) : List Nat := (List.range ss.length).filter fun v => decide (nextS n r ss v ≠ ss.getD v 0)
noncomputable def enS (n : Net) (r : Int) (ss : List Int) : List Int := (enN n r ss).map fun v : Nat => (v : Int)
noncomputable def moveS (n : Net) (r : Int) (ss : List Int) (set : List Int) : List Int := set.foldl (fun out v => out.set v.toNat (nextS n r ss v.toNat)) ss
theorem moveS_snoc (n : Net) (r : Int) (ss set : List Int) (v : Int) : moveS n r ss (set ++ [v]) = (moveS n r ss set).set v.toNat (nextS n r ss v.toNat) := by
  unfold moveS; rw [List.foldl_append]; rfl
theorem moveS_len (n : Net) (r : Int) (ss : List Int) : ∀ set : List Int, (moveS n r ss set).length = ss.length := by
  suffices h : ∀ (set out : List Int), (set.foldl (fun out v => out.set v.toNat (nextS n r ss v.toNat)) out).length = out.length from fun set => h set ss
  intro set
  induction set with
  | nil => intro out; rfl
  | cons v t ih => intro out; rw [List.foldl_cons, ih, List.length_set]
theorem enS_mem {n : Net} {r : Int} {ss : List Int} {v : Int} (h : v ∈ enS n r ss) : 0 ≤ v ∧ v.toNat < ss.length := by
  unfold enS enN at h
  obtain ⟨u, hu, rfl⟩ := List.mem_map.1 h
  have := List.mem_range.1 (List.mem_filter.1 hu).1
  omega
end Go.Proofs.YtdghoienjegffaaGreat
