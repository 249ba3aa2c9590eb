/-
  How slices of numbers, and slices of such slices, are read in memory ('SlR', 'IntsR', 'RowsR': below a block number), and how a call's own ones lie in it, block by block ('OwnRow', 'OwnInts', 'OwnRows', with the blocks that they take). No program in sight, no condition.
-/
import Derived.Test.YtjhljipehnmbnaaGreatKit
import Derived.WalkKit
import Derived.Deep.AppendLies
import Derived.Deep.Draws
import Derived.Laws.Rows
import Derived.Laws.MakeOwn
namespace Go.Proofs.YtjhljipehnmbnaaGreat
open Go.RowKit
set_option linter.unusedVariables false

theorem block_add (a : Addr) (n : Nat) : (a.add n).block = a.block := by unfold Addr.add; split <;> rfl
def intV (x : Int) : Value := .int .i64 x
def I64 (x : Int) : Prop := -9223372036854775808 ≤ x ∧ x ≤ 9223372036854775807

/-- The slice v reads as the values vs, below block B. -/
def SlR (w : World) (B : Nat) (v : Value) (vs : List Value) : Prop :=
  ∃ A c, v = .slice A vs.length c ∧ vs.length ≤ c ∧ c ≤ maxLen ∧ (0 < vs.length → ∃ ad, A = some ad ∧ ad.block < B ∧ ∀ j u, vs[j]? = some u → w.cell? (ad.add j) = some u)
section
variable {w w' : World} {B B' : Nat} {v : Value} {vs : List Value}
theorem SlR.keep (h : SlR w B v vs) (hk : ∀ p : Addr, p.block < B → w'.cell? p = w.cell? p) : SlR w' B v vs := by
  obtain ⟨A, c, e, h1, h2, h3⟩ := h
  refine ⟨A, c, e, h1, h2, fun hn => ?_⟩
  obtain ⟨ad, e', hb, hc⟩ := h3 hn
  exact ⟨ad, e', hb, fun j u hu => (hk _ (by rw [block_add]; exact hb)).trans (hc j u hu)⟩
theorem SlR.below (h : SlR w B v vs) (hb : Below B w w') : SlR w' B v vs := h.keep fun _ hp => hb.cell hp
theorem SlR.more (h : SlR w B v vs) (hB : B ≤ B') : SlR w B' v vs := by
  obtain ⟨A, c, e, h1, h2, h3⟩ := h
  refine ⟨A, c, e, h1, h2, fun hn => ?_⟩
  obtain ⟨ad, e', hb, hc⟩ := h3 hn
  exact ⟨ad, e', by omega, hc⟩
theorem SlR.len_le (h : SlR w B v vs) : vs.length ≤ maxLen := by
  obtain ⟨A, c, e, h1, h2, h3⟩ := h; omega
end

/-- The slice v reads as the numbers xs. -/
def IntsR (w : World) (B : Nat) (v : Value) (xs : List Int) : Prop := SlR w B v (xs.map intV) ∧ ∀ x ∈ xs, I64 x
theorem IntsR.below {w w' : World} {B : Nat} {v : Value} {xs : List Int} (h : IntsR w B v xs) (hb : Below B w w') : IntsR w' B v xs := ⟨h.1.below hb, h.2⟩
theorem IntsR.more {w : World} {B B' : Nat} {v : Value} {xs : List Int} (h : IntsR w B v xs) (hB : B ≤ B') : IntsR w B' v xs := ⟨h.1.more hB, h.2⟩
theorem IntsR.open_ {w : World} {B : Nat} {v : Value} {xs : List Int} (h : IntsR w B v xs) :
    ∃ A c, v = .slice A xs.length c ∧ xs.length ≤ c ∧ c ≤ maxLen ∧ (0 < xs.length → ∃ ad, A = some ad ∧ ad.block < B ∧ ∀ j x, xs[j]? = some x → w.cell? (ad.add j) = some (.int .i64 x)) := by
  obtain ⟨A, c, e, h1, h2, h3⟩ := h.1
  rw [List.length_map] at e h1 h3
  refine ⟨A, c, e, h1, h2, fun hn => ?_⟩
  obtain ⟨ad, e', hb, hc⟩ := h3 hn
  exact ⟨ad, e', hb, fun j x hx => hc j _ (by rw [List.getElem?_map, hx]; rfl)⟩

/-- The slices vs read as the lists xss. -/
def AllR (w : World) (B : Nat) : List Value → List (List Int) → Prop
  | [], [] => True
  | v :: vs, xs :: xss => IntsR w B v xs ∧ AllR w B vs xss
  | _, _ => False
theorem AllR.mono {w w' : World} {B B' : Nat} (h : ∀ v xs, IntsR w B v xs → IntsR w' B' v xs) : ∀ {vs : List Value} {xss : List (List Int)}, AllR w B vs xss → AllR w' B' vs xss
  | [], [], _ => trivial
  | _ :: _, _ :: _, ⟨a, b⟩ => ⟨h _ _ a, AllR.mono h b⟩
  | [], _ :: _, k => k.elim
  | _ :: _, [], k => k.elim
theorem AllR.len {w : World} {B : Nat} : ∀ {vs : List Value} {xss : List (List Int)}, AllR w B vs xss → vs.length = xss.length
  | [], [], _ => rfl
  | _ :: _, _ :: _, ⟨_, b⟩ => by simp [AllR.len b]
  | [], _ :: _, k => k.elim
  | _ :: _, [], k => k.elim
theorem AllR.at_ {w : World} {B : Nat} : ∀ {vs : List Value} {xss : List (List Int)} (_ : AllR w B vs xss) {k : Nat} {v : Value} {xs : List Int}, vs[k]? = some v → xss[k]? = some xs → IntsR w B v xs
  | _ :: _, _ :: _, ⟨a, _⟩, 0, _, _, h1, h2 => by
    simp only [List.getElem?_cons_zero, Option.some.injEq] at h1 h2
    subst h1 h2
    exact a
  | _ :: _, _ :: _, ⟨_, b⟩, _ + 1, _, _, h1, h2 => b.at_ (by simpa using h1) (by simpa using h2)
  | [], [], _, _, _, _, h1, _ => by simp at h1
  | [], _ :: _, k, _, _, _, _, _ => k.elim
  | _ :: _, [], k, _, _, _, _, _ => k.elim

/-- The slice v reads as the lists xss. -/
def RowsR (w : World) (B : Nat) (v : Value) (xss : List (List Int)) : Prop := ∃ vs, SlR w B v vs ∧ AllR w B vs xss
section
variable {w w' : World} {B B' : Nat} {v : Value} {xss : List (List Int)}
theorem RowsR.below (h : RowsR w B v xss) (hb : Below B w w') : RowsR w' B v xss := by
  obtain ⟨vs, h1, h2⟩ := h
  exact ⟨vs, h1.below hb, h2.mono fun _ _ k => k.below hb⟩
theorem RowsR.more (h : RowsR w B v xss) (hB : B ≤ B') : RowsR w B' v xss := by
  obtain ⟨vs, h1, h2⟩ := h
  exact ⟨vs, h1.more hB, h2.mono fun _ _ k => k.more hB⟩
theorem RowsR.open_ (h : RowsR w B v xss) :
    ∃ A c, v = .slice A xss.length c ∧ xss.length ≤ c ∧ c ≤ maxLen ∧ (0 < xss.length → ∃ ad, A = some ad ∧ ad.block < B ∧ ∀ j xs, xss[j]? = some xs → ∃ u, w.cell? (ad.add j) = some u ∧ IntsR w B u xs) := by
  obtain ⟨vs, ⟨A, c, e, h1, h2, h3⟩, hall⟩ := h
  have hl := hall.len
  rw [hl] at e h1 h3
  refine ⟨A, c, e, h1, h2, fun hn => ?_⟩
  obtain ⟨ad, e', hb, hc⟩ := h3 hn
  refine ⟨ad, e', hb, fun j xs hx => ?_⟩
  have hj : j < vs.length := by
    have := (List.getElem?_eq_some_iff.1 hx).1
    omega
  exact ⟨vs[j], hc j _ (List.getElem?_eq_getElem hj), hall.at_ (List.getElem?_eq_getElem hj) hx⟩
end

/-! ### What the call itself has made -/
/-- Outside the blocks bs nothing has turned, and none is new. -/
structure SameBut (bs : List Nat) (w w' : World) : Prop where
  os : w'.os = w.os
  tape : w'.tape = w.tape
  output : w'.output = w.output
  size : w'.heap.size = w.heap.size
  block : ∀ b, b ∉ bs → w'.heap[b]? = w.heap[b]?
theorem SameBut.below {bs : List Nat} {w w' : World} (h : SameBut bs w w') {B : Nat} (hb : ∀ b ∈ bs, B ≤ b) : Below B w w' :=
  ⟨h.os, h.tape, h.output, by rw [h.size]; exact Nat.le_refl _, fun k hk => h.block k fun hm => by have := hb k hm; omega⟩

def OwnRow (w : World) (e : TypeId) (v : Value) (vs : List Value) (bs : List Nat) : Prop :=
  (vs = [] ∧ bs = [] ∧ ∃ A c, v = .slice A 0 c ∧ c ≤ maxLen) ∨
  ∃ g c cur, v = .slice (some ⟨g, 0, none⟩) vs.length c ∧ vs.length ≤ c ∧ c ≤ maxLen ∧ w.heap[g]? = some (.cells cur e (0, 0)) ∧ cur.size = c ∧ cur.toList.take vs.length = vs ∧ bs = [g]
section
variable {w w' : World} {e : TypeId} {v : Value} {vs : List Value} {bs : List Nat}
theorem OwnRow.keep (h : OwnRow w e v vs bs) (hk : ∀ b ∈ bs, w'.heap[b]? = w.heap[b]?) : OwnRow w' e v vs bs := by
  rcases h with h | ⟨g, c, cur, h1, h2, h3, h4, h5, h6, h7⟩
  · exact .inl h
  · exact .inr ⟨g, c, cur, h1, h2, h3, (hk g (by rw [h7]; simp)).trans h4, h5, h6, h7⟩
theorem OwnRow.reads (h : OwnRow w e v vs bs) {B : Nat} (hB : ∀ b ∈ bs, b < B) : SlR w B v vs := by
  rcases h with ⟨rfl, rfl, A, c, rfl, hc⟩ | ⟨g, c, cur, h1, h2, h3, h4, h5, h6, h7⟩
  · exact ⟨A, c, rfl, Nat.zero_le _, hc, fun hn => absurd hn (by simp)⟩
  · refine ⟨some ⟨g, 0, none⟩, c, h1, h2, h3, fun hn => ⟨_, rfl, hB g (by rw [h7]; simp), fun j u hu => ?_⟩⟩
    have hj : j < vs.length := (List.getElem?_eq_some_iff.1 hu).1
    have e1 : (⟨g, 0, none⟩ : Addr).add j = ⟨g, j, none⟩ := by unfold Addr.add; split <;> simp_all
    rw [e1, cell_of_row w g j cur e (0, 0) h4, ← Array.getElem?_toList]
    have : cur.toList[j]? = (cur.toList.take vs.length)[j]? := by rw [List.getElem?_take, if_pos hj]
    rw [this, h6, hu]
theorem OwnRow.lt (h : OwnRow w e v vs bs) : ∀ b ∈ bs, b < w.heap.size := by
  rcases h with ⟨_, rfl, _⟩ | ⟨g, c, cur, _, _, _, h4, _, _, h7⟩
  · intro b hb; cases hb
  · intro b hb
    rw [h7] at hb
    obtain rfl : b = g := by simpa using hb
    rcases Nat.lt_or_ge b w.heap.size with h | h
    · exact h
    · rw [Array.getElem?_eq_none h] at h4; cases h4
theorem OwnRow.of_owns {base n : Nat} (h : w.ownsRow base e 1 v n vs) : ∃ bs, OwnRow w e v vs bs ∧ (∀ b ∈ bs, base ≤ b) ∧ bs.Nodup := by
  have hl : vs.length = n := by have := h.1; omega
  rcases h.2 with ⟨rfl, hn⟩ | ⟨g, cap, cur, h1, h2, h3, h4, h5, h6, h7⟩
  · have : vs = [] := List.eq_nil_of_length_eq_zero (by omega)
    exact ⟨[], .inl ⟨this, rfl, none, 0, rfl, Nat.zero_le _⟩, (fun _ hb => by cases hb), List.nodup_nil⟩
  · refine ⟨[g], .inr ⟨g, cap, cur, by rw [hl]; exact h1, by omega, h5, h3, by omega, ?_, rfl⟩, fun b hb => by simp at hb; omega, by simp⟩
    rw [hl]
    simpa using h7
end
theorem OwnRow.isSlice {w : World} {e : TypeId} {v : Value} {vs : List Value} {bs : List Nat} (h : OwnRow w e v vs bs) : ∃ A n c, v = .slice A n c := by
  rcases h with ⟨_, _, A, c, rfl, _⟩ | ⟨g, c, cur, rfl, _⟩
  · exact ⟨_, _, _, rfl⟩
  · exact ⟨_, _, _, rfl⟩
def OwnInts (w : World) (e : TypeId) (v : Value) (xs : List Int) (bs : List Nat) : Prop := OwnRow w e v (xs.map intV) bs ∧ ∀ x ∈ xs, I64 x
theorem OwnInts.keep {w w' : World} {e : TypeId} {v : Value} {xs : List Int} {bs : List Nat} (h : OwnInts w e v xs bs) (hk : ∀ b ∈ bs, w'.heap[b]? = w.heap[b]?) : OwnInts w' e v xs bs := ⟨h.1.keep hk, h.2⟩
theorem OwnInts.reads {w : World} {e : TypeId} {v : Value} {xs : List Int} {bs : List Nat} (h : OwnInts w e v xs bs) {B : Nat} (hB : ∀ b ∈ bs, b < B) : IntsR w B v xs := ⟨h.1.reads hB, h.2⟩
def OwnAll (w : World) (e : TypeId) : List Value → List (List Int) → List Nat → Prop
  | [], [], bs => bs = []
  | v :: vs, xs :: xss, bs => ∃ b1 b2, OwnInts w e v xs b1 ∧ OwnAll w e vs xss b2 ∧ bs = b1 ++ b2
  | _, _, _ => False
theorem OwnAll.keep {w w' : World} {e : TypeId} : ∀ {vs : List Value} {xss : List (List Int)} {bs : List Nat}, OwnAll w e vs xss bs → (∀ b ∈ bs, w'.heap[b]? = w.heap[b]?) → OwnAll w' e vs xss bs
  | [], [], _, h, _ => h
  | _ :: _, _ :: _, _, ⟨b1, b2, h1, h2, rfl⟩, hk => ⟨b1, b2, h1.keep fun b hb => hk b (by simp [hb]), h2.keep fun b hb => hk b (by simp [hb]), rfl⟩
  | [], _ :: _, _, h, _ => h.elim
  | _ :: _, [], _, h, _ => h.elim
theorem OwnAll.snoc {w : World} {e : TypeId} {v : Value} {xs : List Int} {b : List Nat} (hv : OwnInts w e v xs b) : ∀ {vs : List Value} {xss : List (List Int)} {bs : List Nat}, OwnAll w e vs xss bs → OwnAll w e (vs ++ [v]) (xss ++ [xs]) (bs ++ b)
  | [], [], _, h => by
    have : _ = [] := h
    subst this
    exact ⟨b, [], hv, rfl, by simp⟩
  | _ :: _, _ :: _, _, ⟨b1, b2, h1, h2, rfl⟩ => ⟨b1, b2 ++ b, h1, h2.snoc hv, by simp⟩
  | [], _ :: _, _, h => h.elim
  | _ :: _, [], _, h => h.elim
theorem OwnAll.reads {w : World} {e : TypeId} {B : Nat} : ∀ {vs : List Value} {xss : List (List Int)} {bs : List Nat}, OwnAll w e vs xss bs → (∀ b ∈ bs, b < B) → AllR w B vs xss
  | [], [], _, _, _ => trivial
  | _ :: _, _ :: _, _, ⟨b1, b2, h1, h2, rfl⟩, hB => ⟨h1.reads fun b hb => hB b (by simp [hb]), h2.reads fun b hb => hB b (by simp [hb])⟩
  | [], _ :: _, _, h, _ => h.elim
  | _ :: _, [], _, h, _ => h.elim
theorem OwnAll.len {w : World} {e : TypeId} : ∀ {vs : List Value} {xss : List (List Int)} {bs : List Nat}, OwnAll w e vs xss bs → vs.length = xss.length
  | [], [], _, _ => rfl
  | _ :: _, _ :: _, _, ⟨_, _, _, h2, _⟩ => by simp [OwnAll.len h2]
  | [], _ :: _, _, h => h.elim
  | _ :: _, [], _, h => h.elim
/-- The slice v of the call's own reads as the lists xss and takes the blocks bs, each once. -/
def OwnRows (w : World) (es ei : TypeId) (v : Value) (xss : List (List Int)) (bs : List Nat) : Prop := ∃ vs b0 b1, OwnRow w es v vs b0 ∧ OwnAll w ei vs xss b1 ∧ bs = b0 ++ b1
theorem OwnRows.keep {w w' : World} {es ei : TypeId} {v : Value} {xss : List (List Int)} {bs : List Nat} (h : OwnRows w es ei v xss bs) (hk : ∀ b ∈ bs, w'.heap[b]? = w.heap[b]?) : OwnRows w' es ei v xss bs := by
  obtain ⟨vs, b0, b1, h1, h2, rfl⟩ := h
  exact ⟨vs, b0, b1, h1.keep fun b hb => hk b (by simp [hb]), h2.keep fun b hb => hk b (by simp [hb]), rfl⟩
theorem OwnRows.isSlice {w : World} {es ei : TypeId} {v : Value} {xss : List (List Int)} {bs : List Nat} (h : OwnRows w es ei v xss bs) : ∃ A n c, v = .slice A n c := by
  obtain ⟨_, _, _, h1, _⟩ := h
  exact h1.isSlice
theorem OwnRows.reads {w : World} {es ei : TypeId} {v : Value} {xss : List (List Int)} {bs : List Nat} (h : OwnRows w es ei v xss bs) {B : Nat} (hB : ∀ b ∈ bs, b < B) : RowsR w B v xss := by
  obtain ⟨vs, b0, b1, h1, h2, rfl⟩ := h
  exact ⟨vs, h1.reads fun b hb => hB b (by simp [hb]), h2.reads fun b hb => hB b (by simp [hb])⟩

theorem heap_set_same {w : World} {g i : Nat} {cs : Array Value} {t : TypeId} {m : Nat × Nat} (h : w.heap[g]? = some (.cells cs t m)) (u : Value) : (w.setCell ⟨g, i, none⟩ u).heap[g]? = some (.cells (cs.setIfInBounds i u) t m) := by
  simp [World.setCell, Array.getElem?_modify, h]
theorem size_setCell (w : World) (p : Addr) (u : Value) : (w.setCell p u).heap.size = w.heap.size := by simp [World.setCell]
theorem below_setCell_own {w w1 : World} {B : Nat} (h : Below B w w1) {p : Addr} (hp : B ≤ p.block) (u : Value) : Below B w (w1.setCell p u) := h.setCell hp u
/-! ### Rows that are made and filled -/
/-- The cells of a row of n: those that are laid, then zeros. -/
def rowOf (done : List Value) (n : Nat) (z : Value) : Array Value := (done ++ List.replicate (n - done.length) z).toArray
theorem rowOf_size {done : List Value} {n : Nat} {z : Value} (h : done.length ≤ n) : (rowOf done n z).size = n := by simp [rowOf]; omega
theorem rowOf_nil (n : Nat) (z : Value) : rowOf [] n z = madeCells #[z] n := by
  apply Array.ext
  · simp [rowOf, madeCells]
  · intro i h1 h2
    simp [rowOf, madeCells, Nat.mod_one]
theorem rowOf_next {done : List Value} {n : Nat} {z : Value} (h : done.length < n) : (rowOf done n z)[done.length]? = some z := by
  unfold rowOf
  rw [List.getElem?_toArray, List.getElem?_append_right (Nat.le_refl _), Nat.sub_self, List.getElem?_replicate, if_pos (by omega)]
theorem rowOf_set {done : List Value} {n : Nat} {z : Value} (h : done.length < n) (x : Value) : (rowOf done n z).setIfInBounds done.length x = rowOf (done ++ [x]) n z := by
  unfold rowOf
  obtain ⟨m, hm⟩ : ∃ m, n - done.length = m + 1 := ⟨n - done.length - 1, by omega⟩
  rw [hm, show n - (done ++ [x]).length = m by simp; omega, List.replicate_succ, List.setIfInBounds_toArray]
  simp
theorem rowOf_full (done : List Value) (z : Value) : rowOf done done.length z = done.toArray := by simp [rowOf]
theorem run_make1 {P : Program} (t e : TypeId) (z : Value) (bytes : Nat) (ht : P.underlying t = some (.slice e)) (hinf : (P.info? e).map (fun i => (i.zero, i.size, i.bytes)) = some (some z, 1, bytes)) (hz : z.cells = #[z]) (n : Nat)
    (hb : bytes * n ≤ 281474976710656) (h63 : n ≤ 9223372036854775807) (w : World) :
    (Instr.makeSlice t (.int .i64 (n : Int)) (.int .i64 (n : Int))).run P w = .ok (.slice (some ⟨w.heap.size, 0, none⟩) n n) (w.alloc (.cells (rowOf [] n z) e)) := by
  obtain ⟨i, hi, hz0, hz1, hz2⟩ := info_parts hinf
  have hb' : (i.bytes : Int) * (n : Int) ≤ 281474976710656 := by
    rw [hz2]
    have h : ((bytes * n : Nat) : Int) ≤ 281474976710656 := by omega
    rwa [Int.natCast_mul] at h
  have hr := run_make (P := P) w t e i z ht hi hz0 .i64 .i64 n n (by omega) (by omega) hb' (by omega)
  simp only [Int.toNat_natCast] at hr
  rw [hr, rowOf_nil, hz, hz1, Nat.mul_one]
end Go.Proofs.YtjhljipehnmbnaaGreat
