/-
  Small lemmas and contracts that the texts of this claim share. No condition.
-/
import Derived.Test.YtjklbjmdgiddcaaGreatGZ
import Derived.Laws.AppendOwn
import Derived.IntWalk
namespace Go.Proofs.YtjklbjmdgiddcaaGreat
set_option linter.all false
structure Net where
  es : List (List (Int × Int))
  ids : List Int
  ins : List Int
def endOk (es : List (List (Int × Int))) (v i : Nat) (e : Int × Int) : Prop :=
  0 ≤ e.1 ∧ 0 ≤ e.2 ∧ ∃ l, es[e.1.toNat]? = some l ∧ l[e.2.toNat]? = some ((v : Int), (i : Int))
def nodeOk (es : List (List (Int × Int))) (v : Nat) (l : List (Int × Int)) : Prop := l.length ≤ 6 ∧ ∀ i e, l[i]? = some e → endOk es v i e
def idsP (ids : List Int) (k : Nat) : Prop := (∀ x ∈ ids, 1 ≤ x ∧ x ≤ 999999) ∧ ids.Nodup ∧ (ids = [] ∨ ids.length = k)
def netP (n : Net) : Prop := (1 ≤ n.es.length ∧ n.es.length ≤ 40) ∧ idsP n.ids n.es.length ∧ n.ins.length = n.es.length ∧ (∀ x ∈ n.ins, 0 ≤ x ∧ x ≤ 9) ∧ ∀ v l, n.es[v]? = some l → nodeOk n.es v l
noncomputable def netB (n : Net) : Bool := propB (netP n)
/-! ### Distances from a node -/
def visit (w : Nat) : List (Int × Int) → List Int × List Int → List Int × List Int
  | [], s => s
  | e :: r, s => if s.1.getD e.1.toNat 0 < 0 then visit w r (s.1.set e.1.toNat (s.1.getD w 0 + 1), s.2 ++ [e.1]) else visit w r s
def bfs (es : List (List (Int × Int))) : Nat → List Int → List Int → List Int
  | 0, d, _ => d
  | _ + 1, d, [] => d
  | f + 1, d, w :: q => bfs es f (visit w.toNat (es.getD w.toNat []) (d, q)).1 (visit w.toNat (es.getD w.toNat []) (d, q)).2
def far (es : List (List (Int × Int))) (v : Nat) : List Int := bfs es es.length ((List.replicate es.length (-1)).set v 0) [(v : Int)]
/-! ### Rules and counts -/
def degs (n : Net) : List Int := n.es.map fun l => (l.length : Int)
def most (l : List Int) : Int := l.foldl (fun a x => if a > x then a else x) 0
theorem degs_bd {n : Net} (h : netP n) : ∀ x ∈ degs n, 0 ≤ x ∧ x ≤ 6 := fun x hx => by obtain ⟨l, hl, rfl⟩ := List.mem_map.1 hx;obtain ⟨v, hv⟩ := List.mem_iff_getElem?.1 hl;have := (h.2.2.2.2 v l hv).1;omega
def risingP (l : List Int) (lo hi : Int) : Prop := (∀ x ∈ l, lo ≤ x ∧ x ≤ hi) ∧ ∀ (i : Nat) (a b : Int), l[i]? = some a → l[i + 1]? = some b → a < b
theorem rising_pair {l : List Int} (h : ∀ (i : Nat) (a b : Int), l[i]? = some a → l[i + 1]? = some b → a < b) : l.Pairwise (· < ·) := by
  induction l with
  | nil => exact .nil
  | cons x r ih =>
    have hr := ih fun i a b h1 h2 => h (i + 1) a b (by simpa using h1) (by simpa using h2)
    refine List.pairwise_cons.2 ⟨fun y hy => ?_, hr⟩;cases r with
    | nil => cases hy
    | cons z t =>
      have h0 := h 0 x z rfl rfl;rcases List.mem_cons.1 hy with rfl | hy
      · exact h0
      · have := (List.pairwise_cons.1 hr).1 y hy
        omega
theorem pair_rising {l : List Int} (h : l.Pairwise (· < ·)) : ∀ (i : Nat) (a b : Int), l[i]? = some a → l[i + 1]? = some b → a < b := by intro i a b h1 h2;obtain ⟨i1, rfl⟩ := aB.1 h1;obtain ⟨i2, rfl⟩ := aB.1 h2;exact List.pairwise_iff_getElem.1 h i (i + 1) i1 i2 (by omega)
theorem ids_sorted {ids ys : List Int} {k : Nat} (hp : ys.Perm ids) (hs : ys.Pairwise (· ≤ ·)) (hne : ids ≠ []) : (ids.length = k ∧ risingP ys 1 999999) ↔ idsP ids k := by
  unfold idsP risingP;constructor
  · rintro ⟨h1, h2, h3⟩
    have hn : ys.Nodup := (rising_pair h3).imp fun h => by omega
    exact ⟨fun x hx => h2 x (hp.mem_iff.2 hx), hp.nodup_iff.1 hn, .inr h1⟩
  · rintro ⟨h1, h2, h3⟩
    have hn : ys.Nodup := hp.nodup_iff.2 h2;refine ⟨by rcases h3 with h | h; exact absurd h hne; exact h, fun x hx => h1 x (hp.mem_iff.1 hx), pair_rising ?_⟩;have : ys.Pairwise (fun a b => a ≤ b ∧ a ≠ b) := List.Pairwise.and hs hn;exact this.imp fun h => by omega
theorem ids_loop {ids : List Int} : (∀ (i : Nat) (x : Int), ids[i]? = some x → (1 ≤ x ∧ x ≤ 999999) ∧ x ∉ ids.take i) ↔ (∀ x ∈ ids, 1 ≤ x ∧ x ≤ 999999) ∧ ids.Nodup := by
  constructor
  · intro h
    refine ⟨fun x hx => ?_, ?_⟩
    · obtain ⟨i, hi⟩ := List.mem_iff_getElem?.1 hx
      exact (h i x hi).1
    · refine List.pairwise_iff_getElem.2 fun i j hi hj hij e => ?_
      refine (h j ids[j] (aC hj)).2 ?_;rw [← e];refine aN (i := i) ?_;rw [List.getElem?_take, if_pos hij, aC hi]
  · rintro ⟨h1, h2⟩ i x hx
    refine ⟨h1 x (aN hx), fun hm => ?_⟩;obtain ⟨j, hj⟩ := List.mem_iff_getElem?.1 hm;rw [List.getElem?_take] at hj;split at hj
    · rename_i hji
      obtain ⟨i1, rfl⟩ := aB.1 hx;obtain ⟨j1, e⟩ := aB.1 hj;exact List.pairwise_iff_getElem.1 h2 j i j1 i1 hji e
    · cases hj
end Go.Proofs.YtjklbjmdgiddcaaGreat
namespace Go.Proofs.YtjklbjmdgiddcaaGreat
open Go.RowKit
set_option linter.all false
abbrev Ends := List (Int × Int)
def EndsR (w : World) (S : Nat → Prop) (v : Value) (es : Ends) : Prop :=
  ∃ A c, v = .slice A es.length c ∧ es.length ≤ c ∧ c ≤ maxLen ∧ (∀ e ∈ es, I64 e.1 ∧ I64 e.2) ∧ (0 < es.length → ∃ b o, A = some ⟨b, o, none⟩ ∧ S b ∧
    ∀ k e, es[k]? = some e → w.cell? ⟨b, o + k * 2, none⟩ = some (.int .i64 e.1) ∧ w.cell? ⟨b, o + k * 2 + 1, none⟩ = some (.int .i64 e.2))
def EndssR (w : World) (S : Nat → Prop) (v : Value) (ess : List Ends) : Prop :=
  ∃ A c, v = .slice A ess.length c ∧ ess.length ≤ c ∧ c ≤ maxLen ∧ (0 < ess.length → ∃ ad, A = some ad ∧ S ad.block ∧
    ∀ k es, ess[k]? = some es → ∃ u, w.cell? (ad.add k) = some u ∧ EndsR w S u es)
section
variable {w w' : World} {S S' : Nat → Prop} {v : Value}
theorem EndsR.keep {es : Ends} (h : EndsR w S v es) (hS : ∀ b, S b → S' b) (hk : ∀ b, S b → w'.heap[b]? = w.heap[b]?) : EndsR w' S' v es := by obtain ⟨A, c, e, h1, h2, h3, h4⟩ := h;refine ⟨A, c, e, h1, h2, h3, fun hn => ?_⟩;obtain ⟨b, o, e', hb, hc⟩ := h4 hn;refine ⟨b, o, e', hS b hb, fun k x hx => ?_⟩;obtain ⟨k1, k2⟩ := hc k x hx;exact ⟨(World.cell?_of_block (hk b hb)).trans k1, (World.cell?_of_block (hk b hb)).trans k2⟩
theorem EndssR.keep {ess : List Ends} (h : EndssR w S v ess) (hS : ∀ b, S b → S' b) (hk : ∀ b, S b → w'.heap[b]? = w.heap[b]?) : EndssR w' S' v ess := by obtain ⟨A, c, e, h1, h2, h4⟩ := h;refine ⟨A, c, e, h1, h2, fun hn => ?_⟩;obtain ⟨ad, e', hb, hc⟩ := h4 hn;refine ⟨ad, e', hS _ hb, fun k x hx => ?_⟩;obtain ⟨u, k1, k2⟩ := hc k x hx;exact ⟨u, (World.cell?_of_block (by rw [block_add]; exact hk _ hb)).trans k1, k2.keep hS hk⟩
end
abbrev EndsB (w : World) (B : Nat) (v : Value) (es : Ends) : Prop := EndsR w (· < B) v es
theorem EndsR.below {w w' : World} {B : Nat} {v : Value} {es : Ends} (h : EndsB w B v es) (hb : Below B w w') : EndsB w' B v es := h.keep (fun _ h => h) fun b hB => hb.block b hB
theorem EndsR.more {w : World} {B B' : Nat} {v : Value} {es : Ends} (h : EndsB w B v es) (hB : B ≤ B') : EndsB w B' v es := h.keep (fun _ h => aF h hB) fun _ _ => rfl
structure NetR (w : World) (B : Nat) (ve vi vn : Value) (n : Net) : Prop where
  e : EndssR w (· < B) ve n.es
  i : IntsR w B vi n.ids
  n : IntsR w B vn n.ins
theorem NetR.below {w w' : World} {B : Nat} {ve vi vn : Value} {n : Net} (h : NetR w B ve vi vn n) (hb : Below B w w') : NetR w' B ve vi vn n :=
  ⟨h.e.keep (fun _ h => h) fun b hB => hb.block b hB, h.i.below hb, h.n.below hb⟩
theorem NetR.more {w : World} {B B' : Nat} {ve vi vn : Value} {n : Net} (h : NetR w B ve vi vn n) (hB : B ≤ B') : NetR w B' ve vi vn n :=
  ⟨h.e.keep (fun _ h => aF h hB) fun _ _ => rfl, h.i.more hB, h.n.more hB⟩
theorem NetR.up {w w' : World} {ve vi vn : Value} {n : Net} (h : NetR w w.heap.size ve vi vn n) (hb : Below w.heap.size w w') : NetR w' w'.heap.size ve vi vn n := (h.below hb).more hb.size
theorem IntsR.isSlice {w : World} {B : Nat} {v : Value} {xs : List Int} (h : IntsR w B v xs) : ∃ A m c, v = .slice A m c := by obtain ⟨A, c, rfl, _⟩ := h.open_;exact ⟨_, _, _, rfl⟩
theorem EndssR.isSlice {w : World} {S : Nat → Prop} {v : Value} {xs : List Ends} (h : EndssR w S v xs) : ∃ A m c, v = .slice A m c := by obtain ⟨A, c, rfl, _⟩ := h;exact ⟨_, _, _, rfl⟩
theorem NetR.slices {w : World} {B : Nat} {ve vi vn : Value} {n : Net} (h : NetR w B ve vi vn n) : (∃ A m c, ve = .slice A m c) ∧ (∃ A m c, vi = .slice A m c) ∧ ∃ A m c, vn = .slice A m c := ⟨h.e.isSlice, h.i.isSlice, h.n.isSlice⟩
theorem ints_row {w : World} {g B : Nat} {t : TypeId} {xs : List Int} (hc : w.heap[g]? = some (.cells (xs.map intV).toArray t (0, 0))) (hl : xs.length ≤ maxLen) (hI : ∀ x ∈ xs, I64 x) (hg : g < B) : IntsR w B (.slice (some ⟨g, 0, none⟩) xs.length xs.length) xs := by refine ⟨⟨some ⟨g, 0, none⟩, xs.length, by rw [List.length_map], by rw [List.length_map]; exact Nat.le_refl _, hl, fun _ => ⟨_, rfl, hg, fun j u hu => ?_⟩⟩, hI⟩;rw [show (⟨g, 0, none⟩ : Addr).add j = ⟨g, j, none⟩ by unfold Addr.add; split <;> simp_all, cell_of_row _ _ j _ _ (0, 0) hc, ← Array.getElem?_toList];exact hu
end Go.Proofs.YtjklbjmdgiddcaaGreat
namespace Go.Proofs.YtjklbjmdgiddcaaGreat
section
open Go.RowKit
set_option linter.all false
theorem box3 (w : World) (a b c : Value) (t : TypeId) : ∃ w0, w0 = w.alloc (.cells #[a, b, c] t) ∧ Below w.heap.size w w0 ∧ Hid (w0.heap[w.heap.size]? = some (.cells #[a, b, c] t (0, 0))) ∧ w.heap.size < w0.heap.size ∧ Hid (w0.heap.size = w.heap.size + 1) :=
  ⟨_, rfl, bl_alloc (Below.refl _ _) _, aA (heap_alloc_new w _), by simp, aA (by simp)⟩
theorem box2 (w : World) (a b : Value) (t : TypeId) : ∃ w0, w0 = w.alloc (.cells #[a, b] t) ∧ Below w.heap.size w w0 ∧ Hid (w0.heap[w.heap.size]? = some (.cells #[a, b] t (0, 0))) ∧ w.heap.size < w0.heap.size ∧ Hid (w0.heap.size = w.heap.size + 1) :=
  ⟨_, rfl, bl_alloc (Below.refl _ _) _, aA (heap_alloc_new w _), by simp, aA (by simp)⟩
noncomputable def hasB (xs : List Int) (x : Int) : Bool := propB (x ∈ xs)
theorem hasB_t {xs : List Int} {x : Int} (h : x ∈ xs) : hasB xs x = true := propB_t h
theorem hasB_f {xs : List Int} {x : Int} (h : x ∉ xs) : hasB xs x = false := propB_f h
def NotTo (xs : List Int) (x : Int) (k : Nat) : Prop := ∀ j y, j < k → xs[j]? = some y → y ≠ x
theorem NotTo.all {xs : List Int} {x : Int} {k : Nat} (h : NotTo xs x k) (hk : xs.length ≤ k) : x ∉ xs := fun hm => by obtain ⟨j, hj⟩ := List.mem_iff_getElem?.1 hm;exact h j x (by have := (aB.1 hj).1; omega) hj rfl
theorem NotTo.next {xs : List Int} {x y : Int} {k : Nat} (h : NotTo xs x k) (hy : xs[k]? = some y) (hne : y ≠ x) : NotTo xs x (k + 1) := fun j z hj hz => by
  by_cases e : j = k
  · subst e; rw [hy] at hz; cases hz; exact hne
  · exact h j z (by omega) hz
def HasRel (xs : List Int) (x : Int) (w : World) (i : Value) (wr : World) : Prop := w = wr ∧ ∃ k : Nat, k ≤ xs.length ∧ i = .int .i64 k ∧ NotTo xs x k
theorem spec_l1Has (v : Value) (xs : List Int) (x : Int) (w : World) (h : IntsR w w.heap.size v xs) :
    Calls Tryz.prog 62 #[v, .int .i64 x] w fun e w' => e = .returned (.bool (hasB xs x)) ∧ w = w' := by
  obtain ⟨A, c, rfl, h1, h2, h3⟩ := h.open_;unfold maxLen at h2;clear h;go_enter Tryz.func62, Tryz.ntmps62;go_wp2_with fail;go_loopw [9, 6] (fun i _ wr => HasRel xs x w i wr) (fun i _ _ => xs.length - (intOf i).toNat)
  case atStart => exact ⟨rfl, 0, Nat.zero_le _, rfl, fun _ _ h => absurd h (by omega)⟩
  case round =>
    obtain ⟨rfl, k, hk, rfl, hup⟩ := hrel;have HU := aA hup; clear hup;by_cases hlt : k < xs.length
    · obtain ⟨y, hy⟩ : ∃ y, xs[k]? = some y := ⟨xs[k], aC hlt⟩
      obtain ⟨ad, rfl, hb, hc⟩ := h3 (by omega);have hcell := hc k y hy;have HX := aA hy;clear h3 hc hy;by_cases e : y = x
      · have HE := aA e
        have kq : (y == x) = true := by simpa using e
        clear e;go_wp2_with fail;go_ret;exact ⟨ret_bool (hasB_t (by rw [← HE.out]; exact aN HX.out)).symm, rfl⟩
      · have HE := aA e
        have kq : (y == x) = false := by simpa using e
        clear e;go_wp2_with fail;go_roundw
        case rel => exact ⟨rfl, k + 1, by omega, by go_num, HU.out.next HX.out HE.out⟩
        case measure => simp [intOf]; omega
    · go_wp2
      go_ret;exact ⟨ret_bool (hasB_f (HU.out.all (by omega))).symm, rfl⟩
theorem own_intsR {w : World} {base : Nat} {v : Value} {xs : List Int} {n : Nat} (h : w.ownsRow base 3 1 v n (xs.map intV)) (hx : ∀ x ∈ xs, I64 x) : IntsR w w.heap.size v xs := by obtain ⟨bs, h1, h2, h3⟩ := OwnRow.of_owns h;exact OwnInts.reads (e := 3) (bs := bs) ⟨h1, hx⟩ h1.lt
noncomputable def idsB (ids : List Int) (k : Nat) : Bool := propB (idsP ids k)
def IdsTo (ids : List Int) (k : Nat) : Prop := ∀ (i : Nat) (x : Int), i < k → ids[i]? = some x → (1 ≤ x ∧ x ≤ 999999) ∧ x ∉ ids.take i
theorem IdsTo.next {ids : List Int} {k : Nat} {x : Int} (h : IdsTo ids k) (hx : ids[k]? = some x) (h1 : inB x 1 999999 = true) (h2 : hasB (ids.take k) x = false) : IdsTo ids (k + 1) := fun i y hi hy => by
  by_cases e : i = k
  · subst e
    obtain rfl := aE (hx.symm.trans hy);unfold inB at h1;exact ⟨by simpa using h1, fun hm => by rw [hasB_t hm] at h2; cases h2⟩
  · exact h i y (by omega) hy
theorem ids_no {ids : List Int} {k i : Nat} {x : Int} (hx : ids[i]? = some x) (h : inB x 1 999999 = false ∨ hasB (ids.take i) x = true) : idsB ids k = false := propB_f fun hp => by
  have := ids_loop.2 ⟨hp.1, hp.2.1⟩ i x hx;rcases h with h | h
  · rw [inB_t this.1] at h; cases h
  · exact this.2 (propB_iff.1 h)
theorem ids_end {ids : List Int} {k j : Nat} (h : IdsTo ids j) (hj : ids.length ≤ j) : idsB ids k = (decide (ids.length = 0) || decide (ids.length = k)) := by
  have hp := ids_loop.1 fun i x hx => h i x (by have := (aB.1 hx).1; omega) hx
  have e : idsP ids k ↔ (ids.length = 0 ∨ ids.length = k) := by unfold idsP;rw [← List.length_eq_zero_iff (l := ids)];exact ⟨fun h => h.2.2, fun h => ⟨hp.1, hp.2, h⟩⟩
  unfold idsB;by_cases h1 : ids.length = 0
  · rw [propB_t (e.2 (.inl h1)), decide_eq_true h1]; rfl
  · by_cases h2 : ids.length = k
    · rw [propB_t (e.2 (.inr h2)), decide_eq_true h2, Bool.or_true]
    · rw [propB_f fun h => by rcases e.1 h with h | h; exact h1 h; exact h2 h, decide_eq_false h1, decide_eq_false h2]; rfl
theorem ints_take {w : World} {B : Nat} {ad : Addr} {c k : Nat} {xs : List Int} (hc : xs.length ≤ c) (hm : c ≤ maxLen) (hb : ad.block < B) (h : ∀ j x, xs[j]? = some x → w.cell? (ad.add j) = some (.int .i64 x)) (hI : ∀ x ∈ xs, I64 x) (hk : k ≤ xs.length) : IntsR w B (.slice (some ad) k c) (xs.take k) := by
  have hl : (xs.take k).length = k := by simp; omega
  refine ⟨⟨some ad, c, by rw [List.length_map, hl], by rw [List.length_map, hl]; omega, hm, fun _ => ⟨ad, rfl, hb, fun j u hu => ?_⟩⟩, fun x hx => hI x (List.mem_of_mem_take hx)⟩;rw [List.getElem?_map] at hu;cases hj : (xs.take k)[j]? with
  | none => rw [hj] at hu; cases hu
  | some z =>
    rw [hj] at hu;simp only [Option.map_some, Option.some.injEq] at hu;subst hu;rw [List.getElem?_take] at hj;split at hj
    · exact h j z hj
    · cases hj
def IdsRel (ids : List Int) (w : World) (i : Value) (wr : World) : Prop := w = wr ∧ ∃ k : Nat, k ≤ ids.length ∧ i = .int .i64 k ∧ IdsTo ids k
theorem spec_neIds (v : Value) (ids : List Int) (n : Nat) (w : World) (h : IntsR w w.heap.size v ids) (hn : n ≤ 2000000) :
  Calls Tryz.prog 120 #[v, .int .i64 (n : Int)] w fun e w' => e = .returned (.bool (idsB ids n)) ∧ w = w' := by
 obtain ⟨A, c, rfl, h1, h2, h3⟩ := h.open_;have HI := aA h.2;unfold maxLen at h2;clear h;go_enter Tryz.func120, Tryz.ntmps120;go_wp2_with fail;go_loopw [9, 5, 6] (fun i _ _ wr => IdsRel ids w i wr) (fun i _ _ _ => ids.length - (intOf i).toNat)
 case atStart => exact ⟨rfl, 0, Nat.zero_le _, rfl, fun _ _ h => absurd h (by omega)⟩
 case round =>
  obtain ⟨rfl, k, hk, rfl, hup⟩ := hrel;have HU := aA hup; clear hup;by_cases hlt : k < ids.length
  ·
   obtain ⟨y, hy⟩ : ∃ y, ids[k]? = some y := ⟨ids[k], aC hlt⟩
   obtain ⟨ad, rfl, hb, hc⟩ := h3 (by omega);have hcell := hc k y hy;have HX := aA hy;have J := aA (spec_l1Has (.slice (some ad) k c) (ids.take k) y w (ints_take h1 (by unfold maxLen; exact h2) hb hc HI.out hk));clear h3 hc hy;cases hp : inB y 1 999999 with
   | false =>
    go_wp2_with (go_at_call 93; refine (spec_l1In _ _ _ _).mono ?_; rintro e w' ⟨rfl, rfl⟩)
    go_ret;exact ⟨ret_bool (ids_no HX.out (.inl hp)).symm, rfl⟩
   | true =>
    cases hq : hasB (ids.take k) y with
    | true =>
     go_wp2_with (first | (go_at_call 93; refine (spec_l1In _ _ _ _).mono ?_; rintro e w' ⟨rfl, rfl⟩) | (go_at_call 62; refine J.out.mono ?_; rintro e w' ⟨rfl, rfl⟩))
     go_ret;exact ⟨ret_bool (ids_no HX.out (.inr hq)).symm, rfl⟩
    | false =>
     go_wp2_with (first | (go_at_call 93; refine (spec_l1In _ _ _ _).mono ?_; rintro e w' ⟨rfl, rfl⟩) | (go_at_call 62; refine J.out.mono ?_; rintro e w' ⟨rfl, rfl⟩))
     go_roundw
     case rel => exact ⟨rfl, k + 1, by omega, by go_num, HU.out.next HX.out hp hq⟩
     case measure => simp [intOf]; omega
  ·
   have HE := aA (ids_end (k := n) HU.out (by omega));go_wp2_with fail
   all_goals
    go_ret;refine ⟨ret_bool ?_, rfl⟩;rw [HE.out, Bool.eq_iff_iff];simp only [Bool.or_eq_true, decide_eq_true_eq, beq_iff_eq, true_iff];rename_i h0
    first | (rw [h0]; simp; done) | (have h1 : ids.length ≠ 0 := fun e => h0 (List.eq_nil_of_length_eq_zero e); constructor <;> intro h <;> omega)
theorem inB_nat {x : Int} {m : Nat} (h : inB x 0 ((m : Int) - 1) = true) : ∃ a : Nat, x = a ∧ a < m := by
  unfold inB at h;have h' : 0 ≤ x ∧ x ≤ (m : Int) - 1 := by simpa using h
  exact ⟨x.toNat, by omega, by omega⟩
theorem EndssR.at_ {w : World} {S : Nat → Prop} {ad : Addr} {c m : Nat} {ess : List Ends} (h : EndssR w S (.slice (some ad) m c) ess) {k : Nat} {es : Ends} (hk : ess[k]? = some es) : S ad.block ∧ ∃ u, w.cell? (ad.add k) = some u ∧ EndsR w S u es := by obtain ⟨A, c', e, h1, h2, h3⟩ := h;obtain ⟨ad', e', hb, hc⟩ := h3 (by have := (aB.1 hk).1; omega);cases e;cases e';exact ⟨hb, hc k es hk⟩
theorem EndsR.at_ {w : World} {S : Nat → Prop} {b o c m : Nat} {es : Ends} (h : EndsR w S (.slice (some ⟨b, o, none⟩) m c) es) {k : Nat} {e : Int × Int} (hk : es[k]? = some e) : S b ∧ w.cell? ⟨b, o + k * 2, none⟩ = some (.int .i64 e.1) ∧ w.cell? ⟨b, o + k * 2 + 1, none⟩ = some (.int .i64 e.2) := by obtain ⟨A, c', e', h1, h2, h3, h4⟩ := h;obtain ⟨b', o', e2, hb, hc⟩ := h4 (by have := (aB.1 hk).1; omega);cases e';cases e2;exact ⟨hb, hc k e hk⟩
theorem netP.len {n : Net} (h : netP n) {v : Nat} {l : Ends} (hl : n.es[v]? = some l) : l.length ≤ 6 := (h.2.2.2.2 v l hl).1
theorem EndssR.len_slice {w : World} {S : Nat → Prop} {A : Option Addr} {m c : Nat} {ess : List Ends} (h : EndssR w S (.slice A m c) ess) : m = ess.length ∧ m ≤ c ∧ c ≤ maxLen := by obtain ⟨A', c', e, h1, h2, _⟩ := h;cases e;exact ⟨rfl, h1, h2⟩
end
section
open Go.RowKit
set_option linter.all false
theorem spec_l1Most (a b : Int) (w : World) :
    Calls Tryz.prog 61 #[.int .i64 a, .int .i64 b] w fun e w' => e = .returned (.int .i64 (if a > b then a else b)) ∧ w = w' := by
  by_cases h : a > b
  · go_enter Tryz.func61, Tryz.ntmps61
    go_wp2;go_ret;exact ⟨rfl, rfl⟩
  · go_enter Tryz.func61, Tryz.ntmps61
    go_wp2;go_ret;exact ⟨rfl, rfl⟩
theorem degs_snoc (n : Net) (k : Nat) (l : Ends) (h : n.es[k]? = some l) : ((degs n).take (k + 1)).map intV = ((degs n).take k).map intV ++ [.int .i64 (l.length : Int)] := by
  have h' : (degs n)[k]? = some (l.length : Int) := by unfold degs; rw [List.getElem?_map, h]; rfl
  obtain ⟨hk', e⟩ := aB.1 h';rw [List.take_succ_eq_append_getElem hk', List.map_append, e]; rfl
def IntsRel (xs : List Int) (w : World) (v i : Value) (wr : World) : Prop :=
  ∃ k : Nat, k ≤ xs.length ∧ i = .int .i64 k ∧ wr.ownsRow w.heap.size 3 1 v k ((xs.take k).map intV) ∧ Below w.heap.size w wr
theorem IntsRel.fin {xs : List Int} {w wr : World} {v : Value} {k : Nat} (h : wr.ownsRow w.heap.size 3 1 v k ((xs.take k).map intV)) (hk : xs.length ≤ k) (hx : ∀ x ∈ xs, I64 x) : IntsR wr wr.heap.size v xs := by rw [List.take_of_length_le hk] at h;exact own_intsR h hx
theorem small_I64 {x a b : Int} (h : a ≤ x ∧ x ≤ b) (ha : -1000000000 ≤ a) (hb : b ≤ 1000000000) : I64 x := by unfold I64; omega
theorem spec_neDegrees (ve vi vn : Value) (n : Net) (w : World) (h : NetR w w.heap.size ve vi vn n) (hp : netP n) :
  Calls Tryz.prog 121 #[.agg #[ve, vi, vn]] w fun e w' => ∃ u, e = .returned u ∧ (∃ A m c, u = .slice A m c) ∧ IntsR w' w'.heap.size u (degs n) ∧ Below w.heap.size w w' := by
 have h40 := hp.1.2;have HP := aA hp; clear hp;obtain ⟨⟨A0, m0, c0, rfl⟩, ⟨A1, m1, c1, rfl⟩, A2, m2, c2, rfl⟩ := h.slices;obtain ⟨w0, hw0, hB, HD, hz0, HS0⟩ := box3 w (.slice A0 m0 c0) (.slice A1 m1 c1) (.slice A2 m2 c2) 50;have HN0 := aA h; have HN := aA (h.up hB); clear h;have HW0 := aA hw0; clear hw0;obtain ⟨q0, q1, q2, qf⟩ := cells3 HD;obtain ⟨hm0, -, -⟩ := HN.out.e.len_slice;subst hm0;have hdl : (degs n).length = n.es.length := by unfold degs; simp
 have HDL := aA hdl; clear hdl;go_enter Tryz.func121, Tryz.ntmps121;go_wp2_with fail;rw [← HW0.out];go_loopw [3, 5, 9] (fun v _ i wr => IntsRel (degs n) w0 v i wr) (fun _ _ i _ => n.es.length - (intOf i).toNat)
 case atStart => exact ⟨0, Nat.zero_le _, rfl, World.ownsRow_nil _ _ _ _, Below.refl _ _⟩
 case round =>
  obtain ⟨k, hk, rfl, hown, hb1⟩ := hrel;rw [HDL.out] at hk;have hzhb1 := hb1.size;clear q0 q1 q2 qf;replace HD := bk HD hb1;replace HN := aA (HN.out.up hb1);replace hB := bl_trans hB hb1;obtain ⟨q0, q1, q2, qf⟩ := cells3 HD;by_cases hlt : k < n.es.length
  ·
   obtain ⟨l, hl⟩ : ∃ y, n.es[k]? = some y := ⟨n.es[k], aC hlt⟩
   obtain ⟨ad, rfl⟩ : ∃ ad, A0 = some ad := by obtain ⟨A', c', e, -, -, h3⟩ := HN.out.e;obtain ⟨ad, e', -⟩ := h3 (by omega);cases e;exact ⟨ad, e'⟩
   obtain ⟨hbb, u, hu, hr⟩ := HN.out.e.at_ hl;obtain ⟨A', c', rfl, -⟩ := hr;have hl6 := HP.out.len hl;have HS := aA (degs_snoc n k l hl);clear hl hbb;go_wp2_with ((at_builtin; refine wpList_append1 wr rfl (.tmp 13) (.tmp 16) 24 rfl w0.heap.size 3 _ 8 Tryz.underlying24 intInfo rfl _ _ _ rfl _ rfl rfl hown (by unfold maxLen; omega) (by omega) hb1.size ?_; intro v' w' hown' hbl' hgr' hlt' hob'))
   go_roundw
   case rel => exact ⟨k + 1, by rw [HDL.out]; omega, by go_num, by rw [HS.out]; exact hown', hb1.trans hbl'⟩
   case measure => simp [intOf]; omega
  · have hI := IntsRel.fin hown (by rw [HDL.out]; omega) (fun x hx => small_I64 (degs_bd HP.out x hx) (by omega) (by omega));have HO := aA hI; clear hI hown;go_wp2_with fail;go_ret;exact ⟨_, rfl, HO.out.isSlice, HO.out, hB⟩
/-! ### Distances -/
theorem rowOf_map (k n : Nat) (h : k ≤ n) (x : Int) : rowOf ((List.replicate k x).map intV) n (.int .i64 0) = ((List.replicate k x ++ List.replicate (n - k) 0).map intV).toArray := by unfold rowOf;simp [intV]
theorem set_map (d : List Int) (i : Nat) (x : Int) : ((d.map intV).toArray).setIfInBounds i (.int .i64 x) = ((d.set i x).map intV).toArray := by simp [List.map_set, intV]
theorem fill_set {k n : Nat} (h : k < n) : (List.replicate k (-1 : Int) ++ List.replicate (n - k) 0).set k (-1) = List.replicate (k + 1) (-1) ++ List.replicate (n - (k + 1)) 0 := by
  obtain ⟨m, hm⟩ : ∃ m, n - k = m + 1 := ⟨n - k - 1, by omega⟩
  rw [hm, show n - (k + 1) = m by omega, List.replicate_succ, List.replicate_succ', List.set_append_right _ _ (by simp), List.length_replicate, Nat.sub_self, List.set_cons_zero, List.append_assoc];rfl
def NumsAt (w : World) (g : Nat) (d : List Int) : Prop := w.heap[g]? = some (.cells (d.map intV).toArray 3 (0, 0))
theorem NumsAt.cell {w : World} {g : Nat} {d : List Int} (h : NumsAt w g d) {i : Nat} {x : Int} (hx : d[i]? = some x) : w.cell? ⟨g, i, none⟩ = some (.int .i64 x) := by rw [cell_of_row _ _ i _ _ (0, 0) h, ← Array.getElem?_toList];simp [hx, intV]
theorem NumsAt.frozen {w : World} {g : Nat} {d : List Int} (h : NumsAt w g d) (i : Nat) : w.frozen? ⟨g, i, none⟩ = false := frozen_of_row _ _ i _ _ h
theorem NumsAt.set {w : World} {g : Nat} {d : List Int} (h : NumsAt w g d) (i : Nat) (x : Int) : NumsAt (w.setCell ⟨g, i, none⟩ (.int .i64 x)) g (d.set i x) := by unfold NumsAt;rw [heap_set_same h, set_map]
theorem NumsAt.lt {w : World} {g : Nat} {d : List Int} (h : NumsAt w g d) : g < w.heap.size := by
  rcases Nat.lt_or_ge g w.heap.size with h' | h'
  · exact h'
  · unfold NumsAt at h
    rw [Array.getElem?_eq_none h'] at h;cases h
def FillRel (n g : Nat) (w0 : World) (i : Value) (wr : World) : Prop := ∃ k : Nat, k ≤ n ∧ i = .int .i64 k ∧ NumsAt wr g (List.replicate k (-1) ++ List.replicate (n - k) 0) ∧ Below w0.heap.size w0 wr
theorem own_slice {w : World} {base n : Nat} {v : Value} {vs : List Value} (h : w.ownsRow base 3 1 v n vs) : ∃ A c, v = .slice A n c := by
  rcases h.2 with ⟨e, e'⟩ | ⟨g, cap, cur, e, _⟩
  · exact ⟨none, 0, by rw [e, e']⟩
  · exact ⟨_, _, e⟩
end
section
open Go.RowKit
set_option linter.all false
theorem EndssR.some_ {w : World} {S : Nat → Prop} {A : Option Addr} {m c : Nat} {ess : List Ends} (h : EndssR w S (.slice A m c) ess) (hk : 0 < ess.length) : ∃ ad, A = some ad := by obtain ⟨A', c', e, -, -, h3⟩ := h;obtain ⟨ad, e', -⟩ := h3 hk;cases e;exact ⟨ad, e'⟩
theorem IntsR.some_ {w : World} {B : Nat} {A : Option Addr} {m c : Nat} {xs : List Int} (h : IntsR w B (.slice A m c) xs) : m = xs.length ∧ m ≤ c ∧ c ≤ maxLen ∧ (0 < xs.length → ∃ ad, A = some ad ∧ ad.block < B ∧ ∀ j x, xs[j]? = some x → w.cell? (ad.add j) = some (.int .i64 x)) := by obtain ⟨A', c', e, h1, h2, h3⟩ := h.open_;cases e;exact ⟨rfl, h1, h2, h3⟩
end
end Go.Proofs.YtjklbjmdgiddcaaGreat
namespace Go.Proofs.YtjklbjmdgiddcaaGreat
set_option linter.all false
abbrev Cl := Int × List Int × Int
structure Mach where
  deg : Int
  st : Int
  msg : Int
  start : List (List Int)
  send : List (List Int)
  cls : List Cl
  out : List Int
def rowP (l : List Int) (many most : Int) : Prop := (l.length : Int) = many ∧ ∀ x ∈ l, 0 ≤ x ∧ x ≤ most - 1
def clP (m : Mach) (c : Cl) : Prop := (0 ≤ c.1 ∧ c.1 ≤ m.st - 1) ∧ (0 ≤ c.2.2 ∧ c.2.2 ≤ m.st - 1) ∧ (c.2.1.length : Int) ≤ m.deg ∧ ∀ x ∈ c.2.1, -1 ≤ x ∧ x ≤ m.msg - 1
def first (m : Mach) : Int := (m.start.getD 0 []).length
def maP (m : Mach) : Prop :=
  ((0 ≤ m.deg ∧ m.deg ≤ 6) ∧ (1 ≤ m.st ∧ m.st ≤ 12) ∧ (1 ≤ m.msg ∧ m.msg ≤ 6)) ∧ ((m.start.length : Int) = m.deg + 1 ∧ (m.send.length : Int) = m.st ∧ (m.out.length : Int) = m.st ∧ m.cls.length ≤ 60) ∧
  (1 ≤ first m ∧ first m ≤ 10) ∧ (∀ l ∈ m.start, rowP l (first m) m.st) ∧ (∀ l ∈ m.send, rowP l m.deg m.msg) ∧ (∀ c ∈ m.cls, clP m c) ∧ ∀ x ∈ m.out, -1 ≤ x ∧ x ≤ 9
def onP (m : Mach) (n : Net) : Prop := (∀ l ∈ n.es, (l.length : Int) ≤ m.deg) ∧ ∀ x ∈ n.ins, x < first m
def fitP (m : Mach) (n : Net) : Prop := maP m ∧ netP n ∧ onP m n
noncomputable def maB (m : Mach) : Bool := propB (maP m)
noncomputable def fitB (m : Mach) (n : Net) : Bool := propB (fitP m n)
structure Asy where
  rounds : List Int
  before : List Int
  now : List Int
  slots : List (List Int)
  flight : List (List Ends)
def letP (m : Mach) (ls : Ends) : Prop := ls.length ≤ 12 ∧ ∀ e ∈ ls, (0 ≤ e.1 ∧ e.1 ≤ 40) ∧ 0 ≤ e.2 ∧ e.2 ≤ m.msg - 1
def slotP (m : Mach) (ports : Nat) (s : List Int) (f : List Ends) : Prop := s.length = ports ∧ f.length = ports ∧ (∀ y ∈ s, -1 ≤ y ∧ y ≤ m.msg - 1) ∧ ∀ ls ∈ f, letP m ls
def asyP (m : Mach) (n : Net) (x : Asy) : Prop :=
  rowP x.rounds n.es.length 41 ∧ rowP x.before n.es.length m.st ∧ rowP x.now n.es.length m.st ∧ x.slots.length = n.es.length ∧ x.flight.length = n.es.length ∧
  ∀ (v : Nat) (l : Ends) (s : List Int) (f : List Ends), n.es[v]? = some l → x.slots[v]? = some s → x.flight[v]? = some f → slotP m l.length s f
def goodP (m : Mach) (n : Net) (x : Asy) : Prop := fitP m n ∧ asyP m n x
noncomputable def goodB (m : Mach) (n : Net) (x : Asy) : Bool := propB (goodP m n x)
structure Acts where
  kind : Int
  node : Int
  port : Int
  at_ : Int
def hereL (x : Asy) (v p : Int) : Ends := (x.flight.getD v.toNat []).getD p.toNat []
def mayP (n : Net) (x : Asy) (a : Acts) : Prop :=
  (0 ≤ a.node ∧ a.node < n.es.length) ∧
  ((a.kind = 5 ∧ a.port = 0 ∧ a.at_ = 0 ∧ x.rounds.getD a.node.toNat 0 < 40 ∧ (-1 : Int) ∉ x.slots.getD a.node.toNat []) ∨
   (a.kind ≠ 5 ∧ (0 ≤ a.port ∧ a.port < (n.es.getD a.node.toNat []).length) ∧
    ((a.kind = 1 ∧ (0 ≤ a.at_ ∧ a.at_ ≤ 1) ∧ a.at_ ≤ x.rounds.getD a.node.toNat 0 ∧ (hereL x (((n.es.getD a.node.toNat []).getD a.port.toNat (0, 0)).1) (((n.es.getD a.node.toNat []).getD a.port.toNat (0, 0)).2)).length < 12) ∨
     ((a.kind = 2 ∨ a.kind = 3) ∧ 0 ≤ a.at_ ∧ a.at_ < (hereL x a.node a.port).length) ∨
     (a.kind = 4 ∧ (0 ≤ a.at_ ∧ a.at_ < (hereL x a.node a.port).length) ∧ (hereL x a.node a.port).length < 12))))
noncomputable def mayB (n : Net) (x : Asy) (a : Acts) : Bool := propB (mayP n x a)
end Go.Proofs.YtjklbjmdgiddcaaGreat
namespace Go.Proofs.YtjklbjmdgiddcaaGreat
set_option linter.all false
theorem propB_dec {p : Prop} {b : Bool} (h : p ↔ b = true) : propB p = b := by
  cases b with
  | true => exact propB_t (h.2 rfl)
  | false => exact propB_f fun k => by have := h.1 k; cases this
structure AtP (n : Net) (x : Asy) (k : Nat) (l : Ends) (s : List Int) (f : List Ends) (r : Int) : Prop where
  hl : n.es[k]? = some l
  hs : x.slots[k]? = some s
  hf : x.flight[k]? = some f
  hr : x.rounds[k]? = some r
  sl : s.length = l.length
  fl : f.length = l.length
  r0 : 0 ≤ r ∧ r ≤ 40
  ls : ∀ y ∈ f, y.length ≤ 12
theorem at_of {m : Mach} {n : Net} {x : Asy} {k : Nat} (h : asyP m n x) (hk : k < n.es.length) : ∃ l s f r, AtP n x k l s f r := by
  have h1 : k < x.slots.length := by rw [h.2.2.2.1]; exact hk
  have h2 : k < x.flight.length := by rw [h.2.2.2.2.1]; exact hk
  have h3 : k < x.rounds.length := by have := h.1.1; omega
  have e1 := aC hk;have e2 := aC h1;have e3 := aC h2;have hs := h.2.2.2.2.2 k _ _ _ e1 e2 e3;refine ⟨_, _, _, _, e1, e2, e3, aC h3, hs.1, hs.2.1, ?_, fun y hy => (hs.2.2.2 y hy).1⟩;have := h.1.2 _ (List.getElem_mem h3);omega
section
variable {n : Net} {x : Asy} {k : Nat} {l : Ends} {s : List Int} {f : List Ends} {r : Int}
theorem AtP.lt (h : AtP n x k l s f r) : k < n.es.length := (aB.1 h.hl).1
theorem AtP.gets (h : AtP n x k l s f r) : n.es.getD (k : Int).toNat [] = l ∧ x.slots.getD (k : Int).toNat [] = s ∧ x.flight.getD (k : Int).toNat [] = f ∧ x.rounds.getD (k : Int).toNat 0 = r := by simp only [Int.toNat_natCast, aG, h.hl, h.hs, h.hf, h.hr, Option.getD_some, and_self]
theorem may_no1 {ak an ap aa : Int} (h : inB an 0 ((n.es.length : Int) - 1) = false) : mayB n x ⟨ak, an, ap, aa⟩ = false := propB_f fun hp => by have h0 : 0 ≤ an := hp.1.1;have h1 : an < n.es.length := hp.1.2;rw [inB_t ⟨h0, by omega⟩] at h;cases h
theorem may_step (h : AtP n x k l s f r) (ap aa : Int) : mayB n x ⟨5, (k : Int), ap, aa⟩ = (decide (ap = 0) && (decide (aa = 0) && (decide (r < 40) && !s.contains (-1)))) := propB_dec (by
  obtain ⟨-, e2, -, e4⟩ := h.gets;have hk := h.lt;unfold mayP;simp only [e2, e4, Bool.and_eq_true, decide_eq_true_eq, Bool.not_eq_true', List.contains_eq_mem, decide_eq_false_iff_not, true_and, ne_eq, not_true_eq_false, false_and, or_false]
  exact ⟨fun hm => hm.2, fun hm => ⟨by omega, hm⟩⟩)
theorem may_no2 {ak ap aa : Int} (h : AtP n x k l s f r) (h5 : ak ≠ 5) (hp : ¬ (0 ≤ ap ∧ ap < l.length)) : mayB n x ⟨ak, (k : Int), ap, aa⟩ = false := propB_f fun hm => by
  obtain ⟨e1, -, -, -⟩ := h.gets;unfold mayP at hm;simp only [e1] at hm;rcases hm.2 with h1 | h1
  · exact h5 h1.1
  · exact hp h1.2.1
variable {p : Nat} {ls : Ends}
theorem AtP.here (h : AtP n x k l s f r) (hp : f[p]? = some ls) : hereL x (k : Int) (p : Int) = ls := by unfold hereL;rw [h.gets.2.2.1, Int.toNat_natCast, aG, hp];rfl
theorem AtP.lp (h : AtP n x k l s f r) (hp : f[p]? = some ls) : (p : Int) < l.length := by have := (aB.1 hp).1;have := h.fl;omega
theorem may_send (h : AtP n x k l s f r) (hp : f[p]? = some ls) {e : Int × Int} (he : l[p]? = some e) {k2 p2 : Nat} {l2 : Ends} {s2 : List Int} {f2 : List Ends} {r2 : Int} (h2 : AtP n x k2 l2 s2 f2 r2) {ls2 : Ends} (hp2 : f2[p2]? = some ls2)
    (e1 : e.1 = k2) (e2 : e.2 = p2) (aa : Int) : mayB n x ⟨1, (k : Int), (p : Int), aa⟩ = (decide (0 ≤ aa ∧ aa ≤ 1) && (decide (aa ≤ r) && decide (ls2.length < 12))) := propB_dec (by
  obtain ⟨g1, -, -, g4⟩ := h.gets;have hk := h.lt;have hpl := h.lp hp;have ee : l.getD (p : Int).toNat (0, 0) = e := by rw [Int.toNat_natCast, aG, he]; rfl
  have eh : hereL x e.1 e.2 = ls2 := by rw [e1, e2]; exact h2.here hp2
  unfold mayP;simp only [g1, g4, ee, eh, Bool.and_eq_true, decide_eq_true_eq, show ((1 : Int) = 5) = False by simp, false_and, false_or];refine ⟨fun hm => ?_, fun hm => ⟨⟨by omega, by omega⟩, by omega, ⟨by omega, hpl⟩, Or.inl ⟨trivial, hm⟩⟩⟩;rcases hm.2.2.2 with h1 | h1 | h1
  · exact h1.2
  · have := h1.1; omega
  · have := h1.1; omega)
theorem may_let (h : AtP n x k l s f r) (hp : f[p]? = some ls) {ak : Int} (ha : ak = 2 ∨ ak = 3) (aa : Int) : mayB n x ⟨ak, (k : Int), (p : Int), aa⟩ = decide (0 ≤ aa ∧ aa < ls.length) := propB_dec (by
  have hk := h.lt;have hpl := h.lp hp;unfold mayP;simp only [h.gets.1, h.here hp, decide_eq_true_eq]
  omega)
theorem may_copy (h : AtP n x k l s f r) (hp : f[p]? = some ls) (aa : Int) : mayB n x ⟨4, (k : Int), (p : Int), aa⟩ = (decide (0 ≤ aa ∧ aa < ls.length) && decide (ls.length < 12)) := propB_dec (by
  have hk := h.lt;have hpl := h.lp hp;unfold mayP;simp only [h.gets.1, h.here hp, Bool.and_eq_true, decide_eq_true_eq, show ((4 : Int) = 5) = False by simp, false_and, false_or];refine ⟨fun hm => ?_, fun hm => ⟨⟨by omega, by omega⟩, by omega, ⟨by omega, hpl⟩, Or.inr (Or.inr ⟨trivial, hm⟩)⟩⟩;rcases hm.2.2.2 with h1 | h1 | h1
  · have := h1.1; omega
  · have := h1.1; omega
  · exact h1.2)
theorem may_else (h : AtP n x k l s f r) {ak ap aa : Int} (h5 : ak ≠ 5) (h1 : ak ≠ 1) (h2 : ak ≠ 2) (h3 : ak ≠ 3) (h4 : ak ≠ 4) : mayB n x ⟨ak, (k : Int), ap, aa⟩ = false := propB_f fun hm => by unfold mayP at hm;simp only at hm;omega
theorem at_end {m : Mach} (ha : asyP m n x) (hn : netP n) (h : AtP n x k l s f r) {e : Int × Int} (he : l[p]? = some e) : ∃ (k2 p2 : Nat) (l2 : Ends) (s2 : List Int) (f2 : List Ends) (r2 : Int) (ls2 : Ends), e.1 = k2 ∧ e.2 = p2 ∧ AtP n x k2 l2 s2 f2 r2 ∧ f2[p2]? = some ls2 ∧ l2[p2]? = some ((k : Int), (p : Int)) := by
  obtain ⟨h0, h1, m', hm, hx⟩ := (hn.2.2.2.2 k l h.hl).2 p e he;have hk2 := (aB.1 hm).1;obtain ⟨l2, s2, f2, r2, h2⟩ := at_of ha hk2;obtain rfl := aE (h2.hl.symm.trans hm);have hp2 : e.2.toNat < f2.length := by rw [h2.fl]; exact (aB.1 hx).1
  exact ⟨e.1.toNat, e.2.toNat, l2, s2, f2, r2, _, by omega, by omega, h2, aC hp2, hx⟩
end
end Go.Proofs.YtjklbjmdgiddcaaGreat
