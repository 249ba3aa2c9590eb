/-
  Networks, the reference's side: l1Has, neNear, neIds, neGood, ruPlain, distances.
-/
import Derived.Test.YtfhecpkhifdnbaaGreatRows
import Derived.Test.YtfhecpkhifdnbaaGreatKit
import Derived.Test.YtfhecpkhifdnbaaGreatMem
import Derived.Test.YtfhecpkhifdnbaaGreatBasic
import Derived.Test.YtfhecpkhifdnbaaGreatLists
import Derived.Test.YtfhecpkhifdnbaaGreatOwn
import Derived.Test.YtfhecpkhifdnbaaGreatArgs
import Derived.Test.YtfhecpkhifdnbaaGreatNetMem
import Derived.Test.YtfhecpkhifdnbaaGreatReg
import Derived.WalkKit
import Derived.WalkSpells
import Derived.WalkLawsBesides
import Derived.Lib.Hide
namespace Go.Proofs.YtfhecpkhifdnbaaGreat
open Go.RowKit
set_option linter.unusedVariables false
set_option linter.unusedSimpArgs false
/-- A block of three cells is laid. -/
theorem box3 (w : World) (a b c : Value) (t : TypeId) : ∃ w0, w0 = w.alloc (.cells #[a, b, c] t) ∧ Below w.heap.size w w0 ∧ Hid (w0.heap[w.heap.size]? = some (.cells #[a, b, c] t (0, 0))) ∧ w.heap.size < w0.heap.size ∧ Hid (w0.heap.size = w.heap.size + 1) :=
  ⟨_, rfl, bl_alloc (Below.refl _ _) _, Lib.hid (heap_alloc_new w _), by simp, Lib.hid (by simp)⟩
/-- A block of two cells is laid. -/
theorem box2 (w : World) (a b : Value) (t : TypeId) : ∃ w0, w0 = w.alloc (.cells #[a, b] t) ∧ Below w.heap.size w w0 ∧ Hid (w0.heap[w.heap.size]? = some (.cells #[a, b] t (0, 0))) ∧ w.heap.size < w0.heap.size ∧ Hid (w0.heap.size = w.heap.size + 1) :=
  ⟨_, rfl, bl_alloc (Below.refl _ _) _, Lib.hid (heap_alloc_new w _), by simp, Lib.hid (by simp)⟩
noncomputable def hasB (xs : List Int) (x : Int) : Bool := propB (x ∈ xs)
theorem hasB_t {xs : List Int} {x : Int} (h : x ∈ xs) : hasB xs x = true := propB_t h
theorem hasB_f {xs : List Int} {x : Int} (h : x ∉ xs) : hasB xs x = false := propB_f h
def NotTo (xs : List Int) (x : Int) (k : Nat) : Prop := ∀ j y, j < k → xs[j]? = some y → y ≠ x
theorem NotTo.all {xs : List Int} {x : Int} {k : Nat} (h : NotTo xs x k) (hk : xs.length ≤ k) : x ∉ xs := fun hm => by
  obtain ⟨j, hj⟩ := List.mem_iff_getElem?.1 hm
  exact h j x (by have := (List.getElem?_eq_some_iff.1 hj).1; omega) hj rfl
theorem NotTo.next {xs : List Int} {x y : Int} {k : Nat} (h : NotTo xs x k) (hy : xs[k]? = some y) (hne : y ≠ x) : NotTo xs x (k + 1) := fun j z hj hz => by
  by_cases e : j = k
  · subst e; rw [hy] at hz; cases hz; exact hne
  · exact h j z (by omega) hz
def HasRel (xs : List Int) (x : Int) (w : World) (i : Value) (wr : World) : Prop := w = wr ∧ ∃ k : Nat, k ≤ xs.length ∧ i = .int .i64 k ∧ NotTo xs x k
theorem spec_l1Has (v : Value) (xs : List Int) (x : Int) (w : World) (h : IntsR w w.heap.size v xs) :
    Calls Tryz.prog 83 #[v, .int .i64 x] w fun e w' => e = .returned (.bool (hasB xs x)) ∧ w = w' := by
  obtain ⟨A, c, rfl, h1, h2, h3⟩ := h.open_
  unfold maxLen at h2
  clear h
  go_enter Tryz.func83, Tryz.ntmps83
  go_wp2_with fail
  go_loopw [9, 6] (fun i _ wr => HasRel xs x w i wr) (fun i _ _ => xs.length - (intOf i).toNat)
  case atStart => exact ⟨rfl, 0, Nat.zero_le _, rfl, fun _ _ h => absurd h (by omega)⟩
  case round =>
    obtain ⟨rfl, k, hk, rfl, hup⟩ := hrel
    have HU := Lib.hid hup; clear hup
    by_cases hlt : k < xs.length
    · obtain ⟨y, hy⟩ : ∃ y, xs[k]? = some y := ⟨xs[k], List.getElem?_eq_getElem hlt⟩
      obtain ⟨ad, rfl, hb, hc⟩ := h3 (by omega)
      have hcell := hc k y hy
      have HX := Lib.hid hy
      clear h3 hc hy
      by_cases e : y = x
      · have HE := Lib.hid e
        have kq : (y == x) = true := by simpa using e
        clear e
        go_wp2_with fail
        go_ret
        exact ⟨ret_bool (hasB_t (by rw [← HE.out]; exact List.mem_of_getElem? HX.out)).symm, rfl⟩
      · have HE := Lib.hid e
        have kq : (y == x) = false := by simpa using e
        clear e
        go_wp2_with fail
        go_roundw
        case rel => exact ⟨rfl, k + 1, by omega, by go_num, HU.out.next HX.out HE.out⟩
        case measure => simp [intOf]; omega
    · go_wp2
      go_ret
      exact ⟨ret_bool (hasB_f (HU.out.all (by omega))).symm, rfl⟩
def nearL (es : Ends) : List Int := es.map Prod.fst
theorem near_snoc (es : Ends) (k : Nat) (e : Int × Int) (h : es[k]? = some e) : (nearL (es.take (k + 1))).map intV = (nearL (es.take k)).map intV ++ [.int .i64 e.1] := by
  obtain ⟨hk', rfl⟩ := List.getElem?_eq_some_iff.1 h
  unfold nearL
  rw [List.take_succ_eq_append_getElem hk', List.map_append, List.map_append]; rfl
theorem own_intsR {w : World} {base : Nat} {v : Value} {xs : List Int} {n : Nat} (h : w.ownsRow base 3 1 v n (xs.map intV)) (hx : ∀ x ∈ xs, I64 x) : IntsR w w.heap.size v xs := by
  obtain ⟨bs, h1, h2, h3⟩ := OwnRow.of_owns h
  exact OwnInts.reads (e := 3) (bs := bs) ⟨h1, hx⟩ h1.lt
theorem own_lower {w : World} {base base' n : Nat} {v : Value} {vs : List Value} (h : w.ownsRow base 3 1 v n vs) (hb : base' ≤ base) : w.ownsRow base' 3 1 v n vs := by
  obtain ⟨h1, h2⟩ := h
  refine ⟨h1, ?_⟩
  rcases h2 with h2 | ⟨g, cap, cur, e, k1, k2⟩
  · exact .inl h2
  · exact .inr ⟨g, cap, cur, e, by omega, k2⟩
def NearRel (es : Ends) (w : World) (v i : Value) (wr : World) : Prop :=
  ∃ k : Nat, k ≤ es.length ∧ i = .int .i64 k ∧ wr.ownsRow w.heap.size 3 1 v k ((nearL (es.take k)).map intV) ∧ Below w.heap.size w wr
theorem spec_neNear (ve vi vn : Value) (n : Net) (v : Nat) (es : Ends) (w : World) (h : NetR w w.heap.size ve vi vn n) (hv : n.es[v]? = some es) (hl : es.length ≤ 2000000) :
    Calls Tryz.prog 213 #[.agg #[ve, vi, vn], .int .i64 (v : Int)] w fun e w' => ∃ u, e = .returned u ∧ (∃ A m c, u = .slice A m c) ∧ IntsR w' w'.heap.size u (nearL es) ∧ Below w.heap.size w w' ∧ w'.ownsRow w.heap.size 3 1 u es.length ((nearL es).map intV) := by
  obtain ⟨-, ⟨A1, m1, c1, rfl⟩, A2, m2, c2, rfl⟩ := h.slices
  obtain ⟨A0, c0, rfl, -, hmx, h0⟩ := h.e
  obtain ⟨w0, hw0, hb0, HD, hlt0, HS0⟩ := box3 w (.slice A0 n.es.length c0) (.slice A1 m1 c1) (.slice A2 m2 c2) 31
  have hvl : v < n.es.length := (List.getElem?_eq_some_iff.1 hv).1
  obtain ⟨ad, rfl, hab, hac⟩ := h0 (by omega)
  obtain ⟨u, hu, hr⟩ := hac v es hv
  have hcu := (hb0.cell (p := ad.add v) (by rw [block_add]; exact hab)).trans hu
  replace hr := hr.below hb0
  obtain ⟨A', c', rfl, g1, g2, g3, g4⟩ := hr
  have HI := Lib.hid g3; clear g3
  unfold maxLen at hmx
  clear hac h0 h
  have HW0 := Lib.hid hw0
  have hcu' := hcu
  rw [hw0] at hcu'
  clear hw0
  obtain ⟨q0, q1, q2, qf⟩ := cells3 HD
  go_enter Tryz.func213, Tryz.ntmps213
  go_wp2_with fail
  rw [← HW0.out]
  go_loopw [5, 7, 14] (fun v _ i wr => NearRel es w0 v i wr) (fun _ _ i _ => es.length - (intOf i).toNat)
  case atStart => exact ⟨0, Nat.zero_le _, rfl, World.ownsRow_nil _ _ _ _, Below.refl _ _⟩
  case round =>
    obtain ⟨k, hk, rfl, hown, hbl⟩ := hrel
    by_cases hlt : k < es.length
    · obtain ⟨e, he⟩ : ∃ p, es[k]? = some p := ⟨es[k], List.getElem?_eq_getElem hlt⟩
      obtain ⟨b, o, rfl, hb, hc⟩ := g4 (by omega)
      have r0 := (hbl.cell (p := ⟨b, o + k * 2, none⟩) (by show b < _; omega)).trans (hc k e he).1
      have r1 := (hbl.cell (p := ⟨b, o + k * 2 + 1, none⟩) (by show b < _; omega)).trans (hc k e he).2
      have HN := Lib.hid (near_snoc es k e he)
      clear hc g4 he
      have hba := hbl.alloc hbl.size (.cells #[.int .i64 e.1, .int .i64 e.2] 144)
      go_wp2_with ((at_builtin; refine wpList_append1 (wr.alloc (.cells #[.int .i64 e.1, .int .i64 e.2] 144)) rfl (.tmp 18) (.tmp 21) 23 rfl w0.heap.size 3 _ 8 Tryz.underlying23 intInfo rfl _ _ _ rfl _ rfl (by show Value.slice (some ⟨wr.heap.size + 1, 0, none⟩) 1 1 = _; simp) (hown.alloc _) (by unfold maxLen; omega) (by omega) hba.size ?_; intro v' w' hown' hbl' hgr' hlt' hob'))
      go_roundw
      case rel => exact ⟨k + 1, by omega, by go_num, by rw [HN.out]; exact hown', hba.trans hbl'⟩
      case measure => simp [intOf]; omega
    · have e1 : es.take k = es := List.take_of_length_le (by omega)
      rw [e1] at hown
      have hI := own_intsR hown (fun x hx => by unfold nearL at hx; obtain ⟨p, hp, rfl⟩ := List.mem_map.1 hx; exact (HI.out p hp).1)
      have HO := Lib.hid hI; clear hI
      have hke : k = es.length := by omega
      have HOW := Lib.hid (own_lower (hke ▸ hown) hb0.size); clear hown hke
      go_wp2_with fail
      go_ret
      exact ⟨_, rfl, HO.out.isSlice, HO.out, bl_trans hb0 hbl, HOW.out⟩
noncomputable def idsB (ids : List Int) (k : Nat) : Bool := propB (idsP ids k)
def IdsTo (ids : List Int) (k : Nat) : Prop := ∀ (i : Nat) (x : Int), i < k → ids[i]? = some x → (1 ≤ x ∧ x ≤ 999999) ∧ x ∉ ids.take i
theorem IdsTo.next {ids : List Int} {k : Nat} {x : Int} (h : IdsTo ids k) (hx : ids[k]? = some x) (h1 : inB x 1 999999 = true) (h2 : hasB (ids.take k) x = false) : IdsTo ids (k + 1) := fun i y hi hy => by
  by_cases e : i = k
  · subst e
    obtain rfl := Option.some.inj (hx.symm.trans hy)
    unfold inB at h1
    exact ⟨by simpa using h1, fun hm => by rw [hasB_t hm] at h2; cases h2⟩
  · exact h i y (by omega) hy
theorem ids_no {ids : List Int} {k i : Nat} {x : Int} (hx : ids[i]? = some x) (h : inB x 1 999999 = false ∨ hasB (ids.take i) x = true) : idsB ids k = false := propB_f fun hp => by
  have := ids_loop.2 ⟨hp.1, hp.2.1⟩ i x hx
  rcases h with h | h
  · rw [inB_t this.1] at h; cases h
  · exact this.2 (propB_iff.1 h)
theorem ids_end {ids : List Int} {k j : Nat} (h : IdsTo ids j) (hj : ids.length ≤ j) : idsB ids k = (decide (ids.length = 0) || decide (ids.length = k)) := by
  have hp := ids_loop.1 fun i x hx => h i x (by have := (List.getElem?_eq_some_iff.1 hx).1; omega) hx
  have e : idsP ids k ↔ (ids.length = 0 ∨ ids.length = k) := by
    unfold idsP
    rw [← List.length_eq_zero_iff (l := ids)]
    exact ⟨fun h => h.2.2, fun h => ⟨hp.1, hp.2, h⟩⟩
  unfold idsB
  by_cases h1 : ids.length = 0
  · rw [propB_t (e.2 (.inl h1)), decide_eq_true h1]; rfl
  · by_cases h2 : ids.length = k
    · rw [propB_t (e.2 (.inr h2)), decide_eq_true h2, Bool.or_true]
    · rw [propB_f fun h => by rcases e.1 h with h | h; exact h1 h; exact h2 h, decide_eq_false h1, decide_eq_false h2]; rfl
/-- A slice's beginning. -/
theorem ints_take {w : World} {B : Nat} {ad : Addr} {c k : Nat} {xs : List Int} (hc : xs.length ≤ c) (hm : c ≤ maxLen) (hb : ad.block < B) (h : ∀ j x, xs[j]? = some x → w.cell? (ad.add j) = some (.int .i64 x)) (hI : ∀ x ∈ xs, I64 x) (hk : k ≤ xs.length) : IntsR w B (.slice (some ad) k c) (xs.take k) := by
  have hl : (xs.take k).length = k := by simp; omega
  refine ⟨⟨some ad, c, by rw [List.length_map, hl], by rw [List.length_map, hl]; omega, hm, fun _ => ⟨ad, rfl, hb, fun j u hu => ?_⟩⟩, fun x hx => hI x (List.mem_of_mem_take hx)⟩
  rw [List.getElem?_map] at hu
  cases hj : (xs.take k)[j]? with
  | none => rw [hj] at hu; cases hu
  | some z =>
    rw [hj] at hu
    simp only [Option.map_some, Option.some.injEq] at hu
    subst hu
    rw [List.getElem?_take] at hj
    split at hj
    · exact h j z hj
    · cases hj
def IdsRel (ids : List Int) (w : World) (i : Value) (wr : World) : Prop := w = wr ∧ ∃ k : Nat, k ≤ ids.length ∧ i = .int .i64 k ∧ IdsTo ids k
theorem spec_neIds (v : Value) (ids : List Int) (n : Nat) (w : World) (h : IntsR w w.heap.size v ids) (hn : n ≤ 2000000) :
    Calls Tryz.prog 197 #[v, .int .i64 (n : Int)] w fun e w' => e = .returned (.bool (idsB ids n)) ∧ w = w' := by
  obtain ⟨A, c, rfl, h1, h2, h3⟩ := h.open_
  have HI := Lib.hid h.2
  unfold maxLen at h2
  clear h
  go_enter Tryz.func197, Tryz.ntmps197
  go_wp2_with fail
  go_loopw [9, 5, 6] (fun i _ _ wr => IdsRel ids w i wr) (fun i _ _ _ => ids.length - (intOf i).toNat)
  case atStart => exact ⟨rfl, 0, Nat.zero_le _, rfl, fun _ _ h => absurd h (by omega)⟩
  case round =>
    obtain ⟨rfl, k, hk, rfl, hup⟩ := hrel
    have HU := Lib.hid hup; clear hup
    by_cases hlt : k < ids.length
    · obtain ⟨y, hy⟩ : ∃ y, ids[k]? = some y := ⟨ids[k], List.getElem?_eq_getElem hlt⟩
      obtain ⟨ad, rfl, hb, hc⟩ := h3 (by omega)
      have hcell := hc k y hy
      have HX := Lib.hid hy
      have J := Lib.hid (spec_l1Has (.slice (some ad) k c) (ids.take k) y w (ints_take h1 (by unfold maxLen; exact h2) hb hc HI.out hk))
      clear h3 hc hy
      cases hp : inB y 1 999999 with
      | false =>
        go_wp2_with (go_at_call 72; refine (spec_l1In _ _ _ _).mono ?_; rintro e w' ⟨rfl, rfl⟩)
        go_ret
        exact ⟨ret_bool (ids_no HX.out (.inl hp)).symm, rfl⟩
      | true =>
        cases hq : hasB (ids.take k) y with
        | true =>
          go_wp2_with (first | (go_at_call 72; refine (spec_l1In _ _ _ _).mono ?_; rintro e w' ⟨rfl, rfl⟩) | (go_at_call 83; refine J.out.mono ?_; rintro e w' ⟨rfl, rfl⟩))
          go_ret
          exact ⟨ret_bool (ids_no HX.out (.inr hq)).symm, rfl⟩
        | false =>
          go_wp2_with (first | (go_at_call 72; refine (spec_l1In _ _ _ _).mono ?_; rintro e w' ⟨rfl, rfl⟩) | (go_at_call 83; refine J.out.mono ?_; rintro e w' ⟨rfl, rfl⟩))
          go_roundw
          case rel => exact ⟨rfl, k + 1, by omega, by go_num, HU.out.next HX.out hp hq⟩
          case measure => simp [intOf]; omega
    · have HE := Lib.hid (ids_end (k := n) HU.out (by omega))
      go_wp2_with fail
      all_goals
        go_ret
        refine ⟨ret_bool ?_, rfl⟩
        rw [HE.out, Bool.eq_iff_iff]
        simp only [Bool.or_eq_true, decide_eq_true_eq, beq_iff_eq, true_iff]
        rename_i h0
        first | (rw [h0]; simp; done) | (have h1 : ids.length ≠ 0 := fun e => h0 (List.eq_nil_of_length_eq_zero e); constructor <;> intro h <;> omega)
theorem inB_nat {x : Int} {m : Nat} (h : inB x 0 ((m : Int) - 1) = true) : ∃ a : Nat, x = a ∧ a < m := by
  unfold inB at h
  have h' : 0 ≤ x ∧ x ≤ (m : Int) - 1 := by simpa using h
  exact ⟨x.toNat, by omega, by omega⟩
theorem EndssR.at_ {w : World} {S : Nat → Prop} {ad : Addr} {c m : Nat} {ess : List Ends} (h : EndssR w S (.slice (some ad) m c) ess) {k : Nat} {es : Ends} (hk : ess[k]? = some es) : S ad.block ∧ ∃ u, w.cell? (ad.add k) = some u ∧ EndsR w S u es := by
  obtain ⟨A, c', e, h1, h2, h3⟩ := h
  obtain ⟨ad', e', hb, hc⟩ := h3 (by have := (List.getElem?_eq_some_iff.1 hk).1; omega)
  cases e
  cases e'
  exact ⟨hb, hc k es hk⟩
theorem EndsR.at_ {w : World} {S : Nat → Prop} {b o c m : Nat} {es : Ends} (h : EndsR w S (.slice (some ⟨b, o, none⟩) m c) es) {k : Nat} {e : Int × Int} (hk : es[k]? = some e) : S b ∧ w.cell? ⟨b, o + k * 2, none⟩ = some (.int .i64 e.1) ∧ w.cell? ⟨b, o + k * 2 + 1, none⟩ = some (.int .i64 e.2) := by
  obtain ⟨A, c', e', h1, h2, h3, h4⟩ := h
  obtain ⟨b', o', e2, hb, hc⟩ := h4 (by have := (List.getElem?_eq_some_iff.1 hk).1; omega)
  cases e'
  cases e2
  exact ⟨hb, hc k e hk⟩
def PlainTo (n : Net) (k : Nat) : Prop := ∀ (v : Nat) (l : Ends), v < k → n.es[v]? = some l → (v : Int) ∉ nearL l
def PlRel (n : Net) (w : World) (i : Value) (wr : World) : Prop := Below w.heap.size w wr ∧ ∃ k : Nat, k ≤ n.es.length ∧ i = .int .i64 k ∧ PlainTo n k
theorem PlainTo.next {n : Net} {k : Nat} {l : Ends} (h : PlainTo n k) (hl : n.es[k]? = some l) (hn : hasB (nearL l) k = false) : PlainTo n (k + 1) := fun v l' hv hl' => by
  by_cases e : v = k
  · subst e
    obtain rfl := Option.some.inj (hl.symm.trans hl')
    intro hm
    rw [hasB_t hm] at hn
    cases hn
  · exact h v l' (by omega) hl'
theorem PlainTo.plain {n : Net} {k : Nat} (h : PlainTo n k) (hk : n.es.length ≤ k) : plainB n = true := propB_t fun v l hl e he hev => h v l (by have := (List.getElem?_eq_some_iff.1 hl).1; omega) hl (List.mem_map.2 ⟨e, he, hev⟩)
theorem plain_no {n : Net} {k : Nat} {l : Ends} (hl : n.es[k]? = some l) (hn : hasB (nearL l) k = true) : plainB n = false := propB_f fun h => by
  obtain ⟨e, he, hev⟩ := List.mem_map.1 (propB_iff.1 hn)
  exact h k l hl e he hev
theorem netP.len {n : Net} (h : netP n) {v : Nat} {l : Ends} (hl : n.es[v]? = some l) : l.length ≤ 6 := (h.2.2.2.2 v l hl).1
theorem EndssR.len_slice {w : World} {S : Nat → Prop} {A : Option Addr} {m c : Nat} {ess : List Ends} (h : EndssR w S (.slice A m c) ess) : m = ess.length ∧ m ≤ c ∧ c ≤ maxLen := by
  obtain ⟨A', c', e, h1, h2, _⟩ := h
  cases e
  exact ⟨rfl, h1, h2⟩
theorem spec_ruPlain (ve vi vn : Value) (n : Net) (w : World) (h : NetR w w.heap.size ve vi vn n) (hp : netP n) :
    Calls Tryz.prog 198 #[.agg #[ve, vi, vn]] w fun e w' => e = .returned (.bool (plainB n)) ∧ Below w.heap.size w w' := by
  have h40 := hp.1.2
  have HP := Lib.hid hp; clear hp
  obtain ⟨⟨A0, m0, c0, rfl⟩, ⟨A1, m1, c1, rfl⟩, A2, m2, c2, rfl⟩ := h.slices
  obtain ⟨w0, hw0, hB, HD, hz0, HS0⟩ := box3 w (.slice A0 m0 c0) (.slice A1 m1 c1) (.slice A2 m2 c2) 31
  have HN0 := Lib.hid h; have HN := Lib.hid (h.up hB); clear h
  have HW0 := Lib.hid hw0; clear hw0
  obtain ⟨q0, q1, q2, qf⟩ := cells3 HD
  obtain ⟨hm0, -, -⟩ := HN.out.e.len_slice
  subst hm0
  go_enter Tryz.func198, Tryz.ntmps198
  go_wp2_with fail
  rw [← HW0.out]
  go_loopw [3, 7] (fun _ i wr => PlRel n w0 i wr) (fun _ i _ => n.es.length - (intOf i).toNat)
  case atStart => exact ⟨Below.refl _ _, 0, Nat.zero_le _, rfl, fun _ _ h => absurd h (by omega)⟩
  case round =>
    obtain ⟨hb1, k, hk, rfl, hup⟩ := hrel
    have HU := Lib.hid hup; clear hup
    have hzhb1 := hb1.size
    clear q0 q1 q2 qf
    replace HD := bk HD hb1
    replace HN := Lib.hid (HN.out.up hb1)
    replace hB := bl_trans hB hb1
    obtain ⟨q0, q1, q2, qf⟩ := cells3 HD
    by_cases hlt : k < n.es.length
    · obtain ⟨l, hl⟩ : ∃ y, n.es[k]? = some y := ⟨n.es[k], List.getElem?_eq_getElem hlt⟩
      have HL := Lib.hid hl; clear hl
      go_wp2_with fail
      refine (spec_neNear _ _ _ n k l wr HN.out HL.out (by have := HP.out.len HL.out; omega)).mono ?_
      rintro e w2 ⟨u, rfl, ⟨A', m', c', rfl⟩, hu, hb2, -⟩
      have HQ := Lib.hid hu; clear hu
      have hzhb2 := hb2.size
      clear q0 q1 q2 qf
      replace HD := bk HD hb2
      replace HN := Lib.hid (HN.out.up hb2)
      replace hB := bl_trans hB hb2
      obtain ⟨q0, q1, q2, qf⟩ := cells3 HD
      go_wp2_with fail
      refine (spec_l1Has _ (nearL l) (k : Int) w2 HQ.out).mono ?_
      rintro e w3 ⟨rfl, rfl⟩
      cases hq : hasB (nearL l) (k : Int) with
      | true =>
        go_wp2_with fail
        go_ret
        exact ⟨ret_bool (plain_no HL.out hq).symm, hB⟩
      | false =>
        go_wp2_with fail
        go_roundw
        case rel => exact ⟨bl_trans hb1 hb2, k + 1, by omega, by go_num, HU.out.next HL.out hq⟩
        case measure => simp [intOf]; omega
    · go_wp2_with fail
      go_ret
      exact ⟨ret_bool (HU.out.plain (by omega)).symm, hB⟩
end Go.Proofs.YtfhecpkhifdnbaaGreat
