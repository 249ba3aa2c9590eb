/-
  Networks, the reference's side: l1Has, neNear, neIds, neGood, ruPlain, distances.
  Networks, the reference's side: degrees, counts of states, distances, rings.
  Networks, the reference's side: rings, rules, what a network is, counts of states.
-/
import Derived.Test.YtcpbbjocaimocaaGreatENetMem
import Derived.IntWalk
namespace Go.Proofs.YtcpbbjocaimocaaGreat
section
open Go.RowKit
set_option linter.all false
theorem box3 (w : World) (a b c : Value) (t : TypeId) : ∃ w0, w0 = w.alloc (.cells #[a, b, c] t) ∧ Below w.heap.size w w0 ∧ Hid (w0.heap[w.heap.size]? = some (.cells #[a, b, c] t (0, 0))) ∧ w.heap.size < w0.heap.size ∧ Hid (w0.heap.size = w.heap.size + 1) :=
  ⟨_, rfl, bl_alloc (Below.refl _ _) _, Lib.hid (heap_alloc_new w _), by simp, Lib.hid (by simp)⟩
theorem box2 (w : World) (a b : Value) (t : TypeId) : ∃ w0, w0 = w.alloc (.cells #[a, b] t) ∧ Below w.heap.size w w0 ∧ Hid (w0.heap[w.heap.size]? = some (.cells #[a, b] t (0, 0))) ∧ w.heap.size < w0.heap.size ∧ Hid (w0.heap.size = w.heap.size + 1) :=
  ⟨_, rfl, bl_alloc (Below.refl _ _) _, Lib.hid (heap_alloc_new w _), by simp, Lib.hid (by simp)⟩
noncomputable def hasB (xs : List Int) (x : Int) : Bool := propB (x ∈ xs)
theorem hasB_t {xs : List Int} {x : Int} (h : x ∈ xs) : hasB xs x = true := propB_t h
theorem hasB_f {xs : List Int} {x : Int} (h : x ∉ xs) : hasB xs x = false := propB_f h
def NotTo (xs : List Int) (x : Int) (k : Nat) : Prop := ∀ j y, j < k → xs[j]? = some y → y ≠ x
theorem NotTo.all {xs : List Int} {x : Int} {k : Nat} (h : NotTo xs x k) (hk : xs.length ≤ k) : x ∉ xs := fun hm => by
  obtain ⟨j, hj⟩ := List.mem_iff_getElem?.1 hm
  exact h j x (by have := (List.getElem?_eq_some_iff.1 hj).1; omega) hj rfl
theorem NotTo.next {xs : List Int} {x y : Int} {k : Nat} (h : NotTo xs x k) (hy : xs[k]? = some y) (hne : y ≠ x) : NotTo xs x (k + 1) := fun j z hj hz => by
  by_cases e : j = k
  · subst e; rw [hy] at hz; cases hz; exact hne
  · exact h j z (by omega) hz
def HasRel (xs : List Int) (x : Int) (w : World) (i : Value) (wr : World) : Prop := w = wr ∧ ∃ k : Nat, k ≤ xs.length ∧ i = .int .i64 k ∧ NotTo xs x k
theorem spec_l1Has (v : Value) (xs : List Int) (x : Int) (w : World) (h : IntsR w w.heap.size v xs) :
    Calls Tryz.prog 88 #[v, .int .i64 x] w fun e w' => e = .returned (.bool (hasB xs x)) ∧ w = w' := by
  obtain ⟨A, c, rfl, h1, h2, h3⟩ := h.open_
  unfold maxLen at h2
  clear h
  go_enter Tryz.func88, Tryz.ntmps88
  go_wp2_with fail
  go_loopw [9, 6] (fun i _ wr => HasRel xs x w i wr) (fun i _ _ => xs.length - (intOf i).toNat)
  case atStart => exact ⟨rfl, 0, Nat.zero_le _, rfl, fun _ _ h => absurd h (by omega)⟩
  case round =>
    obtain ⟨rfl, k, hk, rfl, hup⟩ := hrel
    have HU := Lib.hid hup; clear hup
    by_cases hlt : k < xs.length
    · obtain ⟨y, hy⟩ : ∃ y, xs[k]? = some y := ⟨xs[k], List.getElem?_eq_getElem hlt⟩
      obtain ⟨ad, rfl, hb, hc⟩ := h3 (by omega)
      have hcell := hc k y hy
      have HX := Lib.hid hy
      clear h3 hc hy
      by_cases e : y = x
      · have HE := Lib.hid e
        have kq : (y == x) = true := by simpa using e
        clear e
        go_wp2_with fail
        go_ret
        exact ⟨ret_bool (hasB_t (by rw [← HE.out]; exact List.mem_of_getElem? HX.out)).symm, rfl⟩
      · have HE := Lib.hid e
        have kq : (y == x) = false := by simpa using e
        clear e
        go_wp2_with fail
        go_roundw
        case rel => exact ⟨rfl, k + 1, by omega, by go_num, HU.out.next HX.out HE.out⟩
        case measure => simp [intOf]; omega
    · go_wp2
      go_ret
      exact ⟨ret_bool (hasB_f (HU.out.all (by omega))).symm, rfl⟩
theorem own_intsR {w : World} {base : Nat} {v : Value} {xs : List Int} {n : Nat} (h : w.ownsRow base 3 1 v n (xs.map intV)) (hx : ∀ x ∈ xs, I64 x) : IntsR w w.heap.size v xs := by
  obtain ⟨bs, h1, h2, h3⟩ := OwnRow.of_owns h
  exact OwnInts.reads (e := 3) (bs := bs) ⟨h1, hx⟩ h1.lt
noncomputable def idsB (ids : List Int) (k : Nat) : Bool := propB (idsP ids k)
def IdsTo (ids : List Int) (k : Nat) : Prop := ∀ (i : Nat) (x : Int), i < k → ids[i]? = some x → (1 ≤ x ∧ x ≤ 999999) ∧ x ∉ ids.take i
theorem IdsTo.next {ids : List Int} {k : Nat} {x : Int} (h : IdsTo ids k) (hx : ids[k]? = some x) (h1 : inB x 1 999999 = true) (h2 : hasB (ids.take k) x = false) : IdsTo ids (k + 1) := fun i y hi hy => by
  by_cases e : i = k
  · subst e
    obtain rfl := Option.some.inj (hx.symm.trans hy)
    unfold inB at h1
    exact ⟨by simpa using h1, fun hm => by rw [hasB_t hm] at h2; cases h2⟩
  · exact h i y (by omega) hy
theorem ids_no {ids : List Int} {k i : Nat} {x : Int} (hx : ids[i]? = some x) (h : inB x 1 999999 = false ∨ hasB (ids.take i) x = true) : idsB ids k = false := propB_f fun hp => by
  have := ids_loop.2 ⟨hp.1, hp.2.1⟩ i x hx
  rcases h with h | h
  · rw [inB_t this.1] at h; cases h
  · exact this.2 (propB_iff.1 h)
theorem ids_end {ids : List Int} {k j : Nat} (h : IdsTo ids j) (hj : ids.length ≤ j) : idsB ids k = (decide (ids.length = 0) || decide (ids.length = k)) := by
  have hp := ids_loop.1 fun i x hx => h i x (by have := (List.getElem?_eq_some_iff.1 hx).1; omega) hx
  have e : idsP ids k ↔ (ids.length = 0 ∨ ids.length = k) := by
    unfold idsP
    rw [← List.length_eq_zero_iff (l := ids)]
    exact ⟨fun h => h.2.2, fun h => ⟨hp.1, hp.2, h⟩⟩
  unfold idsB
  by_cases h1 : ids.length = 0
  · rw [propB_t (e.2 (.inl h1)), decide_eq_true h1]; rfl
  · by_cases h2 : ids.length = k
    · rw [propB_t (e.2 (.inr h2)), decide_eq_true h2, Bool.or_true]
    · rw [propB_f fun h => by rcases e.1 h with h | h; exact h1 h; exact h2 h, decide_eq_false h1, decide_eq_false h2]; rfl
theorem ints_take {w : World} {B : Nat} {ad : Addr} {c k : Nat} {xs : List Int} (hc : xs.length ≤ c) (hm : c ≤ maxLen) (hb : ad.block < B) (h : ∀ j x, xs[j]? = some x → w.cell? (ad.add j) = some (.int .i64 x)) (hI : ∀ x ∈ xs, I64 x) (hk : k ≤ xs.length) : IntsR w B (.slice (some ad) k c) (xs.take k) := by
  have hl : (xs.take k).length = k := by simp; omega
  refine ⟨⟨some ad, c, by rw [List.length_map, hl], by rw [List.length_map, hl]; omega, hm, fun _ => ⟨ad, rfl, hb, fun j u hu => ?_⟩⟩, fun x hx => hI x (List.mem_of_mem_take hx)⟩
  rw [List.getElem?_map] at hu
  cases hj : (xs.take k)[j]? with
  | none => rw [hj] at hu; cases hu
  | some z =>
    rw [hj] at hu
    simp only [Option.map_some, Option.some.injEq] at hu
    subst hu
    rw [List.getElem?_take] at hj
    split at hj
    · exact h j z hj
    · cases hj
def IdsRel (ids : List Int) (w : World) (i : Value) (wr : World) : Prop := w = wr ∧ ∃ k : Nat, k ≤ ids.length ∧ i = .int .i64 k ∧ IdsTo ids k
theorem spec_neIds (v : Value) (ids : List Int) (n : Nat) (w : World) (h : IntsR w w.heap.size v ids) (hn : n ≤ 2000000) :
  Calls Tryz.prog 149 #[v, .int .i64 (n : Int)] w fun e w' => e = .returned (.bool (idsB ids n)) ∧ w = w' := by
 obtain ⟨A, c, rfl, h1, h2, h3⟩ := h.open_
 have HI := Lib.hid h.2
 unfold maxLen at h2
 clear h
 go_enter Tryz.func149, Tryz.ntmps149
 go_wp2_with fail
 go_loopw [9, 5, 6] (fun i _ _ wr => IdsRel ids w i wr) (fun i _ _ _ => ids.length - (intOf i).toNat)
 case atStart => exact ⟨rfl, 0, Nat.zero_le _, rfl, fun _ _ h => absurd h (by omega)⟩
 case round =>
  obtain ⟨rfl, k, hk, rfl, hup⟩ := hrel
  have HU := Lib.hid hup; clear hup
  by_cases hlt : k < ids.length
  ·
   obtain ⟨y, hy⟩ : ∃ y, ids[k]? = some y := ⟨ids[k], List.getElem?_eq_getElem hlt⟩
   obtain ⟨ad, rfl, hb, hc⟩ := h3 (by omega)
   have hcell := hc k y hy
   have HX := Lib.hid hy
   have J := Lib.hid (spec_l1Has (.slice (some ad) k c) (ids.take k) y w (ints_take h1 (by unfold maxLen; exact h2) hb hc HI.out hk))
   clear h3 hc hy
   cases hp : inB y 1 999999 with
   | false =>
    go_wp2_with (go_at_call 75; refine (spec_l1In _ _ _ _).mono ?_; rintro e w' ⟨rfl, rfl⟩)
    go_ret
    exact ⟨ret_bool (ids_no HX.out (.inl hp)).symm, rfl⟩
   | true =>
    cases hq : hasB (ids.take k) y with
    | true =>
     go_wp2_with (first | (go_at_call 75; refine (spec_l1In _ _ _ _).mono ?_; rintro e w' ⟨rfl, rfl⟩) | (go_at_call 88; refine J.out.mono ?_; rintro e w' ⟨rfl, rfl⟩))
     go_ret
     exact ⟨ret_bool (ids_no HX.out (.inr hq)).symm, rfl⟩
    | false =>
     go_wp2_with (first | (go_at_call 75; refine (spec_l1In _ _ _ _).mono ?_; rintro e w' ⟨rfl, rfl⟩) | (go_at_call 88; refine J.out.mono ?_; rintro e w' ⟨rfl, rfl⟩))
     go_roundw
     case rel => exact ⟨rfl, k + 1, by omega, by go_num, HU.out.next HX.out hp hq⟩
     case measure => simp [intOf]; omega
  ·
   have HE := Lib.hid (ids_end (k := n) HU.out (by omega))
   go_wp2_with fail
   all_goals
    go_ret
    refine ⟨ret_bool ?_, rfl⟩
    rw [HE.out, Bool.eq_iff_iff]
    simp only [Bool.or_eq_true, decide_eq_true_eq, beq_iff_eq, true_iff]
    rename_i h0
    first | (rw [h0]; simp; done) | (have h1 : ids.length ≠ 0 := fun e => h0 (List.eq_nil_of_length_eq_zero e); constructor <;> intro h <;> omega)
theorem inB_nat {x : Int} {m : Nat} (h : inB x 0 ((m : Int) - 1) = true) : ∃ a : Nat, x = a ∧ a < m := by
  unfold inB at h
  have h' : 0 ≤ x ∧ x ≤ (m : Int) - 1 := by simpa using h
  exact ⟨x.toNat, by omega, by omega⟩
theorem EndssR.at_ {w : World} {S : Nat → Prop} {ad : Addr} {c m : Nat} {ess : List Ends} (h : EndssR w S (.slice (some ad) m c) ess) {k : Nat} {es : Ends} (hk : ess[k]? = some es) : S ad.block ∧ ∃ u, w.cell? (ad.add k) = some u ∧ EndsR w S u es := by
  obtain ⟨A, c', e, h1, h2, h3⟩ := h
  obtain ⟨ad', e', hb, hc⟩ := h3 (by have := (List.getElem?_eq_some_iff.1 hk).1; omega)
  cases e
  cases e'
  exact ⟨hb, hc k es hk⟩
theorem EndsR.at_ {w : World} {S : Nat → Prop} {b o c m : Nat} {es : Ends} (h : EndsR w S (.slice (some ⟨b, o, none⟩) m c) es) {k : Nat} {e : Int × Int} (hk : es[k]? = some e) : S b ∧ w.cell? ⟨b, o + k * 2, none⟩ = some (.int .i64 e.1) ∧ w.cell? ⟨b, o + k * 2 + 1, none⟩ = some (.int .i64 e.2) := by
  obtain ⟨A, c', e', h1, h2, h3, h4⟩ := h
  obtain ⟨b', o', e2, hb, hc⟩ := h4 (by have := (List.getElem?_eq_some_iff.1 hk).1; omega)
  cases e'
  cases e2
  exact ⟨hb, hc k e hk⟩
theorem netP.len {n : Net} (h : netP n) {v : Nat} {l : Ends} (hl : n.es[v]? = some l) : l.length ≤ 6 := (h.2.2.2.2 v l hl).1
theorem EndssR.len_slice {w : World} {S : Nat → Prop} {A : Option Addr} {m c : Nat} {ess : List Ends} (h : EndssR w S (.slice A m c) ess) : m = ess.length ∧ m ≤ c ∧ c ≤ maxLen := by
  obtain ⟨A', c', e, h1, h2, _⟩ := h
  cases e
  exact ⟨rfl, h1, h2⟩
end
section
open Go.RowKit
set_option linter.all false
theorem degs_snoc (n : Net) (k : Nat) (l : Ends) (h : n.es[k]? = some l) : ((degs n).take (k + 1)).map intV = ((degs n).take k).map intV ++ [.int .i64 (l.length : Int)] := by
  have h' : (degs n)[k]? = some (l.length : Int) := by unfold degs; rw [List.getElem?_map, h]; rfl
  obtain ⟨hk', e⟩ := List.getElem?_eq_some_iff.1 h'
  rw [List.take_succ_eq_append_getElem hk', List.map_append, e]; rfl
def IntsRel (xs : List Int) (w : World) (v i : Value) (wr : World) : Prop :=
  ∃ k : Nat, k ≤ xs.length ∧ i = .int .i64 k ∧ wr.ownsRow w.heap.size 3 1 v k ((xs.take k).map intV) ∧ Below w.heap.size w wr
theorem IntsRel.fin {xs : List Int} {w wr : World} {v : Value} {k : Nat} (h : wr.ownsRow w.heap.size 3 1 v k ((xs.take k).map intV)) (hk : xs.length ≤ k) (hx : ∀ x ∈ xs, I64 x) : IntsR wr wr.heap.size v xs := by
  rw [List.take_of_length_le hk] at h
  exact own_intsR h hx
theorem small_I64 {x a b : Int} (h : a ≤ x ∧ x ≤ b) (ha : -1000000000 ≤ a) (hb : b ≤ 1000000000) : I64 x := by unfold I64; omega
theorem spec_neDegrees (ve vi vn : Value) (n : Net) (w : World) (h : NetR w w.heap.size ve vi vn n) (hp : netP n) :
  Calls Tryz.prog 150 #[.agg #[ve, vi, vn]] w fun e w' => ∃ u, e = .returned u ∧ (∃ A m c, u = .slice A m c) ∧ IntsR w' w'.heap.size u (degs n) ∧ Below w.heap.size w w' := by
 have h40 := hp.1.2
 have HP := Lib.hid hp; clear hp
 obtain ⟨⟨A0, m0, c0, rfl⟩, ⟨A1, m1, c1, rfl⟩, A2, m2, c2, rfl⟩ := h.slices
 obtain ⟨w0, hw0, hB, HD, hz0, HS0⟩ := box3 w (.slice A0 m0 c0) (.slice A1 m1 c1) (.slice A2 m2 c2) 46
 have HN0 := Lib.hid h; have HN := Lib.hid (h.up hB); clear h
 have HW0 := Lib.hid hw0; clear hw0
 obtain ⟨q0, q1, q2, qf⟩ := cells3 HD
 obtain ⟨hm0, -, -⟩ := HN.out.e.len_slice
 subst hm0
 have hdl : (degs n).length = n.es.length := by unfold degs; simp
 have HDL := Lib.hid hdl; clear hdl
 go_enter Tryz.func150, Tryz.ntmps150
 go_wp2_with fail
 rw [← HW0.out]
 go_loopw [3, 5, 9] (fun v _ i wr => IntsRel (degs n) w0 v i wr) (fun _ _ i _ => n.es.length - (intOf i).toNat)
 case atStart => exact ⟨0, Nat.zero_le _, rfl, World.ownsRow_nil _ _ _ _, Below.refl _ _⟩
 case round =>
  obtain ⟨k, hk, rfl, hown, hb1⟩ := hrel
  rw [HDL.out] at hk
  have hzhb1 := hb1.size
  clear q0 q1 q2 qf
  replace HD := bk HD hb1
  replace HN := Lib.hid (HN.out.up hb1)
  replace hB := bl_trans hB hb1
  obtain ⟨q0, q1, q2, qf⟩ := cells3 HD
  by_cases hlt : k < n.es.length
  ·
   obtain ⟨l, hl⟩ : ∃ y, n.es[k]? = some y := ⟨n.es[k], List.getElem?_eq_getElem hlt⟩
   obtain ⟨ad, rfl⟩ : ∃ ad, A0 = some ad := by
    obtain ⟨A', c', e, -, -, h3⟩ := HN.out.e
    obtain ⟨ad, e', -⟩ := h3 (by omega)
    cases e
    exact ⟨ad, e'⟩
   obtain ⟨hbb, u, hu, hr⟩ := HN.out.e.at_ hl
   obtain ⟨A', c', rfl, -⟩ := hr
   have hl6 := HP.out.len hl
   have HS := Lib.hid (degs_snoc n k l hl)
   clear hl hbb
   go_wp2_with ((at_builtin; refine wpList_append1 wr rfl (.tmp 13) (.tmp 16) 24 rfl w0.heap.size 3 _ 8 Tryz.underlying24 intInfo rfl _ _ _ rfl _ rfl rfl hown (by unfold maxLen; omega) (by omega) hb1.size ?_; intro v' w' hown' hbl' hgr' hlt' hob'))
   go_roundw
   case rel => exact ⟨k + 1, by rw [HDL.out]; omega, by go_num, by rw [HS.out]; exact hown', hb1.trans hbl'⟩
   case measure => simp [intOf]; omega
  ·
   have hI := IntsRel.fin hown (by rw [HDL.out]; omega) (fun x hx => small_I64 (degs_bd HP.out x hx) (by omega) (by omega))
   have HO := Lib.hid hI; clear hI hown
   go_wp2_with fail
   go_ret
   exact ⟨_, rfl, HO.out.isSlice, HO.out, hB⟩
/-! ### Distances -/
theorem rowOf_map (k n : Nat) (h : k ≤ n) (x : Int) : rowOf ((List.replicate k x).map intV) n (.int .i64 0) = ((List.replicate k x ++ List.replicate (n - k) 0).map intV).toArray := by
  unfold rowOf
  simp [intV]
theorem set_map (d : List Int) (i : Nat) (x : Int) : ((d.map intV).toArray).setIfInBounds i (.int .i64 x) = ((d.set i x).map intV).toArray := by
  simp [List.map_set, intV]
theorem fill_set {k n : Nat} (h : k < n) : (List.replicate k (-1 : Int) ++ List.replicate (n - k) 0).set k (-1) = List.replicate (k + 1) (-1) ++ List.replicate (n - (k + 1)) 0 := by
  obtain ⟨m, hm⟩ : ∃ m, n - k = m + 1 := ⟨n - k - 1, by omega⟩
  rw [hm, show n - (k + 1) = m by omega, List.replicate_succ, List.replicate_succ', List.set_append_right _ _ (by simp), List.length_replicate, Nat.sub_self, List.set_cons_zero, List.append_assoc]
  rfl
def NumsAt (w : World) (g : Nat) (d : List Int) : Prop := w.heap[g]? = some (.cells (d.map intV).toArray 3 (0, 0))
theorem NumsAt.cell {w : World} {g : Nat} {d : List Int} (h : NumsAt w g d) {i : Nat} {x : Int} (hx : d[i]? = some x) : w.cell? ⟨g, i, none⟩ = some (.int .i64 x) := by
  rw [cell_of_row _ _ i _ _ (0, 0) h, ← Array.getElem?_toList]
  simp [hx, intV]
theorem NumsAt.frozen {w : World} {g : Nat} {d : List Int} (h : NumsAt w g d) (i : Nat) : w.frozen? ⟨g, i, none⟩ = false := frozen_of_row _ _ i _ _ h
theorem NumsAt.set {w : World} {g : Nat} {d : List Int} (h : NumsAt w g d) (i : Nat) (x : Int) : NumsAt (w.setCell ⟨g, i, none⟩ (.int .i64 x)) g (d.set i x) := by
  unfold NumsAt
  rw [heap_set_same h, set_map]
theorem NumsAt.lt {w : World} {g : Nat} {d : List Int} (h : NumsAt w g d) : g < w.heap.size := by
  rcases Nat.lt_or_ge g w.heap.size with h' | h'
  · exact h'
  · unfold NumsAt at h
    rw [Array.getElem?_eq_none h'] at h
    cases h
def FillRel (n g : Nat) (w0 : World) (i : Value) (wr : World) : Prop := ∃ k : Nat, k ≤ n ∧ i = .int .i64 k ∧ NumsAt wr g (List.replicate k (-1) ++ List.replicate (n - k) 0) ∧ Below w0.heap.size w0 wr
theorem own_slice {w : World} {base n : Nat} {v : Value} {vs : List Value} (h : w.ownsRow base 3 1 v n vs) : ∃ A c, v = .slice A n c := by
  rcases h.2 with ⟨e, e'⟩ | ⟨g, cap, cur, e, _⟩
  · exact ⟨none, 0, by rw [e, e']⟩
  · exact ⟨_, _, e⟩
end
section
open Go.RowKit
set_option linter.all false
theorem EndssR.some_ {w : World} {S : Nat → Prop} {A : Option Addr} {m c : Nat} {ess : List Ends} (h : EndssR w S (.slice A m c) ess) (hk : 0 < ess.length) : ∃ ad, A = some ad := by
  obtain ⟨A', c', e, -, -, h3⟩ := h
  obtain ⟨ad, e', -⟩ := h3 hk
  cases e
  exact ⟨ad, e'⟩
theorem IntsR.some_ {w : World} {B : Nat} {A : Option Addr} {m c : Nat} {xs : List Int} (h : IntsR w B (.slice A m c) xs) : m = xs.length ∧ m ≤ c ∧ c ≤ maxLen ∧ (0 < xs.length → ∃ ad, A = some ad ∧ ad.block < B ∧ ∀ j x, xs[j]? = some x → w.cell? (ad.add j) = some (.int .i64 x)) := by
  obtain ⟨A', c', e, h1, h2, h3⟩ := h.open_
  cases e
  exact ⟨rfl, h1, h2, h3⟩
end
end Go.Proofs.YtcpbbjocaimocaaGreat
