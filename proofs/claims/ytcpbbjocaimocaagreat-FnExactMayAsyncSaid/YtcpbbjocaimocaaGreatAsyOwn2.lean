/-
  Asynchronous states that are a call's own: how they are read, and how single elements are set. No program in sight, no condition.
-/
import Derived.Test.YtcpbbjocaimocaaGreatAsyOwn
namespace Go.Proofs.YtcpbbjocaimocaaGreat
open Go.RowKit
set_option linter.unusedVariables false
set_option linter.unusedSimpArgs false
theorem own_slR {w : World} {base n : Nat} {e : TypeId} {v : Value} {vs : List Value} (h : w.ownsRow base e 1 v n vs) : SlR w w.heap.size v vs := by
  obtain ⟨bs, h1, -, -⟩ := OwnRow.of_owns h
  exact h1.reads h1.lt
theorem allR_of2 {w : World} {B : Nat} : ∀ {vs : List Value} {xss : List (List Int)}, vs.length = xss.length → (∀ (k : Nat) (v : Value) (xs : List Int), vs[k]? = some v → xss[k]? = some xs → IntsR w B v xs) → AllR w B vs xss
  | [], [], _, _ => trivial
  | v :: vs, xs :: xss, h, hk => ⟨hk 0 v xs rfl rfl, allR_of2 (by simpa using h) fun k v xs h1 h2 => hk (k + 1) v xs (by simpa using h1) (by simpa using h2)⟩
  | [], _ :: _, h, _ => by simp at h
  | _ :: _, [], h, _ => by simp at h
theorem letCells_at {ls : Ends} {k : Nat} {e : Int × Int} (h : ls[k]? = some e) : (letCells ls)[k * 2]? = some (.int .i64 e.1) ∧ (letCells ls)[k * 2 + 1]? = some (.int .i64 e.2) := by
  induction ls generalizing k with
  | nil => simp at h
  | cons y r ih =>
    have e' : letCells (y :: r) = letC y ++ letCells r := rfl
    rcases k with _ | k
    · simp only [List.getElem?_cons_zero, Option.some.injEq] at h
      subst h
      exact ⟨rfl, rfl⟩
    · have := ih (k := k) h
      rw [e']
      have hl : (letC y).length = 2 := rfl
      rw [List.getElem?_append_right (by rw [hl]; omega), List.getElem?_append_right (by rw [hl]; omega), hl]
      rw [show (k + 1) * 2 - 2 = k * 2 by omega, show (k + 1) * 2 + 1 - 2 = k * 2 + 1 by omega]
      exact this
theorem letCells_len (ls : Ends) : (letCells ls).length = ls.length * 2 := by
  induction ls with
  | nil => rfl
  | cons y r ih => rw [show letCells (y :: r) = letC y ++ letCells r from rfl, List.length_append, ih, List.length_cons]; show 2 + _ = _; omega
theorem letCells_snoc (ls : Ends) (e : Int × Int) : letCells (ls ++ [e]) = letCells ls ++ letC e := by
  unfold letCells
  rw [List.flatMap_append]
  simp
theorem letCells_append (a b : Ends) : letCells (a ++ b) = letCells a ++ letCells b := by unfold letCells; rw [List.flatMap_append]
theorem own_endsR {w : World} {base : Nat} {v : Value} {ls : Ends} (h : w.ownsRow base 156 2 v ls.length (letCells ls)) (hi : ∀ e ∈ ls, I64 e.1 ∧ I64 e.2) : EndsR w (· < w.heap.size) v ls := by
  have hlt := h.lt
  have hc := fun g cap (e : v = .slice (some ⟨g, 0, none⟩) ls.length cap) => World.ownsRow.cellAt (by rw [e] at h; exact h)
  rcases h.2 with ⟨e, e0⟩ | ⟨g, cap, cur, e, hb, hg, hn, hm, hs, ht⟩
  · exact ⟨none, 0, by rw [e, e0], by omega, Nat.zero_le _, hi, fun hn => absurd hn (by omega)⟩
  · refine ⟨some ⟨g, 0, none⟩, cap, e, hn, hm, hi, fun _ => ⟨g, 0, rfl, (hlt g (by rw [e]; rfl)).2, fun k x hx => ?_⟩⟩
    obtain ⟨h1, h2⟩ := letCells_at hx
    have hk := (List.getElem?_eq_some_iff.1 hx).1
    rw [Nat.zero_add]
    exact ⟨(hc g cap e (k * 2) (by omega)).trans h1, (hc g cap e (k * 2 + 1) (by omega)).trans h2⟩
/-- All numbers of a state are of 64 bits. -/
structure I64A (x : Asy) : Prop where
  r : ∀ y ∈ x.rounds, I64 y
  b : ∀ y ∈ x.before, I64 y
  n : ∀ y ∈ x.now, I64 y
  s : ∀ l ∈ x.slots, ∀ y ∈ l, I64 y
  f : ∀ f ∈ x.flight, ∀ ls ∈ f, ∀ e ∈ ls, I64 e.1 ∧ I64 e.2
theorem valsOf_at {g : Nat → Key} {val : Key → Value} {n k : Nat} (h : k < n) : (valsOf g val n)[k]? = some (val (g k)) := by
  unfold valsOf
  rw [List.getElem?_map, List.getElem?_range h]
  rfl
theorem valsOf_len (g : Nat → Key) (val : Key → Value) (n : Nat) : (valsOf g val n).length = n := by simp [valsOf]
theorem valsOf_succ (g : Nat → Key) (val : Key → Value) (n : Nat) : valsOf g val (n + 1) = valsOf g val n ++ [val (g n)] := by simp [valsOf, List.range_succ]
theorem valsOf_congr {g : Nat → Key} {val val' : Key → Value} {n : Nat} (h : ∀ k, k < n → val' (g k) = val (g k)) : valsOf g val' n = valsOf g val n := by
  unfold valsOf
  exact List.map_congr_left fun k hk => h k (List.mem_range.1 hk)
theorem valsOf_set {g : Nat → Key} (val : Key → Value) (n k : Nat) (v : Value) (hg : ∀ i j, g i = g j → i = j) : valsOf g (upd val (g k) v) n = (valsOf g val n).set k v := by
  refine List.ext_getElem? fun j => ?_
  rw [List.getElem?_set, valsOf_len]
  by_cases hj : j < n
  · rw [valsOf_at hj]
    by_cases e : k = j
    · subst e; rw [if_pos rfl, if_pos hj, upd_same]
    · rw [if_neg e, valsOf_at hj, upd_ne _ _ fun h => e (hg _ _ h).symm]
  · rw [List.getElem?_eq_none (by rw [valsOf_len]; omega)]
    by_cases e : k = j
    · subst e; rw [if_pos rfl, if_neg hj]
    · rw [if_neg e, List.getElem?_eq_none (by rw [valsOf_len]; omega)]
section
variable {w w' : World} {base : Nat} {val : Key → Value} {x : Asy}
theorem slotsAt_eq {k : Nat} {s : List Int} (h : x.slots[k]? = some s) : slotsAt x k = s := by unfold slotsAt; rw [List.getD_eq_getElem?_getD, h]; rfl
theorem portsAt_eq {k : Nat} {f : List Ends} (h : x.flight[k]? = some f) : portsAt x k = f := by unfold portsAt; rw [List.getD_eq_getElem?_getD, h]; rfl
theorem lettersAt_eq {k p : Nat} {f : List Ends} {ls : Ends} (h : x.flight[k]? = some f) (h' : f[p]? = some ls) : lettersAt x k p = ls := by unfold lettersAt; rw [portsAt_eq h, List.getD_eq_getElem?_getD, h']; rfl
theorem AsyK.reads (h : AsyK w base val x) (hi : I64A x) : AsyR w w.heap.size (val .r) (val .b) (val .n) (val .s) (val .f) x := by
  refine ⟨own_intsR (h.own .r trivial) hi.r, own_intsR (h.own .b trivial) hi.b, own_intsR (h.own .n trivial) hi.n, ?_, ?_⟩
  · refine ⟨_, own_slR (h.own .s trivial), allR_of2 (valsOf_len _ _ _) fun k v xs h1 h2 => ?_⟩
    have hk := (List.getElem?_eq_some_iff.1 h2).1
    have h1' : (valsOf .sl val x.slots.length)[k]? = some v := h1
    rw [valsOf_at hk] at h1'
    obtain rfl := Option.some.inj h1'
    have ho := h.own (.sl k) hk
    have e : rowK x val (.sl k) = ⟨3, 1, xs.length, xs.map intV⟩ := by show (⟨_, _, (slotsAt x k).length, _⟩ : RowD) = _; rw [slotsAt_eq h2]
    rw [e] at ho
    exact own_intsR ho (hi.s xs (List.mem_of_getElem? h2))
  · obtain ⟨A, c, e, h1, h2, h3⟩ := own_slR (h.own .f trivial)
    have hl : (rowK x val .f).con.length = x.flight.length := valsOf_len _ _ _
    rw [hl] at e h1 h3
    refine ⟨A, c, e, h1, h2, fun hn => ?_⟩
    obtain ⟨ad, e', hb, hc⟩ := h3 hn
    refine ⟨ad, e', hb, fun k f hf => ⟨val (.fr k), hc k _ (valsOf_at (List.getElem?_eq_some_iff.1 hf).1), ?_⟩⟩
    have hk := (List.getElem?_eq_some_iff.1 hf).1
    have ho := h.own (.fr k) hk
    have e : rowK x val (.fr k) = ⟨120, 1, f.length, valsOf (.le k) val f.length⟩ := by show (⟨_, _, (portsAt x k).length, _⟩ : RowD) = _; rw [portsAt_eq hf]
    rw [e] at ho
    obtain ⟨A', c', e2, g1, g2, g3⟩ := own_slR ho
    have hl' : (valsOf (.le k) val f.length).length = f.length := valsOf_len _ _ _
    rw [hl'] at e2 g1 g3
    refine ⟨A', c', e2, g1, g2, fun hn' => ?_⟩
    obtain ⟨ad', e3, hb', hc'⟩ := g3 hn'
    refine ⟨ad', e3, hb', fun p ls hp => ⟨val (.le k p), hc' p _ (valsOf_at (List.getElem?_eq_some_iff.1 hp).1), ?_⟩⟩
    have hpl := (List.getElem?_eq_some_iff.1 hp).1
    have ho' := h.own (.le k p) ⟨hk, by rw [portsAt_eq hf]; exact hpl⟩
    have e4 : rowK x val (.le k p) = ⟨156, 2, ls.length, letCells ls⟩ := by show (⟨_, _, (lettersAt x k p).length, _⟩ : RowD) = _; rw [lettersAt_eq hf hp]
    rw [e4] at ho'
    exact own_endsR ho' (hi.f f (List.mem_of_getElem? hf) ls (List.mem_of_getElem? hp))
theorem AsyK.keep (h : AsyK w base val x) (hg : w.grownBy w' none) : AsyK w' base val x := OwnK.keep h hg
theorem grown_below (h : Below w.heap.size w w') : w.grownBy w' none := ⟨h.os, h.tape, h.output, h.size, fun k hk _ => h.block k hk⟩
theorem AsyK.up (h : AsyK w base val x) (hb : Below w.heap.size w w') : AsyK w' base val x := OwnK.keep h (grown_below hb)
/-- A list of the state that is not empty, as a slice. -/
theorem OwnK.slice {K : Key → Prop} {R : Key → RowD} (h : OwnK w base K val R) (i : Key) (hi : K i) (hn : 0 < (R i).len) : ∃ g cap, val i = .slice (some ⟨g, 0, none⟩) (R i).len cap ∧ (R i).len ≤ cap ∧ cap ≤ maxLen ∧ base ≤ g ∧ g < w.heap.size := by
  have ho := h.own i hi
  have hl := ho.lt
  rcases ho.2 with ⟨_, e⟩ | ⟨g, cap, cur, e, h1, _, h5, h6, _⟩
  · omega
  · exact ⟨g, cap, e, h5, h6, h1, (hl g (by rw [e]; rfl)).2⟩
theorem AsyK.setRounds (h : AsyK w base val x) {g cap : Nat} (hv : val .r = .slice (some ⟨g, 0, none⟩) x.rounds.length cap) (k : Nat) (y : Int) : AsyK (w.setCell ⟨g, k, none⟩ (.int .i64 y)) base val { x with rounds := x.rounds.set k y } :=
  (OwnK.set h .r trivial hv rfl (.int .i64 y) (j := k)).congr fun j hj => ⟨by cases j <;> exact hj, rfl, by
    cases j with
    | r => rw [upd_same]; show (⟨_, _, (x.rounds.set k y).length, (x.rounds.set k y).map intV⟩ : RowD) = _; rw [List.length_set, List.map_set]; rfl
    | _ => rw [upd_ne _ _ (by simp)]; rfl⟩
theorem AsyK.setBefore (h : AsyK w base val x) {g cap : Nat} (hv : val .b = .slice (some ⟨g, 0, none⟩) x.before.length cap) (k : Nat) (y : Int) : AsyK (w.setCell ⟨g, k, none⟩ (.int .i64 y)) base val { x with before := x.before.set k y } :=
  (OwnK.set h .b trivial hv rfl (.int .i64 y) (j := k)).congr fun j hj => ⟨by cases j <;> exact hj, rfl, by
    cases j with
    | b => rw [upd_same]; show (⟨_, _, (x.before.set k y).length, (x.before.set k y).map intV⟩ : RowD) = _; rw [List.length_set, List.map_set]; rfl
    | _ => rw [upd_ne _ _ (by simp)]; rfl⟩
theorem AsyK.setNow (h : AsyK w base val x) {g cap : Nat} (hv : val .n = .slice (some ⟨g, 0, none⟩) x.now.length cap) (k : Nat) (y : Int) : AsyK (w.setCell ⟨g, k, none⟩ (.int .i64 y)) base val { x with now := x.now.set k y } :=
  (OwnK.set h .n trivial hv rfl (.int .i64 y) (j := k)).congr fun j hj => ⟨by cases j <;> exact hj, rfl, by
    cases j with
    | n => rw [upd_same]; show (⟨_, _, (x.now.set k y).length, (x.now.set k y).map intV⟩ : RowD) = _; rw [List.length_set, List.map_set]; rfl
    | _ => rw [upd_ne _ _ (by simp)]; rfl⟩
theorem slotsAt_set {k : Nat} (hk : k < x.slots.length) (s : List Int) (j : Nat) : slotsAt { x with slots := x.slots.set k s } j = if j = k then s else slotsAt x j := by
  unfold slotsAt
  rw [List.getD_eq_getElem?_getD, List.getD_eq_getElem?_getD, List.getElem?_set]
  by_cases e : k = j
  · subst e; rw [if_pos rfl, if_pos hk, if_pos rfl]; rfl
  · rw [if_neg e, if_neg (fun h => e h.symm)]
theorem portsAt_set {k : Nat} (hk : k < x.flight.length) (f : List Ends) (j : Nat) : portsAt { x with flight := x.flight.set k f } j = if j = k then f else portsAt x j := by
  unfold portsAt
  rw [List.getD_eq_getElem?_getD, List.getD_eq_getElem?_getD, List.getElem?_set]
  by_cases e : k = j
  · subst e; rw [if_pos rfl, if_pos hk, if_pos rfl]; rfl
  · rw [if_neg e, if_neg (fun h => e h.symm)]
/-- One slot is set. -/
theorem AsyK.setSlot (h : AsyK w base val x) {k : Nat} (hk : k < x.slots.length) {g cap : Nat} (hv : val (.sl k) = .slice (some ⟨g, 0, none⟩) (slotsAt x k).length cap) (p : Nat) (y : Int) :
    AsyK (w.setCell ⟨g, p, none⟩ (.int .i64 y)) base val { x with slots := x.slots.set k ((slotsAt x k).set p y) } :=
  (OwnK.set h (.sl k) hk hv rfl (.int .i64 y) (j := p)).congr fun j hj => ⟨by
    cases j with
    | sl i => exact (by simpa [keyOf] using hj)
    | _ => exact hj, rfl, by
    cases j with
    | sl i =>
      by_cases e : i = k
      · subst e
        rw [upd_same]
        show (⟨_, _, (slotsAt { x with slots := x.slots.set i ((slotsAt x i).set p y) } i).length, _⟩ : RowD) = _
        rw [slotsAt_set hk, if_pos rfl, List.length_set, List.map_set]; rfl
      · rw [upd_ne _ _ (by simpa using e)]
        show (⟨_, _, (slotsAt { x with slots := x.slots.set k ((slotsAt x k).set p y) } i).length, _⟩ : RowD) = _
        rw [slotsAt_set hk, if_neg e]; rfl
    | s => rw [upd_ne _ _ (by simp)]; show (⟨_, _, (x.slots.set k _).length, valsOf .sl val (x.slots.set k _).length⟩ : RowD) = _; rw [List.length_set]; rfl
    | _ => rw [upd_ne _ _ (by simp)]; rfl⟩
/-- The slots of a node are a new list. -/
theorem AsyK.newSlots (h : AsyK w base val x) {k : Nat} (hk : k < x.slots.length) {g cap : Nat} (hv : val .s = .slice (some ⟨g, 0, none⟩) x.slots.length cap) {v : Value} {s : List Int} (hg : w.grownBy w' none) (hn : w'.ownsRow base 3 1 v s.length (s.map intV))
    (hb : v.ownBlock = none ∨ ∃ g, v.ownBlock = some g ∧ w.heap.size ≤ g) : AsyK (w'.setCell ⟨g, k, none⟩ v) base (upd val (.sl k) v) { x with slots := x.slots.set k s } :=
  (OwnK.set (OwnK.new h (.sl k) v ⟨3, 1, s.length, s.map intV⟩ hg hn hb) .s (.inl trivial) (by rw [upd_ne _ _ (by simp)]; exact hv) (by rw [upd_ne _ _ (by simp)]; rfl) v (j := k)).congr fun j hj => ⟨by
    cases j with
    | sl i => exact .inl (by simpa [keyOf] using hj)
    | _ => exact .inl hj, rfl, by
    cases j with
    | sl i =>
      rw [upd_ne _ _ (by simp)]
      by_cases e : i = k
      · subst e
        rw [upd_same]
        show (⟨_, _, (slotsAt { x with slots := x.slots.set i s } i).length, _⟩ : RowD) = _
        rw [slotsAt_set hk, if_pos rfl]
      · rw [upd_ne _ _ (by simpa using e)]
        show (⟨_, _, (slotsAt { x with slots := x.slots.set k s } i).length, _⟩ : RowD) = _
        rw [slotsAt_set hk, if_neg e]; rfl
    | s => rw [upd_same]; show (⟨_, _, (x.slots.set k _).length, valsOf .sl (upd val (.sl k) v) (x.slots.set k _).length⟩ : RowD) = _; rw [List.length_set, valsOf_set _ _ _ _ (fun i j h => by simpa using h)]
    | fr i => rw [upd_ne _ _ (by simp), upd_ne _ _ (by simp)]; show (⟨_, _, _, valsOf (.le i) (upd val (.sl k) v) _⟩ : RowD) = _; rw [valsOf_congr (fun _ _ => upd_ne _ _ (by simp))]; rfl
    | f => rw [upd_ne _ _ (by simp), upd_ne _ _ (by simp)]; show (⟨_, _, _, valsOf .fr (upd val (.sl k) v) _⟩ : RowD) = _; rw [valsOf_congr (fun _ _ => upd_ne _ _ (by simp))]; rfl
    | _ => rw [upd_ne _ _ (by simp), upd_ne _ _ (by simp)]; rfl⟩
/-- The letters at a port are another list, in the same block or a new one. -/
theorem AsyK.newLetters (h : AsyK w base val x) {k p : Nat} (hk : k < x.flight.length) (hp : p < (portsAt x k).length) {g cap : Nat} (hv : val (.fr k) = .slice (some ⟨g, 0, none⟩) (portsAt x k).length cap) {v : Value} {ls : Ends} (hg : w.grownBy w' (val (.le k p)).ownBlock)
    (hn : w'.ownsRow base 156 2 v ls.length (letCells ls)) (hb : v.ownBlock = (val (.le k p)).ownBlock ∨ ∃ g, v.ownBlock = some g ∧ w.heap.size ≤ g) :
    AsyK (w'.setCell ⟨g, p, none⟩ v) base (upd val (.le k p) v) { x with flight := x.flight.set k ((portsAt x k).set p ls) } :=
  (OwnK.set (OwnK.mend h (.le k p) ⟨hk, hp⟩ v ⟨156, 2, ls.length, letCells ls⟩ hg hn hb) (.fr k) hk (by rw [upd_ne _ _ (by simp)]; exact hv) (by rw [upd_ne _ _ (by simp)]; rfl) v (j := p)).congr fun j hj => ⟨by
    cases j with
    | fr i => exact (by simpa [keyOf] using hj)
    | le i q =>
      have h2 : i < (x.flight.set k ((portsAt x k).set p ls)).length ∧ q < (portsAt { x with flight := x.flight.set k ((portsAt x k).set p ls) } i).length := hj
      rw [List.length_set, portsAt_set hk] at h2
      refine ⟨h2.1, ?_⟩
      by_cases e : i = k
      · subst e
        have := h2.2
        rw [if_pos rfl, List.length_set] at this
        exact this
      · have := h2.2
        rw [if_neg e] at this
        exact this
    | _ => exact hj, rfl, by
    cases j with
    | fr i =>
      by_cases e : i = k
      · subst e
        rw [upd_same]
        show (⟨_, _, (portsAt { x with flight := x.flight.set i ((portsAt x i).set p ls) } i).length, valsOf (.le i) (upd val (.le i p) v) (portsAt { x with flight := x.flight.set i ((portsAt x i).set p ls) } i).length⟩ : RowD) = _
        rw [portsAt_set hk, if_pos rfl, List.length_set, valsOf_set _ _ _ _ (fun i j h => by simpa using h)]
      · rw [upd_ne _ _ (by simpa using e), upd_ne _ _ (by simp)]
        show (⟨_, _, (portsAt { x with flight := x.flight.set k ((portsAt x k).set p ls) } i).length, valsOf (.le i) (upd val (.le k p) v) (portsAt { x with flight := x.flight.set k ((portsAt x k).set p ls) } i).length⟩ : RowD) = _
        rw [portsAt_set hk, if_neg e, valsOf_congr (fun _ _ => upd_ne _ _ (by simp [e]))]; rfl
    | le i q =>
      rw [upd_ne _ _ (by simp)]
      by_cases e : i = k ∧ q = p
      · obtain ⟨rfl, rfl⟩ := e
        rw [upd_same]
        show (⟨_, _, (lettersAt { x with flight := x.flight.set i ((portsAt x i).set q ls) } i q).length, _⟩ : RowD) = _
        have : lettersAt { x with flight := x.flight.set i ((portsAt x i).set q ls) } i q = ls := by
          unfold lettersAt
          rw [portsAt_set hk, if_pos rfl, List.getD_eq_getElem?_getD, List.getElem?_set, if_pos rfl, if_pos hp]
          rfl
        rw [this]
      · rw [upd_ne _ _ (by simpa using e)]
        show (⟨_, _, (lettersAt { x with flight := x.flight.set k ((portsAt x k).set p ls) } i q).length, _⟩ : RowD) = _
        have : lettersAt { x with flight := x.flight.set k ((portsAt x k).set p ls) } i q = lettersAt x i q := by
          unfold lettersAt
          rw [portsAt_set hk]
          by_cases e2 : i = k
          · subst e2
            have e3 : p ≠ q := fun h => e ⟨rfl, h.symm⟩
            rw [if_pos rfl, List.getD_eq_getElem?_getD, List.getD_eq_getElem?_getD, List.getElem?_set, if_neg e3]
          · rw [if_neg e2]
        rw [this]; rfl
    | f =>
      rw [upd_ne _ _ (by simp), upd_ne _ _ (by simp)]
      show (⟨_, _, (x.flight.set k _).length, valsOf .fr (upd val (.le k p) v) (x.flight.set k _).length⟩ : RowD) = _
      rw [List.length_set, valsOf_congr (fun _ _ => upd_ne _ _ (by simp))]; rfl
    | s => rw [upd_ne _ _ (by simp), upd_ne _ _ (by simp)]; show (⟨_, _, _, valsOf .sl (upd val (.le k p) v) _⟩ : RowD) = _; rw [valsOf_congr (fun _ _ => upd_ne _ _ (by simp))]; rfl
    | _ => rw [upd_ne _ _ (by simp), upd_ne _ _ (by simp)]; rfl⟩
end
end Go.Proofs.YtcpbbjocaimocaaGreat
