/-
  Stores: how a slice of items reads in memory, and what the reference's srStore and the program's IsStore return.
  The laws' own functions over slices of items: szLabItemS, toLabItemS, eqLabItemS.
  A list of items of the call's own, while it grows by append. No condition.
  Small lemmas on the sizes of what is valid, on rows of items, on the orders of a drawn region. No condition.
  The laws' own functions that write into a certificate's memory and read it again: markWalkCertificate, heldWalkCertificate.
  The laws' own functions over entries: szLabEntry, toLabEntry, eqLabEntry.
  The laws' marks of an item and of an entry: each number of what is the call's own is written, and read again.
  The laws' marks of a list of items: each name and number of what is the call's own is written, and read again.
  toLabItemS: a copy of items in memory of its own. No condition but on sizes.
-/
import Derived.Deep.Fields
import Derived.Test.YtcfbkickiijjkaaGreatDoorVArgsItem
import Derived.Test.YtcfbkickiijjkaaGreatDoorVEntryText
import Derived.Test.YtcfbkickiijjkaaGreatDoorVMark
namespace Go.Proofs.YtcfbkickiijjkaaGreatDoor
section
open Go.RowKit
set_option linter.all false
def itemL (x : Item) (va vf vs vr : Value) : List Value := [.string x.nm, .int .i64 x.n, va, .int .i64 x.cl, .int .i64 x.lb, vf, vs, vr]
def ItemsR (w : World) (B : Nat) (v : Value) (xs : List Item) : Prop :=
  ∃ A c, v = .slice A xs.length c ∧ xs.length ≤ c ∧ c ≤ maxLen ∧ (0 < xs.length → ∃ b o, A = some ⟨b, o, none⟩ ∧ b < B ∧
    ∀ k x, xs[k]? = some x → ∃ va vf vs vr, (∀ j u, (itemL x va vf vs vr)[j]? = some u → w.cell? ⟨b, o + k * 8 + j, none⟩ = some u) ∧ ItemR w B x va vf vs vr)
theorem ItemsR.below {w w' : World} {B : Nat} {v : Value} {xs : List Item} (h : ItemsR w B v xs) (hb : Below B w w') : ItemsR w' B v xs := by
  obtain ⟨A, c, e, h1, h2, h3⟩ := h
  refine ⟨A, c, e, h1, h2, fun hn => ?_⟩
  obtain ⟨b, o, e', hB, hc⟩ := h3 hn
  refine ⟨b, o, e', hB, fun k x hx => ?_⟩
  obtain ⟨va, vf, vs, vr, h4, h5⟩ := hc k x hx
  exact ⟨va, vf, vs, vr, fun j u hu => (hb.cell (p := ⟨b, o + k * 8 + j, none⟩) hB).trans (h4 j u hu), h5.below hb⟩
theorem ItemsR.more {w : World} {B B' : Nat} {v : Value} {xs : List Item} (h : ItemsR w B v xs) (hB : B ≤ B') : ItemsR w B' v xs := by
  obtain ⟨A, c, e, h1, h2, h3⟩ := h
  refine ⟨A, c, e, h1, h2, fun hn => ?_⟩
  obtain ⟨b, o, e', hB', hc⟩ := h3 hn
  refine ⟨b, o, e', by omega, fun k x hx => ?_⟩
  obtain ⟨va, vf, vs, vr, h4, h5⟩ := hc k x hx
  exact ⟨va, vf, vs, vr, h4, h5.more hB⟩
theorem ItemsR.up {w w' : World} {v : Value} {xs : List Item} (h : ItemsR w w.heap.size v xs) (hb : Below w.heap.size w w') : ItemsR w' w'.heap.size v xs := (h.below hb).more hb.size
def ltS (a b : ByteArray) : Bool := Op.bytesLess a.toList b.toList
def orderAt (xs : List Item) (k : Nat) : Prop := 0 < k → ∀ x y, xs[k]? = some x → xs[k - 1]? = some y → ltS y.nm x.nm = true
def storeAt (xs : List Item) (k : Nat) : Prop := (∀ x, xs[k]? = some x → itemP x) ∧ orderAt xs k
def StoreTo (xs : List Item) (k : Nat) : Prop := ∀ i, i < k → storeAt xs i
def storeP (xs : List Item) : Prop := StoreTo xs xs.length ∧ xs.length ≤ 8
noncomputable def storeB (xs : List Item) : Bool := propB (storeP xs)
theorem StoreTo.next {xs : List Item} {k : Nat} (h : StoreTo xs k) (hk : storeAt xs k) : StoreTo xs (k + 1) := by
  intro i hi
  rcases Nat.lt_or_ge i k with h1 | h1
  · exact h i h1
  · obtain rfl : i = k := by omega
    exact hk
theorem storeAt_0 {xs : List Item} {x : Item} (hx : xs[0]? = some x) (hi : itemP x) : storeAt xs 0 :=
  ⟨fun z hz => by have e : x = z := Option.some.inj (hx.symm.trans hz); rw [← e]; exact hi, fun h => by omega⟩
theorem storeAt_s {xs : List Item} {m : Nat} {x y : Item} (hx : xs[m + 1]? = some x) (hy : xs[m + 1 - 1]? = some y) (hi : itemP x) (hl : ltS y.nm x.nm = true) : storeAt xs (m + 1) :=
  ⟨fun z hz => by have e : x = z := Option.some.inj (hx.symm.trans hz); rw [← e]; exact hi,
   fun _ z t hz ht => by
    have e : x = z := Option.some.inj (hx.symm.trans hz)
    have e' : y = t := Option.some.inj (hy.symm.trans ht)
    rw [← e, ← e']; exact hl⟩
theorem storeB_no {xs : List Item} {k : Nat} (hk : k < xs.length) (h : ¬ storeAt xs k) : storeB xs = false := propB_f fun hp => h (hp.1 k hk)
theorem storeB_end {xs : List Item} {k : Nat} (h : StoreTo xs k) (hk : xs.length = k) : storeB xs = decide ((xs.length : Int) ≤ 8) := by
  subst hk
  unfold storeB
  by_cases h8 : xs.length ≤ 8
  · rw [propB_t ⟨h, h8⟩, decide_eq_true (by omega)]
  · rw [propB_f (fun hp => h8 hp.2), decide_eq_false (by omega)]
def ItemsOk (xs : List Item) : Prop := ∀ x ∈ xs, szItem x ≤ 1048576 ∧ I64 x.lb
def StRel (xs : List Item) (w : World) (i : Value) (wr : World) : Prop := ∃ k : Nat, k ≤ xs.length ∧ i = .int .i64 k ∧ StoreTo xs k ∧ Below w.heap.size w wr
set_option maxRecDepth 100000 in
set_option maxHeartbeats 2000000 in
theorem spec_srStore (v : Value) (xs : List Item) (w : World) (h : ItemsR w w.heap.size v xs) (hok : ItemsOk xs) :
  Calls Tryz.prog 76 #[v] w fun e w' => e = .returned (.bool (storeB xs)) ∧ Below w.heap.size w w' := by
 obtain ⟨A, c, rfl, h1, h2, h3⟩ := h
 have HOK := Lib.hid hok; clear hok
 unfold maxLen at h2
 go_enter Tryz.func76, Tryz.ntmps76
 go_wp2
 go_loopw [7] (fun i wr => StRel xs w i wr) (fun i _ => xs.length - (intOf i).toNat)
 case atStart => exact ⟨0, Nat.zero_le _, rfl, fun i hi => by omega, Below.refl _ _⟩
 case round =>
  obtain ⟨k, hk, rfl, hto, hbl⟩ := hrel
  have HT := Lib.hid hto; clear hto
  by_cases hlt : k < xs.length
  ·
   obtain ⟨x, hx⟩ : ∃ x, xs[k]? = some x := ⟨xs[k], List.getElem?_eq_getElem hlt⟩
   have hz := HOK.out x (List.mem_of_getElem? hx)
   obtain ⟨b, o, rfl, hb, hc⟩ := h3 (by omega)
   obtain ⟨va, vf, vs, vr, hcl, hr⟩ := hc k x hx
   obtain ⟨Aa, ma, ca, rfl⟩ := hr.a.isSlice'
   obtain ⟨Af, mf, cf, rfl⟩ := hr.f.isSlice
   obtain ⟨As, ms, cs, rfl⟩ := hr.s.isSlice
   obtain ⟨Ar, mr, cr, rfl⟩ := hr.r.isSlice'
   have q0 := (hbl.cell (p := ⟨b, o + k * 8, none⟩) hb).trans (hcl 0 _ rfl)
   have q1 := (hbl.cell (p := ⟨b, o + k * 8 + 1, none⟩) hb).trans (hcl 1 _ rfl)
   have q2 := (hbl.cell (p := ⟨b, o + k * 8 + 2, none⟩) hb).trans (hcl 2 _ rfl)
   have q3 := (hbl.cell (p := ⟨b, o + k * 8 + 3, none⟩) hb).trans (hcl 3 _ rfl)
   have q4 := (hbl.cell (p := ⟨b, o + k * 8 + 4, none⟩) hb).trans (hcl 4 _ rfl)
   have q5 := (hbl.cell (p := ⟨b, o + k * 8 + 5, none⟩) hb).trans (hcl 5 _ rfl)
   have q6 := (hbl.cell (p := ⟨b, o + k * 8 + 6, none⟩) hb).trans (hcl 6 _ rfl)
   have q7 := (hbl.cell (p := ⟨b, o + k * 8 + 7, none⟩) hb).trans (hcl 7 _ rfl)
   have HC := Lib.hid hc; clear hc h3
   have HR := Lib.hid ((hr.below hbl).more hbl.size); clear hr
   have HXk := Lib.hid hx; clear hx
   clear hcl
   have hb0 := bl_alloc (Below.refl wr.heap.size wr) (.cells #[.string x.nm, .int .i64 x.n, .slice Aa ma ca, .int .i64 x.cl, .int .i64 x.lb, .slice Af mf cf, .slice As ms cs, .slice Ar mr cr] 53)
   have HB := Lib.hid (Box8.new wr 53 (.string x.nm) (.int .i64 x.n) (.slice Aa ma ca) (.int .i64 x.cl) (.int .i64 x.lb) (.slice Af mf cf) (.slice As ms cs) (.slice Ar mr cr))
   have HZ := Lib.hid (show wr.heap.size < (wr.alloc (.cells #[.string x.nm, .int .i64 x.n, .slice Aa ma ca, .int .i64 x.cl, .int .i64 x.lb, .slice Af mf cf, .slice As ms cs, .slice Ar mr cr] 53)).heap.size by simp)
   have HZb := Lib.hid (show b < (wr.alloc (.cells #[.string x.nm, .int .i64 x.n, .slice Aa ma ca, .int .i64 x.cl, .int .i64 x.lb, .slice Af mf cf, .slice As ms cs, .slice Ar mr cr] 53)).heap.size by have := hbl.size; simp; omega)
   have hzw := hbl.size
   cases k with
   | zero =>
    simp only [Nat.zero_mul, Nat.add_zero] at q0 q1 q2 q3 q4 q5 q6 q7
    go_wp2_with fail
    generalize wr.alloc (.cells #[.string x.nm, .int .i64 x.n, .slice Aa ma ca, .int .i64 x.cl, .int .i64 x.lb, .slice Af mf cf, .slice As ms cs, .slice Ar mr cr] 53) = w0 at *
    obtain ⟨c0, c1, c2, c3, c4, c5, c6, c7⟩ := HB.out
    have hB0 := hbl.trans (hb0.mono hzw)
    have HR0 := Lib.hid (HR.out.up hb0)
    refine wp_region_held_drew (S := (fun w' => w'.cell? ⟨wr.heap.size, 0, none⟩ = some (.string x.nm) ∧ w'.cell? ⟨wr.heap.size, 1, none⟩ = some (.int .i64 x.n) ∧ w'.cell? ⟨wr.heap.size, 2, none⟩ = some (.slice Aa ma ca) ∧ w'.cell? ⟨wr.heap.size, 3, none⟩ = some (.int .i64 x.cl) ∧ w'.cell? ⟨wr.heap.size, 4, none⟩ = some (.int .i64 x.lb) ∧ w'.cell? ⟨wr.heap.size, 5, none⟩ = some (.slice Af mf cf) ∧ w'.cell? ⟨wr.heap.size, 6, none⟩ = some (.slice As ms cs) ∧ w'.cell? ⟨wr.heap.size, 7, none⟩ = some (.slice Ar mr cr))) (by kernel_rfl) ?_ (fun hHeld => ?_)
    ·
     go_keep
    refine tk 0 12 rfl rfl ?_
    try simp only [pu]
    refine take_ready 1 rfl (by kernel_rfl) (fun K hK => ?_)
    go_simp
    (go_at_call 90; refine (spec_srItem x _ _ _ _ _ (HR0.out.up (Below.refl w0.heap.size w0).drew) (by have := hz.1; omega) hz.2).mono ?_; rintro e w1 ⟨rfl, hb1⟩; have hB1 := bl_trans hB0 (((Below.refl w0.heap.size w0).drew).trans hb1); have HX := Lib.hid (HB.out.below (((Below.refl w0.heap.size w0).drew).trans hb1) HZ.out); obtain ⟨d0, d1, d2, d3, d4, d5, d6, d7⟩ := HX.out)
    refine hK.out _ _ ?_ (fun hHeld => ?_)
    ·
     go_keep
    clear hK K
    try simp only [pu]
    cases q : itemB x with
    | false =>
     have H := Lib.hid (storeB_no hlt (show ¬ storeAt xs 0 from fun h => propB_ff q (h.1 x HXk.out)))
     clear q
     refine tk 2 14 rfl rfl ?_
     try simp only [pu]
     refine tk 3 15 rfl rfl ?_
     try simp only [pu]
     refine tn 4 16 rfl rfl ?_
     try simp only [pu]
     refine tn 5 17 rfl rfl ?_
     try simp only [pu]
     refine tn 6 18 rfl rfl ?_
     try simp only [pu]
     refine tn 7 19 rfl rfl ?_
     try simp only [pu]
     refine tn 8 20 rfl rfl ?_
     try simp only [pu]
     refine tn 9 21 rfl rfl ?_
     try simp only [pu]
     refine tn 10 22 rfl rfl ?_
     try simp only [pu]
     refine tn 11 23 rfl rfl ?_
     try simp only [pu]
     refine tn 12 24 rfl rfl ?_
     try simp only [pu]
     refine tn 13 25 rfl rfl ?_
     try simp only [pu]
     refine tn 14 26 rfl rfl ?_
     try simp only [pu]
     refine tn 15 27 rfl rfl ?_
     try simp only [pu]
     refine tn 16 28 rfl rfl ?_
     try simp only [pu]
     refine tk 17 29 rfl rfl ?_
     try simp only [pu]
     refine wpAnyH_done (by kernel_rfl) ?_ _
     go_wp2_with fail
     go_ret
     exact ⟨ret_bool H.out.symm, hB1⟩
    | true =>
     have HI := Lib.hid (propB_iff.1 q); clear q
     have H := Lib.hid (storeAt_0 HXk.out HI.out)
     refine tk 2 14 rfl rfl ?_
     try simp only [pu]
     refine tk 3 15 rfl rfl ?_
     try simp only [pu]
     refine tk 4 16 rfl rfl ?_
     try simp only [pu]
     refine tk 5 17 rfl rfl ?_
     try simp only [pu]
     refine tk 6 18 rfl rfl ?_
     try simp only [pu]
     refine tn 7 19 rfl rfl ?_
     try simp only [pu]
     refine tn 8 20 rfl rfl ?_
     try simp only [pu]
     refine tn 9 21 rfl rfl ?_
     try simp only [pu]
     refine tn 10 22 rfl rfl ?_
     try simp only [pu]
     refine tn 11 23 rfl rfl ?_
     try simp only [pu]
     refine tn 12 24 rfl rfl ?_
     try simp only [pu]
     refine tn 13 25 rfl rfl ?_
     try simp only [pu]
     refine tn 14 26 rfl rfl ?_
     try simp only [pu]
     refine tn 15 27 rfl rfl ?_
     try simp only [pu]
     refine tk 16 28 rfl rfl ?_
     try simp only [pu]
     refine tk 17 29 rfl rfl ?_
     try simp only [pu]
     refine wpAnyH_done (by kernel_rfl) ?_ _
     go_wp2_with fail
     go_roundw
     case rel => exact ⟨1, by omega, by go_num, HT.out.next H.out, hB1⟩
     case measure => simp [intOf]; omega
   | succ m =>
    have hwm : IntKind.i64.wrap (m : Int) = (m : Int) := IntWalk.i64_in _ (by omega)
    have hml : (m : Int) < xs.length := by omega
    obtain ⟨y, hy⟩ : ∃ y, xs[m]? = some y := ⟨xs[m], List.getElem?_eq_getElem (by omega)⟩
    obtain ⟨va', vf', vs', vr', hcl', -⟩ := HC.out m y hy
    have e0 : wr.cell? ⟨b, o + m * 8, none⟩ = some (.string y.nm) := (hbl.cell (p := ⟨b, o + m * 8, none⟩) hb).trans (hcl' 0 _ rfl)
    have HYk := Lib.hid (show xs[m + 1 - 1]? = some y from hy); clear hy hcl'
    go_wp2_with fail
    generalize wr.alloc (.cells #[.string x.nm, .int .i64 x.n, .slice Aa ma ca, .int .i64 x.cl, .int .i64 x.lb, .slice Af mf cf, .slice As ms cs, .slice Ar mr cr] 53) = w0 at *
    obtain ⟨c0, c1, c2, c3, c4, c5, c6, c7⟩ := HB.out
    have hB0 := hbl.trans (hb0.mono hzw)
    have HR0 := Lib.hid (HR.out.up hb0)
    have e1 : w0.cell? ⟨b, o + m * 8, none⟩ = some (.string y.nm) := (hb0.cell (p := ⟨b, o + m * 8, none⟩) (show b < wr.heap.size by omega)).trans e0
    refine wp_region_held_drew (S := (fun w' => w'.cell? ⟨wr.heap.size, 0, none⟩ = some (.string x.nm) ∧ w'.cell? ⟨wr.heap.size, 1, none⟩ = some (.int .i64 x.n) ∧ w'.cell? ⟨wr.heap.size, 2, none⟩ = some (.slice Aa ma ca) ∧ w'.cell? ⟨wr.heap.size, 3, none⟩ = some (.int .i64 x.cl) ∧ w'.cell? ⟨wr.heap.size, 4, none⟩ = some (.int .i64 x.lb) ∧ w'.cell? ⟨wr.heap.size, 5, none⟩ = some (.slice Af mf cf) ∧ w'.cell? ⟨wr.heap.size, 6, none⟩ = some (.slice As ms cs) ∧ w'.cell? ⟨wr.heap.size, 7, none⟩ = some (.slice Ar mr cr) ∧ w'.cell? ⟨b, o + m * 8, none⟩ = some (.string y.nm))) (by kernel_rfl) ?_ (fun hHeld => ?_)
    ·
     go_keep
    refine tk 0 12 rfl rfl ?_
    try simp only [pu]
    refine take_ready 1 rfl (by kernel_rfl) (fun K hK => ?_)
    go_simp
    (go_at_call 90; refine (spec_srItem x _ _ _ _ _ (HR0.out.up (Below.refl w0.heap.size w0).drew) (by have := hz.1; omega) hz.2).mono ?_; rintro e w1 ⟨rfl, hb1⟩; have hB1 := bl_trans hB0 (((Below.refl w0.heap.size w0).drew).trans hb1); have HX := Lib.hid (HB.out.below (((Below.refl w0.heap.size w0).drew).trans hb1) HZ.out); obtain ⟨d0, d1, d2, d3, d4, d5, d6, d7⟩ := HX.out; have e2 := hb1.cell (p := ⟨b, o + m * 8, none⟩) (show b < w0.heap.size from HZb.out); have e3 := e2.trans e1)
    refine hK.out _ _ ?_ (fun hHeld => ?_)
    ·
     go_keep
    clear hK K
    try simp only [pu]
    cases q : itemB x with
    | false =>
     have H := Lib.hid (storeB_no hlt (show ¬ storeAt xs (m + 1) from fun h => propB_ff q (h.1 x HXk.out)))
     clear q
     refine tk 2 14 rfl rfl ?_
     try simp only [pu]
     refine tk 3 15 rfl rfl ?_
     try simp only [pu]
     refine tn 4 16 rfl rfl ?_
     try simp only [pu]
     refine tn 5 17 rfl rfl ?_
     try simp only [pu]
     refine tn 6 18 rfl rfl ?_
     try simp only [pu]
     refine tn 7 19 rfl rfl ?_
     try simp only [pu]
     refine tn 8 20 rfl rfl ?_
     try simp only [pu]
     refine tn 9 21 rfl rfl ?_
     try simp only [pu]
     refine tn 10 22 rfl rfl ?_
     try simp only [pu]
     refine tn 11 23 rfl rfl ?_
     try simp only [pu]
     refine tn 12 24 rfl rfl ?_
     try simp only [pu]
     refine tn 13 25 rfl rfl ?_
     try simp only [pu]
     refine tn 14 26 rfl rfl ?_
     try simp only [pu]
     refine tn 15 27 rfl rfl ?_
     try simp only [pu]
     refine tn 16 28 rfl rfl ?_
     try simp only [pu]
     refine tk 17 29 rfl rfl ?_
     try simp only [pu]
     refine wpAnyH_done (by kernel_rfl) ?_ _
     go_wp2_with fail
     go_ret
     exact ⟨ret_bool H.out.symm, hB1⟩
    | true =>
     have HI := Lib.hid (propB_iff.1 q); clear q
     cases q2 : ltS y.nm x.nm with
     | false =>
      have H := Lib.hid (storeB_no hlt (show ¬ storeAt xs (m + 1) from fun h => by have := h.2 (by omega) x y HXk.out HYk.out; rw [q2] at this; cases this))
      have q3 : Op.bytesLess y.nm.toList x.nm.toList = false := q2
      clear q2
      refine tk 2 14 rfl rfl ?_
      try simp only [pu]
      refine tk 3 15 rfl rfl ?_
      try simp only [pu]
      refine tk 4 16 rfl rfl ?_
      try simp only [pu]
      refine tk 5 17 rfl rfl ?_
      try simp only [pu]
      refine tk 6 18 rfl rfl ?_
      try simp only [pu]
      refine tk 7 19 rfl rfl ?_
      try simp only [pu]
      refine tk 8 20 rfl rfl ?_
      try simp only [pu]
      refine tk 9 21 rfl rfl ?_
      try simp only [pu]
      refine tk 10 22 rfl rfl ?_
      try simp only [pu]
      refine tk 11 23 rfl rfl ?_
      try simp only [pu]
      refine tk 12 24 rfl rfl ?_
      try simp only [pu]
      refine tk 13 25 rfl rfl ?_
      try simp only [pu]
      refine tk 14 26 rfl rfl ?_
      try simp only [pu]
      refine tk 15 27 rfl rfl ?_
      try simp only [pu]
      refine tk 16 28 rfl rfl ?_
      try simp only [pu]
      refine tk 17 29 rfl rfl ?_
      try simp only [pu]
      refine wpAnyH_done (by kernel_rfl) ?_ _
      go_wp2_with fail
      go_ret
      exact ⟨ret_bool H.out.symm, hB1⟩
     | true =>
      have H := Lib.hid (storeAt_s HXk.out HYk.out HI.out q2)
      have q3 : Op.bytesLess y.nm.toList x.nm.toList = true := q2
      clear q2
      refine tk 2 14 rfl rfl ?_
      try simp only [pu]
      refine tk 3 15 rfl rfl ?_
      try simp only [pu]
      refine tk 4 16 rfl rfl ?_
      try simp only [pu]
      refine tk 5 17 rfl rfl ?_
      try simp only [pu]
      refine tk 6 18 rfl rfl ?_
      try simp only [pu]
      refine tk 7 19 rfl rfl ?_
      try simp only [pu]
      refine tk 8 20 rfl rfl ?_
      try simp only [pu]
      refine tk 9 21 rfl rfl ?_
      try simp only [pu]
      refine tk 10 22 rfl rfl ?_
      try simp only [pu]
      refine tk 11 23 rfl rfl ?_
      try simp only [pu]
      refine tk 12 24 rfl rfl ?_
      try simp only [pu]
      refine tk 13 25 rfl rfl ?_
      try simp only [pu]
      refine tk 14 26 rfl rfl ?_
      try simp only [pu]
      refine tk 15 27 rfl rfl ?_
      try simp only [pu]
      refine tk 16 28 rfl rfl ?_
      try simp only [pu]
      refine tk 17 29 rfl rfl ?_
      try simp only [pu]
      refine wpAnyH_done (by kernel_rfl) ?_ _
      go_wp2_with fail
      go_roundw
      case rel => exact ⟨m + 1 + 1, by omega, by go_num, HT.out.next H.out, hB1⟩
      case measure => simp [intOf]; omega
  ·
   have H := Lib.hid (storeB_end HT.out (by omega))
   go_wp2_with fail
   go_ret
   exact ⟨ret_bool H.out.symm, hbl⟩
set_option maxRecDepth 100000 in
set_option maxHeartbeats 2000000 in
theorem impl_IsStore (v : Value) (xs : List Item) (w : World) (h : ItemsR w w.heap.size v xs) (hok : ItemsOk xs) :
  Calls Tryz.prog 83 #[v] w fun e w' => e = .returned (.bool (storeB xs)) ∧ Below w.heap.size w w' := by
 obtain ⟨A, c, rfl, h1, h2, h3⟩ := h
 have HOK := Lib.hid hok; clear hok
 unfold maxLen at h2
 go_enter Tryz.func83, Tryz.ntmps83
 go_wp2
 go_loopw [7] (fun i wr => StRel xs w i wr) (fun i _ => xs.length - (intOf i).toNat)
 case atStart => exact ⟨0, Nat.zero_le _, rfl, fun i hi => by omega, Below.refl _ _⟩
 case round =>
  obtain ⟨k, hk, rfl, hto, hbl⟩ := hrel
  have HT := Lib.hid hto; clear hto
  by_cases hlt : k < xs.length
  ·
   obtain ⟨x, hx⟩ : ∃ x, xs[k]? = some x := ⟨xs[k], List.getElem?_eq_getElem hlt⟩
   have hz := HOK.out x (List.mem_of_getElem? hx)
   obtain ⟨b, o, rfl, hb, hc⟩ := h3 (by omega)
   obtain ⟨va, vf, vs, vr, hcl, hr⟩ := hc k x hx
   obtain ⟨Aa, ma, ca, rfl⟩ := hr.a.isSlice'
   obtain ⟨Af, mf, cf, rfl⟩ := hr.f.isSlice
   obtain ⟨As, ms, cs, rfl⟩ := hr.s.isSlice
   obtain ⟨Ar, mr, cr, rfl⟩ := hr.r.isSlice'
   have q0 := (hbl.cell (p := ⟨b, o + k * 8, none⟩) hb).trans (hcl 0 _ rfl)
   have q1 := (hbl.cell (p := ⟨b, o + k * 8 + 1, none⟩) hb).trans (hcl 1 _ rfl)
   have q2 := (hbl.cell (p := ⟨b, o + k * 8 + 2, none⟩) hb).trans (hcl 2 _ rfl)
   have q3 := (hbl.cell (p := ⟨b, o + k * 8 + 3, none⟩) hb).trans (hcl 3 _ rfl)
   have q4 := (hbl.cell (p := ⟨b, o + k * 8 + 4, none⟩) hb).trans (hcl 4 _ rfl)
   have q5 := (hbl.cell (p := ⟨b, o + k * 8 + 5, none⟩) hb).trans (hcl 5 _ rfl)
   have q6 := (hbl.cell (p := ⟨b, o + k * 8 + 6, none⟩) hb).trans (hcl 6 _ rfl)
   have q7 := (hbl.cell (p := ⟨b, o + k * 8 + 7, none⟩) hb).trans (hcl 7 _ rfl)
   have HC := Lib.hid hc; clear hc h3
   have HR := Lib.hid ((hr.below hbl).more hbl.size); clear hr
   have HXk := Lib.hid hx; clear hx
   clear hcl
   have hb0 := bl_alloc (Below.refl wr.heap.size wr) (.cells #[.string x.nm, .int .i64 x.n, .slice Aa ma ca, .int .i64 x.cl, .int .i64 x.lb, .slice Af mf cf, .slice As ms cs, .slice Ar mr cr] 53)
   have HB := Lib.hid (Box8.new wr 53 (.string x.nm) (.int .i64 x.n) (.slice Aa ma ca) (.int .i64 x.cl) (.int .i64 x.lb) (.slice Af mf cf) (.slice As ms cs) (.slice Ar mr cr))
   have HZ := Lib.hid (show wr.heap.size < (wr.alloc (.cells #[.string x.nm, .int .i64 x.n, .slice Aa ma ca, .int .i64 x.cl, .int .i64 x.lb, .slice Af mf cf, .slice As ms cs, .slice Ar mr cr] 53)).heap.size by simp)
   have HZb := Lib.hid (show b < (wr.alloc (.cells #[.string x.nm, .int .i64 x.n, .slice Aa ma ca, .int .i64 x.cl, .int .i64 x.lb, .slice Af mf cf, .slice As ms cs, .slice Ar mr cr] 53)).heap.size by have := hbl.size; simp; omega)
   have hzw := hbl.size
   cases k with
   | zero =>
    simp only [Nat.zero_mul, Nat.add_zero] at q0 q1 q2 q3 q4 q5 q6 q7
    go_wp2_with fail
    generalize wr.alloc (.cells #[.string x.nm, .int .i64 x.n, .slice Aa ma ca, .int .i64 x.cl, .int .i64 x.lb, .slice Af mf cf, .slice As ms cs, .slice Ar mr cr] 53) = w0 at *
    obtain ⟨c0, c1, c2, c3, c4, c5, c6, c7⟩ := HB.out
    have hB0 := hbl.trans (hb0.mono hzw)
    have HR0 := Lib.hid (HR.out.up hb0)
    refine wp_region_held_drew (S := (fun w' => w'.cell? ⟨wr.heap.size, 0, none⟩ = some (.string x.nm) ∧ w'.cell? ⟨wr.heap.size, 1, none⟩ = some (.int .i64 x.n) ∧ w'.cell? ⟨wr.heap.size, 2, none⟩ = some (.slice Aa ma ca) ∧ w'.cell? ⟨wr.heap.size, 3, none⟩ = some (.int .i64 x.cl) ∧ w'.cell? ⟨wr.heap.size, 4, none⟩ = some (.int .i64 x.lb) ∧ w'.cell? ⟨wr.heap.size, 5, none⟩ = some (.slice Af mf cf) ∧ w'.cell? ⟨wr.heap.size, 6, none⟩ = some (.slice As ms cs) ∧ w'.cell? ⟨wr.heap.size, 7, none⟩ = some (.slice Ar mr cr))) (by kernel_rfl) ?_ (fun hHeld => ?_)
    ·
     go_keep
    refine tk 0 12 rfl rfl ?_
    try simp only [pu]
    refine take_ready 1 rfl (by kernel_rfl) (fun K hK => ?_)
    go_simp
    (go_at_call 99; refine (impl_isItem x _ _ _ _ _ (HR0.out.up (Below.refl w0.heap.size w0).drew) (by have := hz.1; omega) hz.2).mono ?_; rintro e w1 ⟨rfl, hb1⟩; have hB1 := bl_trans hB0 (((Below.refl w0.heap.size w0).drew).trans hb1); have HX := Lib.hid (HB.out.below (((Below.refl w0.heap.size w0).drew).trans hb1) HZ.out); obtain ⟨d0, d1, d2, d3, d4, d5, d6, d7⟩ := HX.out)
    refine hK.out _ _ ?_ (fun hHeld => ?_)
    ·
     go_keep
    clear hK K
    try simp only [pu]
    cases q : itemB x with
    | false =>
     have H := Lib.hid (storeB_no hlt (show ¬ storeAt xs 0 from fun h => propB_ff q (h.1 x HXk.out)))
     clear q
     refine tk 2 14 rfl rfl ?_
     try simp only [pu]
     refine tk 3 15 rfl rfl ?_
     try simp only [pu]
     refine tn 4 16 rfl rfl ?_
     try simp only [pu]
     refine tn 5 17 rfl rfl ?_
     try simp only [pu]
     refine tn 6 18 rfl rfl ?_
     try simp only [pu]
     refine tn 7 19 rfl rfl ?_
     try simp only [pu]
     refine tn 8 20 rfl rfl ?_
     try simp only [pu]
     refine tn 9 21 rfl rfl ?_
     try simp only [pu]
     refine tn 10 22 rfl rfl ?_
     try simp only [pu]
     refine tn 11 23 rfl rfl ?_
     try simp only [pu]
     refine tn 12 24 rfl rfl ?_
     try simp only [pu]
     refine tn 13 25 rfl rfl ?_
     try simp only [pu]
     refine tn 14 26 rfl rfl ?_
     try simp only [pu]
     refine tn 15 27 rfl rfl ?_
     try simp only [pu]
     refine tn 16 28 rfl rfl ?_
     try simp only [pu]
     refine tk 17 29 rfl rfl ?_
     try simp only [pu]
     refine wpAnyH_done (by kernel_rfl) ?_ _
     go_wp2_with fail
     go_ret
     exact ⟨ret_bool H.out.symm, hB1⟩
    | true =>
     have HI := Lib.hid (propB_iff.1 q); clear q
     have H := Lib.hid (storeAt_0 HXk.out HI.out)
     refine tk 2 14 rfl rfl ?_
     try simp only [pu]
     refine tk 3 15 rfl rfl ?_
     try simp only [pu]
     refine tk 4 16 rfl rfl ?_
     try simp only [pu]
     refine tk 5 17 rfl rfl ?_
     try simp only [pu]
     refine tk 6 18 rfl rfl ?_
     try simp only [pu]
     refine tn 7 19 rfl rfl ?_
     try simp only [pu]
     refine tn 8 20 rfl rfl ?_
     try simp only [pu]
     refine tn 9 21 rfl rfl ?_
     try simp only [pu]
     refine tn 10 22 rfl rfl ?_
     try simp only [pu]
     refine tn 11 23 rfl rfl ?_
     try simp only [pu]
     refine tn 12 24 rfl rfl ?_
     try simp only [pu]
     refine tn 13 25 rfl rfl ?_
     try simp only [pu]
     refine tn 14 26 rfl rfl ?_
     try simp only [pu]
     refine tn 15 27 rfl rfl ?_
     try simp only [pu]
     refine tk 16 28 rfl rfl ?_
     try simp only [pu]
     refine tk 17 29 rfl rfl ?_
     try simp only [pu]
     refine wpAnyH_done (by kernel_rfl) ?_ _
     go_wp2_with fail
     go_roundw
     case rel => exact ⟨1, by omega, by go_num, HT.out.next H.out, hB1⟩
     case measure => simp [intOf]; omega
   | succ m =>
    have hwm : IntKind.i64.wrap (m : Int) = (m : Int) := IntWalk.i64_in _ (by omega)
    have hml : (m : Int) < xs.length := by omega
    obtain ⟨y, hy⟩ : ∃ y, xs[m]? = some y := ⟨xs[m], List.getElem?_eq_getElem (by omega)⟩
    obtain ⟨va', vf', vs', vr', hcl', -⟩ := HC.out m y hy
    have e0 : wr.cell? ⟨b, o + m * 8, none⟩ = some (.string y.nm) := (hbl.cell (p := ⟨b, o + m * 8, none⟩) hb).trans (hcl' 0 _ rfl)
    have HYk := Lib.hid (show xs[m + 1 - 1]? = some y from hy); clear hy hcl'
    go_wp2_with fail
    generalize wr.alloc (.cells #[.string x.nm, .int .i64 x.n, .slice Aa ma ca, .int .i64 x.cl, .int .i64 x.lb, .slice Af mf cf, .slice As ms cs, .slice Ar mr cr] 53) = w0 at *
    obtain ⟨c0, c1, c2, c3, c4, c5, c6, c7⟩ := HB.out
    have hB0 := hbl.trans (hb0.mono hzw)
    have HR0 := Lib.hid (HR.out.up hb0)
    have e1 : w0.cell? ⟨b, o + m * 8, none⟩ = some (.string y.nm) := (hb0.cell (p := ⟨b, o + m * 8, none⟩) (show b < wr.heap.size by omega)).trans e0
    refine wp_region_held_drew (S := (fun w' => w'.cell? ⟨wr.heap.size, 0, none⟩ = some (.string x.nm) ∧ w'.cell? ⟨wr.heap.size, 1, none⟩ = some (.int .i64 x.n) ∧ w'.cell? ⟨wr.heap.size, 2, none⟩ = some (.slice Aa ma ca) ∧ w'.cell? ⟨wr.heap.size, 3, none⟩ = some (.int .i64 x.cl) ∧ w'.cell? ⟨wr.heap.size, 4, none⟩ = some (.int .i64 x.lb) ∧ w'.cell? ⟨wr.heap.size, 5, none⟩ = some (.slice Af mf cf) ∧ w'.cell? ⟨wr.heap.size, 6, none⟩ = some (.slice As ms cs) ∧ w'.cell? ⟨wr.heap.size, 7, none⟩ = some (.slice Ar mr cr) ∧ w'.cell? ⟨b, o + m * 8, none⟩ = some (.string y.nm))) (by kernel_rfl) ?_ (fun hHeld => ?_)
    ·
     go_keep
    refine tk 0 12 rfl rfl ?_
    try simp only [pu]
    refine take_ready 1 rfl (by kernel_rfl) (fun K hK => ?_)
    go_simp
    (go_at_call 99; refine (impl_isItem x _ _ _ _ _ (HR0.out.up (Below.refl w0.heap.size w0).drew) (by have := hz.1; omega) hz.2).mono ?_; rintro e w1 ⟨rfl, hb1⟩; have hB1 := bl_trans hB0 (((Below.refl w0.heap.size w0).drew).trans hb1); have HX := Lib.hid (HB.out.below (((Below.refl w0.heap.size w0).drew).trans hb1) HZ.out); obtain ⟨d0, d1, d2, d3, d4, d5, d6, d7⟩ := HX.out; have e2 := hb1.cell (p := ⟨b, o + m * 8, none⟩) (show b < w0.heap.size from HZb.out); have e3 := e2.trans e1)
    refine hK.out _ _ ?_ (fun hHeld => ?_)
    ·
     go_keep
    clear hK K
    try simp only [pu]
    cases q : itemB x with
    | false =>
     have H := Lib.hid (storeB_no hlt (show ¬ storeAt xs (m + 1) from fun h => propB_ff q (h.1 x HXk.out)))
     clear q
     refine tk 2 14 rfl rfl ?_
     try simp only [pu]
     refine tk 3 15 rfl rfl ?_
     try simp only [pu]
     refine tn 4 16 rfl rfl ?_
     try simp only [pu]
     refine tn 5 17 rfl rfl ?_
     try simp only [pu]
     refine tn 6 18 rfl rfl ?_
     try simp only [pu]
     refine tn 7 19 rfl rfl ?_
     try simp only [pu]
     refine tn 8 20 rfl rfl ?_
     try simp only [pu]
     refine tn 9 21 rfl rfl ?_
     try simp only [pu]
     refine tn 10 22 rfl rfl ?_
     try simp only [pu]
     refine tn 11 23 rfl rfl ?_
     try simp only [pu]
     refine tn 12 24 rfl rfl ?_
     try simp only [pu]
     refine tn 13 25 rfl rfl ?_
     try simp only [pu]
     refine tn 14 26 rfl rfl ?_
     try simp only [pu]
     refine tn 15 27 rfl rfl ?_
     try simp only [pu]
     refine tn 16 28 rfl rfl ?_
     try simp only [pu]
     refine tk 17 29 rfl rfl ?_
     try simp only [pu]
     refine wpAnyH_done (by kernel_rfl) ?_ _
     go_wp2_with fail
     go_ret
     exact ⟨ret_bool H.out.symm, hB1⟩
    | true =>
     have HI := Lib.hid (propB_iff.1 q); clear q
     cases q2 : ltS y.nm x.nm with
     | false =>
      have H := Lib.hid (storeB_no hlt (show ¬ storeAt xs (m + 1) from fun h => by have := h.2 (by omega) x y HXk.out HYk.out; rw [q2] at this; cases this))
      have q3 : Op.bytesLess y.nm.toList x.nm.toList = false := q2
      clear q2
      refine tk 2 14 rfl rfl ?_
      try simp only [pu]
      refine tk 3 15 rfl rfl ?_
      try simp only [pu]
      refine tk 4 16 rfl rfl ?_
      try simp only [pu]
      refine tk 5 17 rfl rfl ?_
      try simp only [pu]
      refine tk 6 18 rfl rfl ?_
      try simp only [pu]
      refine tk 7 19 rfl rfl ?_
      try simp only [pu]
      refine tk 8 20 rfl rfl ?_
      try simp only [pu]
      refine tk 9 21 rfl rfl ?_
      try simp only [pu]
      refine tk 10 22 rfl rfl ?_
      try simp only [pu]
      refine tk 11 23 rfl rfl ?_
      try simp only [pu]
      refine tk 12 24 rfl rfl ?_
      try simp only [pu]
      refine tk 13 25 rfl rfl ?_
      try simp only [pu]
      refine tk 14 26 rfl rfl ?_
      try simp only [pu]
      refine tk 15 27 rfl rfl ?_
      try simp only [pu]
      refine tk 16 28 rfl rfl ?_
      try simp only [pu]
      refine tk 17 29 rfl rfl ?_
      try simp only [pu]
      refine wpAnyH_done (by kernel_rfl) ?_ _
      go_wp2_with fail
      go_ret
      exact ⟨ret_bool H.out.symm, hB1⟩
     | true =>
      have H := Lib.hid (storeAt_s HXk.out HYk.out HI.out q2)
      have q3 : Op.bytesLess y.nm.toList x.nm.toList = true := q2
      clear q2
      refine tk 2 14 rfl rfl ?_
      try simp only [pu]
      refine tk 3 15 rfl rfl ?_
      try simp only [pu]
      refine tk 4 16 rfl rfl ?_
      try simp only [pu]
      refine tk 5 17 rfl rfl ?_
      try simp only [pu]
      refine tk 6 18 rfl rfl ?_
      try simp only [pu]
      refine tk 7 19 rfl rfl ?_
      try simp only [pu]
      refine tk 8 20 rfl rfl ?_
      try simp only [pu]
      refine tk 9 21 rfl rfl ?_
      try simp only [pu]
      refine tk 10 22 rfl rfl ?_
      try simp only [pu]
      refine tk 11 23 rfl rfl ?_
      try simp only [pu]
      refine tk 12 24 rfl rfl ?_
      try simp only [pu]
      refine tk 13 25 rfl rfl ?_
      try simp only [pu]
      refine tk 14 26 rfl rfl ?_
      try simp only [pu]
      refine tk 15 27 rfl rfl ?_
      try simp only [pu]
      refine tk 16 28 rfl rfl ?_
      try simp only [pu]
      refine tk 17 29 rfl rfl ?_
      try simp only [pu]
      refine wpAnyH_done (by kernel_rfl) ?_ _
      go_wp2_with fail
      go_roundw
      case rel => exact ⟨m + 1 + 1, by omega, by go_num, HT.out.next H.out, hB1⟩
      case measure => simp [intOf]; omega
  ·
   have H := Lib.hid (storeB_end HT.out (by omega))
   go_wp2_with fail
   go_ret
   exact ⟨ret_bool H.out.symm, hbl⟩
end
section
open Go.RowKit
set_option linter.all false
/-! ### Copies -/
theorem itemInfo : (Tryz.prog.info? 53).map (fun i => (i.zero, i.size, i.bytes)) = some (some (.agg #[.string ⟨#[]⟩, .int .i64 0, .slice none 0 0, .int .i64 0, .int .i64 0, .slice none 0 0, .slice none 0 0, .slice none 0 0]), 8, 136) := by kernel_rfl
def put8 (C : Array Value) (o : Nat) (v0 v1 v2 v3 v4 v5 v6 v7 : Value) : Array Value :=
  (((((((C.setIfInBounds o v0).setIfInBounds (o + 1) v1).setIfInBounds (o + 2) v2).setIfInBounds (o + 3) v3).setIfInBounds (o + 4) v4).setIfInBounds (o + 5) v5).setIfInBounds (o + 6) v6).setIfInBounds (o + 7) v7
theorem put8_size (C : Array Value) (o : Nat) (v0 v1 v2 v3 v4 v5 v6 v7 : Value) : (put8 C o v0 v1 v2 v3 v4 v5 v6 v7).size = C.size := by simp [put8]
theorem put8_other (C : Array Value) (o : Nat) (v0 v1 v2 v3 v4 v5 v6 v7 : Value) (i : Nat) (h : i < o ∨ o + 8 ≤ i) : (put8 C o v0 v1 v2 v3 v4 v5 v6 v7)[i]? = C[i]? := by
  unfold put8
  rw [Array.getElem?_setIfInBounds_ne (by omega), Array.getElem?_setIfInBounds_ne (by omega), Array.getElem?_setIfInBounds_ne (by omega), Array.getElem?_setIfInBounds_ne (by omega), Array.getElem?_setIfInBounds_ne (by omega), Array.getElem?_setIfInBounds_ne (by omega), Array.getElem?_setIfInBounds_ne (by omega), Array.getElem?_setIfInBounds_ne (by omega)]
theorem put8_at (C : Array Value) (o : Nat) (v0 v1 v2 v3 v4 v5 v6 v7 : Value) (h : o + 8 ≤ C.size) (i : Nat) (u : Value) (hu : [v0, v1, v2, v3, v4, v5, v6, v7][i]? = some u) : (put8 C o v0 v1 v2 v3 v4 v5 v6 v7)[o + i]? = some u := by
  unfold put8
  match i, hu with
  | 0, hu | 1, hu | 2, hu | 3, hu | 4, hu | 5, hu | 6, hu | 7, hu =>
    simp at hu
    subst hu
    simp [Array.getElem?_setIfInBounds]
    try omega
theorem set8 {w : World} {g : Nat} {C : Array Value} {t : TypeId} {m : Nat × Nat} (h : w.heap[g]? = some (.cells C t m)) (o : Nat) (v0 v1 v2 v3 v4 v5 v6 v7 : Value) :
    ((((((((w.setCell ⟨g, o, none⟩ v0).setCell ⟨g, o + 1, none⟩ v1).setCell ⟨g, o + 2, none⟩ v2).setCell ⟨g, o + 3, none⟩ v3).setCell ⟨g, o + 4, none⟩ v4).setCell ⟨g, o + 5, none⟩ v5).setCell ⟨g, o + 6, none⟩ v6).setCell ⟨g, o + 7, none⟩ v7).heap[g]? = some (.cells (put8 C o v0 v1 v2 v3 v4 v5 v6 v7) t m) :=
  heap_set_same (heap_set_same (heap_set_same (heap_set_same (heap_set_same (heap_set_same (heap_set_same (heap_set_same h v0) v1) v2) v3) v4) v5) v6) v7
end
section
open Go.RowKit
set_option linter.all false
theorem wpList_appendK {P : Program} (w : World) {ops : Array Oper} {rest : List Oper} {o : Oper} {a : Act} {Q : Exit → Act → World → Prop} (hgd : o.guard = none) (s x : Operand) (t : TypeId)
  (ho : o.op = .call { callee := .builtin .append, args := #[s, x], argTypes := #[t, t] })
  (base : Nat) (e : TypeId) (z : Value) (size bytes : Nat) (ht : P.underlying t = some (.slice e)) (hinf : (P.info? e).map (fun i => (i.zero, i.size, i.bytes)) = some (some z, size, bytes)) (hzs : z.cells.size = size) (hsz : 0 < size)
  (v : Value) (n : Nat) (xs : List Value) (hs : a.eval s = v) (us : List Value) (hlu : us.length = size) (hu : ∀ u ∈ us, u.oneCell' = true) (hx : a.eval x = .slice (some ⟨w.heap.size, 0, none⟩) 1 1)
  (hown : w.ownsRow base e size v n xs) (h63 : n + 1 ≤ maxLen) (hbytes : (n + 1) * bytes ≤ 140737488355328) (hbase : base ≤ w.heap.size)
  (h : ∀ v' w', w'.ownsRow base e size v' (n + 1) (xs ++ us) → Below base w w' → w.grownBy w' v.ownBlock → w.heap.size < w'.heap.size → (v'.ownBlock = v.ownBlock ∨ ∃ g, v'.ownBlock = some g ∧ w.heap.size ≤ g ∧ g < w'.heap.size) → wpList P ops Q rest (a.put o.dst v') w') :
  wpList P ops Q (o :: rest) a (w.alloc (.cells us.toArray e)) := by
 obtain ⟨i, hi, hz0, hz1, hz2⟩ := info_parts hinf
 have hown1 := hown.alloc (.cells us.toArray e)
 have hnews : ∀ j u', us[j]? = some u' → (w.alloc (.cells us.toArray e)).cell? ((⟨w.heap.size, 0, none⟩ : Addr).add j) = some u' := by
  intro j u' hj
  rw [show (⟨w.heap.size, 0, none⟩ : Addr).add j = ⟨w.heap.size, j, none⟩ by unfold Addr.add; split <;> simp_all, World.cell?_alloc_at _ _ _ _ rfl]
  simpa using hj
 obtain ⟨v', w', hrun, h2, h3, _, h5⟩ := run_append_own_at (P := P) (w.alloc (.cells us.toArray e)) base t o.type e i z size bytes ht hi hz0 hz1 hz2 hzs hsz v n xs hown1 ⟨w.heap.size, 0, none⟩ 1 1 us (by rw [hlu]; omega) hnews hu h63 hbytes (by simp; omega)
 have hg : w.grownBy w' v.ownBlock := by
  have h0 := World.grownBy_alloc w (.cells us.toArray e) v.ownBlock
  exact ⟨h3.os.trans h0.os, h3.tape.trans h0.tape, h3.output.trans h0.output, Nat.le_trans h0.size h3.size, fun k hk hne => (h3.block k (Nat.lt_of_lt_of_le hk h0.size) hne).trans (h0.block k hk hne)⟩
 have hsz' : w.heap.size < w'.heap.size := by have := h3.size; simp at this; omega
 have hB : Below base w w' := (Below.refl base w).grown hg hbase (fun k hk => (hown.lt k hk).1)
 refine wpList_plain hgd fun K hK => ?_
 unfold Oper.wp execOp
 simp only [ho, resolve, invoke, builtin, Sem.run_bind, Sem.run_pure, Result.andThen_ok, List.map_toArray, List.map_cons, List.map_nil, hs, hx, hrun]
 refine hK _ _ (h v' w' h2 hB hg hsz' ?_)
 rcases h5 with h5 | h5
 ·
  exact .inl h5
 ·
  refine .inr ⟨_, h5, by simp, ?_⟩
  exact (h2.lt _ h5).2
def OwnIts (w : World) : List Value → List Item → List Nat → Prop
  | vs, [], bs => vs = [] ∧ bs = []
  | vs, x :: xs, bs => ∃ va vf vz vr rest b1 b2, vs = itemL x va vf vz vr ++ rest ∧ OwnItem w x va vf vz vr b1 ∧ OwnIts w rest xs b2 ∧ bs = b1 ++ b2
theorem OwnIts.keep {w w' : World} : ∀ {xs : List Item} {vs : List Value} {bs : List Nat}, OwnIts w vs xs bs → (∀ b ∈ bs, w'.heap[b]? = w.heap[b]?) → OwnIts w' vs xs bs
  | [], vs, bs, h, _ => h
  | x :: xs, vs, bs, ⟨va, vf, vz, vr, rest, b1, b2, h1, h2, h3, h4⟩, hk => by
    subst h4
    exact ⟨va, vf, vz, vr, rest, b1, b2, h1, h2.keep fun b hb => hk b (by simp [hb]), h3.keep fun b hb => hk b (by simp [hb]), rfl⟩
theorem OwnIts.snoc {w : World} {x : Item} {va vf vz vr : Value} {b : List Nat} (hx : OwnItem w x va vf vz vr b) : ∀ {xs : List Item} {vs : List Value} {bs : List Nat}, OwnIts w vs xs bs → OwnIts w (vs ++ itemL x va vf vz vr) (xs ++ [x]) (bs ++ b)
  | [], vs, bs, ⟨h1, h2⟩ => by
    subst h1 h2
    exact ⟨va, vf, vz, vr, [], b, [], by simp, hx, ⟨rfl, rfl⟩, by simp⟩
  | y :: xs, vs, bs, ⟨ua, uf, uz, ur, rest, b1, b2, h1, h2, h3, h4⟩ => by
    subst h1 h4
    exact ⟨ua, uf, uz, ur, rest ++ itemL x va vf vz vr, b1, b2 ++ b, by rw [List.append_assoc], h2, OwnIts.snoc hx h3, by rw [List.append_assoc]⟩
theorem OwnIts.at_ {w : World} : ∀ {xs : List Item} {vs : List Value} {bs : List Nat}, OwnIts w vs xs bs → ∀ {k : Nat} {x : Item}, xs[k]? = some x →
    ∃ va vf vz vr b1, (∀ j u, (itemL x va vf vz vr)[j]? = some u → vs[k * 8 + j]? = some u) ∧ OwnItem w x va vf vz vr b1 ∧ ∀ b ∈ b1, b ∈ bs
  | x :: xs, vs, bs, ⟨va, vf, vz, vr, rest, b1, b2, h1, h2, h3, h4⟩, 0, y, hy => by
    obtain rfl : x = y := by simpa using hy
    subst h1 h4
    refine ⟨va, vf, vz, vr, b1, fun j u hu => ?_, h2, fun b hb => by simp [hb]⟩
    have hj := (List.getElem?_eq_some_iff.1 hu).1
    rw [Nat.zero_mul, Nat.zero_add, List.getElem?_append_left hj]
    exact hu
  | x :: xs, vs, bs, ⟨va, vf, vz, vr, rest, b1, b2, h1, h2, h3, h4⟩, k + 1, y, hy => by
    subst h1 h4
    obtain ⟨ua, uf, uz, ur, c1, g1, g2, g3⟩ := h3.at_ (k := k) (x := y) (by simpa using hy)
    refine ⟨ua, uf, uz, ur, c1, fun j u hu => ?_, g2, fun b hb => by simp [g3 b hb]⟩
    have : (itemL x va vf vz vr ++ rest)[(k + 1) * 8 + j]? = rest[k * 8 + j]? := by
      rw [List.getElem?_append_right (by show 8 ≤ _; omega)]
      congr 1
      show (k + 1) * 8 + j - 8 = _
      omega
    rw [this]
    exact g1 j u hu
def OwnItems (w : World) (v : Value) (xs : List Item) (bs : List Nat) : Prop :=
  (xs = [] ∧ bs = [] ∧ ∃ A c, v = .slice A 0 c ∧ c ≤ maxLen) ∨
  ∃ g c cur vs b1, v = .slice (some ⟨g, 0, none⟩) xs.length c ∧ xs.length ≤ c ∧ c ≤ maxLen ∧ w.heap[g]? = some (.cells cur 53 (0, 0)) ∧ cur.size = c * 8 ∧ cur.toList.take (xs.length * 8) = vs ∧ OwnIts w vs xs b1 ∧ bs = g :: b1
theorem OwnItems.keep {w w' : World} {v : Value} {xs : List Item} {bs : List Nat} (h : OwnItems w v xs bs) (hk : ∀ b ∈ bs, w'.heap[b]? = w.heap[b]?) : OwnItems w' v xs bs := by
  rcases h with h | ⟨g, c, cur, vs, b1, h1, h2, h3, h4, h5, h6, h7, rfl⟩
  · exact .inl h
  · exact .inr ⟨g, c, cur, vs, b1, h1, h2, h3, (hk g (by simp)).trans h4, h5, h6, h7.keep fun b hb => hk b (by simp [hb]), rfl⟩
theorem OwnItems.isSlice {w : World} {v : Value} {xs : List Item} {bs : List Nat} (h : OwnItems w v xs bs) : ∃ A n c, v = .slice A n c := by
  rcases h with ⟨_, _, A, c, e, _⟩ | ⟨g, c, _, _, _, e, _⟩
  · exact ⟨A, 0, c, e⟩
  · exact ⟨_, _, _, e⟩
theorem OwnItems.reads {w : World} {v : Value} {xs : List Item} {bs : List Nat} (h : OwnItems w v xs bs) {B : Nat} (hB : ∀ b ∈ bs, b < B) : ItemsR w B v xs := by
  rcases h with ⟨rfl, rfl, A, c, e, hc⟩ | ⟨g, c, cur, vs, b1, h1, h2, h3, h4, h5, h6, h7, rfl⟩
  · exact ⟨A, c, e, Nat.zero_le _, hc, fun h => absurd h (by simp)⟩
  · refine ⟨_, c, h1, h2, h3, fun _ => ⟨g, 0, rfl, hB g (by simp), fun k x hx => ?_⟩⟩
    obtain ⟨va, vf, vz, vr, c1, g1, g2, g3⟩ := h7.at_ hx
    refine ⟨va, vf, vz, vr, fun j u hu => ?_, g2.reads fun b hb => hB b (by simp [g3 b hb])⟩
    have e := g1 j u hu
    rw [← h6] at e
    have hlt := (List.getElem?_eq_some_iff.1 e).1
    rw [List.getElem?_take_of_lt (by rw [List.length_take] at hlt; omega)] at e
    rw [cell_of_row _ _ _ _ _ _ h4, Nat.zero_add]
    simpa using e
def ItemsSt (base : Nat) (w : World) (v : Value) (xs : List Item) : Prop :=
  ∃ vs bs, w.ownsRow base 53 8 v xs.length vs ∧ OwnIts w vs xs bs ∧ bs.Nodup ∧ (∀ b ∈ bs, base ≤ b ∧ b < w.heap.size ∧ v.ownBlock ≠ some b)
theorem ItemsSt.nil (base : Nat) (w : World) : ItemsSt base w (.slice none 0 0) [] := ⟨[], [], World.ownsRow_nil _ _ _ _, ⟨rfl, rfl⟩, List.nodup_nil, fun _ h => by cases h⟩
theorem ItemsSt.isSlice {base : Nat} {w : World} {v : Value} {xs : List Item} (h : ItemsSt base w v xs) : ∃ A n c, v = .slice A n c := by
  obtain ⟨vs, bs, h1, _⟩ := h
  rcases h1.2 with ⟨e, _⟩ | ⟨g, c, _, e, _⟩
  · exact ⟨_, _, _, e⟩
  · exact ⟨_, _, _, e⟩
theorem keptK {w w' : World} {base size : Nat} {e : TypeId} {v : Value} {n : Nat} {vs : List Value} (h : w.ownsRow base e size v n vs) (hb : Below w.heap.size w w') : w'.ownsRow base e size v n vs :=
  h.kept (row := none) ⟨hb.os, hb.tape, hb.output, hb.size, fun j hj _ => hb.block j hj⟩ (by cases h : Value.ownBlock v <;> simp)
theorem ItemsSt.below {base : Nat} {w w' : World} {v : Value} {xs : List Item} (h : ItemsSt base w v xs) (hb : Below w.heap.size w w') : ItemsSt base w' v xs := by
  obtain ⟨vs, bs, h1, h2, h3, h4⟩ := h
  exact ⟨vs, bs, keptK h1 hb, h2.keep fun b hb' => hb.block b (h4 b hb').2.1, h3, fun b hb' => by have := h4 b hb'; have := hb.size; exact ⟨by omega, by omega, (h4 b hb').2.2⟩⟩
theorem ItemsSt.fin {base : Nat} {w : World} {v : Value} {xs : List Item} (h : ItemsSt base w v xs) : ∃ bs, OwnItems w v xs bs ∧ bs.Nodup ∧ ∀ b ∈ bs, base ≤ b ∧ b < w.heap.size := by
  obtain ⟨vs, bs, h1, h2, h3, h4⟩ := h
  have hlt := h1.lt
  rcases h1.2 with ⟨e, hn⟩ | ⟨g, cap, cur, e, k1, k2, k3, k4, k5, k6⟩
  · have hx : xs = [] := List.eq_nil_of_length_eq_zero hn
    subst hx
    obtain ⟨_, rfl⟩ := h2
    exact ⟨[], .inl ⟨rfl, rfl, none, 0, e, Nat.zero_le _⟩, List.nodup_nil, fun _ h => by cases h⟩
  · refine ⟨g :: bs, .inr ⟨g, cap, cur, vs, bs, e, k3, k4, k2, k5, k6, h2, rfl⟩, ?_, fun b hb => ?_⟩
    · rw [List.nodup_cons]
      exact ⟨fun hg => (h4 g hg).2.2 (by rw [e]; rfl), h3⟩
    · rcases List.mem_cons.1 hb with rfl | h
      · exact hlt b (by rw [e]; rfl)
      · have := h4 b h; exact ⟨this.1, this.2.1⟩
theorem ItemsSt.step {base : Nat} {wr w1 : World} {v : Value} {xs : List Item} {x : Item} {va vf vz vr : Value} {b1 : List Nat} (h : ItemsSt base wr v xs) (hbase : base ≤ wr.heap.size) (hb : Below wr.heap.size wr w1) (ho : OwnItem w1 x va vf vz vr b1) (hn : b1.Nodup) (hr : ∀ b ∈ b1, wr.heap.size ≤ b ∧ b < w1.heap.size) :
  ∃ vs, w1.ownsRow base 53 8 v xs.length vs ∧ ∀ v' w2, w2.ownsRow base 53 8 v' (xs.length + 1) (vs ++ itemL x va vf vz vr) → w1.grownBy w2 v.ownBlock → (v'.ownBlock = v.ownBlock ∨ ∃ g, v'.ownBlock = some g ∧ w1.heap.size ≤ g ∧ g < w2.heap.size) → ItemsSt base w2 v' (xs ++ [x]) := by
 obtain ⟨vs, bs, h1, h2, h3, h4⟩ := h
 have hsz := hb.size
 have hlt := h1.lt
 refine ⟨vs, keptK h1 hb, fun v' w2 k1 k2 k3 => ?_⟩
 have hsz2 := k2.size
 have hall := OwnIts.snoc ho (h2.keep fun b hb' => hb.block b (h4 b hb').2.1)
 have hin : ∀ b ∈ bs ++ b1, base ≤ b ∧ b < w1.heap.size ∧ v.ownBlock ≠ some b := by
  intro b hb'
  rcases List.mem_append.1 hb' with h | h
  ·
   have := h4 b h; exact ⟨this.1, by omega, this.2.2⟩
  ·
   have := hr b h
   refine ⟨by omega, by omega, fun e => ?_⟩
   have := hlt b e
   omega
 refine ⟨vs ++ itemL x va vf vz vr, bs ++ b1, by simpa using k1, hall.keep fun b hb' => k2.block b (hin b hb').2.1 (fun e => (hin b hb').2.2 e.symm), ?_, fun b hb' => ?_⟩
 ·
  rw [List.nodup_append]
  exact ⟨h3, hn, fun a ha b hb' e => by have := h4 a ha; have := hr b hb'; omega⟩
 ·
  have h5 := hin b hb'
  refine ⟨h5.1, by omega, fun e => ?_⟩
  rcases k3 with k3 | ⟨g, k3, k4, _⟩
  ·
   exact h5.2.2 (k3 ▸ e)
  ·
   rw [k3] at e
   obtain rfl : g = b := by simpa using e
   omega
end
section
open Go.RowKit
set_option linter.all false
def codeA (xs : List Int) : Int := 12 * xs.getD 0 0 + xs.getD 1 0
theorem Good.arcs_le {n : Int} {xss : List (List Int)} (hg : Good n xss) : xss.length ≤ 144 := by
  have hs := hg.small
  have key : ∀ i, i < xss.length → ∀ xs, xss[i]? = some xs → (i : Int) ≤ codeA xs := by
    intro i
    induction i with
    | zero =>
      intro hi xs hx
      obtain ⟨x, y, rfl, _, _⟩ := small_pair (hs xs (List.mem_of_getElem? hx))
      simp [codeA]
      omega
    | succ i ih =>
      intro hi xs hx
      obtain ⟨xs', h1, h2, h3, h4⟩ := hg.2 (i + 1) hi
      rw [hx] at h1
      obtain rfl := Option.some.inj h1
      obtain ⟨ys, hy, ho⟩ := h4 (by omega)
      have hi' := ih (by omega) ys hy
      obtain ⟨x, y, rfl, _, _⟩ := small_pair (hs xs (List.mem_of_getElem? hx))
      obtain ⟨a, b, rfl, _, _⟩ := small_pair (hs ys (List.mem_of_getElem? hy))
      simp only [codeA, List.getD_cons_zero, List.getD_cons_succ] at hi' ⊢
      unfold ordL at ho
      by_cases e : (a : Int) = x
      · rw [if_pos e] at ho
        unfold ordL at ho
        by_cases e2 : (b : Int) = y
        · rw [if_pos e2] at ho; simp [ordL] at ho
        · rw [if_neg e2] at ho
          split at ho <;> omega
      · rw [if_neg e] at ho
        split at ho <;> omega
  by_cases h : xss.length ≤ 144
  · exact h
  · obtain ⟨xs, hx⟩ : ∃ xs, xss[144]? = some xs := ⟨xss[144], List.getElem?_eq_getElem (by omega)⟩
    have := key 144 (by omega) xs hx
    obtain ⟨x, y, rfl, _, _⟩ := small_pair (hs xs (List.mem_of_getElem? hx))
    simp only [codeA, List.getD_cons_zero, List.getD_cons_succ] at this
    omega
theorem lens_le {M : Nat} : ∀ (xss : List (List Int)), (∀ x ∈ xss, x.length ≤ M) → lens xss ≤ xss.length * M
  | [], _ => by simp [lens]
  | x :: r, h => by
    have h1 := h x (by simp)
    have h2 := lens_le r fun y hy => h y (by simp [hy])
    simp only [lens, List.length_cons, Nat.succ_mul]
    omega
theorem Good.sz {n : Int} {xss : List (List Int)} (hg : Good n xss) : szRows xss ≤ 432 := by
  have h1 := hg.arcs_le
  have h2 := lens_le (M := 2) xss fun x hx => by have := (hg.small x hx).1; omega
  unfold szRows
  omega
theorem CertS.sz {cl lb : Int} {f s : List Int} {rs : List (List Int)} (h : CertS cl lb f s rs) : szCert f s rs ≤ 448 := by
  have h1 := h.f.1
  have h2 := h.s.1
  have h3 := h.r.1
  have h4 := lens_le (M := 3) rs fun x hx => by have := (h.r.2 x hx).1; omega
  unfold szCert szRows
  omega
theorem storeP.okI {xs : List Item} (h : ∀ x ∈ xs, itemP x) : ItemsOk xs := fun x hx => by
  have hi := h x hx
  have a : x.nm.size ≤ 8 := by rw [Lib.size_eq]; exact hi.1.2.2
  have b := hi.good.sz
  have c := hi.cert.sz
  refine ⟨by unfold szItem; omega, ?_⟩
  have := hi.cert.lb
  unfold I64
  omega
theorem own_items_zero (w : World) : OwnItems w (.slice none 0 0) [] [] := .inl ⟨rfl, rfl, none, 0, rfl, Nat.zero_le _⟩
theorem one8 (x : Item) (Aa : Option Addr) (ma ca : Nat) (Af : Option Addr) (mf cf : Nat) (As : Option Addr) (ms cs : Nat) (Ar : Option Addr) (mr cr : Nat) : ∀ u ∈ itemL x (.slice Aa ma ca) (.slice Af mf cf) (.slice As ms cs) (.slice Ar mr cr), u.oneCell' = true := fun u hu => by
  unfold itemL at hu
  simp only [List.mem_cons, List.not_mem_nil, or_false] at hu
  rcases hu with rfl | rfl | rfl | rfl | rfl | rfl | rfl | rfl <;> rfl
theorem take_ready2 {P : Program} {md : Region.Mode} {ops : Array Oper} {Q : Exit → Act → World → Prop} {S : World → Prop} {fuel : Nat} {listed : Array Bool} {a : Act} {w : World} (i j : Nat) {o o' : Oper}
    (hi : ops.toList[i]? = some o) (hj : ops.toList[j]? = some o') (hr : Region.ready md ops listed = [i, j])
    (h : ∀ K' : Act → World → Prop, Shut (∀ a w, S w → (S w → wpAnyH P md ops Q S fuel (listed.setIfInBounds i true) a w) → K' a w) → if Region.wanted o (yielded ops a.tmps) = true then Oper.wp P o a w K' Q else K' (a.put o.dst undef) w)
    (h' : ∀ K' : Act → World → Prop, Shut (∀ a w, S w → (S w → wpAnyH P md ops Q S fuel (listed.setIfInBounds j true) a w) → K' a w) → if Region.wanted o' (yielded ops a.tmps) = true then Oper.wp P o' a w K' Q else K' (a.put o'.dst undef) w) :
    wpAnyH P md ops Q S (fuel + 1) listed a w :=
  wpAnyH_ready hr (by simp) (AllReadyH.cons (by rw [← Array.getElem?_toList]; exact hi) h (AllReadyH.cons (by rw [← Array.getElem?_toList]; exact hj) h' AllReadyH.nil))
theorem add_lit (b o k : Nat) : (⟨b, o, none⟩ : Addr).add k = ⟨b, o + k, none⟩ := by unfold Addr.add; split <;> simp_all
end
section
open Go.RowKit
set_option linter.all false
end
section
open Go.RowKit
set_option linter.all false
theorem sz_Entry (en : Entry) (va vf vs vr : Value) (left : Int) (w : World) (h : ItemR w w.heap.size en.it va vf vs vr) (h1 : en.nm.size ≤ maxLen) (h2 : en.tn.size ≤ maxLen) (h3 : en.it.nm.size ≤ maxLen) (hl : 0 ≤ left) (hl' : left ≤ 1048576) :
  Calls Tryz.prog 19 #[entryV en va vf vs vr, .int .i64 left] w fun e w' => e = .returned (.int .i64 (szR left (szEntry en))) ∧ Below w.heap.size w w' := by
 unfold maxLen at h1 h2
 have HH := Lib.hid h; clear h
 have HS := Lib.hid (show szEntry en = en.nm.size + en.tn.size + szItem en.it from rfl)
 obtain ⟨kd, nm, tn, ⟨inm, n, xss, cl, lb, f, s, rs⟩⟩ := en
 dsimp only at *
 generalize szEntry ⟨kd, nm, tn, ⟨inm, n, xss, cl, lb, f, s, rs⟩⟩ = N at *
 have hb0 := bl_alloc (Below.refl w.heap.size w) (.cells #[.int .i64 kd, .string nm, .string tn, .string inm, .int .i64 n, va, .int .i64 cl, .int .i64 lb, vf, vs, vr] 47)
 have HB := Lib.hid (Box11.new w 47 (.int .i64 kd) (.string nm) (.string tn) (.string inm) (.int .i64 n) va (.int .i64 cl) (.int .i64 lb) vf vs vr)
 by_cases q0 : (nm.size : Int) ≤ left
 ·
  by_cases q1 : (tn.size : Int) ≤ left - nm.size
  ·
   go_enter Tryz.func19, Tryz.ntmps19
   go_wp2_with fail
   generalize w.alloc (.cells #[.int .i64 kd, .string nm, .string tn, .string inm, .int .i64 n, va, .int .i64 cl, .int .i64 lb, vf, vs, vr] 47) = w0 at *
   refine (sz_Item ⟨inm, n, xss, cl, lb, f, s, rs⟩ va vf vs vr (left - nm.size - tn.size) w0 (HH.out.up hb0) h3 (by omega) (by omega)).mono ?_
   rintro e w1 ⟨rfl, hb1⟩
   have hB1 := bl_trans hb0 hb1
   have E1 := Lib.hid (show szR (left - nm.size - tn.size) (szItem ⟨inm, n, xss, cl, lb, f, s, rs⟩) = szR left N by rw [HS.out, Nat.add_assoc, ← szR_add (m := nm.size) q0, ← szR_add (m := tn.size) q1])
   rw [E1.out]
   have hz := szR_le (left := left) (n := N) hl
   by_cases q3 : szR left N < 0
   ·
    have H := Lib.hid (show szR left N = -1 from szR_m1 q3)
    go_wp2_with fail
    go_ret
    exact ⟨ret_int H.out.symm, hB1⟩
   ·
    go_wp2_with fail
    go_ret
    exact ⟨rfl, hB1⟩
  ·
   have H := Lib.hid (show szR left N = -1 by rw [HS.out]; unfold szR; rw [if_neg (by omega)])
   go_enter Tryz.func19, Tryz.ntmps19
   go_wp2_with fail
   go_ret
   exact ⟨ret_int H.out.symm, hb0⟩
 ·
  have H := Lib.hid (show szR left N = -1 by rw [HS.out]; unfold szR; rw [if_neg (by omega)])
  go_enter Tryz.func19, Tryz.ntmps19
  go_wp2_with fail
  go_ret
  exact ⟨ret_int H.out.symm, hb0⟩
theorem eq_Entry (en : Entry) (va vf vs vr va' vf' vs' vr' : Value) (w : World) (h : ItemR w w.heap.size en.it va vf vs vr) (h' : ItemR w w.heap.size en.it va' vf' vs' vr') :
    Calls Tryz.prog 23 #[entryV en va vf vs vr, entryV en va' vf' vs' vr'] w fun e w' => e = .returned (.bool true) ∧ Below w.heap.size w w' := by
  have HH := Lib.hid h; clear h
  have HH' := Lib.hid h'; clear h'
  obtain ⟨kd, nm, tn, ⟨inm, n, xss, cl, lb, f, s, rs⟩⟩ := en
  dsimp only at *
  have hb0 := bl_alloc (bl_alloc (Below.refl w.heap.size w) (.cells #[.int .i64 kd, .string nm, .string tn, .string inm, .int .i64 n, va, .int .i64 cl, .int .i64 lb, vf, vs, vr] 55)) (.cells #[.int .i64 kd, .string nm, .string tn, .string inm, .int .i64 n, va', .int .i64 cl, .int .i64 lb, vf', vs', vr'] 55)
  have hq : (nm.toList == nm.toList) = true := by simp
  have hq2 : (tn.toList == tn.toList) = true := by simp
  go_enter Tryz.func23, Tryz.ntmps23
  go_wp2_with fail
  generalize (w.alloc (.cells #[.int .i64 kd, .string nm, .string tn, .string inm, .int .i64 n, va, .int .i64 cl, .int .i64 lb, vf, vs, vr] 55)).alloc (.cells #[.int .i64 kd, .string nm, .string tn, .string inm, .int .i64 n, va', .int .i64 cl, .int .i64 lb, vf', vs', vr'] 55) = w0 at *
  refine (eq_Item ⟨inm, n, xss, cl, lb, f, s, rs⟩ va vf vs vr va' vf' vs' vr' w0 (HH.out.up hb0) (HH'.out.up hb0)).mono ?_
  rintro e w1 ⟨rfl, hb1⟩
  go_wp2_with fail
  go_ret
  exact ⟨rfl, bl_trans hb0 hb1⟩
theorem to_Entry (en : Entry) (va vf vs vr : Value) (w : World) (h : ItemR w w.heap.size en.it va vf vs vr) (hz : szEntry en ≤ 1048576) :
  Calls Tryz.prog 21 #[entryV en va vf vs vr] w fun e w' => ∃ va' vf' vs' vr' bs, e = .returned (entryV en va' vf' vs' vr') ∧ OwnItem w' en.it va' vf' vs' vr' bs ∧ bs.Nodup ∧ (∀ b ∈ bs, w.heap.size ≤ b ∧ b < w'.heap.size) ∧ Below w.heap.size w w' := by
 have HH := Lib.hid h; clear h
 have hz1 : szItem en.it ≤ 1048576 := by unfold szEntry at hz; omega
 obtain ⟨kd, nm, tn, ⟨inm, n, xss, cl, lb, f, s, rs⟩⟩ := en
 dsimp only at *
 have HZ := Lib.hid hz; clear hz
 go_enter Tryz.func21, Tryz.ntmps21
 go_wp2_with fail
 refine (to_Item ⟨inm, n, xss, cl, lb, f, s, rs⟩ va vf vs vr _ ((HH.out.below (by repeat (first | exact Below.refl _ _ | refine bl_alloc ?_ _ | refine Below.setCell ?_ (by simp <;> omega) _))).more (by simp; omega)) hz1).mono ?_
 rintro e w1 ⟨va1, vf1, vs1, vr1, b1, rfl, ho1, hn1, hbs1, hb1⟩
 obtain ⟨A1, m1, k1, rfl⟩ := (ho1.reads (B := w1.heap.size) (fun b hb => (hbs1 b hb).2)).a.isSlice'
 obtain ⟨A2, m2, k2, rfl⟩ := (ho1.reads (B := w1.heap.size) (fun b hb => (hbs1 b hb).2)).f.isSlice
 obtain ⟨A3, m3, k3, rfl⟩ := (ho1.reads (B := w1.heap.size) (fun b hb => (hbs1 b hb).2)).s.isSlice
 obtain ⟨A4, m4, k4, rfl⟩ := (ho1.reads (B := w1.heap.size) (fun b hb => (hbs1 b hb).2)).r.isSlice'
 obtain ⟨hc1, hf1⟩ := bx (w.heap.size + 1) hb1 (by simp)
 obtain ⟨hc2, hf2⟩ := bx (w.heap.size + 1 + 1) hb1 (by simp)
 have hs1 := hb1.size
 simp at hs1 hbs1
 have hall1 := bl_trans (show Below w.heap.size w _ by repeat (first | exact Below.refl _ _ | refine bl_alloc ?_ _ | refine Below.setCell ?_ (by simp <;> omega) _)) hb1
 have HO := Lib.hid ho1; clear ho1
 have HN := Lib.hid hn1; clear hn1
 have HBS := Lib.hid hbs1; clear hbs1
 go_wp2_with fail
 refine bodyPost_ret (v := entryV ⟨kd, nm, tn, ⟨inm, n, xss, cl, lb, f, s, rs⟩⟩ (.slice A1 m1 k1) (.slice A2 m2 k2) (.slice A3 m3 k3) (.slice A4 m4 k4)) (by simp [results, Tryz.results21, go_sem, hc1]) rfl ⟨_, _, _, _, _, rfl, ?_, HN.out, ?_, ?_⟩
 ·
  refine HO.out.keep fun b hb => ?_
  have := HBS.out b hb
  repeat rw [Below.heap_setCell _ _ _ _ (by simp; omega)]
 ·
  intro b hb
  have := HBS.out b hb
  simp only [size_setCell]
  omega
 ·
  iterate 19 (refine Below.setCell ?_ (by simp <;> omega) _)
  exact hall1
end
section
open Go.RowKit
set_option linter.all false
end
section
open Go.RowKit
set_option linter.all false
/-! ### The text of a number -/
/-! ### Items marked -/
/-! ### One item's cells are written -/
structure XS (g : Nat) (va vf vz vr : Value) (ba bf bz br : List Nat) (wr W : World) (cur : Array Value) (xss : List (List Int)) (f s : List Int) (rs : List (List Int)) : Prop where
  blk : W.heap[g]? = some (.cells cur 53 (0, 0))
  a : OwnRows W 41 3 va xss ba
  f : OwnInts W 3 vf f bf
  z : OwnInts W 3 vz s bz
  r : OwnRows W 41 3 vr rs br
  kept : Kept (g :: (ba ++ (bf ++ bz ++ br))) wr W
  lt : ∀ b ∈ g :: (ba ++ (bf ++ bz ++ br)), b < wr.heap.size
  nd : (g :: (ba ++ (bf ++ bz ++ br))).Nodup
section
variable {g : Nat} {va vf vz vr : Value} {ba bf bz br : List Nat} {wr W W' : World} {cur : Array Value} {xss : List (List Int)} {f s : List Int} {rs : List (List Int)}
end
end
section
open Go.RowKit
set_option linter.all false
end
end Go.Proofs.YtcfbkickiijjkaaGreatDoor
