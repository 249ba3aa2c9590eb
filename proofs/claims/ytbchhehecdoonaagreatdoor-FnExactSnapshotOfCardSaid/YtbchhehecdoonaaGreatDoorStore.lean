/-
  Stores: how a slice of items reads in memory, and what the reference's srStore and the program's IsStore return.
-/
import Derived.Test.YtbchhehecdoonaaGreatDoorRows
import Derived.Test.YtbchhehecdoonaaGreatDoorKit
import Derived.Test.YtbchhehecdoonaaGreatDoorMem
import Derived.Test.YtbchhehecdoonaaGreatDoorBasic
import Derived.Test.YtbchhehecdoonaaGreatDoorArgs
import Derived.Test.YtbchhehecdoonaaGreatDoorCert
import Derived.Test.YtbchhehecdoonaaGreatDoorItem
import Derived.WalkKit
import Derived.WalkSpells
import Derived.WalkLawsBesides
import Derived.Lib.Hide
import Derived.Deep.Fields
import Derived.Deep.QuietTactic
import Derived.BigQuiet
import Derived.Deep.RegionHeld3
namespace Go.Proofs.YtbchhehecdoonaaGreatDoor
open Go.RowKit
set_option linter.unusedVariables false
set_option linter.unusedSimpArgs false

def itemL (x : Item) (va vf vs vr : Value) : List Value := [.string x.nm, .int .i64 x.n, va, .int .i64 x.cl, .int .i64 x.lb, vf, vs, vr]
/-- The slice v reads as the items xs, below block B. -/
def ItemsR (w : World) (B : Nat) (v : Value) (xs : List Item) : Prop :=
  ∃ A c, v = .slice A xs.length c ∧ xs.length ≤ c ∧ c ≤ maxLen ∧ (0 < xs.length → ∃ b o, A = some ⟨b, o, none⟩ ∧ b < B ∧
    ∀ k x, xs[k]? = some x → ∃ va vf vs vr, (∀ j u, (itemL x va vf vs vr)[j]? = some u → w.cell? ⟨b, o + k * 8 + j, none⟩ = some u) ∧ ItemR w B x va vf vs vr)
theorem ItemsR.below {w w' : World} {B : Nat} {v : Value} {xs : List Item} (h : ItemsR w B v xs) (hb : Below B w w') : ItemsR w' B v xs := by
  obtain ⟨A, c, e, h1, h2, h3⟩ := h
  refine ⟨A, c, e, h1, h2, fun hn => ?_⟩
  obtain ⟨b, o, e', hB, hc⟩ := h3 hn
  refine ⟨b, o, e', hB, fun k x hx => ?_⟩
  obtain ⟨va, vf, vs, vr, h4, h5⟩ := hc k x hx
  exact ⟨va, vf, vs, vr, fun j u hu => (hb.cell (p := ⟨b, o + k * 8 + j, none⟩) hB).trans (h4 j u hu), h5.below hb⟩
theorem ItemsR.more {w : World} {B B' : Nat} {v : Value} {xs : List Item} (h : ItemsR w B v xs) (hB : B ≤ B') : ItemsR w B' v xs := by
  obtain ⟨A, c, e, h1, h2, h3⟩ := h
  refine ⟨A, c, e, h1, h2, fun hn => ?_⟩
  obtain ⟨b, o, e', hB', hc⟩ := h3 hn
  refine ⟨b, o, e', by omega, fun k x hx => ?_⟩
  obtain ⟨va, vf, vs, vr, h4, h5⟩ := hc k x hx
  exact ⟨va, vf, vs, vr, h4, h5.more hB⟩
theorem ItemsR.up {w w' : World} {v : Value} {xs : List Item} (h : ItemsR w w.heap.size v xs) (hb : Below w.heap.size w w') : ItemsR w' w'.heap.size v xs := (h.below hb).more hb.size

def ltS (a b : ByteArray) : Bool := Op.bytesLess a.toList b.toList
def orderAt (xs : List Item) (k : Nat) : Prop := 0 < k → ∀ x y, xs[k]? = some x → xs[k - 1]? = some y → ltS y.nm x.nm = true
def storeAt (xs : List Item) (k : Nat) : Prop := (∀ x, xs[k]? = some x → itemP x) ∧ orderAt xs k
def StoreTo (xs : List Item) (k : Nat) : Prop := ∀ i, i < k → storeAt xs i
def storeP (xs : List Item) : Prop := StoreTo xs xs.length ∧ xs.length ≤ 8
noncomputable def storeB (xs : List Item) : Bool := propB (storeP xs)
theorem StoreTo.next {xs : List Item} {k : Nat} (h : StoreTo xs k) (hk : storeAt xs k) : StoreTo xs (k + 1) := by
  intro i hi
  rcases Nat.lt_or_ge i k with h1 | h1
  · exact h i h1
  · obtain rfl : i = k := by omega
    exact hk
theorem storeAt_0 {xs : List Item} {x : Item} (hx : xs[0]? = some x) (hi : itemP x) : storeAt xs 0 :=
  ⟨fun z hz => by have e : x = z := Option.some.inj (hx.symm.trans hz); rw [← e]; exact hi, fun h => by omega⟩
theorem storeAt_s {xs : List Item} {m : Nat} {x y : Item} (hx : xs[m + 1]? = some x) (hy : xs[m + 1 - 1]? = some y) (hi : itemP x) (hl : ltS y.nm x.nm = true) : storeAt xs (m + 1) :=
  ⟨fun z hz => by have e : x = z := Option.some.inj (hx.symm.trans hz); rw [← e]; exact hi,
   fun _ z t hz ht => by
    have e : x = z := Option.some.inj (hx.symm.trans hz)
    have e' : y = t := Option.some.inj (hy.symm.trans ht)
    rw [← e, ← e']; exact hl⟩
theorem storeB_no {xs : List Item} {k : Nat} (hk : k < xs.length) (h : ¬ storeAt xs k) : storeB xs = false := propB_f fun hp => h (hp.1 k hk)
theorem storeB_end {xs : List Item} {k : Nat} (h : StoreTo xs k) (hk : xs.length = k) : storeB xs = decide ((xs.length : Int) ≤ 8) := by
  subst hk
  unfold storeB
  by_cases h8 : xs.length ≤ 8
  · rw [propB_t ⟨h, h8⟩, decide_eq_true (by omega)]
  · rw [propB_f (fun hp => h8 hp.2), decide_eq_false (by omega)]
def ItemsOk (xs : List Item) : Prop := ∀ x ∈ xs, szItem x ≤ 1048576 ∧ I64 x.lb
def StRel (xs : List Item) (w : World) (i : Value) (wr : World) : Prop := ∃ k : Nat, k ≤ xs.length ∧ i = .int .i64 k ∧ StoreTo xs k ∧ Below w.heap.size w wr

set_option maxRecDepth 100000 in
set_option maxHeartbeats 2000000 in
theorem spec_srStore (v : Value) (xs : List Item) (w : World) (h : ItemsR w w.heap.size v xs) (hok : ItemsOk xs) :
    Calls Tryz.prog 38 #[v] w fun e w' => e = .returned (.bool (storeB xs)) ∧ Below w.heap.size w w' := by
  obtain ⟨A, c, rfl, h1, h2, h3⟩ := h
  have HOK := Lib.hid hok; clear hok
  unfold maxLen at h2
  go_enter Tryz.func38, Tryz.ntmps38
  go_wp2
  go_loopw [7] (fun i wr => StRel xs w i wr) (fun i _ => xs.length - (intOf i).toNat)
  case atStart => exact ⟨0, Nat.zero_le _, rfl, fun i hi => by omega, Below.refl _ _⟩
  case round =>
    obtain ⟨k, hk, rfl, hto, hbl⟩ := hrel
    have HT := Lib.hid hto; clear hto
    by_cases hlt : k < xs.length
    · obtain ⟨x, hx⟩ : ∃ x, xs[k]? = some x := ⟨xs[k], List.getElem?_eq_getElem hlt⟩
      have hz := HOK.out x (List.mem_of_getElem? hx)
      obtain ⟨b, o, rfl, hb, hc⟩ := h3 (by omega)
      obtain ⟨va, vf, vs, vr, hcl, hr⟩ := hc k x hx
      obtain ⟨Aa, ma, ca, rfl⟩ := hr.a.isSlice'
      obtain ⟨Af, mf, cf, rfl⟩ := hr.f.isSlice
      obtain ⟨As, ms, cs, rfl⟩ := hr.s.isSlice
      obtain ⟨Ar, mr, cr, rfl⟩ := hr.r.isSlice'
      have q0 := (hbl.cell (p := ⟨b, o + k * 8, none⟩) hb).trans (hcl 0 _ rfl)
      have q1 := (hbl.cell (p := ⟨b, o + k * 8 + 1, none⟩) hb).trans (hcl 1 _ rfl)
      have q2 := (hbl.cell (p := ⟨b, o + k * 8 + 2, none⟩) hb).trans (hcl 2 _ rfl)
      have q3 := (hbl.cell (p := ⟨b, o + k * 8 + 3, none⟩) hb).trans (hcl 3 _ rfl)
      have q4 := (hbl.cell (p := ⟨b, o + k * 8 + 4, none⟩) hb).trans (hcl 4 _ rfl)
      have q5 := (hbl.cell (p := ⟨b, o + k * 8 + 5, none⟩) hb).trans (hcl 5 _ rfl)
      have q6 := (hbl.cell (p := ⟨b, o + k * 8 + 6, none⟩) hb).trans (hcl 6 _ rfl)
      have q7 := (hbl.cell (p := ⟨b, o + k * 8 + 7, none⟩) hb).trans (hcl 7 _ rfl)
      have HC := Lib.hid hc; clear hc h3
      have HR := Lib.hid ((hr.below hbl).more hbl.size); clear hr
      have HXk := Lib.hid hx; clear hx
      clear hcl
      have hb0 := bl_alloc (Below.refl wr.heap.size wr) (.cells #[.string x.nm, .int .i64 x.n, .slice Aa ma ca, .int .i64 x.cl, .int .i64 x.lb, .slice Af mf cf, .slice As ms cs, .slice Ar mr cr] 38)
      have HB := Lib.hid (Box8.new wr 38 (.string x.nm) (.int .i64 x.n) (.slice Aa ma ca) (.int .i64 x.cl) (.int .i64 x.lb) (.slice Af mf cf) (.slice As ms cs) (.slice Ar mr cr))
      have HZ := Lib.hid (show wr.heap.size < (wr.alloc (.cells #[.string x.nm, .int .i64 x.n, .slice Aa ma ca, .int .i64 x.cl, .int .i64 x.lb, .slice Af mf cf, .slice As ms cs, .slice Ar mr cr] 38)).heap.size by simp)
      have HZb := Lib.hid (show b < (wr.alloc (.cells #[.string x.nm, .int .i64 x.n, .slice Aa ma ca, .int .i64 x.cl, .int .i64 x.lb, .slice Af mf cf, .slice As ms cs, .slice Ar mr cr] 38)).heap.size by have := hbl.size; simp; omega)
      have hzw := hbl.size
      cases k with
      | zero =>
        simp only [Nat.zero_mul, Nat.add_zero] at q0 q1 q2 q3 q4 q5 q6 q7
        go_wp2_with fail
        generalize wr.alloc (.cells #[.string x.nm, .int .i64 x.n, .slice Aa ma ca, .int .i64 x.cl, .int .i64 x.lb, .slice Af mf cf, .slice As ms cs, .slice Ar mr cr] 38) = w0 at *
        obtain ⟨c0, c1, c2, c3, c4, c5, c6, c7⟩ := HB.out
        have hB0 := hbl.trans (hb0.mono hzw)
        have HR0 := Lib.hid (HR.out.up hb0)
        refine wp_region_held_drew (S := (fun w' => w'.cell? ⟨wr.heap.size, 0, none⟩ = some (.string x.nm) ∧ w'.cell? ⟨wr.heap.size, 1, none⟩ = some (.int .i64 x.n) ∧ w'.cell? ⟨wr.heap.size, 2, none⟩ = some (.slice Aa ma ca) ∧ w'.cell? ⟨wr.heap.size, 3, none⟩ = some (.int .i64 x.cl) ∧ w'.cell? ⟨wr.heap.size, 4, none⟩ = some (.int .i64 x.lb) ∧ w'.cell? ⟨wr.heap.size, 5, none⟩ = some (.slice Af mf cf) ∧ w'.cell? ⟨wr.heap.size, 6, none⟩ = some (.slice As ms cs) ∧ w'.cell? ⟨wr.heap.size, 7, none⟩ = some (.slice Ar mr cr))) (by kernel_rfl) ?_ (fun hHeld => ?_)
        · go_keep
        refine take_wanted 0 12 (v := ?v100) rfl rfl (by kernel_rfl) (by kernel_rfl) (by kernel_rfl) (fun _ _ _ h => h) (by rfl) ?y100 (by assumption) ?r100
        case y100 => intro w hSw; (try dsimp only at hSw); go_simp <;> with_reducible rfl
        try simp only [Act.put, List.setIfInBounds_toArray, List.set_cons_zero, List.set_cons_succ]
        refine take_ready 1 rfl (by kernel_rfl) (fun K hK => ?_)
        go_simp
        (go_at_call 63; refine (spec_srItem x _ _ _ _ _ (HR0.out.up (Below.refl w0.heap.size w0).drew) hz.1 hz.2).mono ?_; rintro e w1 ⟨rfl, hb1⟩; have hB1 := bl_trans hB0 (((Below.refl w0.heap.size w0).drew).trans hb1); have HX := Lib.hid (HB.out.below (((Below.refl w0.heap.size w0).drew).trans hb1) HZ.out); obtain ⟨d0, d1, d2, d3, d4, d5, d6, d7⟩ := HX.out)
        refine hK.out _ _ ?_ (fun hHeld => ?_)
        · go_keep
        clear hK K
        try simp only [Act.put, List.setIfInBounds_toArray, List.set_cons_zero, List.set_cons_succ]
        cases q : itemB x with
        | false =>
          have H := Lib.hid (storeB_no hlt (show ¬ storeAt xs 0 from fun h => propB_ff q (h.1 x HXk.out)))
          clear q
          refine take_wanted 2 14 (v := ?v202) rfl rfl (by kernel_rfl) (by kernel_rfl) (by kernel_rfl) (fun _ _ _ h => h) (by rfl) ?y202 (by assumption) ?r202
          case y202 => intro w hSw; (try dsimp only at hSw); go_simp <;> with_reducible rfl
          try simp only [Act.put, List.setIfInBounds_toArray, List.set_cons_zero, List.set_cons_succ]
          refine take_wanted 3 15 (v := ?v203) rfl rfl (by kernel_rfl) (by kernel_rfl) (by kernel_rfl) (fun _ _ _ h => h) (by rfl) ?y203 (by assumption) ?r203
          case y203 => intro w hSw; (try dsimp only at hSw); go_simp <;> with_reducible rfl
          try simp only [Act.put, List.setIfInBounds_toArray, List.set_cons_zero, List.set_cons_succ]
          refine take_not 4 16 rfl rfl (by kernel_rfl) (by kernel_rfl) (by kernel_rfl) (fun _ _ _ h => h) (by rfl) (by assumption) ?_
          try simp only [Act.put, List.setIfInBounds_toArray, List.set_cons_zero, List.set_cons_succ]
          refine take_not 5 17 rfl rfl (by kernel_rfl) (by kernel_rfl) (by kernel_rfl) (fun _ _ _ h => h) (by rfl) (by assumption) ?_
          try simp only [Act.put, List.setIfInBounds_toArray, List.set_cons_zero, List.set_cons_succ]
          refine take_not 6 18 rfl rfl (by kernel_rfl) (by kernel_rfl) (by kernel_rfl) (fun _ _ _ h => h) (by rfl) (by assumption) ?_
          try simp only [Act.put, List.setIfInBounds_toArray, List.set_cons_zero, List.set_cons_succ]
          refine take_not 7 19 rfl rfl (by kernel_rfl) (by kernel_rfl) (by kernel_rfl) (fun _ _ _ h => h) (by rfl) (by assumption) ?_
          try simp only [Act.put, List.setIfInBounds_toArray, List.set_cons_zero, List.set_cons_succ]
          refine take_not 8 20 rfl rfl (by kernel_rfl) (by kernel_rfl) (by kernel_rfl) (fun _ _ _ h => h) (by rfl) (by assumption) ?_
          try simp only [Act.put, List.setIfInBounds_toArray, List.set_cons_zero, List.set_cons_succ]
          refine take_not 9 21 rfl rfl (by kernel_rfl) (by kernel_rfl) (by kernel_rfl) (fun _ _ _ h => h) (by rfl) (by assumption) ?_
          try simp only [Act.put, List.setIfInBounds_toArray, List.set_cons_zero, List.set_cons_succ]
          refine take_not 10 22 rfl rfl (by kernel_rfl) (by kernel_rfl) (by kernel_rfl) (fun _ _ _ h => h) (by rfl) (by assumption) ?_
          try simp only [Act.put, List.setIfInBounds_toArray, List.set_cons_zero, List.set_cons_succ]
          refine take_not 11 23 rfl rfl (by kernel_rfl) (by kernel_rfl) (by kernel_rfl) (fun _ _ _ h => h) (by rfl) (by assumption) ?_
          try simp only [Act.put, List.setIfInBounds_toArray, List.set_cons_zero, List.set_cons_succ]
          refine take_not 12 24 rfl rfl (by kernel_rfl) (by kernel_rfl) (by kernel_rfl) (fun _ _ _ h => h) (by rfl) (by assumption) ?_
          try simp only [Act.put, List.setIfInBounds_toArray, List.set_cons_zero, List.set_cons_succ]
          refine take_not 13 25 rfl rfl (by kernel_rfl) (by kernel_rfl) (by kernel_rfl) (fun _ _ _ h => h) (by rfl) (by assumption) ?_
          try simp only [Act.put, List.setIfInBounds_toArray, List.set_cons_zero, List.set_cons_succ]
          refine take_not 14 26 rfl rfl (by kernel_rfl) (by kernel_rfl) (by kernel_rfl) (fun _ _ _ h => h) (by rfl) (by assumption) ?_
          try simp only [Act.put, List.setIfInBounds_toArray, List.set_cons_zero, List.set_cons_succ]
          refine take_not 15 27 rfl rfl (by kernel_rfl) (by kernel_rfl) (by kernel_rfl) (fun _ _ _ h => h) (by rfl) (by assumption) ?_
          try simp only [Act.put, List.setIfInBounds_toArray, List.set_cons_zero, List.set_cons_succ]
          refine take_not 16 28 rfl rfl (by kernel_rfl) (by kernel_rfl) (by kernel_rfl) (fun _ _ _ h => h) (by rfl) (by assumption) ?_
          try simp only [Act.put, List.setIfInBounds_toArray, List.set_cons_zero, List.set_cons_succ]
          refine take_wanted 17 29 (v := ?v217) rfl rfl (by kernel_rfl) (by kernel_rfl) (by kernel_rfl) (fun _ _ _ h => h) (by rfl) ?y217 (by assumption) ?r217
          case y217 => intro w hSw; (try dsimp only at hSw); go_simp <;> with_reducible rfl
          try simp only [Act.put, List.setIfInBounds_toArray, List.set_cons_zero, List.set_cons_succ]
          refine wpAnyH_done (by kernel_rfl) ?_ _
          go_wp2_with fail
          go_ret
          exact ⟨ret_bool H.out.symm, hB1⟩
        | true =>
          have HI := Lib.hid (propB_iff.1 q); clear q
          have H := Lib.hid (storeAt_0 HXk.out HI.out)
          refine take_wanted 2 14 (v := ?v302) rfl rfl (by kernel_rfl) (by kernel_rfl) (by kernel_rfl) (fun _ _ _ h => h) (by rfl) ?y302 (by assumption) ?r302
          case y302 => intro w hSw; (try dsimp only at hSw); go_simp <;> with_reducible rfl
          try simp only [Act.put, List.setIfInBounds_toArray, List.set_cons_zero, List.set_cons_succ]
          refine take_wanted 3 15 (v := ?v303) rfl rfl (by kernel_rfl) (by kernel_rfl) (by kernel_rfl) (fun _ _ _ h => h) (by rfl) ?y303 (by assumption) ?r303
          case y303 => intro w hSw; (try dsimp only at hSw); go_simp <;> with_reducible rfl
          try simp only [Act.put, List.setIfInBounds_toArray, List.set_cons_zero, List.set_cons_succ]
          refine take_wanted 4 16 (v := ?v304) rfl rfl (by kernel_rfl) (by kernel_rfl) (by kernel_rfl) (fun _ _ _ h => h) (by rfl) ?y304 (by assumption) ?r304
          case y304 => intro w hSw; (try dsimp only at hSw); go_simp <;> with_reducible rfl
          try simp only [Act.put, List.setIfInBounds_toArray, List.set_cons_zero, List.set_cons_succ]
          refine take_wanted 5 17 (v := ?v305) rfl rfl (by kernel_rfl) (by kernel_rfl) (by kernel_rfl) (fun _ _ _ h => h) (by rfl) ?y305 (by assumption) ?r305
          case y305 => intro w hSw; (try dsimp only at hSw); go_simp <;> with_reducible rfl
          try simp only [Act.put, List.setIfInBounds_toArray, List.set_cons_zero, List.set_cons_succ]
          refine take_wanted 6 18 (v := ?v306) rfl rfl (by kernel_rfl) (by kernel_rfl) (by kernel_rfl) (fun _ _ _ h => h) (by rfl) ?y306 (by assumption) ?r306
          case y306 => intro w hSw; (try dsimp only at hSw); go_simp <;> with_reducible rfl
          try simp only [Act.put, List.setIfInBounds_toArray, List.set_cons_zero, List.set_cons_succ]
          refine take_not 7 19 rfl rfl (by kernel_rfl) (by kernel_rfl) (by kernel_rfl) (fun _ _ _ h => h) (by rfl) (by assumption) ?_
          try simp only [Act.put, List.setIfInBounds_toArray, List.set_cons_zero, List.set_cons_succ]
          refine take_not 8 20 rfl rfl (by kernel_rfl) (by kernel_rfl) (by kernel_rfl) (fun _ _ _ h => h) (by rfl) (by assumption) ?_
          try simp only [Act.put, List.setIfInBounds_toArray, List.set_cons_zero, List.set_cons_succ]
          refine take_not 9 21 rfl rfl (by kernel_rfl) (by kernel_rfl) (by kernel_rfl) (fun _ _ _ h => h) (by rfl) (by assumption) ?_
          try simp only [Act.put, List.setIfInBounds_toArray, List.set_cons_zero, List.set_cons_succ]
          refine take_not 10 22 rfl rfl (by kernel_rfl) (by kernel_rfl) (by kernel_rfl) (fun _ _ _ h => h) (by rfl) (by assumption) ?_
          try simp only [Act.put, List.setIfInBounds_toArray, List.set_cons_zero, List.set_cons_succ]
          refine take_not 11 23 rfl rfl (by kernel_rfl) (by kernel_rfl) (by kernel_rfl) (fun _ _ _ h => h) (by rfl) (by assumption) ?_
          try simp only [Act.put, List.setIfInBounds_toArray, List.set_cons_zero, List.set_cons_succ]
          refine take_not 12 24 rfl rfl (by kernel_rfl) (by kernel_rfl) (by kernel_rfl) (fun _ _ _ h => h) (by rfl) (by assumption) ?_
          try simp only [Act.put, List.setIfInBounds_toArray, List.set_cons_zero, List.set_cons_succ]
          refine take_not 13 25 rfl rfl (by kernel_rfl) (by kernel_rfl) (by kernel_rfl) (fun _ _ _ h => h) (by rfl) (by assumption) ?_
          try simp only [Act.put, List.setIfInBounds_toArray, List.set_cons_zero, List.set_cons_succ]
          refine take_not 14 26 rfl rfl (by kernel_rfl) (by kernel_rfl) (by kernel_rfl) (fun _ _ _ h => h) (by rfl) (by assumption) ?_
          try simp only [Act.put, List.setIfInBounds_toArray, List.set_cons_zero, List.set_cons_succ]
          refine take_not 15 27 rfl rfl (by kernel_rfl) (by kernel_rfl) (by kernel_rfl) (fun _ _ _ h => h) (by rfl) (by assumption) ?_
          try simp only [Act.put, List.setIfInBounds_toArray, List.set_cons_zero, List.set_cons_succ]
          refine take_wanted 16 28 (v := ?v316) rfl rfl (by kernel_rfl) (by kernel_rfl) (by kernel_rfl) (fun _ _ _ h => h) (by rfl) ?y316 (by assumption) ?r316
          case y316 => intro w hSw; (try dsimp only at hSw); go_simp <;> with_reducible rfl
          try simp only [Act.put, List.setIfInBounds_toArray, List.set_cons_zero, List.set_cons_succ]
          refine take_wanted 17 29 (v := ?v317) rfl rfl (by kernel_rfl) (by kernel_rfl) (by kernel_rfl) (fun _ _ _ h => h) (by rfl) ?y317 (by assumption) ?r317
          case y317 => intro w hSw; (try dsimp only at hSw); go_simp <;> with_reducible rfl
          try simp only [Act.put, List.setIfInBounds_toArray, List.set_cons_zero, List.set_cons_succ]
          refine wpAnyH_done (by kernel_rfl) ?_ _
          go_wp2_with fail
          go_roundw
          case rel => exact ⟨1, by omega, by go_num, HT.out.next H.out, hB1⟩
          case measure => simp [intOf]; omega
      | succ m =>
        have hwm : IntKind.i64.wrap (m : Int) = (m : Int) := IntWalk.i64_in _ (by omega)
        have hml : (m : Int) < xs.length := by omega
        obtain ⟨y, hy⟩ : ∃ y, xs[m]? = some y := ⟨xs[m], List.getElem?_eq_getElem (by omega)⟩
        obtain ⟨va', vf', vs', vr', hcl', -⟩ := HC.out m y hy
        have e0 : wr.cell? ⟨b, o + m * 8, none⟩ = some (.string y.nm) := (hbl.cell (p := ⟨b, o + m * 8, none⟩) hb).trans (hcl' 0 _ rfl)
        have HYk := Lib.hid (show xs[m + 1 - 1]? = some y from hy); clear hy hcl'
        go_wp2_with fail
        generalize wr.alloc (.cells #[.string x.nm, .int .i64 x.n, .slice Aa ma ca, .int .i64 x.cl, .int .i64 x.lb, .slice Af mf cf, .slice As ms cs, .slice Ar mr cr] 38) = w0 at *
        obtain ⟨c0, c1, c2, c3, c4, c5, c6, c7⟩ := HB.out
        have hB0 := hbl.trans (hb0.mono hzw)
        have HR0 := Lib.hid (HR.out.up hb0)
        have e1 : w0.cell? ⟨b, o + m * 8, none⟩ = some (.string y.nm) := (hb0.cell (p := ⟨b, o + m * 8, none⟩) (show b < wr.heap.size by omega)).trans e0
        refine wp_region_held_drew (S := (fun w' => w'.cell? ⟨wr.heap.size, 0, none⟩ = some (.string x.nm) ∧ w'.cell? ⟨wr.heap.size, 1, none⟩ = some (.int .i64 x.n) ∧ w'.cell? ⟨wr.heap.size, 2, none⟩ = some (.slice Aa ma ca) ∧ w'.cell? ⟨wr.heap.size, 3, none⟩ = some (.int .i64 x.cl) ∧ w'.cell? ⟨wr.heap.size, 4, none⟩ = some (.int .i64 x.lb) ∧ w'.cell? ⟨wr.heap.size, 5, none⟩ = some (.slice Af mf cf) ∧ w'.cell? ⟨wr.heap.size, 6, none⟩ = some (.slice As ms cs) ∧ w'.cell? ⟨wr.heap.size, 7, none⟩ = some (.slice Ar mr cr) ∧ w'.cell? ⟨b, o + m * 8, none⟩ = some (.string y.nm))) (by kernel_rfl) ?_ (fun hHeld => ?_)
        · go_keep
        refine take_wanted 0 12 (v := ?v400) rfl rfl (by kernel_rfl) (by kernel_rfl) (by kernel_rfl) (fun _ _ _ h => h) (by rfl) ?y400 (by assumption) ?r400
        case y400 => intro w hSw; (try dsimp only at hSw); go_simp <;> with_reducible rfl
        try simp only [Act.put, List.setIfInBounds_toArray, List.set_cons_zero, List.set_cons_succ]
        refine take_ready 1 rfl (by kernel_rfl) (fun K hK => ?_)
        go_simp
        (go_at_call 63; refine (spec_srItem x _ _ _ _ _ (HR0.out.up (Below.refl w0.heap.size w0).drew) hz.1 hz.2).mono ?_; rintro e w1 ⟨rfl, hb1⟩; have hB1 := bl_trans hB0 (((Below.refl w0.heap.size w0).drew).trans hb1); have HX := Lib.hid (HB.out.below (((Below.refl w0.heap.size w0).drew).trans hb1) HZ.out); obtain ⟨d0, d1, d2, d3, d4, d5, d6, d7⟩ := HX.out; have e2 := hb1.cell (p := ⟨b, o + m * 8, none⟩) (show b < w0.heap.size from HZb.out); have e3 := e2.trans e1)
        refine hK.out _ _ ?_ (fun hHeld => ?_)
        · go_keep
        clear hK K
        try simp only [Act.put, List.setIfInBounds_toArray, List.set_cons_zero, List.set_cons_succ]
        cases q : itemB x with
        | false =>
          have H := Lib.hid (storeB_no hlt (show ¬ storeAt xs (m + 1) from fun h => propB_ff q (h.1 x HXk.out)))
          clear q
          refine take_wanted 2 14 (v := ?v502) rfl rfl (by kernel_rfl) (by kernel_rfl) (by kernel_rfl) (fun _ _ _ h => h) (by rfl) ?y502 (by assumption) ?r502
          case y502 => intro w hSw; (try dsimp only at hSw); go_simp <;> with_reducible rfl
          try simp only [Act.put, List.setIfInBounds_toArray, List.set_cons_zero, List.set_cons_succ]
          refine take_wanted 3 15 (v := ?v503) rfl rfl (by kernel_rfl) (by kernel_rfl) (by kernel_rfl) (fun _ _ _ h => h) (by rfl) ?y503 (by assumption) ?r503
          case y503 => intro w hSw; (try dsimp only at hSw); go_simp <;> with_reducible rfl
          try simp only [Act.put, List.setIfInBounds_toArray, List.set_cons_zero, List.set_cons_succ]
          refine take_not 4 16 rfl rfl (by kernel_rfl) (by kernel_rfl) (by kernel_rfl) (fun _ _ _ h => h) (by rfl) (by assumption) ?_
          try simp only [Act.put, List.setIfInBounds_toArray, List.set_cons_zero, List.set_cons_succ]
          refine take_not 5 17 rfl rfl (by kernel_rfl) (by kernel_rfl) (by kernel_rfl) (fun _ _ _ h => h) (by rfl) (by assumption) ?_
          try simp only [Act.put, List.setIfInBounds_toArray, List.set_cons_zero, List.set_cons_succ]
          refine take_not 6 18 rfl rfl (by kernel_rfl) (by kernel_rfl) (by kernel_rfl) (fun _ _ _ h => h) (by rfl) (by assumption) ?_
          try simp only [Act.put, List.setIfInBounds_toArray, List.set_cons_zero, List.set_cons_succ]
          refine take_not 7 19 rfl rfl (by kernel_rfl) (by kernel_rfl) (by kernel_rfl) (fun _ _ _ h => h) (by rfl) (by assumption) ?_
          try simp only [Act.put, List.setIfInBounds_toArray, List.set_cons_zero, List.set_cons_succ]
          refine take_not 8 20 rfl rfl (by kernel_rfl) (by kernel_rfl) (by kernel_rfl) (fun _ _ _ h => h) (by rfl) (by assumption) ?_
          try simp only [Act.put, List.setIfInBounds_toArray, List.set_cons_zero, List.set_cons_succ]
          refine take_not 9 21 rfl rfl (by kernel_rfl) (by kernel_rfl) (by kernel_rfl) (fun _ _ _ h => h) (by rfl) (by assumption) ?_
          try simp only [Act.put, List.setIfInBounds_toArray, List.set_cons_zero, List.set_cons_succ]
          refine take_not 10 22 rfl rfl (by kernel_rfl) (by kernel_rfl) (by kernel_rfl) (fun _ _ _ h => h) (by rfl) (by assumption) ?_
          try simp only [Act.put, List.setIfInBounds_toArray, List.set_cons_zero, List.set_cons_succ]
          refine take_not 11 23 rfl rfl (by kernel_rfl) (by kernel_rfl) (by kernel_rfl) (fun _ _ _ h => h) (by rfl) (by assumption) ?_
          try simp only [Act.put, List.setIfInBounds_toArray, List.set_cons_zero, List.set_cons_succ]
          refine take_not 12 24 rfl rfl (by kernel_rfl) (by kernel_rfl) (by kernel_rfl) (fun _ _ _ h => h) (by rfl) (by assumption) ?_
          try simp only [Act.put, List.setIfInBounds_toArray, List.set_cons_zero, List.set_cons_succ]
          refine take_not 13 25 rfl rfl (by kernel_rfl) (by kernel_rfl) (by kernel_rfl) (fun _ _ _ h => h) (by rfl) (by assumption) ?_
          try simp only [Act.put, List.setIfInBounds_toArray, List.set_cons_zero, List.set_cons_succ]
          refine take_not 14 26 rfl rfl (by kernel_rfl) (by kernel_rfl) (by kernel_rfl) (fun _ _ _ h => h) (by rfl) (by assumption) ?_
          try simp only [Act.put, List.setIfInBounds_toArray, List.set_cons_zero, List.set_cons_succ]
          refine take_not 15 27 rfl rfl (by kernel_rfl) (by kernel_rfl) (by kernel_rfl) (fun _ _ _ h => h) (by rfl) (by assumption) ?_
          try simp only [Act.put, List.setIfInBounds_toArray, List.set_cons_zero, List.set_cons_succ]
          refine take_not 16 28 rfl rfl (by kernel_rfl) (by kernel_rfl) (by kernel_rfl) (fun _ _ _ h => h) (by rfl) (by assumption) ?_
          try simp only [Act.put, List.setIfInBounds_toArray, List.set_cons_zero, List.set_cons_succ]
          refine take_wanted 17 29 (v := ?v517) rfl rfl (by kernel_rfl) (by kernel_rfl) (by kernel_rfl) (fun _ _ _ h => h) (by rfl) ?y517 (by assumption) ?r517
          case y517 => intro w hSw; (try dsimp only at hSw); go_simp <;> with_reducible rfl
          try simp only [Act.put, List.setIfInBounds_toArray, List.set_cons_zero, List.set_cons_succ]
          refine wpAnyH_done (by kernel_rfl) ?_ _
          go_wp2_with fail
          go_ret
          exact ⟨ret_bool H.out.symm, hB1⟩
        | true =>
          have HI := Lib.hid (propB_iff.1 q); clear q
          cases q2 : ltS y.nm x.nm with
          | false =>
            have H := Lib.hid (storeB_no hlt (show ¬ storeAt xs (m + 1) from fun h => by have := h.2 (by omega) x y HXk.out HYk.out; rw [q2] at this; cases this))
            have q3 : Op.bytesLess y.nm.toList x.nm.toList = false := q2
            clear q2
            refine take_wanted 2 14 (v := ?v602) rfl rfl (by kernel_rfl) (by kernel_rfl) (by kernel_rfl) (fun _ _ _ h => h) (by rfl) ?y602 (by assumption) ?r602
            case y602 => intro w hSw; (try dsimp only at hSw); go_simp <;> with_reducible rfl
            try simp only [Act.put, List.setIfInBounds_toArray, List.set_cons_zero, List.set_cons_succ]
            refine take_wanted 3 15 (v := ?v603) rfl rfl (by kernel_rfl) (by kernel_rfl) (by kernel_rfl) (fun _ _ _ h => h) (by rfl) ?y603 (by assumption) ?r603
            case y603 => intro w hSw; (try dsimp only at hSw); go_simp <;> with_reducible rfl
            try simp only [Act.put, List.setIfInBounds_toArray, List.set_cons_zero, List.set_cons_succ]
            refine take_wanted 4 16 (v := ?v604) rfl rfl (by kernel_rfl) (by kernel_rfl) (by kernel_rfl) (fun _ _ _ h => h) (by rfl) ?y604 (by assumption) ?r604
            case y604 => intro w hSw; (try dsimp only at hSw); go_simp <;> with_reducible rfl
            try simp only [Act.put, List.setIfInBounds_toArray, List.set_cons_zero, List.set_cons_succ]
            refine take_wanted 5 17 (v := ?v605) rfl rfl (by kernel_rfl) (by kernel_rfl) (by kernel_rfl) (fun _ _ _ h => h) (by rfl) ?y605 (by assumption) ?r605
            case y605 => intro w hSw; (try dsimp only at hSw); go_simp <;> with_reducible rfl
            try simp only [Act.put, List.setIfInBounds_toArray, List.set_cons_zero, List.set_cons_succ]
            refine take_wanted 6 18 (v := ?v606) rfl rfl (by kernel_rfl) (by kernel_rfl) (by kernel_rfl) (fun _ _ _ h => h) (by rfl) ?y606 (by assumption) ?r606
            case y606 => intro w hSw; (try dsimp only at hSw); go_simp <;> with_reducible rfl
            try simp only [Act.put, List.setIfInBounds_toArray, List.set_cons_zero, List.set_cons_succ]
            refine take_wanted 7 19 (v := ?v607) rfl rfl (by kernel_rfl) (by kernel_rfl) (by kernel_rfl) (fun _ _ _ h => h) (by rfl) ?y607 (by assumption) ?r607
            case y607 => intro w hSw; (try dsimp only at hSw); go_simp <;> with_reducible rfl
            try simp only [Act.put, List.setIfInBounds_toArray, List.set_cons_zero, List.set_cons_succ]
            refine take_wanted 8 20 (v := ?v608) rfl rfl (by kernel_rfl) (by kernel_rfl) (by kernel_rfl) (fun _ _ _ h => h) (by rfl) ?y608 (by assumption) ?r608
            case y608 => intro w hSw; (try dsimp only at hSw); go_simp <;> with_reducible rfl
            try simp only [Act.put, List.setIfInBounds_toArray, List.set_cons_zero, List.set_cons_succ]
            refine take_wanted 9 21 (v := ?v609) rfl rfl (by kernel_rfl) (by kernel_rfl) (by kernel_rfl) (fun _ _ _ h => h) (by rfl) ?y609 (by assumption) ?r609
            case y609 => intro w hSw; (try dsimp only at hSw); go_simp <;> with_reducible rfl
            try simp only [Act.put, List.setIfInBounds_toArray, List.set_cons_zero, List.set_cons_succ]
            refine take_wanted 10 22 (v := ?v610) rfl rfl (by kernel_rfl) (by kernel_rfl) (by kernel_rfl) (fun _ _ _ h => h) (by rfl) ?y610 (by assumption) ?r610
            case y610 => intro w hSw; (try dsimp only at hSw); go_simp <;> with_reducible rfl
            try simp only [Act.put, List.setIfInBounds_toArray, List.set_cons_zero, List.set_cons_succ]
            refine take_wanted 11 23 (v := ?v611) rfl rfl (by kernel_rfl) (by kernel_rfl) (by kernel_rfl) (fun _ _ _ h => h) (by rfl) ?y611 (by assumption) ?r611
            case y611 => intro w hSw; (try dsimp only at hSw); go_simp <;> with_reducible rfl
            try simp only [Act.put, List.setIfInBounds_toArray, List.set_cons_zero, List.set_cons_succ]
            refine take_wanted 12 24 (v := ?v612) rfl rfl (by kernel_rfl) (by kernel_rfl) (by kernel_rfl) (fun _ _ _ h => h) (by rfl) ?y612 (by assumption) ?r612
            case y612 => intro w hSw; (try dsimp only at hSw); go_simp <;> with_reducible rfl
            try simp only [Act.put, List.setIfInBounds_toArray, List.set_cons_zero, List.set_cons_succ]
            refine take_wanted 13 25 (v := ?v613) rfl rfl (by kernel_rfl) (by kernel_rfl) (by kernel_rfl) (fun _ _ _ h => h) (by rfl) ?y613 (by assumption) ?r613
            case y613 => intro w hSw; (try dsimp only at hSw); go_simp <;> with_reducible rfl
            try simp only [Act.put, List.setIfInBounds_toArray, List.set_cons_zero, List.set_cons_succ]
            refine take_wanted 14 26 (v := ?v614) rfl rfl (by kernel_rfl) (by kernel_rfl) (by kernel_rfl) (fun _ _ _ h => h) (by rfl) ?y614 (by assumption) ?r614
            case y614 => intro w hSw; (try dsimp only at hSw); go_simp <;> with_reducible rfl
            try simp only [Act.put, List.setIfInBounds_toArray, List.set_cons_zero, List.set_cons_succ]
            refine take_wanted 15 27 (v := ?v615) rfl rfl (by kernel_rfl) (by kernel_rfl) (by kernel_rfl) (fun _ _ _ h => h) (by rfl) ?y615 (by assumption) ?r615
            case y615 => intro w hSw; (try dsimp only at hSw); go_simp <;> with_reducible rfl
            try simp only [Act.put, List.setIfInBounds_toArray, List.set_cons_zero, List.set_cons_succ]
            refine take_wanted 16 28 (v := ?v616) rfl rfl (by kernel_rfl) (by kernel_rfl) (by kernel_rfl) (fun _ _ _ h => h) (by rfl) ?y616 (by assumption) ?r616
            case y616 => intro w hSw; (try dsimp only at hSw); go_simp <;> with_reducible rfl
            try simp only [Act.put, List.setIfInBounds_toArray, List.set_cons_zero, List.set_cons_succ]
            refine take_wanted 17 29 (v := ?v617) rfl rfl (by kernel_rfl) (by kernel_rfl) (by kernel_rfl) (fun _ _ _ h => h) (by rfl) ?y617 (by assumption) ?r617
            case y617 => intro w hSw; (try dsimp only at hSw); go_simp <;> with_reducible rfl
            try simp only [Act.put, List.setIfInBounds_toArray, List.set_cons_zero, List.set_cons_succ]
            refine wpAnyH_done (by kernel_rfl) ?_ _
            go_wp2_with fail
            go_ret
            exact ⟨ret_bool H.out.symm, hB1⟩
          | true =>
            have H := Lib.hid (storeAt_s HXk.out HYk.out HI.out q2)
            have q3 : Op.bytesLess y.nm.toList x.nm.toList = true := q2
            clear q2
            refine take_wanted 2 14 (v := ?v702) rfl rfl (by kernel_rfl) (by kernel_rfl) (by kernel_rfl) (fun _ _ _ h => h) (by rfl) ?y702 (by assumption) ?r702
            case y702 => intro w hSw; (try dsimp only at hSw); go_simp <;> with_reducible rfl
            try simp only [Act.put, List.setIfInBounds_toArray, List.set_cons_zero, List.set_cons_succ]
            refine take_wanted 3 15 (v := ?v703) rfl rfl (by kernel_rfl) (by kernel_rfl) (by kernel_rfl) (fun _ _ _ h => h) (by rfl) ?y703 (by assumption) ?r703
            case y703 => intro w hSw; (try dsimp only at hSw); go_simp <;> with_reducible rfl
            try simp only [Act.put, List.setIfInBounds_toArray, List.set_cons_zero, List.set_cons_succ]
            refine take_wanted 4 16 (v := ?v704) rfl rfl (by kernel_rfl) (by kernel_rfl) (by kernel_rfl) (fun _ _ _ h => h) (by rfl) ?y704 (by assumption) ?r704
            case y704 => intro w hSw; (try dsimp only at hSw); go_simp <;> with_reducible rfl
            try simp only [Act.put, List.setIfInBounds_toArray, List.set_cons_zero, List.set_cons_succ]
            refine take_wanted 5 17 (v := ?v705) rfl rfl (by kernel_rfl) (by kernel_rfl) (by kernel_rfl) (fun _ _ _ h => h) (by rfl) ?y705 (by assumption) ?r705
            case y705 => intro w hSw; (try dsimp only at hSw); go_simp <;> with_reducible rfl
            try simp only [Act.put, List.setIfInBounds_toArray, List.set_cons_zero, List.set_cons_succ]
            refine take_wanted 6 18 (v := ?v706) rfl rfl (by kernel_rfl) (by kernel_rfl) (by kernel_rfl) (fun _ _ _ h => h) (by rfl) ?y706 (by assumption) ?r706
            case y706 => intro w hSw; (try dsimp only at hSw); go_simp <;> with_reducible rfl
            try simp only [Act.put, List.setIfInBounds_toArray, List.set_cons_zero, List.set_cons_succ]
            refine take_wanted 7 19 (v := ?v707) rfl rfl (by kernel_rfl) (by kernel_rfl) (by kernel_rfl) (fun _ _ _ h => h) (by rfl) ?y707 (by assumption) ?r707
            case y707 => intro w hSw; (try dsimp only at hSw); go_simp <;> with_reducible rfl
            try simp only [Act.put, List.setIfInBounds_toArray, List.set_cons_zero, List.set_cons_succ]
            refine take_wanted 8 20 (v := ?v708) rfl rfl (by kernel_rfl) (by kernel_rfl) (by kernel_rfl) (fun _ _ _ h => h) (by rfl) ?y708 (by assumption) ?r708
            case y708 => intro w hSw; (try dsimp only at hSw); go_simp <;> with_reducible rfl
            try simp only [Act.put, List.setIfInBounds_toArray, List.set_cons_zero, List.set_cons_succ]
            refine take_wanted 9 21 (v := ?v709) rfl rfl (by kernel_rfl) (by kernel_rfl) (by kernel_rfl) (fun _ _ _ h => h) (by rfl) ?y709 (by assumption) ?r709
            case y709 => intro w hSw; (try dsimp only at hSw); go_simp <;> with_reducible rfl
            try simp only [Act.put, List.setIfInBounds_toArray, List.set_cons_zero, List.set_cons_succ]
            refine take_wanted 10 22 (v := ?v710) rfl rfl (by kernel_rfl) (by kernel_rfl) (by kernel_rfl) (fun _ _ _ h => h) (by rfl) ?y710 (by assumption) ?r710
            case y710 => intro w hSw; (try dsimp only at hSw); go_simp <;> with_reducible rfl
            try simp only [Act.put, List.setIfInBounds_toArray, List.set_cons_zero, List.set_cons_succ]
            refine take_wanted 11 23 (v := ?v711) rfl rfl (by kernel_rfl) (by kernel_rfl) (by kernel_rfl) (fun _ _ _ h => h) (by rfl) ?y711 (by assumption) ?r711
            case y711 => intro w hSw; (try dsimp only at hSw); go_simp <;> with_reducible rfl
            try simp only [Act.put, List.setIfInBounds_toArray, List.set_cons_zero, List.set_cons_succ]
            refine take_wanted 12 24 (v := ?v712) rfl rfl (by kernel_rfl) (by kernel_rfl) (by kernel_rfl) (fun _ _ _ h => h) (by rfl) ?y712 (by assumption) ?r712
            case y712 => intro w hSw; (try dsimp only at hSw); go_simp <;> with_reducible rfl
            try simp only [Act.put, List.setIfInBounds_toArray, List.set_cons_zero, List.set_cons_succ]
            refine take_wanted 13 25 (v := ?v713) rfl rfl (by kernel_rfl) (by kernel_rfl) (by kernel_rfl) (fun _ _ _ h => h) (by rfl) ?y713 (by assumption) ?r713
            case y713 => intro w hSw; (try dsimp only at hSw); go_simp <;> with_reducible rfl
            try simp only [Act.put, List.setIfInBounds_toArray, List.set_cons_zero, List.set_cons_succ]
            refine take_wanted 14 26 (v := ?v714) rfl rfl (by kernel_rfl) (by kernel_rfl) (by kernel_rfl) (fun _ _ _ h => h) (by rfl) ?y714 (by assumption) ?r714
            case y714 => intro w hSw; (try dsimp only at hSw); go_simp <;> with_reducible rfl
            try simp only [Act.put, List.setIfInBounds_toArray, List.set_cons_zero, List.set_cons_succ]
            refine take_wanted 15 27 (v := ?v715) rfl rfl (by kernel_rfl) (by kernel_rfl) (by kernel_rfl) (fun _ _ _ h => h) (by rfl) ?y715 (by assumption) ?r715
            case y715 => intro w hSw; (try dsimp only at hSw); go_simp <;> with_reducible rfl
            try simp only [Act.put, List.setIfInBounds_toArray, List.set_cons_zero, List.set_cons_succ]
            refine take_wanted 16 28 (v := ?v716) rfl rfl (by kernel_rfl) (by kernel_rfl) (by kernel_rfl) (fun _ _ _ h => h) (by rfl) ?y716 (by assumption) ?r716
            case y716 => intro w hSw; (try dsimp only at hSw); go_simp <;> with_reducible rfl
            try simp only [Act.put, List.setIfInBounds_toArray, List.set_cons_zero, List.set_cons_succ]
            refine take_wanted 17 29 (v := ?v717) rfl rfl (by kernel_rfl) (by kernel_rfl) (by kernel_rfl) (fun _ _ _ h => h) (by rfl) ?y717 (by assumption) ?r717
            case y717 => intro w hSw; (try dsimp only at hSw); go_simp <;> with_reducible rfl
            try simp only [Act.put, List.setIfInBounds_toArray, List.set_cons_zero, List.set_cons_succ]
            refine wpAnyH_done (by kernel_rfl) ?_ _
            go_wp2_with fail
            go_roundw
            case rel => exact ⟨m + 1 + 1, by omega, by go_num, HT.out.next H.out, hB1⟩
            case measure => simp [intOf]; omega
    · have H := Lib.hid (storeB_end HT.out (by omega))
      go_wp2_with fail
      go_ret
      exact ⟨ret_bool H.out.symm, hbl⟩
set_option maxRecDepth 100000 in
set_option maxHeartbeats 2000000 in
theorem impl_IsStore (v : Value) (xs : List Item) (w : World) (h : ItemsR w w.heap.size v xs) (hok : ItemsOk xs) :
    Calls Tryz.prog 41 #[v] w fun e w' => e = .returned (.bool (storeB xs)) ∧ Below w.heap.size w w' := by
  obtain ⟨A, c, rfl, h1, h2, h3⟩ := h
  have HOK := Lib.hid hok; clear hok
  unfold maxLen at h2
  go_enter Tryz.func41, Tryz.ntmps41
  go_wp2
  go_loopw [7] (fun i wr => StRel xs w i wr) (fun i _ => xs.length - (intOf i).toNat)
  case atStart => exact ⟨0, Nat.zero_le _, rfl, fun i hi => by omega, Below.refl _ _⟩
  case round =>
    obtain ⟨k, hk, rfl, hto, hbl⟩ := hrel
    have HT := Lib.hid hto; clear hto
    by_cases hlt : k < xs.length
    · obtain ⟨x, hx⟩ : ∃ x, xs[k]? = some x := ⟨xs[k], List.getElem?_eq_getElem hlt⟩
      have hz := HOK.out x (List.mem_of_getElem? hx)
      obtain ⟨b, o, rfl, hb, hc⟩ := h3 (by omega)
      obtain ⟨va, vf, vs, vr, hcl, hr⟩ := hc k x hx
      obtain ⟨Aa, ma, ca, rfl⟩ := hr.a.isSlice'
      obtain ⟨Af, mf, cf, rfl⟩ := hr.f.isSlice
      obtain ⟨As, ms, cs, rfl⟩ := hr.s.isSlice
      obtain ⟨Ar, mr, cr, rfl⟩ := hr.r.isSlice'
      have q0 := (hbl.cell (p := ⟨b, o + k * 8, none⟩) hb).trans (hcl 0 _ rfl)
      have q1 := (hbl.cell (p := ⟨b, o + k * 8 + 1, none⟩) hb).trans (hcl 1 _ rfl)
      have q2 := (hbl.cell (p := ⟨b, o + k * 8 + 2, none⟩) hb).trans (hcl 2 _ rfl)
      have q3 := (hbl.cell (p := ⟨b, o + k * 8 + 3, none⟩) hb).trans (hcl 3 _ rfl)
      have q4 := (hbl.cell (p := ⟨b, o + k * 8 + 4, none⟩) hb).trans (hcl 4 _ rfl)
      have q5 := (hbl.cell (p := ⟨b, o + k * 8 + 5, none⟩) hb).trans (hcl 5 _ rfl)
      have q6 := (hbl.cell (p := ⟨b, o + k * 8 + 6, none⟩) hb).trans (hcl 6 _ rfl)
      have q7 := (hbl.cell (p := ⟨b, o + k * 8 + 7, none⟩) hb).trans (hcl 7 _ rfl)
      have HC := Lib.hid hc; clear hc h3
      have HR := Lib.hid ((hr.below hbl).more hbl.size); clear hr
      have HXk := Lib.hid hx; clear hx
      clear hcl
      have hb0 := bl_alloc (Below.refl wr.heap.size wr) (.cells #[.string x.nm, .int .i64 x.n, .slice Aa ma ca, .int .i64 x.cl, .int .i64 x.lb, .slice Af mf cf, .slice As ms cs, .slice Ar mr cr] 38)
      have HB := Lib.hid (Box8.new wr 38 (.string x.nm) (.int .i64 x.n) (.slice Aa ma ca) (.int .i64 x.cl) (.int .i64 x.lb) (.slice Af mf cf) (.slice As ms cs) (.slice Ar mr cr))
      have HZ := Lib.hid (show wr.heap.size < (wr.alloc (.cells #[.string x.nm, .int .i64 x.n, .slice Aa ma ca, .int .i64 x.cl, .int .i64 x.lb, .slice Af mf cf, .slice As ms cs, .slice Ar mr cr] 38)).heap.size by simp)
      have HZb := Lib.hid (show b < (wr.alloc (.cells #[.string x.nm, .int .i64 x.n, .slice Aa ma ca, .int .i64 x.cl, .int .i64 x.lb, .slice Af mf cf, .slice As ms cs, .slice Ar mr cr] 38)).heap.size by have := hbl.size; simp; omega)
      have hzw := hbl.size
      cases k with
      | zero =>
        simp only [Nat.zero_mul, Nat.add_zero] at q0 q1 q2 q3 q4 q5 q6 q7
        go_wp2_with fail
        generalize wr.alloc (.cells #[.string x.nm, .int .i64 x.n, .slice Aa ma ca, .int .i64 x.cl, .int .i64 x.lb, .slice Af mf cf, .slice As ms cs, .slice Ar mr cr] 38) = w0 at *
        obtain ⟨c0, c1, c2, c3, c4, c5, c6, c7⟩ := HB.out
        have hB0 := hbl.trans (hb0.mono hzw)
        have HR0 := Lib.hid (HR.out.up hb0)
        refine wp_region_held_drew (S := (fun w' => w'.cell? ⟨wr.heap.size, 0, none⟩ = some (.string x.nm) ∧ w'.cell? ⟨wr.heap.size, 1, none⟩ = some (.int .i64 x.n) ∧ w'.cell? ⟨wr.heap.size, 2, none⟩ = some (.slice Aa ma ca) ∧ w'.cell? ⟨wr.heap.size, 3, none⟩ = some (.int .i64 x.cl) ∧ w'.cell? ⟨wr.heap.size, 4, none⟩ = some (.int .i64 x.lb) ∧ w'.cell? ⟨wr.heap.size, 5, none⟩ = some (.slice Af mf cf) ∧ w'.cell? ⟨wr.heap.size, 6, none⟩ = some (.slice As ms cs) ∧ w'.cell? ⟨wr.heap.size, 7, none⟩ = some (.slice Ar mr cr))) (by kernel_rfl) ?_ (fun hHeld => ?_)
        · go_keep
        refine take_wanted 0 12 (v := ?v800) rfl rfl (by kernel_rfl) (by kernel_rfl) (by kernel_rfl) (fun _ _ _ h => h) (by rfl) ?y800 (by assumption) ?r800
        case y800 => intro w hSw; (try dsimp only at hSw); go_simp <;> with_reducible rfl
        try simp only [Act.put, List.setIfInBounds_toArray, List.set_cons_zero, List.set_cons_succ]
        refine take_ready 1 rfl (by kernel_rfl) (fun K hK => ?_)
        go_simp
        (go_at_call 69; refine (impl_isItem x _ _ _ _ _ (HR0.out.up (Below.refl w0.heap.size w0).drew) hz.1 hz.2).mono ?_; rintro e w1 ⟨rfl, hb1⟩; have hB1 := bl_trans hB0 (((Below.refl w0.heap.size w0).drew).trans hb1); have HX := Lib.hid (HB.out.below (((Below.refl w0.heap.size w0).drew).trans hb1) HZ.out); obtain ⟨d0, d1, d2, d3, d4, d5, d6, d7⟩ := HX.out)
        refine hK.out _ _ ?_ (fun hHeld => ?_)
        · go_keep
        clear hK K
        try simp only [Act.put, List.setIfInBounds_toArray, List.set_cons_zero, List.set_cons_succ]
        cases q : itemB x with
        | false =>
          have H := Lib.hid (storeB_no hlt (show ¬ storeAt xs 0 from fun h => propB_ff q (h.1 x HXk.out)))
          clear q
          refine take_wanted 2 14 (v := ?v902) rfl rfl (by kernel_rfl) (by kernel_rfl) (by kernel_rfl) (fun _ _ _ h => h) (by rfl) ?y902 (by assumption) ?r902
          case y902 => intro w hSw; (try dsimp only at hSw); go_simp <;> with_reducible rfl
          try simp only [Act.put, List.setIfInBounds_toArray, List.set_cons_zero, List.set_cons_succ]
          refine take_wanted 3 15 (v := ?v903) rfl rfl (by kernel_rfl) (by kernel_rfl) (by kernel_rfl) (fun _ _ _ h => h) (by rfl) ?y903 (by assumption) ?r903
          case y903 => intro w hSw; (try dsimp only at hSw); go_simp <;> with_reducible rfl
          try simp only [Act.put, List.setIfInBounds_toArray, List.set_cons_zero, List.set_cons_succ]
          refine take_not 4 16 rfl rfl (by kernel_rfl) (by kernel_rfl) (by kernel_rfl) (fun _ _ _ h => h) (by rfl) (by assumption) ?_
          try simp only [Act.put, List.setIfInBounds_toArray, List.set_cons_zero, List.set_cons_succ]
          refine take_not 5 17 rfl rfl (by kernel_rfl) (by kernel_rfl) (by kernel_rfl) (fun _ _ _ h => h) (by rfl) (by assumption) ?_
          try simp only [Act.put, List.setIfInBounds_toArray, List.set_cons_zero, List.set_cons_succ]
          refine take_not 6 18 rfl rfl (by kernel_rfl) (by kernel_rfl) (by kernel_rfl) (fun _ _ _ h => h) (by rfl) (by assumption) ?_
          try simp only [Act.put, List.setIfInBounds_toArray, List.set_cons_zero, List.set_cons_succ]
          refine take_not 7 19 rfl rfl (by kernel_rfl) (by kernel_rfl) (by kernel_rfl) (fun _ _ _ h => h) (by rfl) (by assumption) ?_
          try simp only [Act.put, List.setIfInBounds_toArray, List.set_cons_zero, List.set_cons_succ]
          refine take_not 8 20 rfl rfl (by kernel_rfl) (by kernel_rfl) (by kernel_rfl) (fun _ _ _ h => h) (by rfl) (by assumption) ?_
          try simp only [Act.put, List.setIfInBounds_toArray, List.set_cons_zero, List.set_cons_succ]
          refine take_not 9 21 rfl rfl (by kernel_rfl) (by kernel_rfl) (by kernel_rfl) (fun _ _ _ h => h) (by rfl) (by assumption) ?_
          try simp only [Act.put, List.setIfInBounds_toArray, List.set_cons_zero, List.set_cons_succ]
          refine take_not 10 22 rfl rfl (by kernel_rfl) (by kernel_rfl) (by kernel_rfl) (fun _ _ _ h => h) (by rfl) (by assumption) ?_
          try simp only [Act.put, List.setIfInBounds_toArray, List.set_cons_zero, List.set_cons_succ]
          refine take_not 11 23 rfl rfl (by kernel_rfl) (by kernel_rfl) (by kernel_rfl) (fun _ _ _ h => h) (by rfl) (by assumption) ?_
          try simp only [Act.put, List.setIfInBounds_toArray, List.set_cons_zero, List.set_cons_succ]
          refine take_not 12 24 rfl rfl (by kernel_rfl) (by kernel_rfl) (by kernel_rfl) (fun _ _ _ h => h) (by rfl) (by assumption) ?_
          try simp only [Act.put, List.setIfInBounds_toArray, List.set_cons_zero, List.set_cons_succ]
          refine take_not 13 25 rfl rfl (by kernel_rfl) (by kernel_rfl) (by kernel_rfl) (fun _ _ _ h => h) (by rfl) (by assumption) ?_
          try simp only [Act.put, List.setIfInBounds_toArray, List.set_cons_zero, List.set_cons_succ]
          refine take_not 14 26 rfl rfl (by kernel_rfl) (by kernel_rfl) (by kernel_rfl) (fun _ _ _ h => h) (by rfl) (by assumption) ?_
          try simp only [Act.put, List.setIfInBounds_toArray, List.set_cons_zero, List.set_cons_succ]
          refine take_not 15 27 rfl rfl (by kernel_rfl) (by kernel_rfl) (by kernel_rfl) (fun _ _ _ h => h) (by rfl) (by assumption) ?_
          try simp only [Act.put, List.setIfInBounds_toArray, List.set_cons_zero, List.set_cons_succ]
          refine take_not 16 28 rfl rfl (by kernel_rfl) (by kernel_rfl) (by kernel_rfl) (fun _ _ _ h => h) (by rfl) (by assumption) ?_
          try simp only [Act.put, List.setIfInBounds_toArray, List.set_cons_zero, List.set_cons_succ]
          refine take_wanted 17 29 (v := ?v917) rfl rfl (by kernel_rfl) (by kernel_rfl) (by kernel_rfl) (fun _ _ _ h => h) (by rfl) ?y917 (by assumption) ?r917
          case y917 => intro w hSw; (try dsimp only at hSw); go_simp <;> with_reducible rfl
          try simp only [Act.put, List.setIfInBounds_toArray, List.set_cons_zero, List.set_cons_succ]
          refine wpAnyH_done (by kernel_rfl) ?_ _
          go_wp2_with fail
          go_ret
          exact ⟨ret_bool H.out.symm, hB1⟩
        | true =>
          have HI := Lib.hid (propB_iff.1 q); clear q
          have H := Lib.hid (storeAt_0 HXk.out HI.out)
          refine take_wanted 2 14 (v := ?v1002) rfl rfl (by kernel_rfl) (by kernel_rfl) (by kernel_rfl) (fun _ _ _ h => h) (by rfl) ?y1002 (by assumption) ?r1002
          case y1002 => intro w hSw; (try dsimp only at hSw); go_simp <;> with_reducible rfl
          try simp only [Act.put, List.setIfInBounds_toArray, List.set_cons_zero, List.set_cons_succ]
          refine take_wanted 3 15 (v := ?v1003) rfl rfl (by kernel_rfl) (by kernel_rfl) (by kernel_rfl) (fun _ _ _ h => h) (by rfl) ?y1003 (by assumption) ?r1003
          case y1003 => intro w hSw; (try dsimp only at hSw); go_simp <;> with_reducible rfl
          try simp only [Act.put, List.setIfInBounds_toArray, List.set_cons_zero, List.set_cons_succ]
          refine take_wanted 4 16 (v := ?v1004) rfl rfl (by kernel_rfl) (by kernel_rfl) (by kernel_rfl) (fun _ _ _ h => h) (by rfl) ?y1004 (by assumption) ?r1004
          case y1004 => intro w hSw; (try dsimp only at hSw); go_simp <;> with_reducible rfl
          try simp only [Act.put, List.setIfInBounds_toArray, List.set_cons_zero, List.set_cons_succ]
          refine take_wanted 5 17 (v := ?v1005) rfl rfl (by kernel_rfl) (by kernel_rfl) (by kernel_rfl) (fun _ _ _ h => h) (by rfl) ?y1005 (by assumption) ?r1005
          case y1005 => intro w hSw; (try dsimp only at hSw); go_simp <;> with_reducible rfl
          try simp only [Act.put, List.setIfInBounds_toArray, List.set_cons_zero, List.set_cons_succ]
          refine take_wanted 6 18 (v := ?v1006) rfl rfl (by kernel_rfl) (by kernel_rfl) (by kernel_rfl) (fun _ _ _ h => h) (by rfl) ?y1006 (by assumption) ?r1006
          case y1006 => intro w hSw; (try dsimp only at hSw); go_simp <;> with_reducible rfl
          try simp only [Act.put, List.setIfInBounds_toArray, List.set_cons_zero, List.set_cons_succ]
          refine take_not 7 19 rfl rfl (by kernel_rfl) (by kernel_rfl) (by kernel_rfl) (fun _ _ _ h => h) (by rfl) (by assumption) ?_
          try simp only [Act.put, List.setIfInBounds_toArray, List.set_cons_zero, List.set_cons_succ]
          refine take_not 8 20 rfl rfl (by kernel_rfl) (by kernel_rfl) (by kernel_rfl) (fun _ _ _ h => h) (by rfl) (by assumption) ?_
          try simp only [Act.put, List.setIfInBounds_toArray, List.set_cons_zero, List.set_cons_succ]
          refine take_not 9 21 rfl rfl (by kernel_rfl) (by kernel_rfl) (by kernel_rfl) (fun _ _ _ h => h) (by rfl) (by assumption) ?_
          try simp only [Act.put, List.setIfInBounds_toArray, List.set_cons_zero, List.set_cons_succ]
          refine take_not 10 22 rfl rfl (by kernel_rfl) (by kernel_rfl) (by kernel_rfl) (fun _ _ _ h => h) (by rfl) (by assumption) ?_
          try simp only [Act.put, List.setIfInBounds_toArray, List.set_cons_zero, List.set_cons_succ]
          refine take_not 11 23 rfl rfl (by kernel_rfl) (by kernel_rfl) (by kernel_rfl) (fun _ _ _ h => h) (by rfl) (by assumption) ?_
          try simp only [Act.put, List.setIfInBounds_toArray, List.set_cons_zero, List.set_cons_succ]
          refine take_not 12 24 rfl rfl (by kernel_rfl) (by kernel_rfl) (by kernel_rfl) (fun _ _ _ h => h) (by rfl) (by assumption) ?_
          try simp only [Act.put, List.setIfInBounds_toArray, List.set_cons_zero, List.set_cons_succ]
          refine take_not 13 25 rfl rfl (by kernel_rfl) (by kernel_rfl) (by kernel_rfl) (fun _ _ _ h => h) (by rfl) (by assumption) ?_
          try simp only [Act.put, List.setIfInBounds_toArray, List.set_cons_zero, List.set_cons_succ]
          refine take_not 14 26 rfl rfl (by kernel_rfl) (by kernel_rfl) (by kernel_rfl) (fun _ _ _ h => h) (by rfl) (by assumption) ?_
          try simp only [Act.put, List.setIfInBounds_toArray, List.set_cons_zero, List.set_cons_succ]
          refine take_not 15 27 rfl rfl (by kernel_rfl) (by kernel_rfl) (by kernel_rfl) (fun _ _ _ h => h) (by rfl) (by assumption) ?_
          try simp only [Act.put, List.setIfInBounds_toArray, List.set_cons_zero, List.set_cons_succ]
          refine take_wanted 16 28 (v := ?v1016) rfl rfl (by kernel_rfl) (by kernel_rfl) (by kernel_rfl) (fun _ _ _ h => h) (by rfl) ?y1016 (by assumption) ?r1016
          case y1016 => intro w hSw; (try dsimp only at hSw); go_simp <;> with_reducible rfl
          try simp only [Act.put, List.setIfInBounds_toArray, List.set_cons_zero, List.set_cons_succ]
          refine take_wanted 17 29 (v := ?v1017) rfl rfl (by kernel_rfl) (by kernel_rfl) (by kernel_rfl) (fun _ _ _ h => h) (by rfl) ?y1017 (by assumption) ?r1017
          case y1017 => intro w hSw; (try dsimp only at hSw); go_simp <;> with_reducible rfl
          try simp only [Act.put, List.setIfInBounds_toArray, List.set_cons_zero, List.set_cons_succ]
          refine wpAnyH_done (by kernel_rfl) ?_ _
          go_wp2_with fail
          go_roundw
          case rel => exact ⟨1, by omega, by go_num, HT.out.next H.out, hB1⟩
          case measure => simp [intOf]; omega
      | succ m =>
        have hwm : IntKind.i64.wrap (m : Int) = (m : Int) := IntWalk.i64_in _ (by omega)
        have hml : (m : Int) < xs.length := by omega
        obtain ⟨y, hy⟩ : ∃ y, xs[m]? = some y := ⟨xs[m], List.getElem?_eq_getElem (by omega)⟩
        obtain ⟨va', vf', vs', vr', hcl', -⟩ := HC.out m y hy
        have e0 : wr.cell? ⟨b, o + m * 8, none⟩ = some (.string y.nm) := (hbl.cell (p := ⟨b, o + m * 8, none⟩) hb).trans (hcl' 0 _ rfl)
        have HYk := Lib.hid (show xs[m + 1 - 1]? = some y from hy); clear hy hcl'
        go_wp2_with fail
        generalize wr.alloc (.cells #[.string x.nm, .int .i64 x.n, .slice Aa ma ca, .int .i64 x.cl, .int .i64 x.lb, .slice Af mf cf, .slice As ms cs, .slice Ar mr cr] 38) = w0 at *
        obtain ⟨c0, c1, c2, c3, c4, c5, c6, c7⟩ := HB.out
        have hB0 := hbl.trans (hb0.mono hzw)
        have HR0 := Lib.hid (HR.out.up hb0)
        have e1 : w0.cell? ⟨b, o + m * 8, none⟩ = some (.string y.nm) := (hb0.cell (p := ⟨b, o + m * 8, none⟩) (show b < wr.heap.size by omega)).trans e0
        refine wp_region_held_drew (S := (fun w' => w'.cell? ⟨wr.heap.size, 0, none⟩ = some (.string x.nm) ∧ w'.cell? ⟨wr.heap.size, 1, none⟩ = some (.int .i64 x.n) ∧ w'.cell? ⟨wr.heap.size, 2, none⟩ = some (.slice Aa ma ca) ∧ w'.cell? ⟨wr.heap.size, 3, none⟩ = some (.int .i64 x.cl) ∧ w'.cell? ⟨wr.heap.size, 4, none⟩ = some (.int .i64 x.lb) ∧ w'.cell? ⟨wr.heap.size, 5, none⟩ = some (.slice Af mf cf) ∧ w'.cell? ⟨wr.heap.size, 6, none⟩ = some (.slice As ms cs) ∧ w'.cell? ⟨wr.heap.size, 7, none⟩ = some (.slice Ar mr cr) ∧ w'.cell? ⟨b, o + m * 8, none⟩ = some (.string y.nm))) (by kernel_rfl) ?_ (fun hHeld => ?_)
        · go_keep
        refine take_wanted 0 12 (v := ?v1100) rfl rfl (by kernel_rfl) (by kernel_rfl) (by kernel_rfl) (fun _ _ _ h => h) (by rfl) ?y1100 (by assumption) ?r1100
        case y1100 => intro w hSw; (try dsimp only at hSw); go_simp <;> with_reducible rfl
        try simp only [Act.put, List.setIfInBounds_toArray, List.set_cons_zero, List.set_cons_succ]
        refine take_ready 1 rfl (by kernel_rfl) (fun K hK => ?_)
        go_simp
        (go_at_call 69; refine (impl_isItem x _ _ _ _ _ (HR0.out.up (Below.refl w0.heap.size w0).drew) hz.1 hz.2).mono ?_; rintro e w1 ⟨rfl, hb1⟩; have hB1 := bl_trans hB0 (((Below.refl w0.heap.size w0).drew).trans hb1); have HX := Lib.hid (HB.out.below (((Below.refl w0.heap.size w0).drew).trans hb1) HZ.out); obtain ⟨d0, d1, d2, d3, d4, d5, d6, d7⟩ := HX.out; have e2 := hb1.cell (p := ⟨b, o + m * 8, none⟩) (show b < w0.heap.size from HZb.out); have e3 := e2.trans e1)
        refine hK.out _ _ ?_ (fun hHeld => ?_)
        · go_keep
        clear hK K
        try simp only [Act.put, List.setIfInBounds_toArray, List.set_cons_zero, List.set_cons_succ]
        cases q : itemB x with
        | false =>
          have H := Lib.hid (storeB_no hlt (show ¬ storeAt xs (m + 1) from fun h => propB_ff q (h.1 x HXk.out)))
          clear q
          refine take_wanted 2 14 (v := ?v1202) rfl rfl (by kernel_rfl) (by kernel_rfl) (by kernel_rfl) (fun _ _ _ h => h) (by rfl) ?y1202 (by assumption) ?r1202
          case y1202 => intro w hSw; (try dsimp only at hSw); go_simp <;> with_reducible rfl
          try simp only [Act.put, List.setIfInBounds_toArray, List.set_cons_zero, List.set_cons_succ]
          refine take_wanted 3 15 (v := ?v1203) rfl rfl (by kernel_rfl) (by kernel_rfl) (by kernel_rfl) (fun _ _ _ h => h) (by rfl) ?y1203 (by assumption) ?r1203
          case y1203 => intro w hSw; (try dsimp only at hSw); go_simp <;> with_reducible rfl
          try simp only [Act.put, List.setIfInBounds_toArray, List.set_cons_zero, List.set_cons_succ]
          refine take_not 4 16 rfl rfl (by kernel_rfl) (by kernel_rfl) (by kernel_rfl) (fun _ _ _ h => h) (by rfl) (by assumption) ?_
          try simp only [Act.put, List.setIfInBounds_toArray, List.set_cons_zero, List.set_cons_succ]
          refine take_not 5 17 rfl rfl (by kernel_rfl) (by kernel_rfl) (by kernel_rfl) (fun _ _ _ h => h) (by rfl) (by assumption) ?_
          try simp only [Act.put, List.setIfInBounds_toArray, List.set_cons_zero, List.set_cons_succ]
          refine take_not 6 18 rfl rfl (by kernel_rfl) (by kernel_rfl) (by kernel_rfl) (fun _ _ _ h => h) (by rfl) (by assumption) ?_
          try simp only [Act.put, List.setIfInBounds_toArray, List.set_cons_zero, List.set_cons_succ]
          refine take_not 7 19 rfl rfl (by kernel_rfl) (by kernel_rfl) (by kernel_rfl) (fun _ _ _ h => h) (by rfl) (by assumption) ?_
          try simp only [Act.put, List.setIfInBounds_toArray, List.set_cons_zero, List.set_cons_succ]
          refine take_not 8 20 rfl rfl (by kernel_rfl) (by kernel_rfl) (by kernel_rfl) (fun _ _ _ h => h) (by rfl) (by assumption) ?_
          try simp only [Act.put, List.setIfInBounds_toArray, List.set_cons_zero, List.set_cons_succ]
          refine take_not 9 21 rfl rfl (by kernel_rfl) (by kernel_rfl) (by kernel_rfl) (fun _ _ _ h => h) (by rfl) (by assumption) ?_
          try simp only [Act.put, List.setIfInBounds_toArray, List.set_cons_zero, List.set_cons_succ]
          refine take_not 10 22 rfl rfl (by kernel_rfl) (by kernel_rfl) (by kernel_rfl) (fun _ _ _ h => h) (by rfl) (by assumption) ?_
          try simp only [Act.put, List.setIfInBounds_toArray, List.set_cons_zero, List.set_cons_succ]
          refine take_not 11 23 rfl rfl (by kernel_rfl) (by kernel_rfl) (by kernel_rfl) (fun _ _ _ h => h) (by rfl) (by assumption) ?_
          try simp only [Act.put, List.setIfInBounds_toArray, List.set_cons_zero, List.set_cons_succ]
          refine take_not 12 24 rfl rfl (by kernel_rfl) (by kernel_rfl) (by kernel_rfl) (fun _ _ _ h => h) (by rfl) (by assumption) ?_
          try simp only [Act.put, List.setIfInBounds_toArray, List.set_cons_zero, List.set_cons_succ]
          refine take_not 13 25 rfl rfl (by kernel_rfl) (by kernel_rfl) (by kernel_rfl) (fun _ _ _ h => h) (by rfl) (by assumption) ?_
          try simp only [Act.put, List.setIfInBounds_toArray, List.set_cons_zero, List.set_cons_succ]
          refine take_not 14 26 rfl rfl (by kernel_rfl) (by kernel_rfl) (by kernel_rfl) (fun _ _ _ h => h) (by rfl) (by assumption) ?_
          try simp only [Act.put, List.setIfInBounds_toArray, List.set_cons_zero, List.set_cons_succ]
          refine take_not 15 27 rfl rfl (by kernel_rfl) (by kernel_rfl) (by kernel_rfl) (fun _ _ _ h => h) (by rfl) (by assumption) ?_
          try simp only [Act.put, List.setIfInBounds_toArray, List.set_cons_zero, List.set_cons_succ]
          refine take_not 16 28 rfl rfl (by kernel_rfl) (by kernel_rfl) (by kernel_rfl) (fun _ _ _ h => h) (by rfl) (by assumption) ?_
          try simp only [Act.put, List.setIfInBounds_toArray, List.set_cons_zero, List.set_cons_succ]
          refine take_wanted 17 29 (v := ?v1217) rfl rfl (by kernel_rfl) (by kernel_rfl) (by kernel_rfl) (fun _ _ _ h => h) (by rfl) ?y1217 (by assumption) ?r1217
          case y1217 => intro w hSw; (try dsimp only at hSw); go_simp <;> with_reducible rfl
          try simp only [Act.put, List.setIfInBounds_toArray, List.set_cons_zero, List.set_cons_succ]
          refine wpAnyH_done (by kernel_rfl) ?_ _
          go_wp2_with fail
          go_ret
          exact ⟨ret_bool H.out.symm, hB1⟩
        | true =>
          have HI := Lib.hid (propB_iff.1 q); clear q
          cases q2 : ltS y.nm x.nm with
          | false =>
            have H := Lib.hid (storeB_no hlt (show ¬ storeAt xs (m + 1) from fun h => by have := h.2 (by omega) x y HXk.out HYk.out; rw [q2] at this; cases this))
            have q3 : Op.bytesLess y.nm.toList x.nm.toList = false := q2
            clear q2
            refine take_wanted 2 14 (v := ?v1302) rfl rfl (by kernel_rfl) (by kernel_rfl) (by kernel_rfl) (fun _ _ _ h => h) (by rfl) ?y1302 (by assumption) ?r1302
            case y1302 => intro w hSw; (try dsimp only at hSw); go_simp <;> with_reducible rfl
            try simp only [Act.put, List.setIfInBounds_toArray, List.set_cons_zero, List.set_cons_succ]
            refine take_wanted 3 15 (v := ?v1303) rfl rfl (by kernel_rfl) (by kernel_rfl) (by kernel_rfl) (fun _ _ _ h => h) (by rfl) ?y1303 (by assumption) ?r1303
            case y1303 => intro w hSw; (try dsimp only at hSw); go_simp <;> with_reducible rfl
            try simp only [Act.put, List.setIfInBounds_toArray, List.set_cons_zero, List.set_cons_succ]
            refine take_wanted 4 16 (v := ?v1304) rfl rfl (by kernel_rfl) (by kernel_rfl) (by kernel_rfl) (fun _ _ _ h => h) (by rfl) ?y1304 (by assumption) ?r1304
            case y1304 => intro w hSw; (try dsimp only at hSw); go_simp <;> with_reducible rfl
            try simp only [Act.put, List.setIfInBounds_toArray, List.set_cons_zero, List.set_cons_succ]
            refine take_wanted 5 17 (v := ?v1305) rfl rfl (by kernel_rfl) (by kernel_rfl) (by kernel_rfl) (fun _ _ _ h => h) (by rfl) ?y1305 (by assumption) ?r1305
            case y1305 => intro w hSw; (try dsimp only at hSw); go_simp <;> with_reducible rfl
            try simp only [Act.put, List.setIfInBounds_toArray, List.set_cons_zero, List.set_cons_succ]
            refine take_wanted 6 18 (v := ?v1306) rfl rfl (by kernel_rfl) (by kernel_rfl) (by kernel_rfl) (fun _ _ _ h => h) (by rfl) ?y1306 (by assumption) ?r1306
            case y1306 => intro w hSw; (try dsimp only at hSw); go_simp <;> with_reducible rfl
            try simp only [Act.put, List.setIfInBounds_toArray, List.set_cons_zero, List.set_cons_succ]
            refine take_wanted 7 19 (v := ?v1307) rfl rfl (by kernel_rfl) (by kernel_rfl) (by kernel_rfl) (fun _ _ _ h => h) (by rfl) ?y1307 (by assumption) ?r1307
            case y1307 => intro w hSw; (try dsimp only at hSw); go_simp <;> with_reducible rfl
            try simp only [Act.put, List.setIfInBounds_toArray, List.set_cons_zero, List.set_cons_succ]
            refine take_wanted 8 20 (v := ?v1308) rfl rfl (by kernel_rfl) (by kernel_rfl) (by kernel_rfl) (fun _ _ _ h => h) (by rfl) ?y1308 (by assumption) ?r1308
            case y1308 => intro w hSw; (try dsimp only at hSw); go_simp <;> with_reducible rfl
            try simp only [Act.put, List.setIfInBounds_toArray, List.set_cons_zero, List.set_cons_succ]
            refine take_wanted 9 21 (v := ?v1309) rfl rfl (by kernel_rfl) (by kernel_rfl) (by kernel_rfl) (fun _ _ _ h => h) (by rfl) ?y1309 (by assumption) ?r1309
            case y1309 => intro w hSw; (try dsimp only at hSw); go_simp <;> with_reducible rfl
            try simp only [Act.put, List.setIfInBounds_toArray, List.set_cons_zero, List.set_cons_succ]
            refine take_wanted 10 22 (v := ?v1310) rfl rfl (by kernel_rfl) (by kernel_rfl) (by kernel_rfl) (fun _ _ _ h => h) (by rfl) ?y1310 (by assumption) ?r1310
            case y1310 => intro w hSw; (try dsimp only at hSw); go_simp <;> with_reducible rfl
            try simp only [Act.put, List.setIfInBounds_toArray, List.set_cons_zero, List.set_cons_succ]
            refine take_wanted 11 23 (v := ?v1311) rfl rfl (by kernel_rfl) (by kernel_rfl) (by kernel_rfl) (fun _ _ _ h => h) (by rfl) ?y1311 (by assumption) ?r1311
            case y1311 => intro w hSw; (try dsimp only at hSw); go_simp <;> with_reducible rfl
            try simp only [Act.put, List.setIfInBounds_toArray, List.set_cons_zero, List.set_cons_succ]
            refine take_wanted 12 24 (v := ?v1312) rfl rfl (by kernel_rfl) (by kernel_rfl) (by kernel_rfl) (fun _ _ _ h => h) (by rfl) ?y1312 (by assumption) ?r1312
            case y1312 => intro w hSw; (try dsimp only at hSw); go_simp <;> with_reducible rfl
            try simp only [Act.put, List.setIfInBounds_toArray, List.set_cons_zero, List.set_cons_succ]
            refine take_wanted 13 25 (v := ?v1313) rfl rfl (by kernel_rfl) (by kernel_rfl) (by kernel_rfl) (fun _ _ _ h => h) (by rfl) ?y1313 (by assumption) ?r1313
            case y1313 => intro w hSw; (try dsimp only at hSw); go_simp <;> with_reducible rfl
            try simp only [Act.put, List.setIfInBounds_toArray, List.set_cons_zero, List.set_cons_succ]
            refine take_wanted 14 26 (v := ?v1314) rfl rfl (by kernel_rfl) (by kernel_rfl) (by kernel_rfl) (fun _ _ _ h => h) (by rfl) ?y1314 (by assumption) ?r1314
            case y1314 => intro w hSw; (try dsimp only at hSw); go_simp <;> with_reducible rfl
            try simp only [Act.put, List.setIfInBounds_toArray, List.set_cons_zero, List.set_cons_succ]
            refine take_wanted 15 27 (v := ?v1315) rfl rfl (by kernel_rfl) (by kernel_rfl) (by kernel_rfl) (fun _ _ _ h => h) (by rfl) ?y1315 (by assumption) ?r1315
            case y1315 => intro w hSw; (try dsimp only at hSw); go_simp <;> with_reducible rfl
            try simp only [Act.put, List.setIfInBounds_toArray, List.set_cons_zero, List.set_cons_succ]
            refine take_wanted 16 28 (v := ?v1316) rfl rfl (by kernel_rfl) (by kernel_rfl) (by kernel_rfl) (fun _ _ _ h => h) (by rfl) ?y1316 (by assumption) ?r1316
            case y1316 => intro w hSw; (try dsimp only at hSw); go_simp <;> with_reducible rfl
            try simp only [Act.put, List.setIfInBounds_toArray, List.set_cons_zero, List.set_cons_succ]
            refine take_wanted 17 29 (v := ?v1317) rfl rfl (by kernel_rfl) (by kernel_rfl) (by kernel_rfl) (fun _ _ _ h => h) (by rfl) ?y1317 (by assumption) ?r1317
            case y1317 => intro w hSw; (try dsimp only at hSw); go_simp <;> with_reducible rfl
            try simp only [Act.put, List.setIfInBounds_toArray, List.set_cons_zero, List.set_cons_succ]
            refine wpAnyH_done (by kernel_rfl) ?_ _
            go_wp2_with fail
            go_ret
            exact ⟨ret_bool H.out.symm, hB1⟩
          | true =>
            have H := Lib.hid (storeAt_s HXk.out HYk.out HI.out q2)
            have q3 : Op.bytesLess y.nm.toList x.nm.toList = true := q2
            clear q2
            refine take_wanted 2 14 (v := ?v1402) rfl rfl (by kernel_rfl) (by kernel_rfl) (by kernel_rfl) (fun _ _ _ h => h) (by rfl) ?y1402 (by assumption) ?r1402
            case y1402 => intro w hSw; (try dsimp only at hSw); go_simp <;> with_reducible rfl
            try simp only [Act.put, List.setIfInBounds_toArray, List.set_cons_zero, List.set_cons_succ]
            refine take_wanted 3 15 (v := ?v1403) rfl rfl (by kernel_rfl) (by kernel_rfl) (by kernel_rfl) (fun _ _ _ h => h) (by rfl) ?y1403 (by assumption) ?r1403
            case y1403 => intro w hSw; (try dsimp only at hSw); go_simp <;> with_reducible rfl
            try simp only [Act.put, List.setIfInBounds_toArray, List.set_cons_zero, List.set_cons_succ]
            refine take_wanted 4 16 (v := ?v1404) rfl rfl (by kernel_rfl) (by kernel_rfl) (by kernel_rfl) (fun _ _ _ h => h) (by rfl) ?y1404 (by assumption) ?r1404
            case y1404 => intro w hSw; (try dsimp only at hSw); go_simp <;> with_reducible rfl
            try simp only [Act.put, List.setIfInBounds_toArray, List.set_cons_zero, List.set_cons_succ]
            refine take_wanted 5 17 (v := ?v1405) rfl rfl (by kernel_rfl) (by kernel_rfl) (by kernel_rfl) (fun _ _ _ h => h) (by rfl) ?y1405 (by assumption) ?r1405
            case y1405 => intro w hSw; (try dsimp only at hSw); go_simp <;> with_reducible rfl
            try simp only [Act.put, List.setIfInBounds_toArray, List.set_cons_zero, List.set_cons_succ]
            refine take_wanted 6 18 (v := ?v1406) rfl rfl (by kernel_rfl) (by kernel_rfl) (by kernel_rfl) (fun _ _ _ h => h) (by rfl) ?y1406 (by assumption) ?r1406
            case y1406 => intro w hSw; (try dsimp only at hSw); go_simp <;> with_reducible rfl
            try simp only [Act.put, List.setIfInBounds_toArray, List.set_cons_zero, List.set_cons_succ]
            refine take_wanted 7 19 (v := ?v1407) rfl rfl (by kernel_rfl) (by kernel_rfl) (by kernel_rfl) (fun _ _ _ h => h) (by rfl) ?y1407 (by assumption) ?r1407
            case y1407 => intro w hSw; (try dsimp only at hSw); go_simp <;> with_reducible rfl
            try simp only [Act.put, List.setIfInBounds_toArray, List.set_cons_zero, List.set_cons_succ]
            refine take_wanted 8 20 (v := ?v1408) rfl rfl (by kernel_rfl) (by kernel_rfl) (by kernel_rfl) (fun _ _ _ h => h) (by rfl) ?y1408 (by assumption) ?r1408
            case y1408 => intro w hSw; (try dsimp only at hSw); go_simp <;> with_reducible rfl
            try simp only [Act.put, List.setIfInBounds_toArray, List.set_cons_zero, List.set_cons_succ]
            refine take_wanted 9 21 (v := ?v1409) rfl rfl (by kernel_rfl) (by kernel_rfl) (by kernel_rfl) (fun _ _ _ h => h) (by rfl) ?y1409 (by assumption) ?r1409
            case y1409 => intro w hSw; (try dsimp only at hSw); go_simp <;> with_reducible rfl
            try simp only [Act.put, List.setIfInBounds_toArray, List.set_cons_zero, List.set_cons_succ]
            refine take_wanted 10 22 (v := ?v1410) rfl rfl (by kernel_rfl) (by kernel_rfl) (by kernel_rfl) (fun _ _ _ h => h) (by rfl) ?y1410 (by assumption) ?r1410
            case y1410 => intro w hSw; (try dsimp only at hSw); go_simp <;> with_reducible rfl
            try simp only [Act.put, List.setIfInBounds_toArray, List.set_cons_zero, List.set_cons_succ]
            refine take_wanted 11 23 (v := ?v1411) rfl rfl (by kernel_rfl) (by kernel_rfl) (by kernel_rfl) (fun _ _ _ h => h) (by rfl) ?y1411 (by assumption) ?r1411
            case y1411 => intro w hSw; (try dsimp only at hSw); go_simp <;> with_reducible rfl
            try simp only [Act.put, List.setIfInBounds_toArray, List.set_cons_zero, List.set_cons_succ]
            refine take_wanted 12 24 (v := ?v1412) rfl rfl (by kernel_rfl) (by kernel_rfl) (by kernel_rfl) (fun _ _ _ h => h) (by rfl) ?y1412 (by assumption) ?r1412
            case y1412 => intro w hSw; (try dsimp only at hSw); go_simp <;> with_reducible rfl
            try simp only [Act.put, List.setIfInBounds_toArray, List.set_cons_zero, List.set_cons_succ]
            refine take_wanted 13 25 (v := ?v1413) rfl rfl (by kernel_rfl) (by kernel_rfl) (by kernel_rfl) (fun _ _ _ h => h) (by rfl) ?y1413 (by assumption) ?r1413
            case y1413 => intro w hSw; (try dsimp only at hSw); go_simp <;> with_reducible rfl
            try simp only [Act.put, List.setIfInBounds_toArray, List.set_cons_zero, List.set_cons_succ]
            refine take_wanted 14 26 (v := ?v1414) rfl rfl (by kernel_rfl) (by kernel_rfl) (by kernel_rfl) (fun _ _ _ h => h) (by rfl) ?y1414 (by assumption) ?r1414
            case y1414 => intro w hSw; (try dsimp only at hSw); go_simp <;> with_reducible rfl
            try simp only [Act.put, List.setIfInBounds_toArray, List.set_cons_zero, List.set_cons_succ]
            refine take_wanted 15 27 (v := ?v1415) rfl rfl (by kernel_rfl) (by kernel_rfl) (by kernel_rfl) (fun _ _ _ h => h) (by rfl) ?y1415 (by assumption) ?r1415
            case y1415 => intro w hSw; (try dsimp only at hSw); go_simp <;> with_reducible rfl
            try simp only [Act.put, List.setIfInBounds_toArray, List.set_cons_zero, List.set_cons_succ]
            refine take_wanted 16 28 (v := ?v1416) rfl rfl (by kernel_rfl) (by kernel_rfl) (by kernel_rfl) (fun _ _ _ h => h) (by rfl) ?y1416 (by assumption) ?r1416
            case y1416 => intro w hSw; (try dsimp only at hSw); go_simp <;> with_reducible rfl
            try simp only [Act.put, List.setIfInBounds_toArray, List.set_cons_zero, List.set_cons_succ]
            refine take_wanted 17 29 (v := ?v1417) rfl rfl (by kernel_rfl) (by kernel_rfl) (by kernel_rfl) (fun _ _ _ h => h) (by rfl) ?y1417 (by assumption) ?r1417
            case y1417 => intro w hSw; (try dsimp only at hSw); go_simp <;> with_reducible rfl
            try simp only [Act.put, List.setIfInBounds_toArray, List.set_cons_zero, List.set_cons_succ]
            refine wpAnyH_done (by kernel_rfl) ?_ _
            go_wp2_with fail
            go_roundw
            case rel => exact ⟨m + 1 + 1, by omega, by go_num, HT.out.next H.out, hB1⟩
            case measure => simp [intOf]; omega
    · have H := Lib.hid (storeB_end HT.out (by omega))
      go_wp2_with fail
      go_ret
      exact ⟨ret_bool H.out.symm, hbl⟩
end Go.Proofs.YtbchhehecdoonaaGreatDoor
