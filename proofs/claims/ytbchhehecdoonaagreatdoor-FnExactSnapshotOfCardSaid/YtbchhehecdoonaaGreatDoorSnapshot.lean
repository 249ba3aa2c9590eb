/-
  Snapshots of a store: the reference's srSnapshot, SnapshotOf and the program's snapshotOf, SnapshotOf.
-/
import Derived.Test.YtbchhehecdoonaaGreatDoorRows
import Derived.Test.YtbchhehecdoonaaGreatDoorKit
import Derived.Test.YtbchhehecdoonaaGreatDoorMem
import Derived.Test.YtbchhehecdoonaaGreatDoorBasic
import Derived.Test.YtbchhehecdoonaaGreatDoorPlain
import Derived.Test.YtbchhehecdoonaaGreatDoorTexts
import Derived.Test.YtbchhehecdoonaaGreatDoorItoa
import Derived.Test.YtbchhehecdoonaaGreatDoorSum
import Derived.Test.YtbchhehecdoonaaGreatDoorShelf
import Derived.Test.YtbchhehecdoonaaGreatDoorItem
import Derived.Test.YtbchhehecdoonaaGreatDoorStore
import Derived.Test.YtbchhehecdoonaaGreatDoorEntry
import Derived.Test.YtbchhehecdoonaaGreatDoorEntryText
import Derived.Shelf.Strings.BuilderF
import Derived.Lib.Builder
import Derived.Lib.FrozenHead
import Derived.WalkKit
import Derived.WalkSpells
import Derived.WalkLawsBesides
import Derived.Lib.Hide
namespace Go.Proofs.YtbchhehecdoonaaGreatDoor
open Go.RowKit
set_option linter.unusedVariables false
set_option linter.unusedSimpArgs false

def snapHead (g : Int) (n : Nat) : List UInt8 := (([115, 116, 111, 114, 101, 32] ++ numT g) ++ [32] ++ numT (n : Int)) ++ [10]
def snapBody (g : Int) (xs : List Item) (k : Nat) : List UInt8 := snapHead g xs.length ++ ((xs.take k).map fun x => putT x ++ [10]).flatten
def snapT (g : Int) (xs : List Item) : List UInt8 := ((snapBody g xs xs.length ++ [101, 110, 100, 32]) ++ numT (sumOf (snapBody g xs xs.length))) ++ [10]
theorem snapBody_0 (g : Int) (xs : List Item) : snapBody g xs 0 = snapHead g xs.length := by simp [snapBody]
theorem snapBody_next (g : Int) (xs : List Item) (k : Nat) (x : Item) (h : xs[k]? = some x) : snapBody g xs (k + 1) = snapBody g xs k ++ (putT x ++ [10]) := by
  obtain ⟨hk, rfl⟩ := List.getElem?_eq_some_iff.1 h
  unfold snapBody
  rw [List.take_succ_eq_append_getElem hk, List.map_append, List.flatten_append, List.append_assoc]
  simp
theorem flat_len (xs : List Item) (h : ∀ x ∈ xs, (putT x).length ≤ 60000000) : ((xs.map fun x => putT x ++ [10]).flatten).length ≤ xs.length * 60000001 := by
  induction xs with
  | nil => simp
  | cons x r ih =>
    have h1 := h x (by simp)
    have h2 := ih fun y hy => h y (by simp [hy])
    simp only [List.map_cons, List.flatten_cons, List.length_append, List.length_cons, List.length_nil]
    omega
theorem snapBody_len {g : Int} {xs : List Item} (k : Nat) (h0 : 0 ≤ g) (hg : g ≤ 100000) (h8 : xs.length ≤ 8) (h : ∀ x ∈ xs, (putT x).length ≤ 60000000) : (snapBody g xs k).length ≤ 600000000 := by
  have h1 := numT_len (M := 100000) h0 (by omega)
  have h2 := numT_len (M := 8) (x := (xs.length : Int)) (by omega) (by omega)
  have h3 := flat_len (xs.take k) fun x hx => h x (List.mem_of_mem_take hx)
  have h4 : (xs.take k).length ≤ 8 := by rw [List.length_take]; omega
  unfold snapBody snapHead
  simp only [List.length_append, List.length_cons, List.length_nil]
  omega
theorem storeP.item {xs : List Item} (h : storeP xs) {k : Nat} {x : Item} (hx : xs[k]? = some x) : itemP x := (h.1 k (List.getElem?_eq_some_iff.1 hx).1).1 x hx
theorem storeP.put_len {xs : List Item} (h : storeP xs) (hok : ItemsOk xs) : ∀ x ∈ xs, (putT x).length ≤ 60000000 := by
  intro x hx
  obtain ⟨k, hk⟩ := List.mem_iff_getElem?.1 hx
  exact putT_len (h.item hk) (hok x hx).1
def SnRel (g : Int) (xs : List Item) (w : World) (o i : Value) (wr : World) : Prop := ∃ k : Nat, k ≤ xs.length ∧ i = .int .i64 k ∧ o = strV (snapBody g xs k) ∧ Below w.heap.size w wr
/-! ### The program's builder -/
theorem lays166w : Go.Proofs.Lays.n166 Tryz.prog Tryz.lays156_ren := { mixed := Tryz.lays156.mixed, f166 := Tryz.lays156.f166, f240 := Tryz.lays156.f240, f276 := Tryz.lays156.f276, t0 := Tryz.lays156.t0, a0 := Tryz.lays156.a0, z0 := Tryz.lays156.z0, v0 := Tryz.lays156.v0, t3 := Tryz.lays156.t3, a3 := Tryz.lays156.a3, z3 := Tryz.lays156.z3, v3 := Tryz.lays156.v3, t4 := Tryz.lays156.t4, a4 := Tryz.lays156.a4, z4 := Tryz.lays156.z4, v4 := Tryz.lays156.v4, t9 := Tryz.lays156.t9, a9 := Tryz.lays156.a9, z9 := Tryz.lays156.z9, v9 := Tryz.lays156.v9, t20 := Tryz.lays156.t20, a20 := Tryz.lays156.a20, z20 := Tryz.lays156.z20, v20 := Tryz.lays156.v20, t37 := Tryz.lays156.t37, a37 := Tryz.lays156.a37, z37 := Tryz.lays156.z37, v37 := Tryz.lays156.v37, t70 := Tryz.lays156.t70, a70 := Tryz.lays156.a70, z70 := Tryz.lays156.z70, v70 := Tryz.lays156.v70, t72 := Tryz.lays156.t72, a72 := Tryz.lays156.a72, z72 := Tryz.lays156.z72, v72 := Tryz.lays156.v72, t75 := Tryz.lays156.t75, a75 := Tryz.lays156.a75, z75 := Tryz.lays156.z75, v75 := Tryz.lays156.v75, t164 := Tryz.lays156.t164, a164 := Tryz.lays156.a164, z164 := Tryz.lays156.z164, v164 := Tryz.lays156.v164 }
theorem lays169w : Go.Proofs.Lays.n169 Tryz.prog Tryz.lays156_ren := { mixed := Tryz.lays156.mixed, f169 := Tryz.lays156.f169, t0 := Tryz.lays156.t0, a0 := Tryz.lays156.a0, z0 := Tryz.lays156.z0, v0 := Tryz.lays156.v0, t3 := Tryz.lays156.t3, a3 := Tryz.lays156.a3, z3 := Tryz.lays156.z3, v3 := Tryz.lays156.v3, t9 := Tryz.lays156.t9, a9 := Tryz.lays156.a9, z9 := Tryz.lays156.z9, v9 := Tryz.lays156.v9, t37 := Tryz.lays156.t37, a37 := Tryz.lays156.a37, z37 := Tryz.lays156.z37, v37 := Tryz.lays156.v37, t70 := Tryz.lays156.t70, a70 := Tryz.lays156.a70, z70 := Tryz.lays156.z70, v70 := Tryz.lays156.v70, t72 := Tryz.lays156.t72, a72 := Tryz.lays156.a72, z72 := Tryz.lays156.z72, v72 := Tryz.lays156.v72, t127 := Tryz.lays156.t127, a127 := Tryz.lays156.a127, z127 := Tryz.lays156.z127, v127 := Tryz.lays156.v127 }
abbrev Bld (B b : Nat) (l : List UInt8) (w : World) : Prop := Lib.IsBuilderF 97 5 B b (Lib.byteCells l) w
theorem Bld.upon {B b : Nat} {l : List UInt8} {w w' : World} (h : Bld B b l w) (hb : Below w.heap.size w w') : Bld B b l w' := by
  have hg : w.grownBy w' none := ⟨hb.os, hb.tape, hb.output, hb.size, fun k hk _ => hb.block k hk⟩
  have each : ∀ p, Lib.BuilderAtF 97 5 B b p (Lib.byteCells l) w → Lib.BuilderAtF 97 5 B b p (Lib.byteCells l) w' := by
    intro p h
    have hlt := h.lt
    obtain ⟨h1, v, h2, h3, h4⟩ := h
    refine ⟨h1, v, (hb.block b hlt).trans h2, h3.kept hg ?_, h4⟩
    cases hv : v.ownBlock with
    | none => exact .inl rfl
    | some k => exact .inr (by simp)
  exact h.elim (fun x => .inl (each _ x)) (fun x => .inr (each _ x))
theorem b_write (B b : Nat) (l t : List UInt8) (w : World) (h : Bld B b l w) (hlen : l.length + t.length ≤ 140737488355328) (hBw : B ≤ w.heap.size) :
    Calls Tryz.prog 77 #[.pointer (some ⟨b, 0, none⟩), strV t] w fun e w' => e = .returned (.tuple #[.int .i64 t.length, .nilIface]) ∧ Bld B b (l ++ t) w' ∧ Below B w w' := by
  have h1 : Calls Tryz.prog 77 #[.pointer (some ⟨b, 0, none⟩), .string ⟨t.toArray⟩] w fun e w' => e = .returned (.tuple #[.int .i64 (ByteArray.mk t.toArray).size, .nilIface]) ∧ (Lib.BuilderAtF 97 5 B b (.pointer (some ⟨b, 0, none⟩)) (Lib.byteCells l ++ Lib.strCells ⟨t.toArray⟩) w' ∧ Below B w w') :=
    Any.Builder_WriteString_f lays166w Tryz.Builder_Extra_156 B b (Lib.byteCells l) ⟨t.toArray⟩ w h (by rw [Lib.byteCells_length, Lib.size_eq]; exact hlen) hBw
  refine h1.mono ?_
  rintro e w' ⟨rfl, h2, h3⟩
  refine ⟨by rw [Lib.size_eq], .inr ?_, h3⟩
  have e : Lib.byteCells (l ++ t) = Lib.byteCells l ++ Lib.strCells ⟨t.toArray⟩ := by simp [Lib.byteCells, Lib.strCells]
  rw [e]
  exact h2
theorem b_string (B b : Nat) (l : List UInt8) (w : World) (h : Bld B b l w) (hBw : B ≤ w.heap.size) :
    Calls Tryz.prog 79 #[.pointer (some ⟨b, 0, none⟩)] w fun e w' => e = .returned (strV l) ∧ Bld B b l w' ∧ Below B w w' :=
  Any.Builder_String_any_f lays169w Tryz.Builder_Extra_156 B b l w h hBw
def SnbRel (g : Int) (xs : List Item) (w : World) (i : Value) (wr : World) : Prop := ∃ k : Nat, k ≤ xs.length ∧ i = .int .i64 k ∧ Bld w.heap.size w.heap.size (snapBody g xs k) wr ∧ Below w.heap.size w wr
set_option maxRecDepth 100000 in
set_option maxHeartbeats 2000000 in
theorem spec_srSnapshot (v : Value) (xs : List Item) (g : Int) (w : World) (h : ItemsR w w.heap.size v xs) (hok : ItemsOk xs) (hst : storeP xs) (hg0 : 0 ≤ g) (hg : g ≤ 100000) :
    Calls Tryz.prog 40 #[v, .int .i64 g] w fun e w' => e = .returned (strV (snapT g xs)) ∧ Below w.heap.size w w' := by
  obtain ⟨A, c, rfl, h1, h2, h3⟩ := h
  unfold maxLen at h2
  have h8 := hst.2
  have HPL := Lib.hid (hst.put_len hok)
  have HOK := Lib.hid hok; clear hok
  have HST := Lib.hid hst; clear hst
  have n1 := numT_len (M := 100000) hg0 (by omega)
  have n2 := numT_len (M := 8) (x := (xs.length : Int)) (by omega) (by omega)
  obtain ⟨G, hG⟩ : ∃ T, T = numT g := ⟨_, rfl⟩
  obtain ⟨GN, hGN⟩ : ∃ T, T = numT (xs.length : Int) := ⟨_, rfl⟩
  have JG := Lib.hid (fun (W : World) => show Calls Tryz.prog 74 #[.int .i64 g] W fun e w' => e = .returned (strV G) ∧ Below W.heap.size W w' by rw [hG]; exact spec_l1Num g W (by omega) (by omega))
  have JN := Lib.hid (fun (W : World) => show Calls Tryz.prog 74 #[.int .i64 (xs.length : Int)] W fun e w' => e = .returned (strV GN) ∧ Below W.heap.size W w' by rw [hGN]; exact spec_l1Num _ W (by omega) (by omega))
  rw [← hG] at n1
  rw [← hGN] at n2
  obtain ⟨T1, hT1⟩ : ∃ T, T = [115, 116, 111, 114, 101, 32] ++ G := ⟨_, rfl⟩
  have lT1 : T1.length ≤ 100000000 * 1 := by rw [hT1]; simp only [List.length_append, List.length_cons, List.length_nil]; omega
  have kT1 : ∀ W, (binOp .add 9 (.string ⟨#[115, 116, 111, 114, 101, 32]⟩) (strV G)).run Tryz.prog W = .ok (strV T1) W := by rw [hT1]; exact cat_cv ⟨#[115, 116, 111, 114, 101, 32]⟩ G (by have : (ByteArray.mk #[115, 116, 111, 114, 101, 32]).size = 6 := rfl; omega)
  obtain ⟨T2, hT2⟩ : ∃ T, T = T1 ++ [32] := ⟨_, rfl⟩
  have lT2 : T2.length ≤ 100000000 * 2 := by rw [hT2]; simp only [List.length_append, List.length_cons, List.length_nil]; omega
  have kT2 : ∀ W, (binOp .add 9 (strV T1) (.string ⟨#[32]⟩)).run Tryz.prog W = .ok (strV T2) W := by rw [hT2]; exact cat_vc T1 ⟨#[32]⟩ (by have : (ByteArray.mk #[32]).size = 1 := rfl; omega)
  obtain ⟨T3, hT3⟩ : ∃ T, T = T2 ++ GN := ⟨_, rfl⟩
  have lT3 : T3.length ≤ 100000000 * 3 := by rw [hT3]; simp only [List.length_append, List.length_cons, List.length_nil]; omega
  have kT3 : ∀ W, (binOp .add 9 (strV T2) (strV GN)).run Tryz.prog W = .ok (strV T3) W := by rw [hT3]; exact cat_vv T2 GN (by omega)
  obtain ⟨T4, hT4⟩ : ∃ T, T = T3 ++ [10] := ⟨_, rfl⟩
  have lT4 : T4.length ≤ 100000000 * 4 := by rw [hT4]; simp only [List.length_append, List.length_cons, List.length_nil]; omega
  have kT4 : ∀ W, (binOp .add 9 (strV T3) (.string ⟨#[10]⟩)).run Tryz.prog W = .ok (strV T4) W := by rw [hT4]; exact cat_vc T3 ⟨#[10]⟩ (by have : (ByteArray.mk #[10]).size = 1 := rfl; omega)
  have HT4 := Lib.hid (show T4 = snapBody g xs 0 by rw [hT4, hT3, hT2, hT1, snapBody_0, hG, hGN]; rfl)
  clear hT1 hT2 hT3 hT4 hG hGN
  go_enter Tryz.func40, Tryz.ntmps40
  go_wp2_with fail
  refine (JG.out _).mono ?_
  rintro e w1 ⟨rfl, hb1⟩
  go_wp2_with fail
  refine (JN.out _).mono ?_
  rintro e w2 ⟨rfl, hb2⟩
  have hB2 := bl_trans hb1 hb2
  go_wp2_with fail
  go_loopw [5, 19] (fun o i wr => SnRel g xs w o i wr) (fun _ i _ => xs.length - (intOf i).toNat)
  case atStart => exact ⟨0, Nat.zero_le _, rfl, by rw [HT4.out], hB2⟩
  case round =>
    obtain ⟨k, hk, rfl, rfl, hbl⟩ := hrel
    by_cases hlt : k < xs.length
    · obtain ⟨x, hx⟩ : ∃ x, xs[k]? = some x := ⟨xs[k], List.getElem?_eq_getElem hlt⟩
      have hz := HOK.out x (List.mem_of_getElem? hx)
      have HI := Lib.hid (HST.out.item hx)
      have hpl := putT_len HI.out hz.1
      obtain ⟨b, o, rfl, hb, hc⟩ := h3 (by omega)
      obtain ⟨va, vf, vs, vr, hcl, hr⟩ := hc k x hx
      obtain ⟨Aa, ma, ca, rfl⟩ := hr.a.isSlice'
      obtain ⟨Af, mf, cf, rfl⟩ := hr.f.isSlice
      obtain ⟨As, ms, cs, rfl⟩ := hr.s.isSlice
      obtain ⟨Ar, mr, cr, rfl⟩ := hr.r.isSlice'
      have q0 := (hbl.cell (p := ⟨b, o + k * 8, none⟩) hb).trans (hcl 0 _ rfl)
      have q1 := (hbl.cell (p := ⟨b, o + k * 8 + 1, none⟩) hb).trans (hcl 1 _ rfl)
      have q2 := (hbl.cell (p := ⟨b, o + k * 8 + 2, none⟩) hb).trans (hcl 2 _ rfl)
      have q3 := (hbl.cell (p := ⟨b, o + k * 8 + 3, none⟩) hb).trans (hcl 3 _ rfl)
      have q4 := (hbl.cell (p := ⟨b, o + k * 8 + 4, none⟩) hb).trans (hcl 4 _ rfl)
      have q5 := (hbl.cell (p := ⟨b, o + k * 8 + 5, none⟩) hb).trans (hcl 5 _ rfl)
      have q6 := (hbl.cell (p := ⟨b, o + k * 8 + 6, none⟩) hb).trans (hcl 6 _ rfl)
      have q7 := (hbl.cell (p := ⟨b, o + k * 8 + 7, none⟩) hb).trans (hcl 7 _ rfl)
      obtain ⟨P, hP⟩ : ∃ P, P = putT x := ⟨_, rfl⟩
      have JT := Lib.hid (fun (W : World) (h : Below w.heap.size w W) => show Calls Tryz.prog 33 #[.agg #[.int .i64 1, .string ⟨#[]⟩, .string ⟨#[]⟩, .string x.nm, .int .i64 x.n, .slice Aa ma ca, .int .i64 x.cl, .int .i64 x.lb, .slice Af mf cf, .slice As ms cs, .slice Ar mr cr]] W fun e w' => e = .returned (strV P) ∧ Below W.heap.size W w' by
        rw [hP]
        exact spec_srText ⟨1, ⟨#[]⟩, ⟨#[]⟩, x⟩ _ _ _ _ W ((hr.below h).more h.size) (by unfold szEntry; show 0 + 0 + szItem x ≤ 1048576; have := hz.1; omega) (.inl ⟨rfl, rfl, rfl, HI.out⟩))
      have HN := Lib.hid (show snapBody g xs (k + 1) = snapBody g xs k ++ (P ++ [10]) by rw [hP]; exact snapBody_next g xs k x hx)
      have hcl1 := snapBody_len (xs := xs) (g := g) k hg0 hg h8 HPL.out
      rw [← hP] at hpl
      clear hcl hr hc h3 hx hP
      generalize snapBody g xs k = cur at *
      obtain ⟨Q1, hQ1⟩ : ∃ T, T = P ++ [10] := ⟨_, rfl⟩
      have lQ1 : Q1.length ≤ 1000000000 * 1 := by rw [hQ1]; simp only [List.length_append, List.length_cons, List.length_nil]; omega
      have kQ1 : ∀ W, (binOp .add 9 (strV P) (.string ⟨#[10]⟩)).run Tryz.prog W = .ok (strV Q1) W := by rw [hQ1]; exact cat_vc P ⟨#[10]⟩ (by have : (ByteArray.mk #[10]).size = 1 := rfl; omega)
      obtain ⟨Z, hZ⟩ : ∃ T, T = cur ++ Q1 := ⟨_, rfl⟩
      have kZ : ∀ W, (binOp .add 9 (strV cur) (strV Q1)).run Tryz.prog W = .ok (strV Z) W := by rw [hZ]; exact cat_vv cur Q1 (by omega)
      have HZ := Lib.hid (show snapBody g xs (k + 1) = Z by rw [hZ, hQ1, HN.out])
      clear hQ1 hZ HN
      have hb0 := bl_alloc (Below.refl wr.heap.size wr) (.cells #[.string x.nm, .int .i64 x.n, .slice Aa ma ca, .int .i64 x.cl, .int .i64 x.lb, .slice Af mf cf, .slice As ms cs, .slice Ar mr cr] 38)
      have hB0 := hbl.trans (hb0.mono hbl.size)
      go_wp2_with fail
      refine (JT.out _ hB0).mono ?_
      rintro e w3 ⟨rfl, hb3⟩
      have hB3 := bl_trans hB0 hb3
      go_wp2_with fail
      go_roundw
      case rel => exact ⟨k + 1, by omega, by go_num, by rw [HZ.out], hB3⟩
      case measure => simp [intOf]; omega
    · obtain rfl : k = xs.length := by omega
      have hcl1 := snapBody_len (xs := xs) (g := g) xs.length hg0 hg h8 HPL.out
      have HR := Lib.hid (show snapT g xs = ((snapBody g xs xs.length ++ [101, 110, 100, 32]) ++ numT (sumOf (snapBody g xs xs.length))) ++ [10] from rfl)
      generalize snapBody g xs xs.length = cur at *
      have hsm := sumOf_bd cur
      obtain ⟨Sm, hSm⟩ : ∃ T, T = sumOf cur := ⟨_, rfl⟩
      rw [← hSm] at hsm
      obtain ⟨Dg, hDg⟩ : ∃ T, T = numT Sm := ⟨_, rfl⟩
      have n3 := numT_len (M := 100000) (x := Sm) hsm.1 (by omega)
      rw [← hDg] at n3
      have JS := Lib.hid (fun (W : World) => show Calls Tryz.prog 75 #[strV cur] W fun e w' => e = .returned (.int .i64 Sm) ∧ W = w' by rw [hSm]; exact spec_sum ⟨cur.toArray⟩ W (by rw [Lib.size_eq]; show cur.length ≤ _; omega))
      have JD := Lib.hid (fun (W : World) => show Calls Tryz.prog 74 #[.int .i64 Sm] W fun e w' => e = .returned (strV Dg) ∧ Below W.heap.size W w' by rw [hDg]; exact spec_l1Num Sm W (by omega) (by omega))
      rw [← hSm, ← hDg] at HR
      clear hSm hDg
      obtain ⟨E1, hE1⟩ : ∃ T, T = cur ++ [101, 110, 100, 32] := ⟨_, rfl⟩
      have lE1 : E1.length ≤ 1000000000 * 1 := by rw [hE1]; simp only [List.length_append, List.length_cons, List.length_nil]; omega
      have kE1 : ∀ W, (binOp .add 9 (strV cur) (.string ⟨#[101, 110, 100, 32]⟩)).run Tryz.prog W = .ok (strV E1) W := by rw [hE1]; exact cat_vc cur ⟨#[101, 110, 100, 32]⟩ (by have : (ByteArray.mk #[101, 110, 100, 32]).size = 4 := rfl; omega)
      obtain ⟨E2, hE2⟩ : ∃ T, T = E1 ++ Dg := ⟨_, rfl⟩
      have lE2 : E2.length ≤ 1000000000 * 2 := by rw [hE2]; simp only [List.length_append, List.length_cons, List.length_nil]; omega
      have kE2 : ∀ W, (binOp .add 9 (strV E1) (strV Dg)).run Tryz.prog W = .ok (strV E2) W := by rw [hE2]; exact cat_vv E1 Dg (by omega)
      obtain ⟨E3, hE3⟩ : ∃ T, T = E2 ++ [10] := ⟨_, rfl⟩
      have lE3 : E3.length ≤ 1000000000 * 3 := by rw [hE3]; simp only [List.length_append, List.length_cons, List.length_nil]; omega
      have kE3 : ∀ W, (binOp .add 9 (strV E2) (.string ⟨#[10]⟩)).run Tryz.prog W = .ok (strV E3) W := by rw [hE3]; exact cat_vc E2 ⟨#[10]⟩ (by have : (ByteArray.mk #[10]).size = 1 := rfl; omega)
      have HF := Lib.hid (show E3 = snapT g xs by rw [hE3, hE2, hE1, HR.out])
      clear hE1 hE2 hE3
      go_wp2_with fail
      refine (JS.out _).mono ?_
      rintro e w3 ⟨rfl, hw3⟩
      subst hw3
      go_wp2_with fail
      refine (JD.out _).mono ?_
      rintro e w4 ⟨rfl, hb4⟩
      go_wp2_with fail
      go_ret
      rw [← HF.out]
      exact ⟨rfl, bl_trans hbl hb4⟩
set_option maxRecDepth 100000 in
set_option maxHeartbeats 2000000 in
theorem impl_snapshotOf (v : Value) (xs : List Item) (g : Int) (w : World) (h : ItemsR w w.heap.size v xs) (hok : ItemsOk xs) (hst : storeP xs) (hg0 : 0 ≤ g) (hg : g ≤ 100000) (hp : Pow10 w) :
    Calls Tryz.prog 43 #[v, .int .i64 g] w fun e w' => e = .returned (strV (snapT g xs)) ∧ Below w.heap.size w w' := by
  obtain ⟨A, c, rfl, h1, h2, h3⟩ := h
  unfold maxLen at h2
  have h8 := hst.2
  have HPL := Lib.hid (hst.put_len hok)
  have HOK := Lib.hid hok; clear hok
  have HST := Lib.hid hst; clear hst
  have HPw := Lib.hid hp; clear hp
  have n1 := numT_len (M := 100000) hg0 (by omega)
  have n2 := numT_len (M := 8) (x := (xs.length : Int)) (by omega) (by omega)
  obtain ⟨G, hG⟩ : ∃ T, T = numT g := ⟨_, rfl⟩
  obtain ⟨GN, hGN⟩ : ∃ T, T = numT (xs.length : Int) := ⟨_, rfl⟩
  have JG := Lib.hid (fun (W : World) (h : Below w.heap.size w W) => show Calls Tryz.prog 78 #[.int .i64 g] W fun e w' => e = .returned (strV G) ∧ Below W.heap.size W w' by rw [hG]; exact impl_Itoa g W (by omega) (by omega) (HPw.out.below h))
  have JN := Lib.hid (fun (W : World) (h : Below w.heap.size w W) => show Calls Tryz.prog 78 #[.int .i64 (xs.length : Int)] W fun e w' => e = .returned (strV GN) ∧ Below W.heap.size W w' by rw [hGN]; exact impl_Itoa _ W (by omega) (by omega) (HPw.out.below h))
  rw [← hG] at n1
  rw [← hGN] at n2
  obtain ⟨T1, hT1⟩ : ∃ T, T = [115, 116, 111, 114, 101, 32] ++ G := ⟨_, rfl⟩
  have lT1 : T1.length ≤ 100000000 * 1 := by rw [hT1]; simp only [List.length_append, List.length_cons, List.length_nil]; omega
  have kT1 : ∀ W, (binOp .add 9 (.string ⟨#[115, 116, 111, 114, 101, 32]⟩) (strV G)).run Tryz.prog W = .ok (strV T1) W := by rw [hT1]; exact cat_cv ⟨#[115, 116, 111, 114, 101, 32]⟩ G (by have : (ByteArray.mk #[115, 116, 111, 114, 101, 32]).size = 6 := rfl; omega)
  obtain ⟨T2, hT2⟩ : ∃ T, T = T1 ++ [32] := ⟨_, rfl⟩
  have lT2 : T2.length ≤ 100000000 * 2 := by rw [hT2]; simp only [List.length_append, List.length_cons, List.length_nil]; omega
  have kT2 : ∀ W, (binOp .add 9 (strV T1) (.string ⟨#[32]⟩)).run Tryz.prog W = .ok (strV T2) W := by rw [hT2]; exact cat_vc T1 ⟨#[32]⟩ (by have : (ByteArray.mk #[32]).size = 1 := rfl; omega)
  obtain ⟨T3, hT3⟩ : ∃ T, T = T2 ++ GN := ⟨_, rfl⟩
  have lT3 : T3.length ≤ 100000000 * 3 := by rw [hT3]; simp only [List.length_append, List.length_cons, List.length_nil]; omega
  have kT3 : ∀ W, (binOp .add 9 (strV T2) (strV GN)).run Tryz.prog W = .ok (strV T3) W := by rw [hT3]; exact cat_vv T2 GN (by omega)
  obtain ⟨T4, hT4⟩ : ∃ T, T = T3 ++ [10] := ⟨_, rfl⟩
  have lT4 : T4.length ≤ 100000000 * 4 := by rw [hT4]; simp only [List.length_append, List.length_cons, List.length_nil]; omega
  have kT4 : ∀ W, (binOp .add 9 (strV T3) (.string ⟨#[10]⟩)).run Tryz.prog W = .ok (strV T4) W := by rw [hT4]; exact cat_vc T3 ⟨#[10]⟩ (by have : (ByteArray.mk #[10]).size = 1 := rfl; omega)
  have HT4 := Lib.hid (show T4 = snapBody g xs 0 by rw [hT4, hT3, hT2, hT1, snapBody_0, hG, hGN]; rfl)
  clear hT1 hT2 hT3 hT4 hG hGN
  have hb00 := bl_alloc (Below.refl w.heap.size w) (.cells #[.pointer none, .slice none 0 0] 97)
  have HBD := Lib.hid (show Bld w.heap.size w.heap.size [] (w.alloc (.cells #[.pointer none, .slice none 0 0] 97)) from Lib.IsBuilderF.of (Lib.fresh_isBuilder _ _ w))
  go_enter Tryz.func43, Tryz.ntmps43
  go_wp2_with fail
  generalize w.alloc (.cells #[.pointer none, .slice none 0 0] 97) = w0 at *
  refine (JG.out _ hb00).mono ?_
  rintro e w1 ⟨rfl, hb1⟩
  have hB1 := bl_trans hb00 hb1
  go_wp2_with fail
  refine (JN.out _ hB1).mono ?_
  rintro e w2 ⟨rfl, hb2⟩
  have hB2 := bl_trans hB1 hb2
  have HBD2 := Lib.hid ((HBD.out.upon hb1).upon hb2)
  go_wp2_with fail
  refine (b_write _ _ [] T4 w2 HBD2.out (by simp only [List.length_nil]; omega) hB2.size).mono ?_
  rintro e w3 ⟨rfl, hbd3, hb3⟩
  have hB3 := hB2.trans hb3
  have HBD3 := Lib.hid (show Bld w.heap.size w.heap.size (snapBody g xs 0) w3 by rw [← HT4.out]; exact hbd3)
  clear hbd3
  go_wp2_with fail
  go_loopw [20] (fun i wr => SnbRel g xs w i wr) (fun i _ => xs.length - (intOf i).toNat)
  case atStart => exact ⟨0, Nat.zero_le _, rfl, HBD3.out, hB3⟩
  case round =>
    obtain ⟨k, hk, rfl, hbd, hbl⟩ := hrel
    have HBD4 := Lib.hid hbd; clear hbd
    by_cases hlt : k < xs.length
    · obtain ⟨x, hx⟩ : ∃ x, xs[k]? = some x := ⟨xs[k], List.getElem?_eq_getElem hlt⟩
      have hz := HOK.out x (List.mem_of_getElem? hx)
      have HI := Lib.hid (HST.out.item hx)
      have hpl := putT_len HI.out hz.1
      obtain ⟨b, o, rfl, hb, hc⟩ := h3 (by omega)
      obtain ⟨va, vf, vs, vr, hcl, hr⟩ := hc k x hx
      obtain ⟨Aa, ma, ca, rfl⟩ := hr.a.isSlice'
      obtain ⟨Af, mf, cf, rfl⟩ := hr.f.isSlice
      obtain ⟨As, ms, cs, rfl⟩ := hr.s.isSlice
      obtain ⟨Ar, mr, cr, rfl⟩ := hr.r.isSlice'
      have q0 := (hbl.cell (p := ⟨b, o + k * 8, none⟩) hb).trans (hcl 0 _ rfl)
      have q1 := (hbl.cell (p := ⟨b, o + k * 8 + 1, none⟩) hb).trans (hcl 1 _ rfl)
      have q2 := (hbl.cell (p := ⟨b, o + k * 8 + 2, none⟩) hb).trans (hcl 2 _ rfl)
      have q3 := (hbl.cell (p := ⟨b, o + k * 8 + 3, none⟩) hb).trans (hcl 3 _ rfl)
      have q4 := (hbl.cell (p := ⟨b, o + k * 8 + 4, none⟩) hb).trans (hcl 4 _ rfl)
      have q5 := (hbl.cell (p := ⟨b, o + k * 8 + 5, none⟩) hb).trans (hcl 5 _ rfl)
      have q6 := (hbl.cell (p := ⟨b, o + k * 8 + 6, none⟩) hb).trans (hcl 6 _ rfl)
      have q7 := (hbl.cell (p := ⟨b, o + k * 8 + 7, none⟩) hb).trans (hcl 7 _ rfl)
      obtain ⟨P, hP⟩ : ∃ P, P = putT x := ⟨_, rfl⟩
      have JT := Lib.hid (fun (W : World) (h : Below w.heap.size w W) => show Calls Tryz.prog 36 #[.agg #[.int .i64 1, .string ⟨#[]⟩, .string ⟨#[]⟩, .string x.nm, .int .i64 x.n, .slice Aa ma ca, .int .i64 x.cl, .int .i64 x.lb, .slice Af mf cf, .slice As ms cs, .slice Ar mr cr]] W fun e w' => e = .returned (strV P) ∧ Below W.heap.size W w' by
        rw [hP]
        exact impl_labEntryText ⟨1, ⟨#[]⟩, ⟨#[]⟩, x⟩ _ _ _ _ W ((hr.below h).more h.size) (by unfold szEntry; show 0 + 0 + szItem x ≤ 1048576; have := hz.1; omega) (.inl ⟨rfl, rfl, rfl, HI.out⟩) (HPw.out.below h))
      have HN := Lib.hid (show snapBody g xs (k + 1) = snapBody g xs k ++ (P ++ [10]) by rw [hP]; exact snapBody_next g xs k x hx)
      have hcl1 := snapBody_len (xs := xs) (g := g) k hg0 hg h8 HPL.out
      rw [← hP] at hpl
      clear hcl hr hc h3 hx hP
      generalize snapBody g xs k = cur at *
      obtain ⟨Q1, hQ1⟩ : ∃ T, T = P ++ [10] := ⟨_, rfl⟩
      have lQ1 : Q1.length ≤ 1000000000 * 1 := by rw [hQ1]; simp only [List.length_append, List.length_cons, List.length_nil]; omega
      have kQ1 : ∀ W, (binOp .add 9 (strV P) (.string ⟨#[10]⟩)).run Tryz.prog W = .ok (strV Q1) W := by rw [hQ1]; exact cat_vc P ⟨#[10]⟩ (by have : (ByteArray.mk #[10]).size = 1 := rfl; omega)
      have HZ := Lib.hid (show snapBody g xs (k + 1) = cur ++ Q1 by rw [hQ1, HN.out])
      clear hQ1 HN
      have hb0 := bl_alloc (Below.refl wr.heap.size wr) (.cells #[.string x.nm, .int .i64 x.n, .slice Aa ma ca, .int .i64 x.cl, .int .i64 x.lb, .slice Af mf cf, .slice As ms cs, .slice Ar mr cr] 38)
      have hB0 := hbl.trans (hb0.mono hbl.size)
      have HBD5 := Lib.hid (HBD4.out.upon hb0)
      go_wp2_with fail
      generalize wr.alloc (.cells #[.string x.nm, .int .i64 x.n, .slice Aa ma ca, .int .i64 x.cl, .int .i64 x.lb, .slice Af mf cf, .slice As ms cs, .slice Ar mr cr] 38) = w4 at *
      refine (JT.out w4 hB0).mono ?_
      rintro e w5 ⟨rfl, hb5⟩
      have hB5 := bl_trans hB0 hb5
      have HBD6 := Lib.hid (HBD5.out.upon hb5)
      go_wp2_with fail
      refine (b_write _ _ cur Q1 w5 HBD6.out (by omega) hB5.size).mono ?_
      rintro e w6 ⟨rfl, hbd6, hb6⟩
      have hB6 := hB5.trans hb6
      have HBD7 := Lib.hid (show Bld w.heap.size w.heap.size (snapBody g xs (k + 1)) w6 by rw [HZ.out]; exact hbd6)
      clear hbd6
      go_wp2_with fail
      go_roundw
      case rel => exact ⟨k + 1, by omega, by go_num, HBD7.out, hB6⟩
      case measure => simp [intOf]; omega
    · obtain rfl : k = xs.length := by omega
      have hcl1 := snapBody_len (xs := xs) (g := g) xs.length hg0 hg h8 HPL.out
      have HR := Lib.hid (show snapT g xs = ((snapBody g xs xs.length ++ [101, 110, 100, 32]) ++ numT (sumOf (snapBody g xs xs.length))) ++ [10] from rfl)
      generalize snapBody g xs xs.length = cur at *
      have hsm := sumOf_bd cur
      obtain ⟨Sm, hSm⟩ : ∃ T, T = sumOf cur := ⟨_, rfl⟩
      rw [← hSm] at hsm
      obtain ⟨Dg, hDg⟩ : ∃ T, T = numT Sm := ⟨_, rfl⟩
      have n3 := numT_len (M := 100000) (x := Sm) hsm.1 (by omega)
      rw [← hDg] at n3
      have JS := Lib.hid (fun (W : World) => show Calls Tryz.prog 80 #[strV cur] W fun e w' => e = .returned (.int .i64 Sm) ∧ Below W.heap.size W w' by rw [hSm]; exact impl_sum ⟨cur.toArray⟩ W (by rw [Lib.size_eq]; show cur.length ≤ _; omega))
      have JD := Lib.hid (fun (W : World) (h : Below w.heap.size w W) => show Calls Tryz.prog 78 #[.int .i64 Sm] W fun e w' => e = .returned (strV Dg) ∧ Below W.heap.size W w' by rw [hDg]; exact impl_Itoa Sm W (by omega) (by omega) (HPw.out.below h))
      rw [← hSm, ← hDg] at HR
      clear hSm hDg
      obtain ⟨E1, hE1⟩ : ∃ T, T = cur ++ [101, 110, 100, 32] := ⟨_, rfl⟩
      have lE1 : E1.length ≤ 1000000000 * 1 := by rw [hE1]; simp only [List.length_append, List.length_cons, List.length_nil]; omega
      have kE1 : ∀ W, (binOp .add 9 (strV cur) (.string ⟨#[101, 110, 100, 32]⟩)).run Tryz.prog W = .ok (strV E1) W := by rw [hE1]; exact cat_vc cur ⟨#[101, 110, 100, 32]⟩ (by have : (ByteArray.mk #[101, 110, 100, 32]).size = 4 := rfl; omega)
      obtain ⟨E2, hE2⟩ : ∃ T, T = E1 ++ Dg := ⟨_, rfl⟩
      have lE2 : E2.length ≤ 1000000000 * 2 := by rw [hE2]; simp only [List.length_append, List.length_cons, List.length_nil]; omega
      have kE2 : ∀ W, (binOp .add 9 (strV E1) (strV Dg)).run Tryz.prog W = .ok (strV E2) W := by rw [hE2]; exact cat_vv E1 Dg (by omega)
      obtain ⟨E3, hE3⟩ : ∃ T, T = E2 ++ [10] := ⟨_, rfl⟩
      have lE3 : E3.length ≤ 1000000000 * 3 := by rw [hE3]; simp only [List.length_append, List.length_cons, List.length_nil]; omega
      have kE3 : ∀ W, (binOp .add 9 (strV E2) (.string ⟨#[10]⟩)).run Tryz.prog W = .ok (strV E3) W := by rw [hE3]; exact cat_vc E2 ⟨#[10]⟩ (by have : (ByteArray.mk #[10]).size = 1 := rfl; omega)
      have HF := Lib.hid (show E3 = snapT g xs by rw [hE3, hE2, hE1, HR.out])
      clear hE1 hE2 hE3
      go_wp2_with fail
      refine (b_string _ _ cur wr HBD4.out hbl.size).mono ?_
      rintro e w4 ⟨rfl, hbd4, hb4⟩
      have hB4 := hbl.trans hb4
      have HBD5 := Lib.hid hbd4; clear hbd4
      go_wp2_with fail
      refine (b_string _ _ cur w4 HBD5.out hB4.size).mono ?_
      rintro e w5 ⟨rfl, hbd5, hb5⟩
      have hB5 := hB4.trans hb5
      clear hbd5
      go_wp2_with fail
      refine (JS.out _).mono ?_
      rintro e w6 ⟨rfl, hb6⟩
      have hB6 := bl_trans hB5 hb6
      go_wp2_with fail
      refine (JD.out _ hB6).mono ?_
      rintro e w7 ⟨rfl, hb7⟩
      go_wp2_with fail
      go_ret
      rw [← HF.out]
      exact ⟨rfl, bl_trans hB6 hb7⟩
noncomputable def sOk (xs : List Item) (g : Int) : Bool := storeB xs && inB g 0 100000
noncomputable def sTx (xs : List Item) (g : Int) : List UInt8 := if sOk xs g = true then snapT g xs else []
theorem impl_isGeneration (g : Int) (w : World) : Calls Tryz.prog 42 #[.int .i64 g] w fun e w' => e = .returned (.bool (inB g 0 100000)) ∧ w = w' := by
  go_enter Tryz.func42, Tryz.ntmps42
  go_wp2_with (go_at_call 76; refine (impl_within _ _ _ _).mono ?_; rintro e w' ⟨rfl, rfl⟩)
  go_ret
  exact ⟨rfl, rfl⟩
theorem spec_SnapshotOf (v : Value) (xs : List Item) (g : Int) (w : World) (h : ItemsR w w.heap.size v xs) (hok : ItemsOk xs) :
    Calls Tryz.prog 13 #[v, .int .i64 g] w fun e w' => e = .returned (.tuple #[strV (sTx xs g), .bool (sOk xs g)]) ∧ Below w.heap.size w w' := by
  have HH := Lib.hid h; clear h
  have HOK := Lib.hid hok; clear hok
  have HTX := Lib.hid (show sTx xs g = if sOk xs g = true then snapT g xs else [] from rfl)
  have HS := Lib.hid (show sOk xs g = (storeB xs && inB g 0 100000) from rfl)
  go_enter Tryz.func13, Tryz.ntmps13
  go_wp2_with fail
  refine (spec_srStore v xs w HH.out HOK.out).mono ?_
  rintro e w1 ⟨rfl, hb1⟩
  cases q1 : storeB xs with
  | false =>
    have H1 := Lib.hid (show sOk xs g = false by rw [HS.out, q1]; rfl)
    have H2 := Lib.hid (show sTx xs g = [] by rw [HTX.out, H1.out]; rfl)
    go_wp2_with fail
    go_ret2
    exact ⟨by rw [H2.out, H1.out]; rfl, hb1⟩
  | true =>
    have HQ := Lib.hid (propB_iff.1 q1)
    cases q2 : inB g 0 100000 with
    | false =>
      have H1 := Lib.hid (show sOk xs g = false by rw [HS.out, q1, q2]; rfl)
      have H2 := Lib.hid (show sTx xs g = [] by rw [HTX.out, H1.out]; rfl)
      clear q1
      go_wp2_with ((go_at_call 39; refine (spec_l1In _ _ _ _).mono ?_; rintro e w' ⟨rfl, rfl⟩); rw [q2])
      go_ret2
      exact ⟨by rw [H2.out, H1.out]; rfl, hb1⟩
    | true =>
      have H1 := Lib.hid (show sOk xs g = true by rw [HS.out, q1, q2]; rfl)
      have H2 := Lib.hid (show sTx xs g = snapT g xs by rw [HTX.out, H1.out]; rfl)
      have hgg : 0 ≤ g ∧ g ≤ 100000 := by unfold inB at q2; simpa using q2
      clear q1
      go_wp2_with ((go_at_call 39; refine (spec_l1In _ _ _ _).mono ?_; rintro e w' ⟨rfl, rfl⟩); rw [q2])
      refine (spec_srSnapshot v xs g w1 (HH.out.up hb1) HOK.out HQ.out hgg.1 hgg.2).mono ?_
      rintro e w2 ⟨rfl, hb2⟩
      go_wp2_with fail
      go_ret2
      exact ⟨by rw [H2.out, H1.out]; rfl, bl_trans hb1 hb2⟩
theorem impl_SnapshotOf (v : Value) (xs : List Item) (g : Int) (w : World) (h : ItemsR w w.heap.size v xs) (hok : ItemsOk xs) (hp : Pow10 w) :
    Calls Tryz.prog 15 #[v, .int .i64 g] w fun e w' => e = .returned (.tuple #[strV (sTx xs g), .bool (sOk xs g)]) ∧ Below w.heap.size w w' := by
  have HH := Lib.hid h; clear h
  have HPw := Lib.hid hp; clear hp
  have HOK := Lib.hid hok; clear hok
  have HTX := Lib.hid (show sTx xs g = if sOk xs g = true then snapT g xs else [] from rfl)
  have HS := Lib.hid (show sOk xs g = (storeB xs && inB g 0 100000) from rfl)
  go_enter Tryz.func15, Tryz.ntmps15
  go_wp2_with fail
  refine (impl_IsStore v xs w HH.out HOK.out).mono ?_
  rintro e w1 ⟨rfl, hb1⟩
  cases q1 : storeB xs with
  | false =>
    have H1 := Lib.hid (show sOk xs g = false by rw [HS.out, q1]; rfl)
    have H2 := Lib.hid (show sTx xs g = [] by rw [HTX.out, H1.out]; rfl)
    go_wp2_with fail
    go_ret2
    exact ⟨by rw [H2.out, H1.out]; rfl, hb1⟩
  | true =>
    have HQ := Lib.hid (propB_iff.1 q1)
    cases q2 : inB g 0 100000 with
    | false =>
      have H1 := Lib.hid (show sOk xs g = false by rw [HS.out, q1, q2]; rfl)
      have H2 := Lib.hid (show sTx xs g = [] by rw [HTX.out, H1.out]; rfl)
      clear q1
      go_wp2_with ((go_at_call 42; refine (impl_isGeneration _ _).mono ?_; rintro e w' ⟨rfl, rfl⟩); rw [q2])
      go_ret2
      exact ⟨by rw [H2.out, H1.out]; rfl, hb1⟩
    | true =>
      have H1 := Lib.hid (show sOk xs g = true by rw [HS.out, q1, q2]; rfl)
      have H2 := Lib.hid (show sTx xs g = snapT g xs by rw [HTX.out, H1.out]; rfl)
      have hgg : 0 ≤ g ∧ g ≤ 100000 := by unfold inB at q2; simpa using q2
      clear q1
      go_wp2_with ((go_at_call 42; refine (impl_isGeneration _ _).mono ?_; rintro e w' ⟨rfl, rfl⟩); rw [q2])
      refine (impl_snapshotOf v xs g w1 (HH.out.up hb1) HOK.out HQ.out hgg.1 hgg.2 (HPw.out.below hb1)).mono ?_
      rintro e w2 ⟨rfl, hb2⟩
      go_wp2_with fail
      go_ret2
      exact ⟨by rw [H2.out, H1.out]; rfl, bl_trans hb1 hb2⟩
end Go.Proofs.YtbchhehecdoonaaGreatDoor
