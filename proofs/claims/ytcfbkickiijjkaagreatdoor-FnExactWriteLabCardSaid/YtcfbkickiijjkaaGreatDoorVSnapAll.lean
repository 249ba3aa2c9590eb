/-
  The check sum of a string: what the program's CheckSumOf and the reference's srSum return is one plain function, for every string of at most 1000000000000 bytes.
  Snapshots of a store: the reference's srSnapshot, SnapshotOf and the program's snapshotOf, SnapshotOf.
  The plain law of ReadSnapshot: the lines of a snapshot's text are its head, the texts of its items, and its end. No program's function is called here.
  The reference's srReadSnapshot and ReadSnapshot: a string is read as the snapshot that it is, if it is one.
  The program's endedLines: the lines of a text that ends with a line's end.
  The reference's and the program's ReadSnapshot: a string is read as the snapshot that it is, if it is one.
-/
import Derived.Lib.Builder
import Derived.Lib.FrozenHead
import Derived.Test.YtcfbkickiijjkaaGreatDoorVEntryAll
import Derived.Shelf.Vars
namespace Go.Proofs.YtcfbkickiijjkaaGreatDoor
section
open Go.ChangeShapes Go.WideShapes Go.ChangeAt Go.RowKit
set_option linter.all false
def sumStep (k : Int) (b : UInt8) : Int := (163 * k + (b.toNat : Int) + 1) % 99991
def sumOf (l : List UInt8) : Int := l.foldl sumStep 5
theorem sumStep_bd (k : Int) (b : UInt8) : 0 ≤ sumStep k b ∧ sumStep k b < 99991 := by unfold sumStep; omega
theorem sumOf_bd (l : List UInt8) : 0 ≤ sumOf l ∧ sumOf l < 99991 := by
  unfold sumOf
  have h : ∀ (l : List UInt8) (k : Int), 0 ≤ k → k < 99991 → 0 ≤ l.foldl sumStep k ∧ l.foldl sumStep k < 99991 := by
    intro l
    induction l with
    | nil => intro k a b; exact ⟨a, b⟩
    | cons x l ih => intro k _ _; exact ih _ (sumStep_bd k x).1 (sumStep_bd k x).2
  exact h l 5 (by omega) (by omega)
theorem sumOf_snoc (l : List UInt8) (b : UInt8) : sumOf (l ++ [b]) = sumStep (sumOf l) b := by simp [sumOf]
theorem take_snoc (s : ByteArray) (k : Nat) (h : k < s.size) : s.data.toList.take (k + 1) = s.data.toList.take k ++ [s[k]] := by
  rw [List.take_succ_eq_append_getElem (by simpa using h)]; rfl
set_option maxRecDepth 100000 in
theorem spec_sum (s : ByteArray) (w : World) (hs : s.size ≤ 1000000000000) :
    Calls Tryz.prog 60 #[.string s] w fun e w' => e = .returned (.int .i64 (sumOf s.data.toList)) ∧ w = w' := by
  go_enter Tryz.func60, Tryz.ntmps60
  go_wp2
  go_loop [3, 4] (fun n i => ∃ k : Nat, k ≤ s.size ∧ i = .int .i64 k ∧ n = .int .i64 (sumOf (s.data.toList.take k))) (fun _ i => s.size - (intOf i).toNat)
  case atStart => exact ⟨0, Nat.zero_le _, rfl, rfl⟩
  case round =>
    obtain ⟨k, hk, rfl, rfl⟩ := hrel
    have hd := sumOf_bd (s.data.toList.take k)
    by_cases hlt : k < s.size
    · have HS := Lib.hid (show sumOf (s.data.toList.take (k+1)) = sumStep (sumOf (s.data.toList.take k)) s[k] by rw [take_snoc s k hlt, sumOf_snoc])
      generalize sumOf (s.data.toList.take k) = q at *
      have hb : (s[k].toNat : Int) < 256 := by have := s[k].toNat_lt; omega
      go_wp2
      go_round
      case rel => exact ⟨k + 1, by omega, by go_num, by rw [HS.out]; unfold sumStep; go_num⟩
      case measure => simp [intOf]; omega
    · go_wp2
      go_ret
      exact ⟨ret_int (by rw [List.take_of_length_le (by simp; omega)]), rfl⟩
set_option maxRecDepth 100000 in
theorem impl_sum (s : ByteArray) (w : World) (hs : s.size ≤ 1000000000000) :
  Calls Tryz.prog 70 #[.string s] w fun e w' => e = .returned (.int .i64 (sumOf s.data.toList)) ∧ Below w.heap.size w w' := by
 have hconv := Lib.run_convert_string_bytes (P := Tryz.prog) w 9 90 5 s Tryz.underlying9 Tryz.underlying90 Tryz.underlying5
 have hcells := Lib.hid (Lib.bytesWorld_cell w 5 s)
 have hbelow : Below w.heap.size w (Lib.bytesWorld w 5 s) := ⟨rfl, rfl, rfl, by rw [Lib.bytesWorld_size]; omega, fun k hk => Lib.bytesWorld_at_old w 5 s k hk⟩
 generalize Lib.bytesWorld w 5 s = w1 at *
 generalize grownCap w s.size 0 5 = cap at *
 go_enter Tryz.func70, Tryz.ntmps70
 go_wp2
 go_loop [3, 9] (fun n i => ∃ k : Nat, k ≤ s.size ∧ i = .int .i64 k ∧ n = .int .i64 (sumOf (s.data.toList.take k))) (fun _ i => s.size - (intOf i).toNat)
 case atStart => exact ⟨0, Nat.zero_le _, rfl, rfl⟩
 case round =>
  obtain ⟨k, hk, rfl, rfl⟩ := hrel
  have hd := sumOf_bd (s.data.toList.take k)
  by_cases hlt : k < s.size
  ·
   have HS := Lib.hid (show sumOf (s.data.toList.take (k+1)) = sumStep (sumOf (s.data.toList.take k)) s[k] by rw [take_snoc s k hlt, sumOf_snoc])
   have hcell : w1.cell? ⟨w.heap.size, k, none⟩ = some (.int .u8 (s[k].toNat : Int)) := by
    rw [hcells.out k hlt]; congr 3; simp [List.getD, hlt]; rfl
   generalize sumOf (s.data.toList.take k) = q at *
   have hb : (s[k].toNat : Int) < 256 := by have := s[k].toNat_lt; omega
   generalize s[k] = sk at *
   go_wp2
   go_round
   case rel => exact ⟨k + 1, by omega, by go_num, by rw [HS.out]; unfold sumStep; go_num⟩
   case measure => simp [intOf]; omega
  ·
   go_wp2
   go_ret
   exact ⟨ret_int (by rw [List.take_of_length_le (by simp; omega)]), hbelow⟩
end
section
open Go.RowKit
set_option linter.all false
def snapHead (g : Int) (n : Nat) : List UInt8 := (([115, 116, 111, 114, 101, 32] ++ numT g) ++ [32] ++ numT (n : Int)) ++ [10]
def snapBody (g : Int) (xs : List Item) (k : Nat) : List UInt8 := snapHead g xs.length ++ ((xs.take k).map fun x => putT x ++ [10]).flatten
def snapT (g : Int) (xs : List Item) : List UInt8 := ((snapBody g xs xs.length ++ [101, 110, 100, 32]) ++ numT (sumOf (snapBody g xs xs.length))) ++ [10]
theorem snapBody_0 (g : Int) (xs : List Item) : snapBody g xs 0 = snapHead g xs.length := by simp [snapBody]
theorem snapBody_next (g : Int) (xs : List Item) (k : Nat) (x : Item) (h : xs[k]? = some x) : snapBody g xs (k + 1) = snapBody g xs k ++ (putT x ++ [10]) := by
  obtain ⟨hk, rfl⟩ := List.getElem?_eq_some_iff.1 h
  unfold snapBody
  rw [List.take_succ_eq_append_getElem hk, List.map_append, List.flatten_append, List.append_assoc]
  simp
theorem flat_len (xs : List Item) (h : ∀ x ∈ xs, (putT x).length ≤ 60000000) : ((xs.map fun x => putT x ++ [10]).flatten).length ≤ xs.length * 60000001 := by
  induction xs with
  | nil => simp
  | cons x r ih =>
    have h1 := h x (by simp)
    have h2 := ih fun y hy => h y (by simp [hy])
    simp only [List.map_cons, List.flatten_cons, List.length_append, List.length_cons, List.length_nil]
    omega
theorem snapBody_len {g : Int} {xs : List Item} (k : Nat) (h0 : 0 ≤ g) (hg : g ≤ 100000) (h8 : xs.length ≤ 8) (h : ∀ x ∈ xs, (putT x).length ≤ 60000000) : (snapBody g xs k).length ≤ 600000000 := by
  have h1 := numT_len (M := 100000) h0 (by omega)
  have h2 := numT_len (M := 8) (x := (xs.length : Int)) (by omega) (by omega)
  have h3 := flat_len (xs.take k) fun x hx => h x (List.mem_of_mem_take hx)
  have h4 : (xs.take k).length ≤ 8 := by rw [List.length_take]; omega
  unfold snapBody snapHead
  simp only [List.length_append, List.length_cons, List.length_nil]
  omega
theorem storeP.item {xs : List Item} (h : storeP xs) {k : Nat} {x : Item} (hx : xs[k]? = some x) : itemP x := (h.1 k (List.getElem?_eq_some_iff.1 hx).1).1 x hx
theorem storeP.put_len {xs : List Item} (h : storeP xs) (hok : ItemsOk xs) : ∀ x ∈ xs, (putT x).length ≤ 60000000 := by
  intro x hx
  obtain ⟨k, hk⟩ := List.mem_iff_getElem?.1 hx
  exact putT_len (h.item hk) (hok x hx).1
def SnRel (g : Int) (xs : List Item) (w : World) (o i : Value) (wr : World) : Prop := ∃ k : Nat, k ≤ xs.length ∧ i = .int .i64 k ∧ o = strV (snapBody g xs k) ∧ Below w.heap.size w wr
/-! ### The program's builder -/
theorem lays166w : Go.Proofs.Lays.n166 Tryz.prog Tryz.lays156_ren := { mixed := Tryz.lays156.mixed, f166 := Tryz.lays156.f166, f240 := Tryz.lays156.f240, f276 := Tryz.lays156.f276, t0 := Tryz.lays156.t0, a0 := Tryz.lays156.a0, z0 := Tryz.lays156.z0, v0 := Tryz.lays156.v0, t3 := Tryz.lays156.t3, a3 := Tryz.lays156.a3, z3 := Tryz.lays156.z3, v3 := Tryz.lays156.v3, t4 := Tryz.lays156.t4, a4 := Tryz.lays156.a4, z4 := Tryz.lays156.z4, v4 := Tryz.lays156.v4, t9 := Tryz.lays156.t9, a9 := Tryz.lays156.a9, z9 := Tryz.lays156.z9, v9 := Tryz.lays156.v9, t20 := Tryz.lays156.t20, a20 := Tryz.lays156.a20, z20 := Tryz.lays156.z20, v20 := Tryz.lays156.v20, t37 := Tryz.lays156.t37, a37 := Tryz.lays156.a37, z37 := Tryz.lays156.z37, v37 := Tryz.lays156.v37, t70 := Tryz.lays156.t70, a70 := Tryz.lays156.a70, z70 := Tryz.lays156.z70, v70 := Tryz.lays156.v70, t72 := Tryz.lays156.t72, a72 := Tryz.lays156.a72, z72 := Tryz.lays156.z72, v72 := Tryz.lays156.v72, t75 := Tryz.lays156.t75, a75 := Tryz.lays156.a75, z75 := Tryz.lays156.z75, v75 := Tryz.lays156.v75, t164 := Tryz.lays156.t164, a164 := Tryz.lays156.a164, z164 := Tryz.lays156.z164, v164 := Tryz.lays156.v164 }
theorem lays169w : Go.Proofs.Lays.n169 Tryz.prog Tryz.lays156_ren := { mixed := Tryz.lays156.mixed, f169 := Tryz.lays156.f169, t0 := Tryz.lays156.t0, a0 := Tryz.lays156.a0, z0 := Tryz.lays156.z0, v0 := Tryz.lays156.v0, t3 := Tryz.lays156.t3, a3 := Tryz.lays156.a3, z3 := Tryz.lays156.z3, v3 := Tryz.lays156.v3, t9 := Tryz.lays156.t9, a9 := Tryz.lays156.a9, z9 := Tryz.lays156.z9, v9 := Tryz.lays156.v9, t37 := Tryz.lays156.t37, a37 := Tryz.lays156.a37, z37 := Tryz.lays156.z37, v37 := Tryz.lays156.v37, t70 := Tryz.lays156.t70, a70 := Tryz.lays156.a70, z70 := Tryz.lays156.z70, v70 := Tryz.lays156.v70, t72 := Tryz.lays156.t72, a72 := Tryz.lays156.a72, z72 := Tryz.lays156.z72, v72 := Tryz.lays156.v72, t127 := Tryz.lays156.t127, a127 := Tryz.lays156.a127, z127 := Tryz.lays156.z127, v127 := Tryz.lays156.v127 }
abbrev Bld (B b : Nat) (l : List UInt8) (w : World) : Prop := Lib.IsBuilderF 108 5 B b (Lib.byteCells l) w
theorem Bld.upon {B b : Nat} {l : List UInt8} {w w' : World} (h : Bld B b l w) (hb : Below w.heap.size w w') : Bld B b l w' := by
  have hg : w.grownBy w' none := ⟨hb.os, hb.tape, hb.output, hb.size, fun k hk _ => hb.block k hk⟩
  have each : ∀ p, Lib.BuilderAtF 108 5 B b p (Lib.byteCells l) w → Lib.BuilderAtF 108 5 B b p (Lib.byteCells l) w' := by
    intro p h
    have hlt := h.lt
    obtain ⟨h1, v, h2, h3, h4⟩ := h
    refine ⟨h1, v, (hb.block b hlt).trans h2, h3.kept hg ?_, h4⟩
    cases hv : v.ownBlock with
    | none => exact .inl rfl
    | some k => exact .inr (by simp)
  exact h.elim (fun x => .inl (each _ x)) (fun x => .inr (each _ x))
theorem b_write (B b : Nat) (l t : List UInt8) (w : World) (h : Bld B b l w) (hlen : l.length + t.length ≤ 140737488355328) (hBw : B ≤ w.heap.size) :
    Calls Tryz.prog 71 #[.pointer (some ⟨b, 0, none⟩), strV t] w fun e w' => e = .returned (.tuple #[.int .i64 t.length, .nilIface]) ∧ Bld B b (l ++ t) w' ∧ Below B w w' := by
  have h1 : Calls Tryz.prog 71 #[.pointer (some ⟨b, 0, none⟩), .string ⟨t.toArray⟩] w fun e w' => e = .returned (.tuple #[.int .i64 (ByteArray.mk t.toArray).size, .nilIface]) ∧ (Lib.BuilderAtF 108 5 B b (.pointer (some ⟨b, 0, none⟩)) (Lib.byteCells l ++ Lib.strCells ⟨t.toArray⟩) w' ∧ Below B w w') :=
    Any.Builder_WriteString_f lays166w Tryz.Builder_Extra_156 B b (Lib.byteCells l) ⟨t.toArray⟩ w h (by rw [Lib.byteCells_length, Lib.size_eq]; exact hlen) hBw
  refine h1.mono ?_
  rintro e w' ⟨rfl, h2, h3⟩
  refine ⟨by rw [Lib.size_eq], .inr ?_, h3⟩
  have e : Lib.byteCells (l ++ t) = Lib.byteCells l ++ Lib.strCells ⟨t.toArray⟩ := by simp [Lib.byteCells, Lib.strCells]
  rw [e]
  exact h2
theorem b_string (B b : Nat) (l : List UInt8) (w : World) (h : Bld B b l w) (hBw : B ≤ w.heap.size) :
    Calls Tryz.prog 72 #[.pointer (some ⟨b, 0, none⟩)] w fun e w' => e = .returned (strV l) ∧ Bld B b l w' ∧ Below B w w' :=
  Any.Builder_String_any_f lays169w Tryz.Builder_Extra_156 B b l w h hBw
def SnbRel (g : Int) (xs : List Item) (w : World) (i : Value) (wr : World) : Prop := ∃ k : Nat, k ≤ xs.length ∧ i = .int .i64 k ∧ Bld w.heap.size w.heap.size (snapBody g xs k) wr ∧ Below w.heap.size w wr
set_option maxRecDepth 100000 in
set_option maxHeartbeats 2000000 in
theorem spec_srSnapshot (v : Value) (xs : List Item) (g : Int) (w : World) (h : ItemsR w w.heap.size v xs) (hok : ItemsOk xs) (hst : storeP xs) (hg0 : 0 ≤ g) (hg : g ≤ 100000) :
  Calls Tryz.prog 42 #[v, .int .i64 g] w fun e w' => e = .returned (strV (snapT g xs)) ∧ Below w.heap.size w w' := by
 obtain ⟨A, c, rfl, h1, h2, h3⟩ := h
 unfold maxLen at h2
 have h8 := hst.2
 have HPL := Lib.hid (hst.put_len hok)
 have HOK := Lib.hid hok; clear hok
 have HST := Lib.hid hst; clear hst
 have n1 := numT_len (M := 100000) hg0 (by omega)
 have n2 := numT_len (M := 8) (x := (xs.length : Int)) (by omega) (by omega)
 obtain ⟨G, hG⟩ : ∃ T, T = numT g := ⟨_, rfl⟩
 obtain ⟨GN, hGN⟩ : ∃ T, T = numT (xs.length : Int) := ⟨_, rfl⟩
 have JG := Lib.hid (fun (W : World) => show Calls Tryz.prog 58 #[.int .i64 g] W fun e w' => e = .returned (strV G) ∧ Below W.heap.size W w' by rw [hG]; exact spec_l1Num g W (by omega) (by omega))
 have JN := Lib.hid (fun (W : World) => show Calls Tryz.prog 58 #[.int .i64 (xs.length : Int)] W fun e w' => e = .returned (strV GN) ∧ Below W.heap.size W w' by rw [hGN]; exact spec_l1Num _ W (by omega) (by omega))
 rw [← hG] at n1
 rw [← hGN] at n2
 obtain ⟨T1, hT1⟩ : ∃ T, T = [115, 116, 111, 114, 101, 32] ++ G := ⟨_, rfl⟩
 have lT1 : T1.length ≤ 100000000 * 1 := by rw [hT1]; simp only [List.length_append, List.length_cons, List.length_nil]; omega
 have kT1 : ∀ W, (binOp .add 9 (.string ⟨#[115, 116, 111, 114, 101, 32]⟩) (strV G)).run Tryz.prog W = .ok (strV T1) W := by rw [hT1]; exact cat_cv ⟨#[115, 116, 111, 114, 101, 32]⟩ G (by have : (ByteArray.mk #[115, 116, 111, 114, 101, 32]).size = 6 := rfl; omega)
 obtain ⟨T2, hT2⟩ : ∃ T, T = T1 ++ [32] := ⟨_, rfl⟩
 have lT2 : T2.length ≤ 100000000 * 2 := by rw [hT2]; simp only [List.length_append, List.length_cons, List.length_nil]; omega
 have kT2 : ∀ W, (binOp .add 9 (strV T1) (.string ⟨#[32]⟩)).run Tryz.prog W = .ok (strV T2) W := by rw [hT2]; exact cat_vc T1 ⟨#[32]⟩ (by have : (ByteArray.mk #[32]).size = 1 := rfl; omega)
 obtain ⟨T3, hT3⟩ : ∃ T, T = T2 ++ GN := ⟨_, rfl⟩
 have lT3 : T3.length ≤ 100000000 * 3 := by rw [hT3]; simp only [List.length_append, List.length_cons, List.length_nil]; omega
 have kT3 : ∀ W, (binOp .add 9 (strV T2) (strV GN)).run Tryz.prog W = .ok (strV T3) W := by rw [hT3]; exact cat_vv T2 GN (by omega)
 obtain ⟨T4, hT4⟩ : ∃ T, T = T3 ++ [10] := ⟨_, rfl⟩
 have lT4 : T4.length ≤ 100000000 * 4 := by rw [hT4]; simp only [List.length_append, List.length_cons, List.length_nil]; omega
 have kT4 : ∀ W, (binOp .add 9 (strV T3) (.string ⟨#[10]⟩)).run Tryz.prog W = .ok (strV T4) W := by rw [hT4]; exact cat_vc T3 ⟨#[10]⟩ (by have : (ByteArray.mk #[10]).size = 1 := rfl; omega)
 have HT4 := Lib.hid (show T4 = snapBody g xs 0 by rw [hT4, hT3, hT2, hT1, snapBody_0, hG, hGN]; rfl)
 clear hT1 hT2 hT3 hT4 hG hGN
 go_enter Tryz.func42, Tryz.ntmps42
 go_wp2_with fail
 refine (JG.out _).mono ?_
 rintro e w1 ⟨rfl, hb1⟩
 go_wp2_with fail
 refine (JN.out _).mono ?_
 rintro e w2 ⟨rfl, hb2⟩
 have hB2 := bl_trans hb1 hb2
 go_wp2_with fail
 go_loopw [5, 19] (fun o i wr => SnRel g xs w o i wr) (fun _ i _ => xs.length - (intOf i).toNat)
 case atStart => exact ⟨0, Nat.zero_le _, rfl, by rw [HT4.out], hB2⟩
 case round =>
  obtain ⟨k, hk, rfl, rfl, hbl⟩ := hrel
  by_cases hlt : k < xs.length
  ·
   obtain ⟨x, hx⟩ : ∃ x, xs[k]? = some x := ⟨xs[k], List.getElem?_eq_getElem hlt⟩
   have hz := HOK.out x (List.mem_of_getElem? hx)
   have HI := Lib.hid (HST.out.item hx)
   have hpl := putT_len HI.out hz.1
   obtain ⟨b, o, rfl, hb, hc⟩ := h3 (by omega)
   obtain ⟨va, vf, vs, vr, hcl, hr⟩ := hc k x hx
   obtain ⟨Aa, ma, ca, rfl⟩ := hr.a.isSlice'
   obtain ⟨Af, mf, cf, rfl⟩ := hr.f.isSlice
   obtain ⟨As, ms, cs, rfl⟩ := hr.s.isSlice
   obtain ⟨Ar, mr, cr, rfl⟩ := hr.r.isSlice'
   have q0 := (hbl.cell (p := ⟨b, o + k * 8, none⟩) hb).trans (hcl 0 _ rfl)
   have q1 := (hbl.cell (p := ⟨b, o + k * 8 + 1, none⟩) hb).trans (hcl 1 _ rfl)
   have q2 := (hbl.cell (p := ⟨b, o + k * 8 + 2, none⟩) hb).trans (hcl 2 _ rfl)
   have q3 := (hbl.cell (p := ⟨b, o + k * 8 + 3, none⟩) hb).trans (hcl 3 _ rfl)
   have q4 := (hbl.cell (p := ⟨b, o + k * 8 + 4, none⟩) hb).trans (hcl 4 _ rfl)
   have q5 := (hbl.cell (p := ⟨b, o + k * 8 + 5, none⟩) hb).trans (hcl 5 _ rfl)
   have q6 := (hbl.cell (p := ⟨b, o + k * 8 + 6, none⟩) hb).trans (hcl 6 _ rfl)
   have q7 := (hbl.cell (p := ⟨b, o + k * 8 + 7, none⟩) hb).trans (hcl 7 _ rfl)
   obtain ⟨P, hP⟩ : ∃ P, P = putT x := ⟨_, rfl⟩
   have JT := Lib.hid (fun (W : World) (h : Below w.heap.size w W) => show Calls Tryz.prog 59 #[.agg #[.int .i64 1, .string ⟨#[]⟩, .string ⟨#[]⟩, .string x.nm, .int .i64 x.n, .slice Aa ma ca, .int .i64 x.cl, .int .i64 x.lb, .slice Af mf cf, .slice As ms cs, .slice Ar mr cr]] W fun e w' => e = .returned (strV P) ∧ Below W.heap.size W w' by
    rw [hP]
    exact spec_srText ⟨1, ⟨#[]⟩, ⟨#[]⟩, x⟩ _ _ _ _ W ((hr.below h).more h.size) (by unfold szEntry; show 0 + 0 + szItem x ≤ 1048576; have := hz.1; omega) (.inl ⟨rfl, rfl, rfl, HI.out⟩))
   have HN := Lib.hid (show snapBody g xs (k + 1) = snapBody g xs k ++ (P ++ [10]) by rw [hP]; exact snapBody_next g xs k x hx)
   have hcl1 := snapBody_len (xs := xs) (g := g) k hg0 hg h8 HPL.out
   rw [← hP] at hpl
   clear hcl hr hc h3 hx hP
   generalize snapBody g xs k = cur at *
   obtain ⟨Q1, hQ1⟩ : ∃ T, T = P ++ [10] := ⟨_, rfl⟩
   have lQ1 : Q1.length ≤ 1000000000 * 1 := by rw [hQ1]; simp only [List.length_append, List.length_cons, List.length_nil]; omega
   have kQ1 : ∀ W, (binOp .add 9 (strV P) (.string ⟨#[10]⟩)).run Tryz.prog W = .ok (strV Q1) W := by rw [hQ1]; exact cat_vc P ⟨#[10]⟩ (by have : (ByteArray.mk #[10]).size = 1 := rfl; omega)
   obtain ⟨Z, hZ⟩ : ∃ T, T = cur ++ Q1 := ⟨_, rfl⟩
   have kZ : ∀ W, (binOp .add 9 (strV cur) (strV Q1)).run Tryz.prog W = .ok (strV Z) W := by rw [hZ]; exact cat_vv cur Q1 (by omega)
   have HZ := Lib.hid (show snapBody g xs (k + 1) = Z by rw [hZ, hQ1, HN.out])
   clear hQ1 hZ HN
   have hb0 := bl_alloc (Below.refl wr.heap.size wr) (.cells #[.string x.nm, .int .i64 x.n, .slice Aa ma ca, .int .i64 x.cl, .int .i64 x.lb, .slice Af mf cf, .slice As ms cs, .slice Ar mr cr] 53)
   have hB0 := hbl.trans (hb0.mono hbl.size)
   go_wp2_with fail
   refine (JT.out _ hB0).mono ?_
   rintro e w3 ⟨rfl, hb3⟩
   have hB3 := bl_trans hB0 hb3
   go_wp2_with fail
   go_roundw
   case rel => exact ⟨k + 1, by omega, by go_num, by rw [HZ.out], hB3⟩
   case measure => simp [intOf]; omega
  ·
   obtain rfl : k = xs.length := by omega
   have hcl1 := snapBody_len (xs := xs) (g := g) xs.length hg0 hg h8 HPL.out
   have HR := Lib.hid (show snapT g xs = ((snapBody g xs xs.length ++ [101, 110, 100, 32]) ++ numT (sumOf (snapBody g xs xs.length))) ++ [10] from rfl)
   generalize snapBody g xs xs.length = cur at *
   have hsm := sumOf_bd cur
   obtain ⟨Sm, hSm⟩ : ∃ T, T = sumOf cur := ⟨_, rfl⟩
   rw [← hSm] at hsm
   obtain ⟨Dg, hDg⟩ : ∃ T, T = numT Sm := ⟨_, rfl⟩
   have n3 := numT_len (M := 100000) (x := Sm) hsm.1 (by omega)
   rw [← hDg] at n3
   have JS := Lib.hid (fun (W : World) => show Calls Tryz.prog 60 #[strV cur] W fun e w' => e = .returned (.int .i64 Sm) ∧ W = w' by rw [hSm]; exact spec_sum ⟨cur.toArray⟩ W (by rw [Lib.size_eq]; show cur.length ≤ _; omega))
   have JD := Lib.hid (fun (W : World) => show Calls Tryz.prog 58 #[.int .i64 Sm] W fun e w' => e = .returned (strV Dg) ∧ Below W.heap.size W w' by rw [hDg]; exact spec_l1Num Sm W (by omega) (by omega))
   rw [← hSm, ← hDg] at HR
   clear hSm hDg
   obtain ⟨E1, hE1⟩ : ∃ T, T = cur ++ [101, 110, 100, 32] := ⟨_, rfl⟩
   have lE1 : E1.length ≤ 1000000000 * 1 := by rw [hE1]; simp only [List.length_append, List.length_cons, List.length_nil]; omega
   have kE1 : ∀ W, (binOp .add 9 (strV cur) (.string ⟨#[101, 110, 100, 32]⟩)).run Tryz.prog W = .ok (strV E1) W := by rw [hE1]; exact cat_vc cur ⟨#[101, 110, 100, 32]⟩ (by have : (ByteArray.mk #[101, 110, 100, 32]).size = 4 := rfl; omega)
   obtain ⟨E2, hE2⟩ : ∃ T, T = E1 ++ Dg := ⟨_, rfl⟩
   have lE2 : E2.length ≤ 1000000000 * 2 := by rw [hE2]; simp only [List.length_append, List.length_cons, List.length_nil]; omega
   have kE2 : ∀ W, (binOp .add 9 (strV E1) (strV Dg)).run Tryz.prog W = .ok (strV E2) W := by rw [hE2]; exact cat_vv E1 Dg (by omega)
   obtain ⟨E3, hE3⟩ : ∃ T, T = E2 ++ [10] := ⟨_, rfl⟩
   have lE3 : E3.length ≤ 1000000000 * 3 := by rw [hE3]; simp only [List.length_append, List.length_cons, List.length_nil]; omega
   have kE3 : ∀ W, (binOp .add 9 (strV E2) (.string ⟨#[10]⟩)).run Tryz.prog W = .ok (strV E3) W := by rw [hE3]; exact cat_vc E2 ⟨#[10]⟩ (by have : (ByteArray.mk #[10]).size = 1 := rfl; omega)
   have HF := Lib.hid (show E3 = snapT g xs by rw [hE3, hE2, hE1, HR.out])
   clear hE1 hE2 hE3
   go_wp2_with fail
   refine (JS.out _).mono ?_
   rintro e w3 ⟨rfl, hw3⟩
   subst hw3
   go_wp2_with fail
   refine (JD.out _).mono ?_
   rintro e w4 ⟨rfl, hb4⟩
   go_wp2_with fail
   go_ret
   rw [← HF.out]
   exact ⟨rfl, bl_trans hbl hb4⟩
set_option maxRecDepth 100000 in
set_option maxHeartbeats 2000000 in
theorem impl_snapshotOf (v : Value) (xs : List Item) (g : Int) (w : World) (h : ItemsR w w.heap.size v xs) (hok : ItemsOk xs) (hst : storeP xs) (hg0 : 0 ≤ g) (hg : g ≤ 100000) (hp : Pow10 w) :
  Calls Tryz.prog 43 #[v, .int .i64 g] w fun e w' => e = .returned (strV (snapT g xs)) ∧ Below w.heap.size w w' := by
 obtain ⟨A, c, rfl, h1, h2, h3⟩ := h
 unfold maxLen at h2
 have h8 := hst.2
 have HPL := Lib.hid (hst.put_len hok)
 have HOK := Lib.hid hok; clear hok
 have HST := Lib.hid hst; clear hst
 have HPw := Lib.hid hp; clear hp
 have n1 := numT_len (M := 100000) hg0 (by omega)
 have n2 := numT_len (M := 8) (x := (xs.length : Int)) (by omega) (by omega)
 obtain ⟨G, hG⟩ : ∃ T, T = numT g := ⟨_, rfl⟩
 obtain ⟨GN, hGN⟩ : ∃ T, T = numT (xs.length : Int) := ⟨_, rfl⟩
 have JG := Lib.hid (fun (W : World) (h : Below w.heap.size w W) => show Calls Tryz.prog 68 #[.int .i64 g] W fun e w' => e = .returned (strV G) ∧ Below W.heap.size W w' by rw [hG]; exact impl_Itoa g W (by omega) (by omega) (HPw.out.below h))
 have JN := Lib.hid (fun (W : World) (h : Below w.heap.size w W) => show Calls Tryz.prog 68 #[.int .i64 (xs.length : Int)] W fun e w' => e = .returned (strV GN) ∧ Below W.heap.size W w' by rw [hGN]; exact impl_Itoa _ W (by omega) (by omega) (HPw.out.below h))
 rw [← hG] at n1
 rw [← hGN] at n2
 obtain ⟨T1, hT1⟩ : ∃ T, T = [115, 116, 111, 114, 101, 32] ++ G := ⟨_, rfl⟩
 have lT1 : T1.length ≤ 100000000 * 1 := by rw [hT1]; simp only [List.length_append, List.length_cons, List.length_nil]; omega
 have kT1 : ∀ W, (binOp .add 9 (.string ⟨#[115, 116, 111, 114, 101, 32]⟩) (strV G)).run Tryz.prog W = .ok (strV T1) W := by rw [hT1]; exact cat_cv ⟨#[115, 116, 111, 114, 101, 32]⟩ G (by have : (ByteArray.mk #[115, 116, 111, 114, 101, 32]).size = 6 := rfl; omega)
 obtain ⟨T2, hT2⟩ : ∃ T, T = T1 ++ [32] := ⟨_, rfl⟩
 have lT2 : T2.length ≤ 100000000 * 2 := by rw [hT2]; simp only [List.length_append, List.length_cons, List.length_nil]; omega
 have kT2 : ∀ W, (binOp .add 9 (strV T1) (.string ⟨#[32]⟩)).run Tryz.prog W = .ok (strV T2) W := by rw [hT2]; exact cat_vc T1 ⟨#[32]⟩ (by have : (ByteArray.mk #[32]).size = 1 := rfl; omega)
 obtain ⟨T3, hT3⟩ : ∃ T, T = T2 ++ GN := ⟨_, rfl⟩
 have lT3 : T3.length ≤ 100000000 * 3 := by rw [hT3]; simp only [List.length_append, List.length_cons, List.length_nil]; omega
 have kT3 : ∀ W, (binOp .add 9 (strV T2) (strV GN)).run Tryz.prog W = .ok (strV T3) W := by rw [hT3]; exact cat_vv T2 GN (by omega)
 obtain ⟨T4, hT4⟩ : ∃ T, T = T3 ++ [10] := ⟨_, rfl⟩
 have lT4 : T4.length ≤ 100000000 * 4 := by rw [hT4]; simp only [List.length_append, List.length_cons, List.length_nil]; omega
 have kT4 : ∀ W, (binOp .add 9 (strV T3) (.string ⟨#[10]⟩)).run Tryz.prog W = .ok (strV T4) W := by rw [hT4]; exact cat_vc T3 ⟨#[10]⟩ (by have : (ByteArray.mk #[10]).size = 1 := rfl; omega)
 have HT4 := Lib.hid (show T4 = snapBody g xs 0 by rw [hT4, hT3, hT2, hT1, snapBody_0, hG, hGN]; rfl)
 clear hT1 hT2 hT3 hT4 hG hGN
 have hb00 := bl_alloc (Below.refl w.heap.size w) (.cells #[.pointer none, .slice none 0 0] 108)
 have HBD := Lib.hid (show Bld w.heap.size w.heap.size [] (w.alloc (.cells #[.pointer none, .slice none 0 0] 108)) from Lib.IsBuilderF.of (Lib.fresh_isBuilder _ _ w))
 go_enter Tryz.func43, Tryz.ntmps43
 go_wp2_with fail
 generalize w.alloc (.cells #[.pointer none, .slice none 0 0] 108) = w0 at *
 refine (JG.out _ hb00).mono ?_
 rintro e w1 ⟨rfl, hb1⟩
 have hB1 := bl_trans hb00 hb1
 go_wp2_with fail
 refine (JN.out _ hB1).mono ?_
 rintro e w2 ⟨rfl, hb2⟩
 have hB2 := bl_trans hB1 hb2
 have HBD2 := Lib.hid ((HBD.out.upon hb1).upon hb2)
 go_wp2_with fail
 refine (b_write _ _ [] T4 w2 HBD2.out (by simp only [List.length_nil]; omega) hB2.size).mono ?_
 rintro e w3 ⟨rfl, hbd3, hb3⟩
 have hB3 := hB2.trans hb3
 have HBD3 := Lib.hid (show Bld w.heap.size w.heap.size (snapBody g xs 0) w3 by rw [← HT4.out]; exact hbd3)
 clear hbd3
 go_wp2_with fail
 go_loopw [20] (fun i wr => SnbRel g xs w i wr) (fun i _ => xs.length - (intOf i).toNat)
 case atStart => exact ⟨0, Nat.zero_le _, rfl, HBD3.out, hB3⟩
 case round =>
  obtain ⟨k, hk, rfl, hbd, hbl⟩ := hrel
  have HBD4 := Lib.hid hbd; clear hbd
  by_cases hlt : k < xs.length
  ·
   obtain ⟨x, hx⟩ : ∃ x, xs[k]? = some x := ⟨xs[k], List.getElem?_eq_getElem hlt⟩
   have hz := HOK.out x (List.mem_of_getElem? hx)
   have HI := Lib.hid (HST.out.item hx)
   have hpl := putT_len HI.out hz.1
   obtain ⟨b, o, rfl, hb, hc⟩ := h3 (by omega)
   obtain ⟨va, vf, vs, vr, hcl, hr⟩ := hc k x hx
   obtain ⟨Aa, ma, ca, rfl⟩ := hr.a.isSlice'
   obtain ⟨Af, mf, cf, rfl⟩ := hr.f.isSlice
   obtain ⟨As, ms, cs, rfl⟩ := hr.s.isSlice
   obtain ⟨Ar, mr, cr, rfl⟩ := hr.r.isSlice'
   have q0 := (hbl.cell (p := ⟨b, o + k * 8, none⟩) hb).trans (hcl 0 _ rfl)
   have q1 := (hbl.cell (p := ⟨b, o + k * 8 + 1, none⟩) hb).trans (hcl 1 _ rfl)
   have q2 := (hbl.cell (p := ⟨b, o + k * 8 + 2, none⟩) hb).trans (hcl 2 _ rfl)
   have q3 := (hbl.cell (p := ⟨b, o + k * 8 + 3, none⟩) hb).trans (hcl 3 _ rfl)
   have q4 := (hbl.cell (p := ⟨b, o + k * 8 + 4, none⟩) hb).trans (hcl 4 _ rfl)
   have q5 := (hbl.cell (p := ⟨b, o + k * 8 + 5, none⟩) hb).trans (hcl 5 _ rfl)
   have q6 := (hbl.cell (p := ⟨b, o + k * 8 + 6, none⟩) hb).trans (hcl 6 _ rfl)
   have q7 := (hbl.cell (p := ⟨b, o + k * 8 + 7, none⟩) hb).trans (hcl 7 _ rfl)
   obtain ⟨P, hP⟩ : ∃ P, P = putT x := ⟨_, rfl⟩
   have JT := Lib.hid (fun (W : World) (h : Below w.heap.size w W) => show Calls Tryz.prog 69 #[.agg #[.int .i64 1, .string ⟨#[]⟩, .string ⟨#[]⟩, .string x.nm, .int .i64 x.n, .slice Aa ma ca, .int .i64 x.cl, .int .i64 x.lb, .slice Af mf cf, .slice As ms cs, .slice Ar mr cr]] W fun e w' => e = .returned (strV P) ∧ Below W.heap.size W w' by
    rw [hP]
    exact impl_labEntryText ⟨1, ⟨#[]⟩, ⟨#[]⟩, x⟩ _ _ _ _ W ((hr.below h).more h.size) (by unfold szEntry; show 0 + 0 + szItem x ≤ 1048576; have := hz.1; omega) (.inl ⟨rfl, rfl, rfl, HI.out⟩) (HPw.out.below h))
   have HN := Lib.hid (show snapBody g xs (k + 1) = snapBody g xs k ++ (P ++ [10]) by rw [hP]; exact snapBody_next g xs k x hx)
   have hcl1 := snapBody_len (xs := xs) (g := g) k hg0 hg h8 HPL.out
   rw [← hP] at hpl
   clear hcl hr hc h3 hx hP
   generalize snapBody g xs k = cur at *
   obtain ⟨Q1, hQ1⟩ : ∃ T, T = P ++ [10] := ⟨_, rfl⟩
   have lQ1 : Q1.length ≤ 1000000000 * 1 := by rw [hQ1]; simp only [List.length_append, List.length_cons, List.length_nil]; omega
   have kQ1 : ∀ W, (binOp .add 9 (strV P) (.string ⟨#[10]⟩)).run Tryz.prog W = .ok (strV Q1) W := by rw [hQ1]; exact cat_vc P ⟨#[10]⟩ (by have : (ByteArray.mk #[10]).size = 1 := rfl; omega)
   have HZ := Lib.hid (show snapBody g xs (k + 1) = cur ++ Q1 by rw [hQ1, HN.out])
   clear hQ1 HN
   have hb0 := bl_alloc (Below.refl wr.heap.size wr) (.cells #[.string x.nm, .int .i64 x.n, .slice Aa ma ca, .int .i64 x.cl, .int .i64 x.lb, .slice Af mf cf, .slice As ms cs, .slice Ar mr cr] 53)
   have hB0 := hbl.trans (hb0.mono hbl.size)
   have HBD5 := Lib.hid (HBD4.out.upon hb0)
   go_wp2_with fail
   generalize wr.alloc (.cells #[.string x.nm, .int .i64 x.n, .slice Aa ma ca, .int .i64 x.cl, .int .i64 x.lb, .slice Af mf cf, .slice As ms cs, .slice Ar mr cr] 53) = w4 at *
   refine (JT.out w4 hB0).mono ?_
   rintro e w5 ⟨rfl, hb5⟩
   have hB5 := bl_trans hB0 hb5
   have HBD6 := Lib.hid (HBD5.out.upon hb5)
   go_wp2_with fail
   refine (b_write _ _ cur Q1 w5 HBD6.out (by omega) hB5.size).mono ?_
   rintro e w6 ⟨rfl, hbd6, hb6⟩
   have hB6 := hB5.trans hb6
   have HBD7 := Lib.hid (show Bld w.heap.size w.heap.size (snapBody g xs (k + 1)) w6 by rw [HZ.out]; exact hbd6)
   clear hbd6
   go_wp2_with fail
   go_roundw
   case rel => exact ⟨k + 1, by omega, by go_num, HBD7.out, hB6⟩
   case measure => simp [intOf]; omega
  ·
   obtain rfl : k = xs.length := by omega
   have hcl1 := snapBody_len (xs := xs) (g := g) xs.length hg0 hg h8 HPL.out
   have HR := Lib.hid (show snapT g xs = ((snapBody g xs xs.length ++ [101, 110, 100, 32]) ++ numT (sumOf (snapBody g xs xs.length))) ++ [10] from rfl)
   generalize snapBody g xs xs.length = cur at *
   have hsm := sumOf_bd cur
   obtain ⟨Sm, hSm⟩ : ∃ T, T = sumOf cur := ⟨_, rfl⟩
   rw [← hSm] at hsm
   obtain ⟨Dg, hDg⟩ : ∃ T, T = numT Sm := ⟨_, rfl⟩
   have n3 := numT_len (M := 100000) (x := Sm) hsm.1 (by omega)
   rw [← hDg] at n3
   have JS := Lib.hid (fun (W : World) => show Calls Tryz.prog 70 #[strV cur] W fun e w' => e = .returned (.int .i64 Sm) ∧ Below W.heap.size W w' by rw [hSm]; exact impl_sum ⟨cur.toArray⟩ W (by rw [Lib.size_eq]; show cur.length ≤ _; omega))
   have JD := Lib.hid (fun (W : World) (h : Below w.heap.size w W) => show Calls Tryz.prog 68 #[.int .i64 Sm] W fun e w' => e = .returned (strV Dg) ∧ Below W.heap.size W w' by rw [hDg]; exact impl_Itoa Sm W (by omega) (by omega) (HPw.out.below h))
   rw [← hSm, ← hDg] at HR
   clear hSm hDg
   obtain ⟨E1, hE1⟩ : ∃ T, T = cur ++ [101, 110, 100, 32] := ⟨_, rfl⟩
   have lE1 : E1.length ≤ 1000000000 * 1 := by rw [hE1]; simp only [List.length_append, List.length_cons, List.length_nil]; omega
   have kE1 : ∀ W, (binOp .add 9 (strV cur) (.string ⟨#[101, 110, 100, 32]⟩)).run Tryz.prog W = .ok (strV E1) W := by rw [hE1]; exact cat_vc cur ⟨#[101, 110, 100, 32]⟩ (by have : (ByteArray.mk #[101, 110, 100, 32]).size = 4 := rfl; omega)
   obtain ⟨E2, hE2⟩ : ∃ T, T = E1 ++ Dg := ⟨_, rfl⟩
   have lE2 : E2.length ≤ 1000000000 * 2 := by rw [hE2]; simp only [List.length_append, List.length_cons, List.length_nil]; omega
   have kE2 : ∀ W, (binOp .add 9 (strV E1) (strV Dg)).run Tryz.prog W = .ok (strV E2) W := by rw [hE2]; exact cat_vv E1 Dg (by omega)
   obtain ⟨E3, hE3⟩ : ∃ T, T = E2 ++ [10] := ⟨_, rfl⟩
   have lE3 : E3.length ≤ 1000000000 * 3 := by rw [hE3]; simp only [List.length_append, List.length_cons, List.length_nil]; omega
   have kE3 : ∀ W, (binOp .add 9 (strV E2) (.string ⟨#[10]⟩)).run Tryz.prog W = .ok (strV E3) W := by rw [hE3]; exact cat_vc E2 ⟨#[10]⟩ (by have : (ByteArray.mk #[10]).size = 1 := rfl; omega)
   have HF := Lib.hid (show E3 = snapT g xs by rw [hE3, hE2, hE1, HR.out])
   clear hE1 hE2 hE3
   go_wp2_with fail
   refine (b_string _ _ cur wr HBD4.out hbl.size).mono ?_
   rintro e w4 ⟨rfl, hbd4, hb4⟩
   have hB4 := hbl.trans hb4
   have HBD5 := Lib.hid hbd4; clear hbd4
   go_wp2_with fail
   refine (b_string _ _ cur w4 HBD5.out hB4.size).mono ?_
   rintro e w5 ⟨rfl, hbd5, hb5⟩
   have hB5 := hB4.trans hb5
   clear hbd5
   go_wp2_with fail
   refine (JS.out _).mono ?_
   rintro e w6 ⟨rfl, hb6⟩
   have hB6 := bl_trans hB5 hb6
   go_wp2_with fail
   refine (JD.out _ hB6).mono ?_
   rintro e w7 ⟨rfl, hb7⟩
   go_wp2_with fail
   go_ret
   rw [← HF.out]
   exact ⟨rfl, bl_trans hB6 hb7⟩
theorem impl_isGeneration (g : Int) (w : World) : Calls Tryz.prog 81 #[.int .i64 g] w fun e w' => e = .returned (.bool (inB g 0 100000)) ∧ w = w' := by
  go_enter Tryz.func81, Tryz.ntmps81
  go_wp2_with (go_at_call 78; refine (impl_within _ _ _ _).mono ?_; rintro e w' ⟨rfl, rfl⟩)
  go_ret
  exact ⟨rfl, rfl⟩
end
section
set_option linter.all false
theorem spl_lines (b : UInt8) : ∀ (ls : List (List UInt8)) (r : List UInt8), (∀ l ∈ ls, b ∉ l) → spl b ((ls.map fun l => l ++ [b]).flatten ++ r) [] = ls ++ spl b r []
  | [], r, _ => rfl
  | l :: ls, r, h => by
    have e : ((l :: ls).map fun l => l ++ [b]).flatten ++ r = l ++ b :: ((ls.map fun l => l ++ [b]).flatten ++ r) := by simp
    rw [e, spl_app, spl_no b l [] (h l (by simp)), spl_lines b ls r (fun l hl => h l (by simp [hl]))]
    rfl
theorem put_free {x : Item} (h : itemP x) (c : UInt8) (hc : ¬ txB c) (hc2 : c ≠ 124) : c ∉ putT x := by
  intro k
  unfold putT at k
  rcases List.mem_append.1 k with k | k
  · rcases List.mem_append.1 k with k | k
    · rcases List.mem_append.1 k with k | k
      · rcases List.mem_append.1 k with k | k
        · rcases List.mem_append.1 k with k | k
          · exact tx_not (tx_list [112, 117, 116, 32] (by decide)) c hc k
          · have := tx_name h.1 c k
            unfold txB at hc
            have hh := h.1
            obtain ⟨j, hj, e⟩ := List.mem_iff_getElem.1 k
            have := hh.1 j _ (List.getElem?_eq_getElem hj)
            rw [e] at this
            rcases this with this | this <;> omega
        · exact tx_not (tx_list [32] (by decide)) c hc k
      · exact tx_not (tx_walk _ _) c hc k
    · rcases List.mem_cons.1 k with rfl | k
      · exact hc (.inl rfl)
      · rcases List.mem_cons.1 k with rfl | k
        · exact hc2 rfl
        · rcases List.mem_cons.1 k with rfl | k
          · exact hc (.inl rfl)
          · cases k
  · exact tx_not (tx_cert _ _ _ _ _) c hc k
def headL (g : Int) (n : Nat) : List UInt8 := [115, 116, 111, 114, 101] ++ 32 :: (numT g ++ 32 :: numT (n : Int))
def endL (k : Int) : List UInt8 := [101, 110, 100, 32] ++ numT k
theorem head_free (g : Int) (n : Nat) (c : UInt8) (hc : ¬ txB c) : c ∉ headL g n := by
  have h1 : ∀ b ∈ headL g n, txB b := tx_app (tx_list _ (by decide)) fun b hb => by
    rcases List.mem_cons.1 hb with rfl | hb
    · exact .inl rfl
    · rcases List.mem_append.1 hb with hb | hb
      · exact tx_dgt (num_bytes g b hb)
      · rcases List.mem_cons.1 hb with rfl | hb
        · exact .inl rfl
        · exact tx_dgt (num_bytes _ b hb)
  exact tx_not h1 c hc
theorem end_free (k : Int) (c : UInt8) (hc : ¬ txB c) : c ∉ endL k := tx_not (tx_app (tx_list _ (by decide)) fun b hb => tx_dgt (num_bytes k b hb)) c hc
theorem snap_lines {g : Int} {xs : List Item} (h : storeP xs) : ∃ k, spl 10 (snapT g xs) [] = headL g xs.length :: (xs.map putT ++ [endL k, []]) := by
  refine ⟨sumOf (snapBody g xs xs.length), ?_⟩
  generalize hk : (sumOf (snapBody g xs xs.length) : Int) = k
  have e : snapT g xs = ((headL g xs.length :: (xs.map putT ++ [endL k])).map fun l => l ++ [10]).flatten ++ [] := by
    unfold snapT
    rw [hk]
    unfold snapBody snapHead headL endL
    simp [List.take_length, List.map_append, List.flatten_append]
    rfl
  rw [e, spl_lines]
  · simp [spl]
  · intro l hl
    rcases List.mem_cons.1 hl with rfl | hl
    · exact head_free _ _ 10 nt10
    · rcases List.mem_append.1 hl with hl | hl
      · obtain ⟨x, hx, rfl⟩ := List.mem_map.1 hl
        obtain ⟨i, hi, rfl⟩ := List.mem_iff_getElem.1 hx
        exact put_free (h.item (List.getElem?_eq_getElem hi)) 10 nt10 (by decide)
      · rcases List.mem_cons.1 hl with rfl | hl
        · exact end_free _ 10 nt10
        · cases hl
theorem head_words (g : Int) (n : Nat) : spl 32 (headL g n) [] = [[115, 116, 111, 114, 101], numT g, numT (n : Int)] := by
  unfold headL
  rw [spl_app, spl_app, spl_no 32 _ [] (by decide), spl_no 32 _ [] (num_free nd32), spl_no 32 _ [] (num_free nd32)]
  rfl
theorem put_entry {x : Item} (h : itemP x) : peB (putT x) = true ∧ peE (putT x) = ⟨1, byt [], byt [], x⟩ :=
  pe_t (e := ⟨1, byt [], byt [], x⟩) (.inl ⟨rfl, rfl, rfl, h⟩) (by unfold entryT; rfl)
def rsP (l : List UInt8) : Prop := ∃ g xs, 0 ≤ g ∧ g ≤ 100000 ∧ storeP xs ∧ snapT g xs = l
noncomputable def rsB (l : List UInt8) : Bool := propB (rsP l)
noncomputable def lnG (ls : List (List UInt8)) : Int := rdI ((spl 32 (ls.getD 0 []) []).getD 1 [])
noncomputable def lnX (ls : List (List UInt8)) : List Item := ((ls.take (ls.length - 2)).drop 1).map fun p => (peE p).it
noncomputable def rsG (l : List UInt8) : Int := if rsB l = true then lnG (spl 10 l []) else 0
noncomputable def rsX (l : List UInt8) : List Item := if rsB l = true then lnX (spl 10 l []) else []
structure LnOk (ls : List (List UInt8)) (xs : List Item) (g : Int) : Prop where
  len : ls.length = xs.length + 3
  words : (spl 32 (ls.getD 0 []) []).length = 3
  word : (spl 32 (ls.getD 0 []) []).getD 1 [] = numT g
  mid : ∀ k p, (ls.drop 1)[k]? = some p → k < xs.length → peB p = true ∧ (peE p).kd = 1 ∧ xs[k]? = some (peE p).it
  gen : lnG ls = g
  items : lnX ls = xs
theorem ln_ok {g : Int} {xs : List Item} (h0 : 0 ≤ g) (h1 : g ≤ 100000) (h : storeP xs) : LnOk (spl 10 (snapT g xs) []) xs g := by
 obtain ⟨k, e⟩ := snap_lines (g := g) h
 have hw := head_words g xs.length
 have hit : ∀ x ∈ xs, itemP x := fun x hx => by
  obtain ⟨i, hi, rfl⟩ := List.mem_iff_getElem.1 hx
  exact h.item (List.getElem?_eq_getElem hi)
 refine ⟨?_, ?_, ?_, ?_, ?_, ?_⟩
 ·
  rw [e]; simp
 ·
  rw [e, List.getD_cons_zero, hw]; rfl
 ·
  rw [e, List.getD_cons_zero, hw]; rfl
 ·
  intro j p hp hj
  rw [e] at hp
  simp only [List.drop_succ_cons, List.drop_zero] at hp
  rw [List.getElem?_append_left (by simpa using hj), List.getElem?_map, List.getElem?_eq_getElem hj] at hp
  obtain rfl : putT xs[j] = p := by simpa using hp
  obtain ⟨q1, q2⟩ := put_entry (hit _ (List.getElem_mem hj))
  rw [q2]
  exact ⟨q1, rfl, List.getElem?_eq_getElem hj⟩
 ·
  unfold lnG
  rw [e, List.getD_cons_zero, hw]
  exact (num_can h0 (by omega)).2
 ·
  unfold lnX
  rw [e]
  have e2 : ((headL g xs.length :: (xs.map putT ++ [endL k, []])).take ((headL g xs.length :: (xs.map putT ++ [endL k, []])).length - 2)).drop 1 = xs.map putT := by
   have : (headL g xs.length :: (xs.map putT ++ [endL k, []])).length - 2 = xs.length + 1 := by simp
   rw [this, List.take_succ_cons, List.drop_succ_cons, List.drop_zero]
   have h9 : (xs.map putT).length = xs.length := List.length_map _
   rw [List.take_append_of_le_length (by omega), List.take_of_length_le (by omega)]
  rw [e2, List.map_map]
  have : xs.map ((fun p => (peE p).it) ∘ putT) = xs.map id := List.map_congr_left fun x hx => by
   show (peE (putT x)).it = x
   rw [(put_entry (hit x hx)).2]
  rw [this, List.map_id]
theorem rs_t {l : List UInt8} {g : Int} {xs : List Item} (h0 : 0 ≤ g) (h1 : g ≤ 100000) (h : storeP xs) (e : snapT g xs = l) : rsB l = true ∧ rsG l = g ∧ rsX l = xs := by
  have hb : rsB l = true := propB_t ⟨g, xs, h0, h1, h, e⟩
  have ho := ln_ok h0 h1 h
  rw [e] at ho
  refine ⟨hb, ?_, ?_⟩
  · unfold rsG; rw [if_pos hb]; exact ho.gen
  · unfold rsX; rw [if_pos hb]; exact ho.items
theorem rs_f {l : List UInt8} (h : ¬ rsP l) : rsB l = false ∧ rsG l = 0 ∧ rsX l = [] := by
  have hb : rsB l = false := propB_f h
  exact ⟨hb, by unfold rsG; rw [hb]; rfl, by unfold rsX; rw [hb]; rfl⟩
theorem rs_ok {l : List UInt8} (h : rsP l) : ∃ g xs, 0 ≤ g ∧ g ≤ 100000 ∧ storeP xs ∧ snapT g xs = l ∧ LnOk (spl 10 l []) xs g := by
  obtain ⟨g, xs, h0, h1, h2, h3⟩ := h
  have := ln_ok h0 h1 h2
  rw [h3] at this
  exact ⟨g, xs, h0, h1, h2, h3, this⟩
theorem rs_lines {l : List UInt8} : rsP l ↔ 3 ≤ (spl 10 l []).length ∧ (spl 32 ((spl 10 l []).getD 0 []) []).length = 3 ∧ (∀ k p, ((spl 10 l []).drop 1)[k]? = some p → k + 3 < (spl 10 l []).length → peB p = true ∧ (peE p).kd = 1) ∧ 0 ≤ lnG (spl 10 l []) ∧ lnG (spl 10 l []) ≤ 100000 ∧ storeP (lnX (spl 10 l [])) ∧ snapT (lnG (spl 10 l [])) (lnX (spl 10 l [])) = l := by
  constructor
  · intro h
    obtain ⟨g, xs, h0, h1, h2, h3, ho⟩ := rs_ok h
    rw [ho.gen, ho.items]
    exact ⟨by rw [ho.len]; omega, ho.words, fun k p hp hk => by have := ho.mid k p hp (by have := ho.len; omega); exact ⟨this.1, this.2.1⟩, h0, h1, h2, h3⟩
  · rintro ⟨_, _, _, h0, h1, h2, h3⟩
    exact ⟨_, _, h0, h1, h2, h3⟩
end
section
open Go.RowKit
set_option linter.all false
def RsPost0 (l : List UInt8) (w : World) (e : Ending) (w' : World) : Prop :=
  ∃ v bs, e = .returned (.tuple #[v, .int .i64 (if rsB l = true then rsG l else -1)]) ∧ OwnItems w' v (rsX l) bs ∧ bs.Nodup ∧ (∀ b ∈ bs, w.heap.size ≤ b ∧ b < w'.heap.size) ∧ Below w.heap.size w w'
theorem rs0_none {l : List UInt8} {w W : World} (h : ¬ rsP l) (hb : Below w.heap.size w W) : RsPost0 l w (.returned (.tuple #[.slice none 0 0, .int .i64 (-1)])) W := by
  obtain ⟨h1, h2, h3⟩ := rs_f h
  unfold RsPost0
  rw [h1, h3]
  exact ⟨_, [], rfl, own_items_zero _, List.nodup_nil, (fun _ h => by cases h), hb⟩
def PutTo (M : List (List UInt8)) (k : Nat) : Prop := ∀ j p, j < k → M[j]? = some p → peB p = true ∧ (peE p).kd = 1
noncomputable def itsOf (M : List (List UInt8)) : List Item := M.map fun p => (peE p).it
theorem its_next {M : List (List UInt8)} {k : Nat} {p : List UInt8} (h : M[k]? = some p) : itsOf (M.take (k + 1)) = itsOf (M.take k) ++ [(peE p).it] := by
  obtain ⟨hk, rfl⟩ := List.getElem?_eq_some_iff.1 h
  unfold itsOf
  rw [List.take_succ_eq_append_getElem hk, List.map_append]
  rfl
theorem pe_valid {p : List UInt8} (h : peB p = true) : entryP (peE p) ∧ entryT (peE p) = p := by
  obtain ⟨e, h1, h2⟩ := propB_iff.1 h
  rw [(pe_t h1 h2).2]
  exact ⟨h1, h2⟩
theorem put_item {p : List UInt8} (h : peB p = true) (hk : (peE p).kd = 1) : itemP (peE p).it := by
  rcases (pe_valid h).1 with ⟨_, _, _, h4⟩ | ⟨h1, _⟩ | ⟨h1, _⟩
  · exact h4
  · omega
  · omega
theorem its_valid {M : List (List UInt8)} (h : PutTo M M.length) : ∀ x ∈ itsOf M, itemP x := fun x hx => by
  obtain ⟨p, hp, rfl⟩ := List.mem_map.1 hx
  obtain ⟨i, hi, rfl⟩ := List.mem_iff_getElem.1 hp
  have := h i _ hi (List.getElem?_eq_getElem hi)
  exact put_item this.1 this.2
def SsRel (M : List (List UInt8)) (w : World) (v i : Value) (wr : World) : Prop :=
  ∃ k : Nat, k ≤ M.length ∧ i = .int .i64 k ∧ PutTo M k ∧ ItemsSt w.heap.size wr v (itsOf (M.take k)) ∧ Below w.heap.size w wr
theorem mid_lines {L M : List (List UInt8)} (hM : M = (L.take (L.length - 2)).drop 1) (h3 : 3 ≤ L.length) : M.length + 3 = L.length ∧ lnX L = itsOf M ∧ ∀ k p, M[k]? = some p ↔ ((L.drop 1)[k]? = some p ∧ k + 3 < L.length) := by
  subst hM
  refine ⟨by simp; omega, rfl, fun k p => ?_⟩
  rw [List.getElem?_drop, List.getElem?_drop]
  by_cases h : k + 3 < L.length
  · rw [List.getElem?_take_of_lt (by omega)]
    simp [h]
  · rw [List.getElem?_eq_none (by simp; omega)]
    simp [h]
theorem rs_no1 {l : List UInt8} (h : (spl 32 ((spl 10 l []).getD 0 []) []).length ≠ 3 ∨ (spl 10 l []).length < 3) : ¬ rsP l := fun k => by
  obtain ⟨h1, h2, _⟩ := rs_lines.1 k
  rcases h with h | h
  · exact h h2
  · omega
theorem rs_no2 {l : List UInt8} {M : List (List UInt8)} (hM : M = ((spl 10 l []).take ((spl 10 l []).length - 2)).drop 1) (h3 : 3 ≤ (spl 10 l []).length) {k : Nat} {p : List UInt8} (hp : M[k]? = some p) (h : ¬ (peB p = true ∧ (peE p).kd = 1)) : ¬ rsP l := fun q => by
  obtain ⟨_, _, h5, _⟩ := rs_lines.1 q
  obtain ⟨h6, h7⟩ := ((mid_lines hM h3).2.2 k p).1 hp
  exact h (h5 k p h6 h7)
theorem rs_no3 {l : List UInt8} {M : List (List UInt8)} {g : Int} (hM : M = ((spl 10 l []).take ((spl 10 l []).length - 2)).drop 1) (h3 : 3 ≤ (spl 10 l []).length) (hg : lnG (spl 10 l []) = g) (h : ¬ (inB g 0 100000 = true ∧ storeP (itsOf M) ∧ snapT g (itsOf M) = l)) : ¬ rsP l := fun q => by
  obtain ⟨_, _, _, h6, h7, h8, h9⟩ := rs_lines.1 q
  rw [(mid_lines hM h3).2.1, hg] at *
  exact h ⟨inB_t ⟨h6, h7⟩, h8, h9⟩
set_option maxRecDepth 100000 in
set_option maxHeartbeats 1000000 in
theorem spec_srReadSnapshot (s : ByteArray) (w : World) (hs : s.size ≤ 1048576) :
  Calls Tryz.prog 44 #[.string s] w fun e w' => RsPost0 s.data.toList w e w' := by
 have hsl : s.data.toList.length ≤ 1048576 := by rw [← Lib.size_eq]; exact hs
 have HL := Lib.hid (show ∀ p ∈ spl 10 s.data.toList [], p.length ≤ 1048576 from fun p hp => by have := spl_part 10 _ _ p hp; simp only [List.length_nil] at this; omega)
 have hcnt : (spl 10 s.data.toList []).length ≤ 1048577 := by rw [spl_len]; have := List.count_le_length (a := 10) (l := s.data.toList); omega
 have hB := Below.refl w.heap.size w
 have N1 := Lib.hid (@rs_no1 s.data.toList)
 have N2 := Lib.hid (fun (M : List (List UInt8)) hM h3 (k : Nat) (p : List UInt8) hp h => rs_no2 (l := s.data.toList) (M := M) hM h3 (k := k) (p := p) hp h)
 have N3 := Lib.hid (fun (M : List (List UInt8)) (g : Int) hM h3 hg h => rs_no3 (l := s.data.toList) (M := M) (g := g) hM h3 hg h)
 have NT := Lib.hid (fun (g : Int) (xs : List Item) h0 h1 h e => rs_t (l := s.data.toList) (g := g) (xs := xs) h0 h1 h e)
 go_enter Tryz.func44, Tryz.ntmps44
 go_wp2_with fail
 refine (l1Split_any s 10 w hs).mono ?_
 rintro e w1 ⟨v1, rfl, hown, hb1⟩
 have hz1 := hb1.size
 replace hB := bl_trans hB hb1
 have hsl1 := own_reads hown
 clear hown
 have hne := spl_ne 10 s.data.toList []
 generalize hLe : spl 10 s.data.toList [] = L at *
 have HLE := Lib.hid hLe; clear hLe
 obtain ⟨A, c, rfl, g1, g2, g3⟩ := hsl1.open1
 rw [List.length_map] at g1 g3
 have e0 : (List.map strV L).length = L.length := List.length_map _
 rw [e0] at hsl1 ⊢
 clear e0
 have hL0 : 0 < L.length := List.length_pos_iff.2 hne
 obtain ⟨ad, rfl, hb, hc⟩ := g3 hL0
 unfold maxLen at g2
 obtain ⟨q, hq⟩ : ∃ q, L[0]? = some q := ⟨L[0], List.getElem?_eq_getElem hL0⟩
 have q0 : w1.cell? ad = some (.string ⟨q.toArray⟩) := by have h0 := hc 0 (strV q) (by rw [List.getElem?_map, hq]; rfl); rw [add_zero'] at h0; exact h0
 have eq0 : L.getD 0 [] = q := by simp [List.getD, hq]
 have hql := HL.out q (List.mem_of_getElem? hq)
 have Rl := Lib.hid hsl1; clear hsl1 hc g3 hq hne
 have J2 := Lib.hid (show Calls Tryz.prog 73 #[.string ⟨q.toArray⟩, .int .u8 32] w1 fun e w' => ∃ v, e = .returned v ∧ w'.ownsRow w1.heap.size 9 1 v (spl 32 q []).length ((spl 32 q []).map strV) ∧ Below w1.heap.size w1 w' from l1Split_any ⟨q.toArray⟩ 32 w1 (by rw [Lib.size_eq]; exact hql))
 rw [eq0] at N1
 go_wp2_with fail
 refine (J2.out).mono ?_
 rintro e w2 ⟨v2, rfl, hown, hb2⟩
 have hz2 := hb2.size
 replace hB := bl_trans hB hb2
 replace Rl := Lib.hid (Rl.out.below (hb2.mono (by omega)))
 have hslw := own_reads hown
 clear hown J2 q0
 have HGW := Lib.hid (show lnG L = rdI ((spl 32 q []).getD 1 []) by unfold lnG; rw [eq0])
 have HLW := Lib.hid (show ∀ p ∈ spl 32 q [], p.length ≤ 1048576 from fun p hp => by have := spl_part 32 _ _ p hp; simp only [List.length_nil] at this; omega)
 clear eq0
 generalize spl 32 q [] = V at *
 obtain ⟨A2, c2, rfl, k1, k2, k3⟩ := hslw.open1
 rw [List.length_map] at k1 k3
 rw [show (List.map strV V).length = V.length from List.length_map _] at hslw ⊢
 by_cases hV : V.length = 3
 ·
  by_cases hL3 : L.length < 3
  ·
   have HN := Lib.hid (N1.out (.inr hL3))
   have hd1 : decide ((L.length : Int) < 3) = true := decide_eq_true (by omega)
   match V, hV with
   | [a, b, c], _ =>
    simp only [List.length_cons, List.length_nil] at *
    go_wp2_with fail
    go_ret2
    exact rs0_none HN.out hB
  ·
   match V, hV with
   | [wa, wb, wc0], _ =>
    have hd1 : decide ((L.length : Int) < 3) = false := decide_eq_false (by omega)
    obtain ⟨ad2, rfl, hb2', hc2⟩ := k3 (by simp)
    have qb : w2.cell? ⟨ad2.block, ad2.off + 1, none⟩ = some (.string ⟨wb.toArray⟩) := by
     have h1 := hc2 1 (strV wb) rfl
     rwa [show ad2.add 1 = ⟨ad2.block, ad2.off + 1, none⟩ by unfold Addr.add; rw [if_neg (by omega)]] at h1
    have hwl := HLW.out wb (by simp)
    have JR := Lib.hid (show Calls Tryz.prog 74 #[.string ⟨wb.toArray⟩] w2 fun e w' => e = .returned (.int .i64 (rdI wb)) ∧ w2 = w' from spec_l1Read ⟨wb.toArray⟩ w2 (by rw [Lib.size_eq]; show wb.length ≤ _; unfold maxLen; omega))
    have HG := Lib.hid (show lnG L = rdI wb from HGW.out)
    clear HGW HLW hc2 k3 k1 k2 hslw
    generalize rdI wb = g at *
    simp only [List.length_cons, List.length_nil] at *
    go_wp2_with fail
    refine JR.out.mono ?_
    rintro e w3 ⟨rfl, hw3⟩
    subst hw3
    clear JR
    obtain ⟨M, hM⟩ : ∃ M, M = (L.take (L.length - 2)).drop 1 := ⟨_, rfl⟩
    obtain ⟨m1, m2, m3⟩ := mid_lines hM (by omega)
    have HMX := Lib.hid m2; clear m2
    have HML := Lib.hid (show ∀ p ∈ M, p.length ≤ 1048576 from fun p hp => by rw [hM] at hp; exact HL.out p (List.mem_of_mem_take (List.mem_of_mem_drop hp)))
    have HM := Lib.hid (show M = (L.take (L.length - 2)).drop 1 from hM)
    have hM3 := Lib.hid (show 3 ≤ L.length by omega)
    have HP := Lib.hid (show SlR w2 w1.heap.size (.slice (some ⟨ad.block, ad.off + 1, none⟩) M.length (c - 1)) (M.map strV) by
     by_cases h0 : M.length = 0
     ·
      obtain rfl : M = [] := List.eq_nil_of_length_eq_zero h0
      exact ⟨_, _, rfl, Nat.zero_le _, by unfold maxLen; omega, fun h => absurd h (by simp)⟩
     ·
      have h := SlR.part Rl.out (i := 1) (j := L.length - 2) (by omega) (by omega) (by rw [List.length_map]; omega)
      rw [← List.map_take, ← List.map_drop, ← hM, show L.length - 2 - 1 = M.length by omega] at h
      exact h)
    clear m3 hM
    have hc1 : ¬ c = 1 := by omega
    have hlt1 : ¬ ((L.length : Int) - 2 < 1) := by omega
    have htn : ((L.length : Int) - 2).toNat = M.length + 1 := by omega
    go_wp2_with fail
    go_loopw [7, 9, 10, 11, 36] (fun v _ _ _ i wr => SsRel M w2 v i wr) (fun _ _ _ _ i _ => M.length - (intOf i).toNat)
    case atStart => exact ⟨0, Nat.zero_le _, rfl, (fun j p hj => by omega), ItemsSt.nil _ _, Below.refl _ _⟩
    case round =>
     obtain ⟨k, hk, rfl, hto, hst, hbl⟩ := hrel
     have HT := Lib.hid hto; clear hto
     have HS := Lib.hid hst; clear hst
     obtain ⟨Av, mv, cv, rfl⟩ := HS.out.isSlice
     have hzr := hbl.size
     replace hB := hB.trans (hbl.mono (by omega))
     by_cases hlt : k < M.length
     ·
      obtain ⟨p, hp⟩ : ∃ p, M[k]? = some p := ⟨M[k], List.getElem?_eq_getElem hlt⟩
      obtain ⟨hcell, hb'⟩ := SlR.at_ (j := k) (u := strV p) HP.out (by rw [List.getElem?_map, hp]; rfl)
      rw [add_lit] at hcell
      replace hcell : wr.cell? ⟨ad.block, ad.off + 1 + k, none⟩ = some (.string ⟨p.toArray⟩) := (hbl.cell (p := ⟨ad.block, ad.off + 1 + k, none⟩) (show ad.block < w2.heap.size by omega)).trans hcell
      have hpl := HML.out p (List.mem_of_getElem? hp)
      have HPk := Lib.hid hp; clear hp
      have J := Lib.hid (show Calls Tryz.prog 75 #[.string ⟨p.toArray⟩] wr fun e w' => PePost p wr e w' from spec_srRead ⟨p.toArray⟩ wr (by rw [Lib.size_eq]; show p.length ≤ _; exact hpl))
      unfold PePost at J
      obtain ⟨E, hE⟩ : ∃ E, E = peE p := ⟨_, rfl⟩
      obtain ⟨ok, hok⟩ : ∃ ok, ok = peB p := ⟨_, rfl⟩
      rw [← hE, ← hok] at J
      have HE := Lib.hid hE; clear hE
      have HO := Lib.hid hok; clear hok
      go_wp2_with fail
      refine (J.out).mono ?_
      rintro e w4 ⟨va, vf, vs, vr, bs, rfl, ho, hn, hr, hb4⟩
      have hz3 := hb4.size
      replace hB := bl_trans hB hb4
      obtain ⟨ba, bf, bz, br, oa, of, oz, or, hbs⟩ := id ho
      obtain ⟨Aa, ma, ca, rfl⟩ := oa.isSlice
      obtain ⟨Af, mf, cf, rfl⟩ := of.1.isSlice
      obtain ⟨As, ms, cs, rfl⟩ := oz.1.isSlice
      obtain ⟨Ar, mr, cr, rfl⟩ := or.isSlice
      clear oa of oz or hbs J
      have OI := Lib.hid ho; clear ho
      have GI := Lib.hid hr; clear hr
      cases ok with
      | false =>
       have HN := Lib.hid (N2.out M HM.out hM3.out k p HPk.out (fun h => by rw [← HO.out] at h; cases h.1))
       have hba4 := bl_alloc (Below.refl w4.heap.size w4) (.cells #[.int .i64 E.kd, .string E.nm, .string E.tn, .string E.it.nm, .int .i64 E.it.n, .slice Aa ma ca, .int .i64 E.it.cl, .int .i64 E.it.lb, .slice Af mf cf, .slice As ms cs, .slice Ar mr cr] 55)
       have HE0 := Lib.hid (heap_alloc_new w4 (.cells #[.int .i64 E.kd, .string E.nm, .string E.tn, .string E.it.nm, .int .i64 E.it.n, .slice Aa ma ca, .int .i64 E.it.cl, .int .i64 E.it.lb, .slice Af mf cf, .slice As ms cs, .slice Ar mr cr] 55))
       have hs4 : w4.heap.size < (w4.alloc (.cells #[.int .i64 E.kd, .string E.nm, .string E.tn, .string E.it.nm, .int .i64 E.it.n, .slice Aa ma ca, .int .i64 E.it.cl, .int .i64 E.it.lb, .slice Af mf cf, .slice As ms cs, .slice Ar mr cr] 55)).heap.size := by simp
       have HS4 := Lib.hid hs4; clear hs4; have hs4 := HS4.out
       have hz5 := hba4.size
       replace hB := bl_trans hB hba4
       replace OI := Lib.hid (OI.out.keep fun b hb' => hba4.block b (by have := GI.out b hb'; omega))
       have e01 := cells11 HE0
       go_wp2_with fail
       generalize w4.alloc (.cells #[.int .i64 E.kd, .string E.nm, .string E.tn, .string E.it.nm, .int .i64 E.it.n, .slice Aa ma ca, .int .i64 E.it.cl, .int .i64 E.it.lb, .slice Af mf cf, .slice As ms cs, .slice Ar mr cr] 55) = w5 at *
       go_ret2
       exact rs0_none HN.out hB
      | true =>
       by_cases hkd : E.kd = 1
       ·
        have HKD := Lib.hid hkd; clear hkd
        have HPT := Lib.hid (show PutTo M (k + 1) from fun j p' hj hp' => by
         rcases Nat.lt_or_ge j k with h | h
         ·
          exact HT.out j p' h hp'
         ·
          obtain rfl : j = k := by omega
          have e : p = p' := Option.some.inj (HPk.out.symm.trans hp')
          rw [← e, ← HO.out, ← HE.out]
          exact ⟨rfl, HKD.out⟩)
        have HN := Lib.hid (show itsOf (M.take (k + 1)) = itsOf (M.take k) ++ [E.it] by rw [its_next HPk.out, HE.out])
        have hkd1 : (E.kd != 1) = false := by rw [HKD.out]; rfl
        have hba4 := bl_alloc (Below.refl w4.heap.size w4) (.cells #[.int .i64 E.kd, .string E.nm, .string E.tn, .string E.it.nm, .int .i64 E.it.n, .slice Aa ma ca, .int .i64 E.it.cl, .int .i64 E.it.lb, .slice Af mf cf, .slice As ms cs, .slice Ar mr cr] 55)
        have HE0 := Lib.hid (heap_alloc_new w4 (.cells #[.int .i64 E.kd, .string E.nm, .string E.tn, .string E.it.nm, .int .i64 E.it.n, .slice Aa ma ca, .int .i64 E.it.cl, .int .i64 E.it.lb, .slice Af mf cf, .slice As ms cs, .slice Ar mr cr] 55))
        have hs4 : w4.heap.size < (w4.alloc (.cells #[.int .i64 E.kd, .string E.nm, .string E.tn, .string E.it.nm, .int .i64 E.it.n, .slice Aa ma ca, .int .i64 E.it.cl, .int .i64 E.it.lb, .slice Af mf cf, .slice As ms cs, .slice Ar mr cr] 55)).heap.size := by simp
        have HS4 := Lib.hid hs4; clear hs4; have hs4 := HS4.out
        have hz5 := hba4.size
        replace hB := bl_trans hB hba4
        replace OI := Lib.hid (OI.out.keep fun b hb' => hba4.block b (by have := GI.out b hb'; omega))
        have e01 := cells11 HE0
        have hb45 := hb4.trans (hba4.mono hb4.size)
        obtain ⟨vs0, hown1, hstep⟩ := HS.out.step hbl.size hb45 OI.out hn (fun b hb' => by have := GI.out b hb'; omega)
        have HST := Lib.hid hstep; clear hstep
        have hlen : (itsOf (M.take k)).length = k := by unfold itsOf; simp; omega
        rw [hlen] at hown1 HST
        clear hlen
        have HONE := Lib.hid (one8 E.it Aa ma ca Af mf cf As ms cs Ar mr cr)
        have HZZ := Lib.hid (show w2.heap.size ≤ (w4.alloc (.cells #[.int .i64 E.kd, .string E.nm, .string E.tn, .string E.it.nm, .int .i64 E.it.n, .slice Aa ma ca, .int .i64 E.it.cl, .int .i64 E.it.lb, .slice Af mf cf, .slice As ms cs, .slice Ar mr cr] 55)).heap.size by omega)
        go_wp2_with ((at_builtin; refine wpList_appendK (w4.alloc (.cells #[.int .i64 E.kd, .string E.nm, .string E.tn, .string E.it.nm, .int .i64 E.it.n, .slice Aa ma ca, .int .i64 E.it.cl, .int .i64 E.it.lb, .slice Af mf cf, .slice As ms cs, .slice Ar mr cr] 55)) rfl (.tmp 52) (.tmp 55) 33 rfl w2.heap.size 53 _ 8 136 Tryz.underlying33 itemInfo rfl (by decide) _ _ _ rfl (itemL E.it (.slice Aa ma ca) (.slice Af mf cf) (.slice As ms cs) (.slice Ar mr cr)) rfl HONE.out (by rw [show (w4.alloc (.cells #[.int .i64 E.kd, .string E.nm, .string E.tn, .string E.it.nm, .int .i64 E.it.n, .slice Aa ma ca, .int .i64 E.it.cl, .int .i64 E.it.lb, .slice Af mf cf, .slice As ms cs, .slice Ar mr cr] 55)).heap.size = w4.heap.size + 1 by simp]; rfl) hown1 (by unfold maxLen; omega) (by omega) HZZ.out ?_; intro v' w' hown' hbl' hgr' hlt' hob'))
        go_roundw
        case rel => exact ⟨k + 1, by omega, by go_num, HPT.out, by rw [HN.out]; exact HST.out _ _ hown' hgr' hob', (hbl.trans (hb45.mono hbl.size)).trans hbl'⟩
        case measure => simp [intOf]; omega
       ·
        have HN := Lib.hid (N2.out M HM.out hM3.out k p HPk.out (fun h => hkd (by rw [HE.out]; exact h.2)))
        have hkd1 : (E.kd != 1) = true := by simpa using hkd
        have hba4 := bl_alloc (Below.refl w4.heap.size w4) (.cells #[.int .i64 E.kd, .string E.nm, .string E.tn, .string E.it.nm, .int .i64 E.it.n, .slice Aa ma ca, .int .i64 E.it.cl, .int .i64 E.it.lb, .slice Af mf cf, .slice As ms cs, .slice Ar mr cr] 55)
        have HE0 := Lib.hid (heap_alloc_new w4 (.cells #[.int .i64 E.kd, .string E.nm, .string E.tn, .string E.it.nm, .int .i64 E.it.n, .slice Aa ma ca, .int .i64 E.it.cl, .int .i64 E.it.lb, .slice Af mf cf, .slice As ms cs, .slice Ar mr cr] 55))
        have hs4 : w4.heap.size < (w4.alloc (.cells #[.int .i64 E.kd, .string E.nm, .string E.tn, .string E.it.nm, .int .i64 E.it.n, .slice Aa ma ca, .int .i64 E.it.cl, .int .i64 E.it.lb, .slice Af mf cf, .slice As ms cs, .slice Ar mr cr] 55)).heap.size := by simp
        have HS4 := Lib.hid hs4; clear hs4; have hs4 := HS4.out
        have hz5 := hba4.size
        replace hB := bl_trans hB hba4
        replace OI := Lib.hid (OI.out.keep fun b hb' => hba4.block b (by have := GI.out b hb'; omega))
        have e01 := cells11 HE0
        go_wp2_with fail
        generalize w4.alloc (.cells #[.int .i64 E.kd, .string E.nm, .string E.tn, .string E.it.nm, .int .i64 E.it.n, .slice Aa ma ca, .int .i64 E.it.cl, .int .i64 E.it.lb, .slice Af mf cf, .slice As ms cs, .slice Ar mr cr] 55) = w5 at *
        go_ret2
        exact rs0_none HN.out hB
     ·
      obtain rfl : k = M.length := by omega
      have hst := HS.out
      rw [List.take_length] at hst
      obtain ⟨bs, ho, hn, hr⟩ := hst.fin
      have OI := Lib.hid ho; clear ho hst
      have GI := Lib.hid hr; clear hr
      have HIV := Lib.hid (its_valid HT.out)
      have RI := Lib.hid (OI.out.reads (fun b hb' => (GI.out b hb').2))
      have N4 := Lib.hid (N3.out M g HM.out hM3.out HG.out)
      generalize itsOf M = X at *
      go_wp2_with fail
      refine (spec_l1In g 0 100000 wr).mono ?_
      rintro e w4 ⟨rfl, hw4⟩
      subst hw4
      cases q1 : inB g 0 100000 with
      | false =>
       have HN := Lib.hid (N4.out (fun h => by rw [q1] at h; cases h.1))
       go_wp2_with fail
       go_ret2
       exact rs0_none HN.out hB
      | true =>
       have HGB := Lib.hid (show 0 ≤ g ∧ g ≤ 100000 by unfold inB at q1; simpa using q1)
       go_wp2_with fail
       refine (spec_srStore _ X wr RI.out (storeP.okI HIV.out)).mono ?_
       rintro e w5 ⟨rfl, hb5⟩
       have hz3 := hb5.size
       replace hB := bl_trans hB hb5
       cases q2 : storeB X with
       | false =>
        have HN := Lib.hid (N4.out (fun h => propB_ff q2 h.2.1))
        go_wp2_with fail
        go_ret2
        exact rs0_none HN.out hB
       | true =>
        have HSP := Lib.hid (propB_iff.1 q2); clear q2
        obtain ⟨TX, hT⟩ : ∃ T, T = snapT g X := ⟨_, rfl⟩
        have JT := Lib.hid (show Calls Tryz.prog 42 #[.slice Av mv cv, .int .i64 g] w5 fun e w' => e = .returned (.string ⟨TX.toArray⟩) ∧ Below w5.heap.size w5 w' by
         rw [hT]
         exact spec_srSnapshot _ X g w5 ((RI.out.below hb5).more hb5.size) (storeP.okI HIV.out) HSP.out HGB.out.1 HGB.out.2)
        have HTT := Lib.hid hT; clear hT
        go_wp2_with fail
        refine (JT.out).mono ?_
        rintro e w6 ⟨rfl, hb6⟩
        have hz4 := hb6.size
        replace hB := bl_trans hB hb6
        by_cases q7 : TX = s.data.toList
        ·
         obtain ⟨y1, y2, y3⟩ := NT.out g X HGB.out.1 HGB.out.2 HSP.out (by rw [← HTT.out]; exact q7)
         have k1 : (TX == s.toList) = true := by rw [Lib.toList_data, q7]; simp
         have k2 : (TX == s.data.toList) = true := by rw [q7]; simp
         have Y1 := Lib.hid y1; clear y1
         have Y2 := Lib.hid y2; clear y2
         have Y3 := Lib.hid y3; clear y3
         clear q7
         go_wp2_with fail
         go_ret2
         unfold RsPost0
         rw [Y1.out, Y2.out, Y3.out]
         exact ⟨.slice Av mv cv, bs, rfl, OI.out.keep fun b hb' => by have := GI.out b hb'; rw [hb6.block b (by omega), hb5.block b (by omega)], hn, fun b hb' => by have := GI.out b hb'; omega, hB⟩
        ·
         have k1 : (TX == s.toList) = false := by rw [Lib.toList_data, beq_eq_false_iff_ne]; exact q7
         have k2 : (TX == s.data.toList) = false := by rw [beq_eq_false_iff_ne]; exact q7
         have HN := Lib.hid (N4.out (fun h => q7 (by rw [HTT.out]; exact h.2.2)))
         clear q7
         go_wp2_with fail
         go_ret2
         exact rs0_none HN.out hB
 ·
  have HN := Lib.hid (N1.out (.inl hV))
  have hd1 : ¬ ((V.length : Int) = 3) := by omega
  go_wp2_with fail
  go_ret2
  exact rs0_none HN.out hB
end
section
open Go.RowKit
set_option linter.all false
theorem endedLines_no (s : ByteArray) (w : World) (hs : s.size ≤ 1048576) (h : Lib.hasSuffix s.data.toList [10] = false) :
    Calls Tryz.prog 77 #[.string s] w fun e w' => e = .returned (.tuple #[.slice none 0 0, .bool false]) ∧ w = w' := by
  go_enter Tryz.func77, Tryz.ntmps77
  go_wp2_with (go_at_call 112; refine (Tryz.strings_CutSuffix s ⟨#[10]⟩ _ (by omega)).mono ?_; rintro e w' ⟨rfl, rfl⟩)
  go_ret2
  exact ⟨rfl, rfl⟩
theorem endedLines_yes (s : ByteArray) (r : List UInt8) (w : World) (hs : s.size ≤ 1048576) (hm : MaxAt w) (h : s.data.toList = r ++ [10]) :
    Calls Tryz.prog 77 #[.string s] w fun e w' =>
      e = .returned (.tuple #[.slice (some ⟨w.heap.size, 0, none⟩) (r.count 10 + 1) (r.count 10 + 1), .bool true]) ∧ w' = w.alloc (.cells ((spl 10 r []).map strV).toArray 9) := by
  obtain ⟨m, hm⟩ := hm
  have h1 : Lib.hasSuffix s.data.toList [10] = true := (suffix_one _ _).2 ⟨r, h⟩
  have h2 : Lib.trimSuffix s.data.toList [10] = r := by rw [h]; exact trim_one r 10
  have hl : (ByteArray.mk r.toArray).size < 4294967281 := by
    have e : s.size = r.length + 1 := by rw [Lib.size_eq, h]; simp
    have e2 : (ByteArray.mk r.toArray).size = r.length := by rw [Lib.size_eq]
    omega
  have h3 := splitB_one ⟨r.toArray⟩ 10
  have h4 := countB_one ⟨r.toArray⟩ 10
  have H2 := Lib.hid h2; clear h2
  have H3 := Lib.hid h3; clear h3
  have H4 := Lib.hid h4; clear h4
  have H := Lib.hid h; clear h
  go_enter Tryz.func77, Tryz.ntmps77
  go_wp2_with (first
    | (go_at_call 112; refine (Tryz.strings_CutSuffix s ⟨#[10]⟩ _ (by omega)).mono ?_; rintro e w' ⟨rfl, rfl⟩; rw [show Lib.trimSuffix s.data.toList (ByteArray.mk #[10]).data.toList = r from H2.out])
    | (go_at_call 79; refine (Tryz.strings_Split ⟨r.toArray⟩ ⟨#[10]⟩ m _ hl hm (by decide)).mono ?_; rintro e w' ⟨rfl, rfl⟩; rw [H3.out, H4.out]))
  go_ret2
  exact ⟨rfl, rfl⟩
end
section
open Go.RowKit
set_option linter.all false
def RsPost (l : List UInt8) (w : World) (e : Ending) (w' : World) : Prop :=
  ∃ v bs, e = .returned (.tuple #[v, .int .i64 (rsG l), .bool (rsB l)]) ∧ OwnItems w' v (rsX l) bs ∧ bs.Nodup ∧ (∀ b ∈ bs, w.heap.size ≤ b ∧ b < w'.heap.size) ∧ Below w.heap.size w w'
theorem rs_none {l : List UInt8} {w W : World} (h : ¬ rsP l) (hb : Below w.heap.size w W) : RsPost l w (.returned (.tuple #[.slice none 0 0, .int .i64 0, .bool false])) W := by
  obtain ⟨h1, h2, h3⟩ := rs_f h
  unfold RsPost
  rw [h1, h2, h3]
  exact ⟨_, [], rfl, own_items_zero _, List.nodup_nil, (fun _ h => by cases h), hb⟩
theorem snap_ends {l : List UInt8} (h : rsP l) : ∃ r, l = r ++ [10] := by
  obtain ⟨g, xs, _, _, _, h3⟩ := h
  rw [← h3]
  unfold snapT
  exact ⟨_, rfl⟩
theorem rs_no4 {l : List UInt8} (h : inB ((spl 10 l []).length - 1 : Int) 2 10 = false) : ¬ rsP l := fun k => by
  obtain ⟨g, xs, h0, h1, h2, h3, ho⟩ := rs_ok k
  have := h2.2
  have e := ho.len
  rw [inB_t (by omega)] at h
  cases h
theorem rs_no5 {l : List UInt8} (h : lnG (spl 10 l []) < 0 ∨ 100000 < lnG (spl 10 l [])) : ¬ rsP l := fun k => by
  obtain ⟨_, _, _, h0, h1, _⟩ := rs_lines.1 k
  omega
theorem mid_lines2 {L K : List (List UInt8)} (hL : L = K ++ [[]]) (h2 : 2 ≤ K.length) : (K.take (K.length - 1)).drop 1 = (L.take (L.length - 2)).drop 1 := by
  subst hL
  rw [List.length_append, show K.length + [([] : List UInt8)].length - 2 = K.length - 1 by simp, List.take_append_of_le_length (by omega)]
set_option maxRecDepth 100000 in
set_option maxHeartbeats 1000000 in
theorem impl_ReadSnapshot (s : ByteArray) (w : World) (hs : s.size ≤ 1048576) (hm : MaxAt w) (hp : Pow10 w) (he : ErrAt w) :
  Calls Tryz.prog 46 #[.string s] w fun e w' => RsPost s.data.toList w e w' := by
 have HM := Lib.hid hm; clear hm
 have HP := Lib.hid hp; clear hp
 have HE := Lib.hid he; clear he
 have hB := Below.refl w.heap.size w
 by_cases hend : ∃ r, s.data.toList = r ++ [10]
 ·
  obtain ⟨r, hr⟩ := hend
  have hsl : r.length + 1 ≤ 1048576 := by have h := Lib.size_eq s; rw [hr] at h; simp at h; omega
  have eL := spl_snoc 10 r []
  rw [← hr] at eL
  have N1 := Lib.hid (@rs_no1 s.data.toList)
  have N2 := Lib.hid (fun (M : List (List UInt8)) hM h3 (k : Nat) (p : List UInt8) hp h => rs_no2 (l := s.data.toList) (M := M) hM h3 (k := k) (p := p) hp h)
  have N3 := Lib.hid (fun (M : List (List UInt8)) (g : Int) hM h3 hg h => rs_no3 (l := s.data.toList) (M := M) (g := g) hM h3 hg h)
  have N4 := Lib.hid (@rs_no4 s.data.toList)
  have N5 := Lib.hid (@rs_no5 s.data.toList)
  have NT := Lib.hid (fun (g : Int) (xs : List Item) h0 h1 h e => rs_t (l := s.data.toList) (g := g) (xs := xs) h0 h1 h e)
  have JE := Lib.hid (endedLines_yes s r w hs HM.out hr)
  have HKL := Lib.hid (show ∀ p ∈ spl 10 r [], p.length ≤ 1048576 from fun p hp => by have := spl_part 10 _ _ p hp; simp only [List.length_nil] at this; omega)
  have hkc : (spl 10 r []).length = r.count 10 + 1 := spl_len 10 r []
  have hkb : r.count 10 ≤ r.length := List.count_le_length
  have hne := spl_ne 10 r []
  rw [← hkc] at JE
  generalize spl 10 s.data.toList [] = L at *
  generalize spl 10 r [] = K at *
  have HLK := Lib.hid eL; clear eL
  have hLK : L.length = K.length + 1 := by rw [HLK.out]; simp
  have hK0 : 0 < K.length := List.length_pos_iff.2 hne
  obtain ⟨q, hq⟩ : ∃ q, K[0]? = some q := ⟨K[0], List.getElem?_eq_getElem hK0⟩
  have eq0 : L.getD 0 [] = q := by rw [HLK.out, List.getD_eq_getElem?_getD, List.getElem?_append_left hK0, hq]; rfl
  have hql := HKL.out q (List.mem_of_getElem? hq)
  rw [eq0] at N1
  have HGW := Lib.hid (show lnG L = rdI ((spl 32 q []).getD 1 []) by unfold lnG; rw [eq0])
  have hKB : K.length ≤ 1048576 := by omega
  clear hne hkc hkb
  go_enter Tryz.func46, Tryz.ntmps46
  go_wp2_with fail
  refine JE.out.mono ?_
  rintro e w1 ⟨rfl, hw1⟩
  have hb1 : Below w.heap.size w w1 := by rw [hw1]; exact bl_alloc (Below.refl _ _) _
  have hlt1 : w.heap.size < w1.heap.size := by rw [hw1]; simp
  have Rl := Lib.hid (show SlR w1 w1.heap.size (.slice (some ⟨w.heap.size, 0, none⟩) K.length K.length) (K.map strV) by
   refine ⟨some ⟨w.heap.size, 0, none⟩, K.length, by rw [List.length_map], by rw [List.length_map]; exact Nat.le_refl _, by unfold maxLen; omega, fun _ => ⟨_, rfl, hlt1, fun j u hu => ?_⟩⟩
   rw [add_lit, hw1, World.cell?_alloc_at _ _ _ _ rfl, Nat.zero_add]
   simpa using hu)
  clear hw1 JE
  have hz1 := hb1.size
  replace hB := bl_trans hB hb1
  have q0 : w1.cell? ⟨w.heap.size, 0, none⟩ = some (.string ⟨q.toArray⟩) := by
   have h := (SlR.at_ (j := 0) (u := strV q) Rl.out (by rw [List.getElem?_map, hq]; rfl)).1
   rwa [add_zero'] at h
  have JW := Lib.hid (fun W => impl_within (K.length : Int) 2 10 W)
  cases q1 : inB (K.length : Int) 2 10 with
  | false =>
   have HN := Lib.hid (N4.out (by rw [hLK]; rw [show (((K.length + 1 : Nat) : Int) - 1) = (K.length : Int) by omega]; exact q1))
   rw [q1] at JW
   go_wp2_with fail
   refine (JW.out _).mono ?_
   rintro e w2 ⟨rfl, hw2⟩
   subst hw2
   go_wp2_with fail
   go_ret3
   exact rs_none HN.out hB
  | true =>
   have hK2 : 2 ≤ K.length ∧ K.length ≤ 10 := by unfold inB at q1; have := of_decide_eq_true q1; omega
   rw [q1] at JW
   clear q1
   go_wp2_with fail
   refine (JW.out _).mono ?_
   rintro e w2 ⟨rfl, hw2⟩
   subst hw2
   clear JW
   go_wp2_with fail
   have JS := Lib.hid (show Calls Tryz.prog 79 #[.string ⟨q.toArray⟩, .string ⟨#[32]⟩] w1 fun e w' => ∃ v, e = .returned v ∧ SlR w' w'.heap.size v ((spl 32 q []).map strV) ∧ Below w1.heap.size w1 w' from split_call ⟨q.toArray⟩ 32 w1 (by rw [Lib.size_eq]; exact hql) (HM.out.below hB))
   refine (JS.out).mono ?_
   rintro e w2 ⟨v2, rfl, hslw, hb2⟩
   have hz2 := hb2.size
   replace hB := bl_trans hB hb2
   replace Rl := Lib.hid (Rl.out.below (hb2.mono (by omega)))
   clear JS q0
   have HLW := Lib.hid (show ∀ p ∈ spl 32 q [], p.length ≤ 1048576 from fun p hp => by have := spl_part 32 _ _ p hp; simp only [List.length_nil] at this; omega)
   clear eq0
   generalize spl 32 q [] = V at *
   obtain ⟨A2, c2, rfl, k1, k2, k3⟩ := hslw.open1
   rw [List.length_map] at k1 k3
   rw [show (List.map strV V).length = V.length from List.length_map _] at hslw ⊢
   by_cases hV : V.length = 3
   ·
    match V, hV with
    | [wa, wb, wc0], _ =>
     obtain ⟨ad2, rfl, hb2', hc2⟩ := k3 (by simp)
     have qb : w2.cell? ⟨ad2.block, ad2.off + 1, none⟩ = some (.string ⟨wb.toArray⟩) := by
      have h1 := hc2 1 (strV wb) rfl
      rwa [show ad2.add 1 = ⟨ad2.block, ad2.off + 1, none⟩ by unfold Addr.add; rw [if_neg (by omega)]] at h1
     have hwl := HLW.out wb (by simp)
     have JR := Lib.hid (show Calls Tryz.prog 80 #[.string ⟨wb.toArray⟩] w2 fun e w' => e = .returned (.tuple #[.int .i64 (rdV wb), .bool (canB wb)]) ∧ Below w2.heap.size w2 w' from impl_readNumber ⟨wb.toArray⟩ w2 (by rw [Lib.size_eq]; show wb.length ≤ _; unfold maxLen; omega) (HP.out.below hB) (HE.out.below hB))
     have HG := Lib.hid (show lnG L = rdI wb from HGW.out)
     clear HGW HLW hc2 k3 k1 k2 hslw
     have HCB := Lib.hid (show (canB wb = true → rdV wb = rdI wb) ∧ (canB wb = false → rdI wb = -1) from ⟨fun h => by unfold rdV rdI; rw [h]; rfl, fun h => by unfold rdI; rw [h]; rfl⟩)
     generalize rdI wb = g at *
     generalize rdV wb = g' at *
     generalize canB wb = okg at *
     simp only [List.length_cons, List.length_nil] at *
     go_wp2_with fail
     refine (JR.out).mono ?_
     rintro e w3 ⟨rfl, hb3⟩
     have hz3 := hb3.size
     replace hB := bl_trans hB hb3
     replace Rl := Lib.hid (Rl.out.below (hb3.mono (by omega)))
     clear JR
     cases okg with
     | false =>
      have HN := Lib.hid (N5.out (.inl (by rw [HG.out, HCB.out.2 rfl]; decide)))
      go_wp2_with fail
      go_ret3
      exact rs_none HN.out hB
     | true =>
      obtain rfl : g' = g := HCB.out.1 rfl
      clear HCB
      have JI := Lib.hid (fun W => impl_isGeneration g' W)
      cases q1 : inB g' 0 100000 with
      | false =>
       have HN := Lib.hid (N5.out (by rw [HG.out]; unfold inB at q1; have := of_decide_eq_false q1; omega))
       rw [q1] at JI
       go_wp2_with fail
       refine (JI.out _).mono ?_
       rintro e w4 ⟨rfl, hw4⟩
       subst hw4
       go_wp2_with fail
       go_ret3
       exact rs_none HN.out hB
      | true =>
       have HGB := Lib.hid (show 0 ≤ g' ∧ g' ≤ 100000 by unfold inB at q1; simpa using q1)
       rw [q1] at JI
       clear q1
       obtain ⟨M, hM⟩ : ∃ M, M = (L.take (L.length - 2)).drop 1 := ⟨_, rfl⟩
       obtain ⟨m1, m2, m3⟩ := mid_lines hM (by omega)
       have hMK := mid_lines2 HLK.out hK2.1
       rw [← hM] at hMK
       have HMK := Lib.hid hMK; clear hMK
       have HML := Lib.hid (show ∀ p ∈ M, p.length ≤ 1048576 from fun p hp => by rw [← HMK.out] at hp; exact HKL.out p (List.mem_of_mem_take (List.mem_of_mem_drop hp)))
       have HMM := Lib.hid hM; clear hM m2 m3
       have hM3 := Lib.hid (show 3 ≤ L.length by omega)
       have HPA := Lib.hid (show SlR w3 w1.heap.size (.slice (some ⟨w.heap.size, 0 + 1, none⟩) M.length (K.length - 1)) (M.map strV) by
        by_cases h0 : M.length = 0
        ·
         obtain rfl : M = [] := List.eq_nil_of_length_eq_zero h0
         exact ⟨_, _, rfl, Nat.zero_le _, by unfold maxLen; omega, fun h => absurd h (by simp)⟩
        ·
         have h := SlR.part Rl.out (i := 1) (j := K.length - 1) (by omega) (by omega) (by rw [List.length_map]; omega)
         rw [← List.map_take, ← List.map_drop, HMK.out, show K.length - 1 - 1 = M.length by omega] at h
         exact h)
       have hc1 : ¬ K.length = 1 := by omega
       have hlt1' : ¬ ((K.length : Int) - 1 < 1) := by omega
       have htn : ((K.length : Int) - 1).toNat = M.length + 1 := by omega
       go_wp2_with fail
       refine (JI.out _).mono ?_
       rintro e w4 ⟨rfl, hw4⟩
       subst hw4
       clear JI
       go_wp2_with fail
       go_loopw [9, 11, 12, 13, 54] (fun v _ _ _ i wr => SsRel M w3 v i wr) (fun _ _ _ _ i _ => M.length - (intOf i).toNat)
       case atStart => exact ⟨0, Nat.zero_le _, rfl, (fun j p hj => by omega), ItemsSt.nil _ _, Below.refl _ _⟩
       case round =>
        obtain ⟨k, hk, rfl, hto, hst, hbl⟩ := hrel
        have HT := Lib.hid hto; clear hto
        have HS := Lib.hid hst; clear hst
        obtain ⟨Av, mv, cv, rfl⟩ := HS.out.isSlice
        have hzr := hbl.size
        replace hB := hB.trans (hbl.mono (by omega))
        by_cases hlt : k < M.length
        ·
         obtain ⟨p, hp⟩ : ∃ p, M[k]? = some p := ⟨M[k], List.getElem?_eq_getElem hlt⟩
         obtain ⟨hcell, hb'⟩ := SlR.at_ (j := k) (u := strV p) HPA.out (by rw [List.getElem?_map, hp]; rfl)
         rw [add_lit] at hcell
         replace hcell : wr.cell? ⟨w.heap.size, 1 + k, none⟩ = some (.string ⟨p.toArray⟩) := (hbl.cell (p := ⟨w.heap.size, 1 + k, none⟩) (show w.heap.size < w3.heap.size by omega)).trans hcell
         have hpl := HML.out p (List.mem_of_getElem? hp)
         have HPk := Lib.hid hp; clear hp
         have J := Lib.hid (show Calls Tryz.prog 82 #[.string ⟨p.toArray⟩] wr fun e w' => PePost p wr e w' from impl_ParseLabEntry ⟨p.toArray⟩ wr (by rw [Lib.size_eq]; show p.length ≤ _; exact hpl) (HM.out.below hB) (HP.out.below hB) (HE.out.below hB))
         unfold PePost at J
         obtain ⟨E, hE⟩ : ∃ E, E = peE p := ⟨_, rfl⟩
         obtain ⟨ok, hok⟩ : ∃ ok, ok = peB p := ⟨_, rfl⟩
         rw [← hE, ← hok] at J
         have HEE := Lib.hid hE; clear hE
         have HO := Lib.hid hok; clear hok
         go_wp2_with fail
         refine (J.out).mono ?_
         rintro e w4 ⟨va, vf, vs, vr, bs, rfl, ho, hn, hr, hb4⟩
         have hz4 := hb4.size
         replace hB := bl_trans hB hb4
         obtain ⟨ba, bf, bz, br, oa, of, oz, or, hbs⟩ := id ho
         obtain ⟨Aa, ma, ca, rfl⟩ := oa.isSlice
         obtain ⟨Af, mf, cf, rfl⟩ := of.1.isSlice
         obtain ⟨As, ms, cs, rfl⟩ := oz.1.isSlice
         obtain ⟨Ar, mr, cr, rfl⟩ := or.isSlice
         clear oa of oz or hbs J
         have OI := Lib.hid ho; clear ho
         have GI := Lib.hid hr; clear hr
         cases ok with
         | false =>
          have HN := Lib.hid (N2.out M HMM.out hM3.out k p HPk.out (fun h => by rw [← HO.out] at h; cases h.1))
          have hba5 := bl_alloc (Below.refl w4.heap.size w4) (.cells #[.int .i64 E.kd, .string E.nm, .string E.tn, .string E.it.nm, .int .i64 E.it.n, .slice Aa ma ca, .int .i64 E.it.cl, .int .i64 E.it.lb, .slice Af mf cf, .slice As ms cs, .slice Ar mr cr] 55)
          have HE0 := Lib.hid (heap_alloc_new w4 (.cells #[.int .i64 E.kd, .string E.nm, .string E.tn, .string E.it.nm, .int .i64 E.it.n, .slice Aa ma ca, .int .i64 E.it.cl, .int .i64 E.it.lb, .slice Af mf cf, .slice As ms cs, .slice Ar mr cr] 55))
          have hs5 : w4.heap.size < (w4.alloc (.cells #[.int .i64 E.kd, .string E.nm, .string E.tn, .string E.it.nm, .int .i64 E.it.n, .slice Aa ma ca, .int .i64 E.it.cl, .int .i64 E.it.lb, .slice Af mf cf, .slice As ms cs, .slice Ar mr cr] 55)).heap.size := by simp
          have HS5 := Lib.hid hs5; clear hs5; have hs5 := HS5.out
          have hz6 := hba5.size
          replace hB := bl_trans hB hba5
          replace OI := Lib.hid (OI.out.keep fun b hb' => hba5.block b (by have := GI.out b hb'; omega))
          have e01 := cells11 HE0
          go_wp2_with fail
          generalize w4.alloc (.cells #[.int .i64 E.kd, .string E.nm, .string E.tn, .string E.it.nm, .int .i64 E.it.n, .slice Aa ma ca, .int .i64 E.it.cl, .int .i64 E.it.lb, .slice Af mf cf, .slice As ms cs, .slice Ar mr cr] 55) = w5 at *
          go_ret3
          exact rs_none HN.out hB
         | true =>
          by_cases hkd : E.kd = 1
          ·
           have HKD := Lib.hid hkd; clear hkd
           have HPT := Lib.hid (show PutTo M (k + 1) from fun j p' hj hp' => by
            rcases Nat.lt_or_ge j k with h | h
            ·
             exact HT.out j p' h hp'
            ·
             obtain rfl : j = k := by omega
             have e : p = p' := Option.some.inj (HPk.out.symm.trans hp')
             rw [← e, ← HO.out, ← HEE.out]
             exact ⟨rfl, HKD.out⟩)
           have HN := Lib.hid (show itsOf (M.take (k + 1)) = itsOf (M.take k) ++ [E.it] by rw [its_next HPk.out, HEE.out])
           have hkd1 : (E.kd != 1) = false := by rw [HKD.out]; rfl
           have hba5 := bl_alloc (Below.refl w4.heap.size w4) (.cells #[.int .i64 E.kd, .string E.nm, .string E.tn, .string E.it.nm, .int .i64 E.it.n, .slice Aa ma ca, .int .i64 E.it.cl, .int .i64 E.it.lb, .slice Af mf cf, .slice As ms cs, .slice Ar mr cr] 55)
           have HE0 := Lib.hid (heap_alloc_new w4 (.cells #[.int .i64 E.kd, .string E.nm, .string E.tn, .string E.it.nm, .int .i64 E.it.n, .slice Aa ma ca, .int .i64 E.it.cl, .int .i64 E.it.lb, .slice Af mf cf, .slice As ms cs, .slice Ar mr cr] 55))
           have hs5 : w4.heap.size < (w4.alloc (.cells #[.int .i64 E.kd, .string E.nm, .string E.tn, .string E.it.nm, .int .i64 E.it.n, .slice Aa ma ca, .int .i64 E.it.cl, .int .i64 E.it.lb, .slice Af mf cf, .slice As ms cs, .slice Ar mr cr] 55)).heap.size := by simp
           have HS5 := Lib.hid hs5; clear hs5; have hs5 := HS5.out
           have hz6 := hba5.size
           replace hB := bl_trans hB hba5
           replace OI := Lib.hid (OI.out.keep fun b hb' => hba5.block b (by have := GI.out b hb'; omega))
           have e01 := cells11 HE0
           have hb45 := hb4.trans (hba5.mono hb4.size)
           obtain ⟨vs0, hown1, hstep⟩ := HS.out.step hbl.size hb45 OI.out hn (fun b hb' => by have := GI.out b hb'; omega)
           have HST := Lib.hid hstep; clear hstep
           have hlen : (itsOf (M.take k)).length = k := by unfold itsOf; simp; omega
           rw [hlen] at hown1 HST
           clear hlen
           have HONE := Lib.hid (one8 E.it Aa ma ca Af mf cf As ms cs Ar mr cr)
           have HZZ := Lib.hid (show w3.heap.size ≤ (w4.alloc (.cells #[.int .i64 E.kd, .string E.nm, .string E.tn, .string E.it.nm, .int .i64 E.it.n, .slice Aa ma ca, .int .i64 E.it.cl, .int .i64 E.it.lb, .slice Af mf cf, .slice As ms cs, .slice Ar mr cr] 55)).heap.size by omega)
           go_wp2_with ((at_builtin; refine wpList_appendK (w4.alloc (.cells #[.int .i64 E.kd, .string E.nm, .string E.tn, .string E.it.nm, .int .i64 E.it.n, .slice Aa ma ca, .int .i64 E.it.cl, .int .i64 E.it.lb, .slice Af mf cf, .slice As ms cs, .slice Ar mr cr] 55)) rfl (.tmp 70) (.tmp 73) 33 rfl w3.heap.size 53 _ 8 136 Tryz.underlying33 itemInfo rfl (by decide) _ _ _ rfl (itemL E.it (.slice Aa ma ca) (.slice Af mf cf) (.slice As ms cs) (.slice Ar mr cr)) rfl HONE.out (by rw [show (w4.alloc (.cells #[.int .i64 E.kd, .string E.nm, .string E.tn, .string E.it.nm, .int .i64 E.it.n, .slice Aa ma ca, .int .i64 E.it.cl, .int .i64 E.it.lb, .slice Af mf cf, .slice As ms cs, .slice Ar mr cr] 55)).heap.size = w4.heap.size + 1 by simp]; rfl) hown1 (by unfold maxLen; omega) (by omega) HZZ.out ?_; intro v' w' hown' hbl' hgr' hlt' hob'))
           go_roundw
           case rel => exact ⟨k + 1, by omega, by go_num, HPT.out, by rw [HN.out]; exact HST.out _ _ hown' hgr' hob', (hbl.trans (hb45.mono hbl.size)).trans hbl'⟩
           case measure => simp [intOf]; omega
          ·
           have HN := Lib.hid (N2.out M HMM.out hM3.out k p HPk.out (fun h => hkd (by rw [HEE.out]; exact h.2)))
           have hkd1 : (E.kd != 1) = true := by simpa using hkd
           have hba5 := bl_alloc (Below.refl w4.heap.size w4) (.cells #[.int .i64 E.kd, .string E.nm, .string E.tn, .string E.it.nm, .int .i64 E.it.n, .slice Aa ma ca, .int .i64 E.it.cl, .int .i64 E.it.lb, .slice Af mf cf, .slice As ms cs, .slice Ar mr cr] 55)
           have HE0 := Lib.hid (heap_alloc_new w4 (.cells #[.int .i64 E.kd, .string E.nm, .string E.tn, .string E.it.nm, .int .i64 E.it.n, .slice Aa ma ca, .int .i64 E.it.cl, .int .i64 E.it.lb, .slice Af mf cf, .slice As ms cs, .slice Ar mr cr] 55))
           have hs5 : w4.heap.size < (w4.alloc (.cells #[.int .i64 E.kd, .string E.nm, .string E.tn, .string E.it.nm, .int .i64 E.it.n, .slice Aa ma ca, .int .i64 E.it.cl, .int .i64 E.it.lb, .slice Af mf cf, .slice As ms cs, .slice Ar mr cr] 55)).heap.size := by simp
           have HS5 := Lib.hid hs5; clear hs5; have hs5 := HS5.out
           have hz6 := hba5.size
           replace hB := bl_trans hB hba5
           replace OI := Lib.hid (OI.out.keep fun b hb' => hba5.block b (by have := GI.out b hb'; omega))
           have e01 := cells11 HE0
           go_wp2_with fail
           generalize w4.alloc (.cells #[.int .i64 E.kd, .string E.nm, .string E.tn, .string E.it.nm, .int .i64 E.it.n, .slice Aa ma ca, .int .i64 E.it.cl, .int .i64 E.it.lb, .slice Af mf cf, .slice As ms cs, .slice Ar mr cr] 55) = w5 at *
           go_ret3
           exact rs_none HN.out hB
        ·
         obtain rfl : k = M.length := by omega
         have hst := HS.out
         rw [List.take_length] at hst
         obtain ⟨bs, ho, hn, hr⟩ := hst.fin
         have OI := Lib.hid ho; clear ho hst
         have GI := Lib.hid hr; clear hr
         have HIV := Lib.hid (its_valid HT.out)
         have RI := Lib.hid (OI.out.reads (fun b hb' => (GI.out b hb').2))
         have N6 := Lib.hid (N3.out M g' HMM.out hM3.out HG.out)
         generalize itsOf M = X at *
         go_wp2_with fail
         refine (impl_IsStore _ X wr RI.out (storeP.okI HIV.out)).mono ?_
         rintro e w5 ⟨rfl, hb5⟩
         have hz4 := hb5.size
         replace hB := bl_trans hB hb5
         cases q2 : storeB X with
         | false =>
          have HN := Lib.hid (N6.out (fun h => propB_ff q2 h.2.1))
          go_wp2_with fail
          go_ret3
          exact rs_none HN.out hB
         | true =>
          have HSP := Lib.hid (propB_iff.1 q2); clear q2
          obtain ⟨TX, hT⟩ : ∃ T, T = snapT g' X := ⟨_, rfl⟩
          have JT := Lib.hid (show Calls Tryz.prog 43 #[.slice Av mv cv, .int .i64 g'] w5 fun e w' => e = .returned (.string ⟨TX.toArray⟩) ∧ Below w5.heap.size w5 w' by
           rw [hT]
           exact impl_snapshotOf _ X g' w5 ((RI.out.below hb5).more hb5.size) (storeP.okI HIV.out) HSP.out HGB.out.1 HGB.out.2 (HP.out.below hB))
          have HTT := Lib.hid hT; clear hT
          go_wp2_with fail
          refine (JT.out).mono ?_
          rintro e w6 ⟨rfl, hb6⟩
          have hz5 := hb6.size
          replace hB := bl_trans hB hb6
          by_cases q7 : TX = s.data.toList
          ·
           obtain ⟨y1, y2, y3⟩ := NT.out g' X HGB.out.1 HGB.out.2 HSP.out (by rw [← HTT.out]; exact q7)
           have k1 : (TX == s.toList) = true := by rw [Lib.toList_data, q7]; simp
           have k2 : (TX == s.data.toList) = true := by rw [q7]; simp
           have Y1 := Lib.hid y1; clear y1
           have Y2 := Lib.hid y2; clear y2
           have Y3 := Lib.hid y3; clear y3
           clear q7
           go_wp2_with fail
           go_ret3
           unfold RsPost
           rw [Y1.out, Y2.out, Y3.out]
           exact ⟨.slice Av mv cv, bs, rfl, OI.out.keep fun b hb' => by have := GI.out b hb'; rw [hb6.block b (by omega), hb5.block b (by omega)], hn, fun b hb' => by have := GI.out b hb'; omega, hB⟩
          ·
           have k1 : (TX == s.toList) = false := by rw [Lib.toList_data, beq_eq_false_iff_ne]; exact q7
           have k2 : (TX == s.data.toList) = false := by rw [beq_eq_false_iff_ne]; exact q7
           have HN := Lib.hid (N6.out (fun h => q7 (by rw [HTT.out]; exact h.2.2)))
           clear q7
           go_wp2_with fail
           go_ret3
           exact rs_none HN.out hB
   ·
    have HN := Lib.hid (N1.out (.inl hV))
    have hd1 : ¬ ((V.length : Int) = 3) := by omega
    go_wp2_with fail
    go_ret3
    exact rs_none HN.out hB
 ·
  have HN := Lib.hid (show ¬ rsP s.data.toList from fun h => hend (snap_ends h))
  have JE := Lib.hid (endedLines_no s w hs (by
   cases q : Lib.hasSuffix s.data.toList [10] with
   | false => rfl
   | true => exact absurd ((suffix_one _ _).1 q) hend))
  go_enter Tryz.func46, Tryz.ntmps46
  go_wp2_with fail
  refine JE.out.mono ?_
  rintro e w1 ⟨rfl, hw1⟩
  subst hw1
  go_wp2_with fail
  go_ret3
  exact rs_none HN.out hB
end
end Go.Proofs.YtcfbkickiijjkaaGreatDoor
