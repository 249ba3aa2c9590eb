/-
  The laws' own functions over slices of items: szLabItemS, toLabItemS, eqLabItemS.
-/
import Derived.Test.YtbchhehecdoonaaGreatDoorRows
import Derived.Test.YtbchhehecdoonaaGreatDoorKit
import Derived.Test.YtbchhehecdoonaaGreatDoorMem
import Derived.Test.YtbchhehecdoonaaGreatDoorArgs
import Derived.Test.YtbchhehecdoonaaGreatDoorArgsItem
import Derived.Test.YtbchhehecdoonaaGreatDoorStore
import Derived.WalkKit
import Derived.WalkSpells
import Derived.WalkLawsBesides
import Derived.Lib.Hide
namespace Go.Proofs.YtbchhehecdoonaaGreatDoor
open Go.RowKit
set_option linter.unusedVariables false
set_option linter.unusedSimpArgs false

def lensI : List Item → Nat
  | [] => 0
  | x :: r => szItem x + lensI r
def szItems (xs : List Item) : Nat := xs.length + lensI xs
theorem lensI_append : ∀ (a b : List Item), lensI (a ++ b) = lensI a + lensI b
  | [], b => by simp [lensI]
  | x :: a, b => by simp [lensI, lensI_append a b]; omega
theorem lensI_snoc (xs : List Item) (k : Nat) (x : Item) (h : xs[k]? = some x) : lensI (xs.take (k + 1)) = lensI (xs.take k) + szItem x := by
  obtain ⟨hk, rfl⟩ := List.getElem?_eq_some_iff.1 h
  rw [List.take_succ_eq_append_getElem hk, lensI_append]
  rfl
theorem lensI_split (xs : List Item) (k : Nat) : lensI xs = lensI (xs.take k) + lensI (xs.drop k) := by
  rw [← lensI_append, List.take_append_drop]
theorem lensI_all (xs : List Item) (k : Nat) (h : xs.length ≤ k) : lensI (xs.take k) = lensI xs := by rw [List.take_of_length_le h]
theorem lensI_mem {xs : List Item} {x : Item} (h : x ∈ xs) : szItem x ≤ lensI xs := by
  induction xs with
  | nil => cases h
  | cons y r ih =>
    rcases List.mem_cons.1 h with rfl | h
    · unfold lensI; omega
    · have := ih h; unfold lensI; omega
def SzIRel (xs : List Item) (left : Int) (w : World) (l i : Value) (wr : World) : Prop :=
  Below w.heap.size w wr ∧ ∃ (k q : Nat), k ≤ xs.length ∧ q = lensI (xs.take k) ∧ i = .int .i64 k ∧ l = .int .i64 (left - xs.length - q) ∧ (q : Int) ≤ left - xs.length
theorem sz_Items (v : Value) (xs : List Item) (left : Int) (w : World) (h : ItemsR w w.heap.size v xs) (hnm : ∀ x ∈ xs, x.nm.size ≤ maxLen) (hl : 0 ≤ left) (hl' : left ≤ 1048576) :
    Calls Tryz.prog 12 #[v, .int .i64 left] w fun e w' => e = .returned (.int .i64 (szR left (szItems xs))) ∧ Below w.heap.size w w' := by
  obtain ⟨A, c, rfl, h1, h2, h3⟩ := h
  have hL : xs.length ≤ 9223372036854775807 := by unfold maxLen at h2; omega
  have HNM := Lib.hid hnm; clear hnm
  clear h2
  by_cases hs : (xs.length : Int) ≤ left
  · go_enter Tryz.func12, Tryz.ntmps12
    go_wp2
    go_loopw [1, 5] (fun l i wr => SzIRel xs left w l i wr) (fun _ i _ => xs.length - (intOf i).toNat)
    case atStart => exact ⟨Below.refl _ _, 0, 0, Nat.zero_le _, rfl, rfl, by simp, by omega⟩
    case round =>
      obtain ⟨hbl, k, q, hk, hq, rfl, rfl, hle⟩ := hrel
      have HQ := Lib.hid hq; clear hq
      by_cases hlt : k < xs.length
      · obtain ⟨x, hx⟩ : ∃ x, xs[k]? = some x := ⟨xs[k], List.getElem?_eq_getElem hlt⟩
        obtain ⟨b, o, rfl, hb, hc⟩ := h3 (by omega)
        obtain ⟨va, vf, vs, vr, hcl, hr⟩ := hc k x hx
        have q0 := (hbl.cell (p := ⟨b, o + k * 8, none⟩) hb).trans (hcl 0 _ rfl)
        have q1 := (hbl.cell (p := ⟨b, o + k * 8 + 1, none⟩) hb).trans (hcl 1 _ rfl)
        have q2 := (hbl.cell (p := ⟨b, o + k * 8 + 2, none⟩) hb).trans (hcl 2 _ rfl)
        have q3 := (hbl.cell (p := ⟨b, o + k * 8 + 3, none⟩) hb).trans (hcl 3 _ rfl)
        have q4 := (hbl.cell (p := ⟨b, o + k * 8 + 4, none⟩) hb).trans (hcl 4 _ rfl)
        have q5 := (hbl.cell (p := ⟨b, o + k * 8 + 5, none⟩) hb).trans (hcl 5 _ rfl)
        have q6 := (hbl.cell (p := ⟨b, o + k * 8 + 6, none⟩) hb).trans (hcl 6 _ rfl)
        have q7 := (hbl.cell (p := ⟨b, o + k * 8 + 7, none⟩) hb).trans (hcl 7 _ rfl)
        have HR := Lib.hid ((hr.below hbl).more hbl.size)
        have hnm := HNM.out x (List.mem_of_getElem? hx)
        have HS := Lib.hid (lensI_snoc xs k x hx)
        have HT := Lib.hid (lensI_split xs (k + 1))
        clear h3 hc hr hx hcl
        go_wp2_with fail
        refine (sz_Item x va vf vs vr (left - xs.length - q) wr HR.out hnm (by omega) (by omega)).mono ?_
        rintro e w1 ⟨rfl, hb1⟩
        have hB1 := hbl.trans (hb1.mono hbl.size)
        by_cases hx : (szItem x : Int) ≤ left - xs.length - q
        · have h5 : szR (left - xs.length - q) (szItem x) = left - xs.length - q - szItem x := by unfold szR; rw [if_pos hx]
          rw [h5]
          clear h5
          go_wp2_with fail
          go_roundw
          case rel => exact ⟨hB1, k + 1, q + szItem x, by omega, by rw [HS.out, HQ.out], by go_num, by go_num, by omega⟩
          case measure => simp [intOf]; omega
        · have h5 : szR (left - xs.length - q) (szItem x) = -1 := by unfold szR; rw [if_neg hx]
          rw [h5]
          clear h5
          go_wp2_with fail
          go_ret
          have h6 := HT.out
          have h7 := HS.out
          have h8 := HQ.out
          exact ⟨ret_int (by unfold szR szItems; rw [if_neg (by omega)]), hB1⟩
      · go_wp2
        go_ret
        have h6 := lensI_all xs k (by omega)
        have h8 := HQ.out
        exact ⟨ret_int (by unfold szR szItems; rw [if_pos (by omega)]; omega), hbl⟩
  · have H := Lib.hid (show szR left (szItems xs) = -1 by unfold szR szItems; rw [if_neg (by omega)])
    go_enter Tryz.func12, Tryz.ntmps12
    go_wp2
    go_ret
    exact ⟨ret_int H.out.symm, Below.refl _ _⟩

def EqIRel (n : Nat) (w : World) (i : Value) (wr : World) : Prop := Below w.heap.size w wr ∧ ∃ k : Nat, k ≤ n ∧ i = .int .i64 k
set_option maxRecDepth 100000 in
set_option maxHeartbeats 2000000 in
theorem eq_Items (v v' : Value) (xs : List Item) (w : World) (h : ItemsR w w.heap.size v xs) (h' : ItemsR w w.heap.size v' xs) :
    Calls Tryz.prog 16 #[v, v'] w fun e w' => e = .returned (.bool true) ∧ Below w.heap.size w w' := by
  obtain ⟨A, c, rfl, h1, h2, h3⟩ := h
  obtain ⟨A', c', rfl, h1', h2', h3'⟩ := h'
  unfold maxLen at h2
  go_enter Tryz.func16, Tryz.ntmps16
  go_wp2
  go_loopw [5] (fun i wr => EqIRel xs.length w i wr) (fun i _ => xs.length - (intOf i).toNat)
  case atStart => exact ⟨Below.refl _ _, 0, Nat.zero_le _, rfl⟩
  case round =>
    obtain ⟨hbl, k, hk, rfl⟩ := hrel
    by_cases hlt : k < xs.length
    · obtain ⟨x, hx⟩ : ∃ x, xs[k]? = some x := ⟨xs[k], List.getElem?_eq_getElem hlt⟩
      obtain ⟨b, o, rfl, hb, hc⟩ := h3 (by omega)
      obtain ⟨va, vf, vs, vr, hcl, hr⟩ := hc k x hx
      obtain ⟨b', o', rfl, hb', hc'⟩ := h3' (by omega)
      obtain ⟨va', vf', vs', vr', hcl', hr'⟩ := hc' k x hx
      have q0 := (hbl.cell (p := ⟨b, o + k * 8, none⟩) hb).trans (hcl 0 _ rfl)
      have q1 := (hbl.cell (p := ⟨b, o + k * 8 + 1, none⟩) hb).trans (hcl 1 _ rfl)
      have q2 := (hbl.cell (p := ⟨b, o + k * 8 + 2, none⟩) hb).trans (hcl 2 _ rfl)
      have q3 := (hbl.cell (p := ⟨b, o + k * 8 + 3, none⟩) hb).trans (hcl 3 _ rfl)
      have q4 := (hbl.cell (p := ⟨b, o + k * 8 + 4, none⟩) hb).trans (hcl 4 _ rfl)
      have q5 := (hbl.cell (p := ⟨b, o + k * 8 + 5, none⟩) hb).trans (hcl 5 _ rfl)
      have q6 := (hbl.cell (p := ⟨b, o + k * 8 + 6, none⟩) hb).trans (hcl 6 _ rfl)
      have q7 := (hbl.cell (p := ⟨b, o + k * 8 + 7, none⟩) hb).trans (hcl 7 _ rfl)
      have p0 := (hbl.cell (p := ⟨b', o' + k * 8, none⟩) hb').trans (hcl' 0 _ rfl)
      have p1 := (hbl.cell (p := ⟨b', o' + k * 8 + 1, none⟩) hb').trans (hcl' 1 _ rfl)
      have p2 := (hbl.cell (p := ⟨b', o' + k * 8 + 2, none⟩) hb').trans (hcl' 2 _ rfl)
      have p3 := (hbl.cell (p := ⟨b', o' + k * 8 + 3, none⟩) hb').trans (hcl' 3 _ rfl)
      have p4 := (hbl.cell (p := ⟨b', o' + k * 8 + 4, none⟩) hb').trans (hcl' 4 _ rfl)
      have p5 := (hbl.cell (p := ⟨b', o' + k * 8 + 5, none⟩) hb').trans (hcl' 5 _ rfl)
      have p6 := (hbl.cell (p := ⟨b', o' + k * 8 + 6, none⟩) hb').trans (hcl' 6 _ rfl)
      have p7 := (hbl.cell (p := ⟨b', o' + k * 8 + 7, none⟩) hb').trans (hcl' 7 _ rfl)
      have HR := Lib.hid ((hr.below hbl).more hbl.size)
      have HR' := Lib.hid ((hr'.below hbl).more hbl.size)
      clear h3 hc hr hx hcl h3' hc' hr' hcl'
      go_wp2_with fail
      have hzw := hbl.size
      refine wp_region_held_drew (S := (fun w' => w'.cell? ⟨b, o + k * 8, none⟩ = some (.string x.nm) ∧ w'.cell? ⟨b, o + k * 8 + 1, none⟩ = some (.int .i64 x.n) ∧ w'.cell? ⟨b, o + k * 8 + 2, none⟩ = some va ∧ w'.cell? ⟨b, o + k * 8 + 3, none⟩ = some (.int .i64 x.cl) ∧ w'.cell? ⟨b, o + k * 8 + 4, none⟩ = some (.int .i64 x.lb) ∧ w'.cell? ⟨b, o + k * 8 + 5, none⟩ = some vf ∧ w'.cell? ⟨b, o + k * 8 + 6, none⟩ = some vs ∧ w'.cell? ⟨b, o + k * 8 + 7, none⟩ = some vr ∧ w'.cell? ⟨b', o' + k * 8, none⟩ = some (.string x.nm) ∧ w'.cell? ⟨b', o' + k * 8 + 1, none⟩ = some (.int .i64 x.n) ∧ w'.cell? ⟨b', o' + k * 8 + 2, none⟩ = some va' ∧ w'.cell? ⟨b', o' + k * 8 + 3, none⟩ = some (.int .i64 x.cl) ∧ w'.cell? ⟨b', o' + k * 8 + 4, none⟩ = some (.int .i64 x.lb) ∧ w'.cell? ⟨b', o' + k * 8 + 5, none⟩ = some vf' ∧ w'.cell? ⟨b', o' + k * 8 + 6, none⟩ = some vs' ∧ w'.cell? ⟨b', o' + k * 8 + 7, none⟩ = some vr')) (by kernel_rfl) ?_ (fun hHeld => ?_)
      · go_keep
      refine take_wanted 0 17 (v := ?v100) rfl rfl (by kernel_rfl) (by kernel_rfl) (by kernel_rfl) (fun _ _ _ h => h) (by rfl) ?y100 (by assumption) ?r100
      case y100 => intro w hSw; (try dsimp only at hSw); go_simp <;> with_reducible rfl
      try simp only [Act.put, List.setIfInBounds_toArray, List.set_cons_zero, List.set_cons_succ]
      refine take_wanted 1 18 (v := ?v101) rfl rfl (by kernel_rfl) (by kernel_rfl) (by kernel_rfl) (fun _ _ _ h => h) (by rfl) ?y101 (by assumption) ?r101
      case y101 => intro w hSw; (try dsimp only at hSw); go_simp <;> with_reducible rfl
      try simp only [Act.put, List.setIfInBounds_toArray, List.set_cons_zero, List.set_cons_succ]
      refine take_wanted 2 19 (v := ?v102) rfl rfl (by kernel_rfl) (by kernel_rfl) (by kernel_rfl) (fun _ _ _ h => h) (by rfl) ?y102 (by assumption) ?r102
      case y102 => intro w hSw; (try dsimp only at hSw); go_simp <;> with_reducible rfl
      try simp only [Act.put, List.setIfInBounds_toArray, List.set_cons_zero, List.set_cons_succ]
      refine take_wanted 3 20 (v := ?v103) rfl rfl (by kernel_rfl) (by kernel_rfl) (by kernel_rfl) (fun _ _ _ h => h) (by rfl) ?y103 (by assumption) ?r103
      case y103 => intro w hSw; (try dsimp only at hSw); go_simp <;> with_reducible rfl
      try simp only [Act.put, List.setIfInBounds_toArray, List.set_cons_zero, List.set_cons_succ]
      refine take_wanted 4 21 (v := ?v104) rfl rfl (by kernel_rfl) (by kernel_rfl) (by kernel_rfl) (fun _ _ _ h => h) (by rfl) ?y104 (by assumption) ?r104
      case y104 => intro w hSw; (try dsimp only at hSw); go_simp <;> with_reducible rfl
      try simp only [Act.put, List.setIfInBounds_toArray, List.set_cons_zero, List.set_cons_succ]
      refine take_wanted 5 22 (v := ?v105) rfl rfl (by kernel_rfl) (by kernel_rfl) (by kernel_rfl) (fun _ _ _ h => h) (by rfl) ?y105 (by assumption) ?r105
      case y105 => intro w hSw; (try dsimp only at hSw); go_simp <;> with_reducible rfl
      try simp only [Act.put, List.setIfInBounds_toArray, List.set_cons_zero, List.set_cons_succ]
      refine take_wanted 6 23 (v := ?v106) rfl rfl (by kernel_rfl) (by kernel_rfl) (by kernel_rfl) (fun _ _ _ h => h) (by rfl) ?y106 (by assumption) ?r106
      case y106 => intro w hSw; (try dsimp only at hSw); go_simp <;> with_reducible rfl
      try simp only [Act.put, List.setIfInBounds_toArray, List.set_cons_zero, List.set_cons_succ]
      refine take_wanted 7 24 (v := ?v107) rfl rfl (by kernel_rfl) (by kernel_rfl) (by kernel_rfl) (fun _ _ _ h => h) (by rfl) ?y107 (by assumption) ?r107
      case y107 => intro w hSw; (try dsimp only at hSw); go_simp <;> with_reducible rfl
      try simp only [Act.put, List.setIfInBounds_toArray, List.set_cons_zero, List.set_cons_succ]
      refine take_ready 8 rfl (by kernel_rfl) (fun K hK => ?_)
      go_simp
      (go_at_call 37; refine (eq_Item x _ _ _ _ _ _ _ _ _ (HR.out.up (Below.refl wr.heap.size wr).drew) (HR'.out.up (Below.refl wr.heap.size wr).drew)).mono ?_; rintro e w1 ⟨rfl, hb1⟩; have hB01 := ((Below.refl wr.heap.size wr).drew).trans hb1; have hB1 := hbl.trans (hB01.mono hbl.size); have r0 := (hB01.cell (p := ⟨b, o + k * 8, none⟩) (show b < wr.heap.size by omega)).trans q0; have r1 := (hB01.cell (p := ⟨b, o + k * 8 + 1, none⟩) (show b < wr.heap.size by omega)).trans q1; have r2 := (hB01.cell (p := ⟨b, o + k * 8 + 2, none⟩) (show b < wr.heap.size by omega)).trans q2; have r3 := (hB01.cell (p := ⟨b, o + k * 8 + 3, none⟩) (show b < wr.heap.size by omega)).trans q3; have r4 := (hB01.cell (p := ⟨b, o + k * 8 + 4, none⟩) (show b < wr.heap.size by omega)).trans q4; have r5 := (hB01.cell (p := ⟨b, o + k * 8 + 5, none⟩) (show b < wr.heap.size by omega)).trans q5; have r6 := (hB01.cell (p := ⟨b, o + k * 8 + 6, none⟩) (show b < wr.heap.size by omega)).trans q6; have r7 := (hB01.cell (p := ⟨b, o + k * 8 + 7, none⟩) (show b < wr.heap.size by omega)).trans q7; have t0 := (hB01.cell (p := ⟨b', o' + k * 8, none⟩) (show b' < wr.heap.size by omega)).trans p0; have t1 := (hB01.cell (p := ⟨b', o' + k * 8 + 1, none⟩) (show b' < wr.heap.size by omega)).trans p1; have t2 := (hB01.cell (p := ⟨b', o' + k * 8 + 2, none⟩) (show b' < wr.heap.size by omega)).trans p2; have t3 := (hB01.cell (p := ⟨b', o' + k * 8 + 3, none⟩) (show b' < wr.heap.size by omega)).trans p3; have t4 := (hB01.cell (p := ⟨b', o' + k * 8 + 4, none⟩) (show b' < wr.heap.size by omega)).trans p4; have t5 := (hB01.cell (p := ⟨b', o' + k * 8 + 5, none⟩) (show b' < wr.heap.size by omega)).trans p5; have t6 := (hB01.cell (p := ⟨b', o' + k * 8 + 6, none⟩) (show b' < wr.heap.size by omega)).trans p6; have t7 := (hB01.cell (p := ⟨b', o' + k * 8 + 7, none⟩) (show b' < wr.heap.size by omega)).trans p7)
      refine hK.out _ _ ?_ (fun hHeld => ?_)
      · go_keep
      clear hK K
      try simp only [Act.put, List.setIfInBounds_toArray, List.set_cons_zero, List.set_cons_succ]
      refine take_wanted 9 26 (v := ?v109) rfl rfl (by kernel_rfl) (by kernel_rfl) (by kernel_rfl) (fun _ _ _ h => h) (by rfl) ?y109 (by assumption) ?r109
      case y109 => intro w hSw; (try dsimp only at hSw); go_simp <;> with_reducible rfl
      try simp only [Act.put, List.setIfInBounds_toArray, List.set_cons_zero, List.set_cons_succ]
      refine wpAnyH_done (by kernel_rfl) ?_ _
      go_wp2_with fail
      go_roundw
      case rel => exact ⟨hB1, k + 1, by omega, by go_num⟩
      case measure => simp [intOf]; omega
    · go_wp2
      go_ret
      exact ⟨rfl, hbl⟩

/-! ### Copies -/
theorem itemInfo : (Tryz.prog.info? 38).map (fun i => (i.zero, i.size, i.bytes)) = some (some (.agg #[.string ⟨#[]⟩, .int .i64 0, .slice none 0 0, .int .i64 0, .int .i64 0, .slice none 0 0, .slice none 0 0, .slice none 0 0]), 8, 136) := by kernel_rfl
theorem run_make8 {P : Program} (t e : TypeId) (z : Value) (bytes : Nat) (ht : P.underlying t = some (.slice e)) (hinf : (P.info? e).map (fun i => (i.zero, i.size, i.bytes)) = some (some z, 8, bytes)) (n : Nat)
    (hb : bytes * n ≤ 281474976710656) (h63 : n ≤ 9223372036854775807) (w : World) :
    (Instr.makeSlice t (.int .i64 (n : Int)) (.int .i64 (n : Int))).run P w = .ok (.slice (some ⟨w.heap.size, 0, none⟩) n n) (w.alloc (.cells (madeCells z.cells (n * 8)) e)) := by
  obtain ⟨i, hi, hz0, hz1, hz2⟩ := info_parts hinf
  have hb' : (i.bytes : Int) * (n : Int) ≤ 281474976710656 := by
    rw [hz2]
    have h : ((bytes * n : Nat) : Int) ≤ 281474976710656 := by omega
    rwa [Int.natCast_mul] at h
  have hr := run_make (P := P) w t e i z ht hi hz0 .i64 .i64 n n (by omega) (by omega) hb' (by omega)
  simp only [Int.toNat_natCast] at hr
  rw [hr, hz1]
def put8 (C : Array Value) (o : Nat) (v0 v1 v2 v3 v4 v5 v6 v7 : Value) : Array Value :=
  (((((((C.setIfInBounds o v0).setIfInBounds (o + 1) v1).setIfInBounds (o + 2) v2).setIfInBounds (o + 3) v3).setIfInBounds (o + 4) v4).setIfInBounds (o + 5) v5).setIfInBounds (o + 6) v6).setIfInBounds (o + 7) v7
theorem put8_size (C : Array Value) (o : Nat) (v0 v1 v2 v3 v4 v5 v6 v7 : Value) : (put8 C o v0 v1 v2 v3 v4 v5 v6 v7).size = C.size := by simp [put8]
theorem put8_other (C : Array Value) (o : Nat) (v0 v1 v2 v3 v4 v5 v6 v7 : Value) (i : Nat) (h : i < o ∨ o + 8 ≤ i) : (put8 C o v0 v1 v2 v3 v4 v5 v6 v7)[i]? = C[i]? := by
  unfold put8
  rw [Array.getElem?_setIfInBounds_ne (by omega), Array.getElem?_setIfInBounds_ne (by omega), Array.getElem?_setIfInBounds_ne (by omega), Array.getElem?_setIfInBounds_ne (by omega), Array.getElem?_setIfInBounds_ne (by omega), Array.getElem?_setIfInBounds_ne (by omega), Array.getElem?_setIfInBounds_ne (by omega), Array.getElem?_setIfInBounds_ne (by omega)]
theorem put8_at (C : Array Value) (o : Nat) (v0 v1 v2 v3 v4 v5 v6 v7 : Value) (h : o + 8 ≤ C.size) (i : Nat) (u : Value) (hu : [v0, v1, v2, v3, v4, v5, v6, v7][i]? = some u) : (put8 C o v0 v1 v2 v3 v4 v5 v6 v7)[o + i]? = some u := by
  unfold put8
  match i, hu with
  | 0, hu | 1, hu | 2, hu | 3, hu | 4, hu | 5, hu | 6, hu | 7, hu =>
    simp at hu
    subst hu
    simp [Array.getElem?_setIfInBounds]
    try omega
theorem set8 {w : World} {g : Nat} {C : Array Value} {t : TypeId} {m : Nat × Nat} (h : w.heap[g]? = some (.cells C t m)) (o : Nat) (v0 v1 v2 v3 v4 v5 v6 v7 : Value) :
    ((((((((w.setCell ⟨g, o, none⟩ v0).setCell ⟨g, o + 1, none⟩ v1).setCell ⟨g, o + 2, none⟩ v2).setCell ⟨g, o + 3, none⟩ v3).setCell ⟨g, o + 4, none⟩ v4).setCell ⟨g, o + 5, none⟩ v5).setCell ⟨g, o + 6, none⟩ v6).setCell ⟨g, o + 7, none⟩ v7).heap[g]? = some (.cells (put8 C o v0 v1 v2 v3 v4 v5 v6 v7) t m) :=
  heap_set_same (heap_set_same (heap_set_same (heap_set_same (heap_set_same (heap_set_same (heap_set_same (heap_set_same h v0) v1) v2) v3) v4) v5) v6) v7
def ItemAt (w : World) (g : Nat) (C : Array Value) (j : Nat) (x : Item) : Prop :=
  ∃ va vf vs vr bs, (∀ i u, (itemL x va vf vs vr)[i]? = some u → C[j * 8 + i]? = some u) ∧ OwnItem w x va vf vs vr bs ∧ bs.Nodup ∧ (∀ b ∈ bs, g < b ∧ b < w.heap.size)
def ToIRel (xs : List Item) (w : World) (i : Value) (wr : World) : Prop :=
  ∃ (k : Nat) (C : Array Value), k ≤ xs.length ∧ i = .int .i64 k ∧ wr.heap[w.heap.size]? = some (.cells C 38 (0, 0)) ∧ C.size = xs.length * 8 ∧ Below w.heap.size w wr ∧
    ∀ j x, j < k → xs[j]? = some x → ItemAt wr w.heap.size C j x
set_option maxRecDepth 100000 in
set_option maxHeartbeats 2000000 in
theorem to_Items (v : Value) (xs : List Item) (w : World) (h : ItemsR w w.heap.size v xs) (hn : szItems xs ≤ 1048576) :
    Calls Tryz.prog 14 #[v] w fun e w' => ∃ v', e = .returned v' ∧ ItemsR w' w'.heap.size v' xs ∧ Below w.heap.size w w' := by
  obtain ⟨A, c, rfl, h1, h2, h3⟩ := h
  have hn' : xs.length ≤ 1048576 := by unfold szItems at hn; omega
  have HSZ := Lib.hid (show ∀ x ∈ xs, szItem x ≤ 1048576 from fun x hx => by have := lensI_mem hx; unfold szItems at hn; omega)
  clear hn
  have hmk := fun W => run_make8 (P := Tryz.prog) 47 38 _ 136 Tryz.underlying47 itemInfo xs.length (by omega) (by omega) W
  go_enter Tryz.func14, Tryz.ntmps14
  go_wp2
  clear hmk
  go_loopw [4] (fun i wr => ToIRel xs w i wr) (fun i _ => xs.length - (intOf i).toNat)
  case atStart => exact ⟨0, _, Nat.zero_le _, rfl, heap_alloc_new w _, by simp [madeCells], bl_alloc (Below.refl _ _) _, fun j x hj => by omega⟩
  case round =>
    obtain ⟨k, C, hk, rfl, hblk, hC, hbl, hits⟩ := hrel
    have hsz := hbl.size
    have hgt : w.heap.size < wr.heap.size := by
      rcases Nat.lt_or_ge w.heap.size wr.heap.size with h | h
      · exact h
      · rw [Array.getElem?_eq_none h] at hblk; cases hblk
    have HI := Lib.hid hits; clear hits
    have HB := Lib.hid hblk; clear hblk
    have HC := Lib.hid hC; clear hC
    by_cases hlt : k < xs.length
    · obtain ⟨x, hx⟩ : ∃ x, xs[k]? = some x := ⟨xs[k], List.getElem?_eq_getElem hlt⟩
      obtain ⟨b, o, rfl, hb, hc⟩ := h3 (by omega)
      obtain ⟨va, vf, vs, vr, hcl, hr⟩ := hc k x hx
      have q0 := (hbl.cell (p := ⟨b, o + k * 8, none⟩) hb).trans (hcl 0 _ rfl)
      have q1 := (hbl.cell (p := ⟨b, o + k * 8 + 1, none⟩) hb).trans (hcl 1 _ rfl)
      have q2 := (hbl.cell (p := ⟨b, o + k * 8 + 2, none⟩) hb).trans (hcl 2 _ rfl)
      have q3 := (hbl.cell (p := ⟨b, o + k * 8 + 3, none⟩) hb).trans (hcl 3 _ rfl)
      have q4 := (hbl.cell (p := ⟨b, o + k * 8 + 4, none⟩) hb).trans (hcl 4 _ rfl)
      have q5 := (hbl.cell (p := ⟨b, o + k * 8 + 5, none⟩) hb).trans (hcl 5 _ rfl)
      have q6 := (hbl.cell (p := ⟨b, o + k * 8 + 6, none⟩) hb).trans (hcl 6 _ rfl)
      have q7 := (hbl.cell (p := ⟨b, o + k * 8 + 7, none⟩) hb).trans (hcl 7 _ rfl)
      have HR := Lib.hid ((hr.below hbl).more hbl.size)
      have hxz := HSZ.out x (List.mem_of_getElem? hx)
      have HX := Lib.hid hx
      clear h3 hc hr hx hcl
      go_wp2_with fail
      refine (to_Item x va vf vs vr wr HR.out hxz).mono ?_
      rintro e w1 ⟨va', vf', vs', vr', bs, rfl, ho, hnd, hbs, hb1⟩
      have hblk1 : w1.heap[w.heap.size]? = some (.cells C 38 (0, 0)) := (hb1.block _ hgt).trans HB.out
      have hcell : ∀ j, j < 8 → ∃ u, w1.cell? ⟨w.heap.size, k * 8 + j, none⟩ = some u := by
        intro j hj
        rw [cell_of_row w1 _ (k * 8 + j) _ _ (0, 0) hblk1, Array.getElem?_eq_getElem (by rw [HC.out]; omega)]
        exact ⟨_, rfl⟩
      have hfr : ∀ j, w1.frozen? ⟨w.heap.size, j, none⟩ = false := by intro j; simp [World.frozen?, hblk1]
      obtain ⟨o0, z0⟩ := hcell 0 (by omega)
      obtain ⟨o1, z1⟩ := hcell 1 (by omega)
      obtain ⟨o2, z2⟩ := hcell 2 (by omega)
      obtain ⟨o3, z3⟩ := hcell 3 (by omega)
      obtain ⟨o4, z4⟩ := hcell 4 (by omega)
      obtain ⟨o5, z5⟩ := hcell 5 (by omega)
      obtain ⟨o6, z6⟩ := hcell 6 (by omega)
      obtain ⟨o7, z7⟩ := hcell 7 (by omega)
      rw [Nat.add_zero] at z0
      have y0 := hfr (k * 8)
      have y1 := hfr (k * 8 + 1)
      have y2 := hfr (k * 8 + 2)
      have y3 := hfr (k * 8 + 3)
      have y4 := hfr (k * 8 + 4)
      have y5 := hfr (k * 8 + 5)
      have y6 := hfr (k * 8 + 6)
      have y7 := hfr (k * 8 + 7)
      clear hcell hfr
      obtain ⟨A1, m1, k1, rfl⟩ := (ho.reads (B := w1.heap.size) (fun b hb => (hbs b hb).2)).a.isSlice'
      obtain ⟨A2, m2, k2, rfl⟩ := (ho.reads (B := w1.heap.size) (fun b hb => (hbs b hb).2)).f.isSlice
      obtain ⟨A3, m3, k3, rfl⟩ := (ho.reads (B := w1.heap.size) (fun b hb => (hbs b hb).2)).s.isSlice
      obtain ⟨A4, m4, k4, rfl⟩ := (ho.reads (B := w1.heap.size) (fun b hb => (hbs b hb).2)).r.isSlice'
      have hB1 := hbl.trans (hb1.mono hsz)
      have HB1 := Lib.hid hblk1; clear hblk1
      have HO := Lib.hid ho; clear ho
      go_wp2_with fail
      go_roundw
      case rel =>
        refine ⟨k + 1, _, by omega, by go_num, set8 HB1.out (k * 8) _ _ _ _ _ _ _ _, by rw [put8_size]; exact HC.out, ?_, fun j y hj hy => ?_⟩
        · iterate 8 (refine Below.setCell ?_ (by simp) _)
          exact hB1
        · have hkeep : ∀ (p : List Nat), (∀ b ∈ p, w.heap.size < b) → ∀ b ∈ p, ((((((((w1.setCell ⟨w.heap.size, k * 8, none⟩ (.string x.nm)).setCell ⟨w.heap.size, k * 8 + 1, none⟩ (.int .i64 x.n)).setCell ⟨w.heap.size, k * 8 + 2, none⟩ (.slice A1 m1 k1)).setCell ⟨w.heap.size, k * 8 + 3, none⟩ (.int .i64 x.cl)).setCell ⟨w.heap.size, k * 8 + 4, none⟩ (.int .i64 x.lb)).setCell ⟨w.heap.size, k * 8 + 5, none⟩ (.slice A2 m2 k2)).setCell ⟨w.heap.size, k * 8 + 6, none⟩ (.slice A3 m3 k3)).setCell ⟨w.heap.size, k * 8 + 7, none⟩ (.slice A4 m4 k4)).heap[b]? = w1.heap[b]? := by
            intro p hp b hb
            have := hp b hb
            iterate 8 rw [Below.heap_setCell _ _ _ _ (by simp; omega)]
          by_cases hjk : j < k
          · obtain ⟨ua, uf, us, ur, p, hcs, hown, hnd', hps⟩ := HI.out j y hjk hy
            refine ⟨ua, uf, us, ur, p, fun i u hu => ?_, ?_, hnd', fun b hb => ?_⟩
            · have hi : i < 8 := (List.getElem?_eq_some_iff.1 hu).1
              rw [put8_other _ _ _ _ _ _ _ _ _ _ _ (by omega)]
              exact hcs i u hu
            · exact (hown.keep fun b hb => hb1.block b (hps b hb).2).keep (hkeep p fun b hb => (hps b hb).1)
            · have := hps b hb
              have := hb1.size
              simp only [size_setCell]
              omega
          · obtain rfl : j = k := by omega
            have e : x = y := Option.some.inj (HX.out.symm.trans hy)
            subst e
            refine ⟨_, _, _, _, bs, fun i u hu => put8_at _ _ _ _ _ _ _ _ _ _ (by rw [HC.out]; omega) i u hu, HO.out.keep (hkeep bs fun b hb => by have := hbs b hb; omega), hnd, fun b hb => ?_⟩
            have := hbs b hb
            simp only [size_setCell]
            omega
      case measure => simp [intOf]; omega
    · go_wp2
      go_ret
      refine ⟨_, rfl, ⟨_, _, rfl, by omega, by unfold maxLen; omega, fun hpos => ⟨w.heap.size, 0, rfl, hgt, fun j x hx => ?_⟩⟩, hbl⟩
      obtain ⟨va, vf, vs, vr, bs, hc, ho, hnd, hbs⟩ := HI.out j x (by have := (List.getElem?_eq_some_iff.1 hx).1; omega) hx
      refine ⟨va, vf, vs, vr, fun i u hu => ?_, ho.reads fun b hb => (hbs b hb).2⟩
      rw [Nat.zero_add, cell_of_row wr _ (j * 8 + i) _ _ (0, 0) HB.out]
      exact hc i u hu
end Go.Proofs.YtbchhehecdoonaaGreatDoor
