/-
  Small lemmas and contracts that the texts of this claim share. No condition.
-/
import Derived.Test.YtjklbjmdgiddcaaGreatEMaySpecG
import Derived.Test.YtjklbjmdgiddcaaGreatEArgsM
import Derived.Deep.Slices
import Derived.Deep.Matrix
import Derived.Deep.Fields
namespace Go.Proofs.YtjklbjmdgiddcaaGreat
open Go.RowKit
set_option linter.all false
def ActsB (w : World) (S : Nat → Prop) (v : Value) (ys : List Acts) : Prop :=
  ∃ A c, v = .slice A ys.length c ∧ ys.length ≤ c ∧ c ≤ maxLen ∧ (0 < ys.length → ∃ b o, A = some ⟨b, o, none⟩ ∧ S b ∧
    ∀ k a, ys[k]? = some a → w.cell? ⟨b, o + k * 4, none⟩ = some (.int .i64 a.kind) ∧ w.cell? ⟨b, o + k * 4 + 1, none⟩ = some (.int .i64 a.node) ∧ w.cell? ⟨b, o + k * 4 + 2, none⟩ = some (.int .i64 a.port) ∧ w.cell? ⟨b, o + k * 4 + 3, none⟩ = some (.int .i64 a.at_))
theorem ActsB.up {w w' : World} {v : Value} {ys : List Acts} (h : ActsB w (· < w.heap.size) v ys) (hb : Below w.heap.size w w') : ActsB w' (· < w'.heap.size) v ys := by obtain ⟨A, c, e, h1, h2, h3⟩ := h;refine ⟨A, c, e, h1, h2, fun hn => ?_⟩;obtain ⟨b, o, e2, hB, hc⟩ := h3 hn;refine ⟨b, o, e2, Nat.lt_of_lt_of_le hB hb.size, fun k a ha => ?_⟩;obtain ⟨k0, k1, k2, k3⟩ := hc k a ha;exact ⟨(hb.cell (p := ⟨b, o + k * 4, none⟩) hB).trans k0, (hb.cell (p := ⟨b, o + k * 4 + 1, none⟩) hB).trans k1, (hb.cell (p := ⟨b, o + k * 4 + 2, none⟩) hB).trans k2, (hb.cell (p := ⟨b, o + k * 4 + 3, none⟩) hB).trans k3⟩
theorem ActsB.isSlice {w : World} {S : Nat → Prop} {v : Value} {ys : List Acts} (h : ActsB w S v ys) : ∃ A c, v = .slice A ys.length c := by obtain ⟨A, c, e, -⟩ := h;exact ⟨A, c, e⟩
theorem ActsR.reads {w : World} {base : Nat} {v : Value} {ys : List Acts} (h : ActsR w base v ys) : ActsB w (· < w.heap.size) v ys := by
  have h0 := h;rcases h.2 with ⟨e, e0⟩ | ⟨g, cap, cur, e, hb, hg, hn, hm, hs, ht⟩
  · exact ⟨none, 0, by rw [e, e0], by omega, Nat.zero_le _, fun hn => by omega⟩
  · refine ⟨some ⟨g, 0, none⟩, cap, e, hn, hm, fun _ => ⟨g, 0, rfl, (Array.getElem?_eq_some_iff.1 hg).1, fun k a ha => ?_⟩⟩
    obtain ⟨g', cap', e', -, -, -, k0, k1, k2, k3⟩ := ActsR.read h0 ha;rw [e] at e';obtain ⟨e1, -, -⟩ := Value.slice.inj e';obtain rfl : g = g' := by injection (Option.some.inj e1)
    rw [Nat.zero_add];exact ⟨k0, k1, k2, k3⟩
theorem ActsR.p {w : World} {g hi B : Nat} {v : Value} {ys : List Acts} (h : ActsR w B v ys) (hg : g < B) (hh : w.heap.size ≤ hi) : IntP g hi 4 w v (ys.length * 4) := by
  have h0 := h;rcases h.2 with ⟨e, e0⟩ | ⟨b, cap, cur, e, hb, hb2, hn, hm, hs, ht⟩
  · exact ⟨ys.length, none, 0, rfl, by rw [e, e0], by omega, Nat.zero_le _, fun hn => by omega⟩
  · have hlt := (Array.getElem?_eq_some_iff.1 hb2).1
    refine ⟨ys.length, _, cap, rfl, e, hn, hm, fun _ => ⟨b, 0, rfl, ⟨by omega, by omega, cur, _, hb2⟩, fun j hj => ?_⟩⟩;obtain ⟨a, ha⟩ : ∃ a, ys[j / 4]? = some a := ⟨_, List.getElem?_eq_getElem (by omega)⟩
    obtain ⟨g', cap', e', -, -, -, k0, k1, k2, k3⟩ := ActsR.read h0 ha;rw [e] at e';obtain ⟨e1, -, -⟩ := Value.slice.inj e';obtain rfl : b = g' := by injection (Option.some.inj e1)
    rw [Nat.zero_add];rcases (show j = j / 4 * 4 ∨ j = j / 4 * 4 + 1 ∨ j = j / 4 * 4 + 2 ∨ j = j / 4 * 4 + 3 by omega) with h | h | h | h
    · exact ⟨_, by rw [h]; exact k0⟩
    · exact ⟨_, by rw [h]; exact k1⟩
    · exact ⟨_, by rw [h]; exact k2⟩
    · exact ⟨_, by rw [h]; exact k3⟩
theorem sz_ActS (A : Option Addr) (n c : Nat) (left : Int) (w : World) (hn : n ≤ maxLen) (hl : 0 ≤ left) (hl' : left ≤ 1048576) :
    Calls Tryz.prog 8 #[.slice A n c, .int .i64 left] w fun e w' => e = .returned (.int .i64 (szR left n)) ∧ w = w' := by
  unfold maxLen at hn;go_enter Tryz.func8, Tryz.ntmps8;go_wp2
  all_goals
    go_ret;exact ⟨ret_int (by unfold szR; split <;> omega), rfl⟩
theorem to_ActA (ak an ap aa : Int) (w : World) :
    Calls Tryz.prog 42 #[.agg #[.int .i64 ak, .int .i64 an, .int .i64 ap, .int .i64 aa]] w fun e w' => e = .returned (.agg #[.int .i64 ak, .int .i64 an, .int .i64 ap, .int .i64 aa]) ∧ Below w.heap.size w w' := by
  go_enter Tryz.func42, Tryz.ntmps42;go_wp2;refine bodyPost_ret (v := .agg #[.int .i64 ak, .int .i64 an, .int .i64 ap, .int .i64 aa]) (by simp [results, Tryz.results42, go_sem]) rfl ⟨rfl, ?_⟩
  repeat (first | exact Below.refl _ _ | refine Below.drew ?_ | refine bl_alloc ?_ _ | refine Below.setCell ?_ (by simp <;> omega) _)
theorem eq_Act (x : Acts) (w : World) :
    Calls Tryz.prog 51 #[.agg #[.int .i64 x.kind, .int .i64 x.node, .int .i64 x.port, .int .i64 x.at_], .agg #[.int .i64 x.kind, .int .i64 x.node, .int .i64 x.port, .int .i64 x.at_]] w fun e w' => e = .returned (.bool true) ∧ Below w.heap.size w w' := by
  go_enter Tryz.func51, Tryz.ntmps51;go_wp2;go_ret;exact ⟨rfl, (by repeat (first | exact Below.refl _ _ | refine Below.drew ?_ | refine bl_alloc ?_ _ | refine Below.setCell ?_ (by simp <;> omega) _))⟩
theorem ActsB.len {w : World} {S : Nat → Prop} {v : Value} {ys : List Acts} (h : ActsB w S v ys) : ys.length ≤ maxLen := by obtain ⟨A, c, -, h1, h2, -⟩ := h;omega
theorem eq_ActS (v v' : Value) (ys : List Acts) (w : World) (h : ActsB w (· < w.heap.size) v ys) (h' : ActsB w (· < w.heap.size) v' ys) :
  Calls Tryz.prog 19 #[v, v'] w fun e w' => e = .returned (.bool true) ∧ Below w.heap.size w w' := by
 obtain ⟨A, c, rfl, h1, h2, h3⟩ := h;obtain ⟨A', c', rfl, h1', h2', h3'⟩ := h';unfold maxLen at h2;go_enter Tryz.func19, Tryz.ntmps19;go_wp2;go_loopw [5] (fun i wr => EqERel ys.length w i wr) (fun i _ => ys.length - (intOf i).toNat)
 case atStart => exact ⟨Below.refl _ _, 0, Nat.zero_le _, rfl⟩
 case round =>
  obtain ⟨hbl, k, hk, rfl⟩ := hrel;by_cases hlt : k < ys.length
  ·
   obtain ⟨x, hx⟩ : ∃ x, ys[k]? = some x := ⟨ys[k], List.getElem?_eq_getElem hlt⟩
   obtain ⟨b, o, rfl, hb, hc⟩ := h3 (by omega);obtain ⟨b', o', rfl, hb', hc'⟩ := h3' (by omega);obtain ⟨c0, c1, c2, c3⟩ := hc k x hx;obtain ⟨d0, d1, d2, d3⟩ := hc' k x hx;have q0 := (hbl.cell (p := ⟨b, o + k * 4, none⟩) hb).trans c0;have q1 := (hbl.cell (p := ⟨b, o + k * 4 + 1, none⟩) hb).trans c1;have q2 := (hbl.cell (p := ⟨b, o + k * 4 + 2, none⟩) hb).trans c2;have q3 := (hbl.cell (p := ⟨b, o + k * 4 + 3, none⟩) hb).trans c3;have p0 := (hbl.cell (p := ⟨b', o' + k * 4, none⟩) hb').trans d0;have p1 := (hbl.cell (p := ⟨b', o' + k * 4 + 1, none⟩) hb').trans d1;have p2 := (hbl.cell (p := ⟨b', o' + k * 4 + 2, none⟩) hb').trans d2;have p3 := (hbl.cell (p := ⟨b', o' + k * 4 + 3, none⟩) hb').trans d3;have hzw := hbl.size;clear h3 hc hx h3' hc' c0 c1 c2 c3 d0 d1 d2 d3;go_wp2_with fail;refine wp_region_held_drew (S := fun w' => Below wr.heap.size wr w') (by kernel_rfl) ?_ (fun hHeld => ?_)
   · exact (Below.refl _ _).drew
   refine tk 0 17 rfl rfl ?_;refine tk 1 18 rfl rfl ?_;refine tk 2 19 rfl rfl ?_
   refine tk 3 20 rfl rfl ?_ (hy := fun w5 hSw => by
    have r0 := (hSw.cell (p := ⟨b, o + k * 4, none⟩) (show b < wr.heap.size by omega)).trans q0;have r1 := (hSw.cell (p := ⟨b, o + k * 4 + 1, none⟩) (show b < wr.heap.size by omega)).trans q1;have r2 := (hSw.cell (p := ⟨b, o + k * 4 + 2, none⟩) (show b < wr.heap.size by omega)).trans q2;have r3 := (hSw.cell (p := ⟨b, o + k * 4 + 3, none⟩) (show b < wr.heap.size by omega)).trans q3
    go_simp <;> with_reducible rfl)
   refine tk 4 21 rfl rfl ?_;refine tk 5 22 rfl rfl ?_;refine tk 6 23 rfl rfl ?_
   refine tk 7 24 rfl rfl ?_ (hy := fun w5 hSw => by
    have r0 := (hSw.cell (p := ⟨b', o' + k * 4, none⟩) (show b' < wr.heap.size by omega)).trans p0;have r1 := (hSw.cell (p := ⟨b', o' + k * 4 + 1, none⟩) (show b' < wr.heap.size by omega)).trans p1;have r2 := (hSw.cell (p := ⟨b', o' + k * 4 + 2, none⟩) (show b' < wr.heap.size by omega)).trans p2;have r3 := (hSw.cell (p := ⟨b', o' + k * 4 + 3, none⟩) (show b' < wr.heap.size by omega)).trans p3
    go_simp <;> with_reducible rfl)
   try simp only [Act.put, pu]
   refine tr 8 rfl (by kernel_rfl) (fun K hK => ?_);go_simp;go_at_call 51;refine (eq_Act x _).mono ?_;rintro e w1 ⟨rfl, hb1⟩;have hB01 := ((Below.refl wr.heap.size wr).drew).trans hb1;have hB1 := hbl.trans (hB01.mono hbl.size);refine hK.out _ _ hB01 (fun hHeld => ?_);clear hK K
   try simp only [Act.put, pu]
   refine stk 9 26 ?_;refine wpAnyH_done (by kernel_rfl) ?_ _;go_wp2_with fail;go_roundw
   case rel => exact ⟨hB1, k + 1, by omega, by go_num⟩
   case measure => simp [intOf]; omega
  · go_wp2;go_ret;exact ⟨rfl, hbl⟩
theorem run_make4 {P : Program} (t e : TypeId) (z : Value) (bytes : Nat) (ht : P.underlying t = some (.slice e)) (hinf : (P.info? e).map (fun i => (i.zero, i.size, i.bytes)) = some (some z, 4, bytes)) (n : Nat)
    (hb : bytes * n ≤ 281474976710656) (h63 : n ≤ 9223372036854775807) (w : World) :
    (Instr.makeSlice t (.int .i64 (n : Int)) (.int .i64 (n : Int))).run P w = .ok (.slice (some ⟨w.heap.size, 0, none⟩) n n) (w.alloc (.cells (madeCells z.cells (n * 4)) e)) := by
  obtain ⟨i, hi, hz0, hz1, hz2⟩ := info_parts hinf;have hb' : (i.bytes : Int) * (n : Int) ≤ 281474976710656 := by
    rw [hz2];have h : ((bytes * n : Nat) : Int) ≤ 281474976710656 := by omega
    rwa [Int.natCast_mul] at h
  have hr := run_make (P := P) w t e i z ht hi hz0 .i64 .i64 n n (by omega) (by omega) hb' (by omega);simp only [Int.toNat_natCast] at hr;rw [hr, hz1]
def ActsTo (ys : List Acts) (C : Array Value) (k : Nat) : Prop := ∀ j a, j < k → ys[j]? = some a → C[j * 4]? = some (.int .i64 a.kind) ∧ C[j * 4 + 1]? = some (.int .i64 a.node) ∧ C[j * 4 + 2]? = some (.int .i64 a.port) ∧ C[j * 4 + 3]? = some (.int .i64 a.at_)
theorem ActsTo.next {ys : List Acts} {C : Array Value} {k : Nat} {x : Acts} (h : ActsTo ys C k) (hx : ys[k]? = some x) (hC : C.size = ys.length * 4) (hk : k < ys.length) :
    ActsTo ys ((((C.setIfInBounds (k * 4) (.int .i64 x.kind)).setIfInBounds (k * 4 + 1) (.int .i64 x.node)).setIfInBounds (k * 4 + 2) (.int .i64 x.port)).setIfInBounds (k * 4 + 3) (.int .i64 x.at_)) (k + 1) := by
  intro j e hj he;by_cases hjk : j = k
  · subst hjk
    rw [hx] at he;obtain rfl := Option.some.inj he;simp only [Array.getElem?_setIfInBounds, Array.size_setIfInBounds];refine ⟨?_, ?_, ?_, ?_⟩ <;> (repeat (first | rw [if_pos trivial] | rw [if_pos (by omega)] | rw [if_neg (by omega)])) <;> rfl
  · obtain ⟨k0, k1, k2, k3⟩ := h j e (by omega) he
    simp only [Array.getElem?_setIfInBounds];refine ⟨?_, ?_, ?_, ?_⟩ <;> (repeat rw [if_neg (by omega)]) <;> assumption
def ToARel (ys : List Acts) (w : World) (i : Value) (wr : World) : Prop :=
  ∃ (k : Nat) (C : Array Value), k ≤ ys.length ∧ i = .int .i64 k ∧ wr.heap[w.heap.size]? = some (.cells C 84 (0, 0)) ∧ C.size = ys.length * 4 ∧ Below w.heap.size w wr ∧ w.heap.size < wr.heap.size ∧ ActsTo ys C k
theorem actCells_of {ys : List Acts} {C : Array Value} (h : ActsTo ys C ys.length) (hC : C.size = ys.length * 4) : C.toList.take (ys.length * 4) = actCells ys := by
  rw [List.take_of_length_le (by rw [Array.length_toList]; omega)];refine List.ext_getElem? fun j => ?_
  rw [Array.getElem?_toList];by_cases hj : j < ys.length * 4
  · obtain ⟨a, ha⟩ : ∃ a, ys[j / 4]? = some a := ⟨_, List.getElem?_eq_getElem (by omega)⟩
    obtain ⟨k0, k1, k2, k3⟩ := h (j / 4) a (by omega) ha;rcases (show j = j / 4 * 4 + 0 ∨ j = j / 4 * 4 + 1 ∨ j = j / 4 * 4 + 2 ∨ j = j / 4 * 4 + 3 by omega) with e | e | e | e
    · rw [e, actCells_at ha 0 (by omega)]; exact k0
    · rw [e, actCells_at ha 1 (by omega)]; exact k1
    · rw [e, actCells_at ha 2 (by omega)]; exact k2
    · rw [e, actCells_at ha 3 (by omega)]; exact k3
  · rw [Array.getElem?_eq_none (by omega), List.getElem?_eq_none (by rw [actCells_len]; omega)]
theorem to_ActS (v : Value) (ys : List Acts) (w : World) (h : ActsB w (· < w.heap.size) v ys) (hn : ys.length ≤ 1048576) :
  Calls Tryz.prog 13 #[v] w fun e w' => ∃ v', e = .returned v' ∧ (∃ A c, v' = .slice A ys.length c) ∧ ActsR w' w.heap.size v' ys ∧ Below w.heap.size w w' ∧ w.heap.size < w'.heap.size := by
 obtain ⟨A, c, rfl, h1, h2, h3⟩ := h;have hmk := fun W => run_make4 (P := Tryz.prog) 53 84 _ 32 Tryz.underlying53 actInfo ys.length (by omega) (by omega) W
 go_enter Tryz.func13, Tryz.ntmps13;go_wp2;clear hmk;go_loopw [4] (fun i wr => ToARel ys w i wr) (fun i _ => ys.length - (intOf i).toNat)
 case atStart => exact ⟨0, _, Nat.zero_le _, rfl, heap_alloc_new w _, by simp [madeCells], bl_alloc (Below.refl _ _) _, by simp, fun j x hj => by omega⟩
 case round =>
  obtain ⟨k, C, hk, rfl, hblk, hC, hbl, hgt, hits⟩ := hrel;have hsz := hbl.size;have HI := Lib.hid hits; clear hits;have HB := Lib.hid hblk; clear hblk;have HC := Lib.hid hC; clear hC;by_cases hlt : k < ys.length
  ·
   obtain ⟨x, hx⟩ : ∃ x, ys[k]? = some x := ⟨ys[k], List.getElem?_eq_getElem hlt⟩
   obtain ⟨b, o, rfl, hb, hc⟩ := h3 (by omega);obtain ⟨c0, c1, c2, c3⟩ := hc k x hx;have q0 := (hbl.cell (p := ⟨b, o + k * 4, none⟩) hb).trans c0;have q1 := (hbl.cell (p := ⟨b, o + k * 4 + 1, none⟩) hb).trans c1;have q2 := (hbl.cell (p := ⟨b, o + k * 4 + 2, none⟩) hb).trans c2;have q3 := (hbl.cell (p := ⟨b, o + k * 4 + 3, none⟩) hb).trans c3;have HX := Lib.hid hx;clear h3 hc hx c0 c1 c2 c3;go_wp2_with fail;refine (to_ActA x.kind x.node x.port x.at_ wr).mono ?_;rintro e w1 ⟨rfl, hb1⟩;have hblk1 : w1.heap[w.heap.size]? = some (.cells C 84 (0, 0)) := (hb1.block _ hgt).trans HB.out;have hcell : ∀ j, j < 4 → ∃ u, w1.cell? ⟨w.heap.size, k * 4 + j, none⟩ = some u := by intro j hj;rw [cell_of_row w1 _ (k * 4 + j) _ _ (0, 0) hblk1, Array.getElem?_eq_getElem (by rw [HC.out]; omega)];exact ⟨_, rfl⟩
   have hfr : ∀ j, w1.frozen? ⟨w.heap.size, j, none⟩ = false := by intro j; simp [World.frozen?, hblk1]
   obtain ⟨o0, z0⟩ := hcell 0 (by omega);obtain ⟨o1, z1⟩ := hcell 1 (by omega);obtain ⟨o2, z2⟩ := hcell 2 (by omega);obtain ⟨o3, z3⟩ := hcell 3 (by omega);rw [Nat.add_zero] at z0;have y0 := hfr (k * 4);have y1 := hfr (k * 4 + 1);have y2 := hfr (k * 4 + 2);have y3 := hfr (k * 4 + 3);clear hcell hfr;have hB1 := hbl.trans (hb1.mono hsz);have hgt1 : w.heap.size < w1.heap.size := by have := hb1.size; omega
   have HB1 := Lib.hid hblk1; clear hblk1;go_wp2_with fail;go_roundw
   case rel =>
    refine ⟨k + 1, _, by omega, by go_num, heap_set_same (heap_set_same (heap_set_same (heap_set_same HB1.out _) _) _) _, by simp [HC.out], ?_, by simp only [size_setCell]; exact hgt1, HI.out.next HX.out HC.out hlt⟩
    iterate 4 (refine Below.setCell ?_ (by simp) _)
    exact hB1
   case measure => simp [intOf]; omega
  ·
   obtain rfl : k = ys.length := by omega
   go_wp2;go_ret;refine ⟨_, rfl, ⟨_, _, rfl⟩, ⟨actCells_len ys, .inr ⟨w.heap.size, ys.length, C, rfl, Nat.le_refl _, HB.out, Nat.le_refl _, by unfold maxLen; omega, HC.out, actCells_of HI.out HC.out⟩⟩, hbl, hgt⟩
theorem mark_ActP (g hi : Nat) : Marks 23 g hi (IntP g hi 4) := fun v N k w h h0 h1 => by
 have HP := Lib.hid h;obtain ⟨n, A0, c, rfl, rfl, hc1, hc2, -⟩ := h;unfold maxLen at hc2;go_enter Tryz.func23, Tryz.ntmps23;go_wp2_with fail;go_loopw [1, 5] (fun kv i wr => MrRel n k g hi 4 w kv i wr) (fun _ i _ => n - (intOf i).toNat)
 case atStart => exact ⟨0, Nat.zero_le _, rfl, by simp, Wr.refl _ _ _⟩
 case round =>
  obtain ⟨j, hj, rfl, rfl, hw⟩ := hrel;have HW := Lib.hid hw; clear hw;by_cases hlt : j < n
  ·
   obtain ⟨n', A1, c1, e1, e2, -, -, h3⟩ := IntP.keeps g hi 4 _ _ _ _ HP.out HW.out;cases e2;obtain ⟨b, o, rfl, hf, hcs⟩ := h3 (by omega);obtain ⟨p0, hq0⟩ := hcs (j * 4) (by omega);obtain ⟨p1, hq1⟩ := hcs (j * 4 + 1) (by omega);obtain ⟨p2, hq2⟩ := hcs (j * 4 + 2) (by omega);obtain ⟨p3, hq3⟩ := hcs (j * 4 + 3) (by omega);rw [← Nat.add_assoc] at hq1 hq2 hq3;obtain ⟨kk, hkk⟩ : ∃ z, z = k + ((j * 4 : Nat) : Int) := ⟨_, rfl⟩
   rw [← hkk];have f0 := hf.free;have s0 := Wr.set kk hf hq0;have F1 := hf.wr s0;have f1 := F1.free;obtain ⟨p1', r1⟩ := s0.num hq1;have s1 := Wr.set (kk + 1) F1 r1;have F2 := F1.wr s1;have f2 := F2.free;obtain ⟨p2', r2⟩ := (s0.trans s1).num hq2;have s2 := Wr.set (kk + 1 + 1) F2 r2;have F3 := F2.wr s2;have f3 := F3.free;obtain ⟨p3', r3⟩ := ((s0.trans s1).trans s2).num hq3;have s3 := Wr.set (kk + 1 + 1 + 1) F3 r3;have HS := Lib.hid (((s0.trans s1).trans s2).trans s3);have hw1 : IntKind.i64.wrap (kk + 1) = kk + 1 := IntWalk.i64_in _ (by omega);have hw2 : IntKind.i64.wrap (kk + 1 + 1) = kk + 1 + 1 := IntWalk.i64_in _ (by omega);have hw3 : IntKind.i64.wrap (kk + 1 + 1 + 1) = kk + 1 + 1 + 1 := IntWalk.i64_in _ (by omega);have hw4 : IntKind.i64.wrap (kk + 1 + 1 + 1 + 1) = kk + 1 + 1 + 1 + 1 := IntWalk.i64_in _ (by omega);clear hcs hf h3 e1 s0 s1 s2 s3 F1 F2 F3;have HKK := Lib.hid hkk; clear hkk;go_wp2_with fail;go_roundw
   case rel => exact ⟨j + 1, by omega, by go_num, by have := HKK.out; congr 1; omega, HW.out.trans HS.out⟩
   case measure => simp [intOf]; omega
  ·
   obtain rfl : j = n := by omega
   go_wp2_with fail;go_ret;exact ⟨rfl, HW.out⟩
/-! ### truths -/
theorem eq_BoolS (v v' : Value) (bs : List Bool) (w : World) (h : TruesR w v bs) (h' : TruesR w v' bs) :
    Calls Tryz.prog 16 #[v, v'] w fun e w' => e = .returned (.bool true) ∧ Below w.heap.size w w' := by
  obtain ⟨A, c, rfl, h1, h2, h3⟩ := h;obtain ⟨A', c', rfl, h1', h2', h3'⟩ := h';unfold maxLen at h2;go_enter Tryz.func16, Tryz.ntmps16;go_wp2;go_loopw [5] (fun i wr => EqRel bs.length w i wr) (fun i _ => bs.length - (intOf i).toNat)
  case atStart => exact ⟨0, 0, Nat.zero_le _, rfl, rfl⟩
  case round =>
    obtain ⟨k, m, hk, rfl, rfl⟩ := hrel;by_cases hlt : k < bs.length
    · obtain ⟨x, hx⟩ : ∃ x, bs[k]? = some x := ⟨bs[k], List.getElem?_eq_getElem hlt⟩
      obtain ⟨ad, rfl, hb, hc⟩ := h3 (by omega);obtain ⟨ad', rfl, hb', hc'⟩ := h3' (by omega);have hcell : (w.drewN m).cell? (ad.add k) = some (.bool x) := hc k x hx;have hcell' : (w.drewN m).cell? (ad'.add k) = some (.bool x) := hc' k x hx;have k1 := hc k x hx;have k2 := hc' k x hx;clear h3 h3' hc hc' hx;go_wp2
      go_quiet (fail)
      go_wp2;go_roundw
      case rel => exact ⟨k + 1, m + nq, by omega, by go_num, rfl⟩
      case measure => simp [intOf]; omega
    · go_wp2
      go_ret;exact ⟨rfl, bl_drewN (Below.refl _ _) m⟩
def thirdB (k : Int) : Bool := k % 3 == 0
def seqB (k : Int) (n : Nat) : List Bool := (List.range n).map fun (j : Nat) => thirdB (k + (j : Int))
theorem seqB_len (k : Int) (n : Nat) : (seqB k n).length = n := by simp [seqB]
theorem seqB_at (k : Int) {n j : Nat} (h : j < n) : (seqB k n)[j]? = some (thirdB (k + (j : Int))) := by simp [seqB, h]
def MbRel (n : Nat) (k : Int) (g cap : Nat) (w : World) (kv i : Value) (wr : World) : Prop :=
  ∃ (j : Nat) (cur : Array Value), j ≤ n ∧ i = .int .i64 j ∧ kv = .int .i64 (k + j) ∧ wr.heap[g]? = some (.cells cur 4 (0, 0)) ∧ cur.size = cap ∧ (∀ q, q < j → cur[q]? = some (.bool (thirdB (k + (q : Int))))) ∧ w.grownBy wr (some g) ∧ wr.heap.size = w.heap.size
theorem mark_BoolS (v : Value) (bs : List Bool) (base : Nat) (k : Int) (w : World) (h : TruesO w base v bs) (h0 : 0 ≤ k) (h1 : k + bs.length ≤ 1000000000000) :
  Calls Tryz.prog 24 #[v, .int .i64 k] w fun e w' => e = .returned (.int .i64 (k + bs.length)) ∧ TruesO w' base v (seqB k bs.length) ∧ w.grownBy w' v.ownBlock ∧ w'.heap.size = w.heap.size := by
 have HT := Lib.hid h;rcases h.2 with ⟨rfl, e0⟩ | ⟨g, cap, cur0, rfl, hb, hg, hn, hm, hs, ht⟩
 ·
  obtain rfl : bs = [] := List.eq_nil_of_length_eq_zero e0;go_enter Tryz.func24, Tryz.ntmps24;go_wp2;go_loopw [1, 5] (fun kv i wr => w = wr ∧ kv = .int .i64 k ∧ i = .int .i64 0) (fun _ _ _ => 0)
  case atStart => exact ⟨rfl, rfl, rfl⟩
  case round => obtain ⟨rfl, rfl, rfl⟩ := hrel;go_wp2;go_ret;exact ⟨by simp, HT.out, ⟨rfl, rfl, rfl, Nat.le_refl _, fun _ _ _ => rfl⟩, rfl⟩
 ·
  obtain ⟨n, hnn⟩ : ∃ n, n = bs.length := ⟨_, rfl⟩
  rw [← hnn] at hn h1 ⊢;unfold maxLen at hm;have HG := Lib.hid (show w.heap[g]? = some (.cells cur0 4 (0, 0)) ∧ cur0.size = cap ∧ base ≤ g from ⟨hg, by omega, hb⟩);clear ht hs hg hnn h hb;go_enter Tryz.func24, Tryz.ntmps24;go_wp2;go_loopw [1, 5] (fun kv i wr => MbRel n k g cap w kv i wr) (fun _ i _ => n - (intOf i).toNat)
  case atStart => exact ⟨0, cur0, Nat.zero_le _, rfl, by simp, HG.out.1, HG.out.2.1, fun _ hq => absurd hq (by omega), ⟨rfl, rfl, rfl, Nat.le_refl _, fun _ _ _ => rfl⟩, rfl⟩
  case round =>
   obtain ⟨j, cur, hj, rfl, rfl, hblk, hcs, hat, hgr, hsz⟩ := hrel;have HB := Lib.hid hblk;have HA := Lib.hid hat;have HR := Lib.hid hgr;have HC := Lib.hid hcs;have HZ := Lib.hid hsz;by_cases hlt : j < n
   ·
    obtain ⟨old, hold⟩ : ∃ u, wr.cell? ⟨g, j, none⟩ = some u := by rw [cell_of_row wr _ j _ _ (0, 0) hblk, Array.getElem?_eq_getElem (by rw [hcs]; omega)];exact ⟨_, rfl⟩
    have hfr : wr.frozen? ⟨g, j, none⟩ = false := by unfold World.frozen?; rw [hblk]; simp
    clear hblk hat hgr hcs hsz;go_wp2;go_roundw
    case rel =>
     refine ⟨j + 1, _, by omega, by go_num, by go_num, heap_set_same HB.out _, by simp [HC.out], fun q hq => ?_, grownT HR.out (grownP _ _ _ _), by simp [HZ.out]⟩;rw [Array.getElem?_setIfInBounds];by_cases e : j = q
     · subst e;rw [if_pos rfl, if_pos (by rw [HC.out]; omega)];rfl
     · rw [if_neg e];exact HA.out q (by omega)
    case measure => simp [intOf]; omega
   ·
    obtain rfl : j = n := by omega
    go_wp2;go_ret;refine ⟨rfl, ?_, HR.out, HZ.out⟩;refine ⟨by simp [seqB], .inr ⟨g, cap, cur, by rw [seqB_len], HG.out.2.2, HB.out, by rw [seqB_len]; exact hn, by unfold maxLen; exact hm, by rw [HC.out, Nat.mul_one], ?_⟩⟩;rw [seqB_len, Nat.mul_one];refine List.ext_getElem? fun q => ?_
    rw [List.getElem?_take];by_cases hq : q < j
    · rw [if_pos hq, Array.getElem?_toList, HA.out q hq, List.getElem?_map, seqB_at k hq];rfl
    · rw [if_neg hq, List.getElem?_eq_none (by rw [List.length_map, seqB_len]; omega)]
def HbRel (k : Int) (n : Nat) (w : World) (kv i : Value) (wr : World) : Prop := w = wr ∧ ∃ j : Nat, j ≤ n ∧ i = .int .i64 j ∧ kv = .int .i64 (k + (j : Int))
theorem held_BoolS (v : Value) (n : Nat) (k : Int) (w : World) (h : TruesR w v (seqB k n)) (h0 : 0 ≤ k) (h1 : k + n ≤ 1000000000000) :
    Calls Tryz.prog 26 #[v, .int .i64 k] w fun e w' => e = .returned (.int .i64 (k + n)) ∧ w = w' := by
  obtain ⟨A, c, rfl, g1, g2, g3⟩ := h;rw [seqB_len] at g1 g3;rw [seqB_len];unfold maxLen at g2;go_enter Tryz.func26, Tryz.ntmps26;go_wp2;go_loopw [1, 5] (fun kv i wr => HbRel k n w kv i wr) (fun _ i _ => n - (intOf i).toNat)
  case atStart => exact ⟨rfl, 0, Nat.zero_le _, rfl, by simp⟩
  case round =>
    obtain ⟨rfl, j, hj, rfl, rfl⟩ := hrel;by_cases hlt : j < n
    · obtain ⟨ad, rfl, hb, hc⟩ := g3 (by omega)
      obtain ⟨tb, htb⟩ : ∃ z, z = ((k + (j : Int)) % 3 == 0) := ⟨_, rfl⟩
      have hcell : w.cell? (ad.add j) = some (.bool ((k + (j : Int)) % 3 == 0)) := hc j _ (seqB_at k hlt);have htt : (((k + (j : Int)) % 3 == 0) != ((k + (j : Int)) % 3 == 0)) = false := by simp
      rw [← htb] at hcell htt;clear g3 hc;go_wp2;go_roundw
      case rel => exact ⟨rfl, j + 1, by omega, by go_num, by go_num⟩
      case measure => simp [intOf]; omega
    · obtain rfl : j = n := by omega
      go_wp2;go_ret;exact ⟨rfl, rfl⟩
end Go.Proofs.YtjklbjmdgiddcaaGreat
namespace Go.Proofs.YtjklbjmdgiddcaaGreat
open Go.RowKit Go.ChangeShapes Go.WideShapes Go.Deep
set_option linter.all false
section
variable {H : Type} {enc : TypeId × Value → H} {P : Program} {w : World} {base : Nat} {spare : Nat → Bool} {held : Bool}
theorem I64_of_wf {x : Int} (h : (Lit.int .i64 x).wf = true) : I64 x := by
  have : -9223372036854775808 ≤ x ∧ x ≤ 9223372036854775807 := by simpa [Lit.wf, IntKind.min, IntKind.max, IntKind.signed, IntKind.bits] using h
  exact this
theorem ints_of_trod {t e : TypeId} {fuel : Nat} {cs : List Value} {x : DataW H × List MemPlace} (ht : P.underlying t = some (.slice e)) (he : P.underlying e = some (.int .i64)) (hc : P.cellsOf e = 1)
    (h : DataW.trod enc P w base spare held fuel t cs = some x) : ∃ v xs, cs = [v] ∧ IntsR w w.heap.size v xs := by
  rcases open_ints ht he hc h with ⟨rfl, _⟩ | ⟨a, len, cap, zs, rfl, _, hl, hm, hz, _, hcell, hwf⟩
  · exact ⟨_, [], rfl, ⟨none, 0, rfl, Nat.le_refl _, Nat.zero_le _, fun h => absurd h (by simp)⟩, fun _ h => by cases h⟩
  · have hzl : len ≤ zs.length := by rw [hz]; split <;> omega
    have hlen : (zs.take len).length = len := by simp; omega
    refine ⟨_, zs.take len, rfl, ⟨some a, cap, ?_, ?_, hm, fun hn => ⟨a, rfl, ?_, fun j u hu => ?_⟩⟩, fun x hx => I64_of_wf (hwf x (List.mem_of_mem_take hx))⟩
    · rw [List.length_map, hlen]
    · rw [List.length_map, hlen]; exact hl
    · rw [List.length_map, hlen] at hn
      have h0 := hcell 0 (by omega);have := World.block_lt_of_cell? _ _ h0;rwa [block_add] at this
    · rw [List.getElem?_map] at hu
      cases hj : (zs.take len)[j]? with
      | none => rw [hj] at hu; cases hu
      | some z =>
        rw [hj] at hu;simp at hu;subst hu;rw [List.getElem?_take] at hj;split at hj
        · rw [hcell j (by omega)]
          simp [List.getD, hj, intV]
        · cases hj
theorem rows_of_trod {t s e : TypeId} {fuel : Nat} {cs : List Value} {x : DataW H × List MemPlace} (ht : P.underlying t = some (.slice s)) (hs : P.underlying s = some (.slice e)) (he : P.underlying e = some (.int .i64)) (hcs : P.cellsOf s = 1) (hc : P.cellsOf e = 1)
  (h : DataW.trod enc P w base spare held fuel t cs = some x) : ∃ v xss, cs = [v] ∧ RowsR w w.heap.size v xss := by
 rcases open_slice ht h with ⟨rfl, _⟩ | ⟨a, len, cap, m, n, D, Pl, rfl, _, hl, hm, hmm, _, hi⟩
 · exact ⟨_, [], rfl, [], ⟨none, 0, rfl, Nat.le_refl _, Nat.zero_le _, fun h => absurd h (by simp)⟩, trivial⟩
 ·
  have hml : len ≤ m := by rw [hmm]; split <;> omega
  have each : ∀ k, k ≤ len → ∃ vs xss, vs.length = k ∧ AllR w w.heap.size vs xss ∧ ∀ j u, vs[j]? = some u → w.cell? (a.add j) = some u := by
   intro k;induction k with
   | zero => intro _; exact ⟨[], [], rfl, trivial, fun j u hu => by simp at hu⟩
   | succ k ih =>
    intro hk;obtain ⟨vs, xss, h1, h2, h3⟩ := ih (by omega);obtain ⟨cs', hcells, htr⟩ := hi k (by omega);rw [hcs] at hcells;obtain ⟨v, xs, rfl, hv⟩ := ints_of_trod hs he hc htr;obtain ⟨_, _, hat⟩ := World.cells?_some hcells;have hcell : w.cell? (a.add k) = some v := by
     have h0 := hat 0 (by omega);have e0 : (a.add k).add 0 = a.add k := by unfold Addr.add; simp
     rw [Nat.mul_one, e0] at h0;simpa using h0
    refine ⟨vs ++ [v], xss ++ [xs], by simp [h1], ?_, ?_⟩
    ·
     clear ih h1 h3 hcell hat hcells htr;induction vs generalizing xss with
     | nil =>
      cases xss with
      | nil => exact ⟨hv, trivial⟩
      | cons _ _ => exact h2.elim
     | cons u vs ih =>
      cases xss with
      | nil => exact h2.elim
      | cons ys xss => exact ⟨h2.1, ih xss h2.2⟩
    ·
     intro j u hu;by_cases hj : j < vs.length
     · rw [List.getElem?_append_left hj] at hu;exact h3 j u hu
     ·
      rw [List.getElem?_append_right (by omega)] at hu;obtain rfl : j = k := by have := (List.getElem?_eq_some_iff.1 hu).1;simp at this;omega
      rw [h1, Nat.sub_self] at hu;simp at hu;rw [← hu]; exact hcell
  obtain ⟨vs, xss, h1, h2, h3⟩ := each len (Nat.le_refl _);refine ⟨_, xss, rfl, vs, ⟨some a, cap, by rw [h1], by rw [h1]; exact hl, hm, fun hn => ⟨a, rfl, ?_, h3⟩⟩, h2⟩;have h0 := h3 0 (vs[0]) (List.getElem?_eq_getElem hn);have := World.block_lt_of_cell? _ _ h0;rwa [block_add] at this
end
end Go.Proofs.YtjklbjmdgiddcaaGreat
namespace Go.Proofs.YtjklbjmdgiddcaaGreat
open Go.RowKit Go.ChangeShapes Go.WideShapes Go.Deep
set_option linter.all false
section
variable {H : Type} {enc : TypeId × Value → H} {w : World} {base : Nat} {spare : Nat → Bool} {held : Bool}
set_option maxRecDepth 100000 in
theorem end_of_trod {fuel : Nat} {cs : List Value} {x : DataW H × List MemPlace} (h : DataW.trod enc Tryz.prog w base spare held fuel 148 cs = some x) :
    ∃ e : Int × Int, cs = [.int .i64 e.1, .int .i64 e.2] ∧ I64 e.1 ∧ I64 e.2 := by
  obtain ⟨ys, n, _, _, hl, hlen, hg⟩ := DataW.trod_struct Tryz.underlying148 h;have h2 : cs.length = 2 := hl.trans (by kernel_rfl)
  match cs, h2 with
  | [c0, c1], _ =>
    match ys, hlen with
    | [y0, y1], _ =>
      have s1 : Tryz.prog.cellsOf 3 = 1 := by kernel_rfl
      have g0 : DataW.trod enc Tryz.prog w base spare held n 3 [c0] = some y0 := by simpa [s1] using hg 0 _ rfl
      have g1 : DataW.trod enc Tryz.prog w base spare held n 3 [c1] = some y1 := by simpa [s1] using hg 1 _ rfl
      obtain ⟨p0, e0, -, w0⟩ := DataW.trod_int Tryz.underlying3 g0;obtain ⟨p1, e1, -, w1⟩ := DataW.trod_int Tryz.underlying3 g1;simp only [List.cons.injEq, and_true] at e0 e1;subst e0 e1;exact ⟨(p0, p1), rfl, I64_of_wf w0, I64_of_wf w1⟩
set_option maxRecDepth 100000 in
theorem ends_of_trod {fuel : Nat} {cs : List Value} {x : DataW H × List MemPlace} (h : DataW.trod enc Tryz.prog w base spare held fuel 116 cs = some x) :
  ∃ v es, cs = [v] ∧ EndsB w w.heap.size v es := by
 rcases open_slice Tryz.underlying116 h with ⟨rfl, _⟩ | ⟨a, len, cap, m, n, D, Pl, rfl, _, hl, hm, hmm, _, hi⟩
 · exact ⟨_, [], rfl, none, 0, rfl, Nat.le_refl _, Nat.zero_le _, (fun _ h => by cases h), fun h => absurd h (by simp)⟩
 ·
  have hml : len ≤ m := by rw [hmm]; split <;> omega
  have each : ∀ k, k ≤ len → ∃ xs : Ends, xs.length = k ∧ (∀ x ∈ xs, I64 x.1 ∧ I64 x.2) ∧
    ∀ j x, xs[j]? = some x → w.cell? (a.add (j * 2 + 0)) = some (.int .i64 x.1) ∧ w.cell? (a.add (j * 2 + 1)) = some (.int .i64 x.2) := by
   intro k;induction k with
   | zero => intro _; exact ⟨[], rfl, (fun _ h => by cases h), fun j x hx => by simp at hx⟩
   | succ k ih =>
    intro hk;obtain ⟨xs, h1, h2, h3⟩ := ih (by omega);obtain ⟨cs', hcells, htr⟩ := hi k (by omega);rw [show Tryz.prog.cellsOf 148 = 2 by kernel_rfl] at hcells;obtain ⟨it, rfl, hr⟩ := end_of_trod htr;obtain ⟨_, _, hat⟩ := World.cells?_some hcells;refine ⟨xs ++ [it], by simp [h1], ?_, ?_⟩
    ·
     intro x hx;rcases List.mem_append.1 hx with h | h
     · exact h2 x h
     ·
      obtain rfl : x = it := by simpa using h
      exact hr
    ·
     intro j x hx;by_cases hj : j < xs.length
     · rw [List.getElem?_append_left hj] at hx;exact h3 j x hx
     ·
      rw [List.getElem?_append_right (by omega)] at hx;obtain rfl : j = k := by have := (List.getElem?_eq_some_iff.1 hx).1;simp at this;omega
      rw [h1, Nat.sub_self] at hx;obtain rfl : it = x := by simpa using hx
      rw [← Go.Deep.add_add, hat 0 (by omega), ← Go.Deep.add_add, hat 1 (by omega)];exact ⟨rfl, rfl⟩
  obtain ⟨xs, h1, h2, h3⟩ := each len (Nat.le_refl _);refine ⟨_, xs, rfl, some a, cap, by rw [h1], by rw [h1]; exact hl, hm, h2, fun hn => ?_⟩;have hc0 := (h3 0 (xs[0]) (List.getElem?_eq_getElem hn)).1;have hlt := World.block_lt_of_cell? _ _ hc0;rw [block_add] at hlt;obtain ⟨b, o, sp⟩ := a;have e0 : (⟨b, o, sp⟩ : Addr).add (0 * 2 + 0) = ⟨b, o, sp⟩ := by unfold Addr.add; simp
  rw [e0] at hc0;have hsp : sp = none := by
   cases sp with
   | none => rfl
   | some q =>
    unfold World.cell? at hc0;split at hc0 <;> simp at hc0
  subst hsp;refine ⟨b, o, rfl, hlt, fun k x hx => ?_⟩;have e1 : ∀ j, (⟨b, o, none⟩ : Addr).add (k * 2 + j) = ⟨b, o + k * 2 + j, none⟩ := fun j => by unfold Addr.add; split <;> simp_all; omega
  have := h3 k x hx;rw [e1 0, e1 1] at this;exact this
set_option maxRecDepth 100000 in
theorem endss_of_trod {fuel : Nat} {cs : List Value} {x : DataW H × List MemPlace} (h : DataW.trod enc Tryz.prog w base spare held fuel 27 cs = some x) :
  ∃ v ess, cs = [v] ∧ EndssR w (· < w.heap.size) v ess := by
 rcases open_slice Tryz.underlying27 h with ⟨rfl, _⟩ | ⟨a, len, cap, m, n, D, Pl, rfl, _, hl, hm, hmm, _, hi⟩
 · exact ⟨_, [], rfl, none, 0, rfl, Nat.le_refl _, Nat.zero_le _, fun h => absurd h (by simp)⟩
 ·
  have hml : len ≤ m := by rw [hmm]; split <;> omega
  have each : ∀ k, k ≤ len → ∃ xss : List Ends, xss.length = k ∧ ∀ j xs, xss[j]? = some xs → ∃ u, w.cell? (a.add j) = some u ∧ EndsB w w.heap.size u xs := by
   intro k;induction k with
   | zero => intro _; exact ⟨[], rfl, fun j x hx => by simp at hx⟩
   | succ k ih =>
    intro hk;obtain ⟨xss, h1, h3⟩ := ih (by omega);obtain ⟨cs', hcells, htr⟩ := hi k (by omega);rw [show Tryz.prog.cellsOf 116 = 1 by kernel_rfl] at hcells;obtain ⟨v, xs, rfl, hv⟩ := ends_of_trod htr;obtain ⟨_, _, hat⟩ := World.cells?_some hcells;have hcell : w.cell? (a.add k) = some v := by
     have h0 := hat 0 (by omega);have e0 : (a.add k).add 0 = a.add k := by unfold Addr.add; simp
     rw [Nat.mul_one, e0] at h0;simpa using h0
    refine ⟨xss ++ [xs], by simp [h1], fun j u hu => ?_⟩;by_cases hj : j < xss.length
    · rw [List.getElem?_append_left hj] at hu;exact h3 j u hu
    ·
     rw [List.getElem?_append_right (by omega)] at hu;obtain rfl : j = k := by have := (List.getElem?_eq_some_iff.1 hu).1;simp at this;omega
     rw [h1, Nat.sub_self] at hu;obtain rfl : xs = u := by simpa using hu
     exact ⟨v, hcell, hv⟩
  obtain ⟨xss, h1, h3⟩ := each len (Nat.le_refl _);refine ⟨_, xss, rfl, some a, cap, by rw [h1], by rw [h1]; exact hl, hm, fun hn => ⟨a, rfl, ?_, h3⟩⟩;obtain ⟨u, h0, -⟩ := h3 0 (xss[0]) (List.getElem?_eq_getElem hn);have := World.block_lt_of_cell? _ _ h0;rwa [block_add] at this
end
end Go.Proofs.YtjklbjmdgiddcaaGreat
