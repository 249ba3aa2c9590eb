/-
  The laws' own functions that write into an asynchronous state of a call's own and read it again: markAsyncState, heldAsyncState.
-/
import Derived.Test.YtjklbjmdgiddcaaGreatGActRowG
namespace Go.Proofs.YtjklbjmdgiddcaaGreat
open Go.RowKit
set_option linter.all false
def markL (k : Int) (N : Nat) : List Value := (List.range N).map fun i : Nat => .int .i64 (k + (i : Int))
theorem markL_len (k : Int) (N : Nat) : (markL k N).length = N := by simp [markL]
theorem markL_succ (k : Int) (N : Nat) : markL k (N + 1) = markL k N ++ [.int .i64 (k + (N : Int))] := by simp [markL, List.range_succ]
theorem markL_at (k : Int) {i N : Nat} (h : i < N) : (markL k N)[i]? = some (.int .i64 (k + (i : Int))) := by unfold markL;rw [List.getElem?_map, List.getElem?_range h]; rfl
def mixL (k : Int) (N : Nat) (vs : List Value) : List Value := markL k N ++ vs.drop N
theorem mixL_zero (k : Int) (vs : List Value) : mixL k 0 vs = vs := by simp [mixL, markL]
theorem mixL_full (k : Int) {N : Nat} {vs : List Value} (h : vs.length ≤ N) : mixL k N vs = markL k N := by simp [mixL, List.drop_of_length_le h]
theorem mixL_set (k : Int) {N : Nat} {vs : List Value} (h : N < vs.length) : (mixL k N vs).set N (.int .i64 (k + (N : Int))) = mixL k (N + 1) vs := by unfold mixL;rw [List.set_append_right N _ (by rw [markL_len]; exact Nat.le_refl _), markL_len, Nat.sub_self, markL_succ, List.append_assoc];congr 1;rw [List.drop_eq_getElem_cons h, List.set_cons_zero];rfl
def OmRel (base n sz : Nat) (e : TypeId) (v : Value) (vs : List Value) (k : Int) (w : World) (kv i : Value) (wr : World) : Prop :=
  ∃ j : Nat, j ≤ n ∧ i = .int .i64 j ∧ kv = .int .i64 (k + ((j * sz : Nat) : Int)) ∧ wr.ownsRow base e sz v n (mixL k (j * sz) vs) ∧ w.grownBy wr v.ownBlock
theorem grown_self (w : World) (r : Option Nat) : w.grownBy w r := ⟨rfl, rfl, rfl, Nat.le_refl _, fun _ _ _ => rfl⟩
theorem own_len {w : World} {base n sz : Nat} {e : TypeId} {v : Value} {vs : List Value} (h : w.ownsRow base e sz v n vs) : vs.length = n * sz := h.1
theorem own_at {w : World} {base n sz cap g : Nat} {e : TypeId} {vs : List Value} (h : w.ownsRow base e sz (.slice (some ⟨g, 0, none⟩) n cap) n vs) {j : Nat} (hj : j < n * sz) : (∃ u, w.cell? ⟨g, j, none⟩ = some u) ∧ w.frozen? ⟨g, j, none⟩ = false := by have hl := own_len h;exact ⟨⟨vs[j], (World.ownsRow.cellAt h j hj).trans (aC (by omega))⟩, World.ownsRow.frozenAt h j⟩
set_option maxRecDepth 100000 in
theorem own_markI (base n : Nat) (v : Value) (vs : List Value) (k : Int) (w : World) (h : w.ownsRow base 3 1 v n vs) (h0 : 0 ≤ k) (h1 : k + n ≤ 1000000000000) :
  Calls Tryz.prog 54 #[v, .int .i64 k] w fun e w' => e = .returned (.int .i64 (k + n)) ∧ w'.ownsRow base 3 1 v n (markL k n) ∧ w.grownBy w' v.ownBlock := by
 obtain ⟨A0, c, rfl⟩ := own_sl1 h;have HL := aA (own_len h);have HO := aA h;clear h;go_enter Tryz.func54, Tryz.ntmps54;go_wp2_with fail;go_loopw [1, 5] (fun kv i wr => OmRel base n 1 3 (.slice A0 n c) vs k w kv i wr) (fun _ i _ => n - (intOf i).toNat)
 case atStart => exact ⟨0, Nat.zero_le _, rfl, by simp, by rw [Nat.zero_mul, mixL_zero]; exact HO.out, grown_self _ _⟩
 case round =>
  obtain ⟨j, hj, rfl, rfl, ho, hg⟩ := hrel;have HG := aA hg;have HOW := aA ho;rw [Nat.mul_one];by_cases hlt : j < n
  ·
   obtain ⟨g, cap, ev, -, -, -, -⟩ := own_some2 ho (by omega);cases ev;obtain ⟨⟨u, hc⟩, hf⟩ := own_at ho (j := j) (by omega);have HS := aA (World.ownsRow.stored ho j (.int .i64 (k + (j : Int))));have hq1 : IntKind.i64.wrap (k + (j : Int) + 1) = k + (j : Int) + 1 := aL _ (by omega);clear ho hg;go_wp2_with fail;go_roundw
   case rel => refine ⟨j + 1, by omega, by go_num, by congr 1; omega, ?_, grownT HG.out HS.out.2⟩;have h2 := HS.out.1;rw [Nat.mul_one, mixL_set k (by have := HL.out; omega)] at h2;rw [Nat.mul_one];exact h2
   case measure => simp [intOf]; omega
  ·
   obtain rfl : j = n := by omega
   clear ho hg;go_wp2_with fail;go_ret;refine ⟨rfl, ?_, HG.out⟩;have h2 := HOW.out;rw [mixL_full k (by have := HL.out; omega), Nat.mul_one] at h2;exact h2
set_option maxRecDepth 100000 in
theorem own_markL (base n : Nat) (v : Value) (vs : List Value) (k : Int) (w : World) (h : w.ownsRow base 129 2 v n vs) (h0 : 0 ≤ k) (h1 : k + ((n * 2 : Nat) : Int) ≤ 1000000000000) :
  Calls Tryz.prog 118 #[v, .int .i64 k] w fun e w' => e = .returned (.int .i64 (k + ((n * 2 : Nat) : Int))) ∧ w'.ownsRow base 129 2 v n (markL k (n * 2)) ∧ w.grownBy w' v.ownBlock := by
 obtain ⟨A0, c, rfl⟩ := own_sl1 h;have HL := aA (own_len h);have HO := aA h;clear h;go_enter Tryz.func118, Tryz.ntmps118;go_wp2_with fail;go_loopw [1, 5] (fun kv i wr => OmRel base n 2 129 (.slice A0 n c) vs k w kv i wr) (fun _ i _ => n - (intOf i).toNat)
 case atStart => exact ⟨0, Nat.zero_le _, rfl, by simp, by rw [Nat.zero_mul, mixL_zero]; exact HO.out, grown_self _ _⟩
 case round =>
  obtain ⟨j, hj, rfl, rfl, ho, hg⟩ := hrel;have HG := aA hg;have HOW := aA ho;by_cases hlt : j < n
  ·
   obtain ⟨g, cap, ev, -, -, -, -⟩ := own_some2 ho (by omega);cases ev;obtain ⟨⟨u, hc⟩, hf⟩ := own_at ho (j := j * 2) (by omega);obtain ⟨kk, hkk⟩ : ∃ z, z = k + ((j * 2 : Nat) : Int) := ⟨_, rfl⟩
   have HS := aA (World.ownsRow.stored ho (j * 2) (.int .i64 kk));obtain ⟨⟨u2, hc2⟩, hf2⟩ := own_at HS.out.1 (j := j * 2 + 1) (by omega);have HS2 := aA (World.ownsRow.stored HS.out.1 (j * 2 + 1) (.int .i64 (kk + 1)));have hkl : 0 ≤ kk ∧ kk + 2 ≤ 1000000000000 := by omega
   rw [← hkk];have HKK := aA hkk;clear ho hg hkk;have hq1 : IntKind.i64.wrap (kk + 1) = kk + 1 := aL _ (by omega);have hq2 : IntKind.i64.wrap (kk + 1 + 1) = kk + 1 + 1 := aL _ (by omega);go_wp2_with fail;go_roundw
   case rel =>
    refine ⟨j + 1, by omega, by go_num, by have := HKK.out; congr 1; omega, ?_, grownT (grownT HG.out HS.out.2) HS2.out.2⟩;have h2 := HS2.out.1;have hk1 : kk = k + ((j * 2 : Nat) : Int) := HKK.out;have hk2 : kk + 1 = k + ((j * 2 + 1 : Nat) : Int) := by omega
    rw [hk2] at h2;rw [hk1] at h2;rw [mixL_set k (by have := HL.out; omega), mixL_set k (by have := HL.out; omega)] at h2;rw [show (j + 1) * 2 = j * 2 + 1 + 1 by omega, hk2, hk1];exact h2
   case measure => simp [intOf]; omega
  ·
   obtain rfl : j = n := by omega
   clear ho hg;go_wp2_with fail;go_ret;refine ⟨rfl, ?_, HG.out⟩;have h2 := HOW.out;rw [mixL_full k (by have := HL.out; omega)] at h2;exact h2
def OhRel (n sz : Nat) (k : Int) (w : World) (kv i : Value) (wr : World) : Prop := w = wr ∧ ∃ j : Nat, j ≤ n ∧ i = .int .i64 j ∧ kv = .int .i64 (k + ((j * sz : Nat) : Int))
set_option maxRecDepth 100000 in
theorem own_heldI (base n : Nat) (v : Value) (k : Int) (w : World) (h : w.ownsRow base 3 1 v n (markL k n)) (h0 : 0 ≤ k) (h1 : k + n ≤ 1000000000000) :
    Calls Tryz.prog 57 #[v, .int .i64 k] w fun e w' => e = .returned (.int .i64 (k + n)) ∧ w = w' := by
  obtain ⟨A0, c, rfl⟩ := own_sl1 h;have HO := aA h;clear h;go_enter Tryz.func57, Tryz.ntmps57;go_wp2_with fail;go_loopw [1, 5] (fun kv i wr => OhRel n 1 k w kv i wr) (fun _ i _ => n - (intOf i).toNat)
  case atStart => exact ⟨rfl, 0, Nat.zero_le _, rfl, by simp⟩
  case round =>
    obtain ⟨rfl, j, hj, rfl, rfl⟩ := hrel;rw [Nat.mul_one];by_cases hlt : j < n
    · have ho := HO.out
      obtain ⟨g, cap, ev, -, -, -, -⟩ := own_some2 ho (by omega);cases ev;have hc := (World.ownsRow.cellAt ho j (by omega)).trans (markL_at k hlt);have hq1 : IntKind.i64.wrap (k + (j : Int) + 1) = k + (j : Int) + 1 := aL _ (by omega);clear ho;go_wp2_with fail;go_roundw
      case rel => exact ⟨rfl, j + 1, by omega, by go_num, by congr 1; omega⟩
      case measure => simp [intOf]; omega
    · obtain rfl : j = n := by omega
      go_wp2_with fail;go_ret;exact ⟨rfl, rfl⟩
set_option maxRecDepth 100000 in
theorem own_heldL (base n : Nat) (v : Value) (k : Int) (w : World) (h : w.ownsRow base 129 2 v n (markL k (n * 2))) (h0 : 0 ≤ k) (h1 : k + ((n * 2 : Nat) : Int) ≤ 1000000000000) :
  Calls Tryz.prog 119 #[v, .int .i64 k] w fun e w' => e = .returned (.int .i64 (k + ((n * 2 : Nat) : Int))) ∧ w = w' := by
 obtain ⟨A0, c, rfl⟩ := own_sl1 h;have HO := aA h;clear h;go_enter Tryz.func119, Tryz.ntmps119;go_wp2_with fail;go_loopw [1, 5] (fun kv i wr => OhRel n 2 k w kv i wr) (fun _ i _ => n - (intOf i).toNat)
 case atStart => exact ⟨rfl, 0, Nat.zero_le _, rfl, by simp⟩
 case round =>
  obtain ⟨rfl, j, hj, rfl, rfl⟩ := hrel;by_cases hlt : j < n
  ·
   have ho := HO.out;obtain ⟨g, cap, ev, -, -, -, -⟩ := own_some2 ho (by omega);cases ev;have hc := (World.ownsRow.cellAt ho (j * 2) (by omega)).trans (markL_at k (by omega));have hc2 := (World.ownsRow.cellAt ho (j * 2 + 1) (by omega)).trans (markL_at k (by omega));obtain ⟨kk, hkk⟩ : ∃ z, z = k + ((j * 2 : Nat) : Int) := ⟨_, rfl⟩
   have hk2 : k + ((j * 2 + 1 : Nat) : Int) = kk + 1 := by omega
   rw [hk2] at hc2;rw [← hkk] at hc ⊢;have hkl : 0 ≤ kk ∧ kk + 2 ≤ 1000000000000 := by omega
   have HKK := aA hkk;clear ho hkk hk2;have hq1 : IntKind.i64.wrap (kk + 1) = kk + 1 := aL _ (by omega);have hq2 : IntKind.i64.wrap (kk + 1 + 1) = kk + 1 + 1 := aL _ (by omega);go_wp2_with fail;go_roundw
   case rel => exact ⟨rfl, j + 1, by omega, by go_num, by have := HKK.out; congr 1; omega⟩
   case measure => simp [intOf]; omega
  ·
   obtain rfl : j = n := by omega
   go_wp2_with fail;go_ret;exact ⟨rfl, rfl⟩
/-! ### Lists of a state, one behind the other -/
def isTop : Key → Prop
  | .s => True
  | .f => True
  | .fr _ => True
  | _ => False
structure Like (R R0 : Key → RowD) : Prop where
  ty : ∀ i, (R i).ty = (R0 i).ty
  sz : ∀ i, (R i).sz = (R0 i).sz
  len : ∀ i, (R i).len = (R0 i).len
  con : ∀ i, isTop i → (R i).con = (R0 i).con
theorem Like.refl (R : Key → RowD) : Like R R := ⟨fun _ => rfl, fun _ => rfl, fun _ => rfl, fun _ _ => rfl⟩
theorem Like.upd {R R0 : Key → RowD} (h : Like R R0) {i : Key} (hi : ¬ isTop i) (c : List Value) : Like (upd R i ⟨(R i).ty, (R i).sz, (R i).len, c⟩) R0 := by
  refine ⟨fun j => ?_, fun j => ?_, fun j => ?_, fun j hj => ?_⟩
  · by_cases e : j = i
    · subst e; rw [upd_same]; exact h.ty j
    · rw [upd_ne _ _ e]; exact h.ty j
  · by_cases e : j = i
    · subst e; rw [upd_same]; exact h.sz j
    · rw [upd_ne _ _ e]; exact h.sz j
  · by_cases e : j = i
    · subst e; rw [upd_same]; exact h.len j
    · rw [upd_ne _ _ e]; exact h.len j
  · by_cases e : j = i
    · subst e; exact absurd hj hi
    · rw [upd_ne _ _ e]; exact h.con j hj
noncomputable def markAll (s : Key → Nat) : List Key → Int → (Key → RowD) → (Key → RowD)
  | [], _, R => R
  | i :: t, k, R => markAll s t (k + (s i : Int)) (upd R i ⟨(R i).ty, (R i).sz, (R i).len, markL k (s i)⟩)
def total (s : Key → Nat) (l : List Key) : Nat := (l.map s).sum
theorem total_append (s : Key → Nat) (a b : List Key) : total s (a ++ b) = total s a + total s b := by simp [total]
theorem total_cons (s : Key → Nat) (i : Key) (t : List Key) : total s (i :: t) = s i + total s t := by simp [total]
theorem markAll_append (s : Key → Nat) (b : List Key) : ∀ (a : List Key) (k : Int) (R : Key → RowD), markAll s (a ++ b) k R = markAll s b (k + (total s a : Int)) (markAll s a k R)
  | [], k, R => by simp [markAll, total]
  | i :: t, k, R => by rw [List.cons_append];show markAll s (t ++ b) (k + (s i : Int)) _ = markAll s b _ (markAll s t (k + (s i : Int)) _);rw [markAll_append s b t, total_cons];congr 1;omega
theorem markAll_like (s : Key → Nat) {R0 : Key → RowD} : ∀ (l : List Key) (k : Int) (R : Key → RowD), Like R R0 → (∀ i ∈ l, ¬ isTop i) → Like (markAll s l k R) R0
  | [], _, _, h, _ => h
  | i :: t, k, R, h, hl => markAll_like s t _ _ (h.upd (hl i (List.mem_cons_self ..)) _) fun j hj => hl j (List.mem_cons_of_mem _ hj)
theorem markAll_out (s : Key → Nat) {j : Key} : ∀ (l : List Key) (k : Int) (R : Key → RowD), j ∉ l → markAll s l k R j = R j
  | [], _, _, _ => rfl
  | i :: t, k, R, h => by show markAll s t _ _ j = _;rw [markAll_out s t _ _ (fun h' => h (List.mem_cons_of_mem _ h')), upd_ne _ _ (fun e => h (by rw [e]; exact List.mem_cons_self ..))]
def HeldAll (s : Key → Nat) : List Key → Int → (Key → RowD) → Prop
  | [], _, _ => True
  | i :: t, k, R => (R i).con = markL k (s i) ∧ HeldAll s t (k + (s i : Int)) R
theorem HeldAll.mark (s : Key → Nat) : ∀ (l : List Key) (k : Int) (R : Key → RowD), l.Nodup → HeldAll s l k (markAll s l k R)
  | [], _, _, _ => trivial
  | i :: t, k, R, h => by rw [List.nodup_cons] at h;refine ⟨?_, HeldAll.mark s t _ _ h.2⟩;show (markAll s t _ _ i).con = _;rw [markAll_out s t _ _ h.1, upd_same]
theorem HeldAll.split (s : Key → Nat) (b : List Key) (R : Key → RowD) : ∀ (a : List Key) (k : Int), HeldAll s (a ++ b) k R → HeldAll s a k R ∧ HeldAll s b (k + (total s a : Int)) R
  | [], k, h => ⟨trivial, by simpa [total] using h⟩
  | i :: t, k, h => by
    obtain ⟨h1, h2⟩ := (h : (R i).con = markL k (s i) ∧ HeldAll s (t ++ b) (k + (s i : Int)) R)
    obtain ⟨h3, h4⟩ := HeldAll.split s b R t _ h2;refine ⟨⟨h1, h3⟩, ?_⟩;rw [total_cons, show k + ((s i + total s t : Nat) : Int) = k + (s i : Int) + (total s t : Int) by omega];exact h4
structure FrK (K : Key → Prop) (val : Key → Value) (w w' : World) : Prop where
  os : w'.os = w.os
  tape : w'.tape = w.tape
  output : w'.output = w.output
  size : w.heap.size ≤ w'.heap.size
  block : ∀ b : Nat, b < w.heap.size → (∀ i, K i → (val i).ownBlock ≠ some b) → w'.heap[b]? = w.heap[b]?
theorem FrK.refl (K : Key → Prop) (val : Key → Value) (w : World) : FrK K val w w := ⟨rfl, rfl, rfl, Nat.le_refl _, fun _ _ _ => rfl⟩
theorem FrK.trans {K : Key → Prop} {val : Key → Value} {a b c : World} (h : FrK K val a b) (k : FrK K val b c) : FrK K val a c :=
  ⟨k.os.trans h.os, k.tape.trans h.tape, k.output.trans h.output, Nat.le_trans h.size k.size, fun x hx hn => (k.block x (aF hx h.size) hn).trans (h.block x hx hn)⟩
theorem FrK.grown {K : Key → Prop} {val : Key → Value} {w w' : World} {i : Key} (hi : K i) (h : w.grownBy w' (val i).ownBlock) : FrK K val w w' :=
  ⟨h.os, h.tape, h.output, h.size, fun b hb hn => h.block b hb (fun e => hn i hi e.symm)⟩
theorem FrK.below {K : Key → Prop} {val : Key → Value} {R : Key → RowD} {w w' : World} {base : Nat} (h : FrK K val w w') (hk : OwnK w base K val R) (hb : base ≤ w.heap.size) : Below base w w' :=
  { os := h.os, tape := h.tape, output := h.output, size := h.size, block := fun b hlt => h.block b (aF hlt hb) fun i hi e => by have := ((hk.own i hi).lt b e).1; omega }
section
variable (base : Nat) (K : Key → Prop) (val : Key → Value) (R0 : Key → RowD) (s : Key → Nat)
def MarkC (f : Nat) (v : Value) (l : List Key) : Prop := ∀ (R : Key → RowD) (k : Int) (w : World), OwnK w base K val R → Like R R0 → 0 ≤ k → k + (total s l : Int) ≤ 1000000000000 →
  Calls Tryz.prog f #[v, .int .i64 k] w fun e w' => e = .returned (.int .i64 (k + (total s l : Int))) ∧ OwnK w' base K val (markAll s l k R) ∧ FrK K val w w'
def HeldC (f : Nat) (v : Value) (l : List Key) : Prop := ∀ (R : Key → RowD) (k : Int) (w : World), OwnK w base K val R → Like R R0 → HeldAll s l k R → 0 ≤ k → k + (total s l : Int) ≤ 1000000000000 →
  Calls Tryz.prog f #[v, .int .i64 k] w fun e w' => e = .returned (.int .i64 (k + (total s l : Int))) ∧ Below w.heap.size w w'
end
section
variable {base : Nat} {K : Key → Prop} {val : Key → Value} {R0 : Key → RowD} {s : Key → Nat}
theorem markC_I (i : Key) (hi : K i) (ht : (R0 i).ty = 3) (hz : (R0 i).sz = 1) (hs : s i = (R0 i).len) : MarkC base K val R0 s 54 (val i) [i] := fun R k w h hl h0 h1 => by
  have e : total s [i] = s i := by simp [total]
  rw [e] at h1 ⊢;have ho := h.own i hi;rw [hl.ty i, hl.sz i, hl.len i, ht, hz] at ho;refine (own_markI base (R0 i).len (val i) (R i).con k w ho h0 (by rw [hs] at h1; exact h1)).mono ?_;rintro e w' ⟨rfl, ho', hg⟩;refine ⟨by rw [hs], ?_, FrK.grown hi hg⟩;refine (OwnK.mend h i hi (val i) ⟨(R i).ty, (R i).sz, (R i).len, markL k (s i)⟩ hg (by rw [hl.ty i, hl.sz i, hl.len i, ht, hz, hs]; exact ho') (.inl rfl)).congr fun j hj => ⟨hj, ?_, rfl⟩
  by_cases e : j = i
  · subst e; rw [upd_same]
  · rw [upd_ne _ _ e]
theorem heldC_I (i : Key) (hi : K i) (ht : (R0 i).ty = 3) (hz : (R0 i).sz = 1) (hs : s i = (R0 i).len) : HeldC base K val R0 s 57 (val i) [i] := fun R k w h hl hh h0 h1 => by
  have e : total s [i] = s i := by simp [total]
  rw [e] at h1 ⊢;have ho := h.own i hi;rw [hl.ty i, hl.sz i, hl.len i, ht, hz, hh.1, hs] at ho;refine (own_heldI base (R0 i).len (val i) k w ho h0 (by rw [hs] at h1; exact h1)).mono ?_;rintro e w' ⟨rfl, rfl⟩;exact ⟨by rw [hs], Below.refl _ _⟩
theorem markC_L (i : Key) (hi : K i) (ht : (R0 i).ty = 129) (hz : (R0 i).sz = 2) (hs : s i = (R0 i).len * 2) : MarkC base K val R0 s 118 (val i) [i] := fun R k w h hl h0 h1 => by
  have e : total s [i] = s i := by simp [total]
  rw [e] at h1 ⊢;have ho := h.own i hi;rw [hl.ty i, hl.sz i, hl.len i, ht, hz] at ho;refine (own_markL base (R0 i).len (val i) (R i).con k w ho h0 (by rw [hs] at h1; exact h1)).mono ?_;rintro e w' ⟨rfl, ho', hg⟩;refine ⟨by rw [hs], ?_, FrK.grown hi hg⟩;refine (OwnK.mend h i hi (val i) ⟨(R i).ty, (R i).sz, (R i).len, markL k (s i)⟩ hg (by rw [hl.ty i, hl.sz i, hl.len i, ht, hz, hs]; exact ho') (.inl rfl)).congr fun j hj => ⟨hj, ?_, rfl⟩
  by_cases e : j = i
  · subst e; rw [upd_same]
  · rw [upd_ne _ _ e]
theorem heldC_L (i : Key) (hi : K i) (ht : (R0 i).ty = 129) (hz : (R0 i).sz = 2) (hs : s i = (R0 i).len * 2) : HeldC base K val R0 s 119 (val i) [i] := fun R k w h hl hh h0 h1 => by
  have e : total s [i] = s i := by simp [total]
  rw [e] at h1 ⊢;have ho := h.own i hi;rw [hl.ty i, hl.sz i, hl.len i, ht, hz, hh.1, hs] at ho;refine (own_heldL base (R0 i).len (val i) k w ho h0 (by rw [hs] at h1; exact h1)).mono ?_;rintro e w' ⟨rfl, rfl⟩;exact ⟨by rw [hs], Below.refl _ _⟩
theorem flatMap_succ (L : Nat → List Key) (j : Nat) : (List.range (j + 1)).flatMap L = (List.range j).flatMap L ++ L j := by rw [List.range_succ, List.flatMap_append]; simp
theorem flatMap_split (L : Nat → List Key) : ∀ (n j : Nat), j ≤ n → ∃ b, (List.range n).flatMap L = (List.range j).flatMap L ++ b
  | 0, j, h => by obtain rfl : j = 0 := by omega
                  exact ⟨[], by simp⟩
  | n + 1, j, h => by
    by_cases e : j = n + 1
    · subst e; exact ⟨[], by simp⟩
    · obtain ⟨b, hb⟩ := flatMap_split L n j (by omega)
      exact ⟨b ++ L n, by rw [flatMap_succ, hb, List.append_assoc]⟩
theorem total_le (s : Key → Nat) (L : Nat → List Key) {n j : Nat} (h : j ≤ n) : total s ((List.range j).flatMap L) ≤ total s ((List.range n).flatMap L) := by obtain ⟨b, hb⟩ := flatMap_split L n j h;rw [hb, total_append];omega
structure TopK (K : Key → Prop) (val : Key → Value) (R0 : Key → RowD) (t : Key) (ty : TypeId) (n : Nat) (u : Nat → Value) : Prop where
  k : K t
  top : isTop t
  r : R0 t = ⟨ty, 1, n, (List.range n).map u⟩
  sl : ∀ j, j < n → ∃ i, K i ∧ u j = val i
def FsRel (base : Nat) (K : Key → Prop) (val : Key → Value) (s : Key → Nat) (L : Nat → List Key) (n : Nat) (k : Int) (R : Key → RowD) (w : World) (kv i : Value) (wr : World) : Prop :=
  ∃ j : Nat, j ≤ n ∧ i = .int .i64 j ∧ kv = .int .i64 (k + (total s ((List.range j).flatMap L) : Int)) ∧ OwnK wr base K val (markAll s ((List.range j).flatMap L) k R) ∧ FrK K val w wr
def FhRel (s : Key → Nat) (L : Nat → List Key) (n : Nat) (k : Int) (w : World) (kv i : Value) (wr : World) : Prop :=
  Below w.heap.size w wr ∧ ∃ j : Nat, j ≤ n ∧ i = .int .i64 j ∧ kv = .int .i64 (k + (total s ((List.range j).flatMap L) : Int))
set_option maxRecDepth 100000 in
theorem markC_II {t : Key} {n : Nat} {u : Nat → Value} (L : Nat → List Key) (hT : TopK K val R0 t 24 n u) (hC : ∀ j, j < n → MarkC base K val R0 s 54 (u j) (L j)) (hL : ∀ j, ∀ i ∈ L j, ¬ isTop i) :
  MarkC base K val R0 s 52 (val t) ((List.range n).flatMap L) := fun R k w h hl h0 h1 => by
 have ho := h.own t hT.k;rw [hl.ty t, hl.sz t, hl.len t, hl.con t hT.top, hT.r] at ho;obtain ⟨A0, c, e0⟩ := own_sl1 ho;have HE := aA e0;have HO := aA h;have HLK := aA hl;have HT := aA hT;have HC := aA hC;rw [e0];clear ho e0 h hl hT hC;go_enter Tryz.func52, Tryz.ntmps52;go_wp2_with fail;go_loopw [1, 5] (fun kv i wr => FsRel base K val s L n k R w kv i wr) (fun _ i _ => n - (intOf i).toNat)
 case atStart => exact ⟨0, Nat.zero_le _, rfl, by simp [total], by simpa [markAll] using HO.out, FrK.refl _ _ _⟩
 case round =>
  obtain ⟨j, hj, rfl, rfl, hk, hfr⟩ := hrel;have HK := aA hk;have HFR := aA hfr;clear hfr;have hlk := markAll_like s ((List.range j).flatMap L) k R HLK.out (fun i hi => by obtain ⟨a, _, ha⟩ := List.mem_flatMap.1 hi; exact hL a i ha);have HLJ := aA hlk;have hle := total_le s L hj;by_cases hlt : j < n
  ·
   have ho := hk.own t HT.out.k;rw [hlk.ty t, hlk.sz t, hlk.len t, hlk.con t HT.out.top, HT.out.r, HE.out] at ho;obtain ⟨g, cap, ev, hcn, hcm, -, -⟩ := own_some2 ho (show 0 < n by omega);have hn63 : n ≤ 9223372036854775807 := by unfold maxLen at hcm; exact Nat.le_trans hcn hcm
   obtain ⟨i, hi, hui⟩ := HT.out.sl j hlt;obtain ⟨A1, c1, e1⟩ := own_sl1 (hk.own i hi);cases ev;have hc := (World.ownsRow.cellAt ho j (by show j < n * 1; omega)).trans (show ((List.range n).map u)[j]? = some (u j) by rw [List.getElem?_map, List.getElem?_range hlt]; rfl);rw [hui, e1] at hc;have hle2 := total_le s L (show j + 1 ≤ n from hlt);rw [flatMap_succ, total_append] at hle2;obtain ⟨tt, htt⟩ : ∃ z, z = total s ((List.range j).flatMap L) := ⟨_, rfl⟩
   have J := HC.out j hlt (markAll s ((List.range j).flatMap L) k R) (k + (tt : Int)) wr hk hlk (by omega) (by omega);rw [hui, e1] at J;have HJ := aA J;rw [← htt];have HTT := aA htt;clear ho hk hlk J e1 hui htt;go_wp2_with fail;refine HJ.out.mono ?_;rintro e w1 ⟨rfl, hk1, hf1⟩;have HK1 := aA hk1;have HF1 := aA hf1;clear hk1 hf1;go_wp2_with fail;go_roundw
   case rel =>
    refine ⟨j + 1, by omega, by go_num, ?_, ?_, HFR.out.trans HF1.out⟩
    · rw [flatMap_succ, total_append, ← HTT.out]; congr 1; omega
    · rw [flatMap_succ, markAll_append, ← HTT.out]; exact HK1.out
   case measure => simp [intOf]; omega
  ·
   obtain rfl : j = n := by omega
   clear hk hlk;go_wp2_with fail;go_ret;exact ⟨rfl, HK.out, HFR.out⟩
set_option maxRecDepth 100000 in
theorem heldC_II {t : Key} {n : Nat} {u : Nat → Value} (L : Nat → List Key) (hT : TopK K val R0 t 24 n u) (hC : ∀ j, j < n → HeldC base K val R0 s 57 (u j) (L j)) :
  HeldC base K val R0 s 58 (val t) ((List.range n).flatMap L) := fun R k w h hl hh h0 h1 => by
 have ho := h.own t hT.k;rw [hl.ty t, hl.sz t, hl.len t, hl.con t hT.top, hT.r] at ho;obtain ⟨A0, c, e0⟩ := own_sl1 ho;have HE := aA e0;have HO := aA h;have HLK := aA hl;have HT := aA hT;have HC := aA hC;have HH := aA hh;rw [e0];clear ho e0 h hl hT hC hh;go_enter Tryz.func58, Tryz.ntmps58;go_wp2_with fail;go_loopw [1, 5] (fun kv i wr => FhRel s L n k w kv i wr) (fun _ i _ => n - (intOf i).toNat)
 case atStart => exact ⟨Below.refl _ _, 0, Nat.zero_le _, rfl, by simp [total]⟩
 case round =>
  obtain ⟨hb, j, hj, rfl, rfl⟩ := hrel;have hle := total_le s L hj;by_cases hlt : j < n
  ·
   have hk := HO.out.keep (grown_below hb);have ho := hk.own t HT.out.k;rw [HLK.out.ty t, HLK.out.sz t, HLK.out.len t, HLK.out.con t HT.out.top, HT.out.r, HE.out] at ho;obtain ⟨g, cap, ev, hcn, hcm, -, -⟩ := own_some2 ho (show 0 < n by omega);have hn63 : n ≤ 9223372036854775807 := by unfold maxLen at hcm; exact Nat.le_trans hcn hcm
   obtain ⟨i, hi, hui⟩ := HT.out.sl j hlt;obtain ⟨A1, c1, e1⟩ := own_sl1 (hk.own i hi);cases ev;have hc := (World.ownsRow.cellAt ho j (by show j < n * 1; omega)).trans (show ((List.range n).map u)[j]? = some (u j) by rw [List.getElem?_map, List.getElem?_range hlt]; rfl);rw [hui, e1] at hc;have hle2 := total_le s L (show j + 1 ≤ n from hlt);rw [flatMap_succ, total_append] at hle2;obtain ⟨b, hb2⟩ := flatMap_split L n (j + 1) hlt;have hh2 := HH.out;rw [hb2, flatMap_succ, List.append_assoc] at hh2;obtain ⟨-, hh3⟩ := HeldAll.split s _ R _ k hh2;obtain ⟨hh4, -⟩ := HeldAll.split s _ R _ _ hh3;obtain ⟨tt, htt⟩ : ∃ z, z = total s ((List.range j).flatMap L) := ⟨_, rfl⟩
   rw [← htt] at hh4;have J := HC.out j hlt R (k + (tt : Int)) wr hk HLK.out hh4 (by omega) (by omega);rw [hui, e1] at J;have HJ := aA J;have hlo : 0 ≤ k + (tt : Int) + (total s (L j) : Int) := by omega
   rw [← htt];have HTT := aA htt;clear ho hk J e1 hui htt hh2 hh3 hh4 hb2;go_wp2_with fail;refine HJ.out.mono ?_;rintro e w1 ⟨rfl, hb1⟩;have HB1 := aA (bl_trans hb hb1);clear hb1;go_wp2_with fail;go_roundw
   case rel => exact ⟨HB1.out, j + 1, by omega, by go_num, by rw [flatMap_succ, total_append, ← HTT.out]; congr 1; omega⟩
   case measure => simp [intOf]; omega
  ·
   obtain rfl : j = n := by omega
   go_wp2_with fail;go_ret;exact ⟨rfl, hb⟩
set_option maxRecDepth 100000 in
theorem markC_LL {t : Key} {n : Nat} {u : Nat → Value} (L : Nat → List Key) (hT : TopK K val R0 t 102 n u) (hC : ∀ j, j < n → MarkC base K val R0 s 118 (u j) (L j)) (hL : ∀ j, ∀ i ∈ L j, ¬ isTop i) :
  MarkC base K val R0 s 91 (val t) ((List.range n).flatMap L) := fun R k w h hl h0 h1 => by
 have ho := h.own t hT.k;rw [hl.ty t, hl.sz t, hl.len t, hl.con t hT.top, hT.r] at ho;obtain ⟨A0, c, e0⟩ := own_sl1 ho;have HE := aA e0;have HO := aA h;have HLK := aA hl;have HT := aA hT;have HC := aA hC;rw [e0];clear ho e0 h hl hT hC;go_enter Tryz.func91, Tryz.ntmps91;go_wp2_with fail;go_loopw [1, 5] (fun kv i wr => FsRel base K val s L n k R w kv i wr) (fun _ i _ => n - (intOf i).toNat)
 case atStart => exact ⟨0, Nat.zero_le _, rfl, by simp [total], by simpa [markAll] using HO.out, FrK.refl _ _ _⟩
 case round =>
  obtain ⟨j, hj, rfl, rfl, hk, hfr⟩ := hrel;have HK := aA hk;have HFR := aA hfr;clear hfr;have hlk := markAll_like s ((List.range j).flatMap L) k R HLK.out (fun i hi => by obtain ⟨a, _, ha⟩ := List.mem_flatMap.1 hi; exact hL a i ha);have HLJ := aA hlk;have hle := total_le s L hj;by_cases hlt : j < n
  ·
   have ho := hk.own t HT.out.k;rw [hlk.ty t, hlk.sz t, hlk.len t, hlk.con t HT.out.top, HT.out.r, HE.out] at ho;obtain ⟨g, cap, ev, hcn, hcm, -, -⟩ := own_some2 ho (show 0 < n by omega);have hn63 : n ≤ 9223372036854775807 := by unfold maxLen at hcm; exact Nat.le_trans hcn hcm
   obtain ⟨i, hi, hui⟩ := HT.out.sl j hlt;obtain ⟨A1, c1, e1⟩ := own_sl1 (hk.own i hi);cases ev;have hc := (World.ownsRow.cellAt ho j (by show j < n * 1; omega)).trans (show ((List.range n).map u)[j]? = some (u j) by rw [List.getElem?_map, List.getElem?_range hlt]; rfl);rw [hui, e1] at hc;have hle2 := total_le s L (show j + 1 ≤ n from hlt);rw [flatMap_succ, total_append] at hle2;obtain ⟨tt, htt⟩ : ∃ z, z = total s ((List.range j).flatMap L) := ⟨_, rfl⟩
   have J := HC.out j hlt (markAll s ((List.range j).flatMap L) k R) (k + (tt : Int)) wr hk hlk (by omega) (by omega);rw [hui, e1] at J;have HJ := aA J;rw [← htt];have HTT := aA htt;clear ho hk hlk J e1 hui htt;go_wp2_with fail;refine HJ.out.mono ?_;rintro e w1 ⟨rfl, hk1, hf1⟩;have HK1 := aA hk1;have HF1 := aA hf1;clear hk1 hf1;go_wp2_with fail;go_roundw
   case rel =>
    refine ⟨j + 1, by omega, by go_num, ?_, ?_, HFR.out.trans HF1.out⟩
    · rw [flatMap_succ, total_append, ← HTT.out]; congr 1; omega
    · rw [flatMap_succ, markAll_append, ← HTT.out]; exact HK1.out
   case measure => simp [intOf]; omega
  ·
   obtain rfl : j = n := by omega
   clear hk hlk;go_wp2_with fail;go_ret;exact ⟨rfl, HK.out, HFR.out⟩
set_option maxRecDepth 100000 in
theorem heldC_LL {t : Key} {n : Nat} {u : Nat → Value} (L : Nat → List Key) (hT : TopK K val R0 t 102 n u) (hC : ∀ j, j < n → HeldC base K val R0 s 119 (u j) (L j)) :
  HeldC base K val R0 s 92 (val t) ((List.range n).flatMap L) := fun R k w h hl hh h0 h1 => by
 have ho := h.own t hT.k;rw [hl.ty t, hl.sz t, hl.len t, hl.con t hT.top, hT.r] at ho;obtain ⟨A0, c, e0⟩ := own_sl1 ho;have HE := aA e0;have HO := aA h;have HLK := aA hl;have HT := aA hT;have HC := aA hC;have HH := aA hh;rw [e0];clear ho e0 h hl hT hC hh;go_enter Tryz.func92, Tryz.ntmps92;go_wp2_with fail;go_loopw [1, 5] (fun kv i wr => FhRel s L n k w kv i wr) (fun _ i _ => n - (intOf i).toNat)
 case atStart => exact ⟨Below.refl _ _, 0, Nat.zero_le _, rfl, by simp [total]⟩
 case round =>
  obtain ⟨hb, j, hj, rfl, rfl⟩ := hrel;have hle := total_le s L hj;by_cases hlt : j < n
  ·
   have hk := HO.out.keep (grown_below hb);have ho := hk.own t HT.out.k;rw [HLK.out.ty t, HLK.out.sz t, HLK.out.len t, HLK.out.con t HT.out.top, HT.out.r, HE.out] at ho;obtain ⟨g, cap, ev, hcn, hcm, -, -⟩ := own_some2 ho (show 0 < n by omega);have hn63 : n ≤ 9223372036854775807 := by unfold maxLen at hcm; exact Nat.le_trans hcn hcm
   obtain ⟨i, hi, hui⟩ := HT.out.sl j hlt;obtain ⟨A1, c1, e1⟩ := own_sl1 (hk.own i hi);cases ev;have hc := (World.ownsRow.cellAt ho j (by show j < n * 1; omega)).trans (show ((List.range n).map u)[j]? = some (u j) by rw [List.getElem?_map, List.getElem?_range hlt]; rfl);rw [hui, e1] at hc;have hle2 := total_le s L (show j + 1 ≤ n from hlt);rw [flatMap_succ, total_append] at hle2;obtain ⟨b, hb2⟩ := flatMap_split L n (j + 1) hlt;have hh2 := HH.out;rw [hb2, flatMap_succ, List.append_assoc] at hh2;obtain ⟨-, hh3⟩ := HeldAll.split s _ R _ k hh2;obtain ⟨hh4, -⟩ := HeldAll.split s _ R _ _ hh3;obtain ⟨tt, htt⟩ : ∃ z, z = total s ((List.range j).flatMap L) := ⟨_, rfl⟩
   rw [← htt] at hh4;have J := HC.out j hlt R (k + (tt : Int)) wr hk HLK.out hh4 (by omega) (by omega);rw [hui, e1] at J;have HJ := aA J;have hlo : 0 ≤ k + (tt : Int) + (total s (L j) : Int) := by omega
   rw [← htt];have HTT := aA htt;clear ho hk J e1 hui htt hh2 hh3 hh4 hb2;go_wp2_with fail;refine HJ.out.mono ?_;rintro e w1 ⟨rfl, hb1⟩;have HB1 := aA (bl_trans hb hb1);clear hb1;go_wp2_with fail;go_roundw
   case rel => exact ⟨HB1.out, j + 1, by omega, by go_num, by rw [flatMap_succ, total_append, ← HTT.out]; congr 1; omega⟩
   case measure => simp [intOf]; omega
  ·
   obtain rfl : j = n := by omega
   go_wp2_with fail;go_ret;exact ⟨rfl, hb⟩
set_option maxRecDepth 100000 in
theorem markC_LLL {t : Key} {n : Nat} {u : Nat → Value} (L : Nat → List Key) (hT : TopK K val R0 t 101 n u) (hC : ∀ j, j < n → MarkC base K val R0 s 91 (u j) (L j)) (hL : ∀ j, ∀ i ∈ L j, ¬ isTop i) :
  MarkC base K val R0 s 56 (val t) ((List.range n).flatMap L) := fun R k w h hl h0 h1 => by
 have ho := h.own t hT.k;rw [hl.ty t, hl.sz t, hl.len t, hl.con t hT.top, hT.r] at ho;obtain ⟨A0, c, e0⟩ := own_sl1 ho;have HE := aA e0;have HO := aA h;have HLK := aA hl;have HT := aA hT;have HC := aA hC;rw [e0];clear ho e0 h hl hT hC;go_enter Tryz.func56, Tryz.ntmps56;go_wp2_with fail;go_loopw [1, 5] (fun kv i wr => FsRel base K val s L n k R w kv i wr) (fun _ i _ => n - (intOf i).toNat)
 case atStart => exact ⟨0, Nat.zero_le _, rfl, by simp [total], by simpa [markAll] using HO.out, FrK.refl _ _ _⟩
 case round =>
  obtain ⟨j, hj, rfl, rfl, hk, hfr⟩ := hrel;have HK := aA hk;have HFR := aA hfr;clear hfr;have hlk := markAll_like s ((List.range j).flatMap L) k R HLK.out (fun i hi => by obtain ⟨a, _, ha⟩ := List.mem_flatMap.1 hi; exact hL a i ha);have HLJ := aA hlk;have hle := total_le s L hj;by_cases hlt : j < n
  ·
   have ho := hk.own t HT.out.k;rw [hlk.ty t, hlk.sz t, hlk.len t, hlk.con t HT.out.top, HT.out.r, HE.out] at ho;obtain ⟨g, cap, ev, hcn, hcm, -, -⟩ := own_some2 ho (show 0 < n by omega);have hn63 : n ≤ 9223372036854775807 := by unfold maxLen at hcm; exact Nat.le_trans hcn hcm
   obtain ⟨i, hi, hui⟩ := HT.out.sl j hlt;obtain ⟨A1, c1, e1⟩ := own_sl1 (hk.own i hi);cases ev;have hc := (World.ownsRow.cellAt ho j (by show j < n * 1; omega)).trans (show ((List.range n).map u)[j]? = some (u j) by rw [List.getElem?_map, List.getElem?_range hlt]; rfl);rw [hui, e1] at hc;have hle2 := total_le s L (show j + 1 ≤ n from hlt);rw [flatMap_succ, total_append] at hle2;obtain ⟨tt, htt⟩ : ∃ z, z = total s ((List.range j).flatMap L) := ⟨_, rfl⟩
   have J := HC.out j hlt (markAll s ((List.range j).flatMap L) k R) (k + (tt : Int)) wr hk hlk (by omega) (by omega);rw [hui, e1] at J;have HJ := aA J;rw [← htt];have HTT := aA htt;clear ho hk hlk J e1 hui htt;go_wp2_with fail;refine HJ.out.mono ?_;rintro e w1 ⟨rfl, hk1, hf1⟩;have HK1 := aA hk1;have HF1 := aA hf1;clear hk1 hf1;go_wp2_with fail;go_roundw
   case rel =>
    refine ⟨j + 1, by omega, by go_num, ?_, ?_, HFR.out.trans HF1.out⟩
    · rw [flatMap_succ, total_append, ← HTT.out]; congr 1; omega
    · rw [flatMap_succ, markAll_append, ← HTT.out]; exact HK1.out
   case measure => simp [intOf]; omega
  ·
   obtain rfl : j = n := by omega
   clear hk hlk;go_wp2_with fail;go_ret;exact ⟨rfl, HK.out, HFR.out⟩
set_option maxRecDepth 100000 in
theorem heldC_LLL {t : Key} {n : Nat} {u : Nat → Value} (L : Nat → List Key) (hT : TopK K val R0 t 101 n u) (hC : ∀ j, j < n → HeldC base K val R0 s 92 (u j) (L j)) :
  HeldC base K val R0 s 59 (val t) ((List.range n).flatMap L) := fun R k w h hl hh h0 h1 => by
 have ho := h.own t hT.k;rw [hl.ty t, hl.sz t, hl.len t, hl.con t hT.top, hT.r] at ho;obtain ⟨A0, c, e0⟩ := own_sl1 ho;have HE := aA e0;have HO := aA h;have HLK := aA hl;have HT := aA hT;have HC := aA hC;have HH := aA hh;rw [e0];clear ho e0 h hl hT hC hh;go_enter Tryz.func59, Tryz.ntmps59;go_wp2_with fail;go_loopw [1, 5] (fun kv i wr => FhRel s L n k w kv i wr) (fun _ i _ => n - (intOf i).toNat)
 case atStart => exact ⟨Below.refl _ _, 0, Nat.zero_le _, rfl, by simp [total]⟩
 case round =>
  obtain ⟨hb, j, hj, rfl, rfl⟩ := hrel;have hle := total_le s L hj;by_cases hlt : j < n
  ·
   have hk := HO.out.keep (grown_below hb);have ho := hk.own t HT.out.k;rw [HLK.out.ty t, HLK.out.sz t, HLK.out.len t, HLK.out.con t HT.out.top, HT.out.r, HE.out] at ho;obtain ⟨g, cap, ev, hcn, hcm, -, -⟩ := own_some2 ho (show 0 < n by omega);have hn63 : n ≤ 9223372036854775807 := by unfold maxLen at hcm; exact Nat.le_trans hcn hcm
   obtain ⟨i, hi, hui⟩ := HT.out.sl j hlt;obtain ⟨A1, c1, e1⟩ := own_sl1 (hk.own i hi);cases ev;have hc := (World.ownsRow.cellAt ho j (by show j < n * 1; omega)).trans (show ((List.range n).map u)[j]? = some (u j) by rw [List.getElem?_map, List.getElem?_range hlt]; rfl);rw [hui, e1] at hc;have hle2 := total_le s L (show j + 1 ≤ n from hlt);rw [flatMap_succ, total_append] at hle2;obtain ⟨b, hb2⟩ := flatMap_split L n (j + 1) hlt;have hh2 := HH.out;rw [hb2, flatMap_succ, List.append_assoc] at hh2;obtain ⟨-, hh3⟩ := HeldAll.split s _ R _ k hh2;obtain ⟨hh4, -⟩ := HeldAll.split s _ R _ _ hh3;obtain ⟨tt, htt⟩ : ∃ z, z = total s ((List.range j).flatMap L) := ⟨_, rfl⟩
   rw [← htt] at hh4;have J := HC.out j hlt R (k + (tt : Int)) wr hk HLK.out hh4 (by omega) (by omega);rw [hui, e1] at J;have HJ := aA J;have hlo : 0 ≤ k + (tt : Int) + (total s (L j) : Int) := by omega
   rw [← htt];have HTT := aA htt;clear ho hk J e1 hui htt hh2 hh3 hh4 hb2;go_wp2_with fail;refine HJ.out.mono ?_;rintro e w1 ⟨rfl, hb1⟩;have HB1 := aA (bl_trans hb hb1);clear hb1;go_wp2_with fail;go_roundw
   case rel => exact ⟨HB1.out, j + 1, by omega, by go_num, by rw [flatMap_succ, total_append, ← HTT.out]; congr 1; omega⟩
   case measure => simp [intOf]; omega
  ·
   obtain rfl : j = n := by omega
   go_wp2_with fail;go_ret;exact ⟨rfl, hb⟩
end
/-! ### The state as a whole -/
def szA (x : Asy) : Key → Nat
  | .r => x.rounds.length
  | .b => x.before.length
  | .n => x.now.length
  | .sl k => (slotsAt x k).length
  | .le k p => (lettersAt x k p).length * 2
  | _ => 0
def slO (x : Asy) : List Key := (List.range x.slots.length).flatMap fun j => [.sl j]
def leO (x : Asy) : List Key := (List.range x.flight.length).flatMap fun k => (List.range (portsAt x k).length).flatMap fun p => [.le k p]
def ordA (x : Asy) : List Key := [.r] ++ ([.b] ++ ([.n] ++ (slO x ++ leO x)))
theorem ordA_nodup (x : Asy) : (ordA x).Nodup := by
 unfold ordA slO leO List.Nodup;have hsl : ((List.range x.slots.length).flatMap fun j => [Key.sl j]).Pairwise (· ≠ ·) := by rw [List.pairwise_flatMap];refine ⟨fun a _ => List.pairwise_singleton _ _, (List.nodup_range (n := x.slots.length)).imp fun h y hy z hz => ?_⟩;rw [List.mem_singleton.1 hy, List.mem_singleton.1 hz];simpa using h
 have hle : ((List.range x.flight.length).flatMap fun k => (List.range (portsAt x k).length).flatMap fun p => [Key.le k p]).Pairwise (· ≠ ·) := by
  rw [List.pairwise_flatMap];refine ⟨fun a _ => ?_, (List.nodup_range (n := x.flight.length)).imp fun h y hy z hz => ?_⟩
  · rw [List.pairwise_flatMap];refine ⟨fun b _ => List.pairwise_singleton _ _, (List.nodup_range (n := (portsAt x a).length)).imp fun h y hy z hz => ?_⟩;rw [List.mem_singleton.1 hy, List.mem_singleton.1 hz];simpa using h
  · obtain ⟨p, _, hp⟩ := List.mem_flatMap.1 hy;obtain ⟨q, _, hq⟩ := List.mem_flatMap.1 hz;rw [List.mem_singleton.1 hp, List.mem_singleton.1 hq];simp [h]
 have nsl : ∀ i ∈ (List.range x.slots.length).flatMap (fun j => [Key.sl j]), ∃ j, i = .sl j := fun i hi => by obtain ⟨j, _, hj⟩ := List.mem_flatMap.1 hi;exact ⟨j, List.mem_singleton.1 hj⟩
 have nle : ∀ i ∈ (List.range x.flight.length).flatMap (fun k => (List.range (portsAt x k).length).flatMap fun p => [Key.le k p]), ∃ k p, i = .le k p := fun i hi => by obtain ⟨k, _, hk⟩ := List.mem_flatMap.1 hi;obtain ⟨p, _, hp⟩ := List.mem_flatMap.1 hk;exact ⟨k, p, List.mem_singleton.1 hp⟩
 simp only [List.singleton_append, List.pairwise_cons, List.pairwise_append, List.mem_cons, List.mem_append];refine ⟨fun i hi => ?_, fun i hi => ?_, fun i hi => ?_, hsl, hle, fun i hi j hj => ?_⟩
 ·
  rcases hi with h | h | h | h
  · rw [h]; simp
  · rw [h]; simp
  · obtain ⟨j, rfl⟩ := nsl i h; simp
  · obtain ⟨k, p, rfl⟩ := nle i h; simp
 ·
  rcases hi with h | h | h
  · rw [h]; simp
  · obtain ⟨j, rfl⟩ := nsl i h; simp
  · obtain ⟨k, p, rfl⟩ := nle i h; simp
 ·
  rcases hi with h | h
  · obtain ⟨j, rfl⟩ := nsl i h; simp
  · obtain ⟨k, p, rfl⟩ := nle i h; simp
 · obtain ⟨a, rfl⟩ := nsl i hi;obtain ⟨k, p, rfl⟩ := nle j hj;simp
theorem noTop_sl (x : Asy) : ∀ i ∈ slO x, ¬ isTop i := fun i hi => by obtain ⟨j, _, hj⟩ := List.mem_flatMap.1 hi;rw [List.mem_singleton.1 hj]; exact fun h => h
theorem noTop_le (x : Asy) : ∀ i ∈ leO x, ¬ isTop i := fun i hi => by obtain ⟨k, _, hk⟩ := List.mem_flatMap.1 hi;obtain ⟨p, _, hp⟩ := List.mem_flatMap.1 hk;rw [List.mem_singleton.1 hp]; exact fun h => h
section
variable {base : Nat} {val : Key → Value} {x : Asy}
theorem mark_sl : MarkC base (keyOf x) val (rowK x val) (szA x) 52 (val .s) (slO x) :=
  markC_II (fun j => [.sl j]) ⟨trivial, trivial, rfl, fun j hj => ⟨.sl j, hj, rfl⟩⟩ (fun j hj => markC_I (.sl j) hj rfl rfl rfl) (fun j i hi => by rw [List.mem_singleton.1 hi]; exact fun h => h)
theorem mark_fr {k : Nat} (hk : k < x.flight.length) : MarkC base (keyOf x) val (rowK x val) (szA x) 91 (val (.fr k)) ((List.range (portsAt x k).length).flatMap fun p => [.le k p]) :=
  markC_LL (fun p => [.le k p]) ⟨hk, trivial, rfl, fun p hp => ⟨.le k p, ⟨hk, hp⟩, rfl⟩⟩ (fun p hp => markC_L (.le k p) ⟨hk, hp⟩ rfl rfl rfl) (fun j i hi => by rw [List.mem_singleton.1 hi]; exact fun h => h)
theorem mark_f : MarkC base (keyOf x) val (rowK x val) (szA x) 56 (val .f) (leO x) :=
  markC_LLL (fun k => (List.range (portsAt x k).length).flatMap fun p => [.le k p]) ⟨trivial, trivial, rfl, fun k hk => ⟨.fr k, hk, rfl⟩⟩ (fun k hk => mark_fr hk) (fun j i hi => by obtain ⟨p, _, hp⟩ := List.mem_flatMap.1 hi; rw [List.mem_singleton.1 hp]; exact fun h => h)
theorem held_sl : HeldC base (keyOf x) val (rowK x val) (szA x) 58 (val .s) (slO x) :=
  heldC_II (fun j => [.sl j]) ⟨trivial, trivial, rfl, fun j hj => ⟨.sl j, hj, rfl⟩⟩ (fun j hj => heldC_I (.sl j) hj rfl rfl rfl)
theorem held_fr {k : Nat} (hk : k < x.flight.length) : HeldC base (keyOf x) val (rowK x val) (szA x) 92 (val (.fr k)) ((List.range (portsAt x k).length).flatMap fun p => [.le k p]) :=
  heldC_LL (fun p => [.le k p]) ⟨hk, trivial, rfl, fun p hp => ⟨.le k p, ⟨hk, hp⟩, rfl⟩⟩ (fun p hp => heldC_L (.le k p) ⟨hk, hp⟩ rfl rfl rfl)
theorem held_f : HeldC base (keyOf x) val (rowK x val) (szA x) 59 (val .f) (leO x) :=
  heldC_LLL (fun k => (List.range (portsAt x k).length).flatMap fun p => [.le k p]) ⟨trivial, trivial, rfl, fun k hk => ⟨.fr k, hk, rfl⟩⟩ (fun k hk => held_fr hk)
theorem mark_r1 : MarkC base (keyOf x) val (rowK x val) (szA x) 54 (val .r) [.r] := markC_I .r trivial rfl rfl rfl
theorem mark_b1 : MarkC base (keyOf x) val (rowK x val) (szA x) 54 (val .b) [.b] := markC_I .b trivial rfl rfl rfl
theorem mark_n1 : MarkC base (keyOf x) val (rowK x val) (szA x) 54 (val .n) [.n] := markC_I .n trivial rfl rfl rfl
theorem held_r1 : HeldC base (keyOf x) val (rowK x val) (szA x) 57 (val .r) [.r] := heldC_I .r trivial rfl rfl rfl
theorem held_b1 : HeldC base (keyOf x) val (rowK x val) (szA x) 57 (val .b) [.b] := heldC_I .b trivial rfl rfl rfl
theorem held_n1 : HeldC base (keyOf x) val (rowK x val) (szA x) 57 (val .n) [.n] := heldC_I .n trivial rfl rfl rfl
end
end Go.Proofs.YtjklbjmdgiddcaaGreat
