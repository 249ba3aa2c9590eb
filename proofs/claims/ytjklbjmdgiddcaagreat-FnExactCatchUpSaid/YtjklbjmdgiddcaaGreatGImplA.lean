/-
  Networks, the program's side: identifiers, inputs, ports.
  Networks, the program's side: identifiers: copied, put in order, rising.
  Networks, the program's side: IsNetwork says whether a network is one.
  Networks, the program's side: degrees, inputs that are one, what a daemon and a rule is, how many situations there are.
  Networks, the program's side: slices.Repeat at one number.
  Networks, the program's side: how far the nodes are from one of them; whether a network hangs together.
-/
import Derived.Test.YtjklbjmdgiddcaaGreatGSpecBG
import Derived.Test.YtjklbjmdgiddcaaGreatGShelf
import Derived.Lib.OwnBridge
import Derived.Laws.OwnMore
import Derived.Laws.IdiomCopy
import Derived.Laws.CopyRow
import Derived.Laws.NewBlocks
import Derived.Lib.SliceRun
import Derived.Lib.Overlaps
import Derived.Laws.CopyOwn
import Derived.Deep.RegionLaw
import Derived.ArgAppend
namespace Go.Proofs.YtjklbjmdgiddcaaGreat
section
open Go.RowKit
set_option linter.all false
def RiseTo (xs : List Int) (lo hi : Int) (k : Nat) : Prop := ∀ (i : Nat) (x : Int), i < k → xs[i]? = some x → inB x lo hi = true ∧ (0 < i → ∀ y, xs[i - 1]? = some y → y < x)
noncomputable def riseB (xs : List Int) (lo hi : Int) : Bool := propB (risingP xs lo hi)
theorem RiseTo.next {xs : List Int} {lo hi : Int} {k : Nat} {x : Int} (h : RiseTo xs lo hi k) (hx : xs[k]? = some x) (h1 : inB x lo hi = true) (h2 : 0 < k → ∀ y, xs[k - 1]? = some y → y < x) : RiseTo xs lo hi (k + 1) := fun i y hi' hy => by
  by_cases e : i = k
  · subst e
    obtain rfl := aE (hx.symm.trans hy);exact ⟨h1, h2⟩
  · exact h i y (by omega) hy
theorem rise_no1 {xs : List Int} {lo hi x : Int} {k : Nat} (hx : xs[k]? = some x) (h : inB x lo hi = false) : riseB xs lo hi = false := propB_f fun hp => by rw [inB_t (hp.1 x (aN hx))] at h;cases h
theorem rise_no2 {xs : List Int} {lo hi x y : Int} {k : Nat} (hx : xs[k + 1]? = some x) (hy : xs[k]? = some y) (h : ¬ y < x) : riseB xs lo hi = false := propB_f fun hp => h (hp.2 k y x hy hx)
theorem rise_end {xs : List Int} {lo hi : Int} {k : Nat} (h : RiseTo xs lo hi k) (hk : xs.length ≤ k) : riseB xs lo hi = true := propB_t ⟨fun x hx => by
    obtain ⟨j, hj⟩ := List.mem_iff_getElem?.1 hx;have := (h j x (by have := (aB.1 hj).1; omega) hj).1;unfold inB at this
    exact of_decide_eq_true this, fun i a b ha hb => (h (i + 1) b (by have := (aB.1 hb).1; omega) hb).2 (by omega) a (by simpa using ha)⟩
def RsRel (xs : List Int) (lo hi : Int) (w : World) (i : Value) (wr : World) : Prop := w = wr ∧ ∃ k : Nat, k ≤ xs.length ∧ i = .int .i64 k ∧ RiseTo xs lo hi k
theorem impl_increasing (v : Value) (xs : List Int) (lo hi : Int) (w : World) (h : IntsR w w.heap.size v xs) :
  Calls Tryz.prog 139 #[v, .int .i64 lo, .int .i64 hi] w fun e w' => e = .returned (.bool (riseB xs lo hi)) ∧ w = w' := by
 obtain ⟨A, c, rfl, h1, h2, h3⟩ := h.open_;unfold maxLen at h2;clear h;go_enter Tryz.func139, Tryz.ntmps139;go_wp2_with fail;go_loopw [7, 8, 11] (fun _ _ i wr => RsRel xs lo hi w i wr) (fun _ _ i _ => xs.length - (intOf i).toNat)
 case atStart => exact ⟨rfl, 0, Nat.zero_le _, rfl, fun _ _ h => absurd h (by omega)⟩
 case round =>
  obtain ⟨rfl, k, hk, rfl, hup⟩ := hrel;have HU := aA hup; clear hup;by_cases hlt : k < xs.length
  ·
   obtain ⟨x, hx⟩ : ∃ y, xs[k]? = some y := ⟨xs[k], aC hlt⟩
   obtain ⟨ad, rfl, hb, hc⟩ := h3 (by omega);have hcell := hc k x hx;have HX := aA hx;cases hp : inB x lo hi with
   | false =>
    clear h3 hc hx;go_wp2_with (go_at_call 94; refine (impl_within _ _ _ _).mono ?_; rintro e w' ⟨rfl, rfl⟩)
    go_ret;exact ⟨ret_bool (rise_no1 HX.out hp).symm, rfl⟩
   | true =>
    by_cases h0 : 0 < k
    ·
     obtain ⟨j, hj⟩ : ∃ j, j = k - 1 := ⟨_, rfl⟩
     have HJ := aA (show k = j + 1 by omega);have hjl : j < xs.length := by omega
     obtain ⟨y, hy⟩ : ∃ y, xs[j]? = some y := ⟨_, aC hjl⟩
     have hcell2 := hc j y hy;have HY := aA hy;have hj1 : (k : Int) - 1 = (j : Int) := by omega
     clear hj;clear h3 hc hx hy;by_cases hlt2 : y < x
     ·
      go_wp2_with (go_at_call 94; refine (impl_within _ _ _ _).mono ?_; rintro e w' ⟨rfl, rfl⟩)
      go_roundw
      case rel => exact ⟨rfl, k + 1, by omega, by go_num, HU.out.next HX.out hp fun _ z hz => by
       rw [HJ.out, Nat.add_sub_cancel] at hz;obtain rfl := aE (HY.out.symm.trans hz)
       exact hlt2⟩
      case measure => simp [intOf]; omega
     ·
      go_wp2_with (go_at_call 94; refine (impl_within _ _ _ _).mono ?_; rintro e w' ⟨rfl, rfl⟩)
      go_ret;exact ⟨ret_bool (rise_no2 (k := j) (by rw [← HJ.out]; exact HX.out) HY.out (by omega)).symm, rfl⟩
    ·
     clear h3 hc hx;go_wp2_with (go_at_call 94; refine (impl_within _ _ _ _).mono ?_; rintro e w' ⟨rfl, rfl⟩)
     go_roundw
     case rel => exact ⟨rfl, k + 1, by omega, by go_num, HU.out.next HX.out hp fun h => absurd h (by omega)⟩
     case measure => simp [intOf]; omega
  · go_wp2;go_ret;exact ⟨ret_bool (rise_end HU.out (by omega)).symm, rfl⟩
theorem impl_inputsOk (v : Value) (xs : List Int) (n : Nat) (w : World) (h : IntsR w w.heap.size v xs) (hn : n ≤ 2000000) :
    Calls Tryz.prog 127 #[v, .int .i64 (n : Int)] w fun e w' => e = .returned (.bool (decide (xs.length = n) && allB xs 0 9)) ∧ Below w.heap.size w w' := by
  have HH := aA h;obtain ⟨A, c, rfl, h1, h2, h3⟩ := h.open_;unfold maxLen at h2;clear h h3;by_cases hl : xs.length = n
  · have kq : (((xs.length : Nat) : Int) == (n : Int)) = true := by rw [hl]; simp
    have HL := aA hl; clear hl;go_enter Tryz.func127, Tryz.ntmps127;go_wp2_with fail;refine (impl_allWithin _ xs 0 9 w HH.out).mono ?_;rintro e w1 ⟨rfl, hb1⟩;go_wp2_with fail;go_ret;exact ⟨ret_bool (by rw [decide_eq_true HL.out]; rfl), hb1⟩
  · have kq : (((xs.length : Nat) : Int) == (n : Int)) = false := by rw [beq_eq_false_iff_ne]; omega
    have HL := aA hl; clear hl;go_enter Tryz.func127, Tryz.ntmps127;go_wp2_with fail;go_ret;exact ⟨ret_bool (by rw [decide_eq_false HL.out]; rfl), Below.refl _ _⟩
theorem impl_hasNode (ve vi vn : Value) (n : Net) (x : Int) (w : World) (h : NetR w w.heap.size ve vi vn n) (hz : n.es.length ≤ 2000000) :
    Calls Tryz.prog 110 #[.agg #[ve, vi, vn], .int .i64 x] w fun e w' => e = .returned (.bool (inB x 0 ((n.es.length : Int) - 1))) ∧ Below w.heap.size w w' := by
  obtain ⟨⟨A0, m0, c0, rfl⟩, ⟨A1, m1, c1, rfl⟩, A2, m2, c2, rfl⟩ := h.slices;obtain ⟨w0, hw0, hB, HD, hz0, HS0⟩ := box3 w (.slice A0 m0 c0) (.slice A1 m1 c1) (.slice A2 m2 c2) 50;have HN0 := aA h; have HN := aA (h.up hB); clear h;have HW0 := aA hw0; clear hw0;obtain ⟨q0, q1, q2, qf⟩ := cells3 HD;obtain ⟨hm0, -, -⟩ := HN.out.e.len_slice;subst hm0;have hwr : IntKind.i64.wrap ((n.es.length : Int) - 1) = (n.es.length : Int) - 1 := aL _ (by omega);go_enter Tryz.func110, Tryz.ntmps110;go_wp2_with (go_at_call 94; refine (impl_within _ _ _ _).mono ?_; rintro e w' ⟨rfl, rfl⟩)
  go_ret;rw [← HW0.out];exact ⟨rfl, hB⟩
noncomputable def portB (n : Net) (x p : Int) : Bool := propB (0 ≤ x ∧ 0 ≤ p ∧ ∃ l, n.es[x.toNat]? = some l ∧ p.toNat < l.length)
theorem port_no1 {n : Net} {x p : Int} (h : inB x 0 ((n.es.length : Int) - 1) = false) : portB n x p = false := propB_f fun ⟨h0, _, l, hl, _⟩ => by have := (aB.1 hl).1;rw [inB_t (by omega)] at h;cases h
theorem port_at {n : Net} {a : Nat} {p : Int} {l : Ends} (hl : n.es[a]? = some l) : portB n (a : Int) p = inB p 0 ((l.length : Int) - 1) := by
  cases h : inB p 0 ((l.length : Int) - 1) with
  | true =>
    obtain ⟨q, rfl, hq⟩ := inB_nat h;exact propB_t ⟨by omega, by omega, l, by rw [Int.toNat_natCast]; exact hl, by rw [Int.toNat_natCast]; exact hq⟩
  | false =>
    refine propB_f fun ⟨_, h0, l', hl', hq⟩ => ?_
    rw [Int.toNat_natCast, hl] at hl';obtain rfl := aE hl';rw [inB_t (by omega)] at h;cases h
theorem impl_hasPort (ve vi vn : Value) (n : Net) (x p : Int) (w : World) (h : NetR w w.heap.size ve vi vn n) (hz : n.es.length ≤ 2000000) :
  Calls Tryz.prog 112 #[.agg #[ve, vi, vn], .int .i64 x, .int .i64 p] w fun e w' => e = .returned (.bool (portB n x p)) ∧ Below w.heap.size w w' := by
 obtain ⟨⟨A0, m0, c0, rfl⟩, ⟨A1, m1, c1, rfl⟩, A2, m2, c2, rfl⟩ := h.slices;obtain ⟨w0, hw0, hB, HD, hz0, HS0⟩ := box3 w (.slice A0 m0 c0) (.slice A1 m1 c1) (.slice A2 m2 c2) 50;have HN0 := aA h; have HN := aA (h.up hB); clear h;have HW0 := aA hw0; clear hw0;obtain ⟨q0, q1, q2, qf⟩ := cells3 HD;obtain ⟨hm0, -, -⟩ := HN.out.e.len_slice;subst hm0;go_enter Tryz.func112, Tryz.ntmps112;go_wp2_with fail;rw [← HW0.out];refine (impl_hasNode _ _ _ n x w0 HN.out hz).mono ?_;rintro e w1 ⟨rfl, hb1⟩;have hzhb1 := hb1.size;clear q0 q1 q2 qf;replace HD := bk HD hb1;replace HN := aA (HN.out.up hb1);replace hB := bl_trans hB hb1;obtain ⟨q0, q1, q2, qf⟩ := cells3 HD;cases g : inB x 0 ((n.es.length : Int) - 1) with
 | false =>
  go_wp2_with fail;go_ret;exact ⟨ret_bool (port_no1 g).symm, hB⟩
 | true =>
  obtain ⟨a, rfl, hal⟩ := inB_nat g;obtain ⟨l, hl⟩ : ∃ y, n.es[a]? = some y := ⟨_, aC hal⟩
  obtain ⟨ad, rfl⟩ := HN.out.e.some_ (by omega);obtain ⟨-, u, r0, hr⟩ := HN.out.e.at_ hl;obtain ⟨A', c', rfl, hlc, hlm, -⟩ := hr;unfold maxLen at hlm;have HPA := aA (port_at (p := p) hl);have hwr : IntKind.i64.wrap ((l.length : Int) - 1) = (l.length : Int) - 1 := aL _ (by omega);clear hl;go_wp2_with (go_at_call 94; refine (impl_within _ _ _ _).mono ?_; rintro e w' ⟨rfl, rfl⟩)
  go_ret;exact ⟨ret_bool HPA.out.symm, hB⟩
end
section
open Go.RowKit Go.Sort Go.Lib
set_option linter.all false
theorem ints_cells {w : World} {ad : Addr} {xs : List Int} (h0 : 0 < xs.length) (h : ∀ j x, xs[j]? = some x → w.cell? (ad.add j) = some (.int .i64 x)) :
    ∃ b off, ad = ⟨b, off, none⟩ ∧ ∀ j, j < xs.length → w.cell? ⟨b, off + j, none⟩ = some (.int .i64 (xs.getD j 0)) := by
  obtain ⟨b, off, sp⟩ := ad;have hs : sp = none := by
    have h1 := h 0 xs[0] (aC h0);cases sp with
    | none => rfl
    | some s =>
      simp only [World.cell?, Addr.add] at h1;split at h1 <;> simp at h1
  subst hs;refine ⟨b, off, rfl, fun j hj => ?_⟩;have h1 := h j xs[j] (aC hj);rw [aG, aC hj, Option.getD_some, ← h1];rcases j with _ | j <;> simp [Addr.add]
theorem row_sl {w : World} {base n : Nat} {e : TypeId} {v : Value} {xs : List Value} (h : w.ownsRow base e 1 v n xs) : SlR w w.heap.size v xs := by
  have hl : xs.length = n := by simpa using h.1
  have hlt := h.lt;rcases h.2 with ⟨rfl, e0⟩ | ⟨g, cap, cur, rfl, hb, hg, hn, hm, hs, ht⟩
  · exact ⟨none, 0, by rw [hl, e0], by omega, by unfold maxLen; omega, fun h => by omega⟩
  · refine ⟨some ⟨g, 0, none⟩, cap, by rw [hl], by omega, hm, fun _ => ⟨_, rfl, (hlt g rfl).2, fun j u hu => ?_⟩⟩
    have hj := (aB.1 hu).1;have := h.cellAt j (by omega);rw [← hu, ← this];rcases j with _ | j <;> simp [Addr.add]
theorem below_grow (W : World) (os : Array Obj) : Below W.heap.size W (grow W os) :=
  ⟨rfl, rfl, rfl, by simp [grow], fun k hk => by simp only [grow]; rw [Array.getElem?_append_left hk]⟩
def RowPost (xs : List Int) (w : World) (e : Ending) (w' : World) : Prop := ∃ v', e = .returned v' ∧ w'.ownsRow w.heap.size 3 1 v' xs.length (xs.map (Value.int .i64)) ∧ (xs ≠ [] → v' ≠ .slice none 0 0) ∧ Below w.heap.size w w'
theorem impl_Clone (v : Value) (xs : List Int) (w : World) (h : IntsR w w.heap.size v xs) (hn : xs.length ≤ 2000000) : Calls Tryz.prog 82 #[v] w (RowPost xs w) := by
  obtain ⟨A, c, rfl, h1, h2, h3⟩ := h.open_;by_cases h0 : xs.length = 0
  · obtain rfl : xs = [] := List.eq_nil_of_length_eq_zero h0
    cases A with
    | none =>
      refine (Tryz.slices_Clone_int_nil 0 c w).mono ?_;rintro e w' ⟨rfl, rfl⟩;exact ⟨_, rfl, World.ownsRow_nil _ _ _ _, fun h => absurd rfl h, Below.refl _ _⟩
    | some a =>
      refine (Tryz.slices_Clone_int_zero a c w).mono ?_;rintro e w' ⟨v', rfl, k1, k2, k3⟩;exact ⟨_, rfl, k1, fun _ => k2, k3⟩
  · obtain ⟨ad, rfl, hb, hc⟩ := h3 (by omega)
    obtain ⟨b, off, rfl, hcc⟩ := ints_cells (by omega) hc;refine (Tryz.slices_Clone_int b off xs.length c xs w (Nat.le_refl _) (by omega) hcc).mono ?_;rintro e w' ⟨v', rfl, k1, k2, k3⟩;rw [List.take_length] at k1;exact ⟨_, rfl, k1, fun _ => k2, k3⟩
theorem impl_Sort (v : Value) (xs : List Int) (base : Nat) (w : World) (h : w.ownsRow base 3 1 v xs.length (xs.map (Value.int .i64))) (hv : v ≠ .slice none 0 0) (hn : xs.length ≤ 2000000) :
  Calls Tryz.prog 138 #[v] w fun e w' => e = .returned (.tuple #[]) ∧ (∃ ys : List Int, ys.Perm xs ∧ ys.Pairwise (· ≤ ·) ∧ SlR w' w'.heap.size v (ys.map intV)) ∧ Below base w w' := by
 obtain ⟨g, cap, rfl, hg, hgl, hc, hm, -, hH⟩ := holds_of_ownsRow h hv;refine (Tryz.slices_Sort_int g 0 cap xs w hH hgl (by omega)).mono ?_;rintro e w' ⟨rfl, n, os, rfl⟩;have hp := List.mergeSort_perm xs (fun x y => decide (x ≤ y));have ho := ownsRow_putRow (q := n) (k := xs.length) h (ys := xs.mergeSort fun x y => decide (x ≤ y)) (by rw [hp.length_eq]) (Nat.le_refl _);rw [List.take_of_length_le (by rw [hp.length_eq]; exact Nat.le_refl _)] at ho;have hs := row_sl ho;generalize hW : putRow (Value.int .i64) (Sort.ahead w n) g 0 (xs.mergeSort fun x y => decide (x ≤ y)).toArray = W at hs;have hbW : Below base w W := by rw [← hW]; exact below_putRow (Below.refl _ _) hg
 have hbG : Below W.heap.size W (grow W os) := below_grow W os;have hsz : base ≤ W.heap.size := by have := hbW.size; omega
 refine ⟨rfl, ⟨_, hp, ?_, (hs.below hbG).more hbG.size⟩, hbW.trans (hbG.mono hsz)⟩;have := List.pairwise_mergeSort (le := fun x y : Int => decide (x ≤ y)) (fun a b c h1 h2 => by simp only [decide_eq_true_eq] at *; omega) (fun a b => by simp only [Bool.or_eq_true, decide_eq_true_eq]; omega) xs;exact this.imp fun h => by simpa using h
theorem impl_idsOk (v : Value) (xs : List Int) (k : Nat) (w : World) (h : IntsR w w.heap.size v xs) (hn : xs.length ≤ 2000000) :
  Calls Tryz.prog 126 #[v, .int .i64 (k : Int)] w fun e w' => e = .returned (.bool (idsB xs k)) ∧ Below w.heap.size w w' := by
 have HH := aA h;obtain ⟨A, c, rfl, h1, h2, h3⟩ := h.open_;clear h h3;by_cases h0 : xs.length = 0
 · obtain rfl : xs = [] := List.eq_nil_of_length_eq_zero h0;go_enter Tryz.func126, Tryz.ntmps126;go_wp2_with fail;go_ret;exact ⟨ret_bool (propB_t ⟨(fun _ h => by cases h), List.nodup_nil, .inl rfl⟩).symm, Below.refl _ _⟩
 ·
  have HZ := aA h0;have kq : (((xs.length : Nat) : Int) == (0 : Int)) = false := by rw [beq_eq_false_iff_ne]; omega
  clear h0;go_enter Tryz.func126, Tryz.ntmps126;go_wp2_with fail;refine (impl_Clone _ xs w HH.out hn).mono ?_;rintro e w1 ⟨v', rfl, ho, hv, hb1⟩;have HB1 := aA hb1; clear hb1;have HO := aA ho; clear ho;have HV := aA hv; clear hv;go_wp2_with fail;refine (impl_Sort v' xs w.heap.size w1 HO.out (HV.out (fun e => HZ.out (by rw [e]; rfl))) hn).mono ?_;rintro e w2 ⟨rfl, ⟨ys, hp, hs, hr⟩, hb2⟩;have hb : Below w.heap.size w w2 := HB1.out.trans hb2;have HB := aA hb; clear hb hb2;have HP := aA hp; clear hp;have HS := aA hs; clear hs;have HR := aA hr; clear hr;clear HB1 HO HV;have HI := aA (ids_sorted (k := k) HP.out HS.out (fun e => HZ.out (by rw [e]; rfl)));by_cases hl : xs.length = k
  ·
   have hx : riseB ys 1 999999 = idsB xs k := by unfold riseB idsB;exact propB_congr ⟨fun h => HI.out.1 ⟨hl, h⟩, fun h => (HI.out.2 h).2⟩
   have HX := aA hx; clear hx HI;subst hl;go_wp2_with fail;refine (impl_increasing v' ys 1 999999 w2 ⟨HR.out, fun x hx => HH.out.2 x (HP.out.mem_iff.1 hx)⟩).mono ?_;rintro e w3 ⟨rfl, rfl⟩;go_wp2_with fail;go_ret;exact ⟨ret_bool HX.out, HB.out⟩
  ·
   have kq2 : (((xs.length : Nat) : Int) == (k : Int)) = false := by rw [beq_eq_false_iff_ne]; omega
   have HL := aA hl; clear hl;go_wp2_with fail;go_ret;exact ⟨ret_bool (propB_f fun h => HL.out (HI.out.2 h).1).symm, HB.out⟩
end
section
open Go.RowKit
set_option linter.all false
theorem endOk_noP {n : Net} {v i : Nat} {e : Int × Int} (h : portB n e.1 e.2 = false) : ¬ endOk n.es v i e := fun ⟨h0, h1, m, hm, hx⟩ => by have : portB n e.1 e.2 = true := propB_t ⟨h0, h1, m, hm, (aB.1 hx).1⟩;rw [this] at h;cases h
theorem port_yes {n : Net} {e : Int × Int} (h : portB n e.1 e.2 = true) : ∃ (a p : Nat) (m : Ends) (x : Int × Int), e.1 = a ∧ e.2 = p ∧ n.es[a]? = some m ∧ m[p]? = some x := by obtain ⟨h0, h1, m, hm, hx⟩ := propB_iff.1 h;exact ⟨_, _, m, _, (Int.toNat_of_nonneg h0).symm, (Int.toNat_of_nonneg h1).symm, hm, aC hx⟩
set_option maxRecDepth 100000 in
set_option maxHeartbeats 2000000 in
theorem impl_IsNetwork (ve vi vn : Value) (n : Net) (w : World) (h : NetR w w.heap.size ve vi vn n) (hz : n.es.length ≤ 2000000) (hzi : n.ids.length ≤ 2000000) :
  Calls Tryz.prog 105 #[.agg #[ve, vi, vn]] w fun e w' => e = .returned (.bool (netB n)) ∧ Below w.heap.size w w' := by
 have hgd : Tryz.prog.eqGuardType Tryz.prog.depth 138 = false := by kernel_rfl
 have heq := eqIn_End;obtain ⟨⟨A0, m0, c0, rfl⟩, ⟨A1, m1, c1, rfl⟩, A2, m2, c2, rfl⟩ := h.slices;obtain ⟨w0, hw0, hB, HD, hz0, HS0⟩ := box3 w (.slice A0 m0 c0) (.slice A1 m1 c1) (.slice A2 m2 c2) 50;have HN0 := aA h; have HN := aA (h.up hB); clear h;have HW0 := aA hw0; clear hw0;obtain ⟨q0, q1, q2, qf⟩ := cells3 HD;obtain ⟨hm0, hcc, hmx⟩ := HN.out.e.len_slice;subst hm0;obtain ⟨hm1, -, -, -⟩ := HN.out.i.some_;subst hm1;obtain ⟨hm2, hd2, hd3, -⟩ := HN.out.n.some_;subst hm2;have hmx' : n.es.length ≤ 9223372036854775807 := by unfold maxLen at hmx; omega
 have hmi' : n.ins.length ≤ 9223372036854775807 := by unfold maxLen at hd3; omega
 clear hmx hd3 hcc hd2;go_enter Tryz.func105, Tryz.ntmps105;cases g1 : inB (n.es.length : Int) 1 40 with
 | false =>
  go_wp2_with (go_at_call 94; refine (impl_within _ _ _ _).mono ?_; rintro e w' ⟨rfl, rfl⟩)
  go_ret;rw [← HW0.out];exact ⟨ret_bool (net_noH fun hh => by rw [inB_t (by have := hh.1; omega)] at g1; cases g1).symm, hB⟩
 | true =>
  have h40 : 1 ≤ n.es.length ∧ n.es.length ≤ 40 := by unfold inB at g1; have := of_decide_eq_true g1; omega
  go_wp2_with (go_at_call 94; refine (impl_within _ _ _ _).mono ?_; rintro e w' ⟨rfl, rfl⟩)
  rw [← HW0.out];refine (impl_idsOk _ n.ids n.es.length w0 HN.out.i hzi).mono ?_;rintro e w1 ⟨rfl, hb1⟩;have hzhb1 := hb1.size;clear q0 q1 q2 qf;replace HD := bk HD hb1;replace HN := aA (HN.out.up hb1);replace hB := bl_trans hB hb1;obtain ⟨q0, q1, q2, qf⟩ := cells3 HD;cases g2 : idsB n.ids n.es.length with
  | false =>
   go_wp2_with fail;go_ret;exact ⟨ret_bool (net_noH fun hh => by rw [show idsB n.ids n.es.length = true from propB_t hh.2.1] at g2; cases g2).symm, hB⟩
  | true =>
   go_wp2_with fail;refine (impl_inputsOk _ n.ins n.es.length w1 HN.out.n hz).mono ?_;rintro e w2 ⟨rfl, hb2⟩;have hzhb2 := hb2.size;clear q0 q1 q2 qf;replace HD := bk HD hb2;replace HN := aA (HN.out.up hb2);replace hB := bl_trans hB hb2;obtain ⟨q0, q1, q2, qf⟩ := cells3 HD;cases g3 : (decide (n.ins.length = n.es.length) && allB n.ins 0 9) with
   | false =>
    go_wp2_with fail;go_ret;exact ⟨ret_bool (net_noH fun hh => by rw [decide_eq_true hh.2.2.1, (inAll_iff _).2 hh.2.2.2] at g3; cases g3).symm, hB⟩
   | true =>
    have hc3 := Bool.and_eq_true_iff.1 g3;have HH := aA (show HeadP n from ⟨h40, propB_iff.1 g2, of_decide_eq_true hc3.1, (inAll_iff _).1 hc3.2⟩);clear hc3;go_wp2_with fail;go_loopw [3, 4, 33] (fun _ _ i wr => GdRel n w2 i wr) (fun _ _ i _ => n.es.length - (intOf i).toNat)
    case atStart => exact ⟨Below.refl _ _, 0, Nat.zero_le _, rfl, fun _ _ h => absurd h (by omega)⟩
    case round =>
     obtain ⟨hb3, k, hk, rfl, hup⟩ := hrel;have HU := aA hup; clear hup;have hzhb3 := hb3.size;clear q0 q1 q2 qf;replace HD := bk HD hb3;replace HN := aA (HN.out.up hb3);replace hB := bl_trans hB hb3;obtain ⟨q0, q1, q2, qf⟩ := cells3 HD;by_cases hlt : k < n.es.length
     ·
      obtain ⟨l, hl⟩ : ∃ y, n.es[k]? = some y := ⟨n.es[k], aC hlt⟩
      obtain ⟨ad, rfl⟩ := HN.out.e.some_ (by omega);obtain ⟨hbb, u, hu, hr⟩ := HN.out.e.at_ hl;have HR := aA hr;obtain ⟨A', c', rfl, hlc, hlm, -, h4⟩ := hr;unfold maxLen at hlm;have HL := aA hl; clear hl;by_cases h6 : l.length ≤ 6
      ·
       go_wp2_with fail;obtain ⟨wq, rfl⟩ : ∃ z, z = wr := ⟨_, rfl⟩
       go_loopw [5, 6, 43] (fun _ _ i wr' => GeRel n k l wq i wr') (fun _ _ i _ => l.length - (intOf i).toNat)
       case atStart => exact ⟨Below.refl _ _, 0, Nat.zero_le _, rfl, fun _ _ h => absurd h (by omega)⟩
       case round =>
        obtain ⟨hb2, j, hj, rfl, hup2⟩ := hrel;have HU2 := aA hup2; clear hup2;have hzhb2 := hb2.size;clear q0 q1 q2 qf;replace HD := bk HD hb2;replace HN := aA (HN.out.up hb2);replace hB := bl_trans hB hb2;obtain ⟨q0, q1, q2, qf⟩ := cells3 HD;by_cases hlt2 : j < l.length
        ·
         obtain ⟨e, he⟩ : ∃ y, l[j]? = some y := ⟨_, aC hlt2⟩
         obtain ⟨b, o, rfl, -, -⟩ := h4 (by omega);obtain ⟨hbb, p0, p1⟩ := (HR.out.below hb2).at_ he;obtain ⟨wv, hwv, hb4, HE, hzv, HSV⟩ := box2 wr (.int .i64 e.1) (.int .i64 e.2) 138;have HWV := aA hwv; clear hwv;have HEL := aA he; clear he;go_wp2_with fail;rw [← HWV.out];replace hb2 := bl_trans hb2 hb4;have hzhb4 := hb4.size;clear q0 q1 q2 qf;replace HD := bk HD hb4;replace HN := aA (HN.out.up hb4);replace hB := bl_trans hB hb4;obtain ⟨q0, q1, q2, qf⟩ := cells3 HD;obtain ⟨e0, e1, ef⟩ := cells2 HE;have HNS := aA (fun h => net_noE HL.out HEL.out h);cases g : portB n e.1 e.2 with
         | false =>
          have HF := aA (HNS.out (endOk_noP g));clear HNS p0 p1;refine aH (S := fun w' => w'.cell? ⟨w.heap.size, 0, none⟩ = some (.slice (some ad) n.es.length c0) ∧ w'.cell? ⟨w.heap.size, 1, none⟩ = some (.slice A1 n.ids.length c1) ∧ w'.cell? ⟨w.heap.size, 2, none⟩ = some (.slice A2 n.ins.length c2) ∧ w'.cell? ⟨wr.heap.size, 0, none⟩ = some (.int .i64 e.1) ∧ w'.cell? ⟨wr.heap.size, 1, none⟩ = some (.int .i64 e.2)) (by kernel_rfl) ?_ (fun hHeld => ?_)
          · go_keep
          refine stk 0 48 ?_;refine stk 1 49 ?_;refine stk 2 50 ?_;refine stk 3 51 ?_;refine stk 4 52 ?_;refine tr 5 rfl (by kernel_rfl) (fun K hK => ?_);go_simp;go_at_call 112;refine (impl_hasPort _ _ _ n e.1 e.2 wv.drew (HN.out.up (Below.refl _ _).drew) hz).mono ?_;rintro e' w5 ⟨rfl, hb5'⟩;have hb5 : Below wv.heap.size wv w5 := (Below.refl _ _).drew.trans hb5';clear hb5';rw [g];have hzhb5 := hb5.size;clear q0 q1 q2 qf;replace HD := bk HD hb5;replace HN := aA (HN.out.up hb5);replace hB := bl_trans hB hb5;obtain ⟨q0, q1, q2, qf⟩ := cells3 HD;replace hb2 := bl_trans hb2 hb5;clear e0 e1 ef;replace HE := bk HE hb5;obtain ⟨e0, e1, ef⟩ := cells2 HE;refine hK.out _ _ ?_ (fun hHeld => ?_)
          · go_keep
          clear hK K
          try simp only [Act.put, pu]
          refine stk 6 54 ?_;refine stk 7 55 ?_;refine stn 8 56 ?_;refine stn 9 57 ?_;refine stn 10 58 ?_;refine stn 11 59 ?_;refine stn 12 60 ?_;refine stn 13 61 ?_;refine stn 14 62 ?_;refine stn 15 63 ?_;refine stn 16 64 ?_;refine stn 17 65 ?_;refine stn 18 66 ?_;refine stn 19 67 ?_;refine stn 20 68 ?_;refine stn 21 69 ?_;refine stk 22 70 ?_;refine aK (by kernel_rfl) ?_ _;go_wp2_with fail;go_ret;exact ⟨ret_bool HF.out.symm, hB⟩
         | true =>
          obtain ⟨a, p, m, x, ha, hp, hm, hx⟩ := port_yes g;obtain ⟨hbA, u2, r0, hrm⟩ := HN.out.e.at_ hm;have hbq : (ad.add a).block < wv.heap.size := by rw [block_add]; exact hbA
          clear hbA;have HRM := aA hrm;obtain ⟨Am, cm, rfl, hmc, hmm, -, h5⟩ := hrm;unfold maxLen at hmm;have hpl := (aB.1 hx).1;have hal := (aB.1 hm).1;obtain ⟨b2, o2, rfl, -, -⟩ := h5 (by omega);obtain ⟨hbx, x0, x1⟩ := HRM.out.at_ hx;replace hbx : b2 < wv.heap.size := hbx;rw [ha] at e0;rw [hp] at e1;rw [ha, hp] at g;have HA := aA ha; clear ha;have HPP := aA hp; clear hp;have HM := aA hm; clear hm;have HX := aA hx; clear hx;clear p0 p1 h5;by_cases hv : x.1 = (k : Int) ∧ x.2 = (j : Int)
          ·
           have kq : (x.1 == (k : Int) && x.2 == (j : Int)) = true := by rw [hv.1, hv.2]; simp
           have HO := aA (HU2.out.next HEL.out (endOk_of HA.out HPP.out HM.out HX.out hv));clear hv HNS;refine aH (S := fun w' => w'.cell? ⟨w.heap.size, 0, none⟩ = some (.slice (some ad) n.es.length c0) ∧ w'.cell? ⟨w.heap.size, 1, none⟩ = some (.slice A1 n.ids.length c1) ∧ w'.cell? ⟨w.heap.size, 2, none⟩ = some (.slice A2 n.ins.length c2) ∧ w'.cell? ⟨wr.heap.size, 0, none⟩ = some (.int .i64 (a : Int)) ∧ w'.cell? ⟨wr.heap.size, 1, none⟩ = some (.int .i64 (p : Int)) ∧ w'.cell? (ad.add a) = some (.slice (some ⟨b2, o2, none⟩) m.length cm) ∧ w'.cell? ⟨b2, o2 + p * 2, none⟩ = some (.int .i64 x.1) ∧ w'.cell? ⟨b2, o2 + p * 2 + 1, none⟩ = some (.int .i64 x.2)) (by kernel_rfl) ?_ (fun hHeld => ?_)
           · go_keep
           refine stk 0 48 ?_;refine stk 1 49 ?_;refine stk 2 50 ?_;refine stk 3 51 ?_;refine stk 4 52 ?_;refine tr 5 rfl (by kernel_rfl) (fun K hK => ?_);go_simp;go_at_call 112;refine (impl_hasPort _ _ _ n (a : Int) (p : Int) wv.drew (HN.out.up (Below.refl _ _).drew) hz).mono ?_;rintro e' w5 ⟨rfl, hb5'⟩;have hb5 : Below wv.heap.size wv w5 := (Below.refl _ _).drew.trans hb5';clear hb5';rw [g];have hzhb5 := hb5.size;clear q0 q1 q2 qf;replace HD := bk HD hb5;replace HN := aA (HN.out.up hb5);replace hB := bl_trans hB hb5;obtain ⟨q0, q1, q2, qf⟩ := cells3 HD;replace hb2 := bl_trans hb2 hb5;clear e0 e1 ef;replace HE := bk HE hb5;obtain ⟨e0, e1, ef⟩ := cells2 HE;rw [HA.out] at e0;rw [HPP.out] at e1;replace r0 := (hb5.cell hbq).trans r0;replace x0 := (hb5.cell (by exact hbx)).trans x0;replace x1 := (hb5.cell (by exact hbx)).trans x1;refine hK.out _ _ ?_ (fun hHeld => ?_)
           · go_keep
           clear hK K
           try simp only [Act.put, pu]
           refine stk 6 54 ?_;refine stk 7 55 ?_;refine stk 8 56 ?_;refine stk 9 57 ?_;refine stk 10 58 ?_;refine stk 11 59 ?_;refine stk 12 60 ?_;refine stk 13 61 ?_;refine stk 14 62 ?_;refine stk 15 63 ?_;refine stk 16 64 ?_;refine stk 17 65 ?_;refine stk 18 66 ?_;refine stk 19 67 ?_;refine stk 20 68 ?_;refine stk 21 69 ?_;refine stk 22 70 ?_;refine aK (by kernel_rfl) ?_ _;go_wp2_with fail;go_roundw
           case rel => exact ⟨hb2, j + 1, by omega, by go_num, HO.out⟩
           case measure => simp [intOf]; omega
          ·
           have kq : (x.1 == (k : Int) && x.2 == (j : Int)) = false := by
            rw [Bool.and_eq_false_iff, beq_eq_false_iff_ne, beq_eq_false_iff_ne];by_cases h1 : x.1 = (k : Int)
            · exact .inr fun h2 => hv ⟨h1, h2⟩
            · exact .inl h1
           have HF := aA (HNS.out (endOk_no3 HA.out HPP.out HM.out HX.out hv));clear hv HNS;refine aH (S := fun w' => w'.cell? ⟨w.heap.size, 0, none⟩ = some (.slice (some ad) n.es.length c0) ∧ w'.cell? ⟨w.heap.size, 1, none⟩ = some (.slice A1 n.ids.length c1) ∧ w'.cell? ⟨w.heap.size, 2, none⟩ = some (.slice A2 n.ins.length c2) ∧ w'.cell? ⟨wr.heap.size, 0, none⟩ = some (.int .i64 (a : Int)) ∧ w'.cell? ⟨wr.heap.size, 1, none⟩ = some (.int .i64 (p : Int)) ∧ w'.cell? (ad.add a) = some (.slice (some ⟨b2, o2, none⟩) m.length cm) ∧ w'.cell? ⟨b2, o2 + p * 2, none⟩ = some (.int .i64 x.1) ∧ w'.cell? ⟨b2, o2 + p * 2 + 1, none⟩ = some (.int .i64 x.2)) (by kernel_rfl) ?_ (fun hHeld => ?_)
           · go_keep
           refine stk 0 48 ?_;refine stk 1 49 ?_;refine stk 2 50 ?_;refine stk 3 51 ?_;refine stk 4 52 ?_;refine tr 5 rfl (by kernel_rfl) (fun K hK => ?_);go_simp;go_at_call 112;refine (impl_hasPort _ _ _ n (a : Int) (p : Int) wv.drew (HN.out.up (Below.refl _ _).drew) hz).mono ?_;rintro e' w5 ⟨rfl, hb5'⟩;have hb5 : Below wv.heap.size wv w5 := (Below.refl _ _).drew.trans hb5';clear hb5';rw [g];have hzhb5 := hb5.size;clear q0 q1 q2 qf;replace HD := bk HD hb5;replace HN := aA (HN.out.up hb5);replace hB := bl_trans hB hb5;obtain ⟨q0, q1, q2, qf⟩ := cells3 HD;replace hb2 := bl_trans hb2 hb5;clear e0 e1 ef;replace HE := bk HE hb5;obtain ⟨e0, e1, ef⟩ := cells2 HE;rw [HA.out] at e0;rw [HPP.out] at e1;replace r0 := (hb5.cell hbq).trans r0;replace x0 := (hb5.cell (by exact hbx)).trans x0;replace x1 := (hb5.cell (by exact hbx)).trans x1;refine hK.out _ _ ?_ (fun hHeld => ?_)
           · go_keep
           clear hK K
           try simp only [Act.put, pu]
           refine stk 6 54 ?_;refine stk 7 55 ?_;refine stk 8 56 ?_;refine stk 9 57 ?_;refine stk 10 58 ?_;refine stk 11 59 ?_;refine stk 12 60 ?_;refine stk 13 61 ?_;refine stk 14 62 ?_;refine stk 15 63 ?_;refine stk 16 64 ?_;refine stk 17 65 ?_;refine stk 18 66 ?_;refine stk 19 67 ?_;refine stk 20 68 ?_;refine stk 21 69 ?_;refine stk 22 70 ?_;refine aK (by kernel_rfl) ?_ _;go_wp2_with fail;go_ret;exact ⟨ret_bool HF.out.symm, hB⟩
        ·
         have hl2 : l.length ≤ j := by omega
         go_wp2_with fail;refine ⟨⟨bl_trans hb3 hb2, k + 1, by omega, by go_num, HU.out.next HL.out h6 HU2.out hl2⟩, ?_⟩;simp [intOf];omega
      · have HF := aA (net_no6 HL.out h6);go_wp2_with fail;go_ret;exact ⟨ret_bool HF.out.symm, hB⟩
     · have HF := aA (net_end HH.out HU.out (by omega));go_wp2_with fail;go_ret;exact ⟨ret_bool HF.out.symm, hB⟩
end
section
open Go.RowKit
set_option linter.all false
theorem impl_oneIf (b : Bool) (w : World) : Calls Tryz.prog 67 #[.bool b] w fun e w' => e = .returned (.int .i64 (if b = true then 1 else 0)) ∧ w = w' := by
  cases b with
  | true =>
    go_enter Tryz.func67, Tryz.ntmps67;go_wp2_with fail;go_ret;exact ⟨rfl, rfl⟩
  | false =>
    go_enter Tryz.func67, Tryz.ntmps67;go_wp2_with fail;go_ret;exact ⟨rfl, rfl⟩
end
section
open Go.RowKit
set_option linter.all false
theorem run_copy_row {P : Program} (w : World) (dT sT ty elem e : TypeId) (g o dLen dCap : Nat) (cur : Array Value) (hg : w.heap[g]? = some (.cells cur e (0, 0))) (a : Addr) (sLen sCap : Nat) (cs : List Value) (k : Nat)
    (hu : P.underlying dT = some (.slice elem)) (hs : (P.info? elem).map (·.size) = some k) (hn : cs.length = Nat.min sLen dLen * k)
    (hsrc : ∀ j v, cs[j]? = some v → w.cell? (a.add j) = some v) (hfit : o + cs.length ≤ cur.size) (h1 : ∀ v ∈ cs, v.oneCell' = true) :
    (Builtin.copy_ #[dT, sT] ty #[.slice (some ⟨g, o, none⟩) dLen dCap, .slice (some a) sLen sCap]).run P w =
      .ok (goInt (Nat.min sLen dLen)) (w.setRow g (cur.toList.take o ++ cs ++ cur.toList.drop (o + cs.length)).toArray) := by
  have hl := run_loadCells_list (P := P) w a cs hsrc;have hst := run_storeCells_at P g o e cs 0 cur w hg (by simpa using hfit) h1;simp only [Nat.add_zero] at hst;cases hq : P.info? elem with
  | none => simp [hq] at hs
  | some i =>
    have hi : i.size = k := by simpa [hq] using hs
    rw [hn] at hl;simp [Builtin.copy_, run_underlying hu, Builtin.lenOf, Builtin.firstCells, sizeOf, typeInfo, hq, hi, hl, hst]
theorem step_copy_runK {P : Program} {ops : Array Oper} {o : Oper} {a : Act} {w : World} {K : Act → World → Prop} {Q : Exit → Act → World → Prop} {E : Prop}
    (hg : o.guard = none) (d x : Operand) (dT sT : TypeId) (hop : o.op = Op.call { callee := Callee.builtin Builtin.copy, args := #[d, x], argTypes := #[dT, sT] })
    (v u : Value) (hd : a.eval d = v) (hx : a.eval x = u) {v' : Value} {w' : World} (hr : (Builtin.copy_ #[dT, sT] o.type #[v, u]).run P w = .ok v' w') (hK : K (a.put o.dst v') w') :
    if Region.wanted o (yielded ops a.tmps) = true then Oper.wp P o a w K Q else E := by
  have hw : Region.wanted o (yielded ops a.tmps) = true := by simp [Region.wanted, hg]
  rw [if_pos hw];unfold Oper.wp;simp [execOp, hop, resolve, invoke, builtin, hd, hx, hr, Result.andThen];exact hK
theorem mul_one (k : Nat) (hk : k ≤ 100000) (w : World) : Calls Tryz.prog 135 #[.int .u64 1, .int .u64 (k : Int)] w fun e w' => e = .returned (.tuple #[.int .u64 0, .int .u64 (k : Int)]) ∧ w = w' := by refine (Tryz.bits_Mul 1 k (by omega) (by omega) w).mono ?_;rintro e w' ⟨rfl, rfl⟩;rw [show 1 * k / 18446744073709551616 = 0 from Nat.div_eq_of_lt (by omega), show 1 * k % 18446744073709551616 = k by rw [Nat.mod_eq_of_lt (by omega), Nat.one_mul]];exact ⟨rfl, rfl⟩
theorem copy_nums {w : World} {g gs o so n m c c' : Nat} {d ss : List Int} (hg : NumsAt w g d) (hs : ∀ j, j < Nat.min m n → w.cell? ((⟨gs, so, none⟩ : Addr).add j) = some (.int .i64 (ss.getD j 0))) (hl : Nat.min m n ≤ ss.length) (hfit : o + Nat.min m n ≤ d.length) :
    (Builtin.copy_ #[24, 24] 3 #[.slice (some ⟨g, o, none⟩) n c, .slice (some ⟨gs, so, none⟩) m c']).run Tryz.prog w = .ok (.int .i64 (Nat.min m n : Nat)) (w.setRow g ((d.take o ++ ss.take (Nat.min m n) ++ d.drop (o + Nat.min m n)).map intV).toArray) := by
  have hlen : ((ss.take (Nat.min m n)).map intV).length = Nat.min m n := by rw [List.length_map, List.length_take]; omega
  have h := run_copy_row (P := Tryz.prog) w 24 24 3 3 3 g o n c (d.map intV).toArray hg ⟨gs, so, none⟩ m c' ((ss.take (Nat.min m n)).map intV) 1 Tryz.underlying24 (by kernel_rfl) (by rw [hlen, Nat.mul_one]) (fun j v hv => by
      rw [List.getElem?_map] at hv;obtain ⟨y, hy, rfl⟩ := Option.map_eq_some_iff.1 hv;have hj := (aB.1 hy).1;rw [List.length_take] at hj;rw [hs j (by omega)];rw [List.getElem?_take_of_lt (by omega)] at hy;rw [aG, hy];rfl) (by rw [hlen]; simpa using hfit) (fun v hv => by
      obtain ⟨y, _, rfl⟩ := List.mem_map.1 hv
      rfl)
  rw [hlen] at h;rw [h];simp [goInt, List.map_append, List.map_take, List.map_drop]
def RepRel (x : Int) (k g : Nat) (w i : World) (v : Value) : Prop := ∃ j : Nat, 1 ≤ j ∧ j ≤ k ∧ v = .int .i64 j ∧ NumsAt i g (List.replicate j x ++ List.replicate (k - j) 0) ∧ Below w.heap.size w i
set_option maxRecDepth 100000 in
theorem impl_Repeat (x : Int) (k g0 : Nat) (w : World) (hg : NumsAt w g0 [x]) (hk : 1 ≤ k) (hk2 : k ≤ 100000) :
  Calls Tryz.prog 114 #[.slice (some ⟨g0, 0, none⟩) 1 1, .int .i64 (k : Int)] w fun e w' => e = .returned (.slice (some ⟨w.heap.size, 0, none⟩) k k) ∧ NumsAt w' w.heap.size (List.replicate k x) ∧ Below w.heap.size w w' := by
 have hmk := fun W => run_make1 (P := Tryz.prog) 24 3 (.int .i64 0) 8 Tryz.underlying24 intInfo rfl k (by omega) (by omega) W
 have hN0 : NumsAt (w.alloc (.cells (rowOf [] k (.int .i64 0)) 3)) w.heap.size (List.replicate 0 x ++ List.replicate (k - 0) 0) := by unfold NumsAt;rw [heap_alloc_new, ← rowOf_map 0 k (Nat.zero_le _)];rfl
 have hgl := hg.lt;have hcs : ∀ j, j < Nat.min 1 k → (w.alloc (.cells (rowOf [] k (.int .i64 0)) 3)).cell? ((⟨g0, 0, none⟩ : Addr).add j) = some (.int .i64 ([x].getD j 0)) := fun j hj => by
  obtain rfl : j = 0 := by have h : Nat.min 1 k ≤ 1 := Nat.min_le_left _ _; omega
  exact aD _ (hg.cell (i := 0) rfl)
 have hm1 : Nat.min 1 k = 1 := Nat.min_eq_left hk;have hcp := copy_nums (c := k) (c' := 1) (o := 0) hN0 hcs (by rw [hm1]; exact Nat.le_refl _) (by rw [hm1]; simp; omega);rw [hm1] at hcp;obtain ⟨w1, hw1⟩ : ∃ z, z = (w.alloc (.cells (rowOf [] k (.int .i64 0)) 3)).setRow w.heap.size (((List.replicate 0 x ++ List.replicate (k - 0) 0).take 0 ++ [x].take 1 ++ (List.replicate 0 x ++ List.replicate (k - 0) 0).drop (0 + 1)).map intV).toArray := ⟨_, rfl⟩
 rw [← hw1] at hcp;have hN1 : NumsAt w1 w.heap.size (List.replicate 1 x ++ List.replicate (k - 1) 0) := by unfold NumsAt;rw [hw1, setRow_heap _ _ _ _ _ _ hN0];simp
 have hb1 : Below w.heap.size w w1 := by rw [hw1];exact below_setRow (bl_alloc (Below.refl _ _) _) (Nat.le_refl _) _
 have HN1 := aA hN1; clear hN1 hcs hN0 hm1;have HB1 := aA hb1; clear hb1 hw1;have hw1 : IntKind.u64.wrap (k : Int) = (k : Int) := IntWalk.u64_in _ (by omega);have hw2 : IntKind.i64.wrap (k : Int) = (k : Int) := aL _ (by omega);go_enter Tryz.func114, Tryz.ntmps114;go_wp2_with (go_at_call 135; refine (mul_one k (by omega) _).mono ?_; rintro e w' ⟨rfl, rfl⟩)
 go_loopw [8] (fun i wr => RepRel x k w.heap.size w wr i) (fun i _ => k - (intOf i).toNat)
 case atStart => exact ⟨1, Nat.le_refl _, hk, rfl, HN1.out, HB1.out⟩
 case round =>
  clear hcp;obtain ⟨j, hj1, hj, rfl, hn, hb⟩ := hrel;have HB := aA hb; clear hb;by_cases hlt : j < k
  ·
   have HNU := aA hn; clear hn
   have hcp := copy_nums (w := wr.drew) (g := w.heap.size) (gs := w.heap.size) (o := j) (so := 0) (n := k - j) (m := j) (c := k - j) (c' := k) (d := List.replicate j x ++ List.replicate (k - j) 0) (ss := List.replicate j x) HNU.out (fun i hi => by
    have hij : i < j := by have h : Nat.min j (k - j) ≤ j := Nat.min_le_left _ _; omega
    have h := HNU.out.cell (i := i) (x := x) (by rw [List.getElem?_append_left (by simpa using hij), List.getElem?_replicate, if_pos hij]);rw [aG, List.getElem?_replicate, if_pos hij, Option.getD_some];refine Eq.trans ?_ h
    rcases i with _ | i <;> simp [Addr.add] <;> rfl) (by rw [List.length_replicate]; exact Nat.min_le_left _ _) (by rw [List.length_append, List.length_replicate, List.length_replicate]; have h : Nat.min j (k - j) ≤ k - j := Nat.min_le_right _ _; omega)
   have hm0 : 1 ≤ Nat.min j (k - j) := Nat.le_min.2 ⟨hj1, by omega⟩;have hm1 : Nat.min j (k - j) ≤ k - j := Nat.min_le_right _ _;have hm2 : Nat.min j (k - j) ≤ j := Nat.min_le_left _ _;generalize Nat.min j (k - j) = m at hcp hm0 hm1 hm2;obtain ⟨w2, hw2⟩ : ∃ z, z = wr.drew.setRow w.heap.size (((List.replicate j x ++ List.replicate (k - j) 0).take j ++ (List.replicate j x).take m ++ (List.replicate j x ++ List.replicate (k - j) 0).drop (j + m)).map intV).toArray := ⟨_, rfl⟩
   rw [← hw2] at hcp;have hN2 : NumsAt w2 w.heap.size (List.replicate (j + m) x ++ List.replicate (k - (j + m)) 0) := by unfold NumsAt;rw [hw2, setRow_heap _ _ _ _ _ _ (show wr.drew.heap[w.heap.size]? = _ from HNU.out)];congr 4;rw [List.take_append_of_le_length (by simp), List.take_of_length_le (by simp), List.take_replicate, Nat.min_eq_left hm2, List.drop_append, List.drop_of_length_le (by simp), List.length_replicate, List.nil_append, List.drop_replicate, show k - j - (j + m - j) = k - (j + m) by omega, List.replicate_append_replicate]
   have hb2 : Below w.heap.size w w2 := by rw [hw2];exact below_setRow HB.out.drew (Nat.le_refl _) _
   have HN2 := aA hN2; clear hN2;have HB2 := aA hb2; clear hb2 hw2;have HCP := aA hcp; clear hcp;have hkj : ¬ k = j := by omega
   have hwr : IntKind.i64.wrap ((j : Int) + (m : Int)) = ((j + m : Nat) : Int) := by rw [← Int.natCast_add]; exact aL _ (by omega)
   go_wp2_with fail;refine aH (S := fun _ => True) (by kernel_rfl) ?_ (fun hHeld => ?_)
   · trivial
   refine stk 0 38 ?_;refine stk 1 39 ?_;refine stk 2 40 ?_;refine stk 3 41 ?_;refine stk 4 42 ?_;refine stk 5 43 ?_;refine stk 6 44 ?_;refine tr 7 rfl (by kernel_rfl) (fun K hK => ?_);refine step_copy_runK rfl (.tmp 41) (.tmp 44) _ _ rfl _ _ rfl rfl HCP.out ?_;refine hK.out _ _ trivial (fun hHeld => ?_);clear hK K
   try simp only [Act.put, pu]
   refine stk 8 46 ?_;refine stk 9 8 ?_;refine aK (by kernel_rfl) ?_ _;go_wp2_with fail;go_roundw
   case rel => exact ⟨j + m, by omega, by omega, rfl, HN2.out, HB2.out⟩
   case measure => simp [intOf]; omega
  ·
   obtain rfl : j = k := by omega
   rw [Nat.sub_self, List.replicate_zero, List.append_nil] at hn;have HNU := aA hn; clear hn;go_wp2_with fail;go_ret;exact ⟨rfl, HNU.out, HB.out⟩
end
section
open Go.RowKit
set_option linter.all false
end
end Go.Proofs.YtjklbjmdgiddcaaGreat
