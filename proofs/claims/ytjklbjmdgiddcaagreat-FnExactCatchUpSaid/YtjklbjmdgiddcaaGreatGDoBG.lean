/-
  Small lemmas and contracts that the texts of this claim share. No condition.
-/
import Derived.Test.YtjklbjmdgiddcaaGreatGPlainDoG
namespace Go.Proofs.YtjklbjmdgiddcaaGreat
open Go.RowKit
set_option linter.all false
set_option maxRecDepth 100000 in
theorem impl_Repeat0 (x : Int) (k g0 : Nat) (w : World) (hg : NumsAt w g0 [x]) (hk : k = 0) :
  Calls Tryz.prog 114 #[.slice (some ⟨g0, 0, none⟩) 1 1, .int .i64 (k : Int)] w fun e w' => e = .returned (.slice (some ⟨w.heap.size, 0, none⟩) k k) ∧ NumsAt w' w.heap.size (List.replicate k x) ∧ Below w.heap.size w w' := by
 have hmk := fun W => run_make1 (P := Tryz.prog) 24 3 (.int .i64 0) 8 Tryz.underlying24 intInfo rfl k (by omega) (by omega) W
 have hN0 : NumsAt (w.alloc (.cells (rowOf [] k (.int .i64 0)) 3)) w.heap.size (List.replicate k 0) := by unfold NumsAt;rw [heap_alloc_new];simp [rowOf, intV]
 have hm1 : Nat.min 1 k = 0 := by rw [hk]; rfl
 have hcp := copy_nums (c := k) (n := k) (m := 1) (c' := 1) (o := 0) (gs := g0) (so := 0) (ss := [x]) hN0 (fun j hj => by omega) (by omega) (by omega);rw [hm1] at hcp;obtain ⟨w1, hw1⟩ : ∃ z, z = (w.alloc (.cells (rowOf [] k (.int .i64 0)) 3)).setRow w.heap.size (((List.replicate k (0 : Int)).take 0 ++ [x].take 0 ++ (List.replicate k (0 : Int)).drop (0 + 0)).map intV).toArray := ⟨_, rfl⟩
 rw [← hw1] at hcp;have hN1 : NumsAt w1 w.heap.size (List.replicate k x) := by unfold NumsAt;rw [hw1, setRow_heap _ _ _ _ _ _ hN0];simp [hk]
 have hb1 : Below w.heap.size w w1 := by rw [hw1];exact below_setRow (bl_alloc (Below.refl _ _) _) (Nat.le_refl _) _
 have HN1 := aA hN1; clear hN1 hN0 hm1;have HB1 := aA hb1; clear hb1 hw1;have hwk1 : IntKind.u64.wrap (k : Int) = (k : Int) := IntWalk.u64_in _ (by omega);have hwk2 : IntKind.i64.wrap (k : Int) = (k : Int) := aL _ (by omega);have HK := aA hk;clear hk hg;have hk2 : k ≤ 100000 := by have := HK.out; omega
 go_enter Tryz.func114, Tryz.ntmps114;go_wp2_with (go_at_call 135; refine (mul_one k hk2 _).mono ?_; rintro e w' ⟨rfl, rfl⟩)
 go_loopw [8] (fun i wr => i = .int .i64 0 ∧ wr = w1) (fun i _ => 0)
 case atStart => exact ⟨rfl, rfl⟩
 case round =>
  clear hcp;obtain ⟨rfl, rfl⟩ := hrel;have d0 : ¬ 0 < k := by have := HK.out; omega
  go_wp2_with fail;go_ret;exact ⟨rfl, HN1.out, HB1.out⟩
theorem nums_own {w : World} {g base : Nat} {d : List Int} (h : NumsAt w g d) (hb : base ≤ g) (hm : d.length ≤ 1000) : w.ownsRow base 3 1 (.slice (some ⟨g, 0, none⟩) d.length d.length) d.length (d.map intV) :=
  ⟨by simp, .inr ⟨g, d.length, _, rfl, hb, h, Nat.le_refl _, by unfold maxLen; omega, by simp, List.take_of_length_le (by simp)⟩⟩
theorem impl_Repeats (x : Int) (k g0 : Nat) (w : World) (hg : NumsAt w g0 [x]) (hk2 : k ≤ 1000) :
    Calls Tryz.prog 114 #[.slice (some ⟨g0, 0, none⟩) 1 1, .int .i64 (k : Int)] w fun e w' => ∃ v, e = .returned v ∧ w'.ownsRow w.heap.size 3 1 v k ((List.replicate k x).map intV) ∧ Below w.heap.size w w' := by
  have h : Calls Tryz.prog 114 #[.slice (some ⟨g0, 0, none⟩) 1 1, .int .i64 (k : Int)] w fun e w' => e = .returned (.slice (some ⟨w.heap.size, 0, none⟩) k k) ∧ NumsAt w' w.heap.size (List.replicate k x) ∧ Below w.heap.size w w' := by
    rcases Nat.eq_zero_or_pos k with h0 | h0
    · exact impl_Repeat0 x k g0 w hg h0
    · exact impl_Repeat x k g0 w hg h0 (by omega)
  refine h.mono ?_;rintro e w' ⟨rfl, hn, hb⟩;have ho := nums_own hn (Nat.le_refl _) (by rw [List.length_replicate]; exact hk2);rw [List.length_replicate] at ho;exact ⟨_, rfl, ho, hb⟩
theorem keyOf_of {x y : Asy} (h1 : y.slots.length = x.slots.length) (h2 : y.flight.length = x.flight.length) (h3 : ∀ k, k < x.flight.length → (portsAt y k).length = (portsAt x k).length) {j : Key} (h : keyOf y j) : keyOf x j := by
  cases j with
  | sl k => have : k < y.slots.length := h; show k < x.slots.length; omega
  | fr k => have : k < y.flight.length := h; show k < x.flight.length; omega
  | le k p =>
    have hk : k < y.flight.length := h.1;have hp : p < (portsAt y k).length := h.2;exact ⟨by omega, by rw [← h3 k (by omega)]; exact hp⟩
  | _ => trivial
section
variable {w w' : World} {base P : Nat} {val val' : Key → Value} {x y : Asy}
theorem AsyB.after (h : AsyB w base val x P) (hF : Frame val x w w') (hk : AsyK w' base val' y) (hs : SameHeads val val') (hne : ∀ j, keyOf y j → (val' j).ownBlock ≠ some P) : AsyB w' base val' y P := by obtain ⟨h1, h2, h3, h4, h5⟩ := hs;refine ⟨hk, hne, ?_⟩;rw [h1, h2, h3, h4, h5];exact (hF.2 P h.lt (fun j hj => h.ne j hj)).trans h.box
theorem AsyB.ne_upd (h : AsyB w base val x P) (hy : ∀ j, keyOf y j → keyOf x j) (i : Key) {v : Value} (hv : v.ownBlock ≠ some P) : ∀ j, keyOf y j → (upd val i v j).ownBlock ≠ some P := fun j hj => by
  by_cases e : j = i
  · subst e; rw [upd_same]; exact hv
  · rw [upd_ne _ _ e]; exact h.ne j (hy j hj)
theorem keyOf_fset {k p : Nat} {ls : Ends} (hk : k < x.flight.length) : ∀ j, keyOf { x with flight := x.flight.set k ((portsAt x k).set p ls) } j → keyOf x j := fun j hj => keyOf_of (x := x) (y := { x with flight := x.flight.set k ((portsAt x k).set p ls) }) rfl (by simp) (fun i hi => by
  rw [portsAt_set hk];split
  · next e => subst e; simp
  · rfl) hj
end
end Go.Proofs.YtjklbjmdgiddcaaGreat
namespace Go.Proofs.YtjklbjmdgiddcaaGreat
open Go.RowKit
set_option linter.all false
set_option maxRecDepth 100000 in
set_option maxHeartbeats 1000000 in
theorem closure_clause (u v : Value) (c : Cl) (s : Int) (ib : List Int) (G1 G2 : Nat) (w : World) (H1 : w.cell? ⟨G1, 0, none⟩ = some (.int .i64 s)) (H2 : w.cell? ⟨G2, 0, none⟩ = some v) (hG1 : G1 < w.heap.size) (hG2 : G2 < w.heap.size) (hu : IntsR w w.heap.size u c.2.1) (hv : IntsR w w.heap.size v ib) (hge : ∀ x ∈ c.2.1, -1 ≤ x) :
  Calls Tryz.prog 134 #[.agg #[.int .i64 c.1, u, .int .i64 c.2.2], .pointer (some ⟨G1, 0, none⟩), .pointer (some ⟨G2, 0, none⟩)] w fun e w' => e = .returned (.bool (fitsB s ib c)) ∧ Below w.heap.size w w' := by
 obtain ⟨A7, c7, rfl, hc7, hm7, hr7⟩ := hu.open_;obtain ⟨A8, c8, rfl, hc8, hm8, hr8⟩ := hv.open_;unfold maxLen at hm7 hm8;obtain ⟨w0, hw0, hB, HK, hz0, HS0⟩ := box3 w (.int .i64 c.1) (.slice A7 c.2.1.length c7) (.int .i64 c.2.2) 123;have HW0 := aA hw0;obtain ⟨z0, z1, z2, zf⟩ := cells3 HK;have x1 := (hB.cell (p := ⟨G1, 0, none⟩) hG1).trans H1;have x2 := (hB.cell (p := ⟨G2, 0, none⟩) hG2).trans H2;have e0 := z0;have e1 := z1;have y1 := x1;have y2 := x2;rw [hw0] at e0 e1 y1 y2;have HGE := aA hge;clear hw0 H1 H2 hge;by_cases h1 : c.1 = s
 ·
  have k1 : (c.1 == s) = true := by rw [beq_iff_eq]; exact h1
  have k1' : (c.1 != s) = false := by rw [h1]; simp
  by_cases h2 : c.2.1.length = ib.length
  ·
   have k2 : (((c.2.1.length : Nat) : Int) != ((ib.length : Nat) : Int)) = false := by rw [h2]; simp
   have H1 := aA h1;have H2 := aA h2;clear h1 h2;go_enter Tryz.func134, Tryz.ntmps134;go_wp2_with fail;rw [← HW0.out];clear y1 y2 e0 e1;go_loopw [22] (fun i wr => MfRel c ib w0 i wr) (fun i _ => c.2.1.length - (intOf i).toNat)
   case atStart => exact ⟨rfl, 0, Nat.zero_le _, rfl, fun _ _ _ h => absurd h (by omega)⟩
   case round =>
    obtain ⟨rfl, k, hk, rfl, hup⟩ := hrel;have HU := aA hup; clear hup;by_cases hlt : k < c.2.1.length
    ·
     obtain ⟨x, hx⟩ : ∃ y, c.2.1[k]? = some y := ⟨_, aC hlt⟩
     have hlt2 : k < ib.length := by rw [← H2.out]; exact hlt
     obtain ⟨y, hy⟩ : ∃ z, ib[k]? = some z := ⟨_, aC hlt2⟩
     obtain ⟨ad7, rfl, ha7, hrow7⟩ := hr7 (by omega);obtain ⟨ad8, rfl, ha8, hrow8⟩ := hr8 (by omega);have c7' := (hB.cell (p := ad7.add k) (by rw [block_add]; exact ha7)).trans (hrow7 k x hx);have c8' := (hB.cell (p := ad8.add k) (by rw [block_add]; exact ha8)).trans (hrow8 k y hy);have hxm := HGE.out x (aN hx);have HX := aA hx;have HY := aA hy;clear hx hy hrow7 hrow8;by_cases h0 : x = -1
     ·
      have k0 : (x != -1) = false := by rw [h0]; rfl
      have H0 := aA h0;clear h0;go_wp2_with fail;go_roundw
      case rel => exact ⟨rfl, k + 1, by omega, by go_num, HU.out.next HX.out HY.out fun h => absurd h (by have := H0.out; omega)⟩
      case measure => simp [intOf]; omega
     ·
      have k0 : (x != -1) = true := by rw [bne_iff_ne]; exact h0
      by_cases h3 : x = y
      ·
       have k3 : (x == y) = true := by rw [beq_iff_eq]; exact h3
       have k3' : (x != y) = false := by rw [h3]; simp
       have H3 := aA h3;clear h3;go_wp2_with fail;go_roundw
       case rel => exact ⟨rfl, k + 1, by omega, by go_num, HU.out.next HX.out HY.out fun _ => H3.out⟩
       case measure => simp [intOf]; omega
      ·
       have k3 : (x == y) = false := by rw [beq_eq_false_iff_ne]; exact h3
       have k3' : (x != y) = true := by rw [bne_iff_ne]; exact h3
       have HF := aA (show fitsB s ib c = false from propB_f fun hp => h3 (hp.2.2 k x y hlt2 HX.out HY.out (by omega))).symm;go_wp2_with fail;go_ret;exact ⟨ret_bool HF.out, hB⟩
    · have HF := aA (show fitsB s ib c = true from propB_t ⟨H1.out, H2.out, fun i x y hi => HU.out i x y (by have := H2.out; omega)⟩).symm;go_wp2_with fail;go_ret;exact ⟨ret_bool HF.out, hB⟩
  ·
   have k2 : (((c.2.1.length : Nat) : Int) != ((ib.length : Nat) : Int)) = true := by rw [bne_iff_ne]; omega
   have HF := aA (show fitsB s ib c = false from propB_f fun hp => h2 hp.2.1).symm;clear h1;go_enter Tryz.func134, Tryz.ntmps134;go_wp2_with fail;go_ret;exact ⟨ret_bool HF.out, by rw [← HW0.out]; exact hB⟩
 ·
  have k1 : (c.1 == s) = false := by rw [beq_eq_false_iff_ne]; exact h1
  have k1' : (c.1 != s) = true := by rw [bne_iff_ne]; exact h1
  have HF := aA (show fitsB s ib c = false from propB_f fun hp => h1 hp.1).symm;go_enter Tryz.func134, Tryz.ntmps134;go_wp2_with fail;go_ret;exact ⟨ret_bool HF.out, by rw [← HW0.out]; exact hB⟩
def CiRel (cls : List Cl) (s : Int) (ib : List Int) (w : World) (i : Value) (wr : World) : Prop := Below w.heap.size w wr ∧ ∃ k : Nat, k ≤ cls.length ∧ i = .int .i64 k ∧ ∀ c ∈ cls.take k, fitsB s ib c = false
set_option maxRecDepth 100000 in
theorem index_clauses (v2 v : Value) (cls : List Cl) (s : Int) (ib : List Int) (G1 G2 : Nat) (w : World) (hc : ClsR w w.heap.size v2 cls) (hv : IntsR w w.heap.size v ib) (H1 : w.cell? ⟨G1, 0, none⟩ = some (.int .i64 s)) (H2 : w.cell? ⟨G2, 0, none⟩ = some v) (hG1 : G1 < w.heap.size) (hG2 : G2 < w.heap.size) (hge : ∀ c ∈ cls, ∀ x ∈ c.2.1, -1 ≤ x) :
  Calls Tryz.prog 133 #[v2, .func (.func 134) #[] #[.pointer (some ⟨G1, 0, none⟩), .pointer (some ⟨G2, 0, none⟩)]] w fun e w' => e = .returned (.int .i64 (clI (fitsB s ib) cls)) ∧ Below w.heap.size w w' := by
 obtain ⟨A2, c2, rfl, hc2, hm2, -, hr2⟩ := hc;unfold maxLen at hm2;have HR2 := aA hr2;have HV := aA hv;have HC1 := aA H1;have HC2 := aA H2;have HGE := aA hge;clear hr2 hv H1 H2 hge;go_enter Tryz.func133, Tryz.ntmps133;go_wp2_with fail;go_loopw [8, 5] (fun i _ wr => CiRel cls s ib w i wr) (fun i _ _ => cls.length - (intOf i).toNat)
 case atStart => exact ⟨Below.refl _ _, 0, Nat.zero_le _, rfl, by simp⟩
 case round =>
  obtain ⟨hB, k, hk, rfl, hup⟩ := hrel;have HU := aA hup; clear hup;have hz := hB.size;by_cases hlt : k < cls.length
  ·
   obtain ⟨c, hc⟩ : ∃ l, cls[k]? = some l := ⟨_, aC hlt⟩
   obtain ⟨cb, co, rfl, hcb, hrow2⟩ := HR2.out (by omega);obtain ⟨p0, ⟨u, p1, hru⟩, p2⟩ := hrow2 k c hc;have p0' := (hB.cell (p := ⟨cb, co + k * 3, none⟩) hcb).trans p0;have p1' := (hB.cell (p := ⟨cb, co + k * 3 + 1, none⟩) hcb).trans p1;have p2' := (hB.cell (p := ⟨cb, co + k * 3 + 2, none⟩) hcb).trans p2;obtain ⟨A7, c7, rfl, hc7, hm7, -⟩ := hru.open_;have J := aA (closure_clause _ v c s ib G1 G2 wr ((hB.cell (p := ⟨G1, 0, none⟩) hG1).trans HC1.out) ((hB.cell (p := ⟨G2, 0, none⟩) hG2).trans HC2.out) (by omega) (by omega) (ints_at hru hB) (ints_at HV.out hB) (HGE.out c (aN hc)));have HL := aA hc;clear hc hru p0 p1 p2 hrow2;cases q : fitsB s ib c with
   | true =>
    rw [q] at J;have HF := aA (clI_at HU.out HL.out q).symm;go_wp2_with fail;refine J.out.mono ?_;rintro e w5 ⟨rfl, hb5⟩;go_wp2_with fail;go_ret;exact ⟨ret_int HF.out, bl_trans hB hb5⟩
   | false =>
    rw [q] at J;have HQ := aA q;go_wp2_with fail;refine J.out.mono ?_;rintro e w5 ⟨rfl, hb5⟩;go_wp2_with fail;go_roundw
    case rel => exact ⟨bl_trans hB hb5, k + 1, by omega, by go_num, take_next HU.out HL.out HQ.out⟩
    case measure => simp [intOf]; omega
  · have HF := aA (clI_none (take_all HU.out (by omega))).symm;go_wp2_with fail;go_ret;exact ⟨ret_int HF.out, hB⟩
set_option maxRecDepth 100000 in
set_option maxHeartbeats 1000000 in
theorem impl_clauseFor (vs ve vc vo v : Value) (m : Mach) (s : Int) (ib : List Int) (w : World) (hm : MachR w w.heap.size vs ve vc vo m) (hv : IntsR w w.heap.size v ib) (hge : ∀ c ∈ m.cls, ∀ x ∈ c.2.1, -1 ≤ x) :
  Calls Tryz.prog 113 #[machV vs ve vc vo m, .int .i64 s, v] w fun e w' => e = .returned (.int .i64 (clI (fitsB s ib) m.cls)) ∧ Below w.heap.size w w' := by
 unfold machV;obtain ⟨⟨A0, m0, c0, rfl⟩, ⟨A1, m1, c1, rfl⟩, ⟨A2, m2, c2, rfl⟩, A3, m3, c3, rfl⟩ := hm.slices;have HV := aA hv;obtain ⟨A8, n8, c8, rfl⟩ := hv.isSlice;clear hv;obtain ⟨w0, hw0, hb0, HM, hz0, HS0⟩ := box7 w (.int .i64 m.deg) (.int .i64 m.st) (.int .i64 m.msg) (.slice A0 m0 c0) (.slice A1 m1 c1) (.slice A2 m2 c2) (.slice A3 m3 c3) 46;obtain ⟨w1, hw1⟩ : ∃ z, z = w0.alloc (.cells #[.int .i64 s] 3) := ⟨_, rfl⟩
 obtain ⟨w2, hw2⟩ : ∃ z, z = w1.alloc (.cells #[.slice A8 n8 c8] 24) := ⟨_, rfl⟩
 have hb1 : Below w0.heap.size w0 w1 := by rw [hw1]; exact bl_alloc (Below.refl _ _) _
 have hb2 : Below w1.heap.size w1 w2 := by rw [hw2]; exact bl_alloc (Below.refl _ _) _
 have k1 : w1.heap.size = w0.heap.size + 1 := by rw [hw1]; simp
 have k2 : w2.heap.size = w1.heap.size + 1 := by rw [hw2]; simp
 have c1' : w1.cell? ⟨w0.heap.size, 0, none⟩ = some (.int .i64 s) := by rw [hw1, World.cell?_alloc_at _ _ _ _ rfl]; rfl
 have c2' : w2.cell? ⟨w1.heap.size, 0, none⟩ = some (.slice A8 n8 c8) := by rw [hw2, World.cell?_alloc_at _ _ _ _ rfl]; rfl
 have c1'' := (hb2.cell (p := ⟨w0.heap.size, 0, none⟩) (by show w0.heap.size < w1.heap.size; omega)).trans c1';have hB : Below w.heap.size w w2 := bl_trans (bl_trans hb0 hb1) hb2;have HM2 := bk (bk HM hb1) hb2;obtain ⟨⟨g0, g1, g2⟩, ⟨g3, g4, g5, g6⟩, gf⟩ := cells7 HM2;have J := aA (index_clauses _ _ m.cls s ib w0.heap.size w1.heap.size w2 (hm.up hB).c (ints_at HV.out hB) c1'' c2' (by omega) (by omega) hge);have e5 := g5;rw [hw2, hw1, hw0] at e5;have q0 : w0.heap.size = w.heap.size + 1 := by rw [hw0]; simp
 have HW := aA (show w2 = ((w.alloc (.cells #[.int .i64 m.deg, .int .i64 m.st, .int .i64 m.msg, .slice A0 m0 c0, .slice A1 m1 c1, .slice A2 m2 c2, .slice A3 m3 c3] 46)).alloc (.cells #[.int .i64 s] 3)).alloc (.cells #[.slice A8 n8 c8] 24) by rw [hw2, hw1, hw0]);rw [k1, q0] at J;have HB := aA hB;clear hw0 hw1 hw2 g0 g1 g2 g3 g4 g5 g6 gf c1' c2' c1'' HM2 HM hm k1 k2 hb0 hb1 hb2 hB;go_enter Tryz.func113, Tryz.ntmps113;go_wp2_with fail;rw [← HW.out];refine J.out.mono ?_;rintro e w5 ⟨rfl, hb5⟩;go_wp2_with fail;go_ret;exact ⟨rfl, bl_trans HB.out hb5⟩
end Go.Proofs.YtjklbjmdgiddcaaGreat
