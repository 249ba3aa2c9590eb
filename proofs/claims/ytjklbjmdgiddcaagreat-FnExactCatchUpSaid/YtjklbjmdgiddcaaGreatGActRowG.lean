/-
  Small lemmas and contracts that the texts of this claim share. No condition.
-/
import Derived.Test.YtjklbjmdgiddcaaGreatGSyOwnB
namespace Go.Proofs.YtjklbjmdgiddcaaGreat
open Go.RowKit
set_option linter.all false
theorem actInfo : (Tryz.prog.info? 84).map (fun i => (i.zero, i.size, i.bytes)) = some (some (.agg #[.int .i64 0, .int .i64 0, .int .i64 0, .int .i64 0]), 4, 32) := by kernel_rfl
def actC (a : Acts) : List Value := [.int .i64 a.kind, .int .i64 a.node, .int .i64 a.port, .int .i64 a.at_]
def actCells (ys : List Acts) : List Value := ys.flatMap actC
theorem actCells_len (ys : List Acts) : (actCells ys).length = ys.length * 4 := by
  induction ys with
  | nil => rfl
  | cons a ys ih =>
    have e : actCells (a :: ys) = actC a ++ actCells ys := rfl;rw [e, List.length_append, ih];simp [actC];omega
theorem actCells_at {ys : List Acts} {k : Nat} {a : Acts} (h : ys[k]? = some a) (j : Nat) (hj : j < 4) : (actCells ys)[k * 4 + j]? = (actC a)[j]? := by
  induction ys generalizing k with
  | nil => simp at h
  | cons b ys ih =>
    have e : actCells (b :: ys) = actC b ++ actCells ys := rfl;have e4 : (actC b).length = 4 := rfl;cases k with
    | zero =>
      obtain rfl : b = a := by simpa using h
      rw [e, List.getElem?_append_left (by omega)];congr 1;omega
    | succ k =>
      rw [e, List.getElem?_append_right (by omega), ← ih (k := k) (by simpa using h)];congr 1;omega
def ActsR (w : World) (base : Nat) (v : Value) (ys : List Acts) : Prop := w.ownsRow base 84 4 v ys.length (actCells ys)
section
variable {w w' : World} {base : Nat} {u v v' : Value} {ys bs : List Acts}
theorem ActsR.up (h : ActsR w base u bs) (hb : Below w.heap.size w w') : ActsR w' base u bs := own_up h hb
theorem ActsR.slice (h : ActsR w base v ys) : ∃ A c, v = .slice A ys.length c := own_sl1 h
theorem ActsR.read (h : ActsR w base v ys) {k : Nat} {a : Acts} (hk : ys[k]? = some a) : ∃ g cap, v = .slice (some ⟨g, 0, none⟩) ys.length cap ∧ g < w.heap.size ∧ base ≤ g ∧ (∃ cur, w.heap[g]? = some (.cells cur 84 (0, 0))) ∧
    w.cell? ⟨g, k * 4, none⟩ = some (.int .i64 a.kind) ∧ w.cell? ⟨g, k * 4 + 1, none⟩ = some (.int .i64 a.node) ∧ w.cell? ⟨g, k * 4 + 2, none⟩ = some (.int .i64 a.port) ∧ w.cell? ⟨g, k * 4 + 3, none⟩ = some (.int .i64 a.at_) := by
  have hl := (aB.1 hk).1;have hc := fun g cap (e : v = .slice (some ⟨g, 0, none⟩) ys.length cap) => World.ownsRow.cellAt (by have h' := h; unfold ActsR at h'; rw [e] at h'; exact h')
  have hlt := aM h;rcases h.2 with ⟨e, e0⟩ | ⟨g, cap, cur, e, hb, hg, hn, hm, hs, ht⟩
  · omega
  · refine ⟨g, cap, e, (hlt g (by rw [e]; rfl)).2, hb, ⟨cur, hg⟩, ?_, ?_, ?_, ?_⟩
    · exact (hc g cap e (k * 4) (by omega)).trans (actCells_at hk 0 (by omega))
    · exact (hc g cap e (k * 4 + 1) (by omega)).trans (actCells_at hk 1 (by omega))
    · exact (hc g cap e (k * 4 + 2) (by omega)).trans (actCells_at hk 2 (by omega))
    · exact (hc g cap e (k * 4 + 3) (by omega)).trans (actCells_at hk 3 (by omega))
end
end Go.Proofs.YtjklbjmdgiddcaaGreat
namespace Go.Proofs.YtjklbjmdgiddcaaGreat
set_option linter.all false
/-! ### acts -/
end Go.Proofs.YtjklbjmdgiddcaaGreat
namespace Go.Proofs.YtjklbjmdgiddcaaGreat
open Go.RowKit
set_option linter.all false
def FitTo (c : Cl) (ib : List Int) (k : Nat) : Prop := ∀ (i : Nat) (x y : Int), i < k → c.2.1[i]? = some x → ib[i]? = some y → 0 ≤ x → x = y
def fitsP (c : Cl) (s : Int) (ib : List Int) : Prop := c.1 = s ∧ c.2.1.length = ib.length ∧ FitTo c ib ib.length
noncomputable def fitsB (s : Int) (ib : List Int) (c : Cl) : Bool := propB (fitsP c s ib)
theorem FitTo.next {c : Cl} {ib : List Int} {k : Nat} {x y : Int} (h : FitTo c ib k) (hx : c.2.1[k]? = some x) (hy : ib[k]? = some y) (hxy : 0 ≤ x → x = y) : FitTo c ib (k + 1) := fun i x' y' hi hx' hy' => by
  by_cases e : i = k
  · subst e
    obtain rfl := aE (hx.symm.trans hx');obtain rfl := aE (hy.symm.trans hy');exact hxy
  · exact h i x' y' (by omega) hx' hy'
def clI (p : Cl → Bool) (l : List Cl) : Int := match l.findIdx? p with | some k => (k : Int) | none => -1
theorem clI_at {p : Cl → Bool} {l : List Cl} {k : Nat} {c : Cl} (h : ∀ c ∈ l.take k, p c = false) (hc : l[k]? = some c) (hp : p c = true) : clI p l = k := by
  obtain ⟨hk, rfl⟩ := aB.1 hc;have e : l.findIdx? p = some k := by rw [List.findIdx?_eq_some_iff_getElem];refine ⟨hk, hp, fun j hj => ?_⟩;rw [h l[j] (List.mem_take_iff_getElem.2 ⟨j, by omega, rfl⟩)];simp
  unfold clI;rw [e]
theorem clI_none {p : Cl → Bool} {l : List Cl} (h : ∀ c ∈ l, p c = false) : clI p l = -1 := by
  have e : l.findIdx? p = none := List.findIdx?_eq_none_iff.2 fun c hc => by rw [h c hc]
  unfold clI;rw [e]
theorem clI_cases (p : Cl → Bool) (l : List Cl) : clI p l = -1 ∨ ∃ (k : Nat) (c : Cl), clI p l = k ∧ l[k]? = some c ∧ p c = true := by
  unfold clI;cases e : l.findIdx? p with
  | none => exact .inl rfl
  | some k =>
    obtain ⟨hk, hp, -⟩ := List.findIdx?_eq_some_iff_getElem.1 e;exact .inr ⟨k, l[k], rfl, aC hk, hp⟩
def MfRel (c : Cl) (ib : List Int) (w : World) (i : Value) (wr : World) : Prop := w = wr ∧ ∃ k : Nat, k ≤ c.2.1.length ∧ i = .int .i64 k ∧ FitTo c ib k
set_option maxRecDepth 100000 in
set_option maxHeartbeats 1000000 in
theorem spec_maFits (u v : Value) (c : Cl) (s : Int) (ib : List Int) (w : World) (hu : IntsR w w.heap.size u c.2.1) (hv : IntsR w w.heap.size v ib) :
  Calls Tryz.prog 137 #[.agg #[.int .i64 c.1, u, .int .i64 c.2.2], .int .i64 s, v] w fun e w' => e = .returned (.bool (fitsB s ib c)) ∧ Below w.heap.size w w' := by
 obtain ⟨A7, c7, rfl, hc7, hm7, hr7⟩ := hu.open_;obtain ⟨A8, c8, rfl, hc8, hm8, hr8⟩ := hv.open_;unfold maxLen at hm7 hm8;obtain ⟨w0, hw0, hB, HK, hz0, HS0⟩ := box3 w (.int .i64 c.1) (.slice A7 c.2.1.length c7) (.int .i64 c.2.2) 123;have HW0 := aA hw0;obtain ⟨z0, z1, z2, zf⟩ := cells3 HK;have e0 := z0;have e1 := z1;rw [hw0] at e0 e1;clear hw0;by_cases h1 : c.1 = s
 ·
  have k1 : (c.1 == s) = true := by rw [beq_iff_eq]; exact h1
  have k1' : (c.1 != s) = false := by rw [h1]; simp
  by_cases h2 : c.2.1.length = ib.length
  ·
   have k2 : (((c.2.1.length : Nat) : Int) != ((ib.length : Nat) : Int)) = false := by rw [h2]; simp
   have H1 := aA h1;have H2 := aA h2;clear h1 h2;go_enter Tryz.func137, Tryz.ntmps137;go_wp2_with fail;rw [← HW0.out];go_loopw [24] (fun i wr => MfRel c ib w0 i wr) (fun i _ => c.2.1.length - (intOf i).toNat)
   case atStart => exact ⟨rfl, 0, Nat.zero_le _, rfl, fun _ _ _ h => absurd h (by omega)⟩
   case round =>
    obtain ⟨rfl, k, hk, rfl, hup⟩ := hrel;have HU := aA hup; clear hup;by_cases hlt : k < c.2.1.length
    ·
     obtain ⟨x, hx⟩ : ∃ y, c.2.1[k]? = some y := ⟨_, aC hlt⟩
     have hlt2 : k < ib.length := by rw [← H2.out]; exact hlt
     obtain ⟨y, hy⟩ : ∃ z, ib[k]? = some z := ⟨_, aC hlt2⟩
     obtain ⟨ad7, rfl, ha7, hrow7⟩ := hr7 (by omega);obtain ⟨ad8, rfl, ha8, hrow8⟩ := hr8 (by omega);have c7' := (hB.cell (p := ad7.add k) (by rw [block_add]; exact ha7)).trans (hrow7 k x hx);have c8' := (hB.cell (p := ad8.add k) (by rw [block_add]; exact ha8)).trans (hrow8 k y hy);have HX := aA hx;have HY := aA hy;clear hx hy hrow7 hrow8;by_cases h0 : 0 ≤ x
     ·
      have d0 : decide (0 ≤ x) = true := decide_eq_true h0;have d0' : (x ≥ 0) = True := eq_true h0;by_cases h3 : x = y
      ·
       have k3 : (x == y) = true := by rw [beq_iff_eq]; exact h3
       have k3' : (x != y) = false := by rw [h3]; simp
       have H3 := aA h3;clear h3;go_wp2_with fail;go_roundw
       case rel => exact ⟨rfl, k + 1, by omega, by go_num, HU.out.next HX.out HY.out fun _ => H3.out⟩
       case measure => simp [intOf]; omega
      ·
       have k3 : (x == y) = false := by rw [beq_eq_false_iff_ne]; exact h3
       have k3' : (x != y) = true := by rw [bne_iff_ne]; exact h3
       have HF := aA (show fitsB s ib c = false from propB_f fun hp => h3 (hp.2.2 k x y hlt2 HX.out HY.out h0)).symm;go_wp2_with fail;go_ret;exact ⟨ret_bool HF.out, hB⟩
     ·
      have d0 : decide (0 ≤ x) = false := decide_eq_false h0;have d0' : (x ≥ 0) = False := eq_false h0;go_wp2_with fail;go_roundw
      case rel => exact ⟨rfl, k + 1, by omega, by go_num, HU.out.next HX.out HY.out fun h => absurd h h0⟩
      case measure => simp [intOf]; omega
    · have HF := aA (show fitsB s ib c = true from propB_t ⟨H1.out, H2.out, fun i x y hi => HU.out i x y (by have := H2.out; omega)⟩).symm;go_wp2_with fail;go_ret;exact ⟨ret_bool HF.out, hB⟩
  ·
   have k2 : (((c.2.1.length : Nat) : Int) != ((ib.length : Nat) : Int)) = true := by rw [bne_iff_ne]; omega
   have HF := aA (show fitsB s ib c = false from propB_f fun hp => h2 hp.2.1).symm;clear h1;go_enter Tryz.func137, Tryz.ntmps137;go_wp2_with fail;go_ret;exact ⟨ret_bool HF.out, by rw [← HW0.out]; exact hB⟩
 ·
  have k1 : (c.1 == s) = false := by rw [beq_eq_false_iff_ne]; exact h1
  have k1' : (c.1 != s) = true := by rw [bne_iff_ne]; exact h1
  have HF := aA (show fitsB s ib c = false from propB_f fun hp => h1 hp.1).symm;go_enter Tryz.func137, Tryz.ntmps137;go_wp2_with fail;go_ret;exact ⟨ret_bool HF.out, by rw [← HW0.out]; exact hB⟩
def McRel (m : Mach) (s : Int) (ib : List Int) (w : World) (i : Value) (wr : World) : Prop := Below w.heap.size w wr ∧ ∃ k : Nat, k ≤ m.cls.length ∧ i = .int .i64 k ∧ ∀ c ∈ m.cls.take k, fitsB s ib c = false
set_option maxRecDepth 100000 in
set_option maxHeartbeats 1000000 in
theorem spec_maClause (vs ve vc vo v : Value) (m : Mach) (s : Int) (ib : List Int) (w : World) (hm : MachR w w.heap.size vs ve vc vo m) (hv : IntsR w w.heap.size v ib) :
  Calls Tryz.prog 122 #[machV vs ve vc vo m, .int .i64 s, v] w fun e w' => e = .returned (.int .i64 (clI (fitsB s ib) m.cls)) ∧ Below w.heap.size w w' := by
 unfold machV;have hc := hm.c;obtain ⟨⟨A0, m0, c0, rfl⟩, ⟨A1, m1, c1, rfl⟩, -, A3, m3, c3, rfl⟩ := hm.slices;obtain ⟨A2, c2, rfl, hc2, hm2, -, hr2⟩ := hc;unfold maxLen at hm2;have HR2 := aA hr2;have HV := aA hv;obtain ⟨A8, n8, c8, rfl⟩ := hv.isSlice;clear hr2 hv;obtain ⟨w0, hw0, hb0, HM, hz0, HS0⟩ := box7 w (.int .i64 m.deg) (.int .i64 m.st) (.int .i64 m.msg) (.slice A0 m0 c0) (.slice A1 m1 c1) (.slice A2 m.cls.length c2) (.slice A3 m3 c3) 46;have hB : Below w.heap.size w w0 := hb0;have HW := aA (show w0 = w.alloc (.cells #[.int .i64 m.deg, .int .i64 m.st, .int .i64 m.msg, .slice A0 m0 c0, .slice A1 m1 c1, .slice A2 m.cls.length c2, .slice A3 m3 c3] 46) by rw [hw0]);obtain ⟨⟨g0, g1, g2⟩, ⟨g3, g4, g5, g6⟩, gf⟩ := cells7 HM;have eg0 := g0;have eg1 := g1;have eg2 := g2;have eg3 := g3;have eg4 := g4;have eg5 := g5;have eg6 := g6;rw [HW.out] at eg0 eg1 eg2 eg3 eg4 eg5 eg6;have hzb0 : w.heap.size < w0.heap.size := by omega
 have HR := aA (hm.up hB);clear hw0;clear HR;go_enter Tryz.func122, Tryz.ntmps122;go_wp2_with fail;rw [← HW.out];clear eg0 eg1 eg2 eg3 eg4 eg5 eg6;go_loopw [12] (fun i wr => McRel m s ib w0 i wr) (fun i _ => m.cls.length - (intOf i).toNat)
 case atStart => exact ⟨Below.refl _ _, 0, Nat.zero_le _, rfl, by simp⟩
 case round =>
  obtain ⟨hb1, k, hk, rfl, hup⟩ := hrel;have HU := aA hup; clear hup;have hzhb1 := hb1.size;clear g0 g1 g2 g3 g4 g5 g6 gf;replace HM := bk HM hb1;replace hB := bl_trans hB hb1;obtain ⟨⟨g0, g1, g2⟩, ⟨g3, g4, g5, g6⟩, gf⟩ := cells7 HM;by_cases hlt : k < m.cls.length
  ·
   obtain ⟨c, hc⟩ : ∃ l, m.cls[k]? = some l := ⟨_, aC hlt⟩
   obtain ⟨cb, co, rfl, hcb, hrow2⟩ := HR2.out (by omega);obtain ⟨p0, ⟨u, p1, hru⟩, p2⟩ := hrow2 k c hc;have p0' := (hB.cell (p := ⟨cb, co + k * 3, none⟩) hcb).trans p0;have p1' := (hB.cell (p := ⟨cb, co + k * 3 + 1, none⟩) hcb).trans p1;have p2' := (hB.cell (p := ⟨cb, co + k * 3 + 2, none⟩) hcb).trans p2;have HRU := aA hru;obtain ⟨A7, c7, rfl, hc7, hm7, -⟩ := hru.open_;obtain ⟨wv, hwv, hb4, HK, hzv, HSV⟩ := box3 wr (.int .i64 c.1) (.slice A7 c.2.1.length c7) (.int .i64 c.2.2) 123;have HWV := aA hwv;obtain ⟨z0, z1, z2, zf⟩ := cells3 HK;rw [hwv] at z0 z1 z2;have HL := aA hc;have HBV := aA (bl_trans hB hb4);clear hc hru p0 p1 p2 hrow2 hwv;cases q : fitsB s ib c with
   | true =>
    have HF := aA (clI_at HU.out HL.out q).symm;go_wp2_with fail;rw [← HWV.out];refine (spec_maFits _ _ c s ib wv (ints_at HRU.out HBV.out) (ints_at HV.out HBV.out)).mono ?_;rintro e w5 ⟨rfl, hb5⟩;rw [q];go_wp2_with fail;go_ret;exact ⟨ret_int HF.out, bl_trans HBV.out hb5⟩
   | false =>
    have HQ := aA q;go_wp2_with fail;rw [← HWV.out];refine (spec_maFits _ _ c s ib wv (ints_at HRU.out HBV.out) (ints_at HV.out HBV.out)).mono ?_;rintro e w5 ⟨rfl, hb5⟩;rw [q];go_wp2_with fail;go_roundw
    case rel => exact ⟨bl_trans (bl_trans hb1 hb4) hb5, k + 1, by omega, by go_num, take_next HU.out HL.out HQ.out⟩
    case measure => simp [intOf]; omega
  · have HF := aA (clI_none (take_all HU.out (by omega))).symm;go_wp2_with fail;go_ret;exact ⟨ret_int HF.out, hB⟩
theorem spec_roFree (n : Nat) (w : World) (hn : n ≤ 1000) :
  Calls Tryz.prog 123 #[.int .i64 n] w fun e w' => ∃ v, e = .returned v ∧ w'.ownsRow w.heap.size 3 1 v n ((List.replicate n (-1 : Int)).map intV) ∧ Below w.heap.size w w' := by
 have hmk := fun W => run_make1 (P := Tryz.prog) 24 3 (.int .i64 0) 8 Tryz.underlying24 intInfo rfl n (by omega) (by omega) W
 obtain ⟨w1, hw1⟩ : ∃ z, z = w.alloc (.cells (rowOf [] n (.int .i64 0)) 3) := ⟨_, rfl⟩
 have HQ1 := aA hw1; clear hw1;go_enter Tryz.func123, Tryz.ntmps123;go_wp2_with fail;clear hmk;rw [← HQ1.out];have hb1 : Below w.heap.size w w1 := by rw [HQ1.out]; exact bl_alloc (Below.refl _ _) _
 have hN1 : NumsAt w1 w.heap.size (List.replicate 0 (-1) ++ List.replicate (n - 0) 0) := by unfold NumsAt;rw [HQ1.out, heap_alloc_new, ← rowOf_map 0 n (Nat.zero_le _)];rfl
 go_loopw [9] (fun i wr => FillRel n w.heap.size w i wr) (fun i _ => n - (intOf i).toNat)
 case atStart => exact ⟨0, Nat.zero_le _, rfl, hN1, hb1⟩
 case round =>
  clear hb1 hN1;obtain ⟨k, hk, rfl, hnum, hbl⟩ := hrel;by_cases hlt : k < n
  ·
   have hcell := hnum.cell (i := k) (x := 0) (by rw [List.getElem?_append_right (by simp), List.length_replicate, Nat.sub_self, List.getElem?_replicate, if_pos (by omega)]);have hfz := hnum.frozen k;have HX := aA hnum; clear hnum;go_wp2_with fail;go_roundw
   case rel => exact ⟨k + 1, by omega, by go_num, by rw [← fill_set hlt]; exact HX.out.set k (-1), hbl.setCell (Nat.le_refl _) _⟩
   case measure => simp [intOf]; omega
  ·
   have e : List.replicate k (-1 : Int) ++ List.replicate (n - k) 0 = List.replicate n (-1) := by rw [show n - k = 0 by omega, show k = n by omega]; simp
   rw [e] at hnum;have HX := aA hnum; clear hnum e;go_wp2_with fail;go_ret;refine ⟨_, rfl, ⟨by simp, .inr ⟨w.heap.size, n, ((List.replicate n (-1 : Int)).map intV).toArray, rfl, Nat.le_refl _, HX.out, Nat.le_refl _, by unfold maxLen; omega, by simp, by simp⟩⟩, hbl⟩
end Go.Proofs.YtjklbjmdgiddcaaGreat
namespace Go.Proofs.YtjklbjmdgiddcaaGreat
open Go.RowKit
set_option linter.all false
section
variable {w w' : World} {base : Nat} {val : Key → Value} {x : Asy}
theorem OwnK.cell {K : Key → Prop} {R : Key → RowD} (h : OwnK w base K val R) (i : Key) (hi : K i) {g cap n sz : Nat} {ty : TypeId} {con : List Value} (hv : val i = .slice (some ⟨g, 0, none⟩) n cap) (hR : R i = ⟨ty, sz, n, con⟩) {j : Nat} {u : Value} (hu : con[j]? = some u) :
    w.cell? ⟨g, j, none⟩ = some u ∧ w.frozen? ⟨g, j, none⟩ = false := by
  have ho := h.own i hi;rw [hv, hR] at ho;have hj := (aB.1 hu).1;have hl := ho.1;exact ⟨(World.ownsRow.cellAt ho j (by rw [← hl]; exact hj)).trans hu, World.ownsRow.frozenAt ho j⟩
theorem ints_some {xs : List Int} {k : Nat} {y : Int} (h : xs[k]? = some y) : (xs.map intV)[k]? = some (.int .i64 y) := by rw [List.getElem?_map, h]; rfl
theorem AsyK.rCell (h : AsyK w base val x) {g cap k : Nat} {y : Int} (hv : val .r = .slice (some ⟨g, 0, none⟩) x.rounds.length cap) (hy : x.rounds[k]? = some y) : w.cell? ⟨g, k, none⟩ = some (.int .i64 y) ∧ w.frozen? ⟨g, k, none⟩ = false := OwnK.cell h .r trivial hv rfl (ints_some hy)
theorem AsyK.bCell (h : AsyK w base val x) {g cap k : Nat} {y : Int} (hv : val .b = .slice (some ⟨g, 0, none⟩) x.before.length cap) (hy : x.before[k]? = some y) : w.cell? ⟨g, k, none⟩ = some (.int .i64 y) ∧ w.frozen? ⟨g, k, none⟩ = false := OwnK.cell h .b trivial hv rfl (ints_some hy)
theorem AsyK.nCell (h : AsyK w base val x) {g cap k : Nat} {y : Int} (hv : val .n = .slice (some ⟨g, 0, none⟩) x.now.length cap) (hy : x.now[k]? = some y) : w.cell? ⟨g, k, none⟩ = some (.int .i64 y) ∧ w.frozen? ⟨g, k, none⟩ = false := OwnK.cell h .n trivial hv rfl (ints_some hy)
theorem AsyK.sCell (h : AsyK w base val x) {g cap k : Nat} (hv : val .s = .slice (some ⟨g, 0, none⟩) x.slots.length cap) (hk : k < x.slots.length) : w.cell? ⟨g, k, none⟩ = some (val (.sl k)) ∧ w.frozen? ⟨g, k, none⟩ = false := OwnK.cell h .s trivial hv rfl (valsOf_at hk)
theorem AsyK.fCell (h : AsyK w base val x) {g cap k : Nat} (hv : val .f = .slice (some ⟨g, 0, none⟩) x.flight.length cap) (hk : k < x.flight.length) : w.cell? ⟨g, k, none⟩ = some (val (.fr k)) ∧ w.frozen? ⟨g, k, none⟩ = false := OwnK.cell h .f trivial hv rfl (valsOf_at hk)
theorem AsyK.slCell (h : AsyK w base val x) {g cap k p : Nat} {s : List Int} {y : Int} (hs : x.slots[k]? = some s) (hv : val (.sl k) = .slice (some ⟨g, 0, none⟩) s.length cap) (hy : s[p]? = some y) : w.cell? ⟨g, p, none⟩ = some (.int .i64 y) ∧ w.frozen? ⟨g, p, none⟩ = false :=
  OwnK.cell h (.sl k) (aB.1 hs).1 hv (con := s.map intV) (by show (⟨_, _, (slotsAt x k).length, _⟩ : RowD) = _; rw [slotsAt_eq hs]) (ints_some hy)
theorem AsyK.frCell (h : AsyK w base val x) {g cap k p : Nat} {f : List Ends} (hf : x.flight[k]? = some f) (hv : val (.fr k) = .slice (some ⟨g, 0, none⟩) f.length cap) (hp : p < f.length) : w.cell? ⟨g, p, none⟩ = some (val (.le k p)) ∧ w.frozen? ⟨g, p, none⟩ = false :=
  OwnK.cell h (.fr k) (aB.1 hf).1 hv (con := valsOf (.le k) val f.length) (by show (⟨_, _, (portsAt x k).length, valsOf (.le k) val (portsAt x k).length⟩ : RowD) = _; rw [portsAt_eq hf]) (valsOf_at hp)
theorem AsyK.slOwn (h : AsyK w base val x) {k : Nat} {s : List Int} (hs : x.slots[k]? = some s) : w.ownsRow base 3 1 (val (.sl k)) s.length (s.map intV) := by
  have ho := h.own (.sl k) (aB.1 hs).1;have e : rowK x val (.sl k) = ⟨3, 1, s.length, s.map intV⟩ := by show (⟨_, _, (slotsAt x k).length, _⟩ : RowD) = _; rw [slotsAt_eq hs]
  rw [e] at ho;exact ho
theorem AsyK.frOwn (h : AsyK w base val x) {k : Nat} {f : List Ends} (hf : x.flight[k]? = some f) : w.ownsRow base 102 1 (val (.fr k)) f.length (valsOf (.le k) val f.length) := by
  have ho := h.own (.fr k) (aB.1 hf).1;have e : rowK x val (.fr k) = ⟨102, 1, f.length, valsOf (.le k) val f.length⟩ := by show (⟨_, _, (portsAt x k).length, valsOf (.le k) val (portsAt x k).length⟩ : RowD) = _; rw [portsAt_eq hf]
  rw [e] at ho;exact ho
theorem AsyK.leOwn (h : AsyK w base val x) {k p : Nat} {f : List Ends} {ls : Ends} (hf : x.flight[k]? = some f) (hp : f[p]? = some ls) : w.ownsRow base 129 2 (val (.le k p)) ls.length (letCells ls) := by
  have ho := h.own (.le k p) ⟨(aB.1 hf).1, by rw [portsAt_eq hf]; exact (aB.1 hp).1⟩;have e : rowK x val (.le k p) = ⟨129, 2, ls.length, letCells ls⟩ := by show (⟨_, _, (lettersAt x k p).length, _⟩ : RowD) = _; rw [lettersAt_eq hf hp]
  rw [e] at ho;exact ho
theorem own_some2 {w : World} {base sz : Nat} {e : TypeId} {v : Value} {n : Nat} {xs : List Value} (h : w.ownsRow base e sz v n xs) (hn : 0 < n) :
    ∃ g cap, v = .slice (some ⟨g, 0, none⟩) n cap ∧ n ≤ cap ∧ cap ≤ maxLen ∧ base ≤ g ∧ g < w.heap.size := by
  have hl := h.lt;rcases h.2 with ⟨_, e⟩ | ⟨g, cap, cur, e, h1, _, h5, h6, _⟩
  · omega
  · exact ⟨g, cap, e, h5, h6, h1, (hl g (by rw [e]; rfl)).2⟩
theorem setE (w : World) (g i : Nat) (u : Value) : ∃ w', w' = w.setCell ⟨g, i, none⟩ u ∧ (∀ b, b ≠ g → w'.heap[b]? = w.heap[b]?) ∧ w'.heap.size ≤ w.heap.size ∧ w.heap.size ≤ w'.heap.size :=
  ⟨_, rfl, fun b hb => Below.heap_setCell _ _ _ _ (by simpa using hb), by simp [World.setCell], by simp [World.setCell]⟩
end
def Frame (val : Key → Value) (x : Asy) (w w' : World) : Prop := w.heap.size ≤ w'.heap.size ∧ ∀ b, b < w.heap.size → (∀ j, keyOf x j → (val j).ownBlock ≠ some b) → w'.heap[b]? = w.heap[b]?
section
variable {w wi wj : World} {val : Key → Value} {x : Asy}
theorem Frame.of (hb : Below w.heap.size w wi) : Frame val x w wi := ⟨hb.size, fun b h _ => hb.block b h⟩
theorem Frame.below (h : Frame val x w wi) (hb : Below wi.heap.size wi wj) : Frame val x w wj := ⟨Nat.le_trans h.1 hb.size, fun b hl hn => (hb.block b (aF hl h.1)).trans (h.2 b hl hn)⟩
theorem Frame.drew (h : Frame val x w wi) : Frame val x w wi.drew := ⟨h.1, h.2⟩
theorem Frame.set (h : Frame val x w wi) (i : Key) (hi : keyOf x i) {g : Nat} (hv : (val i).ownBlock = some g) (j : Nat) (u : Value) : Frame val x w (wi.setCell ⟨g, j, none⟩ u) :=
  ⟨by have := h.1; simpa [World.setCell] using this, fun b hl hn => (Below.heap_setCell wi _ _ _ (by
    intro e
    exact hn i hi (by rw [hv, e]))).trans (h.2 b hl hn)⟩
theorem Frame.grown (h : Frame val x w wi) (i : Key) (hi : keyOf x i) (hg : wi.grownBy wj (val i).ownBlock) : Frame val x w wj :=
  ⟨Nat.le_trans h.1 hg.size, fun b hl hn => (hg.block b (aF hl h.1) (fun e => hn i hi e.symm)).trans (h.2 b hl hn)⟩
end
theorem set_self {α : Type} {l : List α} {k : Nat} {y : α} (h : l[k]? = some y) : l.set k y = l := by obtain ⟨hk, rfl⟩ := aB.1 h;exact List.set_getElem_self hk
theorem MachR.at {w w' : World} {B : Nat} {vs ve vc vo : Value} {m : Mach} (h : MachR w B vs ve vc vo m) (hb : Below B w w') (hs : B ≤ w'.heap.size) : MachR w' w'.heap.size vs ve vc vo m :=
  ⟨(h.s.below hb).more hs, (h.e.below hb).more hs, (h.c.below hb).more hs, (h.o.below hb).more hs, h.i⟩
noncomputable def nextS (m : Mach) (s : Int) (ib : List Int) : Int := if 0 ≤ clI (fitsB s ib) m.cls ∧ m.out.getD s.toNat 0 < 0 then (m.cls.getD (clI (fitsB s ib) m.cls).toNat (0, [], 0)).2.2 else s
noncomputable def stepA (m : Mach) (x : Asy) (k : Nat) : Asy :=
  { rounds := x.rounds.set k (x.rounds.getD k 0 + 1), before := x.before.set k (x.now.getD k 0), now := x.now.set k (nextS m (x.now.getD k 0) (slotsAt x k)), slots := x.slots.set k (List.replicate (slotsAt x k).length (-1)), flight := x.flight }
end Go.Proofs.YtjklbjmdgiddcaaGreat
