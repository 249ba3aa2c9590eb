/-
  Clauses that fit, free slots, the reference's side: maFits, maClause, roFree.
-/
import Derived.Test.YtehkcodbcnhhoaaGreatESyOwnB
namespace Go.Proofs.YtehkcodbcnhhoaaGreat
open Go.RowKit
set_option linter.all false
def FitTo (c : Cl) (ib : List Int) (k : Nat) : Prop := ∀ (i : Nat) (x y : Int), i < k → c.2.1[i]? = some x → ib[i]? = some y → 0 ≤ x → x = y
def fitsP (c : Cl) (s : Int) (ib : List Int) : Prop := c.1 = s ∧ c.2.1.length = ib.length ∧ FitTo c ib ib.length
noncomputable def fitsB (s : Int) (ib : List Int) (c : Cl) : Bool := propB (fitsP c s ib)
theorem FitTo.next {c : Cl} {ib : List Int} {k : Nat} {x y : Int} (h : FitTo c ib k) (hx : c.2.1[k]? = some x) (hy : ib[k]? = some y) (hxy : 0 ≤ x → x = y) : FitTo c ib (k + 1) := fun i x' y' hi hx' hy' => by
  by_cases e : i = k
  · subst e
    obtain rfl := Option.some.inj (hx.symm.trans hx')
    obtain rfl := Option.some.inj (hy.symm.trans hy')
    exact hxy
  · exact h i x' y' (by omega) hx' hy'
def clI (p : Cl → Bool) (l : List Cl) : Int := match l.findIdx? p with | some k => (k : Int) | none => -1
theorem clI_at {p : Cl → Bool} {l : List Cl} {k : Nat} {c : Cl} (h : ∀ c ∈ l.take k, p c = false) (hc : l[k]? = some c) (hp : p c = true) : clI p l = k := by
  obtain ⟨hk, rfl⟩ := List.getElem?_eq_some_iff.1 hc
  have e : l.findIdx? p = some k := by
    rw [List.findIdx?_eq_some_iff_getElem]
    refine ⟨hk, hp, fun j hj => ?_⟩
    rw [h l[j] (List.mem_take_iff_getElem.2 ⟨j, by omega, rfl⟩)]
    simp
  unfold clI
  rw [e]
theorem clI_none {p : Cl → Bool} {l : List Cl} (h : ∀ c ∈ l, p c = false) : clI p l = -1 := by
  have e : l.findIdx? p = none := List.findIdx?_eq_none_iff.2 fun c hc => by rw [h c hc]
  unfold clI
  rw [e]
theorem clI_cases (p : Cl → Bool) (l : List Cl) : clI p l = -1 ∨ ∃ (k : Nat) (c : Cl), clI p l = k ∧ l[k]? = some c ∧ p c = true := by
  unfold clI
  cases e : l.findIdx? p with
  | none => exact .inl rfl
  | some k =>
    obtain ⟨hk, hp, -⟩ := List.findIdx?_eq_some_iff_getElem.1 e
    exact .inr ⟨k, l[k], rfl, List.getElem?_eq_getElem hk, hp⟩
def MfRel (c : Cl) (ib : List Int) (w : World) (i : Value) (wr : World) : Prop := w = wr ∧ ∃ k : Nat, k ≤ c.2.1.length ∧ i = .int .i64 k ∧ FitTo c ib k
set_option maxRecDepth 100000 in
set_option maxHeartbeats 1000000 in
theorem spec_maFits (u v : Value) (c : Cl) (s : Int) (ib : List Int) (w : World) (hu : IntsR w w.heap.size u c.2.1) (hv : IntsR w w.heap.size v ib) :
  Calls Tryz.prog 107 #[.agg #[.int .i64 c.1, u, .int .i64 c.2.2], .int .i64 s, v] w fun e w' => e = .returned (.bool (fitsB s ib c)) ∧ Below w.heap.size w w' := by
 obtain ⟨A7, c7, rfl, hc7, hm7, hr7⟩ := hu.open_
 obtain ⟨A8, c8, rfl, hc8, hm8, hr8⟩ := hv.open_
 unfold maxLen at hm7 hm8
 obtain ⟨w0, hw0, hB, HK, hz0, HS0⟩ := box3 w (.int .i64 c.1) (.slice A7 c.2.1.length c7) (.int .i64 c.2.2) 92
 have HW0 := Lib.hid hw0
 obtain ⟨z0, z1, z2, zf⟩ := cells3 HK
 have e0 := z0
 have e1 := z1
 rw [hw0] at e0 e1
 clear hw0
 by_cases h1 : c.1 = s
 ·
  have k1 : (c.1 == s) = true := by rw [beq_iff_eq]; exact h1
  have k1' : (c.1 != s) = false := by rw [h1]; simp
  by_cases h2 : c.2.1.length = ib.length
  ·
   have k2 : (((c.2.1.length : Nat) : Int) != ((ib.length : Nat) : Int)) = false := by rw [h2]; simp
   have H1 := Lib.hid h1
   have H2 := Lib.hid h2
   clear h1 h2
   go_enter Tryz.func107, Tryz.ntmps107
   go_wp2_with fail
   rw [← HW0.out]
   go_loopw [24] (fun i wr => MfRel c ib w0 i wr) (fun i _ => c.2.1.length - (intOf i).toNat)
   case atStart => exact ⟨rfl, 0, Nat.zero_le _, rfl, fun _ _ _ h => absurd h (by omega)⟩
   case round =>
    obtain ⟨rfl, k, hk, rfl, hup⟩ := hrel
    have HU := Lib.hid hup; clear hup
    by_cases hlt : k < c.2.1.length
    ·
     obtain ⟨x, hx⟩ : ∃ y, c.2.1[k]? = some y := ⟨_, List.getElem?_eq_getElem hlt⟩
     have hlt2 : k < ib.length := by rw [← H2.out]; exact hlt
     obtain ⟨y, hy⟩ : ∃ z, ib[k]? = some z := ⟨_, List.getElem?_eq_getElem hlt2⟩
     obtain ⟨ad7, rfl, ha7, hrow7⟩ := hr7 (by omega)
     obtain ⟨ad8, rfl, ha8, hrow8⟩ := hr8 (by omega)
     have c7' := (hB.cell (p := ad7.add k) (by rw [block_add]; exact ha7)).trans (hrow7 k x hx)
     have c8' := (hB.cell (p := ad8.add k) (by rw [block_add]; exact ha8)).trans (hrow8 k y hy)
     have HX := Lib.hid hx
     have HY := Lib.hid hy
     clear hx hy hrow7 hrow8
     by_cases h0 : 0 ≤ x
     ·
      have d0 : decide (0 ≤ x) = true := decide_eq_true h0
      have d0' : (x ≥ 0) = True := eq_true h0
      by_cases h3 : x = y
      ·
       have k3 : (x == y) = true := by rw [beq_iff_eq]; exact h3
       have k3' : (x != y) = false := by rw [h3]; simp
       have H3 := Lib.hid h3
       clear h3
       go_wp2_with fail
       go_roundw
       case rel => exact ⟨rfl, k + 1, by omega, by go_num, HU.out.next HX.out HY.out fun _ => H3.out⟩
       case measure => simp [intOf]; omega
      ·
       have k3 : (x == y) = false := by rw [beq_eq_false_iff_ne]; exact h3
       have k3' : (x != y) = true := by rw [bne_iff_ne]; exact h3
       have HF := Lib.hid (show fitsB s ib c = false from propB_f fun hp => h3 (hp.2.2 k x y hlt2 HX.out HY.out h0)).symm
       go_wp2_with fail
       go_ret
       exact ⟨ret_bool HF.out, hB⟩
     ·
      have d0 : decide (0 ≤ x) = false := decide_eq_false h0
      have d0' : (x ≥ 0) = False := eq_false h0
      go_wp2_with fail
      go_roundw
      case rel => exact ⟨rfl, k + 1, by omega, by go_num, HU.out.next HX.out HY.out fun h => absurd h h0⟩
      case measure => simp [intOf]; omega
    ·
     have HF := Lib.hid (show fitsB s ib c = true from propB_t ⟨H1.out, H2.out, fun i x y hi => HU.out i x y (by have := H2.out; omega)⟩).symm
     go_wp2_with fail
     go_ret
     exact ⟨ret_bool HF.out, hB⟩
  ·
   have k2 : (((c.2.1.length : Nat) : Int) != ((ib.length : Nat) : Int)) = true := by rw [bne_iff_ne]; omega
   have HF := Lib.hid (show fitsB s ib c = false from propB_f fun hp => h2 hp.2.1).symm
   clear h1
   go_enter Tryz.func107, Tryz.ntmps107
   go_wp2_with fail
   go_ret
   exact ⟨ret_bool HF.out, by rw [← HW0.out]; exact hB⟩
 ·
  have k1 : (c.1 == s) = false := by rw [beq_eq_false_iff_ne]; exact h1
  have k1' : (c.1 != s) = true := by rw [bne_iff_ne]; exact h1
  have HF := Lib.hid (show fitsB s ib c = false from propB_f fun hp => h1 hp.1).symm
  go_enter Tryz.func107, Tryz.ntmps107
  go_wp2_with fail
  go_ret
  exact ⟨ret_bool HF.out, by rw [← HW0.out]; exact hB⟩
def McRel (m : Mach) (s : Int) (ib : List Int) (w : World) (i : Value) (wr : World) : Prop := Below w.heap.size w wr ∧ ∃ k : Nat, k ≤ m.cls.length ∧ i = .int .i64 k ∧ ∀ c ∈ m.cls.take k, fitsB s ib c = false
set_option maxRecDepth 100000 in
set_option maxHeartbeats 1000000 in
theorem spec_maClause (vs ve vc vo v : Value) (m : Mach) (s : Int) (ib : List Int) (w : World) (hm : MachR w w.heap.size vs ve vc vo m) (hv : IntsR w w.heap.size v ib) :
  Calls Tryz.prog 96 #[machV vs ve vc vo m, .int .i64 s, v] w fun e w' => e = .returned (.int .i64 (clI (fitsB s ib) m.cls)) ∧ Below w.heap.size w w' := by
 unfold machV
 have hc := hm.c
 obtain ⟨⟨A0, m0, c0, rfl⟩, ⟨A1, m1, c1, rfl⟩, -, A3, m3, c3, rfl⟩ := hm.slices
 obtain ⟨A2, c2, rfl, hc2, hm2, -, hr2⟩ := hc
 unfold maxLen at hm2
 have HR2 := Lib.hid hr2
 have HV := Lib.hid hv
 obtain ⟨A8, n8, c8, rfl⟩ := hv.isSlice
 clear hr2 hv
 obtain ⟨w0, hw0, hb0, HM, hz0, HS0⟩ := box7 w (.int .i64 m.deg) (.int .i64 m.st) (.int .i64 m.msg) (.slice A0 m0 c0) (.slice A1 m1 c1) (.slice A2 m.cls.length c2) (.slice A3 m3 c3) 39
 have hB : Below w.heap.size w w0 := hb0
 have HW := Lib.hid (show w0 = w.alloc (.cells #[.int .i64 m.deg, .int .i64 m.st, .int .i64 m.msg, .slice A0 m0 c0, .slice A1 m1 c1, .slice A2 m.cls.length c2, .slice A3 m3 c3] 39) by rw [hw0])
 obtain ⟨⟨g0, g1, g2⟩, ⟨g3, g4, g5, g6⟩, gf⟩ := cells7 HM
 have eg0 := g0
 have eg1 := g1
 have eg2 := g2
 have eg3 := g3
 have eg4 := g4
 have eg5 := g5
 have eg6 := g6
 rw [HW.out] at eg0 eg1 eg2 eg3 eg4 eg5 eg6
 have hzb0 : w.heap.size < w0.heap.size := by omega
 have HR := Lib.hid (hm.up hB)
 clear hw0
 clear HR
 go_enter Tryz.func96, Tryz.ntmps96
 go_wp2_with fail
 rw [← HW.out]
 clear eg0 eg1 eg2 eg3 eg4 eg5 eg6
 go_loopw [12] (fun i wr => McRel m s ib w0 i wr) (fun i _ => m.cls.length - (intOf i).toNat)
 case atStart => exact ⟨Below.refl _ _, 0, Nat.zero_le _, rfl, by simp⟩
 case round =>
  obtain ⟨hb1, k, hk, rfl, hup⟩ := hrel
  have HU := Lib.hid hup; clear hup
  have hzhb1 := hb1.size
  clear g0 g1 g2 g3 g4 g5 g6 gf
  replace HM := bk HM hb1
  replace hB := bl_trans hB hb1
  obtain ⟨⟨g0, g1, g2⟩, ⟨g3, g4, g5, g6⟩, gf⟩ := cells7 HM
  by_cases hlt : k < m.cls.length
  ·
   obtain ⟨c, hc⟩ : ∃ l, m.cls[k]? = some l := ⟨_, List.getElem?_eq_getElem hlt⟩
   obtain ⟨cb, co, rfl, hcb, hrow2⟩ := HR2.out (by omega)
   obtain ⟨p0, ⟨u, p1, hru⟩, p2⟩ := hrow2 k c hc
   have p0' := (hB.cell (p := ⟨cb, co + k * 3, none⟩) hcb).trans p0
   have p1' := (hB.cell (p := ⟨cb, co + k * 3 + 1, none⟩) hcb).trans p1
   have p2' := (hB.cell (p := ⟨cb, co + k * 3 + 2, none⟩) hcb).trans p2
   have HRU := Lib.hid hru
   obtain ⟨A7, c7, rfl, hc7, hm7, -⟩ := hru.open_
   obtain ⟨wv, hwv, hb4, HK, hzv, HSV⟩ := box3 wr (.int .i64 c.1) (.slice A7 c.2.1.length c7) (.int .i64 c.2.2) 92
   have HWV := Lib.hid hwv
   obtain ⟨z0, z1, z2, zf⟩ := cells3 HK
   rw [hwv] at z0 z1 z2
   have HL := Lib.hid hc
   have HBV := Lib.hid (bl_trans hB hb4)
   clear hc hru p0 p1 p2 hrow2 hwv
   cases q : fitsB s ib c with
   | true =>
    have HF := Lib.hid (clI_at HU.out HL.out q).symm
    go_wp2_with fail
    rw [← HWV.out]
    refine (spec_maFits _ _ c s ib wv (ints_at HRU.out HBV.out) (ints_at HV.out HBV.out)).mono ?_
    rintro e w5 ⟨rfl, hb5⟩
    rw [q]
    go_wp2_with fail
    go_ret
    exact ⟨ret_int HF.out, bl_trans HBV.out hb5⟩
   | false =>
    have HQ := Lib.hid q
    go_wp2_with fail
    rw [← HWV.out]
    refine (spec_maFits _ _ c s ib wv (ints_at HRU.out HBV.out) (ints_at HV.out HBV.out)).mono ?_
    rintro e w5 ⟨rfl, hb5⟩
    rw [q]
    go_wp2_with fail
    go_roundw
    case rel => exact ⟨bl_trans (bl_trans hb1 hb4) hb5, k + 1, by omega, by go_num, take_next HU.out HL.out HQ.out⟩
    case measure => simp [intOf]; omega
  ·
   have HF := Lib.hid (clI_none (take_all HU.out (by omega))).symm
   go_wp2_with fail
   go_ret
   exact ⟨ret_int HF.out, hB⟩
theorem spec_roFree (n : Nat) (w : World) (hn : n ≤ 1000) :
  Calls Tryz.prog 54 #[.int .i64 n] w fun e w' => ∃ v, e = .returned v ∧ w'.ownsRow w.heap.size 3 1 v n ((List.replicate n (-1 : Int)).map intV) ∧ Below w.heap.size w w' := by
 have hmk := fun W => run_make1 (P := Tryz.prog) 24 3 (.int .i64 0) 8 Tryz.underlying24 intInfo rfl n (by omega) (by omega) W
 obtain ⟨w1, hw1⟩ : ∃ z, z = w.alloc (.cells (rowOf [] n (.int .i64 0)) 3) := ⟨_, rfl⟩
 have HQ1 := Lib.hid hw1; clear hw1
 go_enter Tryz.func54, Tryz.ntmps54
 go_wp2_with fail
 clear hmk
 rw [← HQ1.out]
 have hb1 : Below w.heap.size w w1 := by rw [HQ1.out]; exact bl_alloc (Below.refl _ _) _
 have hN1 : NumsAt w1 w.heap.size (List.replicate 0 (-1) ++ List.replicate (n - 0) 0) := by
  unfold NumsAt
  rw [HQ1.out, heap_alloc_new, ← rowOf_map 0 n (Nat.zero_le _)]
  rfl
 go_loopw [9] (fun i wr => FillRel n w.heap.size w i wr) (fun i _ => n - (intOf i).toNat)
 case atStart => exact ⟨0, Nat.zero_le _, rfl, hN1, hb1⟩
 case round =>
  clear hb1 hN1
  obtain ⟨k, hk, rfl, hnum, hbl⟩ := hrel
  by_cases hlt : k < n
  ·
   have hcell := hnum.cell (i := k) (x := 0) (by rw [List.getElem?_append_right (by simp), List.length_replicate, Nat.sub_self, List.getElem?_replicate, if_pos (by omega)])
   have hfz := hnum.frozen k
   have HX := Lib.hid hnum; clear hnum
   go_wp2_with fail
   go_roundw
   case rel => exact ⟨k + 1, by omega, by go_num, by rw [← fill_set hlt]; exact HX.out.set k (-1), hbl.setCell (Nat.le_refl _) _⟩
   case measure => simp [intOf]; omega
  ·
   have e : List.replicate k (-1 : Int) ++ List.replicate (n - k) 0 = List.replicate n (-1) := by rw [show n - k = 0 by omega, show k = n by omega]; simp
   rw [e] at hnum
   have HX := Lib.hid hnum; clear hnum e
   go_wp2_with fail
   go_ret
   refine ⟨_, rfl, ⟨by simp, .inr ⟨w.heap.size, n, ((List.replicate n (-1 : Int)).map intV).toArray, rfl, Nat.le_refl _, HX.out, Nat.le_refl _, by unfold maxLen; omega, by simp, by simp⟩⟩, hbl⟩
end Go.Proofs.YtehkcodbcnhhoaaGreat
