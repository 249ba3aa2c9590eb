/-
  The first clause that fits, the program's side: clauseFor, slices.IndexFunc of clauses. No condition.
-/
import Derived.Test.YtehkcodbcnhhoaaGreatESyCl
namespace Go.Proofs.YtehkcodbcnhhoaaGreat
open Go.RowKit
set_option linter.all false
set_option maxRecDepth 100000 in
set_option maxHeartbeats 1000000 in
theorem closure_clause (u v : Value) (c : Cl) (s : Int) (ib : List Int) (G1 G2 : Nat) (w : World) (H1 : w.cell? ⟨G1, 0, none⟩ = some (.int .i64 s)) (H2 : w.cell? ⟨G2, 0, none⟩ = some v) (hG1 : G1 < w.heap.size) (hG2 : G2 < w.heap.size) (hu : IntsR w w.heap.size u c.2.1) (hv : IntsR w w.heap.size v ib) (hge : ∀ x ∈ c.2.1, -1 ≤ x) :
  Calls Tryz.prog 105 #[.agg #[.int .i64 c.1, u, .int .i64 c.2.2], .pointer (some ⟨G1, 0, none⟩), .pointer (some ⟨G2, 0, none⟩)] w fun e w' => e = .returned (.bool (fitsB s ib c)) ∧ Below w.heap.size w w' := by
 obtain ⟨A7, c7, rfl, hc7, hm7, hr7⟩ := hu.open_
 obtain ⟨A8, c8, rfl, hc8, hm8, hr8⟩ := hv.open_
 unfold maxLen at hm7 hm8
 obtain ⟨w0, hw0, hB, HK, hz0, HS0⟩ := box3 w (.int .i64 c.1) (.slice A7 c.2.1.length c7) (.int .i64 c.2.2) 92
 have HW0 := Lib.hid hw0
 obtain ⟨z0, z1, z2, zf⟩ := cells3 HK
 have x1 := (hB.cell (p := ⟨G1, 0, none⟩) hG1).trans H1
 have x2 := (hB.cell (p := ⟨G2, 0, none⟩) hG2).trans H2
 have e0 := z0
 have e1 := z1
 have y1 := x1
 have y2 := x2
 rw [hw0] at e0 e1 y1 y2
 have HGE := Lib.hid hge
 clear hw0 H1 H2 hge
 by_cases h1 : c.1 = s
 ·
  have k1 : (c.1 == s) = true := by rw [beq_iff_eq]; exact h1
  have k1' : (c.1 != s) = false := by rw [h1]; simp
  by_cases h2 : c.2.1.length = ib.length
  ·
   have k2 : (((c.2.1.length : Nat) : Int) != ((ib.length : Nat) : Int)) = false := by rw [h2]; simp
   have H1 := Lib.hid h1
   have H2 := Lib.hid h2
   clear h1 h2
   go_enter Tryz.func105, Tryz.ntmps105
   go_wp2_with fail
   rw [← HW0.out]
   clear y1 y2 e0 e1
   go_loopw [22] (fun i wr => MfRel c ib w0 i wr) (fun i _ => c.2.1.length - (intOf i).toNat)
   case atStart => exact ⟨rfl, 0, Nat.zero_le _, rfl, fun _ _ _ h => absurd h (by omega)⟩
   case round =>
    obtain ⟨rfl, k, hk, rfl, hup⟩ := hrel
    have HU := Lib.hid hup; clear hup
    by_cases hlt : k < c.2.1.length
    ·
     obtain ⟨x, hx⟩ : ∃ y, c.2.1[k]? = some y := ⟨_, List.getElem?_eq_getElem hlt⟩
     have hlt2 : k < ib.length := by rw [← H2.out]; exact hlt
     obtain ⟨y, hy⟩ : ∃ z, ib[k]? = some z := ⟨_, List.getElem?_eq_getElem hlt2⟩
     obtain ⟨ad7, rfl, ha7, hrow7⟩ := hr7 (by omega)
     obtain ⟨ad8, rfl, ha8, hrow8⟩ := hr8 (by omega)
     have c7' := (hB.cell (p := ad7.add k) (by rw [block_add]; exact ha7)).trans (hrow7 k x hx)
     have c8' := (hB.cell (p := ad8.add k) (by rw [block_add]; exact ha8)).trans (hrow8 k y hy)
     have hxm := HGE.out x (List.mem_of_getElem? hx)
     have HX := Lib.hid hx
     have HY := Lib.hid hy
     clear hx hy hrow7 hrow8
     by_cases h0 : x = -1
     ·
      have k0 : (x != -1) = false := by rw [h0]; rfl
      have H0 := Lib.hid h0
      clear h0
      go_wp2_with fail
      go_roundw
      case rel => exact ⟨rfl, k + 1, by omega, by go_num, HU.out.next HX.out HY.out fun h => absurd h (by have := H0.out; omega)⟩
      case measure => simp [intOf]; omega
     ·
      have k0 : (x != -1) = true := by rw [bne_iff_ne]; exact h0
      by_cases h3 : x = y
      ·
       have k3 : (x == y) = true := by rw [beq_iff_eq]; exact h3
       have k3' : (x != y) = false := by rw [h3]; simp
       have H3 := Lib.hid h3
       clear h3
       go_wp2_with fail
       go_roundw
       case rel => exact ⟨rfl, k + 1, by omega, by go_num, HU.out.next HX.out HY.out fun _ => H3.out⟩
       case measure => simp [intOf]; omega
      ·
       have k3 : (x == y) = false := by rw [beq_eq_false_iff_ne]; exact h3
       have k3' : (x != y) = true := by rw [bne_iff_ne]; exact h3
       have HF := Lib.hid (show fitsB s ib c = false from propB_f fun hp => h3 (hp.2.2 k x y hlt2 HX.out HY.out (by omega))).symm
       go_wp2_with fail
       go_ret
       exact ⟨ret_bool HF.out, hB⟩
    ·
     have HF := Lib.hid (show fitsB s ib c = true from propB_t ⟨H1.out, H2.out, fun i x y hi => HU.out i x y (by have := H2.out; omega)⟩).symm
     go_wp2_with fail
     go_ret
     exact ⟨ret_bool HF.out, hB⟩
  ·
   have k2 : (((c.2.1.length : Nat) : Int) != ((ib.length : Nat) : Int)) = true := by rw [bne_iff_ne]; omega
   have HF := Lib.hid (show fitsB s ib c = false from propB_f fun hp => h2 hp.2.1).symm
   clear h1
   go_enter Tryz.func105, Tryz.ntmps105
   go_wp2_with fail
   go_ret
   exact ⟨ret_bool HF.out, by rw [← HW0.out]; exact hB⟩
 ·
  have k1 : (c.1 == s) = false := by rw [beq_eq_false_iff_ne]; exact h1
  have k1' : (c.1 != s) = true := by rw [bne_iff_ne]; exact h1
  have HF := Lib.hid (show fitsB s ib c = false from propB_f fun hp => h1 hp.1).symm
  go_enter Tryz.func105, Tryz.ntmps105
  go_wp2_with fail
  go_ret
  exact ⟨ret_bool HF.out, by rw [← HW0.out]; exact hB⟩
def CiRel (cls : List Cl) (s : Int) (ib : List Int) (w : World) (i : Value) (wr : World) : Prop := Below w.heap.size w wr ∧ ∃ k : Nat, k ≤ cls.length ∧ i = .int .i64 k ∧ ∀ c ∈ cls.take k, fitsB s ib c = false
set_option maxRecDepth 100000 in
theorem index_clauses (v2 v : Value) (cls : List Cl) (s : Int) (ib : List Int) (G1 G2 : Nat) (w : World) (hc : ClsR w w.heap.size v2 cls) (hv : IntsR w w.heap.size v ib) (H1 : w.cell? ⟨G1, 0, none⟩ = some (.int .i64 s)) (H2 : w.cell? ⟨G2, 0, none⟩ = some v) (hG1 : G1 < w.heap.size) (hG2 : G2 < w.heap.size) (hge : ∀ c ∈ cls, ∀ x ∈ c.2.1, -1 ≤ x) :
  Calls Tryz.prog 104 #[v2, .func (.func 105) #[] #[.pointer (some ⟨G1, 0, none⟩), .pointer (some ⟨G2, 0, none⟩)]] w fun e w' => e = .returned (.int .i64 (clI (fitsB s ib) cls)) ∧ Below w.heap.size w w' := by
 obtain ⟨A2, c2, rfl, hc2, hm2, -, hr2⟩ := hc
 unfold maxLen at hm2
 have HR2 := Lib.hid hr2
 have HV := Lib.hid hv
 have HC1 := Lib.hid H1
 have HC2 := Lib.hid H2
 have HGE := Lib.hid hge
 clear hr2 hv H1 H2 hge
 go_enter Tryz.func104, Tryz.ntmps104
 go_wp2_with fail
 go_loopw [8, 5] (fun i _ wr => CiRel cls s ib w i wr) (fun i _ _ => cls.length - (intOf i).toNat)
 case atStart => exact ⟨Below.refl _ _, 0, Nat.zero_le _, rfl, by simp⟩
 case round =>
  obtain ⟨hB, k, hk, rfl, hup⟩ := hrel
  have HU := Lib.hid hup; clear hup
  have hz := hB.size
  by_cases hlt : k < cls.length
  ·
   obtain ⟨c, hc⟩ : ∃ l, cls[k]? = some l := ⟨_, List.getElem?_eq_getElem hlt⟩
   obtain ⟨cb, co, rfl, hcb, hrow2⟩ := HR2.out (by omega)
   obtain ⟨p0, ⟨u, p1, hru⟩, p2⟩ := hrow2 k c hc
   have p0' := (hB.cell (p := ⟨cb, co + k * 3, none⟩) hcb).trans p0
   have p1' := (hB.cell (p := ⟨cb, co + k * 3 + 1, none⟩) hcb).trans p1
   have p2' := (hB.cell (p := ⟨cb, co + k * 3 + 2, none⟩) hcb).trans p2
   obtain ⟨A7, c7, rfl, hc7, hm7, -⟩ := hru.open_
   have J := Lib.hid (closure_clause _ v c s ib G1 G2 wr ((hB.cell (p := ⟨G1, 0, none⟩) hG1).trans HC1.out) ((hB.cell (p := ⟨G2, 0, none⟩) hG2).trans HC2.out) (by omega) (by omega) (ints_at hru hB) (ints_at HV.out hB) (HGE.out c (List.mem_of_getElem? hc)))
   have HL := Lib.hid hc
   clear hc hru p0 p1 p2 hrow2
   cases q : fitsB s ib c with
   | true =>
    rw [q] at J
    have HF := Lib.hid (clI_at HU.out HL.out q).symm
    go_wp2_with fail
    refine J.out.mono ?_
    rintro e w5 ⟨rfl, hb5⟩
    go_wp2_with fail
    go_ret
    exact ⟨ret_int HF.out, bl_trans hB hb5⟩
   | false =>
    rw [q] at J
    have HQ := Lib.hid q
    go_wp2_with fail
    refine J.out.mono ?_
    rintro e w5 ⟨rfl, hb5⟩
    go_wp2_with fail
    go_roundw
    case rel => exact ⟨bl_trans hB hb5, k + 1, by omega, by go_num, take_next HU.out HL.out HQ.out⟩
    case measure => simp [intOf]; omega
  ·
   have HF := Lib.hid (clI_none (take_all HU.out (by omega))).symm
   go_wp2_with fail
   go_ret
   exact ⟨ret_int HF.out, hB⟩
set_option maxRecDepth 100000 in
set_option maxHeartbeats 1000000 in
theorem impl_clauseFor (vs ve vc vo v : Value) (m : Mach) (s : Int) (ib : List Int) (w : World) (hm : MachR w w.heap.size vs ve vc vo m) (hv : IntsR w w.heap.size v ib) (hge : ∀ c ∈ m.cls, ∀ x ∈ c.2.1, -1 ≤ x) :
  Calls Tryz.prog 88 #[machV vs ve vc vo m, .int .i64 s, v] w fun e w' => e = .returned (.int .i64 (clI (fitsB s ib) m.cls)) ∧ Below w.heap.size w w' := by
 unfold machV
 obtain ⟨⟨A0, m0, c0, rfl⟩, ⟨A1, m1, c1, rfl⟩, ⟨A2, m2, c2, rfl⟩, A3, m3, c3, rfl⟩ := hm.slices
 have HV := Lib.hid hv
 obtain ⟨A8, n8, c8, rfl⟩ := hv.isSlice
 clear hv
 obtain ⟨w0, hw0, hb0, HM, hz0, HS0⟩ := box7 w (.int .i64 m.deg) (.int .i64 m.st) (.int .i64 m.msg) (.slice A0 m0 c0) (.slice A1 m1 c1) (.slice A2 m2 c2) (.slice A3 m3 c3) 39
 obtain ⟨w1, hw1⟩ : ∃ z, z = w0.alloc (.cells #[.int .i64 s] 3) := ⟨_, rfl⟩
 obtain ⟨w2, hw2⟩ : ∃ z, z = w1.alloc (.cells #[.slice A8 n8 c8] 24) := ⟨_, rfl⟩
 have hb1 : Below w0.heap.size w0 w1 := by rw [hw1]; exact bl_alloc (Below.refl _ _) _
 have hb2 : Below w1.heap.size w1 w2 := by rw [hw2]; exact bl_alloc (Below.refl _ _) _
 have k1 : w1.heap.size = w0.heap.size + 1 := by rw [hw1]; simp
 have k2 : w2.heap.size = w1.heap.size + 1 := by rw [hw2]; simp
 have c1' : w1.cell? ⟨w0.heap.size, 0, none⟩ = some (.int .i64 s) := by rw [hw1, World.cell?_alloc_at _ _ _ _ rfl]; rfl
 have c2' : w2.cell? ⟨w1.heap.size, 0, none⟩ = some (.slice A8 n8 c8) := by rw [hw2, World.cell?_alloc_at _ _ _ _ rfl]; rfl
 have c1'' := (hb2.cell (p := ⟨w0.heap.size, 0, none⟩) (by show w0.heap.size < w1.heap.size; omega)).trans c1'
 have hB : Below w.heap.size w w2 := bl_trans (bl_trans hb0 hb1) hb2
 have HM2 := bk (bk HM hb1) hb2
 obtain ⟨⟨g0, g1, g2⟩, ⟨g3, g4, g5, g6⟩, gf⟩ := cells7 HM2
 have J := Lib.hid (index_clauses _ _ m.cls s ib w0.heap.size w1.heap.size w2 (hm.up hB).c (ints_at HV.out hB) c1'' c2' (by omega) (by omega) hge)
 have e5 := g5
 rw [hw2, hw1, hw0] at e5
 have q0 : w0.heap.size = w.heap.size + 1 := by rw [hw0]; simp
 have HW := Lib.hid (show w2 = ((w.alloc (.cells #[.int .i64 m.deg, .int .i64 m.st, .int .i64 m.msg, .slice A0 m0 c0, .slice A1 m1 c1, .slice A2 m2 c2, .slice A3 m3 c3] 39)).alloc (.cells #[.int .i64 s] 3)).alloc (.cells #[.slice A8 n8 c8] 24) by rw [hw2, hw1, hw0])
 rw [k1, q0] at J
 have HB := Lib.hid hB
 clear hw0 hw1 hw2 g0 g1 g2 g3 g4 g5 g6 gf c1' c2' c1'' HM2 HM hm k1 k2 hb0 hb1 hb2 hB
 go_enter Tryz.func88, Tryz.ntmps88
 go_wp2_with fail
 rw [← HW.out]
 refine J.out.mono ?_
 rintro e w5 ⟨rfl, hb5⟩
 go_wp2_with fail
 go_ret
 exact ⟨rfl, bl_trans HB.out hb5⟩
end Go.Proofs.YtehkcodbcnhhoaaGreat
