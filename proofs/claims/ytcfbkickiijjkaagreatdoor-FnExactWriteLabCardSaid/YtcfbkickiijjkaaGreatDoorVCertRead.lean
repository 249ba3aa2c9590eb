/-
  The program's readCertificate.
-/
import Derived.Test.YtcfbkickiijjkaaGreatDoorVArgsCert
import Derived.Test.YtcfbkickiijjkaaGreatDoorVReadWalk
import Derived.Test.YtcfbkickiijjkaaGreatDoorVMapsC
namespace Go.Proofs.YtcfbkickiijjkaaGreatDoor
open Go.RowKit Go.Maps
set_option linter.all false
structure BoxC (w : World) (b : Nat) (x0 x1 x2 x3 x4 : Value) : Prop where
  c0 : w.cell? ⟨b, 0, none⟩ = some x0
  c1 : w.cell? ⟨b, 1, none⟩ = some x1
  c2 : w.cell? ⟨b, 2, none⟩ = some x2
  c3 : w.cell? ⟨b, 3, none⟩ = some x3
  c4 : w.cell? ⟨b, 4, none⟩ = some x4
  f0 : w.frozen? ⟨b, 0, none⟩ = false
  f1 : w.frozen? ⟨b, 1, none⟩ = false
  f2 : w.frozen? ⟨b, 2, none⟩ = false
  f3 : w.frozen? ⟨b, 3, none⟩ = false
  f4 : w.frozen? ⟨b, 4, none⟩ = false
theorem BoxC.keep {w w' : World} {b : Nat} {x0 x1 x2 x3 x4 : Value} (h : BoxC w b x0 x1 x2 x3 x4) (hk : w'.heap[b]? = w.heap[b]?) : BoxC w' b x0 x1 x2 x3 x4 := by
  have e1 : ∀ i, w'.cell? ⟨b, i, none⟩ = w.cell? ⟨b, i, none⟩ := fun i => by unfold World.cell?; simp only [hk]
  have e2 : ∀ i, w'.frozen? ⟨b, i, none⟩ = w.frozen? ⟨b, i, none⟩ := fun i => by unfold World.frozen?; simp only [hk]
  exact ⟨(e1 0).trans h.c0, (e1 1).trans h.c1, (e1 2).trans h.c2, (e1 3).trans h.c3, (e1 4).trans h.c4, (e2 0).trans h.f0, (e2 1).trans h.f1, (e2 2).trans h.f2, (e2 3).trans h.f3, (e2 4).trans h.f4⟩
theorem BoxC.below {w w' : World} {b B : Nat} {x0 x1 x2 x3 x4 : Value} (h : BoxC w b x0 x1 x2 x3 x4) (hb : Below B w w') (hB : b < B) : BoxC w' b x0 x1 x2 x3 x4 := h.keep (hb.block b hB)
theorem BoxC.new (w : World) (t : TypeId) (x0 x1 x2 x3 x4 : Value) : BoxC (w.alloc (.cells #[x0, x1, x2, x3, x4] t)) w.heap.size x0 x1 x2 x3 x4 := by
  have h : (w.alloc (.cells #[x0, x1, x2, x3, x4] t)).heap[w.heap.size]? = some (.cells #[x0, x1, x2, x3, x4] t (0, 0)) := heap_alloc_new _ _
  refine ⟨?_, ?_, ?_, ?_, ?_, ?_, ?_, ?_, ?_, ?_⟩
  iterate 5 (· rw [World.cell?_alloc_at _ _ _ _ rfl]; rfl)
  iterate 5 (· unfold World.frozen?; rw [h]; rfl)
theorem BoxC.set1 {w : World} {b : Nat} {x0 x1 x2 x3 x4 : Value} (h : BoxC w b x0 x1 x2 x3 x4) (u : Value) : BoxC (w.setCell ⟨b, 1, none⟩ u) b x0 u x2 x3 x4 := by
  obtain ⟨h0, h1, h2, h3, h4, f0, f1, f2, f3, f4⟩ := h
  have e1 : ∀ i, (w.setCell ⟨b, 1, none⟩ u).frozen? ⟨b, i, none⟩ = w.frozen? ⟨b, i, none⟩ := fun i => by go_simp
  refine ⟨?_, ?_, ?_, ?_, ?_, (e1 _).trans f0, (e1 _).trans f1, (e1 _).trans f2, (e1 _).trans f3, (e1 _).trans f4⟩ <;> go_simp
theorem BoxC.set2 {w : World} {b : Nat} {x0 x1 x2 x3 x4 : Value} (h : BoxC w b x0 x1 x2 x3 x4) (u : Value) : BoxC (w.setCell ⟨b, 2, none⟩ u) b x0 x1 u x3 x4 := by
  obtain ⟨h0, h1, h2, h3, h4, f0, f1, f2, f3, f4⟩ := h
  have e1 : ∀ i, (w.setCell ⟨b, 2, none⟩ u).frozen? ⟨b, i, none⟩ = w.frozen? ⟨b, i, none⟩ := fun i => by go_simp
  refine ⟨?_, ?_, ?_, ?_, ?_, (e1 _).trans f0, (e1 _).trans f1, (e1 _).trans f2, (e1 _).trans f3, (e1 _).trans f4⟩ <;> go_simp
theorem BoxC.set3 {w : World} {b : Nat} {x0 x1 x2 x3 x4 : Value} (h : BoxC w b x0 x1 x2 x3 x4) (u : Value) : BoxC (w.setCell ⟨b, 3, none⟩ u) b x0 x1 x2 u x4 := by
  obtain ⟨h0, h1, h2, h3, h4, f0, f1, f2, f3, f4⟩ := h
  have e1 : ∀ i, (w.setCell ⟨b, 3, none⟩ u).frozen? ⟨b, i, none⟩ = w.frozen? ⟨b, i, none⟩ := fun i => by go_simp
  refine ⟨?_, ?_, ?_, ?_, ?_, (e1 _).trans f0, (e1 _).trans f1, (e1 _).trans f2, (e1 _).trans f3, (e1 _).trans f4⟩ <;> go_simp
theorem BoxC.set4 {w : World} {b : Nat} {x0 x1 x2 x3 x4 : Value} (h : BoxC w b x0 x1 x2 x3 x4) (u : Value) : BoxC (w.setCell ⟨b, 4, none⟩ u) b x0 x1 x2 x3 u := by
  obtain ⟨h0, h1, h2, h3, h4, f0, f1, f2, f3, f4⟩ := h
  have e1 : ∀ i, (w.setCell ⟨b, 4, none⟩ u).frozen? ⟨b, i, none⟩ = w.frozen? ⟨b, i, none⟩ := fun i => by go_simp
  refine ⟨?_, ?_, ?_, ?_, ?_, (e1 _).trans f0, (e1 _).trans f1, (e1 _).trans f2, (e1 _).trans f3, (e1 _).trans f4⟩ <;> go_simp
theorem map_kept2 {w w' : World} {b n B : Nat} {D : DataW Unit} (h : MapI w b n D) (hb : Below B w w') (hB : b < B) : MapI w' b n D := by
  obtain ⟨es, clock, h1, h2, h3, h4⟩ := h
  exact ⟨es, clock, (hb.block b hB).trans h1, h2, h3, h4⟩
theorem OwnInts.set_far {w : World} {e : TypeId} {v : Value} {xs : List Int} {bs : List Nat} (h : OwnInts w e v xs bs) (p : Addr) (hp : ∀ x ∈ bs, p.block < x) (u : Value) : OwnInts (w.setCell p u) e v xs bs :=
  h.keep fun b hb => Below.heap_setCell _ _ _ _ (fun e => by have := hp b hb; omega)
noncomputable def lbTo (ps : List (List UInt8)) (k : Nat) : Int := if 1 ≤ k then rdV (ps.getD 0 []) else 0
noncomputable def fTo (ps : List (List UInt8)) (k : Nat) : List Int := if 2 ≤ k then resL 45 (ps.getD 1 []) else []
noncomputable def sTo (ps : List (List UInt8)) (k : Nat) : List Int := if 3 ≤ k then resL 45 (ps.getD 2 []) else []
noncomputable def okTo (ps : List (List UInt8)) : Nat → Bool
  | 0 => true
  | 1 => canB (ps.getD 0 [])
  | 2 => canB (ps.getD 0 []) && okL 45 (ps.getD 1 [])
  | _ + 3 => canB (ps.getD 0 []) && okL 45 (ps.getD 1 []) && okL 45 (ps.getD 2 [])
def RcRel (ps : List (List UInt8)) (cl : Int) (b : Nat) (w : World) (ok i : Value) (wr : World) : Prop :=
  ∃ (k : Nat) (vf vs : Value) (bf bs : List Nat), k ≤ ps.length ∧ i = .int .i64 k ∧ ok = .bool (okTo ps k) ∧ BoxC wr b (.int .i64 cl) (.int .i64 (lbTo ps k)) vf vs (.slice none 0 0) ∧
    OwnInts wr 3 vf (fTo ps k) bf ∧ OwnInts wr 3 vs (sTo ps k) bs ∧ (bf ++ bs).Nodup ∧ (∀ x ∈ bf ++ bs, b < x ∧ x < wr.heap.size) ∧ Below b w wr ∧ b < wr.heap.size
def RcPost (cl : Int) (ps r : List (List UInt8)) (w : World) (e : Ending) (w' : World) : Prop :=
  ∃ vf vs vr bf bs br, e = .returned (.tuple #[certV cl (lbTo ps ps.length) vf vs vr, .bool (okTo ps ps.length && okLs 46 r)]) ∧ OwnInts w' 3 vf (fTo ps ps.length) bf ∧ OwnInts w' 3 vs (sTo ps ps.length) bs ∧
    OwnRows w' 41 3 vr (resLs 46 r) br ∧ (bf ++ bs ++ br).Nodup ∧ (∀ x ∈ bf ++ bs ++ br, w.heap.size ≤ x ∧ x < w'.heap.size) ∧ Below w.heap.size w w'
def RcNone (w : World) (e : Ending) (w' : World) : Prop := e = .returned (.tuple #[certV 0 0 (.slice none 0 0) (.slice none 0 0) (.slice none 0 0), .bool false]) ∧ Below w.heap.size w w'
set_option maxRecDepth 100000 in
theorem rc_unknown (ad : Addr) (n c : Nat) (p0 : List UInt8) (w : World) (q0 : w.cell? ad = some (.string ⟨p0.toArray⟩)) (hb : ad.block < w.heap.size) (hp : p0.length ≤ 1048576) (hn : 1 ≤ n) (hn2 : n ≤ 1048577) (hc : isCls p0 = false) :
  Calls Tryz.prog 184 #[.slice (some ad) n c] w fun e w' => RcNone w e w' := by
 have hmm := @run_makeMap Tryz.prog
 have hb0 := bl_alloc (Below.refl w.heap.size w) (.cells #[.int .i64 0, .int .i64 0, .slice none 0 0, .slice none 0 0, .slice none 0 0] 51)
 have HB0 := Lib.hid (BoxC.new w 51 (.int .i64 0) (.int .i64 0) (.slice none 0 0) (.slice none 0 0) (.slice none 0 0))
 have HZ0 := Lib.hid (show w.heap.size < (w.alloc (.cells #[.int .i64 0, .int .i64 0, .slice none 0 0, .slice none 0 0, .slice none 0 0] 51)).heap.size by simp)
 have e0 : (w.alloc (.cells #[.int .i64 0, .int .i64 0, .slice none 0 0, .slice none 0 0, .slice none 0 0] 51)).heap.size = w.heap.size + 1 := by simp
 obtain ⟨x1, x2, x3, x4, r1, r2, r3, r4, hm4, hb4, hl4⟩ := heads_made (w.alloc (.cells #[.int .i64 0, .int .i64 0, .slice none 0 0, .slice none 0 0, .slice none 0 0] 51))
 obtain ⟨y1, y2, y3, y4, s1, s2, s3, s4, hm8, hb8, hl8⟩ := counts_made x4
 have hB4 := bl_trans hb0 hb4
 have hB8 := bl_trans hB4 hb8
 have q4 := (hB4.cell (p := ad) hb).trans q0
 have hlk := heads_look hm4 p0 (by unfold maxLen; omega)
 rw [e0] at r1 r2 r3 r4 hlk hl4
 have HB8 := Lib.hid ((HB0.out.below hb4 HZ0.out).below hb8 (show w.heap.size < x4.heap.size by omega))
 have hz8 : w.heap.size < y4.heap.size := by omega
 have HM8 := Lib.hid hm8; clear hm8 hm4
 clear e0
 rw [hc] at hlk
 simp only [Bool.false_eq_true, if_false] at hlk
 obtain ⟨z0, z1, z2, z3, z4, zf0, zf1, zf2, zf3, zf4⟩ := HB8.out
 go_enter Tryz.func184, Tryz.ntmps184
 go_wp2_with fail
 refine bodyPost_ret (v := .tuple #[certV 0 0 (.slice none 0 0) (.slice none 0 0) (.slice none 0 0), .bool false]) (by simp [results, Tryz.results184, go_sem, z0, z1, z2, z3, z4]) rfl ⟨rfl, ?_⟩
 iterate 5 (refine Below.setCell ?_ (by simp) _)
 exact hB8
set_option maxRecDepth 100000 in
theorem rc_short (ad : Addr) (n c : Nat) (p0 : List UInt8) (w : World) (q0 : w.cell? ad = some (.string ⟨p0.toArray⟩)) (hb : ad.block < w.heap.size) (hp : p0.length ≤ 1048576) (hn : 1 ≤ n) (hn2 : n ≤ 1048577) (hc : isCls p0 = true) (cl : Int) (m : Nat) (hcl : clsI p0 = cl) (hcl4 : cl = 0 ∨ cl = 1 ∨ cl = 2 ∨ cl = 3) (hm : cntI cl = m) (hs : n < m) :
  Calls Tryz.prog 184 #[.slice (some ad) n c] w fun e w' => RcNone w e w' := by
 have hmm := @run_makeMap Tryz.prog
 have hb0 := bl_alloc (Below.refl w.heap.size w) (.cells #[.int .i64 0, .int .i64 0, .slice none 0 0, .slice none 0 0, .slice none 0 0] 51)
 have HB0 := Lib.hid (BoxC.new w 51 (.int .i64 0) (.int .i64 0) (.slice none 0 0) (.slice none 0 0) (.slice none 0 0))
 have HZ0 := Lib.hid (show w.heap.size < (w.alloc (.cells #[.int .i64 0, .int .i64 0, .slice none 0 0, .slice none 0 0, .slice none 0 0] 51)).heap.size by simp)
 have e0 : (w.alloc (.cells #[.int .i64 0, .int .i64 0, .slice none 0 0, .slice none 0 0, .slice none 0 0] 51)).heap.size = w.heap.size + 1 := by simp
 obtain ⟨x1, x2, x3, x4, r1, r2, r3, r4, hm4, hb4, hl4⟩ := heads_made (w.alloc (.cells #[.int .i64 0, .int .i64 0, .slice none 0 0, .slice none 0 0, .slice none 0 0] 51))
 obtain ⟨y1, y2, y3, y4, s1, s2, s3, s4, hm8, hb8, hl8⟩ := counts_made x4
 have hB4 := bl_trans hb0 hb4
 have hB8 := bl_trans hB4 hb8
 have q4 := (hB4.cell (p := ad) hb).trans q0
 have hlk := heads_look hm4 p0 (by unfold maxLen; omega)
 rw [e0] at r1 r2 r3 r4 hlk hl4
 have HB8 := Lib.hid ((HB0.out.below hb4 HZ0.out).below hb8 (show w.heap.size < x4.heap.size by omega))
 have hz8 : w.heap.size < y4.heap.size := by omega
 have HM8 := Lib.hid hm8; clear hm8 hm4
 clear e0
 have k1 := counts_look HM8.out cl hcl4
 rw [hm] at k1
 rw [hc] at hlk
 simp only [if_true] at hlk
 rw [hcl] at hlk
 have hd : decide ((n : Int) < (m : Int)) = true := decide_eq_true (by omega)
 clear hcl hm hcl4
 obtain ⟨z0, z1, z2, z3, z4, zf0, zf1, zf2, zf3, zf4⟩ := HB8.out
 go_enter Tryz.func184, Tryz.ntmps184
 go_wp2_with fail
 refine bodyPost_ret (v := .tuple #[certV 0 0 (.slice none 0 0) (.slice none 0 0) (.slice none 0 0), .bool false]) (by simp [results, Tryz.results184, go_sem, z0, z1, z2, z3, z4]) rfl ⟨rfl, ?_⟩
 iterate 5 (refine Below.setCell ?_ (by simp) _)
 exact hB8
set_option maxRecDepth 100000 in
set_option maxHeartbeats 1000000 in
theorem rc_main (ad : Addr) (c : Nat) (p0 : List UInt8) (ps r : List (List UInt8)) (w : World) (q0 : w.cell? ad = some (.string ⟨p0.toArray⟩)) (hb : ad.block < w.heap.size) (hp : p0.length ≤ 1048576)
  (hcells : ∀ (j : Nat) (p : List UInt8), (ps ++ r)[j]? = some p → w.cell? ⟨ad.block, ad.off + 1 + j, none⟩ = some (.string ⟨p.toArray⟩)) (hlw : ∀ p ∈ ps ++ r, p.length ≤ 1048576)
  (h3 : ps.length ≤ 3) (hn2 : ps.length + 1 + r.length ≤ 1048577) (hcap : ps.length + 1 + r.length ≤ c) (hcm : c ≤ 9223372036854775807) (hc1 : ¬ c = 1)
  (hc : isCls p0 = true) (cl : Int) (hcl : clsI p0 = cl) (hcl4 : cl = 0 ∨ cl = 1 ∨ cl = 2 ∨ cl = 3) (hm : cntI cl = ((ps.length + 1 : Nat) : Int)) (hmx : MaxAt w) (hpw : Pow10 w) (her : ErrAt w) :
  Calls Tryz.prog 184 #[.slice (some ad) (ps.length + 1 + r.length) c] w fun e w' => RcPost cl ps r w e w' := by
 have HM0 := Lib.hid hmx; clear hmx
 have HP0 := Lib.hid hpw; clear hpw
 have HE0 := Lib.hid her; clear her
 have HCE := Lib.hid hcells; clear hcells
 have HLW := Lib.hid hlw; clear hlw
 have hmm := @run_makeMap Tryz.prog
 have hb0 := bl_alloc (Below.refl w.heap.size w) (.cells #[.int .i64 0, .int .i64 0, .slice none 0 0, .slice none 0 0, .slice none 0 0] 51)
 have HB0 := Lib.hid (BoxC.new w 51 (.int .i64 0) (.int .i64 0) (.slice none 0 0) (.slice none 0 0) (.slice none 0 0))
 have HZ0 := Lib.hid (show w.heap.size < (w.alloc (.cells #[.int .i64 0, .int .i64 0, .slice none 0 0, .slice none 0 0, .slice none 0 0] 51)).heap.size by simp)
 have e0 : (w.alloc (.cells #[.int .i64 0, .int .i64 0, .slice none 0 0, .slice none 0 0, .slice none 0 0] 51)).heap.size = w.heap.size + 1 := by simp
 obtain ⟨x1, x2, x3, x4, r1, r2, r3, r4, hm4, hb4, hl4⟩ := heads_made (w.alloc (.cells #[.int .i64 0, .int .i64 0, .slice none 0 0, .slice none 0 0, .slice none 0 0] 51))
 obtain ⟨y1, y2, y3, y4, s1, s2, s3, s4, hm8, hb8, hl8⟩ := counts_made x4
 have hB4 := bl_trans hb0 hb4
 have hB8 := bl_trans hB4 hb8
 have q4 := (hB4.cell (p := ad) hb).trans q0
 have hlk := heads_look hm4 p0 (by unfold maxLen; omega)
 rw [e0] at r1 r2 r3 r4 hlk hl4
 have HB8 := Lib.hid ((HB0.out.below hb4 HZ0.out).below hb8 (show w.heap.size < x4.heap.size by omega))
 have hz8 : w.heap.size < y4.heap.size := by omega
 have HM8 := Lib.hid hm8; clear hm8 hm4
 clear e0
 have k1 := counts_look HM8.out cl hcl4
 rw [hm] at k1
 rw [hc] at hlk
 simp only [if_true] at hlk
 rw [hcl] at hlk
 have hd : decide (((ps.length : Int) + 1 + (r.length : Int)) < ((ps.length : Int) + 1)) = false := decide_eq_false (by omega)
 have HK := Lib.hid (fun W (h : MapI W x4.heap.size 4 DC) => show (Instr.lookup 226 (.map (some x4.heap.size)) (.int .i64 cl) false).run Tryz.prog W = .ok (.int .i64 ((ps.length + 1 : Nat) : Int)) W by rw [counts_look h cl hcl4, hm])
 have hb9 := bl_alloc (Below.refl y4.heap.size y4) (.cells #[.int .i64 cl, .int .i64 0, .slice none 0 0, .slice none 0 0, .slice none 0 0] 51)
 have HX9 := Lib.hid (BoxC.new y4 51 (.int .i64 cl) (.int .i64 0) (.slice none 0 0) (.slice none 0 0) (.slice none 0 0))
 have HS9 := Lib.hid (show (y4.alloc (.cells #[.int .i64 cl, .int .i64 0, .slice none 0 0, .slice none 0 0, .slice none 0 0] 51)).heap.size = y4.heap.size + 1 by simp)
 have k2 := HK.out _ (map_kept HM8.out hb9)
 simp only [Int.natCast_add, Int.natCast_one] at k1 k2
 clear hcl hm
 go_enter Tryz.func184, Tryz.ntmps184
 go_wp2_with fail
 generalize y4.alloc (.cells #[.int .i64 cl, .int .i64 0, .slice none 0 0, .slice none 0 0, .slice none 0 0] 51) = w9 at *
 have hz84 : w.heap.size ≤ y4.heap.size := by omega
 clear r1 r2 r3 r4 s1 s2 s3 s4 hlk k1 k2 hmm q4
 go_loopw [9, 46] (fun ok i wr => RcRel ps cl y4.heap.size w9 ok i wr) (fun _ i _ => ps.length - (intOf i).toNat)
 case atStart => exact ⟨0, .slice none 0 0, .slice none 0 0, [], [], Nat.zero_le _, rfl, rfl, HX9.out, own_none _ _, own_none _ _, List.nodup_nil, (fun _ h => by cases h), Below.refl _ _, by rw [HS9.out]; omega⟩
 case round =>
  obtain ⟨k, vf, vs, bf, bs, hk, rfl, rfl, hbx, hof, hos, hnd, hrg, hbl, hbr⟩ := hrel
  have hBr : Below w.heap.size w wr := (hB8.trans (hb9.mono hz84)).trans (hbl.mono hz84)
  obtain ⟨Af, mf, cf, rfl⟩ := hof.1.isSlice
  obtain ⟨As, ms, cs, rfl⟩ := hos.1.isSlice
  have HBX := Lib.hid hbx; clear hbx
  have HOF := Lib.hid hof; clear hof
  have HOS := Lib.hid hos; clear hos
  have HRG := Lib.hid hrg; clear hrg
  by_cases hlt : k < ps.length
  ·
   obtain ⟨p, hpk⟩ : ∃ p, ps[k]? = some p := ⟨ps[k], List.getElem?_eq_getElem hlt⟩
   have hap : (ps ++ r)[k]? = some p := by rw [List.getElem?_append_left hlt]; exact hpk
   have hcell := (hBr.cell (p := ⟨ad.block, ad.off + 1 + k, none⟩) hb).trans (HCE.out k p hap)
   have hpl := HLW.out p (List.mem_of_getElem? hap)
   have hgd : ps.getD k [] = p := by simp [List.getD, hpk]
   clear hap hpk
   match k with
   | 0 =>
    simp only [Nat.add_zero] at hcell
    have J := Lib.hid (impl_readNumber ⟨p.toArray⟩ wr (by rw [Lib.size_eq]; show p.length ≤ _; unfold maxLen; omega) (HP0.out.below hBr) (HE0.out.below hBr))
    rw [show okTo ps 0 = true from rfl]
    go_wp2_with fail
    refine J.out.mono ?_
    rintro e w1 ⟨rfl, hb1⟩
    have hbl1 := hbl.trans (hb1.mono (by omega))
    have hz1 := hb1.size
    have HX1 := Lib.hid (HBX.out.below hb1 hbr)
    obtain ⟨z0, z1, z2, z3, z4, zf0, zf1, zf2, zf3, zf4⟩ := HX1.out
    have EL := Lib.hid (show lbTo ps 1 = rdV p by unfold lbTo; rw [if_pos (by omega), hgd])
    have EO := Lib.hid (show okTo ps 1 = canB p by show canB (ps.getD 0 []) = _; rw [hgd])
    clear hgd
    go_wp2_with fail
    go_roundw
    case rel =>
     refine ⟨1, .slice Af mf cf, .slice As ms cs, bf, bs, by omega, by go_num, by first | (rw [EO.out]; done) | (rw [EO.out]; rfl), ?_, ?_, ?_, hnd, ?_, ?_, by rw [size_setCell]; omega⟩
     ·
      rw [EL.out]; exact HX1.out.set1 _
     ·
      exact (HOF.out.keep (w' := w1) fun b hb => hb1.block b (HRG.out b (by simp [hb])).2).set_far _ (fun x hx => (HRG.out x (by simp [hx])).1) _
     ·
      exact (HOS.out.keep (w' := w1) fun b hb => hb1.block b (HRG.out b (by simp [hb])).2).set_far _ (fun x hx => (HRG.out x (by simp [hx])).1) _
     ·
      intro x hx; have := HRG.out x hx; rw [size_setCell]; exact ⟨this.1, by omega⟩
     ·
      exact Below.setCell hbl1 (by simp) _
    case measure => simp [intOf]; omega
   | 1 =>
    have J := Lib.hid (impl_splitNumbers ⟨p.toArray⟩ 45 wr (by rw [Lib.size_eq]; show p.length ≤ _; omega) (HM0.out.below hBr) (HP0.out.below hBr) (HE0.out.below hBr))
    go_wp2_with fail
    refine J.out.mono ?_
    rintro e w1 ⟨v1, b1, rfl, ho1, hn1, hr1, hb1⟩
    obtain ⟨A1, m1, k1', rfl⟩ := ho1.1.isSlice
    have hbl1 := hbl.trans (hb1.mono (by omega))
    have hz1 := hb1.size
    have HO1 := Lib.hid ho1; clear ho1
    have HN1 := Lib.hid hn1; clear hn1
    have HR1 := Lib.hid hr1; clear hr1
    have HX1 := Lib.hid (HBX.out.below hb1 hbr)
    have HNF := Lib.hid (List.nodup_append.1 hnd).1
    have HNS := Lib.hid (List.nodup_append.1 hnd).2.1
    obtain ⟨z0, z1, z2, z3, z4, zf0, zf1, zf2, zf3, zf4⟩ := HX1.out
    have EL := Lib.hid (show lbTo ps 2 = lbTo ps 1 from rfl)
    have EF := Lib.hid (show fTo ps 2 = resL 45 p by unfold fTo; rw [if_pos (by omega), hgd])
    have EO' := Lib.hid (show okTo ps 2 = (okTo ps 1 && okL 45 p) by show (canB (ps.getD 0 []) && okL 45 (ps.getD 1 [])) = _; rw [hgd]; rfl)
    cases hok : okTo ps 1 with
    | false =>
     have EO := Lib.hid (show okTo ps 2 = false by rw [EO'.out, hok]; rfl)
     clear hok
     clear hgd
     go_wp2_with fail
     go_roundw
     case rel =>
      refine ⟨2, .slice A1 m1 k1', .slice As ms cs, b1, bs, by omega, by go_num, by first | (rw [EO.out]; done) | (rw [EO.out]; rfl), ?_, ?_, ?_, ?_, ?_, ?_, by rw [size_setCell]; omega⟩
      ·
       rw [EL.out]; exact HX1.out.set2 _
      ·
       rw [EF.out]; exact HO1.out.set_far _ (fun x hx => by have := HR1.out x hx; simp only; omega) _
      ·
       exact (HOS.out.keep (w' := w1) fun b hb => hb1.block b (HRG.out b (by simp [hb])).2).set_far _ (fun x hx => (HRG.out x (by simp [hx])).1) _
      ·
       rw [List.nodup_append]
       exact ⟨HN1.out, HNS.out, fun a ha b hb => by have h5 := HR1.out a ha; have h6 := HRG.out b (by simp [hb]); omega⟩
      ·
       intro x hx
       rw [size_setCell]
       rcases List.mem_append.1 hx with h | h
       ·
        have := HR1.out x h; exact ⟨by omega, this.2⟩
       ·
        have := HRG.out x (by simp [h]); exact ⟨this.1, by omega⟩
      ·
       exact Below.setCell hbl1 (by simp) _
     case measure => simp [intOf]; omega
    | true =>
     have EO := Lib.hid (show okTo ps 2 = okL 45 p by rw [EO'.out, hok]; rfl)
     clear hok
     clear hgd
     go_wp2_with fail
     go_roundw
     case rel =>
      refine ⟨2, .slice A1 m1 k1', .slice As ms cs, b1, bs, by omega, by go_num, by first | (rw [EO.out]; done) | (rw [EO.out]; rfl), ?_, ?_, ?_, ?_, ?_, ?_, by rw [size_setCell]; omega⟩
      ·
       rw [EL.out]; exact HX1.out.set2 _
      ·
       rw [EF.out]; exact HO1.out.set_far _ (fun x hx => by have := HR1.out x hx; simp only; omega) _
      ·
       exact (HOS.out.keep (w' := w1) fun b hb => hb1.block b (HRG.out b (by simp [hb])).2).set_far _ (fun x hx => (HRG.out x (by simp [hx])).1) _
      ·
       rw [List.nodup_append]
       exact ⟨HN1.out, HNS.out, fun a ha b hb => by have h5 := HR1.out a ha; have h6 := HRG.out b (by simp [hb]); omega⟩
      ·
       intro x hx
       rw [size_setCell]
       rcases List.mem_append.1 hx with h | h
       ·
        have := HR1.out x h; exact ⟨by omega, this.2⟩
       ·
        have := HRG.out x (by simp [h]); exact ⟨this.1, by omega⟩
      ·
       exact Below.setCell hbl1 (by simp) _
     case measure => simp [intOf]; omega
   | 2 =>
    have J := Lib.hid (impl_splitNumbers ⟨p.toArray⟩ 45 wr (by rw [Lib.size_eq]; show p.length ≤ _; omega) (HM0.out.below hBr) (HP0.out.below hBr) (HE0.out.below hBr))
    go_wp2_with fail
    refine J.out.mono ?_
    rintro e w1 ⟨v1, b1, rfl, ho1, hn1, hr1, hb1⟩
    obtain ⟨A1, m1, k1', rfl⟩ := ho1.1.isSlice
    have hbl1 := hbl.trans (hb1.mono (by omega))
    have hz1 := hb1.size
    have HO1 := Lib.hid ho1; clear ho1
    have HN1 := Lib.hid hn1; clear hn1
    have HR1 := Lib.hid hr1; clear hr1
    have HX1 := Lib.hid (HBX.out.below hb1 hbr)
    have HNF := Lib.hid (List.nodup_append.1 hnd).1
    have HNS := Lib.hid (List.nodup_append.1 hnd).2.1
    obtain ⟨z0, z1, z2, z3, z4, zf0, zf1, zf2, zf3, zf4⟩ := HX1.out
    have EL := Lib.hid (show lbTo ps 3 = lbTo ps 2 from rfl)
    have EF := Lib.hid (show fTo ps 3 = fTo ps 2 from rfl)
    have ES := Lib.hid (show sTo ps 3 = resL 45 p by unfold sTo; rw [if_pos (by omega), hgd])
    have EO' := Lib.hid (show okTo ps 3 = (okTo ps 2 && okL 45 p) by show (canB (ps.getD 0 []) && okL 45 (ps.getD 1 []) && okL 45 (ps.getD 2 [])) = _; rw [hgd]; rfl)
    cases hok : okTo ps 2 with
    | false =>
     have EO := Lib.hid (show okTo ps 3 = false by rw [EO'.out, hok]; rfl)
     clear hok
     clear hgd
     go_wp2_with fail
     go_roundw
     case rel =>
      refine ⟨3, .slice Af mf cf, .slice A1 m1 k1', bf, b1, by omega, by go_num, by first | (rw [EO.out]; done) | (rw [EO.out]; rfl), ?_, ?_, ?_, ?_, ?_, ?_, by rw [size_setCell]; omega⟩
      ·
       rw [EL.out]; exact HX1.out.set3 _
      ·
       rw [EF.out]; exact (HOF.out.keep (w' := w1) fun b hb => hb1.block b (HRG.out b (by simp [hb])).2).set_far _ (fun x hx => (HRG.out x (by simp [hx])).1) _
      ·
       rw [ES.out]; exact HO1.out.set_far _ (fun x hx => by have := HR1.out x hx; simp only; omega) _
      ·
       rw [List.nodup_append]
       exact ⟨HNF.out, HN1.out, fun a ha b hb => by have h5 := HR1.out b hb; have h6 := HRG.out a (by simp [ha]); omega⟩
      ·
       intro x hx
       rw [size_setCell]
       rcases List.mem_append.1 hx with h | h
       ·
        have := HRG.out x (by simp [h]); exact ⟨this.1, by omega⟩
       ·
        have := HR1.out x h; exact ⟨by omega, this.2⟩
      ·
       exact Below.setCell hbl1 (by simp) _
     case measure => simp [intOf]; omega
    | true =>
     have EO := Lib.hid (show okTo ps 3 = okL 45 p by rw [EO'.out, hok]; rfl)
     clear hok
     clear hgd
     go_wp2_with fail
     go_roundw
     case rel =>
      refine ⟨3, .slice Af mf cf, .slice A1 m1 k1', bf, b1, by omega, by go_num, by first | (rw [EO.out]; done) | (rw [EO.out]; rfl), ?_, ?_, ?_, ?_, ?_, ?_, by rw [size_setCell]; omega⟩
      ·
       rw [EL.out]; exact HX1.out.set3 _
      ·
       rw [EF.out]; exact (HOF.out.keep (w' := w1) fun b hb => hb1.block b (HRG.out b (by simp [hb])).2).set_far _ (fun x hx => (HRG.out x (by simp [hx])).1) _
      ·
       rw [ES.out]; exact HO1.out.set_far _ (fun x hx => by have := HR1.out x hx; simp only; omega) _
      ·
       rw [List.nodup_append]
       exact ⟨HNF.out, HN1.out, fun a ha b hb => by have h5 := HR1.out b hb; have h6 := HRG.out a (by simp [ha]); omega⟩
      ·
       intro x hx
       rw [size_setCell]
       rcases List.mem_append.1 hx with h | h
       ·
        have := HRG.out x (by simp [h]); exact ⟨this.1, by omega⟩
       ·
        have := HR1.out x h; exact ⟨by omega, this.2⟩
      ·
       exact Below.setCell hbl1 (by simp) _
     case measure => simp [intOf]; omega
   | k + 3 => omega
  ·
   obtain rfl : k = ps.length := by omega
   have k3 := HK.out wr (map_kept2 (map_kept HM8.out hb9) hbl hl8)
   simp only [Int.natCast_add, Int.natCast_one] at k3
   by_cases hcq : c = ps.length + 1
   ·
    have hr0 : r = [] := List.eq_nil_of_length_eq_zero (by omega)
    subst hr0
    subst hcq
    simp only [List.length_nil, Nat.add_zero] at *
    go_wp2_with fail
    refine (impl_splitLists (.slice (some ad) 0 0) 46 [] wr ⟨_, 0, rfl, Nat.zero_le _, Nat.zero_le _, fun h => absurd h (by simp)⟩ (by simp) (fun _ h => by cases h) (HM0.out.below hBr) (HP0.out.below hBr) (HE0.out.below hBr)).mono ?_
    rintro e w3 ⟨vr, br, rfl, ho3, hn3, hr3, hb3⟩
    have hz3 := hb3.size
    obtain ⟨Av, mv, cv, rfl⟩ := ho3.isSlice
    have HO3 := Lib.hid ho3; clear ho3
    have HN3 := Lib.hid hn3; clear hn3
    have HR3 := Lib.hid hr3; clear hr3
    have hB3 := bl_trans hBr hb3
    have HX3 := Lib.hid (HBX.out.below hb3 hbr)
    have HZ3 := Lib.hid ((HB8.out.below hb9 hz8).below (hbl.mono (Nat.le_refl _)) hz8)
    have HT3 := Lib.hid (HZ3.out.below hb3 (show w.heap.size < wr.heap.size by omega))
    obtain ⟨z0, z1, z2, z3, z4, zf0, zf1, zf2, zf3, zf4⟩ := HX3.out
    obtain ⟨t0, t1, t2, t3, t4, tf0, tf1, tf2, tf3, tf4⟩ := HT3.out
    cases hok : okTo ps ps.length with
    | false =>
     have EO := Lib.hid hok; clear hok
     go_wp2_with fail
     refine bodyPost_ret (v := .tuple #[certV cl (lbTo ps ps.length) (.slice Af mf cf) (.slice As ms cs) (.slice Av mv cv), .bool (okTo ps ps.length && okLs 46 [])]) (by simp [results, Tryz.results184, go_sem, t0, t1, t2, t3, t4, EO.out]) rfl ⟨.slice Af mf cf, .slice As ms cs, .slice Av mv cv, bf, bs, br, rfl, ?_, ?_, ?_, ?_, ?_, ?_⟩
     ·
      refine HOF.out.keep fun b hb => ?_
      have := HRG.out b (by simp [hb])
      iterate 6 rw [Below.heap_setCell _ _ _ _ (by simp; omega)]
      exact hb3.block b this.2
     ·
      refine HOS.out.keep fun b hb => ?_
      have := HRG.out b (by simp [hb])
      iterate 6 rw [Below.heap_setCell _ _ _ _ (by simp; omega)]
      exact hb3.block b this.2
     ·
      refine HO3.out.keep fun b hb => ?_
      have := HR3.out b hb
      iterate 6 rw [Below.heap_setCell _ _ _ _ (by simp; omega)]
     ·
      rw [List.nodup_append]
      exact ⟨hnd, HN3.out, fun a ha b hb => by have h5 := HRG.out a ha; have h6 := HR3.out b hb; omega⟩
     ·
      intro x hx
      simp only [size_setCell]
      rcases List.mem_append.1 hx with h | h
      ·
       have := HRG.out x h; omega
      ·
       have := HR3.out x h; omega
     ·
      iterate 6 (refine Below.setCell ?_ (by simp <;> omega) _)
      exact hB3
    | true =>
     have EO := Lib.hid hok; clear hok
     go_wp2_with fail
     refine bodyPost_ret (v := .tuple #[certV cl (lbTo ps ps.length) (.slice Af mf cf) (.slice As ms cs) (.slice Av mv cv), .bool (okTo ps ps.length && okLs 46 [])]) (by simp [results, Tryz.results184, go_sem, t0, t1, t2, t3, t4, EO.out]) rfl ⟨.slice Af mf cf, .slice As ms cs, .slice Av mv cv, bf, bs, br, rfl, ?_, ?_, ?_, ?_, ?_, ?_⟩
     ·
      refine HOF.out.keep fun b hb => ?_
      have := HRG.out b (by simp [hb])
      iterate 6 rw [Below.heap_setCell _ _ _ _ (by simp; omega)]
      exact hb3.block b this.2
     ·
      refine HOS.out.keep fun b hb => ?_
      have := HRG.out b (by simp [hb])
      iterate 6 rw [Below.heap_setCell _ _ _ _ (by simp; omega)]
      exact hb3.block b this.2
     ·
      refine HO3.out.keep fun b hb => ?_
      have := HR3.out b hb
      iterate 6 rw [Below.heap_setCell _ _ _ _ (by simp; omega)]
     ·
      rw [List.nodup_append]
      exact ⟨hnd, HN3.out, fun a ha b hb => by have h5 := HRG.out a ha; have h6 := HR3.out b hb; omega⟩
     ·
      intro x hx
      simp only [size_setCell]
      rcases List.mem_append.1 hx with h | h
      ·
       have := HRG.out x h; omega
      ·
       have := HR3.out x h; omega
     ·
      iterate 6 (refine Below.setCell ?_ (by simp <;> omega) _)
      exact hB3
   ·
    have HSL := Lib.hid (show SlR wr wr.heap.size (.slice (some ⟨ad.block, ad.off + (ps.length + 1), none⟩) r.length (c - (ps.length + 1))) (r.map strV) from
     ⟨some ⟨ad.block, ad.off + (ps.length + 1), none⟩, c - (ps.length + 1), by rw [List.length_map], by rw [List.length_map]; omega, by unfold maxLen; omega, fun _ => ⟨⟨ad.block, ad.off + (ps.length + 1), none⟩, rfl, (show ad.block < wr.heap.size by have := hBr.size; omega), fun j u hu => by
      rw [List.getElem?_map] at hu
      cases hrj : r[j]? with
      | none => rw [hrj] at hu; cases hu
      | some q =>
       rw [hrj] at hu
       have eu : strV q = u := by simpa using hu
       have hcj := HCE.out (ps.length + j) q (by rw [List.getElem?_append_right (by omega)]; simpa using hrj)
       rw [← eu, show (⟨ad.block, ad.off + (ps.length + 1), none⟩ : Addr).add j = ⟨ad.block, ad.off + 1 + (ps.length + j), none⟩ by unfold Addr.add; split <;> simp <;> omega]
       exact (hBr.cell (p := ⟨ad.block, ad.off + 1 + (ps.length + j), none⟩) hb).trans hcj⟩⟩)
    go_wp2_with fail
    refine (impl_splitLists _ 46 r wr HSL.out (by omega) (fun p hp => HLW.out p (by simp [hp])) (HM0.out.below hBr) (HP0.out.below hBr) (HE0.out.below hBr)).mono ?_
    rintro e w3 ⟨vr, br, rfl, ho3, hn3, hr3, hb3⟩
    have hz3 := hb3.size
    obtain ⟨Av, mv, cv, rfl⟩ := ho3.isSlice
    have HO3 := Lib.hid ho3; clear ho3
    have HN3 := Lib.hid hn3; clear hn3
    have HR3 := Lib.hid hr3; clear hr3
    have hB3 := bl_trans hBr hb3
    have HX3 := Lib.hid (HBX.out.below hb3 hbr)
    have HZ3 := Lib.hid ((HB8.out.below hb9 hz8).below (hbl.mono (Nat.le_refl _)) hz8)
    have HT3 := Lib.hid (HZ3.out.below hb3 (show w.heap.size < wr.heap.size by omega))
    obtain ⟨z0, z1, z2, z3, z4, zf0, zf1, zf2, zf3, zf4⟩ := HX3.out
    obtain ⟨t0, t1, t2, t3, t4, tf0, tf1, tf2, tf3, tf4⟩ := HT3.out
    cases hok : okTo ps ps.length with
    | false =>
     have EO := Lib.hid hok; clear hok
     go_wp2_with fail
     refine bodyPost_ret (v := .tuple #[certV cl (lbTo ps ps.length) (.slice Af mf cf) (.slice As ms cs) (.slice Av mv cv), .bool (okTo ps ps.length && okLs 46 r)]) (by simp [results, Tryz.results184, go_sem, t0, t1, t2, t3, t4, EO.out]) rfl ⟨.slice Af mf cf, .slice As ms cs, .slice Av mv cv, bf, bs, br, rfl, ?_, ?_, ?_, ?_, ?_, ?_⟩
     ·
      refine HOF.out.keep fun b hb => ?_
      have := HRG.out b (by simp [hb])
      iterate 6 rw [Below.heap_setCell _ _ _ _ (by simp; omega)]
      exact hb3.block b this.2
     ·
      refine HOS.out.keep fun b hb => ?_
      have := HRG.out b (by simp [hb])
      iterate 6 rw [Below.heap_setCell _ _ _ _ (by simp; omega)]
      exact hb3.block b this.2
     ·
      refine HO3.out.keep fun b hb => ?_
      have := HR3.out b hb
      iterate 6 rw [Below.heap_setCell _ _ _ _ (by simp; omega)]
     ·
      rw [List.nodup_append]
      exact ⟨hnd, HN3.out, fun a ha b hb => by have h5 := HRG.out a ha; have h6 := HR3.out b hb; omega⟩
     ·
      intro x hx
      simp only [size_setCell]
      rcases List.mem_append.1 hx with h | h
      ·
       have := HRG.out x h; omega
      ·
       have := HR3.out x h; omega
     ·
      iterate 6 (refine Below.setCell ?_ (by simp <;> omega) _)
      exact hB3
    | true =>
     have EO := Lib.hid hok; clear hok
     go_wp2_with fail
     refine bodyPost_ret (v := .tuple #[certV cl (lbTo ps ps.length) (.slice Af mf cf) (.slice As ms cs) (.slice Av mv cv), .bool (okTo ps ps.length && okLs 46 r)]) (by simp [results, Tryz.results184, go_sem, t0, t1, t2, t3, t4, EO.out]) rfl ⟨.slice Af mf cf, .slice As ms cs, .slice Av mv cv, bf, bs, br, rfl, ?_, ?_, ?_, ?_, ?_, ?_⟩
     ·
      refine HOF.out.keep fun b hb => ?_
      have := HRG.out b (by simp [hb])
      iterate 6 rw [Below.heap_setCell _ _ _ _ (by simp; omega)]
      exact hb3.block b this.2
     ·
      refine HOS.out.keep fun b hb => ?_
      have := HRG.out b (by simp [hb])
      iterate 6 rw [Below.heap_setCell _ _ _ _ (by simp; omega)]
      exact hb3.block b this.2
     ·
      refine HO3.out.keep fun b hb => ?_
      have := HR3.out b hb
      iterate 6 rw [Below.heap_setCell _ _ _ _ (by simp; omega)]
     ·
      rw [List.nodup_append]
      exact ⟨hnd, HN3.out, fun a ha b hb => by have h5 := HRG.out a ha; have h6 := HR3.out b hb; omega⟩
     ·
      intro x hx
      simp only [size_setCell]
      rcases List.mem_append.1 hx with h | h
      ·
       have := HRG.out x h; omega
      ·
       have := HR3.out x h; omega
     ·
      iterate 6 (refine Below.setCell ?_ (by simp <;> omega) _)
      exact hB3
set_option maxRecDepth 100000 in
set_option maxHeartbeats 1000000 in
theorem rc_one (ad : Addr) (p0 : List UInt8) (w : World) (q0 : w.cell? ad = some (.string ⟨p0.toArray⟩)) (hb : ad.block < w.heap.size) (hp : p0.length ≤ 1048576)
  (hc : isCls p0 = true) (hcl : clsI p0 = 0) (hmx : MaxAt w) (hpw : Pow10 w) (her : ErrAt w) :
  Calls Tryz.prog 184 #[.slice (some ad) 1 1] w fun e w' => RcPost 0 [] [] w e w' := by
 have HM0 := Lib.hid hmx; clear hmx
 have HP0 := Lib.hid hpw; clear hpw
 have HE0 := Lib.hid her; clear her
 have hmm := @run_makeMap Tryz.prog
 have hb0 := bl_alloc (Below.refl w.heap.size w) (.cells #[.int .i64 0, .int .i64 0, .slice none 0 0, .slice none 0 0, .slice none 0 0] 51)
 have HB0 := Lib.hid (BoxC.new w 51 (.int .i64 0) (.int .i64 0) (.slice none 0 0) (.slice none 0 0) (.slice none 0 0))
 have HZ0 := Lib.hid (show w.heap.size < (w.alloc (.cells #[.int .i64 0, .int .i64 0, .slice none 0 0, .slice none 0 0, .slice none 0 0] 51)).heap.size by simp)
 have e0 : (w.alloc (.cells #[.int .i64 0, .int .i64 0, .slice none 0 0, .slice none 0 0, .slice none 0 0] 51)).heap.size = w.heap.size + 1 := by simp
 obtain ⟨x1, x2, x3, x4, r1, r2, r3, r4, hm4, hb4, hl4⟩ := heads_made (w.alloc (.cells #[.int .i64 0, .int .i64 0, .slice none 0 0, .slice none 0 0, .slice none 0 0] 51))
 obtain ⟨y1, y2, y3, y4, s1, s2, s3, s4, hm8, hb8, hl8⟩ := counts_made x4
 have hB4 := bl_trans hb0 hb4
 have hB8 := bl_trans hB4 hb8
 have q4 := (hB4.cell (p := ad) hb).trans q0
 have hlk := heads_look hm4 p0 (by unfold maxLen; omega)
 rw [e0] at r1 r2 r3 r4 hlk hl4
 have HB8 := Lib.hid ((HB0.out.below hb4 HZ0.out).below hb8 (show w.heap.size < x4.heap.size by omega))
 have hz8 : w.heap.size < y4.heap.size := by omega
 have HM8 := Lib.hid hm8; clear hm8 hm4
 clear e0
 rw [hc] at hlk
 simp only [if_true] at hlk
 rw [hcl] at hlk
 have HK := Lib.hid (fun W (h : MapI W x4.heap.size 4 DC) => show (Instr.lookup 226 (.map (some x4.heap.size)) (.int .i64 0) false).run Tryz.prog W = .ok (.int .i64 1) W from counts_look h 0 (.inl rfl))
 have k1 := HK.out _ HM8.out
 have hb9 := bl_alloc (Below.refl y4.heap.size y4) (.cells #[.int .i64 0, .int .i64 0, .slice none 0 0, .slice none 0 0, .slice none 0 0] 51)
 have HX9 := Lib.hid (BoxC.new y4 51 (.int .i64 0) (.int .i64 0) (.slice none 0 0) (.slice none 0 0) (.slice none 0 0))
 have HS9 := Lib.hid (show (y4.alloc (.cells #[.int .i64 0, .int .i64 0, .slice none 0 0, .slice none 0 0, .slice none 0 0] 51)).heap.size = y4.heap.size + 1 by simp)
 have k2 := HK.out _ (map_kept HM8.out hb9)
 clear hcl
 go_enter Tryz.func184, Tryz.ntmps184
 go_wp2_with fail
 generalize y4.alloc (.cells #[.int .i64 0, .int .i64 0, .slice none 0 0, .slice none 0 0, .slice none 0 0] 51) = w9 at *
 have hz84 : w.heap.size ≤ y4.heap.size := by omega
 clear r1 r2 r3 r4 s1 s2 s3 s4 hlk k1 k2 hmm q4
 go_loopw [9, 46] (fun ok i wr => RcRel [] 0 y4.heap.size w9 ok i wr) (fun _ i _ => 0)
 case atStart => exact ⟨0, .slice none 0 0, .slice none 0 0, [], [], Nat.zero_le _, rfl, rfl, HX9.out, own_none _ _, own_none _ _, List.nodup_nil, (fun _ h => by cases h), Below.refl _ _, by rw [HS9.out]; omega⟩
 case round =>
  obtain ⟨k, vf, vs, bf, bs, hk, rfl, rfl, hbx, hof, hos, hnd, hrg, hbl, hbr⟩ := hrel
  obtain rfl : k = 0 := by simpa using hk
  have hBr : Below w.heap.size w wr := (hB8.trans (hb9.mono hz84)).trans (hbl.mono hz84)
  obtain ⟨Af, mf, cf, rfl⟩ := hof.1.isSlice
  obtain ⟨As, ms, cs, rfl⟩ := hos.1.isSlice
  have HBX := Lib.hid hbx; clear hbx
  have HOF := Lib.hid hof; clear hof
  have HOS := Lib.hid hos; clear hos
  have HRG := Lib.hid hrg; clear hrg
  have k3 := HK.out wr (map_kept2 (map_kept HM8.out hb9) hbl hl8)
  rw [show okTo [] 0 = true from rfl]
  go_wp2_with fail
  refine (impl_splitLists (.slice (some ad) 0 0) 46 [] wr ⟨_, 0, rfl, Nat.zero_le _, Nat.zero_le _, fun h => absurd h (by simp)⟩ (by simp) (fun _ h => by cases h) (HM0.out.below hBr) (HP0.out.below hBr) (HE0.out.below hBr)).mono ?_
  rintro e w3 ⟨vr, br, rfl, ho3, hn3, hr3, hb3⟩
  have hz3 := hb3.size
  obtain ⟨Av, mv, cv, rfl⟩ := ho3.isSlice
  have HO3 := Lib.hid ho3; clear ho3
  have HN3 := Lib.hid hn3; clear hn3
  have HR3 := Lib.hid hr3; clear hr3
  have hB3 := bl_trans hBr hb3
  have HX3 := Lib.hid (HBX.out.below hb3 hbr)
  have HZ3 := Lib.hid ((HB8.out.below hb9 hz8).below (hbl.mono (Nat.le_refl _)) hz8)
  have HT3 := Lib.hid (HZ3.out.below hb3 (show w.heap.size < wr.heap.size by omega))
  obtain ⟨z0, z1, z2, z3, z4, zf0, zf1, zf2, zf3, zf4⟩ := HX3.out
  obtain ⟨t0, t1, t2, t3, t4, tf0, tf1, tf2, tf3, tf4⟩ := HT3.out
  go_wp2_with fail
  refine bodyPost_ret (v := .tuple #[certV 0 (lbTo [] 0) (.slice Af mf cf) (.slice As ms cs) (.slice Av mv cv), .bool (okTo [] 0 && okLs 46 [])]) (by simp [results, Tryz.results184, go_sem, t0, t1, t2, t3, t4, show okTo [] 0 = true from rfl]) rfl ⟨.slice Af mf cf, .slice As ms cs, .slice Av mv cv, bf, bs, br, rfl, ?_, ?_, ?_, ?_, ?_, ?_⟩
  ·
   refine HOF.out.keep fun b hb => ?_
   have := HRG.out b (by simp [hb])
   iterate 6 rw [Below.heap_setCell _ _ _ _ (by simp; omega)]
   exact hb3.block b this.2
  ·
   refine HOS.out.keep fun b hb => ?_
   have := HRG.out b (by simp [hb])
   iterate 6 rw [Below.heap_setCell _ _ _ _ (by simp; omega)]
   exact hb3.block b this.2
  ·
   refine HO3.out.keep fun b hb => ?_
   have := HR3.out b hb
   iterate 6 rw [Below.heap_setCell _ _ _ _ (by simp; omega)]
  ·
   rw [List.nodup_append]
   exact ⟨hnd, HN3.out, fun a ha b hb => by have h5 := HRG.out a ha; have h6 := HR3.out b hb; omega⟩
  ·
   intro x hx
   simp only [size_setCell]
   rcases List.mem_append.1 hx with h | h
   ·
    have := HRG.out x h; omega
   ·
    have := HR3.out x h; omega
  ·
   iterate 6 (refine Below.setCell ?_ (by simp <;> omega) _)
   exact hB3
end Go.Proofs.YtcfbkickiijjkaaGreatDoor
