/-
  Walk problems, the reference's side: the components with their periods and residues.
-/
import Derived.Test.YtjhljipehnmbnaaGreatCwS4
import Derived.Test.YtjhljipehnmbnaaGreatOwn3
import Derived.Test.YtjhljipehnmbnaaGreatCwBox
import Derived.Test.YtjhljipehnmbnaaGreatPlainRk
import Derived.Test.YtjhljipehnmbnaaGreatSpecWalk
namespace Go.Proofs.YtjhljipehnmbnaaGreat
open Go.RowKit
set_option linter.unusedVariables false
set_option linter.unusedSimpArgs false
theorem spec_l1Abs (x : Int) (w : World) (hx : -1000000 ≤ x ∧ x ≤ 1000000) : Calls Tryz.prog 86 #[.int .i64 x] w fun e w' => e = .returned (.int .i64 (x.natAbs : Int)) ∧ w = w' := by
  have hmost : ∀ (a b : Int) (w : World), Calls Tryz.prog 108 #[.int .i64 a, .int .i64 b] w fun e w' => e = .returned (.int .i64 (max a b)) ∧ w = w' := by
    intro a b w
    by_cases h : b < a
    · go_enter Tryz.func108, Tryz.ntmps108
      go_wp2_with fail
      go_ret
      exact ⟨ret_int (by omega), rfl⟩
    · go_enter Tryz.func108, Tryz.ntmps108
      go_wp2_with fail
      go_ret
      exact ⟨ret_int (by omega), rfl⟩
  have hneg : IntKind.i64.wrap (-x) = -x := IntWalk.i64_in _ (by omega)
  go_enter Tryz.func86, Tryz.ntmps86
  go_wp2_with fail
  refine (hmost x (-x) w).mono ?_
  rintro e w' ⟨rfl, rfl⟩
  rw [abs_max]
  go_wp2_with fail
  go_ret
  exact ⟨rfl, rfl⟩
/-- The residues of a component's labels. -/
noncomputable def resL (n : Nat) (xss : List (List Int)) (r : Nat) : List Nat := (compL xss r).map fun b => dF n xss r b % perA n xss r
/-- How element i of the components reads. -/
def PtR (n : Nat) (xss : List (List Int)) (B : Nat) (i : Nat) (x y z : Value) (W : World) : Prop :=
  ∀ r, (roots xss n)[i]? = some r → IntsR W W.heap.size x (natsI (compL xss r)) ∧ y = .int .i64 (perA n xss r : Int) ∧ IntsR W W.heap.size z (natsI (resL n xss r)) ∧ (∀ ad m c, x = .slice (some ad) m c → B ≤ ad.block) ∧ ∀ ad m c, z = .slice (some ad) m c → B ≤ ad.block
theorem PtR.base {n : Nat} {xss : List (List Int)} {B C i : Nat} {x y z : Value} {W : World} (h : PtR n xss B i x y z W) (hC : C ≤ B) : PtR n xss C i x y z W := fun r hr => by
  obtain ⟨h1, h2, h3, h4, h5⟩ := h r hr
  exact ⟨h1, h2, h3, fun ad m c e => Nat.le_trans hC (h4 ad m c e), fun ad m c e => Nat.le_trans hC (h5 ad m c e)⟩
noncomputable def doneF (xss : List (List Int)) (k x : Nat) : Bool := propB (∃ c, c < k ∧ mates (hasArc xss) c x)
noncomputable def dmid (xss : List (List Int)) (a b x : Nat) : Bool := propB ((∃ c, c < a ∧ mates (hasArc xss) c x) ∨ (x < b ∧ mates (hasArc xss) a x))
theorem done_zero (xss : List (List Int)) (x : Nat) : doneF xss 0 x = false := propB_f (by rintro ⟨c, h, _⟩; omega)
theorem done_root {xss : List (List Int)} {k : Nat} : isRoot xss k ↔ doneF xss k k = false ∧ rcB xss k k = true := by
  unfold isRoot doneF rcB mates
  rw [propB_iff]
  constructor
  · rintro ⟨h1, h2⟩
    exact ⟨propB_f (by rintro ⟨c, hc, h3⟩; exact h2 c hc h3), h1.1⟩
  · rintro ⟨h1, h2⟩
    refine ⟨⟨h2, h2⟩, fun b hb hm => ?_⟩
    rw [propB_t ⟨b, hb, hm⟩] at h1
    cases h1
theorem done_skip {xss : List (List Int)} {k : Nat} (h : ¬ isRoot xss k) (x : Nat) : doneF xss (k + 1) x = doneF xss k x := by
  unfold doneF
  refine propB_congr ⟨?_, fun ⟨c, h1, h2⟩ => ⟨c, by omega, h2⟩⟩
  rintro ⟨c, h1, h2⟩
  by_cases e : c = k
  · subst e
    by_cases hd : ∃ d, d < c ∧ mates (hasArc xss) d c
    · obtain ⟨d, h3, h4⟩ := hd
      exact ⟨d, h3, h4.trans h2⟩
    · exact absurd ⟨h2.trans h2.symm, fun d h3 h4 => hd ⟨d, h3, h4⟩⟩ h
  · exact ⟨c, by omega, h2⟩
theorem dmid_zero (xss : List (List Int)) (a x : Nat) : doneF xss a x = dmid xss a 0 x := propB_congr ⟨fun h => .inl h, by
  rintro (h | ⟨h, _⟩)
  · exact h
  · omega⟩
theorem dmid_all (xss : List (List Int)) (a n x : Nat) (hx : x < n) : dmid xss a n x = doneF xss (a + 1) x := propB_congr ⟨by
  rintro (⟨c, h1, h2⟩ | ⟨_, h⟩)
  · exact ⟨c, by omega, h2⟩
  · exact ⟨a, by omega, h⟩, by
  rintro ⟨c, h1, h2⟩
  by_cases e : c = a
  · subst e; exact .inr ⟨hx, h2⟩
  · exact .inl ⟨c, by omega, h2⟩⟩
theorem dmid_t {xss : List (List Int)} {a b : Nat} (h : mates (hasArc xss) a b) (x : Nat) : dmid xss a (b + 1) x = if x = b then true else dmid xss a b x := by
  split
  · rename_i e
    subst e
    exact propB_t (.inr ⟨by omega, h⟩)
  · refine propB_congr ⟨?_, ?_⟩
    · rintro (h | ⟨h1, h2⟩)
      · exact .inl h
      · exact .inr ⟨by omega, h2⟩
    · rintro (h | ⟨h1, h2⟩)
      · exact .inl h
      · exact .inr ⟨by omega, h2⟩
theorem dmid_f {xss : List (List Int)} {a b : Nat} (h : ¬ mates (hasArc xss) a b) (x : Nat) : dmid xss a (b + 1) x = dmid xss a b x := propB_congr ⟨by
  rintro (k | ⟨h1, h2⟩)
  · exact .inl k
  · by_cases e : x = b
    · subst e; exact absurd h2 h
    · exact .inr ⟨by omega, h2⟩, by
  rintro (k | ⟨h1, h2⟩)
  · exact .inl k
  · exact .inr ⟨by omega, h2⟩⟩
theorem grN {w w' : World} {g b : Nat} (h : w.grownBy w' (some g)) (hb : b < w.heap.size) (hne : b ≠ g) : w'.heap[b]? = w.heap[b]? := h.block b hb (fun e => hne (Option.some.inj e))
theorem gq_step {w0 w w' : World} {g B : Nat} (h : w0.grownBy w (some g)) (hb : Below B w w') (hB : w0.heap.size ≤ B) : w0.grownBy w' (some g) :=
  ⟨hb.os.trans h.os, hb.tape.trans h.tape, hb.output.trans h.output, Nat.le_trans h.size hb.size, fun k hk hne => (hb.block k (by omega)).trans (h.block k hk hne)⟩
theorem gq_set {w0 w : World} {g P i : Nat} {v : Value} (h : w0.grownBy w (some g)) (hP : w0.heap.size ≤ P) : w0.grownBy (w.setCell ⟨P, i, none⟩ v) (some g) :=
  gq_step h ((Below.refl w0.heap.size w).setCell (p := ⟨P, i, none⟩) hP v) (Nat.le_refl _)
theorem comp_lsTo {n : Nat} {xss : List (List Int)} (hg : Good n xss) (a : Nat) : lsTo (mates (hasArc xss) a) n = compL xss a :=
  lsTo_all (good_n hg).2 fun b hb _ h => by have := (rc_lt (fun x y => arc_lt hg) h.1).2; omega
theorem comp64 (xss : List (List Int)) (a : Nat) : ∀ x ∈ natsI (compL xss a), I64 x := natsI_64 fun x hx => by have := (mem_lsP.1 hx).1; omega
theorem gd_drew {w w' : World} {r : Option Nat} (h : w.grownBy w' r) : w.grownBy w'.drew r := ⟨h.os, h.tape, h.output, h.size, h.block⟩
theorem gd_drewN (w : World) (n : Nat) (r : Option Nat) : w.grownBy (w.drewN n) r := ⟨rfl, rfl, rfl, Nat.le_refl _, fun _ _ _ => rfl⟩
theorem gq_far {w0 w w' : World} {g P : Nat} (h : w0.grownBy w (some g)) (k : w.grownBy w' (some P)) (hP : w0.heap.size ≤ P) : w0.grownBy w' (some g) :=
  ⟨k.os.trans h.os, k.tape.trans h.tape, k.output.trans h.output, Nat.le_trans h.size k.size, fun j hj hne => (grN k (by have := h.size; omega) (by omega)).trans (h.block j hj hne)⟩
theorem own_far {w : World} {base n : Nat} {e : TypeId} {v : Value} {vs : List Value} {o : Option Nat} (h : w.ownsRow base e 1 v n vs) (ho : ∀ g, o = some g → g < base) : v.ownBlock = none ∨ v.ownBlock ≠ o := by
  cases hb : v.ownBlock with
  | none => exact .inl rfl
  | some g =>
    right
    intro e1
    have h1 := (h.lt g hb).1
    have h2 := ho g e1.symm
    omega
theorem partInfo : (Tryz.prog.info? 79).map (fun i => (i.zero, i.size, i.bytes)) = some (some (.agg #[.slice none 0 0, .int .i64 0, .slice none 0 0]), 3, 56) := by kernel_rfl
def WpRel (n : Nat) (xss : List (List Int)) (Gd : Nat) (w3 : World) (lv kv : Value) (wr : World) : Prop :=
  ∃ k : Nat, k ≤ n ∧ kv = .int .i64 k ∧ BitsAt wr Gd (rowB n (doneF xss k)) ∧ Own3 wr (Gd + 1) 79 lv (some Gd) (roots xss k).length (PtR n xss Gd) ∧ Below Gd w3 wr
def WbRel (n : Nat) (xss : List (List Int)) (a Gd P : Nat) (wq : World) (bv : Value) (wr : World) : Prop :=
  ∃ (b : Nat) (lab : Value), b ≤ n ∧ bv = .int .i64 b ∧ BitsAt wr Gd (rowB n (dmid xss a b)) ∧ wr.ownsRow (P + 1) 3 1 lab (lsTo (mates (hasArc xss) a) b).length ((natsI (lsTo (mates (hasArc xss) a) b)).map intV) ∧
    wr.heap[P]? = some (.cells #[lab, .int .i64 0, .slice none 0 0] 79 (0, 0)) ∧ wq.grownBy wr (some Gd)
def WaRel (xss : List (List Int)) (a P : Nat) (lab : Value) (d : List Int) (w6 : World) (i : Value) (wr : World) : Prop :=
  ∃ k : Nat, k ≤ xss.length ∧ i = .int .i64 k ∧ wr.heap[P]? = some (.cells #[lab, .int .i64 (perN (xss.take k) (mates (hasArc xss) a) (dNat d) : Int), .slice none 0 0] 79 (0, 0)) ∧ w6.grownBy wr (some P)
noncomputable def rsTo (xss : List (List Int)) (a : Nat) (d : List Int) (per j : Nat) : List Nat := ((compL xss a).take j).map fun b => dNat d b % per
def WrRel (xss : List (List Int)) (a P per : Nat) (lab : Value) (d : List Int) (w7 : World) (i : Value) (wr : World) : Prop :=
  ∃ (j : Nat) (res : Value), j ≤ (compL xss a).length ∧ i = .int .i64 j ∧ wr.heap[P]? = some (.cells #[lab, .int .i64 (per : Int), res] 79 (0, 0)) ∧ wr.ownsRow w7.heap.size 3 1 res j ((natsI (rsTo xss a d per j)).map intV) ∧ w7.grownBy wr (some P)
set_option maxRecDepth 100000 in
set_option maxHeartbeats 8000000 in
theorem spec_waParts (n : Nat) (v : Value) (xss : List (List Int)) (w : World) (h : RowsR w w.heap.size v xss) (hg : Good n xss) :
    Calls Tryz.prog 60 #[.agg #[.int .i64 (n : Int), v]] w fun e w' => ∃ lv, e = .returned lv ∧ Own3 w' w.heap.size 79 lv none (roots xss n).length (PtR n xss w.heap.size) ∧ Below w.heap.size w w' := by
  have hn := good_n hg
  have HH := Lib.hid h
  obtain ⟨Av, cv, rfl, h1, h2, h3⟩ := h.open_
  unfold maxLen at h2
  have H3 := Lib.hid h3
  have HS := Lib.hid hg.small
  have HG := Lib.hid hg
  clear h h3 hg
  have hmk := fun W => run_make1 (P := Tryz.prog) 86 4 (.bool false) 1 Tryz.underlying86 boolInfo rfl n (by omega) (by omega) W
  obtain ⟨w0, hw0⟩ : ∃ z, z = w.alloc (.cells #[.int .i64 (n : Int), .slice Av xss.length cv] 26) := ⟨_, rfl⟩
  have hb0 : Below w.heap.size w w0 := by rw [hw0]; exact bl_alloc (Below.refl _ _) _
  have hz0 : w0.heap.size = w.heap.size + 1 := by rw [hw0]; simp
  have HB0 := Lib.hid (show w0.heap[w.heap.size]? = some (.cells #[.int .i64 (n : Int), .slice Av xss.length cv] 26 (0, 0)) by rw [hw0]; exact heap_alloc_new _ _)
  have HW0 := Lib.hid hw0
  have hzz : w.heap.size < w0.heap.size := by omega
  clear hw0 hz0
  obtain ⟨b0, b1, bf⟩ := cells2 HB0
  have hmkw := hmk
  clear hmk
  go_enter Tryz.func60, Tryz.ntmps60
  go_wp2_with fail
  rw [← HW0.out]
  refine (spec_waReach n _ xss w0 ((HH.out.below hb0).more hb0.size) HG.out).mono ?_
  rintro e w1 ⟨u, gs, rfl, hgs, hown, hb1⟩
  have HB1 := bk HB0 hb1 (by omega)
  have hb01 := bl_trans hb0 hb1
  have hz1 := hb1.size
  have hml := hown.readsL (B := w0.heap.size) (by omega) (Nat.le_refl _)
  rw [hgs] at hml
  obtain ⟨gr, cr, rfl, m1, m2, m3, m4⟩ := hml
  have HM4 := Lib.hid m4
  clear hown m4 b0 b1 bf
  obtain ⟨b0, b1, bf⟩ := cells2 HB1
  have hmk1 := hmkw w1
  clear hmkw
  go_wp2_with fail
  clear hmk1
  obtain ⟨w3, hw3⟩ : ∃ z, z = w1.alloc (.cells (rowOf [] n (.bool false)) 4) := ⟨_, rfl⟩
  have hb3 : Below w1.heap.size w1 w3 := by rw [hw3]; exact bl_alloc (Below.refl _ _) _
  have hz3 : w1.heap.size + 1 ≤ w3.heap.size := by rw [hw3]; simp
  have hN0 : BitsAt w3 w1.heap.size (rowB n (doneF xss 0)) := by
    unfold BitsAt
    rw [hw3, heap_alloc_new, rowB_congr (f' := fun _ => false) fun x _ => done_zero xss x, ← bRow_false]
    unfold bRow rowB
    simp
  rw [← hw3]
  clear hw3
  have HB3 := bk HB1 hb3 (by omega)
  have hb03 := bl_trans hb01 hb3
  have hst : WpRel n xss w1.heap.size w3 (.slice none 0 0) (.int .i64 0) w3 := ⟨0, Nat.zero_le _, rfl, hN0, Own3.nil _ _ _ _ _, Below.refl _ _⟩
  have HST := Lib.hid hst
  clear hst hN0 b0 b1 bf
  go_loopw [4, 6] (fun lv kv wr => WpRel n xss w1.heap.size w3 lv kv wr) (fun _ kv _ => n - (intOf kv).toNat)
  case atStart => exact HST.out
  case round =>
    clear HST
    obtain ⟨a, hk, rfl, hbits, hlv, hbl⟩ := hrel
    obtain ⟨wq, hwq⟩ : ∃ z, z = wr := ⟨_, rfl⟩
    subst hwq
    have HD := Lib.hid hbits
    have HL := Lib.hid hlv
    have hb0q := hb03.trans (hbl.mono (by have := hb03.size; have := hb3.size; omega))
    have HBq := bk HB3 hbl (by omega)
    have hszq := hbl.size
    have hb1q : Below w1.heap.size w1 wq := hb3.trans hbl
    obtain ⟨b0, b1, bf⟩ := cells2 HBq
    clear hbits hlv
    by_cases hlt : a < n
    · obtain ⟨ga, ca, r1, r2, r3, r4, r5⟩ := HM4.out a hlt
      have HR5 := Lib.hid r5
      have kra := (hb1q.cell (p := ⟨gr, a, none⟩) m3).trans r1
      have kaa := (hb1q.cell (p := ⟨ga, a, none⟩) r4).trans (r5 a hlt)
      have kd := HD.out.cell (rowB_at (f := doneF xss a) hlt)
      by_cases hroot : isRoot xss a
      · obtain ⟨q1, q2⟩ := done_root.1 hroot
        rw [q1] at kd
        rw [q2] at kaa
        have HROOT := Lib.hid hroot
        obtain ⟨w4, hw4⟩ : ∃ z, z = wq.alloc (.cells #[.slice none 0 0, .int .i64 0, .slice none 0 0] 79) := ⟨_, rfl⟩
        clear q1 q2 hroot r5
        go_wp2_with fail
        rw [← hw4]
        have hb4 : Below wq.heap.size wq w4 := by rw [hw4]; exact bl_alloc (Below.refl _ _) _
        have hx4 : w4.heap[wq.heap.size]? = some (.cells #[.slice none 0 0, .int .i64 0, .slice none 0 0] 79 (0, 0)) := by rw [hw4]; exact heap_alloc_new _ _
        have hgd : w1.heap.size < wq.heap.size := by omega
        have hst : WbRel n xss a w1.heap.size wq.heap.size wq (.int .i64 0) w4 := ⟨0, .slice none 0 0, Nat.zero_le _, rfl, by
          have h := HD.out.keep (hb4.block _ hgd)
          rw [rowB_congr fun x _ => dmid_zero xss a x] at h
          exact h, World.ownsRow_nil _ _ _ _, hx4, gb_below hb4⟩
        have HST := Lib.hid hst
        have HP0 := Lib.hid (show wq.heap.size < w4.heap.size by rw [hw4]; simp)
        clear hst hx4 hw4 kra kaa kd b0 b1 bf
        go_loopw [8] (fun bv wr => WbRel n xss a w1.heap.size wq.heap.size wq bv wr) (fun bv _ => n - (intOf bv).toNat)
        case atStart => exact HST.out
        case round =>
          clear HST
          obtain ⟨b, lab, hb, rfl, hbits, hlab, hbox, hgr⟩ := hrel
          have HDm := Lib.hid hbits
          have HLB := Lib.hid hlab
          have HX := Lib.hid hbox
          have HGR := Lib.hid hgr
          have hll : (lsTo (mates (hasArc xss) a) b).length ≤ b := lsTo_len _ _
          have hPs : wq.heap.size < wr.heap.size := (Array.getElem?_eq_some_iff.1 hbox).1
          have HBr := Lib.hid ((grN hgr (b := w.heap.size) (by omega) (by omega)).trans HBq.out)
          obtain ⟨b0, b1, bf⟩ := cells2 HBr
          obtain ⟨x0, x1, x2, xf⟩ := cells3 HX
          obtain ⟨Al, cl, rfl⟩ := own_sl hlab
          clear hbits hlab hbox
          by_cases hlb : b < n
          · have kra := gb_cell hgr ((hb1q.cell (p := ⟨gr, a, none⟩) m3).trans r1) (by omega)
            have kab := gb_cell hgr ((hb1q.cell (p := ⟨ga, b, none⟩) r4).trans (HR5.out b hlb)) (by omega)
            obtain ⟨gb, cb, s1, s2, s3, s4, s5⟩ := HM4.out b hlb
            have krb := gb_cell hgr ((hb1q.cell (p := ⟨gr, b, none⟩) m3).trans s1) (by omega)
            have kba := gb_cell hgr ((hb1q.cell (p := ⟨gb, a, none⟩) s4).trans (s5 a hlt)) (by omega)
            have kdb := HDm.out.cell (rowB_at (f := dmid xss a b) hlb)
            have kdf := HDm.out.frozen b
            clear s1 s5 hgr
            by_cases hm : mates (hasArc xss) a b
            · have q1 : rcB xss a b = true := propB_t hm.1
              have q2 : rcB xss b a = true := propB_t hm.2
              rw [q1] at kab
              rw [q2] at kba
              have HLS := Lib.hid (lsTo_t (p := mates (hasArc xss) a) hm)
              have HDN := Lib.hid (rowB_set (m := n) (f := dmid xss a b) (f' := dmid xss a (b + 1)) (b := true) hlb fun x _ => dmid_t hm x)
              clear q1 q2 hm
              go_wp2_with (at_builtin; refine wpList_append1 wr rfl (.tmp 63) (.tmp 65) 28 rfl (wq.heap.size + 1) 3 _ 8 Tryz.underlying28 intInfo rfl _ _ _ rfl _ rfl rfl HLB.out (by unfold maxLen; omega) (by omega) (by omega) ?_; intro v' w' hown' hbl' hgr' hlt' hob'; have hnb' := own_sl hown'; obtain ⟨A', c', rfl⟩ := hnb'; have HX' := bk HX hbl' (by omega); have HDm' := Lib.hid (HDm.out.keep (hbl'.block _ (by omega))); obtain ⟨y0, y1, y2, yf⟩ := cells3 HX'; have kdb' := HDm'.out.cell (rowB_at (f := dmid xss a b) hlb); obtain ⟨wA, hwA, hkA, grA⟩ := set1 HX'.out 0 (.slice A' ((lsTo (mates (hasArc xss) a) b).length + 1) c'); have HDA := Lib.hid (HDm'.out.keep (grN grA (by omega) (by omega))); have kdA := HDA.out.cell (rowB_at (f := dmid xss a b) hlb); have kfA := HDA.out.frozen b; have HWA := Lib.hid hwA; rw [hwA] at kdA kfA; clear hwA)
              go_roundw
              case rel =>
                rw [← HWA.out]
                have hkA' := hkA
                simp only [List.setIfInBounds_toArray, List.set_cons_zero] at hkA'
                have hAz : wA.heap.size = w'.heap.size := by rw [HWA.out]; exact size_setCell _ _ _
                refine ⟨b + 1, .slice A' ((lsTo (mates (hasArc xss) a) b).length + 1) c', by omega, by go_num, ?_, ?_, ?_, ?_⟩
                · rw [← HDN.out]; exact HDA.out.set b true
                · rw [HLS.out, List.length_append, natsI_snoc, List.map_append]
                  refine own_keep4 hown' (by rw [size_setCell, hAz]; exact Nat.le_refl _) fun k h1 h2 => ?_
                  rw [Below.heap_setCell _ _ _ _ (by simp; omega)]
                  exact grN grA h2 (by omega)
                · rw [Below.heap_setCell _ _ _ _ (by simp; omega)]
                  exact hkA'
                · exact gb_set (by rw [HWA.out]; exact gq_set (gq_step HGR.out hbl' (by omega)) (Nat.le_refl _))
              case measure => simp [intOf]; omega
            · have HLS := Lib.hid (lsTo_f (p := mates (hasArc xss) a) hm)
              have HDN := Lib.hid (rowB_congr (m := n) fun x _ => (dmid_f hm x).symm)
              have HREL := Lib.hid (show WbRel n xss a w1.heap.size wq.heap.size wq (.int .i64 ((b : Int) + 1)) wr from ⟨b + 1, _, by omega, by push_cast; rfl, by rw [← HDN.out]; exact HDm.out, by rw [HLS.out]; exact HLB.out, HX.out, HGR.out⟩)
              have hor : rcB xss a b = false ∨ (rcB xss a b = true ∧ rcB xss b a = false) := by
                cases q1 : rcB xss a b with
                | false => exact .inl rfl
                | true =>
                  cases q2 : rcB xss b a with
                  | true => exact absurd ⟨propB_iff.1 q1, propB_iff.1 q2⟩ hm
                  | false => exact .inr ⟨rfl, rfl⟩
              clear hm
              rcases hor with q1 | ⟨q1, q2⟩
              · rw [q1] at kab
                clear q1
                go_wp2_with fail
                go_roundw
                case rel => exact HREL.out
                case measure => simp [intOf]; omega
              · rw [q1] at kab
                rw [q2] at kba
                clear q1 q2
                go_wp2_with fail
                go_roundw
                case rel => exact HREL.out
                case measure => simp [intOf]; omega
          · obtain rfl : b = n := by omega
            have HCL := Lib.hid (comp_lsTo HG.out a)
            rw [HCL.out] at HLB hll HX x0
            obtain ⟨w5, hw5⟩ : ∃ z, z = wr := ⟨_, rfl⟩
            subst hw5
            have hread := own_intsR HLB.out (comp64 xss a)
            have HRD := Lib.hid hread
            have hB5 : Below w.heap.size w w5 := hb0q.grown hgr hb0q.size (fun k hk => by cases hk; omega)
            have hcl12 : (compL xss a).length ≤ 12 := lsP_len _
            clear hread
            go_wp2_with fail
            refine (spec_waDepths b _ (.slice Al (compL xss a).length cl) xss a w5 ((HH.out.below hB5).more hB5.size) HG.out HROOT.out HRD.out).mono ?_
            rintro e w6 ⟨gd, d, rfl, hgd, hnum, hlen, hpot, hdv, hb6⟩
            have HN6 := Lib.hid hnum
            have HPOT := Lib.hid hpot
            have HDV := Lib.hid hdv
            have hgdl := hnum.lt
            have hB6 := bl_trans hB5 hb6
            have hz6 := hb6.size
            have HX6 := bk HX hb6 (by omega)
            have HB6 := bk HBr hb6 (by omega)
            have HD6 := Lib.hid (HDm.out.keep (hb6.block _ (by omega)))
            have HLB6 := Lib.hid (own_keep4 HLB.out hb6.size fun k _ hl => hb6.block k hl)
            have HG6 := Lib.hid (gb_tr HGR.out (gb_below hb6))
            have hst : WaRel xss a wq.heap.size (.slice Al (compL xss a).length cl) d w6 (.int .i64 0) w6 := ⟨0, Nat.zero_le _, rfl, by rw [List.take_zero, per_nil]; exact HX6.out, World.grownBy.refl _ _⟩
            have HST := Lib.hid hst
            clear hst hnum hpot hdv b0 b1 bf x0 x1 x2 xf
            obtain ⟨b0, b1, bf⟩ := cells2 HB6
            go_wp2_with fail
            clear b0 b1 bf
            go_loopw [78] (fun i wr => WaRel xss a wq.heap.size (.slice Al (compL xss a).length cl) d w6 i wr) (fun i _ => xss.length - (intOf i).toNat)
            case atStart => exact HST.out
            case round =>
              clear HST
              obtain ⟨k, hk, rfl, hbox, hgr6⟩ := hrel
              have HXk := Lib.hid hbox
              have HGk := Lib.hid hgr6
              have hz7 := hgr6.size
              clear hbox
              have hpl : perN (xss.take k) (mates (hasArc xss) a) (dNat d) ≤ b + 1 := per_le fun x hx => (HDV.out x hx).2
              obtain ⟨x0, x1, x2, xf⟩ := cells3 HXk
              by_cases hlk : k < xss.length
              · obtain ⟨xs, hx⟩ : ∃ x, xss[k]? = some x := ⟨xss[k], List.getElem?_eq_getElem hlk⟩
                obtain ⟨x, y, rfl, hx1, hy1⟩ := small_pair (HS.out xs (List.mem_of_getElem? hx))
                obtain ⟨hxn, hyn⟩ := arc_lt HG.out (show hasArc xss x y from List.mem_of_getElem? hx)
                have hBr := hB6.grown hgr6 hB6.size (fun k hk => by cases hk; omega)
                obtain ⟨ad, rfl, hbd, hc⟩ := H3.out (by omega)
                obtain ⟨q, hq, hrq⟩ := hc k _ hx
                have hcell : wr.cell? (ad.add k) = some q := (hBr.cell (p := ad.add k) (by rw [block_add]; exact hbd)).trans hq
                obtain ⟨A1, c1, rfl, g1, g2, g3⟩ := (hrq.below hBr).open_
                obtain ⟨ad1, rfl, hb1, hc1⟩ := g3 (by simp)
                have k0 := hc1 0 _ rfl
                have k1 := hc1 1 _ rfl
                have e0 : ad1.add 0 = ad1 := by unfold Addr.add; simp
                have e1 : ad1.add 1 = ⟨ad1.block, ad1.off + 1, none⟩ := by unfold Addr.add; simp
                rw [e0] at k0
                rw [e1] at k1
                have hLBr := own_keep4 HLB6.out hgr6.size (fun k h1 h2 => grN hgr6 h2 (by omega))
                have HI := Lib.hid (own_intsR hLBr (comp64 xss a))
                have hNr := HN6.out.keep (grN hgr6 hgdl (by omega))
                have HCM := Lib.hid (fun x => mem_comp (b := x) (a := a) HG.out)
                have HTK := Lib.hid (show xss.take (k + 1) = xss.take k ++ [[(x : Int), (y : Int)]] by
                  obtain ⟨hk', e⟩ := List.getElem?_eq_some_iff.1 hx
                  rw [List.take_succ_eq_append_getElem hk', e])
                clear hc hrq hq g3 hc1 e0 e1 hx hLBr
                cases hpx : hasB (natsI (compL xss a)) (x : Int) with
                | false =>
                  have HE := Lib.hid (show perN (xss.take (k + 1)) (mates (hasArc xss) a) (dNat d) = perN (xss.take k) (mates (hasArc xss) a) (dNat d) by
                    rw [HTK.out]
                    exact per_out fun h => by
                      have := hasB_t (natsI_mem.2 ((HCM.out x).2 h.1))
                      rw [hpx] at this
                      cases this)
                  clear hNr
                  go_wp2_with fail
                  refine wp_region_held_drew (S := fun w' => w'.cell? ⟨wq.heap.size, 0, none⟩ = some (.slice Al (compL xss a).length cl) ∧ w'.cell? ad1 = some (.int .i64 (x : Int))) (by kernel_rfl) ?_ (fun hHeld => ?_)
                  · go_keep
                  refine tk 0 82 rfl rfl ?_
                  try simp only [Act.put, pu]
                  refine tk 1 83 rfl rfl ?_
                  try simp only [Act.put, pu]
                  refine tk 2 84 rfl rfl ?_
                  try simp only [Act.put, pu]
                  refine tk 3 85 rfl rfl ?_
                  try simp only [Act.put, pu]
                  refine tk 4 86 rfl rfl ?_
                  try simp only [Act.put, pu]
                  refine tr 5 rfl (by kernel_rfl) (fun K hK => ?_)
                  go_simp
                  go_at_call 85
                  refine (spec_l1Has _ (natsI (compL xss a)) _ _ (by first | exact HI.out | exact HI.out.below (Below.refl _ _).drew)).mono ?_
                  rintro e w' ⟨rfl, rfl⟩
                  rw [hpx]
                  refine hK.out _ _ ?_ (fun hHeld => ?_)
                  · go_keep
                  clear hK K
                  try simp only [Act.put, pu]
                  refine tk 6 88 rfl rfl ?_
                  try simp only [Act.put, pu]
                  refine tn 7 89 rfl rfl ?_
                  try simp only [Act.put, pu]
                  refine tn 8 90 rfl rfl ?_
                  try simp only [Act.put, pu]
                  refine tn 9 91 rfl rfl ?_
                  try simp only [Act.put, pu]
                  refine tn 10 92 rfl rfl ?_
                  try simp only [Act.put, pu]
                  refine tn 11 93 rfl rfl ?_
                  try simp only [Act.put, pu]
                  refine tn 12 94 rfl rfl ?_
                  try simp only [Act.put, pu]
                  refine tk 13 95 rfl rfl ?_
                  try simp only [Act.put, pu]
                  refine wpAnyH_done (by kernel_rfl) ?_ _
                  go_wp2_with fail
                  go_roundw
                  case rel => exact ⟨k + 1, by omega, by go_num, by rw [HE.out]; exact HXk.out, gd_drew HGk.out⟩
                  case measure => simp [intOf]; omega
                | true =>
                  have hmx := (HCM.out x).1 (natsI_mem.1 (propB_iff.1 hpx))
                  cases hpy : hasB (natsI (compL xss a)) (y : Int) with
                  | false =>
                    have HE := Lib.hid (show perN (xss.take (k + 1)) (mates (hasArc xss) a) (dNat d) = perN (xss.take k) (mates (hasArc xss) a) (dNat d) by
                      rw [HTK.out]
                      exact per_out fun h => by
                        have := hasB_t (natsI_mem.2 ((HCM.out y).2 h.2))
                        rw [hpy] at this
                        cases this)
                    clear hNr hmx
                    go_wp2_with fail
                    refine wp_region_held_drew (S := fun w' => w'.cell? ⟨wq.heap.size, 0, none⟩ = some (.slice Al (compL xss a).length cl) ∧ w'.cell? ad1 = some (.int .i64 (x : Int)) ∧ w'.cell? ⟨ad1.block, ad1.off + 1, none⟩ = some (.int .i64 (y : Int))) (by kernel_rfl) ?_ (fun hHeld => ?_)
                    · go_keep
                    refine tk 0 82 rfl rfl ?_
                    try simp only [Act.put, pu]
                    refine tk 1 83 rfl rfl ?_
                    try simp only [Act.put, pu]
                    refine tk 2 84 rfl rfl ?_
                    try simp only [Act.put, pu]
                    refine tk 3 85 rfl rfl ?_
                    try simp only [Act.put, pu]
                    refine tk 4 86 rfl rfl ?_
                    try simp only [Act.put, pu]
                    refine tr 5 rfl (by kernel_rfl) (fun K hK => ?_)
                    go_simp
                    go_at_call 85
                    refine (spec_l1Has _ (natsI (compL xss a)) _ _ (by first | exact HI.out | exact HI.out.below (Below.refl _ _).drew)).mono ?_
                    rintro e w' ⟨rfl, rfl⟩
                    rw [hpx]
                    refine hK.out _ _ ?_ (fun hHeld => ?_)
                    · go_keep
                    clear hK K
                    try simp only [Act.put, pu]
                    refine tk 6 88 rfl rfl ?_
                    try simp only [Act.put, pu]
                    refine tk 7 89 rfl rfl ?_
                    try simp only [Act.put, pu]
                    refine tk 8 90 rfl rfl ?_
                    try simp only [Act.put, pu]
                    refine tk 9 91 rfl rfl ?_
                    try simp only [Act.put, pu]
                    refine tk 10 92 rfl rfl ?_
                    try simp only [Act.put, pu]
                    refine tk 11 93 rfl rfl ?_
                    try simp only [Act.put, pu]
                    refine tr 12 rfl (by kernel_rfl) (fun K hK => ?_)
                    go_simp
                    go_at_call 85
                    refine (spec_l1Has _ (natsI (compL xss a)) _ _ (by first | exact HI.out | exact HI.out.below (Below.refl _ _).drew)).mono ?_
                    rintro e w' ⟨rfl, rfl⟩
                    rw [hpy]
                    refine hK.out _ _ ?_ (fun hHeld => ?_)
                    · go_keep
                    clear hK K
                    try simp only [Act.put, pu]
                    refine tk 13 95 rfl rfl ?_
                    try simp only [Act.put, pu]
                    refine wpAnyH_done (by kernel_rfl) ?_ _
                    go_wp2_with fail
                    go_roundw
                    case rel => exact ⟨k + 1, by omega, by go_num, by rw [HE.out]; exact HXk.out, gd_drew HGk.out⟩
                    case measure => simp [intOf]; omega
                  | true =>
                    have hmy := (HCM.out y).1 (natsI_mem.1 (propB_iff.1 hpy))
                    obtain ⟨hdx, hdxl⟩ := HDV.out x hmx
                    obtain ⟨hdy, hdyl⟩ := HDV.out y hmy
                    have kx := hNr.cell hdx
                    have ky := hNr.cell hdy
                    have HE := Lib.hid (show perN (xss.take (k + 1)) (mates (hasArc xss) a) (dNat d) = Nat.gcd (perN (xss.take k) (mates (hasArc xss) a) (dNat d)) (dft (dNat d) x y).natAbs by
                      rw [HTK.out]
                      exact per_in ⟨hmx, hmy⟩)
                    unfold dft at HE
                    clear hdx hdy hmx hmy hNr
                    generalize dNat d x = fx at *
                    generalize dNat d y = fy at *
                    generalize perN (xss.take k) (mates (hasArc xss) a) (dNat d) = pk at *
                    go_wp2_with fail
                    refine wp_region_held_drew (S := fun w' => w'.cell? ⟨wq.heap.size, 0, none⟩ = some (.slice Al (compL xss a).length cl) ∧ w'.cell? ad1 = some (.int .i64 (x : Int)) ∧ w'.cell? ⟨ad1.block, ad1.off + 1, none⟩ = some (.int .i64 (y : Int))) (by kernel_rfl) ?_ (fun hHeld => ?_)
                    · go_keep
                    refine tk 0 82 rfl rfl ?_
                    try simp only [Act.put, pu]
                    refine tk 1 83 rfl rfl ?_
                    try simp only [Act.put, pu]
                    refine tk 2 84 rfl rfl ?_
                    try simp only [Act.put, pu]
                    refine tk 3 85 rfl rfl ?_
                    try simp only [Act.put, pu]
                    refine tk 4 86 rfl rfl ?_
                    try simp only [Act.put, pu]
                    refine tr 5 rfl (by kernel_rfl) (fun K hK => ?_)
                    go_simp
                    go_at_call 85
                    refine (spec_l1Has _ (natsI (compL xss a)) _ _ (by first | exact HI.out | exact HI.out.below (Below.refl _ _).drew)).mono ?_
                    rintro e w' ⟨rfl, rfl⟩
                    rw [hpx]
                    refine hK.out _ _ ?_ (fun hHeld => ?_)
                    · go_keep
                    clear hK K
                    try simp only [Act.put, pu]
                    refine tk 6 88 rfl rfl ?_
                    try simp only [Act.put, pu]
                    refine tk 7 89 rfl rfl ?_
                    try simp only [Act.put, pu]
                    refine tk 8 90 rfl rfl ?_
                    try simp only [Act.put, pu]
                    refine tk 9 91 rfl rfl ?_
                    try simp only [Act.put, pu]
                    refine tk 10 92 rfl rfl ?_
                    try simp only [Act.put, pu]
                    refine tk 11 93 rfl rfl ?_
                    try simp only [Act.put, pu]
                    refine tr 12 rfl (by kernel_rfl) (fun K hK => ?_)
                    go_simp
                    go_at_call 85
                    refine (spec_l1Has _ (natsI (compL xss a)) _ _ (by first | exact HI.out | exact HI.out.below (Below.refl _ _).drew)).mono ?_
                    rintro e w' ⟨rfl, rfl⟩
                    rw [hpy]
                    refine hK.out _ _ ?_ (fun hHeld => ?_)
                    · go_keep
                    clear hK K
                    try simp only [Act.put, pu]
                    refine tk 13 95 rfl rfl ?_
                    try simp only [Act.put, pu]
                    refine wpAnyH_done (by kernel_rfl) ?_ _
                    go_wp2_with fail
                    obtain ⟨wd, hwd⟩ : ∃ z, z = wr.drew := ⟨_, rfl⟩
                    have HXd := Lib.hid (show wd.heap[wq.heap.size]? = some (.cells #[.slice Al (compL xss a).length cl, .int .i64 (pk : Int), .slice none 0 0] 79 (0, 0)) by rw [hwd]; exact HXk.out)
                    have HGd := Lib.hid (show w6.grownBy wd (some wq.heap.size) by rw [hwd]; exact gd_drew HGk.out)
                    have hdz : wd.heap.size = wr.heap.size := by rw [hwd]; rfl
                    have hwc : ∀ p, wr.cell? p = wd.cell? p := fun p => by rw [hwd]; rfl
                    rw [hwc] at k0 k1 kx ky
                    clear hwc
                    rw [← hwd]
                    clear hwd x0 x1 x2 xf
                    obtain ⟨x0, x1, x2, xf⟩ := cells3 HXd
                    have hbd : -1000000 ≤ (fx : Int) + 1 - fy ∧ (fx : Int) + 1 - fy ≤ 1000000 := by omega
                    refine wp_region_held_drew (S := fun w' => w'.cell? ad1 = some (.int .i64 (x : Int)) ∧ w'.cell? ⟨ad1.block, ad1.off + 1, none⟩ = some (.int .i64 (y : Int)) ∧ w'.cell? ⟨gd, x, none⟩ = some (.int .i64 (fx : Int)) ∧ w'.cell? ⟨gd, y, none⟩ = some (.int .i64 (fy : Int))) (by kernel_rfl) ?_ (fun hHeld => ?_)
                    · go_keep
                    refine tk 0 96 rfl rfl ?_
                    try simp only [Act.put, pu]
                    refine tk 2 98 rfl rfl ?_
                    try simp only [Act.put, pu]
                    refine tk 3 99 rfl rfl ?_
                    try simp only [Act.put, pu]
                    refine tk 4 100 rfl rfl ?_
                    try simp only [Act.put, pu]
                    refine tk 5 101 rfl rfl ?_
                    try simp only [Act.put, pu]
                    refine tk 6 102 rfl rfl ?_
                    try simp only [Act.put, pu]
                    refine tk 7 103 rfl rfl ?_
                    try simp only [Act.put, pu]
                    refine tk 8 104 rfl rfl ?_
                    try simp only [Act.put, pu]
                    refine tk 9 105 rfl rfl ?_
                    try simp only [Act.put, pu]
                    refine tk 10 106 rfl rfl ?_
                    try simp only [Act.put, pu]
                    refine tk 11 107 rfl rfl ?_
                    try simp only [Act.put, pu]
                    refine tk 12 108 rfl rfl ?_
                    try simp only [Act.put, pu]
                    refine tk 13 109 rfl rfl ?_
                    try simp only [Act.put, pu]
                    refine tk 14 110 rfl rfl ?_
                    try simp only [Act.put, pu]
                    refine tk 15 111 rfl rfl ?_
                    try simp only [Act.put, pu]
                    refine wpAnyH_ready (rs := [1, 16]) (by kernel_rfl) (by simp) ?_
                    refine AllReadyH.cons rfl (fun K hK => ?_) (AllReadyH.cons rfl (fun K hK => ?_) AllReadyH.nil)
                    · go_simp
                      refine hK.out _ _ ?_ (fun hHeld => ?_)
                      · go_keep
                      clear hK K
                      try simp only [Act.put, pu]
                      refine wpAnyH_ready (rs := [16]) (by kernel_rfl) (by simp) ?_
                      refine AllReadyH.cons rfl (fun K hK => ?_) AllReadyH.nil
                      go_simp
                      go_at_call 86
                      rw [show IntKind.i64.wrap (IntKind.i64.wrap ((fx : Int) + 1) - (fy : Int)) = (fx : Int) + 1 - fy by rw [IntWalk.i64_in ((fx : Int) + 1) (by omega), IntWalk.i64_in _ (by omega)]]
                      refine (spec_l1Abs ((fx : Int) + 1 - fy) _ hbd).mono ?_
                      rintro e w' ⟨rfl, rfl⟩
                      refine hK.out _ _ ?_ (fun hHeld => ?_)
                      · go_keep
                      clear hK K
                      try simp only [Act.put, pu]
                      refine wpAnyH_ready (rs := [17]) (by kernel_rfl) (by simp) ?_
                      refine AllReadyH.cons rfl (fun K hK => ?_) AllReadyH.nil
                      go_simp
                      go_at_call 70
                      refine (spec_waGcd pk ((fx : Int) + 1 - fy).natAbs _ (by omega) (by omega)).mono ?_
                      rintro e w' ⟨rfl, n5, rfl⟩
                      refine hK.out _ _ ?_ (fun hHeld => ?_)
                      · go_keep
                      clear hK K
                      try simp only [Act.put, pu]
                      refine tk 18 114 rfl rfl ?_
                      try simp only [Act.put, pu]
                      refine wpAnyH_ready (rs := [19]) (by kernel_rfl) (by simp) ?_
                      refine AllReadyH.cons rfl (fun K hK => ?_) AllReadyH.nil
                      go_simp
                      obtain ⟨wS, hwS⟩ : ∃ z, z = (wd.drewN (1 + n5)).setCell ⟨wq.heap.size, 1, none⟩ (.int .i64 (Nat.gcd pk ((fx : Int) + 1 - fy).natAbs : Int)) := ⟨_, rfl⟩
                      rw [← hwS]
                      have HXS := Lib.hid (show wS.heap[wq.heap.size]? = some (.cells #[.slice Al (compL xss a).length cl, .int .i64 (Nat.gcd pk ((fx : Int) + 1 - fy).natAbs : Int), .slice none 0 0] 79 (0, 0)) by
                        rw [hwS]
                        have h := heap_set_same (w := wd.drewN (1 + n5)) (i := 1) HXd.out (.int .i64 (Nat.gcd pk ((fx : Int) + 1 - fy).natAbs : Int))
                        simpa using h)
                      have hgS : wd.grownBy wS (some wq.heap.size) := by rw [hwS]; exact gb_set (gd_drewN _ _ _)
                      have HGS := Lib.hid (gb_tr HGd.out hgS)
                      replace k0 := (hgS.cell_far ad1 (by omega) (fun e => by injection e; omega)).trans k0
                      replace k1 := gb_cell hgS k1 (by omega)
                      replace kx := gb_cell hgS kx (by omega)
                      replace ky := gb_cell hgS ky (by omega)
                      clear hwS x0 x1 x2 xf hgS
                      refine hK.out _ _ ?_ (fun hHeld => ?_)
                      · go_keep
                      clear hK K
                      try simp only [Act.put, pu]
                      refine wpAnyH_done (by kernel_rfl) ?_ _
                      go_wp2_with fail
                      go_roundw
                      case rel => exact ⟨k + 1, by omega, by go_num, by rw [HE.out]; exact HXS.out, HGS.out⟩
                      case measure => simp [intOf]; omega
                    · go_simp
                      go_at_call 86
                      rw [show IntKind.i64.wrap (IntKind.i64.wrap ((fx : Int) + 1) - (fy : Int)) = (fx : Int) + 1 - fy by rw [IntWalk.i64_in ((fx : Int) + 1) (by omega), IntWalk.i64_in _ (by omega)]]
                      refine (spec_l1Abs ((fx : Int) + 1 - fy) _ hbd).mono ?_
                      rintro e w' ⟨rfl, rfl⟩
                      refine hK.out _ _ ?_ (fun hHeld => ?_)
                      · go_keep
                      clear hK K
                      try simp only [Act.put, pu]
                      refine wpAnyH_ready (rs := [1]) (by kernel_rfl) (by simp) ?_
                      refine AllReadyH.cons rfl (fun K hK => ?_) AllReadyH.nil
                      go_simp
                      refine hK.out _ _ ?_ (fun hHeld => ?_)
                      · go_keep
                      clear hK K
                      try simp only [Act.put, pu]
                      refine wpAnyH_ready (rs := [17]) (by kernel_rfl) (by simp) ?_
                      refine AllReadyH.cons rfl (fun K hK => ?_) AllReadyH.nil
                      go_simp
                      go_at_call 70
                      refine (spec_waGcd pk ((fx : Int) + 1 - fy).natAbs _ (by omega) (by omega)).mono ?_
                      rintro e w' ⟨rfl, n5, rfl⟩
                      refine hK.out _ _ ?_ (fun hHeld => ?_)
                      · go_keep
                      clear hK K
                      try simp only [Act.put, pu]
                      refine tk 18 114 rfl rfl ?_
                      try simp only [Act.put, pu]
                      refine wpAnyH_ready (rs := [19]) (by kernel_rfl) (by simp) ?_
                      refine AllReadyH.cons rfl (fun K hK => ?_) AllReadyH.nil
                      go_simp
                      obtain ⟨wS, hwS⟩ : ∃ z, z = (wd.drewN (1 + n5)).setCell ⟨wq.heap.size, 1, none⟩ (.int .i64 (Nat.gcd pk ((fx : Int) + 1 - fy).natAbs : Int)) := ⟨_, rfl⟩
                      rw [← hwS]
                      have HXS := Lib.hid (show wS.heap[wq.heap.size]? = some (.cells #[.slice Al (compL xss a).length cl, .int .i64 (Nat.gcd pk ((fx : Int) + 1 - fy).natAbs : Int), .slice none 0 0] 79 (0, 0)) by
                        rw [hwS]
                        have h := heap_set_same (w := wd.drewN (1 + n5)) (i := 1) HXd.out (.int .i64 (Nat.gcd pk ((fx : Int) + 1 - fy).natAbs : Int))
                        simpa using h)
                      have hgS : wd.grownBy wS (some wq.heap.size) := by rw [hwS]; exact gb_set (gd_drewN _ _ _)
                      have HGS := Lib.hid (gb_tr HGd.out hgS)
                      replace k0 := (hgS.cell_far ad1 (by omega) (fun e => by injection e; omega)).trans k0
                      replace k1 := gb_cell hgS k1 (by omega)
                      replace kx := gb_cell hgS kx (by omega)
                      replace ky := gb_cell hgS ky (by omega)
                      clear hwS x0 x1 x2 xf hgS
                      refine hK.out _ _ ?_ (fun hHeld => ?_)
                      · go_keep
                      clear hK K
                      try simp only [Act.put, pu]
                      refine wpAnyH_done (by kernel_rfl) ?_ _
                      go_wp2_with fail
                      go_roundw
                      case rel => exact ⟨k + 1, by omega, by go_num, by rw [HE.out]; exact HXS.out, HGS.out⟩
                      case measure => simp [intOf]; omega
              · have e1 : xss.take k = xss := List.take_of_length_le (by omega)
                rw [e1] at HXk hpl x1
                clear e1
                have hper : perN xss (mates (hasArc xss) a) (dNat d) = perA b xss a := per_eq HROOT.out.1 HPOT.out (dF_pot HG.out a) (perN_per HG.out a _) (perA_per HG.out a)
                have HMOD := Lib.hid (fun (x : Nat) (hx : mates (hasArc xss) a x) => show dNat d x % perA b xss a = dF b xss a x % perA b xss a by
                  have h := per_mod HROOT.out.1 HPOT.out (dF_pot HG.out a) (perN_per HG.out a (dNat d)) hx
                  rwa [hper] at h)
                have hpp := perA_pos HG.out HROOT.out.1
                have hpl2 := perA_le b xss a
                rw [hper] at HXk x1
                obtain ⟨w7, hw7⟩ : ∃ z, z = wr := ⟨_, rfl⟩
                subst hw7
                have hst : WrRel xss a wq.heap.size (perA b xss a) (.slice Al (compL xss a).length cl) d w7 (.int .i64 0) w7 := ⟨0, _, Nat.zero_le _, rfl, HXk.out, World.ownsRow_nil _ _ _ _, World.grownBy.refl _ _⟩
                have HST := Lib.hid hst
                have hLB7 := own_keep4 HLB6.out hgr6.size (fun k h1 h2 => grN hgr6 h2 (by omega))
                have HI7 := Lib.hid (own_intsR hLB7 (comp64 xss a))
                have HLB7 := Lib.hid hLB7
                have HN7 := Lib.hid (HN6.out.keep (grN hgr6 hgdl (by omega)))
                clear hst hper hpl hLB7
                go_wp2_with fail
                go_loopw [119] (fun i wr => WrRel xss a wq.heap.size (perA b xss a) (.slice Al (compL xss a).length cl) d w7 i wr) (fun i _ => (compL xss a).length - (intOf i).toNat)
                case atStart => exact HST.out
                case round =>
                  clear HST
                  obtain ⟨j, res, hj, rfl, hbox, hres, hgr7⟩ := hrel
                  have HXj := Lib.hid hbox
                  have HGj := Lib.hid hgr7
                  have HRS := Lib.hid hres
                  have hz8 := hgr7.size
                  obtain ⟨Ar, cr', rfl⟩ := own_sl hres
                  obtain ⟨y0, y1, y2, yf⟩ := cells3 HXj
                  clear hbox hres
                  by_cases hlj : j < (compL xss a).length
                  · obtain ⟨x, hx⟩ : ∃ x, (compL xss a)[j]? = some x := ⟨_, List.getElem?_eq_getElem hlj⟩
                    have hmx := (mem_comp HG.out).1 (List.mem_of_getElem? hx)
                    have hxn := comp_lt HG.out (List.mem_of_getElem? hx)
                    have hLBj := own_keep4 HLB7.out hgr7.size (fun k h1 h2 => grN hgr7 h2 (by omega))
                    have hIj := own_intsR hLBj (comp64 xss a)
                    obtain ⟨A2, c2, e2, q1, q2, q3⟩ := hIj.open_
                    rw [natsI_len] at e2 q1 q3
                    cases e2
                    obtain ⟨ad2, rfl, hbd2, hc2⟩ := q3 (by omega)
                    have kcx := hc2 j _ (natsI_at hx)
                    obtain ⟨hdx, hdxl⟩ := HDV.out x hmx
                    have kdx := (HN7.out.keep (grN hgr7 (by omega) (by omega))).cell hdx
                    have HTJ := Lib.hid (show rsTo xss a d (perA b xss a) (j + 1) = rsTo xss a d (perA b xss a) j ++ [dNat d x % perA b xss a] by
                      unfold rsTo
                      obtain ⟨hk', rfl⟩ := List.getElem?_eq_some_iff.1 hx
                      rw [List.take_succ_eq_append_getElem hk', List.map_append]
                      rfl)
                    have hadb : ad2.block ≠ wq.heap.size := by
                      have := (HLB7.out.lt ad2.block rfl).1
                      omega
                    clear hx hmx hLBj hIj q3 hc2 hdx
                    generalize dNat d x = dx at *
                    generalize perA b xss a = pr at *
                    have hp0 : ((pr : Int) == 0) = false := by rw [beq_eq_false_iff_ne]; omega
                    have hp1 : ¬ pr = 0 := by omega
                    have hxi : (x : Int) < (b : Int) := by omega
                    have hji : (j : Int) < ((compL xss a).length : Int) := by omega
                    go_wp2_with fail
                    refine wp_region_held_drew (S := fun w' => w'.cell? ⟨gd, x, none⟩ = some (.int .i64 (dx : Int)) ∧ w'.cell? ⟨wq.heap.size, 1, none⟩ = some (.int .i64 (pr : Int))) (by kernel_rfl) ?_ (fun hHeld => ?_)
                    · go_keep
                    refine tk 0 123 rfl rfl ?_
                    try simp only [Act.put, pu]
                    refine tk 2 125 rfl rfl ?_
                    try simp only [Act.put, pu]
                    refine tk 3 126 rfl rfl ?_
                    try simp only [Act.put, pu]
                    refine tk 4 127 rfl rfl ?_
                    try simp only [Act.put, pu]
                    refine tk 5 128 rfl rfl ?_
                    try simp only [Act.put, pu]
                    refine tk 6 129 rfl rfl ?_
                    try simp only [Act.put, pu]
                    refine tk 7 130 rfl rfl ?_
                    try simp only [Act.put, pu]
                    refine tk 8 131 rfl rfl ?_
                    try simp only [Act.put, pu]
                    refine wpAnyH_ready (rs := [1, 9]) (by kernel_rfl) (by simp) ?_
                    refine AllReadyH.cons rfl (fun K hK => ?_) (AllReadyH.cons rfl (fun K hK => ?_) AllReadyH.nil)
                    · go_simp
                      refine hK.out _ _ ?_ (fun hHeld => ?_)
                      · go_keep
                      clear hK K
                      try simp only [Act.put, pu]
                      refine wpAnyH_ready (rs := [9]) (by kernel_rfl) (by simp) ?_
                      refine AllReadyH.cons rfl (fun K hK => ?_) AllReadyH.nil
                      go_simp
                      rw [show (dx : Int).tmod (pr : Int) = ((dx % pr : Nat) : Int) by rw [Int.tmod_eq_emod_of_nonneg (by omega)]; push_cast; rfl]
                      generalize dx % pr = rq at *
                      rw [show (wr.alloc (.cells #[.int .i64 (rq : Int)] 3)).drew = wr.drew.alloc (.cells #[.int .i64 (rq : Int)] 3) from rfl]
                      obtain ⟨wD, hwD⟩ : ∃ z, z = wr.drew := ⟨_, rfl⟩
                      have HXD := Lib.hid (show wD.heap[wq.heap.size]? = some (.cells #[.slice (some ad2) (compL xss a).length cl, .int .i64 (pr : Int), .slice Ar j cr'] 79 (0, 0)) by rw [hwD]; exact HXj.out)
                      have HRD := Lib.hid (show wD.ownsRow w7.heap.size 3 1 (.slice Ar j cr') j ((natsI (rsTo xss a d pr j)).map intV) by rw [hwD]; exact HRS.out)
                      have HGD := Lib.hid (show w7.grownBy wD (some wq.heap.size) by rw [hwD]; exact gd_drew HGj.out)
                      have hDz : wr.heap.size = wD.heap.size := by rw [hwD]; rfl
                      have kD : wD.cell? ⟨gd, x, none⟩ = some (.int .i64 (dx : Int)) := by rw [hwD]; exact kdx
                      rw [← hwD]
                      obtain ⟨z0, z1, z2, zf⟩ := cells3 HXD
                      have c0 := Lib.cell?_alloc_some (.cells #[.int .i64 (rq : Int)] 3) kD
                      have c1 := Lib.cell?_alloc_some (.cells #[.int .i64 (rq : Int)] 3) z1
                      have c2 := Lib.cell?_alloc_some (.cells #[.int .i64 (rq : Int)] 3) z2
                      clear hwD z0 z1 z2 zf
                      refine hK.out _ _ ?_ (fun hHeld => ?_)
                      · go_keep
                      clear hK K
                      try simp only [Act.put, pu]
                      refine wpAnyH_ready (rs := [10]) (by kernel_rfl) (by simp) ?_
                      refine AllReadyH.cons rfl (fun K hK => ?_) AllReadyH.nil
                      rw [if_pos (by rfl)]
                      refine oper_append1 wD (.tmp 124) (.tmp 132) 28 rfl w7.heap.size 3 _ 8 Tryz.underlying28 intInfo rfl _ _ _ rfl _ rfl (by rw [← hDz]; rfl) HRD.out (by unfold maxLen; omega) (by omega) (by omega) ?_
                      intro v9 w9 hown9 hbl9 hgr9 hlt9 hob9
                      have HX9 := bk HXD hbl9 (by omega)
                      have HO9 := Lib.hid hown9
                      have HG9 := Lib.hid (gq_step HGD.out hbl9 (Nat.le_refl _))
                      have k9 := (hbl9.cell (p := ⟨gd, x, none⟩) (by show gd < _; omega)).trans kD
                      obtain ⟨A9, c9, rfl⟩ := own_sl hown9
                      obtain ⟨z0, z1, z2, zf⟩ := cells3 HX9
                      clear hown9 hgr9 hlt9 hob9 c0 c1 c2
                      refine hK.out _ _ ?_ (fun hHeld => ?_)
                      · go_keep
                      clear hK K
                      try simp only [Act.put, pu]
                      refine tk 11 134 rfl rfl ?_
                      try simp only [Act.put, pu]
                      refine wpAnyH_ready (rs := [12]) (by kernel_rfl) (by simp) ?_
                      refine AllReadyH.cons rfl (fun K hK => ?_) AllReadyH.nil
                      go_simp
                      obtain ⟨wE, hwE, hkE, grE⟩ := set1 HX9.out 2 (.slice A9 (j + 1) c9)
                      rw [← hwE]
                      simp only [List.setIfInBounds_toArray, List.set_cons_zero, List.set_cons_succ] at hkE
                      have HXE := Lib.hid hkE
                      have HGE := Lib.hid (show w7.grownBy wE (some wq.heap.size) by rw [hwE]; exact gb_set HG9.out)
                      have HOE := Lib.hid (own_keep4 HO9.out grE.size fun k h1 h2 => grN grE h2 (by omega))
                      have k10 := gb_cell grE k9 (by omega)
                      clear z0 z1 z2 zf hwE hkE
                      obtain ⟨z0, z1, z2, zf⟩ := cells3 HXE
                      refine hK.out _ _ ?_ (fun hHeld => ?_)
                      · go_keep
                      clear hK K
                      try simp only [Act.put, pu]
                      refine wpAnyH_done (by kernel_rfl) ?_ _
                      go_wp2_with fail
                      go_roundw
                      case rel => exact ⟨j + 1, _, by omega, by go_num, HXE.out, by rw [HTJ.out, natsI_snoc, List.map_append]; exact HOE.out, HGE.out⟩
                      case measure => simp [intOf]; omega
                    · go_simp
                      rw [show (dx : Int).tmod (pr : Int) = ((dx % pr : Nat) : Int) by rw [Int.tmod_eq_emod_of_nonneg (by omega)]; push_cast; rfl]
                      generalize dx % pr = rq at *
                      rw [show (wr.alloc (.cells #[.int .i64 (rq : Int)] 3)).drew = wr.drew.alloc (.cells #[.int .i64 (rq : Int)] 3) from rfl]
                      obtain ⟨wD, hwD⟩ : ∃ z, z = wr.drew := ⟨_, rfl⟩
                      have HXD := Lib.hid (show wD.heap[wq.heap.size]? = some (.cells #[.slice (some ad2) (compL xss a).length cl, .int .i64 (pr : Int), .slice Ar j cr'] 79 (0, 0)) by rw [hwD]; exact HXj.out)
                      have HRD := Lib.hid (show wD.ownsRow w7.heap.size 3 1 (.slice Ar j cr') j ((natsI (rsTo xss a d pr j)).map intV) by rw [hwD]; exact HRS.out)
                      have HGD := Lib.hid (show w7.grownBy wD (some wq.heap.size) by rw [hwD]; exact gd_drew HGj.out)
                      have hDz : wr.heap.size = wD.heap.size := by rw [hwD]; rfl
                      have kD : wD.cell? ⟨gd, x, none⟩ = some (.int .i64 (dx : Int)) := by rw [hwD]; exact kdx
                      rw [← hwD]
                      obtain ⟨z0, z1, z2, zf⟩ := cells3 HXD
                      have c0 := Lib.cell?_alloc_some (.cells #[.int .i64 (rq : Int)] 3) kD
                      have c1 := Lib.cell?_alloc_some (.cells #[.int .i64 (rq : Int)] 3) z1
                      have c2 := Lib.cell?_alloc_some (.cells #[.int .i64 (rq : Int)] 3) z2
                      clear hwD z0 z1 z2 zf
                      refine hK.out _ _ ?_ (fun hHeld => ?_)
                      · go_keep
                      clear hK K
                      try simp only [Act.put, pu]
                      refine wpAnyH_ready (rs := [1]) (by kernel_rfl) (by simp) ?_
                      refine AllReadyH.cons rfl (fun K hK => ?_) AllReadyH.nil
                      go_simp
                      refine hK.out _ _ ?_ (fun hHeld => ?_)
                      · go_keep
                      clear hK K
                      try simp only [Act.put, pu]
                      refine wpAnyH_ready (rs := [10]) (by kernel_rfl) (by simp) ?_
                      refine AllReadyH.cons rfl (fun K hK => ?_) AllReadyH.nil
                      rw [if_pos (by rfl)]
                      refine oper_append1 wD (.tmp 124) (.tmp 132) 28 rfl w7.heap.size 3 _ 8 Tryz.underlying28 intInfo rfl _ _ _ rfl _ rfl (by rw [← hDz]; rfl) HRD.out (by unfold maxLen; omega) (by omega) (by omega) ?_
                      intro v9 w9 hown9 hbl9 hgr9 hlt9 hob9
                      have HX9 := bk HXD hbl9 (by omega)
                      have HO9 := Lib.hid hown9
                      have HG9 := Lib.hid (gq_step HGD.out hbl9 (Nat.le_refl _))
                      have k9 := (hbl9.cell (p := ⟨gd, x, none⟩) (by show gd < _; omega)).trans kD
                      obtain ⟨A9, c9, rfl⟩ := own_sl hown9
                      obtain ⟨z0, z1, z2, zf⟩ := cells3 HX9
                      clear hown9 hgr9 hlt9 hob9 c0 c1 c2
                      refine hK.out _ _ ?_ (fun hHeld => ?_)
                      · go_keep
                      clear hK K
                      try simp only [Act.put, pu]
                      refine tk 11 134 rfl rfl ?_
                      try simp only [Act.put, pu]
                      refine wpAnyH_ready (rs := [12]) (by kernel_rfl) (by simp) ?_
                      refine AllReadyH.cons rfl (fun K hK => ?_) AllReadyH.nil
                      go_simp
                      obtain ⟨wE, hwE, hkE, grE⟩ := set1 HX9.out 2 (.slice A9 (j + 1) c9)
                      rw [← hwE]
                      simp only [List.setIfInBounds_toArray, List.set_cons_zero, List.set_cons_succ] at hkE
                      have HXE := Lib.hid hkE
                      have HGE := Lib.hid (show w7.grownBy wE (some wq.heap.size) by rw [hwE]; exact gb_set HG9.out)
                      have HOE := Lib.hid (own_keep4 HO9.out grE.size fun k h1 h2 => grN grE h2 (by omega))
                      have k10 := gb_cell grE k9 (by omega)
                      clear z0 z1 z2 zf hwE hkE
                      obtain ⟨z0, z1, z2, zf⟩ := cells3 HXE
                      refine hK.out _ _ ?_ (fun hHeld => ?_)
                      · go_keep
                      clear hK K
                      try simp only [Act.put, pu]
                      refine wpAnyH_done (by kernel_rfl) ?_ _
                      go_wp2_with fail
                      go_roundw
                      case rel => exact ⟨j + 1, _, by omega, by go_num, HXE.out, by rw [HTJ.out, natsI_snoc, List.map_append]; exact HOE.out, HGE.out⟩
                      case measure => simp [intOf]; omega
                  · have HRSF := Lib.hid (show rsTo xss a d (perA b xss a) j = resL b xss a by
                      unfold rsTo resL
                      rw [List.take_of_length_le (by omega)]
                      exact List.map_congr_left fun x hx => HMOD.out x ((mem_comp HG.out).1 hx))
                    rw [HRSF.out] at HRS
                    obtain ⟨w9, hw9⟩ : ∃ z, z = wr := ⟨_, rfl⟩
                    subst hw9
                    have hq9 : wq.grownBy w9 (some w1.heap.size) := gq_far (gq_far HG6.out HGk.out (Nat.le_refl _)) HGj.out (Nat.le_refl _)
                    have hL9 := HL.out.other (b' := some w1.heap.size) hq9 (by
                      obtain ⟨ts, k1, _⟩ := HL.out
                      cases hb : u4.ownBlock with
                      | none => exact .inl rfl
                      | some g => exact .inr fun e => by have := (k1.lt g hb).1; have := Option.some.inj e; omega) (.inl rfl)
                    have HU4 := Lib.hid (show ∀ g, u4.ownBlock = some g → g < wq.heap.size from fun g hg => by
                      obtain ⟨ts, k1, _⟩ := HL.out
                      exact (k1.lt g hg).2)
                    obtain ⟨ts, ho1, ho2⟩ := hL9
                    have htl := Own3.len ho1
                    have HO2 := Lib.hid ho2
                    have hrl := roots_len xss a
                    have hsz9 := hq9.size
                    have hLB9 := own_keep4 HLB7.out HGj.out.size (fun k h1 h2 => grN HGj.out h2 (by omega))
                    have HPU := Lib.hid (fun w2 (h2 : G2 w9 w2 u4.ownBlock (some w1.heap.size)) => show PtR b xss w1.heap.size (roots xss a).length (.slice Al (compL xss a).length cl) (.int .i64 (perA b xss a : Int)) (.slice Ar j cr') w2 from fun r hr => by
                      obtain rfl : r = a := Option.some.inj (hr.symm.trans (roots_at HROOT.out hlt))
                      exact ⟨ints_off hLB9 (comp64 xss r) (own_far hLB9 fun g hg => by have := HU4.out g hg; omega) (own_far hLB9 fun g hg => by have := Option.some.inj hg; omega) h2, rfl,
                        ints_off HRS.out (natsI_64 fun x hx => by
                          obtain ⟨y, _, rfl⟩ := List.mem_map.1 hx
                          have h3 := Nat.mod_le (dF b xss r y) (perA b xss r)
                          have h4 := dF_le b xss r y
                          omega) (own_far HRS.out fun g hg => by have := HU4.out g hg; omega) (own_far HRS.out fun g hg => by have := Option.some.inj hg; omega) h2, (fun ad m c e => by cases e; have := (hLB9.lt ad.block (by simp [Value.ownBlock])).1; omega), fun ad m c e => by cases e; have := (HRS.out.lt ad.block (by simp [Value.ownBlock])).1; omega⟩)
                    have HD9 := Lib.hid ((HD6.out.keep (grN HGk.out (by omega) (by omega))).keep (grN HGj.out (by omega) (by omega)))
                    have HDL := Lib.hid (rowB_congr (m := b) fun x hx => dmid_all xss a b x hx)
                    have HRT := Lib.hid (roots_t HROOT.out)
                    have HBQ := Lib.hid (hbl.trans (gb_b hq9 (Nat.le_refl _) (by omega)))
                    have hoa := ho1.alloc (.cells #[.slice Al (compL xss a).length cl, .int .i64 (perA b xss a : Int), .slice Ar j cr'] 79)
                    have HOA := Lib.hid hoa
                    have hnews : ∀ (i : Nat) (u : Value), [Value.slice Al (compL xss a).length cl, .int .i64 (perA b xss a : Int), .slice Ar j cr'][i]? = some u → (w9.alloc (.cells #[.slice Al (compL xss a).length cl, .int .i64 (perA b xss a : Int), .slice Ar j cr'] 79)).cell? ((⟨w9.heap.size, 0, none⟩ : Addr).add i) = some u := by
                      intro i u hu
                      have hi : i < 3 := by have := (List.getElem?_eq_some_iff.1 hu).1; simpa using this
                      rw [addr0, World.cell?_alloc_at _ _ _ _ rfl]
                      rcases (show i = 0 ∨ i = 1 ∨ i = 2 by omega) with rfl | rfl | rfl
                      · exact hu
                      · exact hu
                      · exact hu
                    have HNW := Lib.hid hnews
                    have H1C := Lib.hid (show ∀ u ∈ [Value.slice Al (compL xss a).length cl, .int .i64 (perA b xss a : Int), .slice Ar j cr'], u.oneCell' = true from fun u hu => by
                      simp at hu
                      rcases hu with rfl | rfl | rfl <;> rfl)
                    obtain ⟨pi, hpi, hp0, hp1, hp2⟩ := info_parts partInfo
                    have HPI := Lib.hid hpi
                    have HP0 := Lib.hid hp0
                    have HP1 := Lib.hid hp1
                    have HP2 := Lib.hid hp2
                    clear ho1 ho2 hoa hnews hpi hp0 hp1 hp2 hLB9
                    go_wp2_with (at_builtin; refine wpList_append_own_at _ rfl (.tmp 136) (.tmp 138) 80 rfl (w1.heap.size + 1) 79 pi _ 3 56 Tryz.underlying80 HPI.out HP0.out HP1.out HP2.out rfl (by decide) _ _ _ rfl HOA.out ⟨w9.heap.size, 0, none⟩ 1 1 _ rfl rfl HNW.out H1C.out (by unfold maxLen; omega) (by omega) (by simp; omega) ?_; intro v' w' hown' hgr' hnil' hob')
                    have hg9 : w9.grownBy w' u4.ownBlock := gb_tr (World.grownBy_alloc w9 _ _) hgr'
                    have hpush := Own3.push (R := PtR b xss w1.heap.size) HO2.out htl HPU.out hown' hg9 (by
                      rcases hob' with h | h
                      · exact .inl h
                      · exact .inr ⟨_, h, by simp⟩)
                    have hbw : Below (w1.heap.size + 1) w9 w' := (Below.refl _ _).grown hg9 (by omega) (fun g hg => by
                      obtain ⟨ts, k1, _⟩ := HL.out
                      exact (k1.lt g hg).1)
                    go_roundw
                    case rel => exact ⟨a + 1, by omega, by go_num, by rw [← HDL.out]; exact HD9.out.keep (hbw.block _ (by omega)), by rw [HRT.out, List.length_append]; exact hpush, HBQ.out.trans (hbw.mono (by omega))⟩
                    case measure => simp [intOf]; omega
      · have HR := Lib.hid (roots_f hroot)
        have HDS := Lib.hid (rowB_congr (m := n) fun x _ => (done_skip hroot x).symm)
        have hor : doneF xss a a = true ∨ (doneF xss a a = false ∧ rcB xss a a = false) := by
          cases q1 : doneF xss a a with
          | true => exact .inl rfl
          | false =>
            cases q2 : rcB xss a a with
            | true => exact absurd (done_root.2 ⟨q1, q2⟩) hroot
            | false => exact .inr ⟨rfl, rfl⟩
        clear hroot r5
        rcases hor with q1 | ⟨q1, q2⟩
        · rw [q1] at kd
          clear q1
          go_wp2_with fail
          go_roundw
          case rel => exact ⟨a + 1, by omega, by go_num, by rw [← HDS.out]; exact HD.out, by rw [HR.out]; exact HL.out, hbl⟩
          case measure => simp [intOf]; omega
        · rw [q1] at kd
          rw [q2] at kaa
          clear q1 q2
          go_wp2_with fail
          go_roundw
          case rel => exact ⟨a + 1, by omega, by go_num, by rw [← HDS.out]; exact HD.out, by rw [HR.out]; exact HL.out, hbl⟩
          case measure => simp [intOf]; omega
    · obtain rfl : a = n := by omega
      go_wp2_with fail
      go_ret
      exact ⟨_, rfl, ((HL.out.only).imp fun i x y z W _ h => h.base (by omega)).base_ (by omega), hb0q⟩
end Go.Proofs.YtjhljipehnmbnaaGreat
