/-
  Proved: the law FnWalkClasses returns true for all bytes, and leaves them as they were. No condition. (The frame at the end is after the kit's proof-skeleton.mjs.)
-/
import Derived.Test.YtjhljipehnmbnaaGreatRows
import Derived.Test.YtjhljipehnmbnaaGreatLaw
import Derived.Test.YtjhljipehnmbnaaGreatDrawCert
import Derived.Test.YtjhljipehnmbnaaGreatWrapA
import Derived.Test.YtjhljipehnmbnaaGreatCwTS
import Derived.Test.YtjhljipehnmbnaaGreatPlainOK
import Derived.Test.YtjhljipehnmbnaaGreatOpen
import Derived.ProofKit
import Derived.OpenShut
import Derived.ShutString
import Derived.Deep.RegionHeld3
import Derived.Lib.SmallJoins
namespace Go.Proofs.YtjhljipehnmbnaaGreat.fnWalkClasses
open Go.ChangeShapes Go.WideShapes Go.ChangeAt Go.RowKit Go.Joins Go.Deep
set_option linter.unusedVariables false
set_option linter.unusedSimpArgs false
/-- The slice v reads as bytes. -/
def BytesU (w : World) (v : Value) : Prop :=
  ∃ A n c, v = .slice A n c ∧ n ≤ 9223372036854775807 ∧ (0 < n → ∃ ad, A = some ad ∧ ad.block < w.heap.size ∧ ∀ j, j < n → ∃ x : Nat, x ≤ 255 ∧ w.cell? (ad.add j) = some (.int .u8 (x : Int)))
def Byt (w : World) (B : Nat) (v : Value) : Prop := BytesR w B v
theorem Byt.below {w w' : World} {B : Nat} {v : Value} (h : Byt w B v) (hb : Below B w w') : Byt w' B v := BytesR.keep h fun b hb' => hb.block b hb'
theorem Byt.more {w : World} {B B' : Nat} {v : Value} (h : Byt w B v) (hB : B ≤ B') : Byt w B' v := BytesR.more h hB
/-- What the made certificate is. -/
theorem ce_facts (n : Nat) (xss : List (List Int)) : (goodB (n : Int) xss = true → Good n xss ∧ ceCl (n : Int) xss = (classN n xss : Int) ∧ ckB (n : Int) xss (ceCl (n : Int) xss) (ceLb (n : Int) xss) (ceF (n : Int) xss) (ceS (n : Int) xss) (ceR (n : Int) xss) = true ∧ I64 (ceLb (n : Int) xss)) ∧
    (ceF (n : Int) xss).length ≤ 1000 ∧ (ceS (n : Int) xss).length ≤ 1000 ∧ (ceR (n : Int) xss).length ≤ 1000 := by
  cases q : goodB (n : Int) xss with
  | false =>
    refine ⟨fun h => (by cases h), ?_⟩
    unfold ceF ceS ceR
    rw [q]
    simp
  | true =>
    have hg := goodB_iff.1 q
    have hm := made_ok hg
    have hbd := certP_bd hg hm
    have e1 : ceCl (n : Int) xss = (classN n xss : Int) := ceCl_t hg
    have e2 : ceLb (n : Int) xss = (cwLb n xss : Int) := by unfold ceLb; rw [q]; simp
    have e3 : ceF (n : Int) xss = natsI (cwF n xss) := by unfold ceF; rw [q]; simp
    have e4 : ceS (n : Int) xss = natsI (cwS n xss) := by unfold ceS; rw [q]; simp
    have e5 : ceR (n : Int) xss = cwR n xss := by unfold ceR; rw [q]; simp
    rw [e1, e2, e3, e4, e5]
    exact ⟨fun _ => ⟨hg, rfl, by rw [ckB_t hg]; exact propB_t hm, by unfold I64; omega⟩, by omega, by omega, by omega⟩
/-- The components and their periods as they are read. -/
theorem comp_facts {n : Nat} {xss : List (List Int)} {w : World} {A A' : Option Addr} {la ca lp cp : Nat} (hg : Good n xss) (hl : RowsR w w.heap.size (.slice A la ca) (compsL n xss)) (hp : IntsR w w.heap.size (.slice A' lp cp) (natsI (pers n xss n))) :
    (compsL n xss).length = (roots xss n).length ∧ (natsI (pers n xss n)).length = (roots xss n).length ∧ ∀ k, k < (roots xss n).length → ∃ (r : Nat) (ay az : Addr) (u : Value), A = some ay ∧ A' = some az ∧
      w.cell? (ay.add k) = some u ∧ IntsR w w.heap.size u (natsI (compL xss r)) ∧ w.cell? (az.add k) = some (.int .i64 (perA n xss r : Int)) ∧ ∀ x ∈ natsI (compL xss r), decide (x ∈ natsI (flexL n xss)) = ((perA n xss r : Int) == 1) := by
  have h1 : (compsL n xss).length = (roots xss n).length := by simp [compsL]
  have h2 : (natsI (pers n xss n)).length = (roots xss n).length := by rw [natsI_len, pers_len]
  refine ⟨h1, h2, fun k hk => ?_⟩
  obtain ⟨B, c, e, _, _, h3⟩ := hl.open_
  obtain ⟨B', c', e', _, _, h3'⟩ := hp.open_
  obtain ⟨ay, rfl, _, hc⟩ := h3 (by omega)
  obtain ⟨az, rfl, _, hc'⟩ := h3' (by omega)
  obtain ⟨r, hr⟩ : ∃ r, (roots xss n)[k]? = some r := ⟨_, List.getElem?_eq_getElem hk⟩
  obtain ⟨u, hu, hru⟩ := hc k (natsI (compL xss r)) (by unfold compsL; rw [List.getElem?_map, hr]; rfl)
  have hz := hc' k (perA n xss r : Int) (by unfold natsI pers; rw [List.getElem?_map, List.getElem?_map, hr]; rfl)
  refine ⟨r, ay, az, u, (Value.slice.inj e).1, (Value.slice.inj e').1, hu, hru, hz, fun x hx => ?_⟩
  obtain ⟨a, ha, rfl⟩ := List.mem_map.1 hx
  have hroot : isRoot xss r := (mem_lsTo.1 (List.mem_of_getElem? hr)).2
  have hcf := comp_flex hg hroot ha
  have hmem : ((a : Int) ∈ natsI (flexL n xss)) ↔ a ∈ flexL n xss := ⟨fun h => by
    obtain ⟨b, hb, e⟩ := List.mem_map.1 h
    have e2 : (b : Int) = (a : Int) := e
    have : b = a := by omega
    rwa [← this], fun h => List.mem_map.2 ⟨a, h, rfl⟩⟩
  by_cases hp1 : perA n xss r = 1
  · rw [decide_eq_true (hmem.2 (hcf.2 hp1)), hp1]; rfl
  · rw [decide_eq_false (fun h => hp1 (hcf.1 (hmem.1 h))), beq_eq_false_iff_ne.2 (show (perA n xss r : Int) ≠ 1 by omega)]
theorem ck_class {n : Nat} {xss : List (List Int)} {cl lb : Int} {f s : List Int} {rs : List (List Int)} (h : ckB (n : Int) xss cl lb f s rs = true) (hg : goodB (n : Int) xss = true) : cl = ceCl (n : Int) xss := by
  have hg' := goodB_iff.1 hg
  rw [ckB_t hg'] at h
  rw [ceCl_t hg']
  exact accepted_class hg' (propB_iff.1 h)
set_option maxRecDepth 100000 in
set_option maxHeartbeats 4000000 in
theorem walk (v u : Value) (w : World) (h : BytesU w v) (h' : BytesU w u) :
    Calls Tryz.prog 3 #[v, u] w fun e w' => e = .returned (.bool true) ∧ Below w.heap.size w w' := by
  obtain ⟨A0, n0, k0, rfl, hn0, h0⟩ := h
  obtain ⟨A1, n1, k1, rfl, hn1, h1⟩ := h'
  have hB := Below.refl w.heap.size w
  go_enter Tryz.func3, Tryz.ntmps3
  go_wp2_with fail
  refine (laws_big A0 A1 n0 k0 n1 k1 w hn0 hn1).mono ?_
  rintro e w0 ⟨b, rfl, hb, rfl⟩
  cases b with
  | true =>
    go_wp2_with fail
    go_ret
    exact ⟨rfl, hB⟩
  | false =>
    obtain ⟨hl0, hl1⟩ := hb rfl
    have Ra := Lib.hid (show Byt w w.heap.size (.slice A0 n0 k0) from ⟨_, _, _, rfl, hl0, h0⟩)
    have Rb := Lib.hid (show Byt w w.heap.size (.slice A1 n1 k1) from ⟨_, _, _, rfl, hl1, h1⟩)
    clear hb h0 h1 hn0 hn1 hl0 hl1
    go_wp2_with fail
    refine (spec_DrawCertifyWalk _ w Ra.out).mono ?_
    rintro e w1 ⟨n, va, xss, rfl, ha, hn13, hxl, hb1⟩
    have hz1 := hb1.size
    replace hB := bl_trans hB hb1
    replace Rb := Lib.hid (Rb.out.below (hb1.mono (show w.heap.size ≤ w.heap.size by omega)))
    clear Ra
    have Rp := Lib.hid ha.reads
    obtain ⟨Av, lv, kv, rfl⟩ := ha.reads.sl
    clear ha
    have hba2 := bl_alloc (Below.refl w1.heap.size w1) (.cells #[.int .i64 (n : Int), .slice Av lv kv] 26)
    have HP := Lib.hid (heap_alloc_new w1 (.cells #[.int .i64 (n : Int), .slice Av lv kv] 26))
    have hs2 : w1.heap.size < (w1.alloc (.cells #[.int .i64 (n : Int), .slice Av lv kv] 26)).heap.size := by simp
    have HS2 := Lib.hid hs2; clear hs2; have hs2 := HS2.out
    have hz3 := hba2.size
    replace hB := bl_trans hB hba2
    replace Rb := Lib.hid (Rb.out.below (hba2.mono (show w.heap.size ≤ w1.heap.size by omega)))
    replace Rp := Lib.hid (Rp.out.below (hba2.mono (show w1.heap.size ≤ w1.heap.size by omega)))
    have p1_0 : (w1.alloc (.cells #[.int .i64 (n : Int), .slice Av lv kv] 26)).cell? ⟨w1.heap.size, 0, none⟩ = some (.int .i64 (n : Int)) := cell_of_row _ _ 0 _ _ (0, 0) HP.out
    have p1_1 : (w1.alloc (.cells #[.int .i64 (n : Int), .slice Av lv kv] 26)).cell? ⟨w1.heap.size, 1, none⟩ = some (.slice Av lv kv) := cell_of_row _ _ 1 _ _ (0, 0) HP.out
    have p1_f : ∀ i, (w1.alloc (.cells #[.int .i64 (n : Int), .slice Av lv kv] 26)).frozen? ⟨w1.heap.size, i, none⟩ = false := fun i => frozen_of_row _ _ i _ _ HP.out
    go_wp2_with fail
    generalize w1.alloc (.cells #[.int .i64 (n : Int), .slice Av lv kv] 26) = w2 at *
    have J1 := Lib.hid (fun (W : World) (u : Value) (hr : RowsR W W.heap.size u xss) => spec_CertifyWalk (n : Int) u xss W hr)
    have J2 := Lib.hid (fun (W : World) (u : Value) (hr : RowsR W W.heap.size u xss) (hu : ∃ A m c, u = .slice A m c) => impl_CertifyWalk (n : Int) u xss W hr hu)
    have J3 := Lib.hid (fun (W : World) (u : Value) (hr : RowsR W W.heap.size u xss) => impl_ClassOfWalk (n : Int) u xss W hr)
    have J4 := Lib.hid (fun (W : World) (u : Value) (hr : RowsR W W.heap.size u xss) => spec_ClassOfWalk (n : Int) u xss W hr)
    have HCE := Lib.hid (ce_facts n xss)
    unfold CeP CwP at J1 J2
    generalize goodB (n : Int) xss = ok at *
    generalize ceCl (n : Int) xss = cl at *
    generalize ceLb (n : Int) xss = lb at *
    generalize ceF (n : Int) xss = F at *
    generalize ceS (n : Int) xss = S at *
    generalize ceR (n : Int) xss = R at *
    refine (J2.out w2 _ (Rp.out.more (show w1.heap.size ≤ w2.heap.size by omega)) ⟨_, _, _, rfl⟩).mono ?_
    rintro e w3 ⟨vf, vs, vr, bf, bs, br, rfl, c1, c2, c3, c4, c5, hb3⟩
    have hz4 := hb3.size
    replace hB := bl_trans hB hb3
    clear p1_0 p1_1 p1_f
    replace HP := Lib.hid ((hb3.block (w1.heap.size) (show w1.heap.size < w2.heap.size by omega)).trans HP.out)
    replace Rb := Lib.hid (Rb.out.below (hb3.mono (show w.heap.size ≤ w2.heap.size by omega)))
    replace Rp := Lib.hid (Rp.out.below (hb3.mono (show w1.heap.size ≤ w2.heap.size by omega)))
    have p2_0 : w3.cell? ⟨w1.heap.size, 0, none⟩ = some (.int .i64 (n : Int)) := cell_of_row _ _ 0 _ _ (0, 0) HP.out
    have p2_1 : w3.cell? ⟨w1.heap.size, 1, none⟩ = some (.slice Av lv kv) := cell_of_row _ _ 1 _ _ (0, 0) HP.out
    have p2_f : ∀ i, w3.frozen? ⟨w1.heap.size, i, none⟩ = false := fun i => frozen_of_row _ _ i _ _ HP.out
    have Rfa := Lib.hid (c1.reads (B := w3.heap.size) (fun b hb => (c5 b (by simp [hb])).2))
    have Rsa := Lib.hid (c2.reads (B := w3.heap.size) (fun b hb => (c5 b (by simp [hb])).2))
    have Rra := Lib.hid (c3.reads (B := w3.heap.size) (fun b hb => (c5 b (by simp [hb])).2))
    obtain ⟨Afa, mfa, cfa, rfl⟩ := c1.1.isSlice
    obtain ⟨Asa, msa, csa, rfl⟩ := c2.1.isSlice
    obtain ⟨Ara, mra, cra, rfl⟩ := c3.isSlice
    clear c1 c2 c3 c4 c5
    have hba5 := bl_alloc (Below.refl w3.heap.size w3) (.cells #[.int .i64 cl, .int .i64 lb, .slice Afa mfa cfa, .slice Asa msa csa, .slice Ara mra cra] 30)
    have HC := Lib.hid (heap_alloc_new w3 (.cells #[.int .i64 cl, .int .i64 lb, .slice Afa mfa cfa, .slice Asa msa csa, .slice Ara mra cra] 30))
    have hs5 : w3.heap.size < (w3.alloc (.cells #[.int .i64 cl, .int .i64 lb, .slice Afa mfa cfa, .slice Asa msa csa, .slice Ara mra cra] 30)).heap.size := by simp
    have HS5 := Lib.hid hs5; clear hs5; have hs5 := HS5.out
    have hz6 := hba5.size
    replace hB := bl_trans hB hba5
    clear p2_0 p2_1 p2_f
    replace HP := Lib.hid ((hba5.block (w1.heap.size) (show w1.heap.size < w3.heap.size by omega)).trans HP.out)
    replace Rb := Lib.hid (Rb.out.below (hba5.mono (show w.heap.size ≤ w3.heap.size by omega)))
    replace Rp := Lib.hid (Rp.out.below (hba5.mono (show w1.heap.size ≤ w3.heap.size by omega)))
    replace Rfa := Lib.hid (Rfa.out.below (hba5.mono (show w3.heap.size ≤ w3.heap.size by omega)))
    replace Rsa := Lib.hid (Rsa.out.below (hba5.mono (show w3.heap.size ≤ w3.heap.size by omega)))
    replace Rra := Lib.hid (Rra.out.below (hba5.mono (show w3.heap.size ≤ w3.heap.size by omega)))
    have p3_0 : (w3.alloc (.cells #[.int .i64 cl, .int .i64 lb, .slice Afa mfa cfa, .slice Asa msa csa, .slice Ara mra cra] 30)).cell? ⟨w1.heap.size, 0, none⟩ = some (.int .i64 (n : Int)) := cell_of_row _ _ 0 _ _ (0, 0) HP.out
    have p3_1 : (w3.alloc (.cells #[.int .i64 cl, .int .i64 lb, .slice Afa mfa cfa, .slice Asa msa csa, .slice Ara mra cra] 30)).cell? ⟨w1.heap.size, 1, none⟩ = some (.slice Av lv kv) := cell_of_row _ _ 1 _ _ (0, 0) HP.out
    have p3_f : ∀ i, (w3.alloc (.cells #[.int .i64 cl, .int .i64 lb, .slice Afa mfa cfa, .slice Asa msa csa, .slice Ara mra cra] 30)).frozen? ⟨w1.heap.size, i, none⟩ = false := fun i => frozen_of_row _ _ i _ _ HP.out
    have c1_0 : (w3.alloc (.cells #[.int .i64 cl, .int .i64 lb, .slice Afa mfa cfa, .slice Asa msa csa, .slice Ara mra cra] 30)).cell? ⟨w3.heap.size, 0, none⟩ = some (.int .i64 cl) := cell_of_row _ _ 0 _ _ (0, 0) HC.out
    have c1_1 : (w3.alloc (.cells #[.int .i64 cl, .int .i64 lb, .slice Afa mfa cfa, .slice Asa msa csa, .slice Ara mra cra] 30)).cell? ⟨w3.heap.size, 1, none⟩ = some (.int .i64 lb) := cell_of_row _ _ 1 _ _ (0, 0) HC.out
    have c1_2 : (w3.alloc (.cells #[.int .i64 cl, .int .i64 lb, .slice Afa mfa cfa, .slice Asa msa csa, .slice Ara mra cra] 30)).cell? ⟨w3.heap.size, 2, none⟩ = some (.slice Afa mfa cfa) := cell_of_row _ _ 2 _ _ (0, 0) HC.out
    have c1_3 : (w3.alloc (.cells #[.int .i64 cl, .int .i64 lb, .slice Afa mfa cfa, .slice Asa msa csa, .slice Ara mra cra] 30)).cell? ⟨w3.heap.size, 3, none⟩ = some (.slice Asa msa csa) := cell_of_row _ _ 3 _ _ (0, 0) HC.out
    have c1_4 : (w3.alloc (.cells #[.int .i64 cl, .int .i64 lb, .slice Afa mfa cfa, .slice Asa msa csa, .slice Ara mra cra] 30)).cell? ⟨w3.heap.size, 4, none⟩ = some (.slice Ara mra cra) := cell_of_row _ _ 4 _ _ (0, 0) HC.out
    have c1_f : ∀ i, (w3.alloc (.cells #[.int .i64 cl, .int .i64 lb, .slice Afa mfa cfa, .slice Asa msa csa, .slice Ara mra cra] 30)).frozen? ⟨w3.heap.size, i, none⟩ = false := fun i => frozen_of_row _ _ i _ _ HC.out
    go_wp2_with fail
    generalize w3.alloc (.cells #[.int .i64 cl, .int .i64 lb, .slice Afa mfa cfa, .slice Asa msa csa, .slice Ara mra cra] 30) = w4 at *
    refine (J1.out w4 _ (Rp.out.more (show w1.heap.size ≤ w4.heap.size by omega))).mono ?_
    rintro e w5 ⟨vf, vs, vr, bf, bs, br, rfl, c1, c2, c3, c4, c5, hb5⟩
    have hz7 := hb5.size
    replace hB := bl_trans hB hb5
    clear p3_0 p3_1 p3_f
    replace HP := Lib.hid ((hb5.block (w1.heap.size) (show w1.heap.size < w4.heap.size by omega)).trans HP.out)
    clear c1_0 c1_1 c1_2 c1_3 c1_4 c1_f
    replace HC := Lib.hid ((hb5.block (w3.heap.size) (show w3.heap.size < w4.heap.size by omega)).trans HC.out)
    replace Rb := Lib.hid (Rb.out.below (hb5.mono (show w.heap.size ≤ w4.heap.size by omega)))
    replace Rp := Lib.hid (Rp.out.below (hb5.mono (show w1.heap.size ≤ w4.heap.size by omega)))
    replace Rfa := Lib.hid (Rfa.out.below (hb5.mono (show w3.heap.size ≤ w4.heap.size by omega)))
    replace Rsa := Lib.hid (Rsa.out.below (hb5.mono (show w3.heap.size ≤ w4.heap.size by omega)))
    replace Rra := Lib.hid (Rra.out.below (hb5.mono (show w3.heap.size ≤ w4.heap.size by omega)))
    have p4_0 : w5.cell? ⟨w1.heap.size, 0, none⟩ = some (.int .i64 (n : Int)) := cell_of_row _ _ 0 _ _ (0, 0) HP.out
    have p4_1 : w5.cell? ⟨w1.heap.size, 1, none⟩ = some (.slice Av lv kv) := cell_of_row _ _ 1 _ _ (0, 0) HP.out
    have p4_f : ∀ i, w5.frozen? ⟨w1.heap.size, i, none⟩ = false := fun i => frozen_of_row _ _ i _ _ HP.out
    have c2_0 : w5.cell? ⟨w3.heap.size, 0, none⟩ = some (.int .i64 cl) := cell_of_row _ _ 0 _ _ (0, 0) HC.out
    have c2_1 : w5.cell? ⟨w3.heap.size, 1, none⟩ = some (.int .i64 lb) := cell_of_row _ _ 1 _ _ (0, 0) HC.out
    have c2_2 : w5.cell? ⟨w3.heap.size, 2, none⟩ = some (.slice Afa mfa cfa) := cell_of_row _ _ 2 _ _ (0, 0) HC.out
    have c2_3 : w5.cell? ⟨w3.heap.size, 3, none⟩ = some (.slice Asa msa csa) := cell_of_row _ _ 3 _ _ (0, 0) HC.out
    have c2_4 : w5.cell? ⟨w3.heap.size, 4, none⟩ = some (.slice Ara mra cra) := cell_of_row _ _ 4 _ _ (0, 0) HC.out
    have c2_f : ∀ i, w5.frozen? ⟨w3.heap.size, i, none⟩ = false := fun i => frozen_of_row _ _ i _ _ HC.out
    have Rfd := Lib.hid (c1.reads (B := w5.heap.size) (fun b hb => (c5 b (by simp [hb])).2))
    have Rsd := Lib.hid (c2.reads (B := w5.heap.size) (fun b hb => (c5 b (by simp [hb])).2))
    have Rrd := Lib.hid (c3.reads (B := w5.heap.size) (fun b hb => (c5 b (by simp [hb])).2))
    obtain ⟨Afd, mfd, cfd, rfl⟩ := c1.1.isSlice
    obtain ⟨Asd, msd, csd, rfl⟩ := c2.1.isSlice
    obtain ⟨Ard, mrd, crd, rfl⟩ := c3.isSlice
    clear c1 c2 c3 c4 c5
    have hba8 := bl_alloc (Below.refl w5.heap.size w5) (.cells #[.int .i64 cl, .int .i64 lb, .slice Afd mfd cfd, .slice Asd msd csd, .slice Ard mrd crd] 30)
    have HD := Lib.hid (heap_alloc_new w5 (.cells #[.int .i64 cl, .int .i64 lb, .slice Afd mfd cfd, .slice Asd msd csd, .slice Ard mrd crd] 30))
    have hs8 : w5.heap.size < (w5.alloc (.cells #[.int .i64 cl, .int .i64 lb, .slice Afd mfd cfd, .slice Asd msd csd, .slice Ard mrd crd] 30)).heap.size := by simp
    have HS8 := Lib.hid hs8; clear hs8; have hs8 := HS8.out
    have hz9 := hba8.size
    replace hB := bl_trans hB hba8
    clear p4_0 p4_1 p4_f
    replace HP := Lib.hid ((hba8.block (w1.heap.size) (show w1.heap.size < w5.heap.size by omega)).trans HP.out)
    clear c2_0 c2_1 c2_2 c2_3 c2_4 c2_f
    replace HC := Lib.hid ((hba8.block (w3.heap.size) (show w3.heap.size < w5.heap.size by omega)).trans HC.out)
    replace Rb := Lib.hid (Rb.out.below (hba8.mono (show w.heap.size ≤ w5.heap.size by omega)))
    replace Rp := Lib.hid (Rp.out.below (hba8.mono (show w1.heap.size ≤ w5.heap.size by omega)))
    replace Rfa := Lib.hid (Rfa.out.below (hba8.mono (show w3.heap.size ≤ w5.heap.size by omega)))
    replace Rsa := Lib.hid (Rsa.out.below (hba8.mono (show w3.heap.size ≤ w5.heap.size by omega)))
    replace Rra := Lib.hid (Rra.out.below (hba8.mono (show w3.heap.size ≤ w5.heap.size by omega)))
    replace Rfd := Lib.hid (Rfd.out.below (hba8.mono (show w5.heap.size ≤ w5.heap.size by omega)))
    replace Rsd := Lib.hid (Rsd.out.below (hba8.mono (show w5.heap.size ≤ w5.heap.size by omega)))
    replace Rrd := Lib.hid (Rrd.out.below (hba8.mono (show w5.heap.size ≤ w5.heap.size by omega)))
    have p5_0 : (w5.alloc (.cells #[.int .i64 cl, .int .i64 lb, .slice Afd mfd cfd, .slice Asd msd csd, .slice Ard mrd crd] 30)).cell? ⟨w1.heap.size, 0, none⟩ = some (.int .i64 (n : Int)) := cell_of_row _ _ 0 _ _ (0, 0) HP.out
    have p5_1 : (w5.alloc (.cells #[.int .i64 cl, .int .i64 lb, .slice Afd mfd cfd, .slice Asd msd csd, .slice Ard mrd crd] 30)).cell? ⟨w1.heap.size, 1, none⟩ = some (.slice Av lv kv) := cell_of_row _ _ 1 _ _ (0, 0) HP.out
    have p5_f : ∀ i, (w5.alloc (.cells #[.int .i64 cl, .int .i64 lb, .slice Afd mfd cfd, .slice Asd msd csd, .slice Ard mrd crd] 30)).frozen? ⟨w1.heap.size, i, none⟩ = false := fun i => frozen_of_row _ _ i _ _ HP.out
    have c3_0 : (w5.alloc (.cells #[.int .i64 cl, .int .i64 lb, .slice Afd mfd cfd, .slice Asd msd csd, .slice Ard mrd crd] 30)).cell? ⟨w3.heap.size, 0, none⟩ = some (.int .i64 cl) := cell_of_row _ _ 0 _ _ (0, 0) HC.out
    have c3_1 : (w5.alloc (.cells #[.int .i64 cl, .int .i64 lb, .slice Afd mfd cfd, .slice Asd msd csd, .slice Ard mrd crd] 30)).cell? ⟨w3.heap.size, 1, none⟩ = some (.int .i64 lb) := cell_of_row _ _ 1 _ _ (0, 0) HC.out
    have c3_2 : (w5.alloc (.cells #[.int .i64 cl, .int .i64 lb, .slice Afd mfd cfd, .slice Asd msd csd, .slice Ard mrd crd] 30)).cell? ⟨w3.heap.size, 2, none⟩ = some (.slice Afa mfa cfa) := cell_of_row _ _ 2 _ _ (0, 0) HC.out
    have c3_3 : (w5.alloc (.cells #[.int .i64 cl, .int .i64 lb, .slice Afd mfd cfd, .slice Asd msd csd, .slice Ard mrd crd] 30)).cell? ⟨w3.heap.size, 3, none⟩ = some (.slice Asa msa csa) := cell_of_row _ _ 3 _ _ (0, 0) HC.out
    have c3_4 : (w5.alloc (.cells #[.int .i64 cl, .int .i64 lb, .slice Afd mfd cfd, .slice Asd msd csd, .slice Ard mrd crd] 30)).cell? ⟨w3.heap.size, 4, none⟩ = some (.slice Ara mra cra) := cell_of_row _ _ 4 _ _ (0, 0) HC.out
    have c3_f : ∀ i, (w5.alloc (.cells #[.int .i64 cl, .int .i64 lb, .slice Afd mfd cfd, .slice Asd msd csd, .slice Ard mrd crd] 30)).frozen? ⟨w3.heap.size, i, none⟩ = false := fun i => frozen_of_row _ _ i _ _ HC.out
    have d1_0 : (w5.alloc (.cells #[.int .i64 cl, .int .i64 lb, .slice Afd mfd cfd, .slice Asd msd csd, .slice Ard mrd crd] 30)).cell? ⟨w5.heap.size, 0, none⟩ = some (.int .i64 cl) := cell_of_row _ _ 0 _ _ (0, 0) HD.out
    have d1_1 : (w5.alloc (.cells #[.int .i64 cl, .int .i64 lb, .slice Afd mfd cfd, .slice Asd msd csd, .slice Ard mrd crd] 30)).cell? ⟨w5.heap.size, 1, none⟩ = some (.int .i64 lb) := cell_of_row _ _ 1 _ _ (0, 0) HD.out
    have d1_2 : (w5.alloc (.cells #[.int .i64 cl, .int .i64 lb, .slice Afd mfd cfd, .slice Asd msd csd, .slice Ard mrd crd] 30)).cell? ⟨w5.heap.size, 2, none⟩ = some (.slice Afd mfd cfd) := cell_of_row _ _ 2 _ _ (0, 0) HD.out
    have d1_3 : (w5.alloc (.cells #[.int .i64 cl, .int .i64 lb, .slice Afd mfd cfd, .slice Asd msd csd, .slice Ard mrd crd] 30)).cell? ⟨w5.heap.size, 3, none⟩ = some (.slice Asd msd csd) := cell_of_row _ _ 3 _ _ (0, 0) HD.out
    have d1_4 : (w5.alloc (.cells #[.int .i64 cl, .int .i64 lb, .slice Afd mfd cfd, .slice Asd msd csd, .slice Ard mrd crd] 30)).cell? ⟨w5.heap.size, 4, none⟩ = some (.slice Ard mrd crd) := cell_of_row _ _ 4 _ _ (0, 0) HD.out
    have d1_f : ∀ i, (w5.alloc (.cells #[.int .i64 cl, .int .i64 lb, .slice Afd mfd cfd, .slice Asd msd csd, .slice Ard mrd crd] 30)).frozen? ⟨w5.heap.size, i, none⟩ = false := fun i => frozen_of_row _ _ i _ _ HD.out
    go_wp2_with fail
    generalize w5.alloc (.cells #[.int .i64 cl, .int .i64 lb, .slice Afd mfd cfd, .slice Asd msd csd, .slice Ard mrd crd] 30) = w6 at *
    refine (J3.out w6 _ (Rp.out.more (show w1.heap.size ≤ w6.heap.size by omega))).mono ?_
    rintro e w7 ⟨rfl, hb7⟩
    have hz10 := hb7.size
    replace hB := bl_trans hB hb7
    clear p5_0 p5_1 p5_f
    replace HP := Lib.hid ((hb7.block (w1.heap.size) (show w1.heap.size < w6.heap.size by omega)).trans HP.out)
    clear c3_0 c3_1 c3_2 c3_3 c3_4 c3_f
    replace HC := Lib.hid ((hb7.block (w3.heap.size) (show w3.heap.size < w6.heap.size by omega)).trans HC.out)
    clear d1_0 d1_1 d1_2 d1_3 d1_4 d1_f
    replace HD := Lib.hid ((hb7.block (w5.heap.size) (show w5.heap.size < w6.heap.size by omega)).trans HD.out)
    replace Rb := Lib.hid (Rb.out.below (hb7.mono (show w.heap.size ≤ w6.heap.size by omega)))
    replace Rp := Lib.hid (Rp.out.below (hb7.mono (show w1.heap.size ≤ w6.heap.size by omega)))
    replace Rfa := Lib.hid (Rfa.out.below (hb7.mono (show w3.heap.size ≤ w6.heap.size by omega)))
    replace Rsa := Lib.hid (Rsa.out.below (hb7.mono (show w3.heap.size ≤ w6.heap.size by omega)))
    replace Rra := Lib.hid (Rra.out.below (hb7.mono (show w3.heap.size ≤ w6.heap.size by omega)))
    replace Rfd := Lib.hid (Rfd.out.below (hb7.mono (show w5.heap.size ≤ w6.heap.size by omega)))
    replace Rsd := Lib.hid (Rsd.out.below (hb7.mono (show w5.heap.size ≤ w6.heap.size by omega)))
    replace Rrd := Lib.hid (Rrd.out.below (hb7.mono (show w5.heap.size ≤ w6.heap.size by omega)))
    have p6_0 : w7.cell? ⟨w1.heap.size, 0, none⟩ = some (.int .i64 (n : Int)) := cell_of_row _ _ 0 _ _ (0, 0) HP.out
    have p6_1 : w7.cell? ⟨w1.heap.size, 1, none⟩ = some (.slice Av lv kv) := cell_of_row _ _ 1 _ _ (0, 0) HP.out
    have p6_f : ∀ i, w7.frozen? ⟨w1.heap.size, i, none⟩ = false := fun i => frozen_of_row _ _ i _ _ HP.out
    have c4_0 : w7.cell? ⟨w3.heap.size, 0, none⟩ = some (.int .i64 cl) := cell_of_row _ _ 0 _ _ (0, 0) HC.out
    have c4_1 : w7.cell? ⟨w3.heap.size, 1, none⟩ = some (.int .i64 lb) := cell_of_row _ _ 1 _ _ (0, 0) HC.out
    have c4_2 : w7.cell? ⟨w3.heap.size, 2, none⟩ = some (.slice Afa mfa cfa) := cell_of_row _ _ 2 _ _ (0, 0) HC.out
    have c4_3 : w7.cell? ⟨w3.heap.size, 3, none⟩ = some (.slice Asa msa csa) := cell_of_row _ _ 3 _ _ (0, 0) HC.out
    have c4_4 : w7.cell? ⟨w3.heap.size, 4, none⟩ = some (.slice Ara mra cra) := cell_of_row _ _ 4 _ _ (0, 0) HC.out
    have c4_f : ∀ i, w7.frozen? ⟨w3.heap.size, i, none⟩ = false := fun i => frozen_of_row _ _ i _ _ HC.out
    have d2_0 : w7.cell? ⟨w5.heap.size, 0, none⟩ = some (.int .i64 cl) := cell_of_row _ _ 0 _ _ (0, 0) HD.out
    have d2_1 : w7.cell? ⟨w5.heap.size, 1, none⟩ = some (.int .i64 lb) := cell_of_row _ _ 1 _ _ (0, 0) HD.out
    have d2_2 : w7.cell? ⟨w5.heap.size, 2, none⟩ = some (.slice Afd mfd cfd) := cell_of_row _ _ 2 _ _ (0, 0) HD.out
    have d2_3 : w7.cell? ⟨w5.heap.size, 3, none⟩ = some (.slice Asd msd csd) := cell_of_row _ _ 3 _ _ (0, 0) HD.out
    have d2_4 : w7.cell? ⟨w5.heap.size, 4, none⟩ = some (.slice Ard mrd crd) := cell_of_row _ _ 4 _ _ (0, 0) HD.out
    have d2_f : ∀ i, w7.frozen? ⟨w5.heap.size, i, none⟩ = false := fun i => frozen_of_row _ _ i _ _ HD.out
    go_wp2_with fail
    refine (J4.out w7 _ (Rp.out.more (show w1.heap.size ≤ w7.heap.size by omega))).mono ?_
    rintro e w8 ⟨rfl, hb8⟩
    have hz11 := hb8.size
    replace hB := bl_trans hB hb8
    clear p6_0 p6_1 p6_f
    replace HP := Lib.hid ((hb8.block (w1.heap.size) (show w1.heap.size < w7.heap.size by omega)).trans HP.out)
    clear c4_0 c4_1 c4_2 c4_3 c4_4 c4_f
    replace HC := Lib.hid ((hb8.block (w3.heap.size) (show w3.heap.size < w7.heap.size by omega)).trans HC.out)
    clear d2_0 d2_1 d2_2 d2_3 d2_4 d2_f
    replace HD := Lib.hid ((hb8.block (w5.heap.size) (show w5.heap.size < w7.heap.size by omega)).trans HD.out)
    replace Rb := Lib.hid (Rb.out.below (hb8.mono (show w.heap.size ≤ w7.heap.size by omega)))
    replace Rp := Lib.hid (Rp.out.below (hb8.mono (show w1.heap.size ≤ w7.heap.size by omega)))
    replace Rfa := Lib.hid (Rfa.out.below (hb8.mono (show w3.heap.size ≤ w7.heap.size by omega)))
    replace Rsa := Lib.hid (Rsa.out.below (hb8.mono (show w3.heap.size ≤ w7.heap.size by omega)))
    replace Rra := Lib.hid (Rra.out.below (hb8.mono (show w3.heap.size ≤ w7.heap.size by omega)))
    replace Rfd := Lib.hid (Rfd.out.below (hb8.mono (show w5.heap.size ≤ w7.heap.size by omega)))
    replace Rsd := Lib.hid (Rsd.out.below (hb8.mono (show w5.heap.size ≤ w7.heap.size by omega)))
    replace Rrd := Lib.hid (Rrd.out.below (hb8.mono (show w5.heap.size ≤ w7.heap.size by omega)))
    have p7_0 : w8.cell? ⟨w1.heap.size, 0, none⟩ = some (.int .i64 (n : Int)) := cell_of_row _ _ 0 _ _ (0, 0) HP.out
    have p7_1 : w8.cell? ⟨w1.heap.size, 1, none⟩ = some (.slice Av lv kv) := cell_of_row _ _ 1 _ _ (0, 0) HP.out
    have p7_f : ∀ i, w8.frozen? ⟨w1.heap.size, i, none⟩ = false := fun i => frozen_of_row _ _ i _ _ HP.out
    have c5_0 : w8.cell? ⟨w3.heap.size, 0, none⟩ = some (.int .i64 cl) := cell_of_row _ _ 0 _ _ (0, 0) HC.out
    have c5_1 : w8.cell? ⟨w3.heap.size, 1, none⟩ = some (.int .i64 lb) := cell_of_row _ _ 1 _ _ (0, 0) HC.out
    have c5_2 : w8.cell? ⟨w3.heap.size, 2, none⟩ = some (.slice Afa mfa cfa) := cell_of_row _ _ 2 _ _ (0, 0) HC.out
    have c5_3 : w8.cell? ⟨w3.heap.size, 3, none⟩ = some (.slice Asa msa csa) := cell_of_row _ _ 3 _ _ (0, 0) HC.out
    have c5_4 : w8.cell? ⟨w3.heap.size, 4, none⟩ = some (.slice Ara mra cra) := cell_of_row _ _ 4 _ _ (0, 0) HC.out
    have c5_f : ∀ i, w8.frozen? ⟨w3.heap.size, i, none⟩ = false := fun i => frozen_of_row _ _ i _ _ HC.out
    have d3_0 : w8.cell? ⟨w5.heap.size, 0, none⟩ = some (.int .i64 cl) := cell_of_row _ _ 0 _ _ (0, 0) HD.out
    have d3_1 : w8.cell? ⟨w5.heap.size, 1, none⟩ = some (.int .i64 lb) := cell_of_row _ _ 1 _ _ (0, 0) HD.out
    have d3_2 : w8.cell? ⟨w5.heap.size, 2, none⟩ = some (.slice Afd mfd cfd) := cell_of_row _ _ 2 _ _ (0, 0) HD.out
    have d3_3 : w8.cell? ⟨w5.heap.size, 3, none⟩ = some (.slice Asd msd csd) := cell_of_row _ _ 3 _ _ (0, 0) HD.out
    have d3_4 : w8.cell? ⟨w5.heap.size, 4, none⟩ = some (.slice Ard mrd crd) := cell_of_row _ _ 4 _ _ (0, 0) HD.out
    have d3_f : ∀ i, w8.frozen? ⟨w5.heap.size, i, none⟩ = false := fun i => frozen_of_row _ _ i _ _ HD.out
    go_wp2_with fail
    refine (laws_pSameCertificate cl lb _ _ _ _ _ _ F S R w8 (Rfa.out.more (show w3.heap.size ≤ w8.heap.size by omega)) (Rsa.out.more (show w3.heap.size ≤ w8.heap.size by omega)) (Rra.out.more (show w3.heap.size ≤ w8.heap.size by omega)) (Rfd.out.more (show w5.heap.size ≤ w8.heap.size by omega)) (Rsd.out.more (show w5.heap.size ≤ w8.heap.size by omega)) (Rrd.out.more (show w5.heap.size ≤ w8.heap.size by omega))).mono ?_
    rintro e w9 ⟨rfl, hb9⟩
    have hz12 := hb9.size
    replace hB := bl_trans hB hb9
    clear p7_0 p7_1 p7_f
    replace HP := Lib.hid ((hb9.block (w1.heap.size) (show w1.heap.size < w8.heap.size by omega)).trans HP.out)
    clear c5_0 c5_1 c5_2 c5_3 c5_4 c5_f
    replace HC := Lib.hid ((hb9.block (w3.heap.size) (show w3.heap.size < w8.heap.size by omega)).trans HC.out)
    clear d3_0 d3_1 d3_2 d3_3 d3_4 d3_f
    replace HD := Lib.hid ((hb9.block (w5.heap.size) (show w5.heap.size < w8.heap.size by omega)).trans HD.out)
    replace Rb := Lib.hid (Rb.out.below (hb9.mono (show w.heap.size ≤ w8.heap.size by omega)))
    replace Rp := Lib.hid (Rp.out.below (hb9.mono (show w1.heap.size ≤ w8.heap.size by omega)))
    replace Rfa := Lib.hid (Rfa.out.below (hb9.mono (show w3.heap.size ≤ w8.heap.size by omega)))
    replace Rsa := Lib.hid (Rsa.out.below (hb9.mono (show w3.heap.size ≤ w8.heap.size by omega)))
    replace Rra := Lib.hid (Rra.out.below (hb9.mono (show w3.heap.size ≤ w8.heap.size by omega)))
    replace Rfd := Lib.hid (Rfd.out.below (hb9.mono (show w5.heap.size ≤ w8.heap.size by omega)))
    replace Rsd := Lib.hid (Rsd.out.below (hb9.mono (show w5.heap.size ≤ w8.heap.size by omega)))
    replace Rrd := Lib.hid (Rrd.out.below (hb9.mono (show w5.heap.size ≤ w8.heap.size by omega)))
    have p8_0 : w9.cell? ⟨w1.heap.size, 0, none⟩ = some (.int .i64 (n : Int)) := cell_of_row _ _ 0 _ _ (0, 0) HP.out
    have p8_1 : w9.cell? ⟨w1.heap.size, 1, none⟩ = some (.slice Av lv kv) := cell_of_row _ _ 1 _ _ (0, 0) HP.out
    have p8_f : ∀ i, w9.frozen? ⟨w1.heap.size, i, none⟩ = false := fun i => frozen_of_row _ _ i _ _ HP.out
    have c6_0 : w9.cell? ⟨w3.heap.size, 0, none⟩ = some (.int .i64 cl) := cell_of_row _ _ 0 _ _ (0, 0) HC.out
    have c6_1 : w9.cell? ⟨w3.heap.size, 1, none⟩ = some (.int .i64 lb) := cell_of_row _ _ 1 _ _ (0, 0) HC.out
    have c6_2 : w9.cell? ⟨w3.heap.size, 2, none⟩ = some (.slice Afa mfa cfa) := cell_of_row _ _ 2 _ _ (0, 0) HC.out
    have c6_3 : w9.cell? ⟨w3.heap.size, 3, none⟩ = some (.slice Asa msa csa) := cell_of_row _ _ 3 _ _ (0, 0) HC.out
    have c6_4 : w9.cell? ⟨w3.heap.size, 4, none⟩ = some (.slice Ara mra cra) := cell_of_row _ _ 4 _ _ (0, 0) HC.out
    have c6_f : ∀ i, w9.frozen? ⟨w3.heap.size, i, none⟩ = false := fun i => frozen_of_row _ _ i _ _ HC.out
    have d4_0 : w9.cell? ⟨w5.heap.size, 0, none⟩ = some (.int .i64 cl) := cell_of_row _ _ 0 _ _ (0, 0) HD.out
    have d4_1 : w9.cell? ⟨w5.heap.size, 1, none⟩ = some (.int .i64 lb) := cell_of_row _ _ 1 _ _ (0, 0) HD.out
    have d4_2 : w9.cell? ⟨w5.heap.size, 2, none⟩ = some (.slice Afd mfd cfd) := cell_of_row _ _ 2 _ _ (0, 0) HD.out
    have d4_3 : w9.cell? ⟨w5.heap.size, 3, none⟩ = some (.slice Asd msd csd) := cell_of_row _ _ 3 _ _ (0, 0) HD.out
    have d4_4 : w9.cell? ⟨w5.heap.size, 4, none⟩ = some (.slice Ard mrd crd) := cell_of_row _ _ 4 _ _ (0, 0) HD.out
    have d4_f : ∀ i, w9.frozen? ⟨w5.heap.size, i, none⟩ = false := fun i => frozen_of_row _ _ i _ _ HD.out
    clear J1 J2 J3 J4
    clear p8_0 p8_1 p8_f
    clear c6_0 c6_1 c6_2 c6_3 c6_4 c6_f
    clear d4_0 d4_1 d4_2 d4_3 d4_4 d4_f
    cases ok with
    | true =>
      have p9_0 : w9.cell? ⟨w1.heap.size, 0, none⟩ = some (.int .i64 (n : Int)) := cell_of_row _ _ 0 _ _ (0, 0) HP.out
      have p9_1 : w9.cell? ⟨w1.heap.size, 1, none⟩ = some (.slice Av lv kv) := cell_of_row _ _ 1 _ _ (0, 0) HP.out
      have p9_f : ∀ i, w9.frozen? ⟨w1.heap.size, i, none⟩ = false := fun i => frozen_of_row _ _ i _ _ HP.out
      have c7_0 : w9.cell? ⟨w3.heap.size, 0, none⟩ = some (.int .i64 cl) := cell_of_row _ _ 0 _ _ (0, 0) HC.out
      have c7_1 : w9.cell? ⟨w3.heap.size, 1, none⟩ = some (.int .i64 lb) := cell_of_row _ _ 1 _ _ (0, 0) HC.out
      have c7_2 : w9.cell? ⟨w3.heap.size, 2, none⟩ = some (.slice Afa mfa cfa) := cell_of_row _ _ 2 _ _ (0, 0) HC.out
      have c7_3 : w9.cell? ⟨w3.heap.size, 3, none⟩ = some (.slice Asa msa csa) := cell_of_row _ _ 3 _ _ (0, 0) HC.out
      have c7_4 : w9.cell? ⟨w3.heap.size, 4, none⟩ = some (.slice Ara mra cra) := cell_of_row _ _ 4 _ _ (0, 0) HC.out
      have c7_f : ∀ i, w9.frozen? ⟨w3.heap.size, i, none⟩ = false := fun i => frozen_of_row _ _ i _ _ HC.out
      obtain ⟨hce, hF, hS, hR⟩ := HCE.out
      obtain ⟨hg, hcl, hck, hlb⟩ := hce rfl
      have hgt := goodB_t hg
      clear hce
      have HG := Lib.hid hg
      have HCL := Lib.hid hcl
      have HCK := Lib.hid hck
      have HGT := Lib.hid hgt
      clear hg hcl hck hgt
      go_wp2_with fail
      refine (impl_CheckWalkCertificate (n : Int) _ _ _ _ xss cl lb F S R w9 (Rp.out.more (show w1.heap.size ≤ w9.heap.size by omega)) (Rfa.out.more (show w3.heap.size ≤ w9.heap.size by omega)) (Rsa.out.more (show w3.heap.size ≤ w9.heap.size by omega)) (Rra.out.more (show w3.heap.size ≤ w9.heap.size by omega)) (by omega) hlb).mono ?_
      rintro e w10 ⟨rfl, hb10⟩
      rw [HCK.out, HGT.out]
      have hz13 := hb10.size
      replace hB := bl_trans hB hb10
      clear p9_0 p9_1 p9_f
      replace HP := Lib.hid ((hb10.block (w1.heap.size) (show w1.heap.size < w9.heap.size by omega)).trans HP.out)
      clear c7_0 c7_1 c7_2 c7_3 c7_4 c7_f
      replace HC := Lib.hid ((hb10.block (w3.heap.size) (show w3.heap.size < w9.heap.size by omega)).trans HC.out)
      replace HD := Lib.hid ((hb10.block (w5.heap.size) (show w5.heap.size < w9.heap.size by omega)).trans HD.out)
      replace Rb := Lib.hid (Rb.out.below (hb10.mono (show w.heap.size ≤ w9.heap.size by omega)))
      replace Rp := Lib.hid (Rp.out.below (hb10.mono (show w1.heap.size ≤ w9.heap.size by omega)))
      replace Rfa := Lib.hid (Rfa.out.below (hb10.mono (show w3.heap.size ≤ w9.heap.size by omega)))
      replace Rsa := Lib.hid (Rsa.out.below (hb10.mono (show w3.heap.size ≤ w9.heap.size by omega)))
      replace Rra := Lib.hid (Rra.out.below (hb10.mono (show w3.heap.size ≤ w9.heap.size by omega)))
      replace Rfd := Lib.hid (Rfd.out.below (hb10.mono (show w5.heap.size ≤ w9.heap.size by omega)))
      replace Rsd := Lib.hid (Rsd.out.below (hb10.mono (show w5.heap.size ≤ w9.heap.size by omega)))
      replace Rrd := Lib.hid (Rrd.out.below (hb10.mono (show w5.heap.size ≤ w9.heap.size by omega)))
      have p10_0 : w10.cell? ⟨w1.heap.size, 0, none⟩ = some (.int .i64 (n : Int)) := cell_of_row _ _ 0 _ _ (0, 0) HP.out
      have p10_1 : w10.cell? ⟨w1.heap.size, 1, none⟩ = some (.slice Av lv kv) := cell_of_row _ _ 1 _ _ (0, 0) HP.out
      have p10_f : ∀ i, w10.frozen? ⟨w1.heap.size, i, none⟩ = false := fun i => frozen_of_row _ _ i _ _ HP.out
      have c8_0 : w10.cell? ⟨w3.heap.size, 0, none⟩ = some (.int .i64 cl) := cell_of_row _ _ 0 _ _ (0, 0) HC.out
      have c8_1 : w10.cell? ⟨w3.heap.size, 1, none⟩ = some (.int .i64 lb) := cell_of_row _ _ 1 _ _ (0, 0) HC.out
      have c8_2 : w10.cell? ⟨w3.heap.size, 2, none⟩ = some (.slice Afa mfa cfa) := cell_of_row _ _ 2 _ _ (0, 0) HC.out
      have c8_3 : w10.cell? ⟨w3.heap.size, 3, none⟩ = some (.slice Asa msa csa) := cell_of_row _ _ 3 _ _ (0, 0) HC.out
      have c8_4 : w10.cell? ⟨w3.heap.size, 4, none⟩ = some (.slice Ara mra cra) := cell_of_row _ _ 4 _ _ (0, 0) HC.out
      have c8_f : ∀ i, w10.frozen? ⟨w3.heap.size, i, none⟩ = false := fun i => frozen_of_row _ _ i _ _ HC.out
      have d5_0 : w10.cell? ⟨w5.heap.size, 0, none⟩ = some (.int .i64 cl) := cell_of_row _ _ 0 _ _ (0, 0) HD.out
      have d5_1 : w10.cell? ⟨w5.heap.size, 1, none⟩ = some (.int .i64 lb) := cell_of_row _ _ 1 _ _ (0, 0) HD.out
      have d5_2 : w10.cell? ⟨w5.heap.size, 2, none⟩ = some (.slice Afd mfd cfd) := cell_of_row _ _ 2 _ _ (0, 0) HD.out
      have d5_3 : w10.cell? ⟨w5.heap.size, 3, none⟩ = some (.slice Asd msd csd) := cell_of_row _ _ 3 _ _ (0, 0) HD.out
      have d5_4 : w10.cell? ⟨w5.heap.size, 4, none⟩ = some (.slice Ard mrd crd) := cell_of_row _ _ 4 _ _ (0, 0) HD.out
      have d5_f : ∀ i, w10.frozen? ⟨w5.heap.size, i, none⟩ = false := fun i => frozen_of_row _ _ i _ _ HD.out
      go_wp2_with fail
      refine (impl_LoopOf n _ xss w10 (Rp.out.more (show w1.heap.size ≤ w10.heap.size by omega)) HG.out).mono ?_
      rintro e w11 ⟨lo, lb', rfl, hi64, hil, hlb', hb11⟩
      have HLB := Lib.hid hlb'
      have HIL := Lib.hid hil
      clear hlb' hil
      have hz14 := hb11.size
      replace hB := bl_trans hB hb11
      clear p10_0 p10_1 p10_f
      replace HP := Lib.hid ((hb11.block (w1.heap.size) (show w1.heap.size < w10.heap.size by omega)).trans HP.out)
      clear c8_0 c8_1 c8_2 c8_3 c8_4 c8_f
      replace HC := Lib.hid ((hb11.block (w3.heap.size) (show w3.heap.size < w10.heap.size by omega)).trans HC.out)
      clear d5_0 d5_1 d5_2 d5_3 d5_4 d5_f
      replace HD := Lib.hid ((hb11.block (w5.heap.size) (show w5.heap.size < w10.heap.size by omega)).trans HD.out)
      replace Rb := Lib.hid (Rb.out.below (hb11.mono (show w.heap.size ≤ w10.heap.size by omega)))
      replace Rp := Lib.hid (Rp.out.below (hb11.mono (show w1.heap.size ≤ w10.heap.size by omega)))
      replace Rfa := Lib.hid (Rfa.out.below (hb11.mono (show w3.heap.size ≤ w10.heap.size by omega)))
      replace Rsa := Lib.hid (Rsa.out.below (hb11.mono (show w3.heap.size ≤ w10.heap.size by omega)))
      replace Rra := Lib.hid (Rra.out.below (hb11.mono (show w3.heap.size ≤ w10.heap.size by omega)))
      replace Rfd := Lib.hid (Rfd.out.below (hb11.mono (show w5.heap.size ≤ w10.heap.size by omega)))
      replace Rsd := Lib.hid (Rsd.out.below (hb11.mono (show w5.heap.size ≤ w10.heap.size by omega)))
      replace Rrd := Lib.hid (Rrd.out.below (hb11.mono (show w5.heap.size ≤ w10.heap.size by omega)))
      have p11_0 : w11.cell? ⟨w1.heap.size, 0, none⟩ = some (.int .i64 (n : Int)) := cell_of_row _ _ 0 _ _ (0, 0) HP.out
      have p11_1 : w11.cell? ⟨w1.heap.size, 1, none⟩ = some (.slice Av lv kv) := cell_of_row _ _ 1 _ _ (0, 0) HP.out
      have p11_f : ∀ i, w11.frozen? ⟨w1.heap.size, i, none⟩ = false := fun i => frozen_of_row _ _ i _ _ HP.out
      have c9_0 : w11.cell? ⟨w3.heap.size, 0, none⟩ = some (.int .i64 cl) := cell_of_row _ _ 0 _ _ (0, 0) HC.out
      have c9_1 : w11.cell? ⟨w3.heap.size, 1, none⟩ = some (.int .i64 lb) := cell_of_row _ _ 1 _ _ (0, 0) HC.out
      have c9_2 : w11.cell? ⟨w3.heap.size, 2, none⟩ = some (.slice Afa mfa cfa) := cell_of_row _ _ 2 _ _ (0, 0) HC.out
      have c9_3 : w11.cell? ⟨w3.heap.size, 3, none⟩ = some (.slice Asa msa csa) := cell_of_row _ _ 3 _ _ (0, 0) HC.out
      have c9_4 : w11.cell? ⟨w3.heap.size, 4, none⟩ = some (.slice Ara mra cra) := cell_of_row _ _ 4 _ _ (0, 0) HC.out
      have c9_f : ∀ i, w11.frozen? ⟨w3.heap.size, i, none⟩ = false := fun i => frozen_of_row _ _ i _ _ HC.out
      have d6_0 : w11.cell? ⟨w5.heap.size, 0, none⟩ = some (.int .i64 cl) := cell_of_row _ _ 0 _ _ (0, 0) HD.out
      have d6_1 : w11.cell? ⟨w5.heap.size, 1, none⟩ = some (.int .i64 lb) := cell_of_row _ _ 1 _ _ (0, 0) HD.out
      have d6_2 : w11.cell? ⟨w5.heap.size, 2, none⟩ = some (.slice Afd mfd cfd) := cell_of_row _ _ 2 _ _ (0, 0) HD.out
      have d6_3 : w11.cell? ⟨w5.heap.size, 3, none⟩ = some (.slice Asd msd csd) := cell_of_row _ _ 3 _ _ (0, 0) HD.out
      have d6_4 : w11.cell? ⟨w5.heap.size, 4, none⟩ = some (.slice Ard mrd crd) := cell_of_row _ _ 4 _ _ (0, 0) HD.out
      have d6_f : ∀ i, w11.frozen? ⟨w5.heap.size, i, none⟩ = false := fun i => frozen_of_row _ _ i _ _ HD.out
      go_wp2_with fail
      refine (impl_FlexibleLabels n _ xss w11 (Rp.out.more (show w1.heap.size ≤ w11.heap.size by omega)) HG.out).mono ?_
      rintro e w12 ⟨u12, rfl, hsl12, hr12, hb12⟩
      have hz15 := hb12.size
      replace hB := bl_trans hB hb12
      clear p11_0 p11_1 p11_f
      replace HP := Lib.hid ((hb12.block (w1.heap.size) (show w1.heap.size < w11.heap.size by omega)).trans HP.out)
      clear c9_0 c9_1 c9_2 c9_3 c9_4 c9_f
      replace HC := Lib.hid ((hb12.block (w3.heap.size) (show w3.heap.size < w11.heap.size by omega)).trans HC.out)
      clear d6_0 d6_1 d6_2 d6_3 d6_4 d6_f
      replace HD := Lib.hid ((hb12.block (w5.heap.size) (show w5.heap.size < w11.heap.size by omega)).trans HD.out)
      replace Rb := Lib.hid (Rb.out.below (hb12.mono (show w.heap.size ≤ w11.heap.size by omega)))
      replace Rp := Lib.hid (Rp.out.below (hb12.mono (show w1.heap.size ≤ w11.heap.size by omega)))
      replace Rfa := Lib.hid (Rfa.out.below (hb12.mono (show w3.heap.size ≤ w11.heap.size by omega)))
      replace Rsa := Lib.hid (Rsa.out.below (hb12.mono (show w3.heap.size ≤ w11.heap.size by omega)))
      replace Rra := Lib.hid (Rra.out.below (hb12.mono (show w3.heap.size ≤ w11.heap.size by omega)))
      replace Rfd := Lib.hid (Rfd.out.below (hb12.mono (show w5.heap.size ≤ w11.heap.size by omega)))
      replace Rsd := Lib.hid (Rsd.out.below (hb12.mono (show w5.heap.size ≤ w11.heap.size by omega)))
      replace Rrd := Lib.hid (Rrd.out.below (hb12.mono (show w5.heap.size ≤ w11.heap.size by omega)))
      have p12_0 : w12.cell? ⟨w1.heap.size, 0, none⟩ = some (.int .i64 (n : Int)) := cell_of_row _ _ 0 _ _ (0, 0) HP.out
      have p12_1 : w12.cell? ⟨w1.heap.size, 1, none⟩ = some (.slice Av lv kv) := cell_of_row _ _ 1 _ _ (0, 0) HP.out
      have p12_f : ∀ i, w12.frozen? ⟨w1.heap.size, i, none⟩ = false := fun i => frozen_of_row _ _ i _ _ HP.out
      have c10_0 : w12.cell? ⟨w3.heap.size, 0, none⟩ = some (.int .i64 cl) := cell_of_row _ _ 0 _ _ (0, 0) HC.out
      have c10_1 : w12.cell? ⟨w3.heap.size, 1, none⟩ = some (.int .i64 lb) := cell_of_row _ _ 1 _ _ (0, 0) HC.out
      have c10_2 : w12.cell? ⟨w3.heap.size, 2, none⟩ = some (.slice Afa mfa cfa) := cell_of_row _ _ 2 _ _ (0, 0) HC.out
      have c10_3 : w12.cell? ⟨w3.heap.size, 3, none⟩ = some (.slice Asa msa csa) := cell_of_row _ _ 3 _ _ (0, 0) HC.out
      have c10_4 : w12.cell? ⟨w3.heap.size, 4, none⟩ = some (.slice Ara mra cra) := cell_of_row _ _ 4 _ _ (0, 0) HC.out
      have c10_f : ∀ i, w12.frozen? ⟨w3.heap.size, i, none⟩ = false := fun i => frozen_of_row _ _ i _ _ HC.out
      have d7_0 : w12.cell? ⟨w5.heap.size, 0, none⟩ = some (.int .i64 cl) := cell_of_row _ _ 0 _ _ (0, 0) HD.out
      have d7_1 : w12.cell? ⟨w5.heap.size, 1, none⟩ = some (.int .i64 lb) := cell_of_row _ _ 1 _ _ (0, 0) HD.out
      have d7_2 : w12.cell? ⟨w5.heap.size, 2, none⟩ = some (.slice Afd mfd cfd) := cell_of_row _ _ 2 _ _ (0, 0) HD.out
      have d7_3 : w12.cell? ⟨w5.heap.size, 3, none⟩ = some (.slice Asd msd csd) := cell_of_row _ _ 3 _ _ (0, 0) HD.out
      have d7_4 : w12.cell? ⟨w5.heap.size, 4, none⟩ = some (.slice Ard mrd crd) := cell_of_row _ _ 4 _ _ (0, 0) HD.out
      have d7_f : ∀ i, w12.frozen? ⟨w5.heap.size, i, none⟩ = false := fun i => frozen_of_row _ _ i _ _ HD.out
      have Rx := Lib.hid hr12
      obtain ⟨Ax, cx, rfl, -⟩ := hr12.open_
      clear hr12 hsl12
      go_wp2_with fail
      refine (impl_WalkComponents n _ xss w12 (Rp.out.more (show w1.heap.size ≤ w12.heap.size by omega)) HG.out).mono ?_
      rintro e w13 ⟨lv13, pv13, rfl, hr13, hp13, hb13⟩
      have hz16 := hb13.size
      replace hB := bl_trans hB hb13
      clear p12_0 p12_1 p12_f
      replace HP := Lib.hid ((hb13.block (w1.heap.size) (show w1.heap.size < w12.heap.size by omega)).trans HP.out)
      clear c10_0 c10_1 c10_2 c10_3 c10_4 c10_f
      replace HC := Lib.hid ((hb13.block (w3.heap.size) (show w3.heap.size < w12.heap.size by omega)).trans HC.out)
      clear d7_0 d7_1 d7_2 d7_3 d7_4 d7_f
      replace HD := Lib.hid ((hb13.block (w5.heap.size) (show w5.heap.size < w12.heap.size by omega)).trans HD.out)
      replace Rb := Lib.hid (Rb.out.below (hb13.mono (show w.heap.size ≤ w12.heap.size by omega)))
      replace Rp := Lib.hid (Rp.out.below (hb13.mono (show w1.heap.size ≤ w12.heap.size by omega)))
      replace Rfa := Lib.hid (Rfa.out.below (hb13.mono (show w3.heap.size ≤ w12.heap.size by omega)))
      replace Rsa := Lib.hid (Rsa.out.below (hb13.mono (show w3.heap.size ≤ w12.heap.size by omega)))
      replace Rra := Lib.hid (Rra.out.below (hb13.mono (show w3.heap.size ≤ w12.heap.size by omega)))
      replace Rfd := Lib.hid (Rfd.out.below (hb13.mono (show w5.heap.size ≤ w12.heap.size by omega)))
      replace Rsd := Lib.hid (Rsd.out.below (hb13.mono (show w5.heap.size ≤ w12.heap.size by omega)))
      replace Rrd := Lib.hid (Rrd.out.below (hb13.mono (show w5.heap.size ≤ w12.heap.size by omega)))
      replace Rx := Lib.hid (Rx.out.below (hb13.mono (show w12.heap.size ≤ w12.heap.size by omega)))
      have p13_0 : w13.cell? ⟨w1.heap.size, 0, none⟩ = some (.int .i64 (n : Int)) := cell_of_row _ _ 0 _ _ (0, 0) HP.out
      have p13_1 : w13.cell? ⟨w1.heap.size, 1, none⟩ = some (.slice Av lv kv) := cell_of_row _ _ 1 _ _ (0, 0) HP.out
      have p13_f : ∀ i, w13.frozen? ⟨w1.heap.size, i, none⟩ = false := fun i => frozen_of_row _ _ i _ _ HP.out
      have c11_0 : w13.cell? ⟨w3.heap.size, 0, none⟩ = some (.int .i64 cl) := cell_of_row _ _ 0 _ _ (0, 0) HC.out
      have c11_1 : w13.cell? ⟨w3.heap.size, 1, none⟩ = some (.int .i64 lb) := cell_of_row _ _ 1 _ _ (0, 0) HC.out
      have c11_2 : w13.cell? ⟨w3.heap.size, 2, none⟩ = some (.slice Afa mfa cfa) := cell_of_row _ _ 2 _ _ (0, 0) HC.out
      have c11_3 : w13.cell? ⟨w3.heap.size, 3, none⟩ = some (.slice Asa msa csa) := cell_of_row _ _ 3 _ _ (0, 0) HC.out
      have c11_4 : w13.cell? ⟨w3.heap.size, 4, none⟩ = some (.slice Ara mra cra) := cell_of_row _ _ 4 _ _ (0, 0) HC.out
      have c11_f : ∀ i, w13.frozen? ⟨w3.heap.size, i, none⟩ = false := fun i => frozen_of_row _ _ i _ _ HC.out
      have d8_0 : w13.cell? ⟨w5.heap.size, 0, none⟩ = some (.int .i64 cl) := cell_of_row _ _ 0 _ _ (0, 0) HD.out
      have d8_1 : w13.cell? ⟨w5.heap.size, 1, none⟩ = some (.int .i64 lb) := cell_of_row _ _ 1 _ _ (0, 0) HD.out
      have d8_2 : w13.cell? ⟨w5.heap.size, 2, none⟩ = some (.slice Afd mfd cfd) := cell_of_row _ _ 2 _ _ (0, 0) HD.out
      have d8_3 : w13.cell? ⟨w5.heap.size, 3, none⟩ = some (.slice Asd msd csd) := cell_of_row _ _ 3 _ _ (0, 0) HD.out
      have d8_4 : w13.cell? ⟨w5.heap.size, 4, none⟩ = some (.slice Ard mrd crd) := cell_of_row _ _ 4 _ _ (0, 0) HD.out
      have d8_f : ∀ i, w13.frozen? ⟨w5.heap.size, i, none⟩ = false := fun i => frozen_of_row _ _ i _ _ HD.out
      obtain ⟨Ay, cy, rfl, hq1, hq2, -⟩ := hr13.open_
      have hrl63 : (compsL n xss).length ≤ 9223372036854775807 := by unfold maxLen at hq2; omega
      obtain ⟨Az, cz, rfl, -⟩ := hp13.open_
      obtain ⟨hl1, hl2, hcf⟩ := comp_facts HG.out hr13 hp13
      have HL3 := Lib.hid (natsI_len (flexL n xss))
      rw [hl1, hl2, HL3.out]
      rw [hl1] at hrl63
      rw [HL3.out] at Rx
      have HCF := Lib.hid hcf
      clear hr13 hp13 hl1 hl2 hcf hq1 hq2
      clear p13_0 p13_1 p13_f
      clear HP HD
      clear c11_0 c11_1 c11_2 c11_3 c11_4 c11_f
      have c0x : w13.cell? ⟨w3.heap.size, 0, none⟩ = some (.int .i64 cl) := cell_of_row _ _ 0 _ _ (0, 0) HC.out
      clear HC
      clear Rfa
      clear Rsa
      clear Rra
      clear Rfd
      clear Rsd
      clear Rrd
      have HI1 := Lib.hid (fun (a : Nat) (h : hasArc xss a a) => loop_flex HG.out h)
      have HI2 := Lib.hid (flex_iff HG.out)
      have HI3 := Lib.hid (parts_iff HG.out)
      obtain ⟨rl, hrl⟩ : ∃ q, q = (roots xss n).length := ⟨_, rfl⟩
      obtain ⟨fl, hfl⟩ : ∃ q, q = (flexL n xss).length := ⟨_, rfl⟩
      rw [← hrl] at HI3 HCF hrl63 ⊢
      rw [← hfl] at HI2 HL3 Rx ⊢
      clear hrl hfl
      by_cases hc : classN n xss = 3
      · have hl3 : lb' = true := by rw [HLB.out]; exact decide_eq_true hc
        obtain ⟨a, hla, hha⟩ := HIL.out hl3
        subst hl3
        obtain rfl : cl = 3 := by rw [HCL.out, hc]; rfl
        have hr0 : ¬ rl = 0 := fun h => by have := HI3.out.1 h; omega
        have hf0 : 0 < fl := HI2.out.2 (by omega)
        have hfi : (0 : Int) < (fl : Int) := by omega
        have hri : ((rl : Int) == 0) = false := by rw [beq_eq_false_iff_ne]; omega
        have HM := Lib.hid (show decide (lo ∈ natsI (flexL n xss)) = true from decide_eq_true (by rw [hla]; exact List.mem_map.2 ⟨a, HI1.out a hha, rfl⟩))
        clear hla hha hc HLB HIL
        go_wp2_with fail
        refine (laws_pHas _ (natsI (flexL n xss)) lo w13 (Rx.out.more (show w12.heap.size ≤ w13.heap.size by omega))).mono ?_
        rintro e w14 ⟨rfl, rfl⟩
        rw [HM.out]
        go_wp2_with fail
        go_loopw [164, 23, 24] (fun i _ _ wr => SiRelL rl w13 i wr) (fun i _ _ _ => rl - (intOf i).toNat)
        case atStart => exact ⟨0, 0, Nat.zero_le _, rfl, rfl⟩
        case round =>
          obtain ⟨k, m, hk, rfl, rfl⟩ := hrel
          by_cases hlt : k < rl
          · obtain ⟨r, ay, az, u, rfl, rfl, y1, y2, y3, y4⟩ := HCF.out k hlt
            obtain ⟨A1', c1', rfl, g1, g2, g3⟩ := y2.open_
            unfold maxLen at g2
            have yd : (w13.drewN m).cell? (ay.add k) = some (.slice A1' (natsI (compL xss r)).length c1') := y1
            have Y4 := Lib.hid y4
            have Y3 := Lib.hid y3
            clear y2 y3 y4
            go_wp2_with fail
            go_loopw [171, 26] (fun i _ wr => SiRelL (natsI (compL xss r)).length (w13.drewN m) i wr) (fun i _ _ => (natsI (compL xss r)).length - (intOf i).toNat)
            case atStart => exact ⟨0, 0, Nat.zero_le _, rfl, rfl⟩
            case round =>
              obtain ⟨j, m2, hj, rfl, rfl⟩ := hrel
              by_cases hjl : j < (natsI (compL xss r)).length
              · obtain ⟨x, hx⟩ : ∃ x, (natsI (compL xss r))[j]? = some x := ⟨_, List.getElem?_eq_getElem hjl⟩
                obtain ⟨ad1, rfl, hb1', hc1⟩ := g3 (by omega)
                have x1 : w13.cell? (ad1.add j) = some (.int .i64 x) := hc1 j x hx
                have x2 : ((w13.drewN m).drewN m2).cell? (ad1.add j) = some (.int .i64 x) := x1
                have z1 := Y3.out
                have z2 : ((w13.drewN m).drewN m2).cell? (az.add k) = some (.int .i64 (perA n xss r : Int)) := z1
                have HB := Lib.hid (Y4.out x (List.mem_of_getElem? hx))
                clear hx hc1
                generalize hpb : ((perA n xss r : Int) == 1) = pb at *
                go_wp2_with fail
                go_quiet ((go_at_call 15; exact quiet_more (laws_pHasQ _ (natsI (flexL n xss)) x pb _ (((Rx.out.more (show w12.heap.size ≤ w13.heap.size by omega)).more (Nat.le_refl _)).below (bl_drewN (Below.refl _ _) _)) HB.out)))
                go_wp2_with fail
                go_roundw
                case rel => exact ⟨j + 1, m2 + nq, by omega, by go_num, by first | rfl | rw [World.drewN_drewN, Nat.add_assoc]⟩
                case measure => simp [intOf]; omega
              · go_wp2_with fail
                go_roundw
                case rel => exact ⟨k + 1, m + m2, by omega, by go_num, by first | rfl | rw [World.drewN_drewN]⟩
                case measure => simp [intOf]; omega
          · obtain ⟨wl, hwl⟩ : ∃ z, z = w13.drewN m := ⟨_, rfl⟩
            have hbl : Below w13.heap.size w13 wl := by rw [hwl]; exact bl_drewN (Below.refl _ _) _
            have hkl : k = rl := by omega
            go_wp2_with fail
            rw [← hwl]
            clear hwl HCF hlt
            have hz17 := hbl.size
            replace hB := bl_trans hB hbl
            replace Rb := Lib.hid (Rb.out.below (hbl.mono (show w.heap.size ≤ w13.heap.size by omega)))
            replace Rp := Lib.hid (Rp.out.below (hbl.mono (show w1.heap.size ≤ w13.heap.size by omega)))
            replace Rx := Lib.hid (Rx.out.below (hbl.mono (show w12.heap.size ≤ w13.heap.size by omega)))
            clear Rp
            clear Rx
            refine (spec_DrawCheckWalkCertificate _ wl (Rb.out.more (show w.heap.size ≤ wl.heap.size by omega))).mono ?_
            rintro e w40 ⟨n2, v2, cl2, lb2, vf2, vs2, vr2, xss2, F2, S2, R2, rfl, e1, e2, e3, e4, e5, e6, e7, e8, e9, e10, e11, hbw40⟩
            have hz18 := hbw40.size
            replace hB := bl_trans hB hbw40
            replace Rb := Lib.hid (Rb.out.below (hbw40.mono (show w.heap.size ≤ wl.heap.size by omega)))
            clear Rb
            have Rp := Lib.hid e1
            have Rf := Lib.hid e2
            have Rs := Lib.hid e3
            have Rr := Lib.hid e4
            obtain ⟨Av2, lv2, kv2, rfl⟩ := e1.sl
            obtain ⟨Af2, cf2, rfl, -⟩ := e2.open_
            obtain ⟨As2, cs2, rfl, -⟩ := e3.open_
            obtain ⟨Ar2, cr2, rfl, -⟩ := e4.open_
            clear e1 e2 e3 e4
            go_wp2_with fail
            obtain ⟨w41, hww41⟩ : ∃ z, z = (w40.alloc (.cells #[.int .i64 (n2 : Int), .slice Av2 lv2 kv2] 26)).alloc (.cells #[.int .i64 cl2, .int .i64 lb2, .slice Af2 F2.length cf2, .slice As2 S2.length cs2, .slice Ar2 R2.length cr2] 30) := ⟨_, rfl⟩
            have hbw41 : Below w40.heap.size w40 w41 := by rw [hww41]; exact bl_alloc (bl_alloc (Below.refl _ _) _) _
            have hszw41 : (w40.alloc (.cells #[.int .i64 (n2 : Int), .slice Av2 lv2 kv2] 26)).heap.size = w40.heap.size + 1 := by simp
            have HP := Lib.hid (show w41.heap[w40.heap.size]? = some (.cells #[.int .i64 (n2 : Int), .slice Av2 lv2 kv2] 26 (0, 0)) by rw [hww41]; exact ((bl_alloc (Below.refl _ _) _).block _ (by omega)).trans (heap_alloc_new _ _))
            have HC := Lib.hid (show w41.heap[w40.heap.size + 1]? = some (.cells #[.int .i64 cl2, .int .i64 lb2, .slice Af2 F2.length cf2, .slice As2 S2.length cs2, .slice Ar2 R2.length cr2] 30 (0, 0)) by rw [hww41, ← hszw41]; exact heap_alloc_new _ _)
            have hltw41 : w40.heap.size + 1 < w41.heap.size := heap_lt HC.out
            rw [← hww41]
            clear hww41 hszw41
            have hz19 := hbw41.size
            replace hB := bl_trans hB hbw41
            replace Rp := Lib.hid (Rp.out.below (hbw41.mono (show w40.heap.size ≤ w40.heap.size by omega)))
            replace Rf := Lib.hid (Rf.out.below (hbw41.mono (show w40.heap.size ≤ w40.heap.size by omega)))
            replace Rs := Lib.hid (Rs.out.below (hbw41.mono (show w40.heap.size ≤ w40.heap.size by omega)))
            replace Rr := Lib.hid (Rr.out.below (hbw41.mono (show w40.heap.size ≤ w40.heap.size by omega)))
            have p1_0 : w41.cell? ⟨w40.heap.size, 0, none⟩ = some (.int .i64 (n2 : Int)) := cell_of_row _ _ 0 _ _ (0, 0) HP.out
            have p1_1 : w41.cell? ⟨w40.heap.size, 1, none⟩ = some (.slice Av2 lv2 kv2) := cell_of_row _ _ 1 _ _ (0, 0) HP.out
            have p1_f : ∀ i, w41.frozen? ⟨w40.heap.size, i, none⟩ = false := fun i => frozen_of_row _ _ i _ _ HP.out
            have c1_0 : w41.cell? ⟨w40.heap.size + 1, 0, none⟩ = some (.int .i64 cl2) := cell_of_row _ _ 0 _ _ (0, 0) HC.out
            have c1_1 : w41.cell? ⟨w40.heap.size + 1, 1, none⟩ = some (.int .i64 lb2) := cell_of_row _ _ 1 _ _ (0, 0) HC.out
            have c1_2 : w41.cell? ⟨w40.heap.size + 1, 2, none⟩ = some (.slice Af2 F2.length cf2) := cell_of_row _ _ 2 _ _ (0, 0) HC.out
            have c1_3 : w41.cell? ⟨w40.heap.size + 1, 3, none⟩ = some (.slice As2 S2.length cs2) := cell_of_row _ _ 3 _ _ (0, 0) HC.out
            have c1_4 : w41.cell? ⟨w40.heap.size + 1, 4, none⟩ = some (.slice Ar2 R2.length cr2) := cell_of_row _ _ 4 _ _ (0, 0) HC.out
            have c1_f : ∀ i, w41.frozen? ⟨w40.heap.size + 1, i, none⟩ = false := fun i => frozen_of_row _ _ i _ _ HC.out
            have J5 := Lib.hid (fun (W : World) (h1 : RowsR W W.heap.size (.slice Av2 lv2 kv2) xss2) (h2 : IntsR W W.heap.size (.slice Af2 F2.length cf2) F2) (h3 : IntsR W W.heap.size (.slice As2 S2.length cs2) S2) (h4 : RowsR W W.heap.size (.slice Ar2 R2.length cr2) R2) => impl_CheckWalkCertificate (n2 : Int) _ _ _ _ xss2 cl2 lb2 F2 S2 R2 W h1 h2 h3 h4 ⟨by omega, by omega, by omega⟩ e11)
            have J6 := Lib.hid (fun (W : World) (h1 : RowsR W W.heap.size (.slice Av2 lv2 kv2) xss2) (h2 : IntsR W W.heap.size (.slice Af2 F2.length cf2) F2) (h3 : IntsR W W.heap.size (.slice As2 S2.length cs2) S2) (h4 : RowsR W W.heap.size (.slice Ar2 R2.length cr2) R2) => spec_CheckWalkCertificate (n2 : Int) _ _ _ _ xss2 cl2 lb2 F2 S2 R2 W h1 h2 h3 h4 ⟨by omega, by omega, by omega⟩ e11)
            have J7 := Lib.hid (fun (W : World) (h1 : RowsR W W.heap.size (.slice Av2 lv2 kv2) xss2) => impl_ClassOfWalk (n2 : Int) _ xss2 W h1)
            have HK := Lib.hid (ck_class (n := n2) (xss := xss2) (cl := cl2) (lb := lb2) (f := F2) (s := S2) (rs := R2))
            generalize ckB (n2 : Int) xss2 cl2 lb2 F2 S2 R2 = ck at *
            generalize goodB (n2 : Int) xss2 = ok2 at *
            generalize ceCl (n2 : Int) xss2 = q2 at *
            clear e5 e6 e7 e8 e9 e10 e11
            refine (J5.out w41 (Rp.out.more (show w40.heap.size ≤ w41.heap.size by omega)) (Rf.out.more (show w40.heap.size ≤ w41.heap.size by omega)) (Rs.out.more (show w40.heap.size ≤ w41.heap.size by omega)) (Rr.out.more (show w40.heap.size ≤ w41.heap.size by omega))).mono ?_
            rintro e w42 ⟨rfl, hbw42⟩
            have hz20 := hbw42.size
            replace hB := bl_trans hB hbw42
            clear p1_0 p1_1 p1_f
            replace HP := Lib.hid ((hbw42.block (w40.heap.size) (show w40.heap.size < w41.heap.size by omega)).trans HP.out)
            clear c1_0 c1_1 c1_2 c1_3 c1_4 c1_f
            replace HC := Lib.hid ((hbw42.block (w40.heap.size + 1) (show w40.heap.size + 1 < w41.heap.size by omega)).trans HC.out)
            replace Rp := Lib.hid (Rp.out.below (hbw42.mono (show w40.heap.size ≤ w41.heap.size by omega)))
            replace Rf := Lib.hid (Rf.out.below (hbw42.mono (show w40.heap.size ≤ w41.heap.size by omega)))
            replace Rs := Lib.hid (Rs.out.below (hbw42.mono (show w40.heap.size ≤ w41.heap.size by omega)))
            replace Rr := Lib.hid (Rr.out.below (hbw42.mono (show w40.heap.size ≤ w41.heap.size by omega)))
            have p2_0 : w42.cell? ⟨w40.heap.size, 0, none⟩ = some (.int .i64 (n2 : Int)) := cell_of_row _ _ 0 _ _ (0, 0) HP.out
            have p2_1 : w42.cell? ⟨w40.heap.size, 1, none⟩ = some (.slice Av2 lv2 kv2) := cell_of_row _ _ 1 _ _ (0, 0) HP.out
            have p2_f : ∀ i, w42.frozen? ⟨w40.heap.size, i, none⟩ = false := fun i => frozen_of_row _ _ i _ _ HP.out
            have c2_0 : w42.cell? ⟨w40.heap.size + 1, 0, none⟩ = some (.int .i64 cl2) := cell_of_row _ _ 0 _ _ (0, 0) HC.out
            have c2_1 : w42.cell? ⟨w40.heap.size + 1, 1, none⟩ = some (.int .i64 lb2) := cell_of_row _ _ 1 _ _ (0, 0) HC.out
            have c2_2 : w42.cell? ⟨w40.heap.size + 1, 2, none⟩ = some (.slice Af2 F2.length cf2) := cell_of_row _ _ 2 _ _ (0, 0) HC.out
            have c2_3 : w42.cell? ⟨w40.heap.size + 1, 3, none⟩ = some (.slice As2 S2.length cs2) := cell_of_row _ _ 3 _ _ (0, 0) HC.out
            have c2_4 : w42.cell? ⟨w40.heap.size + 1, 4, none⟩ = some (.slice Ar2 R2.length cr2) := cell_of_row _ _ 4 _ _ (0, 0) HC.out
            have c2_f : ∀ i, w42.frozen? ⟨w40.heap.size + 1, i, none⟩ = false := fun i => frozen_of_row _ _ i _ _ HC.out
            go_wp2_with fail
            refine (J6.out w42 (Rp.out.more (show w40.heap.size ≤ w42.heap.size by omega)) (Rf.out.more (show w40.heap.size ≤ w42.heap.size by omega)) (Rs.out.more (show w40.heap.size ≤ w42.heap.size by omega)) (Rr.out.more (show w40.heap.size ≤ w42.heap.size by omega))).mono ?_
            rintro e w43 ⟨rfl, hbw43⟩
            have hz21 := hbw43.size
            replace hB := bl_trans hB hbw43
            clear p2_0 p2_1 p2_f
            replace HP := Lib.hid ((hbw43.block (w40.heap.size) (show w40.heap.size < w42.heap.size by omega)).trans HP.out)
            clear c2_0 c2_1 c2_2 c2_3 c2_4 c2_f
            replace HC := Lib.hid ((hbw43.block (w40.heap.size + 1) (show w40.heap.size + 1 < w42.heap.size by omega)).trans HC.out)
            replace Rp := Lib.hid (Rp.out.below (hbw43.mono (show w40.heap.size ≤ w42.heap.size by omega)))
            replace Rf := Lib.hid (Rf.out.below (hbw43.mono (show w40.heap.size ≤ w42.heap.size by omega)))
            replace Rs := Lib.hid (Rs.out.below (hbw43.mono (show w40.heap.size ≤ w42.heap.size by omega)))
            replace Rr := Lib.hid (Rr.out.below (hbw43.mono (show w40.heap.size ≤ w42.heap.size by omega)))
            have p3_0 : w43.cell? ⟨w40.heap.size, 0, none⟩ = some (.int .i64 (n2 : Int)) := cell_of_row _ _ 0 _ _ (0, 0) HP.out
            have p3_1 : w43.cell? ⟨w40.heap.size, 1, none⟩ = some (.slice Av2 lv2 kv2) := cell_of_row _ _ 1 _ _ (0, 0) HP.out
            have p3_f : ∀ i, w43.frozen? ⟨w40.heap.size, i, none⟩ = false := fun i => frozen_of_row _ _ i _ _ HP.out
            have c3_0 : w43.cell? ⟨w40.heap.size + 1, 0, none⟩ = some (.int .i64 cl2) := cell_of_row _ _ 0 _ _ (0, 0) HC.out
            have c3_1 : w43.cell? ⟨w40.heap.size + 1, 1, none⟩ = some (.int .i64 lb2) := cell_of_row _ _ 1 _ _ (0, 0) HC.out
            have c3_2 : w43.cell? ⟨w40.heap.size + 1, 2, none⟩ = some (.slice Af2 F2.length cf2) := cell_of_row _ _ 2 _ _ (0, 0) HC.out
            have c3_3 : w43.cell? ⟨w40.heap.size + 1, 3, none⟩ = some (.slice As2 S2.length cs2) := cell_of_row _ _ 3 _ _ (0, 0) HC.out
            have c3_4 : w43.cell? ⟨w40.heap.size + 1, 4, none⟩ = some (.slice Ar2 R2.length cr2) := cell_of_row _ _ 4 _ _ (0, 0) HC.out
            have c3_f : ∀ i, w43.frozen? ⟨w40.heap.size + 1, i, none⟩ = false := fun i => frozen_of_row _ _ i _ _ HC.out
            cases ok2 with
            | false =>
              go_wp2_with fail
              go_ret
              exact ⟨rfl, hB⟩
            | true =>
              cases ck with
              | false =>
                go_wp2_with fail
                go_ret
                exact ⟨rfl, hB⟩
              | true =>
                obtain rfl := HK.out rfl rfl
                go_wp2_with fail
                refine (J7.out w43 (Rp.out.more (show w40.heap.size ≤ w43.heap.size by omega))).mono ?_
                rintro e w44 ⟨rfl, hbw44⟩
                have hz22 := hbw44.size
                replace hB := bl_trans hB hbw44
                clear p3_0 p3_1 p3_f
                replace HP := Lib.hid ((hbw44.block (w40.heap.size) (show w40.heap.size < w43.heap.size by omega)).trans HP.out)
                clear c3_0 c3_1 c3_2 c3_3 c3_4 c3_f
                replace HC := Lib.hid ((hbw44.block (w40.heap.size + 1) (show w40.heap.size + 1 < w43.heap.size by omega)).trans HC.out)
                replace Rp := Lib.hid (Rp.out.below (hbw44.mono (show w40.heap.size ≤ w43.heap.size by omega)))
                replace Rf := Lib.hid (Rf.out.below (hbw44.mono (show w40.heap.size ≤ w43.heap.size by omega)))
                replace Rs := Lib.hid (Rs.out.below (hbw44.mono (show w40.heap.size ≤ w43.heap.size by omega)))
                replace Rr := Lib.hid (Rr.out.below (hbw44.mono (show w40.heap.size ≤ w43.heap.size by omega)))
                have p4_0 : w44.cell? ⟨w40.heap.size, 0, none⟩ = some (.int .i64 (n2 : Int)) := cell_of_row _ _ 0 _ _ (0, 0) HP.out
                have p4_1 : w44.cell? ⟨w40.heap.size, 1, none⟩ = some (.slice Av2 lv2 kv2) := cell_of_row _ _ 1 _ _ (0, 0) HP.out
                have p4_f : ∀ i, w44.frozen? ⟨w40.heap.size, i, none⟩ = false := fun i => frozen_of_row _ _ i _ _ HP.out
                have c4_0 : w44.cell? ⟨w40.heap.size + 1, 0, none⟩ = some (.int .i64 cl2) := cell_of_row _ _ 0 _ _ (0, 0) HC.out
                have c4_1 : w44.cell? ⟨w40.heap.size + 1, 1, none⟩ = some (.int .i64 lb2) := cell_of_row _ _ 1 _ _ (0, 0) HC.out
                have c4_2 : w44.cell? ⟨w40.heap.size + 1, 2, none⟩ = some (.slice Af2 F2.length cf2) := cell_of_row _ _ 2 _ _ (0, 0) HC.out
                have c4_3 : w44.cell? ⟨w40.heap.size + 1, 3, none⟩ = some (.slice As2 S2.length cs2) := cell_of_row _ _ 3 _ _ (0, 0) HC.out
                have c4_4 : w44.cell? ⟨w40.heap.size + 1, 4, none⟩ = some (.slice Ar2 R2.length cr2) := cell_of_row _ _ 4 _ _ (0, 0) HC.out
                have c4_f : ∀ i, w44.frozen? ⟨w40.heap.size + 1, i, none⟩ = false := fun i => frozen_of_row _ _ i _ _ HC.out
                go_wp2_with fail
                go_ret
                exact ⟨by simp, hB⟩
      · have hl3 : lb' = false := by rw [HLB.out]; exact decide_eq_false hc
        subst hl3
        have hc3 : (cl == 3) = false := by rw [beq_eq_false_iff_ne]; have := HCL.out; omega
        have hri : ((rl : Int) == 0) = (cl == 0) := by
          have := HCL.out
          by_cases h0 : rl = 0
          · have := HI3.out.1 h0
            rw [show cl = 0 by omega, h0]; rfl
          · have h1 : ¬ classN n xss = 0 := fun h => h0 (HI3.out.2 h)
            rw [beq_eq_false_iff_ne.2 (show (rl : Int) ≠ 0 by omega), beq_eq_false_iff_ne.2 (show cl ≠ 0 by omega)]
        have hfi : (0 < fl) = (2 ≤ cl) := by
          have := HCL.out
          have := HI2.out
          exact propext ⟨fun h => by have := this.1 (by omega); omega, fun h => by have := this.2 (by omega); omega⟩
        clear hc HLB HIL
        go_wp2_with fail
        go_loopw [164, 23, 24] (fun i _ _ wr => SiRelL rl w13 i wr) (fun i _ _ _ => rl - (intOf i).toNat)
        case atStart => exact ⟨0, 0, Nat.zero_le _, rfl, rfl⟩
        case round =>
          obtain ⟨k, m, hk, rfl, rfl⟩ := hrel
          by_cases hlt : k < rl
          · obtain ⟨r, ay, az, u, rfl, rfl, y1, y2, y3, y4⟩ := HCF.out k hlt
            obtain ⟨A1', c1', rfl, g1, g2, g3⟩ := y2.open_
            unfold maxLen at g2
            have yd : (w13.drewN m).cell? (ay.add k) = some (.slice A1' (natsI (compL xss r)).length c1') := y1
            have Y4 := Lib.hid y4
            have Y3 := Lib.hid y3
            clear y2 y3 y4
            go_wp2_with fail
            go_loopw [171, 26] (fun i _ wr => SiRelL (natsI (compL xss r)).length (w13.drewN m) i wr) (fun i _ _ => (natsI (compL xss r)).length - (intOf i).toNat)
            case atStart => exact ⟨0, 0, Nat.zero_le _, rfl, rfl⟩
            case round =>
              obtain ⟨j, m2, hj, rfl, rfl⟩ := hrel
              by_cases hjl : j < (natsI (compL xss r)).length
              · obtain ⟨x, hx⟩ : ∃ x, (natsI (compL xss r))[j]? = some x := ⟨_, List.getElem?_eq_getElem hjl⟩
                obtain ⟨ad1, rfl, hb1', hc1⟩ := g3 (by omega)
                have x1 : w13.cell? (ad1.add j) = some (.int .i64 x) := hc1 j x hx
                have x2 : ((w13.drewN m).drewN m2).cell? (ad1.add j) = some (.int .i64 x) := x1
                have z1 := Y3.out
                have z2 : ((w13.drewN m).drewN m2).cell? (az.add k) = some (.int .i64 (perA n xss r : Int)) := z1
                have HB := Lib.hid (Y4.out x (List.mem_of_getElem? hx))
                clear hx hc1
                generalize hpb : ((perA n xss r : Int) == 1) = pb at *
                go_wp2_with fail
                go_quiet ((go_at_call 15; exact quiet_more (laws_pHasQ _ (natsI (flexL n xss)) x pb _ (((Rx.out.more (show w12.heap.size ≤ w13.heap.size by omega)).more (Nat.le_refl _)).below (bl_drewN (Below.refl _ _) _)) HB.out)))
                go_wp2_with fail
                go_roundw
                case rel => exact ⟨j + 1, m2 + nq, by omega, by go_num, by first | rfl | rw [World.drewN_drewN, Nat.add_assoc]⟩
                case measure => simp [intOf]; omega
              · go_wp2_with fail
                go_roundw
                case rel => exact ⟨k + 1, m + m2, by omega, by go_num, by first | rfl | rw [World.drewN_drewN]⟩
                case measure => simp [intOf]; omega
          · obtain ⟨wl, hwl⟩ : ∃ z, z = w13.drewN m := ⟨_, rfl⟩
            have hbl : Below w13.heap.size w13 wl := by rw [hwl]; exact bl_drewN (Below.refl _ _) _
            have hkl : k = rl := by omega
            go_wp2_with fail
            rw [← hwl]
            clear hwl HCF hlt
            have hz17 := hbl.size
            replace hB := bl_trans hB hbl
            replace Rb := Lib.hid (Rb.out.below (hbl.mono (show w.heap.size ≤ w13.heap.size by omega)))
            replace Rp := Lib.hid (Rp.out.below (hbl.mono (show w1.heap.size ≤ w13.heap.size by omega)))
            replace Rx := Lib.hid (Rx.out.below (hbl.mono (show w12.heap.size ≤ w13.heap.size by omega)))
            clear Rp
            clear Rx
            refine (spec_DrawCheckWalkCertificate _ wl (Rb.out.more (show w.heap.size ≤ wl.heap.size by omega))).mono ?_
            rintro e w60 ⟨n2, v2, cl2, lb2, vf2, vs2, vr2, xss2, F2, S2, R2, rfl, e1, e2, e3, e4, e5, e6, e7, e8, e9, e10, e11, hbw60⟩
            have hz18 := hbw60.size
            replace hB := bl_trans hB hbw60
            replace Rb := Lib.hid (Rb.out.below (hbw60.mono (show w.heap.size ≤ wl.heap.size by omega)))
            clear Rb
            have Rp := Lib.hid e1
            have Rf := Lib.hid e2
            have Rs := Lib.hid e3
            have Rr := Lib.hid e4
            obtain ⟨Av2, lv2, kv2, rfl⟩ := e1.sl
            obtain ⟨Af2, cf2, rfl, -⟩ := e2.open_
            obtain ⟨As2, cs2, rfl, -⟩ := e3.open_
            obtain ⟨Ar2, cr2, rfl, -⟩ := e4.open_
            clear e1 e2 e3 e4
            go_wp2_with fail
            obtain ⟨w61, hww61⟩ : ∃ z, z = (w60.alloc (.cells #[.int .i64 (n2 : Int), .slice Av2 lv2 kv2] 26)).alloc (.cells #[.int .i64 cl2, .int .i64 lb2, .slice Af2 F2.length cf2, .slice As2 S2.length cs2, .slice Ar2 R2.length cr2] 30) := ⟨_, rfl⟩
            have hbw61 : Below w60.heap.size w60 w61 := by rw [hww61]; exact bl_alloc (bl_alloc (Below.refl _ _) _) _
            have hszw61 : (w60.alloc (.cells #[.int .i64 (n2 : Int), .slice Av2 lv2 kv2] 26)).heap.size = w60.heap.size + 1 := by simp
            have HP := Lib.hid (show w61.heap[w60.heap.size]? = some (.cells #[.int .i64 (n2 : Int), .slice Av2 lv2 kv2] 26 (0, 0)) by rw [hww61]; exact ((bl_alloc (Below.refl _ _) _).block _ (by omega)).trans (heap_alloc_new _ _))
            have HC := Lib.hid (show w61.heap[w60.heap.size + 1]? = some (.cells #[.int .i64 cl2, .int .i64 lb2, .slice Af2 F2.length cf2, .slice As2 S2.length cs2, .slice Ar2 R2.length cr2] 30 (0, 0)) by rw [hww61, ← hszw61]; exact heap_alloc_new _ _)
            have hltw61 : w60.heap.size + 1 < w61.heap.size := heap_lt HC.out
            rw [← hww61]
            clear hww61 hszw61
            have hz19 := hbw61.size
            replace hB := bl_trans hB hbw61
            replace Rp := Lib.hid (Rp.out.below (hbw61.mono (show w60.heap.size ≤ w60.heap.size by omega)))
            replace Rf := Lib.hid (Rf.out.below (hbw61.mono (show w60.heap.size ≤ w60.heap.size by omega)))
            replace Rs := Lib.hid (Rs.out.below (hbw61.mono (show w60.heap.size ≤ w60.heap.size by omega)))
            replace Rr := Lib.hid (Rr.out.below (hbw61.mono (show w60.heap.size ≤ w60.heap.size by omega)))
            have p1_0 : w61.cell? ⟨w60.heap.size, 0, none⟩ = some (.int .i64 (n2 : Int)) := cell_of_row _ _ 0 _ _ (0, 0) HP.out
            have p1_1 : w61.cell? ⟨w60.heap.size, 1, none⟩ = some (.slice Av2 lv2 kv2) := cell_of_row _ _ 1 _ _ (0, 0) HP.out
            have p1_f : ∀ i, w61.frozen? ⟨w60.heap.size, i, none⟩ = false := fun i => frozen_of_row _ _ i _ _ HP.out
            have c1_0 : w61.cell? ⟨w60.heap.size + 1, 0, none⟩ = some (.int .i64 cl2) := cell_of_row _ _ 0 _ _ (0, 0) HC.out
            have c1_1 : w61.cell? ⟨w60.heap.size + 1, 1, none⟩ = some (.int .i64 lb2) := cell_of_row _ _ 1 _ _ (0, 0) HC.out
            have c1_2 : w61.cell? ⟨w60.heap.size + 1, 2, none⟩ = some (.slice Af2 F2.length cf2) := cell_of_row _ _ 2 _ _ (0, 0) HC.out
            have c1_3 : w61.cell? ⟨w60.heap.size + 1, 3, none⟩ = some (.slice As2 S2.length cs2) := cell_of_row _ _ 3 _ _ (0, 0) HC.out
            have c1_4 : w61.cell? ⟨w60.heap.size + 1, 4, none⟩ = some (.slice Ar2 R2.length cr2) := cell_of_row _ _ 4 _ _ (0, 0) HC.out
            have c1_f : ∀ i, w61.frozen? ⟨w60.heap.size + 1, i, none⟩ = false := fun i => frozen_of_row _ _ i _ _ HC.out
            have J5 := Lib.hid (fun (W : World) (h1 : RowsR W W.heap.size (.slice Av2 lv2 kv2) xss2) (h2 : IntsR W W.heap.size (.slice Af2 F2.length cf2) F2) (h3 : IntsR W W.heap.size (.slice As2 S2.length cs2) S2) (h4 : RowsR W W.heap.size (.slice Ar2 R2.length cr2) R2) => impl_CheckWalkCertificate (n2 : Int) _ _ _ _ xss2 cl2 lb2 F2 S2 R2 W h1 h2 h3 h4 ⟨by omega, by omega, by omega⟩ e11)
            have J6 := Lib.hid (fun (W : World) (h1 : RowsR W W.heap.size (.slice Av2 lv2 kv2) xss2) (h2 : IntsR W W.heap.size (.slice Af2 F2.length cf2) F2) (h3 : IntsR W W.heap.size (.slice As2 S2.length cs2) S2) (h4 : RowsR W W.heap.size (.slice Ar2 R2.length cr2) R2) => spec_CheckWalkCertificate (n2 : Int) _ _ _ _ xss2 cl2 lb2 F2 S2 R2 W h1 h2 h3 h4 ⟨by omega, by omega, by omega⟩ e11)
            have J7 := Lib.hid (fun (W : World) (h1 : RowsR W W.heap.size (.slice Av2 lv2 kv2) xss2) => impl_ClassOfWalk (n2 : Int) _ xss2 W h1)
            have HK := Lib.hid (ck_class (n := n2) (xss := xss2) (cl := cl2) (lb := lb2) (f := F2) (s := S2) (rs := R2))
            generalize ckB (n2 : Int) xss2 cl2 lb2 F2 S2 R2 = ck at *
            generalize goodB (n2 : Int) xss2 = ok2 at *
            generalize ceCl (n2 : Int) xss2 = q2 at *
            clear e5 e6 e7 e8 e9 e10 e11
            refine (J5.out w61 (Rp.out.more (show w60.heap.size ≤ w61.heap.size by omega)) (Rf.out.more (show w60.heap.size ≤ w61.heap.size by omega)) (Rs.out.more (show w60.heap.size ≤ w61.heap.size by omega)) (Rr.out.more (show w60.heap.size ≤ w61.heap.size by omega))).mono ?_
            rintro e w62 ⟨rfl, hbw62⟩
            have hz20 := hbw62.size
            replace hB := bl_trans hB hbw62
            clear p1_0 p1_1 p1_f
            replace HP := Lib.hid ((hbw62.block (w60.heap.size) (show w60.heap.size < w61.heap.size by omega)).trans HP.out)
            clear c1_0 c1_1 c1_2 c1_3 c1_4 c1_f
            replace HC := Lib.hid ((hbw62.block (w60.heap.size + 1) (show w60.heap.size + 1 < w61.heap.size by omega)).trans HC.out)
            replace Rp := Lib.hid (Rp.out.below (hbw62.mono (show w60.heap.size ≤ w61.heap.size by omega)))
            replace Rf := Lib.hid (Rf.out.below (hbw62.mono (show w60.heap.size ≤ w61.heap.size by omega)))
            replace Rs := Lib.hid (Rs.out.below (hbw62.mono (show w60.heap.size ≤ w61.heap.size by omega)))
            replace Rr := Lib.hid (Rr.out.below (hbw62.mono (show w60.heap.size ≤ w61.heap.size by omega)))
            have p2_0 : w62.cell? ⟨w60.heap.size, 0, none⟩ = some (.int .i64 (n2 : Int)) := cell_of_row _ _ 0 _ _ (0, 0) HP.out
            have p2_1 : w62.cell? ⟨w60.heap.size, 1, none⟩ = some (.slice Av2 lv2 kv2) := cell_of_row _ _ 1 _ _ (0, 0) HP.out
            have p2_f : ∀ i, w62.frozen? ⟨w60.heap.size, i, none⟩ = false := fun i => frozen_of_row _ _ i _ _ HP.out
            have c2_0 : w62.cell? ⟨w60.heap.size + 1, 0, none⟩ = some (.int .i64 cl2) := cell_of_row _ _ 0 _ _ (0, 0) HC.out
            have c2_1 : w62.cell? ⟨w60.heap.size + 1, 1, none⟩ = some (.int .i64 lb2) := cell_of_row _ _ 1 _ _ (0, 0) HC.out
            have c2_2 : w62.cell? ⟨w60.heap.size + 1, 2, none⟩ = some (.slice Af2 F2.length cf2) := cell_of_row _ _ 2 _ _ (0, 0) HC.out
            have c2_3 : w62.cell? ⟨w60.heap.size + 1, 3, none⟩ = some (.slice As2 S2.length cs2) := cell_of_row _ _ 3 _ _ (0, 0) HC.out
            have c2_4 : w62.cell? ⟨w60.heap.size + 1, 4, none⟩ = some (.slice Ar2 R2.length cr2) := cell_of_row _ _ 4 _ _ (0, 0) HC.out
            have c2_f : ∀ i, w62.frozen? ⟨w60.heap.size + 1, i, none⟩ = false := fun i => frozen_of_row _ _ i _ _ HC.out
            go_wp2_with fail
            refine (J6.out w62 (Rp.out.more (show w60.heap.size ≤ w62.heap.size by omega)) (Rf.out.more (show w60.heap.size ≤ w62.heap.size by omega)) (Rs.out.more (show w60.heap.size ≤ w62.heap.size by omega)) (Rr.out.more (show w60.heap.size ≤ w62.heap.size by omega))).mono ?_
            rintro e w63 ⟨rfl, hbw63⟩
            have hz21 := hbw63.size
            replace hB := bl_trans hB hbw63
            clear p2_0 p2_1 p2_f
            replace HP := Lib.hid ((hbw63.block (w60.heap.size) (show w60.heap.size < w62.heap.size by omega)).trans HP.out)
            clear c2_0 c2_1 c2_2 c2_3 c2_4 c2_f
            replace HC := Lib.hid ((hbw63.block (w60.heap.size + 1) (show w60.heap.size + 1 < w62.heap.size by omega)).trans HC.out)
            replace Rp := Lib.hid (Rp.out.below (hbw63.mono (show w60.heap.size ≤ w62.heap.size by omega)))
            replace Rf := Lib.hid (Rf.out.below (hbw63.mono (show w60.heap.size ≤ w62.heap.size by omega)))
            replace Rs := Lib.hid (Rs.out.below (hbw63.mono (show w60.heap.size ≤ w62.heap.size by omega)))
            replace Rr := Lib.hid (Rr.out.below (hbw63.mono (show w60.heap.size ≤ w62.heap.size by omega)))
            have p3_0 : w63.cell? ⟨w60.heap.size, 0, none⟩ = some (.int .i64 (n2 : Int)) := cell_of_row _ _ 0 _ _ (0, 0) HP.out
            have p3_1 : w63.cell? ⟨w60.heap.size, 1, none⟩ = some (.slice Av2 lv2 kv2) := cell_of_row _ _ 1 _ _ (0, 0) HP.out
            have p3_f : ∀ i, w63.frozen? ⟨w60.heap.size, i, none⟩ = false := fun i => frozen_of_row _ _ i _ _ HP.out
            have c3_0 : w63.cell? ⟨w60.heap.size + 1, 0, none⟩ = some (.int .i64 cl2) := cell_of_row _ _ 0 _ _ (0, 0) HC.out
            have c3_1 : w63.cell? ⟨w60.heap.size + 1, 1, none⟩ = some (.int .i64 lb2) := cell_of_row _ _ 1 _ _ (0, 0) HC.out
            have c3_2 : w63.cell? ⟨w60.heap.size + 1, 2, none⟩ = some (.slice Af2 F2.length cf2) := cell_of_row _ _ 2 _ _ (0, 0) HC.out
            have c3_3 : w63.cell? ⟨w60.heap.size + 1, 3, none⟩ = some (.slice As2 S2.length cs2) := cell_of_row _ _ 3 _ _ (0, 0) HC.out
            have c3_4 : w63.cell? ⟨w60.heap.size + 1, 4, none⟩ = some (.slice Ar2 R2.length cr2) := cell_of_row _ _ 4 _ _ (0, 0) HC.out
            have c3_f : ∀ i, w63.frozen? ⟨w60.heap.size + 1, i, none⟩ = false := fun i => frozen_of_row _ _ i _ _ HC.out
            cases ok2 with
            | false =>
              go_wp2_with fail
              go_ret
              exact ⟨rfl, hB⟩
            | true =>
              cases ck with
              | false =>
                go_wp2_with fail
                go_ret
                exact ⟨rfl, hB⟩
              | true =>
                obtain rfl := HK.out rfl rfl
                go_wp2_with fail
                refine (J7.out w63 (Rp.out.more (show w60.heap.size ≤ w63.heap.size by omega))).mono ?_
                rintro e w64 ⟨rfl, hbw64⟩
                have hz22 := hbw64.size
                replace hB := bl_trans hB hbw64
                clear p3_0 p3_1 p3_f
                replace HP := Lib.hid ((hbw64.block (w60.heap.size) (show w60.heap.size < w63.heap.size by omega)).trans HP.out)
                clear c3_0 c3_1 c3_2 c3_3 c3_4 c3_f
                replace HC := Lib.hid ((hbw64.block (w60.heap.size + 1) (show w60.heap.size + 1 < w63.heap.size by omega)).trans HC.out)
                replace Rp := Lib.hid (Rp.out.below (hbw64.mono (show w60.heap.size ≤ w63.heap.size by omega)))
                replace Rf := Lib.hid (Rf.out.below (hbw64.mono (show w60.heap.size ≤ w63.heap.size by omega)))
                replace Rs := Lib.hid (Rs.out.below (hbw64.mono (show w60.heap.size ≤ w63.heap.size by omega)))
                replace Rr := Lib.hid (Rr.out.below (hbw64.mono (show w60.heap.size ≤ w63.heap.size by omega)))
                have p4_0 : w64.cell? ⟨w60.heap.size, 0, none⟩ = some (.int .i64 (n2 : Int)) := cell_of_row _ _ 0 _ _ (0, 0) HP.out
                have p4_1 : w64.cell? ⟨w60.heap.size, 1, none⟩ = some (.slice Av2 lv2 kv2) := cell_of_row _ _ 1 _ _ (0, 0) HP.out
                have p4_f : ∀ i, w64.frozen? ⟨w60.heap.size, i, none⟩ = false := fun i => frozen_of_row _ _ i _ _ HP.out
                have c4_0 : w64.cell? ⟨w60.heap.size + 1, 0, none⟩ = some (.int .i64 cl2) := cell_of_row _ _ 0 _ _ (0, 0) HC.out
                have c4_1 : w64.cell? ⟨w60.heap.size + 1, 1, none⟩ = some (.int .i64 lb2) := cell_of_row _ _ 1 _ _ (0, 0) HC.out
                have c4_2 : w64.cell? ⟨w60.heap.size + 1, 2, none⟩ = some (.slice Af2 F2.length cf2) := cell_of_row _ _ 2 _ _ (0, 0) HC.out
                have c4_3 : w64.cell? ⟨w60.heap.size + 1, 3, none⟩ = some (.slice As2 S2.length cs2) := cell_of_row _ _ 3 _ _ (0, 0) HC.out
                have c4_4 : w64.cell? ⟨w60.heap.size + 1, 4, none⟩ = some (.slice Ar2 R2.length cr2) := cell_of_row _ _ 4 _ _ (0, 0) HC.out
                have c4_f : ∀ i, w64.frozen? ⟨w60.heap.size + 1, i, none⟩ = false := fun i => frozen_of_row _ _ i _ _ HC.out
                go_wp2_with fail
                go_ret
                exact ⟨by simp, hB⟩
    | false =>
      go_wp2_with fail
      clear Rp
      clear Rfa
      clear Rsa
      clear Rra
      clear Rfd
      clear Rsd
      clear Rrd
      clear HP
      clear HC
      clear HD
      refine (spec_DrawCheckWalkCertificate _ w9 (Rb.out.more (show w.heap.size ≤ w9.heap.size by omega))).mono ?_
      rintro e w20 ⟨n2, v2, cl2, lb2, vf2, vs2, vr2, xss2, F2, S2, R2, rfl, e1, e2, e3, e4, e5, e6, e7, e8, e9, e10, e11, hbw20⟩
      have hz13 := hbw20.size
      replace hB := bl_trans hB hbw20
      replace Rb := Lib.hid (Rb.out.below (hbw20.mono (show w.heap.size ≤ w9.heap.size by omega)))
      clear Rb
      have Rp := Lib.hid e1
      have Rf := Lib.hid e2
      have Rs := Lib.hid e3
      have Rr := Lib.hid e4
      obtain ⟨Av2, lv2, kv2, rfl⟩ := e1.sl
      obtain ⟨Af2, cf2, rfl, -⟩ := e2.open_
      obtain ⟨As2, cs2, rfl, -⟩ := e3.open_
      obtain ⟨Ar2, cr2, rfl, -⟩ := e4.open_
      clear e1 e2 e3 e4
      go_wp2_with fail
      obtain ⟨w21, hww21⟩ : ∃ z, z = (w20.alloc (.cells #[.int .i64 (n2 : Int), .slice Av2 lv2 kv2] 26)).alloc (.cells #[.int .i64 cl2, .int .i64 lb2, .slice Af2 F2.length cf2, .slice As2 S2.length cs2, .slice Ar2 R2.length cr2] 30) := ⟨_, rfl⟩
      have hbw21 : Below w20.heap.size w20 w21 := by rw [hww21]; exact bl_alloc (bl_alloc (Below.refl _ _) _) _
      have hszw21 : (w20.alloc (.cells #[.int .i64 (n2 : Int), .slice Av2 lv2 kv2] 26)).heap.size = w20.heap.size + 1 := by simp
      have HP := Lib.hid (show w21.heap[w20.heap.size]? = some (.cells #[.int .i64 (n2 : Int), .slice Av2 lv2 kv2] 26 (0, 0)) by rw [hww21]; exact ((bl_alloc (Below.refl _ _) _).block _ (by omega)).trans (heap_alloc_new _ _))
      have HC := Lib.hid (show w21.heap[w20.heap.size + 1]? = some (.cells #[.int .i64 cl2, .int .i64 lb2, .slice Af2 F2.length cf2, .slice As2 S2.length cs2, .slice Ar2 R2.length cr2] 30 (0, 0)) by rw [hww21, ← hszw21]; exact heap_alloc_new _ _)
      have hltw21 : w20.heap.size + 1 < w21.heap.size := heap_lt HC.out
      rw [← hww21]
      clear hww21 hszw21
      have hz14 := hbw21.size
      replace hB := bl_trans hB hbw21
      replace Rp := Lib.hid (Rp.out.below (hbw21.mono (show w20.heap.size ≤ w20.heap.size by omega)))
      replace Rf := Lib.hid (Rf.out.below (hbw21.mono (show w20.heap.size ≤ w20.heap.size by omega)))
      replace Rs := Lib.hid (Rs.out.below (hbw21.mono (show w20.heap.size ≤ w20.heap.size by omega)))
      replace Rr := Lib.hid (Rr.out.below (hbw21.mono (show w20.heap.size ≤ w20.heap.size by omega)))
      have p1_0 : w21.cell? ⟨w20.heap.size, 0, none⟩ = some (.int .i64 (n2 : Int)) := cell_of_row _ _ 0 _ _ (0, 0) HP.out
      have p1_1 : w21.cell? ⟨w20.heap.size, 1, none⟩ = some (.slice Av2 lv2 kv2) := cell_of_row _ _ 1 _ _ (0, 0) HP.out
      have p1_f : ∀ i, w21.frozen? ⟨w20.heap.size, i, none⟩ = false := fun i => frozen_of_row _ _ i _ _ HP.out
      have c1_0 : w21.cell? ⟨w20.heap.size + 1, 0, none⟩ = some (.int .i64 cl2) := cell_of_row _ _ 0 _ _ (0, 0) HC.out
      have c1_1 : w21.cell? ⟨w20.heap.size + 1, 1, none⟩ = some (.int .i64 lb2) := cell_of_row _ _ 1 _ _ (0, 0) HC.out
      have c1_2 : w21.cell? ⟨w20.heap.size + 1, 2, none⟩ = some (.slice Af2 F2.length cf2) := cell_of_row _ _ 2 _ _ (0, 0) HC.out
      have c1_3 : w21.cell? ⟨w20.heap.size + 1, 3, none⟩ = some (.slice As2 S2.length cs2) := cell_of_row _ _ 3 _ _ (0, 0) HC.out
      have c1_4 : w21.cell? ⟨w20.heap.size + 1, 4, none⟩ = some (.slice Ar2 R2.length cr2) := cell_of_row _ _ 4 _ _ (0, 0) HC.out
      have c1_f : ∀ i, w21.frozen? ⟨w20.heap.size + 1, i, none⟩ = false := fun i => frozen_of_row _ _ i _ _ HC.out
      have J5 := Lib.hid (fun (W : World) (h1 : RowsR W W.heap.size (.slice Av2 lv2 kv2) xss2) (h2 : IntsR W W.heap.size (.slice Af2 F2.length cf2) F2) (h3 : IntsR W W.heap.size (.slice As2 S2.length cs2) S2) (h4 : RowsR W W.heap.size (.slice Ar2 R2.length cr2) R2) => impl_CheckWalkCertificate (n2 : Int) _ _ _ _ xss2 cl2 lb2 F2 S2 R2 W h1 h2 h3 h4 ⟨by omega, by omega, by omega⟩ e11)
      have J6 := Lib.hid (fun (W : World) (h1 : RowsR W W.heap.size (.slice Av2 lv2 kv2) xss2) (h2 : IntsR W W.heap.size (.slice Af2 F2.length cf2) F2) (h3 : IntsR W W.heap.size (.slice As2 S2.length cs2) S2) (h4 : RowsR W W.heap.size (.slice Ar2 R2.length cr2) R2) => spec_CheckWalkCertificate (n2 : Int) _ _ _ _ xss2 cl2 lb2 F2 S2 R2 W h1 h2 h3 h4 ⟨by omega, by omega, by omega⟩ e11)
      have J7 := Lib.hid (fun (W : World) (h1 : RowsR W W.heap.size (.slice Av2 lv2 kv2) xss2) => impl_ClassOfWalk (n2 : Int) _ xss2 W h1)
      have HK := Lib.hid (ck_class (n := n2) (xss := xss2) (cl := cl2) (lb := lb2) (f := F2) (s := S2) (rs := R2))
      generalize ckB (n2 : Int) xss2 cl2 lb2 F2 S2 R2 = ck at *
      generalize goodB (n2 : Int) xss2 = ok2 at *
      generalize ceCl (n2 : Int) xss2 = q2 at *
      clear e5 e6 e7 e8 e9 e10 e11
      refine (J5.out w21 (Rp.out.more (show w20.heap.size ≤ w21.heap.size by omega)) (Rf.out.more (show w20.heap.size ≤ w21.heap.size by omega)) (Rs.out.more (show w20.heap.size ≤ w21.heap.size by omega)) (Rr.out.more (show w20.heap.size ≤ w21.heap.size by omega))).mono ?_
      rintro e w22 ⟨rfl, hbw22⟩
      have hz15 := hbw22.size
      replace hB := bl_trans hB hbw22
      clear p1_0 p1_1 p1_f
      replace HP := Lib.hid ((hbw22.block (w20.heap.size) (show w20.heap.size < w21.heap.size by omega)).trans HP.out)
      clear c1_0 c1_1 c1_2 c1_3 c1_4 c1_f
      replace HC := Lib.hid ((hbw22.block (w20.heap.size + 1) (show w20.heap.size + 1 < w21.heap.size by omega)).trans HC.out)
      replace Rp := Lib.hid (Rp.out.below (hbw22.mono (show w20.heap.size ≤ w21.heap.size by omega)))
      replace Rf := Lib.hid (Rf.out.below (hbw22.mono (show w20.heap.size ≤ w21.heap.size by omega)))
      replace Rs := Lib.hid (Rs.out.below (hbw22.mono (show w20.heap.size ≤ w21.heap.size by omega)))
      replace Rr := Lib.hid (Rr.out.below (hbw22.mono (show w20.heap.size ≤ w21.heap.size by omega)))
      have p2_0 : w22.cell? ⟨w20.heap.size, 0, none⟩ = some (.int .i64 (n2 : Int)) := cell_of_row _ _ 0 _ _ (0, 0) HP.out
      have p2_1 : w22.cell? ⟨w20.heap.size, 1, none⟩ = some (.slice Av2 lv2 kv2) := cell_of_row _ _ 1 _ _ (0, 0) HP.out
      have p2_f : ∀ i, w22.frozen? ⟨w20.heap.size, i, none⟩ = false := fun i => frozen_of_row _ _ i _ _ HP.out
      have c2_0 : w22.cell? ⟨w20.heap.size + 1, 0, none⟩ = some (.int .i64 cl2) := cell_of_row _ _ 0 _ _ (0, 0) HC.out
      have c2_1 : w22.cell? ⟨w20.heap.size + 1, 1, none⟩ = some (.int .i64 lb2) := cell_of_row _ _ 1 _ _ (0, 0) HC.out
      have c2_2 : w22.cell? ⟨w20.heap.size + 1, 2, none⟩ = some (.slice Af2 F2.length cf2) := cell_of_row _ _ 2 _ _ (0, 0) HC.out
      have c2_3 : w22.cell? ⟨w20.heap.size + 1, 3, none⟩ = some (.slice As2 S2.length cs2) := cell_of_row _ _ 3 _ _ (0, 0) HC.out
      have c2_4 : w22.cell? ⟨w20.heap.size + 1, 4, none⟩ = some (.slice Ar2 R2.length cr2) := cell_of_row _ _ 4 _ _ (0, 0) HC.out
      have c2_f : ∀ i, w22.frozen? ⟨w20.heap.size + 1, i, none⟩ = false := fun i => frozen_of_row _ _ i _ _ HC.out
      go_wp2_with fail
      refine (J6.out w22 (Rp.out.more (show w20.heap.size ≤ w22.heap.size by omega)) (Rf.out.more (show w20.heap.size ≤ w22.heap.size by omega)) (Rs.out.more (show w20.heap.size ≤ w22.heap.size by omega)) (Rr.out.more (show w20.heap.size ≤ w22.heap.size by omega))).mono ?_
      rintro e w23 ⟨rfl, hbw23⟩
      have hz16 := hbw23.size
      replace hB := bl_trans hB hbw23
      clear p2_0 p2_1 p2_f
      replace HP := Lib.hid ((hbw23.block (w20.heap.size) (show w20.heap.size < w22.heap.size by omega)).trans HP.out)
      clear c2_0 c2_1 c2_2 c2_3 c2_4 c2_f
      replace HC := Lib.hid ((hbw23.block (w20.heap.size + 1) (show w20.heap.size + 1 < w22.heap.size by omega)).trans HC.out)
      replace Rp := Lib.hid (Rp.out.below (hbw23.mono (show w20.heap.size ≤ w22.heap.size by omega)))
      replace Rf := Lib.hid (Rf.out.below (hbw23.mono (show w20.heap.size ≤ w22.heap.size by omega)))
      replace Rs := Lib.hid (Rs.out.below (hbw23.mono (show w20.heap.size ≤ w22.heap.size by omega)))
      replace Rr := Lib.hid (Rr.out.below (hbw23.mono (show w20.heap.size ≤ w22.heap.size by omega)))
      have p3_0 : w23.cell? ⟨w20.heap.size, 0, none⟩ = some (.int .i64 (n2 : Int)) := cell_of_row _ _ 0 _ _ (0, 0) HP.out
      have p3_1 : w23.cell? ⟨w20.heap.size, 1, none⟩ = some (.slice Av2 lv2 kv2) := cell_of_row _ _ 1 _ _ (0, 0) HP.out
      have p3_f : ∀ i, w23.frozen? ⟨w20.heap.size, i, none⟩ = false := fun i => frozen_of_row _ _ i _ _ HP.out
      have c3_0 : w23.cell? ⟨w20.heap.size + 1, 0, none⟩ = some (.int .i64 cl2) := cell_of_row _ _ 0 _ _ (0, 0) HC.out
      have c3_1 : w23.cell? ⟨w20.heap.size + 1, 1, none⟩ = some (.int .i64 lb2) := cell_of_row _ _ 1 _ _ (0, 0) HC.out
      have c3_2 : w23.cell? ⟨w20.heap.size + 1, 2, none⟩ = some (.slice Af2 F2.length cf2) := cell_of_row _ _ 2 _ _ (0, 0) HC.out
      have c3_3 : w23.cell? ⟨w20.heap.size + 1, 3, none⟩ = some (.slice As2 S2.length cs2) := cell_of_row _ _ 3 _ _ (0, 0) HC.out
      have c3_4 : w23.cell? ⟨w20.heap.size + 1, 4, none⟩ = some (.slice Ar2 R2.length cr2) := cell_of_row _ _ 4 _ _ (0, 0) HC.out
      have c3_f : ∀ i, w23.frozen? ⟨w20.heap.size + 1, i, none⟩ = false := fun i => frozen_of_row _ _ i _ _ HC.out
      cases ok2 with
      | false =>
        go_wp2_with fail
        go_ret
        exact ⟨rfl, hB⟩
      | true =>
        cases ck with
        | false =>
          go_wp2_with fail
          go_ret
          exact ⟨rfl, hB⟩
        | true =>
          obtain rfl := HK.out rfl rfl
          go_wp2_with fail
          refine (J7.out w23 (Rp.out.more (show w20.heap.size ≤ w23.heap.size by omega))).mono ?_
          rintro e w24 ⟨rfl, hbw24⟩
          have hz17 := hbw24.size
          replace hB := bl_trans hB hbw24
          clear p3_0 p3_1 p3_f
          replace HP := Lib.hid ((hbw24.block (w20.heap.size) (show w20.heap.size < w23.heap.size by omega)).trans HP.out)
          clear c3_0 c3_1 c3_2 c3_3 c3_4 c3_f
          replace HC := Lib.hid ((hbw24.block (w20.heap.size + 1) (show w20.heap.size + 1 < w23.heap.size by omega)).trans HC.out)
          replace Rp := Lib.hid (Rp.out.below (hbw24.mono (show w20.heap.size ≤ w23.heap.size by omega)))
          replace Rf := Lib.hid (Rf.out.below (hbw24.mono (show w20.heap.size ≤ w23.heap.size by omega)))
          replace Rs := Lib.hid (Rs.out.below (hbw24.mono (show w20.heap.size ≤ w23.heap.size by omega)))
          replace Rr := Lib.hid (Rr.out.below (hbw24.mono (show w20.heap.size ≤ w23.heap.size by omega)))
          have p4_0 : w24.cell? ⟨w20.heap.size, 0, none⟩ = some (.int .i64 (n2 : Int)) := cell_of_row _ _ 0 _ _ (0, 0) HP.out
          have p4_1 : w24.cell? ⟨w20.heap.size, 1, none⟩ = some (.slice Av2 lv2 kv2) := cell_of_row _ _ 1 _ _ (0, 0) HP.out
          have p4_f : ∀ i, w24.frozen? ⟨w20.heap.size, i, none⟩ = false := fun i => frozen_of_row _ _ i _ _ HP.out
          have c4_0 : w24.cell? ⟨w20.heap.size + 1, 0, none⟩ = some (.int .i64 cl2) := cell_of_row _ _ 0 _ _ (0, 0) HC.out
          have c4_1 : w24.cell? ⟨w20.heap.size + 1, 1, none⟩ = some (.int .i64 lb2) := cell_of_row _ _ 1 _ _ (0, 0) HC.out
          have c4_2 : w24.cell? ⟨w20.heap.size + 1, 2, none⟩ = some (.slice Af2 F2.length cf2) := cell_of_row _ _ 2 _ _ (0, 0) HC.out
          have c4_3 : w24.cell? ⟨w20.heap.size + 1, 3, none⟩ = some (.slice As2 S2.length cs2) := cell_of_row _ _ 3 _ _ (0, 0) HC.out
          have c4_4 : w24.cell? ⟨w20.heap.size + 1, 4, none⟩ = some (.slice Ar2 R2.length cr2) := cell_of_row _ _ 4 _ _ (0, 0) HC.out
          have c4_f : ∀ i, w24.frozen? ⟨w20.heap.size + 1, i, none⟩ = false := fun i => frozen_of_row _ _ i _ _ HC.out
          go_wp2_with fail
          go_ret
          exact ⟨by simp, hB⟩
set_option maxRecDepth 100000 in
/-- The reading of a slice of bytes. -/
theorem bytes_of_trod {H : Type} {enc : TypeId × Value → H} {W : World} {r : Reach} {b0 : Nat} {base : Nat} {sp : Nat → Bool} {hd : Bool} {v : Value} {d : DataW H} {ps : List MemPlace} (hval : Value.okWide Tryz.prog W r b0 22 v)
    (h : DataW.Trod enc Tryz.prog W base sp hd 22 v d ps) : BytesU W v := by
  obtain ⟨a, l, c, rfl⟩ := okWide_slice Tryz.underlying22 hval
  obtain ⟨fuel, hf⟩ := h
  rcases open_ints Tryz.underlying22 Tryz.underlying5 (by kernel_rfl) hf with ⟨e, _⟩ | ⟨ad, len, cap, zs, e, _, hl, hm, hz, _, hcell, hwf⟩
  · have e' : Value.slice a l c = .slice none 0 0 := (List.cons.inj (show [Value.slice a l c] = [.slice none 0 0] from e)).1
    exact ⟨none, 0, 0, e', by omega, fun h => absurd h (by omega)⟩
  · have e' : Value.slice a l c = .slice (some ad) len cap := (List.cons.inj (show [Value.slice a l c] = [.slice (some ad) len cap] from e)).1
    unfold maxLen at hm
    refine ⟨some ad, len, cap, e', by omega, fun hn => ⟨ad, rfl, ?_, fun j hj => ?_⟩⟩
    · have h0 := hcell 0 (by rw [hz]; split <;> omega)
      have := World.block_lt_of_cell? _ _ h0
      rwa [block_add] at this
    · have hjz : j < zs.length := by rw [hz]; split <;> omega
      have h1 := hcell j hjz
      have hw := hwf (zs.getD j 0) (by rw [List.getD_eq_getElem?_getD, List.getElem?_eq_getElem hjz]; exact List.getElem_mem _)
      have h2 : 0 ≤ zs.getD j 0 ∧ zs.getD j 0 ≤ 255 := by simpa [Lit.wf, IntKind.min, IntKind.max, IntKind.signed, IntKind.bits] using hw
      refine ⟨(zs.getD j 0).toNat, by omega, ?_⟩
      rw [h1, show ((zs.getD j 0).toNat : Int) = zs.getD j 0 by omega]
theorem laidOut : laidOutB Tryz.prog = true := by kernel_rfl
theorem own : ownKnob Tryz.prog.godebug = none := by kernel_rfl
set_option maxRecDepth 100000 in
theorem lifted (os : Os) (started : os.Started) (H : Type) (enc : TypeId × Value → H) :
    ReturnsInHanded {} Tryz.checked os 3 .any (Rows.fnWalkClassesSpec.pre6 enc Tryz.prog Tryz.f3 Rows.fnWalkClassesRow.domain false) (Rows.fnWalkClassesSpec.post enc Tryz.prog Tryz.f3 false true false false) := by
  refine returnsInHanded_of_change (C := Tryz.checked) own started (by kernel_rfl) Tryz.func3
    (ChangeSpec.witness6 (enc := enc) (C := Tryz.checked) false ⟨#[], #[.slice none 0 0, .slice none 0 0], []⟩ 8 (by kernel_rfl) (by kernel_rfl) (by kernel_rfl) (by kernel_rfl)) ?_
  intro W base args ds gs before hval0 hW hcnd _
  have hval : ∀ (j : Nat) t v, Tryz.f3.params[j]? = some t → args[j]? = some v → Value.okWide Tryz.prog W .any base t v := hval0
  have hW' := hW
  obtain ⟨p, q, hA0, hV, rfl, hfz, hnd⟩ := hW
  have hA : DataW.TrodAll enc Tryz.prog W 0 (fun _ => true) true Tryz.f3.params.toList args.toList ds p := hA0
  rw [Tryz.params3] at hA hval
  obtain ⟨v0, vs0, d0, ds0, p0, q0, hargs, rfl, rfl, h0, r0⟩ := trodAll_cons hA
  obtain ⟨v1, vs1, d1, ds1, p1, q1, rfl, rfl, rfl, h1, r1⟩ := trodAll_cons r0
  obtain ⟨rfl, rfl, rfl⟩ := trodAll_nil r1
  obtain rfl : args = #[v0, v1] := by cases args; simp_all
  obtain ⟨rfl, rfl⟩ := trodVars_none hV
  have hb0 := bytes_of_trod (hval 0 22 v0 rfl rfl) h0
  have hb1 := bytes_of_trod (hval 1 22 v1 rfl rfl) h1
  refine (walk v0 v1 W hb0 hb1).mono fun e W' ⟨he, hg⟩ => ?_
  subst he
  exact ⟨_, rfl, post_law laidOut (by kernel_rfl) rfl (by kernel_rfl) Tryz.underlying4 rfl hW' hg⟩

theorem over : Rows.fnWalkClassesRow.holds Tryz.pinned (OpenSpec.ofChange Rows.fnWalkClassesSpec) :=
  OpenClaim.holds_of_wide 3 Tryz.f3 rfl rfl rfl rfl rfl rfl rfl ⟨rfl, rfl, rfl, rfl, rfl⟩ rfl rfl rfl rfl rfl (by kernel_rfl) Tryz.func3 (by kernel_rfl)
    (of_decide_eq_true (by kernel_rfl)) (by unfold Func.isWrapper; first | (rw [if_pos (by decide +kernel)]; kernel_rfl) | (rw [if_neg (by decide +kernel)]; exact ⟨rfl, rfl⟩))
    (fun os started H enc _ => lifted os started H enc)

/-- The statement. -/
theorem proved : Rows.FnWalkClassesSaid :=
  over
#print axioms proved
end Go.Proofs.YtjhljipehnmbnaaGreat.fnWalkClasses
