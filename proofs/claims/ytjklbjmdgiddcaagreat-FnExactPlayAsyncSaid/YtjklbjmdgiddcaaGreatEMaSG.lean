/-
  Small lemmas and contracts that the texts of this claim share. No condition.
-/
import Derived.Test.YtjklbjmdgiddcaaGreatEArgsLetG
namespace Go.Proofs.YtjklbjmdgiddcaaGreat
open Go.RowKit
set_option linter.all false
noncomputable def mrB (l : List Int) (many most : Int) : Bool := propB (rowP l many most)
theorem mrB_t {l : List Int} {many most : Int} (h1 : (l.length : Int) = many) (h2 : allB l 0 (most - 1) = true) : mrB l many most = true := propB_t ⟨h1, allB_iff.1 h2⟩
theorem mrB_len {l : List Int} {many most : Int} (h1 : (l.length : Int) ≠ many) : mrB l many most = false := propB_f fun h => h1 h.1
theorem mrB_all {l : List Int} {many most : Int} (h2 : allB l 0 (most - 1) = false) : mrB l many most = false := propB_f fun h => by rw [allB_iff.2 h.2] at h2; cases h2
theorem spec_maRow (v : Value) (xs : List Int) (many most : Int) (w : World) (h : IntsR w w.heap.size v xs) (hm : 0 ≤ most ∧ most ≤ 1000) :
    Calls Tryz.prog 73 #[v, .int .i64 many, .int .i64 most] w fun e w' => e = .returned (.bool (mrB xs many most)) ∧ w = w' := by
  have H := Lib.hid h;obtain ⟨A, c, rfl, hc1, hc2, -⟩ := h.open_;unfold maxLen at hc2;clear h;by_cases h1 : (xs.length : Int) = many
  · cases h2 : allB xs 0 (most - 1) with
    | true =>
      have HF := Lib.hid (mrB_t h1 h2).symm;subst h1;go_enter Tryz.func73, Tryz.ntmps73;go_wp2_with fail;refine (spec_l1All _ xs 0 (most - 1) w H.out).mono ?_;rintro e w' ⟨rfl, rfl⟩;rw [h2];go_wp2_with fail;go_ret;exact ⟨ret_bool HF.out, rfl⟩
    | false =>
      have HF := Lib.hid (mrB_all (many := many) h2).symm;subst h1;go_enter Tryz.func73, Tryz.ntmps73;go_wp2_with fail;refine (spec_l1All _ xs 0 (most - 1) w H.out).mono ?_;rintro e w' ⟨rfl, rfl⟩;rw [h2];go_wp2_with fail;go_ret;exact ⟨ret_bool HF.out, rfl⟩
  · have HF := Lib.hid (mrB_len (most := most) h1).symm
    have hb : (((xs.length : Nat) : Int) == many) = false := by rw [beq_eq_false_iff_ne]; exact h1
    go_enter Tryz.func73, Tryz.ntmps73;go_wp2_with fail;go_ret;exact ⟨ret_bool HF.out, rfl⟩
theorem box7 (w : World) (a b c d e f g : Value) (t : TypeId) : ∃ w0, w0 = w.alloc (.cells #[a, b, c, d, e, f, g] t) ∧ Below w.heap.size w w0 ∧ Hid (w0.heap[w.heap.size]? = some (.cells #[a, b, c, d, e, f, g] t (0, 0))) ∧ w.heap.size < w0.heap.size ∧ Hid (w0.heap.size = w.heap.size + 1) :=
  ⟨_, rfl, bl_alloc (Below.refl _ _) _, Lib.hid (heap_alloc_new w _), by simp, Lib.hid (by simp)⟩
theorem cells7 {w : World} {b : Nat} {v0 v1 v2 v3 v4 v5 v6 : Value} {t : TypeId} (H : Hid (w.heap[b]? = some (.cells #[v0, v1, v2, v3, v4, v5, v6] t (0, 0)))) :
    (w.cell? ⟨b, 0, none⟩ = some v0 ∧ w.cell? ⟨b, 1, none⟩ = some v1 ∧ w.cell? ⟨b, 2, none⟩ = some v2) ∧ (w.cell? ⟨b, 3, none⟩ = some v3 ∧ w.cell? ⟨b, 4, none⟩ = some v4 ∧ w.cell? ⟨b, 5, none⟩ = some v5 ∧ w.cell? ⟨b, 6, none⟩ = some v6) ∧ ∀ i, w.frozen? ⟨b, i, none⟩ = false :=
  ⟨⟨cell_of_row _ _ 0 _ _ (0, 0) H.out, cell_of_row _ _ 1 _ _ (0, 0) H.out, cell_of_row _ _ 2 _ _ (0, 0) H.out⟩, ⟨cell_of_row _ _ 3 _ _ (0, 0) H.out, cell_of_row _ _ 4 _ _ (0, 0) H.out, cell_of_row _ _ 5 _ _ (0, 0) H.out, cell_of_row _ _ 6 _ _ (0, 0) H.out⟩, fun i => frozen_of_row _ _ i _ _ H.out⟩
end Go.Proofs.YtjklbjmdgiddcaaGreat
namespace Go.Proofs.YtjklbjmdgiddcaaGreat
section
open Go.RowKit
set_option linter.all false
theorem maB_f {m : Mach} (h : ¬ maP m) : maB m = false := propB_f h
theorem inBf {x lo hi : Int} (h : inB x lo hi = false) : ¬ (lo ≤ x ∧ x ≤ hi) := fun k => by have := of_decide_eq_false h;omega
theorem inBt {x lo hi : Int} (h : inB x lo hi = true) : lo ≤ x ∧ x ≤ hi := by have := of_decide_eq_true h;omega
def MgsRel (m : Mach) (w : World) (i : Value) (wr : World) : Prop := Below w.heap.size w wr ∧ ∃ k : Nat, k ≤ m.start.length ∧ i = .int .i64 k ∧ ∀ l ∈ m.start.take k, rowP l (first m) m.st
def MgeRel (m : Mach) (w : World) (i : Value) (wr : World) : Prop := Below w.heap.size w wr ∧ ∃ k : Nat, k ≤ m.send.length ∧ i = .int .i64 k ∧ ∀ l ∈ m.send.take k, rowP l m.deg m.msg
def MgcRel (m : Mach) (w : World) (i : Value) (wr : World) : Prop := Below w.heap.size w wr ∧ ∃ k : Nat, k ≤ m.cls.length ∧ i = .int .i64 k ∧ ∀ c ∈ m.cls.take k, clP m c
theorem take_next {α : Type} {p : α → Prop} {xs : List α} {k : Nat} {x : α} (h : ∀ l ∈ xs.take k, p l) (hx : xs[k]? = some x) (hp : p x) : ∀ l ∈ xs.take (k + 1), p l := by
  obtain ⟨hk, rfl⟩ := List.getElem?_eq_some_iff.1 hx;intro l hl;rw [List.take_succ_eq_append_getElem hk, List.mem_append] at hl;rcases hl with hl | hl
  · exact h l hl
  · rw [List.mem_singleton.1 hl]; exact hp
theorem take_all {α : Type} {p : α → Prop} {xs : List α} {k : Nat} (h : ∀ l ∈ xs.take k, p l) (hk : xs.length ≤ k) : ∀ l ∈ xs, p l := by rw [List.take_of_length_le hk] at h;exact h
theorem clB_no1 {m : Mach} {c : Cl} (h : inB c.1 0 (m.st - 1) = false) : ¬ clP m c := fun hp => inBf h hp.1
theorem clB_no2 {m : Mach} {c : Cl} (h : inB c.2.2 0 (m.st - 1) = false) : ¬ clP m c := fun hp => inBf h hp.2.1
theorem clB_no4 {m : Mach} {c : Cl} (h : allB c.2.1 (-1) (m.msg - 1) = false) : ¬ clP m c := fun hp => by rw [allB_iff.2 hp.2.2.2] at h;cases h
set_option maxRecDepth 100000 in
set_option maxHeartbeats 2000000 in
theorem maGood_on (vs ve vc vo : Value) (m : Mach) (w : World) (h : MachR w w.heap.size vs ve vc vo m) (b1 : 0 ≤ m.deg ∧ m.deg ≤ 6) (b2 : 1 ≤ m.st ∧ m.st ≤ 12) (b3 : 1 ≤ m.msg ∧ m.msg ≤ 6)
  (k4 : (m.start.length : Int) = m.deg + 1) (b5 : 1 ≤ first m ∧ first m ≤ 10) (k6 : (m.send.length : Int) = m.st) (k7 : m.cls.length ≤ 60) (k8 : (m.out.length : Int) = m.st) (k9 : allB m.out (-1) 9 = true) :
  Calls Tryz.prog 96 #[machV vs ve vc vo m] w fun e w' => e = .returned (.bool (maB m)) ∧ Below w.heap.size w w' := by
 unfold machV
 have HALL := Lib.hid (show (∀ l ∈ m.start, rowP l (first m) m.st) → (∀ l ∈ m.send, rowP l m.deg m.msg) → (∀ c ∈ m.cls, clP m c) → maB m = true from fun x y z =>
  propB_t ⟨⟨b1, b2, b3⟩, ⟨k4, k6, k8, k7⟩, b5, x, y, z, allB_iff.1 k9⟩)
 obtain ⟨A0, c0, rfl, hc0, hm0, hr0⟩ := h.s.open_;obtain ⟨A1, c1, rfl, hc1, hm1, hr1⟩ := h.e.open_;have hcc := h.c;obtain ⟨A2, c2, rfl, hc2, hm2, -, hr2⟩ := hcc;obtain ⟨A3, c3, rfl, hc3, hm3, hr3⟩ := h.o.open_;unfold maxLen at hm0 hm1 hm2 hm3;obtain ⟨w0, hw0, hB, HM, hz0, HS0⟩ := box7 w (.int .i64 m.deg) (.int .i64 m.st) (.int .i64 m.msg) (.slice A0 m.start.length c0) (.slice A1 m.send.length c1) (.slice A2 m.cls.length c2) (.slice A3 m.out.length c3) 46;have HW0 := Lib.hid hw0;have HR := Lib.hid (h.up hB);have HR0 := Lib.hid hr0;have HR1 := Lib.hid hr1;have HR2 := Lib.hid hr2;obtain ⟨⟨g0, g1, g2⟩, ⟨g3, g4, g5, g6⟩, gf⟩ := cells7 HM;have e0 := g0;have e1 := g1;have e2 := g2;rw [hw0] at e0 e1 e2;clear h hw0 hr0 hr1 hr2 hr3;have f0 := g3;have f1 := g4;have f2 := g5;have f3 := g6;rw [HW0.out] at f0 f1 f2 f3;have k1 : inB m.deg 0 6 = true := inB_t b1;have k2 : inB m.st 1 12 = true := inB_t b2;have k3 : inB m.msg 1 6 = true := inB_t b3;have n4 : (((m.start.length : Nat) : Int) == m.deg + 1) = true := by rw [beq_iff_eq]; exact k4
 have hp0 : 0 < m.start.length := by omega
 have n0 : (0 : Int) < m.deg + 1 := by omega
 obtain ⟨l0, hl0⟩ : ∃ l, m.start[0]? = some l := ⟨_, List.getElem?_eq_getElem hp0⟩
 obtain ⟨ad, rfl, hab, hrow⟩ := HR0.out hp0;obtain ⟨u, hcu, hru⟩ := hrow 0 l0 hl0;have ea : ad.add 0 = ad := by unfold Addr.add; simp
 rw [ea] at hcu;have hcr := (hB.cell (p := ad) hab).trans hcu;obtain ⟨A5, c5, rfl, hc5, hm5, -⟩ := hru.open_;have HC0 := Lib.hid hcu;unfold maxLen at hm5;have hcx := hcr;rw [HW0.out] at hcx;have HFI := Lib.hid (show first m = l0.length by unfold first; rw [List.getD_eq_getElem?_getD, hl0]; rfl);have k5 : inB (l0.length : Int) 1 10 = true := inB_t (by rw [← HFI.out]; exact b5);have n6 : (((m.send.length : Nat) : Int) == m.st) = true := by rw [beq_iff_eq]; exact k6
 have n8 : (((m.out.length : Nat) : Int) == m.st) = true := by rw [beq_iff_eq]; exact k8
 have HAO := Lib.hid (HR.out.o);clear hl0 hcu hru hrow;go_enter Tryz.func96, Tryz.ntmps96
 go_wp2_with (first
  | (go_at_call 93; refine (spec_l1In _ _ _ _).mono ?_; rintro e w' ⟨rfl, rfl⟩)
  | (rw [← HW0.out]; go_at_call 72; refine (spec_l1All _ m.out _ _ w0 HAO.out).mono ?_; rintro e w' ⟨rfl, rfl⟩)
  | (go_at_call 72; refine (spec_l1All _ m.out _ _ w0 HAO.out).mono ?_; rintro e w' ⟨rfl, rfl⟩))
 go_loopw [72] (fun i wr => MgsRel m w0 i wr) (fun i _ => m.start.length - (intOf i).toNat)
 case atStart => exact ⟨Below.refl _ _, 0, Nat.zero_le _, rfl, by simp⟩
 case round =>
  clear e0 e1 e2 f0 f1 f2 f3 hcx hcr;obtain ⟨hb1, k, hk, rfl, hup⟩ := hrel;have HU := Lib.hid hup; clear hup;have hzhb1 := hb1.size;clear g0 g1 g2 g3 g4 g5 g6 gf;replace HM := bk HM hb1;replace HR := Lib.hid (HR.out.up hb1);obtain ⟨⟨g0, g1, g2⟩, ⟨g3, g4, g5, g6⟩, gf⟩ := cells7 HM;replace hB := bl_trans hB hb1;by_cases hlt : k < m.start.length
  ·
   obtain ⟨l, hl⟩ : ∃ l, m.start[k]? = some l := ⟨_, List.getElem?_eq_getElem hlt⟩
   obtain ⟨ad', e, hab', hrow'⟩ := HR0.out hp0;cases e;obtain ⟨u, hcu, hru⟩ := hrow' k l hl;have hcell := (hB.cell (p := ad.add k) (by rw [block_add]; exact hab)).trans hcu;have hcr := (hB.cell (p := ad) hab).trans HC0.out;have HRK := Lib.hid ((hru.below hB).more hB.size);have HL := Lib.hid hl; clear hl hru hcu hrow';cases q : mrB l l0.length m.st with
   | true =>
    go_wp2_with fail;refine wp_region_held_drew (S := fun w' => w'.cell? ⟨w.heap.size, 3, none⟩ = some (.slice (some ad) m.start.length c0) ∧ w'.cell? ad = some (.slice A5 l0.length c5) ∧ w'.cell? ⟨w.heap.size, 1, none⟩ = some (.int .i64 m.st)) (by kernel_rfl) ?_ (fun hHeld => ?_)
    · go_keep
    refine stk 0 76 ?_;refine stk 1 77 ?_;refine stk 2 78 ?_;refine stk 3 79 ?_;refine stk 4 80 ?_;refine stk 5 81 ?_;refine stk 6 82 ?_;refine stk 7 83 ?_;refine tr 8 rfl (by kernel_rfl) (fun K hK => ?_);go_simp;go_at_call 73;refine (spec_maRow u l _ m.st _ ((HRK.out.below (Below.refl _ _).drew).more (Nat.le_refl _)) ⟨by omega, by omega⟩).mono ?_;rintro e w' ⟨rfl, rfl⟩;rw [q];refine hK.out _ _ ?_ (fun hHeld => ?_)
    · go_keep
    clear hK K
    try simp only [Act.put, pu]
    refine stk 9 85 ?_;refine wpAnyH_done (by kernel_rfl) ?_ _;go_wp2_with fail;go_roundw
    case rel => exact ⟨bl_trans hb1 (Below.refl _ _).drew, k + 1, by omega, by go_num, take_next HU.out HL.out (by rw [HFI.out]; exact propB_iff.1 q)⟩
    case measure => simp [intOf]; omega
   | false =>
    have HF := Lib.hid (maB_f fun hp => by have e : mrB l l0.length m.st = true := propB_t (by have := hp.2.2.2.1 l (List.mem_of_getElem? HL.out); rw [HFI.out] at this; exact this); rw [q] at e; cases e).symm;go_wp2_with fail;refine wp_region_held_drew (S := fun w' => w'.cell? ⟨w.heap.size, 3, none⟩ = some (.slice (some ad) m.start.length c0) ∧ w'.cell? ad = some (.slice A5 l0.length c5) ∧ w'.cell? ⟨w.heap.size, 1, none⟩ = some (.int .i64 m.st)) (by kernel_rfl) ?_ (fun hHeld => ?_)
    · go_keep
    refine stk 0 76 ?_;refine stk 1 77 ?_;refine stk 2 78 ?_;refine stk 3 79 ?_;refine stk 4 80 ?_;refine stk 5 81 ?_;refine stk 6 82 ?_;refine stk 7 83 ?_;refine tr 8 rfl (by kernel_rfl) (fun K hK => ?_);go_simp;go_at_call 73;refine (spec_maRow u l _ m.st _ ((HRK.out.below (Below.refl _ _).drew).more (Nat.le_refl _)) ⟨by omega, by omega⟩).mono ?_;rintro e w' ⟨rfl, rfl⟩;rw [q];refine hK.out _ _ ?_ (fun hHeld => ?_)
    · go_keep
    clear hK K
    try simp only [Act.put, pu]
    refine stk 9 85 ?_;refine wpAnyH_done (by kernel_rfl) ?_ _;go_wp2_with fail;go_ret;exact ⟨ret_bool HF.out, hB.drew⟩
  ·
   have HS := Lib.hid (take_all HU.out (by omega)); clear HU;go_wp2_with fail;obtain ⟨wq, rfl⟩ : ∃ z, z = wr := ⟨_, rfl⟩
   go_loopw [90] (fun i wr' => MgeRel m wq i wr') (fun i _ => m.send.length - (intOf i).toNat)
   case atStart => exact ⟨Below.refl _ _, 0, Nat.zero_le _, rfl, by simp⟩
   case round =>
    obtain ⟨hb2, j, hj, rfl, hup⟩ := hrel;have HU := Lib.hid hup; clear hup;have hzhb2 := hb2.size;clear g0 g1 g2 g3 g4 g5 g6 gf;replace HM := bk HM hb2;replace HR := Lib.hid (HR.out.up hb2);obtain ⟨⟨g0, g1, g2⟩, ⟨g3, g4, g5, g6⟩, gf⟩ := cells7 HM;replace hB := bl_trans hB hb2;by_cases hlt2 : j < m.send.length
    ·
     obtain ⟨l, hl⟩ : ∃ l, m.send[j]? = some l := ⟨_, List.getElem?_eq_getElem hlt2⟩
     obtain ⟨ad1, rfl, hab1, hrow1⟩ := HR1.out (by omega);obtain ⟨u, hcu, hru⟩ := hrow1 j l hl;have hcell := (hB.cell (p := ad1.add j) (by rw [block_add]; exact hab1)).trans hcu;have HRK := Lib.hid ((hru.below hB).more hB.size);have HL := Lib.hid hl; clear hl hru hcu hrow1;cases q : mrB l m.deg m.msg with
     | true =>
      go_wp2_with (go_at_call 73; refine (spec_maRow u l _ m.msg _ HRK.out ⟨by omega, by omega⟩).mono ?_; rintro e w' ⟨rfl, rfl⟩; rw [q])
      go_roundw
      case rel => exact ⟨hb2, j + 1, by omega, by go_num, take_next HU.out HL.out (propB_iff.1 q)⟩
      case measure => simp [intOf]; omega
     | false =>
      have HF := Lib.hid (maB_f fun hp => by have e : mrB l m.deg m.msg = true := propB_t (hp.2.2.2.2.1 l (List.mem_of_getElem? HL.out)); rw [q] at e; cases e).symm;go_wp2_with (go_at_call 73; refine (spec_maRow u l _ m.msg _ HRK.out ⟨by omega, by omega⟩).mono ?_; rintro e w' ⟨rfl, rfl⟩; rw [q])
      go_ret;exact ⟨ret_bool HF.out, hB⟩
    ·
     have HE := Lib.hid (take_all HU.out (by omega)); clear HU;go_wp2_with fail;obtain ⟨wp, rfl⟩ : ∃ z, z = wr := ⟨_, rfl⟩
     go_loopw [105] (fun i wr' => MgcRel m wp i wr') (fun i _ => m.cls.length - (intOf i).toNat)
     case atStart => exact ⟨Below.refl _ _, 0, Nat.zero_le _, rfl, by simp⟩
     case round =>
      obtain ⟨hb3, n, hn, rfl, hup⟩ := hrel;have HU := Lib.hid hup; clear hup;have hzhb3 := hb3.size;clear g0 g1 g2 g3 g4 g5 g6 gf;replace HM := bk HM hb3;replace HR := Lib.hid (HR.out.up hb3);obtain ⟨⟨g0, g1, g2⟩, ⟨g3, g4, g5, g6⟩, gf⟩ := cells7 HM;replace hB := bl_trans hB hb3;by_cases hlt3 : n < m.cls.length
      ·
       obtain ⟨c, hc⟩ : ∃ l, m.cls[n]? = some l := ⟨_, List.getElem?_eq_getElem hlt3⟩
       obtain ⟨cb, co, rfl, hcb, hrow2⟩ := HR2.out (by omega);obtain ⟨p0, ⟨u, p1, hru⟩, p2⟩ := hrow2 n c hc;have p0' := (hB.cell (p := ⟨cb, co + n * 3, none⟩) hcb).trans p0;have p1' := (hB.cell (p := ⟨cb, co + n * 3 + 1, none⟩) hcb).trans p1;have p2' := (hB.cell (p := ⟨cb, co + n * 3 + 2, none⟩) hcb).trans p2;obtain ⟨A7, c7, rfl, hc7, hm7, -⟩ := hru.open_;unfold maxLen at hm7;obtain ⟨wv, hwv, hb4, HK, hzv, HSV⟩ := box3 wr (.int .i64 c.1) (.slice A7 c.2.1.length c7) (.int .i64 c.2.2) 123;have HWV := Lib.hid hwv;obtain ⟨z0, z1, z2, zf⟩ := cells3 HK;have t0 := z0;have t1 := z1;have t2 := z2;have hzr : w.heap.size < wr.heap.size := by omega
       have t3 := (hb4.cell (p := ⟨w.heap.size, 0, none⟩) hzr).trans g0;have t4 := (hb4.cell (p := ⟨w.heap.size, 1, none⟩) hzr).trans g1;have t5 := (hb4.cell (p := ⟨w.heap.size, 2, none⟩) hzr).trans g2;have s3 := t3;have s4 := t4;have s5 := t5;rw [hwv] at t0 t1 t2 t3 t4 t5;have HRK := Lib.hid ((hru.below (bl_trans hB hb4)).more (bl_trans hB hb4).size);have HL := Lib.hid hc; clear hc hru p0 p1 p2 hrow2 hwv;have HNO := Lib.hid (fun hf : ¬ clP m c => maB_f fun hp => hf (hp.2.2.2.2.2.1 c (List.mem_of_getElem? HL.out)));have HB4 := Lib.hid (bl_trans hB hb4);cases q1 : inB c.1 0 (m.st - 1) with
       | false =>
        have HF := Lib.hid (HNO.out (clB_no1 q1)).symm;go_wp2_with (go_at_call 93; (try rw [show IntKind.i64.wrap (m.st - 1) = m.st - 1 from IntWalk.i64_in _ (by omega)]); refine (spec_l1In _ _ _ _).mono ?_; rintro e w' ⟨rfl, rfl⟩)
        go_ret;exact ⟨ret_bool HF.out, by rw [← HWV.out]; exact HB4.out⟩
       | true =>
        cases q2 : inB c.2.2 0 (m.st - 1) with
        | false =>
         have HF := Lib.hid (HNO.out (clB_no2 q2)).symm;go_wp2_with (go_at_call 93; (try rw [show IntKind.i64.wrap (m.st - 1) = m.st - 1 from IntWalk.i64_in _ (by omega)]); refine (spec_l1In _ _ _ _).mono ?_; rintro e w' ⟨rfl, rfl⟩)
         go_ret;exact ⟨ret_bool HF.out, by rw [← HWV.out]; exact HB4.out⟩
        | true =>
         by_cases q3 : (c.2.1.length : Int) ≤ m.deg
         ·
          cases q4 : allB c.2.1 (-1) (m.msg - 1) with
          | false =>
           have HF := Lib.hid (HNO.out (clB_no4 q4)).symm;go_wp2_with (first | (go_at_call 93; (try rw [show IntKind.i64.wrap (m.st - 1) = m.st - 1 from IntWalk.i64_in _ (by omega)]); refine (spec_l1In _ _ _ _).mono ?_; rintro e w' ⟨rfl, rfl⟩) | (rw [← HWV.out]; go_at_call 72; (try rw [show IntKind.i64.wrap (m.msg - 1) = m.msg - 1 from IntWalk.i64_in _ (by omega)]); refine (spec_l1All _ c.2.1 _ _ wv HRK.out).mono ?_; rintro e w' ⟨rfl, rfl⟩; rw [q4]))
           go_ret;exact ⟨ret_bool HF.out, HB4.out⟩
          | true =>
           have HCP := Lib.hid (show clP m c from ⟨inBt q1, inBt q2, q3, allB_iff.1 q4⟩);go_wp2_with (first | (go_at_call 93; (try rw [show IntKind.i64.wrap (m.st - 1) = m.st - 1 from IntWalk.i64_in _ (by omega)]); refine (spec_l1In _ _ _ _).mono ?_; rintro e w' ⟨rfl, rfl⟩) | (rw [← HWV.out]; go_at_call 72; (try rw [show IntKind.i64.wrap (m.msg - 1) = m.msg - 1 from IntWalk.i64_in _ (by omega)]); refine (spec_l1All _ c.2.1 _ _ wv HRK.out).mono ?_; rintro e w' ⟨rfl, rfl⟩; rw [q4]))
           go_roundw
           case rel => exact ⟨bl_trans hb3 hb4, n + 1, by omega, by go_num, take_next HU.out HL.out HCP.out⟩
           case measure => simp [intOf]; omega
         ·
          have HF := Lib.hid (HNO.out fun hp => q3 hp.2.2.1).symm;go_wp2_with (go_at_call 93; (try rw [show IntKind.i64.wrap (m.st - 1) = m.st - 1 from IntWalk.i64_in _ (by omega)]); refine (spec_l1In _ _ _ _).mono ?_; rintro e w' ⟨rfl, rfl⟩)
          go_ret;exact ⟨ret_bool HF.out, by rw [← HWV.out]; exact HB4.out⟩
      · have HZ := Lib.hid (HALL.out HS.out HE.out (take_all HU.out (by omega))).symm;go_wp2_with fail;go_ret;exact ⟨ret_bool HZ.out, hB⟩
end
section
open Go.RowKit
set_option linter.all false
set_option maxRecDepth 100000 in
set_option maxHeartbeats 2000000 in
theorem spec_maGood (vs ve vc vo : Value) (m : Mach) (w : World) (h : MachR w w.heap.size vs ve vc vo m) :
  Calls Tryz.prog 96 #[machV vs ve vc vo m] w fun e w' => e = .returned (.bool (maB m)) ∧ Below w.heap.size w w' := by
 have HG := Lib.hid (maGood_on vs ve vc vo m w h);unfold machV;obtain ⟨A0, c0, rfl, hc0, hm0, hr0⟩ := h.s.open_;obtain ⟨A1, c1, rfl, hc1, hm1, hr1⟩ := h.e.open_;have hcc := h.c;obtain ⟨A2, c2, rfl, hc2, hm2, -, hr2⟩ := hcc;obtain ⟨A3, c3, rfl, hc3, hm3, hr3⟩ := h.o.open_;unfold maxLen at hm0 hm1 hm2 hm3;obtain ⟨w0, hw0, hB, HD, hz0, HS0⟩ := box7 w (.int .i64 m.deg) (.int .i64 m.st) (.int .i64 m.msg) (.slice A0 m.start.length c0) (.slice A1 m.send.length c1) (.slice A2 m.cls.length c2) (.slice A3 m.out.length c3) 46;have HW0 := Lib.hid hw0;have H := Lib.hid (h.up hB);have HR0 := Lib.hid hr0;have HR1 := Lib.hid hr1;have HR2 := Lib.hid hr2;obtain ⟨⟨g0, g1, g2⟩, ⟨q0, q1, q2, q3⟩, qf⟩ := cells7 HD;have e0 := g0;have e1 := g1;have e2 := g2;rw [hw0] at e0 e1 e2;clear h hw0 hr0 hr1 hr2 hr3;cases k1 : inB m.deg 0 6 with
 | false =>
  have HF := Lib.hid (maB_f fun hp => inBf k1 hp.1.1).symm;go_enter Tryz.func96, Tryz.ntmps96;go_wp2_with (go_at_call 93; refine (spec_l1In _ _ _ _).mono ?_; rintro e w' ⟨rfl, rfl⟩)
  go_ret;exact ⟨ret_bool HF.out, by rw [← HW0.out]; exact hB⟩
 | true =>
  cases k2 : inB m.st 1 12 with
  | false =>
   have HF := Lib.hid (maB_f fun hp => inBf k2 hp.1.2.1).symm;go_enter Tryz.func96, Tryz.ntmps96;go_wp2_with (go_at_call 93; refine (spec_l1In _ _ _ _).mono ?_; rintro e w' ⟨rfl, rfl⟩)
   go_ret;exact ⟨ret_bool HF.out, by rw [← HW0.out]; exact hB⟩
  | true =>
   cases k3 : inB m.msg 1 6 with
   | false =>
    have HF := Lib.hid (maB_f fun hp => inBf k3 hp.1.2.2).symm;go_enter Tryz.func96, Tryz.ntmps96;go_wp2_with (go_at_call 93; refine (spec_l1In _ _ _ _).mono ?_; rintro e w' ⟨rfl, rfl⟩)
    go_ret;exact ⟨ret_bool HF.out, by rw [← HW0.out]; exact hB⟩
   | true =>
    have b1 := inBt k1;have b2 := inBt k2;have b3 := inBt k3;have f0 := q0;have f1 := q1;have f2 := q2;have f3 := q3;rw [HW0.out] at f0 f1 f2 f3;by_cases k4 : (m.start.length : Int) = m.deg + 1
    ·
     have n4 : (((m.start.length : Nat) : Int) == m.deg + 1) = true := by rw [beq_iff_eq]; exact k4
     have hp0 : 0 < m.start.length := by omega
     obtain ⟨l0, hl0⟩ : ∃ l, m.start[0]? = some l := ⟨_, List.getElem?_eq_getElem hp0⟩
     obtain ⟨ad, rfl, hab, hrow⟩ := HR0.out hp0;obtain ⟨u, hcu, hru⟩ := hrow 0 l0 hl0;have ea : ad.add 0 = ad := by unfold Addr.add; simp
     rw [ea] at hcu;have hcr := (hB.cell (p := ad) hab).trans hcu;obtain ⟨A5, c5, rfl, hc5, hm5, -⟩ := hru.open_;unfold maxLen at hm5;have hcx := hcr;rw [HW0.out] at hcx;have HFI := Lib.hid (show first m = l0.length by unfold first; rw [List.getD_eq_getElem?_getD, hl0]; rfl);clear hl0 hcu hru hrow;cases k5 : inB (l0.length : Int) 1 10 with
     | false =>
      have HF := Lib.hid (maB_f fun hp => inBf k5 (by have := hp.2.2.1; rw [HFI.out] at this; exact this)).symm;go_enter Tryz.func96, Tryz.ntmps96;go_wp2_with (go_at_call 93; refine (spec_l1In _ _ _ _).mono ?_; rintro e w' ⟨rfl, rfl⟩)
      go_ret;exact ⟨ret_bool HF.out, by rw [← HW0.out]; exact hB⟩
     | true =>
      by_cases k6 : (m.send.length : Int) = m.st
      ·
       have n6 : (((m.send.length : Nat) : Int) == m.st) = true := by rw [beq_iff_eq]; exact k6
       by_cases k7 : m.cls.length ≤ 60
       ·
        by_cases k8 : (m.out.length : Int) = m.st
        ·
         have n8 : (((m.out.length : Nat) : Int) == m.st) = true := by rw [beq_iff_eq]; exact k8
         have HAO := Lib.hid (H.out.o);cases k9 : allB m.out (-1) 9 with
         | false =>
          have HF := Lib.hid (maB_f fun hp => by have e : allB m.out (-1) 9 = true := allB_iff.2 hp.2.2.2.2.2.2; rw [k9] at e; cases e).symm;go_enter Tryz.func96, Tryz.ntmps96
          go_wp2_with (first
           | (go_at_call 93; refine (spec_l1In _ _ _ _).mono ?_; rintro e w' ⟨rfl, rfl⟩)
           | (rw [← HW0.out]; go_at_call 72; refine (spec_l1All _ m.out _ _ w0 HAO.out).mono ?_; rintro e w' ⟨rfl, rfl⟩)
           | (go_at_call 72; refine (spec_l1All _ m.out _ _ w0 HAO.out).mono ?_; rintro e w' ⟨rfl, rfl⟩))
          go_ret;exact ⟨ret_bool HF.out, by first | exact hB | (rw [← HW0.out]; exact hB)⟩
         | true => exact HG.out b1 b2 b3 k4 (by rw [HFI.out]; exact inBt k5) k6 k7 k8 k9
        ·
         have n8 : (((m.out.length : Nat) : Int) == m.st) = false := by rw [beq_eq_false_iff_ne]; exact k8
         have HF := Lib.hid (maB_f fun hp => k8 hp.2.1.2.2.1).symm;go_enter Tryz.func96, Tryz.ntmps96;go_wp2_with (go_at_call 93; refine (spec_l1In _ _ _ _).mono ?_; rintro e w' ⟨rfl, rfl⟩)
         go_ret;exact ⟨ret_bool HF.out, by rw [← HW0.out]; exact hB⟩
       ·
        skip
        have HF := Lib.hid (maB_f fun hp => k7 hp.2.1.2.2.2).symm;go_enter Tryz.func96, Tryz.ntmps96;go_wp2_with (go_at_call 93; refine (spec_l1In _ _ _ _).mono ?_; rintro e w' ⟨rfl, rfl⟩)
        go_ret;exact ⟨ret_bool HF.out, by rw [← HW0.out]; exact hB⟩
      ·
       have n6 : (((m.send.length : Nat) : Int) == m.st) = false := by rw [beq_eq_false_iff_ne]; exact k6
       have HF := Lib.hid (maB_f fun hp => k6 hp.2.1.2.1).symm;go_enter Tryz.func96, Tryz.ntmps96;go_wp2_with (go_at_call 93; refine (spec_l1In _ _ _ _).mono ?_; rintro e w' ⟨rfl, rfl⟩)
       go_ret;exact ⟨ret_bool HF.out, by rw [← HW0.out]; exact hB⟩
    ·
     have HF := Lib.hid (maB_f fun hp => k4 hp.2.1.1).symm;have n4 : (((m.start.length : Nat) : Int) == m.deg + 1) = false := by rw [beq_eq_false_iff_ne]; exact k4
     go_enter Tryz.func96, Tryz.ntmps96;go_wp2_with (go_at_call 93; refine (spec_l1In _ _ _ _).mono ?_; rintro e w' ⟨rfl, rfl⟩)
     go_ret;exact ⟨ret_bool HF.out, by rw [← HW0.out]; exact hB⟩
end
end Go.Proofs.YtjklbjmdgiddcaaGreat
