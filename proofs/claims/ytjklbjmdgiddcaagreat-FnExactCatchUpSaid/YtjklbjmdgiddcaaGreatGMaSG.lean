/-
  Small lemmas and contracts that the texts of this claim share. No condition.
-/
import Derived.Test.YtjklbjmdgiddcaaGreatGArgsLetG
namespace Go.Proofs.YtjklbjmdgiddcaaGreat
open Go.RowKit
set_option linter.all false
noncomputable def mrB (l : List Int) (many most : Int) : Bool := propB (rowP l many most)
theorem mrB_t {l : List Int} {many most : Int} (h1 : (l.length : Int) = many) (h2 : allB l 0 (most - 1) = true) : mrB l many most = true := propB_t ⟨h1, allB_iff.1 h2⟩
theorem mrB_len {l : List Int} {many most : Int} (h1 : (l.length : Int) ≠ many) : mrB l many most = false := propB_f fun h => h1 h.1
theorem mrB_all {l : List Int} {many most : Int} (h2 : allB l 0 (most - 1) = false) : mrB l many most = false := propB_f fun h => by rw [allB_iff.2 h.2] at h2; cases h2
theorem spec_maRow (v : Value) (xs : List Int) (many most : Int) (w : World) (h : IntsR w w.heap.size v xs) (hm : 0 ≤ most ∧ most ≤ 1000) :
    Calls Tryz.prog 73 #[v, .int .i64 many, .int .i64 most] w fun e w' => e = .returned (.bool (mrB xs many most)) ∧ w = w' := by
  have H := aA h;obtain ⟨A, c, rfl, hc1, hc2, -⟩ := h.open_;unfold maxLen at hc2;clear h;by_cases h1 : (xs.length : Int) = many
  · cases h2 : allB xs 0 (most - 1) with
    | true =>
      have HF := aA (mrB_t h1 h2).symm;subst h1;go_enter Tryz.func73, Tryz.ntmps73;go_wp2_with fail;refine (spec_l1All _ xs 0 (most - 1) w H.out).mono ?_;rintro e w' ⟨rfl, rfl⟩;rw [h2];go_wp2_with fail;go_ret;exact ⟨ret_bool HF.out, rfl⟩
    | false =>
      have HF := aA (mrB_all (many := many) h2).symm;subst h1;go_enter Tryz.func73, Tryz.ntmps73;go_wp2_with fail;refine (spec_l1All _ xs 0 (most - 1) w H.out).mono ?_;rintro e w' ⟨rfl, rfl⟩;rw [h2];go_wp2_with fail;go_ret;exact ⟨ret_bool HF.out, rfl⟩
  · have HF := aA (mrB_len (most := most) h1).symm
    have hb : (((xs.length : Nat) : Int) == many) = false := by rw [beq_eq_false_iff_ne]; exact h1
    go_enter Tryz.func73, Tryz.ntmps73;go_wp2_with fail;go_ret;exact ⟨ret_bool HF.out, rfl⟩
theorem box7 (w : World) (a b c d e f g : Value) (t : TypeId) : ∃ w0, w0 = w.alloc (.cells #[a, b, c, d, e, f, g] t) ∧ Below w.heap.size w w0 ∧ Hid (w0.heap[w.heap.size]? = some (.cells #[a, b, c, d, e, f, g] t (0, 0))) ∧ w.heap.size < w0.heap.size ∧ Hid (w0.heap.size = w.heap.size + 1) :=
  ⟨_, rfl, bl_alloc (Below.refl _ _) _, aA (heap_alloc_new w _), by simp, aA (by simp)⟩
theorem cells7 {w : World} {b : Nat} {v0 v1 v2 v3 v4 v5 v6 : Value} {t : TypeId} (H : Hid (w.heap[b]? = some (.cells #[v0, v1, v2, v3, v4, v5, v6] t (0, 0)))) :
    (w.cell? ⟨b, 0, none⟩ = some v0 ∧ w.cell? ⟨b, 1, none⟩ = some v1 ∧ w.cell? ⟨b, 2, none⟩ = some v2) ∧ (w.cell? ⟨b, 3, none⟩ = some v3 ∧ w.cell? ⟨b, 4, none⟩ = some v4 ∧ w.cell? ⟨b, 5, none⟩ = some v5 ∧ w.cell? ⟨b, 6, none⟩ = some v6) ∧ ∀ i, w.frozen? ⟨b, i, none⟩ = false :=
  ⟨⟨cell_of_row _ _ 0 _ _ (0, 0) H.out, cell_of_row _ _ 1 _ _ (0, 0) H.out, cell_of_row _ _ 2 _ _ (0, 0) H.out⟩, ⟨cell_of_row _ _ 3 _ _ (0, 0) H.out, cell_of_row _ _ 4 _ _ (0, 0) H.out, cell_of_row _ _ 5 _ _ (0, 0) H.out, cell_of_row _ _ 6 _ _ (0, 0) H.out⟩, fun i => frozen_of_row _ _ i _ _ H.out⟩
end Go.Proofs.YtjklbjmdgiddcaaGreat
namespace Go.Proofs.YtjklbjmdgiddcaaGreat
section
open Go.RowKit
set_option linter.all false
theorem maB_f {m : Mach} (h : ¬ maP m) : maB m = false := propB_f h
theorem inBf {x lo hi : Int} (h : inB x lo hi = false) : ¬ (lo ≤ x ∧ x ≤ hi) := fun k => by have := of_decide_eq_false h;omega
theorem inBt {x lo hi : Int} (h : inB x lo hi = true) : lo ≤ x ∧ x ≤ hi := by have := of_decide_eq_true h;omega
def MgsRel (m : Mach) (w : World) (i : Value) (wr : World) : Prop := Below w.heap.size w wr ∧ ∃ k : Nat, k ≤ m.start.length ∧ i = .int .i64 k ∧ ∀ l ∈ m.start.take k, rowP l (first m) m.st
def MgeRel (m : Mach) (w : World) (i : Value) (wr : World) : Prop := Below w.heap.size w wr ∧ ∃ k : Nat, k ≤ m.send.length ∧ i = .int .i64 k ∧ ∀ l ∈ m.send.take k, rowP l m.deg m.msg
def MgcRel (m : Mach) (w : World) (i : Value) (wr : World) : Prop := Below w.heap.size w wr ∧ ∃ k : Nat, k ≤ m.cls.length ∧ i = .int .i64 k ∧ ∀ c ∈ m.cls.take k, clP m c
theorem take_next {α : Type} {p : α → Prop} {xs : List α} {k : Nat} {x : α} (h : ∀ l ∈ xs.take k, p l) (hx : xs[k]? = some x) (hp : p x) : ∀ l ∈ xs.take (k + 1), p l := by
  obtain ⟨hk, rfl⟩ := aB.1 hx;intro l hl;rw [List.take_succ_eq_append_getElem hk, List.mem_append] at hl;rcases hl with hl | hl
  · exact h l hl
  · rw [List.mem_singleton.1 hl]; exact hp
theorem take_all {α : Type} {p : α → Prop} {xs : List α} {k : Nat} (h : ∀ l ∈ xs.take k, p l) (hk : xs.length ≤ k) : ∀ l ∈ xs, p l := by rw [List.take_of_length_le hk] at h;exact h
theorem clB_no1 {m : Mach} {c : Cl} (h : inB c.1 0 (m.st - 1) = false) : ¬ clP m c := fun hp => inBf h hp.1
theorem clB_no2 {m : Mach} {c : Cl} (h : inB c.2.2 0 (m.st - 1) = false) : ¬ clP m c := fun hp => inBf h hp.2.1
theorem clB_no4 {m : Mach} {c : Cl} (h : allB c.2.1 (-1) (m.msg - 1) = false) : ¬ clP m c := fun hp => by rw [allB_iff.2 hp.2.2.2] at h;cases h
set_option maxRecDepth 100000 in
set_option maxHeartbeats 2000000 in
theorem maGood_on (vs ve vc vo : Value) (m : Mach) (w : World) (h : MachR w w.heap.size vs ve vc vo m) (b1 : 0 ≤ m.deg ∧ m.deg ≤ 6) (b2 : 1 ≤ m.st ∧ m.st ≤ 12) (b3 : 1 ≤ m.msg ∧ m.msg ≤ 6)
  (k4 : (m.start.length : Int) = m.deg + 1) (b5 : 1 ≤ first m ∧ first m ≤ 10) (k6 : (m.send.length : Int) = m.st) (k7 : m.cls.length ≤ 60) (k8 : (m.out.length : Int) = m.st) (k9 : allB m.out (-1) 9 = true) :
  Calls Tryz.prog 96 #[machV vs ve vc vo m] w fun e w' => e = .returned (.bool (maB m)) ∧ Below w.heap.size w w' := by
 unfold machV
 have HALL := aA (show (∀ l ∈ m.start, rowP l (first m) m.st) → (∀ l ∈ m.send, rowP l m.deg m.msg) → (∀ c ∈ m.cls, clP m c) → maB m = true from fun x y z =>
  propB_t ⟨⟨b1, b2, b3⟩, ⟨k4, k6, k8, k7⟩, b5, x, y, z, allB_iff.1 k9⟩)
 obtain ⟨A0, c0, rfl, hc0, hm0, hr0⟩ := h.s.open_;obtain ⟨A1, c1, rfl, hc1, hm1, hr1⟩ := h.e.open_;have hcc := h.c;obtain ⟨A2, c2, rfl, hc2, hm2, -, hr2⟩ := hcc;obtain ⟨A3, c3, rfl, hc3, hm3, hr3⟩ := h.o.open_;unfold maxLen at hm0 hm1 hm2 hm3;obtain ⟨w0, hw0, hB, HM, hz0, HS0⟩ := box7 w (.int .i64 m.deg) (.int .i64 m.st) (.int .i64 m.msg) (.slice A0 m.start.length c0) (.slice A1 m.send.length c1) (.slice A2 m.cls.length c2) (.slice A3 m.out.length c3) 46;have HW0 := aA hw0;have HR := aA (h.up hB);have HR0 := aA hr0;have HR1 := aA hr1;have HR2 := aA hr2;obtain ⟨⟨g0, g1, g2⟩, ⟨g3, g4, g5, g6⟩, gf⟩ := cells7 HM;have e0 := g0;have e1 := g1;have e2 := g2;rw [hw0] at e0 e1 e2;clear h hw0 hr0 hr1 hr2 hr3;have f0 := g3;have f1 := g4;have f2 := g5;have f3 := g6;rw [HW0.out] at f0 f1 f2 f3;have k1 : inB m.deg 0 6 = true := inB_t b1;have k2 : inB m.st 1 12 = true := inB_t b2;have k3 : inB m.msg 1 6 = true := inB_t b3;have n4 : (((m.start.length : Nat) : Int) == m.deg + 1) = true := by rw [beq_iff_eq]; exact k4
 have hp0 : 0 < m.start.length := by omega
 have n0 : (0 : Int) < m.deg + 1 := by omega
 obtain ⟨l0, hl0⟩ : ∃ l, m.start[0]? = some l := ⟨_, aC hp0⟩
 obtain ⟨ad, rfl, hab, hrow⟩ := HR0.out hp0;obtain ⟨u, hcu, hru⟩ := hrow 0 l0 hl0;have ea : ad.add 0 = ad := by unfold Addr.add; simp
 rw [ea] at hcu;have hcr := (hB.cell (p := ad) hab).trans hcu;obtain ⟨A5, c5, rfl, hc5, hm5, -⟩ := hru.open_;have HC0 := aA hcu;unfold maxLen at hm5;have hcx := hcr;rw [HW0.out] at hcx;have HFI := aA (show first m = l0.length by unfold first; rw [aG, hl0]; rfl);have k5 : inB (l0.length : Int) 1 10 = true := inB_t (by rw [← HFI.out]; exact b5);have n6 : (((m.send.length : Nat) : Int) == m.st) = true := by rw [beq_iff_eq]; exact k6
 have n8 : (((m.out.length : Nat) : Int) == m.st) = true := by rw [beq_iff_eq]; exact k8
 have HAO := aA (HR.out.o);clear hl0 hcu hru hrow;go_enter Tryz.func96, Tryz.ntmps96
 go_wp2_with (first
  | (go_at_call 93; refine (spec_l1In _ _ _ _).mono ?_; rintro e w' ⟨rfl, rfl⟩)
  | (rw [← HW0.out]; go_at_call 72; refine (spec_l1All _ m.out _ _ w0 HAO.out).mono ?_; rintro e w' ⟨rfl, rfl⟩)
  | (go_at_call 72; refine (spec_l1All _ m.out _ _ w0 HAO.out).mono ?_; rintro e w' ⟨rfl, rfl⟩))
 go_loopw [72] (fun i wr => MgsRel m w0 i wr) (fun i _ => m.start.length - (intOf i).toNat)
 case atStart => exact ⟨Below.refl _ _, 0, Nat.zero_le _, rfl, by simp⟩
 case round =>
  clear e0 e1 e2 f0 f1 f2 f3 hcx hcr;obtain ⟨hb1, k, hk, rfl, hup⟩ := hrel;have HU := aA hup; clear hup;have hzhb1 := hb1.size;clear g0 g1 g2 g3 g4 g5 g6 gf;replace HM := bk HM hb1;replace HR := aA (HR.out.up hb1);obtain ⟨⟨g0, g1, g2⟩, ⟨g3, g4, g5, g6⟩, gf⟩ := cells7 HM;replace hB := bl_trans hB hb1;by_cases hlt : k < m.start.length
  ·
   obtain ⟨l, hl⟩ : ∃ l, m.start[k]? = some l := ⟨_, aC hlt⟩
   obtain ⟨ad', e, hab', hrow'⟩ := HR0.out hp0;cases e;obtain ⟨u, hcu, hru⟩ := hrow' k l hl;have hcell := (hB.cell (p := ad.add k) (by rw [block_add]; exact hab)).trans hcu;have hcr := (hB.cell (p := ad) hab).trans HC0.out;have HRK := aA ((hru.below hB).more hB.size);have HL := aA hl; clear hl hru hcu hrow';cases q : mrB l l0.length m.st with
   | true =>
    go_wp2_with fail;refine aH (S := fun w' => w'.cell? ⟨w.heap.size, 3, none⟩ = some (.slice (some ad) m.start.length c0) ∧ w'.cell? ad = some (.slice A5 l0.length c5) ∧ w'.cell? ⟨w.heap.size, 1, none⟩ = some (.int .i64 m.st)) (by kernel_rfl) ?_ (fun hHeld => ?_)
    · go_keep
    refine stk 0 76 ?_;refine stk 1 77 ?_;refine stk 2 78 ?_;refine stk 3 79 ?_;refine stk 4 80 ?_;refine stk 5 81 ?_;refine stk 6 82 ?_;refine stk 7 83 ?_;refine tr 8 rfl (by kernel_rfl) (fun K hK => ?_);go_simp;go_at_call 73;refine (spec_maRow u l _ m.st _ ((HRK.out.below (Below.refl _ _).drew).more (Nat.le_refl _)) ⟨by omega, by omega⟩).mono ?_;rintro e w' ⟨rfl, rfl⟩;rw [q];refine hK.out _ _ ?_ (fun hHeld => ?_)
    · go_keep
    clear hK K
    try simp only [Act.put, pu]
    refine stk 9 85 ?_;refine aK (by kernel_rfl) ?_ _;go_wp2_with fail;go_roundw
    case rel => exact ⟨bl_trans hb1 (Below.refl _ _).drew, k + 1, by omega, by go_num, take_next HU.out HL.out (by rw [HFI.out]; exact propB_iff.1 q)⟩
    case measure => simp [intOf]; omega
   | false =>
    have HF := aA (maB_f fun hp => by have e : mrB l l0.length m.st = true := propB_t (by have := hp.2.2.2.1 l (aN HL.out); rw [HFI.out] at this; exact this); rw [q] at e; cases e).symm;go_wp2_with fail;refine aH (S := fun w' => w'.cell? ⟨w.heap.size, 3, none⟩ = some (.slice (some ad) m.start.length c0) ∧ w'.cell? ad = some (.slice A5 l0.length c5) ∧ w'.cell? ⟨w.heap.size, 1, none⟩ = some (.int .i64 m.st)) (by kernel_rfl) ?_ (fun hHeld => ?_)
    · go_keep
    refine stk 0 76 ?_;refine stk 1 77 ?_;refine stk 2 78 ?_;refine stk 3 79 ?_;refine stk 4 80 ?_;refine stk 5 81 ?_;refine stk 6 82 ?_;refine stk 7 83 ?_;refine tr 8 rfl (by kernel_rfl) (fun K hK => ?_);go_simp;go_at_call 73;refine (spec_maRow u l _ m.st _ ((HRK.out.below (Below.refl _ _).drew).more (Nat.le_refl _)) ⟨by omega, by omega⟩).mono ?_;rintro e w' ⟨rfl, rfl⟩;rw [q];refine hK.out _ _ ?_ (fun hHeld => ?_)
    · go_keep
    clear hK K
    try simp only [Act.put, pu]
    refine stk 9 85 ?_;refine aK (by kernel_rfl) ?_ _;go_wp2_with fail;go_ret;exact ⟨ret_bool HF.out, hB.drew⟩
  ·
   have HS := aA (take_all HU.out (by omega)); clear HU;go_wp2_with fail;obtain ⟨wq, rfl⟩ : ∃ z, z = wr := ⟨_, rfl⟩
   go_loopw [90] (fun i wr' => MgeRel m wq i wr') (fun i _ => m.send.length - (intOf i).toNat)
   case atStart => exact ⟨Below.refl _ _, 0, Nat.zero_le _, rfl, by simp⟩
   case round =>
    obtain ⟨hb2, j, hj, rfl, hup⟩ := hrel;have HU := aA hup; clear hup;have hzhb2 := hb2.size;clear g0 g1 g2 g3 g4 g5 g6 gf;replace HM := bk HM hb2;replace HR := aA (HR.out.up hb2);obtain ⟨⟨g0, g1, g2⟩, ⟨g3, g4, g5, g6⟩, gf⟩ := cells7 HM;replace hB := bl_trans hB hb2;by_cases hlt2 : j < m.send.length
    ·
     obtain ⟨l, hl⟩ : ∃ l, m.send[j]? = some l := ⟨_, aC hlt2⟩
     obtain ⟨ad1, rfl, hab1, hrow1⟩ := HR1.out (by omega);obtain ⟨u, hcu, hru⟩ := hrow1 j l hl;have hcell := (hB.cell (p := ad1.add j) (by rw [block_add]; exact hab1)).trans hcu;have HRK := aA ((hru.below hB).more hB.size);have HL := aA hl; clear hl hru hcu hrow1;cases q : mrB l m.deg m.msg with
     | true =>
      go_wp2_with (go_at_call 73; refine (spec_maRow u l _ m.msg _ HRK.out ⟨by omega, by omega⟩).mono ?_; rintro e w' ⟨rfl, rfl⟩; rw [q])
      go_roundw
      case rel => exact ⟨hb2, j + 1, by omega, by go_num, take_next HU.out HL.out (propB_iff.1 q)⟩
      case measure => simp [intOf]; omega
     | false =>
      have HF := aA (maB_f fun hp => by have e : mrB l m.deg m.msg = true := propB_t (hp.2.2.2.2.1 l (aN HL.out)); rw [q] at e; cases e).symm;go_wp2_with (go_at_call 73; refine (spec_maRow u l _ m.msg _ HRK.out ⟨by omega, by omega⟩).mono ?_; rintro e w' ⟨rfl, rfl⟩; rw [q])
      go_ret;exact ⟨ret_bool HF.out, hB⟩
    ·
     have HE := aA (take_all HU.out (by omega)); clear HU;go_wp2_with fail;obtain ⟨wp, rfl⟩ : ∃ z, z = wr := ⟨_, rfl⟩
     go_loopw [105] (fun i wr' => MgcRel m wp i wr') (fun i _ => m.cls.length - (intOf i).toNat)
     case atStart => exact ⟨Below.refl _ _, 0, Nat.zero_le _, rfl, by simp⟩
     case round =>
      obtain ⟨hb3, n, hn, rfl, hup⟩ := hrel;have HU := aA hup; clear hup;have hzhb3 := hb3.size;clear g0 g1 g2 g3 g4 g5 g6 gf;replace HM := bk HM hb3;replace HR := aA (HR.out.up hb3);obtain ⟨⟨g0, g1, g2⟩, ⟨g3, g4, g5, g6⟩, gf⟩ := cells7 HM;replace hB := bl_trans hB hb3;by_cases hlt3 : n < m.cls.length
      ·
       obtain ⟨c, hc⟩ : ∃ l, m.cls[n]? = some l := ⟨_, aC hlt3⟩
       obtain ⟨cb, co, rfl, hcb, hrow2⟩ := HR2.out (by omega);obtain ⟨p0, ⟨u, p1, hru⟩, p2⟩ := hrow2 n c hc;have p0' := (hB.cell (p := ⟨cb, co + n * 3, none⟩) hcb).trans p0;have p1' := (hB.cell (p := ⟨cb, co + n * 3 + 1, none⟩) hcb).trans p1;have p2' := (hB.cell (p := ⟨cb, co + n * 3 + 2, none⟩) hcb).trans p2;obtain ⟨A7, c7, rfl, hc7, hm7, -⟩ := hru.open_;unfold maxLen at hm7;obtain ⟨wv, hwv, hb4, HK, hzv, HSV⟩ := box3 wr (.int .i64 c.1) (.slice A7 c.2.1.length c7) (.int .i64 c.2.2) 123;have HWV := aA hwv;obtain ⟨z0, z1, z2, zf⟩ := cells3 HK;have t0 := z0;have t1 := z1;have t2 := z2;have hzr : w.heap.size < wr.heap.size := by omega
       have t3 := (hb4.cell (p := ⟨w.heap.size, 0, none⟩) hzr).trans g0;have t4 := (hb4.cell (p := ⟨w.heap.size, 1, none⟩) hzr).trans g1;have t5 := (hb4.cell (p := ⟨w.heap.size, 2, none⟩) hzr).trans g2;have s3 := t3;have s4 := t4;have s5 := t5;rw [hwv] at t0 t1 t2 t3 t4 t5;have HRK := aA ((hru.below (bl_trans hB hb4)).more (bl_trans hB hb4).size);have HL := aA hc; clear hc hru p0 p1 p2 hrow2 hwv;have HNO := aA (fun hf : ¬ clP m c => maB_f fun hp => hf (hp.2.2.2.2.2.1 c (aN HL.out)));have HB4 := aA (bl_trans hB hb4);cases q1 : inB c.1 0 (m.st - 1) with
       | false =>
        have HF := aA (HNO.out (clB_no1 q1)).symm;go_wp2_with (go_at_call 93; (try rw [show IntKind.i64.wrap (m.st - 1) = m.st - 1 from aL _ (by omega)]); refine (spec_l1In _ _ _ _).mono ?_; rintro e w' ⟨rfl, rfl⟩)
        go_ret;exact ⟨ret_bool HF.out, by rw [← HWV.out]; exact HB4.out⟩
       | true =>
        cases q2 : inB c.2.2 0 (m.st - 1) with
        | false =>
         have HF := aA (HNO.out (clB_no2 q2)).symm;go_wp2_with (go_at_call 93; (try rw [show IntKind.i64.wrap (m.st - 1) = m.st - 1 from aL _ (by omega)]); refine (spec_l1In _ _ _ _).mono ?_; rintro e w' ⟨rfl, rfl⟩)
         go_ret;exact ⟨ret_bool HF.out, by rw [← HWV.out]; exact HB4.out⟩
        | true =>
         by_cases q3 : (c.2.1.length : Int) ≤ m.deg
         ·
          cases q4 : allB c.2.1 (-1) (m.msg - 1) with
          | false =>
           have HF := aA (HNO.out (clB_no4 q4)).symm;go_wp2_with (first | (go_at_call 93; (try rw [show IntKind.i64.wrap (m.st - 1) = m.st - 1 from aL _ (by omega)]); refine (spec_l1In _ _ _ _).mono ?_; rintro e w' ⟨rfl, rfl⟩) | (rw [← HWV.out]; go_at_call 72; (try rw [show IntKind.i64.wrap (m.msg - 1) = m.msg - 1 from aL _ (by omega)]); refine (spec_l1All _ c.2.1 _ _ wv HRK.out).mono ?_; rintro e w' ⟨rfl, rfl⟩; rw [q4]))
           go_ret;exact ⟨ret_bool HF.out, HB4.out⟩
          | true =>
           have HCP := aA (show clP m c from ⟨inBt q1, inBt q2, q3, allB_iff.1 q4⟩);go_wp2_with (first | (go_at_call 93; (try rw [show IntKind.i64.wrap (m.st - 1) = m.st - 1 from aL _ (by omega)]); refine (spec_l1In _ _ _ _).mono ?_; rintro e w' ⟨rfl, rfl⟩) | (rw [← HWV.out]; go_at_call 72; (try rw [show IntKind.i64.wrap (m.msg - 1) = m.msg - 1 from aL _ (by omega)]); refine (spec_l1All _ c.2.1 _ _ wv HRK.out).mono ?_; rintro e w' ⟨rfl, rfl⟩; rw [q4]))
           go_roundw
           case rel => exact ⟨bl_trans hb3 hb4, n + 1, by omega, by go_num, take_next HU.out HL.out HCP.out⟩
           case measure => simp [intOf]; omega
         ·
          have HF := aA (HNO.out fun hp => q3 hp.2.2.1).symm;go_wp2_with (go_at_call 93; (try rw [show IntKind.i64.wrap (m.st - 1) = m.st - 1 from aL _ (by omega)]); refine (spec_l1In _ _ _ _).mono ?_; rintro e w' ⟨rfl, rfl⟩)
          go_ret;exact ⟨ret_bool HF.out, by rw [← HWV.out]; exact HB4.out⟩
      · have HZ := aA (HALL.out HS.out HE.out (take_all HU.out (by omega))).symm;go_wp2_with fail;go_ret;exact ⟨ret_bool HZ.out, hB⟩
end
section
open Go.RowKit
set_option linter.all false
set_option maxRecDepth 100000 in
set_option maxHeartbeats 2000000 in
theorem spec_maGood (vs ve vc vo : Value) (m : Mach) (w : World) (h : MachR w w.heap.size vs ve vc vo m) :
  Calls Tryz.prog 96 #[machV vs ve vc vo m] w fun e w' => e = .returned (.bool (maB m)) ∧ Below w.heap.size w w' := by
 have HG := aA (maGood_on vs ve vc vo m w h);unfold machV;obtain ⟨A0, c0, rfl, hc0, hm0, hr0⟩ := h.s.open_;obtain ⟨A1, c1, rfl, hc1, hm1, hr1⟩ := h.e.open_;have hcc := h.c;obtain ⟨A2, c2, rfl, hc2, hm2, -, hr2⟩ := hcc;obtain ⟨A3, c3, rfl, hc3, hm3, hr3⟩ := h.o.open_;unfold maxLen at hm0 hm1 hm2 hm3;obtain ⟨w0, hw0, hB, HD, hz0, HS0⟩ := box7 w (.int .i64 m.deg) (.int .i64 m.st) (.int .i64 m.msg) (.slice A0 m.start.length c0) (.slice A1 m.send.length c1) (.slice A2 m.cls.length c2) (.slice A3 m.out.length c3) 46;have HW0 := aA hw0;have H := aA (h.up hB);have HR0 := aA hr0;have HR1 := aA hr1;have HR2 := aA hr2;obtain ⟨⟨g0, g1, g2⟩, ⟨q0, q1, q2, q3⟩, qf⟩ := cells7 HD;have e0 := g0;have e1 := g1;have e2 := g2;rw [hw0] at e0 e1 e2;clear h hw0 hr0 hr1 hr2 hr3;cases k1 : inB m.deg 0 6 with
 | false =>
  have HF := aA (maB_f fun hp => inBf k1 hp.1.1).symm;go_enter Tryz.func96, Tryz.ntmps96;go_wp2_with (go_at_call 93; refine (spec_l1In _ _ _ _).mono ?_; rintro e w' ⟨rfl, rfl⟩)
  go_ret;exact ⟨ret_bool HF.out, by rw [← HW0.out]; exact hB⟩
 | true =>
  cases k2 : inB m.st 1 12 with
  | false =>
   have HF := aA (maB_f fun hp => inBf k2 hp.1.2.1).symm;go_enter Tryz.func96, Tryz.ntmps96;go_wp2_with (go_at_call 93; refine (spec_l1In _ _ _ _).mono ?_; rintro e w' ⟨rfl, rfl⟩)
   go_ret;exact ⟨ret_bool HF.out, by rw [← HW0.out]; exact hB⟩
  | true =>
   cases k3 : inB m.msg 1 6 with
   | false =>
    have HF := aA (maB_f fun hp => inBf k3 hp.1.2.2).symm;go_enter Tryz.func96, Tryz.ntmps96;go_wp2_with (go_at_call 93; refine (spec_l1In _ _ _ _).mono ?_; rintro e w' ⟨rfl, rfl⟩)
    go_ret;exact ⟨ret_bool HF.out, by rw [← HW0.out]; exact hB⟩
   | true =>
    have b1 := inBt k1;have b2 := inBt k2;have b3 := inBt k3;have f0 := q0;have f1 := q1;have f2 := q2;have f3 := q3;rw [HW0.out] at f0 f1 f2 f3;by_cases k4 : (m.start.length : Int) = m.deg + 1
    ·
     have n4 : (((m.start.length : Nat) : Int) == m.deg + 1) = true := by rw [beq_iff_eq]; exact k4
     have hp0 : 0 < m.start.length := by omega
     obtain ⟨l0, hl0⟩ : ∃ l, m.start[0]? = some l := ⟨_, aC hp0⟩
     obtain ⟨ad, rfl, hab, hrow⟩ := HR0.out hp0;obtain ⟨u, hcu, hru⟩ := hrow 0 l0 hl0;have ea : ad.add 0 = ad := by unfold Addr.add; simp
     rw [ea] at hcu;have hcr := (hB.cell (p := ad) hab).trans hcu;obtain ⟨A5, c5, rfl, hc5, hm5, -⟩ := hru.open_;unfold maxLen at hm5;have hcx := hcr;rw [HW0.out] at hcx;have HFI := aA (show first m = l0.length by unfold first; rw [aG, hl0]; rfl);clear hl0 hcu hru hrow;cases k5 : inB (l0.length : Int) 1 10 with
     | false =>
      have HF := aA (maB_f fun hp => inBf k5 (by have := hp.2.2.1; rw [HFI.out] at this; exact this)).symm;go_enter Tryz.func96, Tryz.ntmps96;go_wp2_with (go_at_call 93; refine (spec_l1In _ _ _ _).mono ?_; rintro e w' ⟨rfl, rfl⟩)
      go_ret;exact ⟨ret_bool HF.out, by rw [← HW0.out]; exact hB⟩
     | true =>
      by_cases k6 : (m.send.length : Int) = m.st
      ·
       have n6 : (((m.send.length : Nat) : Int) == m.st) = true := by rw [beq_iff_eq]; exact k6
       by_cases k7 : m.cls.length ≤ 60
       ·
        by_cases k8 : (m.out.length : Int) = m.st
        ·
         have n8 : (((m.out.length : Nat) : Int) == m.st) = true := by rw [beq_iff_eq]; exact k8
         have HAO := aA (H.out.o);cases k9 : allB m.out (-1) 9 with
         | false =>
          have HF := aA (maB_f fun hp => by have e : allB m.out (-1) 9 = true := allB_iff.2 hp.2.2.2.2.2.2; rw [k9] at e; cases e).symm;go_enter Tryz.func96, Tryz.ntmps96
          go_wp2_with (first
           | (go_at_call 93; refine (spec_l1In _ _ _ _).mono ?_; rintro e w' ⟨rfl, rfl⟩)
           | (rw [← HW0.out]; go_at_call 72; refine (spec_l1All _ m.out _ _ w0 HAO.out).mono ?_; rintro e w' ⟨rfl, rfl⟩)
           | (go_at_call 72; refine (spec_l1All _ m.out _ _ w0 HAO.out).mono ?_; rintro e w' ⟨rfl, rfl⟩))
          go_ret;exact ⟨ret_bool HF.out, by first | exact hB | (rw [← HW0.out]; exact hB)⟩
         | true => exact HG.out b1 b2 b3 k4 (by rw [HFI.out]; exact inBt k5) k6 k7 k8 k9
        ·
         have n8 : (((m.out.length : Nat) : Int) == m.st) = false := by rw [beq_eq_false_iff_ne]; exact k8
         have HF := aA (maB_f fun hp => k8 hp.2.1.2.2.1).symm;go_enter Tryz.func96, Tryz.ntmps96;go_wp2_with (go_at_call 93; refine (spec_l1In _ _ _ _).mono ?_; rintro e w' ⟨rfl, rfl⟩)
         go_ret;exact ⟨ret_bool HF.out, by rw [← HW0.out]; exact hB⟩
       ·
        skip
        have HF := aA (maB_f fun hp => k7 hp.2.1.2.2.2).symm;go_enter Tryz.func96, Tryz.ntmps96;go_wp2_with (go_at_call 93; refine (spec_l1In _ _ _ _).mono ?_; rintro e w' ⟨rfl, rfl⟩)
        go_ret;exact ⟨ret_bool HF.out, by rw [← HW0.out]; exact hB⟩
      ·
       have n6 : (((m.send.length : Nat) : Int) == m.st) = false := by rw [beq_eq_false_iff_ne]; exact k6
       have HF := aA (maB_f fun hp => k6 hp.2.1.2.1).symm;go_enter Tryz.func96, Tryz.ntmps96;go_wp2_with (go_at_call 93; refine (spec_l1In _ _ _ _).mono ?_; rintro e w' ⟨rfl, rfl⟩)
       go_ret;exact ⟨ret_bool HF.out, by rw [← HW0.out]; exact hB⟩
    ·
     have HF := aA (maB_f fun hp => k4 hp.2.1.1).symm;have n4 : (((m.start.length : Nat) : Int) == m.deg + 1) = false := by rw [beq_eq_false_iff_ne]; exact k4
     go_enter Tryz.func96, Tryz.ntmps96;go_wp2_with (go_at_call 93; refine (spec_l1In _ _ _ _).mono ?_; rintro e w' ⟨rfl, rfl⟩)
     go_ret;exact ⟨ret_bool HF.out, by rw [← HW0.out]; exact hB⟩
end
end Go.Proofs.YtjklbjmdgiddcaaGreat
namespace Go.Proofs.YtjklbjmdgiddcaaGreat
open Go.RowKit
set_option linter.all false
theorem box5 (w : World) (a b c d e : Value) (t : TypeId) : ∃ w0, w0 = w.alloc (.cells #[a, b, c, d, e] t) ∧ Below w.heap.size w w0 ∧ Hid (w0.heap[w.heap.size]? = some (.cells #[a, b, c, d, e] t (0, 0))) ∧ w.heap.size < w0.heap.size ∧ Hid (w0.heap.size = w.heap.size + 1) :=
  ⟨_, rfl, bl_alloc (Below.refl _ _) _, aA (heap_alloc_new w _), by simp, aA (by simp)⟩
theorem cells5 {w : World} {b : Nat} {v0 v1 v2 v3 v4 : Value} {t : TypeId} (H : Hid (w.heap[b]? = some (.cells #[v0, v1, v2, v3, v4] t (0, 0)))) :
    (w.cell? ⟨b, 0, none⟩ = some v0 ∧ w.cell? ⟨b, 1, none⟩ = some v1 ∧ w.cell? ⟨b, 2, none⟩ = some v2) ∧ (w.cell? ⟨b, 3, none⟩ = some v3 ∧ w.cell? ⟨b, 4, none⟩ = some v4) ∧ ∀ i, w.frozen? ⟨b, i, none⟩ = false :=
  ⟨⟨cell_of_row _ _ 0 _ _ (0, 0) H.out, cell_of_row _ _ 1 _ _ (0, 0) H.out, cell_of_row _ _ 2 _ _ (0, 0) H.out⟩, ⟨cell_of_row _ _ 3 _ _ (0, 0) H.out, cell_of_row _ _ 4 _ _ (0, 0) H.out⟩, fun i => frozen_of_row _ _ i _ _ H.out⟩
noncomputable def onB (m : Mach) (n : Net) : Bool := propB (onP m n)
theorem on_deg {m : Mach} {n : Net} : allB (degs n) 0 m.deg = true ↔ ∀ l ∈ n.es, (l.length : Int) ≤ m.deg := by
  rw [allB_iff];unfold degs;constructor
  · intro h l hl
    exact (h _ (List.mem_map.2 ⟨l, hl, rfl⟩)).2
  · intro h x hx
    obtain ⟨l, hl, rfl⟩ := List.mem_map.1 hx;exact ⟨by omega, h l hl⟩
theorem on_f1 {m : Mach} {n : Net} (h : allB (degs n) 0 m.deg = false) : onB m n = false := propB_f fun hp => by rw [on_deg.2 hp.1] at h;cases h
theorem on_eq {m : Mach} {n : Net} (hq : netP n) (h : allB (degs n) 0 m.deg = true) : onB m n = allB n.ins 0 (first m - 1) := by
  cases g : allB n.ins 0 (first m - 1) with
  | true => exact propB_t ⟨on_deg.1 h, fun x hx => by have := (allB_iff.1 g x hx).2; omega⟩
  | false =>
    exact propB_f fun hp => by rw [allB_iff.2 fun x hx => ⟨(hq.2.2.2.1 x hx).1, by have := hp.2 x hx; omega⟩] at g;cases g
theorem fit_f1 {m : Mach} {n : Net} (h : maB m = false) : fitB m n = false := propB_f fun hp => by rw [show maB m = true from propB_t hp.1] at h;cases h
theorem fit_f2 {m : Mach} {n : Net} (h : netB n = false) : fitB m n = false := propB_f fun hp => by rw [show netB n = true from propB_t hp.2.1] at h;cases h
theorem fit_eq {m : Mach} {n : Net} (h : maP m) (h' : netP n) : fitB m n = onB m n := propB_congr ⟨fun x => x.2.2, fun x => ⟨h, h', x⟩⟩
set_option maxRecDepth 100000 in
set_option maxHeartbeats 2000000 in
theorem spec_maOn (vs ve vc vo : Value) (m : Mach) (ne ni nn : Value) (n : Net) (w : World) (hm : MachR w w.heap.size vs ve vc vo m) (hn : NetR w w.heap.size ne ni nn n) (hp : maP m) (hq : netP n) :
  Calls Tryz.prog 98 #[machV vs ve vc vo m, .agg #[ne, ni, nn]] w fun e w' => e = .returned (.bool (onB m n)) ∧ Below w.heap.size w w' := by
 unfold machV;have b1 := hp.1.1;have b5 := hp.2.2.1;have k4 := hp.2.1.1;have HQ := aA hq;have hp0 : 0 < m.start.length := by omega
 have n0 : (0 : Int) < m.start.length := by omega
 clear k4 hp hq;obtain ⟨A0, c0, rfl, hc0, hm0, hr0⟩ := hm.s.open_;obtain ⟨A1, m1, c1, rfl⟩ := hm.e.isSlice1;obtain ⟨A2, m2, c2, rfl⟩ := hm.c.isSlice;obtain ⟨A3, m3, c3, rfl⟩ := hm.o.isSlice;obtain ⟨⟨A4, m4, c4, rfl⟩, ⟨A5, m5, c5, rfl⟩, A6, m6, c6, rfl⟩ := hn.slices;unfold maxLen at hm0;obtain ⟨l0, hl0⟩ : ∃ l, m.start[0]? = some l := ⟨_, aC hp0⟩
 obtain ⟨ad, rfl, hab, hrow⟩ := hr0 hp0;obtain ⟨u, hcu, hru⟩ := hrow 0 l0 hl0;have ea : ad.add 0 = ad := by unfold Addr.add; simp
 rw [ea] at hcu;obtain ⟨A7, c7, rfl, hc7, hm7, -⟩ := hru.open_;unfold maxLen at hm7;have HFI := aA (show first m = l0.length by unfold first; rw [aG, hl0]; rfl);clear hrow hru hr0;obtain ⟨w0, hw0, hb0, HM, hz0, HS0⟩ := box7 w (.int .i64 m.deg) (.int .i64 m.st) (.int .i64 m.msg) (.slice (some ad) m.start.length c0) (.slice A1 m1 c1) (.slice A2 m2 c2) (.slice A3 m3 c3) 46;obtain ⟨w1, hw1, hb1, HD, hz1, HS1⟩ := box3 w0 (.slice A4 m4 c4) (.slice A5 m5 c5) (.slice A6 m6 c6) 50;replace HM := bk HM hb1;have hB : Below w.heap.size w w1 := bl_trans (hb0) hb1;have HW := aA (show w1 = (w.alloc (.cells #[.int .i64 m.deg, .int .i64 m.st, .int .i64 m.msg, .slice (some ad) m.start.length c0, .slice A1 m1 c1, .slice A2 m2 c2, .slice A3 m3 c3] 46)).alloc (.cells #[.slice A4 m4 c4, .slice A5 m5 c5, .slice A6 m6 c6] 50) by rw [hw1, hw0]);obtain ⟨P1, hP1⟩ : ∃ z, z = w0.heap.size := ⟨_, rfl⟩
 have HP1 := aA (show w.heap.size + 1 = P1 by rw [hP1, HS0.out]);have hPl1 : w.heap.size < P1 := by rw [← HP1.out]; omega
 rw [← hP1] at HD hz1;obtain ⟨⟨g0, g1, g2⟩, ⟨g3, g4, g5, g6⟩, gf⟩ := cells7 HM;obtain ⟨q0, q1, q2, qf⟩ := cells3 HD;have eg0 := g0;have eg1 := g1;have eg2 := g2;have eg3 := g3;have eg4 := g4;have eg5 := g5;have eg6 := g6;have eq0 := q0;have eq1 := q1;have eq2 := q2;rw [HW.out] at eg0 eg1 eg2 eg3 eg4 eg5 eg6 eq0 eq1 eq2;rw [← HP1.out] at eq0 eq1 eq2;have HR := aA (hm.up hB);have HN := aA (hn.up hB);clear hw1 hw0 hP1;have hcr := (hB.cell (p := ad) hab).trans hcu;have h10 : (l0.length : Int) ≤ 10 ∧ 1 ≤ (l0.length : Int) := by rw [← HFI.out]; omega
 cases g : allB (degs n) 0 m.deg with
 | false =>
  have HF := aA (on_f1 g).symm;go_enter Tryz.func98, Tryz.ntmps98;go_wp2_with fail;rw [HP1.out, ← HW.out];clear eg0 eg1 eg2 eg3 eg4 eg5 eg6 eq0 eq1 eq2;refine aH (S := fun w' => w'.cell? ⟨w.heap.size, 0, none⟩ = some (.int .i64 m.deg) ∧ w'.cell? ⟨w.heap.size, 3, none⟩ = some (.slice (some ad) m.start.length c0) ∧ w'.cell? ad = some (.slice A7 l0.length c7) ∧ w'.cell? ⟨P1, 0, none⟩ = some (.slice A4 m4 c4) ∧ w'.cell? ⟨P1, 1, none⟩ = some (.slice A5 m5 c5) ∧ w'.cell? ⟨P1, 2, none⟩ = some (.slice A6 m6 c6)) (by kernel_rfl) ?_ (fun hHeld => ?_)
  · go_keep
  refine stk 0 5 ?_;refine stk 2 7 ?_;refine stk 3 8 ?_;refine tr 1 rfl (by kernel_rfl) (fun K hK => ?_);go_simp;go_at_call 121;refine (spec_neDegrees _ _ _ n w1.drew (HN.out.up (Below.refl _ _).drew) HQ.out).mono ?_;rintro e w5 ⟨u, rfl, ⟨Au, mu, cu, rfl⟩, hu, hb5'⟩;have hb5 : Below w1.heap.size w1 w5 := (Below.refl _ _).drew.trans hb5';clear hb5';have HU := aA hu;clear hu;have hzhb5 := hb5.size;clear g0 g1 g2 g3 g4 g5 g6 gf;replace HM := bk HM hb5;replace HR := aA (HR.out.up hb5);obtain ⟨⟨g0, g1, g2⟩, ⟨g3, g4, g5, g6⟩, gf⟩ := cells7 HM;have hzhb5 := hb5.size;clear q0 q1 q2 qf;replace HD := bk HD hb5;replace HN := aA (HN.out.up hb5);replace hB := bl_trans hB hb5;obtain ⟨q0, q1, q2, qf⟩ := cells3 HD;replace hcr := (hB.cell (p := ad) hab).trans hcu;refine hK.out _ _ ?_ (fun hHeld => ?_)
  · go_keep
  clear hK K
  try simp only [Act.put, pu]
  refine tr 4 rfl (by kernel_rfl) (fun K hK => ?_);go_simp;go_at_call 72;refine (spec_l1All _ (degs n) _ _ w5 HU.out).mono ?_;rintro e w' ⟨rfl, rfl⟩;rw [g];refine hK.out _ _ ?_ (fun hHeld => ?_)
  · go_keep
  clear hK K
  try simp only [Act.put, pu]
  refine stk 5 10 ?_;refine stn 6 11 ?_;refine stn 7 12 ?_;refine stn 8 13 ?_;refine stn 9 14 ?_;refine stn 10 15 ?_;refine stn 11 16 ?_;refine stn 12 17 ?_;refine stn 13 18 ?_;refine stn 14 19 ?_;refine stk 15 20 ?_;refine stk 16 4 ?_;refine aK (by kernel_rfl) ?_ _;go_wp2_with fail;go_ret;exact ⟨ret_bool HF.out, hB⟩
 | true =>
  have HF := aA (on_eq HQ.out g).symm;go_enter Tryz.func98, Tryz.ntmps98;go_wp2_with fail;rw [HP1.out, ← HW.out];clear eg0 eg1 eg2 eg3 eg4 eg5 eg6 eq0 eq1 eq2;refine aH (S := fun w' => w'.cell? ⟨w.heap.size, 0, none⟩ = some (.int .i64 m.deg) ∧ w'.cell? ⟨w.heap.size, 3, none⟩ = some (.slice (some ad) m.start.length c0) ∧ w'.cell? ad = some (.slice A7 l0.length c7) ∧ w'.cell? ⟨P1, 0, none⟩ = some (.slice A4 m4 c4) ∧ w'.cell? ⟨P1, 1, none⟩ = some (.slice A5 m5 c5) ∧ w'.cell? ⟨P1, 2, none⟩ = some (.slice A6 m6 c6)) (by kernel_rfl) ?_ (fun hHeld => ?_)
  · go_keep
  refine stk 0 5 ?_;refine stk 2 7 ?_;refine stk 3 8 ?_;refine tr 1 rfl (by kernel_rfl) (fun K hK => ?_);go_simp;go_at_call 121;refine (spec_neDegrees _ _ _ n w1.drew (HN.out.up (Below.refl _ _).drew) HQ.out).mono ?_;rintro e w5 ⟨u, rfl, ⟨Au, mu, cu, rfl⟩, hu, hb5'⟩;have hb5 : Below w1.heap.size w1 w5 := (Below.refl _ _).drew.trans hb5';clear hb5';have HU := aA hu;clear hu;have hzhb5 := hb5.size;clear g0 g1 g2 g3 g4 g5 g6 gf;replace HM := bk HM hb5;replace HR := aA (HR.out.up hb5);obtain ⟨⟨g0, g1, g2⟩, ⟨g3, g4, g5, g6⟩, gf⟩ := cells7 HM;have hzhb5 := hb5.size;clear q0 q1 q2 qf;replace HD := bk HD hb5;replace HN := aA (HN.out.up hb5);replace hB := bl_trans hB hb5;obtain ⟨q0, q1, q2, qf⟩ := cells3 HD;replace hcr := (hB.cell (p := ad) hab).trans hcu;refine hK.out _ _ ?_ (fun hHeld => ?_)
  · go_keep
  clear hK K
  try simp only [Act.put, pu]
  refine tr 4 rfl (by kernel_rfl) (fun K hK => ?_);go_simp;go_at_call 72;refine (spec_l1All _ (degs n) _ _ w5 HU.out).mono ?_;rintro e w' ⟨rfl, rfl⟩;rw [g];refine hK.out _ _ ?_ (fun hHeld => ?_)
  · go_keep
  clear hK K
  try simp only [Act.put, pu]
  refine stk 5 10 ?_;refine stk 6 11 ?_;refine stk 7 12 ?_;refine stk 8 13 ?_;refine stk 9 14 ?_;refine stk 10 15 ?_;refine stk 11 16 ?_;refine stk 12 17 ?_;refine stk 13 18 ?_;refine tr 14 rfl (by kernel_rfl) (fun K hK => ?_);go_simp;go_at_call 72;rw [show IntKind.i64.wrap ((l0.length : Int) - 1) = (l0.length : Int) - 1 from aL _ (by omega)];refine (spec_l1All _ n.ins _ _ w5 HN.out.n).mono ?_;rintro e w' ⟨rfl, rfl⟩;refine hK.out _ _ ?_ (fun hHeld => ?_)
  · go_keep
  clear hK K
  try simp only [Act.put, pu]
  refine stk 15 20 ?_;refine stk 16 4 ?_;refine aK (by kernel_rfl) ?_ _;go_wp2_with fail;go_ret;exact ⟨ret_bool (by rw [← HF.out, HFI.out]), hB⟩
set_option maxRecDepth 100000 in
set_option maxHeartbeats 2000000 in
theorem spec_maAsked (vs ve vc vo : Value) (m : Mach) (ne ni nn : Value) (n : Net) (w : World) (hm : MachR w w.heap.size vs ve vc vo m) (hn : NetR w w.heap.size ne ni nn n) (hz : n.es.length ≤ 2000000) :
  Calls Tryz.prog 71 #[machV vs ve vc vo m, .agg #[ne, ni, nn]] w fun e w' => e = .returned (.bool (fitB m n)) ∧ Below w.heap.size w w' := by
 unfold machV;obtain ⟨⟨A0, m0, c0, rfl⟩, ⟨A1, m1, c1, rfl⟩, ⟨A2, m2, c2, rfl⟩, A3, m3, c3, rfl⟩ := hm.slices;obtain ⟨⟨A4, m4, c4, rfl⟩, ⟨A5, m5, c5, rfl⟩, A6, m6, c6, rfl⟩ := hn.slices;obtain ⟨w0, hw0, hb0, HM, hz0, HS0⟩ := box7 w (.int .i64 m.deg) (.int .i64 m.st) (.int .i64 m.msg) (.slice A0 m0 c0) (.slice A1 m1 c1) (.slice A2 m2 c2) (.slice A3 m3 c3) 46;obtain ⟨w1, hw1, hb1, HD, hz1, HS1⟩ := box3 w0 (.slice A4 m4 c4) (.slice A5 m5 c5) (.slice A6 m6 c6) 50;replace HM := bk HM hb1;have hB : Below w.heap.size w w1 := bl_trans (hb0) hb1;have HW := aA (show w1 = (w.alloc (.cells #[.int .i64 m.deg, .int .i64 m.st, .int .i64 m.msg, .slice A0 m0 c0, .slice A1 m1 c1, .slice A2 m2 c2, .slice A3 m3 c3] 46)).alloc (.cells #[.slice A4 m4 c4, .slice A5 m5 c5, .slice A6 m6 c6] 50) by rw [hw1, hw0]);obtain ⟨P1, hP1⟩ : ∃ z, z = w0.heap.size := ⟨_, rfl⟩
 have HP1 := aA (show w.heap.size + 1 = P1 by rw [hP1, HS0.out]);have hPl1 : w.heap.size < P1 := by rw [← HP1.out]; omega
 rw [← hP1] at HD hz1;obtain ⟨⟨g0, g1, g2⟩, ⟨g3, g4, g5, g6⟩, gf⟩ := cells7 HM;obtain ⟨q0, q1, q2, qf⟩ := cells3 HD;have eg0 := g0;have eg1 := g1;have eg2 := g2;have eg3 := g3;have eg4 := g4;have eg5 := g5;have eg6 := g6;have eq0 := q0;have eq1 := q1;have eq2 := q2;rw [HW.out] at eg0 eg1 eg2 eg3 eg4 eg5 eg6 eq0 eq1 eq2;rw [← HP1.out] at eq0 eq1 eq2;have HR := aA (hm.up hB);have HN := aA (hn.up hB);clear hw1 hw0 hP1;have HG := aA (spec_maGood _ _ _ _ m w1 HR.out);cases j1 : maB m with
 | false =>
  have HF := aA (fit_f1 (n := n) j1).symm;go_enter Tryz.func71, Tryz.ntmps71;go_wp2_with fail;rw [HP1.out, ← HW.out];clear eg0 eg1 eg2 eg3 eg4 eg5 eg6 eq0 eq1 eq2;refine HG.out.mono ?_;rintro e w5 ⟨rfl, hb5⟩;rw [j1];go_wp2_with fail;go_ret;exact ⟨ret_bool HF.out, bl_trans hB hb5⟩
 | true =>
  have HF1 := aA j1;cases j2 : netB n with
  | false =>
   have HF := aA (fit_f2 (m := m) j2).symm;go_enter Tryz.func71, Tryz.ntmps71;go_wp2_with fail;rw [HP1.out, ← HW.out];clear eg0 eg1 eg2 eg3 eg4 eg5 eg6 eq0 eq1 eq2;refine HG.out.mono ?_;rintro e w5 ⟨rfl, hb5⟩;rw [j1];have hzhb5 := hb5.size;clear g0 g1 g2 g3 g4 g5 g6 gf;replace HM := bk HM hb5;replace HR := aA (HR.out.up hb5);obtain ⟨⟨g0, g1, g2⟩, ⟨g3, g4, g5, g6⟩, gf⟩ := cells7 HM;have hzhb5 := hb5.size;clear q0 q1 q2 qf;replace HD := bk HD hb5;replace HN := aA (HN.out.up hb5);replace hB := bl_trans hB hb5;obtain ⟨q0, q1, q2, qf⟩ := cells3 HD;go_wp2_with fail;refine (spec_neGood _ _ _ n w5 HN.out hz).mono ?_;rintro e w6 ⟨rfl, hb6⟩;rw [j2];go_wp2_with fail;go_ret;exact ⟨ret_bool HF.out, bl_trans hB hb6⟩
  | true =>
   have HF := aA (fit_eq (propB_iff.1 j1) (propB_iff.1 j2)).symm;have HF2 := aA j2;go_enter Tryz.func71, Tryz.ntmps71;go_wp2_with fail;rw [HP1.out, ← HW.out];clear eg0 eg1 eg2 eg3 eg4 eg5 eg6 eq0 eq1 eq2;refine HG.out.mono ?_;rintro e w5 ⟨rfl, hb5⟩;rw [j1];have hzhb5 := hb5.size;clear g0 g1 g2 g3 g4 g5 g6 gf;replace HM := bk HM hb5;replace HR := aA (HR.out.up hb5);obtain ⟨⟨g0, g1, g2⟩, ⟨g3, g4, g5, g6⟩, gf⟩ := cells7 HM;have hzhb5 := hb5.size;clear q0 q1 q2 qf;replace HD := bk HD hb5;replace HN := aA (HN.out.up hb5);replace hB := bl_trans hB hb5;obtain ⟨q0, q1, q2, qf⟩ := cells3 HD;go_wp2_with fail;refine (spec_neGood _ _ _ n w5 HN.out hz).mono ?_;rintro e w6 ⟨rfl, hb6⟩;rw [j2];have hzhb6 := hb6.size;clear g0 g1 g2 g3 g4 g5 g6 gf;replace HM := bk HM hb6;replace HR := aA (HR.out.up hb6);obtain ⟨⟨g0, g1, g2⟩, ⟨g3, g4, g5, g6⟩, gf⟩ := cells7 HM;have hzhb6 := hb6.size;clear q0 q1 q2 qf;replace HD := bk HD hb6;replace HN := aA (HN.out.up hb6);replace hB := bl_trans hB hb6;obtain ⟨q0, q1, q2, qf⟩ := cells3 HD;go_wp2_with fail;refine (spec_maOn _ _ _ _ m _ _ _ n w6 HR.out HN.out (propB_iff.1 HF1.out) (propB_iff.1 HF2.out)).mono ?_;rintro e w7 ⟨rfl, hb7⟩;go_wp2_with fail;go_ret;exact ⟨ret_bool HF.out, bl_trans hB hb7⟩
end Go.Proofs.YtjklbjmdgiddcaaGreat
