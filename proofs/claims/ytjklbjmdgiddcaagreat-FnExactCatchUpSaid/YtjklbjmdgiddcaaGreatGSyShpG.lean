/-
  Small lemmas and contracts that the texts of this claim share. No condition.
-/
import Derived.Test.YtjklbjmdgiddcaaGreatGMaSG
import Derived.Lib.AppendZeros
namespace Go.Proofs.YtjklbjmdgiddcaaGreat
section
open Go.RowKit
set_option linter.all false
def shapeTo (m : Mach) (n : Net) (x : Asy) (k : Nat) : Prop :=
  ∀ (v : Nat) (l : Ends) (s : List Int) (f : List Ends), v < k → n.es[v]? = some l → x.slots[v]? = some s → x.flight[v]? = some f → slotP m l.length s f
def shapeP (m : Mach) (n : Net) (x : Asy) : Prop := x.slots.length = n.es.length ∧ x.flight.length = n.es.length ∧ shapeTo m n x n.es.length
noncomputable def shB (m : Mach) (n : Net) (x : Asy) : Bool := propB (shapeP m n x)
theorem sh_no {m : Mach} {n : Net} {x : Asy} {k : Nat} {l : Ends} {s : List Int} {f : List Ends} (hl : n.es[k]? = some l) (hs : x.slots[k]? = some s) (hf : x.flight[k]? = some f) (h : ¬ slotP m l.length s f) : shB m n x = false :=
  propB_f fun hp => h (hp.2.2 k l s f (aB.1 hl).1 hl hs hf)
theorem shapeTo.next {m : Mach} {n : Net} {x : Asy} {k : Nat} {l : Ends} {s : List Int} {f : List Ends} (h : shapeTo m n x k) (hl : n.es[k]? = some l) (hs : x.slots[k]? = some s) (hf : x.flight[k]? = some f) (hp : slotP m l.length s f) : shapeTo m n x (k + 1) :=
  fun v l' s' f' hv hl' hs' hf' => by
    by_cases e : v = k
    · subst e
      obtain rfl := aE (hl.symm.trans hl');obtain rfl := aE (hs.symm.trans hs');obtain rfl := aE (hf.symm.trans hf');exact hp
    · exact h v l' s' f' (by omega) hl' hs' hf'
def letOk (m : Mach) (e : Int × Int) : Prop := (0 ≤ e.1 ∧ e.1 ≤ 40) ∧ 0 ≤ e.2 ∧ e.2 ≤ m.msg - 1
def SyRel (m : Mach) (n : Net) (x : Asy) (w : World) (i : Value) (wr : World) : Prop := Below w.heap.size w wr ∧ ∃ k : Nat, k ≤ n.es.length ∧ i = .int .i64 k ∧ shapeTo m n x k
def SyfRel (m : Mach) (f : List Ends) (w : World) (i : Value) (wr : World) : Prop := Below w.heap.size w wr ∧ ∃ k : Nat, k ≤ f.length ∧ i = .int .i64 k ∧ ∀ ls ∈ f.take k, letP m ls
def SylRel (m : Mach) (ls : Ends) (w : World) (i : Value) (wr : World) : Prop := Below w.heap.size w wr ∧ ∃ k : Nat, k ≤ ls.length ∧ i = .int .i64 k ∧ ∀ e ∈ ls.take k, letOk m e
set_option maxRecDepth 100000 in
set_option maxHeartbeats 2000000 in
theorem spec_syShape (vs ve vc vo : Value) (m : Mach) (ne ni nn : Value) (n : Net) (xr xb xn xs xf : Value) (x : Asy) (w : World) (hm : MachR w w.heap.size vs ve vc vo m) (hn : NetR w w.heap.size ne ni nn n) (hx : AsyR w w.heap.size xr xb xn xs xf x)
  (hg : 1 ≤ m.msg ∧ m.msg ≤ 6) :
  Calls Tryz.prog 74 #[machV vs ve vc vo m, .agg #[ne, ni, nn], .agg #[xr, xb, xn, xs, xf]] w fun e w' => e = .returned (.bool (shB m n x)) ∧ Below w.heap.size w w' := by
 unfold machV;obtain ⟨⟨A0, m0, c0, rfl⟩, ⟨A1, m1, c1, rfl⟩, ⟨A2, m2, c2, rfl⟩, A3, m3, c3, rfl⟩ := hm.slices;have hne := hn.e;have hxs := hx.s.open_;have hxf := hx.f;obtain ⟨A4, c4, rfl, hc4, hM4, hr4⟩ := hne;obtain ⟨⟨-, -, -, -⟩, ⟨A5, m5, c5, rfl⟩, A6, m6, c6, rfl⟩ := hn.slices;obtain ⟨⟨A10, m10, c10, rfl⟩, ⟨A11, m11, c11, rfl⟩, ⟨A12, m12, c12, rfl⟩, -, -⟩ := hx.slices;obtain ⟨A8, c8, rfl, hc8, hM8, hr8⟩ := hxs;obtain ⟨A9, c9, rfl, hc9, hM9, hr9⟩ := hxf;unfold maxLen at hM4 hM8 hM9;have HR4 := aA hr4;have HR8 := aA hr8;have HR9 := aA hr9;clear hr4 hr8 hr9;obtain ⟨w0, hw0, hb0, HM, hz0, HS0⟩ := box7 w (.int .i64 m.deg) (.int .i64 m.st) (.int .i64 m.msg) (.slice A0 m0 c0) (.slice A1 m1 c1) (.slice A2 m2 c2) (.slice A3 m3 c3) 46;obtain ⟨w1, hw1, hb1, HD, hz1, HS1⟩ := box3 w0 (.slice A4 n.es.length c4) (.slice A5 m5 c5) (.slice A6 m6 c6) 50;replace HM := bk HM hb1;obtain ⟨w2, hw2, hb2, HY, hz2, HS2⟩ := box5 w1 (.slice A10 m10 c10) (.slice A11 m11 c11) (.slice A12 m12 c12) (.slice A8 x.slots.length c8) (.slice A9 x.flight.length c9) 40;replace HM := bk HM hb2;replace HD := bk HD hb2;have hB : Below w.heap.size w w2 := bl_trans (bl_trans (hb0) hb1) hb2;have HW := aA (show w2 = ((w.alloc (.cells #[.int .i64 m.deg, .int .i64 m.st, .int .i64 m.msg, .slice A0 m0 c0, .slice A1 m1 c1, .slice A2 m2 c2, .slice A3 m3 c3] 46)).alloc (.cells #[.slice A4 n.es.length c4, .slice A5 m5 c5, .slice A6 m6 c6] 50)).alloc (.cells #[.slice A10 m10 c10, .slice A11 m11 c11, .slice A12 m12 c12, .slice A8 x.slots.length c8, .slice A9 x.flight.length c9] 40) by rw [hw2, hw1, hw0]);obtain ⟨P1, hP1⟩ : ∃ z, z = w0.heap.size := ⟨_, rfl⟩
 have HP1 := aA (show w.heap.size + 1 = P1 by rw [hP1, HS0.out]);have hPl1 : w.heap.size < P1 := by rw [← HP1.out]; omega
 rw [← hP1] at HD hz1;obtain ⟨P2, hP2⟩ : ∃ z, z = w1.heap.size := ⟨_, rfl⟩
 have HP2 := aA (show w.heap.size + 1 + 1 = P2 by rw [hP2, HS1.out, HS0.out]);have hPl2 : w.heap.size < P2 := by rw [← HP2.out]; omega
 rw [← hP2] at HY hz2;obtain ⟨⟨g0, g1, g2⟩, ⟨g3, g4, g5, g6⟩, gf⟩ := cells7 HM;obtain ⟨q0, q1, q2, qf⟩ := cells3 HD;obtain ⟨⟨y0, y1, y2⟩, ⟨y3, y4⟩, yf⟩ := cells5 HY;have eg0 := g0;have eg1 := g1;have eg2 := g2;have eg3 := g3;have eg4 := g4;have eg5 := g5;have eg6 := g6;have eq0 := q0;have eq1 := q1;have eq2 := q2;have ey0 := y0;have ey1 := y1;have ey2 := y2;have ey3 := y3;have ey4 := y4;rw [HW.out] at eg0 eg1 eg2 eg3 eg4 eg5 eg6 eq0 eq1 eq2 ey0 ey1 ey2 ey3 ey4;rw [← HP1.out] at eq0 eq1 eq2;rw [← HP2.out] at ey0 ey1 ey2 ey3 ey4;have hzb0 : w.heap.size < w2.heap.size := by omega
 have hzb1 : P1 < w2.heap.size := by omega
 have hzb2 : P2 < w2.heap.size := by omega
 have HR := aA (hm.up hB);have HN := aA (hn.up hB);have HX := aA (hx.up hB);clear hw2 hw1 hw0 hP1 hP2;by_cases t1 : x.slots.length = n.es.length
 ·
  have r1 : (((x.slots.length : Nat) : Int) != ((n.es.length : Nat) : Int)) = false := by rw [t1]; simp
  have HT1 := aA t1;clear t1;by_cases t2 : x.flight.length = n.es.length
  ·
   have r2 : (((x.flight.length : Nat) : Int) != ((n.es.length : Nat) : Int)) = false := by rw [t2]; simp
   have HT2 := aA t2;clear t2 HR HN HX;go_enter Tryz.func74, Tryz.ntmps74;go_wp2_with fail;rw [HP2.out, HP1.out, ← HW.out];clear eg0 eg1 eg2 eg3 eg4 eg5 eg6 eq0 eq1 eq2 ey0 ey1 ey2 ey3 ey4;go_loopw [32] (fun i wr => SyRel m n x w2 i wr) (fun i _ => n.es.length - (intOf i).toNat)
   case atStart => exact ⟨Below.refl _ _, 0, Nat.zero_le _, rfl, fun _ _ _ _ h => absurd h (by omega)⟩
   case round =>
    obtain ⟨hb1, k, hk, rfl, hup⟩ := hrel;have HU := aA hup; clear hup;have hzhb1 := hb1.size;clear g0 g1 g2 g3 g4 g5 g6 gf q0 q1 q2 qf y0 y1 y2 y3 y4 yf;replace HM := bk HM hb1;replace HD := bk HD hb1;replace HY := bk HY hb1;replace hB := bl_trans hB hb1;obtain ⟨⟨g0, g1, g2⟩, ⟨g3, g4, g5, g6⟩, gf⟩ := cells7 HM;obtain ⟨q0, q1, q2, qf⟩ := cells3 HD;obtain ⟨⟨y0, y1, y2⟩, ⟨y3, y4⟩, yf⟩ := cells5 HY;by_cases hlt : k < n.es.length
    ·
     obtain ⟨l, hl⟩ : ∃ y, n.es[k]? = some y := ⟨_, aC hlt⟩
     have hk8 : k < x.slots.length := by rw [HT1.out]; exact hlt
     have hk9 : k < x.flight.length := by rw [HT2.out]; exact hlt
     obtain ⟨s, hs⟩ : ∃ y, x.slots[k]? = some y := ⟨_, aC hk8⟩
     obtain ⟨f, hf⟩ : ∃ y, x.flight[k]? = some y := ⟨_, aC hk9⟩
     obtain ⟨ad4, rfl, ha4, hrow4⟩ := HR4.out (by omega);obtain ⟨ad8, rfl, ha8, hrow8⟩ := HR8.out (by omega);obtain ⟨ad9, rfl, ha9, hrow9⟩ := HR9.out (by omega);obtain ⟨u4, hu4, hz4⟩ := hrow4 k l hl;obtain ⟨u8, hu8, hz8⟩ := hrow8 k s hs;obtain ⟨u9, hu9, hz9⟩ := hrow9 k f hf;have HZ8 := aA hz8;obtain ⟨B4, d4, rfl, hd4, hD4, -, -⟩ := hz4;obtain ⟨B8, d8, rfl, hd8, hD8, -⟩ := hz8.open_;obtain ⟨B9, d9, rfl, hd9, hD9, hrf⟩ := hz9;unfold maxLen at hD4 hD8 hD9;have hc4' := (hB.cell (p := ad4.add k) (by rw [block_add]; exact ha4)).trans hu4;have hc8' := (hB.cell (p := ad8.add k) (by rw [block_add]; exact ha8)).trans hu8;have hc9' := (hB.cell (p := ad9.add k) (by rw [block_add]; exact ha9)).trans hu9;have HRF := aA hrf;have HNO := aA (sh_no (m := m) (x := x) hl hs hf);have HNX := aA (HU.out.next hl hs hf);clear hrf hz8 hrow4 hrow8 hrow9 hu4 hu8 hu9 hl hs hf HU;by_cases t1 : s.length = l.length
     ·
      have s1 : (((s.length : Nat) : Int) != ((l.length : Nat) : Int)) = false := by rw [t1]; simp
      have HS1 := aA t1;clear t1;by_cases t2 : f.length = l.length
      ·
       have s2 : (((f.length : Nat) : Int) != ((l.length : Nat) : Int)) = false := by rw [t2]; simp
       have HS2 := aA t2;clear t2;cases q : allB s (-1) (m.msg - 1) with
       | false =>
        have HF := aA (HNO.out fun hp => by rw [allB_iff.2 hp.2.2.1] at q; cases q).symm;go_wp2_with fail;refine aH (S := fun w' => w'.cell? ⟨P2, 3, none⟩ = some (.slice (some ad8) x.slots.length c8) ∧ w'.cell? ⟨P2, 4, none⟩ = some (.slice (some ad9) x.flight.length c9) ∧ w'.cell? (ad8.add k) = some (.slice B8 s.length d8) ∧ w'.cell? (ad9.add k) = some (.slice B9 f.length d9) ∧ w'.cell? ⟨w.heap.size, 2, none⟩ = some (.int .i64 m.msg)) (by kernel_rfl) ?_ (fun hHeld => ?_)
        · go_keep
        refine stk 0 37 ?_;refine stk 1 38 ?_;refine stk 2 39 ?_;refine stk 3 40 ?_;refine stk 4 41 ?_;refine stk 5 42 ?_;refine stk 6 43 ?_;refine stk 7 44 ?_;refine stk 8 45 ?_;refine stk 9 46 ?_;refine stk 10 47 ?_;refine stk 11 48 ?_;refine stk 12 49 ?_;refine stk 13 50 ?_;refine stk 14 51 ?_;refine stk 15 52 ?_;refine stk 16 53 ?_;refine stk 17 54 ?_;refine stk 18 55 ?_;refine stk 19 56 ?_;refine stk 20 57 ?_;refine stk 21 58 ?_;refine stk 22 59 ?_;refine stk 23 60 ?_;refine stk 24 61 ?_;refine stk 25 62 ?_;refine stk 26 63 ?_;refine stk 27 64 ?_;refine stk 28 65 ?_;refine tr 29 rfl (by kernel_rfl) (fun K hK => ?_);go_simp;go_at_call 72
        (try rw [show IntKind.i64.wrap (m.msg - 1) = m.msg - 1 from aL _ (by omega)])
        refine (spec_l1All _ s _ _ _ ((((HZ8.out.below hB).more hB.size).below (Below.refl _ _).drew).more (Nat.le_refl _))).mono ?_;rintro e w' ⟨rfl, rfl⟩;rw [q];refine hK.out _ _ ?_ (fun hHeld => ?_)
        · go_keep
        clear hK K
        try simp only [Act.put, pu]
        refine stk 30 67 ?_;refine stk 31 68 ?_;refine aK (by kernel_rfl) ?_ _;go_wp2_with fail;go_ret;exact ⟨ret_bool HF.out, hB.drew⟩
       | true =>
        have HQ := aA q;go_wp2_with fail;refine aH (S := fun w' => w'.cell? ⟨P2, 3, none⟩ = some (.slice (some ad8) x.slots.length c8) ∧ w'.cell? ⟨P2, 4, none⟩ = some (.slice (some ad9) x.flight.length c9) ∧ w'.cell? (ad8.add k) = some (.slice B8 s.length d8) ∧ w'.cell? (ad9.add k) = some (.slice B9 f.length d9) ∧ w'.cell? ⟨w.heap.size, 2, none⟩ = some (.int .i64 m.msg)) (by kernel_rfl) ?_ (fun hHeld => ?_)
        · go_keep
        refine stk 0 37 ?_;refine stk 1 38 ?_;refine stk 2 39 ?_;refine stk 3 40 ?_;refine stk 4 41 ?_;refine stk 5 42 ?_;refine stk 6 43 ?_;refine stk 7 44 ?_;refine stk 8 45 ?_;refine stk 9 46 ?_;refine stk 10 47 ?_;refine stk 11 48 ?_;refine stk 12 49 ?_;refine stk 13 50 ?_;refine stk 14 51 ?_;refine stk 15 52 ?_;refine stk 16 53 ?_;refine stk 17 54 ?_;refine stk 18 55 ?_;refine stk 19 56 ?_;refine stk 20 57 ?_;refine stk 21 58 ?_;refine stk 22 59 ?_;refine stk 23 60 ?_;refine stk 24 61 ?_;refine stk 25 62 ?_;refine stk 26 63 ?_;refine stk 27 64 ?_;refine stk 28 65 ?_;refine tr 29 rfl (by kernel_rfl) (fun K hK => ?_);go_simp;go_at_call 72
        (try rw [show IntKind.i64.wrap (m.msg - 1) = m.msg - 1 from aL _ (by omega)])
        refine (spec_l1All _ s _ _ _ ((((HZ8.out.below hB).more hB.size).below (Below.refl _ _).drew).more (Nat.le_refl _))).mono ?_;rintro e w' ⟨rfl, rfl⟩;rw [q];refine hK.out _ _ ?_ (fun hHeld => ?_)
        · go_keep
        clear hK K
        try simp only [Act.put, pu]
        refine stk 30 67 ?_;refine stk 31 68 ?_;refine aK (by kernel_rfl) ?_ _;go_wp2_with fail;obtain ⟨wq, rfl⟩ : ∃ z, z = wr := ⟨_, rfl⟩
        go_loopw [75] (fun i wr' => SyfRel m f wq i wr') (fun i _ => f.length - (intOf i).toNat)
        case atStart => exact ⟨(Below.refl _ _).drew, 0, Nat.zero_le _, rfl, by simp⟩
        case round =>
         obtain ⟨hb2, j, hj, rfl, hup⟩ := hrel;have HU2 := aA hup; clear hup;have hzhb2 := hb2.size;clear g0 g1 g2 g3 g4 g5 g6 gf q0 q1 q2 qf y0 y1 y2 y3 y4 yf;replace HM := bk HM hb2;replace HD := bk HD hb2;replace HY := bk HY hb2;replace hB := bl_trans hB hb2;obtain ⟨⟨g0, g1, g2⟩, ⟨g3, g4, g5, g6⟩, gf⟩ := cells7 HM;obtain ⟨q0, q1, q2, qf⟩ := cells3 HD;obtain ⟨⟨y0, y1, y2⟩, ⟨y3, y4⟩, yf⟩ := cells5 HY;clear hc4' hc8' hc9';by_cases hlt2 : j < f.length
         ·
          obtain ⟨ls, hls⟩ : ∃ y, f[j]? = some y := ⟨_, aC hlt2⟩
          obtain ⟨adf, rfl, haf, hrowf⟩ := HRF.out (by omega);obtain ⟨ul, hul, hzl⟩ := hrowf j ls hls;obtain ⟨Bl, dl, rfl, hdl, hDl, hil, hrl⟩ := hzl;unfold maxLen at hDl;have hcl := (hB.cell (p := adf.add j) (by rw [block_add]; exact haf)).trans hul;have HRL := aA hrl;have HLS := aA hls;clear hrl hul hls hrowf;by_cases t3 : ls.length ≤ 12
          ·
           go_wp2_with fail;obtain ⟨wp, rfl⟩ : ∃ z, z = wr := ⟨_, rfl⟩
           go_loopw [84] (fun i wr' => SylRel m ls wp i wr') (fun i _ => ls.length - (intOf i).toNat)
           case atStart => exact ⟨Below.refl _ _, 0, Nat.zero_le _, rfl, by simp⟩
           case round =>
            obtain ⟨hb3, i, hi, rfl, hup⟩ := hrel;have HU3 := aA hup; clear hup;have hzhb3 := hb3.size;clear g0 g1 g2 g3 g4 g5 g6 gf q0 q1 q2 qf y0 y1 y2 y3 y4 yf;replace HM := bk HM hb3;replace HD := bk HD hb3;replace HY := bk HY hb3;replace hB := bl_trans hB hb3;obtain ⟨⟨g0, g1, g2⟩, ⟨g3, g4, g5, g6⟩, gf⟩ := cells7 HM;obtain ⟨q0, q1, q2, qf⟩ := cells3 HD;obtain ⟨⟨y0, y1, y2⟩, ⟨y3, y4⟩, yf⟩ := cells5 HY;clear hcl;by_cases hlt3 : i < ls.length
            ·
             obtain ⟨e, he⟩ : ∃ y, ls[i]? = some y := ⟨_, aC hlt3⟩
             obtain ⟨bl, ol, rfl, hbl, hrowl⟩ := HRL.out (by omega);obtain ⟨p0, p1⟩ := hrowl i e he;replace p0 := (hB.cell (p := ⟨bl, ol + i * 2, none⟩) hbl).trans p0;replace p1 := (hB.cell (p := ⟨bl, ol + i * 2 + 1, none⟩) hbl).trans p1;obtain ⟨wv, hwv, hb4, HK, hzv, HSV⟩ := box2 wr (.int .i64 e.1) (.int .i64 e.2) 129;have HWV := aA hwv;obtain ⟨z0, z1, zf⟩ := cells2 HK;have hzr : w.heap.size < wr.heap.size := by omega
             have z2 := (hb4.cell (p := ⟨w.heap.size, 2, none⟩) hzr).trans g2;rw [hwv] at z0 z1 z2;have HB4 := aA (bl_trans hB hb4);have HE := aA he;clear hrowl he hwv;cases q1 : inB e.1 0 40 with
             | false =>
              have HF := aA (HNO.out fun hp => inBf q1 ((hp.2.2.2 ls (aN HLS.out)).2 e (aN HE.out)).1).symm;go_wp2_with (go_at_call 93; (try rw [show IntKind.i64.wrap (m.msg - 1) = m.msg - 1 from aL _ (by omega)]); refine (spec_l1In _ _ _ _).mono ?_; rintro e w' ⟨rfl, rfl⟩)
              go_ret;exact ⟨ret_bool HF.out, by rw [← HWV.out]; exact HB4.out⟩
             | true =>
              cases q2 : inB e.2 0 (m.msg - 1) with
              | false =>
               have HF := aA (HNO.out fun hp => inBf q2 ((hp.2.2.2 ls (aN HLS.out)).2 e (aN HE.out)).2).symm;go_wp2_with (go_at_call 93; (try rw [show IntKind.i64.wrap (m.msg - 1) = m.msg - 1 from aL _ (by omega)]); refine (spec_l1In _ _ _ _).mono ?_; rintro e w' ⟨rfl, rfl⟩)
               go_ret;exact ⟨ret_bool HF.out, by rw [← HWV.out]; exact HB4.out⟩
              | true =>
               have HOK := aA (show letOk m e from ⟨inBt q1, inBt q2⟩);go_wp2_with (go_at_call 93; (try rw [show IntKind.i64.wrap (m.msg - 1) = m.msg - 1 from aL _ (by omega)]); refine (spec_l1In _ _ _ _).mono ?_; rintro e w' ⟨rfl, rfl⟩)
               go_roundw
               case rel => exact ⟨by rw [← HWV.out]; exact bl_trans hb3 hb4, i + 1, by omega, by go_num, take_next HU3.out HE.out HOK.out⟩
               case measure => simp [intOf]; omega
            ·
             have HLP := aA (show letP m ls from ⟨t3, take_all HU3.out (by omega)⟩);go_wp2_with fail;go_roundw
             case rel => exact ⟨bl_trans hb2 hb3, j + 1, by omega, by go_num, take_next HU2.out HLS.out HLP.out⟩
             case measure => simp [intOf]; omega
          · have HF := aA (HNO.out fun hp => t3 (hp.2.2.2 ls (aN HLS.out)).1).symm;go_wp2_with fail;go_ret;exact ⟨ret_bool HF.out, hB⟩
         ·
          have HSP := aA (show slotP m l.length s f from ⟨HS1.out, HS2.out, allB_iff.1 HQ.out, take_all HU2.out (by omega)⟩);go_wp2_with fail;go_roundw
          case rel => exact ⟨bl_trans hb1 hb2, k + 1, by omega, by go_num, HNX.out HSP.out⟩
          case measure => simp [intOf]; omega
      ·
       have s2 : (((f.length : Nat) : Int) != ((l.length : Nat) : Int)) = true := by rw [bne_iff_ne]; omega
       have HF := aA (HNO.out fun hp => t2 hp.2.1).symm;go_wp2_with fail;refine aH (S := fun w' => w'.cell? ⟨P2, 3, none⟩ = some (.slice (some ad8) x.slots.length c8) ∧ w'.cell? ⟨P2, 4, none⟩ = some (.slice (some ad9) x.flight.length c9) ∧ w'.cell? (ad8.add k) = some (.slice B8 s.length d8) ∧ w'.cell? (ad9.add k) = some (.slice B9 f.length d9) ∧ w'.cell? ⟨w.heap.size, 2, none⟩ = some (.int .i64 m.msg)) (by kernel_rfl) ?_ (fun hHeld => ?_)
       · go_keep
       refine stk 0 37 ?_;refine stk 1 38 ?_;refine stk 2 39 ?_;refine stk 3 40 ?_;refine stk 4 41 ?_;refine stk 5 42 ?_;refine stk 6 43 ?_;refine stk 7 44 ?_;refine stk 8 45 ?_;refine stk 9 46 ?_;refine stk 10 47 ?_;refine stk 11 48 ?_;refine stk 12 49 ?_;refine stk 13 50 ?_;refine stk 14 51 ?_;refine stk 15 52 ?_;refine stk 16 53 ?_;refine stk 17 54 ?_;refine stk 18 55 ?_;refine stk 19 56 ?_;refine stk 20 57 ?_;refine stn 21 58 ?_;refine stn 22 59 ?_;refine stn 23 60 ?_;refine stn 24 61 ?_;refine stn 25 62 ?_;refine stn 26 63 ?_;refine stn 27 64 ?_;refine stn 28 65 ?_;refine stn 29 66 ?_;refine stn 30 67 ?_;refine stk 31 68 ?_;refine aK (by kernel_rfl) ?_ _;go_wp2_with fail;go_ret;exact ⟨ret_bool HF.out, hB.drew⟩
     ·
      have s1 : (((s.length : Nat) : Int) != ((l.length : Nat) : Int)) = true := by rw [bne_iff_ne]; omega
      have HF := aA (HNO.out fun hp => t1 hp.1).symm;go_wp2_with fail;refine aH (S := fun w' => w'.cell? ⟨P2, 3, none⟩ = some (.slice (some ad8) x.slots.length c8) ∧ w'.cell? ⟨P2, 4, none⟩ = some (.slice (some ad9) x.flight.length c9) ∧ w'.cell? (ad8.add k) = some (.slice B8 s.length d8) ∧ w'.cell? (ad9.add k) = some (.slice B9 f.length d9) ∧ w'.cell? ⟨w.heap.size, 2, none⟩ = some (.int .i64 m.msg)) (by kernel_rfl) ?_ (fun hHeld => ?_)
      · go_keep
      refine stk 0 37 ?_;refine stk 1 38 ?_;refine stk 2 39 ?_;refine stk 3 40 ?_;refine stk 4 41 ?_;refine stk 5 42 ?_;refine stk 6 43 ?_;refine stk 7 44 ?_;refine stk 8 45 ?_;refine stk 9 46 ?_;refine stn 10 47 ?_;refine stn 11 48 ?_;refine stn 12 49 ?_;refine stn 13 50 ?_;refine stn 14 51 ?_;refine stn 15 52 ?_;refine stn 16 53 ?_;refine stn 17 54 ?_;refine stn 18 55 ?_;refine stk 19 56 ?_;refine stk 20 57 ?_;refine stn 21 58 ?_;refine stn 22 59 ?_;refine stn 23 60 ?_;refine stn 24 61 ?_;refine stn 25 62 ?_;refine stn 26 63 ?_;refine stn 27 64 ?_;refine stn 28 65 ?_;refine stn 29 66 ?_;refine stn 30 67 ?_;refine stk 31 68 ?_;refine aK (by kernel_rfl) ?_ _;go_wp2_with fail;go_ret;exact ⟨ret_bool HF.out, hB.drew⟩
    · have HF := aA (show shB m n x = true from propB_t ⟨HT1.out, HT2.out, fun v l s f hv => HU.out v l s f (by omega)⟩).symm;go_wp2_with fail;go_ret;exact ⟨ret_bool HF.out, hB⟩
  ·
   have r2 : (((x.flight.length : Nat) : Int) != ((n.es.length : Nat) : Int)) = true := by rw [bne_iff_ne]; omega
   have HF := aA (show shB m n x = false from propB_f fun hp => t2 hp.2.1).symm;go_enter Tryz.func74, Tryz.ntmps74;go_wp2_with fail;go_ret;exact ⟨ret_bool HF.out, by rw [← HW.out]; exact hB⟩
 ·
  have r1 : (((x.slots.length : Nat) : Int) != ((n.es.length : Nat) : Int)) = true := by rw [bne_iff_ne]; omega
  have HF := aA (show shB m n x = false from propB_f fun hp => t1 hp.1).symm;go_enter Tryz.func74, Tryz.ntmps74;go_wp2_with fail;go_ret;exact ⟨ret_bool HF.out, by rw [← HW.out]; exact hB⟩
end
section
open Go.RowKit
set_option linter.all false
theorem gd_f1 {m : Mach} {n : Net} {x : Asy} (h : fitB m n = false) : goodB m n x = false := propB_f fun hp => by rw [show fitB m n = true from propB_t hp.1] at h;cases h
theorem gd_f2 {m : Mach} {n : Net} {x : Asy} (h : x.rounds.length ≠ n.es.length) : goodB m n x = false := propB_f fun hp => h (by have := hp.2.1.1; omega)
theorem gd_f3 {m : Mach} {n : Net} {x : Asy} (h : allB x.rounds 0 40 = false) : goodB m n x = false := propB_f fun hp => by rw [allB_iff.2 fun y hy => by have := hp.2.1.2 y hy; omega] at h;cases h
theorem gd_f4 {m : Mach} {n : Net} {x : Asy} (h : mrB x.before n.es.length m.st = false) : goodB m n x = false := propB_f fun hp => by rw [show mrB x.before n.es.length m.st = true from propB_t hp.2.2.1] at h;cases h
theorem gd_f5 {m : Mach} {n : Net} {x : Asy} (h : mrB x.now n.es.length m.st = false) : goodB m n x = false := propB_f fun hp => by rw [show mrB x.now n.es.length m.st = true from propB_t hp.2.2.2.1] at h;cases h
theorem gd_eq {m : Mach} {n : Net} {x : Asy} (h1 : fitB m n = true) (h2 : x.rounds.length = n.es.length) (h3 : allB x.rounds 0 40 = true) (h4 : mrB x.before n.es.length m.st = true) (h5 : mrB x.now n.es.length m.st = true) : goodB m n x = shB m n x :=
  propB_congr ⟨fun hp => ⟨hp.2.2.2.2.1, hp.2.2.2.2.2.1, fun v l s f _ => hp.2.2.2.2.2.2 v l s f⟩, fun hp => ⟨propB_iff.1 h1, ⟨by omega, fun y hy => by have := allB_iff.1 h3 y hy; omega⟩, propB_iff.1 h4, propB_iff.1 h5, hp.1, hp.2.1, fun v l s f hl => hp.2.2 v l s f (aB.1 hl).1 hl⟩⟩
set_option maxRecDepth 100000 in
set_option maxHeartbeats 2000000 in
theorem spec_syGood (vs ve vc vo : Value) (m : Mach) (ne ni nn : Value) (n : Net) (xr xb xn xs xf : Value) (x : Asy) (w : World) (hm : MachR w w.heap.size vs ve vc vo m) (hn : NetR w w.heap.size ne ni nn n) (hx : AsyR w w.heap.size xr xb xn xs xf x)
  (hz : n.es.length ≤ 2000000) :
  Calls Tryz.prog 34 #[machV vs ve vc vo m, .agg #[ne, ni, nn], .agg #[xr, xb, xn, xs, xf]] w fun e w' => e = .returned (.bool (goodB m n x)) ∧ Below w.heap.size w w' := by
 unfold machV;obtain ⟨⟨A0, m0, c0, rfl⟩, ⟨A1, m1, c1, rfl⟩, ⟨A2, m2, c2, rfl⟩, A3, m3, c3, rfl⟩ := hm.slices;have hne := hn.e;obtain ⟨A4, c4, rfl, hc4, hM4, hr4⟩ := hne;obtain ⟨⟨-, -, -, -⟩, ⟨A5, m5, c5, rfl⟩, A6, m6, c6, rfl⟩ := hn.slices;have hxr := hx.r.open_;obtain ⟨A10, c10, rfl, hc10, hM10, -⟩ := hxr;obtain ⟨-, ⟨A11, m11, c11, rfl⟩, ⟨A12, m12, c12, rfl⟩, ⟨A8, m8, c8, rfl⟩, A9, m9, c9, rfl⟩ := hx.slices;unfold maxLen at hM4 hM10;clear hr4;obtain ⟨w0, hw0, hb0, HM, hz0, HS0⟩ := box7 w (.int .i64 m.deg) (.int .i64 m.st) (.int .i64 m.msg) (.slice A0 m0 c0) (.slice A1 m1 c1) (.slice A2 m2 c2) (.slice A3 m3 c3) 46;obtain ⟨w1, hw1, hb1, HD, hz1, HS1⟩ := box3 w0 (.slice A4 n.es.length c4) (.slice A5 m5 c5) (.slice A6 m6 c6) 50;replace HM := bk HM hb1;obtain ⟨w2, hw2, hb2, HY, hz2, HS2⟩ := box5 w1 (.slice A10 x.rounds.length c10) (.slice A11 m11 c11) (.slice A12 m12 c12) (.slice A8 m8 c8) (.slice A9 m9 c9) 40;replace HM := bk HM hb2;replace HD := bk HD hb2;have hB : Below w.heap.size w w2 := bl_trans (bl_trans (hb0) hb1) hb2;have HW := aA (show w2 = ((w.alloc (.cells #[.int .i64 m.deg, .int .i64 m.st, .int .i64 m.msg, .slice A0 m0 c0, .slice A1 m1 c1, .slice A2 m2 c2, .slice A3 m3 c3] 46)).alloc (.cells #[.slice A4 n.es.length c4, .slice A5 m5 c5, .slice A6 m6 c6] 50)).alloc (.cells #[.slice A10 x.rounds.length c10, .slice A11 m11 c11, .slice A12 m12 c12, .slice A8 m8 c8, .slice A9 m9 c9] 40) by rw [hw2, hw1, hw0]);obtain ⟨P1, hP1⟩ : ∃ z, z = w0.heap.size := ⟨_, rfl⟩
 have HP1 := aA (show w.heap.size + 1 = P1 by rw [hP1, HS0.out]);have hPl1 : w.heap.size < P1 := by rw [← HP1.out]; omega
 rw [← hP1] at HD hz1;obtain ⟨P2, hP2⟩ : ∃ z, z = w1.heap.size := ⟨_, rfl⟩
 have HP2 := aA (show w.heap.size + 1 + 1 = P2 by rw [hP2, HS1.out, HS0.out]);have hPl2 : w.heap.size < P2 := by rw [← HP2.out]; omega
 rw [← hP2] at HY hz2;obtain ⟨⟨g0, g1, g2⟩, ⟨g3, g4, g5, g6⟩, gf⟩ := cells7 HM;obtain ⟨q0, q1, q2, qf⟩ := cells3 HD;obtain ⟨⟨y0, y1, y2⟩, ⟨y3, y4⟩, yf⟩ := cells5 HY;have eg0 := g0;have eg1 := g1;have eg2 := g2;have eg3 := g3;have eg4 := g4;have eg5 := g5;have eg6 := g6;have eq0 := q0;have eq1 := q1;have eq2 := q2;have ey0 := y0;have ey1 := y1;have ey2 := y2;have ey3 := y3;have ey4 := y4;rw [HW.out] at eg0 eg1 eg2 eg3 eg4 eg5 eg6 eq0 eq1 eq2 ey0 ey1 ey2 ey3 ey4;rw [← HP1.out] at eq0 eq1 eq2;rw [← HP2.out] at ey0 ey1 ey2 ey3 ey4;have hzb0 : w.heap.size < w2.heap.size := by omega
 have hzb1 : P1 < w2.heap.size := by omega
 have hzb2 : P2 < w2.heap.size := by omega
 have HR := aA (hm.up hB);have HN := aA (hn.up hB);have HX := aA (hx.up hB);clear hw2 hw1 hw0 hP1 hP2;have HG := aA (spec_maAsked _ _ _ _ m _ _ _ n w2 HR.out HN.out hz);cases j1 : fitB m n with
 | false =>
  have HF := aA (gd_f1 (x := x) j1).symm;go_enter Tryz.func34, Tryz.ntmps34;go_wp2_with fail;rw [HP2.out, HP1.out, ← HW.out];clear eg0 eg1 eg2 eg3 eg4 eg5 eg6 eq0 eq1 eq2 ey0 ey1 ey2 ey3 ey4;refine HG.out.mono ?_;rintro e w5 ⟨rfl, hb5⟩;rw [j1];have hzhb5 := hb5.size;clear g0 g1 g2 g3 g4 g5 g6 gf q0 q1 q2 qf y0 y1 y2 y3 y4 yf;replace HM := bk HM hb5;replace HD := bk HD hb5;replace HY := bk HY hb5;replace hB := bl_trans hB hb5;obtain ⟨⟨g0, g1, g2⟩, ⟨g3, g4, g5, g6⟩, gf⟩ := cells7 HM;obtain ⟨q0, q1, q2, qf⟩ := cells3 HD;obtain ⟨⟨y0, y1, y2⟩, ⟨y3, y4⟩, yf⟩ := cells5 HY;replace HR := aA (HR.out.up hb5);replace HN := aA (HN.out.up hb5);replace HX := aA (HX.out.up hb5);go_wp2_with fail;go_ret;exact ⟨ret_bool HF.out, hB⟩
 | true =>
  have hst : 0 ≤ m.st ∧ m.st ≤ 1000 := by have := (propB_iff.1 j1).1.1.2.1; omega
  have hms : 1 ≤ m.msg ∧ m.msg ≤ 6 := (propB_iff.1 j1).1.1.2.2;have HJ1 := aA j1;by_cases t1 : x.rounds.length = n.es.length
  ·
   have r1 : (((x.rounds.length : Nat) : Int) != ((n.es.length : Nat) : Int)) = false := by rw [t1]; simp
   have HT1 := aA t1;clear t1;cases j3 : allB x.rounds 0 40 with
   | false =>
    have HF := aA (gd_f3 (m := m) (n := n) j3).symm;go_enter Tryz.func34, Tryz.ntmps34;go_wp2_with fail;rw [HP2.out, HP1.out, ← HW.out];clear eg0 eg1 eg2 eg3 eg4 eg5 eg6 eq0 eq1 eq2 ey0 ey1 ey2 ey3 ey4;refine HG.out.mono ?_;rintro e w5 ⟨rfl, hb5⟩;rw [j1];have hzhb5 := hb5.size;clear g0 g1 g2 g3 g4 g5 g6 gf q0 q1 q2 qf y0 y1 y2 y3 y4 yf;replace HM := bk HM hb5;replace HD := bk HD hb5;replace HY := bk HY hb5;replace hB := bl_trans hB hb5;obtain ⟨⟨g0, g1, g2⟩, ⟨g3, g4, g5, g6⟩, gf⟩ := cells7 HM;obtain ⟨q0, q1, q2, qf⟩ := cells3 HD;obtain ⟨⟨y0, y1, y2⟩, ⟨y3, y4⟩, yf⟩ := cells5 HY;replace HR := aA (HR.out.up hb5);replace HN := aA (HN.out.up hb5);replace HX := aA (HX.out.up hb5);go_wp2_with fail;refine (spec_l1All _ x.rounds _ _ w5 HX.out.r).mono ?_;rintro e w' ⟨rfl, rfl⟩;rw [j3];go_wp2_with fail;go_ret;exact ⟨ret_bool HF.out, hB⟩
   | true =>
    have HJ3 := aA j3;cases j4 : mrB x.before n.es.length m.st with
    | false =>
     have HF := aA (gd_f4 j4).symm;go_enter Tryz.func34, Tryz.ntmps34;go_wp2_with fail;rw [HP2.out, HP1.out, ← HW.out];clear eg0 eg1 eg2 eg3 eg4 eg5 eg6 eq0 eq1 eq2 ey0 ey1 ey2 ey3 ey4;refine HG.out.mono ?_;rintro e w5 ⟨rfl, hb5⟩;rw [j1];have hzhb5 := hb5.size;clear g0 g1 g2 g3 g4 g5 g6 gf q0 q1 q2 qf y0 y1 y2 y3 y4 yf;replace HM := bk HM hb5;replace HD := bk HD hb5;replace HY := bk HY hb5;replace hB := bl_trans hB hb5;obtain ⟨⟨g0, g1, g2⟩, ⟨g3, g4, g5, g6⟩, gf⟩ := cells7 HM;obtain ⟨q0, q1, q2, qf⟩ := cells3 HD;obtain ⟨⟨y0, y1, y2⟩, ⟨y3, y4⟩, yf⟩ := cells5 HY;replace HR := aA (HR.out.up hb5);replace HN := aA (HN.out.up hb5);replace HX := aA (HX.out.up hb5);go_wp2_with fail;refine (spec_l1All _ x.rounds _ _ w5 HX.out.r).mono ?_;rintro e w' ⟨rfl, rfl⟩;rw [j3];go_wp2_with fail;refine (spec_maRow _ x.before _ m.st w5 HX.out.b hst).mono ?_;rintro e w' ⟨rfl, rfl⟩;rw [j4];go_wp2_with fail;go_ret;exact ⟨ret_bool HF.out, hB⟩
    | true =>
     have HJ4 := aA j4;cases j5 : mrB x.now n.es.length m.st with
     | false =>
      have HF := aA (gd_f5 j5).symm;go_enter Tryz.func34, Tryz.ntmps34;go_wp2_with fail;rw [HP2.out, HP1.out, ← HW.out];clear eg0 eg1 eg2 eg3 eg4 eg5 eg6 eq0 eq1 eq2 ey0 ey1 ey2 ey3 ey4;refine HG.out.mono ?_;rintro e w5 ⟨rfl, hb5⟩;rw [j1];have hzhb5 := hb5.size;clear g0 g1 g2 g3 g4 g5 g6 gf q0 q1 q2 qf y0 y1 y2 y3 y4 yf;replace HM := bk HM hb5;replace HD := bk HD hb5;replace HY := bk HY hb5;replace hB := bl_trans hB hb5;obtain ⟨⟨g0, g1, g2⟩, ⟨g3, g4, g5, g6⟩, gf⟩ := cells7 HM;obtain ⟨q0, q1, q2, qf⟩ := cells3 HD;obtain ⟨⟨y0, y1, y2⟩, ⟨y3, y4⟩, yf⟩ := cells5 HY;replace HR := aA (HR.out.up hb5);replace HN := aA (HN.out.up hb5);replace HX := aA (HX.out.up hb5);go_wp2_with fail;refine (spec_l1All _ x.rounds _ _ w5 HX.out.r).mono ?_;rintro e w' ⟨rfl, rfl⟩;rw [j3];go_wp2_with fail;refine (spec_maRow _ x.before _ m.st w5 HX.out.b hst).mono ?_;rintro e w' ⟨rfl, rfl⟩;rw [j4];go_wp2_with fail;refine (spec_maRow _ x.now _ m.st w5 HX.out.n hst).mono ?_;rintro e w' ⟨rfl, rfl⟩;rw [j5];go_wp2_with fail;go_ret;exact ⟨ret_bool HF.out, hB⟩
     | true =>
      have HF := aA (gd_eq HJ1.out HT1.out HJ3.out HJ4.out j5).symm;go_enter Tryz.func34, Tryz.ntmps34;go_wp2_with fail;rw [HP2.out, HP1.out, ← HW.out];clear eg0 eg1 eg2 eg3 eg4 eg5 eg6 eq0 eq1 eq2 ey0 ey1 ey2 ey3 ey4;refine HG.out.mono ?_;rintro e w5 ⟨rfl, hb5⟩;rw [j1];have hzhb5 := hb5.size;clear g0 g1 g2 g3 g4 g5 g6 gf q0 q1 q2 qf y0 y1 y2 y3 y4 yf;replace HM := bk HM hb5;replace HD := bk HD hb5;replace HY := bk HY hb5;replace hB := bl_trans hB hb5;obtain ⟨⟨g0, g1, g2⟩, ⟨g3, g4, g5, g6⟩, gf⟩ := cells7 HM;obtain ⟨q0, q1, q2, qf⟩ := cells3 HD;obtain ⟨⟨y0, y1, y2⟩, ⟨y3, y4⟩, yf⟩ := cells5 HY;replace HR := aA (HR.out.up hb5);replace HN := aA (HN.out.up hb5);replace HX := aA (HX.out.up hb5);go_wp2_with fail;refine (spec_l1All _ x.rounds _ _ w5 HX.out.r).mono ?_;rintro e w' ⟨rfl, rfl⟩;rw [j3];go_wp2_with fail;refine (spec_maRow _ x.before _ m.st w5 HX.out.b hst).mono ?_;rintro e w' ⟨rfl, rfl⟩;rw [j4];go_wp2_with fail;refine (spec_maRow _ x.now _ m.st w5 HX.out.n hst).mono ?_;rintro e w' ⟨rfl, rfl⟩;rw [j5];go_wp2_with fail;refine (spec_syShape _ _ _ _ m _ _ _ n _ _ _ _ _ x w5 HR.out HN.out HX.out hms).mono ?_;rintro e w6 ⟨rfl, hb6⟩;go_wp2_with fail;go_ret;exact ⟨ret_bool HF.out, bl_trans hB hb6⟩
  ·
   have r1 : (((x.rounds.length : Nat) : Int) != ((n.es.length : Nat) : Int)) = true := by rw [bne_iff_ne]; omega
   have HF := aA (gd_f2 (m := m) t1).symm;go_enter Tryz.func34, Tryz.ntmps34;go_wp2_with fail;rw [HP2.out, HP1.out, ← HW.out];clear eg0 eg1 eg2 eg3 eg4 eg5 eg6 eq0 eq1 eq2 ey0 ey1 ey2 ey3 ey4;refine HG.out.mono ?_;rintro e w5 ⟨rfl, hb5⟩;rw [j1];have hzhb5 := hb5.size;clear g0 g1 g2 g3 g4 g5 g6 gf q0 q1 q2 qf y0 y1 y2 y3 y4 yf;replace HM := bk HM hb5;replace HD := bk HD hb5;replace HY := bk HY hb5;replace hB := bl_trans hB hb5;obtain ⟨⟨g0, g1, g2⟩, ⟨g3, g4, g5, g6⟩, gf⟩ := cells7 HM;obtain ⟨q0, q1, q2, qf⟩ := cells3 HD;obtain ⟨⟨y0, y1, y2⟩, ⟨y3, y4⟩, yf⟩ := cells5 HY;replace HR := aA (HR.out.up hb5);replace HN := aA (HN.out.up hb5);replace HX := aA (HX.out.up hb5);go_wp2_with fail;go_ret;exact ⟨ret_bool HF.out, hB⟩
end
end Go.Proofs.YtjklbjmdgiddcaaGreat
namespace Go.Proofs.YtjklbjmdgiddcaaGreat
open Go.RowKit
set_option linter.all false
theorem run_append_nil0 {P : Program} (w : World) (t ty e : TypeId) (i : TypeInfo) (ht : P.underlying t = some (.slice e)) (hi : P.info? e = some i) (g n c m : Nat) (hc : n ≤ c) :
    (Builtin.append_ #[t, t] ty #[.slice (some ⟨g, 0, none⟩) n c, .slice none 0 m]).run P w = .ok (.slice (some ⟨g, 0, none⟩) n c) w := by
  simp [Builtin.append_, run_underlying ht, sizeOf, typeInfo, hi, Builtin.lenOf, Builtin.firstCells, loadCells, loadCellsFrom, storeCells, hc]
def OwnPost (xs : List Int) (w : World) (e : Ending) (w' : World) : Prop :=
  ∃ v, e = .returned v ∧ w'.ownsRow w.heap.size 3 1 v xs.length (xs.map intV) ∧ Below w.heap.size w w'
theorem spec_l1Own (v : Value) (xs : List Int) (w : World) (h : IntsR w w.heap.size v xs) (hn : xs.length ≤ 2000000) :
  Calls Tryz.prog 76 #[v] w (OwnPost xs w) := by
 have h64 := h.2;obtain ⟨A, c, rfl, h1, h2, h3⟩ := h.open_;have H64 := aA h64; clear h64 h;have hown := World.ownsRow_made (base := w.heap.size) (e := 3) (size := 1) w #[] 0 (Nat.le_refl _) (Nat.zero_le _) (by simp);have hb0 := bl_alloc (Below.refl w.heap.size w) (.cells #[] 3);obtain ⟨i, hi, hz0, hz1, hz2⟩ := info_parts intInfo;by_cases h0 : xs.length = 0
 ·
  obtain rfl : xs = [] := List.eq_nil_of_length_eq_zero h0;have fin : OwnPost [] w (.returned (.slice (some ⟨w.heap.size, 0, none⟩) 0 0)) (w.alloc (.cells #[] 3)) := by exact ⟨_, rfl, hown, hb0⟩
  have FIN := aA fin; clear fin;clear h3 h0;cases A with
  | none =>
   have hr := fun ty W => run_append_nil0 (P := Tryz.prog) W 24 ty 3 i Tryz.underlying24 hi w.heap.size 0 0 c (Nat.zero_le _)
   have HR := aA hr; clear hr;clear hown hi hz0 hz1 hz2;simp only [List.length_nil];go_enter Tryz.func76, Tryz.ntmps76;go_wp2_with (at_builtin; refine Lib.wpList_append_run _ rfl _ _ _ _ rfl _ _ rfl rfl _ _ (HR.out _ _) ?_)
   go_ret;exact FIN.out
  | some ad =>
   have HI := aA hi; clear hi;have HO := aA hown; clear hown;have Z0 := aA hz0; clear hz0;have Z1 := aA hz1; clear hz1;have Z2 := aA hz2; clear hz2;simp only [List.length_nil];go_enter Tryz.func76, Tryz.ntmps76;go_wp2_with (at_builtin; refine wpList_append_own_at _ rfl _ _ 24 rfl w.heap.size 3 i _ 1 8 Tryz.underlying24 HI.out Z0.out Z1.out Z2.out rfl (by decide) _ _ _ rfl HO.out ad 0 c [] rfl (by simp) (fun j u hj => by simp at hj) (fun u hu => by cases hu) (by unfold maxLen; omega) (by omega) (by simp) ?_; intro v' w1 hown1 hgrow hnil hat)
   go_ret;exact ⟨_, rfl, by simpa using hown1, hb0.grown hgrow (by simp) (fun k hk => by have e := aE (show some w.heap.size = some k from hk); omega)⟩
 ·
  obtain ⟨ad, rfl, hb, hc⟩ := h3 (by omega)
  have HN := aA (show ∀ j u, (xs.map intV)[j]? = some u → (w.alloc (.cells #[] 3)).cell? (ad.add j) = some u from fun j u hu => by
   rw [List.getElem?_map] at hu;obtain ⟨x, hx, rfl⟩ := Option.map_eq_some_iff.1 hu
   exact aD _ (hc j x hx))
  have H1 := aA (show ∀ u ∈ xs.map intV, u.oneCell' = true from fun u hu => by
   obtain ⟨x, _, rfl⟩ := List.mem_map.1 hu
   rfl)
  have HI := aA hi; clear hi;have HO := aA hown; clear hown;have Z0 := aA hz0; clear hz0;have Z1 := aA hz1; clear hz1;have Z2 := aA hz2; clear hz2;clear hc h3 h0;go_enter Tryz.func76, Tryz.ntmps76;go_wp2_with (at_builtin; refine wpList_append_own_at _ rfl _ _ 24 rfl w.heap.size 3 i _ 1 8 Tryz.underlying24 HI.out Z0.out Z1.out Z2.out rfl (by decide) _ _ _ rfl HO.out ad xs.length c (xs.map intV) rfl (by simp) HN.out H1.out (by unfold maxLen; omega) (by omega) (by simp) ?_; intro v' w1 hown1 hgrow hnil hat)
  go_ret;exact ⟨_, rfl, by simpa using hown1, hb0.grown hgrow (by simp) (fun k hk => by have e := aE (show some w.heap.size = some k from hk); omega)⟩
end Go.Proofs.YtjklbjmdgiddcaaGreat
