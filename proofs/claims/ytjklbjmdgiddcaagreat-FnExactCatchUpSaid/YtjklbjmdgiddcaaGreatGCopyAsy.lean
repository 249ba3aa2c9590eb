/-
  The program's copyAsync: a copy of a state in memory of its own.
-/
import Derived.Test.YtjklbjmdgiddcaaGreatGPlainDoG
namespace Go.Proofs.YtjklbjmdgiddcaaGreat
open Go.RowKit
set_option linter.all false
def xFl (x : Asy) (k : Nat) : Asy := ⟨x.rounds, x.before, x.now, x.slots, x.flight.take k⟩
theorem xFl_of {x : Asy} {k : Nat} {f : List Ends} (hf : x.flight[k]? = some f) : withRow (xFl x k) f = xFl x (k + 1) := by obtain ⟨hk, rfl⟩ := aB.1 hf;unfold withRow xFl;rw [List.take_succ_eq_append_getElem hk]
def CaRel (x : Asy) (P : Nat) (w : World) (i : Value) (wr : World) : Prop := Below w.heap.size w wr ∧ ∃ (k : Nat) (val : Key → Value), k ≤ x.flight.length ∧ i = .int .i64 k ∧ AsyB wr w.heap.size val (xFl x k) P
def CpRel (f : List Ends) (w : World) (i : Value) (wr : World) : Prop := Below w.heap.size w wr ∧ ∃ (j : Nat) (val : Key → Value), j ≤ f.length ∧ i = .int .i64 j ∧ val .s = .slice (some ⟨w.heap.size, 0, none⟩) f.length f.length ∧ Pack wr w.heap.size 102 (letD f) f.length j val
set_option maxRecDepth 100000 in
set_option maxHeartbeats 4000000 in
theorem impl_copyAsync (xr xb xn xs xf : Value) (x : Asy) (w : World) (hx : AsyR w w.heap.size xr xb xn xs xf x) (hsm : SmallA x) :
  Calls Tryz.prog 44 #[.agg #[xr, xb, xn, xs, xf]] w fun e w' => ∃ val, e = .returned (.agg #[val .r, val .b, val .n, val .s, val .f]) ∧ AsyK w' w.heap.size val x ∧ Below w.heap.size w w' := by
 have HX0 := aA hx;have HSM := aA hsm;clear hsm;obtain ⟨⟨A10, m10, c10, rfl⟩, ⟨A11, m11, c11, rfl⟩, ⟨A12, m12, c12, rfl⟩, ⟨A8, m8, c8, rfl⟩, -⟩ := hx.slices;have hxf := hx.f;obtain ⟨A9, c9, rfl, hc9, hM9, hr9⟩ := hxf;unfold maxLen at hM9;have HR9 := aA hr9;clear hr9;obtain ⟨w0, hw0, hb0, HY, hz0, HS0⟩ := box5 w (.slice A10 m10 c10) (.slice A11 m11 c11) (.slice A12 m12 c12) (.slice A8 m8 c8) (.slice A9 x.flight.length c9) 40;have hB : Below w.heap.size w w0 := hb0;have HW := aA (show w0 = w.alloc (.cells #[.slice A10 m10 c10, .slice A11 m11 c11, .slice A12 m12 c12, .slice A8 m8 c8, .slice A9 x.flight.length c9] 40) by rw [hw0]);obtain ⟨⟨y0, y1, y2⟩, ⟨y3, y4⟩, yf⟩ := cells5 HY;have ey0 := y0;have ey1 := y1;have ey2 := y2;have ey3 := y3;have ey4 := y4;rw [HW.out] at ey0 ey1 ey2 ey3 ey4;have hzb0 : w.heap.size < w0.heap.size := by omega
 have HX := aA (hx.up hB);clear hw0;obtain ⟨w1, hw1, hb1, HQ, hz1, HS1⟩ := box5 w0 nilV nilV nilV nilV nilV 40;unfold nilV at hw1 HQ;have HW1 := aA (show w1 = (w.alloc (.cells #[.slice A10 m10 c10, .slice A11 m11 c11, .slice A12 m12 c12, .slice A8 m8 c8, .slice A9 x.flight.length c9] 40)).alloc (.cells #[.slice none 0 0, .slice none 0 0, .slice none 0 0, .slice none 0 0, .slice none 0 0] 40) by rw [hw1, HW.out]);have hP1 := HS0.out;obtain ⟨P1, hPP1⟩ : ∃ z, z = w0.heap.size := ⟨_, rfl⟩
 have HP1 := aA (show w.heap.size + 1 = P1 by rw [hPP1, hP1]);rw [← hPP1] at HQ hz1;clear ey0 ey1 ey2 ey3 ey4 hw1 hP1 HS0 HS1 hPP1;have hzhb1 := hb1.size;clear y0 y1 y2 y3 y4 yf;replace HY := bk HY hb1;replace hB := bl_trans hB hb1;obtain ⟨⟨y0, y1, y2⟩, ⟨y3, y4⟩, yf⟩ := cells5 HY;have hzb1 : w.heap.size < w1.heap.size := by omega
 go_enter Tryz.func44, Tryz.ntmps44;go_wp2_with fail;rw [HP1.out, ← HW1.out];rename_i K hrest;have FIN0 : ∀ (W : World) (P3 : Nat) (v1 v2 v3 v4 : Value), Below w1.heap.size w1 W → w1.heap.size ≤ P3 → (∃ val, AsyB W w1.heap.size val ⟨x.rounds, x.before, x.now, x.slots, []⟩ P3) →
   K ⟨#[.agg #[.slice A10 m10 c10, .slice A11 m11 c11, .slice A12 m12 c12, .slice A8 m8 c8, .slice A9 x.flight.length c9], .pointer (some ⟨w.heap.size, 0, none⟩), .pointer (some ⟨P1, 0, none⟩), .pointer (some ⟨P3, 0, none⟩), undef, undef, undef, undef, undef, .pointer (some ⟨w.heap.size, 0, none⟩), .slice A10 m10 c10, v1, .pointer (some ⟨w.heap.size, 1, none⟩), .slice A11 m11 c11, v2, .pointer (some ⟨w.heap.size, 2, none⟩), .slice A12 m12 c12, v3, .pointer (some ⟨w.heap.size, 3, none⟩), .slice A8 m8 c8, v4, .agg #[v1, v2, v3, v4, .slice none 0 0], undef, undef, undef, undef, undef, undef, undef, undef, undef, undef, undef, undef, undef, undef, undef, undef, undef, undef, undef, undef, undef, undef, undef, undef, undef, undef, undef, undef, undef, undef, undef], []⟩ W := by
  intro W P3 v1 v2 v3 v4 hBW hP3 hK0;obtain ⟨val, hk0⟩ := hK0;refine hrest _ _ ?_;have HK0 := aA hk0;have HY0 := aA HY;have HQ0 := aA HQ;have HP3 := aA hP3;clear hk0;have hB0 := bl_trans hB hBW;replace HY := bk HY hBW;replace HQ := bk HQ hBW;clear y0 y1 y2 y3 y4 yf hrest hB;obtain ⟨⟨y0, y1, y2⟩, ⟨y3, y4⟩, yf⟩ := cells5 HY;go_wp2_with fail;go_loopw [25] (fun i wr => CaRel x P3 w1 i wr) (fun i _ => x.flight.length - (intOf i).toNat)
  case atStart => exact ⟨hBW, 0, val, Nat.zero_le _, rfl, HK0.out⟩
  case round =>
   obtain ⟨hbr, k, vk, hkn, rfl, hk1⟩ := hrel;obtain ⟨wo, rfl⟩ : ∃ z, z = wr := ⟨_, rfl⟩
   have HK := aA hk1;have hzr := hbr.size;have hPr := hk1.lt;have hB := bl_trans (show Below w.heap.size w w1 from bl_trans hb0 hb1) hbr;have hk1b := hk1.box;clear hk1 y0 y1 y2 y3 y4 yf;have HYr := bk HY0.out hbr;have HQr := bk HQ0.out hbr;obtain ⟨⟨y0, y1, y2⟩, ⟨y3, y4⟩, yf⟩ := cells5 HYr;by_cases hlt : k < x.flight.length
   ·
    obtain ⟨f, hf⟩ : ∃ y, x.flight[k]? = some y := ⟨_, aC hlt⟩
    have hf6 := HSM.out.fr f (aN hf);have h40 : x.flight.length ≤ 40 := by rw [HSM.out.f]; exact HSM.out.s
    have hl12 := aA (HSM.out.le f (aN hf));obtain ⟨ad9, rfl, ha9, hrow9⟩ := HR9.out (by omega);obtain ⟨u9, hu9, hz9⟩ := hrow9 k f hf;obtain ⟨B9, e9, rfl, hd9, hD9, hrf⟩ := hz9;unfold maxLen at hD9;have HRF := aA hrf;have hc9' := (hB.cell (p := ad9.add k) (by rw [block_add]; exact ha9)).trans hu9;have HXT := aA (xFl_of hf);have HFA := aA hf;have hlk : (xFl x k).flight.length = k := by show (x.flight.take k).length = k; rw [List.length_take]; omega
    have HLK := aA hlk;have hmk := fun W => run_make1 (P := Tryz.prog) 101 102 (.slice none 0 0) 24 Tryz.underlying101 sliceInfo2 rfl f.length (by omega) (by omega) W
    obtain ⟨val0, hv0, hp0⟩ := Pack.start (letD f) (own_made1 wo 102 f.length (by unfold maxLen; omega));unfold nilV at hp0;have HP0 := aA hp0;have HV0 := aA hv0;have HBX := aA hk1b;clear hp0 hv0 hrf hu9 hf hrow9 hlk hk1b;go_wp2;clear hmk;go_loopw [34] (fun i wr => CpRel f wo i wr) (fun i _ => f.length - (intOf i).toNat)
    case atStart => exact ⟨bl_alloc (Below.refl _ _) _, 0, val0, Nat.zero_le _, rfl, HV0.out, HP0.out⟩
    case round =>
     obtain ⟨hbf, j, vj, hj, rfl, hvs, hp⟩ := hrel;have HVS := aA hvs;have hsf := hbf.size;have HP := aA hp;have hps := hp.top;rw [hvs] at hps;have hgt := ((hps.lt wo.heap.size rfl).2)
     clear hp hps hvs;by_cases hltj : j < f.length
     ·
      obtain ⟨ls, hls⟩ : ∃ y, f[j]? = some y := ⟨_, aC hltj⟩
      have hl12' := hl12.out ls (aN hls);obtain ⟨adf, rfl, haf, hrowf⟩ := HRF.out (by omega);obtain ⟨ul, hul, hzl⟩ := hrowf j ls hls;have hBf := bl_trans hB hbf;have hel := (EndsR.below hzl hBf).more hBf.size;obtain ⟨Bl, dl, rfl, hdl, hDl, -, -⟩ := hzl;have HEL := aA hel;have hcl := (hBf.cell (p := adf.add j) (by rw [block_add]; exact haf)).trans hul;have HLS := aA (getD_some (d := []) hls);clear hel hrowf hul hls hDl hdl;have h0j : (0 : Int) ≤ (j : Int) := by omega
      go_wp2_with fail;refine (lets_Clone _ ls _ HEL.out (by omega)).mono ?_;rintro e w6 ⟨u2, rfl, ho, hb6⟩;obtain ⟨B6, d6, rfl⟩ := own_sl1 ho;have hs6 := hb6.size;obtain ⟨val', hv', hp'⟩ := HP.out.step hltj HVS.out (grown_below hb6) (u := .slice B6 ls.length d6) (by show w6.ownsRow _ 129 2 _ (f.getD j []).length (letCells (f.getD j [])); rw [HLS.out]; exact own_mono ho hsf) (fresh_of ho);have hown1 := own_up (HP.out.top) hb6;rw [HVS.out] at hown1;obtain ⟨hc1, hf1⟩ := pack_cell hown1 hltj;have HP' := aA hp';have HV' := aA (hv'.trans HVS.out);have HB6 := aA hb6;clear hp' hv' hown1 ho hb6;go_wp2_with fail;go_roundw
      case rel => exact ⟨(hbf.trans (HB6.out.mono hsf)).setCell (Nat.le_refl _) _, j + 1, val', by omega, by go_num, HV'.out, HP'.out⟩
      case measure => simp [intOf]; omega
     ·
      obtain rfl : j = f.length := by omega
      obtain ⟨vj2, hf2, hfr2, hF⟩ := AsyB.withPack (HK.out.up hbf) HP.out hzr (fun i hi g hg => ((HK.out.k.own i hi).lt g hg).2) hPr;have HF := aA hF;have hPf := hF.lt;have hboxf := hF.box;have hfl := hF.flow;have hnf : (vj2 .f).ownBlock ≠ some P3 := hF.ne .f trivial;rw [HLK.out] at hfl hfr2;obtain ⟨Aq, cq, eaq⟩ := own_sl1 hfl;rw [eaq] at hfl;have HFL' := aA hfl;have HAQ := aA eaq;have HNF := aA hnf;have HFR2 := aA (hfr2.trans HVS.out);have q4 : wo.cell? ⟨P3, 4, none⟩ = some (.slice Aq k cq) := by rw [cell_of_row _ _ 4 _ _ (0, 0) HBX.out, ← eaq, hf2]; rfl
      replace q4 := (hbf.cell (p := ⟨P3, 4, none⟩) hPr).trans q4;have f4 := frozen_of_row _ _ 4 _ _ hboxf;have HBf := aA (bl_trans hbr hbf);have hwf : w1.heap.size ≤ wr.heap.size := Nat.le_trans hzr hsf;clear hF hboxf hfl hnf hfr2 eaq hf2;go_wp2_with (at_builtin; refine wpList_append1 wr rfl (.tmp 46) (.tmp 48) 38 rfl w1.heap.size 101 _ 24 Tryz.underlying38 sliceInfo3 rfl _ _ _ rfl _ rfl rfl HFL'.out (by unfold maxLen; omega) (by omega) hwf ?_; intro v8 w8 hown8 hbl8 hgr8 hlt8 hob8; obtain ⟨A8', c8', rfl⟩ := own_sl1 hown8; have q4' := (World.cell?_of_block (a := ⟨P3, 4, none⟩) (hgr8.block P3 hPf (fun e => HNF.out (by rw [HAQ.out]; exact e.symm)))).trans q4; have f4' := (World.frozen?_of_block (a := ⟨P3, 4, none⟩) (hgr8.block P3 hPf (fun e => HNF.out (by rw [HAQ.out]; exact e.symm)))).trans f4)
      have hgr8' : wr.grownBy w8 (vj2 .f).ownBlock := by rw [HAQ.out]; exact hgr8
      have hown8' : w8.ownsRow w1.heap.size 101 1 (.slice A8' (k + 1) c8') ((xFl x k).flight.length + 1) (valsOf .fr vj2 (xFl x k).flight.length ++ [vj2 (.fr (xFl x k).flight.length)]) := by rw [HLK.out, HFR2.out]; exact hown8
      have hob8' : (Value.slice A8' (k + 1) c8').ownBlock = (vj2 .f).ownBlock ∨ ∃ g, (Value.slice A8' (k + 1) c8').ownBlock = some g ∧ wr.heap.size ≤ g := by rw [HAQ.out];exact hob8.imp id fun ⟨g, h1, h2, _⟩ => ⟨g, h1, h2⟩
      obtain ⟨val3, hk3⟩ := HF.out.fin hgr8' hown8' hob8';rw [HXT.out] at hk3;have HK3 := aA hk3;have HB8 := aA (show Below w1.heap.size w1 (w8.setCell ⟨P3, 4, none⟩ (.slice A8' (k + 1) c8')) from (HBf.out.trans hbl8).setCell (p := ⟨P3, 4, none⟩) HP3.out _);clear hk3 hgr8' hown8' hob8' hown8 hbl8 hgr8 hob8 q4 q4' f4 f4';go_roundw
      case rel => exact ⟨HB8.out, k + 1, val3, by omega, by go_num, HK3.out⟩
      case measure => simp [intOf]; omega
   ·
    obtain rfl : k = x.flight.length := by omega
    have HXE := aA (show xFl x x.flight.length = x by unfold xFl; rw [List.take_of_length_le (Nat.le_refl _)]);have HBX := aA hk1b;clear hk1b;obtain ⟨C0, k0, ek0⟩ := own_sl1 (HK.out.k.own .r trivial);obtain ⟨C1, k1, ek1⟩ := own_sl1 (HK.out.k.own .b trivial);obtain ⟨C2, k2, ek2⟩ := own_sl1 (HK.out.k.own .n trivial);obtain ⟨C3, k3, ek3⟩ := own_sl1 (HK.out.k.own .s trivial);obtain ⟨C4, k4, ek4⟩ := own_sl1 (HK.out.k.own .f trivial);have HVK := aA (show Value.agg #[vk .r, vk .b, vk .n, vk .s, vk .f] = Value.agg #[.slice C0 (rowK (xFl x x.flight.length) vk .r).len k0, .slice C1 (rowK (xFl x x.flight.length) vk .b).len k1, .slice C2 (rowK (xFl x x.flight.length) vk .n).len k2, .slice C3 (rowK (xFl x x.flight.length) vk .s).len k3, .slice C4 (rowK (xFl x x.flight.length) vk .f).len k4] by rw [← ek0, ← ek1, ← ek2, ← ek3, ← ek4]);replace HBX := aA (show wo.heap[P3]? = some (.cells #[.slice C0 (rowK (xFl x x.flight.length) vk .r).len k0, .slice C1 (rowK (xFl x x.flight.length) vk .b).len k1, .slice C2 (rowK (xFl x x.flight.length) vk .n).len k2, .slice C3 (rowK (xFl x x.flight.length) vk .s).len k3, .slice C4 (rowK (xFl x x.flight.length) vk .f).len k4] 40 (0, 0)) by rw [HBX.out, ek0, ek1, ek2, ek3, ek4]);generalize (rowK (xFl x x.flight.length) vk .r).len = n0 at HVK HBX;generalize (rowK (xFl x x.flight.length) vk .b).len = n1 at HVK HBX;generalize (rowK (xFl x x.flight.length) vk .n).len = n2 at HVK HBX;generalize (rowK (xFl x x.flight.length) vk .s).len = n3 at HVK HBX;generalize (rowK (xFl x x.flight.length) vk .f).len = n4 at HVK HBX;clear ek0 ek1 ek2 ek3 ek4;obtain ⟨⟨b0, b1, b2⟩, ⟨b3, b4⟩, bf⟩ := cells5 HBX;obtain ⟨⟨p0, p1, p2⟩, ⟨p3, p4⟩, pf⟩ := cells5 HQr;obtain ⟨we, hwe, HE, hge⟩ := set5 HQr (.slice C0 n0 k0) (.slice C1 n1 k1) (.slice C2 n2 k2) (.slice C3 n3 k3) (.slice C4 n4 k4);have HWE := aA hwe;clear hwe;go_wp2_with fail;rw [← HWE.out];obtain ⟨⟨z0, z1, z2⟩, ⟨z3, z4⟩, -⟩ := cells5 HE;have hwP : w.heap.size ≤ P1 := Nat.le_of_lt (by rw [← HP1.out]; omega);have hBE : Below w.heap.size w we := Below.grown hB hge (by omega) (fun k hk => by have e := aE (show some P1 = some k from hk); omega);have hKE : AsyK we w.heap.size vk x := by have h1 := OwnK.apart HK.out.k hge (fun j hj e => by have := ((HK.out.k.own j hj).lt P1 e).1; omega);have h2 : AsyK we w1.heap.size vk (xFl x x.flight.length) := h1;rw [HXE.out] at h2;exact OwnK.mono h2 (Nat.le_of_lt hzb1)
    exact bodyPost_ret (v := .agg #[.slice C0 n0 k0, .slice C1 n1 k1, .slice C2 n2 k2, .slice C3 n3 k3, .slice C4 n4 k4]) (by simp [results, Tryz.results44, go_sem, z0, z1, z2, z3, z4]) rfl ⟨vk, by rw [HVK.out], hKE, hBE⟩
 have FIN := aA FIN0;clear FIN0;have hB1 : Below w1.heap.size w1 w1 := Below.refl _ _;have hzc := hzb1;obtain ⟨sz, hsz, hcur⟩ : ∃ z, z = w1.heap.size ∧ z = w1.heap.size := ⟨_, rfl, rfl⟩
 refine aH (S := fun w' => w'.cell? ⟨w.heap.size, 0, none⟩ = some (.slice A10 m10 c10) ∧ w'.cell? ⟨w.heap.size, 1, none⟩ = some (.slice A11 m11 c11) ∧ w'.cell? ⟨w.heap.size, 2, none⟩ = some (.slice A12 m12 c12) ∧ w'.cell? ⟨w.heap.size, 3, none⟩ = some (.slice A8 m8 c8)) (by kernel_rfl) ?_ (fun hHeld => ?_)
 · go_keep
 refine stk 0 9 ?_;refine stk 1 10 ?_;refine stk 3 12 ?_;refine stk 4 13 ?_;refine stk 6 15 ?_;refine stk 7 16 ?_;refine stk 9 18 ?_;refine stk 10 19 ?_;refine aJ (rs := [2, 13]) (by kernel_rfl) (by simp) ?_;refine aI rfl (fun K hK => ?_) (aI rfl (fun K hK => ?_) AllReadyH.nil)
 ·
  go_simp;go_at_call 82;refine (impl_Clone _ x.rounds _ (ints_at HX0.out.r (by first | exact hB | exact hB.drew | exact hB.drew.drew | exact hB.drew.drew.drew)) (by have := HSM.out.r; omega)).mono ?_;rintro e w5 ⟨v5, rfl, o5, -, hb5⟩;replace o5 : World.ownsRow w5 _ 3 1 v5 x.rounds.length (x.rounds.map intV) := o5;have r5 : ∀ g, v5.ownBlock = some g → sz ≤ g ∧ g < w5.heap.size := fun g hg => by rw [hsz]; exact o5.lt g hg
  replace o5 := own_mono o5 (show w1.heap.size ≤ _ from hB1.size);obtain ⟨B5, d5, rfl⟩ := own_slice o5;have hlew5 : sz ≤ w5.heap.size := by rw [hsz]; exact hb5.size
  replace y0 := (hb5.cell (p := ⟨w.heap.size, 0, none⟩) hzc).trans y0;replace y1 := (hb5.cell (p := ⟨w.heap.size, 1, none⟩) hzc).trans y1;replace y2 := (hb5.cell (p := ⟨w.heap.size, 2, none⟩) hzc).trans y2;replace y3 := (hb5.cell (p := ⟨w.heap.size, 3, none⟩) hzc).trans y3;replace hzc := aF hzc hb5.size;replace hB : Below w.heap.size w w5 := by first | exact bl_trans hB hb5 | exact bl_trans hB.drew hb5 | exact bl_trans hB.drew.drew hb5 | exact bl_trans hB.drew.drew.drew hb5
  replace hB1 : Below w1.heap.size w1 w5 := by first | exact bl_trans hB1 hb5 | exact bl_trans hB1.drew hb5 | exact bl_trans hB1.drew.drew hb5 | exact bl_trans hB1.drew.drew.drew hb5
  obtain ⟨sz, hsz, hcur⟩ : ∃ z, z = w5.heap.size ∧ z = w5.heap.size := ⟨_, rfl, rfl⟩
  refine hK.out _ _ ?_ (fun hHeld => ?_)
  · go_keep
  clear hK K
  try simp only [Act.put, pu]
  refine aJ (rs := [5, 13]) (by kernel_rfl) (by simp) ?_;refine aI rfl (fun K hK => ?_) (aI rfl (fun K hK => ?_) AllReadyH.nil)
  ·
   go_simp;go_at_call 82;refine (impl_Clone _ x.before _ (ints_at HX0.out.b (by first | exact hB | exact hB.drew | exact hB.drew.drew | exact hB.drew.drew.drew)) (by have := HSM.out.b; omega)).mono ?_;rintro e w6 ⟨v6, rfl, o6, -, hb6⟩;replace o6 : World.ownsRow w6 _ 3 1 v6 x.before.length (x.before.map intV) := o6;have r6 : ∀ g, v6.ownBlock = some g → sz ≤ g ∧ g < w6.heap.size := fun g hg => by rw [hsz]; exact o6.lt g hg
   replace o6 := own_mono o6 (show w1.heap.size ≤ _ from hB1.size);obtain ⟨B6, d6, rfl⟩ := own_slice o6;have hlew6 : sz ≤ w6.heap.size := by rw [hsz]; exact hb6.size
   replace y0 := (hb6.cell (p := ⟨w.heap.size, 0, none⟩) hzc).trans y0;replace y1 := (hb6.cell (p := ⟨w.heap.size, 1, none⟩) hzc).trans y1;replace y2 := (hb6.cell (p := ⟨w.heap.size, 2, none⟩) hzc).trans y2;replace y3 := (hb6.cell (p := ⟨w.heap.size, 3, none⟩) hzc).trans y3;replace hzc := aF hzc hb6.size;replace hB : Below w.heap.size w w6 := by first | exact bl_trans hB hb6 | exact bl_trans hB.drew hb6 | exact bl_trans hB.drew.drew hb6 | exact bl_trans hB.drew.drew.drew hb6
   replace hB1 : Below w1.heap.size w1 w6 := by first | exact bl_trans hB1 hb6 | exact bl_trans hB1.drew hb6 | exact bl_trans hB1.drew.drew hb6 | exact bl_trans hB1.drew.drew.drew hb6
   replace o5 := own_up o5 hb6;obtain ⟨sz, hsz, hcur⟩ : ∃ z, z = w6.heap.size ∧ z = w6.heap.size := ⟨_, rfl, rfl⟩
   refine hK.out _ _ ?_ (fun hHeld => ?_)
   · go_keep
   clear hK K
   try simp only [Act.put, pu]
   refine aJ (rs := [8, 13]) (by kernel_rfl) (by simp) ?_;refine aI rfl (fun K hK => ?_) (aI rfl (fun K hK => ?_) AllReadyH.nil)
   ·
    go_simp;go_at_call 82;refine (impl_Clone _ x.now _ (ints_at HX0.out.n (by first | exact hB | exact hB.drew | exact hB.drew.drew | exact hB.drew.drew.drew)) (by have := HSM.out.n; omega)).mono ?_;rintro e w7 ⟨v7, rfl, o7, -, hb7⟩;replace o7 : World.ownsRow w7 _ 3 1 v7 x.now.length (x.now.map intV) := o7;have r7 : ∀ g, v7.ownBlock = some g → sz ≤ g ∧ g < w7.heap.size := fun g hg => by rw [hsz]; exact o7.lt g hg
    replace o7 := own_mono o7 (show w1.heap.size ≤ _ from hB1.size);obtain ⟨B7, d7, rfl⟩ := own_slice o7;have hlew7 : sz ≤ w7.heap.size := by rw [hsz]; exact hb7.size
    replace y0 := (hb7.cell (p := ⟨w.heap.size, 0, none⟩) hzc).trans y0;replace y1 := (hb7.cell (p := ⟨w.heap.size, 1, none⟩) hzc).trans y1;replace y2 := (hb7.cell (p := ⟨w.heap.size, 2, none⟩) hzc).trans y2;replace y3 := (hb7.cell (p := ⟨w.heap.size, 3, none⟩) hzc).trans y3;replace hzc := aF hzc hb7.size;replace hB : Below w.heap.size w w7 := by first | exact bl_trans hB hb7 | exact bl_trans hB.drew hb7 | exact bl_trans hB.drew.drew hb7 | exact bl_trans hB.drew.drew.drew hb7
    replace hB1 : Below w1.heap.size w1 w7 := by first | exact bl_trans hB1 hb7 | exact bl_trans hB1.drew hb7 | exact bl_trans hB1.drew.drew hb7 | exact bl_trans hB1.drew.drew.drew hb7
    replace o5 := own_up o5 hb7;replace o6 := own_up o6 hb7;obtain ⟨sz, hsz, hcur⟩ : ∃ z, z = w7.heap.size ∧ z = w7.heap.size := ⟨_, rfl, rfl⟩
    refine hK.out _ _ ?_ (fun hHeld => ?_)
    · go_keep
    clear hK K
    try simp only [Act.put, pu]
    refine aJ (rs := [11, 13]) (by kernel_rfl) (by simp) ?_;refine aI rfl (fun K hK => ?_) (aI rfl (fun K hK => ?_) AllReadyH.nil)
    ·
     go_simp;go_at_call 83;refine (impl_copyLists _ x.slots _ (rows_at HX0.out.s (by first | exact hB | exact hB.drew | exact hB.drew.drew | exact hB.drew.drew.drew)) HSM.out.s (fun s hs => by have := HSM.out.sl s hs; omega)).mono ?_;rintro e w8 ⟨u8, he8, p8, hb8⟩;obtain ⟨B8, d8, e8⟩ := own_sl1 p8.top;rw [e8] at he8;subst he8;have r8 : ∀ i, packK x.slots.length i → ∀ g, (u8 i).ownBlock = some g → sz ≤ g ∧ g < w8.heap.size := fun i hi g hg => by rw [hsz]; exact (OwnK.own p8 i hi).lt g hg
     replace p8 : Pack w8 sz 24 (intD x.slots) x.slots.length x.slots.length u8 := by rw [hsz]; exact p8
     obtain ⟨N8, hN8⟩ : ∃ z, z = sz := ⟨_, rfl⟩
     rw [← hN8] at p8 r8;have hz8w := hb8.size;have hlew8 : sz ≤ w8.heap.size := by rw [hsz]; exact hb8.size
     replace y0 := (hb8.cell (p := ⟨w.heap.size, 0, none⟩) hzc).trans y0;replace y1 := (hb8.cell (p := ⟨w.heap.size, 1, none⟩) hzc).trans y1;replace y2 := (hb8.cell (p := ⟨w.heap.size, 2, none⟩) hzc).trans y2;replace y3 := (hb8.cell (p := ⟨w.heap.size, 3, none⟩) hzc).trans y3;replace hzc := aF hzc hb8.size;replace hB : Below w.heap.size w w8 := by first | exact bl_trans hB hb8 | exact bl_trans hB.drew hb8 | exact bl_trans hB.drew.drew hb8 | exact bl_trans hB.drew.drew.drew hb8
     replace hB1 : Below w1.heap.size w1 w8 := by first | exact bl_trans hB1 hb8 | exact bl_trans hB1.drew hb8 | exact bl_trans hB1.drew.drew hb8 | exact bl_trans hB1.drew.drew.drew hb8
     replace o5 := own_up o5 hb8;replace o6 := own_up o6 hb8;replace o7 := own_up o7 hb8;obtain ⟨sz, hsz, hcur⟩ : ∃ z, z = w8.heap.size ∧ z = w8.heap.size := ⟨_, rfl, rfl⟩
     refine hK.out _ _ ?_ (fun hHeld => ?_)
     · go_keep
     clear hK K
     try simp only [Act.put, pu]
     refine stk 12 21 ?_;refine aJ (rs := [13]) (by kernel_rfl) (by simp) ?_;refine aI rfl (fun K hK => ?_) AllReadyH.nil;go_simp;obtain ⟨P3, w9, hP3, hw9, hb9, HT, hPc⟩ := boxAt y0 nilV nilV nilV nilV nilV 40;unfold nilV at hw9 HT;rw [hP3, ← hw9];have hPs : sz ≤ P3 ∧ P3 < w9.heap.size := ⟨by rw [hsz, hP3]; exact Nat.le_refl _, hPc⟩
     clear hw9;have hlew9 : sz ≤ w9.heap.size := by rw [hsz]; exact hb9.size
     replace y0 := (hb9.cell (p := ⟨w.heap.size, 0, none⟩) hzc).trans y0;replace y1 := (hb9.cell (p := ⟨w.heap.size, 1, none⟩) hzc).trans y1;replace y2 := (hb9.cell (p := ⟨w.heap.size, 2, none⟩) hzc).trans y2;replace y3 := (hb9.cell (p := ⟨w.heap.size, 3, none⟩) hzc).trans y3;replace hzc := aF hzc hb9.size;replace hB : Below w.heap.size w w9 := by first | exact bl_trans hB hb9 | exact bl_trans hB.drew hb9 | exact bl_trans hB.drew.drew hb9 | exact bl_trans hB.drew.drew.drew hb9
     replace hB1 : Below w1.heap.size w1 w9 := by first | exact bl_trans hB1 hb9 | exact bl_trans hB1.drew hb9 | exact bl_trans hB1.drew.drew hb9 | exact bl_trans hB1.drew.drew.drew hb9
     replace o5 := own_up o5 hb9;replace o6 := own_up o6 hb9;replace o7 := own_up o7 hb9;replace p8 := p8.keep (grown_below hb9);obtain ⟨sz, hsz, hcur⟩ : ∃ z, z = w9.heap.size ∧ z = w9.heap.size := ⟨_, rfl, rfl⟩
     (try clear q0 q1 q2 q3 q4 qf)
     obtain ⟨⟨q0, q1, q2⟩, ⟨q3, q4⟩, qf⟩ := cells5 HT;refine hK.out _ _ ?_ (fun hHeld => ?_)
     · go_keep
     clear hK K
     try simp only [Act.put, pu]
     refine aJ (rs := [14]) (by kernel_rfl) (by simp) ?_;refine aI rfl (fun K hK => ?_) AllReadyH.nil;go_simp;obtain ⟨we, hwe, HE, hge⟩ := set5 HT (.slice B5 x.rounds.length d5) (.slice B6 x.before.length d6) (.slice B7 x.now.length d7) (.slice B8 x.slots.length d8) (.slice none 0 0);rw [← hwe];clear hwe;have n5 : (Value.slice B5 x.rounds.length d5).ownBlock ≠ some P3 := fun h => by have := r5 _ h; omega
     have n6 : (Value.slice B6 x.before.length d6).ownBlock ≠ some P3 := fun h => by have := r6 _ h; omega
     have n7 : (Value.slice B7 x.now.length d7).ownBlock ≠ some P3 := fun h => by have := r7 _ h; omega
     have n8 : ∀ i, packK x.slots.length i → (u8 i).ownBlock ≠ some P3 := fun i hi h => by have := r8 i hi _ h; omega
     have s56 : (Value.slice B5 x.rounds.length d5).ownBlock = none ∨ (Value.slice B5 x.rounds.length d5).ownBlock ≠ (Value.slice B6 x.before.length d6).ownBlock := sep_of r5 r6 (by omega);have s57 : (Value.slice B5 x.rounds.length d5).ownBlock = none ∨ (Value.slice B5 x.rounds.length d5).ownBlock ≠ (Value.slice B7 x.now.length d7).ownBlock := sep_of r5 r7 (by omega);have s67 : (Value.slice B6 x.before.length d6).ownBlock = none ∨ (Value.slice B6 x.before.length d6).ownBlock ≠ (Value.slice B7 x.now.length d7).ownBlock := sep_of r6 r7 (by omega);have hw1N : w1.heap.size ≤ N8 := by omega
     have HK3 := aA (AsyK.of4 (own_setP o5 hge n5) (own_setP o6 hge n6) (own_setP o7 hge n7) s56 s57 s67 n5 n6 n7 (OwnK.apart p8 hge n8) hw1N (fun g hg => by have := r5 g hg; omega) (fun g hg => by have := r6 g hg; omega) (fun g hg => by have := r7 g hg; omega) n8 (by rw [e8]; exact HE));have hBE : Below w1.heap.size w1 we := Below.grown hB1 hge (by rw [← hcur]; omega) (fun k hk => by have e := aE (show some P3 = some k from hk); omega);have yE : ∀ i, we.cell? ⟨w.heap.size, i, none⟩ = w9.cell? ⟨w.heap.size, i, none⟩ := fun i => World.cell?_of_block (hge.block w.heap.size hzc (fun h => by have e := aE h; omega))
     replace y0 := (yE 0).trans y0;replace y1 := (yE 1).trans y1;replace y2 := (yE 2).trans y2;replace y3 := (yE 3).trans y3;refine hK.out _ _ ?_ (fun hHeld => ?_)
     · go_keep
     clear hK K
     try simp only [Act.put, pu]
     refine aK (by kernel_rfl) ?_ _;exact FIN.out _ P3 _ _ _ _ (by first | exact hBE | exact hBE.drew | exact hBE.drew.drew | exact hBE.drew.drew.drew) (by omega) HK3.out
    ·
     go_simp;obtain ⟨P3, w9, hP3, hw9, hb9, HT, hPc⟩ := boxAt y0 nilV nilV nilV nilV nilV 40;unfold nilV at hw9 HT;rw [hP3, ← hw9];have hPs : sz ≤ P3 ∧ P3 < w9.heap.size := ⟨by rw [hsz, hP3]; exact Nat.le_refl _, hPc⟩
     clear hw9;have hlew9 : sz ≤ w9.heap.size := by rw [hsz]; exact hb9.size
     replace y0 := (hb9.cell (p := ⟨w.heap.size, 0, none⟩) hzc).trans y0;replace y1 := (hb9.cell (p := ⟨w.heap.size, 1, none⟩) hzc).trans y1;replace y2 := (hb9.cell (p := ⟨w.heap.size, 2, none⟩) hzc).trans y2;replace y3 := (hb9.cell (p := ⟨w.heap.size, 3, none⟩) hzc).trans y3;replace hzc := aF hzc hb9.size;replace hB : Below w.heap.size w w9 := by first | exact bl_trans hB hb9 | exact bl_trans hB.drew hb9 | exact bl_trans hB.drew.drew hb9 | exact bl_trans hB.drew.drew.drew hb9
     replace hB1 : Below w1.heap.size w1 w9 := by first | exact bl_trans hB1 hb9 | exact bl_trans hB1.drew hb9 | exact bl_trans hB1.drew.drew hb9 | exact bl_trans hB1.drew.drew.drew hb9
     replace o5 := own_up o5 hb9;replace o6 := own_up o6 hb9;replace o7 := own_up o7 hb9;obtain ⟨sz, hsz, hcur⟩ : ∃ z, z = w9.heap.size ∧ z = w9.heap.size := ⟨_, rfl, rfl⟩
     (try clear q0 q1 q2 q3 q4 qf)
     obtain ⟨⟨q0, q1, q2⟩, ⟨q3, q4⟩, qf⟩ := cells5 HT;refine hK.out _ _ ?_ (fun hHeld => ?_)
     · go_keep
     clear hK K
     try simp only [Act.put, pu]
     refine aJ (rs := [11]) (by kernel_rfl) (by simp) ?_;refine aI rfl (fun K hK => ?_) AllReadyH.nil;go_simp;go_at_call 83;refine (impl_copyLists _ x.slots _ (rows_at HX0.out.s (by first | exact hB | exact hB.drew | exact hB.drew.drew | exact hB.drew.drew.drew)) HSM.out.s (fun s hs => by have := HSM.out.sl s hs; omega)).mono ?_;rintro e w8 ⟨u8, he8, p8, hb8⟩;obtain ⟨B8, d8, e8⟩ := own_sl1 p8.top;rw [e8] at he8;subst he8;have r8 : ∀ i, packK x.slots.length i → ∀ g, (u8 i).ownBlock = some g → sz ≤ g ∧ g < w8.heap.size := fun i hi g hg => by rw [hsz]; exact (OwnK.own p8 i hi).lt g hg
     replace p8 : Pack w8 sz 24 (intD x.slots) x.slots.length x.slots.length u8 := by rw [hsz]; exact p8
     obtain ⟨N8, hN8⟩ : ∃ z, z = sz := ⟨_, rfl⟩
     rw [← hN8] at p8 r8;have hz8w := hb8.size;have hlew8 : sz ≤ w8.heap.size := by rw [hsz]; exact hb8.size
     replace y0 := (hb8.cell (p := ⟨w.heap.size, 0, none⟩) hzc).trans y0;replace y1 := (hb8.cell (p := ⟨w.heap.size, 1, none⟩) hzc).trans y1;replace y2 := (hb8.cell (p := ⟨w.heap.size, 2, none⟩) hzc).trans y2;replace y3 := (hb8.cell (p := ⟨w.heap.size, 3, none⟩) hzc).trans y3;replace hzc := aF hzc hb8.size;replace hB : Below w.heap.size w w8 := by first | exact bl_trans hB hb8 | exact bl_trans hB.drew hb8 | exact bl_trans hB.drew.drew hb8 | exact bl_trans hB.drew.drew.drew hb8
     replace hB1 : Below w1.heap.size w1 w8 := by first | exact bl_trans hB1 hb8 | exact bl_trans hB1.drew hb8 | exact bl_trans hB1.drew.drew hb8 | exact bl_trans hB1.drew.drew.drew hb8
     replace HT := aA ((hb8.block P3 hPc).trans HT.out);replace hPc := aF hPc hb8.size;replace o5 := own_up o5 hb8;replace o6 := own_up o6 hb8;replace o7 := own_up o7 hb8;obtain ⟨sz, hsz, hcur⟩ : ∃ z, z = w8.heap.size ∧ z = w8.heap.size := ⟨_, rfl, rfl⟩
     (try clear q0 q1 q2 q3 q4 qf)
     obtain ⟨⟨q0, q1, q2⟩, ⟨q3, q4⟩, qf⟩ := cells5 HT;refine hK.out _ _ ?_ (fun hHeld => ?_)
     · go_keep
     clear hK K
     try simp only [Act.put, pu]
     refine stk 12 21 ?_;refine aJ (rs := [14]) (by kernel_rfl) (by simp) ?_;refine aI rfl (fun K hK => ?_) AllReadyH.nil;go_simp;obtain ⟨we, hwe, HE, hge⟩ := set5 HT (.slice B5 x.rounds.length d5) (.slice B6 x.before.length d6) (.slice B7 x.now.length d7) (.slice B8 x.slots.length d8) (.slice none 0 0);rw [← hwe];clear hwe;have n5 : (Value.slice B5 x.rounds.length d5).ownBlock ≠ some P3 := fun h => by have := r5 _ h; omega
     have n6 : (Value.slice B6 x.before.length d6).ownBlock ≠ some P3 := fun h => by have := r6 _ h; omega
     have n7 : (Value.slice B7 x.now.length d7).ownBlock ≠ some P3 := fun h => by have := r7 _ h; omega
     have n8 : ∀ i, packK x.slots.length i → (u8 i).ownBlock ≠ some P3 := fun i hi h => by have := r8 i hi _ h; omega
     have s56 : (Value.slice B5 x.rounds.length d5).ownBlock = none ∨ (Value.slice B5 x.rounds.length d5).ownBlock ≠ (Value.slice B6 x.before.length d6).ownBlock := sep_of r5 r6 (by omega);have s57 : (Value.slice B5 x.rounds.length d5).ownBlock = none ∨ (Value.slice B5 x.rounds.length d5).ownBlock ≠ (Value.slice B7 x.now.length d7).ownBlock := sep_of r5 r7 (by omega);have s67 : (Value.slice B6 x.before.length d6).ownBlock = none ∨ (Value.slice B6 x.before.length d6).ownBlock ≠ (Value.slice B7 x.now.length d7).ownBlock := sep_of r6 r7 (by omega);have hw1N : w1.heap.size ≤ N8 := by omega
     have HK3 := aA (AsyK.of4 (own_setP o5 hge n5) (own_setP o6 hge n6) (own_setP o7 hge n7) s56 s57 s67 n5 n6 n7 (OwnK.apart p8 hge n8) hw1N (fun g hg => by have := r5 g hg; omega) (fun g hg => by have := r6 g hg; omega) (fun g hg => by have := r7 g hg; omega) n8 (by rw [e8]; exact HE));have hBE : Below w1.heap.size w1 we := Below.grown hB1 hge (by rw [← hcur]; omega) (fun k hk => by have e := aE (show some P3 = some k from hk); omega);have yE : ∀ i, we.cell? ⟨w.heap.size, i, none⟩ = w8.cell? ⟨w.heap.size, i, none⟩ := fun i => World.cell?_of_block (hge.block w.heap.size hzc (fun h => by have e := aE h; omega))
     replace y0 := (yE 0).trans y0;replace y1 := (yE 1).trans y1;replace y2 := (yE 2).trans y2;replace y3 := (yE 3).trans y3;refine hK.out _ _ ?_ (fun hHeld => ?_)
     · go_keep
     clear hK K
     try simp only [Act.put, pu]
     refine aK (by kernel_rfl) ?_ _;exact FIN.out _ P3 _ _ _ _ (by first | exact hBE | exact hBE.drew | exact hBE.drew.drew | exact hBE.drew.drew.drew) (by omega) HK3.out
   ·
    go_simp;obtain ⟨P3, w9, hP3, hw9, hb9, HT, hPc⟩ := boxAt y0 nilV nilV nilV nilV nilV 40;unfold nilV at hw9 HT;rw [hP3, ← hw9];have hPs : sz ≤ P3 ∧ P3 < w9.heap.size := ⟨by rw [hsz, hP3]; exact Nat.le_refl _, hPc⟩
    clear hw9;have hlew9 : sz ≤ w9.heap.size := by rw [hsz]; exact hb9.size
    replace y0 := (hb9.cell (p := ⟨w.heap.size, 0, none⟩) hzc).trans y0;replace y1 := (hb9.cell (p := ⟨w.heap.size, 1, none⟩) hzc).trans y1;replace y2 := (hb9.cell (p := ⟨w.heap.size, 2, none⟩) hzc).trans y2;replace y3 := (hb9.cell (p := ⟨w.heap.size, 3, none⟩) hzc).trans y3;replace hzc := aF hzc hb9.size;replace hB : Below w.heap.size w w9 := by first | exact bl_trans hB hb9 | exact bl_trans hB.drew hb9 | exact bl_trans hB.drew.drew hb9 | exact bl_trans hB.drew.drew.drew hb9
    replace hB1 : Below w1.heap.size w1 w9 := by first | exact bl_trans hB1 hb9 | exact bl_trans hB1.drew hb9 | exact bl_trans hB1.drew.drew hb9 | exact bl_trans hB1.drew.drew.drew hb9
    replace o5 := own_up o5 hb9;replace o6 := own_up o6 hb9;obtain ⟨sz, hsz, hcur⟩ : ∃ z, z = w9.heap.size ∧ z = w9.heap.size := ⟨_, rfl, rfl⟩
    (try clear q0 q1 q2 q3 q4 qf)
    obtain ⟨⟨q0, q1, q2⟩, ⟨q3, q4⟩, qf⟩ := cells5 HT;refine hK.out _ _ ?_ (fun hHeld => ?_)
    · go_keep
    clear hK K
    try simp only [Act.put, pu]
    refine aJ (rs := [8]) (by kernel_rfl) (by simp) ?_;refine aI rfl (fun K hK => ?_) AllReadyH.nil;go_simp;go_at_call 82;refine (impl_Clone _ x.now _ (ints_at HX0.out.n (by first | exact hB | exact hB.drew | exact hB.drew.drew | exact hB.drew.drew.drew)) (by have := HSM.out.n; omega)).mono ?_;rintro e w7 ⟨v7, rfl, o7, -, hb7⟩;replace o7 : World.ownsRow w7 _ 3 1 v7 x.now.length (x.now.map intV) := o7;have r7 : ∀ g, v7.ownBlock = some g → sz ≤ g ∧ g < w7.heap.size := fun g hg => by rw [hsz]; exact o7.lt g hg
    replace o7 := own_mono o7 (show w1.heap.size ≤ _ from hB1.size);obtain ⟨B7, d7, rfl⟩ := own_slice o7;have hlew7 : sz ≤ w7.heap.size := by rw [hsz]; exact hb7.size
    replace y0 := (hb7.cell (p := ⟨w.heap.size, 0, none⟩) hzc).trans y0;replace y1 := (hb7.cell (p := ⟨w.heap.size, 1, none⟩) hzc).trans y1;replace y2 := (hb7.cell (p := ⟨w.heap.size, 2, none⟩) hzc).trans y2;replace y3 := (hb7.cell (p := ⟨w.heap.size, 3, none⟩) hzc).trans y3;replace hzc := aF hzc hb7.size;replace hB : Below w.heap.size w w7 := by first | exact bl_trans hB hb7 | exact bl_trans hB.drew hb7 | exact bl_trans hB.drew.drew hb7 | exact bl_trans hB.drew.drew.drew hb7
    replace hB1 : Below w1.heap.size w1 w7 := by first | exact bl_trans hB1 hb7 | exact bl_trans hB1.drew hb7 | exact bl_trans hB1.drew.drew hb7 | exact bl_trans hB1.drew.drew.drew hb7
    replace HT := aA ((hb7.block P3 hPc).trans HT.out);replace hPc := aF hPc hb7.size;replace o5 := own_up o5 hb7;replace o6 := own_up o6 hb7;obtain ⟨sz, hsz, hcur⟩ : ∃ z, z = w7.heap.size ∧ z = w7.heap.size := ⟨_, rfl, rfl⟩
    (try clear q0 q1 q2 q3 q4 qf)
    obtain ⟨⟨q0, q1, q2⟩, ⟨q3, q4⟩, qf⟩ := cells5 HT;refine hK.out _ _ ?_ (fun hHeld => ?_)
    · go_keep
    clear hK K
    try simp only [Act.put, pu]
    refine aJ (rs := [11]) (by kernel_rfl) (by simp) ?_;refine aI rfl (fun K hK => ?_) AllReadyH.nil;go_simp;go_at_call 83;refine (impl_copyLists _ x.slots _ (rows_at HX0.out.s (by first | exact hB | exact hB.drew | exact hB.drew.drew | exact hB.drew.drew.drew)) HSM.out.s (fun s hs => by have := HSM.out.sl s hs; omega)).mono ?_;rintro e w8 ⟨u8, he8, p8, hb8⟩;obtain ⟨B8, d8, e8⟩ := own_sl1 p8.top;rw [e8] at he8;subst he8;have r8 : ∀ i, packK x.slots.length i → ∀ g, (u8 i).ownBlock = some g → sz ≤ g ∧ g < w8.heap.size := fun i hi g hg => by rw [hsz]; exact (OwnK.own p8 i hi).lt g hg
    replace p8 : Pack w8 sz 24 (intD x.slots) x.slots.length x.slots.length u8 := by rw [hsz]; exact p8
    obtain ⟨N8, hN8⟩ : ∃ z, z = sz := ⟨_, rfl⟩
    rw [← hN8] at p8 r8;have hz8w := hb8.size;have hlew8 : sz ≤ w8.heap.size := by rw [hsz]; exact hb8.size
    replace y0 := (hb8.cell (p := ⟨w.heap.size, 0, none⟩) hzc).trans y0;replace y1 := (hb8.cell (p := ⟨w.heap.size, 1, none⟩) hzc).trans y1;replace y2 := (hb8.cell (p := ⟨w.heap.size, 2, none⟩) hzc).trans y2;replace y3 := (hb8.cell (p := ⟨w.heap.size, 3, none⟩) hzc).trans y3;replace hzc := aF hzc hb8.size;replace hB : Below w.heap.size w w8 := by first | exact bl_trans hB hb8 | exact bl_trans hB.drew hb8 | exact bl_trans hB.drew.drew hb8 | exact bl_trans hB.drew.drew.drew hb8
    replace hB1 : Below w1.heap.size w1 w8 := by first | exact bl_trans hB1 hb8 | exact bl_trans hB1.drew hb8 | exact bl_trans hB1.drew.drew hb8 | exact bl_trans hB1.drew.drew.drew hb8
    replace HT := aA ((hb8.block P3 hPc).trans HT.out);replace hPc := aF hPc hb8.size;replace o5 := own_up o5 hb8;replace o6 := own_up o6 hb8;replace o7 := own_up o7 hb8;obtain ⟨sz, hsz, hcur⟩ : ∃ z, z = w8.heap.size ∧ z = w8.heap.size := ⟨_, rfl, rfl⟩
    (try clear q0 q1 q2 q3 q4 qf)
    obtain ⟨⟨q0, q1, q2⟩, ⟨q3, q4⟩, qf⟩ := cells5 HT;refine hK.out _ _ ?_ (fun hHeld => ?_)
    · go_keep
    clear hK K
    try simp only [Act.put, pu]
    refine stk 12 21 ?_;refine aJ (rs := [14]) (by kernel_rfl) (by simp) ?_;refine aI rfl (fun K hK => ?_) AllReadyH.nil;go_simp;obtain ⟨we, hwe, HE, hge⟩ := set5 HT (.slice B5 x.rounds.length d5) (.slice B6 x.before.length d6) (.slice B7 x.now.length d7) (.slice B8 x.slots.length d8) (.slice none 0 0);rw [← hwe];clear hwe;have n5 : (Value.slice B5 x.rounds.length d5).ownBlock ≠ some P3 := fun h => by have := r5 _ h; omega
    have n6 : (Value.slice B6 x.before.length d6).ownBlock ≠ some P3 := fun h => by have := r6 _ h; omega
    have n7 : (Value.slice B7 x.now.length d7).ownBlock ≠ some P3 := fun h => by have := r7 _ h; omega
    have n8 : ∀ i, packK x.slots.length i → (u8 i).ownBlock ≠ some P3 := fun i hi h => by have := r8 i hi _ h; omega
    have s56 : (Value.slice B5 x.rounds.length d5).ownBlock = none ∨ (Value.slice B5 x.rounds.length d5).ownBlock ≠ (Value.slice B6 x.before.length d6).ownBlock := sep_of r5 r6 (by omega);have s57 : (Value.slice B5 x.rounds.length d5).ownBlock = none ∨ (Value.slice B5 x.rounds.length d5).ownBlock ≠ (Value.slice B7 x.now.length d7).ownBlock := sep_of r5 r7 (by omega);have s67 : (Value.slice B6 x.before.length d6).ownBlock = none ∨ (Value.slice B6 x.before.length d6).ownBlock ≠ (Value.slice B7 x.now.length d7).ownBlock := sep_of r6 r7 (by omega);have hw1N : w1.heap.size ≤ N8 := by omega
    have HK3 := aA (AsyK.of4 (own_setP o5 hge n5) (own_setP o6 hge n6) (own_setP o7 hge n7) s56 s57 s67 n5 n6 n7 (OwnK.apart p8 hge n8) hw1N (fun g hg => by have := r5 g hg; omega) (fun g hg => by have := r6 g hg; omega) (fun g hg => by have := r7 g hg; omega) n8 (by rw [e8]; exact HE));have hBE : Below w1.heap.size w1 we := Below.grown hB1 hge (by rw [← hcur]; omega) (fun k hk => by have e := aE (show some P3 = some k from hk); omega);have yE : ∀ i, we.cell? ⟨w.heap.size, i, none⟩ = w8.cell? ⟨w.heap.size, i, none⟩ := fun i => World.cell?_of_block (hge.block w.heap.size hzc (fun h => by have e := aE h; omega))
    replace y0 := (yE 0).trans y0;replace y1 := (yE 1).trans y1;replace y2 := (yE 2).trans y2;replace y3 := (yE 3).trans y3;refine hK.out _ _ ?_ (fun hHeld => ?_)
    · go_keep
    clear hK K
    try simp only [Act.put, pu]
    refine aK (by kernel_rfl) ?_ _;exact FIN.out _ P3 _ _ _ _ (by first | exact hBE | exact hBE.drew | exact hBE.drew.drew | exact hBE.drew.drew.drew) (by omega) HK3.out
  ·
   go_simp;obtain ⟨P3, w9, hP3, hw9, hb9, HT, hPc⟩ := boxAt y0 nilV nilV nilV nilV nilV 40;unfold nilV at hw9 HT;rw [hP3, ← hw9];have hPs : sz ≤ P3 ∧ P3 < w9.heap.size := ⟨by rw [hsz, hP3]; exact Nat.le_refl _, hPc⟩
   clear hw9;have hlew9 : sz ≤ w9.heap.size := by rw [hsz]; exact hb9.size
   replace y0 := (hb9.cell (p := ⟨w.heap.size, 0, none⟩) hzc).trans y0;replace y1 := (hb9.cell (p := ⟨w.heap.size, 1, none⟩) hzc).trans y1;replace y2 := (hb9.cell (p := ⟨w.heap.size, 2, none⟩) hzc).trans y2;replace y3 := (hb9.cell (p := ⟨w.heap.size, 3, none⟩) hzc).trans y3;replace hzc := aF hzc hb9.size;replace hB : Below w.heap.size w w9 := by first | exact bl_trans hB hb9 | exact bl_trans hB.drew hb9 | exact bl_trans hB.drew.drew hb9 | exact bl_trans hB.drew.drew.drew hb9
   replace hB1 : Below w1.heap.size w1 w9 := by first | exact bl_trans hB1 hb9 | exact bl_trans hB1.drew hb9 | exact bl_trans hB1.drew.drew hb9 | exact bl_trans hB1.drew.drew.drew hb9
   replace o5 := own_up o5 hb9;obtain ⟨sz, hsz, hcur⟩ : ∃ z, z = w9.heap.size ∧ z = w9.heap.size := ⟨_, rfl, rfl⟩
   (try clear q0 q1 q2 q3 q4 qf)
   obtain ⟨⟨q0, q1, q2⟩, ⟨q3, q4⟩, qf⟩ := cells5 HT;refine hK.out _ _ ?_ (fun hHeld => ?_)
   · go_keep
   clear hK K
   try simp only [Act.put, pu]
   refine aJ (rs := [5]) (by kernel_rfl) (by simp) ?_;refine aI rfl (fun K hK => ?_) AllReadyH.nil;go_simp;go_at_call 82;refine (impl_Clone _ x.before _ (ints_at HX0.out.b (by first | exact hB | exact hB.drew | exact hB.drew.drew | exact hB.drew.drew.drew)) (by have := HSM.out.b; omega)).mono ?_;rintro e w6 ⟨v6, rfl, o6, -, hb6⟩;replace o6 : World.ownsRow w6 _ 3 1 v6 x.before.length (x.before.map intV) := o6;have r6 : ∀ g, v6.ownBlock = some g → sz ≤ g ∧ g < w6.heap.size := fun g hg => by rw [hsz]; exact o6.lt g hg
   replace o6 := own_mono o6 (show w1.heap.size ≤ _ from hB1.size);obtain ⟨B6, d6, rfl⟩ := own_slice o6;have hlew6 : sz ≤ w6.heap.size := by rw [hsz]; exact hb6.size
   replace y0 := (hb6.cell (p := ⟨w.heap.size, 0, none⟩) hzc).trans y0;replace y1 := (hb6.cell (p := ⟨w.heap.size, 1, none⟩) hzc).trans y1;replace y2 := (hb6.cell (p := ⟨w.heap.size, 2, none⟩) hzc).trans y2;replace y3 := (hb6.cell (p := ⟨w.heap.size, 3, none⟩) hzc).trans y3;replace hzc := aF hzc hb6.size;replace hB : Below w.heap.size w w6 := by first | exact bl_trans hB hb6 | exact bl_trans hB.drew hb6 | exact bl_trans hB.drew.drew hb6 | exact bl_trans hB.drew.drew.drew hb6
   replace hB1 : Below w1.heap.size w1 w6 := by first | exact bl_trans hB1 hb6 | exact bl_trans hB1.drew hb6 | exact bl_trans hB1.drew.drew hb6 | exact bl_trans hB1.drew.drew.drew hb6
   replace HT := aA ((hb6.block P3 hPc).trans HT.out);replace hPc := aF hPc hb6.size;replace o5 := own_up o5 hb6;obtain ⟨sz, hsz, hcur⟩ : ∃ z, z = w6.heap.size ∧ z = w6.heap.size := ⟨_, rfl, rfl⟩
   (try clear q0 q1 q2 q3 q4 qf)
   obtain ⟨⟨q0, q1, q2⟩, ⟨q3, q4⟩, qf⟩ := cells5 HT;refine hK.out _ _ ?_ (fun hHeld => ?_)
   · go_keep
   clear hK K
   try simp only [Act.put, pu]
   refine aJ (rs := [8]) (by kernel_rfl) (by simp) ?_;refine aI rfl (fun K hK => ?_) AllReadyH.nil;go_simp;go_at_call 82;refine (impl_Clone _ x.now _ (ints_at HX0.out.n (by first | exact hB | exact hB.drew | exact hB.drew.drew | exact hB.drew.drew.drew)) (by have := HSM.out.n; omega)).mono ?_;rintro e w7 ⟨v7, rfl, o7, -, hb7⟩;replace o7 : World.ownsRow w7 _ 3 1 v7 x.now.length (x.now.map intV) := o7;have r7 : ∀ g, v7.ownBlock = some g → sz ≤ g ∧ g < w7.heap.size := fun g hg => by rw [hsz]; exact o7.lt g hg
   replace o7 := own_mono o7 (show w1.heap.size ≤ _ from hB1.size);obtain ⟨B7, d7, rfl⟩ := own_slice o7;have hlew7 : sz ≤ w7.heap.size := by rw [hsz]; exact hb7.size
   replace y0 := (hb7.cell (p := ⟨w.heap.size, 0, none⟩) hzc).trans y0;replace y1 := (hb7.cell (p := ⟨w.heap.size, 1, none⟩) hzc).trans y1;replace y2 := (hb7.cell (p := ⟨w.heap.size, 2, none⟩) hzc).trans y2;replace y3 := (hb7.cell (p := ⟨w.heap.size, 3, none⟩) hzc).trans y3;replace hzc := aF hzc hb7.size;replace hB : Below w.heap.size w w7 := by first | exact bl_trans hB hb7 | exact bl_trans hB.drew hb7 | exact bl_trans hB.drew.drew hb7 | exact bl_trans hB.drew.drew.drew hb7
   replace hB1 : Below w1.heap.size w1 w7 := by first | exact bl_trans hB1 hb7 | exact bl_trans hB1.drew hb7 | exact bl_trans hB1.drew.drew hb7 | exact bl_trans hB1.drew.drew.drew hb7
   replace HT := aA ((hb7.block P3 hPc).trans HT.out);replace hPc := aF hPc hb7.size;replace o5 := own_up o5 hb7;replace o6 := own_up o6 hb7;obtain ⟨sz, hsz, hcur⟩ : ∃ z, z = w7.heap.size ∧ z = w7.heap.size := ⟨_, rfl, rfl⟩
   (try clear q0 q1 q2 q3 q4 qf)
   obtain ⟨⟨q0, q1, q2⟩, ⟨q3, q4⟩, qf⟩ := cells5 HT;refine hK.out _ _ ?_ (fun hHeld => ?_)
   · go_keep
   clear hK K
   try simp only [Act.put, pu]
   refine aJ (rs := [11]) (by kernel_rfl) (by simp) ?_;refine aI rfl (fun K hK => ?_) AllReadyH.nil;go_simp;go_at_call 83;refine (impl_copyLists _ x.slots _ (rows_at HX0.out.s (by first | exact hB | exact hB.drew | exact hB.drew.drew | exact hB.drew.drew.drew)) HSM.out.s (fun s hs => by have := HSM.out.sl s hs; omega)).mono ?_;rintro e w8 ⟨u8, he8, p8, hb8⟩;obtain ⟨B8, d8, e8⟩ := own_sl1 p8.top;rw [e8] at he8;subst he8;have r8 : ∀ i, packK x.slots.length i → ∀ g, (u8 i).ownBlock = some g → sz ≤ g ∧ g < w8.heap.size := fun i hi g hg => by rw [hsz]; exact (OwnK.own p8 i hi).lt g hg
   replace p8 : Pack w8 sz 24 (intD x.slots) x.slots.length x.slots.length u8 := by rw [hsz]; exact p8
   obtain ⟨N8, hN8⟩ : ∃ z, z = sz := ⟨_, rfl⟩
   rw [← hN8] at p8 r8;have hz8w := hb8.size;have hlew8 : sz ≤ w8.heap.size := by rw [hsz]; exact hb8.size
   replace y0 := (hb8.cell (p := ⟨w.heap.size, 0, none⟩) hzc).trans y0;replace y1 := (hb8.cell (p := ⟨w.heap.size, 1, none⟩) hzc).trans y1;replace y2 := (hb8.cell (p := ⟨w.heap.size, 2, none⟩) hzc).trans y2;replace y3 := (hb8.cell (p := ⟨w.heap.size, 3, none⟩) hzc).trans y3;replace hzc := aF hzc hb8.size;replace hB : Below w.heap.size w w8 := by first | exact bl_trans hB hb8 | exact bl_trans hB.drew hb8 | exact bl_trans hB.drew.drew hb8 | exact bl_trans hB.drew.drew.drew hb8
   replace hB1 : Below w1.heap.size w1 w8 := by first | exact bl_trans hB1 hb8 | exact bl_trans hB1.drew hb8 | exact bl_trans hB1.drew.drew hb8 | exact bl_trans hB1.drew.drew.drew hb8
   replace HT := aA ((hb8.block P3 hPc).trans HT.out);replace hPc := aF hPc hb8.size;replace o5 := own_up o5 hb8;replace o6 := own_up o6 hb8;replace o7 := own_up o7 hb8;obtain ⟨sz, hsz, hcur⟩ : ∃ z, z = w8.heap.size ∧ z = w8.heap.size := ⟨_, rfl, rfl⟩
   (try clear q0 q1 q2 q3 q4 qf)
   obtain ⟨⟨q0, q1, q2⟩, ⟨q3, q4⟩, qf⟩ := cells5 HT;refine hK.out _ _ ?_ (fun hHeld => ?_)
   · go_keep
   clear hK K
   try simp only [Act.put, pu]
   refine stk 12 21 ?_;refine aJ (rs := [14]) (by kernel_rfl) (by simp) ?_;refine aI rfl (fun K hK => ?_) AllReadyH.nil;go_simp;obtain ⟨we, hwe, HE, hge⟩ := set5 HT (.slice B5 x.rounds.length d5) (.slice B6 x.before.length d6) (.slice B7 x.now.length d7) (.slice B8 x.slots.length d8) (.slice none 0 0);rw [← hwe];clear hwe;have n5 : (Value.slice B5 x.rounds.length d5).ownBlock ≠ some P3 := fun h => by have := r5 _ h; omega
   have n6 : (Value.slice B6 x.before.length d6).ownBlock ≠ some P3 := fun h => by have := r6 _ h; omega
   have n7 : (Value.slice B7 x.now.length d7).ownBlock ≠ some P3 := fun h => by have := r7 _ h; omega
   have n8 : ∀ i, packK x.slots.length i → (u8 i).ownBlock ≠ some P3 := fun i hi h => by have := r8 i hi _ h; omega
   have s56 : (Value.slice B5 x.rounds.length d5).ownBlock = none ∨ (Value.slice B5 x.rounds.length d5).ownBlock ≠ (Value.slice B6 x.before.length d6).ownBlock := sep_of r5 r6 (by omega);have s57 : (Value.slice B5 x.rounds.length d5).ownBlock = none ∨ (Value.slice B5 x.rounds.length d5).ownBlock ≠ (Value.slice B7 x.now.length d7).ownBlock := sep_of r5 r7 (by omega);have s67 : (Value.slice B6 x.before.length d6).ownBlock = none ∨ (Value.slice B6 x.before.length d6).ownBlock ≠ (Value.slice B7 x.now.length d7).ownBlock := sep_of r6 r7 (by omega);have hw1N : w1.heap.size ≤ N8 := by omega
   have HK3 := aA (AsyK.of4 (own_setP o5 hge n5) (own_setP o6 hge n6) (own_setP o7 hge n7) s56 s57 s67 n5 n6 n7 (OwnK.apart p8 hge n8) hw1N (fun g hg => by have := r5 g hg; omega) (fun g hg => by have := r6 g hg; omega) (fun g hg => by have := r7 g hg; omega) n8 (by rw [e8]; exact HE));have hBE : Below w1.heap.size w1 we := Below.grown hB1 hge (by rw [← hcur]; omega) (fun k hk => by have e := aE (show some P3 = some k from hk); omega);have yE : ∀ i, we.cell? ⟨w.heap.size, i, none⟩ = w8.cell? ⟨w.heap.size, i, none⟩ := fun i => World.cell?_of_block (hge.block w.heap.size hzc (fun h => by have e := aE h; omega))
   replace y0 := (yE 0).trans y0;replace y1 := (yE 1).trans y1;replace y2 := (yE 2).trans y2;replace y3 := (yE 3).trans y3;refine hK.out _ _ ?_ (fun hHeld => ?_)
   · go_keep
   clear hK K
   try simp only [Act.put, pu]
   refine aK (by kernel_rfl) ?_ _;exact FIN.out _ P3 _ _ _ _ (by first | exact hBE | exact hBE.drew | exact hBE.drew.drew | exact hBE.drew.drew.drew) (by omega) HK3.out
 ·
  go_simp;obtain ⟨P3, w9, hP3, hw9, hb9, HT, hPc⟩ := boxAt y0 nilV nilV nilV nilV nilV 40;unfold nilV at hw9 HT;rw [hP3, ← hw9];have hPs : sz ≤ P3 ∧ P3 < w9.heap.size := ⟨by rw [hsz, hP3]; exact Nat.le_refl _, hPc⟩
  clear hw9;have hlew9 : sz ≤ w9.heap.size := by rw [hsz]; exact hb9.size
  replace y0 := (hb9.cell (p := ⟨w.heap.size, 0, none⟩) hzc).trans y0;replace y1 := (hb9.cell (p := ⟨w.heap.size, 1, none⟩) hzc).trans y1;replace y2 := (hb9.cell (p := ⟨w.heap.size, 2, none⟩) hzc).trans y2;replace y3 := (hb9.cell (p := ⟨w.heap.size, 3, none⟩) hzc).trans y3;replace hzc := aF hzc hb9.size;replace hB : Below w.heap.size w w9 := by first | exact bl_trans hB hb9 | exact bl_trans hB.drew hb9 | exact bl_trans hB.drew.drew hb9 | exact bl_trans hB.drew.drew.drew hb9
  replace hB1 : Below w1.heap.size w1 w9 := by first | exact bl_trans hB1 hb9 | exact bl_trans hB1.drew hb9 | exact bl_trans hB1.drew.drew hb9 | exact bl_trans hB1.drew.drew.drew hb9
  obtain ⟨sz, hsz, hcur⟩ : ∃ z, z = w9.heap.size ∧ z = w9.heap.size := ⟨_, rfl, rfl⟩
  (try clear q0 q1 q2 q3 q4 qf)
  obtain ⟨⟨q0, q1, q2⟩, ⟨q3, q4⟩, qf⟩ := cells5 HT;refine hK.out _ _ ?_ (fun hHeld => ?_)
  · go_keep
  clear hK K
  try simp only [Act.put, pu]
  refine aJ (rs := [2]) (by kernel_rfl) (by simp) ?_;refine aI rfl (fun K hK => ?_) AllReadyH.nil;go_simp;go_at_call 82;refine (impl_Clone _ x.rounds _ (ints_at HX0.out.r (by first | exact hB | exact hB.drew | exact hB.drew.drew | exact hB.drew.drew.drew)) (by have := HSM.out.r; omega)).mono ?_;rintro e w5 ⟨v5, rfl, o5, -, hb5⟩;replace o5 : World.ownsRow w5 _ 3 1 v5 x.rounds.length (x.rounds.map intV) := o5;have r5 : ∀ g, v5.ownBlock = some g → sz ≤ g ∧ g < w5.heap.size := fun g hg => by rw [hsz]; exact o5.lt g hg
  replace o5 := own_mono o5 (show w1.heap.size ≤ _ from hB1.size);obtain ⟨B5, d5, rfl⟩ := own_slice o5;have hlew5 : sz ≤ w5.heap.size := by rw [hsz]; exact hb5.size
  replace y0 := (hb5.cell (p := ⟨w.heap.size, 0, none⟩) hzc).trans y0;replace y1 := (hb5.cell (p := ⟨w.heap.size, 1, none⟩) hzc).trans y1;replace y2 := (hb5.cell (p := ⟨w.heap.size, 2, none⟩) hzc).trans y2;replace y3 := (hb5.cell (p := ⟨w.heap.size, 3, none⟩) hzc).trans y3;replace hzc := aF hzc hb5.size;replace hB : Below w.heap.size w w5 := by first | exact bl_trans hB hb5 | exact bl_trans hB.drew hb5 | exact bl_trans hB.drew.drew hb5 | exact bl_trans hB.drew.drew.drew hb5
  replace hB1 : Below w1.heap.size w1 w5 := by first | exact bl_trans hB1 hb5 | exact bl_trans hB1.drew hb5 | exact bl_trans hB1.drew.drew hb5 | exact bl_trans hB1.drew.drew.drew hb5
  replace HT := aA ((hb5.block P3 hPc).trans HT.out);replace hPc := aF hPc hb5.size;obtain ⟨sz, hsz, hcur⟩ : ∃ z, z = w5.heap.size ∧ z = w5.heap.size := ⟨_, rfl, rfl⟩
  (try clear q0 q1 q2 q3 q4 qf)
  obtain ⟨⟨q0, q1, q2⟩, ⟨q3, q4⟩, qf⟩ := cells5 HT;refine hK.out _ _ ?_ (fun hHeld => ?_)
  · go_keep
  clear hK K
  try simp only [Act.put, pu]
  refine aJ (rs := [5]) (by kernel_rfl) (by simp) ?_;refine aI rfl (fun K hK => ?_) AllReadyH.nil;go_simp;go_at_call 82;refine (impl_Clone _ x.before _ (ints_at HX0.out.b (by first | exact hB | exact hB.drew | exact hB.drew.drew | exact hB.drew.drew.drew)) (by have := HSM.out.b; omega)).mono ?_;rintro e w6 ⟨v6, rfl, o6, -, hb6⟩;replace o6 : World.ownsRow w6 _ 3 1 v6 x.before.length (x.before.map intV) := o6;have r6 : ∀ g, v6.ownBlock = some g → sz ≤ g ∧ g < w6.heap.size := fun g hg => by rw [hsz]; exact o6.lt g hg
  replace o6 := own_mono o6 (show w1.heap.size ≤ _ from hB1.size);obtain ⟨B6, d6, rfl⟩ := own_slice o6;have hlew6 : sz ≤ w6.heap.size := by rw [hsz]; exact hb6.size
  replace y0 := (hb6.cell (p := ⟨w.heap.size, 0, none⟩) hzc).trans y0;replace y1 := (hb6.cell (p := ⟨w.heap.size, 1, none⟩) hzc).trans y1;replace y2 := (hb6.cell (p := ⟨w.heap.size, 2, none⟩) hzc).trans y2;replace y3 := (hb6.cell (p := ⟨w.heap.size, 3, none⟩) hzc).trans y3;replace hzc := aF hzc hb6.size;replace hB : Below w.heap.size w w6 := by first | exact bl_trans hB hb6 | exact bl_trans hB.drew hb6 | exact bl_trans hB.drew.drew hb6 | exact bl_trans hB.drew.drew.drew hb6
  replace hB1 : Below w1.heap.size w1 w6 := by first | exact bl_trans hB1 hb6 | exact bl_trans hB1.drew hb6 | exact bl_trans hB1.drew.drew hb6 | exact bl_trans hB1.drew.drew.drew hb6
  replace HT := aA ((hb6.block P3 hPc).trans HT.out);replace hPc := aF hPc hb6.size;replace o5 := own_up o5 hb6;obtain ⟨sz, hsz, hcur⟩ : ∃ z, z = w6.heap.size ∧ z = w6.heap.size := ⟨_, rfl, rfl⟩
  (try clear q0 q1 q2 q3 q4 qf)
  obtain ⟨⟨q0, q1, q2⟩, ⟨q3, q4⟩, qf⟩ := cells5 HT;refine hK.out _ _ ?_ (fun hHeld => ?_)
  · go_keep
  clear hK K
  try simp only [Act.put, pu]
  refine aJ (rs := [8]) (by kernel_rfl) (by simp) ?_;refine aI rfl (fun K hK => ?_) AllReadyH.nil;go_simp;go_at_call 82;refine (impl_Clone _ x.now _ (ints_at HX0.out.n (by first | exact hB | exact hB.drew | exact hB.drew.drew | exact hB.drew.drew.drew)) (by have := HSM.out.n; omega)).mono ?_;rintro e w7 ⟨v7, rfl, o7, -, hb7⟩;replace o7 : World.ownsRow w7 _ 3 1 v7 x.now.length (x.now.map intV) := o7;have r7 : ∀ g, v7.ownBlock = some g → sz ≤ g ∧ g < w7.heap.size := fun g hg => by rw [hsz]; exact o7.lt g hg
  replace o7 := own_mono o7 (show w1.heap.size ≤ _ from hB1.size);obtain ⟨B7, d7, rfl⟩ := own_slice o7;have hlew7 : sz ≤ w7.heap.size := by rw [hsz]; exact hb7.size
  replace y0 := (hb7.cell (p := ⟨w.heap.size, 0, none⟩) hzc).trans y0;replace y1 := (hb7.cell (p := ⟨w.heap.size, 1, none⟩) hzc).trans y1;replace y2 := (hb7.cell (p := ⟨w.heap.size, 2, none⟩) hzc).trans y2;replace y3 := (hb7.cell (p := ⟨w.heap.size, 3, none⟩) hzc).trans y3;replace hzc := aF hzc hb7.size;replace hB : Below w.heap.size w w7 := by first | exact bl_trans hB hb7 | exact bl_trans hB.drew hb7 | exact bl_trans hB.drew.drew hb7 | exact bl_trans hB.drew.drew.drew hb7
  replace hB1 : Below w1.heap.size w1 w7 := by first | exact bl_trans hB1 hb7 | exact bl_trans hB1.drew hb7 | exact bl_trans hB1.drew.drew hb7 | exact bl_trans hB1.drew.drew.drew hb7
  replace HT := aA ((hb7.block P3 hPc).trans HT.out);replace hPc := aF hPc hb7.size;replace o5 := own_up o5 hb7;replace o6 := own_up o6 hb7;obtain ⟨sz, hsz, hcur⟩ : ∃ z, z = w7.heap.size ∧ z = w7.heap.size := ⟨_, rfl, rfl⟩
  (try clear q0 q1 q2 q3 q4 qf)
  obtain ⟨⟨q0, q1, q2⟩, ⟨q3, q4⟩, qf⟩ := cells5 HT;refine hK.out _ _ ?_ (fun hHeld => ?_)
  · go_keep
  clear hK K
  try simp only [Act.put, pu]
  refine aJ (rs := [11]) (by kernel_rfl) (by simp) ?_;refine aI rfl (fun K hK => ?_) AllReadyH.nil;go_simp;go_at_call 83;refine (impl_copyLists _ x.slots _ (rows_at HX0.out.s (by first | exact hB | exact hB.drew | exact hB.drew.drew | exact hB.drew.drew.drew)) HSM.out.s (fun s hs => by have := HSM.out.sl s hs; omega)).mono ?_;rintro e w8 ⟨u8, he8, p8, hb8⟩;obtain ⟨B8, d8, e8⟩ := own_sl1 p8.top;rw [e8] at he8;subst he8;have r8 : ∀ i, packK x.slots.length i → ∀ g, (u8 i).ownBlock = some g → sz ≤ g ∧ g < w8.heap.size := fun i hi g hg => by rw [hsz]; exact (OwnK.own p8 i hi).lt g hg
  replace p8 : Pack w8 sz 24 (intD x.slots) x.slots.length x.slots.length u8 := by rw [hsz]; exact p8
  obtain ⟨N8, hN8⟩ : ∃ z, z = sz := ⟨_, rfl⟩
  rw [← hN8] at p8 r8;have hz8w := hb8.size;have hlew8 : sz ≤ w8.heap.size := by rw [hsz]; exact hb8.size
  replace y0 := (hb8.cell (p := ⟨w.heap.size, 0, none⟩) hzc).trans y0;replace y1 := (hb8.cell (p := ⟨w.heap.size, 1, none⟩) hzc).trans y1;replace y2 := (hb8.cell (p := ⟨w.heap.size, 2, none⟩) hzc).trans y2;replace y3 := (hb8.cell (p := ⟨w.heap.size, 3, none⟩) hzc).trans y3;replace hzc := aF hzc hb8.size;replace hB : Below w.heap.size w w8 := by first | exact bl_trans hB hb8 | exact bl_trans hB.drew hb8 | exact bl_trans hB.drew.drew hb8 | exact bl_trans hB.drew.drew.drew hb8
  replace hB1 : Below w1.heap.size w1 w8 := by first | exact bl_trans hB1 hb8 | exact bl_trans hB1.drew hb8 | exact bl_trans hB1.drew.drew hb8 | exact bl_trans hB1.drew.drew.drew hb8
  replace HT := aA ((hb8.block P3 hPc).trans HT.out);replace hPc := aF hPc hb8.size;replace o5 := own_up o5 hb8;replace o6 := own_up o6 hb8;replace o7 := own_up o7 hb8;obtain ⟨sz, hsz, hcur⟩ : ∃ z, z = w8.heap.size ∧ z = w8.heap.size := ⟨_, rfl, rfl⟩
  (try clear q0 q1 q2 q3 q4 qf)
  obtain ⟨⟨q0, q1, q2⟩, ⟨q3, q4⟩, qf⟩ := cells5 HT;refine hK.out _ _ ?_ (fun hHeld => ?_)
  · go_keep
  clear hK K
  try simp only [Act.put, pu]
  refine stk 12 21 ?_;refine aJ (rs := [14]) (by kernel_rfl) (by simp) ?_;refine aI rfl (fun K hK => ?_) AllReadyH.nil;go_simp;obtain ⟨we, hwe, HE, hge⟩ := set5 HT (.slice B5 x.rounds.length d5) (.slice B6 x.before.length d6) (.slice B7 x.now.length d7) (.slice B8 x.slots.length d8) (.slice none 0 0);rw [← hwe];clear hwe;have n5 : (Value.slice B5 x.rounds.length d5).ownBlock ≠ some P3 := fun h => by have := r5 _ h; omega
  have n6 : (Value.slice B6 x.before.length d6).ownBlock ≠ some P3 := fun h => by have := r6 _ h; omega
  have n7 : (Value.slice B7 x.now.length d7).ownBlock ≠ some P3 := fun h => by have := r7 _ h; omega
  have n8 : ∀ i, packK x.slots.length i → (u8 i).ownBlock ≠ some P3 := fun i hi h => by have := r8 i hi _ h; omega
  have s56 : (Value.slice B5 x.rounds.length d5).ownBlock = none ∨ (Value.slice B5 x.rounds.length d5).ownBlock ≠ (Value.slice B6 x.before.length d6).ownBlock := sep_of r5 r6 (by omega);have s57 : (Value.slice B5 x.rounds.length d5).ownBlock = none ∨ (Value.slice B5 x.rounds.length d5).ownBlock ≠ (Value.slice B7 x.now.length d7).ownBlock := sep_of r5 r7 (by omega);have s67 : (Value.slice B6 x.before.length d6).ownBlock = none ∨ (Value.slice B6 x.before.length d6).ownBlock ≠ (Value.slice B7 x.now.length d7).ownBlock := sep_of r6 r7 (by omega);have hw1N : w1.heap.size ≤ N8 := by omega
  have HK3 := aA (AsyK.of4 (own_setP o5 hge n5) (own_setP o6 hge n6) (own_setP o7 hge n7) s56 s57 s67 n5 n6 n7 (OwnK.apart p8 hge n8) hw1N (fun g hg => by have := r5 g hg; omega) (fun g hg => by have := r6 g hg; omega) (fun g hg => by have := r7 g hg; omega) n8 (by rw [e8]; exact HE));have hBE : Below w1.heap.size w1 we := Below.grown hB1 hge (by rw [← hcur]; omega) (fun k hk => by have e := aE (show some P3 = some k from hk); omega);have yE : ∀ i, we.cell? ⟨w.heap.size, i, none⟩ = w8.cell? ⟨w.heap.size, i, none⟩ := fun i => World.cell?_of_block (hge.block w.heap.size hzc (fun h => by have e := aE h; omega))
  replace y0 := (yE 0).trans y0;replace y1 := (yE 1).trans y1;replace y2 := (yE 2).trans y2;replace y3 := (yE 3).trans y3;refine hK.out _ _ ?_ (fun hHeld => ?_)
  · go_keep
  clear hK K
  try simp only [Act.put, pu]
  refine aK (by kernel_rfl) ?_ _;exact FIN.out _ P3 _ _ _ _ (by first | exact hBE | exact hBE.drew | exact hBE.drew.drew | exact hBE.drew.drew.drew) (by omega) HK3.out
end Go.Proofs.YtjklbjmdgiddcaaGreat
