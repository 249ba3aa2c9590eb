/-
  Small lemmas and contracts that the texts of this claim share. No condition.
-/
import Derived.Test.YtdghoienjegffaaGreatRNeMake
namespace Go.Proofs.YtdghoienjegffaaGreat
open Go.RowKit
set_option linter.all false
structure LikeN (n m : Net) : Prop where
  len : m.es.length = n.es.length
  deg : ∀ u, degA m u = degA n u
  ok : EndsOk m
  ids : m.ids = n.ids
  ins : m.ins = n.ins
theorem LikeN.refl {n : Net} (h : EndsOk n) : LikeN n n := ⟨rfl, fun _ => rfl, h, rfl, rfl⟩
theorem LikeN.set {n m : Net} (h : LikeN n m) {u p a b : Nat} (hu : u < n.es.length) (ha : a < n.es.length) (hb : b < degA n a) : LikeN n (setN m u p ((a : Int), (b : Int))) := by
  have hu' : u < m.es.length := by rw [h.len]; exact hu
  exact ⟨(setN_len _).trans h.len, fun x => (degA_set hu' _ x).trans (h.deg x), ok_set h.ok hu' (by rw [h.len]; exact ha) (by rw [h.deg]; exact hb), h.ids, h.ins⟩
theorem LikeN.made {n m : Net} {N d : Nat} (h : LikeN n m) (hn : MadeN n N d) : MadeN m N d :=
  ⟨h.len.trans hn.len, by rw [h.ins]; exact hn.ins, by rw [h.ids]; exact hn.ids, by rw [h.ins]; exact hn.in9, h.ok, fun u => by rw [h.deg]; exact hn.deg u⟩
def PermN (xs : List Int) (d : Nat) : Prop := xs.length = d ∧ ∀ (j : Nat) (x : Int), xs[j]? = some x → ∃ p : Nat, x = (p : Int) ∧ p < d
theorem NetB.setEnd {w : World} {base P : Nat} {val : NKey → Value} {n : Net} (h : NetB w base val n P) {k : Nat} (hk : k < n.es.length) {g cap len : Nat} (hl : degA n k = len) (hv : val (.r k) = .slice (some ⟨g, 0, none⟩) len cap) {p : Nat} (hp : p < len) (x y : Int) :
    NetB ((w.setCell ⟨g, p * 2, none⟩ (.int .i64 x)).setCell ⟨g, p * 2 + 1, none⟩ (.int .i64 y)) base val (setN n k p (x, y)) P := by
  subst hl;have h1 := h.k.setEnd (rowAt_lt hk) hv hp x y;have hgP : P ≠ g := fun e => h.ne (.r k) hk (by rw [hv, e]; rfl)
  exact NetB.of h1 ((Below.heap_setCell _ _ _ _ hgP).trans ((Below.heap_setCell _ _ _ _ hgP).trans h.box))
theorem NetB.endCell {w : World} {base P : Nat} {val : NKey → Value} {n : Net} (h : NetB w base val n P) {k : Nat} (hk : k < n.es.length) {g cap len : Nat} (hl : degA n k = len) (hv : val (.r k) = .slice (some ⟨g, 0, none⟩) len cap) {p : Nat} (hp : p < len) :
    (∃ x, w.cell? ⟨g, p * 2, none⟩ = some x) ∧ (∃ x, w.cell? ⟨g, p * 2 + 1, none⟩ = some x) ∧ ∀ j, w.frozen? ⟨g, j, none⟩ = false := by
  subst hl;have h1 := h.k.rowOwn (rowAt_lt hk);rw [hv] at h1;have hc := World.ownsRow.cellAt h1;obtain ⟨e, he⟩ : ∃ e, (rowAt n k)[p]? = some e := ⟨_, List.getElem?_eq_getElem hp⟩
  obtain ⟨k1, k2⟩ := endCells_at he;have hp' : p < (rowAt n k).length := hp;exact ⟨⟨_, (hc (p * 2) (by omega)).trans k1⟩, ⟨_, (hc (p * 2 + 1) (by omega)).trans k2⟩, fun j => own_thaw h1 j⟩
def NpRel (n : Net) (base P : Nat) (val : NKey → Value) (d : Nat) (w : World) (i : Value) (wr : World) : Prop := Below base w wr ∧ ∃ (k : Nat) (m : Net), k ≤ d ∧ i = .int .i64 k ∧ LikeN n m ∧ NetB wr base val m P
set_option maxRecDepth 100000 in
set_option maxHeartbeats 4000000 in
theorem spec_nePorts (ne ni nn vp : Value) (n : Net) (v : Nat) (xs : List Int) (w : World) (hn : NetR w w.heap.size ne ni nn n) (hs : SmallN n) (hok : EndsOk n) (hv : v < n.es.length) (hx : IntsR w w.heap.size vp xs) (hp : PermN xs (degA n v)) :
  Calls Tryz.prog 159 #[.agg #[ne, ni, nn], .int .i64 (v : Int), vp] w fun e w' => ∃ m val, e = .returned (.agg #[val .e, val .i, val .n]) ∧ LikeN n m ∧ NetK w' w.heap.size val m ∧ Below w.heap.size w w' := by
 have HN := Lib.hid hn;have HSM := Lib.hid hs;have HOK := Lib.hid hok;have h1000 := hs.e;have hv6 := hs.d _ (List.mem_of_getElem? (rowAt_lt hv));have hne := hn.e;obtain ⟨A4, c4, rfl, hc4, hM4, hr4⟩ := hne;obtain ⟨-, ⟨A5, m5, c5, rfl⟩, A6, m6, c6, rfl⟩ := hn.slices;obtain ⟨ad4, rfl, ha4, hrow4⟩ := hr4 (by omega);obtain ⟨u4, hu4, hz4'⟩ := hrow4 v _ (rowAt_lt hv);obtain ⟨B4, d4, rfl, hd4, hD4, hi4, hcells4⟩ := hz4';unfold maxLen at hM4 hD4;obtain ⟨Ap, cp, rfl, hcp, hMp, hrp⟩ := hx.open_;obtain ⟨iv, hiv⟩ : ∃ z, z = (rowAt n v).length := ⟨_, rfl⟩
 have HIV := Lib.hid hiv;rw [show degA n v = iv from hiv.symm] at hp;rw [← hiv] at hv6 hcells4;have HC4 := Lib.hid hcells4;have HU4 := Lib.hid hu4;have HPE := Lib.hid hp;have HRP := Lib.hid hrp;rw [hp.1];clear hn hs hok hrow4 hcells4 hx hp hrp hi4 hiv;obtain ⟨w0, hw0, hb0, HD, hz0, HS0⟩ := box3 w (.slice (some ad4) n.es.length c4) (.slice A5 m5 c5) (.slice A6 m6 c6) 27;obtain ⟨w1, hw1, hb1, HQ, hz1, HS1⟩ := box3 w0 (.slice none 0 0) (.slice none 0 0) (.slice none 0 0) 27;have HW1 := Lib.hid (show w1 = (w.alloc (.cells #[.slice (some ad4) n.es.length c4, .slice A5 m5 c5, .slice A6 m6 c6] 27)).alloc (.cells #[.slice none 0 0, .slice none 0 0, .slice none 0 0] 27) by rw [hw1, hw0]);obtain ⟨P1, hPP1⟩ : ∃ z, z = w0.heap.size := ⟨_, rfl⟩
 have HP1 := Lib.hid (show w.heap.size + 1 = P1 by rw [hPP1, HS0.out]);rw [← hPP1] at HQ hz1;have HD1 := bk HD hb1;have hB := bl_trans hb0 hb1;have hzb1 : w.heap.size < w1.heap.size := by have := hb1.size; omega
 have hP1l : w.heap.size < P1 := by rw [← HP1.out]; omega
 clear hw0 hw1 hPP1 HS0 HS1;obtain ⟨q0, q1, q2, qf⟩ := cells3 HD1;have eq0 := q0;have eq1 := q1;have eq2 := q2;rw [HW1.out] at eq0 eq1 eq2;go_enter Tryz.func159, Tryz.ntmps159;go_wp2_with fail;rw [HP1.out, ← HW1.out];clear eq0 eq1 eq2 q0 q1 q2 qf;refine (spec_neOwn _ _ _ n w1 (HN.out.up hB) HSM.out).mono ?_;rintro e w3 ⟨val, rfl, hk3, hb3⟩;obtain ⟨base, hbase⟩ : ∃ z, z = w1.heap.size := ⟨_, rfl⟩
 rw [← hbase] at hk3;have hbl : base ≤ w3.heap.size ∧ w1.heap.size ≤ base ∧ base ≤ w1.heap.size := by have := hb3.size; omega
 clear hbase;obtain ⟨ge, ce, eke, -, -, hge1, hge2⟩ := hk3.outer (by omega);obtain ⟨C1, k1, ek1⟩ := own_slN (hk3.own .i trivial);obtain ⟨C2, k2, ek2⟩ := own_slN (hk3.own .n trivial);have HK3 := Lib.hid hk3;have HVE := Lib.hid eke;have HVI := Lib.hid (And.intro ek1 ek2);rw [eke, ek1, ek2];generalize (rowN n val .i).len = n1' at HVI ⊢;generalize (rowN n val .n).len = n2 at HVI ⊢;clear hk3 eke ek1 ek2;obtain ⟨w4, hw4, hb4, HB, hz4, HS4⟩ := box3 w3 (.slice (some ⟨ge, 0, none⟩) n.es.length ce) (.slice C1 n1' k1) (.slice C2 n2 k2) 27;obtain ⟨P7, hP7⟩ : ∃ z, z = w3.heap.size := ⟨_, rfl⟩
 have HP7 := Lib.hid hP7;have hP7l : w3.heap.size ≤ P7 := by omega
 rw [← hP7] at HB hz4;have HW4 := Lib.hid hw4;have H4 := Lib.hid (show NetB w4 base val n P7 from NetB.of (HK3.out.up hb4) (by rw [HVE.out, HVI.out.1, HVI.out.2]; exact HB.out));have hb34 := bl_trans hb3 hb4;have hB4 := bl_trans hB hb34;have hz34 := hb4.size;have HD4 := bk HD1 hb34;have HQ4 := bk HQ hb34;obtain ⟨q0, q1, q2, qf⟩ := cells3 HD4;have c4v := (hB4.cell (p := ad4.add v) (by rw [block_add]; exact ha4)).trans HU4.out;have eq0 := q0;have ec4 := c4v;rw [hw4] at eq0 ec4;have hvi : (v : Int) < (n.es.length : Int) := by omega
 rw [← HIV.out] at c4v ec4;clear hw4 hP7;go_wp2_with fail;rw [← HW4.out, ← HP7.out];clear eq0 ec4 q0 q1 q2 qf c4v;go_loopw [18] (fun i wr => NpRel n base P7 val iv w4 i wr) (fun i _ => iv - (intOf i).toNat)
 case atStart => exact ⟨Below.refl _ _, 0, n, Nat.zero_le _, rfl, LikeN.refl HOK.out, H4.out⟩
 case round =>
  obtain ⟨hbr, k, m, hki, rfl, hlk, hnb⟩ := hrel;have HL := Lib.hid hlk;have HB' := Lib.hid hnb;have hzr := hbr.size;have hBr : Below w.heap.size w wr := bl_trans hB (hb3.trans (((hb4.mono hbl.1).trans hbr).mono hbl.2.1));clear hlk hnb;by_cases hlt : k < iv
  ·
   obtain ⟨eb, eo, rfl, heb, hec⟩ := HC4.out (by omega);obtain ⟨⟨ea, ep⟩, hek⟩ : ∃ y, (rowAt n v)[k]? = some y := ⟨_, List.getElem?_eq_getElem (by rw [← HIV.out]; exact hlt)⟩
   obtain ⟨a, b, hab, haN, hbd⟩ := HOK.out v _ (List.mem_of_getElem? hek);obtain ⟨rfl, rfl⟩ : ea = (a : Int) ∧ ep = (b : Int) := by simpa using hab
   obtain ⟨hc0, hc1⟩ := hec k _ hek;replace hc0 := (hBr.cell (p := ⟨eb, eo + k * 2, none⟩) (by exact heb)).trans hc0;replace hc1 := (hBr.cell (p := ⟨eb, eo + k * 2 + 1, none⟩) (by exact heb)).trans hc1;have hbi : b < degA n a := hbd;obtain ⟨adp, rfl, hap, hpc⟩ := HRP.out (by have := HPE.out.1; omega);have hperm : ∀ j, j < iv → ∃ p : Nat, p < iv ∧ ∀ W, Below w.heap.size w W → W.cell? (adp.add j) = some (.int .i64 (p : Int)) := fun j hj => by
    obtain ⟨x, hx⟩ : ∃ x, xs[j]? = some x := ⟨_, List.getElem?_eq_getElem (by have := HPE.out.1; omega)⟩
    obtain ⟨p, rfl, h2⟩ := HPE.out.2 j x hx;exact ⟨p, h2, fun W hW => (hW.cell (p := adp.add j) (by rw [block_add]; exact hap)).trans (hpc j _ hx)⟩
   obtain ⟨pk, hpk, hpkc⟩ := hperm k hlt;have HPKC := Lib.hid hpkc;have HPM := Lib.hid hperm;obtain ⟨wa, hwa, hba, HE, hza, HSA⟩ := box2 wr (.int .i64 (a : Int)) (.int .i64 (b : Int)) 74;obtain ⟨P9, hP9⟩ : ∃ z, z = wr.heap.size := ⟨_, rfl⟩
   have HP9 := Lib.hid hP9;have hP9l : wr.heap.size ≤ P9 := by omega
   rw [← hP9] at HE hza;have HWA := Lib.hid hwa;have hP7l' := HB'.out.lt;obtain ⟨z0, z1, zf⟩ := cells2 HE;have ez0 := z0;have ez1 := z1;rw [hwa, hP9] at ez0 ez1;have hBa := bl_trans hBr hba;have pkc := hpkc wa hBa;rw [hwa] at pkc;have hkv : (k : Int) < (iv : Int) := by omega
   clear hwa hP9 hpkc hperm hpc;rcases Nat.decEq a v with hav | hav
   case' isTrue =>
    obtain rfl := hav.symm;have hbv : b < iv := by have h1 := hbi; have h2 := HIV.out; unfold degA at h1; omega
    obtain ⟨pb, hpb, hpbc⟩ := HPM.out b hbv;have pbc := hpbc wa hBa;rw [HWA.out] at pbc;have hbv' : (b : Int) < (iv : Int) := by omega
    obtain ⟨wx, hwx, hbx, hex, hzx, -⟩ := box2 wr (.int .i64 (v : Int)) (.int .i64 (pb : Int)) 74;rw [← HP9.out] at hex hzx;have HWX := Lib.hid hwx;have hb1 : pb < degA n v := by have h2 := HIV.out; unfold degA; omega
    have hBX : Below base w4 wx := hbr.trans (hbx.mono (by omega));have HMX := Lib.hid (HB'.out.up hbx);have HLX := HL;obtain ⟨m1, hm1⟩ : ∃ z, z = m := ⟨_, rfl⟩
    rw [← hm1] at HMX HLX;obtain ⟨a1, ha1⟩ : ∃ z, z = v := ⟨_, rfl⟩
    have HEX := Lib.hid (show wx.heap[P9]? = some (.cells #[.int .i64 (a1 : Int), .int .i64 (pb : Int)] 74 (0, 0)) by rw [ha1]; exact hex.out);have haN1 : a1 < n.es.length := by omega
    rw [← ha1] at hb1;clear hwx hpbc hbd hbi hm1 ha1 hex;go_wp2_with fail;rw [← HP9.out, ← HWX.out];clear pbc hbv hbv' hpb
   case' isFalse =>
    have kq : ((a : Int) == (v : Int)) = false := by simpa using (show ¬ (a : Int) = (v : Int) by omega)
    go_wp2_with fail;rw [← HWA.out, ← HP9.out];clear ez0 ez1 pkc;have HBA := Lib.hid (HB'.out.up hba);have hlen := HL.out.len;obtain ⟨ga, ca, hrow, -, -, -, -⟩ := HBA.out.k.rowSlice (rowAt_lt (k := a) (by rw [hlen]; exact haN)) (show 0 < degA m a by rw [HL.out.deg]; omega);rw [show (rowAt m a).length = degA n a from HL.out.deg a] at hrow;have HROW := Lib.hid hrow;have hve : val .e = .slice (some ⟨ge, 0, none⟩) m.es.length ce := by rw [hlen]; exact HVE.out
    have y0 : wa.cell? ⟨P7, 0, none⟩ = some (.slice (some ⟨ge, 0, none⟩) n.es.length ce) := by rw [cell_of_row _ _ 0 _ _ (0, 0) HBA.out.box, ← HVE.out]; rfl
    have yr : wa.cell? ⟨ge, a, none⟩ = some (.slice (some ⟨ga, 0, none⟩) (degA n a) ca) := by rw [← hrow]; exact HBA.out.k.outerCell hve (by rw [hlen]; exact haN)
    clear hrow hve;obtain ⟨⟨x0, hx0⟩, ⟨x1, hx1⟩, hfz⟩ := HBA.out.endCell (k := a) (by rw [hlen]; exact haN) (HL.out.deg a) HROW.out hbi;have hai : (a : Int) < (n.es.length : Int) := by omega
    have hbi' : (b : Int) < ((degA n a : Nat) : Int) := by omega
    have pkc := HPKC.out wa hBa;have hga : P9 ≠ ga := fun e => by have := ((HB'.out.k.own (.r a) (by show a < m.es.length; rw [hlen]; exact haN)).lt ga (by rw [HROW.out]; rfl)).2;omega
    have HFZ := Lib.hid hfz;clear hlen hfz;refine till_region (S := fun w' => w'.cell? ⟨P7, 0, none⟩ = some (.slice (some ⟨ge, 0, none⟩) n.es.length ce) ∧ w'.cell? ⟨P9, 0, none⟩ = some (.int .i64 (a : Int)) ∧ w'.cell? ⟨P9, 1, none⟩ = some (.int .i64 (b : Int)) ∧ w'.cell? ⟨ge, a, none⟩ = some (.slice (some ⟨ga, 0, none⟩) (degA n a) ca) ∧ w'.cell? (adp.add k) = some (.int .i64 (pk : Int))) (st := 15) (by kernel_rfl) ⟨y0, z0, z1, yr, pkc⟩ (fun hHeld => ?_);refine utf 0 33 ?_;refine utk 1 34 ?_;refine utf 2 35 ?_;refine utk 3 36 ?_;refine utf 4 37 ?_;refine utk 5 38 ?_;refine utf 6 39 ?_;refine utk 7 40 ?_;refine utf 8 41 ?_;refine utf 9 42 ?_;refine utf 10 43 ?_;refine utf 11 44 ?_;refine utk 12 45 ?_;refine utf 13 46 ?_;refine utf 14 47 ?_;refine ur 15 rfl (by kernel_rfl) (fun K hK => ?_);have hfz := HFZ.out;have f0 : wa.drew.frozen? ⟨ga, b * 2, none⟩ = false := hfz _;rw [if_pos (by rfl)];go_simp;obtain ⟨wx, hwx⟩ : ∃ z, z = ((wa.setCell ⟨ga, b * 2, none⟩ (.int .i64 (v : Int))).setCell ⟨ga, b * 2 + 1, none⟩ (.int .i64 (pk : Int))).drew := ⟨_, rfl⟩
    rw [← hwx];obtain ⟨m1, hm1⟩ : ∃ z, z = setN m a b ((v : Int), (pk : Int)) := ⟨_, rfl⟩
    have HMX := Lib.hid (show NetB wx base val m1 P7 by
     have h1 := HBA.out.setEnd (k := a) (by rw [HL.out.len]; exact haN) (HL.out.deg a) HROW.out hbi (v : Int) (pk : Int);rw [hwx, hm1]
     exact ⟨OwnN.keep h1.k ⟨rfl, rfl, rfl, Nat.le_refl _, fun _ _ _ => rfl⟩, h1.ne, h1.box⟩)
    have HLX := Lib.hid (show LikeN n m1 by rw [hm1]; exact HL.out.set haN hv (by have h2 := HIV.out; unfold degA; omega));have HE7 := Lib.hid (show wx.heap[P9]? = some (.cells #[.int .i64 (a : Int), .int .i64 (b : Int)] 74 (0, 0)) by rw [hwx]; exact ((Below.heap_setCell _ _ _ _ hga).trans (Below.heap_setCell _ _ _ _ hga)).trans HE.out);have hBX : Below base w4 wx := by rw [hwx];have hgb : base ≤ ga := (HB'.out.k.own (.r a) (by show a < m.es.length; rw [HL.out.len]; exact haN) |>.lt ga (by rw [HROW.out]; rfl)).1;exact (((hbr.trans (hba.mono (by omega))).setCell (p := ⟨ga, b * 2, none⟩) hgb _).setCell (p := ⟨ga, b * 2 + 1, none⟩) hgb _).drew
    clear hwx hm1 y0 z0 z1 zf yr pkc hx0 hx1 hga HFZ hfz f0;refine hK.out (fun h' => till_no h' (by kernel_rfl)) ?_;clear hK K
    try simp only [Act.put, pu]
    refine wpTill_done (by kernel_rfl) ?_ _;obtain ⟨pb, hpbb⟩ : ∃ z, z = b := ⟨_, rfl⟩
    obtain ⟨a1, ha1⟩ : ∃ z, z = a := ⟨_, rfl⟩
    have hb1 : pb < degA n a1 := by rw [hpbb, ha1]; exact hbi
    have haN1 : a1 < n.es.length := by omega
    have HEX := Lib.hid (show wx.heap[P9]? = some (.cells #[.int .i64 (a1 : Int), .int .i64 (pb : Int)] 74 (0, 0)) by rw [hpbb, ha1]; exact HE7.out);clear hpbb ha1 hbd hbi kq;go_wp2_with fail
   all_goals
    have hlen := HLX.out.len;have hdg : degA m1 v = iv := (HLX.out.deg v).trans HIV.out.symm;obtain ⟨gv, cv, hrow, -, -, -, -⟩ := HMX.out.k.rowSlice (rowAt_lt (k := v) (by rw [hlen]; exact hv)) (show 0 < degA m1 v by rw [hdg]; omega);rw [show (rowAt m1 v).length = iv from hdg] at hrow;have HROW := Lib.hid hrow;have hve : val .e = .slice (some ⟨ge, 0, none⟩) m1.es.length ce := by rw [hlen]; exact HVE.out
    have y0 : wx.cell? ⟨P7, 0, none⟩ = some (.slice (some ⟨ge, 0, none⟩) n.es.length ce) := by rw [cell_of_row _ _ 0 _ _ (0, 0) HMX.out.box, ← HVE.out]; rfl
    have yr : wx.cell? ⟨ge, v, none⟩ = some (.slice (some ⟨gv, 0, none⟩) iv cv) := by rw [← hrow]; exact HMX.out.k.outerCell hve (by rw [hlen]; exact hv)
    obtain ⟨⟨x0, hx0⟩, ⟨x1, hx1⟩, hfz⟩ := HMX.out.endCell (k := v) (by rw [hlen]; exact hv) hdg hrow hpk;have hBW := bl_trans hB (hb3.trans (((hb4.mono hbl.1).trans hBX).mono hbl.2.1));have pkc := HPKC.out wx hBW;have hpki : (pk : Int) < (iv : Int) := by omega
    obtain ⟨z0, z1, zf⟩ := cells2 HEX;have HFZ := Lib.hid hfz;have HDG := Lib.hid hdg;clear hrow hve hlen hfz hdg;refine till_region (S := fun w' => w'.cell? ⟨P7, 0, none⟩ = some (.slice (some ⟨ge, 0, none⟩) n.es.length ce) ∧ w'.cell? ⟨ge, v, none⟩ = some (.slice (some ⟨gv, 0, none⟩) iv cv) ∧ w'.cell? (adp.add k) = some (.int .i64 (pk : Int)) ∧ w'.cell? ⟨P9, 0, none⟩ = some (.int .i64 (a1 : Int)) ∧ w'.cell? ⟨P9, 1, none⟩ = some (.int .i64 (pb : Int))) (st := 11) (by kernel_rfl) ⟨y0, yr, pkc, z0, z1⟩ (fun hHeld => ?_);refine utf 0 48 ?_;refine utk 1 49 ?_;refine utf 2 50 ?_;refine utf 3 51 ?_;refine utk 4 52 ?_;refine utf 5 53 ?_;refine utf 6 54 ?_;refine utf 7 55 ?_;refine utk 8 56 ?_;refine utk 9 57 ?_;refine utf 10 58 ?_;refine ur 11 rfl (by kernel_rfl) (fun K hK => ?_);have hfz := HFZ.out;have f0 : wx.drew.frozen? ⟨gv, pk * 2, none⟩ = false := hfz _;rw [if_pos (by rfl)];go_simp;obtain ⟨w8, hw8⟩ : ∃ z, z = ((wx.setCell ⟨gv, pk * 2, none⟩ (.int .i64 (a1 : Int))).setCell ⟨gv, pk * 2 + 1, none⟩ (.int .i64 (pb : Int))).drew := ⟨_, rfl⟩
    rw [← hw8]
    have HM8 := Lib.hid (show NetB w8 base val (setN m1 v pk ((a1 : Int), (pb : Int))) P7 by
     have h1 := HMX.out.setEnd (k := v) (by rw [HLX.out.len]; exact hv) HDG.out HROW.out hpk (a1 : Int) (pb : Int);rw [hw8]
     exact ⟨OwnN.keep h1.k ⟨rfl, rfl, rfl, Nat.le_refl _, fun _ _ _ => rfl⟩, h1.ne, h1.box⟩)
    have HL8 := Lib.hid (HLX.out.set (p := pk) hv haN1 hb1)
    have HB8 := Lib.hid (show Below base w4 w8 by
     rw [hw8];have hgb : base ≤ gv := (HMX.out.k.own (.r v) (by show v < m1.es.length; rw [HLX.out.len]; exact hv) |>.lt gv (by rw [HROW.out]; rfl)).1
     exact ((hBX.setCell (p := ⟨gv, pk * 2, none⟩) hgb _).setCell (p := ⟨gv, pk * 2 + 1, none⟩) hgb _).drew)
    clear hw8 y0 yr pkc z0 z1 zf hx0 hx1 HFZ hfz f0;refine hK.out (fun h' => till_no h' (by kernel_rfl)) ?_;clear hK K
    try simp only [Act.put, pu]
    refine wpTill_done (by kernel_rfl) ?_ _;go_wp2_with fail;go_roundw
    case rel => exact ⟨HB8.out, k + 1, _, by omega, by go_num, HL8.out, HM8.out⟩
    case measure => simp [intOf]; omega
  ·
   obtain rfl : k = iv := by omega
   have HQr := Lib.hid ((hbr.block P1 (by omega)).trans HQ4.out)
   have HBX := Lib.hid (show wr.heap[P7]? = some (.cells #[.slice (some ⟨ge, 0, none⟩) n.es.length ce, .slice C1 n1' k1, .slice C2 n2 k2] 27 (0, 0)) by
    have h1 := HB'.out.box;rw [HVE.out, HVI.out.1, HVI.out.2] at h1
    exact h1)
   have hkv : ((k : Int) < (k : Int)) = False := eq_false (by omega);obtain ⟨p0, p1, p2, pf⟩ := cells3 HQr;obtain ⟨b0, b1, b2, bf⟩ := cells3 HBX;obtain ⟨we, hwe, HE, hge⟩ := set3 HQr (.slice (some ⟨ge, 0, none⟩) n.es.length ce) (.slice C1 n1' k1) (.slice C2 n2 k2);have HWE := Lib.hid hwe;clear hwe;go_wp2_with fail;rw [← HWE.out];obtain ⟨z0, z1, z2, -⟩ := cells3 HE;have hBE : Below w.heap.size w we := Below.grown hBr hge (by have := hBr.size; omega) (fun k hk => by have e : P1 = k := Option.some.inj hk; omega);have hKE : NetK we w.heap.size val m := OwnN.mono (NetK.past HB'.out.k HQr.out no_tyN_net hge) (by omega);exact bodyPost_ret (v := .agg #[.slice (some ⟨ge, 0, none⟩) n.es.length ce, .slice C1 n1' k1, .slice C2 n2 k2]) (by simp [results, Tryz.results159, go_sem, z0, z1, z2]) rfl ⟨m, val, by rw [HVE.out, HVI.out.1, HVI.out.2], HL.out, hKE, hBE⟩
end Go.Proofs.YtdghoienjegffaaGreat
namespace Go.Proofs.YtdghoienjegffaaGreat
set_option linter.all false
def lcg (s : Nat) : Nat := (s * 6364136223846793005 + 1442695040888963407) % 18446744073709551616
def itN (f : Nat → Nat) : Nat → Nat → Nat
  | 0, s => s
  | k + 1, s => itN f k (f s)
theorem itN_zero (f : Nat → Nat) (s : Nat) : itN f 0 s = s := rfl
theorem itN_succ (f : Nat → Nat) (k s : Nat) : itN f (k + 1) s = itN f k (f s) := rfl
theorem itN_add (f : Nat → Nat) (j k s : Nat) : itN f (j + k) s = itN f k (itN f j s) := by
  induction j generalizing s with
  | zero => rw [Nat.zero_add, itN_zero]
  | succ j ih => rw [Nat.succ_add, itN_succ, itN_succ, ih]
def lcgN (k s : Nat) : Nat := itN lcg k s
theorem lcgN_zero (s : Nat) : lcgN 0 s = s := itN_zero lcg s
theorem lcgN_succ (k s : Nat) : lcgN (k + 1) s = lcgN k (lcg s) := itN_succ lcg k s
theorem lcgN_add (j k s : Nat) : lcgN (j + k) s = lcgN k (lcgN j s) := itN_add lcg j k s
def lcgP : Nat → Nat × Nat
  | 0 => (6364136223846793005 % 281474976710656, 1442695040888963407 % 281474976710656)
  | k + 1 => ((lcgP k).1 * (lcgP k).1 % 281474976710656, ((lcgP k).1 + 1) * (lcgP k).2 % 281474976710656)
theorem aff_mod {M x y : Nat} (A C : Nat) (h : x % M = y % M) : (x * A + C) % M = (y * A + C) % M := by rw [Nat.add_mod, Nat.mul_mod, h, ← Nat.mul_mod, ← Nat.add_mod]
theorem aff_mod2 (M x A C : Nat) : (x * (A % M) + C % M) % M = (x * A + C) % M := by rw [Nat.add_mod, Nat.mul_mod, Nat.mod_mod, Nat.mod_mod, ← Nat.mul_mod, ← Nat.add_mod]
theorem lcgP_spec : ∀ (k s : Nat), lcgN (2 ^ k) s % 281474976710656 = (s * (lcgP k).1 + (lcgP k).2) % 281474976710656
  | 0, s => by rw [show 2 ^ 0 = 0 + 1 from rfl, lcgN_succ, lcgN_zero, lcgP];unfold lcg;rw [Nat.mod_mod_of_dvd _ (show 281474976710656 ∣ 18446744073709551616 from ⟨65536, rfl⟩), aff_mod2]
  | k + 1, s => by rw [Nat.pow_succ, Nat.mul_two, lcgN_add, lcgP_spec k, aff_mod _ _ (lcgP_spec k s), lcgP];dsimp only;rw [aff_mod2];congr 1;rw [Nat.add_mul, Nat.mul_assoc, Nat.add_mul (lcgP k).1 1, Nat.one_mul, Nat.mul_comm (lcgP k).2, Nat.add_assoc]
theorem lcgP_step {k a c : Nat} (h : lcgP k = (a, c)) : lcgP (k + 1) = (a * a % 281474976710656, (a + 1) * c % 281474976710656) := by rw [lcgP, h]
theorem lcgP_40 : lcgP 40 = (1 + 4398046511104 * 25, 1099511627776 * 5) := by
 have h : lcgP 0 = (268475395571501, 135785246851407) := by decide +kernel
 replace h : lcgP 1 = (167821578317289, 261759008664882) := (lcgP_step h).trans (by decide +kernel);replace h : lcgP 2 = (64749088980497, 29590162545076) := (lcgP_step h).trans (by decide +kernel);replace h : lcgP 3 = (240102500547873, 131452784502440) := (lcgP_step h).trans (by decide +kernel);replace h : lcgP 4 = (50425220480577, 195974542109264) := (lcgP_step h).trans (by decide +kernel);replace h : lcgP 5 = (28054275001473, 53465906759840) := (lcgP_step h).trans (by decide +kernel);replace h : lcgP 6 = (259207438620929, 88701075874112) := (lcgP_step h).trans (by decide +kernel);replace h : lcgP 7 = (228747937296897, 90869567586944) := (lcgP_step h).trans (by decide +kernel);replace h : lcgP 8 = (156190090421249, 79740997534976) := (lcgP_step h).trans (by decide +kernel);replace h : lcgP 9 = (223544135305217, 184979017304576) := (lcgP_step h).trans (by decide +kernel);replace h : lcgP 10 = (37082039685121, 209632069686272) := (lcgP_step h).trans (by decide +kernel);replace h : lcgP 11 = (28740253589505, 201727522908160) := (lcgP_step h).trans (by decide +kernel);replace h : lcgP 12 = (106957523795969, 214249874935808) := (lcgP_step h).trans (by decide +kernel);replace h : lcgP 13 = (9401858293761, 52659845373952) := (lcgP_step h).trans (by decide +kernel);replace h : lcgP 14 = (203505563926529, 242431421399040) := (lcgP_step h).trans (by decide +kernel);replace h : lcgP 15 = (160656098721793, 83331719004160) := (lcgP_step h).trans (by decide +kernel);replace h : lcgP 16 = (180317011050497, 249388803096576) := (lcgP_step h).trans (by decide +kernel);replace h : lcgP 17 = (78128253239297, 266729113124864) := (lcgP_step h).trans (by decide +kernel);replace h : lcgP 18 = (152133337874433, 168214207397888) := (lcgP_step h).trans (by decide +kernel);replace h : lcgP 19 = (6299024621569, 1352246231040) := (lcgP_step h).trans (by decide +kernel);replace h : lcgP 20 = (228102328287233, 69774701756416) := (lcgP_step h).trans (by decide +kernel);replace h : lcgP 21 = (192321865908225, 126355263979520) := (lcgP_step h).trans (by decide +kernel);replace h : lcgP 22 = (173537499283457, 199933969825792) := (lcgP_step h).trans (by decide +kernel);replace h : lcgP 23 = (65600021856257, 188761707118592) := (lcgP_step h).trans (by decide +kernel);replace h : lcgP 24 = (131200043712513, 96048437526528) := (lcgP_step h).trans (by decide +kernel);replace h : lcgP 25 = (262400087425025, 192096875053056) := (lcgP_step h).trans (by decide +kernel);replace h : lcgP 26 = (243325198139393, 102718773395456) := (lcgP_step h).trans (by decide +kernel);replace h : lcgP 27 = (205175419568129, 205437546790912) := (lcgP_step h).trans (by decide +kernel);replace h : lcgP 28 = (128875862425601, 129400116871168) := (lcgP_step h).trans (by decide +kernel);replace h : lcgP 29 = (257751724851201, 258800233742336) := (lcgP_step h).trans (by decide +kernel);replace h : lcgP 30 = (234028472991745, 236125490774016) := (lcgP_step h).trans (by decide +kernel);replace h : lcgP 31 = (186581969272833, 190776004837376) := (lcgP_step h).trans (by decide +kernel);replace h : lcgP 32 = (91688961835009, 100077032964096) := (lcgP_step h).trans (by decide +kernel);replace h : lcgP 33 = (183377923670017, 200154065928192) := (lcgP_step h).trans (by decide +kernel);replace h : lcgP 34 = (85280870629377, 118833155145728) := (lcgP_step h).trans (by decide +kernel);replace h : lcgP 35 = (170561741258753, 237666310291456) := (lcgP_step h).trans (by decide +kernel);replace h : lcgP 36 = (59648505806849, 193857643872256) := (lcgP_step h).trans (by decide +kernel);replace h : lcgP 37 = (119297011613697, 106240311033856) := (lcgP_step h).trans (by decide +kernel);replace h : lcgP 38 = (238594023227393, 212480622067712) := (lcgP_step h).trans (by decide +kernel);replace h : lcgP 39 = (195713069744129, 143486267424768) := (lcgP_step h).trans (by decide +kernel);replace h : lcgP 40 = (109951162777601, 5497558138880) := (lcgP_step h).trans (by decide +kernel);exact h
def hi8 (s : Nat) : Nat := s / 1099511627776 % 256
def jump (s : Nat) : Nat := lcgN (2 ^ 40) s
def shiftV (r : Nat) : Nat := (4 * 25 * r + 5) % 256
theorem jump_spec (s : Nat) : jump s % 1099511627776 = s % 1099511627776 ∧ hi8 (jump s) = (hi8 s + shiftV (s % 1099511627776)) % 256 := by
  have h := lcgP_spec 40 s;rw [lcgP_40] at h;dsimp only at h;unfold jump hi8 shiftV;generalize lcgN (2 ^ 40) s = z at h ⊢;have e : s * (1 + 4398046511104 * 25) + 1099511627776 * 5 = s % 1099511627776 + 1099511627776 * (s / 1099511627776 + 100 * (s % 1099511627776) + 5 + 109951162777600 * (s / 1099511627776)) := by omega
  rw [e] at h;have hb : s % 1099511627776 < 1099511627776 := Nat.mod_lt _ (by decide);clear e;generalize s % 1099511627776 = b at h hb ⊢;generalize s / 1099511627776 = d at h ⊢;obtain ⟨X, hX⟩ : ∃ X, X = d + 100 * b + 5 + 109951162777600 * d := ⟨_, rfl⟩
  rw [← hX] at h;have h3 : z % 281474976710656 = b + 1099511627776 * (X % 256) := by omega
  have h4 : X % 256 = (d % 256 + (4 * 25 * b + 5) % 256) % 256 := by omega
  rw [← h4];clear h h4 hX;generalize X % 256 = Y at h3;constructor
  · omega
  · omega
theorem pow64 : ∀ v, v < 256 → v % 2 = 1 → v ^ 64 % 256 = 1 := by decide +kernel
theorem shift_odd (r : Nat) : shiftV r % 2 = 1 ∧ shiftV r < 256 := by unfold shiftV; omega
def jumps (k s : Nat) : Nat := itN jump k s
theorem jumps_zero (s : Nat) : jumps 0 s = s := itN_zero jump s
theorem jumps_succ (k s : Nat) : jumps (k + 1) s = jumps k (jump s) := itN_succ jump k s
theorem jumps_spec : ∀ (j s : Nat), hi8 (jumps j s) = (hi8 s + j * shiftV (s % 1099511627776)) % 256
  | 0, s => by rw [jumps_zero]; unfold hi8; omega
  | j + 1, s => by rw [jumps_succ];obtain ⟨h1, h2⟩ := jump_spec s;rw [jumps_spec j (jump s), h1, h2, Nat.add_mul, Nat.one_mul];generalize shiftV (s % 1099511627776) = v;generalize hi8 s = h;rw [Nat.mod_add_mod, Nat.add_assoc, Nat.add_comm v]
theorem jumps_lcg : ∀ (j s : Nat), jumps j s = lcgN (j * 2 ^ 40) s
  | 0, s => by rw [Nat.zero_mul, jumps_zero, lcgN_zero]
  | j + 1, s => by rw [jumps_succ, jumps_lcg j (jump s), Nat.add_mul, Nat.one_mul, Nat.add_comm, lcgN_add];unfold jump;exact Eq.refl _
theorem lcg_hits (s t : Nat) (ht : t < 256) : ∃ k, k < 281474976710656 ∧ hi8 (lcgN k s) = t := by
  obtain ⟨h1, h2⟩ := shift_odd (s % 1099511627776);have hp := pow64 _ h2 h1;have hj := jumps_spec ((t + 256 - hi8 s) * shiftV (s % 1099511627776) ^ 63 % 256) s;rw [jumps_lcg] at hj;refine ⟨_, ?_, hj.trans ?_⟩
  · have := Nat.mod_lt ((t + 256 - hi8 s) * shiftV (s % 1099511627776) ^ 63) (show 0 < 256 by decide)
    omega
  have hh : hi8 s < 256 := by unfold hi8; omega
  generalize shiftV (s % 1099511627776) = v at *;have e : (t + 256 - hi8 s) * v ^ 63 * v = (t + 256 - hi8 s) * v ^ 64 := by rw [Nat.mul_assoc, ← Nat.pow_succ]
  have e2 : ((t + 256 - hi8 s) * v ^ 63 % 256) * v % 256 = (t + 256 - hi8 s) % 256 := by rw [Nat.mul_mod, Nat.mod_mod, ← Nat.mul_mod, e, Nat.mul_mod, hp, Nat.mul_one, Nat.mod_mod]
  rw [Nat.add_mod, e2, ← Nat.add_mod];omega
def Hit (v t s j : Nat) : Prop := hi8 (lcgN (j + 1) s) % v = t
theorem least_ex {p : Nat → Prop} : ∀ (j : Nat), p j → ∃ k, p k ∧ ∀ i, p i → k ≤ i
  | 0, h => ⟨0, h, fun _ _ => Nat.zero_le _⟩
  | j + 1, h => Classical.byContradiction fun hc => hc (by
    by_cases h0 : ∃ i, i ≤ j ∧ p i
    · obtain ⟨i, hi, hp⟩ := h0
      exact absurd (least_upto j i hi hp) hc
    · exact ⟨j + 1, h, fun i hp => Nat.le_of_not_lt fun hl => h0 ⟨i, by omega, hp⟩⟩)
where
  least_upto (j : Nat) : ∀ i, i ≤ j → p i → ∃ k, p k ∧ ∀ i, p i → k ≤ i := by
    induction j with
    | zero => exact fun i hi hp => ⟨i, hp, fun _ _ => by omega⟩
    | succ j ih =>
      intro i hi hp;by_cases h0 : ∃ i, i ≤ j ∧ p i
      · obtain ⟨i', hi', hp'⟩ := h0
        exact ih i' hi' hp'
      · exact ⟨i, hp, fun i' hp' => by
          have h1 : ¬ i' ≤ j := fun h => h0 ⟨i', h, hp'⟩
          omega⟩
theorem hit_some (v t s : Nat) (hv : v ≤ 256) (ht : t < v) : ∃ j, j < 281474976710656 ∧ Hit v t s j := by obtain ⟨k, h1, h2⟩ := lcg_hits (lcg s) t (by omega);exact ⟨k, h1, by unfold Hit; rw [lcgN_succ, h2]; exact Nat.mod_eq_of_lt ht⟩
theorem steps_ex (v t s : Nat) : ∃ j, (∃ i, Hit v t s i) → Hit v t s j ∧ ∀ i, Hit v t s i → j ≤ i := by
  by_cases h : ∃ i, Hit v t s i
  · obtain ⟨i, hi⟩ := h
    obtain ⟨k, h1, h2⟩ := least_ex i hi;exact ⟨k, fun _ => ⟨h1, h2⟩⟩
  · exact ⟨0, fun h' => absurd h' h⟩
noncomputable def steps (v t s : Nat) : Nat := Classical.choose (steps_ex v t s)
theorem steps_spec (v t s : Nat) (hv : v ≤ 256) (ht : t < v) : Hit v t s (steps v t s) ∧ ∀ i, Hit v t s i → steps v t s ≤ i := by obtain ⟨j, h1, h2⟩ := hit_some v t s hv ht;exact Classical.choose_spec (steps_ex v t s) ⟨j, h2⟩
theorem steps_le (v t s : Nat) (hv : v ≤ 256) (ht : t < v) : steps v t s < 281474976710656 := by obtain ⟨j, h1, h2⟩ := hit_some v t s hv ht;exact Nat.lt_of_le_of_lt ((steps_spec v t s hv ht).2 j h2) h1
theorem steps_next (v t s : Nat) (hv : v ≤ 256) (ht : t < v) (hne : hi8 (lcg s) % v ≠ t) : steps v t (lcg s) < steps v t s := by
  have h3 := (steps_spec v t s hv ht).1;generalize steps v t s = K at h3 ⊢;cases K with
  | zero => exact absurd (by unfold Hit at h3; rw [lcgN_succ, lcgN_zero] at h3; exact h3) hne
  | succ K =>
    have h4 : Hit v t (lcg s) K := by unfold Hit at h3 ⊢; rw [lcgN_succ] at h3; exact h3
    exact Nat.lt_succ_of_le ((steps_spec v t (lcg s) hv ht).2 K h4)
noncomputable def drawM (v t n k s : Nat) : Nat := if k < n then (n - k) * 281474976710656 + 281474976710656 else steps v t s
theorem drawM_next (v t n k s s' x : Nat) (hv : v ≤ 256) (ht : t < v) (hne : x % v ≠ t) (hs : n ≤ k → s' = lcg s ∧ x = hi8 s') : drawM v t n (k + 1) s' < drawM v t n k s := by
  unfold drawM;by_cases h : k < n
  · rw [if_pos h]
    by_cases h1 : k + 1 < n
    · rw [if_pos h1]; omega
    · rw [if_neg h1]
      have := steps_le v t s' hv ht;omega
  · rw [if_neg h, if_neg (by omega)]
    obtain ⟨e1, e2⟩ := hs (by omega);rw [e1] at e2 ⊢;rw [e2] at hne;exact steps_next v t s hv ht hne
end Go.Proofs.YtdghoienjegffaaGreat
