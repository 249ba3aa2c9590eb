/-
  Small lemmas and contracts that the texts of this claim share. No condition.
-/
import Derived.Test.YtjklbjmdgiddcaaGreatGDoSen
import Derived.Test.YtjklbjmdgiddcaaGreatGDoLet
import Derived.Test.YtjklbjmdgiddcaaGreatGCopyAsy
namespace Go.Proofs.YtjklbjmdgiddcaaGreat
open Go.RowKit
set_option linter.all false
end Go.Proofs.YtjklbjmdgiddcaaGreat
namespace Go.Proofs.YtjklbjmdgiddcaaGreat
open Go.RowKit
set_option linter.all false
theorem impl_doAsync (vs ve vc vo : Value) (m : Mach) (ne ni nn : Value) (n : Net) (val : Key → Value) (x : Asy) (base P : Nat) (ak an ap aa : Int) (w : World) (hm : MachR w base vs ve vc vo m) (hn : NetR w base ne ni nn n) (hK : AsyB w base val x P) (hbase : base ≤ w.heap.size) (hg : goodP m n x) (hmay : mayB n x ⟨ak, an, ap, aa⟩ = true) :
  Calls Tryz.prog 86 #[machV vs ve vc vo m, .agg #[ne, ni, nn], .pointer (some ⟨P, 0, none⟩), .agg #[.int .i64 ak, .int .i64 an, .int .i64 ap, .int .i64 aa]] w (DoPost w base val x (doA m n x ⟨ak, an, ap, aa⟩) P) := by
 have hq := hg.1.2.1;cases h1 : inB an 0 ((n.es.length : Int) - 1) with
 | false => rw [may_no1 h1] at hmay; cases hmay
 | true =>
  obtain ⟨k, rfl, hk⟩ := inB_nat h1;obtain ⟨l, s, f, r, hat⟩ := at_of hg.2 hk;have hl6 := (hq.2.2.2.2 k l hat.hl).1;by_cases h5 : ak = 5
  · subst h5;rw [may_step hat] at hmay;rw [Bool.and_eq_true, Bool.and_eq_true, Bool.and_eq_true, decide_eq_true_iff, decide_eq_true_iff, decide_eq_true_iff] at hmay;obtain ⟨rfl, rfl, hr, -⟩ := hmay;rw [doA_step];exact impl_doStep vs ve vc vo m ne ni nn n val x base k l s f r P w hm hn hK hbase hg.1.1 hg.2 hat (by omega) hr
  ·
   by_cases hp : 0 ≤ ap ∧ ap < l.length
   ·
    obtain ⟨p, rfl⟩ : ∃ p : Nat, ap = p := ⟨ap.toNat, by omega⟩
    have hpl : p < l.length := by omega
    obtain ⟨ls, hls⟩ : ∃ y, f[p]? = some y := ⟨_, aC (by rw [hat.fl]; exact hpl)⟩
    by_cases h1' : ak = 1
    ·
     subst h1';obtain ⟨e, he⟩ : ∃ y, l[p]? = some y := ⟨_, aC hpl⟩
     obtain ⟨k2, p2, l2, s2, f2, r2, ls2, e1, e2, hat2, hp2, -⟩ := at_end hg.2 hq hat he;have ee : e = ((k2 : Int), (p2 : Int)) := by rw [← e1, ← e2]
     subst ee;rw [may_send hat hls he hat2 hp2 rfl rfl] at hmay;rw [doA_send m aa hat.hl he];exact impl_doSend vs ve vc vo m ne ni nn n val x base k l s f r p ls k2 p2 l2 s2 f2 r2 ls2 aa P w hm hn hK hbase hg hat hls he hat2 hp2 hmay
    ·
     have hak : ak = 2 ∨ ak = 3 ∨ ak = 4 := by
      by_cases h2 : ak = 2
      · exact .inl h2
      ·
       by_cases h3 : ak = 3
       · exact .inr (.inl h3)
       ·
        by_cases h4 : ak = 4
        · exact .inr (.inr h4)
        · rw [may_else hat h5 h1' h2 h3 h4] at hmay; cases hmay
     have haa : 0 ≤ aa ∧ aa < ls.length := by
      rcases hak with rfl | rfl | rfl
      · rw [may_let hat hls (.inl rfl), decide_eq_true_iff] at hmay; exact hmay
      · rw [may_let hat hls (.inr rfl), decide_eq_true_iff] at hmay; exact hmay
      · rw [may_copy hat hls, Bool.and_eq_true, decide_eq_true_iff] at hmay; exact hmay.1
     obtain ⟨a, rfl⟩ : ∃ a : Nat, aa = a := ⟨aa.toNat, by omega⟩
     rw [doA_let m n x k p (a : Int) h5 h1', Int.toNat_natCast];exact impl_doLetter vs ve vc vo m ne ni nn n val x base k l s f r p ls ak a P w hm hn hK hbase hat hls (by omega) hak
   · rw [may_no2 hat h5 hp] at hmay; cases hmay
end Go.Proofs.YtjklbjmdgiddcaaGreat
namespace Go.Proofs.YtjklbjmdgiddcaaGreat
open Go.RowKit
set_option linter.all false
def TyK (t : TypeId) : Prop := t = 3 ∨ t = 24 ∨ t = 101 ∨ t = 102 ∨ t = 129
theorem rowK_ty (x : Asy) (val : Key → Value) (j : Key) : TyK (rowK x val j).ty := by unfold TyK;cases j <;> simp [rowK]
theorem no_tyK_bool : ¬ TyK 4 := by unfold TyK; decide
theorem no_tyK_state : ¬ TyK 40 := by unfold TyK; decide
section
variable {w w' : World} {base P : Nat} {val : Key → Value} {x : Asy}
theorem AsyK.noTy (h : AsyK w base val x) {j : Key} (hj : keyOf x j) {g : Nat} {cur : Array Value} {t : TypeId} {fz : Nat × Nat} (hg : w.heap[g]? = some (.cells cur t fz)) (ht : ¬ TyK t) : (val j).ownBlock ≠ some g := fun e => by
  rcases (h.own j hj).2 with ⟨e2, _⟩ | ⟨g', cap, cur', e2, _, h3, _⟩
  · rw [e2] at e; cases e
  · rw [e2] at e
    obtain rfl : g' = g := aE e;rw [hg] at h3;have e3 := (Obj.cells.inj (aE h3)).2.1;exact ht (by rw [e3]; exact rowK_ty x val j)
theorem AsyB.noTy (h : AsyB w base val x P) {g : Nat} {cur : Array Value} {t : TypeId} {fz : Nat × Nat} (hg : w.heap[g]? = some (.cells cur t fz)) (ht : t ≠ 40) : P ≠ g := fun e => by have h2 := h.box;rw [e, hg] at h2;exact ht (Obj.cells.inj (aE h2)).2.1
theorem AsyB.aside (h : AsyB w base val x P) {row : Option Nat} (hg : w.grownBy w' row) (hrow : ∀ g, row = some g → ∃ cur t fz, w.heap[g]? = some (.cells cur t fz) ∧ ¬ TyK t ∧ t ≠ 40) : AsyB w' base val x P := by
  cases row with
  | none => exact ⟨OwnK.keep h.k hg, h.ne, (hg.block P h.lt (by simp)).trans h.box⟩
  | some g =>
    obtain ⟨cur, t, fz, h1, h2, h3⟩ := hrow g rfl;refine ⟨OwnK.apart h.k hg (fun j hj => h.k.noTy hj h1 h2), h.ne, (hg.block P h.lt (fun e => h.noTy h1 h3 (aE e))).trans h.box⟩
theorem own_ty {w : World} {base n sz : Nat} {e : TypeId} {v : Value} {vs : List Value} (h : w.ownsRow base e sz v n vs) : ∀ g, v.ownBlock = some g → ∃ cur fz, w.heap[g]? = some (.cells cur e fz) := fun g hg => by
  rcases h.2 with ⟨e2, _⟩ | ⟨g', cap, cur', e2, _, h3, _⟩
  · rw [e2] at hg; cases hg
  · rw [e2] at hg
    obtain rfl : g' = g := aE hg;exact ⟨_, _, h3⟩
theorem own_same {w w' : World} {base n sz : Nat} {e : TypeId} {v : Value} {vs : List Value} (h : w.ownsRow base e sz v n vs) (hk : ∀ g, v.ownBlock = some g → w'.heap[g]? = w.heap[g]?) : w'.ownsRow base e sz v n vs := by
  refine ⟨h.1, ?_⟩;rcases h.2 with h2 | ⟨g', cap, cur', e2, h1, h3, h4⟩
  · exact .inl h2
  · exact .inr ⟨g', cap, cur', e2, h1, (hk g' (by rw [e2]; rfl)).trans h3, h4⟩
end
theorem Did.play {m : Mach} {n : Net} {x : Asy} {a : Acts} {w w' : World} {base : Nat} {val : Key → Value} {ur ub un us uf : Value} (h : Did (mayB n x a) w' w.heap.size (val .r) (val .b) (val .n) (val .s) (val .f) ur ub un us uf (doA m n x a)) (hK : AsyK w base val x) (hb : Below w.heap.size w w') (hbase : base ≤ w.heap.size) :
    ∃ val', ur = val' .r ∧ ub = val' .b ∧ un = val' .n ∧ us = val' .s ∧ uf = val' .f ∧ AsyK w' base val' (playX m n x a) := by
  unfold playX;cases hm : mayB n x a with
  | true =>
    obtain ⟨val', e0, e1, e2, e3, e4, hk⟩ := h.1 hm;rw [if_pos rfl];exact ⟨val', e0, e1, e2, e3, e4, OwnK.mono hk hbase⟩
  | false =>
    obtain ⟨e0, e1, e2, e3, e4⟩ := h.2 hm;rw [if_neg (by simp)];exact ⟨val, e0, e1, e2, e3, e4, AsyK.up hK hb⟩
theorem AsyK.past {w w' : World} {base P : Nat} {val : Key → Value} {x : Asy} (h : AsyK w base val x) {cur : Array Value} {fz : Nat × Nat} (hP : w.heap[P]? = some (.cells cur 40 fz)) (hg : w.grownBy w' (some P)) : AsyK w' base val x :=
  OwnK.apart h hg fun j hj => h.noTy hj hP no_tyK_state
theorem boolInf2 : (Tryz.prog.info? 4).map (fun i => (i.zero, i.size, i.bytes)) = some (some (.bool false), 1, 1) := by kernel_rfl
theorem take_snoc {α : Type} {ys : List α} {j : Nat} {a : α} (h : ys[j]? = some a) : ys.take (j + 1) = ys.take j ++ [a] := by obtain ⟨hj, rfl⟩ := aB.1 h;exact List.take_succ_eq_append_getElem hj
theorem I64A.good {m : Mach} {n : Net} {x : Asy} (h : goodP m n x) : I64A x := i64_of h.2 (by have := h.1.1.1.2.1; omega) (by have := h.1.1.1.2.2; omega)
end Go.Proofs.YtjklbjmdgiddcaaGreat
namespace Go.Proofs.YtjklbjmdgiddcaaGreat
open Go.RowKit
set_option linter.all false
end Go.Proofs.YtjklbjmdgiddcaaGreat
namespace Go.Proofs.YtjklbjmdgiddcaaGreat
open Go.RowKit
set_option linter.all false
section
variable {w wr w' : World} {u1 u2 u3 v : Value} {xs ys zs xs' : List Acts}
end
end Go.Proofs.YtjklbjmdgiddcaaGreat
namespace Go.Proofs.YtjklbjmdgiddcaaGreat
open Go.RowKit
set_option linter.all false
end Go.Proofs.YtjklbjmdgiddcaaGreat
namespace Go.Proofs.YtjklbjmdgiddcaaGreat
open Go.RowKit
set_option linter.all false
def PlayPost (m : Mach) (n : Net) (x : Asy) (a : Acts) (base P : Nat) (val : Key → Value) (w : World) (e : Ending) (w' : World) : Prop :=
  e = .returned (.bool (mayB n x a)) ∧ Below base w w' ∧ Frame val x w w' ∧ ∃ val', AsyB w' base val' (playX m n x a) P
set_option maxRecDepth 100000 in
set_option maxHeartbeats 4000000 in
theorem impl_play (vs ve vc vo : Value) (m : Mach) (ne ni nn : Value) (n : Net) (val : Key → Value) (x : Asy) (base P : Nat) (ak an ap aa : Int) (w : World) (hm0 : MachR w base vs ve vc vo m) (hn0 : NetR w base ne ni nn n) (hK : AsyB w base val x P) (hbase : base ≤ w.heap.size) (hg : goodP m n x) :
  Calls Tryz.prog 45 #[machV vs ve vc vo m, .agg #[ne, ni, nn], .pointer (some ⟨P, 0, none⟩), .agg #[.int .i64 ak, .int .i64 an, .int .i64 ap, .int .i64 aa]] w (PlayPost m n x ⟨ak, an, ap, aa⟩ base P val w) := by
 unfold machV;have hm := hm0.to (Below.refl _ _) hbase;have hn := hn0.more hbase;have h40 := hg.1.2.1.1.2;have hX := AsyK.reads hK.k (I64A.good hg);have HG := aA hg;have HK := aA hK;have hP := hK.lt;obtain ⟨A10, c10, er⟩ := own_sl1 (hK.k.own .r trivial);obtain ⟨A11, c11, eb⟩ := own_sl1 (hK.k.own .b trivial);obtain ⟨A12, c12, en⟩ := own_sl1 (hK.k.own .n trivial);obtain ⟨A8, c8, es⟩ := own_sl1 (hK.k.own .s trivial);obtain ⟨A9, c9, ef⟩ := own_sl1 (hK.k.own .f trivial);have hbx := hK.box;rw [er, eb, en, es, ef] at hbx hX;generalize (rowK x val .r).len = m10 at hbx hX;generalize (rowK x val .b).len = m11 at hbx hX;generalize (rowK x val .n).len = m12 at hbx hX;generalize (rowK x val .s).len = m8 at hbx hX;generalize (rowK x val .f).len = m9 at hbx hX;have HY := aA hbx;have HX := aA hX;obtain ⟨bm, hbm⟩ : ∃ b, b = mayB n x ⟨ak, an, ap, aa⟩ := ⟨_, rfl⟩
 have HBM := aA hbm;obtain ⟨⟨A0, m0, c0, rfl⟩, ⟨A1, m1, c1, rfl⟩, ⟨A2, m2, c2, rfl⟩, A3, m3, c3, rfl⟩ := hm.slices;obtain ⟨⟨A4, m4, c4, rfl⟩, ⟨A5, m5, c5, rfl⟩, A6, m6, c6, rfl⟩ := hn.slices;have HM0 := aA hm0;have HN0 := aA hn0;clear hg hK er eb en es ef hbx hX hbm hm0 hn0;obtain ⟨w0, hw0, hb0, HM, hz0, HS0⟩ := box7 w (.int .i64 m.deg) (.int .i64 m.st) (.int .i64 m.msg) (.slice A0 m0 c0) (.slice A1 m1 c1) (.slice A2 m2 c2) (.slice A3 m3 c3) 46;obtain ⟨w1, hw1, hb1, HD, hz1, HS1⟩ := box3 w0 (.slice A4 m4 c4) (.slice A5 m5 c5) (.slice A6 m6 c6) 50;replace HM := bk HM hb1;obtain ⟨w2, hw2, hb2, HA, hz2, HS2⟩ := box4a w1 (.int .i64 ak) (.int .i64 an) (.int .i64 ap) (.int .i64 aa) 84;replace HM := bk HM hb2;replace HD := bk HD hb2;have hB : Below w.heap.size w w2 := bl_trans (bl_trans (hb0) hb1) hb2;have HW := aA (show w2 = ((w.alloc (.cells #[.int .i64 m.deg, .int .i64 m.st, .int .i64 m.msg, .slice A0 m0 c0, .slice A1 m1 c1, .slice A2 m2 c2, .slice A3 m3 c3] 46)).alloc (.cells #[.slice A4 m4 c4, .slice A5 m5 c5, .slice A6 m6 c6] 50)).alloc (.cells #[.int .i64 ak, .int .i64 an, .int .i64 ap, .int .i64 aa] 84) by rw [hw2, hw1, hw0]);obtain ⟨P1, hP1⟩ : ∃ z, z = w0.heap.size := ⟨_, rfl⟩
 have HP1 := aA (show w.heap.size + 1 = P1 by rw [hP1, HS0.out]);have hPl1 : w.heap.size < P1 := by rw [← HP1.out]; omega
 rw [← hP1] at HD hz1;obtain ⟨P2, hP2⟩ : ∃ z, z = w1.heap.size := ⟨_, rfl⟩
 have HP2 := aA (show w.heap.size + 1 + 1 = P2 by rw [hP2, HS1.out, HS0.out]);have hPl2 : w.heap.size < P2 := by rw [← HP2.out]; omega
 rw [← hP2] at HA hz2;obtain ⟨⟨g0, g1, g2⟩, ⟨g3, g4, g5, g6⟩, gf⟩ := cells7 HM;obtain ⟨q0, q1, q2, qf⟩ := cells3 HD;obtain ⟨⟨u0, u1⟩, ⟨u2, u3⟩, uf⟩ := cells4a HA;have eg0 := g0;have eg1 := g1;have eg2 := g2;have eg3 := g3;have eg4 := g4;have eg5 := g5;have eg6 := g6;have eq0 := q0;have eq1 := q1;have eq2 := q2;have eu0 := u0;have eu1 := u1;have eu2 := u2;have eu3 := u3;rw [HW.out] at eg0 eg1 eg2 eg3 eg4 eg5 eg6 eq0 eq1 eq2 eu0 eu1 eu2 eu3;rw [← HP1.out] at eq0 eq1 eq2;rw [← HP2.out] at eu0 eu1 eu2 eu3;have hzb0 : w.heap.size < w2.heap.size := by omega
 have hzb1 : P1 < w2.heap.size := by omega
 have hzb2 : P2 < w2.heap.size := by omega
 have HR := aA (hm.up hB);have HN := aA (hn.up hB);clear hw2 hw1 hw0 hP1 hP2;replace HY := bk (bk (bk HY hb0) hb1) hb2;replace HX := aA (HX.out.up hB);obtain ⟨⟨y0, y1, y2⟩, ⟨y3, y4⟩, yf⟩ := cells5 HY;have HK2 := aA (HK.out.up hB);have hP2 := HK2.out.lt;go_enter Tryz.func45, Tryz.ntmps45;go_wp2_with fail;rw [HP2.out, HP1.out, ← HW.out];clear eg0 eg1 eg2 eg3 eg4 eg5 eg6 eq0 eq1 eq2 eu0 eu1 eu2 eu3;refine aH (S := fun w' => w'.cell? ⟨P1, 0, none⟩ = some (.slice A4 m4 c4) ∧ w'.cell? ⟨P1, 1, none⟩ = some (.slice A5 m5 c5) ∧ w'.cell? ⟨P1, 2, none⟩ = some (.slice A6 m6 c6) ∧ w'.cell? ⟨P, 0, none⟩ = some (.slice A10 m10 c10) ∧ w'.cell? ⟨P, 1, none⟩ = some (.slice A11 m11 c11) ∧ w'.cell? ⟨P, 2, none⟩ = some (.slice A12 m12 c12) ∧ w'.cell? ⟨P, 3, none⟩ = some (.slice A8 m8 c8) ∧ w'.cell? ⟨P, 4, none⟩ = some (.slice A9 m9 c9) ∧ w'.cell? ⟨P2, 0, none⟩ = some (.int .i64 ak) ∧ w'.cell? ⟨P2, 1, none⟩ = some (.int .i64 an) ∧ w'.cell? ⟨P2, 2, none⟩ = some (.int .i64 ap) ∧ w'.cell? ⟨P2, 3, none⟩ = some (.int .i64 aa)) (by kernel_rfl) ?_ (fun hHeld => ?_)
 · go_keep
 refine stk 0 9 ?_;refine stk 1 10 ?_;refine stk 2 11 ?_;refine stk 3 12 ?_;refine stk 4 13 ?_;refine tr 5 rfl (by kernel_rfl) (fun K hK => ?_);go_simp;go_at_call 85;refine (impl_mayAsync m _ _ _ n _ _ _ _ _ x ak an ap aa w2.drew (HN.out.up (Below.refl _ _).drew) (HX.out.up (Below.refl _ _).drew) (by omega) HG.out.1.2.1 HG.out.2).mono ?_;rintro e w3 ⟨rfl, hb3'⟩;have hb3 : Below w2.heap.size w2 w3 := (Below.refl _ _).drew.trans hb3';rw [← HBM.out];clear hb3' y0 y1 y2 y3 y4 yf;have hzhb3 := hb3.size;clear g0 g1 g2 g3 g4 g5 g6 gf q0 q1 q2 qf u0 u1 u2 u3 uf;replace HM := bk HM hb3;replace HD := bk HD hb3;replace HA := bk HA hb3;replace hB := bl_trans hB hb3;obtain ⟨⟨g0, g1, g2⟩, ⟨g3, g4, g5, g6⟩, gf⟩ := cells7 HM;obtain ⟨q0, q1, q2, qf⟩ := cells3 HD;obtain ⟨⟨u0, u1⟩, ⟨u2, u3⟩, uf⟩ := cells4a HA;replace HY := bk HY hb3;obtain ⟨⟨y0, y1, y2⟩, ⟨y3, y4⟩, yf⟩ := cells5 HY;have HK3 := aA (HK2.out.up hb3);refine hK.out _ _ ?_ (fun hHeld => ?_)
 · go_keep
 clear hK K
 try simp only [Act.put, pu]
 refine stk 6 15 ?_;refine aK (by kernel_rfl) ?_ _;clear y0 y1 y2 y3 y4 yf;cases bm with
 | false =>
  have e2 : playX m n x ⟨ak, an, ap, aa⟩ = x := by unfold playX; rw [← HBM.out]; rfl
  have HF := aA (show PlayPost m n x ⟨ak, an, ap, aa⟩ base P val w (.returned (.bool false)) w3 from ⟨by rw [← HBM.out], hB.mono hbase, Frame.of hB, val, by rw [e2]; exact HK3.out⟩);clear e2;go_wp2_with fail;go_ret;exact HF.out
 | true =>
  have e2 : playX m n x ⟨ak, an, ap, aa⟩ = doA m n x ⟨ak, an, ap, aa⟩ := by unfold playX; rw [← HBM.out]; rfl
  have HE := aA e2;clear e2;go_wp2_with fail;have hC := impl_doAsync _ _ _ _ m _ _ _ n val x base P ak an ap aa w3 (HM0.out.to (hB.mono hbase) (Nat.le_refl _)) (HN0.out.below (hB.mono hbase)) HK3.out (by have := hB.size; omega) HG.out HBM.out.symm;unfold machV at hC;refine hC.mono ?_;clear hC;rintro e w5 ⟨rfl, hb5, hf5, val', -, hk5⟩;have hz3 := hB.size;have HF := aA (show PlayPost m n x ⟨ak, an, ap, aa⟩ base P val w (.returned (.bool true)) w5 from ⟨by rw [← HBM.out], (hB.mono hbase).trans hb5, ⟨Nat.le_trans hz3 hf5.1, fun b hb hn => (hf5.2 b (aF hb hz3) hn).trans (hB.block b hb)⟩, val', by rw [HE.out]; exact hk5⟩);clear hb5 hf5 hk5 g0 g1 g2 g3 g4 g5 g6 gf q0 q1 q2 qf u0 u1 u2 u3 uf;go_wp2_with fail;go_ret;exact HF.out
end Go.Proofs.YtjklbjmdgiddcaaGreat
