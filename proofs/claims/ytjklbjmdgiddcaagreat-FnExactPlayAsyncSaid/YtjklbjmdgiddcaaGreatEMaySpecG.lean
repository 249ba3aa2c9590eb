/-
  Small lemmas and contracts that the texts of this claim share. No condition.
-/
import Derived.Test.YtjklbjmdgiddcaaGreatEDoSen
import Derived.Test.YtjklbjmdgiddcaaGreatEDoLet
import Derived.Test.YtjklbjmdgiddcaaGreatECopyAsy
namespace Go.Proofs.YtjklbjmdgiddcaaGreat
open Go.RowKit
set_option linter.all false
end Go.Proofs.YtjklbjmdgiddcaaGreat
namespace Go.Proofs.YtjklbjmdgiddcaaGreat
open Go.RowKit
set_option linter.all false
theorem impl_doAsync (vs ve vc vo : Value) (m : Mach) (ne ni nn : Value) (n : Net) (val : Key → Value) (x : Asy) (base P : Nat) (ak an ap aa : Int) (w : World) (hm : MachR w base vs ve vc vo m) (hn : NetR w base ne ni nn n) (hK : AsyB w base val x P) (hbase : base ≤ w.heap.size) (hg : goodP m n x) (hmay : mayB n x ⟨ak, an, ap, aa⟩ = true) :
  Calls Tryz.prog 86 #[machV vs ve vc vo m, .agg #[ne, ni, nn], .pointer (some ⟨P, 0, none⟩), .agg #[.int .i64 ak, .int .i64 an, .int .i64 ap, .int .i64 aa]] w (DoPost w base val x (doA m n x ⟨ak, an, ap, aa⟩) P) := by
 have hq := hg.1.2.1;cases h1 : inB an 0 ((n.es.length : Int) - 1) with
 | false => rw [may_no1 h1] at hmay; cases hmay
 | true =>
  obtain ⟨k, rfl, hk⟩ := inB_nat h1;obtain ⟨l, s, f, r, hat⟩ := at_of hg.2 hk;have hl6 := (hq.2.2.2.2 k l hat.hl).1;by_cases h5 : ak = 5
  · subst h5;rw [may_step hat] at hmay;rw [Bool.and_eq_true, Bool.and_eq_true, Bool.and_eq_true, decide_eq_true_iff, decide_eq_true_iff, decide_eq_true_iff] at hmay;obtain ⟨rfl, rfl, hr, -⟩ := hmay;rw [doA_step];exact impl_doStep vs ve vc vo m ne ni nn n val x base k l s f r P w hm hn hK hbase hg.1.1 hg.2 hat (by omega) hr
  ·
   by_cases hp : 0 ≤ ap ∧ ap < l.length
   ·
    obtain ⟨p, rfl⟩ : ∃ p : Nat, ap = p := ⟨ap.toNat, by omega⟩
    have hpl : p < l.length := by omega
    obtain ⟨ls, hls⟩ : ∃ y, f[p]? = some y := ⟨_, List.getElem?_eq_getElem (by rw [hat.fl]; exact hpl)⟩
    by_cases h1' : ak = 1
    ·
     subst h1';obtain ⟨e, he⟩ : ∃ y, l[p]? = some y := ⟨_, List.getElem?_eq_getElem hpl⟩
     obtain ⟨k2, p2, l2, s2, f2, r2, ls2, e1, e2, hat2, hp2, -⟩ := at_end hg.2 hq hat he;have ee : e = ((k2 : Int), (p2 : Int)) := by rw [← e1, ← e2]
     subst ee;rw [may_send hat hls he hat2 hp2 rfl rfl] at hmay;rw [doA_send m aa hat.hl he];exact impl_doSend vs ve vc vo m ne ni nn n val x base k l s f r p ls k2 p2 l2 s2 f2 r2 ls2 aa P w hm hn hK hbase hg hat hls he hat2 hp2 hmay
    ·
     have hak : ak = 2 ∨ ak = 3 ∨ ak = 4 := by
      by_cases h2 : ak = 2
      · exact .inl h2
      ·
       by_cases h3 : ak = 3
       · exact .inr (.inl h3)
       ·
        by_cases h4 : ak = 4
        · exact .inr (.inr h4)
        · rw [may_else hat h5 h1' h2 h3 h4] at hmay; cases hmay
     have haa : 0 ≤ aa ∧ aa < ls.length := by
      rcases hak with rfl | rfl | rfl
      · rw [may_let hat hls (.inl rfl), decide_eq_true_iff] at hmay; exact hmay
      · rw [may_let hat hls (.inr rfl), decide_eq_true_iff] at hmay; exact hmay
      · rw [may_copy hat hls, Bool.and_eq_true, decide_eq_true_iff] at hmay; exact hmay.1
     obtain ⟨a, rfl⟩ : ∃ a : Nat, aa = a := ⟨aa.toNat, by omega⟩
     rw [doA_let m n x k p (a : Int) h5 h1', Int.toNat_natCast];exact impl_doLetter vs ve vc vo m ne ni nn n val x base k l s f r p ls ak a P w hm hn hK hbase hat hls (by omega) hak
   · rw [may_no2 hat h5 hp] at hmay; cases hmay
end Go.Proofs.YtjklbjmdgiddcaaGreat
namespace Go.Proofs.YtjklbjmdgiddcaaGreat
open Go.RowKit
set_option linter.all false
def TyK (t : TypeId) : Prop := t = 3 ∨ t = 24 ∨ t = 101 ∨ t = 102 ∨ t = 129
theorem rowK_ty (x : Asy) (val : Key → Value) (j : Key) : TyK (rowK x val j).ty := by unfold TyK;cases j <;> simp [rowK]
theorem no_tyK_bool : ¬ TyK 4 := by unfold TyK; decide
theorem no_tyK_state : ¬ TyK 40 := by unfold TyK; decide
section
variable {w w' : World} {base P : Nat} {val : Key → Value} {x : Asy}
theorem AsyK.noTy (h : AsyK w base val x) {j : Key} (hj : keyOf x j) {g : Nat} {cur : Array Value} {t : TypeId} {fz : Nat × Nat} (hg : w.heap[g]? = some (.cells cur t fz)) (ht : ¬ TyK t) : (val j).ownBlock ≠ some g := fun e => by
  rcases (h.own j hj).2 with ⟨e2, _⟩ | ⟨g', cap, cur', e2, _, h3, _⟩
  · rw [e2] at e; cases e
  · rw [e2] at e
    obtain rfl : g' = g := Option.some.inj e;rw [hg] at h3;have e3 := (Obj.cells.inj (Option.some.inj h3)).2.1;exact ht (by rw [e3]; exact rowK_ty x val j)
theorem AsyB.noTy (h : AsyB w base val x P) {g : Nat} {cur : Array Value} {t : TypeId} {fz : Nat × Nat} (hg : w.heap[g]? = some (.cells cur t fz)) (ht : t ≠ 40) : P ≠ g := fun e => by have h2 := h.box;rw [e, hg] at h2;exact ht (Obj.cells.inj (Option.some.inj h2)).2.1
theorem AsyB.aside (h : AsyB w base val x P) {row : Option Nat} (hg : w.grownBy w' row) (hrow : ∀ g, row = some g → ∃ cur t fz, w.heap[g]? = some (.cells cur t fz) ∧ ¬ TyK t ∧ t ≠ 40) : AsyB w' base val x P := by
  cases row with
  | none => exact ⟨OwnK.keep h.k hg, h.ne, (hg.block P h.lt (by simp)).trans h.box⟩
  | some g =>
    obtain ⟨cur, t, fz, h1, h2, h3⟩ := hrow g rfl;refine ⟨OwnK.apart h.k hg (fun j hj => h.k.noTy hj h1 h2), h.ne, (hg.block P h.lt (fun e => h.noTy h1 h3 (Option.some.inj e))).trans h.box⟩
theorem own_ty {w : World} {base n sz : Nat} {e : TypeId} {v : Value} {vs : List Value} (h : w.ownsRow base e sz v n vs) : ∀ g, v.ownBlock = some g → ∃ cur fz, w.heap[g]? = some (.cells cur e fz) := fun g hg => by
  rcases h.2 with ⟨e2, _⟩ | ⟨g', cap, cur', e2, _, h3, _⟩
  · rw [e2] at hg; cases hg
  · rw [e2] at hg
    obtain rfl : g' = g := Option.some.inj hg;exact ⟨_, _, h3⟩
theorem own_same {w w' : World} {base n sz : Nat} {e : TypeId} {v : Value} {vs : List Value} (h : w.ownsRow base e sz v n vs) (hk : ∀ g, v.ownBlock = some g → w'.heap[g]? = w.heap[g]?) : w'.ownsRow base e sz v n vs := by
  refine ⟨h.1, ?_⟩;rcases h.2 with h2 | ⟨g', cap, cur', e2, h1, h3, h4⟩
  · exact .inl h2
  · exact .inr ⟨g', cap, cur', e2, h1, (hk g' (by rw [e2]; rfl)).trans h3, h4⟩
end
theorem Did.play {m : Mach} {n : Net} {x : Asy} {a : Acts} {w w' : World} {base : Nat} {val : Key → Value} {ur ub un us uf : Value} (h : Did (mayB n x a) w' w.heap.size (val .r) (val .b) (val .n) (val .s) (val .f) ur ub un us uf (doA m n x a)) (hK : AsyK w base val x) (hb : Below w.heap.size w w') (hbase : base ≤ w.heap.size) :
    ∃ val', ur = val' .r ∧ ub = val' .b ∧ un = val' .n ∧ us = val' .s ∧ uf = val' .f ∧ AsyK w' base val' (playX m n x a) := by
  unfold playX;cases hm : mayB n x a with
  | true =>
    obtain ⟨val', e0, e1, e2, e3, e4, hk⟩ := h.1 hm;rw [if_pos rfl];exact ⟨val', e0, e1, e2, e3, e4, OwnK.mono hk hbase⟩
  | false =>
    obtain ⟨e0, e1, e2, e3, e4⟩ := h.2 hm;rw [if_neg (by simp)];exact ⟨val, e0, e1, e2, e3, e4, AsyK.up hK hb⟩
theorem AsyK.past {w w' : World} {base P : Nat} {val : Key → Value} {x : Asy} (h : AsyK w base val x) {cur : Array Value} {fz : Nat × Nat} (hP : w.heap[P]? = some (.cells cur 40 fz)) (hg : w.grownBy w' (some P)) : AsyK w' base val x :=
  OwnK.apart h hg fun j hj => h.noTy hj hP no_tyK_state
theorem boolInf2 : (Tryz.prog.info? 4).map (fun i => (i.zero, i.size, i.bytes)) = some (some (.bool false), 1, 1) := by kernel_rfl
theorem take_snoc {α : Type} {ys : List α} {j : Nat} {a : α} (h : ys[j]? = some a) : ys.take (j + 1) = ys.take j ++ [a] := by obtain ⟨hj, rfl⟩ := List.getElem?_eq_some_iff.1 h;exact List.take_succ_eq_append_getElem hj
theorem I64A.good {m : Mach} {n : Net} {x : Asy} (h : goodP m n x) : I64A x := i64_of h.2 (by have := h.1.1.1.2.1; omega) (by have := h.1.1.1.2.2; omega)
end Go.Proofs.YtjklbjmdgiddcaaGreat
namespace Go.Proofs.YtjklbjmdgiddcaaGreat
open Go.RowKit
set_option linter.all false
def TruesR (w : World) (v : Value) (bs : List Bool) : Prop :=
  ∃ A c, v = .slice A bs.length c ∧ bs.length ≤ c ∧ c ≤ maxLen ∧ (0 < bs.length → ∃ ad, A = some ad ∧ ad.block < w.heap.size ∧ ∀ j x, bs[j]? = some x → w.cell? (ad.add j) = some (.bool x))
theorem TruesR.up {w w' : World} {v : Value} {bs : List Bool} (h : TruesR w v bs) (hb : Below w.heap.size w w') : TruesR w' v bs := by obtain ⟨A, c, e, h1, h2, h3⟩ := h;refine ⟨A, c, e, h1, h2, fun hn => ?_⟩;obtain ⟨ad, e2, hB, hc⟩ := h3 hn;exact ⟨ad, e2, Nat.lt_of_lt_of_le hB hb.size, fun k a ha => (hb.cell (p := ad.add k) (by rw [block_add]; exact hB)).trans (hc k a ha)⟩
def TruesO (w : World) (base : Nat) (v : Value) (bs : List Bool) : Prop := w.ownsRow base 4 1 v bs.length (bs.map .bool)
theorem TruesO.reads {w : World} {base : Nat} {v : Value} {bs : List Bool} (h : TruesO w base v bs) : TruesR w v bs := by
  rcases h.2 with ⟨e, e0⟩ | ⟨g, cap, cur, e, hb, hg, hn, hm, hs, ht⟩
  · exact ⟨none, 0, by rw [e, e0], by omega, Nat.zero_le _, fun hn => by omega⟩
  · refine ⟨some ⟨g, 0, none⟩, cap, e, hn, hm, fun _ => ⟨⟨g, 0, none⟩, rfl, (Array.getElem?_eq_some_iff.1 hg).1, fun k a ha => ?_⟩⟩
    refine World.ownsRow.cells h (by rw [e]; rfl) k _ ?_;rw [List.getElem?_map, ha];rfl
end Go.Proofs.YtjklbjmdgiddcaaGreat
namespace Go.Proofs.YtjklbjmdgiddcaaGreat
open Go.RowKit
set_option linter.all false
section
variable {w wr w' : World} {u1 u2 u3 v : Value} {xs ys zs xs' : List Acts}
end
end Go.Proofs.YtjklbjmdgiddcaaGreat
namespace Go.Proofs.YtjklbjmdgiddcaaGreat
open Go.RowKit
set_option linter.all false
end Go.Proofs.YtjklbjmdgiddcaaGreat
namespace Go.Proofs.YtjklbjmdgiddcaaGreat
open Go.RowKit
set_option linter.all false
def PlayPost (m : Mach) (n : Net) (x : Asy) (a : Acts) (base P : Nat) (val : Key → Value) (w : World) (e : Ending) (w' : World) : Prop :=
  e = .returned (.bool (mayB n x a)) ∧ Below base w w' ∧ Frame val x w w' ∧ ∃ val', AsyB w' base val' (playX m n x a) P
set_option maxRecDepth 100000 in
set_option maxHeartbeats 4000000 in
theorem impl_play (vs ve vc vo : Value) (m : Mach) (ne ni nn : Value) (n : Net) (val : Key → Value) (x : Asy) (base P : Nat) (ak an ap aa : Int) (w : World) (hm0 : MachR w base vs ve vc vo m) (hn0 : NetR w base ne ni nn n) (hK : AsyB w base val x P) (hbase : base ≤ w.heap.size) (hg : goodP m n x) :
  Calls Tryz.prog 45 #[machV vs ve vc vo m, .agg #[ne, ni, nn], .pointer (some ⟨P, 0, none⟩), .agg #[.int .i64 ak, .int .i64 an, .int .i64 ap, .int .i64 aa]] w (PlayPost m n x ⟨ak, an, ap, aa⟩ base P val w) := by
 unfold machV;have hm := hm0.to (Below.refl _ _) hbase;have hn := hn0.more hbase;have h40 := hg.1.2.1.1.2;have hX := AsyK.reads hK.k (I64A.good hg);have HG := Lib.hid hg;have HK := Lib.hid hK;have hP := hK.lt;obtain ⟨A10, c10, er⟩ := own_sl1 (hK.k.own .r trivial);obtain ⟨A11, c11, eb⟩ := own_sl1 (hK.k.own .b trivial);obtain ⟨A12, c12, en⟩ := own_sl1 (hK.k.own .n trivial);obtain ⟨A8, c8, es⟩ := own_sl1 (hK.k.own .s trivial);obtain ⟨A9, c9, ef⟩ := own_sl1 (hK.k.own .f trivial);have hbx := hK.box;rw [er, eb, en, es, ef] at hbx hX;generalize (rowK x val .r).len = m10 at hbx hX;generalize (rowK x val .b).len = m11 at hbx hX;generalize (rowK x val .n).len = m12 at hbx hX;generalize (rowK x val .s).len = m8 at hbx hX;generalize (rowK x val .f).len = m9 at hbx hX;have HY := Lib.hid hbx;have HX := Lib.hid hX;obtain ⟨bm, hbm⟩ : ∃ b, b = mayB n x ⟨ak, an, ap, aa⟩ := ⟨_, rfl⟩
 have HBM := Lib.hid hbm;obtain ⟨⟨A0, m0, c0, rfl⟩, ⟨A1, m1, c1, rfl⟩, ⟨A2, m2, c2, rfl⟩, A3, m3, c3, rfl⟩ := hm.slices;obtain ⟨⟨A4, m4, c4, rfl⟩, ⟨A5, m5, c5, rfl⟩, A6, m6, c6, rfl⟩ := hn.slices;have HM0 := Lib.hid hm0;have HN0 := Lib.hid hn0;clear hg hK er eb en es ef hbx hX hbm hm0 hn0;obtain ⟨w0, hw0, hb0, HM, hz0, HS0⟩ := box7 w (.int .i64 m.deg) (.int .i64 m.st) (.int .i64 m.msg) (.slice A0 m0 c0) (.slice A1 m1 c1) (.slice A2 m2 c2) (.slice A3 m3 c3) 46;obtain ⟨w1, hw1, hb1, HD, hz1, HS1⟩ := box3 w0 (.slice A4 m4 c4) (.slice A5 m5 c5) (.slice A6 m6 c6) 50;replace HM := bk HM hb1;obtain ⟨w2, hw2, hb2, HA, hz2, HS2⟩ := box4a w1 (.int .i64 ak) (.int .i64 an) (.int .i64 ap) (.int .i64 aa) 84;replace HM := bk HM hb2;replace HD := bk HD hb2;have hB : Below w.heap.size w w2 := bl_trans (bl_trans (hb0) hb1) hb2;have HW := Lib.hid (show w2 = ((w.alloc (.cells #[.int .i64 m.deg, .int .i64 m.st, .int .i64 m.msg, .slice A0 m0 c0, .slice A1 m1 c1, .slice A2 m2 c2, .slice A3 m3 c3] 46)).alloc (.cells #[.slice A4 m4 c4, .slice A5 m5 c5, .slice A6 m6 c6] 50)).alloc (.cells #[.int .i64 ak, .int .i64 an, .int .i64 ap, .int .i64 aa] 84) by rw [hw2, hw1, hw0]);obtain ⟨P1, hP1⟩ : ∃ z, z = w0.heap.size := ⟨_, rfl⟩
 have HP1 := Lib.hid (show w.heap.size + 1 = P1 by rw [hP1, HS0.out]);have hPl1 : w.heap.size < P1 := by rw [← HP1.out]; omega
 rw [← hP1] at HD hz1;obtain ⟨P2, hP2⟩ : ∃ z, z = w1.heap.size := ⟨_, rfl⟩
 have HP2 := Lib.hid (show w.heap.size + 1 + 1 = P2 by rw [hP2, HS1.out, HS0.out]);have hPl2 : w.heap.size < P2 := by rw [← HP2.out]; omega
 rw [← hP2] at HA hz2;obtain ⟨⟨g0, g1, g2⟩, ⟨g3, g4, g5, g6⟩, gf⟩ := cells7 HM;obtain ⟨q0, q1, q2, qf⟩ := cells3 HD;obtain ⟨⟨u0, u1⟩, ⟨u2, u3⟩, uf⟩ := cells4a HA;have eg0 := g0;have eg1 := g1;have eg2 := g2;have eg3 := g3;have eg4 := g4;have eg5 := g5;have eg6 := g6;have eq0 := q0;have eq1 := q1;have eq2 := q2;have eu0 := u0;have eu1 := u1;have eu2 := u2;have eu3 := u3;rw [HW.out] at eg0 eg1 eg2 eg3 eg4 eg5 eg6 eq0 eq1 eq2 eu0 eu1 eu2 eu3;rw [← HP1.out] at eq0 eq1 eq2;rw [← HP2.out] at eu0 eu1 eu2 eu3;have hzb0 : w.heap.size < w2.heap.size := by omega
 have hzb1 : P1 < w2.heap.size := by omega
 have hzb2 : P2 < w2.heap.size := by omega
 have HR := Lib.hid (hm.up hB);have HN := Lib.hid (hn.up hB);clear hw2 hw1 hw0 hP1 hP2;replace HY := bk (bk (bk HY hb0) hb1) hb2;replace HX := Lib.hid (HX.out.up hB);obtain ⟨⟨y0, y1, y2⟩, ⟨y3, y4⟩, yf⟩ := cells5 HY;have HK2 := Lib.hid (HK.out.up hB);have hP2 := HK2.out.lt;go_enter Tryz.func45, Tryz.ntmps45;go_wp2_with fail;rw [HP2.out, HP1.out, ← HW.out];clear eg0 eg1 eg2 eg3 eg4 eg5 eg6 eq0 eq1 eq2 eu0 eu1 eu2 eu3;refine wp_region_held_drew (S := fun w' => w'.cell? ⟨P1, 0, none⟩ = some (.slice A4 m4 c4) ∧ w'.cell? ⟨P1, 1, none⟩ = some (.slice A5 m5 c5) ∧ w'.cell? ⟨P1, 2, none⟩ = some (.slice A6 m6 c6) ∧ w'.cell? ⟨P, 0, none⟩ = some (.slice A10 m10 c10) ∧ w'.cell? ⟨P, 1, none⟩ = some (.slice A11 m11 c11) ∧ w'.cell? ⟨P, 2, none⟩ = some (.slice A12 m12 c12) ∧ w'.cell? ⟨P, 3, none⟩ = some (.slice A8 m8 c8) ∧ w'.cell? ⟨P, 4, none⟩ = some (.slice A9 m9 c9) ∧ w'.cell? ⟨P2, 0, none⟩ = some (.int .i64 ak) ∧ w'.cell? ⟨P2, 1, none⟩ = some (.int .i64 an) ∧ w'.cell? ⟨P2, 2, none⟩ = some (.int .i64 ap) ∧ w'.cell? ⟨P2, 3, none⟩ = some (.int .i64 aa)) (by kernel_rfl) ?_ (fun hHeld => ?_)
 · go_keep
 refine stk 0 9 ?_;refine stk 1 10 ?_;refine stk 2 11 ?_;refine stk 3 12 ?_;refine stk 4 13 ?_;refine tr 5 rfl (by kernel_rfl) (fun K hK => ?_);go_simp;go_at_call 85;refine (impl_mayAsync m _ _ _ n _ _ _ _ _ x ak an ap aa w2.drew (HN.out.up (Below.refl _ _).drew) (HX.out.up (Below.refl _ _).drew) (by omega) HG.out.1.2.1 HG.out.2).mono ?_;rintro e w3 ⟨rfl, hb3'⟩;have hb3 : Below w2.heap.size w2 w3 := (Below.refl _ _).drew.trans hb3';rw [← HBM.out];clear hb3' y0 y1 y2 y3 y4 yf;have hzhb3 := hb3.size;clear g0 g1 g2 g3 g4 g5 g6 gf q0 q1 q2 qf u0 u1 u2 u3 uf;replace HM := bk HM hb3;replace HD := bk HD hb3;replace HA := bk HA hb3;replace hB := bl_trans hB hb3;obtain ⟨⟨g0, g1, g2⟩, ⟨g3, g4, g5, g6⟩, gf⟩ := cells7 HM;obtain ⟨q0, q1, q2, qf⟩ := cells3 HD;obtain ⟨⟨u0, u1⟩, ⟨u2, u3⟩, uf⟩ := cells4a HA;replace HY := bk HY hb3;obtain ⟨⟨y0, y1, y2⟩, ⟨y3, y4⟩, yf⟩ := cells5 HY;have HK3 := Lib.hid (HK2.out.up hb3);refine hK.out _ _ ?_ (fun hHeld => ?_)
 · go_keep
 clear hK K
 try simp only [Act.put, pu]
 refine stk 6 15 ?_;refine wpAnyH_done (by kernel_rfl) ?_ _;clear y0 y1 y2 y3 y4 yf;cases bm with
 | false =>
  have e2 : playX m n x ⟨ak, an, ap, aa⟩ = x := by unfold playX; rw [← HBM.out]; rfl
  have HF := Lib.hid (show PlayPost m n x ⟨ak, an, ap, aa⟩ base P val w (.returned (.bool false)) w3 from ⟨by rw [← HBM.out], hB.mono hbase, Frame.of hB, val, by rw [e2]; exact HK3.out⟩);clear e2;go_wp2_with fail;go_ret;exact HF.out
 | true =>
  have e2 : playX m n x ⟨ak, an, ap, aa⟩ = doA m n x ⟨ak, an, ap, aa⟩ := by unfold playX; rw [← HBM.out]; rfl
  have HE := Lib.hid e2;clear e2;go_wp2_with fail;have hC := impl_doAsync _ _ _ _ m _ _ _ n val x base P ak an ap aa w3 (HM0.out.to (hB.mono hbase) (Nat.le_refl _)) (HN0.out.below (hB.mono hbase)) HK3.out (by have := hB.size; omega) HG.out HBM.out.symm;unfold machV at hC;refine hC.mono ?_;clear hC;rintro e w5 ⟨rfl, hb5, hf5, val', -, hk5⟩;have hz3 := hB.size;have HF := Lib.hid (show PlayPost m n x ⟨ak, an, ap, aa⟩ base P val w (.returned (.bool true)) w5 from ⟨by rw [← HBM.out], (hB.mono hbase).trans hb5, ⟨Nat.le_trans hz3 hf5.1, fun b hb hn => (hf5.2 b (Nat.lt_of_lt_of_le hb hz3) hn).trans (hB.block b hb)⟩, val', by rw [HE.out]; exact hk5⟩);clear hb5 hf5 hk5 g0 g1 g2 g3 g4 g5 g6 gf q0 q1 q2 qf u0 u1 u2 u3 uf;go_wp2_with fail;go_ret;exact HF.out
def PyRel (m : Mach) (n : Net) (x : Asy) (base : Nat) (ys : List Acts) (P : Nat) (w : World) (u i : Value) (wr : World) : Prop :=
  ∃ (j : Nat) (val : Key → Value), j ≤ ys.length ∧ i = .int .i64 j ∧ wr.ownsRow w.heap.size 4 1 u j ((didL m n x (ys.take j)).map .bool) ∧ AsyB wr base val (runX m n x (ys.take j)) P ∧ w.grownBy wr (some P)
set_option maxRecDepth 100000 in
set_option maxHeartbeats 4000000 in
theorem spec_syPlayD (vs ve vc vo : Value) (m : Mach) (ne ni nn : Value) (n : Net) (val : Key → Value) (x : Asy) (v : Value) (ys : List Acts) (base b0 : Nat) (w : World) (hm : MachR w w.heap.size vs ve vc vo m) (hn : NetR w w.heap.size ne ni nn n) (hK : AsyK w base val x) (hbase : base ≤ w.heap.size) (hv : ActsR w b0 v ys) (hl : ys.length ≤ 1000) (hg : goodP m n x) :
  Calls Tryz.prog 35 #[machV vs ve vc vo m, .agg #[ne, ni, nn], .agg #[val .r, val .b, val .n, val .s, val .f], v] w fun e w' => ∃ val' u, e = .returned (.tuple #[.agg #[val' .r, val' .b, val' .n, val' .s, val' .f], u]) ∧ AsyK w' base val' (runX m n x ys) ∧ Below w.heap.size w w' ∧ (∃ A c, u = .slice A ys.length c) ∧ TruesO w' w.heap.size u (didL m n x ys) := by
 unfold machV;have HG := Lib.hid hg;have HK0 := Lib.hid hK;have HV := Lib.hid hv;have HMM := Lib.hid hm;have HNN := Lib.hid hn;have hx := AsyK.reads hK (I64A.good hg);obtain ⟨A10, c10, er⟩ := own_sl1 (hK.own .r trivial);obtain ⟨A11, c11, eb⟩ := own_sl1 (hK.own .b trivial);obtain ⟨A12, c12, en⟩ := own_sl1 (hK.own .n trivial);obtain ⟨A8, c8, es⟩ := own_sl1 (hK.own .s trivial);obtain ⟨A9, c9, ef⟩ := own_sl1 (hK.own .f trivial);rw [er, eb, en, es, ef] at hx;have HE := Lib.hid (And.intro er (And.intro eb (And.intro en (And.intro es ef))));rw [er, eb, en, es, ef];clear er eb en es ef;generalize (rowK x val .r).len = m10 at HE hx ⊢;generalize (rowK x val .b).len = m11 at HE hx ⊢;generalize (rowK x val .n).len = m12 at HE hx ⊢;generalize (rowK x val .s).len = m8 at HE hx ⊢;generalize (rowK x val .f).len = m9 at HE hx ⊢;obtain ⟨Av, cv, rfl⟩ := hv.slice;obtain ⟨⟨A0, m0, c0, rfl⟩, ⟨A1, m1, c1, rfl⟩, ⟨A2, m2, c2, rfl⟩, A3, m3, c3, rfl⟩ := hm.slices;obtain ⟨⟨A4, m4, c4, rfl⟩, ⟨A5, m5, c5, rfl⟩, A6, m6, c6, rfl⟩ := hn.slices;clear hg hv;obtain ⟨w0, hw0, hb0, HM, hz0, HS0⟩ := box7 w (.int .i64 m.deg) (.int .i64 m.st) (.int .i64 m.msg) (.slice A0 m0 c0) (.slice A1 m1 c1) (.slice A2 m2 c2) (.slice A3 m3 c3) 46;obtain ⟨w1, hw1, hb1, HD, hz1, HS1⟩ := box3 w0 (.slice A4 m4 c4) (.slice A5 m5 c5) (.slice A6 m6 c6) 50;replace HM := bk HM hb1;obtain ⟨w2, hw2, hb2, HY, hz2, HS2⟩ := box5 w1 (.slice A10 m10 c10) (.slice A11 m11 c11) (.slice A12 m12 c12) (.slice A8 m8 c8) (.slice A9 m9 c9) 40;replace HM := bk HM hb2;replace HD := bk HD hb2;have hB : Below w.heap.size w w2 := bl_trans (bl_trans (hb0) hb1) hb2;have HW := Lib.hid (show w2 = ((w.alloc (.cells #[.int .i64 m.deg, .int .i64 m.st, .int .i64 m.msg, .slice A0 m0 c0, .slice A1 m1 c1, .slice A2 m2 c2, .slice A3 m3 c3] 46)).alloc (.cells #[.slice A4 m4 c4, .slice A5 m5 c5, .slice A6 m6 c6] 50)).alloc (.cells #[.slice A10 m10 c10, .slice A11 m11 c11, .slice A12 m12 c12, .slice A8 m8 c8, .slice A9 m9 c9] 40) by rw [hw2, hw1, hw0]);obtain ⟨P1, hP1⟩ : ∃ z, z = w0.heap.size := ⟨_, rfl⟩
 have HP1 := Lib.hid (show w.heap.size + 1 = P1 by rw [hP1, HS0.out]);have hPl1 : w.heap.size < P1 := by rw [← HP1.out]; omega
 rw [← hP1] at HD hz1;obtain ⟨P2, hP2⟩ : ∃ z, z = w1.heap.size := ⟨_, rfl⟩
 have HP2 := Lib.hid (show w.heap.size + 1 + 1 = P2 by rw [hP2, HS1.out, HS0.out]);have hPl2 : w.heap.size < P2 := by rw [← HP2.out]; omega
 rw [← hP2] at HY hz2;obtain ⟨⟨g0, g1, g2⟩, ⟨g3, g4, g5, g6⟩, gf⟩ := cells7 HM;obtain ⟨q0, q1, q2, qf⟩ := cells3 HD;obtain ⟨⟨y0, y1, y2⟩, ⟨y3, y4⟩, yf⟩ := cells5 HY;have eg0 := g0;have eg1 := g1;have eg2 := g2;have eg3 := g3;have eg4 := g4;have eg5 := g5;have eg6 := g6;have eq0 := q0;have eq1 := q1;have eq2 := q2;have ey0 := y0;have ey1 := y1;have ey2 := y2;have ey3 := y3;have ey4 := y4;rw [HW.out] at eg0 eg1 eg2 eg3 eg4 eg5 eg6 eq0 eq1 eq2 ey0 ey1 ey2 ey3 ey4;rw [← HP1.out] at eq0 eq1 eq2;rw [← HP2.out] at ey0 ey1 ey2 ey3 ey4;have hzb0 : w.heap.size < w2.heap.size := by omega
 have hzb1 : P1 < w2.heap.size := by omega
 have hzb2 : P2 < w2.heap.size := by omega
 have HR := Lib.hid (hm.up hB);have HN := Lib.hid (hn.up hB);have HX := Lib.hid (hx.up hB);clear hw2 hw1 hw0 hP1 hP2;clear hK HR HN HX;obtain ⟨w3, hw3, hb3, HQ, hz3, HS3⟩ := box5 w2 nilV nilV nilV nilV nilV 40;unfold nilV at hw3 HQ;obtain ⟨P3, hP3⟩ : ∃ z, z = w2.heap.size := ⟨_, rfl⟩
 have HP3 := Lib.hid (show P2 + 1 = P3 by rw [hP3, HS2.out, HS1.out, HS0.out, ← HP2.out]);rw [← hP3] at HQ hz3;have HW3 := Lib.hid hw3;have hP23 : P2 < P3 := by rw [← HP3.out]; omega
 have hP12 : P1 < P2 := by rw [← HP2.out, ← HP1.out]; omega
 clear hw3 hP3;go_enter Tryz.func35, Tryz.ntmps35;go_wp2_with fail;rw [HP2.out, HP1.out, ← HW.out];clear eg0 eg1 eg2 eg3 eg4 eg5 eg6 eq0 eq1 eq2 ey0 ey1 ey2 ey3 ey4;rw [HP3.out, ← HW3.out];have hzhb3 := hb3.size;clear g0 g1 g2 g3 g4 g5 g6 gf q0 q1 q2 qf y0 y1 y2 y3 y4 yf;replace HM := bk HM hb3;replace HD := bk HD hb3;replace HY := bk HY hb3;replace hB := bl_trans hB hb3;obtain ⟨⟨g0, g1, g2⟩, ⟨g3, g4, g5, g6⟩, gf⟩ := cells7 HM;obtain ⟨q0, q1, q2, qf⟩ := cells3 HD;obtain ⟨⟨y0, y1, y2⟩, ⟨y3, y4⟩, yf⟩ := cells5 HY;have HB := Lib.hid hB;have hPw := hPl2;have HB2 := Lib.hid (show AsyB w3 base val x P2 from ⟨AsyK.up HK0.out hB, fun j hj e => by have := ((HK0.out.own j hj).lt P2 e).2; omega, by rw [HE.out.1, HE.out.2.1, HE.out.2.2.1, HE.out.2.2.2.1, HE.out.2.2.2.2]; exact HY.out⟩);go_loopw [10, 17] (fun u i wr => PyRel m n x base ys P2 w3 u i wr) (fun _ i _ => ys.length - (intOf i).toNat)
 case atStart => exact ⟨0, val, Nat.zero_le _, rfl, World.ownsRow_nil _ _ _ _, HB2.out, ⟨rfl, rfl, rfl, Nat.le_refl _, fun _ _ _ => rfl⟩⟩
 case round =>
  obtain ⟨j, vk, hj, rfl, ho, hk, hgr⟩ := hrel;have HDJ := Lib.hid ho;obtain ⟨bs, hbs⟩ : ∃ z, z = (didL m n x (ys.take j)).map Value.bool := ⟨_, rfl⟩
  rw [← hbs] at ho;have HBS := Lib.hid hbs;clear hbs;have hsz := hgr.size;obtain ⟨Au, cu, rfl⟩ := own_sl1 ho;have hBr : Below w.heap.size w wr := Below.grown HB.out hgr (by omega) (fun k hk => by have e := Option.some.inj (show some P2 = some k from hk); omega);have HMr := Lib.hid ((hgr.block w.heap.size (by omega) (fun e => by have := Option.some.inj e; omega)).trans HM.out);have HDr := Lib.hid ((hgr.block P1 (by omega) (fun e => by have := Option.some.inj e; omega)).trans HD.out);have HQr := Lib.hid ((hgr.block P3 (by omega) (fun e => by have := Option.some.inj e; omega)).trans HQ.out);have hgk := good_run HG.out (ys.take j);have HGK := Lib.hid hgk;have HO := Lib.hid ho;have HK := Lib.hid hk;have hPr := hk.lt;have hxk := AsyK.reads hk.k (I64A.good hgk);obtain ⟨B10, d10, er⟩ := own_sl1 (hk.k.own .r trivial);obtain ⟨B11, d11, eb⟩ := own_sl1 (hk.k.own .b trivial);obtain ⟨B12, d12, en⟩ := own_sl1 (hk.k.own .n trivial);obtain ⟨B8, d8, es⟩ := own_sl1 (hk.k.own .s trivial);obtain ⟨B9, d9, ef⟩ := own_sl1 (hk.k.own .f trivial);have hbx := hk.box;have HEK := Lib.hid (And.intro er (And.intro eb (And.intro en (And.intro es ef))));rw [er, eb, en, es, ef] at hbx hxk;clear er eb en es ef;generalize (rowK (runX m n x (ys.take j)) vk .r).len = n10 at HEK hbx hxk;generalize (rowK (runX m n x (ys.take j)) vk .b).len = n11 at HEK hbx hxk;generalize (rowK (runX m n x (ys.take j)) vk .n).len = n12 at HEK hbx hxk;generalize (rowK (runX m n x (ys.take j)) vk .s).len = n8 at HEK hbx hxk;generalize (rowK (runX m n x (ys.take j)) vk .f).len = n9 at HEK hbx hxk;have HYr := Lib.hid hbx;have HXK := Lib.hid hxk;clear hk hgk hbx hxk ho g0 g1 g2 g3 g4 g5 g6 gf q0 q1 q2 qf y0 y1 y2 y3 y4 yf hB;obtain ⟨⟨g0, g1, g2⟩, ⟨g3, g4, g5, g6⟩, gf⟩ := cells7 HMr;obtain ⟨q0, q1, q2, qf⟩ := cells3 HDr;obtain ⟨⟨y0, y1, y2⟩, ⟨y3, y4⟩, yf⟩ := cells5 HYr;by_cases hlt : j < ys.length
  ·
   obtain ⟨⟨ak, an, ap, aa⟩, hya⟩ : ∃ y, ys[j]? = some y := ⟨_, List.getElem?_eq_getElem hlt⟩
   obtain ⟨gv, cv', ev, hgv, -, -, r0, r1, r2, r3⟩ := ActsR.read HV.out hya;obtain ⟨rfl, rfl⟩ : Av = some ⟨gv, 0, none⟩ ∧ cv = cv' := by have := Value.slice.inj ev;exact ⟨this.1, this.2.2⟩
   replace r0 := (hBr.cell (p := ⟨gv, j * 4, none⟩) (by exact hgv)).trans r0;replace r1 := (hBr.cell (p := ⟨gv, j * 4 + 1, none⟩) (by exact hgv)).trans r1;replace r2 := (hBr.cell (p := ⟨gv, j * 4 + 2, none⟩) (by exact hgv)).trans r2;replace r3 := (hBr.cell (p := ⟨gv, j * 4 + 3, none⟩) (by exact hgv)).trans r3;have hjl : (j : Int) < (ys.length : Int) := by omega
   have HYA := Lib.hid hya;clear hya ev;obtain ⟨wa, hwa, hba, HA, hza, HSA⟩ := box4a wr (.int .i64 ak) (.int .i64 an) (.int .i64 ap) (.int .i64 aa) 84;have HMa := bk HMr hba;have HDa := bk HDr hba;have HYa := bk HYr hba;have HQa := bk HQr hba;have hBa := bl_trans hBr hba;have hzaa := hba.size;obtain ⟨⟨g0', g1', g2'⟩, ⟨g3', g4', g5', g6'⟩, gf'⟩ := cells7 HMa;obtain ⟨q0', q1', q2', qf'⟩ := cells3 HDa;obtain ⟨⟨y0', y1', y2'⟩, ⟨y3', y4'⟩, yf'⟩ := cells5 HYa;rw [hwa] at g0' g1' g2' g3' g4' g5' g6' q0' q1' q2' y0' y1' y2' y3' y4';have HWA := Lib.hid hwa;clear hwa gf' qf' yf' g0 g1 g2 g3 g4 g5 g6 gf q0 q1 q2 qf y0 y1 y2 y3 y4 yf;go_wp2_with fail;rw [← HWA.out];have hC := spec_syDo _ _ _ _ m _ _ _ n _ _ _ _ _ (runX m n x (ys.take j)) ak an ap aa wa (HMM.out.up hBa) (HNN.out.up hBa) (HXK.out.up hba) HGK.out;unfold machV at hC;refine hC.mono ?_;clear hC g0' g1' g2' g3' g4' g5' g6' q0' q1' q2' y0' y1' y2' y3' y4' r0 r1 r2 r3;rintro e wb ⟨ur, ub, un, us, uf, rfl, hbb, hdid⟩;have hd2 : Did (mayB n (runX m n x (ys.take j)) ⟨ak, an, ap, aa⟩) wb wa.heap.size (vk .r) (vk .b) (vk .n) (vk .s) (vk .f) ur ub un us uf (doA m n (runX m n x (ys.take j)) ⟨ak, an, ap, aa⟩) := by rw [HEK.out.1, HEK.out.2.1, HEK.out.2.2.1, HEK.out.2.2.2.1, HEK.out.2.2.2.2];exact hdid
   obtain ⟨val', e0, e1, e2, e3, e4, hk'⟩ := hd2.play (AsyK.up HK.out.k hba) hbb (by omega);rw [← runX_snoc, ← take_snoc HYA.out] at hk';obtain ⟨C10, f10, er⟩ := own_sl1 (hk'.own .r trivial);obtain ⟨C11, f11, eb⟩ := own_sl1 (hk'.own .b trivial);obtain ⟨C12, f12, en⟩ := own_sl1 (hk'.own .n trivial);obtain ⟨C8, f8, es⟩ := own_sl1 (hk'.own .s trivial);obtain ⟨C9, f9, ef⟩ := own_sl1 (hk'.own .f trivial);rw [er] at e0;rw [eb] at e1;rw [en] at e2;rw [es] at e3;rw [ef] at e4;have HEN := Lib.hid (And.intro er (And.intro eb (And.intro en (And.intro es ef))));have HKP := Lib.hid hk';clear hdid hd2 er eb en es ef hk';generalize (rowK (runX m n x (ys.take (j + 1))) val' .r).len = l10 at HEN e0;generalize (rowK (runX m n x (ys.take (j + 1))) val' .b).len = l11 at HEN e1;generalize (rowK (runX m n x (ys.take (j + 1))) val' .n).len = l12 at HEN e2;generalize (rowK (runX m n x (ys.take (j + 1))) val' .s).len = l8 at HEN e3;generalize (rowK (runX m n x (ys.take (j + 1))) val' .f).len = l9 at HEN e4;subst e0 e1 e2 e3 e4;obtain ⟨wc, hwc, hbc, HC, hzc, HSC⟩ := box5 wb (.slice C10 l10 f10) (.slice C11 l11 f11) (.slice C12 l12 f12) (.slice C8 l8 f8) (.slice C9 l9 f9) 40;have hzb := hbb.size;have HYc := bk (bk HYa hbb) hbc;have hzc2 := hbc.size;have hbac := bl_trans (bl_trans hba hbb) hbc;obtain ⟨⟨y0, y1, y2⟩, ⟨y3, y4⟩, yf⟩ := cells5 HYc;rw [hwc] at y0 y1 y2 y3 y4 yf;obtain ⟨we, hwe, HE5, hge⟩ := set5 HYc (.slice C10 l10 f10) (.slice C11 l11 f11) (.slice C12 l12 f12) (.slice C8 l8 f8) (.slice C9 l9 f9);have HWC := Lib.hid hwc;have HWE := Lib.hid hwe;have hze := hge.size;have hse : wb.heap.size + 1 = we.heap.size := by rw [hwe]; simp only [size_setCell]; exact HSC.out.symm
   have HSE := Lib.hid hse;clear hse;obtain ⟨bv, hbv⟩ : ∃ b, b = mayB n (runX m n x (ys.take j)) ⟨ak, an, ap, aa⟩ := ⟨_, rfl⟩
   have HBV := Lib.hid hbv;rw [← hbv]
   have hoe : we.ownsRow w3.heap.size 4 1 (.slice Au j cu) j bs := World.ownsRow.kept (own_up HO.out hbac) hge (by
    cases e : (Value.slice Au j cu).ownBlock with
    | none => exact .inl rfl
    | some g =>
     refine .inr fun e' => ?_
     have h1 := (World.ownsRow.lt HO.out g e).1;have h2 := Option.some.inj e'
     omega)
   have HOE := Lib.hid hoe;clear hwc hwe hbv hoe;go_wp2_with (at_builtin; (try rw [← HWC.out]); (try rw [← HWE.out]); (try rw [HSE.out]); refine wpList_append1 we rfl (.tmp 30) (.tmp 32) 41 rfl w3.heap.size 4 _ 1 Tryz.underlying41 boolInf2 rfl _ _ _ rfl _ rfl rfl HOE.out (by unfold maxLen; omega) (by omega) (by omega) ?_; intro v8 w8 hown8 hbl8 hgr8 hlt8 hob8)
   have hKe : AsyB we base val' (runX m n x (ys.take (j + 1))) P2 := by have h1 := AsyK.up HKP.out hbc;refine ⟨AsyK.past h1 HYc.out hge, fun i hi => AsyK.noTy h1 hi HYc.out no_tyK_state, ?_⟩;rw [HEN.out.1, HEN.out.2.1, HEN.out.2.2.1, HEN.out.2.2.2.1, HEN.out.2.2.2.2];exact HE5.out
   have hK8 : AsyB w8 base val' (runX m n x (ys.take (j + 1))) P2 := hKe.aside hgr8 fun g hg => by obtain ⟨cur, fz, h1⟩ := own_ty HOE.out g hg;exact ⟨cur, _, fz, h1, no_tyK_bool, by decide⟩
   have hG8 : w3.grownBy w8 (some P2) := ⟨hgr8.os.trans (hge.os.trans (hbac.os.trans hgr.os)), hgr8.tape.trans (hge.tape.trans (hbac.tape.trans hgr.tape)), hgr8.output.trans (hge.output.trans (hbac.output.trans hgr.output)), by omega, fun b hb hne => by
    have h1 := hgr8.block b (by omega) (fun e => by have := (World.ownsRow.lt HOE.out b e.symm).1; omega);have h2 := hge.block b (by omega) hne;have h3 := hbac.block b (by omega)
    exact h1.trans (h2.trans (h3.trans (hgr.block b hb hne)))⟩
   have HK8 := Lib.hid hK8;have HG8 := Lib.hid hG8
   have HO8 := Lib.hid (show w8.ownsRow w3.heap.size 4 1 v8 (j + 1) ((didL m n x (ys.take (j + 1))).map .bool) by
    rw [take_snoc HYA.out, didL_snoc, List.map_append, ← HBS.out, List.map_cons, List.map_nil, ← HBV.out]
    exact hown8)
   clear hK8 hG8 hKe hown8 hbl8 hgr8 hlt8 hob8 y0 y1 y2 y3 y4 yf;go_wp2_with fail;go_roundw
   case rel => exact ⟨j + 1, val', by omega, by go_num, HO8.out, HK8.out, HG8.out⟩
   case measure => simp [intOf]; omega
  ·
   obtain rfl : j = ys.length := by omega
   have HTK := Lib.hid (show ys.take ys.length = ys from List.take_of_length_le (Nat.le_refl _));obtain ⟨we, hwe, HE5, hge⟩ := set5 HQr (.slice B10 n10 d10) (.slice B11 n11 d11) (.slice B12 n12 d12) (.slice B8 n8 d8) (.slice B9 n9 d9);obtain ⟨⟨p0, p1, p2⟩, ⟨p3, p4⟩, pf⟩ := cells5 HQr;have HWE := Lib.hid hwe;clear hwe;go_wp2_with fail;rw [← HWE.out];obtain ⟨⟨s0, s1, s2⟩, ⟨s3, s4⟩, -⟩ := cells5 HE5;have hBE : Below w.heap.size w we := Below.grown hBr hge (by omega) (fun k hk => by have e := Option.some.inj (show some P3 = some k from hk); omega);have hKE : AsyK we base vk (runX m n x ys) := by have h1 := AsyK.past HK.out.k HQr.out hge;rw [HTK.out] at h1;exact h1
   have hOE : TruesO we w.heap.size (.slice Au ys.length cu) (didL m n x ys) := by
    have h1 := World.ownsRow.kept (HDJ.out) hge (by
     cases e : (Value.slice Au ys.length cu).ownBlock with
     | none => exact .inl rfl
     | some g =>
      refine .inr fun e' => ?_
      have h1 := (World.ownsRow.lt HDJ.out g e).1;have h2 := Option.some.inj e'
      omega)
    rw [HTK.out] at h1;unfold TruesO;rw [didL_len];refine ⟨h1.1, h1.2.imp id fun ⟨g, cap, cur, e, hb, hx⟩ => ⟨g, cap, cur, e, by omega, hx⟩⟩
   exact bodyPost_ret (v := .tuple #[.agg #[.slice B10 n10 d10, .slice B11 n11 d11, .slice B12 n12 d12, .slice B8 n8 d8, .slice B9 n9 d9], .slice Au ys.length cu]) (by simp [results, Tryz.results35, go_sem, s0, s1, s2, s3, s4]) rfl ⟨vk, _, by rw [HEK.out.1, HEK.out.2.1, HEK.out.2.2.1, HEK.out.2.2.2.1, HEK.out.2.2.2.2], hKE, hBE, ⟨_, _, rfl⟩, hOE⟩
end Go.Proofs.YtjklbjmdgiddcaaGreat
