/-
  An act on an asynchronous state: doAsync as a whole; DoAsync of the reference and of the program.
-/
import Derived.Test.YtehkcodbcnhhoaaGreatEDoSen
import Derived.Test.YtehkcodbcnhhoaaGreatEDoLet
import Derived.Test.YtehkcodbcnhhoaaGreatECopyAsy
import Derived.Test.YtehkcodbcnhhoaaGreatEMaySpec
namespace Go.Proofs.YtehkcodbcnhhoaaGreat
open Go.RowKit
set_option linter.all false
theorem impl_doAsync (vs ve vc vo : Value) (m : Mach) (ne ni nn : Value) (n : Net) (val : Key → Value) (x : Asy) (base P : Nat) (ak an ap aa : Int) (w : World) (hm : MachR w base vs ve vc vo m) (hn : NetR w base ne ni nn n) (hK : AsyB w base val x P) (hbase : base ≤ w.heap.size) (hg : goodP m n x) (hmay : mayB n x ⟨ak, an, ap, aa⟩ = true) :
  Calls Tryz.prog 64 #[machV vs ve vc vo m, .agg #[ne, ni, nn], .pointer (some ⟨P, 0, none⟩), .agg #[.int .i64 ak, .int .i64 an, .int .i64 ap, .int .i64 aa]] w (DoPost w base val x (doA m n x ⟨ak, an, ap, aa⟩) P) := by
 have hq := hg.1.2.1
 cases h1 : inB an 0 ((n.es.length : Int) - 1) with
 | false => rw [may_no1 h1] at hmay; cases hmay
 | true =>
  obtain ⟨k, rfl, hk⟩ := inB_nat h1
  obtain ⟨l, s, f, r, hat⟩ := at_of hg.2 hk
  have hl6 := (hq.2.2.2.2 k l hat.hl).1
  by_cases h5 : ak = 5
  ·
   subst h5
   rw [may_step hat] at hmay
   rw [Bool.and_eq_true, Bool.and_eq_true, Bool.and_eq_true, decide_eq_true_iff, decide_eq_true_iff, decide_eq_true_iff] at hmay
   obtain ⟨rfl, rfl, hr, -⟩ := hmay
   rw [doA_step]
   exact impl_doStep vs ve vc vo m ne ni nn n val x base k l s f r P w hm hn hK hbase hg.1.1 hg.2 hat (by omega) hr
  ·
   by_cases hp : 0 ≤ ap ∧ ap < l.length
   ·
    obtain ⟨p, rfl⟩ : ∃ p : Nat, ap = p := ⟨ap.toNat, by omega⟩
    have hpl : p < l.length := by omega
    obtain ⟨ls, hls⟩ : ∃ y, f[p]? = some y := ⟨_, List.getElem?_eq_getElem (by rw [hat.fl]; exact hpl)⟩
    by_cases h1' : ak = 1
    ·
     subst h1'
     obtain ⟨e, he⟩ : ∃ y, l[p]? = some y := ⟨_, List.getElem?_eq_getElem hpl⟩
     obtain ⟨k2, p2, l2, s2, f2, r2, ls2, e1, e2, hat2, hp2, -⟩ := at_end hg.2 hq hat he
     have ee : e = ((k2 : Int), (p2 : Int)) := by rw [← e1, ← e2]
     subst ee
     rw [may_send hat hls he hat2 hp2 rfl rfl] at hmay
     rw [doA_send m aa hat.hl he]
     exact impl_doSend vs ve vc vo m ne ni nn n val x base k l s f r p ls k2 p2 l2 s2 f2 r2 ls2 aa P w hm hn hK hbase hg hat hls he hat2 hp2 hmay
    ·
     have hak : ak = 2 ∨ ak = 3 ∨ ak = 4 := by
      by_cases h2 : ak = 2
      ·
       exact .inl h2
      ·
       by_cases h3 : ak = 3
       ·
        exact .inr (.inl h3)
       ·
        by_cases h4 : ak = 4
        ·
         exact .inr (.inr h4)
        ·
         rw [may_else hat h5 h1' h2 h3 h4] at hmay; cases hmay
     have haa : 0 ≤ aa ∧ aa < ls.length := by
      rcases hak with rfl | rfl | rfl
      ·
       rw [may_let hat hls (.inl rfl), decide_eq_true_iff] at hmay; exact hmay
      ·
       rw [may_let hat hls (.inr rfl), decide_eq_true_iff] at hmay; exact hmay
      ·
       rw [may_copy hat hls, Bool.and_eq_true, decide_eq_true_iff] at hmay; exact hmay.1
     obtain ⟨a, rfl⟩ : ∃ a : Nat, aa = a := ⟨aa.toNat, by omega⟩
     rw [doA_let m n x k p (a : Int) h5 h1', Int.toNat_natCast]
     exact impl_doLetter vs ve vc vo m ne ni nn n val x base k l s f r p ls ak a P w hm hn hK hbase hat hls (by omega) hak
   ·
    rw [may_no2 hat h5 hp] at hmay; cases hmay
end Go.Proofs.YtehkcodbcnhhoaaGreat
