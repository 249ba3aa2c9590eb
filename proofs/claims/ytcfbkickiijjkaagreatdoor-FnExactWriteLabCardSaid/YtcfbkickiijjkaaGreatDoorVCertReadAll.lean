/-
  The program's readCertificate, for every list of words.
-/
import Derived.Test.YtcfbkickiijjkaaGreatDoorVPlainCert
namespace Go.Proofs.YtcfbkickiijjkaaGreatDoor
open Go.RowKit
set_option linter.all false
def RdPost (p0 : List UInt8) (t : List (List UInt8)) (w : World) (e : Ending) (w' : World) : Prop :=
  ∃ cl lb vf vs vr f s rs bf bs br, e = .returned (.tuple #[certV cl lb vf vs vr, .bool (propB (isCls p0 = true ∧ strictC (clsI p0) t))]) ∧ I64 lb ∧ OwnInts w' 3 vf f bf ∧ OwnInts w' 3 vs s bs ∧ OwnRows w' 41 3 vr rs br ∧
    (bf ++ bs ++ br).Nodup ∧ (∀ x ∈ bf ++ bs ++ br, w.heap.size ≤ x ∧ x < w'.heap.size) ∧ Below w.heap.size w w' ∧
    (isCls p0 = true ∧ strictC (clsI p0) t → cl = clsI p0 ∧ lb = scLb (clsI p0) t ∧ f = scF (clsI p0) t ∧ s = scS (clsI p0) t ∧ rs = scR (clsI p0) t)
theorem rd_none {p0 : List UInt8} {t : List (List UInt8)} {w w' : World} {e : Ending} (h : RcNone w e w') (hn : ¬ (isCls p0 = true ∧ strictC (clsI p0) t)) : RdPost p0 t w e w' := by
  obtain ⟨rfl, hb⟩ := h
  refine ⟨0, 0, _, _, _, [], [], [], [], [], [], by rw [propB_f hn], by unfold I64; omega, own_none _ _, own_none _ _, rows_none _ _ _, List.nodup_nil, (fun _ h => by cases h), hb, fun h => absurd h hn⟩
theorem cnt_m (p : List UInt8) : cntI (clsI p) = ((mC (clsI p) + 1 : Nat) : Int) := by
  rcases cls_cases p with e | e | e | e <;> rw [e] <;> decide
theorem mC_le (c : Int) : mC c ≤ 3 := by unfold mC; split; omega; split; omega; split <;> omega
theorem I64_lbTo (ps : List (List UInt8)) (k : Nat) : I64 (lbTo ps k) := by
  unfold lbTo
  split
  · unfold rdV
    split
    · rename_i h
      have := (canB_iff.1 h).lt
      unfold I64; omega
    · unfold I64; omega
  · unfold I64; omega
theorem rd_some {p0 : List UInt8} {t : List (List UInt8)} {w w' : World} {e : Ending} (hc : isCls p0 = true) (hl : mC (clsI p0) ≤ t.length) (h : RcPost (clsI p0) (t.take (mC (clsI p0))) (t.drop (mC (clsI p0))) w e w') : RdPost p0 t w e w' := by
  obtain ⟨vf, vs, vr, bf, bs, br, rfl, h1, h2, h3, h4, h5, h6⟩ := h
  have hlen : (t.take (mC (clsI p0))).length = mC (clsI p0) := by rw [List.length_take]; omega
  rw [hlen] at h1 h2 ⊢
  have hb : (okTo (t.take (mC (clsI p0))) (mC (clsI p0)) && okLs 46 (t.drop (mC (clsI p0)))) = propB (isCls p0 = true ∧ strictC (clsI p0) t) := by
    by_cases hs : strictC (clsI p0) t
    · rw [propB_t ⟨hc, hs⟩, hs.2.1, hs.2.2]; rfl
    · rw [propB_f (fun h => hs h.2)]
      cases q1 : okTo (t.take (mC (clsI p0))) (mC (clsI p0)) with
      | false => rfl
      | true =>
        cases q2 : okLs 46 (t.drop (mC (clsI p0))) with
        | false => rfl
        | true => exact absurd ⟨hl, q1, q2⟩ hs
  refine ⟨clsI p0, lbTo (t.take (mC (clsI p0))) (mC (clsI p0)), vf, vs, vr, fTo (t.take (mC (clsI p0))) (mC (clsI p0)), sTo (t.take (mC (clsI p0))) (mC (clsI p0)), resLs 46 (t.drop (mC (clsI p0))), bf, bs, br, by rw [hb], I64_lbTo _ _, h1, h2, h3, h4, h5, h6, fun h => ?_⟩
  obtain ⟨a, b, c, d⟩ := strict_vals (cls_cases p0) h.2
  exact ⟨rfl, a, b, c, d⟩
theorem impl_readCertificate (v : Value) (p0 : List UInt8) (t : List (List UInt8)) (w : World) (h : SlR w w.heap.size v ((p0 :: t).map strV)) (hw : t.length + 1 ≤ 1048577) (hl : ∀ p ∈ p0 :: t, p.length ≤ 1048576) (hm : MaxAt w) (hp : Pow10 w) (he : ErrAt w) :
  Calls Tryz.prog 184 #[v] w fun e w' => RdPost p0 t w e w' := by
 obtain ⟨A, c, rfl, g1, g2, g3⟩ := h
 simp only [List.length_map, List.length_cons] at g1 g3 ⊢
 obtain ⟨ad, rfl, hb, hc⟩ := g3 (by omega)
 have q0 : w.cell? ad = some (.string ⟨p0.toArray⟩) := by
  have h0 : w.cell? (ad.add 0) = some (strV p0) := hc 0 _ rfl
  have e : ad.add 0 = ad := by unfold Addr.add; simp
  rw [e] at h0
  exact h0
 have hcells : ∀ (j : Nat) (p : List UInt8), t[j]? = some p → w.cell? ⟨ad.block, ad.off + 1 + j, none⟩ = some (.string ⟨p.toArray⟩) := fun j p hj => by
  have := hc (j + 1) (strV p) (by simp [hj])
  unfold Addr.add at this
  rw [if_neg (by omega)] at this
  rw [show ad.off + 1 + j = ad.off + (j + 1) by omega]
  exact this
 have hp0 := hl p0 (by simp)
 by_cases hcls : isCls p0 = true
 ·
  by_cases hlen : mC (clsI p0) ≤ t.length
  ·
   have e1 : t.length + 1 = (t.take (mC (clsI p0))).length + 1 + (t.drop (mC (clsI p0))).length := by rw [List.length_take, List.length_drop]; omega
   have e2 : (t.take (mC (clsI p0))).length = mC (clsI p0) := by rw [List.length_take]; omega
   unfold maxLen at g2
   by_cases c1 : c = 1
   ·
    subst c1
    have ht : t = [] := List.eq_nil_of_length_eq_zero (by omega)
    subst ht
    have hz : clsI p0 = 0 := by
     have : mC (clsI p0) = 0 := by simpa using hlen
     rcases cls_cases p0 with e | e | e | e
     ·
      exact e
     ·
      rw [e] at this; exact absurd this (by decide)
     ·
      rw [e] at this; exact absurd this (by decide)
     ·
      rw [e] at this; exact absurd this (by decide)
    refine (rc_one ad p0 w q0 hb hp0 hcls hz hm hp he).mono ?_
    intro e w' h
    exact rd_some hcls hlen (by rw [hz]; exact h)
   ·
    rw [e1]
    refine (rc_main ad c p0 (t.take (mC (clsI p0))) (t.drop (mC (clsI p0))) w q0 hb hp0 (by rw [List.take_append_drop]; exact hcells) (by rw [List.take_append_drop]; exact fun p h => hl p (by simp [h])) (by rw [e2]; exact mC_le _) (by omega) (by omega) (by omega) c1 hcls (clsI p0) rfl (cls_cases p0) (by rw [e2]; exact cnt_m p0) hm hp he).mono ?_
    intro e w' h
    exact rd_some hcls hlen h
  ·
   refine (rc_short ad (t.length + 1) c p0 w q0 hb hp0 (by omega) (by omega) hcls (clsI p0) (mC (clsI p0) + 1) rfl (cls_cases p0) (cnt_m p0) (by omega)).mono ?_
   intro e w' h
   exact rd_none h fun k => hlen k.2.1
 ·
  refine (rc_unknown ad (t.length + 1) c p0 w q0 hb hp0 (by omega) (by omega) (by simpa using hcls)).mono ?_
  intro e w' h
  exact rd_none h fun k => hcls k.1
end Go.Proofs.YtcfbkickiijjkaaGreatDoor
