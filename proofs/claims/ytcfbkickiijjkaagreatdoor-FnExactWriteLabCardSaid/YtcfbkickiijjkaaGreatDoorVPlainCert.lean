/-
  The plain law of ParseCertificate: what the reference reads and writes again is what the program reads strictly, for every good walk problem. No program's function is called here.
-/
import Derived.Test.YtcfbkickiijjkaaGreatDoorVCertImplText
import Derived.Test.YtcfbkickiijjkaaGreatDoorVPlainWalk
import Derived.Test.YtcfbkickiijjkaaGreatDoorVCertRead
namespace Go.Proofs.YtcfbkickiijjkaaGreatDoor
set_option linter.all false
def mC (cl : Int) : Nat := if cl = 0 then 0 else if cl = 3 then 1 else if cl = 1 then 2 else 3
noncomputable def scLb (cl : Int) (t : List (List UInt8)) : Int := if cl = 0 then 0 else rdI (t.getD 0 [])
noncomputable def scF (cl : Int) (t : List (List UInt8)) : List Int := if (cl = 1 ∨ cl = 2) ∧ 2 ≤ t.length then numsR 45 (t.getD 1 []) else []
noncomputable def scS (cl : Int) (t : List (List UInt8)) : List Int := if cl = 2 ∧ 3 ≤ t.length then numsR 45 (t.getD 2 []) else []
noncomputable def scR (cl : Int) (t : List (List UInt8)) : List (List Int) := (t.drop (mC cl)).map (numsR 46)
theorem cls_cases (p : List UInt8) : clsI p = 0 ∨ clsI p = 1 ∨ clsI p = 2 ∨ clsI p = 3 := by unfold clsI; split <;> (try split) <;> (try split) <;> simp
theorem cls_3 {p : List UInt8} (h : clsI p = 3) : p = wConstant := by unfold clsI at h; split at h; assumption; split at h; omega; split at h <;> omega
theorem cls_2 {p : List UInt8} (h : clsI p = 2) : p = wStar := by unfold clsI at h; split at h; omega; split at h; assumption; split at h <;> omega
theorem cls_1 {p : List UInt8} (h : clsI p = 1) : p = wGlobal := by unfold clsI at h; split at h; omega; split at h; omega; split at h; assumption; omega
theorem cls_0 {p : List UInt8} (h : clsI p = 0) (hc : isCls p = true) : p = wNever := by
  have hc' : p = wConstant ∨ p = wStar ∨ p = wGlobal ∨ p = wNever := by simpa [isCls] using hc
  rcases hc' with rfl | rfl | rfl | h'
  · exact absurd h (by decide)
  · exact absurd h (by decide)
  · exact absurd h (by decide)
  · exact h'
theorem nums_ok {b : UInt8} {p : List UInt8} (h : ∀ x ∈ numsR b p, 0 ≤ x) : numsOk b p := fun q hq => (rdI_pos (h (rdI q) (List.mem_map.2 ⟨q, hq, rfl⟩))).1
theorem nums_join46 {p : List UInt8} (h : numsOk 46 p) : numsT [46] (numsR 46 p) = p := by
  unfold numsT numsR
  rw [List.map_map]
  have : (spl 46 p []).map (numT ∘ rdI) = (spl 46 p []).map id := List.map_congr_left fun q hq => numT_rd (h q hq)
  rw [this, List.map_id, join_spl]
  rfl
theorem ranks_back {r : List (List UInt8)} (h : ∀ p ∈ r, numsOk 46 p) : (r.map (numsR 46)).map (numsT [46]) = r := by
  rw [List.map_map]
  have : r.map (numsT [46] ∘ numsR 46) = r.map id := List.map_congr_left fun p hp => nums_join46 (h p hp)
  rw [this, List.map_id]
theorem never_head {rs : List (List Int)} {l p0 : List UInt8} {t : List (List UInt8)} (hl : [110, 101, 118, 101, 114] ++ ranksT rs = l) (hs : spl 32 l [] = p0 :: t) : p0 = wNever := by
  have : ∃ t', spl 32 l [] = wNever :: t' := by
    cases rs with
    | nil =>
      refine ⟨[], ?_⟩
      rw [← hl]
      decide
    | cons x r =>
      refine ⟨spl 32 (numsT [46] x ++ ranksT r) [], ?_⟩
      rw [← hl]
      show spl 32 (110 :: 101 :: 118 :: 101 :: 114 :: 32 :: (numsT [46] x ++ ranksT r)) [] = _
      simp [spl_cons, wNever]
  obtain ⟨t', e⟩ := this
  rw [hs] at e
  exact (List.cons.inj e).1
theorem canB_iff {p : List UInt8} : canB p = true ↔ canP p := propB_iff
theorem okL_iff {b : UInt8} {p : List UInt8} : okL b p = true ↔ numsOk b p := propB_iff
theorem okLs_iff {b : UInt8} {r : List (List UInt8)} : okLs b r = true ↔ ∀ p ∈ r, numsOk b p := propB_iff
def strictC (cl : Int) (t : List (List UInt8)) : Prop := mC cl ≤ t.length ∧ okTo (t.take (mC cl)) (mC cl) = true ∧ okLs 46 (t.drop (mC cl)) = true
theorem strict_vals {cl : Int} {t : List (List UInt8)} (hc : cl = 0 ∨ cl = 1 ∨ cl = 2 ∨ cl = 3) (h : strictC cl t) :
  lbTo (t.take (mC cl)) (mC cl) = scLb cl t ∧ fTo (t.take (mC cl)) (mC cl) = scF cl t ∧ sTo (t.take (mC cl)) (mC cl) = scS cl t ∧ resLs 46 (t.drop (mC cl)) = scR cl t := by
 obtain ⟨h1, h2, h3⟩ := h
 have hr : resLs 46 (t.drop (mC cl)) = scR cl t := by unfold resLs scR; rw [h3]; rfl
 have rv : ∀ p, canB p = true → rdV p = rdI p := fun p hp => by rw [rdI_t (canB_iff.1 hp)]; unfold rdV; rw [hp]; rfl
 have rl : ∀ p, okL 45 p = true → resL 45 p = numsR 45 p := fun p hp => by unfold resL; rw [hp]; rfl
 rcases hc with rfl | rfl | rfl | rfl
 ·
  exact ⟨rfl, rfl, rfl, hr⟩
 ·
  match t, h1 with
  | p1 :: p2 :: r, _ =>
   have h2' : canB p1 = true ∧ okL 45 p2 = true := by simpa [okTo, mC] using h2
   refine ⟨?_, ?_, rfl, hr⟩
   ·
    show rdV p1 = rdI p1; exact rv p1 h2'.1
   ·
    show resL 45 p2 = scF 1 (p1 :: p2 :: r)
    rw [rl p2 h2'.2]; unfold scF; rw [if_pos ⟨.inl rfl, by simp⟩]; rfl
 ·
  match t, h1 with
  | p1 :: p2 :: p3 :: r, _ =>
   have h2' : (canB p1 = true ∧ okL 45 p2 = true) ∧ okL 45 p3 = true := by simpa [okTo, mC] using h2
   refine ⟨?_, ?_, ?_, hr⟩
   ·
    show rdV p1 = rdI p1; exact rv p1 h2'.1.1
   ·
    show resL 45 p2 = scF 2 (p1 :: p2 :: p3 :: r)
    rw [rl p2 h2'.1.2]; unfold scF; rw [if_pos ⟨.inr rfl, by simp⟩]; rfl
   ·
    show resL 45 p3 = scS 2 (p1 :: p2 :: p3 :: r)
    rw [rl p3 h2'.2]; unfold scS; rw [if_pos ⟨rfl, by simp⟩]; rfl
 ·
  match t, h1 with
  | p1 :: r, _ =>
   have h2' : canB p1 = true := by simpa [okTo, mC] using h2
   refine ⟨?_, rfl, rfl, hr⟩
   show rdV p1 = rdI p1; exact rv p1 h2'
theorem sc_iff {n : Nat} {xss : List (List Int)} (hg : Good n xss) {l p0 : List UInt8} {t : List (List UInt8)} (hs : spl 32 l [] = p0 :: t) :
  ((clsI p0 ≠ 0 → t ≠ []) ∧ certP n xss (clsI p0) (scLb (clsI p0) t) (scF (clsI p0) t) (scS (clsI p0) t) (scR (clsI p0) t) ∧ certT (clsI p0) (scLb (clsI p0) t) (scF (clsI p0) t) (scS (clsI p0) t) (scR (clsI p0) t) = l) ↔
  (isCls p0 = true ∧ strictC (clsI p0) t ∧ certP n xss (clsI p0) (scLb (clsI p0) t) (scF (clsI p0) t) (scS (clsI p0) t) (scR (clsI p0) t)) := by
 have hj := join_spl 32 l []
 rw [hs] at hj
 simp only [List.nil_append] at hj
 constructor
 ·
  rintro ⟨h1, h2, h3⟩
  have sm := certP.small hg h2
  have hR : okLs 46 (t.drop (mC (clsI p0))) = true := okLs_iff.2 fun p hp => nums_ok fun x hx => ((sm.r.2 (numsR 46 p) (List.mem_map.2 ⟨p, hp, rfl⟩)).2 x hx).1
  rcases cls_cases p0 with e | e | e | e
  ·
   rw [e] at h2 h3 hR ⊢
   have hn : p0 = wNever := never_head (rs := scR 0 t) (by rw [← h3]; unfold certT headT; simp) hs
   exact ⟨by rw [hn]; decide, ⟨Nat.zero_le _, rfl, hR⟩, h2⟩
  ·
   rw [e] at h1 h2 h3 hR sm ⊢
   have hcl : cert1 n xss 1 (scLb 1 t) (scF 1 t) (scS 1 t) (scR 1 t) := (certP_1 _ _ _ _ _ _).1 h2
   have hf : 2 ≤ (scF 1 t).length := by have := hcl.2.2.1.1; unfold inB at this; simp at this; omega
   have hl : 2 ≤ t.length := by
    by_cases h : 2 ≤ t.length
    ·
     exact h
    ·
     rw [show scF 1 t = [] by unfold scF; rw [if_neg (fun k => h k.2)]] at hf; simp at hf
   refine ⟨by rw [cls_1 e]; decide, ⟨hl, ?_, hR⟩, h2⟩
   match t, hl with
   | p1 :: p2 :: r, _ =>
    have k1 : canB p1 = true := canB_iff.2 (rdI_pos (show 0 ≤ rdI p1 from sm.lb.1)).1
    have k2 : okL 45 p2 = true := okL_iff.2 (nums_ok fun x hx => (sm.f.2 x (by rw [show scF 1 (p1 :: p2 :: r) = numsR 45 p2 by unfold scF; rw [if_pos ⟨.inl rfl, by simp⟩]; rfl]; exact hx)).1)
    simp [okTo, mC, k1, k2]
  ·
   rw [e] at h1 h2 h3 hR sm ⊢
   have hcl : cert2 n xss 2 (scLb 2 t) (scF 2 t) (scS 2 t) (scR 2 t) := (certP_2 _ _ _ _ _ _).1 h2
   have hf : 2 ≤ (scS 2 t).length := by have := hcl.2.2.2.2.1.1; unfold inB at this; simp at this; omega
   have hl : 3 ≤ t.length := by
    by_cases h : 3 ≤ t.length
    ·
     exact h
    ·
     rw [show scS 2 t = [] by unfold scS; rw [if_neg (fun k => h k.2)]] at hf; simp at hf
   refine ⟨by rw [cls_2 e]; decide, ⟨hl, ?_, hR⟩, h2⟩
   match t, hl with
   | p1 :: p2 :: p3 :: r, _ =>
    have k1 : canB p1 = true := canB_iff.2 (rdI_pos (show 0 ≤ rdI p1 from sm.lb.1)).1
    have k2 : okL 45 p2 = true := okL_iff.2 (nums_ok fun x hx => (sm.f.2 x (by rw [show scF 2 (p1 :: p2 :: p3 :: r) = numsR 45 p2 by unfold scF; rw [if_pos ⟨.inr rfl, by simp⟩]; rfl]; exact hx)).1)
    have k3 : okL 45 p3 = true := okL_iff.2 (nums_ok fun x hx => (sm.s.2 x (by rw [show scS 2 (p1 :: p2 :: p3 :: r) = numsR 45 p3 by unfold scS; rw [if_pos ⟨rfl, by simp⟩]; rfl]; exact hx)).1)
    simp [okTo, mC, k1, k2, k3]
  ·
   rw [e] at h1 h2 h3 hR sm ⊢
   have hne := h1 (by decide)
   refine ⟨by rw [cls_3 e]; decide, ⟨List.length_pos_iff.2 hne, ?_, hR⟩, h2⟩
   match t, hne with
   | p1 :: r, _ =>
    have k1 : canB p1 = true := canB_iff.2 (rdI_pos (show 0 ≤ rdI p1 from sm.lb.1)).1
    simp [okTo, mC, k1]
 ·
  rintro ⟨h1, ⟨h2, h3, h4⟩, h5⟩
  have hr := ranks_back (okLs_iff.1 h4)
  refine ⟨fun hz e => ?_, h5, ?_⟩
  ·
   subst e
   have : mC (clsI p0) = 0 := by simpa using h2
   rcases cls_cases p0 with e | e | e | e
   ·
    exact hz e
   ·
    rw [e] at this; exact absurd this (by decide)
   ·
    rw [e] at this; exact absurd this (by decide)
   ·
    rw [e] at this; exact absurd this (by decide)
  ·
   rw [← headW_join]
   rw [← hj]
   congr 1
   rcases cls_cases p0 with e | e | e | e
   ·
    rw [e] at h2 h3 hr ⊢
    rw [cls_0 e h1]
    show [110, 101, 118, 101, 114] :: (scR 0 t).map (numsT [46]) = _
    unfold scR
    rw [hr]
    rfl
   ·
    rw [e] at h2 h3 hr ⊢
    rw [cls_1 e]
    match t, h2 with
    | p1 :: p2 :: r, _ =>
     have h2' : canB p1 = true ∧ okL 45 p2 = true := by simpa [okTo, mC] using h3
     show [103, 108, 111, 98, 97, 108] :: numT (rdI p1) :: numsT [45] (scF 1 (p1 :: p2 :: r)) :: (scR 1 (p1 :: p2 :: r)).map (numsT [46]) = _
     rw [numT_rd (canB_iff.1 h2'.1), show scF 1 (p1 :: p2 :: r) = numsR 45 p2 by unfold scF; rw [if_pos ⟨.inl rfl, by simp⟩]; rfl, nums_join (okL_iff.1 h2'.2)]
     unfold scR
     rw [hr]
     rfl
   ·
    rw [e] at h2 h3 hr ⊢
    rw [cls_2 e]
    match t, h2 with
    | p1 :: p2 :: p3 :: r, _ =>
     have h2' : (canB p1 = true ∧ okL 45 p2 = true) ∧ okL 45 p3 = true := by simpa [okTo, mC] using h3
     show [115, 116, 97, 114] :: numT (rdI p1) :: numsT [45] (scF 2 (p1 :: p2 :: p3 :: r)) :: numsT [45] (scS 2 (p1 :: p2 :: p3 :: r)) :: (scR 2 (p1 :: p2 :: p3 :: r)).map (numsT [46]) = _
     rw [numT_rd (canB_iff.1 h2'.1.1), show scF 2 (p1 :: p2 :: p3 :: r) = numsR 45 p2 by unfold scF; rw [if_pos ⟨.inr rfl, by simp⟩]; rfl, nums_join (okL_iff.1 h2'.1.2), show scS 2 (p1 :: p2 :: p3 :: r) = numsR 45 p3 by unfold scS; rw [if_pos ⟨rfl, by simp⟩]; rfl, nums_join (okL_iff.1 h2'.2)]
     unfold scR
     rw [hr]
     rfl
   ·
    rw [e] at h2 h3 hr ⊢
    rw [cls_3 e]
    match t, h2 with
    | p1 :: r, _ =>
     have h2' : canB p1 = true := by simpa [okTo, mC] using h3
     show [99, 111, 110, 115, 116, 97, 110, 116] :: numT (rdI p1) :: (scR 3 (p1 :: r)).map (numsT [46]) = _
     rw [numT_rd (canB_iff.1 h2')]
     unfold scR
     rw [hr]
     rfl
end Go.Proofs.YtcfbkickiijjkaaGreatDoor
