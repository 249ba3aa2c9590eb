/-
  Situations of a rule, the reference's side: ssEnabled, ssMove.
-/
import Derived.Test.YtdghoienjegffaaGreatQNextS
import Derived.Test.YtdghoienjegffaaGreatQNetOwn
namespace Go.Proofs.YtdghoienjegffaaGreat
open Go.RowKit
set_option linter.all false
theorem own_put {w : World} {base n cap g : Nat} {vs : List Value} (h : w.ownsRow base 3 1 (.slice (some ⟨g, 0, none⟩) n cap) n vs) (k : Nat) (x : Value) : (w.setCell ⟨g, k, none⟩ x).ownsRow base 3 1 (.slice (some ⟨g, 0, none⟩) n cap) n (vs.set k x) := by
  obtain ⟨h1, h2⟩ := h
  refine ⟨by rw [List.length_set]; exact h1, .inr ?_⟩
  rcases h2 with ⟨e, _⟩ | ⟨g', cap', cur, e, hb, hg, r1, r2, r3, r4⟩
  · cases e
  · cases e
    refine ⟨g, cap, cur.setIfInBounds k x, rfl, hb, heap_set_same hg x, r1, r2, by rw [Array.size_setIfInBounds]; exact r3, ?_⟩
    rw [Array.toList_setIfInBounds, List.take_set, r4]
theorem own_slot {w : World} {base n cap g : Nat} {vs : List Value} (h : w.ownsRow base 3 1 (.slice (some ⟨g, 0, none⟩) n cap) n vs) (k : Nat) (hk : k < n) : (∃ u, w.cell? ⟨g, k, none⟩ = some u) ∧ w.frozen? ⟨g, k, none⟩ = false ∧ base ≤ g ∧ g < w.heap.size := by
  refine ⟨?_, ?_, h.lt g rfl⟩
  · rw [h.cellAt k (by omega)]
    exact ⟨_, List.getElem?_eq_getElem (by rw [h.1]; omega)⟩
  · rcases h.2 with ⟨e, _⟩ | ⟨g', cap', cur, e, hb, hg, r⟩
    · cases e
    · cases e
      exact frozen_of_row _ _ k _ _ hg
noncomputable def enTo (n : Net) (r : Int) (ss : List Int) (j : Nat) : List Int := ((List.range j).filter fun v => decide (nextS n r ss v ≠ ss.getD v 0)).map fun v : Nat => (v : Int)
theorem enTo_succ (n : Net) (r : Int) (ss : List Int) (j : Nat) : enTo n r ss (j + 1) = enTo n r ss j ++ if nextS n r ss j ≠ ss.getD j 0 then [(j : Int)] else [] := by
  unfold enTo
  rw [List.range_succ, List.filter_append, List.map_append]
  congr 1
  by_cases h : nextS n r ss j ≠ ss.getD j 0
  · rw [if_pos h, List.filter_cons, decide_eq_true h]; rfl
  · rw [if_neg h, List.filter_cons, decide_eq_false h]; rfl
theorem enTo_len (n : Net) (r : Int) (ss : List Int) (j : Nat) : (enTo n r ss j).length ≤ j := by
  unfold enTo
  rw [List.length_map]
  exact Nat.le_trans (List.length_filter_le _ _) (by simp)
theorem enTo_I64 {n : Net} {r : Int} {ss : List Int} {j : Nat} (hj : j ≤ 2000000) : ∀ x ∈ enTo n r ss j, I64 x := fun x hx => by
  unfold enTo at hx
  obtain ⟨v, hv, rfl⟩ := List.mem_map.1 hx
  have := List.mem_range.1 (List.mem_filter.1 hv).1
  unfold I64
  omega
def EnRel (n : Net) (r : Int) (ss : List Int) (w : World) (v i : Value) (wr : World) : Prop :=
  ∃ k m : Nat, k ≤ ss.length ∧ i = .int .i64 k ∧ m = (enTo n r ss k).length ∧ wr.ownsRow w.heap.size 3 1 v m ((enTo n r ss k).map intV) ∧ Below w.heap.size w wr
set_option maxRecDepth 100000 in
set_option maxHeartbeats 1000000 in
theorem spec_ssEnabledO (ve vi vn vs : Value) (n : Net) (r : Int) (ss : List Int) (w : World) (h : NetR w w.heap.size ve vi vn n) (ha : askP n r) (hs : IntsR w w.heap.size vs ss) (hS : Sts (cnts n r) ss) :
  Calls Tryz.prog 32 #[.agg #[ve, vi, vn], .int .i64 r, vs] w fun e w' => ∃ u, e = .returned u ∧ (∃ A m c, u = .slice A m c) ∧ IntsR w' w'.heap.size u (enS n r ss) ∧ Below w.heap.size w w' ∧ w'.ownsRow w.heap.size 3 1 u (enS n r ss).length ((enS n r ss).map intV) := by
 have hp := ha.1
 have h40 := hp.1.2
 have HST := Lib.hid (hS.stB hp)
 have HA := Lib.hid ha
 have HS := Lib.hid hS; clear hS hp ha
 have HSS := Lib.hid hs
 obtain ⟨As, cs, rfl, -, -, hsc⟩ := hs.open_
 have hssl : n.es.length ≤ ss.length ∧ ss.length ≤ n.es.length := by have := HST.out.1; omega
 have HSC := Lib.hid hsc; clear hs hsc
 obtain ⟨⟨A0, m0, c0, rfl⟩, ⟨A1, m1, c1, rfl⟩, A2, m2, c2, rfl⟩ := h.slices
 obtain ⟨w0, hw0, hB, HD, hz0, HS0⟩ := box3 w (.slice A0 m0 c0) (.slice A1 m1 c1) (.slice A2 m2 c2) 27
 have HN0 := Lib.hid h; have HN := Lib.hid (h.up hB); clear h
 have HW0 := Lib.hid hw0; clear hw0
 obtain ⟨q0, q1, q2, qf⟩ := cells3 HD
 have HI0 := Lib.hid ((HSS.out.below hB).more hB.size)
 go_enter Tryz.func32, Tryz.ntmps32
 go_wp2_with fail
 rw [← HW0.out]
 go_loopw [7, 8, 9, 12] (fun v _ _ i wr => EnRel n r ss w0 v i wr) (fun _ _ _ i _ => ss.length - (intOf i).toNat)
 case atStart => exact ⟨0, 0, Nat.zero_le _, rfl, rfl, World.ownsRow_nil _ _ _ _, Below.refl _ _⟩
 case round =>
  obtain ⟨k, m, hk, rfl, hm, hown, hbl⟩ := hrel
  have hmk := enTo_len n r ss k
  have HM := Lib.hid hm; 
  replace hmk : m ≤ k := by omega
  clear hm
  have HO := Lib.hid hown; clear hown
  have hzhbl := hbl.size
  clear q0 q1 q2 qf
  replace HD := bk HD hbl
  replace HN := Lib.hid (HN.out.up hbl)
  replace hB := bl_trans hB hbl
  obtain ⟨q0, q1, q2, qf⟩ := cells3 HD
  by_cases hlt : k < ss.length
  ·
   obtain ⟨x, hx⟩ : ∃ x, ss[k]? = some x := ⟨_, List.getElem?_eq_getElem hlt⟩
   obtain ⟨l, hl⟩ : ∃ l, n.es[k]? = some l := ⟨_, List.getElem?_eq_getElem (by omega)⟩
   obtain ⟨sd, rfl, hsb, hsx⟩ := HSC.out (by omega)
   have hcx := (hB.cell (p := sd.add k) (by rw [block_add]; exact hsb)).trans (hsx k x hx)
   have HQ := Lib.hid (nextS_at (r := r) hl hx)
   have HG := Lib.hid (show ss.getD k 0 = x by rw [List.getD_eq_getElem?_getD, hx]; rfl)
   have HII := Lib.hid ((HI0.out.below hbl).more hbl.size)
   have J := Lib.hid (spec_ssNext _ _ _ _ n r ss k l x wr HN.out HA.out HII.out HS.out hl hx)
   clear hsx hx hl
   generalize nextAt n r ss k l x = q at *
   by_cases hq : q = x
   ·
    have kq : (q != x) = false := by simp [hq]
    have HE := Lib.hid (show enTo n r ss (k + 1) = enTo n r ss k by rw [enTo_succ, HQ.out, HG.out, if_neg (by simpa using hq), List.append_nil])
    clear hq
    go_wp2_with fail
    refine J.out.mono ?_
    rintro e w3 ⟨rfl, hb3⟩
    go_wp2_with fail
    go_roundw
    case rel => exact ⟨k + 1, m, by omega, by go_num, by rw [HE.out]; exact HM.out, by rw [HE.out]; exact own_keep4 HO.out hb3.size (fun b _ hb => hb3.block b hb), bl_trans hbl hb3⟩
    case measure => simp [intOf]; omega
   ·
    have kq : (q != x) = true := by simpa using hq
    have HE := Lib.hid (show enTo n r ss (k + 1) = enTo n r ss k ++ [(k : Int)] by rw [enTo_succ, HQ.out, HG.out, if_pos hq])
    clear hq
    go_wp2_with fail
    refine J.out.mono ?_
    rintro e w3 ⟨rfl, hb3⟩
    have hown3 := own_keep4 HO.out hb3.size (fun b _ hb => hb3.block b hb)
    have hbl3 := bl_trans hbl hb3
    go_wp2_with ((at_builtin; refine wpList_append1 w3 rfl (.tmp 24) (.tmp 26) 25 rfl w0.heap.size 3 _ 8 Tryz.underlying25 intInfo rfl _ _ _ rfl _ rfl rfl hown3 (by unfold maxLen; omega) (by omega) hbl3.size ?_; intro v' w' hown' hbl' hgr' hlt' hob'))
    go_roundw
    case rel => exact ⟨k + 1, m + 1, by omega, by go_num, by rw [HE.out, List.length_append, HM.out]; rfl, by rw [HE.out, List.map_append]; exact hown', hbl3.trans hbl'⟩
    case measure => simp [intOf]; omega
  ·
   have e1 : k = ss.length := by omega
   have hI := own_intsR HO.out (enTo_I64 (by omega))
   rw [e1] at hI
   have HF := Lib.hid (show IntsR wr wr.heap.size u7 (enS n r ss) from hI)
   have HFO := Lib.hid (show wr.ownsRow w.heap.size 3 1 u7 (enS n r ss).length ((enS n r ss).map intV) from by
    have h := HO.out
    rw [HM.out, e1] at h
    exact own_lower h (show w.heap.size ≤ w0.heap.size by omega))
   clear hI e1
   go_wp2_with fail
   go_ret
   exact ⟨_, rfl, HF.out.isSlice, HF.out, hB, HFO.out⟩
theorem spec_ssEnabled (ve vi vn vs : Value) (n : Net) (r : Int) (ss : List Int) (w : World) (h : NetR w w.heap.size ve vi vn n) (ha : askP n r) (hs : IntsR w w.heap.size vs ss) (hS : Sts (cnts n r) ss) :
    Calls Tryz.prog 32 #[.agg #[ve, vi, vn], .int .i64 r, vs] w fun e w' => ∃ u, e = .returned u ∧ (∃ A m c, u = .slice A m c) ∧ IntsR w' w'.heap.size u (enS n r ss) ∧ Below w.heap.size w w' :=
  (spec_ssEnabledO ve vi vn vs n r ss w h ha hs hS).mono fun _ _ ⟨u, a, b, c, d, _⟩ => ⟨u, a, b, c, d⟩
def MvRel (n : Net) (r : Int) (ss set : List Int) (g cap : Nat) (w : World) (base : Nat) (i : Value) (wr : World) : Prop :=
  ∃ k : Nat, k ≤ set.length ∧ i = .int .i64 k ∧ wr.ownsRow base 3 1 (.slice (some ⟨g, 0, none⟩) ss.length cap) ss.length ((moveS n r ss (set.take k)).map intV) ∧ Below base w wr
theorem moveS_I64 {n : Net} {r : Int} {ss set : List Int} (ha : askP n r) (hS : Sts (cnts n r) ss) (hset : ∀ v ∈ set, 0 ≤ v ∧ v.toNat < ss.length) : ∀ x ∈ moveS n r ss set, I64 x := fun x hx => by
  have := ((moveS_sts ha hS set hset).stB ha.1).2 x hx
  unfold I64
  omega
set_option maxRecDepth 100000 in
set_option maxHeartbeats 1000000 in
theorem spec_ssMove (ve vi vn vs vt : Value) (n : Net) (r : Int) (ss set : List Int) (w : World) (h : NetR w w.heap.size ve vi vn n) (ha : askP n r) (hs : IntsR w w.heap.size vs ss) (hS : Sts (cnts n r) ss)
  (ht : IntsR w w.heap.size vt set) (hset : ∀ v ∈ set, 0 ≤ v ∧ v.toNat < ss.length) (htl : set.length ≤ 2000000) :
  Calls Tryz.prog 33 #[.agg #[ve, vi, vn], .int .i64 r, vs, vt] w fun e w' => ∃ u, e = .returned u ∧ (∃ A m c, u = .slice A m c) ∧ IntsR w' w'.heap.size u (moveS n r ss set) ∧ Below w.heap.size w w' := by
 have hp := ha.1
 have h40 := hp.1
 have HST := Lib.hid (hS.stB hp)
 have H64 := Lib.hid (moveS_I64 ha hS hset)
 have HA := Lib.hid ha
 have HS := Lib.hid hS; clear hS hp ha
 have HSS := Lib.hid hs
 have HTT := Lib.hid ht
 obtain ⟨As, cs, rfl, -, -, -⟩ := hs.open_
 obtain ⟨At, ct, rfl, -, hct, htc⟩ := ht.open_
 unfold maxLen at hct
 have hssl : n.es.length ≤ ss.length ∧ ss.length ≤ n.es.length := by have := HST.out.1; omega
 have HTC := Lib.hid htc; clear hs ht htc
 have HSET := Lib.hid hset; clear hset
 obtain ⟨⟨A0, m0, c0, rfl⟩, ⟨A1, m1, c1, rfl⟩, A2, m2, c2, rfl⟩ := h.slices
 obtain ⟨w0, hw0, hB, HD, hz0, HS0⟩ := box3 w (.slice A0 m0 c0) (.slice A1 m1 c1) (.slice A2 m2 c2) 27
 have HN0 := Lib.hid h; have HN := Lib.hid (h.up hB); clear h
 have HW0 := Lib.hid hw0; clear hw0
 obtain ⟨q0, q1, q2, qf⟩ := cells3 HD
 have HI0 := Lib.hid ((HSS.out.below hB).more hB.size)
 go_enter Tryz.func33, Tryz.ntmps33
 go_wp2_with fail
 rw [← HW0.out]
 refine (spec_l1Own _ ss w0 HI0.out (by omega)).mono ?_
 rintro e w1 ⟨v, rfl, hown, hb1⟩
 obtain ⟨g, cap, rfl⟩ : ∃ g cap, v = .slice (some ⟨g, 0, none⟩) ss.length cap := by
  rcases hown.2 with ⟨_, e0⟩ | ⟨g, cap, cur, e, _⟩
  ·
   omega
  ·
   exact ⟨g, cap, e⟩
 have HO := Lib.hid hown; clear hown
 replace HI0 := Lib.hid ((HI0.out.below hb1).more hb1.size)
 have hb01 := hb1
 have hzhb1 := hb1.size
 clear q0 q1 q2 qf
 replace HD := bk HD hb1
 replace HN := Lib.hid (HN.out.up hb1)
 replace hB := bl_trans hB hb1
 obtain ⟨q0, q1, q2, qf⟩ := cells3 HD
 go_wp2_with fail
 go_loopw [16, 11] (fun i _ wr => MvRel n r ss set g cap w1 w0.heap.size i wr) (fun i _ _ => set.length - (intOf i).toNat)
 case atStart => exact ⟨0, Nat.zero_le _, rfl, HO.out, Below.refl _ _⟩
 case round =>
  obtain ⟨k, hk, rfl, hown, hbl⟩ := hrel
  have HO2 := Lib.hid hown; clear hown
  have hw01 := hb01.size
  have hB3 := hB.trans (hbl.mono (by omega))
  have hz3 := hB3.size
  have hzr := hbl.size
  have HN3 := Lib.hid (HN0.out.up hB3)
  have HI3 := Lib.hid ((HSS.out.below hB3).more hB3.size)
  clear q0 q1 q2 qf
  have HD3 := bk HD hbl (by omega)
  obtain ⟨q0, q1, q2, qf⟩ := cells3 HD3
  by_cases hlt : k < set.length
  ·
   obtain ⟨a, ha⟩ : ∃ a, set[k]? = some a := ⟨_, List.getElem?_eq_getElem hlt⟩
   obtain ⟨a0, al⟩ := HSET.out a (List.mem_of_getElem? ha)
   obtain ⟨u, rfl⟩ : ∃ u : Nat, a = (u : Int) := ⟨a.toNat, by omega⟩
   have hul : u < ss.length := by simpa using al
   obtain ⟨x, hx⟩ : ∃ x, ss[u]? = some x := ⟨_, List.getElem?_eq_getElem hul⟩
   obtain ⟨l, hl⟩ : ∃ l, n.es[u]? = some l := ⟨_, List.getElem?_eq_getElem (by omega)⟩
   obtain ⟨td, rfl, htb, htx⟩ := HTC.out (by omega)
   have hct := (hB3.cell (p := td.add k) (by rw [block_add]; exact htb)).trans (htx k _ ha)
   have HE := Lib.hid (show moveS n r ss (set.take (k + 1)) = (moveS n r ss (set.take k)).set u (nextAt n r ss u l x) by
    obtain ⟨hk', e⟩ := List.getElem?_eq_some_iff.1 ha
    rw [List.take_succ_eq_append_getElem hk', e, moveS_snoc, Int.toNat_natCast, nextS_at hl hx])
   have J := Lib.hid (spec_ssNext _ _ _ _ n r ss u l x wr HN3.out HA.out HI3.out HS.out hl hx)
   clear htx ha hx hl a0 al
   generalize nextAt n r ss u l x = q at *
   generalize moveS n r ss (set.take k) = M at *
   go_wp2_with fail
   refine J.out.mono ?_
   rintro e w4 ⟨rfl, hb4⟩
   have hown4 := own_keep4 HO2.out hb4.size (fun b _ hb => hb4.block b hb)
   obtain ⟨⟨u0, hc0⟩, hf0, hbg, hgl⟩ := own_slot hown4 u hul
   have hb04 := hbl.trans (hb4.mono (by omega))
   go_wp2_with fail
   go_roundw
   case rel => exact ⟨k + 1, by omega, by go_num, by rw [HE.out, List.map_set]; exact own_put hown4 u _, hb04.setCell (p := ⟨g, u, none⟩) hbg _⟩
   case measure => simp [intOf]; omega
  ·
   have e1 : set.take k = set := List.take_of_length_le (by omega)
   have hfin := HO2.out
   rw [e1] at hfin
   have hI := own_intsR hfin H64.out
   have HF := Lib.hid hI; clear hI hfin e1
   go_wp2_with fail
   go_ret
   exact ⟨_, rfl, HF.out.isSlice, HF.out, hB3⟩
end Go.Proofs.YtdghoienjegffaaGreat
