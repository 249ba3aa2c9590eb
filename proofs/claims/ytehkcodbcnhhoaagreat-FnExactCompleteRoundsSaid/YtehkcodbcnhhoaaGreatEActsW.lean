/-
  The acts of a round: the reference's syActs, the program's roundActs. No condition but that the network is one.
-/
import Derived.Test.YtehkcodbcnhhoaaGreatEActRow
import Derived.Test.YtehkcodbcnhhoaaGreatEPlainStart
namespace Go.Proofs.YtehkcodbcnhhoaaGreat
open Go.RowKit
set_option linter.all false
structure Three (w : World) (u1 u2 u3 : Value) (xs ys zs : List Acts) (wr : World) : Prop where
  a : ActsR wr w.heap.size u1 xs
  b : ActsR wr w.heap.size u2 ys
  c : ActsR wr w.heap.size u3 zs
  s12 : Sep u1 u2
  s13 : Sep u1 u3
  s23 : Sep u2 u3
  bl : Below w.heap.size w wr
section
variable {w wr w' : World} {u1 u2 u3 v : Value} {xs ys zs xs' : List Acts}
theorem Three.push1 (h : Three w u1 u2 u3 xs ys zs wr) (ha : ActsR w' w.heap.size v xs') (hb : Below w.heap.size wr w') (hg : wr.grownBy w' u1.ownBlock) (ho : v.ownBlock = u1.ownBlock ∨ ∃ g, v.ownBlock = some g ∧ wr.heap.size ≤ g) : Three w v u2 u3 xs' ys zs w' :=
  ⟨ha, h.b.stay h.s12.symm hg, h.c.stay h.s13.symm hg, (h.s12.symm.grow h.b ho).symm, (h.s13.symm.grow h.c ho).symm, h.s23, h.bl.trans hb⟩
theorem Three.push2 (h : Three w u1 u2 u3 xs ys zs wr) (ha : ActsR w' w.heap.size v xs') (hb : Below w.heap.size wr w') (hg : wr.grownBy w' u2.ownBlock) (ho : v.ownBlock = u2.ownBlock ∨ ∃ g, v.ownBlock = some g ∧ wr.heap.size ≤ g) : Three w u1 v u3 xs xs' zs w' :=
  ⟨h.a.stay h.s12 hg, ha, h.c.stay h.s23.symm hg, h.s12.grow h.a ho, h.s13, (h.s23.symm.grow h.c ho).symm, h.bl.trans hb⟩
theorem Three.push3 (h : Three w u1 u2 u3 xs ys zs wr) (ha : ActsR w' w.heap.size v xs') (hb : Below w.heap.size wr w') (hg : wr.grownBy w' u3.ownBlock) (ho : v.ownBlock = u3.ownBlock ∨ ∃ g, v.ownBlock = some g ∧ wr.heap.size ≤ g) : Three w u1 u2 v xs ys xs' w' :=
  ⟨h.a.stay h.s13 hg, h.b.stay h.s23 hg, ha, h.s12, h.s13.grow h.a ho, h.s23.grow h.b ho, h.bl.trans hb⟩
end
theorem portActs_len {n : Net} (hq : netP n) (c : Int) : ∀ j, j ≤ n.es.length → (portActs c n.es j).length ≤ 6 * j
  | 0, _ => Nat.le_refl _
  | j + 1, hj => by
    have h1 := portActs_len hq c j (by omega)
    have h2 := (hq.2.2.2.2 j _ (List.getElem?_eq_getElem (by omega))).1
    have e : (n.es.getD j []).length = (n.es[j]'(by omega)).length := by rw [List.getD_eq_getElem?_getD, List.getElem?_eq_getElem (by omega)]; rfl
    rw [portActs_succ, List.length_append, e]
    have : (actsOf c j (n.es[j]'(by omega)).length).length = (n.es[j]'(by omega)).length := by simp [actsOf]
    omega
theorem stepActs_len (j : Nat) : (stepActs j).length = j := by simp [stepActs]
theorem actsOf_len (c : Int) (v j : Nat) : (actsOf c v j).length = j := by simp [actsOf]
theorem portActs_row {es : List Ends} {k : Nat} {l : Ends} (h : es[k]? = some l) (c : Int) : portActs c es (k + 1) = portActs c es k ++ actsOf c k l.length := by
  rw [portActs_succ, List.getD_eq_getElem?_getD, h]; rfl
def YaRel (n : Net) (w : World) (u1 u2 u3 i : Value) (wr : World) : Prop := ∃ k : Nat, k ≤ n.es.length ∧ i = .int .i64 k ∧ Three w u1 u2 u3 (portActs 1 n.es k) (portActs 2 n.es k) (stepActs k) wr
def YbRel (n : Net) (k many : Nat) (u3 : Value) (w : World) (u1 u2 i : Value) (wr : World) : Prop := ∃ p : Nat, p ≤ many ∧ i = .int .i64 p ∧ Three w u1 u2 u3 (portActs 1 n.es k ++ actsOf 1 k p) (portActs 2 n.es k ++ actsOf 2 k p) (stepActs k) wr
set_option maxRecDepth 100000 in
set_option maxHeartbeats 4000000 in
theorem spec_syActs (ne ni nn : Value) (n : Net) (w : World) (hn : NetR w w.heap.size ne ni nn n) (hq : netP n) :
  Calls Tryz.prog 25 #[.agg #[ne, ni, nn]] w fun e w' => ∃ v, e = .returned v ∧ ActsR w' w.heap.size v (roundA n) ∧ Below w.heap.size w w' := by
 have h40 := hq.1.2
 have HQ := Lib.hid hq
 have hne := hn.e
 obtain ⟨A4, c4, rfl, hc4, hM4, hr4⟩ := hne
 obtain ⟨-, ⟨A5, m5, c5, rfl⟩, A6, m6, c6, rfl⟩ := hn.slices
 unfold maxLen at hM4
 have HR4 := Lib.hid hr4
 clear hr4 hq
 obtain ⟨w0, hw0, hb0, HD, hz0, HS0⟩ := box3 w (.slice A4 n.es.length c4) (.slice A5 m5 c5) (.slice A6 m6 c6) 43
 have hB : Below w.heap.size w w0 := hb0
 have HW := Lib.hid (show w0 = w.alloc (.cells #[.slice A4 n.es.length c4, .slice A5 m5 c5, .slice A6 m6 c6] 43) by rw [hw0])
 obtain ⟨q0, q1, q2, qf⟩ := cells3 HD
 have eq0 := q0
 have eq1 := q1
 have eq2 := q2
 rw [HW.out] at eq0 eq1 eq2
 have hzb0 : w.heap.size < w0.heap.size := by omega
 have HN := Lib.hid (hn.up hB)
 clear hw0
 go_enter Tryz.func25, Tryz.ntmps25
 go_wp2_with fail
 rw [← HW.out]
 clear eq0 eq1 eq2
 have HB := Lib.hid hB
 go_loopw [3, 4, 5, 12] (fun u1 u2 u3 i wr => YaRel n w0 u1 u2 u3 i wr) (fun _ _ _ i _ => n.es.length - (intOf i).toNat)
 case atStart => exact ⟨0, Nat.zero_le _, rfl, ActsR.nil _ _, ActsR.nil _ _, ActsR.nil _ _, Sep.nil _, Sep.nil _, Sep.nil _, Below.refl _ _⟩
 case round =>
  obtain ⟨k, hk, rfl, h3⟩ := hrel
  have HT := Lib.hid h3
  have hbl := h3.bl
  have hsz := hbl.size
  have hp1 := portActs_len HQ.out 1 k hk
  have hp2 := portActs_len HQ.out 2 k hk
  have hp3 := stepActs_len k
  have HDr := bk HD hbl
  have hBr := bl_trans HB.out hbl
  clear q0 q1 q2 qf hB h3
  obtain ⟨q0, q1, q2, qf⟩ := cells3 HDr
  by_cases hlt : k < n.es.length
  ·
   obtain ⟨l, hl⟩ : ∃ y, n.es[k]? = some y := ⟨_, List.getElem?_eq_getElem hlt⟩
   have hl6 := (HQ.out.2.2.2.2 k l hl).1
   obtain ⟨ad4, rfl, ha4, hrow4⟩ := HR4.out (by omega)
   obtain ⟨u4, hu4, hz4⟩ := hrow4 k l hl
   obtain ⟨B4, d4, rfl, hd4, hD4, -, -⟩ := hz4
   have c4k := (hBr.cell (p := ad4.add k) (by rw [block_add]; exact ha4)).trans hu4
   have HL := Lib.hid hl
   clear hl hu4 hrow4
   go_wp2_with fail
   go_loopw [3, 4, 19] (fun u1' u2' i wr' => YbRel n k l.length u5 w0 u1' u2' i wr') (fun _ _ i _ => l.length - (intOf i).toNat)
   case atStart => exact ⟨0, Nat.zero_le _, rfl, by have := HT.out; simpa [actsOf] using this⟩
   case round =>
    obtain ⟨p, hp, rfl, h3⟩ := hrel
    have HT2 := Lib.hid h3
    have hs2 := h3.bl.size
    by_cases hltp : p < l.length
    ·
     obtain ⟨v6, w6, hrun6, ha6, hb6, hg6, ho6⟩ := run_appendAct wr w0.heap.size _ _ ⟨1, k, p, 0⟩ h3.a (by rw [List.length_append, actsOf_len]; omega) (by omega)
     have h6 := h3.push1 ha6 hb6 hg6 ho6
     have hs6 := hg6.size
     obtain ⟨v7, w7, hrun7, ha7, hb7, hg7, ho7⟩ := run_appendAct w6 w0.heap.size _ _ ⟨2, k, p, 0⟩ h6.b (by rw [List.length_append, actsOf_len]; omega) (by omega)
     have h7 := h6.push2 ha7 hb7 hg7 ho7
     rw [List.append_assoc, List.append_assoc, ← actsOf_succ, ← actsOf_succ] at h7
     have HRUN6 := Lib.hid hrun6
     have HRUN7 := Lib.hid hrun7
     have H7 := Lib.hid h7
     clear hrun6 hrun7 h7 h6 h3 ha6 hb6 hg6 ho6 ha7 hb7 hg7 ho7
     go_wp2_with (first
      | (at_builtin; refine Lib.wpList_append_run _ rfl _ _ _ _ rfl _ _ rfl rfl _ _ HRUN6.out ?_)
      | (at_builtin; refine Lib.wpList_append_run _ rfl _ _ _ _ rfl _ _ rfl rfl _ _ HRUN7.out ?_))
     go_roundw
     case rel => exact ⟨p + 1, by omega, by go_num, H7.out⟩
     case measure => simp [intOf]; omega
    ·
     obtain rfl : p = l.length := by omega
     rw [← portActs_row HL.out, ← portActs_row HL.out] at h3
     have hp1' := portActs_len HQ.out 1 (k + 1) hlt
     have hp2' := portActs_len HQ.out 2 (k + 1) hlt
     obtain ⟨v6, w6, hrun6, ha6, hb6, hg6, ho6⟩ := run_appendAct wr w0.heap.size _ _ ⟨5, k, 0, 0⟩ h3.c (by omega) (by omega)
     have h6 := h3.push3 ha6 hb6 hg6 ho6
     rw [← stepActs_succ] at h6
     have HRUN6 := Lib.hid hrun6
     have H6 := Lib.hid h6
     clear hrun6 h6 h3 ha6 hb6 hg6 ho6
     go_wp2_with (at_builtin; refine Lib.wpList_append_run _ rfl _ _ _ _ rfl _ _ rfl rfl _ _ HRUN6.out ?_)
     go_roundw
     case rel => exact ⟨k + 1, by omega, by go_num, H6.out⟩
     case measure => simp [intOf]; omega
  ·
   obtain rfl : k = n.es.length := by omega
   have h3 := HT.out
   obtain ⟨v6, w6, hrun6, ha6, hb6, hg6, ho6⟩ := run_appendActs wr w0.heap.size _ _ _ _ h3.a h3.b (by omega) (by omega) (by omega)
   have h6 := h3.push1 ha6 hb6 hg6 ho6
   have hs6 := hg6.size
   obtain ⟨v7, w7, hrun7, ha7, hb7, hg7, ho7⟩ := run_appendActs w6 w0.heap.size _ _ _ _ h6.a h6.c (by rw [List.length_append]; omega) (by omega) (by omega)
   have HRUN6 := Lib.hid hrun6
   have HRUN7 := Lib.hid hrun7
   have HF := Lib.hid ha7
   have HFB := Lib.hid (bl_trans HB.out (h6.bl.trans hb7))
   clear hrun6 hrun7 h6 h3 ha6 hb6 hg6 ho6 ha7 hb7 hg7 ho7
   go_wp2_with (first
    | (at_builtin; refine Lib.wpList_append_run _ rfl _ _ _ _ rfl _ _ rfl rfl _ _ HRUN6.out ?_)
    | (at_builtin; refine Lib.wpList_append_run _ rfl _ _ _ _ rfl _ _ rfl rfl _ _ HRUN7.out ?_))
   go_ret
   exact ⟨_, rfl, own_mono HF.out (by omega), HFB.out⟩
def kindActs (n : Net) (j : Nat) : List Acts := (List.range j).flatMap fun (c : Nat) => portActs ((c : Int) + 1) n.es n.es.length
theorem kindActs_succ (n : Net) (j : Nat) : kindActs n (j + 1) = kindActs n j ++ portActs ((j : Int) + 1) n.es n.es.length := by simp [kindActs, List.range_succ, List.flatMap_append]
theorem kindActs_two (n : Net) : kindActs n 2 = portActs 1 n.es n.es.length ++ portActs 2 n.es n.es.length := by
  rw [kindActs_succ, kindActs_succ]
  rfl
theorem kindActs_len {n : Net} (hq : netP n) : ∀ j, (kindActs n j).length ≤ 240 * j
  | 0 => Nat.le_refl _
  | j + 1 => by
    have h1 := kindActs_len hq j
    have h2 := portActs_len hq ((j : Int) + 1) n.es.length (Nat.le_refl _)
    have h3 := hq.1.2
    rw [kindActs_succ, List.length_append]
    omega
def AcRel (xs : Nat → List Acts) (N : Nat) (w : World) (u i : Value) (wr : World) : Prop := ∃ k : Nat, k ≤ N ∧ i = .int .i64 k ∧ ActsR wr w.heap.size u (xs k) ∧ Below w.heap.size w wr
set_option maxRecDepth 100000 in
set_option maxHeartbeats 4000000 in
theorem impl_roundActs (ne ni nn : Value) (n : Net) (w : World) (hn : NetR w w.heap.size ne ni nn n) (hq : netP n) :
  Calls Tryz.prog 33 #[.agg #[ne, ni, nn]] w fun e w' => ∃ v, e = .returned v ∧ ActsR w' w.heap.size v (roundA n) ∧ Below w.heap.size w w' := by
 have h40 := hq.1.2
 have HQ := Lib.hid hq
 have hne := hn.e
 obtain ⟨A4, c4, rfl, hc4, hM4, hr4⟩ := hne
 obtain ⟨-, ⟨A5, m5, c5, rfl⟩, A6, m6, c6, rfl⟩ := hn.slices
 unfold maxLen at hM4
 have HR4 := Lib.hid hr4
 clear hr4 hq
 obtain ⟨w0, hw0, hb0, HD, hz0, HS0⟩ := box3 w (.slice A4 n.es.length c4) (.slice A5 m5 c5) (.slice A6 m6 c6) 43
 have hB : Below w.heap.size w w0 := hb0
 have HW := Lib.hid (show w0 = w.alloc (.cells #[.slice A4 n.es.length c4, .slice A5 m5 c5, .slice A6 m6 c6] 43) by rw [hw0])
 obtain ⟨q0, q1, q2, qf⟩ := cells3 HD
 have eq0 := q0
 have eq1 := q1
 have eq2 := q2
 rw [HW.out] at eq0 eq1 eq2
 have hzb0 : w.heap.size < w0.heap.size := by omega
 have HN := Lib.hid (hn.up hB)
 clear hw0
 obtain ⟨G, hG⟩ : ∃ z, z = w.heap.size + 1 := ⟨_, rfl⟩
 obtain ⟨w1, hw1⟩ : ∃ z, z = w0.alloc (.cells #[.int .i64 1, .int .i64 2] 3) := ⟨_, rfl⟩
 have hnew := heap_alloc_new w0 (.cells #[.int .i64 1, .int .i64 2] 3)
 rw [HS0.out, ← hG, ← hw1] at hnew
 have HN := Lib.hid (show ∀ j : Nat, j < 2 → w1.cell? ⟨G, j, none⟩ = some (.int .i64 ((j : Int) + 1)) from fun j hj => by
  rw [cell_of_row _ _ j _ _ (0, 0) hnew]
  match j, hj with
  | 0, _ => rfl
  | 1, _ => rfl)
 have hb01 : Below w0.heap.size w0 w1 := by rw [hw1]; exact bl_alloc (Below.refl _ _) _
 have hG1 := heap_lt hnew
 have HW1 := Lib.hid hw1
 have HG := Lib.hid hG
 clear hw1 hG hnew
 go_enter Tryz.func33, Tryz.ntmps33
 go_wp2_with fail
 rw [← HW.out]
 clear eq0 eq1 eq2
 rw [← HG.out, ← HW1.out]
 replace HD := bk HD hb01
 have HB := Lib.hid (bl_trans hB hb01)
 have hz01 := hb01.size
 clear q0 q1 q2 qf hB
 obtain ⟨q0, q1, q2, qf⟩ := cells3 HD
 go_loopw [3, 12] (fun u i wr => AcRel (kindActs n) 2 w1 u i wr) (fun _ i _ => 2 - (intOf i).toNat)
 case atStart => exact ⟨0, by omega, rfl, ActsR.nil _ _, Below.refl _ _⟩
 case round =>
  obtain ⟨j, hj, rfl, ha, hbl⟩ := hrel
  have HA := Lib.hid ha
  have hsz := hbl.size
  have hlj := kindActs_len HQ.out j
  have HDr := bk HD hbl
  clear q0 q1 q2 qf ha
  obtain ⟨q0, q1, q2, qf⟩ := cells3 HDr
  by_cases hlt : j < 2
  ·
   have cj := (hbl.cell (p := ⟨G, j, none⟩) hG1).trans (HN.out j hlt)
   have hsuc := kindActs_succ n j
   obtain ⟨c, hc⟩ : ∃ c : Int, c = (j : Int) + 1 := ⟨_, rfl⟩
   rw [← hc] at cj hsuc
   have d2 : decide ((j : Int) < 2) = true := decide_eq_true (by omega)
   have d2' : ((j : Int) < 2) = True := eq_true (by omega)
   have HSU := Lib.hid hsuc
   clear hc hsuc
   go_wp2_with fail
   go_loopw [3, 19] (fun u i wr => AcRel (fun k => kindActs n j ++ portActs c n.es k) n.es.length w1 u i wr) (fun _ i _ => n.es.length - (intOf i).toNat)
   case atStart => exact ⟨0, Nat.zero_le _, rfl, by have := HA.out; simpa [portActs] using this, hbl⟩
   case round =>
    obtain ⟨k, hk, rfl, ha, hbl⟩ := hrel
    have HA2 := Lib.hid ha
    have hsz := hbl.size
    have hlp := portActs_len HQ.out c k hk
    have HDr := bk HD hbl
    have hBr := bl_trans HB.out hbl
    clear q0 q1 q2 qf ha
    obtain ⟨q0, q1, q2, qf⟩ := cells3 HDr
    by_cases hltk : k < n.es.length
    ·
     obtain ⟨l, hl⟩ : ∃ y, n.es[k]? = some y := ⟨_, List.getElem?_eq_getElem hltk⟩
     have hl6 := (HQ.out.2.2.2.2 k l hl).1
     obtain ⟨ad4, rfl, ha4, hrow4⟩ := HR4.out (by omega)
     obtain ⟨u4, hu4, hz4⟩ := hrow4 k l hl
     obtain ⟨B4, d4, rfl, hd4, hD4, -, -⟩ := hz4
     have c4k := (hBr.cell (p := ad4.add k) (by rw [block_add]; exact ha4)).trans hu4
     have HL := Lib.hid hl
     clear hl hu4 hrow4
     go_wp2_with fail
     go_loopw [3, 26] (fun u i wr => AcRel (fun p => (kindActs n j ++ portActs c n.es k) ++ actsOf c k p) l.length w1 u i wr) (fun _ i _ => l.length - (intOf i).toNat)
     case atStart => exact ⟨0, Nat.zero_le _, rfl, by have := HA2.out; simpa [actsOf] using this, hbl⟩
     case round =>
      obtain ⟨p, hp, rfl, ha, hbl⟩ := hrel
      have hsz := hbl.size
      by_cases hltp : p < l.length
      ·
       obtain ⟨v6, w6, hrun6, ha6, hb6, hg6, ho6⟩ := run_appendAct wr w1.heap.size _ _ ⟨c, k, p, 0⟩ ha (by rw [List.length_append, List.length_append, actsOf_len]; omega) (by omega)
       rw [List.append_assoc, ← actsOf_succ] at ha6
       have HRUN6 := Lib.hid hrun6
       have H6 := Lib.hid ha6
       have HB6 := Lib.hid (hbl.trans hb6)
       clear hrun6 ha6 hb6 hg6 ho6 ha
       go_wp2_with (at_builtin; refine Lib.wpList_append_run _ rfl _ _ _ _ rfl _ _ rfl rfl _ _ HRUN6.out ?_)
       go_roundw
       case rel => exact ⟨p + 1, by omega, by go_num, H6.out, HB6.out⟩
       case measure => simp [intOf]; omega
      ·
       obtain rfl : p = l.length := by omega
       have ha' : ActsR wr w1.heap.size _ ((kindActs n j ++ portActs c n.es k) ++ actsOf c k l.length) := ha
       rw [List.append_assoc, ← portActs_row HL.out] at ha'
       have H6 := Lib.hid ha'
       clear ha ha'
       go_wp2_with fail
       go_roundw
       case rel => exact ⟨k + 1, by omega, by go_num, H6.out, hbl⟩
       case measure => simp [intOf]; omega
    ·
     obtain rfl : k = n.es.length := by omega
     have H6 := Lib.hid (show ActsR wr w1.heap.size _ (kindActs n (j + 1)) by rw [HSU.out]; exact HA2.out)
     go_wp2_with fail
     go_roundw
     case rel => exact ⟨j + 1, by omega, by go_num, H6.out, hbl⟩
     case measure => simp [intOf]; omega
  ·
   obtain rfl : j = 2 := by omega
   go_wp2_with fail
   go_loopw [3, 42] (fun u i wr => AcRel (fun k => kindActs n 2 ++ stepActs k) n.es.length w1 u i wr) (fun _ i _ => n.es.length - (intOf i).toNat)
   case atStart => exact ⟨0, Nat.zero_le _, rfl, by have := HA.out; simpa [stepActs] using this, hbl⟩
   case round =>
    obtain ⟨k, hk, rfl, ha, hbl⟩ := hrel
    have hsz := hbl.size
    by_cases hltk : k < n.es.length
    ·
     obtain ⟨v6, w6, hrun6, ha6, hb6, hg6, ho6⟩ := run_appendAct wr w1.heap.size _ _ ⟨5, k, 0, 0⟩ ha (by rw [List.length_append, stepActs_len]; omega) (by omega)
     rw [List.append_assoc, ← stepActs_succ] at ha6
     have HRUN6 := Lib.hid hrun6
     have H6 := Lib.hid ha6
     have HB6 := Lib.hid (hbl.trans hb6)
     clear hrun6 ha6 hb6 hg6 ho6 ha
     go_wp2_with (at_builtin; refine Lib.wpList_append_run _ rfl _ _ _ _ rfl _ _ rfl rfl _ _ HRUN6.out ?_)
     go_roundw
     case rel => exact ⟨_, _, _, ⟨k + 1, by omega, by go_num, H6.out, HB6.out⟩, rfl, rfl, rfl⟩
     case measure => simp [intOf]; omega
    ·
     obtain rfl : k = n.es.length := by omega
     have HF := Lib.hid (show ActsR wr w1.heap.size _ (roundA n) by unfold roundA; rw [← kindActs_two]; exact ha)
     have HFB := Lib.hid (bl_trans HB.out hbl)
     clear ha
     go_wp2_with fail
     go_ret
     exact ⟨_, rfl, own_mono HF.out (by omega), HFB.out⟩
end Go.Proofs.YtehkcodbcnhhoaaGreat
