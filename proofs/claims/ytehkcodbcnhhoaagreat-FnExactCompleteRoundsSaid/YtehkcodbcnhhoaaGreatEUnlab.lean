/-
  The program's unlabeled: a row of -1 for each node. No condition but that the network is one.
-/
import Derived.Test.YtehkcodbcnhhoaaGreatEFlight
import Derived.Test.YtehkcodbcnhhoaaGreatEStart
namespace Go.Proofs.YtehkcodbcnhhoaaGreat
open Go.RowKit
set_option linter.all false
def UnRel (n : Net) (G : Nat) (w : World) (i : Value) (wr : World) : Prop :=
  ∃ (k : Nat) (val : Key → Value), k ≤ n.es.length ∧ i = .int .i64 k ∧ val .s = .slice (some ⟨G, 0, none⟩) n.es.length n.es.length ∧ AsyK wr w.heap.size val ⟨[], [], [], slotsTo n k, []⟩ ∧ Below w.heap.size w wr
set_option maxRecDepth 100000 in
set_option maxHeartbeats 4000000 in
theorem impl_unlabeled (ne ni nn : Value) (n : Net) (w : World) (hn : NetR w w.heap.size ne ni nn n) (hq : netP n) :
  Calls Tryz.prog 62 #[.agg #[ne, ni, nn]] w fun e w' => ∃ val, e = .returned (val .s) ∧ AsyK w' w.heap.size val ⟨[], [], [], freeS n, []⟩ ∧ Below w.heap.size w w' := by
 have h40 := hq.1.2
 have HQ := Lib.hid hq
 have hne := hn.e
 obtain ⟨A4, c4, rfl, hc4, hM4, hr4⟩ := hne
 obtain ⟨-, ⟨A5, m5, c5, rfl⟩, A6, m6, c6, rfl⟩ := hn.slices
 unfold maxLen at hM4
 have HR4 := Lib.hid hr4
 clear hr4 hq
 obtain ⟨w0, hw0, hb0, HD, hz0, HS0⟩ := box3 w (.slice A4 n.es.length c4) (.slice A5 m5 c5) (.slice A6 m6 c6) 43
 have hB : Below w.heap.size w w0 := hb0
 have HW := Lib.hid (show w0 = w.alloc (.cells #[.slice A4 n.es.length c4, .slice A5 m5 c5, .slice A6 m6 c6] 43) by rw [hw0])
 obtain ⟨q0, q1, q2, qf⟩ := cells3 HD
 have eq0 := q0
 have eq1 := q1
 have eq2 := q2
 rw [HW.out] at eq0 eq1 eq2
 have hzb0 : w.heap.size < w0.heap.size := by omega
 have HN := Lib.hid (hn.up hB)
 clear hw0
 have hmk := fun W => run_make1 (P := Tryz.prog) 22 24 nilV 24 Tryz.underlying22 sliceInfo1 rfl n.es.length (by omega) (by omega) W
 obtain ⟨G, hG⟩ : ∃ z, z = w.heap.size + 1 := ⟨_, rfl⟩
 obtain ⟨w1, hw1⟩ : ∃ z, z = w0.alloc (.cells (rowOf [] n.es.length nilV) 24) := ⟨_, rfl⟩
 have hmd := own_madeZ w0 24 n.es.length nilV (by unfold maxLen; omega)
 rw [HS0.out, ← hG, ← hw1] at hmd
 have hb01 : Below w0.heap.size w0 w1 := by rw [hw1]; exact bl_alloc (Below.refl _ _) _
 have HK0 := Lib.hid (madeSlots (own_mono hmd (show w0.heap.size ≤ G by rw [hG, HS0.out]; exact Nat.le_refl _)))
 have HW1 := Lib.hid hw1
 have HG := Lib.hid hG
 have hzG : w.heap.size < G := by omega
 clear hw1 hG hmd
 go_enter Tryz.func62, Tryz.ntmps62
 go_wp2_with fail
 clear hmk
 rw [← HW.out]
 clear eq0 eq1 eq2
 rw [← HG.out, ← HW1.out]
 replace HD := bk HD hb01
 have HB := Lib.hid (bl_trans hB hb01)
 have hz01 := hb01.size
 clear q0 q1 q2 qf hB
 obtain ⟨q0, q1, q2, qf⟩ := cells3 HD
 go_loopw [13] (fun i wr => UnRel n G w0 i wr) (fun i _ => n.es.length - (intOf i).toNat)
 case atStart => exact ⟨0, _, Nat.zero_le _, rfl, rfl, by rw [slotsTo_zero]; exact HK0.out, hb01⟩
 case round =>
  obtain ⟨k, val, hk, rfl, hvs, hkk, hbl⟩ := hrel
  have HK := Lib.hid hkk
  have HVS := Lib.hid hvs
  have hsz := hbl.size
  have hBr := bl_trans hb0 hbl
  have HDr : Hid (wr.heap[w.heap.size]? = some (.cells #[.slice A4 n.es.length c4, .slice A5 m5 c5, .slice A6 m6 c6] 43 (0, 0))) := Lib.hid ((hbl.block w.heap.size hz0).trans ((hb01.block w.heap.size hz0).symm.trans HD.out))
  clear q0 q1 q2 qf hvs hkk
  obtain ⟨q0, q1, q2, qf⟩ := cells3 HDr
  by_cases hlt : k < n.es.length
  ·
   obtain ⟨l, hl⟩ : ∃ y, n.es[k]? = some y := ⟨_, List.getElem?_eq_getElem hlt⟩
   have hl6 := (HQ.out.2.2.2.2 k l hl).1
   obtain ⟨ad4, rfl, ha4, hrow4⟩ := HR4.out (by omega)
   obtain ⟨u4, hu4, hz4⟩ := hrow4 k l hl
   obtain ⟨B4, d4, rfl, hd4, hD4, -, -⟩ := hz4
   have c4k := (hBr.cell (p := ad4.add k) (by rw [block_add]; exact ha4)).trans hu4
   have hsl := slotsTo_len n hk
   have HL := Lib.hid hl
   obtain ⟨W1, hW1⟩ : ∃ z, z = wr.alloc (.cells #[.int .i64 (-1)] 3) := ⟨_, rfl⟩
   have hbW1 : Below wr.heap.size wr W1 := by rw [hW1]; exact bl_alloc (Below.refl _ _) _
   have hN1 : NumsAt W1 wr.heap.size [-1] := by rw [hW1]; exact heap_alloc_new wr _
   have HW := Lib.hid hW1
   clear hl hu4 hrow4 hW1
   have hkn : (k : Int) < (n.es.length : Int) := by omega
   go_wp2_with fail
   rw [← HW.out]
   refine (impl_Repeats (-1) l.length wr.heap.size _ hN1 (by omega)).mono ?_
   rintro e w7 ⟨v7, rfl, o7, hb7'⟩
   have hb7 : Below wr.heap.size wr w7 := bl_trans hbW1 hb7'
   have o7' := own_mono o7 hbW1.size
   obtain ⟨B7, d7, rfl⟩ := own_sl1 o7
   have hK7 := AsyK.up HK.out hb7
   obtain ⟨cs6, fs6⟩ := hK7.sCell (k := k) (by rw [HVS.out]; show _ = Value.slice _ (slotsTo n k).length _; rw [hsl]) (by show k < (slotsTo n k).length; omega)
   obtain ⟨Ak, ck, ek⟩ := own_sl1 (hK7.own (.sl k) (by show k < (slotsTo n k).length; omega))
   rw [ek] at cs6
   have hz7 := hb7.size
   have hk8 := AsyK.newSlots HK.out (k := k) (g := G) (cap := n.es.length) (by show k < (slotsTo n k).length; omega) (by rw [HVS.out]; show _ = Value.slice _ (slotsTo n k).length _; rw [hsl]) (v := .slice B7 l.length d7) (s := List.replicate l.length (-1)) (grown_below hb7) (by rw [List.length_replicate]; exact own_mono o7' (by omega)) (by
    rcases fresh_of o7' with h | ⟨g, h, h'⟩
    ·
     exact .inl h
    ·
     exact .inr ⟨g, h, h'⟩)
   have e8 : ({ rounds := [], before := [], now := [], slots := (slotsTo n k).set k (List.replicate l.length (-1)), flight := [] } : Asy) = ⟨[], [], [], slotsTo n (k + 1), []⟩ := by rw [slotsTo_set n HL.out]
   have hk9 : AsyK (w7.setCell ⟨G, k, none⟩ (.slice B7 l.length d7)) w0.heap.size (upd val (.sl k) (.slice B7 l.length d7)) ⟨[], [], [], slotsTo n (k + 1), []⟩ := by rw [← e8]; exact hk8
   have HK9 := Lib.hid hk9
   have HB9 := Lib.hid ((hbl.trans (hb7.mono hsz)).setCell (p := ⟨G, k, none⟩) (by rw [HG.out]; show w0.heap.size ≤ _; rw [HS0.out]; exact Nat.le_refl _) (.slice B7 l.length d7))
   clear hk8 hk9 e8 ek o7 o7' hK7 hb7'
   go_wp2_with fail
   go_roundw
   case rel => exact ⟨k + 1, _, by omega, by go_num, by rw [upd_ne _ _ (by simp)]; exact HVS.out, HK9.out, HB9.out⟩
   case measure => simp [intOf]; omega
  ·
   obtain rfl : k = n.es.length := by omega
   have hkf := HK.out
   rw [slotsTo_all] at hkf
   have HKF := Lib.hid hkf
   clear hkf
   go_wp2_with fail
   go_ret
   exact ⟨val, by rw [HVS.out]; rfl, OwnK.mono HKF.out (by omega), hBr⟩
end Go.Proofs.YtehkcodbcnhhoaaGreat
