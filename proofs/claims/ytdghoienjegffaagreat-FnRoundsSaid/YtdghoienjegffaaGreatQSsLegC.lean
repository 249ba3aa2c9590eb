/-
  The reference's neEdges and ssLegalOf: the edges, legal states. Condition: valid networks.
-/
import Derived.Test.YtdghoienjegffaaGreatQSsLegB
namespace Go.Proofs.YtdghoienjegffaaGreat
open Go.RowKit
set_option linter.all false
def EeRel (n : Net) (w : World) (v i : Value) (wr : World) : Prop := ∃ k : Nat, k ≤ n.es.length ∧ i = .int .i64 k ∧ EdsR wr w.heap.size v (edV n k) ∧ Below w.heap.size w wr
def EjRel (n : Net) (k : Nat) (l : Ends) (w wq : World) (v i : Value) (wr : World) : Prop := ∃ j : Nat, j ≤ l.length ∧ i = .int .i64 j ∧ EdsR wr w.heap.size v (edV n k ++ edI k l j) ∧ Below w.heap.size wq wr
set_option maxRecDepth 100000 in
set_option maxHeartbeats 2000000 in
theorem spec_neEdges (ve vi vn : Value) (n : Net) (w : World) (h : NetR w w.heap.size ve vi vn n) (hp : netP n) :
  Calls Tryz.prog 106 #[.agg #[ve, vi, vn]] w fun e w' => ∃ u, e = .returned u ∧ EdsR w' w.heap.size u (edV n n.es.length) ∧ Below w.heap.size w w' := by
 have h40 := hp.1.2
 have HP := Lib.hid hp; clear hp
 obtain ⟨⟨A0, m0, c0, rfl⟩, ⟨A1, m1, c1, rfl⟩, A2, m2, c2, rfl⟩ := h.slices
 obtain ⟨w0, hw0, hB, HD, hz0, HS0⟩ := box3 w (.slice A0 m0 c0) (.slice A1 m1 c1) (.slice A2 m2 c2) 27
 have HN0 := Lib.hid h; have HN := Lib.hid (h.up hB); clear h
 have HW0 := Lib.hid hw0; clear hw0
 obtain ⟨q0, q1, q2, qf⟩ := cells3 HD
 obtain ⟨hm0, -, -⟩ := HN.out.e.len_slice
 subst hm0
 go_enter Tryz.func106, Tryz.ntmps106
 go_wp2_with fail
 rw [← HW0.out]
 go_loopw [3, 4, 5, 11] (fun v _ _ i wr => EeRel n w0 v i wr) (fun _ _ _ i _ => n.es.length - (intOf i).toNat)
 case atStart => exact ⟨0, Nat.zero_le _, rfl, EdsR.nil _ _, Below.refl _ _⟩
 case round =>
  obtain ⟨k, hk, rfl, hed, hbl⟩ := hrel
  have HE := Lib.hid hed
  have HBL := Lib.hid hbl
  have hzr := hbl.size
  have HN0 := HN
  have HD0 := HD
  have hzhbl := hbl.size
  clear q0 q1 q2 qf
  replace HD := bk HD hbl
  replace HN := Lib.hid (HN.out.up hbl)
  replace hB := bl_trans hB hbl
  obtain ⟨q0, q1, q2, qf⟩ := cells3 HD
  clear hed
  by_cases hlt : k < n.es.length
  ·
   obtain ⟨l, hl⟩ : ∃ y, n.es[k]? = some y := ⟨_, List.getElem?_eq_getElem hlt⟩
   have hl6 := HP.out.len hl
   have HEL := Lib.hid (edV_len HP.out k)
   have HVK := Lib.hid (show edV n (k + 1) = edV n k ++ edI k l l.length by rw [edV, rowAt_eq hl])
   have HL := Lib.hid hl
   have hne := HN0.out.e
   obtain ⟨A0', c0', e0, -, hmx, hrows⟩ := hne
   obtain ⟨rfl, -, rfl⟩ := Value.slice.inj e0
   obtain ⟨ad, rfl, hab, hac⟩ := hrows (by omega)
   obtain ⟨u, hu, hr⟩ := hac k l hl
   obtain ⟨A', c', rfl, g1, g2, g3, g4⟩ := hr
   have HC := Lib.hid g4
   unfold maxLen at g2
   replace hu := (HBL.out.cell (p := ad.add k) (by rw [block_add]; exact hab)).trans hu
   clear hl hrows hac g3 g4 e0
   go_wp2_with fail
   clear hu
   obtain ⟨wq, rfl⟩ : ∃ z, z = wr := ⟨_, rfl⟩
   go_loopw [3, 6, 7, 18] (fun v _ _ i wr => EjRel n k l w0 wq v i wr) (fun _ _ _ i _ => l.length - (intOf i).toNat)
   case atStart => exact ⟨0, Nat.zero_le _, rfl, by rw [edI, List.append_nil]; exact HE.out, Below.refl _ _⟩
   case round =>
    obtain ⟨j, hj, rfl, hed, hbl2⟩ := hrel
    have HE2 := Lib.hid hed
    have hz2 := hbl2.size
    have HB2 := Lib.hid hbl2
    clear hed
    by_cases hltj : j < l.length
    ·
     obtain ⟨⟨ea, ep⟩, hej⟩ : ∃ y, l[j]? = some y := ⟨_, List.getElem?_eq_getElem hltj⟩
     obtain ⟨eb, eo, rfl, heb, hcells⟩ := HC.out (by omega)
     obtain ⟨k0, k1⟩ := hcells j _ hej
     have h02 : Below w0.heap.size w0 wr := HBL.out.trans hbl2
     replace k0 := (h02.cell (p := ⟨eb, eo + j * 2, none⟩) (by exact heb)).trans k0
     replace k1 := (h02.cell (p := ⟨eb, eo + j * 2 + 1, none⟩) (by exact heb)).trans k1
     obtain ⟨wa, hwa, hba, HEA, hza, HSA⟩ := box2 wr (.int .i64 ea) (.int .i64 ep) 74
     have HDA := bk (bk HD0 h02) hba
     have HNA := Lib.hid ((HN0.out.up h02).up hba)
     obtain ⟨PE, hPE⟩ : ∃ z, z = wr.heap.size := ⟨_, rfl⟩
     have HPE := Lib.hid hPE
     have hPEl : wr.heap.size ≤ PE ∧ PE ≤ wr.heap.size := by omega
     have hPEa : PE < wa.heap.size := by omega
     rw [← hPE] at HEA
     have HWA := Lib.hid hwa
     have hzaa := hba.size
     obtain ⟨r0, r1, r2, rf⟩ := cells3 HDA
     rw [hwa] at r0 r1 r2
     have HEJ := Lib.hid hej
     have hjl : (j : Int) < (l.length : Int) := by omega
     have HBA := Lib.hid hba
     clear hwa hPE hcells hej rf
     go_wp2_with fail
     rw [← HWA.out, ← HPE.out]
     clear r0 r1 r2 k0 k1
     refine (spec_neFirst _ _ _ n k j l (ea, ep) wa HNA.out HL.out HEJ.out).mono ?_
     rintro e w2 ⟨rfl, hb2⟩
     have hB2 : Below wr.heap.size wr w2 := bl_trans HBA.out hb2
     have hzz2 := hb2.size
     by_cases hf : firstB k j (ea, ep) = true
     ·
      rw [hf]
      have HF := Lib.hid (show edV n k ++ edI k l (j + 1) = (edV n k ++ edI k l j) ++ [((k : Int), (j : Int), ea, ep)] by rw [edI_at HEJ.out, if_pos hf, List.append_assoc])
      obtain ⟨vs, h1, h2⟩ := HE2.out.keep hB2.size (fun b _ hb => hB2.block b hb)
      obtain ⟨LE, hLE⟩ : ∃ z, z = (edV n k ++ edI k l j).length := ⟨_, rfl⟩
      have hLE3 : LE ≤ 300 := by
       rw [hLE, List.length_append]
       have := HEL.out
       have := edI_len k l j
       omega
      have HSN := Lib.hid (fun v' w' hn hg => EdsR.snoc (w := w2) (w' := w') (base := w0.heap.size) (v' := v') ((k : Int), (j : Int), ea, ep) h1 h2 (by omega) hn hg)
      rw [← hLE] at h1 HSN
      have H1 := Lib.hid h1
      have hbs : w0.heap.size ≤ (w2.alloc (.cells #[.int .i64 (k : Int), .int .i64 (j : Int), .int .i64 ea, .int .i64 ep] 3)).heap.size := by simp only [World.size_alloc]; omega
      obtain ⟨t0, t1, tf⟩ := cells2 (bk HEA hb2)
      clear h1 h2 hLE hf
      go_wp2_with (at_builtin; refine wpList_append1 (w2.alloc (.cells #[.int .i64 (k : Int), .int .i64 (j : Int), .int .i64 ea, .int .i64 ep] 3)) rfl (.tmp 27) (.tmp 35) 101 rfl w0.heap.size 25 _ 24 Tryz.underlying101 sliceInfo rfl _ _ _ rfl _ rfl (by show Value.slice (some ⟨w2.heap.size + 1, 0, none⟩) 1 1 = _; simp) (H1.out.alloc _) (by unfold maxLen; omega) (by omega) hbs ?_; intro v' w' hown' hbl' hgr' hlt' hob')
      go_roundw
      case rel => exact ⟨j + 1, by omega, by go_num, by rw [HF.out]; exact HSN.out _ _ hown' hgr', HB2.out.trans ((hB2.mono (show w0.heap.size ≤ wr.heap.size by omega)).trans (((bl_alloc (Below.refl w2.heap.size w2) _).mono (show w0.heap.size ≤ w2.heap.size by omega)).trans hbl'))⟩
      case measure => simp [intOf]; omega
     ·
      have HF := Lib.hid (show edI k l (j + 1) = edI k l j by rw [edI_at HEJ.out, if_neg hf, List.append_nil])
      rw [show firstB k j (ea, ep) = false by simpa using hf]
      go_wp2_with fail
      go_roundw
      case rel => exact ⟨j + 1, by omega, by go_num, by rw [HF.out]; exact HE2.out.keep hB2.size (fun b _ hb => hB2.block b hb), HB2.out.trans (hB2.mono (by omega))⟩
      case measure => simp [intOf]; omega
    ·
     obtain rfl : j = l.length := by omega
     have hjj : ((l.length : Int) < (l.length : Int)) = False := eq_false (by omega)
     go_wp2_with fail
     go_roundw
     case rel => exact ⟨k + 1, by omega, by go_num, by rw [HVK.out]; exact HE2.out, HBL.out.trans HB2.out⟩
     case measure => simp [intOf]; omega
  ·
   obtain rfl : k = n.es.length := by omega
   have HR := Lib.hid (show EdsR wr w.heap.size _ (edV n n.es.length) from by
    obtain ⟨vs, h1, h2⟩ := HE.out
    exact ⟨vs, own_mono h1 (by omega), fun k x hx => by obtain ⟨g, a, b, c⟩ := h2 k x hx; exact ⟨g, a, by omega, c⟩⟩)
   go_wp2_with fail
   go_ret
   exact ⟨_, rfl, HR.out, hB⟩
end Go.Proofs.YtdghoienjegffaaGreat
