/-
  Asynchronous states, the program's side: slotsOk, asyncOk, IsAsyncState.
-/
import Derived.Test.YtcpbbjocaimocaaGreatERunsOn
namespace Go.Proofs.YtcpbbjocaimocaaGreat
open Go.RowKit
set_option linter.all false
def badB (m : Mach) (e : Int × Int) : Bool := !(inB e.1 0 40 && inB e.2 0 (m.msg - 1))
theorem badB_f {m : Mach} {e : Int × Int} (h : badB m e = false) : letOk m e := by
  unfold badB at h
  rw [Bool.not_eq_false', Bool.and_eq_true] at h
  exact ⟨inBt h.1, inBt h.2⟩
theorem badB_t {m : Mach} {e : Int × Int} (h : badB m e = true) : ¬ letOk m e := fun hp => by
  unfold badB at h
  rw [inB_t hp.1, inB_t hp.2] at h
  cases h
theorem closure_slots (m : Mach) (e : Int × Int) (G : Nat) (w : World) (hG : G < w.heap.size) (hc : w.cell? ⟨G, 2, none⟩ = some (.int .i64 m.msg)) (hg : 1 ≤ m.msg ∧ m.msg ≤ 6) :
    Calls Tryz.prog 159 #[.agg #[.int .i64 e.1, .int .i64 e.2], .pointer (some ⟨G, 0, none⟩)] w fun e' w' => e' = .returned (.bool (badB m e)) ∧ Below w.heap.size w w' := by
  obtain ⟨wv, hwv, hb, HK, hzv, HSV⟩ := box2 w (.int .i64 e.1) (.int .i64 e.2) 156
  have HWV := Lib.hid hwv
  obtain ⟨z0, z1, zf⟩ := cells2 HK
  have z2 := (hb.cell (p := ⟨G, 2, none⟩) hG).trans hc
  rw [hwv] at z0 z1 z2
  clear hwv hc
  cases q1 : inB e.1 0 40 with
  | false =>
    have HF := Lib.hid (show true = badB m e by unfold badB; rw [q1]; rfl)
    go_enter Tryz.func159, Tryz.ntmps159
    go_wp2_with (go_at_call 80; (try rw [show IntKind.i64.wrap (m.msg - 1) = m.msg - 1 from IntWalk.i64_in _ (by omega)]); refine (impl_within _ _ _ _).mono ?_; rintro e w' ⟨rfl, rfl⟩)
    go_ret
    exact ⟨ret_bool HF.out, by rw [← HWV.out]; exact hb⟩
  | true =>
    have HF := Lib.hid (show (!inB e.2 0 (m.msg - 1)) = badB m e by unfold badB; rw [q1]; rfl)
    go_enter Tryz.func159, Tryz.ntmps159
    go_wp2_with (go_at_call 80; (try rw [show IntKind.i64.wrap (m.msg - 1) = m.msg - 1 from IntWalk.i64_in _ (by omega)]); refine (impl_within _ _ _ _).mono ?_; rintro e w' ⟨rfl, rfl⟩)
    go_ret
    exact ⟨ret_bool HF.out, by rw [← HWV.out]; exact hb⟩
def LxIdx (m : Mach) (ls : Ends) (w : World) (e : Ending) (w' : World) : Prop := ∃ i : Int, e = .returned (.int .i64 i) ∧ -1 ≤ i ∧ i ≤ ls.length ∧ (decide (0 ≤ i) = false → ∀ e ∈ ls, letOk m e) ∧ (decide (0 ≤ i) = true → ¬ ∀ e ∈ ls, letOk m e) ∧ Below w.heap.size w w'
set_option maxRecDepth 100000 in
theorem index_lets (m : Mach) (v : Value) (ls : Ends) (G : Nat) (w : World) (h : EndsR w (· < w.heap.size) v ls) (hl : ls.length ≤ 12) (hG : G < w.heap.size) (hc : w.cell? ⟨G, 2, none⟩ = some (.int .i64 m.msg)) (hg : 1 ≤ m.msg ∧ m.msg ≤ 6) :
  Calls Tryz.prog 165 #[v, .func (.func 159) #[] #[.pointer (some ⟨G, 0, none⟩)]] w (LxIdx m ls w) := by
 obtain ⟨Bl, dl, rfl, hdl, hDl, hil, hrl⟩ := h
 unfold maxLen at hDl
 have HC := Lib.hid hc
 have HRL := Lib.hid hrl
 clear hc hrl
 go_enter Tryz.func165, Tryz.ntmps165
 go_wp2_with fail
 go_loopw [8, 5] (fun i _ wr => SylRel m ls w i wr) (fun i _ _ => ls.length - (intOf i).toNat)
 case atStart => exact ⟨Below.refl _ _, 0, Nat.zero_le _, rfl, by simp⟩
 case round =>
  obtain ⟨hb, k, hk, rfl, hup⟩ := hrel
  have HU := Lib.hid hup; clear hup
  have hz := hb.size
  by_cases hlt : k < ls.length
  ·
   obtain ⟨x, hx⟩ : ∃ x, ls[k]? = some x := ⟨_, List.getElem?_eq_getElem hlt⟩
   obtain ⟨bl, ol, rfl, hbl, hrowl⟩ := HRL.out (by omega)
   obtain ⟨p0, p1⟩ := hrowl k x hx
   replace p0 := (hb.cell (p := ⟨bl, ol + k * 2, none⟩) hbl).trans p0
   replace p1 := (hb.cell (p := ⟨bl, ol + k * 2 + 1, none⟩) hbl).trans p1
   have J := Lib.hid (closure_slots m x G wr (by omega) ((hb.cell (p := ⟨G, 2, none⟩) hG).trans HC.out) hg)
   have HX := Lib.hid hx
   clear hx hrowl
   cases q : badB m x with
   | true =>
    rw [q] at J
    have HQ := Lib.hid (show ¬ ∀ e ∈ ls, letOk m e from fun h => badB_t q (h x (List.mem_of_getElem? HX.out)))
    go_wp2_with fail
    refine J.out.mono ?_
    rintro e w' ⟨rfl, hb'⟩
    go_wp2_with fail
    go_ret
    exact ⟨k, rfl, by omega, by omega, fun h => absurd h (by simp), fun _ => HQ.out, bl_trans hb hb'⟩
   | false =>
    rw [q] at J
    have HQ := Lib.hid (badB_f q)
    go_wp2_with fail
    refine J.out.mono ?_
    rintro e w' ⟨rfl, hb'⟩
    go_wp2_with fail
    go_roundw
    case rel => exact ⟨bl_trans hb hb', k + 1, by omega, by go_num, take_next HU.out HX.out HQ.out⟩
    case measure => simp [intOf]; omega
  ·
   have HF := Lib.hid (take_all HU.out (by omega))
   go_wp2_with fail
   go_ret
   exact ⟨-1, rfl, by omega, by omega, fun _ => HF.out, fun h => absurd h (by decide), hb⟩
noncomputable def letsB (m : Mach) (ls : Ends) : Bool := propB (∀ e ∈ ls, letOk m e)
theorem contains_lets (m : Mach) (v : Value) (ls : Ends) (G : Nat) (w : World) (h : EndsR w (· < w.heap.size) v ls) (hl : ls.length ≤ 12) (hG : G < w.heap.size) (hc : w.cell? ⟨G, 2, none⟩ = some (.int .i64 m.msg)) (hg : 1 ≤ m.msg ∧ m.msg ≤ 6) :
    Calls Tryz.prog 158 #[v, .func (.func 159) #[] #[.pointer (some ⟨G, 0, none⟩)]] w fun e w' => e = .returned (.bool (!letsB m ls)) ∧ Below w.heap.size w w' := by
  have J := Lib.hid (index_lets m v ls G w h hl hG hc hg)
  clear h hc
  go_enter Tryz.func158, Tryz.ntmps158
  go_wp2_with fail
  refine J.out.mono ?_
  rintro e w' ⟨i, rfl, h1, h2, h3, h4, hb⟩
  have HI := Lib.hid (show decide (0 ≤ i) = !letsB m ls by
    cases q : decide (0 ≤ i) with
    | true => rw [show letsB m ls = false from propB_f (h4 q)]; rfl
    | false => rw [show letsB m ls = true from propB_t (h3 q)]; rfl)
  clear h3 h4
  go_wp2_with fail
  go_ret
  exact ⟨ret_bool HI.out, hb⟩
noncomputable def slB (m : Mach) (p : Nat) (s : List Int) (f : List Ends) : Bool := propB (slotP m p s f)
set_option maxRecDepth 100000 in
set_option maxHeartbeats 2000000 in
theorem impl_slotsOk (vs ve vc vo : Value) (m : Mach) (p : Nat) (v8 v9 : Value) (s : List Int) (f : List Ends) (w : World) (hm : MachR w w.heap.size vs ve vc vo m) (h8 : IntsR w w.heap.size v8 s) (h9 : EndssR w (· < w.heap.size) v9 f) (hg : 1 ≤ m.msg ∧ m.msg ≤ 6) :
  Calls Tryz.prog 140 #[machV vs ve vc vo m, .int .i64 p, v8, v9] w fun e w' => e = .returned (.bool (slB m p s f)) ∧ Below w.heap.size w w' := by
 unfold machV
 obtain ⟨⟨A0, m0, c0, rfl⟩, ⟨A1, m1, c1, rfl⟩, ⟨A2, m2, c2, rfl⟩, A3, m3, c3, rfl⟩ := hm.slices
 have h8o := h8.open_
 obtain ⟨B8, d8, rfl, hd8, hD8, -⟩ := h8o
 obtain ⟨B9, d9, rfl, hd9, hD9, hrf⟩ := h9
 unfold maxLen at hD8 hD9
 have H8 := Lib.hid h8
 have HRF := Lib.hid hrf
 clear h8 hrf
 obtain ⟨w0, hw0, hb0, HM, hz0, HS0⟩ := box7 w (.int .i64 m.deg) (.int .i64 m.st) (.int .i64 m.msg) (.slice A0 m0 c0) (.slice A1 m1 c1) (.slice A2 m2 c2) (.slice A3 m3 c3) 42
 have hB : Below w.heap.size w w0 := hb0
 have HW := Lib.hid (show w0 = w.alloc (.cells #[.int .i64 m.deg, .int .i64 m.st, .int .i64 m.msg, .slice A0 m0 c0, .slice A1 m1 c1, .slice A2 m2 c2, .slice A3 m3 c3] 42) by rw [hw0])
 obtain ⟨⟨g0, g1, g2⟩, ⟨g3, g4, g5, g6⟩, gf⟩ := cells7 HM
 have eg0 := g0
 have eg1 := g1
 have eg2 := g2
 have eg3 := g3
 have eg4 := g4
 have eg5 := g5
 have eg6 := g6
 rw [HW.out] at eg0 eg1 eg2 eg3 eg4 eg5 eg6
 have hzb0 : w.heap.size < w0.heap.size := by omega
 have HR := Lib.hid (hm.up hB)
 clear hw0
 clear HR
 by_cases t1 : s.length = p
 ·
  have s1 : (((s.length : Nat) : Int) != ((p : Nat) : Int)) = false := by rw [t1]; simp
  have HS1 := Lib.hid t1
  clear t1
  by_cases t2 : f.length = p
  ·
   have s2 : (((f.length : Nat) : Int) != ((p : Nat) : Int)) = false := by rw [t2]; simp
   have HS2 := Lib.hid t2
   clear t2
   cases q : allB s (-1) (m.msg - 1) with
   | false =>
    have HF := Lib.hid (show slB m p s f = false from propB_f fun hp => by rw [allB_iff.2 hp.2.2.1] at q; cases q).symm
    go_enter Tryz.func140, Tryz.ntmps140
    go_wp2_with fail
    rw [← HW.out]
    clear eg0 eg1 eg2 eg3 eg4 eg5 eg6
    (try rw [show IntKind.i64.wrap (m.msg - 1) = m.msg - 1 from IntWalk.i64_in _ (by omega)])
    refine (impl_allWithin _ s _ _ w0 ((H8.out.below hB).more hB.size)).mono ?_
    rintro e w5 ⟨rfl, hb5⟩
    rw [q]
    have hzhb5 := hb5.size
    clear g0 g1 g2 g3 g4 g5 g6 gf
    replace HM := bk HM hb5
    replace hB := bl_trans hB hb5
    obtain ⟨⟨g0, g1, g2⟩, ⟨g3, g4, g5, g6⟩, gf⟩ := cells7 HM
    go_wp2_with fail
    go_ret
    exact ⟨ret_bool HF.out, hB⟩
   | true =>
    have HQ := Lib.hid q
    go_enter Tryz.func140, Tryz.ntmps140
    go_wp2_with fail
    rw [← HW.out]
    clear eg0 eg1 eg2 eg3 eg4 eg5 eg6
    (try rw [show IntKind.i64.wrap (m.msg - 1) = m.msg - 1 from IntWalk.i64_in _ (by omega)])
    refine (impl_allWithin _ s _ _ w0 ((H8.out.below hB).more hB.size)).mono ?_
    rintro e w5 ⟨rfl, hb5⟩
    rw [q]
    have hzhb5 := hb5.size
    clear g0 g1 g2 g3 g4 g5 g6 gf
    replace HM := bk HM hb5
    replace hB := bl_trans hB hb5
    obtain ⟨⟨g0, g1, g2⟩, ⟨g3, g4, g5, g6⟩, gf⟩ := cells7 HM
    go_wp2_with fail
    obtain ⟨wq, rfl⟩ : ∃ z, z = w5 := ⟨_, rfl⟩
    go_loopw [31] (fun i wr' => SyfRel m f wq i wr') (fun i _ => f.length - (intOf i).toNat)
    case atStart => exact ⟨Below.refl _ _, 0, Nat.zero_le _, rfl, by simp⟩
    case round =>
     obtain ⟨hb2, j, hj, rfl, hup⟩ := hrel
     have HU2 := Lib.hid hup; clear hup
     have hzhb2 := hb2.size
     clear g0 g1 g2 g3 g4 g5 g6 gf
     replace HM := bk HM hb2
     replace hB := bl_trans hB hb2
     obtain ⟨⟨g0, g1, g2⟩, ⟨g3, g4, g5, g6⟩, gf⟩ := cells7 HM
     by_cases hlt2 : j < f.length
     ·
      obtain ⟨ls, hls⟩ : ∃ y, f[j]? = some y := ⟨_, List.getElem?_eq_getElem hlt2⟩
      obtain ⟨adf, rfl, haf, hrowf⟩ := HRF.out (by omega)
      obtain ⟨ul, hul, hzl⟩ := hrowf j ls hls
      have HZL := Lib.hid ((EndsR.below hzl hB).more hB.size)
      obtain ⟨Bl, dl, rfl, hdl, hDl, hil, hrl⟩ := hzl
      unfold maxLen at hDl
      have hcl := (hB.cell (p := adf.add j) (by rw [block_add]; exact haf)).trans hul
      have HLS := Lib.hid hls
      clear hrl hul hls hrowf
      by_cases t3 : ls.length ≤ 12
      ·
       have J := Lib.hid (contains_lets m _ ls w.heap.size wr HZL.out t3 (by omega) g2 hg)
       cases q3 : letsB m ls with
       | false =>
        rw [q3] at J
        have HF := Lib.hid (show slB m p s f = false from propB_f fun hp => by rw [show letsB m ls = true from propB_t (hp.2.2.2 ls (List.mem_of_getElem? HLS.out)).2] at q3; cases q3).symm
        go_wp2_with fail
        refine J.out.mono ?_
        rintro e w6 ⟨rfl, hb6⟩
        go_wp2_with fail
        go_ret
        exact ⟨ret_bool HF.out, bl_trans hB hb6⟩
       | true =>
        rw [q3] at J
        have HLP := Lib.hid (show letP m ls from ⟨t3, propB_iff.1 q3⟩)
        go_wp2_with fail
        refine J.out.mono ?_
        rintro e w6 ⟨rfl, hb6⟩
        go_wp2_with fail
        go_roundw
        case rel => exact ⟨bl_trans hb2 hb6, j + 1, by omega, by go_num, take_next HU2.out HLS.out HLP.out⟩
        case measure => simp [intOf]; omega
      ·
       have HF := Lib.hid (show slB m p s f = false from propB_f fun hp => t3 (hp.2.2.2 ls (List.mem_of_getElem? HLS.out)).1).symm
       go_wp2_with fail
       go_ret
       exact ⟨ret_bool HF.out, hB⟩
     ·
      have HF := Lib.hid (show slB m p s f = true from propB_t ⟨HS1.out, HS2.out, allB_iff.1 HQ.out, take_all HU2.out (by omega)⟩).symm
      go_wp2_with fail
      go_ret
      exact ⟨ret_bool HF.out, hB⟩
  ·
   have s2 : (((f.length : Nat) : Int) != ((p : Nat) : Int)) = true := by rw [bne_iff_ne]; omega
   have HF := Lib.hid (show slB m p s f = false from propB_f fun hp => t2 hp.2.1).symm
   go_enter Tryz.func140, Tryz.ntmps140
   go_wp2_with fail
   go_ret
   exact ⟨ret_bool HF.out, by rw [← HW.out]; exact hB⟩
 ·
  have s1 : (((s.length : Nat) : Int) != ((p : Nat) : Int)) = true := by rw [bne_iff_ne]; omega
  have HF := Lib.hid (show slB m p s f = false from propB_f fun hp => t1 hp.1).symm
  go_enter Tryz.func140, Tryz.ntmps140
  go_wp2_with fail
  go_ret
  exact ⟨ret_bool HF.out, by rw [← HW.out]; exact hB⟩
end Go.Proofs.YtcpbbjocaimocaaGreat
