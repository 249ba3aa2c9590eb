/-
  Walk problems, the reference's side: which labels reach which ones.
-/
import Derived.Test.YtjhljipehnmbnaaGreatCwSX
namespace Go.Proofs.YtjhljipehnmbnaaGreat
open Go.RowKit
set_option linter.unusedVariables false
set_option linter.unusedSimpArgs false
noncomputable def rcB (xss : List (List Int)) (a b : Nat) : Bool := propB (rc (hasArc xss) a b)
/-- Where the powers below k have been seen, and of the next one the rows below a, and of row a the entries below b. -/
noncomputable def frF (xss : List (List Int)) (k a b x y : Nat) : Bool := propB ((∃ i, i < k ∧ 1 ≤ i ∧ wk (hasArc xss) i x y) ∨ ((x < a ∨ (x = a ∧ y < b)) ∧ 1 ≤ k ∧ wk (hasArc xss) k x y))
theorem fr_zero (xss : List (List Int)) (x y : Nat) : frF xss 0 0 0 x y = false := propB_f (by rintro (⟨i, h, _⟩ | ⟨_, h, _⟩) <;> omega)
theorem fr_row (xss : List (List Int)) (k a n x y : Nat) (hy : y < n) : frF xss k a n x y = frF xss k (a + 1) 0 x y := propB_congr ⟨by
  rintro (h | ⟨h, h2⟩)
  · exact .inl h
  · exact .inr ⟨by omega, h2⟩, by
  rintro (h | ⟨h, h2⟩)
  · exact .inl h
  · exact .inr ⟨by omega, h2⟩⟩
theorem fr_pow (xss : List (List Int)) (k n x y : Nat) (hx : x < n) : frF xss k n 0 x y = frF xss (k + 1) 0 0 x y := propB_congr ⟨by
  rintro (⟨i, h1, h2⟩ | ⟨h, h2⟩)
  · exact .inl ⟨i, by omega, h2⟩
  · exact .inl ⟨k, by omega, h2⟩, by
  rintro (⟨i, h1, h2⟩ | ⟨h, h2, _⟩)
  · by_cases e : i = k
    · subst e; exact .inr ⟨by omega, h2⟩
    · exact .inl ⟨i, by omega, h2⟩
  · omega⟩
theorem fr_at (xss : List (List Int)) (k a b x y : Nat) : (if x = a ∧ y = b then (frF xss k a b a b || (wkB xss k a b && decide (0 < k))) else frF xss k a b x y) = frF xss k a (b + 1) x y := by
  split
  · rename_i e
    obtain ⟨rfl, rfl⟩ := e
    unfold frF wkB
    rw [Bool.eq_iff_iff, Bool.or_eq_true, propB_iff, propB_iff, Bool.and_eq_true, propB_iff, decide_eq_true_eq]
    constructor
    · rintro ((h | ⟨h, _⟩) | ⟨h1, h2⟩)
      · exact .inl h
      · omega
      · exact .inr ⟨by omega, by omega, h1⟩
    · rintro (h | ⟨_, h1, h2⟩)
      · exact .inl (.inl h)
      · exact .inr ⟨h2, by omega⟩
  · rename_i e
    refine propB_congr ⟨?_, ?_⟩
    · rintro (h | ⟨h, h2⟩)
      · exact .inl h
      · exact .inr ⟨by omega, h2⟩
    · rintro (h | ⟨h, h2⟩)
      · exact .inl h
      · exact .inr ⟨by
          rcases h with h | ⟨h, h3⟩
          · exact .inl h
          · right; refine ⟨h, ?_⟩
            rcases Nat.lt_or_ge y b with q | q
            · exact q
            · exact absurd ⟨h, by omega⟩ e, h2⟩
theorem fr_all {n : Nat} {xss : List (List Int)} (hg : Good n xss) (x y : Nat) : frF xss (n + 1) 0 0 x y = rcB xss x y := propB_congr ⟨by
  rintro (⟨i, _, h1, h2⟩ | ⟨h, _⟩)
  · exact ⟨i, h1, h2⟩
  · omega, fun h => by
  obtain ⟨j, h1, h2, h3⟩ := rc_short (fun x y => arc_lt hg) h
  exact .inl ⟨j, by omega, h1, h3⟩⟩
def RqRel (n m : Nat) (base : Nat) (v : Value) (gs : List Nat) (F : Nat → Nat → Nat → Bool) (w3 : World) (i : Value) (wr : World) : Prop :=
  ∃ k : Nat, k ≤ m ∧ i = .int .i64 k ∧ OwnMat wr base v n gs (F k) ∧ Only gs w3 wr ∧ Below base w3 wr
set_option maxRecDepth 100000 in
set_option maxHeartbeats 1000000 in
theorem spec_waReach (n : Nat) (v : Value) (xss : List (List Int)) (w : World) (h : RowsR w w.heap.size v xss) (hg : Good n xss) :
    Calls Tryz.prog 83 #[.agg #[.int .i64 (n : Int), v]] w fun e w' => ∃ v' gs, e = .returned v' ∧ gs.length = n ∧ OwnMat w' w.heap.size v' n gs (rcB xss) ∧ Below w.heap.size w w' := by
  have hn := good_n hg
  have HH := Lib.hid h; clear h
  have HG := Lib.hid hg; clear hg
  obtain ⟨w0, hw0⟩ : ∃ z, z = w.alloc (.cells #[.int .i64 (n : Int), v] 26) := ⟨_, rfl⟩
  have hb0 : Below w.heap.size w w0 := by rw [hw0]; exact bl_alloc (Below.refl _ _) _
  have hz0 : w0.heap.size = w.heap.size + 1 := by rw [hw0]; simp
  have HB0 := Lib.hid (show w0.heap[w.heap.size]? = some (.cells #[.int .i64 (n : Int), v] 26 (0, 0)) by rw [hw0]; exact heap_alloc_new _ _)
  have HW0 := Lib.hid hw0
  have hzz : w.heap.size < w0.heap.size := by omega
  clear hw0 hz0
  obtain ⟨b0, b1, bf⟩ := cells2 HB0
  go_enter Tryz.func83, Tryz.ntmps83
  go_wp2_with fail
  rw [← HW0.out]
  refine (spec_waMayO n (.slice none 0 0) [] w0 (rows_nilR _ _) (good_nil HG.out)).mono ?_
  rintro e w1 ⟨u, gs, rfl, hgs, hown, hb1⟩
  have HB1 := bk HB0 hb1 (by omega)
  have hb01 := bl_trans hb0 hb1
  have hz1 := hb1.size
  obtain ⟨go, co, rfl, go1, go2⟩ := hown.sl (by omega)
  rw [hgs] at hown ⊢
  have hgo1 : n ≤ co := by
    obtain ⟨g, c, e, h1, _⟩ := own_some hown.row (by omega)
    cases e
    omega
  have HO1 := Lib.hid (hown.congr (f' := frF xss 0 0 0) fun a _ b _ => by
    rw [fr_zero]
    exact propB_f (by simp [hasArc]))
  have HGL := Lib.hid (fun g hg => hown.lt (g := g) hg)
  clear hown b0 b1 bf
  obtain ⟨b0, b1, bf⟩ := cells2 HB1
  go_wp2_with fail
  refine (spec_waPowers n n v xss w1 ((HH.out.below hb01).more hb01.size) HG.out (by omega)).mono ?_
  rintro e w2 ⟨pv, rfl, hpw, hb2⟩
  have HPW := Lib.hid hpw
  have hb02 := bl_trans hb01 hb2
  have hz2 := hb2.size
  obtain ⟨gp, cp, -, rfl, gp1, gp2, -, -, -, -⟩ := hpw.at_ (i := 0) (by omega)
  have hst : RqRel n (n + 1) w0.heap.size (.slice (some ⟨go, 0, none⟩) n co) gs (fun k => frF xss k 0 0) w2 (.int .i64 0) w2 := ⟨0, Nat.zero_le _, rfl, HO1.out.up hb2, Only.refl _ _, Below.refl _ _⟩
  have HST := Lib.hid hst
  clear hst hpw b0 b1 bf
  go_wp2_with fail
  go_loopw [18] (fun i wr => RqRel n (n + 1) w0.heap.size (.slice (some ⟨go, 0, none⟩) n co) gs (fun k => frF xss k 0 0) w2 i wr) (fun i _ => (n + 1) - (intOf i).toNat)
  case atStart => exact HST.out
  case round =>
    clear HST
    obtain ⟨k, hk, rfl, hown, hon, hbl⟩ := hrel
    have HO := Lib.hid hown
    have HON := Lib.hid hon
    have hsz := hbl.size
    clear hown hon
    by_cases hlt : k < n + 1
    · obtain ⟨gp', cp', u, e, -, -, -, -, kcu, hR⟩ := HPW.out.at_ (i := k) hlt
      cases e
      have hgsne : ∀ g, w1.heap.size ≤ g → g ∉ gs := fun g h hm => by have := HGL.out g hm; omega
      replace kcu := HON.out.cell kcu (hgsne _ gp1)
      have HML := Lib.hid (MatL.only hR HON.out HGL.out)
      obtain ⟨gm, cm, rfl, m1, m2, m3, m4⟩ := HML.out
      have HM4 := Lib.hid m4
      have hst : RqRel n n w0.heap.size (.slice (some ⟨go, 0, none⟩) n co) gs (fun a => frF xss k a 0) wr (.int .i64 0) wr := ⟨0, Nat.zero_le _, rfl, HO.out, Only.refl _ _, Below.refl _ _⟩
      have HST := Lib.hid hst
      have HNE := Lib.hid hgsne
      clear hst hR m4 hgsne
      go_wp2_with fail
      clear kcu
      go_loopw [25] (fun i wr' => RqRel n n w0.heap.size (.slice (some ⟨go, 0, none⟩) n co) gs (fun a => frF xss k a 0) wr i wr') (fun i _ => n - (intOf i).toNat)
      case atStart => exact HST.out
      case round =>
        clear HST
        obtain ⟨a, ha, rfl, hown, hon, hbl2⟩ := hrel
        have HO2 := Lib.hid hown
        have HON2 := Lib.hid hon
        clear hown hon
        by_cases hla : a < n
        · obtain ⟨gr, cr, r1, r2, r3, r4, r5⟩ := HM4.out a hla
          have HR5 := Lib.hid r5
          have kr := HON2.out.cell r1 (HNE.out _ m2)
          have hst : RqRel n n w0.heap.size (.slice (some ⟨go, 0, none⟩) n co) gs (fun b => frF xss k a b) wr (.int .i64 0) wr := ⟨0, Nat.zero_le _, rfl, HO2.out, Only.refl _ _, Below.refl _ _⟩
          have HST := Lib.hid hst
          obtain ⟨g, hga⟩ : ∃ g, gs[a]? = some g := ⟨gs[a]'(by omega), List.getElem?_eq_getElem (by omega)⟩
          have HGA := Lib.hid hga
          clear hst r5 hga
          go_wp2_with fail
          clear kr
          go_loopw [33] (fun i wr' => RqRel n n w0.heap.size (.slice (some ⟨go, 0, none⟩) n co) gs (fun b => frF xss k a b) wr i wr') (fun i _ => n - (intOf i).toNat)
          case atStart => exact HST.out
          case round =>
            clear HST
            obtain ⟨b, hb, rfl, hown, hon, hbl3⟩ := hrel
            have HO3 := Lib.hid hown
            have HON3 := Lib.hid hon
            clear hown hon
            by_cases hlb : b < n
            · have kis := HON3.out.cell (HON2.out.cell (HR5.out b hlb) (HNE.out _ r3)) (HNE.out _ r3)
              have krow := HO3.out.row.cells (g := go) rfl a _ (by rw [List.getElem?_map, HGA.out]; rfl)
              rw [addr0] at krow
              unfold rowV at krow
              have hblk := HO3.out.blk a g HGA.out
              have kc : wr.cell? ⟨g, b, none⟩ = some (.bool (frF xss k a b a b)) := by rw [cell_of_row wr g b _ _ (0, 0) hblk]; exact bRow_at hlb
              have kf : wr.frozen? ⟨g, b, none⟩ = false := frozen_of_row _ _ b _ _ hblk
              have HS := Lib.hid (fun z (h : z = (frF xss k a b a b || (wkB xss k a b && decide (0 < k)))) => (HO3.out.store HGA.out hlb z).congr (f' := frF xss k a (b + 1)) fun x _ y _ => by rw [h]; exact fr_at xss k a b x y)
              have HIN := Lib.hid (List.mem_of_getElem? HGA.out)
              have HGE := Lib.hid (HO3.out.ge g HIN.out)
              clear hblk
              generalize frF xss k a b a b = old at *
              generalize wkB xss k a b = is at *
              have hgoN : go ∉ gs := fun h => HO3.out.far h rfl
              cases old with
              | true =>
                have HE2 := Lib.hid (HS.out true (by simp))
                clear HS
                go_wp2_with fail
                refine wp_region_held_drew (S := fun w' => w'.cell? ⟨go, a, none⟩ = some (.slice (some ⟨g, 0, none⟩) n n)) (by kernel_rfl) ?_ (fun hHeld => ?_)
                · go_keep
                refine tk 0 38 rfl rfl ?_
                try simp only [Act.put, pu]
                refine tk 1 39 rfl rfl ?_
                try simp only [Act.put, pu]
                refine tk 2 40 rfl rfl ?_
                try simp only [Act.put, pu]
                refine tk 3 41 rfl rfl ?_
                try simp only [Act.put, pu]
                refine tk 4 42 rfl rfl ?_
                try simp only [Act.put, pu]
                refine tk 5 43 rfl rfl ?_
                try simp only [Act.put, pu]
                refine tk 6 44 rfl rfl ?_
                try simp only [Act.put, pu]
                refine tk 7 45 rfl rfl ?_
                try simp only [Act.put, pu]
                refine tk 8 46 rfl rfl ?_
                try simp only [Act.put, pu]
                refine tk 9 47 rfl rfl ?_
                try simp only [Act.put, pu]
                refine tk 10 48 rfl rfl ?_
                try simp only [Act.put, pu]
                refine wpAnyH_ready (rs := [11]) (by kernel_rfl) (by simp) ?_
                refine AllReadyH.cons rfl (fun K hK => ?_) AllReadyH.nil
                go_simp
                refine hK.out _ _ ?_ (fun hHeld => ?_)
                · go_keep
                clear hK K
                try simp only [Act.put, pu]
                refine tk 12 50 rfl rfl ?_
                try simp only [Act.put, pu]
                refine tn 13 51 rfl rfl ?_
                try simp only [Act.put, pu]
                refine tn 14 52 rfl rfl ?_
                try simp only [Act.put, pu]
                refine tn 15 53 rfl rfl ?_
                try simp only [Act.put, pu]
                refine tn 16 54 rfl rfl ?_
                try simp only [Act.put, pu]
                refine tn 17 55 rfl rfl ?_
                try simp only [Act.put, pu]
                refine tk 18 56 rfl rfl ?_
                try simp only [Act.put, pu]
                refine tk 19 57 rfl rfl ?_
                try simp only [Act.put, pu]
                refine wpAnyH_ready (rs := [20]) (by kernel_rfl) (by simp) ?_
                refine AllReadyH.cons rfl (fun K hK => ?_) AllReadyH.nil
                go_simp
                obtain ⟨wA, hwA⟩ : ∃ z, z = (wr.setCell ⟨g, b, none⟩ (.bool true)).drew := ⟨_, rfl⟩
                rw [← hwA]
                have HNA := Lib.hid (show Only gs wr wA by rw [hwA]; exact ((Only.refl gs wr).set HIN.out _).drew)
                have HBA := Lib.hid (show Below w0.heap.size wr wA by rw [hwA]; exact ((Below.refl _ _).setCell (p := ⟨g, b, none⟩) HGE.out _).drew)
                have HOA := Lib.hid (show OwnMat wA w0.heap.size (.slice (some ⟨go, 0, none⟩) n co) n gs (frF xss k a (b + 1)) by
                  rw [hwA]
                  have h := HE2.out
                  exact ⟨h.row, h.nodup, h.ge, h.blk⟩)
                replace krow := HNA.out.cell krow hgoN
                clear hwA kc kf
                refine hK.out _ _ ?_ (fun hHeld => ?_)
                · go_keep
                clear hK K
                try simp only [Act.put, pu]
                refine wpAnyH_done (by kernel_rfl) ?_ _
                go_wp2_with fail
                go_roundw
                case rel => exact ⟨b + 1, by omega, by go_num, HOA.out, HON3.out.tr HNA.out, hbl3.trans HBA.out⟩
                case measure => simp [intOf]; omega
              | false =>
                cases is with
                | false =>
                  have HE2 := Lib.hid (HS.out false (by simp))
                  clear HS
                  go_wp2_with fail
                  refine wp_region_held_drew (S := fun w' => w'.cell? ⟨go, a, none⟩ = some (.slice (some ⟨g, 0, none⟩) n n)) (by kernel_rfl) ?_ (fun hHeld => ?_)
                  · go_keep
                  refine tk 0 38 rfl rfl ?_
                  try simp only [Act.put, pu]
                  refine tk 1 39 rfl rfl ?_
                  try simp only [Act.put, pu]
                  refine tk 2 40 rfl rfl ?_
                  try simp only [Act.put, pu]
                  refine tk 3 41 rfl rfl ?_
                  try simp only [Act.put, pu]
                  refine tk 4 42 rfl rfl ?_
                  try simp only [Act.put, pu]
                  refine tk 5 43 rfl rfl ?_
                  try simp only [Act.put, pu]
                  refine tk 6 44 rfl rfl ?_
                  try simp only [Act.put, pu]
                  refine tk 7 45 rfl rfl ?_
                  try simp only [Act.put, pu]
                  refine tk 8 46 rfl rfl ?_
                  try simp only [Act.put, pu]
                  refine tk 9 47 rfl rfl ?_
                  try simp only [Act.put, pu]
                  refine tk 10 48 rfl rfl ?_
                  try simp only [Act.put, pu]
                  refine wpAnyH_ready (rs := [11]) (by kernel_rfl) (by simp) ?_
                  refine AllReadyH.cons rfl (fun K hK => ?_) AllReadyH.nil
                  go_simp
                  refine hK.out _ _ ?_ (fun hHeld => ?_)
                  · go_keep
                  clear hK K
                  try simp only [Act.put, pu]
                  refine tk 12 50 rfl rfl ?_
                  try simp only [Act.put, pu]
                  refine tk 13 51 rfl rfl ?_
                  try simp only [Act.put, pu]
                  refine tk 14 52 rfl rfl ?_
                  try simp only [Act.put, pu]
                  refine tn 15 53 rfl rfl ?_
                  try simp only [Act.put, pu]
                  refine tn 16 54 rfl rfl ?_
                  try simp only [Act.put, pu]
                  refine tk 17 55 rfl rfl ?_
                  try simp only [Act.put, pu]
                  refine tk 18 56 rfl rfl ?_
                  try simp only [Act.put, pu]
                  refine tk 19 57 rfl rfl ?_
                  try simp only [Act.put, pu]
                  refine wpAnyH_ready (rs := [20]) (by kernel_rfl) (by simp) ?_
                  refine AllReadyH.cons rfl (fun K hK => ?_) AllReadyH.nil
                  go_simp
                  obtain ⟨wA, hwA⟩ : ∃ z, z = (wr.setCell ⟨g, b, none⟩ (.bool false)).drew := ⟨_, rfl⟩
                  rw [← hwA]
                  have HNA := Lib.hid (show Only gs wr wA by rw [hwA]; exact ((Only.refl gs wr).set HIN.out _).drew)
                  have HBA := Lib.hid (show Below w0.heap.size wr wA by rw [hwA]; exact ((Below.refl _ _).setCell (p := ⟨g, b, none⟩) HGE.out _).drew)
                  have HOA := Lib.hid (show OwnMat wA w0.heap.size (.slice (some ⟨go, 0, none⟩) n co) n gs (frF xss k a (b + 1)) by
                    rw [hwA]
                    have h := HE2.out
                    exact ⟨h.row, h.nodup, h.ge, h.blk⟩)
                  replace krow := HNA.out.cell krow hgoN
                  clear hwA kc kf
                  refine hK.out _ _ ?_ (fun hHeld => ?_)
                  · go_keep
                  clear hK K
                  try simp only [Act.put, pu]
                  refine wpAnyH_done (by kernel_rfl) ?_ _
                  go_wp2_with fail
                  go_roundw
                  case rel => exact ⟨b + 1, by omega, by go_num, HOA.out, HON3.out.tr HNA.out, hbl3.trans HBA.out⟩
                  case measure => simp [intOf]; omega
                | true =>
                  have HE2 := Lib.hid (HS.out (decide (0 < k)) (by simp))
                  have hdk : decide ((0 : Int) < (k : Int)) = decide (0 < k) := by rw [Bool.eq_iff_iff, decide_eq_true_eq, decide_eq_true_eq]; omega
                  clear HS
                  go_wp2_with fail
                  refine wp_region_held_drew (S := fun w' => w'.cell? ⟨go, a, none⟩ = some (.slice (some ⟨g, 0, none⟩) n n)) (by kernel_rfl) ?_ (fun hHeld => ?_)
                  · go_keep
                  refine tk 0 38 rfl rfl ?_
                  try simp only [Act.put, pu]
                  refine tk 1 39 rfl rfl ?_
                  try simp only [Act.put, pu]
                  refine tk 2 40 rfl rfl ?_
                  try simp only [Act.put, pu]
                  refine tk 3 41 rfl rfl ?_
                  try simp only [Act.put, pu]
                  refine tk 4 42 rfl rfl ?_
                  try simp only [Act.put, pu]
                  refine tk 5 43 rfl rfl ?_
                  try simp only [Act.put, pu]
                  refine tk 6 44 rfl rfl ?_
                  try simp only [Act.put, pu]
                  refine tk 7 45 rfl rfl ?_
                  try simp only [Act.put, pu]
                  refine tk 8 46 rfl rfl ?_
                  try simp only [Act.put, pu]
                  refine tk 9 47 rfl rfl ?_
                  try simp only [Act.put, pu]
                  refine tk 10 48 rfl rfl ?_
                  try simp only [Act.put, pu]
                  refine wpAnyH_ready (rs := [11]) (by kernel_rfl) (by simp) ?_
                  refine AllReadyH.cons rfl (fun K hK => ?_) AllReadyH.nil
                  go_simp
                  refine hK.out _ _ ?_ (fun hHeld => ?_)
                  · go_keep
                  clear hK K
                  try simp only [Act.put, pu]
                  refine tk 12 50 rfl rfl ?_
                  try simp only [Act.put, pu]
                  refine tk 13 51 rfl rfl ?_
                  try simp only [Act.put, pu]
                  refine tk 14 52 rfl rfl ?_
                  try simp only [Act.put, pu]
                  refine tk 15 53 rfl rfl ?_
                  try simp only [Act.put, pu]
                  refine tk 16 54 rfl rfl ?_
                  try simp only [Act.put, pu]
                  refine tk 17 55 rfl rfl ?_
                  try simp only [Act.put, pu]
                  refine tk 18 56 rfl rfl ?_
                  try simp only [Act.put, pu]
                  refine tk 19 57 rfl rfl ?_
                  try simp only [Act.put, pu]
                  refine wpAnyH_ready (rs := [20]) (by kernel_rfl) (by simp) ?_
                  refine AllReadyH.cons rfl (fun K hK => ?_) AllReadyH.nil
                  go_simp
                  obtain ⟨wA, hwA⟩ : ∃ z, z = (wr.setCell ⟨g, b, none⟩ (.bool (decide (0 < k)))).drew := ⟨_, rfl⟩
                  rw [← hwA]
                  have HNA := Lib.hid (show Only gs wr wA by rw [hwA]; exact ((Only.refl gs wr).set HIN.out _).drew)
                  have HBA := Lib.hid (show Below w0.heap.size wr wA by rw [hwA]; exact ((Below.refl _ _).setCell (p := ⟨g, b, none⟩) HGE.out _).drew)
                  have HOA := Lib.hid (show OwnMat wA w0.heap.size (.slice (some ⟨go, 0, none⟩) n co) n gs (frF xss k a (b + 1)) by
                    rw [hwA]
                    have h := HE2.out
                    exact ⟨h.row, h.nodup, h.ge, h.blk⟩)
                  replace krow := HNA.out.cell krow hgoN
                  clear hwA kc kf
                  refine hK.out _ _ ?_ (fun hHeld => ?_)
                  · go_keep
                  clear hK K
                  try simp only [Act.put, pu]
                  refine wpAnyH_done (by kernel_rfl) ?_ _
                  go_wp2_with fail
                  go_roundw
                  case rel => exact ⟨b + 1, by omega, by go_num, HOA.out, HON3.out.tr HNA.out, hbl3.trans HBA.out⟩
                  case measure => simp [intOf]; omega
            · obtain rfl : b = n := by omega
              have HE := Lib.hid (HO3.out.congr (f' := frF xss k (a + 1) 0) fun x _ y hy => fr_row xss k a b x y hy)
              go_wp2_with fail
              go_roundw
              case rel => exact ⟨a + 1, by omega, by go_num, HE.out, HON2.out.tr HON3.out, hbl2.trans hbl3⟩
              case measure => simp [intOf]; omega
        · obtain rfl : a = n := by omega
          have HE := Lib.hid (HO2.out.congr (f' := frF xss (k + 1) 0 0) fun x hx y _ => fr_pow xss k a x y (by omega))
          go_wp2_with fail
          go_roundw
          case rel => exact ⟨k + 1, by omega, by go_num, HE.out, HON.out.tr HON2.out, hbl.trans hbl2⟩
          case measure => simp [intOf]; omega
    · obtain rfl : k = n + 1 := by omega
      have HE := Lib.hid (HO.out.congr (f' := rcB xss) fun x _ y _ => fr_all HG.out x y)
      have hbf := hb02.trans (hbl.mono (by omega))
      go_wp2_with fail
      go_ret
      exact ⟨_, rfl, gs, hgs, HE.out.base_ (by omega), hbf⟩
end Go.Proofs.YtjhljipehnmbnaaGreat
