/-
  Networks, the program's side: the number of a situation.
-/
import Derived.RangeFuncFrom
import Derived.Shelf.RegionOpen
import Derived.Test.YtfhecpkhifdnbaaGreatNetBack
import Derived.Test.YtfhecpkhifdnbaaGreatCalm
namespace Go.Proofs.YtfhecpkhifdnbaaGreat
open Go.RowKit Go.Shelf
attribute [local go_sem] Oper.semAt_some
set_option linter.unusedVariables false
set_option linter.unusedSimpArgs false
/-- What the rounds reckon. -/
def accB (cs : List Int) (l : List (Nat × Int)) : Int := l.foldl (fun s x => IntKind.i64.wrap (IntKind.i64.wrap (s * cs.getD x.1 0) + x.2)) 0
theorem accB_snoc (cs : List Int) (l : List (Nat × Int)) (x : Nat × Int) : accB cs (l ++ [x]) = IntKind.i64.wrap (IntKind.i64.wrap (accB cs l * cs.getD x.1 0) + x.2) := by unfold accB; rw [List.foldl_append]; rfl
theorem acc_num {cs ss : List Int} (hf : Few cs) (hs : Sts cs ss) : ∀ (k r : Nat), k + r = ss.length → accB cs (backTo ss k) = numS (cs.drop r) (ss.drop r)
  | 0, r, h => by
    rw [List.drop_of_length_le (by omega : ss.length ≤ r)]
    unfold numS
    split <;> simp_all [accB, backTo]
  | k + 1, r, h => by
    have ih := acc_num hf hs k (r + 1) (by omega)
    have hrl : r < ss.length := by omega
    have hcl : r < cs.length := by have := hs.1; omega
    have hk : cs[r]? = some cs[r] := List.getElem?_eq_getElem hcl
    have hv : ss[r]? = some ss[r] := List.getElem?_eq_getElem hrl
    rw [backTo_succ, accB_snoc, ih, show ss.length - 1 - k = r by omega]
    have hst := numS_step hk hv
    have b1 := few_num hf hs r
    have b2 := few_num hf hs (r + 1)
    have b3 := hf.1 cs[r] (List.getElem_mem hcl)
    have hg : cs.getD r 0 = cs[r] := by rw [List.getD_eq_getElem?_getD, hk]; rfl
    have hgs : (ss[r]?).getD 0 = ss[r] := by rw [hv]; rfl
    have m1 : 0 ≤ numS (cs.drop (r + 1)) (ss.drop (r + 1)) * cs[r] := Int.mul_nonneg b2.1 (by omega)
    have m2 : numS (cs.drop (r + 1)) (ss.drop (r + 1)) * cs[r] ≤ 3000 * 41 := Int.mul_le_mul b2.2 b3.2 (by omega) (by omega)
    show IntKind.i64.wrap (IntKind.i64.wrap (_ * cs.getD r 0) + (ss[r]?).getD 0) = _
    rw [hg, hgs, hst]
    rw [hst] at b1
    have e1 : IntKind.i64.wrap (numS (cs.drop (r + 1)) (ss.drop (r + 1)) * cs[r]) = numS (cs.drop (r + 1)) (ss.drop (r + 1)) * cs[r] := IntWalk.i64_in _ (by omega)
    rw [e1]
    exact IntWalk.i64_in _ (by omega)
theorem cell_newL (w : World) (v : Value) (t : TypeId) : (w.alloc (.cells #[v] t)).cell? ⟨w.heap.size, 0, none⟩ = some v ∧ (w.alloc (.cells #[v] t)).frozen? ⟨w.heap.size, 0, none⟩ = false :=
  ⟨cell_of_row _ _ 0 _ _ (0, 0) (heap_alloc_new w _), frozen_of_row _ _ 0 _ _ (heap_alloc_new w _)⟩
theorem cell_allocL {w : World} {g i : Nat} {v : Value} (o : Obj) (h : w.cell? ⟨g, i, none⟩ = some v) : (w.alloc o).cell? ⟨g, i, none⟩ = some v := Lib.cell?_alloc_some o h
theorem cell_ltL {w : World} {g i : Nat} {u : Value} (h : w.cell? ⟨g, i, none⟩ = some u) : g < w.heap.size := by
  rcases Nat.lt_or_ge g w.heap.size with h' | h'
  · exact h'
  · simp [World.cell?, Array.getElem?_eq_none h'] at h
theorem frozen_allocL {w : World} {g i : Nat} {v : Value} (o : Obj) (h : w.cell? ⟨g, i, none⟩ = some v) (hf : w.frozen? ⟨g, i, none⟩ = false) : (w.alloc o).frozen? ⟨g, i, none⟩ = false :=
  ((bl_alloc (Below.refl w.heap.size w) o).frozen (p := ⟨g, i, none⟩) (cell_ltL h)).trans hf
set_option maxRecDepth 100000 in
set_option maxHeartbeats 2000000 in
theorem impl_number (G : Nat) (A0 A1 : Option Addr) (m0 c0 m1 c1 : Nat) (cs ss : List Int) (w : World) (hG : G < w.heap.size) (hg : w.cell? ⟨G, 5, none⟩ = some (.slice A0 m0 c0)) (h : IntsR w w.heap.size (.slice A0 m0 c0) cs)
    (h' : IntsR w w.heap.size (.slice A1 m1 c1) ss) (hf : Few cs) (hs : Sts cs ss) :
    Calls Tryz.prog 54 #[.pointer (some ⟨G, 0, none⟩), .slice A1 m1 c1] w fun e w' => e = .returned (.int .i64 (numS cs ss)) ∧ Below w.heap.size w w' := by
  have hsl : ss.length ≤ 2000000 := by have := hf.2.2; have := hs.1; omega
  refine (callsIn_wide (n := 3)).1 ?_
  refine callsIn_of_wp_marks Tryz.func54 rfl trivial ?_ rfl
  simp only [Tryz.ntmps54, List.size_toArray, List.length_cons, List.length_nil, Nat.reduceAdd, Nat.reduceSub, Array.replicate_succ, Array.replicate_zero, List.push_toArray, List.append_toArray, List.nil_append, List.cons_append]
  gi_wp2_with (refine ⟨trivial, ?_⟩; gi_at_call 101; refine (back_in _ _ trivial rfl A1 m1 c1 _).mono ?_; rintro e w' ⟨rfl, rfl⟩)
  have d0 := cell_newL w (.pointer (some ⟨G, 0, none⟩)) 81
  have d1 := cell_newL (w.alloc (.cells #[.pointer (some ⟨G, 0, none⟩)] 81)) (.int .i64 0) 3
  have d2 := cell_newL ((w.alloc (.cells #[.pointer (some ⟨G, 0, none⟩)] 81)).alloc (.cells #[.int .i64 0] 3)) (.slice A1 m1 c1) 23
  simp only [World.size_alloc] at d1 d2
  have hB0 : Below w.heap.size w (((w.alloc (.cells #[.pointer (some ⟨G, 0, none⟩)] 81)).alloc (.cells #[.int .i64 0] 3)).alloc (.cells #[.slice A1 m1 c1] 23)) := (((Below.refl _ w).alloc (Nat.le_refl _) _).alloc (by simp) _).alloc (by simp; omega) _
  refine wpIn_rangeFunc_ownF rfl (by omega) (gf := 164) (lb := #[.pointer (some ⟨w.heap.size + 1 + 1, 0, none⟩)]) rfl trivial (enters_of Tryz.func164 (by kernel_rfl) rfl)
    (back_stops Fence.wide (3 - 1) trivial rfl (by omega) (w.heap.size + 1 + 1) w.heap.size (.slice A1 m1 c1) ss hsl _ (by simp) (by simp; omega) d2.1 (h'.below hB0)) KpB.trans (KpB.put (by simp; omega) (by simp)) (Below.refl _ _) (fun _ => rfl)
    (fun pre W => (W.cell? ⟨w.heap.size + 1, 0, none⟩ = some (.int .i64 (accB cs (vals pre))) ∧ W.frozen? ⟨w.heap.size + 1, 0, none⟩ = false ∧ W.cell? ⟨w.heap.size, 0, none⟩ = some (.pointer (some ⟨G, 0, none⟩))) ∧ Below w.heap.size w W)
    (fun _ _ _ => False)
    (OwnFrom.and (Own.from (fun s A B row hs hg hr => ⟨cell_kept hs.1 hg hr, (frozen_kept hs.1 hg hr).trans hs.2.1, cell_kept hs.2.2 hg hr⟩) _) (ownFrom_below (Nat.le_refl _) (by simp; omega)))
    (fun _ _ _ _ _ hs _ _ => hs)
    ⟨⟨cell_allocL _ d1.1, frozen_allocL _ d1.1 d1.2, cell_allocL _ (cell_allocL _ d0.1)⟩, hB0⟩
    (fun x => { tmps := #[.pointer (some ⟨G, 0, none⟩), .slice A1 m1 c1, .pointer (some ⟨w.heap.size, 0, none⟩), undef, .int .i64 0, .pointer (some ⟨w.heap.size + 1, 0, none⟩), .int .i64 (x.1.1 : Int), .int .i64 x.1.2, .slice A1 m1 c1, .func (.func 164) #[] #[.pointer (some ⟨w.heap.size + 1 + 1, 0, none⟩)], .int .i64 (x.1.1 : Int), .int .i64 x.1.2, undef, undef, undef, undef, undef, undef, undef, undef, undef, undef, undef, undef], defers := [] }) ?assign ?body ?done ?stop
  case assign =>
    intro l x W K hK
    gi_wp2
    exact hK
  case body =>
    rintro l pre ⟨⟨i, y⟩, hxy⟩ W ⟨⟨hc, hfz, hp⟩, hB⟩ _
    dsimp only at hxy ⊢
    have hil : i < cs.length := by have := (List.getElem?_eq_some_iff.1 hxy).1; have := hs.1; omega
    obtain ⟨q, hq⟩ : ∃ q, cs[i]? = some q := ⟨_, List.getElem?_eq_getElem hil⟩
    obtain ⟨hm0, -, hcm, hcc⟩ := h.some_
    subst hm0
    obtain ⟨ad, rfl, hbk, hcell⟩ := hcc (by omega)
    have hgW := (hB.cell (p := ⟨G, 5, none⟩) hG).trans hg
    have hcW := (hB.cell (p := ad.add i) (by rw [block_add]; exact hbk)).trans (hcell i q hq)
    obtain ⟨X, hX⟩ : ∃ X : Bk ss, X = ⟨(i, y), hxy⟩ := ⟨_, rfl⟩
    have hX1 : X.1 = (i, y) := by rw [hX]
    rw [← hX]
    have HS := Lib.hid (show accB cs (vals (pre ++ [X])) = IntKind.i64.wrap (IntKind.i64.wrap (accB cs (vals pre) * q) + y) by
      unfold vals
      rw [List.map_append, List.map_singleton, accB_snoc, hX1]
      show IntKind.i64.wrap (IntKind.i64.wrap (_ * cs.getD i 0) + y) = _
      rw [List.getD_eq_getElem?_getD, hq]
      rfl)
    generalize accB cs (vals pre) = acc at *
    have HXX := Lib.hid hX; clear hX hX1
    clear hcell hcc hq
    gi_wp2
    refine wpIn_region_calm (fun w' => w'.cell? ⟨w.heap.size, 0, none⟩ = some (.pointer (some ⟨G, 0, none⟩)) ∧ w'.cell? ⟨G, 5, none⟩ = some (.slice (some ad) cs.length c0) ∧ w'.cell? (ad.add i) = some (.int .i64 q)) (by kernel_rfl) (by kernel_rfl) ⟨hp, hgW, hcW⟩ (fun hHeld => ?_)
    refine tk 1 13 rfl rfl ?_
    try simp only [Act.put, pu]
    refine tk 2 14 rfl rfl ?_
    try simp only [Act.put, pu]
    refine tk 3 15 rfl rfl ?_
    try simp only [Act.put, pu]
    refine tk 4 16 rfl rfl ?_
    try simp only [Act.put, pu]
    refine tk 5 17 rfl rfl ?_
    try simp only [Act.put, pu]
    refine tk 6 18 rfl rfl ?_
    try simp only [Act.put, pu]
    refine tk 7 19 rfl rfl ?_
    try simp only [Act.put, pu]
    refine tk 9 21 rfl rfl ?_
    try simp only [Act.put, pu]
    refine wpAnyH_ready (rs := [0]) (by kernel_rfl) (by simp) ?_
    refine AllReadyH.cons rfl (fun K hK => ?_) AllReadyH.nil
    go_simp
    refine hK.out _ _ hHeld (fun _ => ?_)
    clear hK K
    refine tk 8 20 rfl rfl ?_
    try simp only [Act.put, pu]
    refine tk 10 22 rfl rfl ?_
    try simp only [Act.put, pu]
    refine wpAnyH_ready (rs := [11]) (by kernel_rfl) (by simp) ?_
    refine AllReadyH.cons rfl (fun K hK => ?_) AllReadyH.nil
    go_simp
    have hne0 : w.heap.size + 1 ≠ w.heap.size := by omega
    have hne1 : w.heap.size + 1 ≠ G := by omega
    have hne2 : w.heap.size + 1 ≠ (ad.add i).block := by rw [block_add]; omega
    refine hK.out _ _ ?_ (fun _ => ?_)
    · go_keep
    clear hK K
    refine wpAnyH_done (by kernel_rfl) ⟨by simp, ?_⟩ _
    show KeepsOthers W _ ∧ KpB _ _ W _ ∧ (_ ∧ _ ∧ _) ∧ _
    rw [HS.out]
    exact ⟨(KeepsOthers.setCell W ⟨w.heap.size + 1, 0, none⟩ _).trans (KeepsOthers.drew _), ⟨((Below.refl w.heap.size W).setCell (p := ⟨w.heap.size + 1, 0, none⟩) (by simp) _).drew, fun v hv => (World.cell?_setCell_far _ _ _ _ (by simp)).trans hv⟩,
      ⟨World.cell?_setCell_same' _ _ _ (by rw [hc]; rfl), (World.frozen?_setCell _ _ _ _).trans hfz, (World.cell?_setCell_far _ _ _ _ (by simp)).trans hp⟩, (hB.setCell (p := ⟨w.heap.size + 1, 0, none⟩) (by simp) _).drew⟩
  case done =>
    rintro D ys W hD hys ⟨⟨hc, -, -⟩, hB⟩ hK
    have HN := Lib.hid (show accB cs (vals ys) = numS cs ss by rw [hys, acc_num hf hs ss.length 0 (by omega)]; rfl)
    rw [HN.out] at hc
    gi_wp2
    refine ⟨by simp, .inl ⟨_, _, rfl, run_takeDeferred hK, ?_⟩⟩
    exact ⟨_, results_tmp rfl _ _ _, rfl, hB.trans (belowK_b (w := w) (Nat.le_refl _) W D _ _ (by simp at hD; omega) hK rfl rfl)⟩
  case stop =>
    rintro D c pre W _ _ h _
    exact h.elim
end Go.Proofs.YtfhecpkhifdnbaaGreat
