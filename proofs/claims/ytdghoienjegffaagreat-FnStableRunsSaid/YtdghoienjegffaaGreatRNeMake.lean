/-
  The reference's neEmpty, neJoin, neStub: networks in memory of one's own. Condition: sizes up to 1000.
-/
import Derived.Test.YtdghoienjegffaaGreatRNeOwn
namespace Go.Proofs.YtdghoienjegffaaGreat
open Go.RowKit
set_option linter.all false
theorem own_madeN (w : World) (e : TypeId) (n : Nat) (z : Value) (hn : n ≤ maxLen) : (w.alloc (.cells (rowOf [] n z) e)).ownsRow w.heap.size e 1 (.slice (some ⟨w.heap.size, 0, none⟩) n n) n (List.replicate n z) := by
  have e0 : rowOf [] n z = (List.replicate n z).toArray := by simp [rowOf]
  rw [e0];exact ⟨by simp, .inr ⟨w.heap.size, n, _, rfl, Nat.le_refl _, heap_alloc_new w _, Nat.le_refl _, hn, by simp, by simp⟩⟩
theorem NetK.ofEmpty {w : World} {base k : Nat} {v1 v2 : Value} (h1 : w.ownsRow base 75 1 v1 k (List.replicate k (.slice none 0 0))) (h2 : w.ownsRow base 3 1 v2 k (List.replicate k (.int .i64 0))) (s12 : v1.ownBlock = none ∨ v1.ownBlock ≠ v2.ownBlock) :
  ∃ val, v1 = val .e ∧ val .i = .slice none 0 0 ∧ v2 = val .n ∧ NetK w base val (emptyN k) := by
 have turn : ∀ {a b : Option Nat}, (a = none ∨ a ≠ b) → (b = none ∨ b ≠ a) := fun {a b} h => by
  cases b with
  | none => exact .inl rfl
  | some g =>
   rcases h with h | h
   · rw [h]; exact .inr (by simp)
   · exact .inr fun e => h e.symm
 have nr : ∀ v : Value, v.ownBlock = none ∨ v.ownBlock ≠ (Value.slice none 0 0).ownBlock := fun v => by show v.ownBlock = none ∨ v.ownBlock ≠ none;cases v.ownBlock <;> simp
 obtain ⟨val, hval⟩ : ∃ val : NKey → Value, val = fun j => match j with | .e => v1 | .n => v2 | _ => .slice none 0 0 := ⟨_, rfl⟩
 have ve : val .e = v1 := by rw [hval]
 have vn : val .n = v2 := by rw [hval]
 have vi : val .i = .slice none 0 0 := by rw [hval]
 have vr : ∀ j, val (.r j) = .slice none 0 0 := fun j => by rw [hval]
 clear hval;refine ⟨val, ve.symm, vi, vn.symm, fun j hj => ?_, fun i j hi hj hne => ?_⟩
 ·
  cases j with
  | e =>
   rw [ve];show w.ownsRow base 75 1 v1 (List.replicate k ([] : Ends)).length (valsN val (List.replicate k ([] : Ends)).length);rw [List.length_replicate, show valsN val k = List.replicate k (.slice none 0 0) by unfold valsN; rw [List.eq_replicate_iff]; exact ⟨by simp, fun b hb => by obtain ⟨j, _, rfl⟩ := List.mem_map.1 hb; exact vr j⟩];exact h1
  | i => rw [vi]; exact World.ownsRow_nil _ _ _ _
  | n =>
   rw [vn];show w.ownsRow base 3 1 v2 (List.replicate k (0 : Int)).length ((List.replicate k (0 : Int)).map intV);rw [List.length_replicate, List.map_replicate];exact h2
  | r j =>
   rw [vr];show w.ownsRow base 74 2 _ (rowAt (emptyN k) j).length (endCells (rowAt (emptyN k) j));rw [rowAt_empty];exact World.ownsRow_nil _ _ _ _
 ·
  cases i with
  | i => rw [vi]; exact .inl rfl
  | r k => rw [vr]; exact .inl rfl
  | e => cases j with
   | e => exact absurd rfl hne
   | n => rw [ve, vn]; exact s12
   | i => rw [vi]; exact nr _
   | r k => rw [vr]; exact nr _
  | n => cases j with
   | n => exact absurd rfl hne
   | e => rw [ve, vn]; exact turn s12
   | i => rw [vi]; exact nr _
   | r k => rw [vr]; exact nr _
theorem NetB.push {w w7 : World} {base P : Nat} {val : NKey → Value} {n : Net} (h : NetB w base val n P) {k : Nat} (hk : k < n.es.length) {g cap : Nat} (hv : val .e = .slice (some ⟨g, 0, none⟩) n.es.length cap) {v7 : Value} {e : Int × Int}
    (hg : w.grownBy w7 (val (.r k)).ownBlock) (hn : w7.ownsRow base 74 2 v7 ((rowAt n k).length + 1) (endCells (rowAt n k) ++ [.int .i64 e.1, .int .i64 e.2])) (hb : v7.ownBlock = (val (.r k)).ownBlock ∨ ∃ g, v7.ownBlock = some g ∧ w.heap.size ≤ g) :
    NetB (w7.setCell ⟨g, k, none⟩ v7) base (updN val (.r k) v7) (pushN n k e) P := by
  have h1 := NetK.moreRow h.k hk hv (l := rowAt n k ++ [e]) hg (by rw [List.length_append, List.length_singleton, endCells_snoc]; exact hn) hb;refine NetB.of h1 ?_;have hgP : g ≠ P := fun e => h.ne .e trivial (by rw [hv, ← e]; rfl)
  rw [updN_ne _ _ (by simp), updN_ne _ _ (by simp), updN_ne _ _ (by simp)];refine (Below.heap_setCell _ _ _ _ (fun e => hgP e.symm)).trans ?_;exact (hg.block P h.lt (fun e => h.ne (.r k) hk e.symm)).trans h.box
set_option maxRecDepth 100000 in
set_option maxHeartbeats 4000000 in
theorem spec_neEmpty (k : Nat) (w : World) (hk : k ≤ 1000) :
  Calls Tryz.prog 129 #[.int .i64 (k : Int)] w fun e w' => ∃ val, e = .returned (.agg #[val .e, val .i, val .n]) ∧ NetK w' w.heap.size val (emptyN k) ∧ Below w.heap.size w w' := by
 have hm1 := fun W => run_make1 (P := Tryz.prog) 24 75 (.slice none 0 0) 24 Tryz.underlying24 rowInfo rfl k (by omega) (by omega) W
 have hm2 := fun W => run_make1 (P := Tryz.prog) 25 3 (.int .i64 0) 8 Tryz.underlying25 intInfo rfl k (by omega) (by omega) W
 obtain ⟨w1, hw1, hb1, HQ, hz1, HS1⟩ := box3 w (.slice none 0 0) (.slice none 0 0) (.slice none 0 0) 27;have HW1 := Lib.hid hw1;clear hw1;go_enter Tryz.func129, Tryz.ntmps129;go_wp2_with fail;rw [← HW1.out];rename_i K0 hrest;refine wp_region_held_drew (S := fun _ => True) (by kernel_rfl) ?_ (fun hHeld => ?_)
 · trivial
 obtain ⟨wd, hwd⟩ : ∃ z, z = w1.drew := ⟨_, rfl⟩
 rw [← hwd];have hbd : Below w1.heap.size w1 wd := by rw [hwd]; exact (Below.refl _ _).drew
 replace HQ := bk HQ hbd;have hB := bl_trans hb1 hbd;have hzd := hbd.size;clear hwd;refine stk 0 3 ?_;refine stk 2 5 ?_;refine wpAnyH_ready (rs := [1, 3]) (by kernel_rfl) (by simp) ?_;refine AllReadyH.cons rfl (fun K hK => ?_) (AllReadyH.cons rfl (fun K hK => ?_) AllReadyH.nil)
 ·
  go_simp;obtain ⟨w3, hw3⟩ : ∃ z, z = wd.alloc (.cells (rowOf [] k (.slice none 0 0)) 75) := ⟨_, rfl⟩
  obtain ⟨bx, hbx⟩ : ∃ z, z = wd.heap.size := ⟨_, rfl⟩
  have o1 : w3.ownsRow bx 75 1 (.slice (some ⟨bx, 0, none⟩) k k) k (List.replicate k (.slice none 0 0)) := by rw [hw3, hbx]; exact own_madeN _ _ _ _ (by unfold maxLen; omega)
  have hbw3 : Below wd.heap.size wd w3 := by rw [hw3]; exact bl_alloc (Below.refl _ _) _
  rw [← hw3, ← hbx];have hzw3 : bx < w3.heap.size ∧ bx ≤ wd.heap.size ∧ wd.heap.size ≤ bx := ⟨by rw [hw3, hbx]; simp, Nat.le_of_eq hbx, Nat.le_of_eq hbx.symm⟩
  replace HQ := bk HQ hbw3;replace hB := bl_trans hB hbw3;clear hw3 hbx;refine hK.out _ _ ?_ (fun hHeld => ?_)
  · trivial
  clear hK K
  try simp only [Act.put, pu]
  refine wpAnyH_ready (rs := [3]) (by kernel_rfl) (by simp) ?_;refine AllReadyH.cons rfl (fun K hK => ?_) AllReadyH.nil;go_simp;obtain ⟨w4, hw4⟩ : ∃ z, z = w3.alloc (.cells (rowOf [] k (.int .i64 0)) 3) := ⟨_, rfl⟩
  obtain ⟨by_, hby_⟩ : ∃ z, z = w3.heap.size := ⟨_, rfl⟩
  have o3 : w4.ownsRow by_ 3 1 (.slice (some ⟨by_, 0, none⟩) k k) k (List.replicate k (.int .i64 0)) := by rw [hw4, hby_]; exact own_madeN _ _ _ _ (by unfold maxLen; omega)
  have hbw4 : Below w3.heap.size w3 w4 := by rw [hw4]; exact bl_alloc (Below.refl _ _) _
  rw [← hw4, ← hby_];have hzw4 : by_ < w4.heap.size ∧ by_ ≤ w3.heap.size ∧ w3.heap.size ≤ by_ := ⟨by rw [hw4, hby_]; simp, Nat.le_of_eq hby_, Nat.le_of_eq hby_.symm⟩
  replace HQ := bk HQ hbw4;replace hB := bl_trans hB hbw4;clear hw4 hby_;refine hK.out _ _ ?_ (fun hHeld => ?_)
  · trivial
  clear hK K
  try simp only [Act.put, pu]
  replace o1 := own_upN o1 hbw4;refine stk 4 7 ?_;refine wpAnyH_ready (rs := [5]) (by kernel_rfl) (by simp) ?_;refine AllReadyH.cons rfl (fun K hK => ?_) AllReadyH.nil;obtain ⟨t0, t1, t2, tf⟩ := cells3 HQ;go_simp;obtain ⟨we, hwe, HE, hge⟩ := set3 HQ (.slice (some ⟨bx, 0, none⟩) k k) (.slice none 0 0) (.slice (some ⟨by_, 0, none⟩) k k);rw [← hwe];clear hwe t0 t1 t2 tf;refine hK.out _ _ ?_ (fun hHeld => ?_)
  · trivial
  clear hK K;refine wpAnyH_done (by kernel_rfl) ?_ _;refine hrest _ _ ?_;clear hrest hm1 hm2 hHeld;have hne : ∀ b : Nat, w.heap.size < b → (Value.slice (some ⟨b, 0, none⟩) k k).ownBlock ≠ some w.heap.size := fun b hb e => by have e' : b = w.heap.size := Option.some.inj e; omega
  obtain ⟨val, e1, e2, e3, hk4⟩ := NetK.ofEmpty (own_setN (own_mono o1 (show w.heap.size ≤ _ by omega)) hge (hne _ (by omega))) (own_setN (own_mono o3 (show w.heap.size ≤ _ by omega)) hge (hne _ (by omega))) (.inr fun e => by have e' : bx = by_ := Option.some.inj e; omega);have hBE : Below w.heap.size w we := Below.grown hB hge hB.size (fun k hk => by have e := Option.some.inj (show some w.heap.size = some k from hk); omega);obtain ⟨z0, z1, z2, -⟩ := cells3 HE;go_wp2_with fail;exact bodyPost_ret (v := .agg #[.slice (some ⟨bx, 0, none⟩) k k, .slice none 0 0, .slice (some ⟨by_, 0, none⟩) k k]) (by simp [results, Tryz.results129, go_sem, z0, z1, z2]) rfl ⟨val, by rw [e1, e2, e3], hk4, hBE⟩
 ·
  go_simp;obtain ⟨w3, hw3⟩ : ∃ z, z = wd.alloc (.cells (rowOf [] k (.int .i64 0)) 3) := ⟨_, rfl⟩
  obtain ⟨bx, hbx⟩ : ∃ z, z = wd.heap.size := ⟨_, rfl⟩
  have o3 : w3.ownsRow bx 3 1 (.slice (some ⟨bx, 0, none⟩) k k) k (List.replicate k (.int .i64 0)) := by rw [hw3, hbx]; exact own_madeN _ _ _ _ (by unfold maxLen; omega)
  have hbw3 : Below wd.heap.size wd w3 := by rw [hw3]; exact bl_alloc (Below.refl _ _) _
  rw [← hw3, ← hbx];have hzw3 : bx < w3.heap.size ∧ bx ≤ wd.heap.size ∧ wd.heap.size ≤ bx := ⟨by rw [hw3, hbx]; simp, Nat.le_of_eq hbx, Nat.le_of_eq hbx.symm⟩
  replace HQ := bk HQ hbw3;replace hB := bl_trans hB hbw3;clear hw3 hbx;refine hK.out _ _ ?_ (fun hHeld => ?_)
  · trivial
  clear hK K
  try simp only [Act.put, pu]
  refine wpAnyH_ready (rs := [1]) (by kernel_rfl) (by simp) ?_;refine AllReadyH.cons rfl (fun K hK => ?_) AllReadyH.nil;go_simp;obtain ⟨w4, hw4⟩ : ∃ z, z = w3.alloc (.cells (rowOf [] k (.slice none 0 0)) 75) := ⟨_, rfl⟩
  obtain ⟨by_, hby_⟩ : ∃ z, z = w3.heap.size := ⟨_, rfl⟩
  have o1 : w4.ownsRow by_ 75 1 (.slice (some ⟨by_, 0, none⟩) k k) k (List.replicate k (.slice none 0 0)) := by rw [hw4, hby_]; exact own_madeN _ _ _ _ (by unfold maxLen; omega)
  have hbw4 : Below w3.heap.size w3 w4 := by rw [hw4]; exact bl_alloc (Below.refl _ _) _
  rw [← hw4, ← hby_];have hzw4 : by_ < w4.heap.size ∧ by_ ≤ w3.heap.size ∧ w3.heap.size ≤ by_ := ⟨by rw [hw4, hby_]; simp, Nat.le_of_eq hby_, Nat.le_of_eq hby_.symm⟩
  replace HQ := bk HQ hbw4;replace hB := bl_trans hB hbw4;clear hw4 hby_;refine hK.out _ _ ?_ (fun hHeld => ?_)
  · trivial
  clear hK K
  try simp only [Act.put, pu]
  replace o3 := own_upN o3 hbw4;refine stk 4 7 ?_;refine wpAnyH_ready (rs := [5]) (by kernel_rfl) (by simp) ?_;refine AllReadyH.cons rfl (fun K hK => ?_) AllReadyH.nil;obtain ⟨t0, t1, t2, tf⟩ := cells3 HQ;go_simp;obtain ⟨we, hwe, HE, hge⟩ := set3 HQ (.slice (some ⟨by_, 0, none⟩) k k) (.slice none 0 0) (.slice (some ⟨bx, 0, none⟩) k k);rw [← hwe];clear hwe t0 t1 t2 tf;refine hK.out _ _ ?_ (fun hHeld => ?_)
  · trivial
  clear hK K;refine wpAnyH_done (by kernel_rfl) ?_ _;refine hrest _ _ ?_;clear hrest hm1 hm2 hHeld;have hne : ∀ b : Nat, w.heap.size < b → (Value.slice (some ⟨b, 0, none⟩) k k).ownBlock ≠ some w.heap.size := fun b hb e => by have e' : b = w.heap.size := Option.some.inj e; omega
  obtain ⟨val, e1, e2, e3, hk4⟩ := NetK.ofEmpty (own_setN (own_mono o1 (show w.heap.size ≤ _ by omega)) hge (hne _ (by omega))) (own_setN (own_mono o3 (show w.heap.size ≤ _ by omega)) hge (hne _ (by omega))) (.inr fun e => by have e' : by_ = bx := Option.some.inj e; omega);have hBE : Below w.heap.size w we := Below.grown hB hge hB.size (fun k hk => by have e := Option.some.inj (show some w.heap.size = some k from hk); omega);obtain ⟨z0, z1, z2, -⟩ := cells3 HE;go_wp2_with fail;exact bodyPost_ret (v := .agg #[.slice (some ⟨by_, 0, none⟩) k k, .slice none 0 0, .slice (some ⟨bx, 0, none⟩) k k]) (by simp [results, Tryz.results129, go_sem, z0, z1, z2]) rfl ⟨val, by rw [e1, e2, e3], hk4, hBE⟩
theorem own_thaw {w : World} {base n m sz g cap : Nat} {e : TypeId} {vs : List Value} (h : w.ownsRow base e sz (.slice (some ⟨g, 0, none⟩) n cap) m vs) (j : Nat) : w.frozen? ⟨g, j, none⟩ = false := by
  rcases h.2 with ⟨e1, _⟩ | ⟨g', cap', cur, e1, _, h3, _⟩
  · cases e1
  · obtain rfl : g = g' := by have := (Value.slice.inj e1).1;exact (Addr.mk.inj (Option.some.inj this)).1
    exact frozen_of_row _ _ j _ _ h3
set_option maxRecDepth 100000 in
set_option maxHeartbeats 4000000 in
theorem spec_neJoin (ne ni nn : Value) (n : Net) (v u : Nat) (w : World) (hn : NetR w w.heap.size ne ni nn n) (hs : SmallN n) (hv : v < n.es.length) (hu : u < n.es.length) :
  Calls Tryz.prog 131 #[.agg #[ne, ni, nn], .int .i64 (v : Int), .int .i64 (u : Int)] w fun e w' => ∃ val, e = .returned (.agg #[val .e, val .i, val .n]) ∧ NetK w' w.heap.size val (joinN n v u) ∧ Below w.heap.size w w' := by
 have HN := Lib.hid hn;have HSM := Lib.hid hs;have h1000 := hs.e;have hv6 := hs.d _ (List.mem_of_getElem? (rowAt_lt hv));have hu6 := hs.d _ (List.mem_of_getElem? (rowAt_lt hu));obtain ⟨⟨A4, m4, c4, rfl⟩, ⟨A5, m5, c5, rfl⟩, A6, m6, c6, rfl⟩ := hn.slices;clear hn hs;obtain ⟨w0, hw0, hb0, HD, hz0, HS0⟩ := box3 w (.slice A4 m4 c4) (.slice A5 m5 c5) (.slice A6 m6 c6) 27;obtain ⟨w1, hw1, hb1, HQ, hz1, HS1⟩ := box3 w0 (.slice none 0 0) (.slice none 0 0) (.slice none 0 0) 27;have HW1 := Lib.hid (show w1 = (w.alloc (.cells #[.slice A4 m4 c4, .slice A5 m5 c5, .slice A6 m6 c6] 27)).alloc (.cells #[.slice none 0 0, .slice none 0 0, .slice none 0 0] 27) by rw [hw1, hw0]);obtain ⟨P1, hPP1⟩ : ∃ z, z = w0.heap.size := ⟨_, rfl⟩
 have HP1 := Lib.hid (show w.heap.size + 1 = P1 by rw [hPP1, HS0.out]);rw [← hPP1] at HQ hz1;have HD1 := bk HD hb1;have hB := bl_trans hb0 hb1;have hzb1 : w.heap.size < w1.heap.size := by have := hb1.size; omega
 have hP1l : w.heap.size < P1 := by rw [← HP1.out]; omega
 clear hw0 hw1 hPP1 HS0 HS1;obtain ⟨q0, q1, q2, qf⟩ := cells3 HD1;have eq0 := q0;have eq1 := q1;have eq2 := q2;rw [HW1.out] at eq0 eq1 eq2;go_enter Tryz.func131, Tryz.ntmps131;go_wp2_with fail;rw [HP1.out, ← HW1.out];clear eq0 eq1 eq2 q0 q1 q2 qf;refine (spec_neOwn _ _ _ n w1 (HN.out.up hB) HSM.out).mono ?_;rintro e w3 ⟨val, rfl, hk3, hb3⟩;obtain ⟨base, hbase⟩ : ∃ z, z = w1.heap.size := ⟨_, rfl⟩
 rw [← hbase] at hk3;have hbl : base ≤ w3.heap.size ∧ w1.heap.size ≤ base ∧ base ≤ w1.heap.size := by have := hb3.size; omega
 clear hbase;obtain ⟨ge, ce, eke, -, -, hge1, hge2⟩ := hk3.outer (by omega);obtain ⟨C1, k1, ek1⟩ := own_slN (hk3.own .i trivial);obtain ⟨C2, k2, ek2⟩ := own_slN (hk3.own .n trivial);obtain ⟨Av, cv, ekv⟩ := own_slN (hk3.rowOwn (rowAt_lt hv));obtain ⟨Au, cu, eku⟩ := own_slN (hk3.rowOwn (rowAt_lt hu));have HK3 := Lib.hid hk3;have HVE := Lib.hid eke;have HVI := Lib.hid (And.intro ek1 ek2);have HVV := Lib.hid ekv;have HVU := Lib.hid eku;rw [eke, ek1, ek2];generalize (rowN n val .i).len = n1' at HVI ⊢;generalize (rowN n val .n).len = n2 at HVI ⊢;obtain ⟨iv, hiv⟩ : ∃ z, z = (rowAt n v).length := ⟨_, rfl⟩
 obtain ⟨iu, hiu⟩ : ∃ z, z = (rowAt n u).length := ⟨_, rfl⟩
 rw [← hiv] at HVV hv6;rw [← hiu] at HVU hu6;have HIV := Lib.hid hiv;have HIU := Lib.hid hiu;clear hk3 eke ek1 ek2 ekv eku hiv hiu;obtain ⟨w4, hw4, hb4, HB, hz4, HS4⟩ := box3 w3 (.slice (some ⟨ge, 0, none⟩) n.es.length ce) (.slice C1 n1' k1) (.slice C2 n2 k2) 27;obtain ⟨P7, hP7⟩ : ∃ z, z = w3.heap.size := ⟨_, rfl⟩
 have HP7 := Lib.hid hP7;have hP7l : w3.heap.size ≤ P7 := by omega
 rw [← hP7] at HB hz4;have HW4 := Lib.hid hw4;have H4 := Lib.hid (show NetB w4 base val n P7 from NetB.of (HK3.out.up hb4) (by rw [HVE.out, HVI.out.1, HVI.out.2]; exact HB.out));have y0 : w4.cell? ⟨P7, 0, none⟩ = some (.slice (some ⟨ge, 0, none⟩) n.es.length ce) := by rw [cell_of_row _ _ 0 _ _ (0, 0) HB.out]; rfl
 have yv : w4.cell? ⟨ge, v, none⟩ = some (.slice Av iv cv) := by rw [← HVV.out]; exact H4.out.k.outerCell HVE.out hv
 have yu : w4.cell? ⟨ge, u, none⟩ = some (.slice Au iu cu) := by rw [← HVU.out]; exact H4.out.k.outerCell HVE.out hu
 have ey0 := y0;have eyv := yv;have eyu := yu;rw [hw4] at ey0 eyv eyu;rw [hP7] at ey0;have hvi : (v : Int) < (n.es.length : Int) := by omega
 have hui : (u : Int) < (n.es.length : Int) := by omega
 have hwr : IntKind.i64.wrap ((iu : Int) + 1) = ((iu + 1 : Nat) : Int) := by rw [IntWalk.i64_in _ (by omega)]; omega
 clear hw4 hP7;rcases Nat.decEq v u with huv | huv
 case' isFalse =>
  have kq : ((v : Int) == (u : Int)) = false := by simpa using (show ¬ (v : Int) = (u : Int) by omega)
  have HJ := Lib.hid (show iu = iu + if v = u then 1 else 0 by rw [if_neg huv, Nat.add_zero]);clear huv;go_wp2_with fail;rw [← HW4.out, ← HP7.out];obtain ⟨jj, hjj⟩ : ∃ z, z = iu := ⟨_, rfl⟩
  have hj : jj ≤ 1001 := by omega
  replace HJ := Lib.hid (hjj.trans HJ.out);rw [show ((iu : Nat) : Int) = ((jj : Nat) : Int) by rw [hjj]];clear hjj kq
 case' isTrue =>
  have kq : ((v : Int) == (u : Int)) = true := by simpa using (show (v : Int) = (u : Int) by omega)
  have HJ := Lib.hid (show iu + 1 = iu + if v = u then 1 else 0 by rw [if_pos huv]);clear huv;go_wp2_with fail;rw [← HW4.out, ← HP7.out];obtain ⟨jj, hjj⟩ : ∃ z, z = iu + 1 := ⟨_, rfl⟩
  have hj : jj ≤ 1001 := by omega
  replace HJ := Lib.hid (hjj.trans HJ.out);rw [show ((iu : Nat) : Int) + 1 = ((jj : Nat) : Int) by rw [hjj]; rfl];clear hjj kq
 all_goals clear ey0 eyv eyu y0 yv yu hwr
 all_goals
  have HVR := HVV;have HRL := HIV;obtain ⟨W0, hW0⟩ : ∃ z, z = w4.drew := ⟨_, rfl⟩
  have HB0 := Lib.hid (show NetB W0 base val n P7 by rw [hW0]; exact ⟨OwnN.keep H4.out.k ⟨rfl, rfl, rfl, Nat.le_refl _, fun _ _ _ => rfl⟩, H4.out.ne, H4.out.box⟩);have HWA := Lib.hid (show (w4.alloc (.cells #[.int .i64 (u : Int), .int .i64 (jj : Int)] 74)).drew = W0.alloc (.cells #[.int .i64 (u : Int), .int .i64 (jj : Int)] 74) by rw [hW0]; rfl);have HWS := Lib.hid (show W0.heap.size = w4.heap.size by rw [hW0]; rfl);have hWB : Below w4.heap.size w4 W0 := by rw [hW0]; exact (Below.refl _ _).drew
  have y0 : w4.cell? ⟨P7, 0, none⟩ = some (.slice (some ⟨ge, 0, none⟩) n.es.length ce) := by rw [cell_of_row _ _ 0 _ _ (0, 0) H4.out.box, ← HVE.out]; rfl
  have yk : w4.cell? ⟨ge, v, none⟩ = some (.slice Av iv cv) := by rw [← HVR.out]; exact H4.out.k.outerCell HVE.out (by omega)
  have HYK := Lib.hid (show W0.cell? ⟨ge, v, none⟩ = some (.slice Av iv cv) by rw [hW0]; exact yk);have HY0 := Lib.hid (show W0.cell? ⟨P7, 0, none⟩ = some (.slice (some ⟨ge, 0, none⟩) n.es.length ce) by rw [hW0]; exact y0);have fk0 : W0.frozen? ⟨ge, v, none⟩ = false := by have h1 := HB0.out.k.own .e trivial;rw [HVE.out] at h1;exact own_thaw h1 v
  have hgne : ge ≠ P7 := fun e => HB0.out.ne .e trivial (by rw [HVE.out, ← e]; rfl)
  clear hW0;refine till_region (S := fun w' => w'.cell? ⟨P7, 0, none⟩ = some (.slice (some ⟨ge, 0, none⟩) n.es.length ce) ∧ w'.cell? ⟨ge, v, none⟩ = some (.slice Av iv cv)) (st := 14) (by kernel_rfl) ⟨y0, yk⟩ (fun hHeld => ?_);refine utf 0 29 ?_;refine utk 1 30 ?_;refine utf 2 31 ?_;refine utf 3 32 ?_;refine utk 4 33 ?_;refine utf 5 34 ?_;refine utf 6 35 ?_;refine utk 7 36 ?_;refine utf 8 37 ?_;refine utf 9 38 ?_;refine utf 10 39 ?_;refine ur 11 rfl (by kernel_rfl) (fun K hK => ?_);go_simp;replace y0 := Lib.cell?_alloc_some (.cells #[.int .i64 (u : Int), .int .i64 (jj : Int)] 74) y0;replace yk := Lib.cell?_alloc_some (.cells #[.int .i64 (u : Int), .int .i64 (jj : Int)] 74) yk;refine hK.out (fun _ => ⟨y0, yk⟩) ?_;clear hK K
  try simp only [Act.put, pu]
  refine ur 12 rfl (by kernel_rfl) (fun K hK => ?_);rw [if_pos (by rfl), HWA.out, ← HWS.out];refine oper_app2 W0 (.tmp 36) (.tmp 40) 75 rfl base 74 _ 16 Tryz.underlying75 endInfo rfl _ _ _ rfl _ _ rfl rfl rfl (by have h1 := HB0.out.k.rowOwn (rowAt_lt (k := v) (by omega)); rw [HVR.out, ← HRL.out] at h1; exact h1) (by unfold maxLen; omega) (by omega) (by have := hWB.size; omega) ?_;intro v7 w7 hown7 hbl7 hgr7 hlt7 hob7;obtain ⟨A7, c7, rfl⟩ := own_slN hown7
  have hkA := hgr7.block ge (HB0.out.k.own .e trivial |>.lt _ (by rw [HVE.out]; rfl)).2 (fun e => by
   have h1 := HB0.out.k.sep .e (.r v) trivial (by show _ < _; omega) (by simp);rw [HVE.out, HVR.out] at h1;rcases h1 with h1 | h1
   · cases h1
   · exact h1 e)
  clear y0 yk;have y0 := (World.cell?_of_block (a := ⟨P7, 0, none⟩) (hgr7.block P7 HB0.out.lt (fun e => HB0.out.ne (.r v) (by show _ < _; omega) (by rw [HVR.out]; exact e.symm)))).trans HY0.out;have yk := (World.cell?_of_block (a := ⟨ge, v, none⟩) hkA).trans HYK.out;have fk : w7.frozen? ⟨ge, v, none⟩ = false := (World.frozen?_of_block (a := ⟨ge, v, none⟩) hkA).trans fk0;refine hK.out (fun _ => ⟨y0, yk⟩) ?_;clear hK K
  try simp only [Act.put, pu]
  refine utf 13 42 ?_;refine ur 14 rfl (by kernel_rfl) (fun K hK => ?_);go_simp;obtain ⟨w8, hw8⟩ : ∃ z, z = w7.setCell ⟨ge, v, none⟩ (.slice A7 (iv + 1) c7) := ⟨_, rfl⟩
  rw [← hw8];have hp7 := HB0.out.push (k := v) (by omega) HVE.out (v7 := .slice A7 (iv + 1) c7) (e := ((u : Int), (jj : Int))) (by rw [HVR.out]; exact hgr7) (by rw [← HRL.out]; exact hown7) (by rw [HVR.out]; exact hob7.imp id fun ⟨g, h1, h2, _⟩ => ⟨g, h1, h2⟩);rw [← hw8] at hp7;have Hw8 := Lib.hid hp7;have HBw8 := Lib.hid (show Below base w4 w8 by rw [hw8]; exact ((hWB.mono (by omega)).trans hbl7).setCell (p := ⟨ge, v, none⟩) (by show base ≤ ge; exact (HB0.out.k.own .e trivial |>.lt _ (by rw [HVE.out]; rfl)).1) _);clear hp7 hw8 y0 yk fk fk0 hown7 hbl7 hgr7 hob7 hkA;refine hK.out (fun h' => till_no h' (by kernel_rfl)) ?_;clear hK K
  try simp only [Act.put, pu]
  refine wpTill_done (by kernel_rfl) ?_ _;obtain ⟨val2, hv2⟩ : ∃ z, z = updN val (.r v) (.slice A7 (iv + 1) c7) := ⟨_, rfl⟩
  obtain ⟨n1, hn1⟩ : ∃ z, z = pushN n v ((u : Int), (jj : Int)) := ⟨_, rfl⟩
  have hl1 : n1.es.length = n.es.length := by rw [hn1]; exact pushN_len _ _ _
  rw [← hv2, ← hn1] at Hw8;have HN1 := Lib.hid hn1;have hV2 : val2 .e = .slice (some ⟨ge, 0, none⟩) n1.es.length ce := by rw [hv2, updN_ne _ _ (by simp), hl1]; exact HVE.out
  have HV2I := Lib.hid (show val2 .i = .slice C1 n1' k1 ∧ val2 .n = .slice C2 n2 k2 by rw [hv2, updN_ne _ _ (by simp), updN_ne _ _ (by simp)]; exact HVI.out);have HVE' := Lib.hid hV2;clear hv2 hn1 HVR HVE hV2;have HVE := HVE';have hu1 : u < n1.es.length := by omega
  have hui1 : (u : Int) < (n1.es.length : Int) := by omega
  obtain ⟨Au2, cu2, eku2⟩ := own_slN (Hw8.out.k.rowOwn (rowAt_lt hu1));obtain ⟨iu2, hiu2⟩ : ∃ z, z = (rowAt n1 u).length := ⟨_, rfl⟩
  have hi2 : iu2 ≤ 1001 := by
   rw [hiu2, HN1.out, rowAt_push hv];split
   · have := HIV.out; rw [List.length_append, List.length_singleton]; omega
   · have := HIU.out; omega
  rw [← hiu2] at eku2;have HVR := Lib.hid eku2;have HRL := Lib.hid hiu2;clear hl1 eku2 hiu2 HVE';have hz4' := hb4.size;have hz8 := HBw8.out.size;go_wp2_with fail;obtain ⟨W0, hW0⟩ : ∃ z, z = w8.drew := ⟨_, rfl⟩
  have HB0 := Lib.hid (show NetB W0 base val2 n1 P7 by rw [hW0]; exact ⟨OwnN.keep Hw8.out.k ⟨rfl, rfl, rfl, Nat.le_refl _, fun _ _ _ => rfl⟩, Hw8.out.ne, Hw8.out.box⟩);have HWA := Lib.hid (show (w8.alloc (.cells #[.int .i64 (v : Int), .int .i64 (iv : Int)] 74)).drew = W0.alloc (.cells #[.int .i64 (v : Int), .int .i64 (iv : Int)] 74) by rw [hW0]; rfl);have HWS := Lib.hid (show W0.heap.size = w8.heap.size by rw [hW0]; rfl);have hWB : Below w8.heap.size w8 W0 := by rw [hW0]; exact (Below.refl _ _).drew
  have y0 : w8.cell? ⟨P7, 0, none⟩ = some (.slice (some ⟨ge, 0, none⟩) n1.es.length ce) := by rw [cell_of_row _ _ 0 _ _ (0, 0) Hw8.out.box, ← HVE.out]; rfl
  have yk : w8.cell? ⟨ge, u, none⟩ = some (.slice Au2 iu2 cu2) := by rw [← HVR.out]; exact Hw8.out.k.outerCell HVE.out (by omega)
  have HYK := Lib.hid (show W0.cell? ⟨ge, u, none⟩ = some (.slice Au2 iu2 cu2) by rw [hW0]; exact yk);have HY0 := Lib.hid (show W0.cell? ⟨P7, 0, none⟩ = some (.slice (some ⟨ge, 0, none⟩) n1.es.length ce) by rw [hW0]; exact y0);have fk0 : W0.frozen? ⟨ge, u, none⟩ = false := by have h1 := HB0.out.k.own .e trivial;rw [HVE.out] at h1;exact own_thaw h1 u
  have hgne : ge ≠ P7 := fun e => HB0.out.ne .e trivial (by rw [HVE.out, ← e]; rfl)
  clear hW0;refine till_region (S := fun w' => w'.cell? ⟨P7, 0, none⟩ = some (.slice (some ⟨ge, 0, none⟩) n1.es.length ce) ∧ w'.cell? ⟨ge, u, none⟩ = some (.slice Au2 iu2 cu2)) (st := 14) (by kernel_rfl) ⟨y0, yk⟩ (fun hHeld => ?_);refine utf 0 43 ?_;refine utk 1 44 ?_;refine utf 2 45 ?_;refine utf 3 46 ?_;refine utk 4 47 ?_;refine utf 5 48 ?_;refine utf 6 49 ?_;refine utk 7 50 ?_;refine utf 8 51 ?_;refine utf 9 52 ?_;refine utf 10 53 ?_;refine ur 11 rfl (by kernel_rfl) (fun K hK => ?_);go_simp;replace y0 := Lib.cell?_alloc_some (.cells #[.int .i64 (v : Int), .int .i64 (iv : Int)] 74) y0;replace yk := Lib.cell?_alloc_some (.cells #[.int .i64 (v : Int), .int .i64 (iv : Int)] 74) yk;refine hK.out (fun _ => ⟨y0, yk⟩) ?_;clear hK K
  try simp only [Act.put, pu]
  refine ur 12 rfl (by kernel_rfl) (fun K hK => ?_);rw [if_pos (by rfl), HWA.out, ← HWS.out];refine oper_app2 W0 (.tmp 50) (.tmp 54) 75 rfl base 74 _ 16 Tryz.underlying75 endInfo rfl _ _ _ rfl _ _ rfl rfl rfl (by have h1 := HB0.out.k.rowOwn (rowAt_lt (k := u) (by omega)); rw [HVR.out, ← HRL.out] at h1; exact h1) (by unfold maxLen; omega) (by omega) (by have := hWB.size; omega) ?_;intro v7 w7 hown7 hbl7 hgr7 hlt7 hob7;obtain ⟨A7, c7, rfl⟩ := own_slN hown7
  have hkA := hgr7.block ge (HB0.out.k.own .e trivial |>.lt _ (by rw [HVE.out]; rfl)).2 (fun e => by
   have h1 := HB0.out.k.sep .e (.r u) trivial (by show _ < _; omega) (by simp);rw [HVE.out, HVR.out] at h1;rcases h1 with h1 | h1
   · cases h1
   · exact h1 e)
  clear y0 yk;have y0 := (World.cell?_of_block (a := ⟨P7, 0, none⟩) (hgr7.block P7 HB0.out.lt (fun e => HB0.out.ne (.r u) (by show _ < _; omega) (by rw [HVR.out]; exact e.symm)))).trans HY0.out;have yk := (World.cell?_of_block (a := ⟨ge, u, none⟩) hkA).trans HYK.out;have fk : w7.frozen? ⟨ge, u, none⟩ = false := (World.frozen?_of_block (a := ⟨ge, u, none⟩) hkA).trans fk0;refine hK.out (fun _ => ⟨y0, yk⟩) ?_;clear hK K
  try simp only [Act.put, pu]
  refine utf 13 56 ?_;refine ur 14 rfl (by kernel_rfl) (fun K hK => ?_);go_simp;obtain ⟨w9, hw9⟩ : ∃ z, z = w7.setCell ⟨ge, u, none⟩ (.slice A7 (iu2 + 1) c7) := ⟨_, rfl⟩
  rw [← hw9];have hp7 := HB0.out.push (k := u) (by omega) HVE.out (v7 := .slice A7 (iu2 + 1) c7) (e := ((v : Int), (iv : Int))) (by rw [HVR.out]; exact hgr7) (by rw [← HRL.out]; exact hown7) (by rw [HVR.out]; exact hob7.imp id fun ⟨g, h1, h2, _⟩ => ⟨g, h1, h2⟩);rw [← hw9] at hp7;have Hw9 := Lib.hid hp7;have HBw9 := Lib.hid (show Below base w8 w9 by rw [hw9]; exact ((hWB.mono (by omega)).trans hbl7).setCell (p := ⟨ge, u, none⟩) (by show base ≤ ge; exact (HB0.out.k.own .e trivial |>.lt _ (by rw [HVE.out]; rfl)).1) _);clear hp7 hw9 y0 yk fk fk0 hown7 hbl7 hgr7 hob7 hkA;refine hK.out (fun h' => till_no h' (by kernel_rfl)) ?_;clear hK K
  try simp only [Act.put, pu]
  refine wpTill_done (by kernel_rfl) ?_ _;obtain ⟨val3, hv3⟩ : ∃ z, z = updN val2 (.r u) (.slice A7 (iu2 + 1) c7) := ⟨_, rfl⟩
  have HJN := Lib.hid (show pushN n1 u ((v : Int), (iv : Int)) = joinN n v u by
   have h1 := HN1.out;have h2 := HJ.out;rw [HIU.out] at h2;rw [h1, h2, HIV.out]
   rfl)
  rw [← hv3, HJN.out] at Hw9
  have HBX := Lib.hid (show w9.heap[P7]? = some (.cells #[.slice (some ⟨ge, 0, none⟩) n1.es.length ce, .slice C1 n1' k1, .slice C2 n2 k2] 27 (0, 0)) by
   have h1 := Hw9.out.box;rw [hv3, updN_ne _ _ (by simp), updN_ne _ _ (by simp), updN_ne _ _ (by simp), HVE.out, HV2I.out.1, HV2I.out.2] at h1
   exact h1)
  have HV3 := Lib.hid (show val3 .e = .slice (some ⟨ge, 0, none⟩) n1.es.length ce ∧ val3 .i = .slice C1 n1' k1 ∧ val3 .n = .slice C2 n2 k2 by rw [hv3, updN_ne _ _ (by simp), updN_ne _ _ (by simp), updN_ne _ _ (by simp)]; exact ⟨HVE.out, HV2I.out⟩);have hB8 := (hb4.mono (by omega : base ≤ w3.heap.size)).trans HBw8.out;have hB9 := hB8.trans HBw9.out;have hB39 := bl_trans hB (hb3.trans (hB9.mono hbl.2.1));have HQ9 := bk HQ (hb3.trans (hB9.mono hbl.2.1));obtain ⟨p0, p1, p2, pf⟩ := cells3 HQ9;obtain ⟨b0, b1, b2, bf⟩ := cells3 HBX;obtain ⟨we, hwe, HE, hge⟩ := set3 HQ9 (.slice (some ⟨ge, 0, none⟩) n1.es.length ce) (.slice C1 n1' k1) (.slice C2 n2 k2);have HWE := Lib.hid hwe;clear hv3 HN1 hwe;go_wp2_with fail;rw [← HWE.out];obtain ⟨z0, z1, z2, -⟩ := cells3 HE;have hBE : Below w.heap.size w we := Below.grown hB39 hge (by have := hB39.size; omega) (fun k hk => by have e : P1 = k := Option.some.inj hk; omega);have hKE : NetK we w.heap.size val3 (joinN n v u) := OwnN.mono (NetK.past Hw9.out.k HQ9.out no_tyN_net hge) (by omega);exact bodyPost_ret (v := .agg #[.slice (some ⟨ge, 0, none⟩) n1.es.length ce, .slice C1 n1' k1, .slice C2 n2 k2]) (by simp [results, Tryz.results131, go_sem, z0, z1, z2]) rfl ⟨val3, by rw [HV3.out.1, HV3.out.2.1, HV3.out.2.2], hKE, hBE⟩
set_option maxRecDepth 100000 in
set_option maxHeartbeats 4000000 in
theorem spec_neStub (ne ni nn : Value) (n : Net) (v : Nat) (w : World) (hn : NetR w w.heap.size ne ni nn n) (hs : SmallN n) (hv : v < n.es.length) :
  Calls Tryz.prog 158 #[.agg #[ne, ni, nn], .int .i64 (v : Int)] w fun e w' => ∃ val, e = .returned (.agg #[val .e, val .i, val .n]) ∧ NetK w' w.heap.size val (stubN n v) ∧ Below w.heap.size w w' := by
 have HN := Lib.hid hn;have HSM := Lib.hid hs;have h1000 := hs.e;have hv6 := hs.d _ (List.mem_of_getElem? (rowAt_lt hv));obtain ⟨⟨A4, m4, c4, rfl⟩, ⟨A5, m5, c5, rfl⟩, A6, m6, c6, rfl⟩ := hn.slices;clear hn hs;obtain ⟨w0, hw0, hb0, HD, hz0, HS0⟩ := box3 w (.slice A4 m4 c4) (.slice A5 m5 c5) (.slice A6 m6 c6) 27;obtain ⟨w1, hw1, hb1, HQ, hz1, HS1⟩ := box3 w0 (.slice none 0 0) (.slice none 0 0) (.slice none 0 0) 27;have HW1 := Lib.hid (show w1 = (w.alloc (.cells #[.slice A4 m4 c4, .slice A5 m5 c5, .slice A6 m6 c6] 27)).alloc (.cells #[.slice none 0 0, .slice none 0 0, .slice none 0 0] 27) by rw [hw1, hw0]);obtain ⟨P1, hPP1⟩ : ∃ z, z = w0.heap.size := ⟨_, rfl⟩
 have HP1 := Lib.hid (show w.heap.size + 1 = P1 by rw [hPP1, HS0.out]);rw [← hPP1] at HQ hz1;have HD1 := bk HD hb1;have hB := bl_trans hb0 hb1;have hzb1 : w.heap.size < w1.heap.size := by have := hb1.size; omega
 have hP1l : w.heap.size < P1 := by rw [← HP1.out]; omega
 clear hw0 hw1 hPP1 HS0 HS1;obtain ⟨q0, q1, q2, qf⟩ := cells3 HD1;have eq0 := q0;have eq1 := q1;have eq2 := q2;rw [HW1.out] at eq0 eq1 eq2;go_enter Tryz.func158, Tryz.ntmps158;go_wp2_with fail;rw [HP1.out, ← HW1.out];clear eq0 eq1 eq2 q0 q1 q2 qf;refine (spec_neOwn _ _ _ n w1 (HN.out.up hB) HSM.out).mono ?_;rintro e w3 ⟨val, rfl, hk3, hb3⟩;obtain ⟨base, hbase⟩ : ∃ z, z = w1.heap.size := ⟨_, rfl⟩
 rw [← hbase] at hk3;have hbl : base ≤ w3.heap.size ∧ w1.heap.size ≤ base ∧ base ≤ w1.heap.size := by have := hb3.size; omega
 clear hbase;obtain ⟨ge, ce, eke, -, -, hge1, hge2⟩ := hk3.outer (by omega);obtain ⟨C1, k1, ek1⟩ := own_slN (hk3.own .i trivial);obtain ⟨C2, k2, ek2⟩ := own_slN (hk3.own .n trivial);obtain ⟨Av, cv, ekv⟩ := own_slN (hk3.rowOwn (rowAt_lt hv));have HK3 := Lib.hid hk3;have HVE := Lib.hid eke;have HVI := Lib.hid (And.intro ek1 ek2);have HVV := Lib.hid ekv;rw [eke, ek1, ek2];generalize (rowN n val .i).len = n1' at HVI ⊢;generalize (rowN n val .n).len = n2 at HVI ⊢;obtain ⟨iv, hiv⟩ : ∃ z, z = (rowAt n v).length := ⟨_, rfl⟩
 rw [← hiv] at HVV hv6;have HIV := Lib.hid hiv;clear hk3 eke ek1 ek2 ekv hiv;obtain ⟨w4, hw4, hb4, HB, hz4, HS4⟩ := box3 w3 (.slice (some ⟨ge, 0, none⟩) n.es.length ce) (.slice C1 n1' k1) (.slice C2 n2 k2) 27;obtain ⟨P7, hP7⟩ : ∃ z, z = w3.heap.size := ⟨_, rfl⟩
 have HP7 := Lib.hid hP7;have hP7l : w3.heap.size ≤ P7 := by omega
 rw [← hP7] at HB hz4;have HW4 := Lib.hid hw4;have H4 := Lib.hid (show NetB w4 base val n P7 from NetB.of (HK3.out.up hb4) (by rw [HVE.out, HVI.out.1, HVI.out.2]; exact HB.out));have y0 : w4.cell? ⟨P7, 0, none⟩ = some (.slice (some ⟨ge, 0, none⟩) n.es.length ce) := by rw [cell_of_row _ _ 0 _ _ (0, 0) HB.out]; rfl
 have yv : w4.cell? ⟨ge, v, none⟩ = some (.slice Av iv cv) := by rw [← HVV.out]; exact H4.out.k.outerCell HVE.out hv
 have ey0 := y0;have eyv := yv;rw [hw4] at ey0 eyv;rw [hP7] at ey0;have hvi : (v : Int) < (n.es.length : Int) := by omega
 clear hw4 hP7;go_wp2_with fail;rw [← HW4.out, ← HP7.out];clear ey0 eyv y0 yv;have HVR := HVV;have HRL := HIV;obtain ⟨W0, hW0⟩ : ∃ z, z = w4.drew := ⟨_, rfl⟩
 have HB0 := Lib.hid (show NetB W0 base val n P7 by rw [hW0]; exact ⟨OwnN.keep H4.out.k ⟨rfl, rfl, rfl, Nat.le_refl _, fun _ _ _ => rfl⟩, H4.out.ne, H4.out.box⟩);have HWA := Lib.hid (show (w4.alloc (.cells #[.int .i64 (v : Int), .int .i64 (iv : Int)] 74)).drew = W0.alloc (.cells #[.int .i64 (v : Int), .int .i64 (iv : Int)] 74) by rw [hW0]; rfl);have HWS := Lib.hid (show W0.heap.size = w4.heap.size by rw [hW0]; rfl);have hWB : Below w4.heap.size w4 W0 := by rw [hW0]; exact (Below.refl _ _).drew
 have y0 : w4.cell? ⟨P7, 0, none⟩ = some (.slice (some ⟨ge, 0, none⟩) n.es.length ce) := by rw [cell_of_row _ _ 0 _ _ (0, 0) H4.out.box, ← HVE.out]; rfl
 have yk : w4.cell? ⟨ge, v, none⟩ = some (.slice Av iv cv) := by rw [← HVR.out]; exact H4.out.k.outerCell HVE.out (by omega)
 have HYK := Lib.hid (show W0.cell? ⟨ge, v, none⟩ = some (.slice Av iv cv) by rw [hW0]; exact yk);have HY0 := Lib.hid (show W0.cell? ⟨P7, 0, none⟩ = some (.slice (some ⟨ge, 0, none⟩) n.es.length ce) by rw [hW0]; exact y0);have fk0 : W0.frozen? ⟨ge, v, none⟩ = false := by have h1 := HB0.out.k.own .e trivial;rw [HVE.out] at h1;exact own_thaw h1 v
 have hgne : ge ≠ P7 := fun e => HB0.out.ne .e trivial (by rw [HVE.out, ← e]; rfl)
 clear hW0;refine till_region (S := fun w' => w'.cell? ⟨P7, 0, none⟩ = some (.slice (some ⟨ge, 0, none⟩) n.es.length ce) ∧ w'.cell? ⟨ge, v, none⟩ = some (.slice Av iv cv)) (st := 19) (by kernel_rfl) ⟨y0, yk⟩ (fun hHeld => ?_);refine utf 0 8 ?_;refine utk 1 9 ?_;refine utf 2 10 ?_;refine utf 3 11 ?_;refine utk 4 12 ?_;refine utf 5 13 ?_;refine utf 6 14 ?_;refine utk 7 15 ?_;refine utf 8 16 ?_;refine utf 9 17 ?_;refine utk 10 18 ?_;refine utf 11 19 ?_;refine utf 12 20 ?_;refine utk 13 21 ?_;refine utf 14 22 ?_;refine utf 15 23 ?_;refine ur 16 rfl (by kernel_rfl) (fun K hK => ?_);go_simp;replace y0 := Lib.cell?_alloc_some (.cells #[.int .i64 (v : Int), .int .i64 (iv : Int)] 74) y0;replace yk := Lib.cell?_alloc_some (.cells #[.int .i64 (v : Int), .int .i64 (iv : Int)] 74) yk;refine hK.out (fun _ => ⟨y0, yk⟩) ?_;clear hK K
 try simp only [Act.put, pu]
 refine ur 17 rfl (by kernel_rfl) (fun K hK => ?_);rw [if_pos (by rfl), HWA.out, ← HWS.out];refine oper_app2 W0 (.tmp 15) (.tmp 24) 75 rfl base 74 _ 16 Tryz.underlying75 endInfo rfl _ _ _ rfl _ _ rfl rfl rfl (by have h1 := HB0.out.k.rowOwn (rowAt_lt (k := v) (by omega)); rw [HVR.out, ← HRL.out] at h1; exact h1) (by unfold maxLen; omega) (by omega) (by have := hWB.size; omega) ?_;intro v7 w7 hown7 hbl7 hgr7 hlt7 hob7;obtain ⟨A7, c7, rfl⟩ := own_slN hown7
 have hkA := hgr7.block ge (HB0.out.k.own .e trivial |>.lt _ (by rw [HVE.out]; rfl)).2 (fun e => by
  have h1 := HB0.out.k.sep .e (.r v) trivial (by show _ < _; omega) (by simp);rw [HVE.out, HVR.out] at h1;rcases h1 with h1 | h1
  · cases h1
  · exact h1 e)
 clear y0 yk;have y0 := (World.cell?_of_block (a := ⟨P7, 0, none⟩) (hgr7.block P7 HB0.out.lt (fun e => HB0.out.ne (.r v) (by show _ < _; omega) (by rw [HVR.out]; exact e.symm)))).trans HY0.out;have yk := (World.cell?_of_block (a := ⟨ge, v, none⟩) hkA).trans HYK.out;have fk : w7.frozen? ⟨ge, v, none⟩ = false := (World.frozen?_of_block (a := ⟨ge, v, none⟩) hkA).trans fk0;refine hK.out (fun _ => ⟨y0, yk⟩) ?_;clear hK K
 try simp only [Act.put, pu]
 refine utf 18 26 ?_;refine ur 19 rfl (by kernel_rfl) (fun K hK => ?_);go_simp;obtain ⟨w9, hw9⟩ : ∃ z, z = w7.setCell ⟨ge, v, none⟩ (.slice A7 (iv + 1) c7) := ⟨_, rfl⟩
 rw [← hw9];have hp7 := HB0.out.push (k := v) (by omega) HVE.out (v7 := .slice A7 (iv + 1) c7) (e := ((v : Int), (iv : Int))) (by rw [HVR.out]; exact hgr7) (by rw [← HRL.out]; exact hown7) (by rw [HVR.out]; exact hob7.imp id fun ⟨g, h1, h2, _⟩ => ⟨g, h1, h2⟩);rw [← hw9] at hp7;have Hw9 := Lib.hid hp7;have HBw9 := Lib.hid (show Below base w4 w9 by rw [hw9]; exact ((hWB.mono (by omega)).trans hbl7).setCell (p := ⟨ge, v, none⟩) (by show base ≤ ge; exact (HB0.out.k.own .e trivial |>.lt _ (by rw [HVE.out]; rfl)).1) _);clear hp7 hw9 y0 yk fk fk0 hown7 hbl7 hgr7 hob7 hkA;refine hK.out (fun h' => till_no h' (by kernel_rfl)) ?_;clear hK K
 try simp only [Act.put, pu]
 refine wpTill_done (by kernel_rfl) ?_ _;obtain ⟨val3, hv3⟩ : ∃ z, z = updN val (.r v) (.slice A7 (iv + 1) c7) := ⟨_, rfl⟩
 have HJN := Lib.hid (show pushN n v ((v : Int), (iv : Int)) = stubN n v by
  rw [HIV.out]
  rfl)
 rw [← hv3, HJN.out] at Hw9
 have HBX := Lib.hid (show w9.heap[P7]? = some (.cells #[.slice (some ⟨ge, 0, none⟩) n.es.length ce, .slice C1 n1' k1, .slice C2 n2 k2] 27 (0, 0)) by
  have h1 := Hw9.out.box;rw [hv3, updN_ne _ _ (by simp), updN_ne _ _ (by simp), updN_ne _ _ (by simp), HVE.out, HVI.out.1, HVI.out.2] at h1
  exact h1)
 have HV3 := Lib.hid (show val3 .e = .slice (some ⟨ge, 0, none⟩) n.es.length ce ∧ val3 .i = .slice C1 n1' k1 ∧ val3 .n = .slice C2 n2 k2 by rw [hv3, updN_ne _ _ (by simp), updN_ne _ _ (by simp), updN_ne _ _ (by simp)]; exact ⟨HVE.out, HVI.out⟩);have hB9 := (hb4.mono (by omega : base ≤ w3.heap.size)).trans HBw9.out;have hB39 := bl_trans hB (hb3.trans (hB9.mono hbl.2.1));have HQ9 := bk HQ (hb3.trans (hB9.mono hbl.2.1));obtain ⟨p0, p1, p2, pf⟩ := cells3 HQ9;obtain ⟨b0, b1, b2, bf⟩ := cells3 HBX;obtain ⟨we, hwe, HE, hge⟩ := set3 HQ9 (.slice (some ⟨ge, 0, none⟩) n.es.length ce) (.slice C1 n1' k1) (.slice C2 n2 k2);have HWE := Lib.hid hwe;clear hv3 hwe;go_wp2_with fail;rw [← HWE.out];obtain ⟨z0, z1, z2, -⟩ := cells3 HE;have hBE : Below w.heap.size w we := Below.grown hB39 hge (by have := hB39.size; omega) (fun k hk => by have e : P1 = k := Option.some.inj hk; omega);have hKE : NetK we w.heap.size val3 (stubN n v) := OwnN.mono (NetK.past Hw9.out.k HQ9.out no_tyN_net hge) (by omega);exact bodyPost_ret (v := .agg #[.slice (some ⟨ge, 0, none⟩) n.es.length ce, .slice C1 n1' k1, .slice C2 n2 k2]) (by simp [results, Tryz.results158, go_sem, z0, z1, z2]) rfl ⟨val3, by rw [HV3.out.1, HV3.out.2.1, HV3.out.2.2], hKE, hBE⟩
end Go.Proofs.YtdghoienjegffaaGreat
