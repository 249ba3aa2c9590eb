/-
  The reference's buCycle and neRenumber: a cycle, and its nodes in another order, in memory of one's own. Condition: at most 100 nodes.
-/
import Derived.Test.YtdghoienjegffaaGreatQDrawFit
namespace Go.Proofs.YtdghoienjegffaaGreat
open Go.RowKit
set_option linter.all false
structure CycN (n : Net) (N : Nat) : Prop where
  len : n.es.length = N
  ins : n.ins.length = N
  ids : n.ids = []
  in64 : ∀ x ∈ n.ins, I64 x
  ok : ∀ u, degA n u ≤ 2 ∧ ∀ e ∈ rowAt n u, ∃ a b : Nat, e = ((a : Int), (b : Int)) ∧ a < N ∧ b ≤ 1
theorem CycN.start (N : Nat) : CycN (emptyN N) N := ⟨(made_empty N).len, (made_empty N).ins, rfl, fun x hx => by have := (made_empty N).in9 x hx; exact ⟨by omega, by omega⟩, fun u => by unfold degA; rw [rowAt_empty]; exact ⟨Nat.zero_le _, fun _ h => by cases h⟩⟩
theorem CycN.setRow {n : Net} {N u : Nat} {l : Ends} (h : CycN n N) (hu : u < N) (hl : l.length ≤ 2) (hx : ∀ e ∈ l, ∃ a b : Nat, e = ((a : Int), (b : Int)) ∧ a < N ∧ b ≤ 1) : CycN { n with es := n.es.set u l } N :=
  ⟨by show (n.es.set u l).length = N; rw [List.length_set]; exact h.len, h.ins, h.ids, h.in64, fun x => by
    unfold degA
    rw [rowAt_set (by rw [h.len]; exact hu)]
    by_cases e : x = u
    · rw [if_pos e]; exact ⟨hl, hx⟩
    · rw [if_neg e]; exact h.ok x⟩
theorem CycN.setIn {n : Net} {N : Nat} (h : CycN n N) (k : Nat) {y : Int} (hy : I64 y) : CycN { n with ins := n.ins.set k y } N := ⟨h.len, by show (n.ins.set k y).length = N; rw [List.length_set]; exact h.ins, h.ids, fun x hx => by
  rcases List.mem_or_eq_of_mem_set hx with h1 | h1
  · exact h.in64 x h1
  · rw [h1]; exact hy, h.ok⟩
theorem CycN.fit {n : Net} {N : Nat} (h : CycN n N) (hN : N ≤ 1000) : FitN n N 2 := ⟨Nat.le_of_eq h.len, by rw [h.ids]; exact Nat.zero_le _, Nat.le_of_eq h.ins, fun u => (h.ok u).1, fun l hl e he => by
  obtain ⟨u, -, rfl⟩ := rowAt_mem hl
  obtain ⟨a, b, rfl, h1, h2⟩ := (h.ok u).2 e he
  exact ⟨⟨by show (-9223372036854775808 : Int) ≤ (a : Int); omega, by show (a : Int) ≤ _; omega⟩, by show (-9223372036854775808 : Int) ≤ (b : Int); omega, by show (b : Int) ≤ _; omega⟩, fun x hx => (by rw [h.ids] at hx; cases hx), h.in64⟩
theorem NetB.newRow {w w' : World} {base P : Nat} {val : NKey → Value} {n : Net} (h : NetB w base val n P) {k : Nat} (hk : k < n.es.length) {g cap : Nat} (hv : val .e = .slice (some ⟨g, 0, none⟩) n.es.length cap) {v : Value} {l : Ends}
    (hg : w.grownBy w' none) (hn : w'.ownsRow base 74 2 v l.length (endCells l)) (hb : v.ownBlock = none ∨ ∃ g, v.ownBlock = some g ∧ w.heap.size ≤ g) :
    NetB (w'.setCell ⟨g, k, none⟩ v) base (updN val (.r k) v) { n with es := n.es.set k l } P := by
  refine NetB.of (h.k.newRow hk hv hg hn hb) ?_
  have hgP : g ≠ P := fun e => h.ne .e trivial (by rw [hv, ← e]; rfl)
  rw [updN_ne _ _ (by simp), updN_ne _ _ (by simp), updN_ne _ _ (by simp)]
  refine (Below.heap_setCell _ _ _ _ (fun e => hgP e.symm)).trans ?_
  exact (hg.block P h.lt (by simp)).trans h.box
theorem own_ends2 (w : World) (a b c d : Value) : (w.alloc (.cells #[a, b, c, d] 74)).ownsRow w.heap.size 74 2 (.slice (some ⟨w.heap.size, 0, none⟩) 2 2) 2 [a, b, c, d] :=
  ⟨by simp, .inr ⟨w.heap.size, 2, _, rfl, Nat.le_refl _, heap_alloc_new w _, Nat.le_refl _, by unfold maxLen; omega, by simp, by simp⟩⟩
def CyRel (w : World) (PB PR base N : Nat) (i : Value) (wr : World) : Prop :=
  ∃ j : Nat, j ≤ N ∧ i = .int .i64 (j : Int) ∧ Below w.heap.size w wr ∧ wr.heap[PR]? = some (.cells #[.slice none 0 0, .slice none 0 0, .slice none 0 0] 27 (0, 0)) ∧ ∃ n val, CycN n N ∧ NetB wr base val n PB
set_option maxRecDepth 100000 in
set_option maxHeartbeats 4000000 in
theorem spec_buCycle (k : Nat) (w : World) (hk1 : 1 ≤ k) (hk : k ≤ 100) :
  Calls Tryz.prog 82 #[.int .i64 (k : Int)] w fun e w' => ∃ n val, e = .returned (.agg #[val .e, val .i, val .n]) ∧ CycN n k ∧ NetK w' w.heap.size val n ∧ Below w.heap.size w w' := by
 obtain ⟨w1, hw1, hb1, HQ, hz1, HS1⟩ := box3 w (.slice none 0 0) (.slice none 0 0) (.slice none 0 0) 27
 obtain ⟨PR, hPR⟩ : ∃ z, z = w.heap.size := ⟨_, rfl⟩
 have HPR := Lib.hid hPR
 have hPRl : w.heap.size ≤ PR ∧ PR ≤ w.heap.size := by omega
 rw [← hPR] at HQ
 have HW1 := Lib.hid hw1
 have hPR1 : PR < w1.heap.size := by omega
 clear hw1 hPR
 go_enter Tryz.func82, Tryz.ntmps82
 go_wp2_with fail
 rw [← HW1.out, ← HPR.out]
 refine (spec_neEmpty k w1 (by omega)).mono ?_
 rintro e w3 ⟨val, rfl, hk3, hb3⟩
 have hoe := hk3.own .e trivial
 replace hoe : w3.ownsRow w1.heap.size 75 1 (val .e) (List.replicate k ([] : Ends)).length (valsN val (List.replicate k ([] : Ends)).length) := hoe
 rw [List.length_replicate] at hoe
 obtain ⟨ge, ce, x0⟩ := own_slN (hk3.own .e trivial)
 obtain ⟨C1, k1, x1⟩ := own_slN (hk3.own .i trivial)
 obtain ⟨C2, k2, x2⟩ := own_slN (hk3.own .n trivial)
 have HV := Lib.hid (And.intro x0 (And.intro x1 x2))
 rw [x0, x1, x2]
 clear x0 x1 x2
 generalize (rowN (emptyN k) val .e).len = n0 at HV ⊢
 generalize (rowN (emptyN k) val .i).len = n1 at HV ⊢
 generalize (rowN (emptyN k) val .n).len = n2 at HV ⊢
 have hn0 : n0 = k := by
  rw [HV.out.1] at hoe
  rcases hoe.2 with ⟨e1, e2⟩ | ⟨g, cap, cur, e1, _⟩
  ·
   have e3 := (Value.slice.inj e1).2.1; rw [e3]; exact e2.symm
  ·
   exact (Value.slice.inj e1).2.1
 subst hn0
 obtain ⟨w4, hw4, hb4, HB, hz4, HS4⟩ := box3 w3 (.slice ge n0 ce) (.slice C1 n1 k1) (.slice C2 n2 k2) 27
 obtain ⟨PB, hPB⟩ : ∃ z, z = w3.heap.size := ⟨_, rfl⟩
 have HPB := Lib.hid hPB
 have hz3 := hb3.size
 have hPBl : w3.heap.size ≤ PB := by omega
 rw [← hPB] at HB hz4
 have HW4 := Lib.hid hw4
 have hb14 := bl_trans hb3 hb4
 have hB4 := bl_trans hb1 hb14
 have H4 := Lib.hid (show NetB w4 w1.heap.size val (emptyN n0) PB from NetB.of (hk3.up hb4) (by rw [HV.out.1, HV.out.2.1, HV.out.2.2]; exact HB.out))
 have HR4 := Lib.hid ((hb14.block PR hPR1).trans HQ.out)
 obtain ⟨q0, q1, q2, qf⟩ := cells3 HB
 have eq0 := q0
 rw [hw4, hPB] at eq0
 clear hw4 hPB hk3 hoe q1 q2 qf
 go_wp2_with fail
 rw [← HW4.out, ← HPB.out]
 clear q0 eq0
 go_loopw [10] (fun i wr => CyRel w PB PR w1.heap.size n0 i wr) (fun i _ => n0 - (intOf i).toNat)
 case atStart => exact ⟨0, Nat.zero_le _, rfl, hB4, HR4.out, _, _, CycN.start n0, H4.out⟩
 case round =>
  obtain ⟨j, hjN, rfl, hbr, hres, n', val', hcy, hnb⟩ := hrel
  obtain ⟨ge', ce', eke, -, -, hge1, hge2⟩ := hnb.k.outer (by rw [hcy.len]; omega)
  rw [hcy.len] at eke
  have HBR := Lib.hid hbr
  have HRS := Lib.hid hres
  have HCY := Lib.hid hcy
  have HNB := Lib.hid hnb
  have HVE := Lib.hid eke
  have hzr := hbr.size
  have hPBr : PB < wr.heap.size := hnb.lt
  have hPRr : PR < wr.heap.size := heap_ltN hres
  have q0 : wr.cell? ⟨PB, 0, none⟩ = some (.slice (some ⟨ge', 0, none⟩) n0 ce') := by rw [cell_of_row _ _ 0 _ _ (0, 0) hnb.box, ← eke]; rfl
  clear hbr hres hcy hnb eke
  by_cases hlt : j < n0
  ·
   have hji : (j : Int) < (n0 : Int) := by omega
   have hw1' : IntKind.i64.wrap ((j : Int) + 1) = (j : Int) + 1 := IntWalk.i64_in _ (by omega)
   have hw2' : IntKind.i64.wrap ((j : Int) + (n0 : Int)) = (j : Int) + (n0 : Int) := IntWalk.i64_in _ (by omega)
   have hw3' : IntKind.i64.wrap ((j : Int) + (n0 : Int) - 1) = (j : Int) + (n0 : Int) - 1 := IntWalk.i64_in _ (by omega)
   have hn0' : (n0 = 0) = False := eq_false (by omega)
   obtain ⟨jw, hjw⟩ : ∃ z, z = (j + 1) % n0 := ⟨_, rfl⟩
   obtain ⟨jb, hjb⟩ : ∃ z, z = (j + n0 - 1) % n0 := ⟨_, rfl⟩
   have hmod : ((j : Int) + 1).tmod (n0 : Int) = (jw : Int) := by rw [hjw]; exact (Int.ofNat_tmod (j + 1) n0).symm
   have hmod2 : ((j : Int) + (n0 : Int) - 1).tmod (n0 : Int) = (jb : Int) := by
    rw [hjb, show (j : Int) + (n0 : Int) - 1 = ((j + n0 - 1 : Nat) : Int) by omega]
    exact (Int.ofNat_tmod (j + n0 - 1) n0).symm
   have hjwl : jw < n0 := by rw [hjw]; exact Nat.mod_lt _ (by omega)
   have hjbl : jb < n0 := by rw [hjb]; exact Nat.mod_lt _ (by omega)
   clear hjw hjb
   go_wp2_with fail
   refine till_region (S := fun w' => w'.cell? ⟨PB, 0, none⟩ = some (.slice (some ⟨ge', 0, none⟩) n0 ce')) (st := 17) (by kernel_rfl) q0 (fun hHeld => ?_)
   refine utf 0 13 ?_
   refine utk 1 14 ?_
   refine utf 2 15 ?_
   refine utf 3 16 ?_
   refine utf 4 17 ?_
   refine utf 5 18 ?_
   refine utf 6 19 ?_
   refine utf 7 20 ?_
   refine utf 8 21 ?_
   refine utf 9 22 ?_
   refine utf 10 23 ?_
   refine utf 11 24 ?_
   refine utf 12 25 ?_
   refine utf 13 26 ?_
   refine utf 14 27 ?_
   refine ur 15 rfl (by kernel_rfl) (fun K hK => ?_)
   go_simp
   obtain ⟨w5, hw5⟩ : ∃ z, z = (wr.alloc (.cells #[.int .i64 (jw : Int), .int .i64 1, .int .i64 (jb : Int), .int .i64 0] 74)).drew := ⟨_, rfl⟩
   have hb5 : Below wr.heap.size wr w5 := by rw [hw5]; exact (bl_alloc (Below.refl _ _) _).drew
   have ho5 : w5.ownsRow wr.heap.size 74 2 (.slice (some ⟨wr.heap.size, 0, none⟩) 2 2) 2 (endCells [((jw : Int), 1), ((jb : Int), 0)]) := by rw [hw5]; exact own_ends2 wr (.int .i64 (jw : Int)) (.int .i64 1) (.int .i64 (jb : Int)) (.int .i64 0)
   have HO5 := Lib.hid ho5
   have HB5 := Lib.hid hb5
   rw [← hw5]
   have hoe : w5.ownsRow w1.heap.size 75 1 (val' .e) n'.es.length (valsN val' n'.es.length) := (HNB.out.k.up hb5).own .e trivial
   rw [HVE.out, HCY.out.len] at hoe
   have ci := (hoe.cellAt j (by omega)).trans (valsN_at hlt)
   have fi := own_thaw hoe j
   have q0 := (hb5.cell (p := ⟨PB, 0, none⟩) hPBr).trans q0
   clear hw5 ho5 hoe hb5
   refine hK.out (fun _ => q0) ?_
   clear hK K
   try simp only [Act.put, pu]
   refine utf 16 29 ?_
   refine ur 17 rfl (by kernel_rfl) (fun K hK => ?_)
   go_simp
   obtain ⟨w9, hw9⟩ : ∃ z, z = w5.setCell ⟨ge', j, none⟩ (.slice (some ⟨wr.heap.size, 0, none⟩) 2 2) := ⟨_, rfl⟩
   rw [← hw9]
   have H9 := Lib.hid (show Below w.heap.size w w9 ∧ w9.heap[PR]? = some (.cells #[.slice none 0 0, .slice none 0 0, .slice none 0 0] 27 (0, 0)) ∧ CycN { n' with es := n'.es.set j [((jw : Int), 1), ((jb : Int), 0)] } n0 ∧ NetB w9 w1.heap.size (updN val' (.r j) (.slice (some ⟨wr.heap.size, 0, none⟩) 2 2)) { n' with es := n'.es.set j [((jw : Int), 1), ((jb : Int), 0)] } PB by
    rw [hw9]
    refine ⟨(HBR.out.trans (HB5.out.mono hzr)).setCell (p := ⟨ge', j, none⟩) (by show w.heap.size ≤ ge'; omega) _, (Below.heap_setCell _ _ _ _ (by show PR ≠ ge'; omega)).trans ((HB5.out.block PR hPRr).trans HRS.out), HCY.out.setRow hlt (Nat.le_refl _) (fun e he => ?_), HNB.out.newRow (by rw [HCY.out.len]; exact hlt) (by rw [HVE.out, HCY.out.len]) (grown_belowN HB5.out none) (own_mono HO5.out (by omega)) (.inr ⟨_, rfl, Nat.le_refl _⟩)⟩
    rcases List.mem_cons.1 he with rfl | he
    ·
     exact ⟨jw, 1, rfl, hjwl, Nat.le_refl _⟩
    ·
     rw [List.mem_singleton.1 he]; exact ⟨jb, 0, rfl, hjbl, Nat.zero_le _⟩)
   clear hw9 q0 ci fi
   refine hK.out (fun h' => till_no h' (by kernel_rfl)) ?_
   clear hK K
   try simp only [Act.put, pu]
   refine wpTill_done (by kernel_rfl) ?_ _
   go_wp2_with fail
   go_roundw
   case rel => exact ⟨j + 1, by omega, by go_num, H9.out.1, H9.out.2.1, _, _, H9.out.2.2.1, H9.out.2.2.2⟩
   case measure => simp [intOf]; omega
  ·
   obtain rfl : j = n0 := by omega
   have hjj : ((j : Int) < (j : Int)) = False := eq_false (by omega)
   clear q0
   obtain ⟨Z0, l0, ez0⟩ := own_slN (HNB.out.k.own .e trivial)
   obtain ⟨Z1, l1, ez1⟩ := own_slN (HNB.out.k.own .i trivial)
   obtain ⟨Z2, l2, ez2⟩ := own_slN (HNB.out.k.own .n trivial)
   have hbz := HNB.out.box
   rw [ez0, ez1, ez2] at hbz
   have HEZ := Lib.hid (And.intro ez0 (And.intro ez1 ez2))
   clear ez0 ez1 ez2
   generalize (rowN n' val' .e).len = s0 at HEZ hbz
   generalize (rowN n' val' .i).len = s1 at HEZ hbz
   generalize (rowN n' val' .n).len = s2 at HEZ hbz
   obtain ⟨b0, b1, b2, bf⟩ := cells3 (Lib.hid hbz)
   obtain ⟨p0, p1, p2, pf⟩ := cells3 HRS
   obtain ⟨we, hwe, HE, hge⟩ := set3 HRS (.slice Z0 s0 l0) (.slice Z1 s1 l1) (.slice Z2 s2 l2)
   have HWE := Lib.hid hwe
   clear hwe hbz
   go_wp2_with fail
   rw [← HWE.out]
   obtain ⟨z0, z1, z2, -⟩ := cells3 HE
   have hKz := OwnN.mono (NetK.past HNB.out.k HRS.out no_tyN_net hge) (show w.heap.size ≤ w1.heap.size by omega)
   have hBz : Below w.heap.size w we := Below.grown HBR.out hge HBR.out.size (fun k hk => by have e := Option.some.inj (show some PR = some k from hk); omega)
   exact bodyPost_ret (v := .agg #[.slice Z0 s0 l0, .slice Z1 s1 l1, .slice Z2 s2 l2]) (by simp [results, Tryz.results82, go_sem, z0, z1, z2]) rfl ⟨n', val', by rw [HEZ.out.1, HEZ.out.2.1, HEZ.out.2.2], HCY.out, hKz, hBz⟩
end Go.Proofs.YtdghoienjegffaaGreat
