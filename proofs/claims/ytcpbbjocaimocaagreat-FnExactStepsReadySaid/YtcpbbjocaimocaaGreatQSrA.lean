/-
  The nodes that may make a round, the reference's side: StepsReady.
  numbersTo; slices.IndexFunc and slices.DeleteFunc over numbers, for every predicate that may lay blocks of its own.
  The nodes that may make a round, the program's side: StepsReady.
-/
import Derived.Test.YtcpbbjocaimocaaGreatQMaySpec
namespace Go.Proofs.YtcpbbjocaimocaaGreat
section
open Go.RowKit
set_option linter.all false
noncomputable def rdy (n : Net) (x : Asy) (k : Nat) : Bool := mayB n x ⟨5, (k : Int), 0, 0⟩
noncomputable def srTo (n : Net) (x : Asy) (k : Nat) : List Int := ((List.range k).filter (rdy n x)).map fun (i : Nat) => (i : Int)
noncomputable def srL (m : Mach) (n : Net) (x : Asy) : List Int := if goodB m n x = true then srTo n x n.es.length else []
theorem srTo_t {n : Net} {x : Asy} {k : Nat} (h : rdy n x k = true) : srTo n x (k + 1) = srTo n x k ++ [(k : Int)] := by
  unfold srTo
  rw [List.range_succ, List.filter_append, List.map_append]
  simp [h]
theorem srTo_f {n : Net} {x : Asy} {k : Nat} (h : rdy n x k = false) : srTo n x (k + 1) = srTo n x k := by
  unfold srTo
  rw [List.range_succ, List.filter_append, List.map_append]
  simp [h]
theorem srTo_len (n : Net) (x : Asy) (k : Nat) : (srTo n x k).length ≤ k := by
  unfold srTo
  rw [List.length_map]
  exact Nat.le_trans (List.length_filter_le _ _) (by simp)
theorem srTo_I64 {n : Net} {x : Asy} {k : Nat} (hk : k ≤ 40) : ∀ y ∈ srTo n x k, I64 y := fun y hy => by
  unfold srTo at hy
  obtain ⟨i, hi, rfl⟩ := List.mem_map.1 hy
  have := List.mem_range.1 (List.mem_filter.1 hi).1
  unfold I64
  omega
def SrRel (n : Net) (x : Asy) (w : World) (u i : Value) (wr : World) : Prop := Below w.heap.size w wr ∧ ∃ k : Nat, k ≤ n.es.length ∧ i = .int .i64 k ∧ wr.ownsRow w.heap.size 3 1 u (srTo n x k).length ((srTo n x k).map intV)
set_option maxRecDepth 100000 in
set_option maxHeartbeats 2000000 in
theorem spec_StepsReady (vs ve vc vo : Value) (m : Mach) (ne ni nn : Value) (n : Net) (xr xb xn xs xf : Value) (x : Asy) (w : World) (hm : MachR w w.heap.size vs ve vc vo m) (hn : NetR w w.heap.size ne ni nn n) (hx : AsyR w w.heap.size xr xb xn xs xf x)
    (hz : n.es.length ≤ 2000000) :
    Calls Tryz.prog 21 #[machV vs ve vc vo m, .agg #[ne, ni, nn], .agg #[xr, xb, xn, xs, xf]] w fun e w' => ∃ u, e = .returned (.tuple #[u, .bool (goodB m n x)]) ∧ (∃ A m c, u = .slice A m c) ∧ IntsR w' w'.heap.size u (srL m n x) ∧ Below w.heap.size w w' := by
  unfold machV
  obtain ⟨⟨A0, m0, c0, rfl⟩, ⟨A1, m1, c1, rfl⟩, ⟨A2, m2, c2, rfl⟩, A3, m3, c3, rfl⟩ := hm.slices
  have hne := hn.e
  obtain ⟨A4, c4, rfl, hc4, hM4, -⟩ := hne
  obtain ⟨-, ⟨A5, m5, c5, rfl⟩, A6, m6, c6, rfl⟩ := hn.slices
  obtain ⟨⟨A10, m10, c10, rfl⟩, ⟨A11, m11, c11, rfl⟩, ⟨A12, m12, c12, rfl⟩, ⟨A8, m8, c8, rfl⟩, A9, m9, c9, rfl⟩ := hx.slices
  unfold maxLen at hM4
  obtain ⟨w0, hw0, hb0, HM, hz0, HS0⟩ := box7 w (.int .i64 m.deg) (.int .i64 m.st) (.int .i64 m.msg) (.slice A0 m0 c0) (.slice A1 m1 c1) (.slice A2 m2 c2) (.slice A3 m3 c3) 42
  obtain ⟨w1, hw1, hb1, HD, hz1, HS1⟩ := box3 w0 (.slice A4 n.es.length c4) (.slice A5 m5 c5) (.slice A6 m6 c6) 46
  replace HM := bk HM hb1
  obtain ⟨w2, hw2, hb2, HY, hz2, HS2⟩ := box5 w1 (.slice A10 m10 c10) (.slice A11 m11 c11) (.slice A12 m12 c12) (.slice A8 m8 c8) (.slice A9 m9 c9) 50
  replace HM := bk HM hb2
  replace HD := bk HD hb2
  have hB : Below w.heap.size w w2 := bl_trans (bl_trans (hb0) hb1) hb2
  have HW := Lib.hid (show w2 = ((w.alloc (.cells #[.int .i64 m.deg, .int .i64 m.st, .int .i64 m.msg, .slice A0 m0 c0, .slice A1 m1 c1, .slice A2 m2 c2, .slice A3 m3 c3] 42)).alloc (.cells #[.slice A4 n.es.length c4, .slice A5 m5 c5, .slice A6 m6 c6] 46)).alloc (.cells #[.slice A10 m10 c10, .slice A11 m11 c11, .slice A12 m12 c12, .slice A8 m8 c8, .slice A9 m9 c9] 50) by rw [hw2, hw1, hw0])
  obtain ⟨P1, hP1⟩ : ∃ z, z = w0.heap.size := ⟨_, rfl⟩
  have HP1 := Lib.hid (show w.heap.size + 1 = P1 by rw [hP1, HS0.out])
  have hPl1 : w.heap.size < P1 := by rw [← HP1.out]; omega
  rw [← hP1] at HD hz1
  obtain ⟨P2, hP2⟩ : ∃ z, z = w1.heap.size := ⟨_, rfl⟩
  have HP2 := Lib.hid (show w.heap.size + 1 + 1 = P2 by rw [hP2, HS1.out, HS0.out])
  have hPl2 : w.heap.size < P2 := by rw [← HP2.out]; omega
  rw [← hP2] at HY hz2
  obtain ⟨⟨g0, g1, g2⟩, ⟨g3, g4, g5, g6⟩, gf⟩ := cells7 HM
  obtain ⟨q0, q1, q2, qf⟩ := cells3 HD
  obtain ⟨⟨y0, y1, y2⟩, ⟨y3, y4⟩, yf⟩ := cells5 HY
  have eg0 := g0
  have eg1 := g1
  have eg2 := g2
  have eg3 := g3
  have eg4 := g4
  have eg5 := g5
  have eg6 := g6
  have eq0 := q0
  have eq1 := q1
  have eq2 := q2
  have ey0 := y0
  have ey1 := y1
  have ey2 := y2
  have ey3 := y3
  have ey4 := y4
  rw [HW.out] at eg0 eg1 eg2 eg3 eg4 eg5 eg6 eq0 eq1 eq2 ey0 ey1 ey2 ey3 ey4
  rw [← HP1.out] at eq0 eq1 eq2
  rw [← HP2.out] at ey0 ey1 ey2 ey3 ey4
  have hzb0 : w.heap.size < w2.heap.size := by omega
  have hzb1 : P1 < w2.heap.size := by omega
  have hzb2 : P2 < w2.heap.size := by omega
  have HR := Lib.hid (hm.up hB)
  have HN := Lib.hid (hn.up hB)
  have HX := Lib.hid (hx.up hB)
  clear hw2 hw1 hw0 hP1 hP2
  have HG := Lib.hid (spec_syGood _ _ _ _ m _ _ _ n _ _ _ _ _ x w2 HR.out HN.out HX.out hz)
  cases j1 : goodB m n x with
  | false =>
    have HL := Lib.hid (show srL m n x = [] by unfold srL; rw [j1]; rfl)
    go_enter Tryz.func21, Tryz.ntmps21
    go_wp2_with fail
    rw [HP2.out, HP1.out, ← HW.out]
    clear eg0 eg1 eg2 eg3 eg4 eg5 eg6 eq0 eq1 eq2 ey0 ey1 ey2 ey3 ey4
    refine HG.out.mono ?_
    rintro e w5 ⟨rfl, hb5⟩
    rw [j1]
    have hzhb5 := hb5.size
    clear g0 g1 g2 g3 g4 g5 g6 gf q0 q1 q2 qf y0 y1 y2 y3 y4 yf
    replace HM := bk HM hb5
    replace HD := bk HD hb5
    replace HY := bk HY hb5
    replace hB := bl_trans hB hb5
    obtain ⟨⟨g0, g1, g2⟩, ⟨g3, g4, g5, g6⟩, gf⟩ := cells7 HM
    obtain ⟨q0, q1, q2, qf⟩ := cells3 HD
    obtain ⟨⟨y0, y1, y2⟩, ⟨y3, y4⟩, yf⟩ := cells5 HY
    replace HR := Lib.hid (HR.out.up hb5)
    replace HN := Lib.hid (HN.out.up hb5)
    replace HX := Lib.hid (HX.out.up hb5)
    go_wp2_with fail
    go_ret2
    exact ⟨_, rfl, ⟨_, _, _, rfl⟩, by rw [HL.out]; exact ⟨⟨none, 0, rfl, Nat.le_refl _, Nat.zero_le _, fun h => absurd h (by simp)⟩, fun _ h => by cases h⟩, hB⟩
  | true =>
    have hgp := propB_iff.1 j1
    have h40 := hgp.1.2.1.1.2
    have HP := Lib.hid hgp
    have HL := Lib.hid (show srL m n x = srTo n x n.es.length by unfold srL; rw [if_pos j1])
    clear hgp
    go_enter Tryz.func21, Tryz.ntmps21
    go_wp2_with fail
    rw [HP2.out, HP1.out, ← HW.out]
    clear eg0 eg1 eg2 eg3 eg4 eg5 eg6 eq0 eq1 eq2 ey0 ey1 ey2 ey3 ey4
    refine HG.out.mono ?_
    rintro e w5 ⟨rfl, hb5⟩
    rw [j1]
    have hzhb5 := hb5.size
    clear g0 g1 g2 g3 g4 g5 g6 gf q0 q1 q2 qf y0 y1 y2 y3 y4 yf
    replace HM := bk HM hb5
    replace HD := bk HD hb5
    replace HY := bk HY hb5
    replace hB := bl_trans hB hb5
    obtain ⟨⟨g0, g1, g2⟩, ⟨g3, g4, g5, g6⟩, gf⟩ := cells7 HM
    obtain ⟨q0, q1, q2, qf⟩ := cells3 HD
    obtain ⟨⟨y0, y1, y2⟩, ⟨y3, y4⟩, yf⟩ := cells5 HY
    replace HR := Lib.hid (HR.out.up hb5)
    replace HN := Lib.hid (HN.out.up hb5)
    replace HX := Lib.hid (HX.out.up hb5)
    go_wp2_with fail
    obtain ⟨wq, rfl⟩ : ∃ z, z = w5 := ⟨_, rfl⟩
    go_loopw [8, 20] (fun u i wr => SrRel n x wq u i wr) (fun _ i _ => n.es.length - (intOf i).toNat)
    case atStart => exact ⟨Below.refl _ _, 0, Nat.zero_le _, rfl, World.ownsRow_nil _ _ _ _⟩
    case round =>
      obtain ⟨hbr, k, hk, rfl, hown⟩ := hrel
      have HOW := Lib.hid hown
      obtain ⟨Ao, co, rfl⟩ := own_sl1 hown
      have hlen := srTo_len n x k
      clear hown
      have hzhbr := hbr.size
      clear g0 g1 g2 g3 g4 g5 g6 gf q0 q1 q2 qf y0 y1 y2 y3 y4 yf
      replace HM := bk HM hbr
      replace HD := bk HD hbr
      replace HY := bk HY hbr
      replace hB := bl_trans hB hbr
      obtain ⟨⟨g0, g1, g2⟩, ⟨g3, g4, g5, g6⟩, gf⟩ := cells7 HM
      obtain ⟨q0, q1, q2, qf⟩ := cells3 HD
      obtain ⟨⟨y0, y1, y2⟩, ⟨y3, y4⟩, yf⟩ := cells5 HY
      replace HR := Lib.hid (HR.out.up hbr)
      replace HN := Lib.hid (HN.out.up hbr)
      replace HX := Lib.hid (HX.out.up hbr)
      by_cases hlt : k < n.es.length
      · have hzq := hbr.size
        go_wp2_with fail
        refine (spec_syDo _ _ _ _ m _ _ _ n _ _ _ _ _ x 5 k 0 0 wr HR.out HN.out HX.out HP.out).mono ?_
        rintro e w6 ⟨ur, ub, un, us, uf', rfl, hb6, hdid⟩
        obtain ⟨⟨B0, l0, d0, rfl⟩, ⟨B1, l1, d1, rfl⟩, ⟨B2, l2, d2, rfl⟩, ⟨B3, l3, d3, rfl⟩, B4, l4, d4, rfl⟩ := hdid.slices ⟨_, _, _, rfl⟩ ⟨_, _, _, rfl⟩ ⟨_, _, _, rfl⟩ ⟨_, _, _, rfl⟩ ⟨_, _, _, rfl⟩
        clear hdid
        obtain ⟨_, rfl, hb7, -, -, -⟩ := box5 w6 (.slice B0 l0 d0) (.slice B1 l1 d1) (.slice B2 l2 d2) (.slice B3 l3 d3) (.slice B4 l4 d4) 50
        have HB7 := Lib.hid (bl_trans hb6 hb7)
        have hO7 := own_up HOW.out HB7.out
        have HO7 := Lib.hid hO7
        have hz7 := HB7.out.size
        clear hO7
        cases q : mayB n x ⟨5, (k : Int), 0, 0⟩ with
        | true =>
          have HT := Lib.hid (srTo_t (n := n) (x := x) (k := k) q)
          go_wp2_with (at_builtin; refine wpList_append1 _ rfl (.tmp 33) (.tmp 35) 24 rfl wq.heap.size 3 _ 8 Tryz.underlying24 intInfo rfl _ _ _ rfl _ rfl (by first | rfl | (simp; rfl) | simp) HO7.out (by unfold maxLen; omega) (by omega) (Nat.le_trans hbr.size HB7.out.size) ?_; intro v8 w8 hown8 hbl8 hgr8 hlt8 hob8)
          go_roundw
          case rel => exact ⟨(bl_trans hbr HB7.out).trans hbl8, k + 1, by omega, by go_num, by rw [HT.out, List.length_append, List.map_append]; exact hown8⟩
          case measure => simp [intOf]; omega
        | false =>
          have HT := Lib.hid (srTo_f (n := n) (x := x) (k := k) q)
          go_wp2_with fail
          go_roundw
          case rel => exact ⟨bl_trans hbr HB7.out, k + 1, by omega, by go_num, by rw [HT.out]; exact HO7.out⟩
          case measure => simp [intOf]; omega
      · obtain rfl : k = n.es.length := by omega
        have HI := Lib.hid (own_intsR HOW.out (srTo_I64 h40))
        go_wp2_with fail
        go_ret2
        exact ⟨_, rfl, ⟨_, _, _, rfl⟩, by rw [HL.out]; exact HI.out, hB⟩
end
section
open Go.RowKit
set_option linter.all false
def portI {α : Type} (p : α → Bool) (l : List α) : Int := match l.findIdx? p with | some i => (i : Int) | none => -1
def PortTo {α : Type} (p : α → Bool) (l : List α) (k : Nat) : Prop := ∀ (j : Nat) (e : α), j < k → l[j]? = some e → p e = false
theorem PortTo.start {α : Type} (p : α → Bool) (l : List α) : PortTo p l 0 := fun _ _ h => absurd h (by omega)
theorem PortTo.next {α : Type} {p : α → Bool} {l : List α} {k : Nat} {e : α} (h : PortTo p l k) (he : l[k]? = some e) (hp : p e = false) : PortTo p l (k + 1) := fun j y hj hy => by
  by_cases ej : j = k
  · subst ej
    obtain rfl := Option.some.inj (he.symm.trans hy)
    exact hp
  · exact h j y (by omega) hy
theorem PortTo.here {α : Type} {p : α → Bool} {l : List α} {k : Nat} {e : α} (h : PortTo p l k) (he : l[k]? = some e) (hp : p e = true) : portI p l = k := by
  obtain ⟨hk, hek⟩ := List.getElem?_eq_some_iff.1 he
  have : l.findIdx? p = some k := List.findIdx?_eq_some_iff_getElem.2 ⟨hk, by rw [hek]; exact hp, fun j hj => by rw [h j _ hj (List.getElem?_eq_getElem (by omega))]; simp⟩
  unfold portI
  rw [this]
theorem PortTo.fin {α : Type} {p : α → Bool} {l : List α} {k : Nat} (h : PortTo p l k) (hk : l.length ≤ k) : portI p l = -1 := by
  have : l.findIdx? p = none := List.findIdx?_eq_none_iff.2 fun x hx => by
    obtain ⟨j, hj⟩ := List.mem_iff_getElem?.1 hx
    exact h j x (by have := (List.getElem?_eq_some_iff.1 hj).1; omega) hj
  unfold portI
  rw [this]
def numsL (n : Nat) : List Int := (List.range n).map fun (i : Nat) => (i : Int)
theorem numsL_len (n : Nat) : (numsL n).length = n := by simp [numsL]
theorem numsL_at {n k : Nat} (h : k < n) : (numsL n)[k]? = some (k : Int) := by simp [numsL, h]
def NumsRel (n : Nat) (w : World) (i : Value) (wr : World) : Prop := ∃ k : Nat, k ≤ n ∧ i = .int .i64 k ∧ wr = w.alloc (.cells (rowOf (((numsL n).take k).map intV) n (.int .i64 0)) 3)
theorem impl_numbersTo (n : Nat) (w : World) (hn : n ≤ 1048576) :
    Calls Tryz.prog 64 #[.int .i64 (n : Int)] w fun e w' => e = .returned (.slice (some ⟨w.heap.size, 0, none⟩) n n) ∧ w' = w.alloc (.cells ((numsL n).map intV).toArray 3) := by
  have hmk := fun W => run_make1 (P := Tryz.prog) 24 3 (.int .i64 0) 8 Tryz.underlying24 intInfo rfl n (by omega) (by omega) W
  go_enter Tryz.func64, Tryz.ntmps64
  go_wp2_with fail
  clear hmk
  go_loopw [9, 4] (fun i _ wr => NumsRel n w i wr) (fun i _ _ => n - (intOf i).toNat)
  case atStart => exact ⟨0, Nat.zero_le _, rfl, by simp⟩
  case round =>
    obtain ⟨k, hk, rfl, rfl⟩ := hrel
    by_cases hlt : k < n
    · have hlen : (((numsL n).take k).map intV).length = k := by rw [List.length_map, List.length_take, numsL_len]; omega
      have HN := Lib.hid (show ((numsL n).take (k + 1)).map intV = ((numsL n).take k).map intV ++ [.int .i64 (k : Int)] by
        obtain ⟨hk', e⟩ := List.getElem?_eq_some_iff.1 (numsL_at hlt)
        rw [List.take_succ_eq_append_getElem hk', List.map_append, e]; rfl)
      generalize ((numsL n).take k).map intV = done at *
      have hset := Lib.hid (rowOf_set (done := done) (n := n) (z := .int .i64 0) (by omega) (.int .i64 (k : Int)))
      have hnext := rowOf_next (done := done) (n := n) (z := .int .i64 0) (by omega)
      obtain rfl := hlen
      generalize rowOf done n (.int .i64 0) = C at *
      have hcell2 : (w.alloc (.cells C 3)).cell? ⟨w.heap.size, done.length, none⟩ = some (.int .i64 0) := by rw [World.cell?_alloc_at _ _ _ _ rfl]; exact hnext
      clear hnext
      go_wp2_with fail
      go_roundw
      case rel => exact ⟨done.length + 1, by omega, by go_num, by rw [HN.out, ← hset.out]⟩
      case measure => simp [intOf]; omega
    · have e1 : (numsL n).take k = numsL n := List.take_of_length_le (by rw [numsL_len]; omega)
      have e2 := rowOf_full ((numsL n).map intV) (.int .i64 0)
      rw [List.length_map, numsL_len] at e2
      rw [e1, e2]
      clear e1 e2
      go_wp2_with fail
      go_ret
      exact ⟨rfl, rfl⟩
def Tells (g : Nat) (lb : Array Value) (p : Int → Bool) (xs : List Int) (n₀ : Nat) (w : World) : Prop :=
  ∀ W x, x ∈ xs → Below n₀ w W → Calls Tryz.prog g (#[.int .i64 x] ++ lb) W fun e W' => e = .returned (.bool (p x)) ∧ Below W.heap.size W W'
theorem Tells.mono {g : Nat} {lb : Array Value} {p : Int → Bool} {xs : List Int} {n₀ : Nat} {w w' : World} (h : Tells g lb p xs n₀ w) (hb : Below n₀ w w') : Tells g lb p xs n₀ w' := fun W x hx hW => h W x hx (hb.trans hW)
def IxRel (p : Int → Bool) (xs : List Int) (w : World) (i : Value) (wr : World) : Prop := Below w.heap.size w wr ∧ ∃ k : Nat, k ≤ xs.length ∧ i = .int .i64 k ∧ PortTo p xs k
set_option maxRecDepth 100000 in
theorem index_ints (g : Nat) (lb : Array Value) (eg : ∀ args w, (callFunc g args).run Tryz.prog w = .ok (.enter g args) w) (p : Int → Bool) (v : Value) (xs : List Int) (w : World) (h : IntsR w w.heap.size v xs) (hl : xs.length ≤ 2000000)
    (n₀ : Nat) (hn : n₀ ≤ w.heap.size) (hp : Tells g lb p xs n₀ w) :
    Calls Tryz.prog 113 #[v, .func (.func g) #[] lb] w fun e w' => e = .returned (.int .i64 (portI p xs)) ∧ Below w.heap.size w w' := by
  obtain ⟨Ax, cx, rfl, h1, h2, h3⟩ := h.open_
  unfold maxLen at h2
  have HC := Lib.hid h3
  have HP := Lib.hid hp
  clear h h3 hp
  go_enter Tryz.func113, Tryz.ntmps113
  go_wp2_with fail
  go_loopw [5, 8] (fun _ i wr => IxRel p xs w i wr) (fun _ i _ => xs.length - (intOf i).toNat)
  case atStart => exact ⟨Below.refl _ _, 0, Nat.zero_le _, rfl, .start _ _⟩
  case round =>
    obtain ⟨hbl, k, hk, rfl, hto⟩ := hrel
    have HTO := Lib.hid hto; clear hto
    by_cases hlt : k < xs.length
    · obtain ⟨x, hx⟩ : ∃ x, xs[k]? = some x := ⟨_, List.getElem?_eq_getElem hlt⟩
      obtain ⟨ad, rfl, hb, hc⟩ := HC.out (by omega)
      have hcx := (hbl.cell (p := ad.add k) (by rw [block_add]; exact hb)).trans (hc k x hx)
      have J := Lib.hid (HP.out wr x (List.mem_of_getElem? hx) (hbl.mono hn))
      have HX := Lib.hid hx
      clear hc hx
      cases hq : p x with
      | true =>
        rw [hq] at J
        have HH := Lib.hid (HTO.out.here HX.out hq)
        go_wp2_with (go_at_fn g; refine J.out.mono ?_; rintro e w' ⟨rfl, hb'⟩)
        go_ret
        exact ⟨ret_int HH.out.symm, bl_trans hbl hb'⟩
      | false =>
        rw [hq] at J
        have HH := Lib.hid (HTO.out.next HX.out hq)
        go_wp2_with (go_at_fn g; refine J.out.mono ?_; rintro e w' ⟨rfl, hb'⟩)
        go_roundw
        case rel => exact ⟨bl_trans hbl hb', k + 1, by omega, by go_num, HH.out⟩
        case measure => simp [intOf]; omega
    · have HH := Lib.hid (HTO.out.fin (by omega))
      go_wp2_with fail
      go_ret
      exact ⟨ret_int HH.out.symm, hbl⟩
theorem heap_setCells {g : Nat} {t : TypeId} : ∀ (vs : List Value) (o : Nat) (w : World) (cs : List Value), w.heap[g]? = some (.cells cs.toArray t (0, 0)) → o + vs.length ≤ cs.length →
    (w.setCells g o vs).heap[g]? = some (.cells (cs.take o ++ vs ++ cs.drop (o + vs.length)).toArray t (0, 0))
  | [], o, w, cs, h, _ => by
    show w.heap[g]? = _
    rw [h, List.append_nil, List.length_nil, Nat.add_zero, List.take_append_drop]
  | v :: r, o, w, cs, h, hl => by
    have hl' : o + 1 + r.length ≤ cs.length := by simp only [List.length_cons] at hl; omega
    have h1 := heap_set_same (i := o) h v
    rw [List.setIfInBounds_toArray] at h1
    have h2 := heap_setCells r (o + 1) (w.setCell ⟨g, o, none⟩ v) (cs.set o v) h1 (by rw [List.length_set]; exact hl')
    show ((w.setCell ⟨g, o, none⟩ v).setCells g (o + 1) r).heap[g]? = _
    rw [h2]
    congr 3
    have e1 : (cs.set o v).take (o + 1) = cs.take o ++ [v] := by
      rw [List.take_set, List.take_succ_eq_append_getElem (by omega : o < cs.length)]
      rw [List.set_append_right _ _ (by rw [List.length_take]; omega)]
      rw [List.length_take, Nat.min_eq_left (by omega), Nat.sub_self]
      rfl
    have e2 : (cs.set o v).drop (o + 1 + r.length) = cs.drop (o + (v :: r).length) := by
      rw [List.drop_set_of_lt (by omega), List.length_cons]
      congr 1
      omega
    rw [e1, e2]
    simp
theorem below_cells {B g : Nat} (hg : B ≤ g) : ∀ (vs : List Value) (o : Nat) (w : World), Below B w (w.setCells g o vs)
  | [], _, w => Below.refl _ _
  | v :: r, o, w => ((Below.refl B w).setCell (p := ⟨g, o, none⟩) hg v).trans (below_cells hg r (o + 1) _)
def keepP (p : Int → Bool) (x : Int) : Bool := !p x
structure DlInv (p : Int → Bool) (xs zs : List Int) (i j : Nat) : Prop where
  len : zs.length = xs.length
  lt : i < j
  low : zs.take i = (xs.take j).filter (keepP p)
  high : zs.drop j = xs.drop j
theorem PortTo.filt {p : Int → Bool} {xs : List Int} {k : Nat} (h : PortTo p xs k) : (xs.take k).filter (keepP p) = xs.take k := by
  refine List.filter_eq_self.2 fun x hx => ?_
  obtain ⟨j, hj⟩ := List.mem_iff_getElem?.1 hx
  have hjl := (List.getElem?_eq_some_iff.1 hj).1
  rw [List.length_take] at hjl
  rw [List.getElem?_take_of_lt (by omega)] at hj
  unfold keepP
  rw [h j x (by omega) hj]
  rfl
theorem take_snoc {xs : List Int} {j : Nat} {x : Int} (h : xs[j]? = some x) : xs.take (j + 1) = xs.take j ++ [x] := by
  obtain ⟨hk, e⟩ := List.getElem?_eq_some_iff.1 h
  rw [List.take_succ_eq_append_getElem hk, e]
theorem DlInv.start {p : Int → Bool} {xs : List Int} {k : Nat} {x : Int} (h : PortTo p xs k) (hx : xs[k]? = some x) (hp : p x = true) : DlInv p xs xs k (k + 1) :=
  ⟨rfl, by omega, by rw [take_snoc hx, List.filter_append, h.filt]; unfold keepP; simp [hp], rfl⟩
theorem DlInv.at_ {p : Int → Bool} {xs zs : List Int} {i j : Nat} (h : DlInv p xs zs i j) (hj : j < xs.length) : zs[j]? = xs[j]? := by
  have := h.high
  have h1 : (zs.drop j)[0]? = (xs.drop j)[0]? := by rw [this]
  rw [List.getElem?_drop, List.getElem?_drop] at h1
  simpa using h1
theorem drop_next {zs xs : List Int} {j : Nat} (h : zs.drop j = xs.drop j) : zs.drop (j + 1) = xs.drop (j + 1) := by
  have : (zs.drop j).drop 1 = (xs.drop j).drop 1 := by rw [h]
  rwa [List.drop_drop, List.drop_drop] at this
theorem DlInv.skip {p : Int → Bool} {xs zs : List Int} {i j : Nat} {x : Int} (h : DlInv p xs zs i j) (hx : xs[j]? = some x) (hp : p x = true) : DlInv p xs zs i (j + 1) :=
  ⟨h.len, by have := h.lt; omega, by rw [take_snoc hx, List.filter_append, ← h.low]; unfold keepP; simp [hp], drop_next h.high⟩
theorem DlInv.keep {p : Int → Bool} {xs zs : List Int} {i j : Nat} {x : Int} (h : DlInv p xs zs i j) (hx : xs[j]? = some x) (hp : p x = false) : DlInv p xs (zs.set i x) (i + 1) (j + 1) := by
  have hjl := (List.getElem?_eq_some_iff.1 hx).1
  have hlt := h.lt
  have hil : i < zs.length := by rw [h.len]; omega
  refine ⟨by rw [List.length_set]; exact h.len, by omega, ?_, ?_⟩
  · rw [take_snoc hx, List.filter_append, ← h.low, take_snoc (x := x) (by rw [List.getElem?_set_self hil]), List.take_set_of_le (Nat.le_refl _)]
    unfold keepP
    simp [hp]
  · rw [List.drop_set_of_lt (by omega)]
    exact drop_next h.high
theorem DlInv.fin {p : Int → Bool} {xs zs : List Int} {i : Nat} (h : DlInv p xs zs i xs.length) : zs.take i = xs.filter (keepP p) := by
  have := h.low
  rwa [List.take_length] at this
def DlRel (p : Int → Bool) (xs : List Int) (B n₀ : Nat) (w : World) (iv jv : Value) (wr : World) : Prop :=
  ∃ (i j : Nat) (zs : List Int), iv = .int .i64 i ∧ jv = .int .i64 j ∧ j ≤ xs.length ∧ DlInv p xs zs i j ∧ wr.heap[B]? = some (.cells (zs.map intV).toArray 3 (0, 0)) ∧ Below n₀ w wr
def delRow (p : Int → Bool) (xs : List Int) : List Int := xs.filter (keepP p) ++ List.replicate (xs.length - (xs.filter (keepP p)).length) 0
def DlPost (p : Int → Bool) (xs : List Int) (B n₀ : Nat) (w : World) (e : Ending) (w' : World) : Prop :=
  e = .returned (.slice (some ⟨B, 0, none⟩) (xs.filter (keepP p)).length xs.length) ∧ w'.heap[B]? = some (.cells ((delRow p xs).map intV).toArray 3 (0, 0)) ∧ Below n₀ w w'
theorem row_slot {w : World} {B i : Nat} {zs : List Int} (h : w.heap[B]? = some (.cells (zs.map intV).toArray 3 (0, 0))) (hi : i < zs.length) : (∃ u, w.cell? ⟨B, i, none⟩ = some u) ∧ w.frozen? ⟨B, i, none⟩ = false := by
  refine ⟨?_, frozen_of_row _ _ i _ _ h⟩
  rw [cell_of_row _ _ i _ _ (0, 0) h]
  rw [List.getElem?_toArray, List.getElem?_map, List.getElem?_eq_getElem hi]
  exact ⟨_, rfl⟩
set_option maxRecDepth 100000 in
set_option maxHeartbeats 1000000 in
theorem delete_ints (g : Nat) (lb : Array Value) (eg : ∀ args w, (callFunc g args).run Tryz.prog w = .ok (.enter g args) w) (p : Int → Bool) (B : Nat) (xs : List Int) (w : World) (n₀ : Nat) (hn : n₀ ≤ B)
    (hrow : w.heap[B]? = some (.cells (xs.map intV).toArray 3 (0, 0))) (hx : ∀ x ∈ xs, I64 x) (hl : xs.length ≤ 2000000) (hp : Tells g lb p xs n₀ w) :
    Calls Tryz.prog 63 #[.slice (some ⟨B, 0, none⟩) xs.length xs.length, .func (.func g) #[] lb] w (DlPost p xs B n₀ w) := by
  have hBl : B < w.heap.size := (Array.getElem?_eq_some_iff.1 hrow).1
  have HI := Lib.hid (ints_row (B := w.heap.size) hrow (by unfold maxLen; omega) hx hBl)
  have HP := Lib.hid hp; clear hp
  have HROW := Lib.hid hrow; clear hrow
  go_enter Tryz.func63, Tryz.ntmps63
  go_wp2_with fail
  refine (index_ints g lb eg p _ xs w HI.out hl n₀ (by omega) HP.out).mono ?_
  rintro e w1 ⟨rfl, hb1⟩
  replace HROW := Lib.hid ((hb1.block B hBl).trans HROW.out)
  replace HP := Lib.hid (HP.out.mono (hb1.mono (by omega)))
  have hB1 : Below n₀ w w1 := hb1.mono (by omega)
  have hz1 := hb1.size
  clear hb1
  by_cases hall : PortTo p xs xs.length
  · have e1 : portI p xs = -1 := hall.fin (Nat.le_refl _)
    have hf := hall.filt
    rw [List.take_length] at hf
    rw [e1]
    have HF := Lib.hid hf; clear hf e1
    go_wp2_with fail
    go_ret
    refine ⟨by rw [HF.out]; rfl, ?_, hB1⟩
    unfold delRow
    rw [HF.out, Nat.sub_self, List.replicate_zero, List.append_nil]
    exact HROW.out
  · obtain ⟨k, x, hk, hxk, hpk, hto⟩ : ∃ (k : Nat) (x : Int), k < xs.length ∧ xs[k]? = some x ∧ p x = true ∧ PortTo p xs k := by
      cases hfi : xs.findIdx? p with
      | none =>
        refine absurd (fun j y hj hy => ?_) hall
        exact List.findIdx?_eq_none_iff.1 hfi y (List.mem_of_getElem? hy)
      | some k =>
        obtain ⟨h1, h2, h3⟩ := List.findIdx?_eq_some_iff_getElem.1 hfi
        exact ⟨k, xs[k], h1, List.getElem?_eq_getElem h1, h2, fun j y hj hy => by
          obtain ⟨hj', rfl⟩ := List.getElem?_eq_some_iff.1 hy
          simpa using h3 j hj⟩
    have e1 : portI p xs = k := hto.here hxk hpk
    rw [e1]
    have HST := Lib.hid (DlInv.start hto hxk hpk)
    have hk1 : ((k : Int) == -1) = false := by rw [beq_eq_false_iff_ne]; omega
    have hwk : IntKind.i64.wrap ((k : Int) + 1) = ((k + 1 : Nat) : Int) := by rw [show (k : Int) + 1 = ((k + 1 : Nat) : Int) by omega]; exact IntWalk.i64_in _ (by omega)
    clear e1 hall
    go_wp2_with fail
    go_loopw [5, 6, 7] (fun iv jv _ wr => DlRel p xs B n₀ w1 iv jv wr) (fun _ jv _ _ => xs.length - (intOf jv).toNat)
    case atStart => exact ⟨k, k + 1, xs, rfl, by simp, by omega, HST.out, HROW.out, Below.refl _ _⟩
    case round =>
      obtain ⟨i, j, zs, rfl, rfl, hj, hinv, hr, hbl⟩ := hrel
      have HV := Lib.hid hinv
      have hij := hinv.lt
      have hzl := hinv.len
      have HZ := Lib.hid hr
      have hBr : B < wr.heap.size := (Array.getElem?_eq_some_iff.1 hr).1
      clear hr
      by_cases hlt : j < xs.length
      · obtain ⟨y, hy⟩ : ∃ y, xs[j]? = some y := ⟨_, List.getElem?_eq_getElem hlt⟩
        have hcy : wr.cell? ⟨B, j, none⟩ = some (.int .i64 y) := by
          rw [cell_of_row _ _ j _ _ (0, 0) HZ.out]
          simp only [List.getElem?_toArray, List.getElem?_map, hinv.at_ hlt, hy]
          rfl
        have J := Lib.hid (HP.out wr y (List.mem_of_getElem? hy) hbl)
        have HY := Lib.hid hy
        clear hy hinv hzl
        cases hq : p y with
        | true =>
          rw [hq] at J
          have HH := Lib.hid (HV.out.skip HY.out hq)
          go_wp2_with (go_at_fn g; refine J.out.mono ?_; rintro e w' ⟨rfl, hb'⟩)
          go_roundw
          case rel => exact ⟨i, j + 1, zs, rfl, by go_num, by omega, HH.out, (hb'.block B hBr).trans HZ.out, hbl.trans (hb'.mono (by omega))⟩
          case measure => simp [intOf]; omega
        | false =>
          rw [hq] at J
          have HH := Lib.hid (HV.out.keep HY.out hq)
          have hil : i < zs.length := by have := HV.out.len; omega
          go_wp2_with (go_at_fn g; refine J.out.mono ?_; rintro e w' ⟨rfl, hb'⟩; obtain ⟨⟨u0, hu0⟩, hf0⟩ := row_slot ((hb'.block B hBr).trans HZ.out) hil)
          have HZ2 := Lib.hid ((hb'.block B hBr).trans HZ.out)
          go_roundw
          case rel =>
            refine ⟨i + 1, j + 1, zs.set i y, by go_num, by go_num, by omega, HH.out, ?_, (hbl.trans (hb'.mono (by omega))).setCell (p := ⟨B, i, none⟩) hn _⟩
            have := heap_set_same (i := i) HZ2.out (.int .i64 y)
            rw [List.setIfInBounds_toArray] at this
            rw [List.map_set]
            exact this
          case measure => simp [intOf]; omega
      · obtain rfl : j = xs.length := by omega
        have hcl : ∀ ty, (Builtin.clear_ #[24] ty #[.slice (some ⟨B, i, none⟩) (xs.length - i) (xs.length - i)]).run Tryz.prog wr = .ok (.tuple #[]) (wr.setCells B i (List.replicate (xs.length - i) (.int .i64 0))) := fun ty =>
          Lib.run_clear_slice wr _ _ ty _ Tryz.underlying24 Tryz.zeroValue3 rfl rfl B i _ _ (by omega) (fun t ht => by
            obtain ⟨⟨u, hu⟩, -⟩ := row_slot (i := i + t) HZ.out (by omega)
            rw [hu]; rfl) (fun t ht => frozen_of_row _ _ _ _ _ HZ.out)
        have hfin := hinv.fin
        have hfl : (xs.filter (keepP p)).length = i := by rw [← hfin, List.length_take]; omega
        have hh := heap_setCells (List.replicate (xs.length - i) (.int .i64 0)) i wr (zs.map intV) HZ.out (by rw [List.length_replicate, List.length_map]; omega)
        have HH := Lib.hid (show (wr.setCells B i (List.replicate (xs.length - i) (.int .i64 0))).heap[B]? = some (.cells ((delRow p xs).map intV).toArray 3 (0, 0)) by
          rw [hh]
          have e : (zs.map intV).take i ++ List.replicate (xs.length - i) (.int .i64 0) ++ (zs.map intV).drop (i + (List.replicate (xs.length - i) (Value.int .i64 0)).length) = (delRow p xs).map intV := by
            rw [List.drop_of_length_le (by rw [List.length_map, List.length_replicate]; omega), List.append_nil]
            unfold delRow
            rw [List.map_append, hfl, List.map_replicate, ← hfin, List.map_take]
            rfl
          rw [e])
        have HFL := Lib.hid hfl
        clear hh hfin hfl hinv hzl
        go_wp2_with fail
        go_ret
        exact ⟨by rw [HFL.out]; rfl, HH.out, hB1.trans (hbl.trans (below_cells hn _ _ _))⟩
end
section
open Go.RowKit
set_option linter.all false
noncomputable def nrP (n : Net) (x : Asy) (v : Int) : Bool := !mayB n x ⟨5, v, 0, 0⟩
theorem sr_del (n : Net) (x : Asy) (k : Nat) : (numsL k).filter (keepP (nrP n x)) = srTo n x k := by
  unfold numsL srTo
  rw [List.filter_map]
  congr 1
  apply List.filter_congr
  intro i _
  simp [keepP, nrP, rdy]
theorem closure_sr (m : Mach) (v : Int) (G1 G2 : Nat) (ne ni nn : Value) (n : Net) (xr xb xn xs xf : Value) (x : Asy) (w : World) (H1 : Hid (w.heap[G1]? = some (.cells #[ne, ni, nn] 46 (0, 0)))) (H2 : Hid (w.heap[G2]? = some (.cells #[xr, xb, xn, xs, xf] 50 (0, 0))))
    (hn : NetR w w.heap.size ne ni nn n) (hx : AsyR w w.heap.size xr xb xn xs xf x) (hz : n.es.length ≤ 2000000) (hq : netP n) (ha : asyP m n x) :
    Calls Tryz.prog 65 #[.int .i64 v, .pointer (some ⟨G1, 0, none⟩), .pointer (some ⟨G2, 0, none⟩)] w fun e w' => e = .returned (.bool (nrP n x v)) ∧ Below w.heap.size w w' := by
  obtain ⟨⟨A4, m4, c4, rfl⟩, ⟨A5, m5, c5, rfl⟩, A6, m6, c6, rfl⟩ := hn.slices
  obtain ⟨⟨A10, m10, c10, rfl⟩, ⟨A11, m11, c11, rfl⟩, ⟨A12, m12, c12, rfl⟩, ⟨A8, m8, c8, rfl⟩, A9, m9, c9, rfl⟩ := hx.slices
  obtain ⟨q0, q1, q2, qf⟩ := cells3 H1
  obtain ⟨⟨y0, y1, y2⟩, ⟨y3, y4⟩, yf⟩ := cells5 H2
  have HC := Lib.hid (impl_mayAsync m _ _ _ n _ _ _ _ _ x 5 v 0 0 w hn hx hz hq ha)
  clear hn hx
  go_enter Tryz.func65, Tryz.ntmps65
  go_wp2_with fail
  refine HC.out.mono ?_
  rintro e w' ⟨rfl, hb⟩
  go_wp2_with fail
  go_ret
  exact ⟨rfl, hb⟩
set_option maxRecDepth 100000 in
set_option maxHeartbeats 2000000 in
theorem impl_StepsReady (vs ve vc vo : Value) (m : Mach) (ne ni nn : Value) (n : Net) (xr xb xn xs xf : Value) (x : Asy) (w : World) (hm : MachR w w.heap.size vs ve vc vo m) (hn : NetR w w.heap.size ne ni nn n) (hx : AsyR w w.heap.size xr xb xn xs xf x)
    (hz : n.es.length ≤ 2000000) (hzi : n.ids.length ≤ 2000000) :
    Calls Tryz.prog 22 #[machV vs ve vc vo m, .agg #[ne, ni, nn], .agg #[xr, xb, xn, xs, xf]] w fun e w' => ∃ u, e = .returned (.tuple #[u, .bool (goodB m n x)]) ∧ (∃ A m c, u = .slice A m c) ∧ w'.ownsRow w.heap.size 3 1 u (srL m n x).length ((srL m n x).map intV) ∧ Below w.heap.size w w' := by
  unfold machV
  obtain ⟨⟨A0, m0, c0, rfl⟩, ⟨A1, m1, c1, rfl⟩, ⟨A2, m2, c2, rfl⟩, A3, m3, c3, rfl⟩ := hm.slices
  obtain ⟨⟨A4, m4, c4, rfl⟩, ⟨A5, m5, c5, rfl⟩, A6, m6, c6, rfl⟩ := hn.slices
  have hxr := hx.r.open_
  obtain ⟨A10, c10, rfl, hc10, hM10, -⟩ := hxr
  obtain ⟨-, ⟨A11, m11, c11, rfl⟩, ⟨A12, m12, c12, rfl⟩, ⟨A8, m8, c8, rfl⟩, A9, m9, c9, rfl⟩ := hx.slices
  unfold maxLen at hM10
  obtain ⟨w0, hw0, hb0, HM, hz0, HS0⟩ := box7 w (.int .i64 m.deg) (.int .i64 m.st) (.int .i64 m.msg) (.slice A0 m0 c0) (.slice A1 m1 c1) (.slice A2 m2 c2) (.slice A3 m3 c3) 42
  obtain ⟨w1, hw1, hb1, HD, hz1, HS1⟩ := box3 w0 (.slice A4 m4 c4) (.slice A5 m5 c5) (.slice A6 m6 c6) 46
  replace HM := bk HM hb1
  obtain ⟨w2, hw2, hb2, HY, hz2, HS2⟩ := box5 w1 (.slice A10 x.rounds.length c10) (.slice A11 m11 c11) (.slice A12 m12 c12) (.slice A8 m8 c8) (.slice A9 m9 c9) 50
  replace HM := bk HM hb2
  replace HD := bk HD hb2
  have hB : Below w.heap.size w w2 := bl_trans (bl_trans (hb0) hb1) hb2
  have HW := Lib.hid (show w2 = ((w.alloc (.cells #[.int .i64 m.deg, .int .i64 m.st, .int .i64 m.msg, .slice A0 m0 c0, .slice A1 m1 c1, .slice A2 m2 c2, .slice A3 m3 c3] 42)).alloc (.cells #[.slice A4 m4 c4, .slice A5 m5 c5, .slice A6 m6 c6] 46)).alloc (.cells #[.slice A10 x.rounds.length c10, .slice A11 m11 c11, .slice A12 m12 c12, .slice A8 m8 c8, .slice A9 m9 c9] 50) by rw [hw2, hw1, hw0])
  obtain ⟨P1, hP1⟩ : ∃ z, z = w0.heap.size := ⟨_, rfl⟩
  have HP1 := Lib.hid (show w.heap.size + 1 = P1 by rw [hP1, HS0.out])
  have hPl1 : w.heap.size < P1 := by rw [← HP1.out]; omega
  rw [← hP1] at HD hz1
  obtain ⟨P2, hP2⟩ : ∃ z, z = w1.heap.size := ⟨_, rfl⟩
  have HP2 := Lib.hid (show w.heap.size + 1 + 1 = P2 by rw [hP2, HS1.out, HS0.out])
  have hPl2 : w.heap.size < P2 := by rw [← HP2.out]; omega
  rw [← hP2] at HY hz2
  obtain ⟨⟨g0, g1, g2⟩, ⟨g3, g4, g5, g6⟩, gf⟩ := cells7 HM
  obtain ⟨q0, q1, q2, qf⟩ := cells3 HD
  obtain ⟨⟨y0, y1, y2⟩, ⟨y3, y4⟩, yf⟩ := cells5 HY
  have eg0 := g0
  have eg1 := g1
  have eg2 := g2
  have eg3 := g3
  have eg4 := g4
  have eg5 := g5
  have eg6 := g6
  have eq0 := q0
  have eq1 := q1
  have eq2 := q2
  have ey0 := y0
  have ey1 := y1
  have ey2 := y2
  have ey3 := y3
  have ey4 := y4
  rw [HW.out] at eg0 eg1 eg2 eg3 eg4 eg5 eg6 eq0 eq1 eq2 ey0 ey1 ey2 ey3 ey4
  rw [← HP1.out] at eq0 eq1 eq2
  rw [← HP2.out] at ey0 ey1 ey2 ey3 ey4
  have hzb0 : w.heap.size < w2.heap.size := by omega
  have hzb1 : P1 < w2.heap.size := by omega
  have hzb2 : P2 < w2.heap.size := by omega
  have HR := Lib.hid (hm.up hB)
  have HN := Lib.hid (hn.up hB)
  have HX := Lib.hid (hx.up hB)
  clear hw2 hw1 hw0 hP1 hP2
  have HG := Lib.hid (impl_IsAsyncState _ _ _ _ m _ _ _ n _ _ _ _ _ x w2 HR.out HN.out HX.out hz hzi)
  cases j1 : goodB m n x with
  | false =>
    have HL := Lib.hid (show srL m n x = [] by unfold srL; rw [j1]; rfl)
    go_enter Tryz.func22, Tryz.ntmps22
    go_wp2_with fail
    rw [HP2.out, HP1.out, ← HW.out]
    clear eg0 eg1 eg2 eg3 eg4 eg5 eg6 eq0 eq1 eq2 ey0 ey1 ey2 ey3 ey4
    refine HG.out.mono ?_
    rintro e w5 ⟨rfl, hb5⟩
    rw [j1]
    have hzhb5 := hb5.size
    clear g0 g1 g2 g3 g4 g5 g6 gf q0 q1 q2 qf y0 y1 y2 y3 y4 yf
    replace HM := bk HM hb5
    replace HD := bk HD hb5
    replace HY := bk HY hb5
    replace hB := bl_trans hB hb5
    obtain ⟨⟨g0, g1, g2⟩, ⟨g3, g4, g5, g6⟩, gf⟩ := cells7 HM
    obtain ⟨q0, q1, q2, qf⟩ := cells3 HD
    obtain ⟨⟨y0, y1, y2⟩, ⟨y3, y4⟩, yf⟩ := cells5 HY
    replace HR := Lib.hid (HR.out.up hb5)
    replace HN := Lib.hid (HN.out.up hb5)
    replace HX := Lib.hid (HX.out.up hb5)
    go_wp2_with fail
    go_ret2
    exact ⟨_, rfl, ⟨_, _, _, rfl⟩, by rw [HL.out]; exact World.ownsRow_nil _ _ _ _, hB⟩
  | true =>
    have hgp := propB_iff.1 j1
    have h40 := hgp.1.2.1.1.2
    have hrl : x.rounds.length = n.es.length := by have := hgp.2.1.1; omega
    have HRL := Lib.hid hrl
    have HP := Lib.hid hgp
    have HL := Lib.hid (show srL m n x = srTo n x x.rounds.length by unfold srL; rw [if_pos j1, hrl])
    have hr40 : x.rounds.length ≤ 40 := by omega
    clear hgp hrl
    go_enter Tryz.func22, Tryz.ntmps22
    go_wp2_with fail
    rw [HP2.out, HP1.out, ← HW.out]
    clear eg0 eg1 eg2 eg3 eg4 eg5 eg6 eq0 eq1 eq2 ey0 ey1 ey2 ey3 ey4
    refine HG.out.mono ?_
    rintro e w5 ⟨rfl, hb5⟩
    rw [j1]
    have hzhb5 := hb5.size
    clear g0 g1 g2 g3 g4 g5 g6 gf q0 q1 q2 qf y0 y1 y2 y3 y4 yf
    replace HM := bk HM hb5
    replace HD := bk HD hb5
    replace HY := bk HY hb5
    replace hB := bl_trans hB hb5
    obtain ⟨⟨g0, g1, g2⟩, ⟨g3, g4, g5, g6⟩, gf⟩ := cells7 HM
    obtain ⟨q0, q1, q2, qf⟩ := cells3 HD
    obtain ⟨⟨y0, y1, y2⟩, ⟨y3, y4⟩, yf⟩ := cells5 HY
    replace HR := Lib.hid (HR.out.up hb5)
    replace HN := Lib.hid (HN.out.up hb5)
    replace HX := Lib.hid (HX.out.up hb5)
    go_wp2_with fail
    have HTL := Lib.hid (show Tells 65 #[.pointer (some ⟨P1, 0, none⟩), .pointer (some ⟨P2, 0, none⟩)] (nrP n x) (numsL x.rounds.length) w5.heap.size w5 from fun W y hy hb =>
      closure_sr m y P1 P2 _ _ _ n _ _ _ _ _ x W (bk HD hb) (bk HY hb) (HN.out.up hb) (HX.out.up hb) hz HP.out.1.2.1 HP.out.2)
    refine (impl_numbersTo x.rounds.length w5 (by omega)).mono ?_
    rintro e w6 ⟨rfl, hw6⟩
    have hb6 : Below w5.heap.size w5 w6 := by rw [hw6]; exact bl_alloc (Below.refl _ _) _
    have hrow : w6.heap[w5.heap.size]? = some (.cells ((numsL x.rounds.length).map intV).toArray 3 (0, 0)) := by rw [hw6]; exact heap_alloc_new w5 _
    have hx64 : ∀ y ∈ numsL x.rounds.length, I64 y := fun y hy => by
      unfold numsL at hy
      obtain ⟨k, hk, rfl⟩ := List.mem_map.1 hy
      have hk := List.mem_range.1 hk
      unfold I64
      omega
    have J := delete_ints 65 #[.pointer (some ⟨P1, 0, none⟩), .pointer (some ⟨P2, 0, none⟩)] (enters_of Tryz.func65 (by kernel_rfl) rfl) (nrP n x) w5.heap.size (numsL x.rounds.length) w6 w5.heap.size (Nat.le_refl _) hrow hx64 (by rw [numsL_len]; omega) (HTL.out.mono hb6)
    rw [numsL_len] at J
    have HJ := Lib.hid J
    have HB6 := Lib.hid hb6
    clear J hrow hw6 hx64 hb6
    go_wp2_with fail
    refine HJ.out.mono ?_
    rintro e w7 ⟨rfl, hr7, hb7⟩
    have hsl := srTo_len n x x.rounds.length
    unfold delRow at hr7
    rw [sr_del, numsL_len] at hr7
    rw [sr_del, numsL_len]
    have hown : w7.ownsRow w.heap.size 3 1 (.slice (some ⟨w5.heap.size, 0, none⟩) (srTo n x x.rounds.length).length x.rounds.length) (srTo n x x.rounds.length).length ((srTo n x x.rounds.length).map intV) := by
      refine ⟨by simp, .inr ⟨w5.heap.size, x.rounds.length, _, rfl, hB.size, hr7, hsl, by unfold maxLen; omega, by simp; omega, ?_⟩⟩
      rw [Nat.mul_one, List.map_append]
      exact List.take_left' (by simp)
    have HOW := Lib.hid hown
    have HBF := Lib.hid (hB.trans ((HB6.out.trans hb7).mono hB.size))
    clear hown hr7
    go_wp2_with fail
    go_ret2
    exact ⟨_, rfl, ⟨_, _, _, rfl⟩, by rw [HL.out]; exact HOW.out, HBF.out⟩
end
end Go.Proofs.YtcpbbjocaimocaaGreat
