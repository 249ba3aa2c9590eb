/-
  Ranks, the program's side: the closure that ranks a situation (by recursion).
-/
import Derived.Test.YthfgklckmedggaaGreatNetAllJ
import Derived.Test.YthfgklckmedggaaGreatNetRkS
namespace Go.Proofs.YthfgklckmedggaaGreat
open Go.RowKit
set_option linter.unusedVariables false
set_option linter.unusedSimpArgs false
/-- All but one row stays as it was. -/
structure RkSt (R : Nat) (w w' : World) : Prop where
  bl : Below R w w'
  kp : ∀ b, b ≠ R → b < w.heap.size → w'.heap[b]? = w.heap[b]?
theorem RkSt.refl (R : Nat) (w : World) : RkSt R w w := ⟨Below.refl _ _, fun _ _ _ => rfl⟩
theorem RkSt.trans {R : Nat} {w w1 w2 : World} (h : RkSt R w w1) (h' : RkSt R w1 w2) : RkSt R w w2 :=
  ⟨h.bl.trans h'.bl, fun b hne hlt => (h'.kp b hne (Nat.lt_of_lt_of_le hlt h.bl.size)).trans (h.kp b hne hlt)⟩
theorem RkSt.set {R : Nat} {w w1 : World} (h : RkSt R w w1) (i : Nat) (v : Value) : RkSt R w (w1.setCell ⟨R, i, none⟩ v) :=
  ⟨h.bl.setCell (p := ⟨R, i, none⟩) (Nat.le_refl _) v, fun b hne hlt => (Below.heap_setCell w1 _ _ _ (by simpa using hne)).trans (h.kp b hne hlt)⟩
theorem RkSt.of {R : Nat} {w w' : World} (hb : Below w.heap.size w w') (hR : R ≤ w.heap.size) : RkSt R w w' := ⟨hb.mono hR, fun b _ h => hb.block b h⟩
theorem RkSt.cell {R : Nat} {w w' : World} (h : RkSt R w w') {P : Nat} {v : Value} (hP : P ≠ R) (hc : w.cell? ⟨P, 0, none⟩ = some v) : w'.cell? ⟨P, 0, none⟩ = some v :=
  (World.cell?_of_block (a := ⟨P, 0, none⟩) (h.kp P hP (World.block_lt_of_cell? _ _ hc))).trans hc
/-- What the closure reads: the explorer and the three boxes. -/
structure RkCx (w : World) (B G T R P1 P2 P3 : Nat) (lv nv : Value) (N : List (List Int)) (dd : List Bool) : Prop where
  c7 : w.cell? ⟨G, 7, none⟩ = some lv
  c8 : w.cell? ⟨G, 8, none⟩ = some nv
  b : BoolsR w B lv dd
  n : RowsR w B nv N
  ok : MapOk N dd T
  hG : G < B
  hP : P1 < B
  hB : B ≤ R
  n2 : P2 ≠ R
  n3 : P3 ≠ R
  p1 : w.cell? ⟨P1, 0, none⟩ = some (.pointer (some ⟨G, 0, none⟩))
  p2 : w.cell? ⟨P2, 0, none⟩ = some (.slice (some ⟨R, 0, none⟩) T T)
  p3 : w.cell? ⟨P3, 0, none⟩ = some (.func (.func 72) #[] #[.pointer (some ⟨P1, 0, none⟩), .pointer (some ⟨P2, 0, none⟩), .pointer (some ⟨P3, 0, none⟩)])
theorem RkCx.up {w w' : World} {B G T R P1 P2 P3 : Nat} {lv nv : Value} {N : List (List Int)} {dd : List Bool} (h : RkCx w B G T R P1 P2 P3 lv nv N dd) (hk : RkSt R w w') : RkCx w' B G T R P1 P2 P3 lv nv N dd := by
  have hb : Below B w w' := hk.bl.mono h.hB
  exact ⟨(hb.cell (p := ⟨G, 7, none⟩) h.hG).trans h.c7, (hb.cell (p := ⟨G, 8, none⟩) h.hG).trans h.c8, h.b.below hb, h.n.below hb, h.ok, h.hG, h.hP, h.hB, h.n2, h.n3, (hb.cell (p := ⟨P1, 0, none⟩) h.hP).trans h.p1, hk.cell h.n2 h.p2, hk.cell h.n3 h.p3⟩
def RkPost (N : List (List Int)) (dd : List Bool) (T R : Nat) (o : List Int) (k : Nat) (w : World) (e : Ending) (w' : World) : Prop :=
  ∃ r : Int, e = .returned (.int .i64 r) ∧ RkSt R w w' ∧ ((r = -1 ∧ ¬ rkP N dd T) ∨ ∃ (m : Nat) (o' : List Int), r = m ∧ Rk N dd k m ∧ NumsAt w' R o' ∧ RsOk N dd T o' ∧ RsExt o o' ∧ o'[k]? = some r)
def RlRel (N : List (List Int)) (dd : List Bool) (T R : Nat) (o1 l : List Int) (w : World) (mv i : Value) (wr : World) : Prop :=
  ∃ (j : Nat) (o' : List Int) (m : Int), mv = .int .i64 m ∧ i = .int .i64 j ∧ j ≤ l.length ∧ NumsAt wr R o' ∧ RsOk N dd T o' ∧ RsExt o1 o' ∧ (∀ y ∈ l.take j, ∃ q, Rk N dd y.toNat q) ∧ m = most ((l.take j).map fun y => rkV N dd y.toNat) ∧ m + negs o' ≤ T ∧ RkSt R w wr
theorem mx_snoc (xs : List Int) (v : Int) : most (xs ++ [v]) = max (most xs) v := by
  unfold most
  rw [List.foldl_append]
  simp only [List.foldl_cons, List.foldl_nil]
  generalize List.foldl (fun a x => if a > x then a else x) 0 xs = a
  split <;> omega
theorem rk_no {N : List (List Int)} {dd : List Bool} {T k : Nat} (hk : k < T) (h : ∀ j, ¬ Rk N dd k j) : ¬ rkP N dd T := fun hp => by
  obtain ⟨j, hj⟩ := hp k hk
  exact h j hj
set_option maxRecDepth 100000 in
set_option maxHeartbeats 4000000 in
theorem rank_call (B G T R P1 P2 P3 : Nat) (lv nv : Value) (N : List (List Int)) (dd : List Bool) : ∀ (c : Nat) (o : List Int) (k : Nat) (w : World), unks o ≤ c → RkCx w B G T R P1 P2 P3 lv nv N dd → NumsAt w R o → RsOk N dd T o → Opn N dd o k → k < T →
    Calls Tryz.prog 72 #[.int .i64 (k : Int), .pointer (some ⟨P1, 0, none⟩), .pointer (some ⟨P2, 0, none⟩), .pointer (some ⟨P3, 0, none⟩)] w (RkPost N dd T R o k w) := by
  intro c
  induction c using Nat.strongRecOn with
  | _ c IH =>
  intro o k w hc hx hnum hok hop hk
  have HC := Lib.hid hx
  have HIH := Lib.hid IH; clear IH
  have HOK := Lib.hid hok
  have HOP := Lib.hid hop
  have HNU := Lib.hid hnum
  have HUN := Lib.hid hc; clear hc
  have hT3 := hx.ok.t
  have hNT : T ≤ N.length ∧ N.length ≤ T := by have := hx.ok.n; omega
  have hdT : T ≤ dd.length ∧ dd.length ≤ T := by have := hx.ok.d; omega
  have hoT : T ≤ o.length ∧ o.length ≤ T := by have := hok.len; omega
  obtain ⟨A8, c8, rfl, -, hcm, hrow⟩ := hx.n.open_
  obtain ⟨A9, c9, rfl, -, hcm9, hrow9⟩ := hx.b.open_
  unfold maxLen at hcm hcm9
  obtain ⟨ad, rfl, hab, hrow⟩ := hrow (by omega)
  obtain ⟨a9, rfl, hab9, hr9⟩ := hrow9 (by omega)
  obtain ⟨b, hb⟩ : ∃ b, dd[k]? = some b := ⟨_, List.getElem?_eq_getElem (by omega)⟩
  have hgb : dd.getD k false = b := getDa hb
  have hcb := hr9 k b hb
  obtain ⟨l, hl⟩ : ∃ l, N[k]? = some l := ⟨_, List.getElem?_eq_getElem (by omega)⟩
  obtain ⟨u, hcu, hru⟩ := hrow k l hl
  obtain ⟨A5, c5, rfl, -, hcm5, hr5⟩ := hru.open_
  unfold maxLen at hcm5
  obtain ⟨hl3, hly⟩ := hx.ok.r l (List.mem_of_getElem? hl)
  obtain ⟨v, hv, hv2, hvT⟩ := hok.at_ hk
  have kc := hnum.cell hv
  have kf := hnum.frozen k
  have p1 := hx.p1
  have p2 := hx.p2
  have p3 := hx.p3
  have a7 := hx.c7
  have a8 := hx.c8
  have HL := Lib.hid hl
  have HLY := Lib.hid hly
  have HV := Lib.hid hv
  have HR5 := Lib.hid hr5
  have HGB := Lib.hid hgb
  have hkd : k < dd.length := by omega
  have hkN : k < N.length := by omega
  have hko : k < o.length := by omega
  have hBR := hx.hB
  clear hrow hrow9 hb hl hly hv hr5 hr9 hru hok hop hnum hgb
  cases b with
  | true =>
    obtain ⟨hok2, hext⟩ := HOK.out.legal HOP.out hk HGB.out
    have HOK2 := Lib.hid (And.intro hok2 hext); clear hok2 hext
    obtain ⟨w3, hw3⟩ : ∃ z, z = w.setCell ⟨R, k, none⟩ (.int .i64 0) := ⟨_, rfl⟩
    have hst : RkSt R w w3 := by rw [hw3]; exact (RkSt.refl R w).set k _
    have hn3 : NumsAt w3 R (o.set k 0) := by rw [hw3]; exact HNU.out.set k 0
    have t2 := hst.cell hx.n2 p2
    have t4 := hn3.cell (List.getElem?_set_self (a := (0 : Int)) hko)
    rw [hw3] at t2 t4
    have HW3 := Lib.hid hw3
    have HN3 := Lib.hid hn3
    have HST := Lib.hid hst
    clear hw3 hn3 hst hx p3 a8 hcu
    go_enter Tryz.func72, Tryz.ntmps72
    go_wp2_with fail
    go_ret
    refine ⟨0, rfl, by rw [← HW3.out]; exact HST.out, .inr ⟨0, o.set k 0, rfl, .legal HGB.out, by rw [← HW3.out]; exact HN3.out, HOK2.out.1, HOK2.out.2, List.getElem?_set_self hko⟩⟩
  | false =>
    by_cases hv22 : v = -2
    · subst hv22
      have HF := Lib.hid (show ¬ rkP N dd T from rk_no hk fun j => Rk.cycle (HOP.out k HV.out))
      clear hx p3 a8 hcu
      go_enter Tryz.func72, Tryz.ntmps72
      go_wp2_with fail
      go_ret
      exact ⟨-1, rfl, RkSt.refl _ _, .inl ⟨rfl, HF.out⟩⟩
    · by_cases hl0 : l.length = 0
      · have HF := Lib.hid (show ¬ rkP N dd T from rk_no hk fun j => Rk.stuck HGB.out (by rw [HL.out, List.eq_nil_of_length_eq_zero hl0]))
        clear hx p3
        go_enter Tryz.func72, Tryz.ntmps72
        go_wp2_with fail
        go_ret
        exact ⟨-1, rfl, RkSt.refl _ _, .inl ⟨rfl, HF.out⟩⟩
      · by_cases hv1 : v = -1
        · subst hv1
          have hlb : (((l.length : Nat) : Int) == 0) = false := by rw [beq_eq_false_iff_ne]; omega
          obtain ⟨hok1, hun⟩ := HOK.out.under hk HV.out
          have HOK1 := Lib.hid (And.intro hok1 hun); clear hok1 hun
          obtain ⟨w3, hw3⟩ : ∃ z, z = w.setCell ⟨R, k, none⟩ (.int .i64 (-2)) := ⟨_, rfl⟩
          have hst : RkSt R w w3 := by rw [hw3]; exact (RkSt.refl R w).set k _
          have hn3 : NumsAt w3 R (o.set k (-2)) := by rw [hw3]; exact HNU.out.set k (-2)
          have hC3 := hx.up hst
          have t1 := hC3.p1
          have t8 := hC3.c8
          have hB3 : Below B w w3 := hst.bl.mono hBR
          have t5 := (hB3.cell (p := ad.add k) (by rw [block_add]; exact hab)).trans hcu
          rw [hw3] at t1 t8 t5
          have HW3 := Lib.hid hw3
          have HN3 := Lib.hid hn3
          have HST := Lib.hid hst
          have HC3 := Lib.hid hC3
          clear hw3 hn3 hst hx p3 hC3 hB3
          go_enter Tryz.func72, Tryz.ntmps72
          go_wp2_with fail
          rw [← HW3.out]
          clear t1 t8 t5 kc kf p1 p2 a7 a8 hcb hcu
          go_loopw [5, 6, 8, 9, 55] (fun _ mv _ _ i wr => RlRel N dd T R (o.set k (-2)) l w3 mv i wr) (fun _ _ _ _ i _ => l.length - (intOf i).toNat)
          case atStart => exact ⟨0, _, 0, rfl, rfl, Nat.zero_le _, HN3.out, HOK1.out.1, RsExt.refl _, fun y hy => by simp at hy, rfl, by have := negs_le (o.set k (-2)); rw [List.length_set] at this; omega, RkSt.refl _ _⟩
          case round =>
            obtain ⟨j, o', m, rfl, rfl, hj, hnum, hok', hext, hall, hmm, hmt, hst⟩ := hrel
            have HNJ := Lib.hid hnum
            have HOJ := Lib.hid hok'
            have HEX := Lib.hid hext
            have HAL := Lib.hid hall
            have HMM := Lib.hid hmm
            have HSJ := Lib.hid hst
            have hCj := HC3.out.up hst
            have HCJ := Lib.hid hCj
            have hm0 : 0 ≤ m := by rw [hmm]; exact rmost_nn _
            have hmT : m ≤ 3000 := by omega
            have hng := negs_le o'
            have hol : o'.length ≤ T ∧ T ≤ o'.length := by have := hok'.len; omega
            clear hnum hok' hext hall hmm
            by_cases hlt : j < l.length
            · obtain ⟨y, hy⟩ : ∃ y, l[j]? = some y := ⟨_, List.getElem?_eq_getElem hlt⟩
              obtain ⟨hy0, hy1⟩ := HLY.out y (List.mem_of_getElem? hy)
              obtain ⟨yn, rfl⟩ : ∃ yn : Nat, y = yn := ⟨y.toNat, by omega⟩
              obtain ⟨a5, rfl, hab5, hr5⟩ := HR5.out (by omega)
              have hBj : Below B w _ := (HST.out.trans hst).bl.mono hBR
              have hcy := (hBj.cell (p := a5.add j) (by rw [block_add]; exact hab5)).trans (hr5 j _ hy)
              have q3 := hCj.p3
              have HY := Lib.hid hy
              have J := Lib.hid (HIH.out (unks o') (by have h1 := HEX.out.unks (by rw [List.length_set]; omega); have h2 := HOK1.out.2; have h3 := HUN.out; omega) o' yn _ (Nat.le_refl _) hCj HNJ.out HOJ.out (by have := HOP.out.under hko HGB.out HL.out (List.mem_of_getElem? hy) HEX.out; rwa [Int.toNat_natCast] at this) (by omega))
              clear hr5 hy hCj hst hBj
              go_wp2_with fail
              refine J.out.mono ?_
              rintro e w5 ⟨r, rfl, hst5, hcase⟩
              rcases hcase with ⟨rfl, hno⟩ | ⟨q, o5, rfl, hrk5, hnum5, hok5, hext5, hat5⟩
              · have HNO := Lib.hid hno
                have HSF := Lib.hid ((HST.out.trans HSJ.out).trans hst5)
                clear hno hst5
                go_wp2_with fail
                go_ret
                exact ⟨-1, rfl, HSF.out, .inl ⟨rfl, HNO.out⟩⟩
              · have hcq : ((q : Int) == -1) = false := by rw [beq_eq_false_iff_ne]; omega
                have hq5 := hok5.top _ (List.mem_of_getElem? hat5)
                have hn5 := hext5.negs HOJ.out hok5
                have HREL := Lib.hid (show j + 1 ≤ l.length ∧ NumsAt w5 R o5 ∧ RsOk N dd T o5 ∧ RsExt (o.set k (-2)) o5 ∧ (∀ y ∈ l.take (j + 1), ∃ q, Rk N dd y.toNat q) ∧ max m (q : Int) = most ((l.take (j + 1)).map fun y => rkV N dd y.toNat) ∧ max m (q : Int) + negs o5 ≤ T ∧ RkSt R w3 w5 from
                  ⟨by omega, hnum5, hok5, HEX.out.trans hext5, take_more (P := fun y => ∃ q, Rk N dd y.toNat q) HAL.out HY.out ⟨q, by rw [Int.toNat_natCast]; exact hrk5⟩,
                    by rw [List.take_add_one, HY.out, List.map_append, Option.toList_some, show (([((yn : Nat) : Int)] : List Int).map fun y => rkV N dd y.toNat) = [(q : Int)] by simp [rkV_of hrk5], mx_snoc, ← HMM.out], by omega, HSJ.out.trans hst5⟩)
                have hqT : (q : Int) ≤ 3000 := by omega
                clear hq5 hn5 hnum5 hok5 hext5 hat5 hrk5 hst5
                go_wp2_with fail
                go_roundw
                case rel => exact ⟨j + 1, o5, max m (q : Int), rfl, by go_num, HREL.out⟩
                case measure => simp [intOf]; omega
            · obtain rfl : j = l.length := by omega
              have hall := HAL.out
              have hmm := HMM.out
              rw [List.take_length] at hall hmm
              have hrk := Rk.of_all HGB.out HL.out (fun h => hl0 (by rw [h]; rfl)) hall
              rw [← hmm] at hrk
              obtain ⟨hd1, hd2⟩ := RsOk.done (l := []) HOK.out HOJ.out hk HV.out HEX.out hm0 hrk hmt
              have hkj : k < o'.length := by omega
              obtain ⟨v5, hv5⟩ : ∃ v5, o'[k]? = some v5 := ⟨_, List.getElem?_eq_getElem hkj⟩
              have kc := HNJ.out.cell hv5
              have kf := HNJ.out.frozen k
              have q2 := hCj.p2
              have hst4 := hst.set k (.int .i64 (m + 1))
              have hn4 := HNJ.out.set k (m + 1)
              have r2 := (HCJ.out.up ((RkSt.refl R _).set k (.int .i64 (m + 1)))).p2
              have r4 := hn4.cell (List.getElem?_set_self (a := m + 1) hkj)
              have HRK := Lib.hid hrk
              have HD := Lib.hid (And.intro hd1 hd2)
              have HS4 := Lib.hid (HST.out.trans hst4)
              have HN4 := Lib.hid hn4
              have HO' := Lib.hid (show (o'.set k (m + 1))[k]? = some (m + 1) from List.getElem?_set_self hkj)
              clear hall hmm hrk hd1 hd2 hst4 hn4 hCj hst hv5
              go_wp2_with fail
              go_ret
              exact ⟨m + 1, rfl, HS4.out, .inr ⟨m.toNat + 1, _, by omega, HRK.out, HN4.out, HD.out.1, HD.out.2, HO'.out⟩⟩
        · have e1 : (v == -2) = false := by rw [beq_eq_false_iff_ne]; exact hv22
          have e2 : (v == -1) = false := by rw [beq_eq_false_iff_ne]; exact hv1
          have e3 : (((l.length : Nat) : Int) == 0) = false := by rw [beq_eq_false_iff_ne]; omega
          clear hx p3
          go_enter Tryz.func72, Tryz.ntmps72
          go_wp2_with fail
          go_ret
          exact ⟨v, rfl, RkSt.refl _ _, .inr ⟨v.toNat, o, by omega, HOK.out.ok k v HV.out (by omega), HNU.out, HOK.out, RsExt.refl _, HV.out⟩⟩
end Go.Proofs.YthfgklckmedggaaGreat
