/-
  Lists of lists of numbers that are read: the state of such a list while it grows, and the program's splitLists.
-/
import Derived.Test.YtcfbkickiijjkaaGreatDoorVReadLists
namespace Go.Proofs.YtcfbkickiijjkaaGreatDoor
open Go.RowKit
set_option linter.all false
theorem OwnRow.of_owns' {w : World} {e : TypeId} {base n : Nat} {v : Value} {vs : List Value} (h : w.ownsRow base e 1 v n vs) : ∃ bs, OwnRow w e v vs bs ∧ (∀ b ∈ bs, v.ownBlock = some b ∧ base ≤ b) ∧ bs.Nodup := by
  have hl : vs.length = n := by have := h.1; omega
  rcases h.2 with ⟨rfl, hn⟩ | ⟨g, cap, cur, h1, h2, h3, h4, h5, h6, h7⟩
  · have : vs = [] := List.eq_nil_of_length_eq_zero (by omega)
    exact ⟨[], .inl ⟨this, rfl, none, 0, rfl, Nat.zero_le _⟩, (fun _ hb => by cases hb), List.nodup_nil⟩
  · refine ⟨[g], .inr ⟨g, cap, cur, by rw [hl]; exact h1, by omega, h5, h3, by omega, ?_, rfl⟩, fun b hb => ?_, by simp⟩
    · rw [hl]
      simpa using h7
    · obtain rfl : b = g := by simpa using hb
      exact ⟨by rw [h1]; rfl, h2⟩
def RowsSt (base : Nat) (w : World) (v : Value) (xss : List (List Int)) : Prop :=
  ∃ vs bs, w.ownsRow base 41 1 v xss.length vs ∧ OwnAll w 3 vs xss bs ∧ bs.Nodup ∧ (∀ b ∈ bs, base ≤ b ∧ b < w.heap.size ∧ v.ownBlock ≠ some b)
theorem RowsSt.nil (base : Nat) (w : World) : RowsSt base w (.slice none 0 0) [] := ⟨[], [], World.ownsRow_nil _ _ _ _, rfl, List.nodup_nil, fun _ h => by cases h⟩
theorem RowsSt.fin {base : Nat} {w : World} {v : Value} {xss : List (List Int)} (h : RowsSt base w v xss) : ∃ bs, OwnRows w 41 3 v xss bs ∧ bs.Nodup ∧ ∀ b ∈ bs, base ≤ b ∧ b < w.heap.size := by
  obtain ⟨vs, bs, h1, h2, h3, h4⟩ := h
  obtain ⟨b0, k1, k2, k3⟩ := OwnRow.of_owns' h1
  refine ⟨b0 ++ bs, ⟨vs, b0, bs, k1, h2, rfl⟩, ?_, fun b hb => ?_⟩
  · rw [List.nodup_append]
    exact ⟨k3, h3, fun a ha b hb e => (h4 b hb).2.2 (by rw [← e]; exact (k2 a ha).1)⟩
  · rcases List.mem_append.1 hb with h | h
    · exact ⟨(k2 b h).2, k1.lt b h⟩
    · have := h4 b h; exact ⟨this.1, this.2.1⟩
theorem RowsSt.isSlice {base : Nat} {w : World} {v : Value} {xss : List (List Int)} (h : RowsSt base w v xss) : ∃ A n c, v = .slice A n c := by
  obtain ⟨bs, h1, _⟩ := h.fin
  exact h1.isSlice
theorem RowsSt.step {base : Nat} {wr w1 : World} {v u : Value} {xss : List (List Int)} {xs : List Int} {b1 : List Nat} (h : RowsSt base wr v xss) (hbase : base ≤ wr.heap.size) (hb : Below wr.heap.size wr w1) (ho : OwnInts w1 3 u xs b1) (hn : b1.Nodup) (hr : ∀ b ∈ b1, wr.heap.size ≤ b ∧ b < w1.heap.size) :
  ∃ vs, w1.ownsRow base 41 1 v xss.length vs ∧ ∀ v' w2, w2.ownsRow base 41 1 v' (xss.length + 1) (vs ++ [u]) → w1.grownBy w2 v.ownBlock → (v'.ownBlock = v.ownBlock ∨ ∃ g, v'.ownBlock = some g ∧ w1.heap.size ≤ g ∧ g < w2.heap.size) → RowsSt base w2 v' (xss ++ [xs]) := by
 obtain ⟨vs, bs, h1, h2, h3, h4⟩ := h
 have hsz := hb.size
 have hlt := h1.lt
 refine ⟨vs, kept_below h1 hb, fun v' w2 k1 k2 k3 => ?_⟩
 have hsz2 := k2.size
 have hall := (h2.keep fun b hb' => hb.block b (h4 b hb').2.1).snoc ho
 have hin : ∀ b ∈ bs ++ b1, base ≤ b ∧ b < w1.heap.size ∧ v.ownBlock ≠ some b := by
  intro b hb'
  rcases List.mem_append.1 hb' with h | h
  ·
   have := h4 b h; exact ⟨this.1, by omega, this.2.2⟩
  ·
   have := hr b h
   refine ⟨by omega, by omega, fun e => ?_⟩
   have := hlt b e
   omega
 refine ⟨vs ++ [u], bs ++ b1, by simpa using k1, hall.keep fun b hb' => k2.block b (hin b hb').2.1 (fun e => (hin b hb').2.2 e.symm), ?_, fun b hb' => ?_⟩
 ·
  rw [List.nodup_append]
  exact ⟨h3, hn, fun a ha b hb' e => by have := h4 a ha; have := hr b hb'; omega⟩
 ·
  have h5 := hin b hb'
  refine ⟨h5.1, by omega, fun e => ?_⟩
  rcases k3 with k3 | ⟨g, k3, k4, _⟩
  ·
   exact h5.2.2 (k3 ▸ e)
  ·
   rw [k3] at e
   obtain rfl : g = b := by simpa using e
   omega
def OksTo (b : UInt8) (ws : List (List UInt8)) (k : Nat) : Prop := ∀ j p, j < k → ws[j]? = some p → numsOk b p
def LsRel (b : UInt8) (ws : List (List UInt8)) (w : World) (v i : Value) (wr : World) : Prop :=
  ∃ k : Nat, k ≤ ws.length ∧ i = .int .i64 k ∧ OksTo b ws k ∧ RowsSt w.heap.size wr v ((ws.take k).map (numsR b)) ∧ Below w.heap.size w wr
theorem take_nums (b : UInt8) (ws : List (List UInt8)) (k : Nat) (p : List UInt8) (h : ws[k]? = some p) : (ws.take (k + 1)).map (numsR b) = (ws.take k).map (numsR b) ++ [numsR b p] := by
  obtain ⟨hk', rfl⟩ := List.getElem?_eq_some_iff.1 h
  rw [List.take_succ_eq_append_getElem hk', List.map_append]; rfl
noncomputable def okLs (b : UInt8) (ws : List (List UInt8)) : Bool := propB (∀ p ∈ ws, numsOk b p)
noncomputable def resLs (b : UInt8) (ws : List (List UInt8)) : List (List Int) := if okLs b ws = true then ws.map (numsR b) else []
theorem rows_none (w : World) (e s : TypeId) : OwnRows w e s (.slice none 0 0) [] [] := ⟨[], [], [], .inl ⟨rfl, rfl, none, 0, rfl, Nat.zero_le _⟩, rfl, rfl⟩
set_option maxRecDepth 100000 in
theorem impl_splitLists (v : Value) (b : UInt8) (ws : List (List UInt8)) (w : World) (h : SlR w w.heap.size v (ws.map strV)) (hw : ws.length ≤ 1048577) (hl : ∀ p ∈ ws, p.length ≤ 1048576) (hm : MaxAt w) (hp : Pow10 w) (he : ErrAt w) :
  Calls Tryz.prog 183 #[v, .string ⟨#[b]⟩] w fun e w' => ∃ v bs, e = .returned (.tuple #[v, .bool (okLs b ws)]) ∧ OwnRows w' 41 3 v (resLs b ws) bs ∧ bs.Nodup ∧ (∀ x ∈ bs, w.heap.size ≤ x ∧ x < w'.heap.size) ∧ Below w.heap.size w w' := by
 have HP := Lib.hid hp; clear hp
 have HE := Lib.hid he; clear he
 have HM := Lib.hid hm; clear hm
 have HL := Lib.hid hl; clear hl
 have HF := Lib.hid (show (∃ p ∈ ws, ¬ numsOk b p) → okLs b ws = false ∧ resLs b ws = [] from fun ⟨p, h1, h2⟩ => by
  have e : okLs b ws = false := propB_f fun h => h2 (h p h1)
  exact ⟨e, by unfold resLs; rw [e]; rfl⟩)
 have HT := Lib.hid (show (∀ p ∈ ws, numsOk b p) → okLs b ws = true ∧ resLs b ws = ws.map (numsR b) from fun h => by
  have e : okLs b ws = true := propB_t h
  exact ⟨e, by unfold resLs; rw [e]; rfl⟩)
 obtain ⟨A, c, rfl, g1, g2, g3⟩ := h.open1
 rw [List.length_map] at g1 g3
 rw [List.length_map]
 clear h
 go_enter Tryz.func183, Tryz.ntmps183
 go_wp2_with fail
 go_loopw [6, 13] (fun v i wr => LsRel b ws w v i wr) (fun _ i _ => ws.length - (intOf i).toNat)
 case atStart => exact ⟨0, Nat.zero_le _, rfl, (fun j p hj => by omega), RowsSt.nil _ _, Below.refl _ _⟩
 case round =>
  obtain ⟨k, hk, rfl, hcan, hst, hbl⟩ := hrel
  have HC := Lib.hid hcan; clear hcan
  have HS := Lib.hid hst; clear hst
  by_cases hlt : k < ws.length
  ·
   obtain ⟨p, hp⟩ : ∃ p, ws[k]? = some p := ⟨ws[k], List.getElem?_eq_getElem hlt⟩
   obtain ⟨ad, rfl, hbb, hc⟩ := g3 (by omega)
   have hcell : wr.cell? (ad.add k) = some (.string ⟨p.toArray⟩) := (hbl.cell (p := ad.add k) (by rw [block_add]; exact hbb)).trans (hc k _ (by rw [List.getElem?_map, hp]; rfl))
   have HN := Lib.hid (take_nums b ws k p hp)
   have hpl := HL.out p (List.mem_of_getElem? hp)
   have J := Lib.hid (fun W (h : Below w.heap.size w W) => show Calls Tryz.prog 211 #[.string ⟨p.toArray⟩, .string ⟨#[b]⟩] W fun e w' => ∃ v bs, e = .returned (.tuple #[v, .bool (okL b p)]) ∧ OwnInts w' 3 v (resL b p) bs ∧ bs.Nodup ∧ (∀ x ∈ bs, W.heap.size ≤ x ∧ x < w'.heap.size) ∧ Below W.heap.size W w' from impl_splitNumbers ⟨p.toArray⟩ b W (by rw [Lib.size_eq]; show p.length ≤ _; omega) (HM.out.below h) (HP.out.below h) (HE.out.below h))
   have HPk := Lib.hid hp
   clear hc g3 hp
   go_wp2_with fail
   refine (J.out wr hbl).mono ?_
   rintro e w2 ⟨u, b1, rfl, ho, hn, hr, hb2⟩
   have hbl2 := bl_trans hbl hb2
   by_cases hcp : numsOk b p
   ·
    have q1 : okL b p = true := propB_t hcp
    have q2 : resL b p = numsR b p := by unfold resL; rw [q1]; rfl
    have HX := Lib.hid (show OksTo b ws (k + 1) from fun j p' hj hp' => by
     rcases Nat.lt_or_ge j k with h | h
     ·
      exact HC.out j p' h hp'
     ·
      obtain rfl : j = k := by omega
      have e : p = p' := Option.some.inj (HPk.out.symm.trans hp')
      rw [← e]; exact hcp)
    rw [q2] at ho
    rw [q1]
    clear q1 q2 hcp
    obtain ⟨A1, m1, c1, rfl⟩ := ho.1.isSlice
    obtain ⟨vs, hown1, hstep⟩ := HS.out.step hbl.size hb2 ho hn hr
    have HST := Lib.hid hstep; clear hstep ho hn hr
    have hlen : ((ws.take k).map (numsR b)).length = k := by simp; omega
    rw [hlen] at hown1 HST
    clear hlen
    go_wp2_with ((at_builtin; refine wpList_append1 w2 rfl (.tmp 25) (.tmp 27) 38 rfl w.heap.size 41 _ 24 Tryz.underlying38 sliceInfo rfl _ _ _ rfl _ rfl rfl hown1 (by unfold maxLen; omega) (by omega) hbl2.size ?_; intro v' w' hown' hbl' hgr' hlt' hob'))
    go_roundw
    case rel => exact ⟨k + 1, by omega, by go_num, HX.out, by rw [HN.out]; exact HST.out _ _ hown' hgr' hob', hbl2.trans hbl'⟩
    case measure => simp [intOf]; omega
   ·
    have q1 : okL b p = false := propB_f hcp
    obtain ⟨e1, e2⟩ := HF.out ⟨p, List.mem_of_getElem? HPk.out, hcp⟩
    rw [q1]
    clear q1 hcp ho hn hr
    have E1 := Lib.hid e1; clear e1
    have E2 := Lib.hid e2; clear e2
    go_wp2_with fail
    go_ret2
    exact ⟨_, [], by rw [E1.out]; rfl, by rw [E2.out]; exact rows_none _ _ _, List.nodup_nil, (fun _ h => by cases h), hbl2⟩
  ·
   have e1 : ws.take k = ws := List.take_of_length_le (by omega)
   have hst := HS.out
   rw [e1] at hst
   obtain ⟨bs, ho, hn, hr⟩ := hst.fin
   have HO := Lib.hid ho; clear ho hst
   obtain ⟨e2, e3⟩ := HT.out (fun p hp => by
    obtain ⟨j, hj⟩ := List.mem_iff_getElem?.1 hp
    exact HC.out j p (by have := (List.getElem?_eq_some_iff.1 hj).1; omega) hj)
   have E2 := Lib.hid e2; clear e2
   have E3 := Lib.hid e3; clear e3
   go_wp2_with fail
   go_ret2
   exact ⟨_, bs, by rw [E2.out]; rfl, by rw [E3.out]; exact HO.out, hn, hr, hbl⟩
end Go.Proofs.YtcfbkickiijjkaaGreatDoor
