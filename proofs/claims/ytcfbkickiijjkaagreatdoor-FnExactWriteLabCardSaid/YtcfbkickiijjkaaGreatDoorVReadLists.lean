/-
  Lists of numbers that are read: the reference's srList and the program's splitNumbers, splitLists.
-/
import Derived.Test.YtcfbkickiijjkaaGreatDoorVSplit
import Derived.Test.YtcfbkickiijjkaaGreatDoorVRead
namespace Go.Proofs.YtcfbkickiijjkaaGreatDoor
open Go.RowKit
set_option linter.all false
theorem spl_part (b : UInt8) : ∀ (l cur p : List UInt8), p ∈ spl b l cur → p.length ≤ cur.length + l.length
  | [], cur, p, h => by
    obtain rfl : p = cur := by simpa [spl] using h
    simp
  | c :: l, cur, p, h => by
    rw [spl_cons] at h
    split at h
    · rcases List.mem_cons.1 h with rfl | h
      · simp
      · have := spl_part b l [] p h
        simp at this ⊢
        omega
    · have := spl_part b l (cur ++ [c]) p h
      simp at this ⊢
      omega
noncomputable def numsR (b : UInt8) (l : List UInt8) : List Int := (spl b l []).map rdI
def numsOk (b : UInt8) (l : List UInt8) : Prop := ∀ p ∈ spl b l [], canP p
theorem I64_rd (l : List UInt8) : I64 (rdI l) := by have := rdI_bd l; unfold I64; omega
def MaxAt (w : World) : Prop := ∃ m : Int, w.cell? ⟨0, 0, none⟩ = some (.int .i64 m)
theorem MaxAt.below {w w' : World} (h : MaxAt w) (hb : Below w.heap.size w w') : MaxAt w' := by
  obtain ⟨m, hm⟩ := h
  have hl := World.block_lt_of_cell? _ _ hm
  exact ⟨m, (hb.cell (p := ⟨0, 0, none⟩) hl).trans hm⟩
theorem SlR.open1 {w : World} {B : Nat} {v : Value} {vs : List Value} (h : SlR w B v vs) :
    ∃ A c, v = .slice A vs.length c ∧ vs.length ≤ c ∧ c ≤ maxLen ∧ (0 < vs.length → ∃ ad, A = some ad ∧ ad.block < B ∧ ∀ j u, vs[j]? = some u → w.cell? (ad.add j) = some u) := h
theorem kept_below {w w' : World} {base : Nat} {e : TypeId} {v : Value} {n : Nat} {vs : List Value} (h : w.ownsRow base e 1 v n vs) (hb : Below w.heap.size w w') : w'.ownsRow base e 1 v n vs :=
  h.kept (row := none) ⟨hb.os, hb.tape, hb.output, hb.size, fun j hj _ => hb.block j hj⟩ (by cases h : Value.ownBlock v <;> simp)
def LnRel (ps : List (List UInt8)) (w : World) (v i : Value) (wr : World) : Prop :=
  ∃ k : Nat, k ≤ ps.length ∧ i = .int .i64 k ∧ wr.ownsRow w.heap.size 3 1 v k (((ps.take k).map rdI).map intV) ∧ Below w.heap.size w wr
theorem take_rd (ps : List (List UInt8)) (k : Nat) (p : List UInt8) (h : ps[k]? = some p) : ((ps.take (k + 1)).map rdI).map intV = ((ps.take k).map rdI).map intV ++ [.int .i64 (rdI p)] := by
  obtain ⟨hk', rfl⟩ := List.getElem?_eq_some_iff.1 h
  rw [List.take_succ_eq_append_getElem hk', List.map_append, List.map_append]; rfl
theorem own_ints {w : World} {base : Nat} {v : Value} {xs : List Int} {n : Nat} (h : w.ownsRow base 3 1 v n (xs.map intV)) (hx : ∀ x ∈ xs, I64 x) : ∃ bs, OwnInts w 3 v xs bs ∧ bs.Nodup ∧ ∀ b ∈ bs, base ≤ b ∧ b < w.heap.size := by
  obtain ⟨bs, h1, h2, h3⟩ := OwnRow.of_owns h
  exact ⟨bs, ⟨h1, hx⟩, h3, fun b hb => ⟨h2 b hb, h1.lt b hb⟩⟩
set_option maxRecDepth 100000 in
theorem spec_srList (s : ByteArray) (b : UInt8) (w : World) (hs : s.size ≤ 1048576) :
  Calls Tryz.prog 173 #[.string s, .int .u8 (b.toNat : Int)] w fun e w' => ∃ v bs, e = .returned v ∧ OwnInts w' 3 v (numsR b s.data.toList) bs ∧ bs.Nodup ∧ (∀ x ∈ bs, w.heap.size ≤ x ∧ x < w'.heap.size) ∧ Below w.heap.size w w' := by
 have hsz := Lib.size_eq s
 go_enter Tryz.func173, Tryz.ntmps173
 go_wp2_with fail
 refine (l1Split_any s b w hs).mono ?_
 rintro e w1 ⟨v, rfl, hown, hb1⟩
 have HL := Lib.hid (show ∀ p ∈ spl b s.data.toList [], p.length ≤ 1048576 from fun p hp => by have := spl_part b _ _ p hp; simp only [List.length_nil] at this; omega)
 have HR := Lib.hid (show numsR b s.data.toList = (spl b s.data.toList []).map rdI from rfl)
 have hcnt : (spl b s.data.toList []).length ≤ 1048577 := by rw [spl_len]; have := List.count_le_length (a := b) (l := s.data.toList); omega
 generalize spl b s.data.toList [] = ps at *
 obtain ⟨A, c, rfl, g1, g2, g3⟩ := (own_reads hown).open1
 rw [List.length_map] at g1 g3 hown
 rw [List.length_map]
 clear hown hsz
 go_wp2_with fail
 go_loopw [5, 12] (fun v i wr => LnRel ps w1 v i wr) (fun _ i _ => ps.length - (intOf i).toNat)
 case atStart => exact ⟨0, Nat.zero_le _, rfl, World.ownsRow_nil _ _ _ _, Below.refl _ _⟩
 case round =>
  obtain ⟨k, hk, rfl, hown, hbl⟩ := hrel
  by_cases hlt : k < ps.length
  ·
   obtain ⟨p, hp⟩ : ∃ p, ps[k]? = some p := ⟨ps[k], List.getElem?_eq_getElem hlt⟩
   obtain ⟨ad, rfl, hb, hc⟩ := g3 (by omega)
   have hcell : wr.cell? (ad.add k) = some (.string ⟨p.toArray⟩) := (hbl.cell (p := ad.add k) (by rw [block_add]; exact hb)).trans (hc k _ (by rw [List.getElem?_map, hp]; rfl))
   have HN := Lib.hid (take_rd ps k p hp)
   have hpl := HL.out p (List.mem_of_getElem? hp)
   have J := Lib.hid (fun W => show Calls Tryz.prog 74 #[.string ⟨p.toArray⟩] W fun e w' => e = .returned (.int .i64 (rdI p)) ∧ W = w' from spec_l1Read ⟨p.toArray⟩ W (by rw [Lib.size_eq]; show p.length ≤ _; unfold maxLen; omega))
   clear hc g3 hp
   generalize rdI p = x at *
   go_wp2_with fail
   refine (J.out wr).mono ?_
   rintro e w2 ⟨rfl, hw2⟩
   subst hw2
   go_wp2_with ((at_builtin; refine wpList_append1 wr rfl (.tmp 16) (.tmp 19) 41 rfl w1.heap.size 3 _ 8 Tryz.underlying41 intInfo rfl _ _ _ rfl _ rfl rfl hown (by unfold maxLen; omega) (by omega) hbl.size ?_; intro v' w' hown' hbl' hgr' hlt' hob'))
   go_roundw
   case rel => exact ⟨k + 1, by omega, by go_num, by rw [HN.out]; exact hown', hbl.trans hbl'⟩
   case measure => simp [intOf]; omega
  ·
   have e1 : ps.take k = ps := List.take_of_length_le (by omega)
   rw [e1] at hown
   obtain ⟨bs, ho, hn, hr⟩ := own_ints hown (fun x hx => by obtain ⟨p, -, rfl⟩ := List.mem_map.1 hx; exact I64_rd p)
   have HO := Lib.hid ho; clear ho hown
   go_wp2_with fail
   go_ret
   have := hb1.size
   exact ⟨_, bs, rfl, by rw [HR.out]; exact HO.out, hn, fun x hx => by have := hr x hx; omega, bl_trans hb1 hbl⟩
theorem split_call (s : ByteArray) (b : UInt8) (w : World) (hs : s.size ≤ 1048576) (hm : MaxAt w) :
    Calls Tryz.prog 79 #[.string s, .string ⟨#[b]⟩] w fun e w' => ∃ v, e = .returned v ∧ SlR w' w'.heap.size v ((spl b s.data.toList []).map strV) ∧ Below w.heap.size w w' := by
  obtain ⟨m, hm⟩ := hm
  have h3 := splitB_one s b
  have h4 := countB_one s b
  have hl := spl_len b s.data.toList []
  have hc : s.data.toList.count b ≤ 1048576 := by have := List.count_le_length (a := b) (l := s.data.toList); rw [← Lib.size_eq] at this; omega
  refine (Tryz.strings_Split s ⟨#[b]⟩ m w (by omega) hm (Nat.le_refl 1)).mono ?_
  rintro e w' ⟨rfl, rfl⟩
  rw [h3, h4]
  refine ⟨_, rfl, ⟨some ⟨w.heap.size, 0, none⟩, s.data.toList.count b + 1, by rw [List.length_map, hl], by rw [List.length_map, hl]; exact Nat.le_refl _, by unfold maxLen; omega, fun _ => ⟨_, rfl, by simp, fun j u hu => ?_⟩⟩, bl_alloc (Below.refl _ _) _⟩
  have e1 : (⟨w.heap.size, 0, none⟩ : Addr).add j = ⟨w.heap.size, j, none⟩ := by unfold Addr.add; split <;> simp_all
  rw [e1, World.cell?_alloc_at _ _ _ _ rfl, ← Array.getElem?_toList]
  exact hu
noncomputable def okL (b : UInt8) (l : List UInt8) : Bool := propB (numsOk b l)
noncomputable def resL (b : UInt8) (l : List UInt8) : List Int := if okL b l = true then numsR b l else []
theorem own_none (w : World) (e : TypeId) : OwnInts w e (.slice none 0 0) [] [] := ⟨.inl ⟨rfl, rfl, none, 0, rfl, Nat.zero_le _⟩, fun _ h => by cases h⟩
def CanTo (ps : List (List UInt8)) (k : Nat) : Prop := ∀ j p, j < k → ps[j]? = some p → canP p
def LmRel (ps : List (List UInt8)) (w : World) (v i : Value) (wr : World) : Prop :=
  ∃ k : Nat, k ≤ ps.length ∧ i = .int .i64 k ∧ CanTo ps k ∧ wr.ownsRow w.heap.size 3 1 v k (((ps.take k).map rdI).map intV) ∧ Below w.heap.size w wr
set_option maxRecDepth 100000 in
theorem impl_splitNumbers (s : ByteArray) (b : UInt8) (w : World) (hs : s.size ≤ 1048576) (hm : MaxAt w) (hp : Pow10 w) (he : ErrAt w) :
  Calls Tryz.prog 211 #[.string s, .string ⟨#[b]⟩] w fun e w' => ∃ v bs, e = .returned (.tuple #[v, .bool (okL b s.data.toList)]) ∧ OwnInts w' 3 v (resL b s.data.toList) bs ∧ bs.Nodup ∧ (∀ x ∈ bs, w.heap.size ≤ x ∧ x < w'.heap.size) ∧ Below w.heap.size w w' := by
 have hsz := Lib.size_eq s
 have HP := Lib.hid hp; clear hp
 have HE := Lib.hid he; clear he
 go_enter Tryz.func211, Tryz.ntmps211
 go_wp2_with fail
 refine (split_call s b w hs hm).mono ?_
 rintro e w1 ⟨v, rfl, hsl, hb1⟩
 have HL := Lib.hid (show ∀ p ∈ spl b s.data.toList [], p.length ≤ 1048576 from fun p hp => by have := spl_part b _ _ p hp; simp only [List.length_nil] at this; omega)
 have HF := Lib.hid (show (∃ p ∈ spl b s.data.toList [], ¬ canP p) → okL b s.data.toList = false ∧ resL b s.data.toList = [] from fun ⟨p, h1, h2⟩ => by
  have e : okL b s.data.toList = false := propB_f fun h => h2 (h p h1)
  exact ⟨e, by unfold resL; rw [e]; rfl⟩)
 have HT := Lib.hid (show (∀ p ∈ spl b s.data.toList [], canP p) → okL b s.data.toList = true ∧ resL b s.data.toList = (spl b s.data.toList []).map rdI from fun h => by
  have e : okL b s.data.toList = true := propB_t h
  exact ⟨e, by unfold resL; rw [e]; rfl⟩)
 have hcnt : (spl b s.data.toList []).length ≤ 1048577 := by rw [spl_len]; have := List.count_le_length (a := b) (l := s.data.toList); omega
 generalize spl b s.data.toList [] = ps at *
 obtain ⟨A, c, rfl, g1, g2, g3⟩ := hsl.open1
 rw [List.length_map] at g1 g3
 rw [List.length_map]
 clear hsl hsz
 have hz1 := hb1.size
 go_wp2_with fail
 go_loopw [6, 15] (fun v i wr => LmRel ps w1 v i wr) (fun _ i _ => ps.length - (intOf i).toNat)
 case atStart => exact ⟨0, Nat.zero_le _, rfl, (fun j p hj => by omega), World.ownsRow_nil _ _ _ _, Below.refl _ _⟩
 case round =>
  obtain ⟨k, hk, rfl, hcan, hown, hbl⟩ := hrel
  have HC := Lib.hid hcan; clear hcan
  by_cases hlt : k < ps.length
  ·
   obtain ⟨p, hp⟩ : ∃ p, ps[k]? = some p := ⟨ps[k], List.getElem?_eq_getElem hlt⟩
   obtain ⟨ad, rfl, hb, hc⟩ := g3 (by omega)
   have hcell : wr.cell? (ad.add k) = some (.string ⟨p.toArray⟩) := (hbl.cell (p := ad.add k) (by rw [block_add]; exact hb)).trans (hc k _ (by rw [List.getElem?_map, hp]; rfl))
   have HN := Lib.hid (take_rd ps k p hp)
   have hpl := HL.out p (List.mem_of_getElem? hp)
   have J := Lib.hid (fun W (h : Below w.heap.size w W) => show Calls Tryz.prog 80 #[.string ⟨p.toArray⟩] W fun e w' => e = .returned (.tuple #[.int .i64 (rdV p), .bool (canB p)]) ∧ Below W.heap.size W w' from impl_readNumber ⟨p.toArray⟩ W (by rw [Lib.size_eq]; show p.length ≤ _; unfold maxLen; omega) (HP.out.below h) (HE.out.below h))
   have HPk := Lib.hid hp
   clear hc g3 hp
   go_wp2_with fail
   refine (J.out wr (bl_trans hb1 hbl)).mono ?_
   rintro e w2 ⟨rfl, hb2⟩
   have hbl2 := bl_trans hbl hb2
   by_cases hcp : canP p
   ·
    have q1 : canB p = true := propB_t hcp
    have q2 : rdV p = rdI p := by rw [rdI_t hcp]; unfold rdV; rw [q1]; rfl
    have HX := Lib.hid (show CanTo ps (k + 1) from fun j p' hj hp' => by
     rcases Nat.lt_or_ge j k with h | h
     ·
      exact HC.out j p' h hp'
     ·
      obtain rfl : j = k := by omega
      have e : p = p' := Option.some.inj (HPk.out.symm.trans hp')
      rw [← e]; exact hcp)
    rw [q1, q2]
    clear q1 q2 hcp
    have hown1 := kept_below hown hb2
    generalize rdI p = x at *
    go_wp2_with ((at_builtin; refine wpList_append1 w2 rfl (.tmp 26) (.tmp 28) 41 rfl w1.heap.size 3 _ 8 Tryz.underlying41 intInfo rfl _ _ _ rfl _ rfl rfl hown1 (by unfold maxLen; omega) (by omega) hbl2.size ?_; intro v' w' hown' hbl' hgr' hlt' hob'))
    go_roundw
    case rel => exact ⟨k + 1, by omega, by go_num, HX.out, by rw [HN.out]; exact hown', hbl2.trans hbl'⟩
    case measure => simp [intOf]; omega
   ·
    have q1 : canB p = false := propB_f hcp
    obtain ⟨e1, e2⟩ := HF.out ⟨p, List.mem_of_getElem? HPk.out, hcp⟩
    rw [q1]
    clear q1 hcp
    have E1 := Lib.hid e1; clear e1
    have E2 := Lib.hid e2; clear e2
    go_wp2_with fail
    go_ret2
    exact ⟨_, [], by rw [E1.out]; rfl, by rw [E2.out]; exact own_none _ _, List.nodup_nil, (fun _ h => by cases h), bl_trans hb1 hbl2⟩
  ·
   have e1 : ps.take k = ps := List.take_of_length_le (by omega)
   rw [e1] at hown
   obtain ⟨bs, ho, hn, hr⟩ := own_ints hown (fun x hx => by obtain ⟨p, -, rfl⟩ := List.mem_map.1 hx; exact I64_rd p)
   have HO := Lib.hid ho; clear ho hown
   obtain ⟨e2, e3⟩ := HT.out (fun p hp => by
    obtain ⟨j, hj⟩ := List.mem_iff_getElem?.1 hp
    exact HC.out j p (by have := (List.getElem?_eq_some_iff.1 hj).1; omega) hj)
   have E2 := Lib.hid e2; clear e2
   have E3 := Lib.hid e3; clear e3
   go_wp2_with fail
   go_ret2
   exact ⟨_, bs, by rw [E2.out]; rfl, by rw [E3.out]; exact HO.out, hn, fun x hx => by have := hr x hx; omega, bl_trans hb1 hbl⟩
end Go.Proofs.YtcfbkickiijjkaaGreatDoor
