/-
  The laws' own functions that write into a result's memory and read it again: markIntS, heldIntS, markIntSS, heldIntSS, markWalkProblem, heldWalkProblem; for rows that lie in blocks of their own.
-/
import Derived.Test.YtldbljflppjanaaRows
import Derived.Test.YtldbljflppjanaaKit
import Derived.Test.YtldbljflppjanaaMem
import Derived.Test.YtldbljflppjanaaArgs
import Derived.Test.YtldbljflppjanaaArgsWalk
import Derived.Test.YtldbljflppjanaaArgsCert
import Derived.WalkKit
import Derived.WalkSpells
import Derived.WalkLawsBesides
import Derived.Lib.Hide
namespace Go.Proofs.Ytldbljflppjanaa
open Go.RowKit
set_option linter.unusedVariables false
set_option linter.unusedSimpArgs false

/-- The numbers from k on, n of them. -/
def seqI (k : Int) (n : Nat) : List Int := (List.range n).map fun (i : Nat) => k + (i : Int)
theorem seqI_len (k : Int) (n : Nat) : (seqI k n).length = n := by simp [seqI]
theorem seqI_at (k : Int) (n j : Nat) (h : j < n) : (seqI k n)[j]? = some (k + (j : Int)) := by simp [seqI, h]
theorem seqI_I64 {k : Int} {n : Nat} (h0 : 0 ≤ k) (h1 : k + n ≤ 9000000000000000000) : ∀ x ∈ seqI k n, I64 x := by
  intro x hx
  obtain ⟨i, hi, rfl⟩ := List.mem_map.1 hx
  have := List.mem_range.1 hi
  unfold I64
  omega
def setsI (cur : Array Value) (k : Int) : Nat → Array Value
  | 0 => cur
  | j + 1 => (setsI cur k j).setIfInBounds j (.int .i64 (k + (j : Int)))
theorem setsI_size (cur : Array Value) (k : Int) : ∀ j, (setsI cur k j).size = cur.size
  | 0 => rfl
  | j + 1 => by rw [setsI, Array.size_setIfInBounds, setsI_size cur k j]
theorem setsI_at (cur : Array Value) (k : Int) (i : Nat) (hi : i < cur.size) : ∀ j, (setsI cur k j)[i]? = if i < j then some (.int .i64 (k + (i : Int))) else cur[i]?
  | 0 => by simp [setsI]
  | j + 1 => by
    rw [setsI]
    by_cases h : i = j
    · subst h
      rw [Array.getElem?_setIfInBounds_self_of_lt (by rw [setsI_size]; exact hi), if_pos (by omega)]
    · rw [Array.getElem?_setIfInBounds_ne (fun e => h e.symm), setsI_at cur k i hi j]
      by_cases h2 : i < j
      · rw [if_pos h2, if_pos (by omega)]
      · rw [if_neg h2, if_neg (by omega)]
theorem setsI_take (cur : Array Value) (k : Int) (n : Nat) (h : n ≤ cur.size) : (setsI cur k n).toList.take n = (seqI k n).map intV := by
  apply List.ext_getElem?
  intro i
  rw [List.getElem?_take]
  by_cases hi : i < n
  · rw [if_pos hi, Array.getElem?_toList, setsI_at cur k i (by omega), if_pos hi, List.getElem?_map, seqI_at k n i hi]
    rfl
  · rw [if_neg hi, List.getElem?_eq_none (by simp [seqI_len]; omega)]
theorem SameBut.refl (bs : List Nat) (w : World) : SameBut bs w w := ⟨rfl, rfl, rfl, rfl, fun _ _ => rfl⟩
theorem SameBut.trans {bs : List Nat} {a b c : World} (h : SameBut bs a b) (k : SameBut bs b c) : SameBut bs a c :=
  ⟨k.os.trans h.os, k.tape.trans h.tape, k.output.trans h.output, k.size.trans h.size, fun x hx => (k.block x hx).trans (h.block x hx)⟩
theorem SameBut.mono {bs bs' : List Nat} {a b : World} (h : SameBut bs a b) (hs : ∀ x ∈ bs, x ∈ bs') : SameBut bs' a b :=
  ⟨h.os, h.tape, h.output, h.size, fun x hx => h.block x fun hm => hx (hs x hm)⟩
def MkRel (g : Nat) (cur : Array Value) (e : TypeId) (k : Int) (n : Nat) (w : World) (kv i : Value) (wr : World) : Prop :=
  ∃ j : Nat, j ≤ n ∧ i = .int .i64 j ∧ kv = .int .i64 (k + (j : Int)) ∧ wr.heap[g]? = some (.cells (setsI cur k j) e (0, 0)) ∧ SameBut [g] w wr
theorem mark_IntS (v : Value) (xs : List Int) (bs : List Nat) (k : Int) (w : World) (h : OwnInts w 3 v xs bs) (h0 : 0 ≤ k) (h1 : k + xs.length ≤ 1000000000000) :
    Calls Try.prog 29 #[v, .int .i64 k] w fun e w' => e = .returned (.int .i64 (k + xs.length)) ∧ OwnInts w' 3 v (seqI k xs.length) bs ∧ SameBut bs w w' := by
  have hI := seqI_I64 (k := k) (n := xs.length) h0 (by omega)
  have HI := Lib.hid hI; clear hI
  rcases h.1 with ⟨hx, rfl, A, c, rfl, hc⟩ | ⟨g, c, cur, e1, h2, h3, h4, h5, h6, h7⟩
  · have hx' : xs = [] := by simpa using hx
    subst hx'
    clear hx
    have HO := Lib.hid (show OwnInts w 3 (.slice A 0 c) (seqI k 0) [] from ⟨.inl ⟨rfl, rfl, A, c, rfl, hc⟩, fun _ h => by cases h⟩)
    unfold maxLen at hc
    go_enter Try.func29, Try.ntmps29
    go_wp2
    go_loopw [1, 5] (fun kv i wr => w = wr ∧ kv = .int .i64 k ∧ i = .int .i64 0) (fun _ _ _ => 0)
    case atStart => exact ⟨rfl, rfl, rfl⟩
    case round =>
      obtain ⟨rfl, rfl, rfl⟩ := hrel
      go_wp2
      go_ret
      exact ⟨by simp, HO.out, SameBut.refl _ _⟩
  · rw [List.length_map] at e1 h2 h6
    subst e1 h7
    unfold maxLen at h3
    have HB := Lib.hid h4; clear h4
    have H5 := Lib.hid h5; clear h5
    clear h6 h
    go_enter Try.func29, Try.ntmps29
    go_wp2
    go_loopw [1, 5] (fun kv i wr => MkRel g cur 3 k xs.length w kv i wr) (fun _ i _ => xs.length - (intOf i).toNat)
    case atStart => exact ⟨0, Nat.zero_le _, rfl, by simp, HB.out, SameBut.refl _ _⟩
    case round =>
      obtain ⟨j, hj, rfl, rfl, hblk, hsame⟩ := hrel
      have HK := Lib.hid hblk
      by_cases hlt : j < xs.length
      · obtain ⟨old, hold⟩ : ∃ u, wr.cell? ⟨g, j, none⟩ = some u := by
          rw [cell_of_row wr _ j _ _ (0, 0) hblk, Array.getElem?_eq_getElem (by rw [setsI_size, H5.out]; omega)]
          exact ⟨_, rfl⟩
        have hfr : wr.frozen? ⟨g, j, none⟩ = false := by unfold World.frozen?; rw [hblk]; simp
        clear hblk
        go_wp2
        go_roundw
        case rel =>
          refine ⟨j + 1, by omega, by go_num, by go_num, heap_set_same HK.out _, hsame.trans ⟨rfl, rfl, rfl, size_setCell _ _ _, fun b hb => Below.heap_setCell _ _ _ _ (by simpa using hb)⟩⟩
        case measure => simp [intOf]; omega
      · obtain rfl : j = xs.length := by omega
        clear hblk
        go_wp2
        go_ret
        exact ⟨rfl, ⟨.inr ⟨g, c, _, by rw [List.length_map, seqI_len], by rw [List.length_map, seqI_len]; exact h2, by unfold maxLen; omega, HK.out, by rw [setsI_size]; exact H5.out, by rw [List.length_map, seqI_len]; exact setsI_take cur k _ (by rw [H5.out]; exact h2), rfl⟩, HI.out⟩, hsame⟩
def HdRel (k : Int) (n : Nat) (w : World) (kv i : Value) (wr : World) : Prop := w = wr ∧ ∃ j : Nat, j ≤ n ∧ i = .int .i64 j ∧ kv = .int .i64 (k + (j : Int))
theorem held_IntS (v : Value) (n : Nat) (k : Int) (w : World) (h : IntsR w w.heap.size v (seqI k n)) (h0 : 0 ≤ k) (h1 : k + n ≤ 1000000000000) :
    Calls Try.prog 30 #[v, .int .i64 k] w fun e w' => e = .returned (.int .i64 (k + n)) ∧ w = w' := by
  obtain ⟨A, c, rfl, g1, g2, g3⟩ := h.open_
  rw [seqI_len] at g1 g3
  rw [seqI_len]
  unfold maxLen at g2
  clear h
  go_enter Try.func30, Try.ntmps30
  go_wp2
  go_loopw [1, 5] (fun kv i wr => HdRel k n w kv i wr) (fun _ i _ => n - (intOf i).toNat)
  case atStart => exact ⟨rfl, 0, Nat.zero_le _, rfl, by simp⟩
  case round =>
    obtain ⟨rfl, j, hj, rfl, rfl⟩ := hrel
    by_cases hlt : j < n
    · obtain ⟨ad, rfl, hb, hc⟩ := g3 (by omega)
      have hcell := hc j _ (seqI_at k n j hlt)
      clear g3 hc
      go_wp2
      go_roundw
      case rel => exact ⟨rfl, j + 1, by omega, by go_num, by go_num⟩
      case measure => simp [intOf]; omega
    · obtain rfl : j = n := by omega
      go_wp2
      go_ret
      exact ⟨rfl, rfl⟩
/-! ### Lists of lists -/
theorem OwnAll.at_own {w : World} {e : TypeId} : ∀ {vs : List Value} {xss : List (List Int)} {bs : List Nat}, OwnAll w e vs xss bs → ∀ {j : Nat} {v : Value} {xs : List Int}, vs[j]? = some v → xss[j]? = some xs →
    ∃ ba bj bb, bs = ba ++ (bj ++ bb) ∧ OwnInts w e v xs bj ∧ ∀ w' xs', OwnInts w' e v xs' bj → (∀ b ∈ ba ++ bb, w'.heap[b]? = w.heap[b]?) → OwnAll w' e vs (xss.set j xs') bs
  | v0 :: vs, xs0 :: xss, _, ⟨b1, b2, h1, h2, rfl⟩, 0, v, xs, hv, hx => by
    obtain rfl : v0 = v := by simpa using hv
    obtain rfl : xs0 = xs := by simpa using hx
    exact ⟨[], b1, b2, by simp, h1, fun w' xs' h hk => ⟨b1, b2, h, h2.keep fun b hb => hk b (by simpa using hb), rfl⟩⟩
  | v0 :: vs, xs0 :: xss, _, ⟨b1, b2, h1, h2, rfl⟩, j + 1, v, xs, hv, hx => by
    obtain ⟨ba, bj, bb, e1, ho, hk⟩ := OwnAll.at_own h2 (j := j) (by simpa using hv) (by simpa using hx)
    refine ⟨b1 ++ ba, bj, bb, by rw [e1]; simp, ho, fun w' xs' h hkeep => ⟨b1, b2, h1.keep fun b hb => hkeep b (by simp [hb]), ?_, rfl⟩⟩
    exact hk w' xs' h fun b hb => hkeep b (by rcases List.mem_append.1 hb with h | h <;> simp [h])
  | [], [], _, _, _, _, _, hv, _ => by simp at hv
  | [], _ :: _, _, h, _, _, _, _, _ => h.elim
  | _ :: _, [], _, h, _, _, _, _, _ => h.elim
def seqSS (k : Int) : List (List Int) → List (List Int)
  | [] => []
  | xs :: r => seqI k xs.length :: seqSS (k + (xs.length : Int)) r
def mixS (k : Int) : List (List Int) → Nat → List (List Int)
  | xss, 0 => xss
  | [], _ + 1 => []
  | xs :: r, j + 1 => seqI k xs.length :: mixS (k + (xs.length : Int)) r j
theorem mixS_zero (k : Int) (xss : List (List Int)) : mixS k xss 0 = xss := by cases xss <;> rfl
theorem mixS_at : ∀ (xss : List (List Int)) (k : Int) (j : Nat) (xs : List Int), xss[j]? = some xs → (mixS k xss j)[j]? = some xs
  | _ :: _, _, 0, _, h => h
  | x :: r, k, j + 1, xs, h => by simpa [mixS] using mixS_at r _ j xs (by simpa using h)
  | [], _, _, _, h => by simp at h
theorem mixS_step : ∀ (xss : List (List Int)) (k : Int) (j : Nat) (xs : List Int), xss[j]? = some xs → (mixS k xss j).set j (seqI (k + (lens (xss.take j) : Int)) xs.length) = mixS k xss (j + 1)
  | x :: r, k, 0, xs, h => by
    obtain rfl : x = xs := by simpa using h
    simp [mixS, mixS_zero, lens]
  | x :: r, k, j + 1, xs, h => by
    have := mixS_step r (k + (x.length : Int)) j xs (by simpa using h)
    have e : k + ((lens ((x :: r).take (j + 1)) : Nat) : Int) = k + (x.length : Int) + ((lens (r.take j) : Nat) : Int) := by simp [lens]; omega
    rw [e]
    show (seqI k x.length :: mixS (k + (x.length : Int)) r j).set (j + 1) _ = seqI k x.length :: mixS (k + (x.length : Int)) r (j + 1)
    rw [List.set_cons_succ, this]
  | [], _, _, _, h => by simp at h
theorem mixS_all : ∀ (xss : List (List Int)) (k : Int) (j : Nat), xss.length ≤ j → mixS k xss j = seqSS k xss
  | [], k, 0, _ => rfl
  | [], k, j + 1, _ => rfl
  | x :: r, k, 0, h => by simp at h
  | x :: r, k, j + 1, h => by simp only [mixS, seqSS]; rw [mixS_all r _ j (by simpa using h)]
theorem seqSS_len : ∀ (xss : List (List Int)) (k : Int), (seqSS k xss).length = xss.length
  | [], _ => rfl
  | x :: r, k => by simp [seqSS, seqSS_len r]
theorem seqSS_at : ∀ (xss : List (List Int)) (k : Int) (j : Nat) (xs : List Int), xss[j]? = some xs → (seqSS k xss)[j]? = some (seqI (k + (lens (xss.take j) : Int)) xs.length)
  | x :: r, k, 0, xs, h => by
    obtain rfl : x = xs := by simpa using h
    simp [seqSS, lens]
  | x :: r, k, j + 1, xs, h => by
    have := seqSS_at r (k + (x.length : Int)) j xs (by simpa using h)
    have e : k + ((lens ((x :: r).take (j + 1)) : Nat) : Int) = k + (x.length : Int) + ((lens (r.take j) : Nat) : Int) := by simp [lens]; omega
    rw [e]
    simpa [seqSS] using this
  | [], _, _, _, h => by simp at h
theorem cell_same {w w' : World} (a : Addr) (h : w'.heap[a.block]? = w.heap[a.block]?) : w'.cell? a = w.cell? a := by unfold World.cell?; rw [h]
def MsRel (k : Int) (xss : List (List Int)) (vs : List Value) (b1 : List Nat) (w : World) (kv i : Value) (wr : World) : Prop :=
  ∃ j q : Nat, j ≤ xss.length ∧ q = lens (xss.take j) ∧ i = .int .i64 j ∧ kv = .int .i64 (k + (q : Int)) ∧ OwnAll wr 3 vs (mixS k xss j) b1 ∧ SameBut b1 w wr
theorem mark_IntSS (v : Value) (xss : List (List Int)) (bs : List Nat) (k : Int) (w : World) (h : OwnRows w 26 3 v xss bs) (hn : bs.Nodup) (h0 : 0 ≤ k) (h1 : k + lens xss ≤ 1000000000000) :
    Calls Try.prog 28 #[v, .int .i64 k] w fun e w' => e = .returned (.int .i64 (k + lens xss)) ∧ OwnRows w' 26 3 v (seqSS k xss) bs ∧ SameBut bs w w' := by
  obtain ⟨vs, b0, b1, hrow, hall, rfl⟩ := h
  have hlen := hall.len
  rw [List.nodup_append] at hn
  obtain ⟨n0, n1, n2⟩ := hn
  have hsl := hrow.reads hrow.lt
  have HOUT := Lib.hid (show ∀ wr, SameBut b1 w wr → OwnRow wr 26 v vs b0 ∧ (∀ a : Addr, a.block ∈ b0 → wr.cell? a = w.cell? a) from fun wr hs =>
    ⟨hrow.keep fun b hb => hs.block b fun hb1 => n2 b hb b hb1 rfl, fun a ha => cell_same a (hs.block _ fun hb1 => n2 _ ha _ hb1 rfl)⟩)
  have HBLK := Lib.hid (show ∀ ad, (∃ n c, v = .slice (some ad) n c) → 0 < vs.length → ad.block ∈ b0 from fun ad ⟨n, c, e⟩ hpos => by
    rcases hrow with ⟨hv, _⟩ | ⟨g, c', cur, e1, _, _, _, _, _, e7⟩
    · rw [hv] at hpos; simp at hpos
    · rw [e1] at e
      simp only [Value.slice.injEq, Option.some.injEq] at e
      rw [← e.1, e7]; simp)
  obtain ⟨A, c, rfl, g1, g2, g3⟩ := hsl
  unfold maxLen at g2
  have HA := Lib.hid hall; clear hall
  have HN1 := Lib.hid n1; clear n1 n0 n2 hrow
  have HVL := Lib.hid hlen
  rw [hlen] at g1 g3
  rw [hlen] at HBLK HOUT ⊢
  clear hlen
  go_enter Try.func28, Try.ntmps28
  go_wp2
  go_loopw [1, 5] (fun kv i wr => MsRel k xss vs b1 w kv i wr) (fun _ i _ => xss.length - (intOf i).toNat)
  case atStart => exact ⟨0, 0, Nat.zero_le _, rfl, rfl, by simp, by rw [mixS_zero]; exact HA.out, SameBut.refl _ _⟩
  case round =>
    obtain ⟨j, q, hj, hq, rfl, rfl, hown, hsame⟩ := hrel
    have HQ := Lib.hid hq; clear hq
    have HS := Lib.hid hsame; clear hsame
    by_cases hlt : j < xss.length
    · obtain ⟨xs, hxs⟩ : ∃ xs, xss[j]? = some xs := ⟨xss[j], List.getElem?_eq_getElem hlt⟩
      obtain ⟨u, hu⟩ : ∃ u, vs[j]? = some u := ⟨_, List.getElem?_eq_getElem (by rw [HVL.out]; exact hlt)⟩
      obtain ⟨ad, rfl, hb, hc⟩ := g3 (by omega)
      have hcell : wr.cell? (ad.add j) = some u := by
        rw [(HOUT.out wr HS.out).2 (ad.add j) (by rw [block_add]; exact HBLK.out ad ⟨_, _, rfl⟩ (by omega))]
        exact hc j u hu
      have hsp := lens_split xss (j + 1)
      have hsn := lens_snoc xss j xs hxs
      have hbd : k + (q : Int) + xs.length ≤ 1000000000000 := by rw [HQ.out]; omega
      obtain ⟨ba, bj, bb, e1, ho, hk⟩ := hown.at_own hu (mixS_at xss k j xs hxs)
      have hstep := mixS_step xss k j xs hxs
      rw [← HQ.out] at hstep
      have HST := Lib.hid hstep
      have HQ2 := Lib.hid (show lens (xss.take (j + 1)) = q + xs.length by rw [hsn, HQ.out])
      have HK := Lib.hid hk
      have HE := Lib.hid e1
      have J := Lib.hid (mark_IntS u xs bj (k + (q : Int)) wr ho (by omega) hbd)
      clear hc g3 hu hxs hsp hsn ho hk hown hstep e1
      go_wp2_with fail
      refine J.out.mono ?_
      rintro e w1 ⟨rfl, ho1, hs1⟩
      have hnd := HN1.out
      rw [HE.out, List.nodup_append] at hnd
      have hnd2 := hnd.2.1
      rw [List.nodup_append] at hnd2
      have hown1 := HK.out w1 _ ho1 (fun b hb => hs1.block b fun hbj => by
        rcases List.mem_append.1 hb with h | h
        · exact hnd.2.2 b h b (by simp [hbj]) rfl
        · exact hnd2.2.2 b hbj b h rfl)
      rw [HST.out] at hown1
      have HO1 := Lib.hid hown1; clear hown1 hnd hnd2 ho1
      have HS1 := Lib.hid (HS.out.trans (hs1.mono fun x hx => by rw [HE.out]; simp [hx]))
      clear hs1
      go_wp2_with fail
      go_roundw
      case rel => exact ⟨j + 1, q + xs.length, by omega, by rw [HQ2.out], by go_num, by go_num, HO1.out, HS1.out⟩
      case measure => simp [intOf]; omega
    · obtain rfl : j = xss.length := by omega
      have e2 := mixS_all xss k xss.length (Nat.le_refl _)
      rw [e2] at hown
      have hq2 := lens_all xss xss.length (Nat.le_refl _)
      have HF := Lib.hid (show (q : Int) = lens xss by rw [HQ.out, hq2])
      have HO := Lib.hid hown; clear hown hq2 e2
      go_wp2
      go_ret
      exact ⟨ret_int (by rw [HF.out]), ⟨vs, b0, b1, (HOUT.out _ HS.out).1, HO.out, rfl⟩, HS.out.mono fun x hx => by simp [hx]⟩
def HsRel (k : Int) (xss : List (List Int)) (w : World) (kv i : Value) (wr : World) : Prop :=
  w = wr ∧ ∃ j q : Nat, j ≤ xss.length ∧ q = lens (xss.take j) ∧ i = .int .i64 j ∧ kv = .int .i64 (k + (q : Int))
theorem held_IntSS (v : Value) (xss : List (List Int)) (k : Int) (w : World) (h : RowsR w w.heap.size v (seqSS k xss)) (h0 : 0 ≤ k) (h1 : k + lens xss ≤ 1000000000000) :
    Calls Try.prog 31 #[v, .int .i64 k] w fun e w' => e = .returned (.int .i64 (k + lens xss)) ∧ w = w' := by
  obtain ⟨A, c, rfl, g1, g2, g3⟩ := h.open_
  rw [seqSS_len] at g1 g3
  rw [seqSS_len]
  unfold maxLen at g2
  clear h
  go_enter Try.func31, Try.ntmps31
  go_wp2
  go_loopw [1, 5] (fun kv i wr => HsRel k xss w kv i wr) (fun _ i _ => xss.length - (intOf i).toNat)
  case atStart => exact ⟨rfl, 0, 0, Nat.zero_le _, rfl, rfl, by simp⟩
  case round =>
    obtain ⟨rfl, j, q, hj, hq, rfl, rfl⟩ := hrel
    have HQ := Lib.hid hq; clear hq
    by_cases hlt : j < xss.length
    · obtain ⟨xs, hxs⟩ : ∃ xs, xss[j]? = some xs := ⟨xss[j], List.getElem?_eq_getElem hlt⟩
      obtain ⟨ad, rfl, hb, hc⟩ := g3 (by omega)
      have hat := seqSS_at xss k j xs hxs
      rw [← HQ.out] at hat
      obtain ⟨u, hcell, hr⟩ := hc j _ hat
      have hsp := lens_split xss (j + 1)
      have hsn := lens_snoc xss j xs hxs
      have hbd : k + (q : Int) + xs.length ≤ 1000000000000 := by rw [HQ.out]; omega
      have HQ2 := Lib.hid (show lens (xss.take (j + 1)) = q + xs.length by rw [hsn, HQ.out])
      have J := Lib.hid (held_IntS u xs.length (k + (q : Int)) w hr (by omega) hbd)
      clear hc g3 hxs hsp hsn hat hr
      go_wp2_with fail
      refine J.out.mono ?_
      rintro e w1 ⟨rfl, hw⟩
      subst hw
      go_wp2_with fail
      go_roundw
      case rel => exact ⟨rfl, j + 1, q + xs.length, by omega, by rw [HQ2.out], by go_num, by go_num⟩
      case measure => simp [intOf]; omega
    · obtain rfl : j = xss.length := by omega
      have hq2 := lens_all xss xss.length (Nat.le_refl _)
      have HF := Lib.hid (show (q : Int) = lens xss by rw [HQ.out, hq2])
      clear hq2
      go_wp2
      go_ret
      exact ⟨ret_int (by rw [HF.out]), rfl⟩
/-- Outside the blocks bs nothing that was there has turned. -/
structure Kept (bs : List Nat) (w w' : World) : Prop where
  os : w'.os = w.os
  tape : w'.tape = w.tape
  output : w'.output = w.output
  size : w.heap.size ≤ w'.heap.size
  block : ∀ b, b < w.heap.size → b ∉ bs → w'.heap[b]? = w.heap[b]?
theorem Kept.below {bs : List Nat} {w w' : World} (h : Kept bs w w') {B : Nat} (hb : ∀ b ∈ bs, B ≤ b) (hB : B ≤ w.heap.size) : Below B w w' :=
  ⟨h.os, h.tape, h.output, h.size, fun k hk => h.block k (by omega) fun hm => by have := hb k hm; omega⟩
theorem Kept.refl (bs : List Nat) (w : World) : Kept bs w w := ⟨rfl, rfl, rfl, Nat.le_refl _, fun _ _ _ => rfl⟩
theorem Kept.step {bs : List Nat} {w a b : World} (h : Kept bs w a) (hb : Below w.heap.size a b) : Kept bs w b :=
  ⟨hb.os.trans h.os, hb.tape.trans h.tape, hb.output.trans h.output, Nat.le_trans h.size hb.size, fun k hk hn => (hb.block k hk).trans (h.block k hk hn)⟩
theorem Kept.set {bs : List Nat} {w a : World} (h : Kept bs w a) (p : Addr) (hp : p.block ∈ bs) (u : Value) : Kept bs w (a.setCell p u) :=
  ⟨h.os, h.tape, h.output, by rw [size_setCell]; exact h.size, fun k hk hn => (Below.heap_setCell _ _ _ _ (fun e => hn (by rw [e]; exact hp))).trans (h.block k hk hn)⟩
theorem Kept.trans {bs : List Nat} {a b c : World} (h : Kept bs a b) (k : Kept bs b c) : Kept bs a c :=
  ⟨k.os.trans h.os, k.tape.trans h.tape, k.output.trans h.output, Nat.le_trans h.size k.size, fun x hx hn => (k.block x (Nat.lt_of_lt_of_le hx h.size) hn).trans (h.block x hx hn)⟩
theorem Kept.lowb {b : Nat} {w a : World} (h : Kept [b] w a) (hb : b < w.heap.size) : Below b w a :=
  ⟨h.os, h.tape, h.output, h.size, fun k hk => h.block k (Nat.lt_trans hk hb) (by simp; omega)⟩
theorem mark_Walk (n : Int) (v : Value) (xss : List (List Int)) (bs : List Nat) (k : Int) (w : World) (h : OwnRows w 26 3 v xss bs) (hn : bs.Nodup) (hlt : ∀ b ∈ bs, b < w.heap.size) (h0 : 0 ≤ k) (h1 : k + lens xss ≤ 1000000000000) :
    Calls Try.prog 10 #[walkV n v, .int .i64 k] w fun e w' => e = .returned (.int .i64 (k + lens xss)) ∧ OwnRows w' 26 3 v (seqSS k xss) bs ∧ Kept bs w w' := by
  have hb0 := bl_alloc (Below.refl w.heap.size w) (.cells #[.int .i64 n, v] 31)
  have J := Lib.hid (fun W (hW : Below w.heap.size w W) => mark_IntSS v xss bs k W (h.keep fun b hb => hW.block b (hlt b hb)) hn h0 h1)
  clear h
  go_enter Try.func10, Try.ntmps10
  go_wp2_with fail
  generalize w.alloc (.cells #[.int .i64 n, v] 31) = w0 at *
  refine (J.out w0 hb0).mono ?_
  rintro e w1 ⟨rfl, ho, hs⟩
  have HO := Lib.hid ho; clear ho
  go_wp2_with fail
  go_ret
  exact ⟨rfl, HO.out, ⟨hs.os.trans hb0.os, hs.tape.trans hb0.tape, hs.output.trans hb0.output, by rw [hs.size]; exact hb0.size, fun b hb hnb => (hs.block b hnb).trans (hb0.block b hb)⟩⟩
end Go.Proofs.Ytldbljflppjanaa
