/-
  Numbers and rows of one's own: slices.Contains, slices.Sort, slices.Repeat, lists that are looked through and put in order; taken out of the networks' texts. No condition.
-/
import Derived.Test.YtjhljipehnmbnaaGreatKit
import Derived.Test.YtjhljipehnmbnaaGreatOwn
import Derived.Test.YtjhljipehnmbnaaGreatMem
import Derived.Test.YtjhljipehnmbnaaGreatBasic
import Derived.Test.YtjhljipehnmbnaaGreatArgs
import Derived.Test.YtjhljipehnmbnaaGreatLists
import Derived.Test.YtjhljipehnmbnaaGreatReg
import Derived.Test.YtjhljipehnmbnaaGreatShelf
import Derived.Lib.SlicesCompact
import Derived.WalkKit
import Derived.WalkSpells
import Derived.WalkLawsBesides
import Derived.Lib.Hide
import Derived.Lib.AppendZeros
import Derived.Maps.AppendAt
import Derived.Laws.Rows
import Derived.IntWalk
import Derived.Laws.AppendOwn
import Derived.Lib.OwnBridge
import Derived.Laws.OwnMore
import Derived.Laws.IdiomCopy
import Derived.Laws.CopyRow
import Derived.Laws.NewBlocks
import Derived.Lib.SliceRun
import Derived.Lib.Overlaps
import Derived.Laws.CopyOwn
import Derived.Deep.RegionLaw
import Derived.ArgAppend
namespace Go.Proofs.YtjhljipehnmbnaaGreat
open Go.RowKit
set_option linter.unusedVariables false
set_option linter.unusedSimpArgs false
/-- The reference's insertion into a rising list. -/
def putS : List Int → Int → List Int
  | [], x => [x]
  | y :: r, x => if y < x then y :: putS r x else if y = x then y :: r else x :: y :: r
def Rising (l : List Int) : Prop := l.Pairwise (· < ·)
theorem putS_mem : ∀ (l : List Int) (x z : Int), z ∈ putS l x ↔ z = x ∨ z ∈ l
  | [], x, z => by simp [putS]
  | y :: r, x, z => by
    unfold putS
    split
    · rw [List.mem_cons, putS_mem r x z, List.mem_cons]
      constructor <;> (intro h; rcases h with h | h | h <;> simp [h])
    · split
      · rename_i h; subst h; simp
      · simp
theorem putS_rising : ∀ (l : List Int) (x : Int), Rising l → Rising (putS l x)
  | [], x, _ => by unfold putS Rising; exact List.pairwise_singleton _ _
  | y :: r, x, h => by
    obtain ⟨h1, h2⟩ := List.pairwise_cons.1 h
    unfold putS
    split
    · rename_i hy
      refine List.pairwise_cons.2 ⟨fun z hz => ?_, putS_rising r x h2⟩
      rcases (putS_mem r x z).1 hz with rfl | hz
      · exact hy
      · exact h1 z hz
    · split
      · exact h
      · rename_i h3 h4
        refine List.pairwise_cons.2 ⟨fun z hz => ?_, h⟩
        rcases List.mem_cons.1 hz with rfl | hz
        · omega
        · have := h1 z hz; omega
theorem puts_mem : ∀ (L l : List Int) (z : Int), z ∈ L.foldl putS l ↔ z ∈ L ∨ z ∈ l
  | [], l, z => by simp
  | x :: r, l, z => by
    rw [List.foldl_cons, puts_mem r, putS_mem, List.mem_cons]
    constructor
    · rintro (h | h | h)
      · exact .inl (.inr h)
      · exact .inl (.inl h)
      · exact .inr h
    · rintro ((h | h) | h)
      · exact .inr (.inl h)
      · exact .inl h
      · exact .inr (.inr h)
theorem puts_rising : ∀ (L l : List Int), Rising l → Rising (L.foldl putS l)
  | [], l, h => h
  | x :: r, l, h => puts_rising r _ (putS_rising l x h)
theorem rising_eq : ∀ (l k : List Int), Rising l → Rising k → (∀ z, z ∈ l ↔ z ∈ k) → l = k
  | [], [], _, _, _ => rfl
  | [], y :: r, _, _, h => by have := (h y).2 (by simp); cases this
  | y :: r, [], _, _, h => by have := (h y).1 (by simp); cases this
  | x :: l, y :: k, hl, hk, h => by
    obtain ⟨l1, l2⟩ := List.pairwise_cons.1 hl
    obtain ⟨k1, k2⟩ := List.pairwise_cons.1 hk
    have hxy : x = y := by
      rcases List.mem_cons.1 ((h x).1 (by simp)) with e | e
      · exact e
      · rcases List.mem_cons.1 ((h y).2 (by simp)) with e' | e'
        · exact e'.symm
        · have := k1 x e; have := l1 y e'; omega
    subst hxy
    congr 1
    refine rising_eq l k l2 k2 fun z => ⟨fun hz => ?_, fun hz => ?_⟩
    · rcases List.mem_cons.1 ((h z).1 (List.mem_cons_of_mem _ hz)) with e | e
      · have := l1 z hz; omega
      · exact e
    · rcases List.mem_cons.1 ((h z).2 (List.mem_cons_of_mem _ hz)) with e | e
      · have := k1 z hz; omega
      · exact e
/-- append(v, nil...): v comes back. -/
theorem run_append_nil0 {P : Program} (w : World) (t ty e : TypeId) (i : TypeInfo) (ht : P.underlying t = some (.slice e)) (hi : P.info? e = some i) (g n c m : Nat) (hc : n ≤ c) :
    (Builtin.append_ #[t, t] ty #[.slice (some ⟨g, 0, none⟩) n c, .slice none 0 m]).run P w = .ok (.slice (some ⟨g, 0, none⟩) n c) w := by
  simp [Builtin.append_, run_underlying ht, sizeOf, typeInfo, hi, Builtin.lenOf, Builtin.firstCells, loadCells, loadCellsFrom, storeCells, hc]
noncomputable def hasB (xs : List Int) (x : Int) : Bool := propB (x ∈ xs)
theorem hasB_t {xs : List Int} {x : Int} (h : x ∈ xs) : hasB xs x = true := propB_t h
theorem hasB_f {xs : List Int} {x : Int} (h : x ∉ xs) : hasB xs x = false := propB_f h
def NotTo (xs : List Int) (x : Int) (k : Nat) : Prop := ∀ j y, j < k → xs[j]? = some y → y ≠ x
theorem NotTo.all {xs : List Int} {x : Int} {k : Nat} (h : NotTo xs x k) (hk : xs.length ≤ k) : x ∉ xs := fun hm => by
  obtain ⟨j, hj⟩ := List.mem_iff_getElem?.1 hm
  exact h j x (by have := (List.getElem?_eq_some_iff.1 hj).1; omega) hj rfl
theorem NotTo.next {xs : List Int} {x y : Int} {k : Nat} (h : NotTo xs x k) (hy : xs[k]? = some y) (hne : y ≠ x) : NotTo xs x (k + 1) := fun j z hj hz => by
  by_cases e : j = k
  · subst e; rw [hy] at hz; cases hz; exact hne
  · exact h j z (by omega) hz
def HasRel (xs : List Int) (x : Int) (w : World) (i : Value) (wr : World) : Prop := w = wr ∧ ∃ k : Nat, k ≤ xs.length ∧ i = .int .i64 k ∧ NotTo xs x k
theorem spec_l1Has (v : Value) (xs : List Int) (x : Int) (w : World) (h : IntsR w w.heap.size v xs) :
    Calls Tryz.prog 85 #[v, .int .i64 x] w fun e w' => e = .returned (.bool (hasB xs x)) ∧ w = w' := by
  obtain ⟨A, c, rfl, h1, h2, h3⟩ := h.open_
  unfold maxLen at h2
  clear h
  go_enter Tryz.func85, Tryz.ntmps85
  go_wp2_with fail
  go_loopw [9, 6] (fun i _ wr => HasRel xs x w i wr) (fun i _ _ => xs.length - (intOf i).toNat)
  case atStart => exact ⟨rfl, 0, Nat.zero_le _, rfl, fun _ _ h => absurd h (by omega)⟩
  case round =>
    obtain ⟨rfl, k, hk, rfl, hup⟩ := hrel
    have HU := Lib.hid hup; clear hup
    by_cases hlt : k < xs.length
    · obtain ⟨y, hy⟩ : ∃ y, xs[k]? = some y := ⟨xs[k], List.getElem?_eq_getElem hlt⟩
      obtain ⟨ad, rfl, hb, hc⟩ := h3 (by omega)
      have hcell := hc k y hy
      have HX := Lib.hid hy
      clear h3 hc hy
      by_cases e : y = x
      · have HE := Lib.hid e
        have kq : (y == x) = true := by simpa using e
        clear e
        go_wp2_with fail
        go_ret
        exact ⟨ret_bool (hasB_t (by rw [← HE.out]; exact List.mem_of_getElem? HX.out)).symm, rfl⟩
      · have HE := Lib.hid e
        have kq : (y == x) = false := by simpa using e
        clear e
        go_wp2_with fail
        go_roundw
        case rel => exact ⟨rfl, k + 1, by omega, by go_num, HU.out.next HX.out HE.out⟩
        case measure => simp [intOf]; omega
    · go_wp2
      go_ret
      exact ⟨ret_bool (hasB_f (HU.out.all (by omega))).symm, rfl⟩
theorem own_intsR {w : World} {base : Nat} {v : Value} {xs : List Int} {n : Nat} (h : w.ownsRow base 3 1 v n (xs.map intV)) (hx : ∀ x ∈ xs, I64 x) : IntsR w w.heap.size v xs := by
  obtain ⟨bs, h1, h2, h3⟩ := OwnRow.of_owns h
  exact OwnInts.reads (e := 3) (bs := bs) ⟨h1, hx⟩ h1.lt
theorem rowOf_map (k n : Nat) (h : k ≤ n) (x : Int) : rowOf ((List.replicate k x).map intV) n (.int .i64 0) = ((List.replicate k x ++ List.replicate (n - k) 0).map intV).toArray := by
  unfold rowOf
  simp [intV]
theorem set_map (d : List Int) (i : Nat) (x : Int) : ((d.map intV).toArray).setIfInBounds i (.int .i64 x) = ((d.set i x).map intV).toArray := by
  simp [List.map_set, intV]
/-- A row of numbers in a block of one's own. -/
def NumsAt (w : World) (g : Nat) (d : List Int) : Prop := w.heap[g]? = some (.cells (d.map intV).toArray 3 (0, 0))
theorem NumsAt.cell {w : World} {g : Nat} {d : List Int} (h : NumsAt w g d) {i : Nat} {x : Int} (hx : d[i]? = some x) : w.cell? ⟨g, i, none⟩ = some (.int .i64 x) := by
  rw [cell_of_row _ _ i _ _ (0, 0) h, ← Array.getElem?_toList]
  simp [hx, intV]
theorem NumsAt.frozen {w : World} {g : Nat} {d : List Int} (h : NumsAt w g d) (i : Nat) : w.frozen? ⟨g, i, none⟩ = false := frozen_of_row _ _ i _ _ h
theorem NumsAt.set {w : World} {g : Nat} {d : List Int} (h : NumsAt w g d) (i : Nat) (x : Int) : NumsAt (w.setCell ⟨g, i, none⟩ (.int .i64 x)) g (d.set i x) := by
  unfold NumsAt
  rw [heap_set_same h, set_map]
theorem NumsAt.keep {w w' : World} {g : Nat} {d : List Int} (h : NumsAt w g d) (hk : w'.heap[g]? = w.heap[g]?) : NumsAt w' g d := hk.trans h
theorem NumsAt.lt {w : World} {g : Nat} {d : List Int} (h : NumsAt w g d) : g < w.heap.size := by
  rcases Nat.lt_or_ge g w.heap.size with h' | h'
  · exact h'
  · unfold NumsAt at h
    rw [Array.getElem?_eq_none h'] at h
    cases h
/-- What stands ahead of a number's place in a rising list. -/
def Less (l : List Int) (x : Int) (k : Nat) : Prop := ∀ (j : Nat) (y : Int), j < k → l[j]? = some y → y < x
theorem Less.next {l : List Int} {x y : Int} {k : Nat} (h : Less l x k) (hy : l[k]? = some y) (hl : y < x) : Less l x (k + 1) := fun j z hj hz => by
  by_cases e : j = k
  · subst e
    obtain rfl := Option.some.inj (hy.symm.trans hz)
    exact hl
  · exact h j z (by omega) hz
theorem put_end : ∀ {l : List Int} {x : Int}, Less l x l.length → putS l x = l ++ [x]
  | [], x, _ => rfl
  | y :: r, x, h => by
    unfold putS
    rw [if_pos (h 0 y (by simp) rfl), put_end fun j z hj hz => h (j + 1) z (by simpa using hj) (by simpa using hz)]
    rfl
theorem put_same : ∀ {l : List Int} {x : Int} {k : Nat}, Less l x k → l[k]? = some x → putS l x = l
  | [], x, k, _, h => by simp at h
  | y :: r, x, 0, _, h => by
    obtain rfl : y = x := by simpa using h
    unfold putS
    rw [if_neg (by omega), if_pos rfl]
  | y :: r, x, k + 1, h, hx => by
    unfold putS
    rw [if_pos (h 0 y (by omega) rfl), put_same (k := k) (fun j z hj hz => h (j + 1) z (by omega) (by simpa using hz)) (by simpa using hx)]
theorem put_mid : ∀ {l : List Int} {x y : Int} {k : Nat}, Less l x k → l[k]? = some y → x < y → putS l x = l.take k ++ [x] ++ l.drop k
  | [], x, y, k, _, h, _ => by simp at h
  | z :: r, x, y, 0, _, h, hlt => by
    obtain rfl : z = y := by simpa using h
    unfold putS
    rw [if_neg (by omega), if_neg (by omega)]
    rfl
  | z :: r, x, y, k + 1, h, hy, hlt => by
    unfold putS
    rw [if_pos (h 0 z (by omega) rfl), put_mid (k := k) (fun j u hj hu => h (j + 1) u (by omega) (by simpa using hu)) (by simpa using hy) hlt]
    rfl
def PutRel (l : List Int) (x : Int) (w : World) (kv : Value) (wr : World) : Prop := w = wr ∧ ∃ k : Nat, k ≤ l.length ∧ kv = .int .i64 k ∧ Less l x k
theorem own_sl {w : World} {base n : Nat} {e : TypeId} {v : Value} {vs : List Value} (h : w.ownsRow base e 1 v n vs) : ∃ A c, v = .slice A n c := by
  rcases h.2 with ⟨rfl, h0⟩ | ⟨g, cap, cur, rfl, -⟩
  · exact ⟨none, 0, by rw [h0]⟩
  · exact ⟨_, _, rfl⟩
theorem own_len {w : World} {base n : Nat} {v : Value} {xs : List Int} (h : w.ownsRow base 3 1 v n (xs.map intV)) : w.ownsRow base 3 1 v xs.length (xs.map intV) := by
  have : xs.length = n := by simpa using h.1
  rw [this]; exact h
theorem put_I64 {l : List Int} {x : Int} (h : ∀ y ∈ l, I64 y) (hx : I64 x) : ∀ y ∈ putS l x, I64 y := fun y hy => by
  rcases (putS_mem l x y).1 hy with rfl | hy
  · exact hx
  · exact h y hy
theorem own_one {w : World} {base n : Nat} {e : TypeId} {v : Value} {vs : List Value} (h : w.ownsRow base e 1 v (n + 1) vs) : ∃ g cap cur, v = .slice (some ⟨g, 0, none⟩) (n + 1) cap ∧ base ≤ g ∧ w.heap[g]? = some (.cells cur e (0, 0)) ∧ n + 1 ≤ cap ∧ cap ≤ maxLen ∧ cur.size = cap * 1 ∧ cur.toList.take ((n + 1) * 1) = vs := by
  rcases h.2 with ⟨rfl, h0⟩ | h2
  · omega
  · exact h2
set_option maxRecDepth 100000 in
set_option maxHeartbeats 1000000 in
theorem spec_l1Put (v : Value) (l : List Int) (x : Int) (w : World) (h : IntsR w w.heap.size v l) (hl : l.length ≤ 2000000) (hx : I64 x) (hnil : l = [] → v = .slice none 0 0) :
    Calls Tryz.prog 81 #[v, .int .i64 x] w fun e w' => ∃ u, e = .returned u ∧ (∃ A m c, u = .slice A m c) ∧ IntsR w' w'.heap.size u (putS l x) ∧ ((u = v ∧ x ∈ l) ∨ w'.ownsRow w.heap.size 3 1 u (putS l x).length ((putS l x).map intV)) ∧ Below w.heap.size w w' := by
  have h64 := h.2
  by_cases h0 : l = []
  · obtain rfl := hnil h0
    subst h0
    go_enter Tryz.func81, Tryz.ntmps81
    have hown := World.ownsRow_made (base := w.heap.size) (e := 3) (size := 1) w #[] 0 (Nat.le_refl _) (Nat.zero_le _) (by simp)
    have hb0 := bl_alloc (Below.refl w.heap.size w) (.cells #[] 3)
    obtain ⟨i, hi, hz0, hz1, hz2⟩ := info_parts intInfo
    have HR := Lib.hid (fun g n c m hc ty W => run_append_nil0 (P := Tryz.prog) W 28 ty 3 i Tryz.underlying28 hi g n c m hc)
    have HO := Lib.hid hown
    clear hi hz0 hz1 hz2
    go_wp2_with fail
    go_loopw [5] (fun kv wr => PutRel [] x w kv wr) (fun kv _ => 0)
    case atStart => exact ⟨rfl, 0, Nat.zero_le _, rfl, fun _ _ h => absurd h (by omega)⟩
    case round =>
      obtain ⟨rfl, k, hk, rfl, -⟩ := hrel
      obtain rfl : k = 0 := by simpa using hk
      go_wp2_with (first
        | (at_builtin; refine Lib.wpList_append_run _ rfl (.tmp 34) (.tmp 37) _ _ rfl _ _ rfl rfl _ _ (HR.out w.heap.size 0 0 _ (Nat.le_refl _) _ _) ?_)
        | (at_builtin; refine wpList_append1 (w.alloc (.cells #[] 3)) rfl (.tmp 39) (.tmp 41) 28 rfl w.heap.size 3 _ 8 Tryz.underlying28 intInfo rfl _ _ _ rfl _ rfl (by show Value.slice (some ⟨w.heap.size + 1, 0, none⟩) 1 1 = _; simp) HO.out (by unfold maxLen; omega) (by omega) (by simp) ?_; intro v2 w2 hown2 hbl2 hgr2 hlt2 hob2; obtain ⟨g2, c2, cur2, rfl, -, -, hc2, -, -, -⟩ := own_one hown2; have hb02 := hb0.trans hbl2; clear hgr2 hlt2 hob2)
        | (at_builtin; refine Lib.wpList_append_run _ rfl (.tmp 43) (.tmp 46) _ _ rfl _ _ rfl rfl _ _ (HR.out _ _ _ _ hc2 _ _) ?_))
      go_ret
      exact ⟨_, rfl, ⟨_, _, _, rfl⟩, own_intsR hown2 (fun y hy => by rcases List.mem_singleton.1 hy with rfl; exact hx), .inr hown2, hb02⟩
  · have HI := Lib.hid h
    obtain ⟨Al, cl, rfl, h1, h2, h3⟩ := h.open_
    unfold maxLen at h2
    have hlp : 0 < l.length := List.length_pos_iff.2 h0
    obtain ⟨ad, rfl, hb, hc⟩ := h3 hlp
    have HC := Lib.hid hc; clear hc h3 h hnil h0
    go_enter Tryz.func81, Tryz.ntmps81
    go_wp2_with fail
    go_loopw [5] (fun kv wr => PutRel l x w kv wr) (fun kv _ => l.length - (intOf kv).toNat)
    case atStart => exact ⟨rfl, 0, Nat.zero_le _, rfl, fun _ _ h => absurd h (by omega)⟩
    case round =>
      obtain ⟨rfl, k, hk, rfl, hless⟩ := hrel
      have HLS := Lib.hid hless; clear hless
      by_cases hlt : k < l.length
      · obtain ⟨y, hy⟩ : ∃ y, l[k]? = some y := ⟨_, List.getElem?_eq_getElem hlt⟩
        have hcy := HC.out k y hy
        have HY := Lib.hid hy; clear hy
        by_cases hyx : y < x
        · have HN := Lib.hid (HLS.out.next HY.out hyx)
          go_wp2_with fail
          go_roundw
          case rel => exact ⟨rfl, k + 1, by omega, by go_num, HN.out⟩
          case measure => simp [intOf]; omega
        · by_cases hxy : y = x
          · have kq : (y == x) = true := by simpa using hxy
            have HF := Lib.hid (show putS l x = l from put_same HLS.out (by rw [HY.out, hxy]))
            have HM := Lib.hid (show x ∈ l from hxy ▸ List.mem_of_getElem? HY.out)
            clear hxy
            go_wp2_with fail
            go_ret
            exact ⟨_, rfl, ⟨_, _, _, rfl⟩, by rw [HF.out]; exact HI.out, .inl ⟨rfl, HM.out⟩, Below.refl _ _⟩
          · have kq : (y == x) = false := by simpa using hxy
            have HF := Lib.hid (put_mid HLS.out HY.out (show x < y by omega))
            clear hxy
            have hne : ¬ cl = k := by omega
            have hown := World.ownsRow_made (base := w.heap.size) (e := 3) (size := 1) w #[] 0 (Nat.le_refl _) (Nat.zero_le _) (by simp)
            have hb0 := bl_alloc (Below.refl w.heap.size w) (.cells #[] 3)
            obtain ⟨i, hi, hz0, hz1, hz2⟩ := info_parts intInfo
            have HIF := Lib.hid hi; clear hi
            have Z0 := Lib.hid hz0; clear hz0
            have Z1 := Lib.hid hz1; clear hz1
            have Z2 := Lib.hid hz2; clear hz2
            have HO := Lib.hid hown; clear hown
            have HN1 := Lib.hid (show ∀ j u, ((l.take k).map intV)[j]? = some u → (w.alloc (.cells #[] 3)).cell? (ad.add j) = some u from fun j u hu => by
              rw [List.getElem?_map] at hu
              obtain ⟨z, hz, rfl⟩ := Option.map_eq_some_iff.1 hu
              exact Lib.cell?_alloc_some _ (HC.out j z (by rw [List.getElem?_take] at hz; split at hz; exact hz; cases hz)))
            have HN3 := Lib.hid (show ∀ W, Below w.heap.size w W → ∀ j u, ((l.drop k).map intV)[j]? = some u → W.cell? ((ad.add k).add j) = some u from fun W hW j u hu => by
              rw [List.getElem?_map, List.getElem?_drop] at hu
              obtain ⟨z, hz, rfl⟩ := Option.map_eq_some_iff.1 hu
              rw [Addr.add_add]
              exact (hW.cell (p := ad.add (k + j)) (by rw [block_add]; exact hb)).trans (HC.out _ z hz))
            have H1 := Lib.hid (show ∀ (zs : List Int), ∀ u ∈ zs.map intV, u.oneCell' = true from fun zs u hu => by
              obtain ⟨z, _, rfl⟩ := List.mem_map.1 hu
              rfl)
            have hl1 : ((l.take k).map intV).length = k * 1 := by rw [List.length_map, List.length_take]; omega
            have hl3 : ((l.drop k).map intV).length = (l.length - k) * 1 := by rw [List.length_map, List.length_drop]; omega
            have HL1 := Lib.hid hl1; clear hl1
            have HL3 := Lib.hid hl3; clear hl3
            go_wp2_with (first
              | (at_builtin; refine wpList_append_own_at _ rfl (.tmp 34) (.tmp 37) 28 rfl w.heap.size 3 i _ 1 8 Tryz.underlying28 HIF.out Z0.out Z1.out Z2.out rfl (by decide) _ _ _ rfl HO.out ad k _ ((l.take k).map intV) rfl HL1.out HN1.out (H1.out _) (by unfold maxLen; omega) (by omega) (by simp) ?_; intro v1 w1 hown1 hgrow1 hnil1 hat1; replace hown1 : w1.ownsRow w.heap.size 3 1 v1 k ((l.take k).map intV) := (by simpa using hown1); obtain ⟨A1, c1, rfl⟩ := own_sl hown1; have hbl1 := hb0.grown hgrow1 (by simp) (fun k hk => by have e := Option.some.inj (show some w.heap.size = some k from hk); omega); clear hgrow1 hnil1 hat1)
              | (at_builtin; refine wpList_append1 w1 rfl (.tmp 39) (.tmp 41) 28 rfl w.heap.size 3 _ 8 Tryz.underlying28 intInfo rfl _ _ _ rfl _ rfl rfl hown1 (by unfold maxLen; omega) (by omega) hbl1.size ?_; intro v2 w2 hown2 hbl2 hgr2 hlt2 hob2; obtain ⟨A2, c2, rfl⟩ := own_sl hown2; have hb02 := hbl1.trans hbl2; clear hgr2 hlt2 hob2)
              | (at_builtin; refine wpList_append_own_at _ rfl (.tmp 43) (.tmp 46) 28 rfl w.heap.size 3 i _ 1 8 Tryz.underlying28 HIF.out Z0.out Z1.out Z2.out rfl (by decide) _ _ _ rfl hown2 _ _ _ ((l.drop k).map intV) rfl HL3.out (HN3.out w2 hb02) (H1.out _) (by unfold maxLen; omega) (by omega) hb02.size ?_; intro v3 w3 hown3 hgrow3 hnil3 hat3))
            go_ret
            have hlt2 := hown2.lt
            refine ⟨_, rfl, (by obtain ⟨A3, c3, e3⟩ := own_sl hown3; exact ⟨_, _, _, e3⟩), own_intsR (by rw [HF.out]; simp only [List.map_append, List.map_cons, List.map_nil]; exact hown3) (put_I64 h64 hx), .inr (own_len (by rw [HF.out]; simp only [List.map_append, List.map_cons, List.map_nil]; exact hown3)), hb02.grown hgrow3 hb02.size (fun k hk => (hlt2 k hk).1)⟩
      · obtain rfl : k = l.length := by omega
        have HF := Lib.hid (put_end HLS.out)
        by_cases hce : cl = l.length
        · subst hce
          have hown := World.ownsRow_made (base := w.heap.size) (e := 3) (size := 1) w #[] 0 (Nat.le_refl _) (Nat.zero_le _) (by simp)
          have hb0 := bl_alloc (Below.refl w.heap.size w) (.cells #[] 3)
          obtain ⟨i, hi, hz0, hz1, hz2⟩ := info_parts intInfo
          have HIF := Lib.hid hi; clear hi
          have Z0 := Lib.hid hz0; clear hz0
          have Z1 := Lib.hid hz1; clear hz1
          have Z2 := Lib.hid hz2; clear hz2
          have HO := Lib.hid hown; clear hown
          have HN1 := Lib.hid (show ∀ j u, ((l.take l.length).map intV)[j]? = some u → (w.alloc (.cells #[] 3)).cell? (ad.add j) = some u from fun j u hu => by
            rw [List.getElem?_map] at hu
            obtain ⟨z, hz, rfl⟩ := Option.map_eq_some_iff.1 hu
            exact Lib.cell?_alloc_some _ (HC.out j z (by rw [List.getElem?_take] at hz; split at hz; exact hz; cases hz)))
          have HN3 := Lib.hid (show ∀ W, Below w.heap.size w W → ∀ j u, ((l.drop l.length).map intV)[j]? = some u → W.cell? ((ad.add l.length).add j) = some u from fun W hW j u hu => by
            rw [List.getElem?_map, List.getElem?_drop] at hu
            obtain ⟨z, hz, rfl⟩ := Option.map_eq_some_iff.1 hu
            rw [Addr.add_add]
            exact (hW.cell (p := ad.add (l.length + j)) (by rw [block_add]; exact hb)).trans (HC.out _ z hz))
          have H1 := Lib.hid (show ∀ (zs : List Int), ∀ u ∈ zs.map intV, u.oneCell' = true from fun zs u hu => by
            obtain ⟨z, _, rfl⟩ := List.mem_map.1 hu
            rfl)
          have hl1 : ((l.take l.length).map intV).length = l.length * 1 := by rw [List.length_map, List.length_take]; omega
          have hl3 : ((l.drop l.length).map intV).length = (l.length - l.length) * 1 := by rw [List.length_map, List.length_drop]; omega
          have HL1 := Lib.hid hl1; clear hl1
          have HL3 := Lib.hid hl3; clear hl3
          go_wp2_with (first
            | (at_builtin; refine wpList_append_own_at _ rfl (.tmp 34) (.tmp 37) 28 rfl w.heap.size 3 i _ 1 8 Tryz.underlying28 HIF.out Z0.out Z1.out Z2.out rfl (by decide) _ _ _ rfl HO.out ad l.length _ ((l.take l.length).map intV) rfl HL1.out HN1.out (H1.out _) (by unfold maxLen; omega) (by omega) (by simp) ?_; intro v1 w1 hown1 hgrow1 hnil1 hat1; replace hown1 : w1.ownsRow w.heap.size 3 1 v1 l.length ((l.take l.length).map intV) := (by simpa using hown1); obtain ⟨A1, c1, rfl⟩ := own_sl hown1; have hbl1 := hb0.grown hgrow1 (by simp) (fun k hk => by have e := Option.some.inj (show some w.heap.size = some k from hk); omega); clear hgrow1 hnil1 hat1)
            | (at_builtin; refine wpList_append1 w1 rfl (.tmp 39) (.tmp 41) 28 rfl w.heap.size 3 _ 8 Tryz.underlying28 intInfo rfl _ _ _ rfl _ rfl rfl hown1 (by unfold maxLen; omega) (by omega) hbl1.size ?_; intro v2 w2 hown2 hbl2 hgr2 hlt2 hob2; obtain ⟨A2, c2, rfl⟩ := own_sl hown2; have hb02 := hbl1.trans hbl2; clear hgr2 hlt2 hob2)
            | (at_builtin; refine wpList_append_own_at _ rfl (.tmp 43) (.tmp 46) 28 rfl w.heap.size 3 i _ 1 8 Tryz.underlying28 HIF.out Z0.out Z1.out Z2.out rfl (by decide) _ _ _ rfl hown2 _ _ _ [] rfl rfl (fun j u hj => by simp at hj) (fun u hu => by cases hu) (by unfold maxLen; omega) (by omega) hb02.size ?_; intro v3 w3 hown3 hgrow3 hnil3 hat3))
          go_ret
          have hlt2 := hown2.lt
          refine ⟨_, rfl, (by obtain ⟨A3, c3, e3⟩ := own_sl hown3; exact ⟨_, _, _, e3⟩), own_intsR (by have h := hown3; rw [List.take_length, List.append_nil] at h; rw [HF.out, List.map_append]; exact h) (put_I64 h64 hx), .inr (own_len (by have h := hown3; rw [List.take_length, List.append_nil] at h; rw [HF.out, List.map_append]; exact h)), hb02.grown hgrow3 hb02.size (fun k hk => (hlt2 k hk).1)⟩
        · skip
          have hown := World.ownsRow_made (base := w.heap.size) (e := 3) (size := 1) w #[] 0 (Nat.le_refl _) (Nat.zero_le _) (by simp)
          have hb0 := bl_alloc (Below.refl w.heap.size w) (.cells #[] 3)
          obtain ⟨i, hi, hz0, hz1, hz2⟩ := info_parts intInfo
          have HIF := Lib.hid hi; clear hi
          have Z0 := Lib.hid hz0; clear hz0
          have Z1 := Lib.hid hz1; clear hz1
          have Z2 := Lib.hid hz2; clear hz2
          have HO := Lib.hid hown; clear hown
          have HN1 := Lib.hid (show ∀ j u, ((l.take l.length).map intV)[j]? = some u → (w.alloc (.cells #[] 3)).cell? (ad.add j) = some u from fun j u hu => by
            rw [List.getElem?_map] at hu
            obtain ⟨z, hz, rfl⟩ := Option.map_eq_some_iff.1 hu
            exact Lib.cell?_alloc_some _ (HC.out j z (by rw [List.getElem?_take] at hz; split at hz; exact hz; cases hz)))
          have HN3 := Lib.hid (show ∀ W, Below w.heap.size w W → ∀ j u, ((l.drop l.length).map intV)[j]? = some u → W.cell? ((ad.add l.length).add j) = some u from fun W hW j u hu => by
            rw [List.getElem?_map, List.getElem?_drop] at hu
            obtain ⟨z, hz, rfl⟩ := Option.map_eq_some_iff.1 hu
            rw [Addr.add_add]
            exact (hW.cell (p := ad.add (l.length + j)) (by rw [block_add]; exact hb)).trans (HC.out _ z hz))
          have H1 := Lib.hid (show ∀ (zs : List Int), ∀ u ∈ zs.map intV, u.oneCell' = true from fun zs u hu => by
            obtain ⟨z, _, rfl⟩ := List.mem_map.1 hu
            rfl)
          have hl1 : ((l.take l.length).map intV).length = l.length * 1 := by rw [List.length_map, List.length_take]; omega
          have hl3 : ((l.drop l.length).map intV).length = (l.length - l.length) * 1 := by rw [List.length_map, List.length_drop]; omega
          have HL1 := Lib.hid hl1; clear hl1
          have HL3 := Lib.hid hl3; clear hl3
          go_wp2_with (first
            | (at_builtin; refine wpList_append_own_at _ rfl (.tmp 34) (.tmp 37) 28 rfl w.heap.size 3 i _ 1 8 Tryz.underlying28 HIF.out Z0.out Z1.out Z2.out rfl (by decide) _ _ _ rfl HO.out ad l.length _ ((l.take l.length).map intV) rfl HL1.out HN1.out (H1.out _) (by unfold maxLen; omega) (by omega) (by simp) ?_; intro v1 w1 hown1 hgrow1 hnil1 hat1; replace hown1 : w1.ownsRow w.heap.size 3 1 v1 l.length ((l.take l.length).map intV) := (by simpa using hown1); obtain ⟨A1, c1, rfl⟩ := own_sl hown1; have hbl1 := hb0.grown hgrow1 (by simp) (fun k hk => by have e := Option.some.inj (show some w.heap.size = some k from hk); omega); clear hgrow1 hnil1 hat1)
            | (at_builtin; refine wpList_append1 w1 rfl (.tmp 39) (.tmp 41) 28 rfl w.heap.size 3 _ 8 Tryz.underlying28 intInfo rfl _ _ _ rfl _ rfl rfl hown1 (by unfold maxLen; omega) (by omega) hbl1.size ?_; intro v2 w2 hown2 hbl2 hgr2 hlt2 hob2; obtain ⟨A2, c2, rfl⟩ := own_sl hown2; have hb02 := hbl1.trans hbl2; clear hgr2 hlt2 hob2)
            | (at_builtin; refine wpList_append_own_at _ rfl (.tmp 43) (.tmp 46) 28 rfl w.heap.size 3 i _ 1 8 Tryz.underlying28 HIF.out Z0.out Z1.out Z2.out rfl (by decide) _ _ _ rfl hown2 _ _ _ [] rfl rfl (fun j u hj => by simp at hj) (fun u hu => by cases hu) (by unfold maxLen; omega) (by omega) hb02.size ?_; intro v3 w3 hown3 hgrow3 hnil3 hat3))
          go_ret
          have hlt2 := hown2.lt
          refine ⟨_, rfl, (by obtain ⟨A3, c3, e3⟩ := own_sl hown3; exact ⟨_, _, _, e3⟩), own_intsR (by have h := hown3; rw [List.take_length, List.append_nil] at h; rw [HF.out, List.map_append]; exact h) (put_I64 h64 hx), .inr (own_len (by have h := hown3; rw [List.take_length, List.append_nil] at h; rw [HF.out, List.map_append]; exact h)), hb02.grown hgrow3 hb02.size (fun k hk => (hlt2 k hk).1)⟩
/-- A block that holds numbers, read as a slice. -/
theorem ints_row {w : World} {g B : Nat} {t : TypeId} {xs : List Int} (hc : w.heap[g]? = some (.cells (xs.map intV).toArray t (0, 0))) (hl : xs.length ≤ maxLen) (hI : ∀ x ∈ xs, I64 x) (hg : g < B) : IntsR w B (.slice (some ⟨g, 0, none⟩) xs.length xs.length) xs := by
  refine ⟨⟨some ⟨g, 0, none⟩, xs.length, by rw [List.length_map], by rw [List.length_map]; exact Nat.le_refl _, hl, fun _ => ⟨_, rfl, hg, fun j u hu => ?_⟩⟩, hI⟩
  rw [show (⟨g, 0, none⟩ : Addr).add j = ⟨g, j, none⟩ by unfold Addr.add; split <;> simp_all, cell_of_row _ _ j _ _ (0, 0) hc, ← Array.getElem?_toList]
  exact hu
/-- Numbers that a slice reads as: where they lie. -/
theorem ints_cells {w : World} {ad : Addr} {xs : List Int} (h0 : 0 < xs.length) (h : ∀ j x, xs[j]? = some x → w.cell? (ad.add j) = some (.int .i64 x)) :
    ∃ b off, ad = ⟨b, off, none⟩ ∧ ∀ j, j < xs.length → w.cell? ⟨b, off + j, none⟩ = some (.int .i64 (xs.getD j 0)) := by
  obtain ⟨b, off, sp⟩ := ad
  have hs : sp = none := by
    have h1 := h 0 xs[0] (List.getElem?_eq_getElem h0)
    cases sp with
    | none => rfl
    | some s =>
      simp only [World.cell?, Addr.add] at h1
      split at h1 <;> simp at h1
  subst hs
  refine ⟨b, off, rfl, fun j hj => ?_⟩
  have h1 := h j xs[j] (List.getElem?_eq_getElem hj)
  rw [List.getD_eq_getElem?_getD, List.getElem?_eq_getElem hj, Option.getD_some, ← h1]
  rcases j with _ | j <;> simp [Addr.add]
open Go.Sort Go.Lib in
theorem below_grow (W : World) (os : Array Obj) : Below W.heap.size W (grow W os) :=
  ⟨rfl, rfl, rfl, by simp [grow], fun k hk => by simp only [grow]; rw [Array.getElem?_append_left hk]⟩
theorem run_copy_row {P : Program} (w : World) (dT sT ty elem e : TypeId) (g o dLen dCap : Nat) (cur : Array Value) (hg : w.heap[g]? = some (.cells cur e (0, 0))) (a : Addr) (sLen sCap : Nat) (cs : List Value) (k : Nat)
    (hu : P.underlying dT = some (.slice elem)) (hs : (P.info? elem).map (·.size) = some k) (hn : cs.length = Nat.min sLen dLen * k)
    (hsrc : ∀ j v, cs[j]? = some v → w.cell? (a.add j) = some v) (hfit : o + cs.length ≤ cur.size) (h1 : ∀ v ∈ cs, v.oneCell' = true) :
    (Builtin.copy_ #[dT, sT] ty #[.slice (some ⟨g, o, none⟩) dLen dCap, .slice (some a) sLen sCap]).run P w =
      .ok (goInt (Nat.min sLen dLen)) (w.setRow g (cur.toList.take o ++ cs ++ cur.toList.drop (o + cs.length)).toArray) := by
  have hl := run_loadCells_list (P := P) w a cs hsrc
  have hst := run_storeCells_at P g o e cs 0 cur w hg (by simpa using hfit) h1
  simp only [Nat.add_zero] at hst
  cases hq : P.info? elem with
  | none => simp [hq] at hs
  | some i =>
    have hi : i.size = k := by simpa [hq] using hs
    rw [hn] at hl
    simp [Builtin.copy_, run_underlying hu, Builtin.lenOf, Builtin.firstCells, sizeOf, typeInfo, hq, hi, hl, hst]
theorem step_copy_runK {P : Program} {ops : Array Oper} {o : Oper} {a : Act} {w : World} {K : Act → World → Prop} {Q : Exit → Act → World → Prop} {E : Prop}
    (hg : o.guard = none) (d x : Operand) (dT sT : TypeId) (hop : o.op = Op.call { callee := Callee.builtin Builtin.copy, args := #[d, x], argTypes := #[dT, sT] })
    (v u : Value) (hd : a.eval d = v) (hx : a.eval x = u) {v' : Value} {w' : World} (hr : (Builtin.copy_ #[dT, sT] o.type #[v, u]).run P w = .ok v' w') (hK : K (a.put o.dst v') w') :
    if Region.wanted o (yielded ops a.tmps) = true then Oper.wp P o a w K Q else E := by
  have hw : Region.wanted o (yielded ops a.tmps) = true := by simp [Region.wanted, hg]
  rw [if_pos hw]
  unfold Oper.wp
  simp [execOp, hop, resolve, invoke, builtin, hd, hx, hr, Result.andThen]
  exact hK
theorem mul_one (k : Nat) (hk : k ≤ 100000) (w : World) : Calls Tryz.prog 105 #[.int .u64 1, .int .u64 (k : Int)] w fun e w' => e = .returned (.tuple #[.int .u64 0, .int .u64 (k : Int)]) ∧ w = w' := by
  refine (Tryz.bits_Mul 1 k (by omega) (by omega) w).mono ?_
  rintro e w' ⟨rfl, rfl⟩
  rw [show 1 * k / 18446744073709551616 = 0 from Nat.div_eq_of_lt (by omega), show 1 * k % 18446744073709551616 = k by rw [Nat.mod_eq_of_lt (by omega), Nat.one_mul]]
  exact ⟨rfl, rfl⟩
theorem copy_nums {w : World} {g gs o so n m c c' : Nat} {d ss : List Int} (hg : NumsAt w g d) (hs : ∀ j, j < Nat.min m n → w.cell? ((⟨gs, so, none⟩ : Addr).add j) = some (.int .i64 (ss.getD j 0))) (hl : Nat.min m n ≤ ss.length) (hfit : o + Nat.min m n ≤ d.length) :
    (Builtin.copy_ #[28, 28] 3 #[.slice (some ⟨g, o, none⟩) n c, .slice (some ⟨gs, so, none⟩) m c']).run Tryz.prog w = .ok (.int .i64 (Nat.min m n : Nat)) (w.setRow g ((d.take o ++ ss.take (Nat.min m n) ++ d.drop (o + Nat.min m n)).map intV).toArray) := by
  have hlen : ((ss.take (Nat.min m n)).map intV).length = Nat.min m n := by rw [List.length_map, List.length_take]; omega
  have h := run_copy_row (P := Tryz.prog) w 28 28 3 3 3 g o n c (d.map intV).toArray hg ⟨gs, so, none⟩ m c' ((ss.take (Nat.min m n)).map intV) 1 Tryz.underlying28 (by kernel_rfl) (by rw [hlen, Nat.mul_one]) (fun j v hv => by
      rw [List.getElem?_map] at hv
      obtain ⟨y, hy, rfl⟩ := Option.map_eq_some_iff.1 hv
      have hj := (List.getElem?_eq_some_iff.1 hy).1
      rw [List.length_take] at hj
      rw [hs j (by omega)]
      rw [List.getElem?_take_of_lt (by omega)] at hy
      rw [List.getD_eq_getElem?_getD, hy]
      rfl) (by rw [hlen]; simpa using hfit) (fun v hv => by
      obtain ⟨y, _, rfl⟩ := List.mem_map.1 hv
      rfl)
  rw [hlen] at h
  rw [h]
  simp [goInt, List.map_append, List.map_take, List.map_drop]
def RepRel (x : Int) (k g : Nat) (w i : World) (v : Value) : Prop := ∃ j : Nat, 1 ≤ j ∧ j ≤ k ∧ v = .int .i64 j ∧ NumsAt i g (List.replicate j x ++ List.replicate (k - j) 0) ∧ Below w.heap.size w i
set_option maxRecDepth 100000 in
theorem impl_Repeat (x : Int) (k g0 : Nat) (w : World) (hg : NumsAt w g0 [x]) (hk : 1 ≤ k) (hk2 : k ≤ 100000) :
    Calls Tryz.prog 78 #[.slice (some ⟨g0, 0, none⟩) 1 1, .int .i64 (k : Int)] w fun e w' => e = .returned (.slice (some ⟨w.heap.size, 0, none⟩) k k) ∧ NumsAt w' w.heap.size (List.replicate k x) ∧ Below w.heap.size w w' := by
  have hmk := fun W => run_make1 (P := Tryz.prog) 28 3 (.int .i64 0) 8 Tryz.underlying28 intInfo rfl k (by omega) (by omega) W
  have hN0 : NumsAt (w.alloc (.cells (rowOf [] k (.int .i64 0)) 3)) w.heap.size (List.replicate 0 x ++ List.replicate (k - 0) 0) := by
    unfold NumsAt
    rw [heap_alloc_new, ← rowOf_map 0 k (Nat.zero_le _)]
    rfl
  have hgl := hg.lt
  have hcs : ∀ j, j < Nat.min 1 k → (w.alloc (.cells (rowOf [] k (.int .i64 0)) 3)).cell? ((⟨g0, 0, none⟩ : Addr).add j) = some (.int .i64 ([x].getD j 0)) := fun j hj => by
    obtain rfl : j = 0 := by have h : Nat.min 1 k ≤ 1 := Nat.min_le_left _ _; omega
    exact Lib.cell?_alloc_some _ (hg.cell (i := 0) rfl)
  have hm1 : Nat.min 1 k = 1 := Nat.min_eq_left hk
  have hcp := copy_nums (c := k) (c' := 1) (o := 0) hN0 hcs (by rw [hm1]; exact Nat.le_refl _) (by rw [hm1]; simp; omega)
  rw [hm1] at hcp
  obtain ⟨w1, hw1⟩ : ∃ z, z = (w.alloc (.cells (rowOf [] k (.int .i64 0)) 3)).setRow w.heap.size (((List.replicate 0 x ++ List.replicate (k - 0) 0).take 0 ++ [x].take 1 ++ (List.replicate 0 x ++ List.replicate (k - 0) 0).drop (0 + 1)).map intV).toArray := ⟨_, rfl⟩
  rw [← hw1] at hcp
  have hN1 : NumsAt w1 w.heap.size (List.replicate 1 x ++ List.replicate (k - 1) 0) := by
    unfold NumsAt
    rw [hw1, setRow_heap _ _ _ _ _ _ hN0]
    simp
  have hb1 : Below w.heap.size w w1 := by
    rw [hw1]
    exact below_setRow (bl_alloc (Below.refl _ _) _) (Nat.le_refl _) _
  have HN1 := Lib.hid hN1; clear hN1 hcs hN0 hm1
  have HB1 := Lib.hid hb1; clear hb1 hw1
  have hw1 : IntKind.u64.wrap (k : Int) = (k : Int) := IntWalk.u64_in _ (by omega)
  have hw2 : IntKind.i64.wrap (k : Int) = (k : Int) := IntWalk.i64_in _ (by omega)
  go_enter Tryz.func78, Tryz.ntmps78
  go_wp2_with (go_at_call 105; refine (mul_one k (by omega) _).mono ?_; rintro e w' ⟨rfl, rfl⟩)
  go_loopw [8] (fun i wr => RepRel x k w.heap.size w wr i) (fun i _ => k - (intOf i).toNat)
  case atStart => exact ⟨1, Nat.le_refl _, hk, rfl, HN1.out, HB1.out⟩
  case round =>
    clear hcp
    obtain ⟨j, hj1, hj, rfl, hn, hb⟩ := hrel
    have HB := Lib.hid hb; clear hb
    by_cases hlt : j < k
    · have HNU := Lib.hid hn; clear hn
      have hcp := copy_nums (w := wr.drew) (g := w.heap.size) (gs := w.heap.size) (o := j) (so := 0) (n := k - j) (m := j) (c := k - j) (c' := k) (d := List.replicate j x ++ List.replicate (k - j) 0) (ss := List.replicate j x) HNU.out (fun i hi => by
        have hij : i < j := by have h : Nat.min j (k - j) ≤ j := Nat.min_le_left _ _; omega
        have h := HNU.out.cell (i := i) (x := x) (by rw [List.getElem?_append_left (by simpa using hij), List.getElem?_replicate, if_pos hij])
        rw [List.getD_eq_getElem?_getD, List.getElem?_replicate, if_pos hij, Option.getD_some]
        refine Eq.trans ?_ h
        rcases i with _ | i <;> simp [Addr.add] <;> rfl) (by rw [List.length_replicate]; exact Nat.min_le_left _ _) (by rw [List.length_append, List.length_replicate, List.length_replicate]; have h : Nat.min j (k - j) ≤ k - j := Nat.min_le_right _ _; omega)
      have hm0 : 1 ≤ Nat.min j (k - j) := Nat.le_min.2 ⟨hj1, by omega⟩
      have hm1 : Nat.min j (k - j) ≤ k - j := Nat.min_le_right _ _
      have hm2 : Nat.min j (k - j) ≤ j := Nat.min_le_left _ _
      generalize Nat.min j (k - j) = m at hcp hm0 hm1 hm2
      obtain ⟨w2, hw2⟩ : ∃ z, z = wr.drew.setRow w.heap.size (((List.replicate j x ++ List.replicate (k - j) 0).take j ++ (List.replicate j x).take m ++ (List.replicate j x ++ List.replicate (k - j) 0).drop (j + m)).map intV).toArray := ⟨_, rfl⟩
      rw [← hw2] at hcp
      have hN2 : NumsAt w2 w.heap.size (List.replicate (j + m) x ++ List.replicate (k - (j + m)) 0) := by
        unfold NumsAt
        rw [hw2, setRow_heap _ _ _ _ _ _ (show wr.drew.heap[w.heap.size]? = _ from HNU.out)]
        congr 4
        rw [List.take_append_of_le_length (by simp), List.take_of_length_le (by simp), List.take_replicate, Nat.min_eq_left hm2, List.drop_append, List.drop_of_length_le (by simp), List.length_replicate, List.nil_append, List.drop_replicate, show k - j - (j + m - j) = k - (j + m) by omega, List.replicate_append_replicate]
      have hb2 : Below w.heap.size w w2 := by
        rw [hw2]
        exact below_setRow HB.out.drew (Nat.le_refl _) _
      have HN2 := Lib.hid hN2; clear hN2
      have HB2 := Lib.hid hb2; clear hb2 hw2
      have HCP := Lib.hid hcp; clear hcp
      have hkj : ¬ k = j := by omega
      have hwr : IntKind.i64.wrap ((j : Int) + (m : Int)) = ((j + m : Nat) : Int) := by rw [← Int.natCast_add]; exact IntWalk.i64_in _ (by omega)
      go_wp2_with fail
      refine wp_region_held_drew (S := fun _ => True) (by kernel_rfl) ?_ (fun hHeld => ?_)
      · trivial
      refine tk 0 38 rfl rfl ?_ (hS := trivial)
      try simp only [Act.put, pu]
      refine tk 1 39 rfl rfl ?_ (hS := trivial)
      try simp only [Act.put, pu]
      refine tk 2 40 rfl rfl ?_ (hS := trivial)
      try simp only [Act.put, pu]
      refine tk 3 41 rfl rfl ?_ (hS := trivial)
      try simp only [Act.put, pu]
      refine tk 4 42 rfl rfl ?_ (hS := trivial)
      try simp only [Act.put, pu]
      refine tk 5 43 rfl rfl ?_ (hS := trivial)
      try simp only [Act.put, pu]
      refine tk 6 44 rfl rfl ?_ (hS := trivial)
      try simp only [Act.put, pu]
      refine tr 7 rfl (by kernel_rfl) (fun K hK => ?_)
      refine step_copy_runK rfl (.tmp 41) (.tmp 44) _ _ rfl _ _ rfl rfl HCP.out ?_
      refine hK.out _ _ trivial (fun hHeld => ?_)
      clear hK K
      try simp only [Act.put, pu]
      refine tk 8 46 rfl rfl ?_ (hS := trivial)
      try simp only [Act.put, pu]
      refine tk 9 8 rfl rfl ?_ (hS := trivial)
      try simp only [Act.put, pu]
      refine wpAnyH_done (by kernel_rfl) ?_ _
      go_wp2_with fail
      go_roundw
      case rel => exact ⟨j + m, by omega, by omega, rfl, HN2.out, HB2.out⟩
      case measure => simp [intOf]; omega
    · obtain rfl : j = k := by omega
      rw [Nat.sub_self, List.replicate_zero, List.append_nil] at hn
      have HNU := Lib.hid hn; clear hn
      go_wp2_with fail
      go_ret
      exact ⟨rfl, HNU.out, HB.out⟩
def lenOf (v : Value) : Nat := match v with | .slice _ n _ => n | _ => 0
theorem impl_Contains (v : Value) (xs : List Int) (x : Int) (w : World) (h : IntsR w w.heap.size v xs) :
    Calls Tryz.prog 77 #[v, .int .i64 x] w fun e w' => e = .returned (.bool (xs.contains x)) ∧ w = w' := by
  obtain ⟨A, c, rfl, h1, h2, h3⟩ := h.open_
  unfold maxLen at h2
  by_cases h0 : xs.length = 0
  · obtain rfl : xs = [] := List.eq_nil_of_length_eq_zero h0
    refine (Tryz.slices_Contains_int_empty A c x w).mono ?_
    rintro e w' ⟨rfl, rfl⟩
    exact ⟨rfl, rfl⟩
  · obtain ⟨ad, rfl, hb, hc⟩ := h3 (by omega)
    obtain ⟨b, off, rfl, hcc⟩ := ints_cells (by omega) hc
    refine (Tryz.slices_Contains_int b off xs.length c xs x w (Nat.le_refl _) (by omega) hcc).mono ?_
    rintro e w' ⟨rfl, rfl⟩
    rw [List.take_length]
    exact ⟨rfl, rfl⟩
theorem rep_ints {w : World} {g k : Nat} {x : Int} (h : NumsAt w g (List.replicate k x)) (hk : k ≤ 1000) (hx : I64 x) : IntsR w w.heap.size (.slice (some ⟨g, 0, none⟩) k k) (List.replicate k x) := by
  have := ints_row (B := w.heap.size) h (by unfold maxLen; simp; omega) (fun y hy => by rw [List.eq_of_mem_replicate hy]; exact hx) h.lt
  simpa using this
theorem own_keep4 {w w' : World} {base n size : Nat} {e : TypeId} {v : Value} {vs : List Value} (h : w.ownsRow base e size v n vs) (hs : w.heap.size ≤ w'.heap.size) (hk : ∀ b, base ≤ b → b < w.heap.size → w'.heap[b]? = w.heap[b]?) : w'.ownsRow base e size v n vs := by
  refine ⟨h.1, ?_⟩
  have hlt := h.lt
  rcases h.2 with h2 | ⟨g, cap, cur, rfl, hb, hg, r⟩
  · exact .inl h2
  · exact .inr ⟨g, cap, cur, rfl, hb, (hk g hb (hlt g rfl).2).trans hg, r⟩
open Go.Sort Go.Lib in
theorem impl_SortOwn (v : Value) (xs : List Int) (base : Nat) (w : World) (h : w.ownsRow base 3 1 v xs.length (xs.map (Value.int .i64))) (hv : v ≠ .slice none 0 0) (hn : xs.length ≤ 2000000) :
    Calls Tryz.prog 47 #[v] w fun e w' => e = .returned (.tuple #[]) ∧ (∃ ys : List Int, ys.Perm xs ∧ ys.Pairwise (· ≤ ·) ∧ w'.ownsRow base 3 1 v ys.length (ys.map (Value.int .i64))) ∧ Below base w w' := by
  obtain ⟨g, cap, rfl, hg, hgl, hc, hm, -, hH⟩ := holds_of_ownsRow h hv
  refine (Tryz.slices_Sort_int g 0 cap xs w hH hgl (by omega)).mono ?_
  rintro e w' ⟨rfl, n, os, rfl⟩
  have hp := List.mergeSort_perm xs (fun x y => decide (x ≤ y))
  have ho := ownsRow_putRow (q := n) (k := xs.length) h (ys := xs.mergeSort fun x y => decide (x ≤ y)) (by rw [hp.length_eq]) (Nat.le_refl _)
  rw [List.take_of_length_le (by rw [hp.length_eq]; exact Nat.le_refl _)] at ho
  have hpw := List.pairwise_mergeSort (le := fun x y : Int => decide (x ≤ y)) (fun a b c h1 h2 => by simp only [decide_eq_true_eq] at *; omega) (fun a b => by simp only [Bool.or_eq_true, decide_eq_true_eq]; omega) xs
  generalize hW : putRow (Value.int .i64) (Sort.ahead w n) g 0 (xs.mergeSort fun x y => decide (x ≤ y)).toArray = W at ho
  have hbW : Below base w W := by rw [← hW]; exact below_putRow (Below.refl _ _) hg
  have hbG : Below W.heap.size W (grow W os) := below_grow W os
  have hsz : base ≤ W.heap.size := by have := hbW.size; omega
  refine ⟨rfl, ⟨_, hp, hpw.imp fun h => by simpa using h, ?_⟩, hbW.trans (hbG.mono hsz)⟩
  rw [hp.length_eq]
  exact own_keep4 ho hbG.size (fun b _ hb => hbG.block b hb)
theorem oper_append1 {P : Program} (w : World) {o : Oper} {a : Act} {K : Act → World → Prop} {Q : Exit → Act → World → Prop} (s x : Operand) (t : TypeId)
    (ho : o.op = .call { callee := .builtin .append, args := #[s, x], argTypes := #[t, t] })
    (base : Nat) (e : TypeId) (z : Value) (bytes : Nat) (ht : P.underlying t = some (.slice e)) (hinf : (P.info? e).map (fun i => (i.zero, i.size, i.bytes)) = some (some z, 1, bytes)) (hzs : z.cells.size = 1)
    (v : Value) (n : Nat) (xs : List Value) (hs : a.eval s = v) (u : Value) (hu : u.oneCell' = true) (hx : a.eval x = .slice (some ⟨w.heap.size, 0, none⟩) 1 1)
    (hown : w.ownsRow base e 1 v n xs) (h63 : n + 1 ≤ maxLen) (hbytes : (n + 1) * bytes ≤ 140737488355328) (hbase : base ≤ w.heap.size)
    (h : ∀ v' w', w'.ownsRow base e 1 v' (n + 1) (xs ++ [u]) → Below base w w' → w.grownBy w' v.ownBlock → w.heap.size < w'.heap.size → (v'.ownBlock = v.ownBlock ∨ ∃ g, v'.ownBlock = some g ∧ w.heap.size ≤ g ∧ g < w'.heap.size) → K (a.put o.dst v') w') :
    Oper.wp P o a (w.alloc (.cells #[u] e)) K Q := by
  obtain ⟨i, hi, hz0, hz1, hz2⟩ := info_parts hinf
  have hown1 := hown.alloc (.cells #[u] e)
  have hcell : (w.alloc (.cells #[u] e)).cell? ⟨w.heap.size, 0, none⟩ = some u := by rw [World.cell?_alloc_at _ _ _ _ rfl]; rfl
  have hnews : ∀ j u', ([u] : List Value)[j]? = some u' → (w.alloc (.cells #[u] e)).cell? ((⟨w.heap.size, 0, none⟩ : Addr).add j) = some u' := by
    intro j u' hj
    match j, hj with
    | 0, hj =>
      have : u = u' := by simpa using hj
      subst this
      exact hcell
  obtain ⟨v', w', hrun, h2, h3, _, h5⟩ := run_append_own_at (P := P) (w.alloc (.cells #[u] e)) base t o.type e i z 1 bytes ht hi hz0 hz1 hz2 hzs (by decide) v n xs hown1 ⟨w.heap.size, 0, none⟩ 1 1 [u] rfl hnews
    (by intro u' hu'; have : u' = u := by simpa using hu'
        subst this; exact hu) h63 hbytes (by simp; omega)
  have hg : w.grownBy w' v.ownBlock := by
    have h0 := World.grownBy_alloc w (.cells #[u] e) v.ownBlock
    exact ⟨h3.os.trans h0.os, h3.tape.trans h0.tape, h3.output.trans h0.output, Nat.le_trans h0.size h3.size, fun k hk hne => (h3.block k (Nat.lt_of_lt_of_le hk h0.size) hne).trans (h0.block k hk hne)⟩
  have hsz : w.heap.size < w'.heap.size := by have := h3.size; simp at this; omega
  have hB : Below base w w' := (Below.refl base w).grown hg hbase (fun k hk => (hown.lt k hk).1)
  unfold Oper.wp execOp
  simp only [ho, resolve, invoke, builtin, Sem.run_bind, Sem.run_pure, Result.andThen_ok, List.map_toArray, List.map_cons, List.map_nil, hs, hx, hrun]
  refine h v' w' h2 hB hg hsz ?_
  rcases h5 with h5 | h5
  · exact .inl h5
  · refine .inr ⟨_, h5, by simp, ?_⟩
    exact (h2.lt _ h5).2
theorem ownA3 {w : World} {base g : Nat} {x : Int} (h : w.heap[g]? = some (.cells #[.int .i64 x] 3 (0, 0))) (hb : base ≤ g) : w.ownsRow base 3 1 (.slice (some ⟨g, 0, none⟩) 1 1) [x].length ([x].map intV) :=
  ⟨by simp, .inr ⟨g, 1, _, rfl, hb, h, Nat.le_refl _, by unfold maxLen; omega, rfl, rfl⟩⟩
set_option maxRecDepth 100000 in
theorem impl_Repeat0 (x : Int) (k g0 : Nat) (w : World) (hg : NumsAt w g0 [x]) (hk : k = 0) :
    Calls Tryz.prog 78 #[.slice (some ⟨g0, 0, none⟩) 1 1, .int .i64 (k : Int)] w fun e w' => e = .returned (.slice (some ⟨w.heap.size, 0, none⟩) k k) ∧ NumsAt w' w.heap.size (List.replicate k x) ∧ Below w.heap.size w w' := by
  have hmk := fun W => run_make1 (P := Tryz.prog) 28 3 (.int .i64 0) 8 Tryz.underlying28 intInfo rfl k (by omega) (by omega) W
  have hN0 : NumsAt (w.alloc (.cells (rowOf [] k (.int .i64 0)) 3)) w.heap.size (List.replicate k 0) := by
    unfold NumsAt
    rw [heap_alloc_new]
    simp [rowOf, intV]
  have hm1 : Nat.min 1 k = 0 := by rw [hk]; rfl
  have hcp := copy_nums (c := k) (n := k) (m := 1) (c' := 1) (o := 0) (gs := g0) (so := 0) (ss := [x]) hN0 (fun j hj => by omega) (by omega) (by omega)
  rw [hm1] at hcp
  obtain ⟨w1, hw1⟩ : ∃ z, z = (w.alloc (.cells (rowOf [] k (.int .i64 0)) 3)).setRow w.heap.size (((List.replicate k (0 : Int)).take 0 ++ [x].take 0 ++ (List.replicate k (0 : Int)).drop (0 + 0)).map intV).toArray := ⟨_, rfl⟩
  rw [← hw1] at hcp
  have hN1 : NumsAt w1 w.heap.size (List.replicate k x) := by
    unfold NumsAt
    rw [hw1, setRow_heap _ _ _ _ _ _ hN0]
    simp [hk]
  have hb1 : Below w.heap.size w w1 := by
    rw [hw1]
    exact below_setRow (bl_alloc (Below.refl _ _) _) (Nat.le_refl _) _
  have HN1 := Lib.hid hN1; clear hN1 hN0 hm1
  have HB1 := Lib.hid hb1; clear hb1 hw1
  have hwk1 : IntKind.u64.wrap (k : Int) = (k : Int) := IntWalk.u64_in _ (by omega)
  have hwk2 : IntKind.i64.wrap (k : Int) = (k : Int) := IntWalk.i64_in _ (by omega)
  have HK := Lib.hid hk
  clear hk hg
  have hk2 : k ≤ 100000 := by have := HK.out; omega
  go_enter Tryz.func78, Tryz.ntmps78
  go_wp2_with (go_at_call 105; refine (mul_one k hk2 _).mono ?_; rintro e w' ⟨rfl, rfl⟩)
  go_loopw [8] (fun i wr => i = .int .i64 0 ∧ wr = w1) (fun i _ => 0)
  case atStart => exact ⟨rfl, rfl⟩
  case round =>
    clear hcp
    obtain ⟨rfl, rfl⟩ := hrel
    have d0 : ¬ 0 < k := by have := HK.out; omega
    go_wp2_with fail
    go_ret
    exact ⟨rfl, HN1.out, HB1.out⟩
theorem nums_own {w : World} {g base : Nat} {d : List Int} (h : NumsAt w g d) (hb : base ≤ g) (hm : d.length ≤ 1000) : w.ownsRow base 3 1 (.slice (some ⟨g, 0, none⟩) d.length d.length) d.length (d.map intV) :=
  ⟨by simp, .inr ⟨g, d.length, _, rfl, hb, h, Nat.le_refl _, by unfold maxLen; omega, by simp, List.take_of_length_le (by simp)⟩⟩
theorem impl_Repeats (x : Int) (k g0 : Nat) (w : World) (hg : NumsAt w g0 [x]) (hk2 : k ≤ 1000) :
    Calls Tryz.prog 78 #[.slice (some ⟨g0, 0, none⟩) 1 1, .int .i64 (k : Int)] w fun e w' => ∃ v, e = .returned v ∧ w'.ownsRow w.heap.size 3 1 v k ((List.replicate k x).map intV) ∧ Below w.heap.size w w' := by
  have h : Calls Tryz.prog 78 #[.slice (some ⟨g0, 0, none⟩) 1 1, .int .i64 (k : Int)] w fun e w' => e = .returned (.slice (some ⟨w.heap.size, 0, none⟩) k k) ∧ NumsAt w' w.heap.size (List.replicate k x) ∧ Below w.heap.size w w' := by
    rcases Nat.eq_zero_or_pos k with h0 | h0
    · exact impl_Repeat0 x k g0 w hg h0
    · exact impl_Repeat x k g0 w hg h0 (by omega)
  refine h.mono ?_
  rintro e w' ⟨rfl, hn, hb⟩
  have ho := nums_own hn (Nat.le_refl _) (by rw [List.length_replicate]; exact hk2)
  rw [List.length_replicate] at ho
  exact ⟨_, rfl, ho, hb⟩
end Go.Proofs.YtjhljipehnmbnaaGreat
