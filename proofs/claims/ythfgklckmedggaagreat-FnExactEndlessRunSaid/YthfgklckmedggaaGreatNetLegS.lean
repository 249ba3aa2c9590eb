/-
  Which states are legal, the reference's side: ssFar, clProper, ssLegal, IsLegalState.
-/
import Derived.Test.YthfgklckmedggaaGreatPlainLegal
import Derived.Test.YthfgklckmedggaaGreatNetNextV
namespace Go.Proofs.YthfgklckmedggaaGreat
open Go.RowKit
set_option linter.unusedVariables false
set_option linter.unusedSimpArgs false
def SmRel (xs ys : List Int) (w : World) (i : Value) (wr : World) : Prop := ∃ k m : Nat, k ≤ xs.length ∧ i = .int .i64 k ∧ wr = w.drewN m ∧ ∀ j, j < k → xs[j]? = ys[j]?
theorem same_all {xs ys : List Int} (hl : xs.length = ys.length) (h : ∀ j, j < xs.length → xs[j]? = ys[j]?) : xs = ys := List.ext_getElem? fun j => by
  by_cases hj : j < xs.length
  · exact h j hj
  · rw [List.getElem?_eq_none (by omega), List.getElem?_eq_none (by omega)]
set_option maxRecDepth 100000 in
theorem spec_l1Same (v v' : Value) (xs ys : List Int) (w : World) (h : IntsR w w.heap.size v xs) (h' : IntsR w w.heap.size v' ys) :
    Calls Tryz.prog 104 #[v, v'] w fun e w' => e = .returned (.bool (decide (xs = ys))) ∧ ∃ m, w' = w.drewN m := by
  obtain ⟨A, c, rfl, h1, h2, h3⟩ := h.open_
  obtain ⟨A', c', rfl, h1', h2', h3'⟩ := h'.open_
  unfold maxLen at h2 h2'
  clear h h'
  go_enter Tryz.func104, Tryz.ntmps104
  by_cases hl : xs.length = ys.length
  · have HL := Lib.hid hl
    have kl : ((xs.length : Int) != (ys.length : Int)) = false := by rw [hl]; simp
    have kl2 : (xs.length : Int) = (ys.length : Int) := by rw [hl]
    have hle : xs.length ≤ ys.length := by omega
    clear hl
    go_wp2_with fail
    go_loopw [13, 5] (fun i _ wr => SmRel xs ys w i wr) (fun i _ _ => xs.length - (intOf i).toNat)
    case atStart => exact ⟨0, 0, Nat.zero_le _, rfl, rfl, fun j hj => by omega⟩
    case round =>
      obtain ⟨k, m, hk, rfl, rfl, hsm⟩ := hrel
      have HSM := Lib.hid hsm; clear hsm
      by_cases hlt : k < xs.length
      · obtain ⟨x, hx⟩ : ∃ x, xs[k]? = some x := ⟨xs[k], List.getElem?_eq_getElem hlt⟩
        obtain ⟨y, hy⟩ : ∃ y, ys[k]? = some y := ⟨ys[k], List.getElem?_eq_getElem (by omega)⟩
        obtain ⟨ad, rfl, hb, hc⟩ := h3 (by omega)
        obtain ⟨ad', rfl, hb', hc'⟩ := h3' (by omega)
        have hky : k < ys.length := by omega
        have hcell : (w.drewN m).cell? (ad.add k) = some (.int .i64 x) := hc k x hx
        have hcell' : (w.drewN m).cell? (ad'.add k) = some (.int .i64 y) := hc' k y hy
        have k1 := hc k x hx
        have k2 := hc' k y hy
        have HX := Lib.hid (And.intro hx hy)
        clear h3 h3' hc hc' hx hy
        by_cases e : x = y
        · have HN := Lib.hid (show ∀ j, j < k + 1 → xs[j]? = ys[j]? from fun j hj => by
            rcases Nat.lt_or_ge j k with h | h
            · exact HSM.out j h
            · obtain rfl : j = k := by omega
              rw [HX.out.1, HX.out.2, e])
          subst e
          go_wp2_with fail
          go_quiet (fail)
          go_wp2_with fail
          go_roundw
          case rel => exact ⟨k + 1, m + nq, by omega, by go_num, rfl, HN.out⟩
          case measure => simp [intOf]; omega
        · have HF := Lib.hid (show false = decide (xs = ys) from (decide_eq_false fun e2 => e (by have := HX.out; rw [e2] at this; exact Option.some.inj (this.1.symm.trans this.2))).symm)
          have ke : (x != y) = true := by simpa using e
          go_wp2_with fail
          go_quiet (fail)
          go_wp2_with fail
          go_ret
          exact ⟨ret_bool HF.out, m + nq, World.drewN_drewN _ _ _⟩
      · have HT := Lib.hid (show true = decide (xs = ys) from (decide_eq_true (same_all HL.out fun j hj => HSM.out j (by omega))).symm)
        go_wp2_with fail
        go_ret
        exact ⟨ret_bool HT.out, m, rfl⟩
  · have HF := Lib.hid (show false = decide (xs = ys) from (decide_eq_false fun e => hl (by rw [e])).symm)
    have hln : ¬ ((xs.length : Int) = (ys.length : Int)) := by omega
    clear hl
    go_wp2_with fail
    go_ret
    exact ⟨ret_bool HF.out, 0, rfl⟩
def lstep (d : List Int) (out : Int) (w : Int) : Int := if 0 ≤ gd d w.toNat ∧ (out < 0 ∨ gd d w.toNat < out) then gd d w.toNat else out
def leastTo (d set : List Int) (k : Nat) : Int := leastD d (set.take k)
theorem leastTo_succ {d set : List Int} {k : Nat} {w : Int} (h : set[k]? = some w) : leastTo d set (k + 1) = if 0 ≤ gd d w.toNat ∧ (leastTo d set k < 0 ∨ gd d w.toNat < leastTo d set k) then gd d w.toNat else leastTo d set k := by
  unfold leastTo leastD
  rw [List.take_add_one, h, List.foldl_append]
  rfl
theorem leastTo_bd {d set : List Int} {b : Int} (hd : ∀ x ∈ d, x ≤ b) (hb : -1 ≤ b) : ∀ k, leastTo d set k ≤ b ∧ -1 ≤ leastTo d set k
  | 0 => by unfold leastTo leastD; simp; omega
  | k + 1 => by
    obtain ⟨h1, h2⟩ := leastTo_bd (set := set) hd hb k
    cases hs : set[k]? with
    | none =>
      have hk := List.getElem?_eq_none_iff.1 hs
      unfold leastTo at h1 h2 ⊢
      rw [List.take_of_length_le (by omega)] at h1 h2 ⊢
      exact ⟨h1, h2⟩
    | some w =>
      rw [leastTo_succ hs]
      split
      · rename_i hc
        refine ⟨?_, by omega⟩
        have hl := gd_lt hc.1
        have := hd _ (List.getElem_mem hl)
        unfold gd
        rw [List.getD_eq_getElem?_getD, List.getElem?_eq_getElem hl]
        exact this
      · exact ⟨h1, h2⟩
def RuRel (d set : List Int) (w : World) (v i : Value) (wr : World) : Prop := w = wr ∧ ∃ k : Nat, k ≤ set.length ∧ i = .int .i64 k ∧ v = .int .i64 (leastTo d set k)
set_option maxRecDepth 100000 in
set_option maxHeartbeats 1000000 in
theorem spec_ruFar (ve vi vn vs : Value) (n : Net) (set : List Int) (v : Nat) (w : World) (h : NetR w w.heap.size ve vi vn n) (hp : netP n) (hs : IntsR w w.heap.size vs set) (hset : ∀ r ∈ set, 0 ≤ r ∧ r.toNat < n.es.length) (hv : v < n.es.length) :
    Calls Tryz.prog 128 #[.agg #[ve, vi, vn], vs, .int .i64 (v : Int)] w fun e w' => e = .returned (.int .i64 (leastD (far n.es v) set)) ∧ Below w.heap.size w w' := by
  have h40 := hp.1.2
  have HP := Lib.hid hp
  obtain ⟨hfl, hfb⟩ := far_ok hp.endsIn hv
  have HFB := Lib.hid hfb
  have hfl2 : n.es.length ≤ (far n.es v).length ∧ (far n.es v).length ≤ 40 := by omega
  have HSET := Lib.hid hset
  have HSS := Lib.hid hs
  obtain ⟨As, cs, rfl, hcl, hcm, hsc⟩ := hs.open_
  unfold maxLen at hcm
  have HSC := Lib.hid hsc
  clear hs hsc hp hfl hfb hset
  obtain ⟨⟨A0, m0, c0, rfl⟩, ⟨A1, m1, c1, rfl⟩, A2, m2, c2, rfl⟩ := h.slices
  obtain ⟨w0, hw0, hB, HD, hz0, HS0⟩ := box3 w (.slice A0 m0 c0) (.slice A1 m1 c1) (.slice A2 m2 c2) 31
  have HN0 := Lib.hid h; have HN := Lib.hid (h.up hB); clear h
  have HW0 := Lib.hid hw0; clear hw0
  obtain ⟨q0, q1, q2, qf⟩ := cells3 HD
  go_enter Tryz.func128, Tryz.ntmps128
  go_wp2_with fail
  rw [← HW0.out]
  refine (spec_meFrom _ _ _ n v w0 HN.out HP.out hv).mono ?_
  rintro e w1 ⟨u, rfl, -, hu, hb1⟩
  have hzhb1 := hb1.size
  clear q0 q1 q2 qf
  replace HD := bk HD hb1
  replace HN := Lib.hid (HN.out.up hb1)
  replace hB := bl_trans hB hb1
  obtain ⟨q0, q1, q2, qf⟩ := cells3 HD
  obtain ⟨d, hd⟩ : ∃ z, z = far n.es v := ⟨_, rfl⟩
  rw [← hd] at hu hfl2 HFB
  have HDE := Lib.hid hd; clear hd
  obtain ⟨Af, cf, rfl, -, hfm, hfc⟩ := hu.open_
  unfold maxLen at hfm
  have HFC := Lib.hid hfc
  clear hu hfc
  go_wp2_with fail
  go_loopw [7, 10, 16] (fun v _ i wr => RuRel d set w1 v i wr) (fun _ _ i _ => set.length - (intOf i).toNat)
  case atStart => exact ⟨rfl, 0, Nat.zero_le _, rfl, rfl⟩
  case round =>
    obtain ⟨rfl, k, hk, rfl, rfl⟩ := hrel
    by_cases hlt : k < set.length
    · obtain ⟨r, hr⟩ : ∃ r, set[k]? = some r := ⟨_, List.getElem?_eq_getElem hlt⟩
      obtain ⟨hr0, hr1⟩ := HSET.out r (List.mem_of_getElem? hr)
      obtain ⟨rn, rfl⟩ : ∃ rn : Nat, r = rn := ⟨r.toNat, by omega⟩
      rw [Int.toNat_natCast] at hr1
      obtain ⟨f, hf⟩ : ∃ f, d[rn]? = some f := ⟨_, List.getElem?_eq_getElem (by omega)⟩
      obtain ⟨sd, rfl, hsb, hsx⟩ := HSC.out (by omega)
      obtain ⟨fd, rfl, hfb, hfx⟩ := HFC.out (by omega)
      have hcs := (hB.cell (p := sd.add k) (by rw [block_add]; exact hsb)).trans (hsx k _ hr)
      have hcf := hfx rn f hf
      have hrd : rn < d.length := by omega
      have HST := Lib.hid (leastTo_succ (d := d) hr)
      have hg : gd d (rn : Int).toNat = f := by rw [Int.toNat_natCast]; exact getDa hf
      rw [hg] at HST
      generalize leastTo d set k = t at *
      clear hr hsx hfx hf hg
      by_cases h1 : 0 ≤ f
      · have k1 : decide (f ≥ 0) = true := decide_eq_true h1
        by_cases h2 : t < 0
        · have HE := Lib.hid (show leastTo d set (k + 1) = f by rw [HST.out, if_pos ⟨h1, .inl h2⟩])
          go_wp2_with fail
          go_roundw
          case rel => exact ⟨rfl, k + 1, by omega, by go_num, by rw [HE.out]⟩
          case measure => simp [intOf]; omega
        · by_cases h3 : f < t
          · have HE := Lib.hid (show leastTo d set (k + 1) = f by rw [HST.out, if_pos ⟨h1, .inr h3⟩])
            go_wp2_with fail
            go_roundw
            case rel => exact ⟨rfl, k + 1, by omega, by go_num, by rw [HE.out]⟩
            case measure => simp [intOf]; omega
          · have HE := Lib.hid (show leastTo d set (k + 1) = t by rw [HST.out, if_neg (by omega)])
            go_wp2_with fail
            go_roundw
            case rel => exact ⟨rfl, k + 1, by omega, by go_num, by rw [HE.out]⟩
            case measure => simp [intOf]; omega
      · have HE := Lib.hid (show leastTo d set (k + 1) = t by rw [HST.out, if_neg (by omega)])
        go_wp2_with fail
        go_roundw
        case rel => exact ⟨rfl, k + 1, by omega, by go_num, by rw [HE.out]⟩
        case measure => simp [intOf]; omega
    · have HE := Lib.hid (show leastTo d set k = leastD d set by unfold leastTo; rw [List.take_of_length_le (by omega)])
      go_wp2_with fail
      go_ret
      exact ⟨ret_int (by rw [HE.out, HDE.out]), hB⟩
def rootsTo (ins : List Int) (k : Nat) : List Int := ((List.range k).filter fun v => ins.getD v 0 == 1).map fun (v : Nat) => (v : Int)
theorem rootsTo_succ {ins : List Int} {k : Nat} {x : Int} (h : ins[k]? = some x) : rootsTo ins (k + 1) = rootsTo ins k ++ (if x = 1 then [(k : Int)] else []) := by
  unfold rootsTo
  rw [List.range_succ, List.filter_append, List.map_append]
  congr 1
  by_cases e : x = 1
  · rw [if_pos e, List.filter_cons, if_pos (by rw [getDa h]; simpa using e)]; rfl
  · rw [if_neg e, List.filter_cons, if_neg (by rw [getDa h]; simpa using e)]; rfl
theorem rootsTo_len (ins : List Int) (k : Nat) : (rootsTo ins k).length ≤ k := by
  unfold rootsTo
  rw [List.length_map]
  exact Nat.le_trans (List.length_filter_le _ _) (by simp)
def SfRel (n : Net) (w : World) (v i : Value) (wr : World) : Prop :=
  ∃ k : Nat, k ≤ n.ins.length ∧ i = .int .i64 k ∧ wr.ownsRow w.heap.size 3 1 v (rootsTo n.ins k).length ((rootsTo n.ins k).map intV) ∧ Below w.heap.size w wr
def SoRel (n : Net) (w : World) (v i : Value) (wr : World) : Prop :=
  ∃ k : Nat, k ≤ n.es.length ∧ i = .int .i64 k ∧ wr.ownsRow w.heap.size 3 1 v k (((farT n).take k).map intV) ∧ Below w.heap.size w wr
theorem farV_bd {n : Net} (h : netP n) {v : Nat} (hv : v < n.es.length) : 0 ≤ farV n v ∧ farV n v ≤ 40 := by
  have h40 := h.1.2
  obtain ⟨k1, k2⟩ := far_ok h.endsIn hv
  obtain ⟨h1, h2⟩ := leastTo_bd (set := rootsL n.ins) (b := 40) (fun x hx => by rcases k2 x hx with h | h <;> omega) (by omega) (rootsL n.ins).length
  unfold leastTo at h1 h2
  rw [List.take_length] at h1 h2
  unfold farV
  split <;> omega
theorem farT_at {n : Net} {v : Nat} (hv : v < n.es.length) : (farT n)[v]? = some (farV n v) := by unfold farT; rw [List.getElem?_map, List.getElem?_range hv]; rfl
theorem farT_I64 {n : Net} (h : netP n) : ∀ x ∈ farT n, I64 x := fun x hx => by
  unfold farT at hx
  obtain ⟨v, hv, rfl⟩ := List.mem_map.1 hx
  have := farV_bd h (List.mem_range.1 hv)
  unfold I64
  omega
theorem farT_len (n : Net) : (farT n).length = n.es.length := by simp [farT]
set_option maxRecDepth 100000 in
set_option maxHeartbeats 1000000 in
theorem spec_ssFar (ve vi vn : Value) (n : Net) (w : World) (h : NetR w w.heap.size ve vi vn n) (hp : netP n) :
    Calls Tryz.prog 105 #[.agg #[ve, vi, vn]] w fun e w' => ∃ u, e = .returned u ∧ IntsR w' w'.heap.size u (farT n) ∧ Below w.heap.size w w' := by
  have h40 := hp.1
  have hin := hp.2.2.1
  have hil : n.es.length ≤ n.ins.length ∧ n.ins.length ≤ n.es.length := by omega
  have HP := Lib.hid hp
  clear hp hin
  obtain ⟨⟨A0, m0, c0, rfl⟩, ⟨A1, m1, c1, rfl⟩, A2, m2, c2, rfl⟩ := h.slices
  obtain ⟨w0, hw0, hB, HD, hz0, HS0⟩ := box3 w (.slice A0 m0 c0) (.slice A1 m1 c1) (.slice A2 m2 c2) 31
  have HN0 := Lib.hid h; have HN := Lib.hid (h.up hB); clear h
  have HW0 := Lib.hid hw0; clear hw0
  obtain ⟨q0, q1, q2, qf⟩ := cells3 HD
  go_enter Tryz.func105, Tryz.ntmps105
  obtain ⟨hm0, -, -⟩ := HN.out.e.len_slice
  subst hm0
  obtain ⟨hm2, -, -, -⟩ := HN.out.n.some_
  subst hm2
  go_wp2_with fail
  rw [← HW0.out]
  go_loopw [3, 5, 6, 12] (fun v _ _ i wr => SfRel n w0 v i wr) (fun _ _ _ i _ => n.ins.length - (intOf i).toNat)
  case atStart => exact ⟨0, Nat.zero_le _, rfl, World.ownsRow_nil _ _ _ _, Below.refl _ _⟩
  case round =>
    obtain ⟨k, hk, rfl, hown, hbl⟩ := hrel
    have hrl := rootsTo_len n.ins k
    have HO := Lib.hid hown
    have hwz := hbl.size
    have hzhbl := hbl.size
    clear q0 q1 q2 qf
    replace HD := bk HD hbl
    replace HN := Lib.hid (HN.out.up hbl)
    replace hB := bl_trans hB hbl
    obtain ⟨q0, q1, q2, qf⟩ := cells3 HD
    by_cases hlt : k < n.ins.length
    · obtain ⟨x, hx⟩ : ∃ x, n.ins[k]? = some x := ⟨_, List.getElem?_eq_getElem hlt⟩
      obtain ⟨-, -, -, hn2⟩ := HN.out.n.some_
      obtain ⟨ad2, rfl, -, hi⟩ := hn2 (by omega)
      have hxc := hi k x hx
      have HS := Lib.hid (rootsTo_succ hx)
      clear hi hx hn2
      by_cases hx1 : x = 1
      · subst hx1
        have HE := Lib.hid (show rootsTo n.ins (k + 1) = rootsTo n.ins k ++ [(k : Int)] from HS.out)
        go_wp2_with ((at_builtin; refine wpList_append1 wr rfl (.tmp 19) (.tmp 21) 23 rfl w0.heap.size 3 _ 8 Tryz.underlying23 intInfo rfl _ _ _ rfl _ rfl rfl HO.out (by unfold maxLen; omega) (by omega) hwz ?_; intro v' w' hown' hbl' hgr' hlt' hob'))
        go_roundw
        case rel => exact ⟨k + 1, by omega, by go_num, by rw [HE.out, List.length_append, List.map_append]; exact hown', hbl.trans hbl'⟩
        case measure => simp [intOf]; omega
      · have HE := Lib.hid (show rootsTo n.ins (k + 1) = rootsTo n.ins k by rw [HS.out, if_neg hx1, List.append_nil])
        have kx : (x == 1) = false := by simpa using hx1
        go_wp2_with fail
        go_roundw
        case rel => exact ⟨k + 1, by omega, by go_num, by rw [HE.out]; exact HO.out, hbl⟩
        case measure => simp [intOf]; omega
    · obtain rfl : k = n.ins.length := by omega
      have HSET := Lib.hid (show IntsR wr wr.heap.size u3 (rootsL n.ins) from own_intsR hown fun z hz => by have := roots_mem (ins := n.ins) hz; unfold I64; omega)
      have HRB := Lib.hid (fun r (hr : r ∈ rootsL n.ins) => show 0 ≤ r ∧ r.toNat < n.es.length by have := roots_mem hr; omega)
      clear hown
      go_wp2_with fail
      obtain ⟨wq, rfl⟩ : ∃ z, z = wr := ⟨_, rfl⟩
      go_loopw [4, 7, 8, 27] (fun v _ _ i wr => SoRel n wq v i wr) (fun _ _ _ i _ => n.es.length - (intOf i).toNat)
      case atStart => exact ⟨0, Nat.zero_le _, rfl, World.ownsRow_nil _ _ _ _, Below.refl _ _⟩
      case round =>
        obtain ⟨k, hk, rfl, hown, hbl2⟩ := hrel
        have HO2 := Lib.hid hown; clear hown
        have hwz2 := hbl2.size
        have hzhbl2 := hbl2.size
        clear q0 q1 q2 qf
        replace HD := bk HD hbl2
        replace HN := Lib.hid (HN.out.up hbl2)
        replace hB := bl_trans hB hbl2
        obtain ⟨q0, q1, q2, qf⟩ := cells3 HD
        have HSET2 := Lib.hid ((HSET.out.below hbl2).more hbl2.size)
        by_cases hlt : k < n.es.length
        · have HFA := Lib.hid (farT_at hlt)
          have hfb := farV_bd HP.out hlt
          have HF0 := Lib.hid (show farV n k = if leastD (far n.es k) (rootsL n.ins) < 0 then (n.es.length : Int) else leastD (far n.es k) (rootsL n.ins) from rfl)
          have HSN := Lib.hid (ints_snoc HFA.out)
          go_wp2_with fail
          refine (spec_ruFar _ _ _ _ n (rootsL n.ins) k wr HN.out HP.out HSET2.out HRB.out hlt).mono ?_
          rintro e w3 ⟨rfl, hb3⟩
          have HO3 := Lib.hid (own_keep4 HO2.out hb3.size fun b _ hb => hb3.block b hb)
          have hwz3 := hb3.size
          have hbl3 := bl_trans hbl2 hb3
          have hzhb3 := hb3.size
          clear q0 q1 q2 qf
          replace HD := bk HD hb3
          replace HN := Lib.hid (HN.out.up hb3)
          replace hB := bl_trans hB hb3
          obtain ⟨q0, q1, q2, qf⟩ := cells3 HD
          obtain ⟨t, ht⟩ : ∃ t, t = leastD (far n.es k) (rootsL n.ins) := ⟨_, rfl⟩
          rw [← ht] at HF0 ⊢
          clear ht
          by_cases hn : t < 0
          · have HV := Lib.hid (show farV n k = (n.es.length : Int) by rw [HF0.out, if_pos hn])
            go_wp2_with ((at_builtin; refine wpList_append1 w3 rfl (.tmp 39) (.tmp 41) 23 rfl wq.heap.size 3 _ 8 Tryz.underlying23 intInfo rfl _ _ _ rfl _ rfl rfl HO3.out (by unfold maxLen; omega) (by omega) hbl3.size ?_; intro v' w' hown' hbl' hgr' hlt' hob'))
            go_roundw
            case rel => exact ⟨k + 1, by omega, by go_num, by rw [HSN.out, HV.out]; exact hown', hbl3.trans hbl'⟩
            case measure => simp [intOf]; omega
          · have HV := Lib.hid (show farV n k = t by rw [HF0.out, if_neg hn])
            go_wp2_with ((at_builtin; refine wpList_append1 w3 rfl (.tmp 39) (.tmp 41) 23 rfl wq.heap.size 3 _ 8 Tryz.underlying23 intInfo rfl _ _ _ rfl _ rfl rfl HO3.out (by unfold maxLen; omega) (by omega) hbl3.size ?_; intro v' w' hown' hbl' hgr' hlt' hob'))
            go_roundw
            case rel => exact ⟨k + 1, by omega, by go_num, by rw [HSN.out, HV.out]; exact hown', hbl3.trans hbl'⟩
            case measure => simp [intOf]; omega
        · have HFT := Lib.hid (show IntsR wr wr.heap.size u4 (farT n) from by
            have h := HO2.out
            rw [List.take_of_length_le (by rw [farT_len]; omega)] at h
            exact own_intsR h (farT_I64 HP.out))
          go_wp2_with fail
          go_ret
          exact ⟨_, rfl, HFT.out, hB⟩
theorem propB_dec (p : Prop) [Decidable p] : propB p = decide p := by
  by_cases h : p
  · rw [propB_t h, decide_eq_true h]
  · rw [propB_f h, decide_eq_false h]
/-- No clash at the nodes below k, with those from there on. -/
def ImTo (n : Net) (ss : List Int) (k : Nat) : Prop := ∀ (u : Nat) (l : List (Int × Int)), u < k → n.es[u]? = some l → ∀ v, u ≤ v → v < n.es.length → (v : Int) ∈ nearL l → ss.getD u 0 ≠ ss.getD v 0
theorem near_iff {l : List (Int × Int)} {x : Int} : x ∈ nearL l ↔ ∃ e ∈ l, e.1 = x := by unfold nearL; simp
theorem ImTo.fin {n : Net} {ss : List Int} (hp : netP n) (h : ImTo n ss n.es.length) : ¬ clashP n ss := by
  rintro ⟨v, l, e, hl, he, hc⟩
  have hvl := (List.getElem?_eq_some_iff.1 hl).1
  have he1 := hp.endsIn l (List.mem_of_getElem? hl) e he
  by_cases hle : v ≤ e.1.toNat
  · exact h v l hvl hl e.1.toNat hle he1.2 (near_iff.2 ⟨e, he, by omega⟩) hc
  · obtain ⟨m, hm, e', he', hv'⟩ := hp.adj_symm v e.1.toNat ⟨l, hl, e, he, rfl⟩
    have he2 := hp.endsIn m (List.mem_of_getElem? hm) e' he'
    exact h e.1.toNat m he1.2 hm v (by omega) hvl (near_iff.2 ⟨e', he', by omega⟩) hc.symm
theorem clash_of {n : Net} {ss : List Int} {u v : Nat} {l : List (Int × Int)} (hl : n.es[u]? = some l) (hm : (v : Int) ∈ nearL l) (hc : ss.getD u 0 = ss.getD v 0) : clashP n ss := by
  obtain ⟨e, he, h1⟩ := near_iff.1 hm
  exact ⟨u, l, e, hl, he, by rw [show e.1.toNat = v by omega]; exact hc⟩
def ImRel (n : Net) (ss : List Int) (w : World) (i : Value) (wr : World) : Prop := ∃ k : Nat, k ≤ n.es.length ∧ i = .int .i64 k ∧ ImTo n ss k ∧ Below w.heap.size w wr
def IiRel (n : Net) (ss : List Int) (u : Nat) (l : List (Int × Int)) (w : World) (i : Value) (wr : World) : Prop := ∃ v : Nat, u ≤ v ∧ v ≤ n.es.length ∧ i = .int .i64 v ∧ (∀ v', u ≤ v' → v' < v → (v' : Int) ∈ nearL l → ss.getD u 0 ≠ ss.getD v' 0) ∧ Below w.heap.size w wr
set_option maxRecDepth 100000 in
set_option maxHeartbeats 1000000 in
theorem spec_imEdge (ve vi vn vs : Value) (n : Net) (ss : List Int) (w : World) (h : NetR w w.heap.size ve vi vn n) (hp : netP n) (hs : IntsR w w.heap.size vs ss) (hS : StB n ss) :
    Calls Tryz.prog 129 #[.agg #[ve, vi, vn], vs] w fun e w' => ∃ a b, e = .returned (.tuple #[.int .i64 a, .int .i64 b, .bool (propB (clashP n ss))]) ∧ Below w.heap.size w w' := by
  have h40 := hp.1
  have HP := Lib.hid hp; clear hp
  have HSS := Lib.hid hs
  obtain ⟨As, cs, rfl, -, -, hsc⟩ := hs.open_
  have hssl : n.es.length ≤ ss.length ∧ ss.length ≤ n.es.length := by have := hS.1; omega
  obtain ⟨sd, rfl, hsb, hsx⟩ := hsc (by omega)
  have HSX := Lib.hid hsx; clear hs hsc hsx hS
  obtain ⟨⟨A0, m0, c0, rfl⟩, ⟨A1, m1, c1, rfl⟩, A2, m2, c2, rfl⟩ := h.slices
  obtain ⟨w0, hw0, hB, HD, hz0, HS0⟩ := box3 w (.slice A0 m0 c0) (.slice A1 m1 c1) (.slice A2 m2 c2) 31
  have HN0 := Lib.hid h; have HN := Lib.hid (h.up hB); clear h
  have HW0 := Lib.hid hw0; clear hw0
  obtain ⟨q0, q1, q2, qf⟩ := cells3 HD
  obtain ⟨hm0, -, -⟩ := HN.out.e.len_slice
  subst hm0
  go_enter Tryz.func129, Tryz.ntmps129
  go_wp2_with fail
  rw [← HW0.out]
  go_loopw [7, 13] (fun _ i wr => ImRel n ss w0 i wr) (fun _ i _ => n.es.length - (intOf i).toNat)
  case atStart => exact ⟨0, Nat.zero_le _, rfl, fun _ _ h => by omega, Below.refl _ _⟩
  case round =>
    obtain ⟨k, hk, rfl, him, hbl⟩ := hrel
    have HIM := Lib.hid him; clear him
    have hwz := hbl.size
    have hzhbl := hbl.size
    clear q0 q1 q2 qf
    replace HD := bk HD hbl
    replace HN := Lib.hid (HN.out.up hbl)
    replace hB := bl_trans hB hbl
    obtain ⟨q0, q1, q2, qf⟩ := cells3 HD
    by_cases hlt : k < n.es.length
    · obtain ⟨l, hl⟩ : ∃ l, n.es[k]? = some l := ⟨_, List.getElem?_eq_getElem hlt⟩
      have hl6 := HP.out.len hl
      have HL := Lib.hid hl; clear hl
      go_wp2_with fail
      refine (spec_neNear _ _ _ n k l wr HN.out HL.out (by omega)).mono ?_
      rintro e w3 ⟨u, rfl, ⟨A5, m5, c5, rfl⟩, hu, hb3, -⟩
      have HU := Lib.hid hu; clear hu
      have hzhb3 := hb3.size
      clear q0 q1 q2 qf
      replace HD := bk HD hb3
      replace HN := Lib.hid (HN.out.up hb3)
      replace hB := bl_trans hB hb3
      obtain ⟨q0, q1, q2, qf⟩ := cells3 HD
      have hbl3 := bl_trans hbl hb3
      go_wp2_with fail
      obtain ⟨wq, rfl⟩ : ∃ z, z = w3 := ⟨_, rfl⟩
      go_loopw [9] (fun i wr => IiRel n ss k l wq i wr) (fun i _ => n.es.length - (intOf i).toNat)
      case atStart => exact ⟨k, Nat.le_refl _, hk, rfl, fun _ h1 h2 => by omega, Below.refl _ _⟩
      case round =>
        obtain ⟨v, hkv, hv, rfl, hii, hbl4⟩ := hrel
        have HII := Lib.hid hii; clear hii
        have hzhbl4 := hbl4.size
        clear q0 q1 q2 qf
        replace HD := bk HD hbl4
        replace HN := Lib.hid (HN.out.up hbl4)
        replace hB := bl_trans hB hbl4
        obtain ⟨q0, q1, q2, qf⟩ := cells3 HD
        have HU4 := Lib.hid ((HU.out.below hbl4).more hbl4.size)
        by_cases hltv : v < n.es.length
        · obtain ⟨x, hx⟩ : ∃ x, ss[k]? = some x := ⟨_, List.getElem?_eq_getElem (by omega)⟩
          obtain ⟨y, hy⟩ : ∃ y, ss[v]? = some y := ⟨_, List.getElem?_eq_getElem (by omega)⟩
          have hcx := (hB.cell (p := sd.add k) (by rw [block_add]; exact hsb)).trans (HSX.out k x hx)
          have hcy := (hB.cell (p := sd.add v) (by rw [block_add]; exact hsb)).trans (HSX.out v y hy)
          have HG := Lib.hid (And.intro (getD_at hx) (getD_at hy))
          have hks : k < ss.length ∧ v < ss.length := by omega
          clear hx hy
          go_wp2_with fail
          cases hm : hasB (nearL l) (v : Int) with
          | false =>
            have HM := Lib.hid (show (v : Int) ∉ nearL l from fun h => by rw [hasB_t h] at hm; cases hm)
            refine wp_region_held_drew (S := fun w' => w'.cell? ⟨w.heap.size, 0, none⟩ = some (.slice A0 n.es.length c0)) (by kernel_rfl) ?_ (fun hHeld => ?_)
            · go_keep
            refine tk 0 27 rfl rfl ?_
            try simp only [Act.put, pu]
            refine tk 1 28 rfl rfl ?_
            try simp only [Act.put, pu]
            refine tr 2 rfl (by kernel_rfl) (fun K hK => ?_)
            go_simp
            go_at_call 40
            refine (spec_l1Has _ (nearL l) v wr.drew (HU4.out.below (Below.refl _ _).drew)).mono ?_
            rintro e w' ⟨rfl, rfl⟩
            rw [hm]
            refine hK.out _ _ ?_ (fun hHeld => ?_)
            · go_keep
            clear hK K
            try simp only [Act.put, pu]
            refine tk 3 30 rfl rfl ?_
            try simp only [Act.put, pu]
            refine tn 4 31 rfl rfl ?_
            try simp only [Act.put, pu]
            refine tn 5 32 rfl rfl ?_
            try simp only [Act.put, pu]
            refine tn 6 33 rfl rfl ?_
            try simp only [Act.put, pu]
            refine tn 7 34 rfl rfl ?_
            try simp only [Act.put, pu]
            refine tn 8 35 rfl rfl ?_
            try simp only [Act.put, pu]
            refine tn 9 36 rfl rfl ?_
            try simp only [Act.put, pu]
            refine tn 10 37 rfl rfl ?_
            try simp only [Act.put, pu]
            refine tn 11 38 rfl rfl ?_
            try simp only [Act.put, pu]
            refine tn 12 39 rfl rfl ?_
            try simp only [Act.put, pu]
            refine tk 13 40 rfl rfl ?_
            try simp only [Act.put, pu]
            refine wpAnyH_done (by kernel_rfl) ?_ _
            go_wp2_with fail
            go_roundw
            case rel => exact ⟨v + 1, by omega, by omega, by go_num, fun v' h1 h2 => by
              rcases Nat.lt_or_ge v' v with h | h
              · exact HII.out v' h1 h
              · obtain rfl : v' = v := by omega
                exact fun hmm => absurd hmm HM.out, hbl4.drew⟩
            case measure => simp [intOf]; omega
          | true =>
            have HM := Lib.hid (show (v : Int) ∈ nearL l from propB_iff.1 hm)
            refine wp_region_held_drew (S := fun w' => w'.cell? ⟨w.heap.size, 0, none⟩ = some (.slice A0 n.es.length c0) ∧ w'.cell? (sd.add k) = some (.int .i64 x) ∧ w'.cell? (sd.add v) = some (.int .i64 y)) (by kernel_rfl) ?_ (fun hHeld => ?_)
            · go_keep
            refine tk 0 27 rfl rfl ?_
            try simp only [Act.put, pu]
            refine tk 1 28 rfl rfl ?_
            try simp only [Act.put, pu]
            refine tr 2 rfl (by kernel_rfl) (fun K hK => ?_)
            go_simp
            go_at_call 40
            refine (spec_l1Has _ (nearL l) v wr.drew (HU4.out.below (Below.refl _ _).drew)).mono ?_
            rintro e w' ⟨rfl, rfl⟩
            rw [hm]
            refine hK.out _ _ ?_ (fun hHeld => ?_)
            · go_keep
            clear hK K
            try simp only [Act.put, pu]
            refine tk 3 30 rfl rfl ?_
            try simp only [Act.put, pu]
            refine tk 4 31 rfl rfl ?_
            try simp only [Act.put, pu]
            refine tk 5 32 rfl rfl ?_
            try simp only [Act.put, pu]
            refine tk 6 33 rfl rfl ?_
            try simp only [Act.put, pu]
            refine tk 7 34 rfl rfl ?_
            try simp only [Act.put, pu]
            refine tk 8 35 rfl rfl ?_
            try simp only [Act.put, pu]
            refine tk 9 36 rfl rfl ?_
            try simp only [Act.put, pu]
            refine tk 10 37 rfl rfl ?_
            try simp only [Act.put, pu]
            refine tk 11 38 rfl rfl ?_
            try simp only [Act.put, pu]
            refine tk 12 39 rfl rfl ?_
            try simp only [Act.put, pu]
            refine tk 13 40 rfl rfl ?_
            try simp only [Act.put, pu]
            refine wpAnyH_done (by kernel_rfl) ?_ _
            by_cases hxy : x = y
            · have HF := Lib.hid (show true = propB (clashP n ss) from (propB_t (clash_of HL.out HM.out (by rw [HG.out.1, HG.out.2]; exact hxy))).symm)
              subst hxy
              go_wp2_with fail
              go_ret3
              exact ⟨_, _, by rw [← HF.out]; rfl, hB.drew⟩
            · have kxy : (x == y) = false := by simpa using hxy
              go_wp2_with fail
              go_roundw
              case rel => exact ⟨v + 1, by omega, by omega, by go_num, fun v' h1 h2 => by
                rcases Nat.lt_or_ge v' v with h | h
                · exact HII.out v' h1 h
                · obtain rfl : v' = v := by omega
                  exact fun hmm => by rw [HG.out.1, HG.out.2]; exact hxy, hbl4.drew⟩
              case measure => simp [intOf]; omega
        · go_wp2_with fail
          go_roundw
          case rel => exact ⟨k + 1, by omega, by go_num, fun u l' h1 h2 v' h3 h4 h5 => by
            rcases Nat.lt_or_ge u k with h | h
            · exact HIM.out u l' h h2 v' h3 h4 h5
            · obtain rfl : u = k := by omega
              obtain rfl := Option.some.inj (HL.out.symm.trans h2)
              exact HII.out v' h3 (by omega) h5, bl_trans hbl3 hbl4⟩
          case measure => simp [intOf]; omega
    · obtain rfl : k = n.es.length := by omega
      have HF := Lib.hid (show false = propB (clashP n ss) from (propB_f (ImTo.fin HP.out HIM.out)).symm)
      go_wp2_with fail
      go_ret3
      exact ⟨_, _, by rw [← HF.out]; rfl, hB⟩
theorem allB_st {n : Net} {ss : List Int} (hS : StB n ss) : allB ss 0 1000000000000 = true := allB_iff.2 fun x hx => by have := hS.2 x hx; omega
set_option maxRecDepth 100000 in
theorem spec_clProper (ve vi vn vs : Value) (n : Net) (ss : List Int) (w : World) (h : NetR w w.heap.size ve vi vn n) (hp : netP n) (hs : IntsR w w.heap.size vs ss) (hS : StB n ss) :
    Calls Tryz.prog 106 #[.agg #[ve, vi, vn], vs] w fun e w' => e = .returned (.bool (!propB (clashP n ss))) ∧ Below w.heap.size w w' := by
  have HP := Lib.hid hp; clear hp
  have HSS := Lib.hid hs
  obtain ⟨As, cs, rfl, -, -, -⟩ := hs.open_
  have hssl : (ss.length : Int) = (n.es.length : Int) := by have := hS.1; omega
  have hkl : ((ss.length : Int) != (n.es.length : Int)) = false := by rw [hssl]; simp
  have HS := Lib.hid hS
  have hal := allB_st hS
  clear hs hS
  obtain ⟨⟨A0, m0, c0, rfl⟩, ⟨A1, m1, c1, rfl⟩, A2, m2, c2, rfl⟩ := h.slices
  obtain ⟨w0, hw0, hB, HD, hz0, HS0⟩ := box3 w (.slice A0 m0 c0) (.slice A1 m1 c1) (.slice A2 m2 c2) 31
  have HN0 := Lib.hid h; have HN := Lib.hid (h.up hB); clear h
  have HW0 := Lib.hid hw0; clear hw0
  obtain ⟨q0, q1, q2, qf⟩ := cells3 HD
  obtain ⟨hm0, -, -⟩ := HN.out.e.len_slice
  subst hm0
  have HI := Lib.hid ((HSS.out.below hB).more hB.size)
  go_enter Tryz.func106, Tryz.ntmps106
  go_wp2_with (go_at_call 39; refine (spec_l1All _ ss _ _ _ (by rw [← HW0.out]; exact HI.out)).mono ?_; rintro e w' ⟨rfl, rfl⟩; rw [hal])
  rw [← HW0.out]
  refine (spec_imEdge _ _ _ _ n ss w0 HN.out HP.out HI.out HS.out).mono ?_
  rintro e w1 ⟨a, b, rfl, hb1⟩
  go_wp2_with fail
  go_ret
  exact ⟨rfl, bl_trans hB hb1⟩
def MutTo (n : Net) (ss : List Int) (k : Nat) : Prop := ∀ (v : Nat) (s : Int), v < k → ss[v]? = some s → 0 < s → pointsTo ss ((n.es.getD v []).getD (s - 1).toNat (0, 0)) = true
theorem MutTo.fin {n : Net} {ss : List Int} (h : MutTo n ss ss.length) : mutP n ss := fun v s hv => h v s (List.getElem?_eq_some_iff.1 hv).1 hv
theorem MutTo.next {n : Net} {ss : List Int} {k : Nat} {s : Int} (h : MutTo n ss k) (hs : ss[k]? = some s) (hp : 0 < s → pointsTo ss ((n.es.getD k []).getD (s - 1).toNat (0, 0)) = true) : MutTo n ss (k + 1) := fun v x hv hx h0 => by
  rcases Nat.lt_or_ge v k with h1 | h1
  · exact h v x h1 hx h0
  · obtain rfl : v = k := by omega
    obtain rfl := Option.some.inj (hs.symm.trans hx)
    exact hp h0
def LgRel (n : Net) (r : Int) (ss : List Int) (w : World) (i : Value) (wr : World) : Prop := ∃ k : Nat, k ≤ ss.length ∧ i = .int .i64 k ∧ (r = 4 → MutTo n ss k) ∧ Below w.heap.size w wr
theorem leg_t {n : Net} {r : Int} {ss : List Int} (h : legP n r ss) : true = legB n r ss := (propB_t h).symm
theorem leg_f {n : Net} {r : Int} {ss : List Int} (h : ¬ legP n r ss) : false = legB n r ss := (propB_f h).symm
theorem leg34 {n : Net} {r : Int} {ss : List Int} (hr : r = 3 ∨ r = 4) : legP n r ss = (enS n r ss = [] ∧ (r = 4 → mutP n ss)) := by
  unfold legP
  rw [if_neg (by omega), if_neg (by omega), if_neg (by omega)]
set_option maxRecDepth 100000 in
set_option maxHeartbeats 1000000 in
theorem spec_ssLegal (ve vi vn vs : Value) (n : Net) (r : Int) (ss : List Int) (w : World) (h : NetR w w.heap.size ve vi vn n) (ha : askP n r) (hs : IntsR w w.heap.size vs ss) (hS : Sts (cnts n r) ss) :
    Calls Tryz.prog 80 #[.agg #[ve, vi, vn], .int .i64 r, vs] w fun e w' => e = .returned (.bool (legB n r ss)) ∧ Below w.heap.size w w' := by
  have hp := ha.1
  have h40 := hp.1
  have hr15 := ha.2.1
  have HA := Lib.hid ha
  have HST := Lib.hid (hS.stB hp)
  have HP := Lib.hid hp
  have HS := Lib.hid hS; clear hS ha hp
  have HSS := Lib.hid hs
  obtain ⟨As, cs, rfl, -, -, hsc⟩ := hs.open_
  have hssl : n.es.length ≤ ss.length ∧ ss.length ≤ n.es.length := by have := HST.out.1; omega
  obtain ⟨sd, rfl, hsb, hsx⟩ := hsc (by omega)
  have HSX := Lib.hid hsx; clear hs hsc hsx
  obtain ⟨⟨A0, m0, c0, rfl⟩, ⟨A1, m1, c1, rfl⟩, A2, m2, c2, rfl⟩ := h.slices
  obtain ⟨w0, hw0, hB, HD, hz0, HS0⟩ := box3 w (.slice A0 m0 c0) (.slice A1 m1 c1) (.slice A2 m2 c2) 31
  have HN0 := Lib.hid h; have HN := Lib.hid (h.up hB); clear h
  have HW0 := Lib.hid hw0; clear hw0
  obtain ⟨q0, q1, q2, qf⟩ := cells3 HD
  obtain ⟨hm0, -, -⟩ := HN.out.e.len_slice
  subst hm0
  have HI := Lib.hid ((HSS.out.below hB).more hB.size)
  go_enter Tryz.func80, Tryz.ntmps80
  by_cases r1 : r = 1
  · subst r1
    go_wp2_with fail
    rw [← HW0.out]
    refine (spec_ssFar _ _ _ n w0 HN.out HP.out).mono ?_
    rintro e w1 ⟨u, rfl, hu, hb1⟩
    have HU := Lib.hid hu; clear hu
    replace HI := Lib.hid ((HI.out.below hb1).more hb1.size)
    have hzhb1 := hb1.size
    clear q0 q1 q2 qf
    replace HD := bk HD hb1
    replace HN := Lib.hid (HN.out.up hb1)
    replace hB := bl_trans hB hb1
    obtain ⟨q0, q1, q2, qf⟩ := cells3 HD
    go_wp2_with fail
    refine (spec_l1Same _ _ ss (farT n) w1 HI.out HU.out).mono ?_
    rintro e w2 ⟨rfl, m, rfl⟩
    go_wp2_with fail
    go_ret
    exact ⟨ret_bool (by rw [← propB_dec]; rfl), bl_drewN hB _⟩
  by_cases r2 : r = 2
  · subst r2
    go_wp2_with fail
    rw [← HW0.out]
    refine (spec_clProper _ _ _ _ n ss w0 HN.out HP.out HI.out HST.out).mono ?_
    rintro e w1 ⟨rfl, hb1⟩
    have HF := Lib.hid (show (!propB (clashP n ss)) = legB n 2 ss by
      by_cases hc : clashP n ss
      · rw [propB_t hc]; exact leg_f fun h => by unfold legP at h; rw [if_neg (by omega), if_pos rfl] at h; exact h hc
      · rw [propB_f hc]; exact leg_t (by unfold legP; rw [if_neg (by omega), if_pos rfl]; exact hc))
    go_wp2_with fail
    go_ret
    exact ⟨ret_bool HF.out, bl_trans hB hb1⟩
  by_cases r5 : r = 5
  · subst r5
    go_wp2_with fail
    rw [← HW0.out]
    refine (spec_ssEnabled _ _ _ _ n 5 ss w0 HN.out HA.out HI.out HS.out).mono ?_
    rintro e w1 ⟨u, rfl, -, hu, hb1⟩
    obtain ⟨A5, c5, rfl, -, -, -⟩ := hu.open_
    have HF := Lib.hid (show decide (((enS n 5 ss).length : Int) = 1) = legB n 5 ss by
      by_cases hc : (enS n 5 ss).length = 1
      · rw [decide_eq_true (by omega)]; exact leg_t (by unfold legP; rw [if_neg (by omega), if_neg (by omega), if_pos rfl]; exact hc)
      · rw [decide_eq_false (by omega)]; exact leg_f fun h => by unfold legP at h; rw [if_neg (by omega), if_neg (by omega), if_pos rfl] at h; exact hc h)
    clear hu
    go_wp2_with fail
    go_ret
    exact ⟨ret_bool HF.out, bl_trans hB hb1⟩
  have hr34 : r = 3 ∨ r = 4 := by omega
  have HL34 := Lib.hid (leg34 (n := n) (ss := ss) hr34)
  have k1 : (r == 1) = false := by simpa using r1
  have k2 : (r == 2) = false := by simpa using r2
  have k5 : (r == 5) = false := by simpa using r5
  go_wp2_with fail
  rw [← HW0.out]
  refine (spec_ssEnabled _ _ _ _ n r ss w0 HN.out HA.out HI.out HS.out).mono ?_
  rintro e w1 ⟨u, rfl, -, hu, hb1⟩
  obtain ⟨A5, c5, rfl, -, -, -⟩ := hu.open_
  replace HI := Lib.hid ((HI.out.below hb1).more hb1.size)
  have hzhb1 := hb1.size
  clear q0 q1 q2 qf
  replace HD := bk HD hb1
  replace HN := Lib.hid (HN.out.up hb1)
  replace hB := bl_trans hB hb1
  obtain ⟨q0, q1, q2, qf⟩ := cells3 HD
  clear hu
  by_cases hen : 0 < (enS n r ss).length
  · have HF := Lib.hid (show false = legB n r ss from leg_f fun h => by rw [HL34.out] at h; rw [h.1] at hen; simp at hen)
    have hen' : ((enS n r ss).length : Int) > 0 := by omega
    go_wp2_with fail
    go_ret
    exact ⟨ret_bool HF.out, hB⟩
  · have HEN := Lib.hid (show enS n r ss = [] from List.length_eq_zero_iff.1 (by omega))
    have hen' : ¬ ((enS n r ss).length : Int) > 0 := by omega
    generalize (enS n r ss).length = E at *
    go_wp2_with fail
    clear hen hen'
    go_loopw [7, 8, 38] (fun _ _ i wr => LgRel n r ss w1 i wr) (fun _ _ i _ => ss.length - (intOf i).toNat)
    case atStart => exact ⟨0, Nat.zero_le _, rfl, fun _ _ _ h => by omega, Below.refl _ _⟩
    case round =>
      obtain ⟨k, hk, rfl, hmt, hbl⟩ := hrel
      have HMT := Lib.hid hmt; clear hmt
      have hzhbl := hbl.size
      clear q0 q1 q2 qf
      replace HD := bk HD hbl
      replace HN := Lib.hid (HN.out.up hbl)
      replace hB := bl_trans hB hbl
      obtain ⟨q0, q1, q2, qf⟩ := cells3 HD
      by_cases hlt : k < ss.length
      · obtain ⟨s, hs⟩ : ∃ s, ss[k]? = some s := ⟨_, List.getElem?_eq_getElem hlt⟩
        have hcs := (hB.cell (p := sd.add k) (by rw [block_add]; exact hsb)).trans (HSX.out k s hs)
        by_cases r4 : r = 4
        · subst r4
          by_cases hgt : 0 < s
          · obtain ⟨l, hl⟩ : ∃ l, n.es[k]? = some l := ⟨_, List.getElem?_eq_getElem (by omega)⟩
            have hsl : s < (l.length : Int) + 1 := (HS.out.2 k ((l.length : Int) + 1) s (by unfold cnts degs; rw [if_neg (by omega), if_neg (by omega), if_pos rfl]; simp [hl]) hs).2
            have hl6 := HP.out.len hl
            obtain ⟨t, hst⟩ : ∃ t : Nat, s = (t : Int) + 1 := ⟨(s - 1).toNat, by omega⟩
            have htl : t < l.length := by omega
            obtain ⟨e, he⟩ : ∃ e, l[t]? = some e := ⟨_, List.getElem?_eq_getElem htl⟩
            obtain ⟨ad, rfl⟩ := HN.out.e.some_ (by omega)
            obtain ⟨hab, u, hu, hr⟩ := HN.out.e.at_ hl
            have HR := Lib.hid hr
            obtain ⟨A', c', rfl, hlc, hlm, -, h4⟩ := hr
            unfold maxLen at hlm
            obtain ⟨b, o', rfl, -, -⟩ := h4 (by omega)
            obtain ⟨hbb', p0, p1⟩ := HR.out.at_ he
            obtain ⟨x', p, rfl, ht, hp5⟩ := end_at HP.out hl he
            obtain ⟨x, hx, hx0, hx1⟩ := HST.out.at_ ht
            have hcx := (hB.cell (p := sd.add x') (by rw [block_add]; exact hsb)).trans (HSX.out x' x hx)
            have hts : x' < ss.length := by omega
            have hks : k < n.es.length := by omega
            dsimp only at p0 p1
            have hw0 : IntKind.i64.wrap (s - 1) = (t : Int) := by rw [show s - 1 = (t : Int) by omega]; exact IntWalk.i64_in _ (by omega)
            have hw1 : IntKind.i64.wrap ((p : Int) + 1) = (p : Int) + 1 := IntWalk.i64_in _ (by omega)
            have HPT := Lib.hid (show pointsTo ss ((n.es.getD k []).getD (s - 1).toNat (0, 0)) = (x == (p : Int) + 1) by
              rw [getDa hl, show (s - 1).toNat = t by omega, getDa he, pt_at hx])
            have HK := Lib.hid hs
            clear hl he hs hst hx ht
            go_wp2_with fail
            obtain ⟨wv, hwv, hbv, HEB, hzv, HSV⟩ := box2 wr (.int .i64 (x' : Int)) (.int .i64 (p : Int)) 96
            rw [← hwv]
            obtain ⟨d0, d1, df⟩ := cells2 HEB
            have hBr := hB.size
            replace hcx := (hbv.cell (p := sd.add x') (by rw [block_add]; omega)).trans hcx
            clear hwv hu p0 p1 q0 q1 q2 qf hcs
            refine wp_region_held_drew (S := fun w' => w'.cell? ⟨wr.heap.size, 0, none⟩ = some (.int .i64 (x' : Int)) ∧ w'.cell? ⟨wr.heap.size, 1, none⟩ = some (.int .i64 (p : Int)) ∧ w'.cell? (sd.add x') = some (.int .i64 x)) (by kernel_rfl) ?_ (fun hHeld => ?_)
            · go_keep
            refine tk 0 58 rfl rfl ?_
            try simp only [Act.put, pu]
            refine tk 1 59 rfl rfl ?_
            try simp only [Act.put, pu]
            refine tk 2 60 rfl rfl ?_
            try simp only [Act.put, pu]
            refine tk 3 61 rfl rfl ?_
            try simp only [Act.put, pu]
            refine tk 4 62 rfl rfl ?_
            try simp only [Act.put, pu]
            refine tk 5 63 rfl rfl ?_
            try simp only [Act.put, pu]
            refine tk 6 64 rfl rfl ?_
            try simp only [Act.put, pu]
            refine tk 7 65 rfl rfl ?_
            try simp only [Act.put, pu]
            refine tk 8 66 rfl rfl ?_
            try simp only [Act.put, pu]
            refine wpAnyH_done (by kernel_rfl) ?_ _
            by_cases hxp : x = (p : Int) + 1
            · have HQ := Lib.hid (show (4 : Int) = 4 → MutTo n ss (k + 1) from fun h4 => (HMT.out (by simp)).next HK.out fun _ => by rw [HPT.out, hxp]; simp)
              subst hxp
              go_wp2_with fail
              go_roundw
              case rel => exact ⟨k + 1, by omega, by go_num, HQ.out, (bl_trans hbl hbv).drew⟩
              case measure => simp [intOf]; omega
            · have HF := Lib.hid (show false = legB n 4 ss from leg_f fun h => by
                rw [HL34.out] at h
                have := h.2 (by simp) k s HK.out hgt
                rw [HPT.out] at this
                exact hxp (by simpa using this))
              have kxp : (x != (p : Int) + 1) = true := by simpa using hxp
              go_wp2_with fail
              go_ret
              exact ⟨ret_bool HF.out, (bl_trans hB hbv).drew⟩
          · have HQ := Lib.hid (show (4 : Int) = 4 → MutTo n ss (k + 1) from fun h4 => (HMT.out (by simp)).next hs fun h => absurd h hgt)
            clear hs
            go_wp2_with fail
            go_roundw
            case rel => exact ⟨k + 1, by omega, by go_num, HQ.out, hbl⟩
            case measure => simp [intOf]; omega
        · clear hs
          have k4 : (r == 4) = false := by simpa using r4
          go_wp2_with fail
          go_roundw
          case rel => exact ⟨k + 1, by omega, by go_num, fun h => absurd h r4, hbl⟩
          case measure => simp [intOf]; omega
      · obtain rfl : k = ss.length := by omega
        have HF := Lib.hid (show true = legB n r ss from leg_t (by rw [HL34.out]; exact ⟨HEN.out, fun h => (HMT.out h).fin⟩))
        go_wp2_with fail
        go_ret
        exact ⟨ret_bool HF.out, hB⟩
theorem ret2bb {a b a' b' : Bool} (h1 : a = a') (h2 : b = b') : Ending.returned (.tuple #[.bool a, .bool b]) = .returned (.tuple #[.bool a', .bool b']) := by rw [h1, h2]
/-- What the reference answers. -/
noncomputable def ilB (n : Net) (r : Int) (ss : List Int) : Bool := sitB n r ss && legB n r ss
end Go.Proofs.YthfgklckmedggaaGreat
