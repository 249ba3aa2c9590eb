/-
  Which states are legal, the reference's side: ssFar, clProper, ssLegal, IsLegalState.
-/
import Derived.Test.YtdghoienjegffaaGreatQPlainLegal
import Derived.Test.YtdghoienjegffaaGreatQNetNextV
namespace Go.Proofs.YtdghoienjegffaaGreat
open Go.RowKit
set_option linter.all false
def SmRel (xs ys : List Int) (w : World) (i : Value) (wr : World) : Prop := ∃ k m : Nat, k ≤ xs.length ∧ i = .int .i64 k ∧ wr = w.drewN m ∧ ∀ j, j < k → xs[j]? = ys[j]?
theorem same_all {xs ys : List Int} (hl : xs.length = ys.length) (h : ∀ j, j < xs.length → xs[j]? = ys[j]?) : xs = ys := List.ext_getElem? fun j => by
  by_cases hj : j < xs.length
  · exact h j hj
  · rw [List.getElem?_eq_none (by omega), List.getElem?_eq_none (by omega)]
def leastTo (d set : List Int) (k : Nat) : Int := leastD d (set.take k)
theorem leastTo_succ {d set : List Int} {k : Nat} {w : Int} (h : set[k]? = some w) : leastTo d set (k + 1) = if 0 ≤ gd d w.toNat ∧ (leastTo d set k < 0 ∨ gd d w.toNat < leastTo d set k) then gd d w.toNat else leastTo d set k := by
  unfold leastTo leastD
  rw [List.take_add_one, h, List.foldl_append]
  rfl
theorem leastTo_bd {d set : List Int} {b : Int} (hd : ∀ x ∈ d, x ≤ b) (hb : -1 ≤ b) : ∀ k, leastTo d set k ≤ b ∧ -1 ≤ leastTo d set k
  | 0 => by unfold leastTo leastD; simp; omega
  | k + 1 => by
    obtain ⟨h1, h2⟩ := leastTo_bd (set := set) hd hb k
    cases hs : set[k]? with
    | none =>
      have hk := List.getElem?_eq_none_iff.1 hs
      unfold leastTo at h1 h2 ⊢
      rw [List.take_of_length_le (by omega)] at h1 h2 ⊢
      exact ⟨h1, h2⟩
    | some w =>
      rw [leastTo_succ hs]
      split
      · rename_i hc
        refine ⟨?_, by omega⟩
        have hl := gd_lt hc.1
        have := hd _ (List.getElem_mem hl)
        unfold gd
        rw [List.getD_eq_getElem?_getD, List.getElem?_eq_getElem hl]
        exact this
      · exact ⟨h1, h2⟩
def RuRel (d set : List Int) (w : World) (v i : Value) (wr : World) : Prop := w = wr ∧ ∃ k : Nat, k ≤ set.length ∧ i = .int .i64 k ∧ v = .int .i64 (leastTo d set k)
set_option maxRecDepth 100000 in
set_option maxHeartbeats 1000000 in
theorem spec_ruFar (ve vi vn vs : Value) (n : Net) (set : List Int) (v : Nat) (w : World) (h : NetR w w.heap.size ve vi vn n) (hp : netP n) (hs : IntsR w w.heap.size vs set) (hset : ∀ r ∈ set, 0 ≤ r ∧ r.toNat < n.es.length) (hv : v < n.es.length) :
  Calls Tryz.prog 148 #[.agg #[ve, vi, vn], vs, .int .i64 (v : Int)] w fun e w' => e = .returned (.int .i64 (leastD (far n.es v) set)) ∧ Below w.heap.size w w' := by
 have h40 := hp.1.2
 have HP := Lib.hid hp
 obtain ⟨hfl, hfb⟩ := far_ok hp.endsIn hv
 have HFB := Lib.hid hfb
 have hfl2 : n.es.length ≤ (far n.es v).length ∧ (far n.es v).length ≤ 40 := by omega
 have HSET := Lib.hid hset
 have HSS := Lib.hid hs
 obtain ⟨As, cs, rfl, hcl, hcm, hsc⟩ := hs.open_
 unfold maxLen at hcm
 have HSC := Lib.hid hsc
 clear hs hsc hp hfl hfb hset
 obtain ⟨⟨A0, m0, c0, rfl⟩, ⟨A1, m1, c1, rfl⟩, A2, m2, c2, rfl⟩ := h.slices
 obtain ⟨w0, hw0, hB, HD, hz0, HS0⟩ := box3 w (.slice A0 m0 c0) (.slice A1 m1 c1) (.slice A2 m2 c2) 27
 have HN0 := Lib.hid h; have HN := Lib.hid (h.up hB); clear h
 have HW0 := Lib.hid hw0; clear hw0
 obtain ⟨q0, q1, q2, qf⟩ := cells3 HD
 go_enter Tryz.func148, Tryz.ntmps148
 go_wp2_with fail
 rw [← HW0.out]
 refine (spec_meFrom _ _ _ n v w0 HN.out HP.out hv).mono ?_
 rintro e w1 ⟨u, rfl, -, hu, hb1⟩
 have hzhb1 := hb1.size
 clear q0 q1 q2 qf
 replace HD := bk HD hb1
 replace HN := Lib.hid (HN.out.up hb1)
 replace hB := bl_trans hB hb1
 obtain ⟨q0, q1, q2, qf⟩ := cells3 HD
 obtain ⟨d, hd⟩ : ∃ z, z = far n.es v := ⟨_, rfl⟩
 rw [← hd] at hu hfl2 HFB
 have HDE := Lib.hid hd; clear hd
 obtain ⟨Af, cf, rfl, -, hfm, hfc⟩ := hu.open_
 unfold maxLen at hfm
 have HFC := Lib.hid hfc
 clear hu hfc
 go_wp2_with fail
 go_loopw [7, 10, 16] (fun v _ i wr => RuRel d set w1 v i wr) (fun _ _ i _ => set.length - (intOf i).toNat)
 case atStart => exact ⟨rfl, 0, Nat.zero_le _, rfl, rfl⟩
 case round =>
  obtain ⟨rfl, k, hk, rfl, rfl⟩ := hrel
  by_cases hlt : k < set.length
  ·
   obtain ⟨r, hr⟩ : ∃ r, set[k]? = some r := ⟨_, List.getElem?_eq_getElem hlt⟩
   obtain ⟨hr0, hr1⟩ := HSET.out r (List.mem_of_getElem? hr)
   obtain ⟨rn, rfl⟩ : ∃ rn : Nat, r = rn := ⟨r.toNat, by omega⟩
   rw [Int.toNat_natCast] at hr1
   obtain ⟨f, hf⟩ : ∃ f, d[rn]? = some f := ⟨_, List.getElem?_eq_getElem (by omega)⟩
   obtain ⟨sd, rfl, hsb, hsx⟩ := HSC.out (by omega)
   obtain ⟨fd, rfl, hfb, hfx⟩ := HFC.out (by omega)
   have hcs := (hB.cell (p := sd.add k) (by rw [block_add]; exact hsb)).trans (hsx k _ hr)
   have hcf := hfx rn f hf
   have hrd : rn < d.length := by omega
   have HST := Lib.hid (leastTo_succ (d := d) hr)
   have hg : gd d (rn : Int).toNat = f := by rw [Int.toNat_natCast]; exact getDa hf
   rw [hg] at HST
   generalize leastTo d set k = t at *
   clear hr hsx hfx hf hg
   by_cases h1 : 0 ≤ f
   ·
    have k1 : decide (f ≥ 0) = true := decide_eq_true h1
    by_cases h2 : t < 0
    ·
     have HE := Lib.hid (show leastTo d set (k + 1) = f by rw [HST.out, if_pos ⟨h1, .inl h2⟩])
     go_wp2_with fail
     go_roundw
     case rel => exact ⟨rfl, k + 1, by omega, by go_num, by rw [HE.out]⟩
     case measure => simp [intOf]; omega
    ·
     by_cases h3 : f < t
     ·
      have HE := Lib.hid (show leastTo d set (k + 1) = f by rw [HST.out, if_pos ⟨h1, .inr h3⟩])
      go_wp2_with fail
      go_roundw
      case rel => exact ⟨rfl, k + 1, by omega, by go_num, by rw [HE.out]⟩
      case measure => simp [intOf]; omega
     ·
      have HE := Lib.hid (show leastTo d set (k + 1) = t by rw [HST.out, if_neg (by omega)])
      go_wp2_with fail
      go_roundw
      case rel => exact ⟨rfl, k + 1, by omega, by go_num, by rw [HE.out]⟩
      case measure => simp [intOf]; omega
   ·
    have HE := Lib.hid (show leastTo d set (k + 1) = t by rw [HST.out, if_neg (by omega)])
    go_wp2_with fail
    go_roundw
    case rel => exact ⟨rfl, k + 1, by omega, by go_num, by rw [HE.out]⟩
    case measure => simp [intOf]; omega
  ·
   have HE := Lib.hid (show leastTo d set k = leastD d set by unfold leastTo; rw [List.take_of_length_le (by omega)])
   go_wp2_with fail
   go_ret
   exact ⟨ret_int (by rw [HE.out, HDE.out]), hB⟩
def rootsTo (ins : List Int) (k : Nat) : List Int := ((List.range k).filter fun v => ins.getD v 0 == 1).map fun (v : Nat) => (v : Int)
theorem rootsTo_succ {ins : List Int} {k : Nat} {x : Int} (h : ins[k]? = some x) : rootsTo ins (k + 1) = rootsTo ins k ++ (if x = 1 then [(k : Int)] else []) := by
  unfold rootsTo
  rw [List.range_succ, List.filter_append, List.map_append]
  congr 1
  by_cases e : x = 1
  · rw [if_pos e, List.filter_cons, if_pos (by rw [getDa h]; simpa using e)]; rfl
  · rw [if_neg e, List.filter_cons, if_neg (by rw [getDa h]; simpa using e)]; rfl
theorem rootsTo_len (ins : List Int) (k : Nat) : (rootsTo ins k).length ≤ k := by
  unfold rootsTo
  rw [List.length_map]
  exact Nat.le_trans (List.length_filter_le _ _) (by simp)
def SfRel (n : Net) (w : World) (v i : Value) (wr : World) : Prop :=
  ∃ k : Nat, k ≤ n.ins.length ∧ i = .int .i64 k ∧ wr.ownsRow w.heap.size 3 1 v (rootsTo n.ins k).length ((rootsTo n.ins k).map intV) ∧ Below w.heap.size w wr
def SoRel (n : Net) (w : World) (v i : Value) (wr : World) : Prop :=
  ∃ k : Nat, k ≤ n.es.length ∧ i = .int .i64 k ∧ wr.ownsRow w.heap.size 3 1 v k (((farT n).take k).map intV) ∧ Below w.heap.size w wr
theorem farV_bd {n : Net} (h : netP n) {v : Nat} (hv : v < n.es.length) : 0 ≤ farV n v ∧ farV n v ≤ 40 := by
  have h40 := h.1.2
  obtain ⟨k1, k2⟩ := far_ok h.endsIn hv
  obtain ⟨h1, h2⟩ := leastTo_bd (set := rootsL n.ins) (b := 40) (fun x hx => by rcases k2 x hx with h | h <;> omega) (by omega) (rootsL n.ins).length
  unfold leastTo at h1 h2
  rw [List.take_length] at h1 h2
  unfold farV
  split <;> omega
theorem farT_at {n : Net} {v : Nat} (hv : v < n.es.length) : (farT n)[v]? = some (farV n v) := by unfold farT; rw [List.getElem?_map, List.getElem?_range hv]; rfl
theorem farT_I64 {n : Net} (h : netP n) : ∀ x ∈ farT n, I64 x := fun x hx => by
  unfold farT at hx
  obtain ⟨v, hv, rfl⟩ := List.mem_map.1 hx
  have := farV_bd h (List.mem_range.1 hv)
  unfold I64
  omega
theorem farT_len (n : Net) : (farT n).length = n.es.length := by simp [farT]
set_option maxRecDepth 100000 in
set_option maxHeartbeats 1000000 in
theorem spec_ssFar (ve vi vn : Value) (n : Net) (w : World) (h : NetR w w.heap.size ve vi vn n) (hp : netP n) :
  Calls Tryz.prog 102 #[.agg #[ve, vi, vn]] w fun e w' => ∃ u, e = .returned u ∧ IntsR w' w'.heap.size u (farT n) ∧ Below w.heap.size w w' ∧ w'.ownsRow w.heap.size 3 1 u (farT n).length ((farT n).map intV) := by
 have h40 := hp.1
 have hin := hp.2.2.1
 have hil : n.es.length ≤ n.ins.length ∧ n.ins.length ≤ n.es.length := by omega
 have HP := Lib.hid hp
 clear hp hin
 obtain ⟨⟨A0, m0, c0, rfl⟩, ⟨A1, m1, c1, rfl⟩, A2, m2, c2, rfl⟩ := h.slices
 obtain ⟨w0, hw0, hB, HD, hz0, HS0⟩ := box3 w (.slice A0 m0 c0) (.slice A1 m1 c1) (.slice A2 m2 c2) 27
 have HN0 := Lib.hid h; have HN := Lib.hid (h.up hB); clear h
 have HW0 := Lib.hid hw0; clear hw0
 obtain ⟨q0, q1, q2, qf⟩ := cells3 HD
 go_enter Tryz.func102, Tryz.ntmps102
 obtain ⟨hm0, -, -⟩ := HN.out.e.len_slice
 subst hm0
 obtain ⟨hm2, -, -, -⟩ := HN.out.n.some_
 subst hm2
 go_wp2_with fail
 rw [← HW0.out]
 go_loopw [3, 5, 6, 12] (fun v _ _ i wr => SfRel n w0 v i wr) (fun _ _ _ i _ => n.ins.length - (intOf i).toNat)
 case atStart => exact ⟨0, Nat.zero_le _, rfl, World.ownsRow_nil _ _ _ _, Below.refl _ _⟩
 case round =>
  obtain ⟨k, hk, rfl, hown, hbl⟩ := hrel
  have hrl := rootsTo_len n.ins k
  have HO := Lib.hid hown
  have hwz := hbl.size
  have hzhbl := hbl.size
  clear q0 q1 q2 qf
  replace HD := bk HD hbl
  replace HN := Lib.hid (HN.out.up hbl)
  replace hB := bl_trans hB hbl
  obtain ⟨q0, q1, q2, qf⟩ := cells3 HD
  by_cases hlt : k < n.ins.length
  ·
   obtain ⟨x, hx⟩ : ∃ x, n.ins[k]? = some x := ⟨_, List.getElem?_eq_getElem hlt⟩
   obtain ⟨-, -, -, hn2⟩ := HN.out.n.some_
   obtain ⟨ad2, rfl, -, hi⟩ := hn2 (by omega)
   have hxc := hi k x hx
   have HS := Lib.hid (rootsTo_succ hx)
   clear hi hx hn2
   by_cases hx1 : x = 1
   ·
    subst hx1
    have HE := Lib.hid (show rootsTo n.ins (k + 1) = rootsTo n.ins k ++ [(k : Int)] from HS.out)
    go_wp2_with ((at_builtin; refine wpList_append1 wr rfl (.tmp 19) (.tmp 21) 25 rfl w0.heap.size 3 _ 8 Tryz.underlying25 intInfo rfl _ _ _ rfl _ rfl rfl HO.out (by unfold maxLen; omega) (by omega) hwz ?_; intro v' w' hown' hbl' hgr' hlt' hob'))
    go_roundw
    case rel => exact ⟨k + 1, by omega, by go_num, by rw [HE.out, List.length_append, List.map_append]; exact hown', hbl.trans hbl'⟩
    case measure => simp [intOf]; omega
   ·
    have HE := Lib.hid (show rootsTo n.ins (k + 1) = rootsTo n.ins k by rw [HS.out, if_neg hx1, List.append_nil])
    have kx : (x == 1) = false := by simpa using hx1
    go_wp2_with fail
    go_roundw
    case rel => exact ⟨k + 1, by omega, by go_num, by rw [HE.out]; exact HO.out, hbl⟩
    case measure => simp [intOf]; omega
  ·
   obtain rfl : k = n.ins.length := by omega
   have HSET := Lib.hid (show IntsR wr wr.heap.size u3 (rootsL n.ins) from own_intsR hown fun z hz => by have := roots_mem (ins := n.ins) hz; unfold I64; omega)
   have HRB := Lib.hid (fun r (hr : r ∈ rootsL n.ins) => show 0 ≤ r ∧ r.toNat < n.es.length by have := roots_mem hr; omega)
   clear hown
   go_wp2_with fail
   obtain ⟨wq, rfl⟩ : ∃ z, z = wr := ⟨_, rfl⟩
   go_loopw [4, 7, 8, 27] (fun v _ _ i wr => SoRel n wq v i wr) (fun _ _ _ i _ => n.es.length - (intOf i).toNat)
   case atStart => exact ⟨0, Nat.zero_le _, rfl, World.ownsRow_nil _ _ _ _, Below.refl _ _⟩
   case round =>
    obtain ⟨k, hk, rfl, hown, hbl2⟩ := hrel
    have HO2 := Lib.hid hown; clear hown
    have hwz2 := hbl2.size
    have hzhbl2 := hbl2.size
    clear q0 q1 q2 qf
    replace HD := bk HD hbl2
    replace HN := Lib.hid (HN.out.up hbl2)
    replace hB := bl_trans hB hbl2
    obtain ⟨q0, q1, q2, qf⟩ := cells3 HD
    have HSET2 := Lib.hid ((HSET.out.below hbl2).more hbl2.size)
    by_cases hlt : k < n.es.length
    ·
     have HFA := Lib.hid (farT_at hlt)
     have hfb := farV_bd HP.out hlt
     have HF0 := Lib.hid (show farV n k = if leastD (far n.es k) (rootsL n.ins) < 0 then (n.es.length : Int) else leastD (far n.es k) (rootsL n.ins) from rfl)
     have HSN := Lib.hid (ints_snoc HFA.out)
     go_wp2_with fail
     refine (spec_ruFar _ _ _ _ n (rootsL n.ins) k wr HN.out HP.out HSET2.out HRB.out hlt).mono ?_
     rintro e w3 ⟨rfl, hb3⟩
     have HO3 := Lib.hid (own_keep4 HO2.out hb3.size fun b _ hb => hb3.block b hb)
     have hwz3 := hb3.size
     have hbl3 := bl_trans hbl2 hb3
     have hzhb3 := hb3.size
     clear q0 q1 q2 qf
     replace HD := bk HD hb3
     replace HN := Lib.hid (HN.out.up hb3)
     replace hB := bl_trans hB hb3
     obtain ⟨q0, q1, q2, qf⟩ := cells3 HD
     obtain ⟨t, ht⟩ : ∃ t, t = leastD (far n.es k) (rootsL n.ins) := ⟨_, rfl⟩
     rw [← ht] at HF0 ⊢
     clear ht
     by_cases hn : t < 0
     ·
      have HV := Lib.hid (show farV n k = (n.es.length : Int) by rw [HF0.out, if_pos hn])
      go_wp2_with ((at_builtin; refine wpList_append1 w3 rfl (.tmp 39) (.tmp 41) 25 rfl wq.heap.size 3 _ 8 Tryz.underlying25 intInfo rfl _ _ _ rfl _ rfl rfl HO3.out (by unfold maxLen; omega) (by omega) hbl3.size ?_; intro v' w' hown' hbl' hgr' hlt' hob'))
      go_roundw
      case rel => exact ⟨k + 1, by omega, by go_num, by rw [HSN.out, HV.out]; exact hown', hbl3.trans hbl'⟩
      case measure => simp [intOf]; omega
     ·
      have HV := Lib.hid (show farV n k = t by rw [HF0.out, if_neg hn])
      go_wp2_with ((at_builtin; refine wpList_append1 w3 rfl (.tmp 39) (.tmp 41) 25 rfl wq.heap.size 3 _ 8 Tryz.underlying25 intInfo rfl _ _ _ rfl _ rfl rfl HO3.out (by unfold maxLen; omega) (by omega) hbl3.size ?_; intro v' w' hown' hbl' hgr' hlt' hob'))
      go_roundw
      case rel => exact ⟨k + 1, by omega, by go_num, by rw [HSN.out, HV.out]; exact hown', hbl3.trans hbl'⟩
      case measure => simp [intOf]; omega
    ·
     have HFT := Lib.hid (show IntsR wr wr.heap.size u4 (farT n) from by
      have h := HO2.out
      rw [List.take_of_length_le (by rw [farT_len]; omega)] at h
      exact own_intsR h (farT_I64 HP.out))
     have HFO := Lib.hid (show wr.ownsRow w.heap.size 3 1 u4 (farT n).length ((farT n).map intV) from by
      have h := HO2.out
      rw [List.take_of_length_le (by rw [farT_len]; omega)] at h
      rw [show k = (farT n).length by rw [farT_len]; omega] at h
      exact own_mono h (show w.heap.size ≤ wq.heap.size by omega))
     go_wp2_with fail
     go_ret
     exact ⟨_, rfl, HFT.out, hB, HFO.out⟩
theorem propB_dec (p : Prop) [Decidable p] : propB p = decide p := by
  by_cases h : p
  · rw [propB_t h, decide_eq_true h]
  · rw [propB_f h, decide_eq_false h]
theorem allB_st {n : Net} {ss : List Int} (hS : StB n ss) : allB ss 0 1000000000000 = true := allB_iff.2 fun x hx => by have := hS.2 x hx; omega
def MutTo (n : Net) (ss : List Int) (k : Nat) : Prop := ∀ (v : Nat) (s : Int), v < k → ss[v]? = some s → 0 < s → pointsTo ss ((n.es.getD v []).getD (s - 1).toNat (0, 0)) = true
theorem MutTo.fin {n : Net} {ss : List Int} (h : MutTo n ss ss.length) : mutP n ss := fun v s hv => h v s (List.getElem?_eq_some_iff.1 hv).1 hv
theorem MutTo.next {n : Net} {ss : List Int} {k : Nat} {s : Int} (h : MutTo n ss k) (hs : ss[k]? = some s) (hp : 0 < s → pointsTo ss ((n.es.getD k []).getD (s - 1).toNat (0, 0)) = true) : MutTo n ss (k + 1) := fun v x hv hx h0 => by
  rcases Nat.lt_or_ge v k with h1 | h1
  · exact h v x h1 hx h0
  · obtain rfl : v = k := by omega
    obtain rfl := Option.some.inj (hs.symm.trans hx)
    exact hp h0
theorem leg_t {n : Net} {r : Int} {ss : List Int} (h : legP n r ss) : true = legB n r ss := (propB_t h).symm
theorem leg_f {n : Net} {r : Int} {ss : List Int} (h : ¬ legP n r ss) : false = legB n r ss := (propB_f h).symm
theorem leg34 {n : Net} {r : Int} {ss : List Int} (hr : r = 3 ∨ r = 4) : legP n r ss = (enS n r ss = [] ∧ (r = 4 → mutP n ss)) := by
  unfold legP
  rw [if_neg (by omega), if_neg (by omega), if_neg (by omega)]
theorem ret2bb {a b a' b' : Bool} (h1 : a = a') (h2 : b = b') : Ending.returned (.tuple #[.bool a, .bool b]) = .returned (.tuple #[.bool a', .bool b']) := by rw [h1, h2]
noncomputable def ilB (n : Net) (r : Int) (ss : List Int) : Bool := sitB n r ss && legB n r ss
end Go.Proofs.YtdghoienjegffaaGreat
