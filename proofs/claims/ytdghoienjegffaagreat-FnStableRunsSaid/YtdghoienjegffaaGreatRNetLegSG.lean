/-
  Small lemmas and contracts that the texts of this claim share. No condition.
-/
import Derived.Test.YtdghoienjegffaaGreatRPlainFarG
import Derived.Test.YtdghoienjegffaaGreatRCurG
namespace Go.Proofs.YtdghoienjegffaaGreat
open Go.RowKit
set_option linter.all false
def SmRel (xs ys : List Int) (w : World) (i : Value) (wr : World) : Prop := ∃ k m : Nat, k ≤ xs.length ∧ i = .int .i64 k ∧ wr = w.drewN m ∧ ∀ j, j < k → xs[j]? = ys[j]?
theorem same_all {xs ys : List Int} (hl : xs.length = ys.length) (h : ∀ j, j < xs.length → xs[j]? = ys[j]?) : xs = ys := List.ext_getElem? fun j => by
  by_cases hj : j < xs.length
  · exact h j hj
  · rw [List.getElem?_eq_none (by omega), List.getElem?_eq_none (by omega)]
def leastTo (d set : List Int) (k : Nat) : Int := leastD d (set.take k)
theorem leastTo_succ {d set : List Int} {k : Nat} {w : Int} (h : set[k]? = some w) : leastTo d set (k + 1) = if 0 ≤ gd d w.toNat ∧ (leastTo d set k < 0 ∨ gd d w.toNat < leastTo d set k) then gd d w.toNat else leastTo d set k := by unfold leastTo leastD;rw [List.take_add_one, h, List.foldl_append];rfl
theorem leastTo_bd {d set : List Int} {b : Int} (hd : ∀ x ∈ d, x ≤ b) (hb : -1 ≤ b) : ∀ k, leastTo d set k ≤ b ∧ -1 ≤ leastTo d set k
  | 0 => by unfold leastTo leastD; simp; omega
  | k + 1 => by
    obtain ⟨h1, h2⟩ := leastTo_bd (set := set) hd hb k;cases hs : set[k]? with
    | none =>
      have hk := List.getElem?_eq_none_iff.1 hs;unfold leastTo at h1 h2 ⊢;rw [List.take_of_length_le (by omega)] at h1 h2 ⊢;exact ⟨h1, h2⟩
    | some w =>
      rw [leastTo_succ hs];split
      · rename_i hc
        refine ⟨?_, by omega⟩;have hl := gd_lt hc.1;have := hd _ (List.getElem_mem hl);unfold gd;rw [List.getD_eq_getElem?_getD, List.getElem?_eq_getElem hl];exact this
      · exact ⟨h1, h2⟩
def RuRel (d set : List Int) (w : World) (v i : Value) (wr : World) : Prop := w = wr ∧ ∃ k : Nat, k ≤ set.length ∧ i = .int .i64 k ∧ v = .int .i64 (leastTo d set k)
set_option maxRecDepth 100000 in
set_option maxHeartbeats 1000000 in
theorem spec_ruFar (ve vi vn vs : Value) (n : Net) (set : List Int) (v : Nat) (w : World) (h : NetR w w.heap.size ve vi vn n) (hp : netP n) (hs : IntsR w w.heap.size vs set) (hset : ∀ r ∈ set, 0 ≤ r ∧ r.toNat < n.es.length) (hv : v < n.es.length) :
  Calls Tryz.prog 148 #[.agg #[ve, vi, vn], vs, .int .i64 (v : Int)] w fun e w' => e = .returned (.int .i64 (leastD (far n.es v) set)) ∧ Below w.heap.size w w' := by
 have h40 := hp.1.2;have HP := Lib.hid hp;obtain ⟨hfl, hfb⟩ := far_ok hp.endsIn hv;have HFB := Lib.hid hfb;have hfl2 : n.es.length ≤ (far n.es v).length ∧ (far n.es v).length ≤ 40 := by omega
 have HSET := Lib.hid hset;have HSS := Lib.hid hs;obtain ⟨As, cs, rfl, hcl, hcm, hsc⟩ := hs.open_;unfold maxLen at hcm;have HSC := Lib.hid hsc;clear hs hsc hp hfl hfb hset;obtain ⟨⟨A0, m0, c0, rfl⟩, ⟨A1, m1, c1, rfl⟩, A2, m2, c2, rfl⟩ := h.slices;obtain ⟨w0, hw0, hB, HD, hz0, HS0⟩ := box3 w (.slice A0 m0 c0) (.slice A1 m1 c1) (.slice A2 m2 c2) 27;have HN0 := Lib.hid h; have HN := Lib.hid (h.up hB); clear h;have HW0 := Lib.hid hw0; clear hw0;obtain ⟨q0, q1, q2, qf⟩ := cells3 HD;go_enter Tryz.func148, Tryz.ntmps148;go_wp2_with fail;rw [← HW0.out];refine (spec_meFrom _ _ _ n v w0 HN.out HP.out hv).mono ?_;rintro e w1 ⟨u, rfl, -, hu, hb1⟩;have hzhb1 := hb1.size;clear q0 q1 q2 qf;replace HD := bk HD hb1;replace HN := Lib.hid (HN.out.up hb1);replace hB := bl_trans hB hb1;obtain ⟨q0, q1, q2, qf⟩ := cells3 HD;obtain ⟨d, hd⟩ : ∃ z, z = far n.es v := ⟨_, rfl⟩
 rw [← hd] at hu hfl2 HFB;have HDE := Lib.hid hd; clear hd;obtain ⟨Af, cf, rfl, -, hfm, hfc⟩ := hu.open_;unfold maxLen at hfm;have HFC := Lib.hid hfc;clear hu hfc;go_wp2_with fail;go_loopw [7, 10, 16] (fun v _ i wr => RuRel d set w1 v i wr) (fun _ _ i _ => set.length - (intOf i).toNat)
 case atStart => exact ⟨rfl, 0, Nat.zero_le _, rfl, rfl⟩
 case round =>
  obtain ⟨rfl, k, hk, rfl, rfl⟩ := hrel;by_cases hlt : k < set.length
  ·
   obtain ⟨r, hr⟩ : ∃ r, set[k]? = some r := ⟨_, List.getElem?_eq_getElem hlt⟩
   obtain ⟨hr0, hr1⟩ := HSET.out r (List.mem_of_getElem? hr);obtain ⟨rn, rfl⟩ : ∃ rn : Nat, r = rn := ⟨r.toNat, by omega⟩
   rw [Int.toNat_natCast] at hr1;obtain ⟨f, hf⟩ : ∃ f, d[rn]? = some f := ⟨_, List.getElem?_eq_getElem (by omega)⟩
   obtain ⟨sd, rfl, hsb, hsx⟩ := HSC.out (by omega);obtain ⟨fd, rfl, hfb, hfx⟩ := HFC.out (by omega);have hcs := (hB.cell (p := sd.add k) (by rw [block_add]; exact hsb)).trans (hsx k _ hr);have hcf := hfx rn f hf;have hrd : rn < d.length := by omega
   have HST := Lib.hid (leastTo_succ (d := d) hr);have hg : gd d (rn : Int).toNat = f := by rw [Int.toNat_natCast]; exact getDa hf
   rw [hg] at HST;generalize leastTo d set k = t at *;clear hr hsx hfx hf hg;by_cases h1 : 0 ≤ f
   ·
    have k1 : decide (f ≥ 0) = true := decide_eq_true h1;by_cases h2 : t < 0
    ·
     have HE := Lib.hid (show leastTo d set (k + 1) = f by rw [HST.out, if_pos ⟨h1, .inl h2⟩]);go_wp2_with fail;go_roundw
     case rel => exact ⟨rfl, k + 1, by omega, by go_num, by rw [HE.out]⟩
     case measure => simp [intOf]; omega
    ·
     by_cases h3 : f < t
     ·
      have HE := Lib.hid (show leastTo d set (k + 1) = f by rw [HST.out, if_pos ⟨h1, .inr h3⟩]);go_wp2_with fail;go_roundw
      case rel => exact ⟨rfl, k + 1, by omega, by go_num, by rw [HE.out]⟩
      case measure => simp [intOf]; omega
     ·
      have HE := Lib.hid (show leastTo d set (k + 1) = t by rw [HST.out, if_neg (by omega)]);go_wp2_with fail;go_roundw
      case rel => exact ⟨rfl, k + 1, by omega, by go_num, by rw [HE.out]⟩
      case measure => simp [intOf]; omega
   ·
    have HE := Lib.hid (show leastTo d set (k + 1) = t by rw [HST.out, if_neg (by omega)]);go_wp2_with fail;go_roundw
    case rel => exact ⟨rfl, k + 1, by omega, by go_num, by rw [HE.out]⟩
    case measure => simp [intOf]; omega
  · have HE := Lib.hid (show leastTo d set k = leastD d set by unfold leastTo; rw [List.take_of_length_le (by omega)]);go_wp2_with fail;go_ret;exact ⟨ret_int (by rw [HE.out, HDE.out]), hB⟩
def rootsTo (ins : List Int) (k : Nat) : List Int := ((List.range k).filter fun v => ins.getD v 0 == 1).map fun (v : Nat) => (v : Int)
theorem rootsTo_succ {ins : List Int} {k : Nat} {x : Int} (h : ins[k]? = some x) : rootsTo ins (k + 1) = rootsTo ins k ++ (if x = 1 then [(k : Int)] else []) := by
  unfold rootsTo;rw [List.range_succ, List.filter_append, List.map_append];congr 1;by_cases e : x = 1
  · rw [if_pos e, List.filter_cons, if_pos (by rw [getDa h]; simpa using e)]; rfl
  · rw [if_neg e, List.filter_cons, if_neg (by rw [getDa h]; simpa using e)]; rfl
theorem rootsTo_len (ins : List Int) (k : Nat) : (rootsTo ins k).length ≤ k := by unfold rootsTo;rw [List.length_map];exact Nat.le_trans (List.length_filter_le _ _) (by simp)
def SfRel (n : Net) (w : World) (v i : Value) (wr : World) : Prop :=
  ∃ k : Nat, k ≤ n.ins.length ∧ i = .int .i64 k ∧ wr.ownsRow w.heap.size 3 1 v (rootsTo n.ins k).length ((rootsTo n.ins k).map intV) ∧ Below w.heap.size w wr
def SoRel (n : Net) (w : World) (v i : Value) (wr : World) : Prop :=
  ∃ k : Nat, k ≤ n.es.length ∧ i = .int .i64 k ∧ wr.ownsRow w.heap.size 3 1 v k (((farT n).take k).map intV) ∧ Below w.heap.size w wr
theorem farV_bd {n : Net} (h : netP n) {v : Nat} (hv : v < n.es.length) : 0 ≤ farV n v ∧ farV n v ≤ 40 := by have h40 := h.1.2;obtain ⟨k1, k2⟩ := far_ok h.endsIn hv;obtain ⟨h1, h2⟩ := leastTo_bd (set := rootsL n.ins) (b := 40) (fun x hx => by rcases k2 x hx with h | h <;> omega) (by omega) (rootsL n.ins).length;unfold leastTo at h1 h2;rw [List.take_length] at h1 h2;unfold farV;split <;> omega
theorem farT_at {n : Net} {v : Nat} (hv : v < n.es.length) : (farT n)[v]? = some (farV n v) := by unfold farT; rw [List.getElem?_map, List.getElem?_range hv]; rfl
theorem farT_I64 {n : Net} (h : netP n) : ∀ x ∈ farT n, I64 x := fun x hx => by unfold farT at hx;obtain ⟨v, hv, rfl⟩ := List.mem_map.1 hx;have := farV_bd h (List.mem_range.1 hv);unfold I64;omega
theorem farT_len (n : Net) : (farT n).length = n.es.length := by simp [farT]
set_option maxRecDepth 100000 in
set_option maxHeartbeats 1000000 in
theorem spec_ssFar (ve vi vn : Value) (n : Net) (w : World) (h : NetR w w.heap.size ve vi vn n) (hp : netP n) :
  Calls Tryz.prog 102 #[.agg #[ve, vi, vn]] w fun e w' => ∃ u, e = .returned u ∧ IntsR w' w'.heap.size u (farT n) ∧ Below w.heap.size w w' ∧ w'.ownsRow w.heap.size 3 1 u (farT n).length ((farT n).map intV) := by
 have h40 := hp.1;have hin := hp.2.2.1;have hil : n.es.length ≤ n.ins.length ∧ n.ins.length ≤ n.es.length := by omega
 have HP := Lib.hid hp;clear hp hin;obtain ⟨⟨A0, m0, c0, rfl⟩, ⟨A1, m1, c1, rfl⟩, A2, m2, c2, rfl⟩ := h.slices;obtain ⟨w0, hw0, hB, HD, hz0, HS0⟩ := box3 w (.slice A0 m0 c0) (.slice A1 m1 c1) (.slice A2 m2 c2) 27;have HN0 := Lib.hid h; have HN := Lib.hid (h.up hB); clear h;have HW0 := Lib.hid hw0; clear hw0;obtain ⟨q0, q1, q2, qf⟩ := cells3 HD;go_enter Tryz.func102, Tryz.ntmps102;obtain ⟨hm0, -, -⟩ := HN.out.e.len_slice;subst hm0;obtain ⟨hm2, -, -, -⟩ := HN.out.n.some_;subst hm2;go_wp2_with fail;rw [← HW0.out];go_loopw [3, 5, 6, 12] (fun v _ _ i wr => SfRel n w0 v i wr) (fun _ _ _ i _ => n.ins.length - (intOf i).toNat)
 case atStart => exact ⟨0, Nat.zero_le _, rfl, World.ownsRow_nil _ _ _ _, Below.refl _ _⟩
 case round =>
  obtain ⟨k, hk, rfl, hown, hbl⟩ := hrel;have hrl := rootsTo_len n.ins k;have HO := Lib.hid hown;have hwz := hbl.size;have hzhbl := hbl.size;clear q0 q1 q2 qf;replace HD := bk HD hbl;replace HN := Lib.hid (HN.out.up hbl);replace hB := bl_trans hB hbl;obtain ⟨q0, q1, q2, qf⟩ := cells3 HD;by_cases hlt : k < n.ins.length
  ·
   obtain ⟨x, hx⟩ : ∃ x, n.ins[k]? = some x := ⟨_, List.getElem?_eq_getElem hlt⟩
   obtain ⟨-, -, -, hn2⟩ := HN.out.n.some_;obtain ⟨ad2, rfl, -, hi⟩ := hn2 (by omega);have hxc := hi k x hx;have HS := Lib.hid (rootsTo_succ hx);clear hi hx hn2;by_cases hx1 : x = 1
   ·
    subst hx1;have HE := Lib.hid (show rootsTo n.ins (k + 1) = rootsTo n.ins k ++ [(k : Int)] from HS.out);go_wp2_with ((at_builtin; refine wpList_append1 wr rfl (.tmp 19) (.tmp 21) 25 rfl w0.heap.size 3 _ 8 Tryz.underlying25 intInfo rfl _ _ _ rfl _ rfl rfl HO.out (by unfold maxLen; omega) (by omega) hwz ?_; intro v' w' hown' hbl' hgr' hlt' hob'))
    go_roundw
    case rel => exact ⟨k + 1, by omega, by go_num, by rw [HE.out, List.length_append, List.map_append]; exact hown', hbl.trans hbl'⟩
    case measure => simp [intOf]; omega
   ·
    have HE := Lib.hid (show rootsTo n.ins (k + 1) = rootsTo n.ins k by rw [HS.out, if_neg hx1, List.append_nil]);have kx : (x == 1) = false := by simpa using hx1
    go_wp2_with fail;go_roundw
    case rel => exact ⟨k + 1, by omega, by go_num, by rw [HE.out]; exact HO.out, hbl⟩
    case measure => simp [intOf]; omega
  ·
   obtain rfl : k = n.ins.length := by omega
   have HSET := Lib.hid (show IntsR wr wr.heap.size u3 (rootsL n.ins) from own_intsR hown fun z hz => by have := roots_mem (ins := n.ins) hz; unfold I64; omega);have HRB := Lib.hid (fun r (hr : r ∈ rootsL n.ins) => show 0 ≤ r ∧ r.toNat < n.es.length by have := roots_mem hr; omega);clear hown;go_wp2_with fail;obtain ⟨wq, rfl⟩ : ∃ z, z = wr := ⟨_, rfl⟩
   go_loopw [4, 7, 8, 27] (fun v _ _ i wr => SoRel n wq v i wr) (fun _ _ _ i _ => n.es.length - (intOf i).toNat)
   case atStart => exact ⟨0, Nat.zero_le _, rfl, World.ownsRow_nil _ _ _ _, Below.refl _ _⟩
   case round =>
    obtain ⟨k, hk, rfl, hown, hbl2⟩ := hrel;have HO2 := Lib.hid hown; clear hown;have hwz2 := hbl2.size;have hzhbl2 := hbl2.size;clear q0 q1 q2 qf;replace HD := bk HD hbl2;replace HN := Lib.hid (HN.out.up hbl2);replace hB := bl_trans hB hbl2;obtain ⟨q0, q1, q2, qf⟩ := cells3 HD;have HSET2 := Lib.hid ((HSET.out.below hbl2).more hbl2.size);by_cases hlt : k < n.es.length
    ·
     have HFA := Lib.hid (farT_at hlt);have hfb := farV_bd HP.out hlt;have HF0 := Lib.hid (show farV n k = if leastD (far n.es k) (rootsL n.ins) < 0 then (n.es.length : Int) else leastD (far n.es k) (rootsL n.ins) from rfl);have HSN := Lib.hid (ints_snoc HFA.out);go_wp2_with fail;refine (spec_ruFar _ _ _ _ n (rootsL n.ins) k wr HN.out HP.out HSET2.out HRB.out hlt).mono ?_;rintro e w3 ⟨rfl, hb3⟩;have HO3 := Lib.hid (own_keep4 HO2.out hb3.size fun b _ hb => hb3.block b hb);have hwz3 := hb3.size;have hbl3 := bl_trans hbl2 hb3;have hzhb3 := hb3.size;clear q0 q1 q2 qf;replace HD := bk HD hb3;replace HN := Lib.hid (HN.out.up hb3);replace hB := bl_trans hB hb3;obtain ⟨q0, q1, q2, qf⟩ := cells3 HD;obtain ⟨t, ht⟩ : ∃ t, t = leastD (far n.es k) (rootsL n.ins) := ⟨_, rfl⟩
     rw [← ht] at HF0 ⊢;clear ht;by_cases hn : t < 0
     ·
      have HV := Lib.hid (show farV n k = (n.es.length : Int) by rw [HF0.out, if_pos hn]);go_wp2_with ((at_builtin; refine wpList_append1 w3 rfl (.tmp 39) (.tmp 41) 25 rfl wq.heap.size 3 _ 8 Tryz.underlying25 intInfo rfl _ _ _ rfl _ rfl rfl HO3.out (by unfold maxLen; omega) (by omega) hbl3.size ?_; intro v' w' hown' hbl' hgr' hlt' hob'))
      go_roundw
      case rel => exact ⟨k + 1, by omega, by go_num, by rw [HSN.out, HV.out]; exact hown', hbl3.trans hbl'⟩
      case measure => simp [intOf]; omega
     ·
      have HV := Lib.hid (show farV n k = t by rw [HF0.out, if_neg hn]);go_wp2_with ((at_builtin; refine wpList_append1 w3 rfl (.tmp 39) (.tmp 41) 25 rfl wq.heap.size 3 _ 8 Tryz.underlying25 intInfo rfl _ _ _ rfl _ rfl rfl HO3.out (by unfold maxLen; omega) (by omega) hbl3.size ?_; intro v' w' hown' hbl' hgr' hlt' hob'))
      go_roundw
      case rel => exact ⟨k + 1, by omega, by go_num, by rw [HSN.out, HV.out]; exact hown', hbl3.trans hbl'⟩
      case measure => simp [intOf]; omega
    ·
     have HFT := Lib.hid (show IntsR wr wr.heap.size u4 (farT n) from by
      have h := HO2.out;rw [List.take_of_length_le (by rw [farT_len]; omega)] at h
      exact own_intsR h (farT_I64 HP.out))
     have HFO := Lib.hid (show wr.ownsRow w.heap.size 3 1 u4 (farT n).length ((farT n).map intV) from by
      have h := HO2.out;rw [List.take_of_length_le (by rw [farT_len]; omega)] at h;rw [show k = (farT n).length by rw [farT_len]; omega] at h
      exact own_mono h (show w.heap.size ≤ wq.heap.size by omega))
     go_wp2_with fail;go_ret;exact ⟨_, rfl, HFT.out, hB, HFO.out⟩
theorem propB_dec (p : Prop) [Decidable p] : propB p = decide p := by
  by_cases h : p
  · rw [propB_t h, decide_eq_true h]
  · rw [propB_f h, decide_eq_false h]
theorem allB_st {n : Net} {ss : List Int} (hS : StB n ss) : allB ss 0 1000000000000 = true := allB_iff.2 fun x hx => by have := hS.2 x hx; omega
def MutTo (n : Net) (ss : List Int) (k : Nat) : Prop := ∀ (v : Nat) (s : Int), v < k → ss[v]? = some s → 0 < s → pointsTo ss ((n.es.getD v []).getD (s - 1).toNat (0, 0)) = true
theorem MutTo.fin {n : Net} {ss : List Int} (h : MutTo n ss ss.length) : mutP n ss := fun v s hv => h v s (List.getElem?_eq_some_iff.1 hv).1 hv
theorem MutTo.next {n : Net} {ss : List Int} {k : Nat} {s : Int} (h : MutTo n ss k) (hs : ss[k]? = some s) (hp : 0 < s → pointsTo ss ((n.es.getD k []).getD (s - 1).toNat (0, 0)) = true) : MutTo n ss (k + 1) := fun v x hv hx h0 => by
  rcases Nat.lt_or_ge v k with h1 | h1
  · exact h v x h1 hx h0
  · obtain rfl : v = k := by omega
    obtain rfl := Option.some.inj (hs.symm.trans hx);exact hp h0
theorem leg_t {n : Net} {r : Int} {ss : List Int} (h : legP n r ss) : true = legB n r ss := (propB_t h).symm
theorem leg_f {n : Net} {r : Int} {ss : List Int} (h : ¬ legP n r ss) : false = legB n r ss := (propB_f h).symm
theorem leg34 {n : Net} {r : Int} {ss : List Int} (hr : r = 3 ∨ r = 4) : legP n r ss = (enS n r ss = [] ∧ (r = 4 → mutP n ss)) := by unfold legP;rw [if_neg (by omega), if_neg (by omega), if_neg (by omega)]
theorem ret2bb {a b a' b' : Bool} (h1 : a = a') (h2 : b = b') : Ending.returned (.tuple #[.bool a, .bool b]) = .returned (.tuple #[.bool a', .bool b']) := by rw [h1, h2]
noncomputable def ilB (n : Net) (r : Int) (ss : List Int) : Bool := sitB n r ss && legB n r ss
end Go.Proofs.YtdghoienjegffaaGreat
namespace Go.Proofs.YtdghoienjegffaaGreat
open Go.RowKit
set_option linter.all false
theorem ints_upS {w w' : World} {v : Value} {xs : List Int} (h : IntsR w w.heap.size v xs) (hb : Below w.heap.size w w') : IntsR w' w'.heap.size v xs := (h.below hb).more hb.size
def plL (k : Nat) : List Int := (List.range k).map fun j : Nat => (j : Int)
theorem plL_len (k : Nat) : (plL k).length = k := by simp [plL]
theorem plL_succ (k : Nat) : plL (k + 1) = plL k ++ [(k : Int)] := by simp [plL, List.range_succ]
theorem plL_at {k j : Nat} (h : j < k) : (plL k)[j]? = some (j : Int) := by unfold plL; rw [List.getElem?_map, List.getElem?_range h]; rfl
theorem plL_I64 {k : Nat} (hk : k ≤ 1000) : ∀ x ∈ plL k, I64 x := fun x hx => by obtain ⟨j, hj, rfl⟩ := List.mem_map.1 hx;have := List.mem_range.1 hj;exact ⟨by omega, by omega⟩
def OrRel (N : Nat) (w : World) (v i : Value) (wr : World) : Prop := ∃ k : Nat, k ≤ N ∧ i = .int .i64 k ∧ wr.ownsRow w.heap.size 3 1 v k ((plL k).map intV) ∧ Below w.heap.size w wr
set_option maxRecDepth 100000 in
set_option maxHeartbeats 2000000 in
theorem spec_ssPlain (ve vi vn : Value) (n : Net) (w : World) (h : NetR w w.heap.size ve vi vn n) (hz : n.es.length ≤ 1000) :
  Calls Tryz.prog 104 #[.agg #[ve, vi, vn]] w fun e w' => ∃ u, e = .returned u ∧ (∃ A m c, u = .slice A m c) ∧ IntsR w' w'.heap.size u (plL n.es.length) ∧ Below w.heap.size w w' := by
 obtain ⟨⟨A0, m0, c0, rfl⟩, ⟨A1, m1, c1, rfl⟩, A2, m2, c2, rfl⟩ := h.slices;obtain ⟨w0, hw0, hB, HD, hz0, HS0⟩ := box3 w (.slice A0 m0 c0) (.slice A1 m1 c1) (.slice A2 m2 c2) 27;have HN0 := Lib.hid h; have HN := Lib.hid (h.up hB); clear h;have HW0 := Lib.hid hw0; clear hw0;obtain ⟨q0, q1, q2, qf⟩ := cells3 HD;go_enter Tryz.func104, Tryz.ntmps104;obtain ⟨hm0, -, -⟩ := HN.out.e.len_slice;subst hm0;go_wp2_with fail;rw [← HW0.out];go_loopw [3, 4, 8] (fun v _ i wr => OrRel n.es.length w0 v i wr) (fun _ _ i _ => n.es.length - (intOf i).toNat)
 case atStart => exact ⟨0, Nat.zero_le _, rfl, World.ownsRow_nil _ _ _ _, Below.refl _ _⟩
 case round =>
  obtain ⟨k, hk, rfl, hown, hbl⟩ := hrel;have HO := Lib.hid hown;have hwz := hbl.size;clear hown;by_cases hlt : k < n.es.length
  ·
   go_wp2_with ((at_builtin; refine wpList_append1 wr rfl (.tmp 11) (.tmp 13) 25 rfl w0.heap.size 3 _ 8 Tryz.underlying25 intInfo rfl _ _ _ rfl _ rfl rfl HO.out (by unfold maxLen; omega) (by omega) hwz ?_; intro v' w' hown' hbl' hgr' hlt' hob'))
   go_roundw
   case rel => exact ⟨k + 1, by omega, by go_num, by rw [plL_succ, List.map_append]; exact hown', hbl.trans hbl'⟩
   case measure => simp [intOf]; omega
  ·
   obtain rfl : k = n.es.length := by omega
   have HI := Lib.hid (show IntsR wr wr.heap.size _ (plL n.es.length) from own_intsR HO.out (plL_I64 hz));have HB := Lib.hid (bl_trans hB hbl);go_wp2_with fail;go_ret;exact ⟨_, rfl, HI.out.isSlice, HI.out, HB.out⟩
noncomputable def lessL (xs ys : List Int) : List Int := xs.filter fun x => !hasB ys x
theorem lessL_sub {xs ys : List Int} {x : Int} (h : x ∈ lessL xs ys) : x ∈ xs := (List.mem_filter.1 h).1
theorem lessL_take {xs ys : List Int} {k : Nat} {x : Int} (h : xs[k]? = some x) : lessL (xs.take (k + 1)) ys = lessL (xs.take k) ys ++ if hasB ys x = true then [] else [x] := by obtain ⟨hk, rfl⟩ := List.getElem?_eq_some_iff.1 h;unfold lessL;rw [List.take_succ_eq_append_getElem hk, List.filter_append];cases hb : hasB ys xs[k] <;> simp [hb]
def DesRel (xs ys : List Int) (w : World) (v i : Value) (wr : World) : Prop := ∃ k : Nat, k ≤ xs.length ∧ i = .int .i64 k ∧ wr.ownsRow w.heap.size 3 1 v (lessL (xs.take k) ys).length ((lessL (xs.take k) ys).map intV) ∧ Below w.heap.size w wr
set_option maxRecDepth 100000 in
set_option maxHeartbeats 2000000 in
theorem spec_deLess (va vb : Value) (xs ys : List Int) (w : World) (h : IntsR w w.heap.size va xs) (h' : IntsR w w.heap.size vb ys) (hl : xs.length ≤ 1000) :
  Calls Tryz.prog 180 #[va, vb] w fun e w' => ∃ u, e = .returned u ∧ (∃ A m c, u = .slice A m c) ∧ IntsR w' w'.heap.size u (lessL xs ys) ∧ Below w.heap.size w w' := by
 have H64 := Lib.hid h.2;obtain ⟨Aa, ca, rfl, -, hca, hsa⟩ := h.open_;have HSA := Lib.hid hsa;have HY := Lib.hid h';clear h h' hsa;go_enter Tryz.func180, Tryz.ntmps180;go_wp2_with fail;go_loopw [5, 7, 10] (fun v _ i wr => DesRel xs ys w v i wr) (fun _ _ i _ => xs.length - (intOf i).toNat)
 case atStart => exact ⟨0, Nat.zero_le _, rfl, World.ownsRow_nil _ _ _ _, Below.refl _ _⟩
 case round =>
  obtain ⟨k, hk, rfl, hown, hbl⟩ := hrel;have hwz := hbl.size;have hll : (lessL (xs.take k) ys).length ≤ k := Nat.le_trans (List.length_filter_le _ _) (by rw [List.length_take]; omega);obtain ⟨L, hL⟩ : ∃ z, z = (lessL (xs.take k) ys).length := ⟨_, rfl⟩
  rw [← hL] at hown hll;have HO := Lib.hid hown;have HLL := Lib.hid hL;clear hown hL;by_cases hlt : k < xs.length
  ·
   obtain ⟨x, hx⟩ : ∃ x, xs[k]? = some x := ⟨_, List.getElem?_eq_getElem hlt⟩
   obtain ⟨ad, rfl, had, hcs⟩ := HSA.out (by omega);have hc := (hbl.cell (p := ad.add k) (by rw [block_add]; exact had)).trans (hcs k x hx);have HT := Lib.hid (lessL_take (ys := ys) hx);clear hx hcs;go_wp2_with fail;refine (spec_l1Has _ ys x wr (ints_upS HY.out hbl)).mono ?_;rintro e w2 ⟨rfl, rfl⟩;by_cases hb : hasB ys x = true
   ·
    have HE := Lib.hid (show lessL (xs.take (k + 1)) ys = lessL (xs.take k) ys by rw [HT.out, if_pos hb, List.append_nil]);rw [hb];go_wp2_with fail;go_roundw
    case rel => exact ⟨k + 1, by omega, by go_num, by rw [HE.out, ← HLL.out]; exact HO.out, hbl⟩
    case measure => simp [intOf]; omega
   ·
    have HE := Lib.hid (show lessL (xs.take (k + 1)) ys = lessL (xs.take k) ys ++ [x] by rw [HT.out, if_neg hb]);rw [show hasB ys x = false by simpa using hb];go_wp2_with ((at_builtin; refine wpList_append1 wr rfl (.tmp 18) (.tmp 20) 25 rfl w.heap.size 3 _ 8 Tryz.underlying25 intInfo rfl _ _ _ rfl _ rfl rfl HO.out (by unfold maxLen; omega) (by omega) hwz ?_; intro v' w' hown' hbl' hgr' hlt' hob'))
    go_roundw
    case rel => exact ⟨k + 1, by omega, by go_num, by rw [HE.out, List.length_append, ← HLL.out, List.map_append]; exact hown', hbl.trans hbl'⟩
    case measure => simp [intOf]; omega
  ·
   obtain rfl : k = xs.length := by omega
   have HI := Lib.hid (show IntsR wr wr.heap.size _ (lessL xs ys) from by
    have h := HO.out;rw [List.take_of_length_le (Nat.le_refl _)] at h
    exact own_intsR h fun x hx => H64.out x (lessL_sub hx))
   go_wp2_with fail;go_ret;exact ⟨_, rfl, HI.out.isSlice, HI.out, hbl⟩
noncomputable def seenL (l : Ends) (v : Nat) : List Int := lessL (nearL l) [(v : Int)]
set_option maxRecDepth 100000 in
set_option maxHeartbeats 2000000 in
theorem spec_deSeen (ve vi vn : Value) (n : Net) (v : Nat) (l : Ends) (w : World) (h : NetR w w.heap.size ve vi vn n) (hv : n.es[v]? = some l) (hl : l.length ≤ 1000) (hz : n.es.length ≤ 1000) :
  Calls Tryz.prog 149 #[.agg #[ve, vi, vn], .int .i64 (v : Int)] w fun e w' => ∃ u, e = .returned u ∧ (∃ A m c, u = .slice A m c) ∧ IntsR w' w'.heap.size u (seenL l v) ∧ Below w.heap.size w w' := by
 have hvl : v < n.es.length := (List.getElem?_eq_some_iff.1 hv).1;have HL := Lib.hid hv;clear hv;obtain ⟨⟨A0, m0, c0, rfl⟩, ⟨A1, m1, c1, rfl⟩, A2, m2, c2, rfl⟩ := h.slices;obtain ⟨w0, hw0, hB, HD, hz0, HS0⟩ := box3 w (.slice A0 m0 c0) (.slice A1 m1 c1) (.slice A2 m2 c2) 27;have HN0 := Lib.hid h; have HN := Lib.hid (h.up hB); clear h;have HW0 := Lib.hid hw0; clear hw0;obtain ⟨q0, q1, q2, qf⟩ := cells3 HD;go_enter Tryz.func149, Tryz.ntmps149;go_wp2_with fail;rw [← HW0.out];refine (spec_neNear _ _ _ n v l w0 HN.out HL.out (by omega)).mono ?_;rintro e w1 ⟨u, rfl, ⟨A', m', c', rfl⟩, hu, hb1, -⟩;have HU := Lib.hid hu;clear hu;obtain ⟨w2, hw2⟩ : ∃ z, z = w1.alloc (.cells #[.int .i64 (v : Int)] 3) := ⟨_, rfl⟩
 have hb2 : Below w1.heap.size w1 w2 := by rw [hw2]; exact bl_alloc (Below.refl _ _) _
 have HW2 := Lib.hid hw2
 have HS := Lib.hid (show IntsR w2 w2.heap.size (.slice (some ⟨w1.heap.size, 0, none⟩) 1 1) [(v : Int)] from by
  have h1 := own_madeN w1 3 1 (.int .i64 (v : Int)) (by unfold maxLen; omega);rw [show rowOf [] 1 (Value.int .i64 (v : Int)) = #[.int .i64 (v : Int)] from rfl, ← hw2] at h1
  exact own_intsR (xs := [(v : Int)]) h1 fun x hx => by rw [List.mem_singleton.1 hx]; exact ⟨by omega, by omega⟩)
 have HU2 := Lib.hid (ints_upS HU.out hb2);have HB := Lib.hid (bl_trans (bl_trans hB hb1) hb2);clear hw2 q0 q1 q2 qf;go_wp2_with fail;rw [← HW2.out];refine (spec_deLess _ _ (nearL l) [(v : Int)] w2 HU2.out HS.out (by unfold nearL; rw [List.length_map]; exact hl)).mono ?_;rintro e w3 ⟨u, rfl, hsl, hu, hb3⟩;obtain ⟨A3, m3, c3, rfl⟩ := hsl;have HU3 := Lib.hid hu;clear hu;go_wp2_with fail;go_ret;exact ⟨_, rfl, HU3.out.isSlice, HU3.out, bl_trans HB.out hb3⟩
noncomputable def colTo (n : Net) : Nat → List Int
  | 0 => List.replicate n.es.length (-1)
  | k + 1 => (colTo n k).set k (leastN ((seenL (rowAt n k) k).map fun a => (colTo n k).getD a.toNat 0) : Nat)
theorem colTo_len (n : Net) : ∀ k, (colTo n k).length = n.es.length
  | 0 => List.length_replicate
  | k + 1 => by rw [colTo, List.length_set, colTo_len n k]
theorem leastN_len (xs : List Int) : leastN xs ≤ xs.length := by
  by_cases h : ∃ c, LeastFree xs c
  · obtain ⟨c, hc⟩ := h
    rw [leastN_eq hc];exact pigeon c xs hc.1
  · unfold leastN
    rw [dif_neg h];exact Nat.zero_le _
theorem leastN_le (xs : List Int) (c : Nat) (h : xs.length ≤ c) : leastN xs ≤ c := Nat.le_trans (leastN_len xs) h
theorem colTo_bd {n : Net} (hp : netP n) : ∀ k, ∀ x ∈ colTo n k, -1 ≤ x ∧ x ≤ 10
  | 0 => fun x hx => by rw [List.eq_of_mem_replicate hx]; omega
  | k + 1 => fun x hx => by
    rcases List.mem_or_eq_of_mem_set hx with h1 | h1
    · exact colTo_bd hp k x h1
    · have h2 := leastN_le ((seenL (rowAt n k) k).map fun a => (colTo n k).getD a.toNat 0) 6 (by
        rw [List.length_map];refine Nat.le_trans (List.length_filter_le _ _) ?_;unfold nearL;rw [List.length_map];by_cases hk : k < n.es.length
        · exact hp.len (rowAt_lt hk)
        · rw [rowAt_out (by omega)]; exact Nat.zero_le _)
      omega
def CfRel (N g : Nat) (w : World) (i : Value) (wr : World) : Prop := ∃ (k : Nat) (xs : List Int), k ≤ N ∧ i = .int .i64 k ∧ xs.length = N ∧ (∀ j, j < k → xs[j]? = some (-1)) ∧ wr.ownsRow g 3 1 (.slice (some ⟨g, 0, none⟩) N N) N (xs.map intV) ∧ Below g w wr
def CcRel (n : Net) (g : Nat) (w : World) (i : Value) (wr : World) : Prop := ∃ k : Nat, k ≤ n.es.length ∧ i = .int .i64 k ∧ wr.ownsRow g 3 1 (.slice (some ⟨g, 0, none⟩) n.es.length n.es.length) n.es.length ((colTo n k).map intV) ∧ Below g w wr
set_option maxRecDepth 100000 in
set_option maxHeartbeats 2000000 in
theorem spec_deColour (ve vi vn vo : Value) (n : Net) (w : World) (h : NetR w w.heap.size ve vi vn n) (hp : netP n) (ho : IntsR w w.heap.size vo (plL n.es.length)) :
  Calls Tryz.prog 103 #[.agg #[ve, vi, vn], vo] w fun e w' => ∃ u, e = .returned u ∧ w'.ownsRow w.heap.size 3 1 u n.es.length ((colTo n n.es.length).map intV) ∧ Below w.heap.size w w' := by
 have h40 := hp.1.2;have HP := Lib.hid hp;clear hp;obtain ⟨Ao, co, rfl, -, hco, hso⟩ := ho.open_;have HSO := Lib.hid hso;rw [plL_len] at HSO ⊢;clear ho hso;obtain ⟨⟨A0, m0, c0, rfl⟩, ⟨A1, m1, c1, rfl⟩, A2, m2, c2, rfl⟩ := h.slices;obtain ⟨w0, hw0, hB, HD, hz0, HS0⟩ := box3 w (.slice A0 m0 c0) (.slice A1 m1 c1) (.slice A2 m2 c2) 27;have HN0 := Lib.hid h; have HN := Lib.hid (h.up hB); clear h;have HW0 := Lib.hid hw0; clear hw0;obtain ⟨q0, q1, q2, qf⟩ := cells3 HD;obtain ⟨hm0, -, -⟩ := HN.out.e.len_slice;subst hm0;obtain ⟨N, hNN⟩ : ∃ z, z = n.es.length := ⟨_, rfl⟩
 have HNN := Lib.hid hNN;rw [← hNN] at h40 HSO q0 HW0 HD HN ⊢;have hm2 := fun W => run_make1 (P := Tryz.prog) 25 3 (.int .i64 0) 8 Tryz.underlying25 intInfo rfl N (by omega) (by omega) W
 obtain ⟨w1, hw1⟩ : ∃ z, z = w0.alloc (.cells (rowOf [] N (.int .i64 0)) 3) := ⟨_, rfl⟩
 obtain ⟨g, hg⟩ : ∃ z, z = w0.heap.size := ⟨_, rfl⟩
 have hb1 : Below w0.heap.size w0 w1 := by rw [hw1]; exact bl_alloc (Below.refl _ _) _
 have H1 := Lib.hid (show w1.ownsRow g 3 1 (.slice (some ⟨g, 0, none⟩) N N) N ((List.replicate N (0 : Int)).map intV) by
  have h1 := own_madeN w0 3 N (.int .i64 0) (by unfold maxLen; omega);rw [← hw1, ← hg] at h1
  rw [List.map_replicate]; exact h1)
 have HW1 := Lib.hid hw1;have HG := Lib.hid (show w.heap.size + 1 = g by rw [hg, HS0.out]);have hgl : w0.heap.size ≤ g ∧ g ≤ w0.heap.size := by omega
 have HB1 := Lib.hid (hb1.mono (show g ≤ w0.heap.size from hgl.2));have hz1 := hb1.size;clear hw1 hg hb1 hNN;have eq0 := q0;rw [HW0.out] at eq0;go_enter Tryz.func103, Tryz.ntmps103;go_wp2_with fail;rw [← HW0.out, HG.out, ← HW1.out];clear hm2 eq0;go_loopw [6, 15] (fun _ i wr => CfRel N g w1 i wr) (fun _ i _ => N - (intOf i).toNat)
 case atStart => exact ⟨0, _, Nat.zero_le _, rfl, List.length_replicate, fun j hj => absurd hj (by omega), H1.out, Below.refl _ _⟩
 case round =>
  obtain ⟨k, xs, hk, rfl, hlx, hxs, hown, hbl⟩ := hrel;have HO := Lib.hid hown;have HX := Lib.hid (And.intro hlx hxs);have HBL := Lib.hid hbl;have hzr := hbl.size;clear hown hlx hxs hbl;by_cases hlt : k < N
  ·
   obtain ⟨y, hy⟩ : ∃ y, xs[k]? = some y := ⟨_, List.getElem?_eq_getElem (by rw [HX.out.1]; exact hlt)⟩
   have ci := own_cellI HO.out hlt hy;have fi := own_thaw HO.out k;clear hy;go_wp2_with fail;go_roundw
   case rel => exact ⟨k + 1, xs.set k (-1), by omega, by go_num, by rw [List.length_set]; exact HX.out.1, fun j hj => by
    rw [List.getElem?_set];by_cases e : k = j
    · rw [if_pos e, if_pos (by rw [HX.out.1]; exact hlt)]
    · rw [if_neg e]; exact HX.out.2 j (by omega), own_setI HO.out (-1), HBL.out.setCell (p := ⟨g, k, none⟩) (Nat.le_refl _) _⟩
   case measure => simp [intOf]; omega
  ·
   obtain rfl : k = N := by omega
   have HC := Lib.hid (show wr.ownsRow g 3 1 (.slice (some ⟨g, 0, none⟩) k k) k ((colTo n 0).map intV) from by
    have e : xs = colTo n 0 := by
     show xs = List.replicate n.es.length (-1);rw [← HNN.out];refine List.ext_getElem? fun j => ?_
     by_cases hj : j < k
     · rw [HX.out.2 j hj, List.getElem?_replicate, if_pos hj]
     · rw [List.getElem?_eq_none (by rw [HX.out.1]; omega), List.getElem?_eq_none (by rw [List.length_replicate]; omega)]
    rw [← e]; exact HO.out)
   have hkk : ((k : Int) < (k : Int)) = False := eq_false (by omega);go_wp2_with fail;clear hkk;obtain ⟨wq, rfl⟩ : ∃ z, z = wr := ⟨_, rfl⟩
   go_loopw [8, 24] (fun _ i wr => CcRel n g wq i wr) (fun _ i _ => k - (intOf i).toNat)
   case atStart => exact ⟨0, Nat.zero_le _, rfl, by rw [← HNN.out]; exact HC.out, Below.refl _ _⟩
   case round =>
    obtain ⟨v, hv, rfl, hown, hbl⟩ := hrel;rw [← HNN.out] at hv hown;have HO2 := Lib.hid hown;have hb0r : Below w0.heap.size w0 wr := (HB1.out.trans (HBL.out.trans hbl)).mono hgl.1;have HBL2 := Lib.hid hbl;have hzr2 := hbl.size;have hz0r := hb0r.size;clear hown hbl;by_cases hlt : v < k
    ·
     obtain ⟨l, hl⟩ : ∃ y, n.es[v]? = some y := ⟨_, List.getElem?_eq_getElem (by rw [← HNN.out]; exact hlt)⟩
     have HL := Lib.hid hl;obtain ⟨ado, rfl, hado, hcs⟩ := HSO.out (by omega);have hco' := (bl_trans hB hb0r |>.cell (p := ado.add v) (by rw [block_add]; exact hado)).trans (hcs v _ (plL_at hlt));have HSE := Lib.hid (show ∀ a ∈ seenL l v, 0 ≤ a ∧ a.toNat < (colTo n v).length from fun a ha => by rw [colTo_len]; exact near_in HP.out hl (lessL_sub ha));have hl6 := HP.out.len hl;have HLS := Lib.hid (show (seenL l v).length ≤ 1000 from Nat.le_trans (List.length_filter_le _ _) (by unfold nearL; rw [List.length_map]; omega));have hzhb0r := hb0r.size;clear q0 q1 q2 qf;replace HD := bk HD hb0r;replace HN := Lib.hid (HN.out.up hb0r);replace hB := bl_trans hB hb0r;obtain ⟨q0, q1, q2, qf⟩ := cells3 HD;clear hl hcs;go_wp2_with fail;refine (spec_deSeen _ _ _ n v l wr HN.out HL.out (by omega) (by rw [← HNN.out]; omega)).mono ?_;rintro e w2 ⟨u, rfl, ⟨A2, m2, c2, rfl⟩, hu, hb2⟩;have HU := Lib.hid hu;have HO3 := Lib.hid (own_keep4 HO2.out hb2.size fun b _ hb => hb2.block b hb);have hz2 := hb2.size;have HB2 := Lib.hid (HBL2.out.trans (hb2.mono (by omega)));clear hu q0 q1 q2 qf hco';go_wp2_with fail;refine (spec_coThrough _ _ (colTo n v) (seenL l v) w2 (own_intsR HO3.out fun x hx => by have := colTo_bd HP.out v x hx; exact ⟨by omega, by omega⟩) HU.out (by have := HLS.out; omega) HSE.out).mono ?_;rintro e w3 ⟨u, rfl, ⟨A3, m3, c3, rfl⟩, hu, hb3⟩;have HU3 := Lib.hid hu;have HO4 := Lib.hid (own_keep4 HO3.out hb3.size fun b _ hb => hb3.block b hb);have HB3 := Lib.hid (HB2.out.trans (hb3.mono (by have := hb2.size; omega)));clear hu;obtain ⟨lv, hlv⟩ : ∃ z, z = leastN ((seenL l v).map fun a => (colTo n v).getD a.toNat 0) := ⟨_, rfl⟩
     have HLV := Lib.hid (show colTo n (v + 1) = (colTo n v).set v (lv : Int) by rw [colTo, hlv, rowAt_eq HL.out]);have ci := own_cellI HO4.out hlt (List.getElem?_eq_getElem (by rw [colTo_len, ← HNN.out]; exact hlt));have fi := own_thaw HO4.out v;go_wp2_with fail;refine (spec_clLeast _ _ w3 HU3.out (by rw [List.length_map]; have := HLS.out; omega)).mono ?_;rintro e w4 ⟨rfl, rfl⟩;rw [← hlv];clear hlv;go_wp2_with fail;go_roundw
     case rel => exact ⟨v + 1, by rw [← HNN.out]; omega, by go_num, by rw [HLV.out, ← HNN.out]; exact own_setI HO4.out _, HB3.out.setCell (p := ⟨g, v, none⟩) (Nat.le_refl _) _⟩
     case measure => simp [intOf]; omega
    ·
     obtain rfl : v = k := by omega
     have HR := Lib.hid (show wr.ownsRow w.heap.size 3 1 (.slice (some ⟨g, 0, none⟩) v v) v ((colTo n v).map intV) from own_mono HO2.out (by omega));have HBB := Lib.hid (bl_trans hB hb0r);go_wp2_with fail;go_ret;exact ⟨_, rfl, HR.out, HBB.out⟩
end Go.Proofs.YtdghoienjegffaaGreat
