/-
  Situations of a rule, the reference's side: what a node does next (ssNext and what it leans on).
  Situations of a rule, the reference's side: ssMatch, ssNext, ssEnabled, ssMove.
  Situations of a rule, the reference's side: ssNext.
-/
import Derived.Test.YtdghoienjegffaaGreatRPlainPutG
namespace Go.Proofs.YtdghoienjegffaaGreat
section
open Go.RowKit
set_option linter.all false
theorem end_at {n : Net} (h : netP n) {v : Nat} {l : Ends} (hl : n.es[v]? = some l) {k : Nat} {e : Int × Int} (he : l[k]? = some e) : ∃ u p : Nat, e = ((u : Int), (p : Int)) ∧ u < n.es.length ∧ p ≤ 5 := by obtain ⟨h1, h2⟩ := h.2.2.2.2 v l hl;obtain ⟨k1, k2, m, hm, hi⟩ := h2 k e he;have hm6 := h.len hm;have := (List.getElem?_eq_some_iff.1 hm).1;have := (List.getElem?_eq_some_iff.1 hi).1;exact ⟨e.1.toNat, e.2.toNat, by obtain ⟨a, b⟩ := e; simp only [Prod.mk.injEq]; dsimp only at k1 k2; omega, by assumption, by omega⟩
theorem pt_at {ss : List Int} {u p : Nat} {x : Int} (h : ss[u]? = some x) : pointsTo ss ((u : Int), (p : Int)) = (x == (p : Int) + 1) := by unfold pointsTo;simp only [Int.toNat_natCast];rw [List.getD_eq_getElem?_getD, h];rfl
theorem fr_at {ss : List Int} {u p : Nat} {x : Int} (h : ss[u]? = some x) : isFree ss ((u : Int), (p : Int)) = (x == 0) := by unfold isFree;simp only [Int.toNat_natCast];rw [List.getD_eq_getElem?_getD, h];rfl
def PortTo {α : Type} (p : α → Bool) (l : List α) (k : Nat) : Prop := ∀ (j : Nat) (e : α), j < k → l[j]? = some e → p e = false
theorem PortTo.start {α : Type} (p : α → Bool) (l : List α) : PortTo p l 0 := fun _ _ h => absurd h (by omega)
theorem PortTo.next {α : Type} {p : α → Bool} {l : List α} {k : Nat} {e : α} (h : PortTo p l k) (he : l[k]? = some e) (hp : p e = false) : PortTo p l (k + 1) := fun j y hj hy => by
  by_cases ej : j = k
  · subst ej
    obtain rfl := Option.some.inj (he.symm.trans hy);exact hp
  · exact h j y (by omega) hy
theorem PortTo.here {α : Type} {p : α → Bool} {l : List α} {k : Nat} {e : α} (h : PortTo p l k) (he : l[k]? = some e) (hp : p e = true) : portI p l = k := by obtain ⟨hk, hek⟩ := List.getElem?_eq_some_iff.1 he;have : l.findIdx? p = some k := List.findIdx?_eq_some_iff_getElem.2 ⟨hk, by rw [hek]; exact hp, fun j hj => by rw [h j _ hj (List.getElem?_eq_getElem (by omega))]; simp⟩;unfold portI;rw [this]
theorem PortTo.fin {α : Type} {p : α → Bool} {l : List α} {k : Nat} (h : PortTo p l k) (hk : l.length ≤ k) : portI p l = -1 := by
  have : l.findIdx? p = none := List.findIdx?_eq_none_iff.2 fun x hx => by obtain ⟨j, hj⟩ := List.mem_iff_getElem?.1 hx;exact h j x (by have := (List.getElem?_eq_some_iff.1 hj).1; omega) hj
  unfold portI;rw [this]
def StB (n : Net) (ss : List Int) : Prop := ss.length = n.es.length ∧ ∀ x ∈ ss, 0 ≤ x ∧ x ≤ 40
theorem Sts.stB {n : Net} {r : Int} {ss : List Int} (h : netP n) (hs : Sts (cnts n r) ss) : StB n ss := by
  refine ⟨by rw [← hs.1, cnts_len], fun x hx => ?_⟩;obtain ⟨v, hv⟩ := List.mem_iff_getElem?.1 hx;have hvl : v < n.es.length := by rw [← cnts_len n r, hs.1]; exact (List.getElem?_eq_some_iff.1 hv).1
  have h1 := hs.2 v _ x (cnts_at (List.getElem?_eq_getElem hvl)) hv;have h2 := cntAt_bd h r (List.getElem?_eq_getElem hvl);omega
theorem StB.at_ {n : Net} {ss : List Int} (h : StB n ss) {u : Nat} (hu : u < n.es.length) : ∃ x, ss[u]? = some x ∧ 0 ≤ x ∧ x ≤ 40 :=
  ⟨_, List.getElem?_eq_getElem (by rw [h.1]; exact hu), h.2 _ (List.getElem_mem _)⟩
def ThRel (xs ats : List Int) (w : World) (v i : Value) (wr : World) : Prop :=
  ∃ k : Nat, k ≤ ats.length ∧ i = .int .i64 k ∧ wr.ownsRow w.heap.size 3 1 v k (((ats.map fun a => xs.getD a.toNat 0).take k).map intV) ∧ Below w.heap.size w wr
set_option maxRecDepth 100000 in
theorem spec_coThrough (va vb : Value) (xs ats : List Int) (w : World) (h : IntsR w w.heap.size va xs) (h' : IntsR w w.heap.size vb ats) (hl : ats.length ≤ 2000000) (hat : ∀ a ∈ ats, 0 ≤ a ∧ a.toNat < xs.length) :
    Calls Tryz.prog 112 #[va, vb] w fun e w' => ∃ u, e = .returned u ∧ (∃ A m c, u = .slice A m c) ∧ IntsR w' w'.heap.size u (ats.map fun a => xs.getD a.toNat 0) ∧ Below w.heap.size w w' := by
  have HX := Lib.hid h.2;obtain ⟨Aa, ca, rfl, -, hca, hsa⟩ := h.open_;obtain ⟨Ab, cb, rfl, -, hcb, hsb⟩ := h'.open_;unfold maxLen at hca hcb;clear h h';go_enter Tryz.func112, Tryz.ntmps112;go_wp2_with fail;go_loopw [5, 7, 10] (fun v _ i wr => ThRel xs ats w v i wr) (fun _ _ i _ => ats.length - (intOf i).toNat)
  case atStart => exact ⟨0, Nat.zero_le _, rfl, World.ownsRow_nil _ _ _ _, Below.refl _ _⟩
  case round =>
    obtain ⟨k, hk, rfl, hown, hbl⟩ := hrel;by_cases hlt : k < ats.length
    · obtain ⟨a, ha⟩ : ∃ a, ats[k]? = some a := ⟨_, List.getElem?_eq_getElem hlt⟩
      obtain ⟨a0, al⟩ := hat a (List.mem_of_getElem? ha);obtain ⟨u, rfl⟩ : ∃ u : Nat, a = (u : Int) := ⟨a.toNat, by omega⟩
      have hul : u < xs.length := by simpa using al
      obtain ⟨x, hx⟩ : ∃ x, xs[u]? = some x := ⟨_, List.getElem?_eq_getElem hul⟩
      obtain ⟨ad, rfl, hb, hc⟩ := hsb (by omega);obtain ⟨ae, rfl, hb', hc'⟩ := hsa (by omega);have hcell := (hbl.cell (p := ad.add k) (by rw [block_add]; exact hb)).trans (hc k _ ha);have hcell' := (hbl.cell (p := ae.add u) (by rw [block_add]; exact hb')).trans (hc' u _ hx);have HS := Lib.hid (ints_snoc (xs := ats.map fun a => xs.getD a.toNat 0) (k := k) (x := x) (by rw [List.getElem?_map, ha]; simp [List.getD_eq_getElem?_getD, hx]));clear hsa hsb hc hc' ha hx a0 al hat;go_wp2_with ((at_builtin; refine wpList_append1 wr rfl (.tmp 14) (.tmp 19) 25 rfl w.heap.size 3 _ 8 Tryz.underlying25 intInfo rfl _ _ _ rfl _ rfl rfl hown (by unfold maxLen; omega) (by omega) hbl.size ?_; intro v' w' hown' hbl' hgr' hlt' hob'))
      go_roundw
      case rel => exact ⟨k + 1, by omega, by go_num, by rw [HS.out]; exact hown', hbl.trans hbl'⟩
      case measure => simp [intOf]; omega
    · have hI := IntsRel.fin hown (by rw [List.length_map]; omega) (fun z hz => by
        obtain ⟨a, ha, rfl⟩ := List.mem_map.1 hz;have hl := (hat a ha).2;rw [List.getD_eq_getElem?_getD, List.getElem?_eq_getElem hl]
        exact HX.out _ (List.getElem_mem hl))
      have HO := Lib.hid hI; clear hI hown;go_wp2_with fail;go_ret;exact ⟨_, rfl, HO.out.isSlice, HO.out, hbl⟩
def ClRel (xs : List Int) (w : World) (c : Value) (wr : World) : Prop := w = wr ∧ ∃ k : Nat, k ≤ xs.length ∧ c = .int .i64 k ∧ ∀ j, j < k → (j : Int) ∈ xs
theorem spec_clLeast (v : Value) (xs : List Int) (w : World) (h : IntsR w w.heap.size v xs) (hl : xs.length ≤ 2000000) :
  Calls Tryz.prog 115 #[v] w fun e w' => e = .returned (.int .i64 (leastN xs)) ∧ w = w' := by
 obtain ⟨Aa, ca, rfl, -, -, -⟩ := h.open_;have HI := Lib.hid h; clear h;go_enter Tryz.func115, Tryz.ntmps115;go_wp2_with fail;go_loopw [3] (fun c wr => ClRel xs w c wr) (fun c _ => xs.length + 1 - (intOf c).toNat)
 case atStart => exact ⟨rfl, 0, Nat.zero_le _, rfl, fun _ h => absurd h (by omega)⟩
 case round =>
  obtain ⟨rfl, k, hk, rfl, hup⟩ := hrel;have HU := Lib.hid hup; clear hup;have J := Lib.hid (spec_l1Has _ xs (k : Int) w HI.out);cases hq : hasB xs (k : Int) with
  | true =>
   rw [hq] at J;have hm := propB_iff.1 hq;have hk1 : k + 1 ≤ xs.length := pigeon (k + 1) xs fun j hj => by
    by_cases e : j = k
    · subst e; exact hm
    · exact HU.out j (by omega)
   have HN := Lib.hid (show ∀ j, j < k + 1 → (j : Int) ∈ xs from fun j hj => by
    by_cases e : j = k
    · subst e; exact hm
    · exact HU.out j (by omega))
   clear hq hm;go_wp2_with (go_at_call 43; refine J.out.mono ?_; rintro e w' ⟨rfl, rfl⟩)
   go_roundw
   case rel => exact ⟨rfl, k + 1, hk1, by go_num, HN.out⟩
   case measure => simp [intOf]; omega
  | false =>
   rw [hq] at J;have HE := Lib.hid (leastN_eq ⟨HU.out, fun hm => by rw [hasB_t hm] at hq; cases hq⟩);clear hq;go_wp2_with (go_at_call 43; refine J.out.mono ?_; rintro e w' ⟨rfl, rfl⟩)
   go_ret;exact ⟨ret_int (by rw [HE.out]), rfl⟩
def PtRel (p : Int × Int → Bool) (l : Ends) (w : World) (i : Value) (wr : World) : Prop := Below w.heap.size w wr ∧ ∃ k : Nat, k ≤ l.length ∧ i = .int .i64 k ∧ PortTo p l k
set_option maxRecDepth 100000 in
theorem spec_ssPointed (ve vi vn vs : Value) (n : Net) (ss : List Int) (v : Nat) (l : Ends) (w : World) (h : NetR w w.heap.size ve vi vn n) (hp : netP n) (hs : IntsR w w.heap.size vs ss) (hS : StB n ss) (hl : n.es[v]? = some l) :
  Calls Tryz.prog 152 #[.agg #[ve, vi, vn], vs, .int .i64 (v : Int)] w fun e w' => e = .returned (.int .i64 (portI (pointsTo ss) l)) ∧ Below w.heap.size w w' := by
 have h40 := hp.1.2;have hl6 := hp.len hl;have HP := Lib.hid hp; clear hp;have hvl : v < n.es.length := (List.getElem?_eq_some_iff.1 hl).1;obtain ⟨As, cs, rfl, -, -, hsc⟩ := hs.open_;have hsl := hS.1;have HST := Lib.hid hS; clear hS;obtain ⟨sd, rfl, hsb, hsx⟩ := hsc (by omega);have HSX := Lib.hid hsx; clear hs hsc hsx;obtain ⟨⟨A0, m0, c0, rfl⟩, ⟨A1, m1, c1, rfl⟩, A2, m2, c2, rfl⟩ := h.slices;obtain ⟨w0, hw0, hB, HD, hz0, HS0⟩ := box3 w (.slice A0 m0 c0) (.slice A1 m1 c1) (.slice A2 m2 c2) 27;have HN0 := Lib.hid h; have HN := Lib.hid (h.up hB); clear h;have HW0 := Lib.hid hw0; clear hw0;obtain ⟨q0, q1, q2, qf⟩ := cells3 HD;obtain ⟨hm0, -, -⟩ := HN.out.e.len_slice;subst hm0;obtain ⟨ad, rfl⟩ := HN.out.e.some_ (by omega);obtain ⟨-, u, hu, hr⟩ := HN.out.e.at_ hl;have HR := Lib.hid hr;obtain ⟨A', c', rfl, hlc, hlm, -, h4⟩ := hr;unfold maxLen at hlm;have hu' := hu;rw [HW0.out] at hu';have HL := Lib.hid hl; clear hl;go_enter Tryz.func152, Tryz.ntmps152;go_wp2_with fail;rw [← HW0.out];clear q0 q1 q2 qf hu hu';go_loopw [15, 7, 8] (fun i _ _ wr => PtRel (pointsTo ss) l w0 i wr) (fun i _ _ _ => l.length - (intOf i).toNat)
 case atStart => exact ⟨Below.refl _ _, 0, Nat.zero_le _, rfl, .start _ _⟩
 case round =>
  obtain ⟨hbl, k, hk, rfl, hto⟩ := hrel;have HTO := Lib.hid hto; clear hto;by_cases hlt : k < l.length
  ·
   obtain ⟨e, he⟩ : ∃ e, l[k]? = some e := ⟨_, List.getElem?_eq_getElem hlt⟩
   obtain ⟨b, o', rfl, -, -⟩ := h4 (by omega);obtain ⟨hbb', p0, p1⟩ := (HR.out.below hbl).at_ he;obtain ⟨t, p, rfl, ht, hp5⟩ := end_at HP.out HL.out he;obtain ⟨x, hx, hx0, hx1⟩ := HST.out.at_ ht;have hcx := ((bl_trans hB hbl).cell (p := sd.add t) (by rw [block_add]; exact hsb)).trans (HSX.out t x hx);have hts : t < ss.length := by omega
   have hw1 : IntKind.i64.wrap ((p : Int) + 1) = (p : Int) + 1 := IntWalk.i64_in _ (by omega);have HPT := Lib.hid (pt_at (p := p) hx);have HE := Lib.hid he; clear he hx;obtain ⟨wv, hwv, hbv, HEB, hzv, HSV⟩ := box2 wr (.int .i64 (t : Int)) (.int .i64 (p : Int)) 74;obtain ⟨d0, d1, df⟩ := cells2 HEB;have hcv := (hbv.cell (p := sd.add t) (by rw [block_add]; have := hB.size; have := hbl.size; omega)).trans hcx;have HWV := Lib.hid hwv; clear hwv;dsimp only at p0 p1;cases hq : (x == (p : Int) + 1) with
   | true =>
    have HH := Lib.hid (HTO.out.here HE.out (HPT.out.trans hq));go_wp2_with fail;rw [← HWV.out];refine wp_region_held_drew (S := fun w' => w'.cell? ⟨wr.heap.size, 0, none⟩ = some (.int .i64 (t : Int)) ∧ w'.cell? ⟨wr.heap.size, 1, none⟩ = some (.int .i64 (p : Int)) ∧ w'.cell? (sd.add t) = some (.int .i64 x)) (by kernel_rfl) ?_ (fun hHeld => ?_)
    · go_keep
    refine stk 0 20 ?_;refine stk 1 21 ?_;refine stk 2 22 ?_;refine stk 3 23 ?_;refine stk 4 24 ?_;refine stk 5 25 ?_;refine stk 6 26 ?_;refine stk 7 27 ?_;refine stk 8 28 ?_;refine wpAnyH_done (by kernel_rfl) ?_ _;go_wp2_with fail;go_ret;exact ⟨ret_int HH.out.symm, (bl_trans (bl_trans hB hbl) hbv).drew⟩
   | false =>
    have HH := Lib.hid (HTO.out.next HE.out (HPT.out.trans hq));go_wp2_with fail;rw [← HWV.out];refine wp_region_held_drew (S := fun w' => w'.cell? ⟨wr.heap.size, 0, none⟩ = some (.int .i64 (t : Int)) ∧ w'.cell? ⟨wr.heap.size, 1, none⟩ = some (.int .i64 (p : Int)) ∧ w'.cell? (sd.add t) = some (.int .i64 x)) (by kernel_rfl) ?_ (fun hHeld => ?_)
    · go_keep
    refine stk 0 20 ?_;refine stk 1 21 ?_;refine stk 2 22 ?_;refine stk 3 23 ?_;refine stk 4 24 ?_;refine stk 5 25 ?_;refine stk 6 26 ?_;refine stk 7 27 ?_;refine stk 8 28 ?_;refine wpAnyH_done (by kernel_rfl) ?_ _;go_wp2_with fail;go_roundw
    case rel => exact ⟨(bl_trans hbl hbv).drew, k + 1, by omega, by go_num, HH.out⟩
    case measure => simp [intOf]; omega
  · have HH := Lib.hid (HTO.out.fin (by omega));go_wp2_with fail;go_ret;exact ⟨ret_int HH.out.symm, bl_trans hB hbl⟩
end
section
open Go.RowKit
set_option linter.all false
set_option maxRecDepth 100000 in
set_option maxHeartbeats 1000000 in
theorem spec_ssMatch (ve vi vn vs : Value) (n : Net) (ss : List Int) (v : Nat) (l : Ends) (s : Int) (w : World) (h : NetR w w.heap.size ve vi vn n) (hp : netP n) (hs : IntsR w w.heap.size vs ss) (hS : StB n ss) (hl : n.es[v]? = some l) (hv : ss[v]? = some s) (hsl : s ≤ l.length) :
  Calls Tryz.prog 116 #[.agg #[ve, vi, vn], vs, .int .i64 (v : Int)] w fun e w' => e = .returned (.int .i64 (matchS l ss s)) ∧ Below w.heap.size w w' := by
 have h40 := hp.1.2;have hl6 := hp.len hl;have HP := Lib.hid hp; clear hp;have hvl : v < n.es.length := (List.getElem?_eq_some_iff.1 hl).1;have HSS := Lib.hid hs;obtain ⟨As, cs, rfl, -, -, hsc⟩ := hs.open_;have hssl : n.es.length ≤ ss.length ∧ ss.length ≤ n.es.length := by have := hS.1; omega
 have hs0 := hS.2 s (List.mem_of_getElem? hv);have HST := Lib.hid hS; clear hS;obtain ⟨sd, rfl, hsb, hsx⟩ := hsc (by omega);have HSX := Lib.hid hsx;have hcs := hsx v s hv;clear hs hsc hsx;obtain ⟨⟨A0, m0, c0, rfl⟩, ⟨A1, m1, c1, rfl⟩, A2, m2, c2, rfl⟩ := h.slices;obtain ⟨w0, hw0, hB, HD, hz0, HS0⟩ := box3 w (.slice A0 m0 c0) (.slice A1 m1 c1) (.slice A2 m2 c2) 27;have HN0 := Lib.hid h; have HN := Lib.hid (h.up hB); clear h;have HW0 := Lib.hid hw0; clear hw0;obtain ⟨q0, q1, q2, qf⟩ := cells3 HD;obtain ⟨hm0, -, -⟩ := HN.out.e.len_slice;subst hm0;obtain ⟨ad, rfl⟩ := HN.out.e.some_ (by omega);obtain ⟨hab, u, hu, hr⟩ := HN.out.e.at_ hl;have HR := Lib.hid hr;obtain ⟨A', c', rfl, hlc, hlm, -, h4⟩ := hr;unfold maxLen at hlm;have hcs' := (hB.cell (p := sd.add v) (by rw [block_add]; exact hsb)).trans hcs;have HL := Lib.hid hl; clear hl;have hvs : v < ss.length := by omega
 by_cases hgt : 0 < s
 ·
  obtain ⟨t, hst⟩ : ∃ t : Nat, s = (t : Int) + 1 := ⟨(s - 1).toNat, by omega⟩
  have htl : t < l.length := by omega
  obtain ⟨e, he⟩ : ∃ e, l[t]? = some e := ⟨_, List.getElem?_eq_getElem htl⟩
  obtain ⟨b, o', rfl, -, -⟩ := h4 (by omega);obtain ⟨hbb', p0, p1⟩ := HR.out.at_ he;obtain ⟨x', p, rfl, ht, hp5⟩ := end_at HP.out HL.out he;obtain ⟨x, hx, hx0, hx1⟩ := HST.out.at_ ht;have hcx := (hB.cell (p := sd.add x') (by rw [block_add]; exact hsb)).trans (HSX.out x' x hx);have hts : x' < ss.length := by omega
  dsimp only at p0 p1;have hw0 : IntKind.i64.wrap (s - 1) = (t : Int) := by rw [show s - 1 = (t : Int) by omega]; exact IntWalk.i64_in _ (by omega)
  have hw1 : IntKind.i64.wrap ((p : Int) + 1) = (p : Int) + 1 := IntWalk.i64_in _ (by omega);have hpb := hB.size;have n0 : w0.heap.size ≠ w.heap.size := by omega
  have n1 : w0.heap.size ≠ (ad.add v).block := by rw [block_add]; omega
  have n2 : w0.heap.size ≠ (sd.add v).block := by rw [block_add]; omega
  have n3 : w0.heap.size ≠ (sd.add x').block := by rw [block_add]; omega
  have n4 : w0.heap.size ≠ b := by omega
  have HM := Lib.hid (show matchS l ss s = if (x == 0) || (x == (p : Int) + 1) then s else 0 by
   unfold matchS;rw [if_pos hgt, show (s - 1).toNat = t by omega, List.getD_eq_getElem?_getD, he];show (if isFree ss ((x' : Int), (p : Int)) || pointsTo ss ((x' : Int), (p : Int)) then _ else _) = _
   rw [fr_at hx, pt_at hx])
  have HE := Lib.hid he; clear he hx hst;have hcs'' := hcs';rw [HW0.out] at hcs'';go_enter Tryz.func116, Tryz.ntmps116;go_wp2_with fail;rw [← HW0.out];refine wp_region_held_drew (S := fun w' => w'.cell? ⟨w.heap.size, 0, none⟩ = some (.slice (some ad) n.es.length c0) ∧ w'.cell? (ad.add v) = some (.slice (some ⟨b, o', none⟩) l.length c') ∧ w'.cell? (sd.add v) = some (.int .i64 s) ∧ w'.cell? (sd.add x') = some (.int .i64 x) ∧ w'.cell? ⟨b, o' + t * 2, none⟩ = some (.int .i64 (x' : Int)) ∧ w'.cell? ⟨b, o' + t * 2 + 1, none⟩ = some (.int .i64 (p : Int))) (by kernel_rfl) ?_ (fun hHeld => ?_)
  · go_keep
  refine stk 0 16 ?_;refine stk 1 17 ?_;refine stk 2 18 ?_;refine stk 3 19 ?_;refine stk 4 20 ?_;refine stk 5 21 ?_;refine stk 6 22 ?_;refine stk 7 23 ?_;refine stk 8 24 ?_;refine stk 9 25 ?_;refine stk 10 26 ?_;refine stk 11 27 ?_;refine tr 12 rfl (by kernel_rfl) (fun K hK => ?_);go_simp
  
  refine hK.out _ _ ?_ (fun hHeld => ?_)
  · go_keep
  clear hK K
  try simp only [Act.put, pu]
  refine tr 13 rfl (by kernel_rfl) (fun K hK => ?_);go_simp
  
  refine hK.out _ _ ?_ (fun hHeld => ?_)
  · go_keep
  clear hK K
  try simp only [Act.put, pu]
  refine wpAnyH_done (by kernel_rfl) ?_ _;obtain ⟨wv, hwv, hbv, HEB, hzv, HSV⟩ := box2 w0 (.int .i64 (x' : Int)) (.int .i64 (p : Int)) 74;obtain ⟨w1, hw1⟩ : ∃ z, z = wv.drew := ⟨_, rfl⟩
  have hb1 : Below w0.heap.size w0 w1 := by rw [hw1]; exact hbv.drew
  obtain ⟨d0, d1, df⟩ := cells2 (w := w1) (b := w0.heap.size) (v0 := .int .i64 (x' : Int)) (v1 := .int .i64 (p : Int)) (t := 74) (Lib.hid (by rw [hw1]; exact HEB.out));rw [← hwv, ← hw1];replace hcx := (hb1.cell (p := sd.add x') (by rw [block_add]; omega)).trans hcx;replace hcs' := (hb1.cell (p := sd.add v) (by rw [block_add]; omega)).trans hcs';clear hcs'' hHeld hw1 hwv hu p0 p1 q0 q1 q2 qf;cases hq1 : (x == 0) with
  | true =>
   have HF := Lib.hid (show s = matchS l ss s by rw [HM.out, hq1]; rfl);go_wp2_with fail;refine wp_region_held_drew (S := fun w' => w'.cell? ⟨w0.heap.size, 0, none⟩ = some (.int .i64 (x' : Int)) ∧ w'.cell? ⟨w0.heap.size, 1, none⟩ = some (.int .i64 (p : Int)) ∧ w'.cell? (sd.add x') = some (.int .i64 x)) (by kernel_rfl) ?_ (fun hHeld => ?_)
   · go_keep
   refine stk 0 28 ?_;refine stk 1 29 ?_;refine stk 2 30 ?_;refine stk 3 31 ?_;refine stk 4 32 ?_;refine stk 5 33 ?_;refine stk 6 34 ?_;refine stn 7 35 ?_;refine stn 8 36 ?_;refine stn 9 37 ?_;refine stn 10 38 ?_;refine stn 11 39 ?_;refine stn 12 40 ?_;refine stn 13 41 ?_;refine stn 14 42 ?_;refine stn 15 43 ?_;refine stk 16 44 ?_;refine wpAnyH_done (by kernel_rfl) ?_ _;go_wp2_with fail;go_ret;exact ⟨ret_int HF.out, (bl_trans hB hb1).drew⟩
  | false =>
   cases hq2 : (x == (p : Int) + 1) with
   | true =>
    have HF := Lib.hid (show s = matchS l ss s by rw [HM.out, hq1, hq2]; rfl);go_wp2_with fail;refine wp_region_held_drew (S := fun w' => w'.cell? ⟨w0.heap.size, 0, none⟩ = some (.int .i64 (x' : Int)) ∧ w'.cell? ⟨w0.heap.size, 1, none⟩ = some (.int .i64 (p : Int)) ∧ w'.cell? (sd.add x') = some (.int .i64 x)) (by kernel_rfl) ?_ (fun hHeld => ?_)
    · go_keep
    refine stk 0 28 ?_;refine stk 1 29 ?_;refine stk 2 30 ?_;refine stk 3 31 ?_;refine stk 4 32 ?_;refine stk 5 33 ?_;refine stk 6 34 ?_;refine stk 7 35 ?_;refine stk 8 36 ?_;refine stk 9 37 ?_;refine stk 10 38 ?_;refine stk 11 39 ?_;refine stk 12 40 ?_;refine stk 13 41 ?_;refine stk 14 42 ?_;refine stk 15 43 ?_;refine stk 16 44 ?_;refine wpAnyH_done (by kernel_rfl) ?_ _;go_wp2_with fail;go_ret;exact ⟨ret_int HF.out, (bl_trans hB hb1).drew⟩
   | false =>
    have HF := Lib.hid (show 0 = matchS l ss s by rw [HM.out, hq1, hq2]; rfl);go_wp2_with fail;refine wp_region_held_drew (S := fun w' => w'.cell? ⟨w0.heap.size, 0, none⟩ = some (.int .i64 (x' : Int)) ∧ w'.cell? ⟨w0.heap.size, 1, none⟩ = some (.int .i64 (p : Int)) ∧ w'.cell? (sd.add x') = some (.int .i64 x)) (by kernel_rfl) ?_ (fun hHeld => ?_)
    · go_keep
    refine stk 0 28 ?_;refine stk 1 29 ?_;refine stk 2 30 ?_;refine stk 3 31 ?_;refine stk 4 32 ?_;refine stk 5 33 ?_;refine stk 6 34 ?_;refine stk 7 35 ?_;refine stk 8 36 ?_;refine stk 9 37 ?_;refine stk 10 38 ?_;refine stk 11 39 ?_;refine stk 12 40 ?_;refine stk 13 41 ?_;refine stk 14 42 ?_;refine stk 15 43 ?_;refine stk 16 44 ?_;refine wpAnyH_done (by kernel_rfl) ?_ _;go_wp2_with fail;go_ret;exact ⟨ret_int HF.out, (bl_trans hB hb1).drew⟩
 ·
  have hcs'' := hcs';rw [HW0.out] at hcs'';have HM := Lib.hid (show matchS l ss s = if 0 ≤ portI (pointsTo ss) l then portI (pointsTo ss) l + 1 else portI (isFree ss) l + 1 from if_neg hgt);have hpb := portI_bd (pointsTo ss) l;have HI0 := Lib.hid ((HSS.out.below hB).more hB.size);go_enter Tryz.func116, Tryz.ntmps116;go_wp2_with fail;rw [← HW0.out];refine (spec_ssPointed _ _ _ _ n ss v l w0 HN.out HP.out HI0.out HST.out HL.out).mono ?_;rintro e w1 ⟨rfl, hb1⟩;replace HI0 := Lib.hid ((HI0.out.below hb1).more hb1.size);have hzhb1 := hb1.size;clear q0 q1 q2 qf;replace HD := bk HD hb1;replace HN := Lib.hid (HN.out.up hb1);replace hB := bl_trans hB hb1;obtain ⟨q0, q1, q2, qf⟩ := cells3 HD;clear hcs' hcs'' hu hcs;generalize portI (pointsTo ss) l = q at *;by_cases hq : 0 ≤ q
  · have hqq : q ≥ 0 := hq;have hwq : IntKind.i64.wrap (q + 1) = q + 1 := IntWalk.i64_in _ (by omega);have HF := Lib.hid (show q + 1 = matchS l ss s by rw [HM.out, if_pos hq]);go_wp2_with fail;go_ret;exact ⟨ret_int HF.out, hB⟩
  ·
   have hqq : ¬ q ≥ 0 := hq;have HF := Lib.hid (show matchS l ss s = portI (isFree ss) l + 1 by rw [HM.out, if_neg hq]);go_wp2_with fail;refine (spec_neNear _ _ _ n v l w1 HN.out HL.out (by omega)).mono ?_;rintro e w2 ⟨u, rfl, ⟨A5, m5, c5, rfl⟩, hu, hb2, -⟩;have HU := Lib.hid hu;obtain ⟨hm5, -, hc5, hsu⟩ := hu.some_;have hln : (nearL l).length = l.length := by simp [nearL]
   rw [hln] at hm5 hsu;subst hm5;unfold maxLen at hc5;replace HI0 := Lib.hid ((HI0.out.below hb2).more hb2.size);have hzhb2 := hb2.size;clear q0 q1 q2 qf;replace HD := bk HD hb2;replace HN := Lib.hid (HN.out.up hb2);replace hB := bl_trans hB hb2;obtain ⟨q0, q1, q2, qf⟩ := cells3 HD;clear q0 q1 q2 qf;go_wp2_with fail;go_loopw [61, 9, 10] (fun i _ _ wr => PtRel (isFree ss) l w2 i wr) (fun i _ _ _ => l.length - (intOf i).toNat)
   case atStart => exact ⟨Below.refl _ _, 0, Nat.zero_le _, rfl, .start _ _⟩
   case round =>
    obtain ⟨hbl, k, hk, rfl, hto⟩ := hrel;have HTO := Lib.hid hto; clear hto;by_cases hlt : k < l.length
    ·
     obtain ⟨e, he⟩ : ∃ e, l[k]? = some e := ⟨_, List.getElem?_eq_getElem hlt⟩
     obtain ⟨nd, rfl, hnb, hnc⟩ := hsu (by omega);obtain ⟨t, p, rfl, ht, hp5⟩ := end_at HP.out HL.out he;have hcn := (hbl.cell (p := nd.add k) (by rw [block_add]; exact hnb)).trans (hnc k (t : Int) (by unfold nearL; rw [List.getElem?_map, he]; rfl));obtain ⟨x, hx, hx0, hx1⟩ := HST.out.at_ ht;have hcx := ((bl_trans hB hbl).cell (p := sd.add t) (by rw [block_add]; exact hsb)).trans (HSX.out t x hx);have hts : t < ss.length := by omega
     have HPT := Lib.hid (fr_at (p := p) hx);have HE := Lib.hid he; clear he hx hnc hsu;cases hq1 : (x == 0) with
     | true =>
      have HH := Lib.hid (HTO.out.here HE.out (HPT.out.trans hq1));have hwk : IntKind.i64.wrap ((k : Int) + 1) = (k : Int) + 1 := IntWalk.i64_in _ (by omega);go_wp2_with fail;go_ret;exact ⟨ret_int (by rw [HF.out, HH.out]), bl_trans hB hbl⟩
     | false =>
      have HH := Lib.hid (HTO.out.next HE.out (HPT.out.trans hq1));go_wp2_with fail;go_roundw
      case rel => exact ⟨hbl, k + 1, by omega, by go_num, HH.out⟩
      case measure => simp [intOf]; omega
    · have HH := Lib.hid (HTO.out.fin (by omega));go_wp2_with fail;go_ret;exact ⟨ret_int (by rw [HF.out, HH.out]; rfl), bl_trans hB hbl⟩
end
section
open Go.RowKit
set_option linter.all false
theorem near_st (l : Ends) (ss : List Int) : ((nearL l).map fun a => ss.getD a.toNat 0) = nearSt l ss := by unfold nearL nearSt; rw [List.map_map]; rfl
theorem near_in {n : Net} (h : netP n) {v : Nat} {l : Ends} (hl : n.es[v]? = some l) {a : Int} (ha : a ∈ nearL l) : 0 ≤ a ∧ a.toNat < n.es.length := by unfold nearL at ha;obtain ⟨e, he, rfl⟩ := List.mem_map.1 ha;exact row_in h hl he
theorem leastOf_snoc (k : Int) {xs : List Int} {j : Nat} {x : Int} (h : xs[j]? = some x) : leastOf k (xs.take (j + 1)) = if leastOf k (xs.take j) < x + 1 then leastOf k (xs.take j) else x + 1 := by obtain ⟨hk, rfl⟩ := List.getElem?_eq_some_iff.1 h;rw [List.take_succ_eq_append_getElem hk];unfold leastOf;rw [List.foldl_append];rfl
def LsRel (K : Int) (xs : List Int) (w : World) (i m : Value) (wr : World) : Prop := w = wr ∧ ∃ k : Nat, k ≤ xs.length ∧ i = .int .i64 k ∧ m = .int .i64 (leastOf K (xs.take k))
theorem in_at {n : Net} (h : netP n) {v : Nat} (hv : v < n.es.length) : ∃ y, n.ins[v]? = some y ∧ n.ins.getD v 0 = y ∧ 0 ≤ y ∧ y ≤ 9 := by
  have hl : v < n.ins.length := by rw [h.2.2.1]; exact hv
  have hx := h.2.2.2.1 _ (List.getElem_mem hl);exact ⟨_, List.getElem?_eq_getElem hl, by rw [List.getD_eq_getElem?_getD, List.getElem?_eq_getElem hl]; rfl, hx.1, hx.2⟩
set_option maxRecDepth 100000 in
set_option maxHeartbeats 1000000 in
theorem spec_ssNext (ve vi vn vs : Value) (n : Net) (r : Int) (ss : List Int) (v : Nat) (l : Ends) (s : Int) (w : World) (h : NetR w w.heap.size ve vi vn n) (ha : askP n r) (hs : IntsR w w.heap.size vs ss) (hS : Sts (cnts n r) ss) (hl : n.es[v]? = some l) (hv : ss[v]? = some s) :
  Calls Tryz.prog 64 #[.agg #[ve, vi, vn], .int .i64 r, vs, .int .i64 (v : Int)] w fun e w' => e = .returned (.int .i64 (nextAt n r ss v l s)) ∧ Below w.heap.size w w' := by
 have hp := ha.1;have h40 := hp.1.2;have hl6 := hp.len hl;have hsb0 := hS.2 v _ _ (cnts_at hl) hv;have HSB := Lib.hid hsb0; clear hsb0;have HST := Lib.hid (hS.stB hp);have HNB := Lib.hid (show ∀ x ∈ nearSt l ss, 0 ≤ x ∧ x ≤ 40 from fun x hx => near_bd hp hS hl hx);have HA := Lib.hid ha;have HP := Lib.hid hp; clear hp ha hS;have hvl : v < n.es.length := (List.getElem?_eq_some_iff.1 hl).1;have HSS := Lib.hid hs;obtain ⟨As, cs, rfl, -, -, hsc⟩ := hs.open_;have hssl : n.es.length ≤ ss.length ∧ ss.length ≤ n.es.length := by have := HST.out.1; omega
 have hs0 := HST.out.2 s (List.mem_of_getElem? hv);obtain ⟨sd, rfl, hsb, hsx⟩ := hsc (by omega);have HSX := Lib.hid hsx;have hcs := hsx v s hv;clear hs hsc hsx;obtain ⟨⟨A0, m0, c0, rfl⟩, ⟨A1, m1, c1, rfl⟩, A2, m2, c2, rfl⟩ := h.slices;obtain ⟨w0, hw0, hB, HD, hz0, HS0⟩ := box3 w (.slice A0 m0 c0) (.slice A1 m1 c1) (.slice A2 m2 c2) 27;have HN0 := Lib.hid h; have HN := Lib.hid (h.up hB); clear h;have HW0 := Lib.hid hw0; clear hw0;obtain ⟨q0, q1, q2, qf⟩ := cells3 HD;obtain ⟨hm0, -, -⟩ := HN.out.e.len_slice;subst hm0;obtain ⟨ad, rfl⟩ := HN.out.e.some_ (by omega);have HL := Lib.hid hl; clear hl;have HV := Lib.hid hv; clear hv;have hvs : v < ss.length := by omega
 have HI0 := Lib.hid ((HSS.out.below hB).more hB.size);go_enter Tryz.func64, Tryz.ntmps64;go_wp2_with fail;rw [← HW0.out];refine (spec_neNear _ _ _ n v l w0 HN.out HL.out (by omega)).mono ?_;rintro e w1 ⟨u, rfl, ⟨A5, m5, c5, rfl⟩, hu, hb1, -⟩;have HU := Lib.hid hu; clear hu;replace HI0 := Lib.hid ((HI0.out.below hb1).more hb1.size);have hzhb1 := hb1.size;clear q0 q1 q2 qf;replace HD := bk HD hb1;replace HN := Lib.hid (HN.out.up hb1);replace hB := bl_trans hB hb1;obtain ⟨q0, q1, q2, qf⟩ := cells3 HD;go_wp2_with fail;refine (spec_coThrough _ _ ss (nearL l) w1 HI0.out HU.out (by simp [nearL]; omega) (fun a ha => by have := near_in HP.out HL.out ha; omega)).mono ?_;rintro e w2 ⟨u, rfl, ⟨A6, m6, c6, rfl⟩, hu2, hb2⟩;rw [near_st] at hu2;have HR2 := Lib.hid hu2; clear hu2 HU;replace HI0 := Lib.hid ((HI0.out.below hb2).more hb2.size);have hzhb2 := hb2.size;clear q0 q1 q2 qf;replace HD := bk HD hb2;replace HN := Lib.hid (HN.out.up hb2);replace hB := bl_trans hB hb2;obtain ⟨q0, q1, q2, qf⟩ := cells3 HD;have hcs2 := (hB.cell (p := sd.add v) (by rw [block_add]; exact hsb)).trans hcs;clear hcs;obtain ⟨y, hy, hyg, hy0, hy9⟩ := in_at HP.out hvl;by_cases h1 : r = 1
 ·
  subst h1;have HE := Lib.hid (show nextAt n 1 ss v l s = if y = 1 then 0 else leastOf n.es.length (nearSt l ss) by unfold nextAt treeS; rw [if_pos rfl, hyg]);obtain ⟨hm2, -, hm2', hi⟩ := HN.out.n.some_;obtain ⟨id, rfl, hib, hic⟩ := hi (by have := (List.getElem?_eq_some_iff.1 hy).1; omega);have hci := hic v y hy;have hvi : v < m2 := by have := (List.getElem?_eq_some_iff.1 hy).1; omega
  clear hi hic hm2 hyg;by_cases hy1 : y = 1
  ·
   have HF := Lib.hid (show 0 = nextAt n 1 ss v l s by rw [HE.out, if_pos hy1]);have kq : (y == 1) = true := by simpa using hy1
   clear hy1;go_wp2_with fail;go_ret;exact ⟨ret_int HF.out, hB⟩
  ·
   have HF := Lib.hid (show leastOf n.es.length (nearSt l ss) = nextAt n 1 ss v l s by rw [HE.out, if_neg hy1]);have kq : (y == 1) = false := by simpa using hy1
   clear hy1;obtain ⟨hm6, -, hm6', hq⟩ := HR2.out.some_;have HQ := Lib.hid hq; clear hq;have hnl := nearSt_len l ss;have hm6l : m6 ≤ 6 := by omega
   have HM6 := Lib.hid hm6; clear hm6 hnl;unfold maxLen at hm6';go_wp2_with fail;clear hci hvi hib;go_loopw [35, 13, 11] (fun i _ m wr => LsRel n.es.length (nearSt l ss) w2 i m wr) (fun i _ _ _ => m6 - (intOf i).toNat)
   case atStart => exact ⟨rfl, 0, Nat.zero_le _, rfl, rfl⟩
   case round =>
    obtain ⟨rfl, k, hk, rfl, rfl⟩ := hrel;by_cases hlt : k < m6
    ·
     obtain ⟨x, hx⟩ : ∃ x, (nearSt l ss)[k]? = some x := ⟨_, List.getElem?_eq_getElem (by rw [← HM6.out]; exact hlt)⟩
     obtain ⟨nd, rfl, hnb, hnc⟩ := HQ.out (by rw [← HM6.out]; omega);have hcx := hnc k x hx;have hxb := HNB.out x (List.mem_of_getElem? hx);have hwx : IntKind.i64.wrap (x + 1) = x + 1 := IntWalk.i64_in _ (by omega);have HS := Lib.hid (leastOf_snoc (n.es.length : Int) hx);clear hx hnc;generalize leastOf (n.es.length : Int) ((nearSt l ss).take k) = q at *;go_wp2_with (go_at_call 114; refine (spec_l1Least _ _ _).mono ?_; rintro e w' ⟨rfl, rfl⟩)
     go_roundw
     case rel => exact ⟨rfl, k + 1, by rw [← HM6.out]; omega, by go_num, by rw [HS.out]⟩
     case measure => simp [intOf]; omega
    · have e1 : (nearSt l ss).take k = nearSt l ss := List.take_of_length_le (by rw [← HM6.out]; omega);rw [e1];go_wp2_with fail;go_ret;exact ⟨ret_int HF.out, hB⟩
 have k1 : (r == 1) = false := by simpa using h1
 by_cases h2 : r = 2
 ·
  subst h2;cases hq : hasB (nearSt l ss) s with
  | true =>
   have HF := Lib.hid (show (leastN (nearSt l ss) : Int) = nextAt n 2 ss v l s by unfold nextAt; rw [if_neg (by omega), if_pos rfl, if_pos (propB_iff.1 hq)]);have J := Lib.hid (spec_l1Has _ (nearSt l ss) s w2 HR2.out);rw [hq] at J;go_wp2_with (go_at_call 43; refine J.out.mono ?_; rintro e w' ⟨rfl, rfl⟩)
   refine (spec_clLeast _ (nearSt l ss) w2 HR2.out (by rw [nearSt_len]; omega)).mono ?_;rintro e w' ⟨rfl, rfl⟩;go_wp2_with fail;go_ret;exact ⟨ret_int HF.out, hB⟩
  | false =>
   have HF := Lib.hid (show s = nextAt n 2 ss v l s by unfold nextAt; rw [if_neg (by omega), if_pos rfl, if_neg (fun hm => by rw [hasB_t hm] at hq; cases hq)]);have J := Lib.hid (spec_l1Has _ (nearSt l ss) s w2 HR2.out);rw [hq] at J;go_wp2_with (go_at_call 43; refine J.out.mono ?_; rintro e w' ⟨rfl, rfl⟩)
   go_ret;exact ⟨ret_int HF.out, hB⟩
 have k2 : (r == 2) = false := by simpa using h2
 by_cases h3 : r = 3
 ·
  subst h3;cases hq : hasB (nearSt l ss) 1 with
  | true =>
   have HF := Lib.hid (show 0 = nextAt n 3 ss v l s by unfold nextAt; rw [if_neg (by omega), if_neg (by omega), if_pos rfl, if_pos (propB_iff.1 hq)]);have J := Lib.hid (spec_l1Has _ (nearSt l ss) 1 w2 HR2.out);rw [hq] at J;go_wp2_with (go_at_call 43; refine J.out.mono ?_; rintro e w' ⟨rfl, rfl⟩)
   go_ret;exact ⟨ret_int HF.out, hB⟩
  | false =>
   have HF := Lib.hid (show 1 = nextAt n 3 ss v l s by unfold nextAt; rw [if_neg (by omega), if_neg (by omega), if_pos rfl, if_neg (fun hm => by rw [hasB_t hm] at hq; cases hq)]);have J := Lib.hid (spec_l1Has _ (nearSt l ss) 1 w2 HR2.out);rw [hq] at J;go_wp2_with (go_at_call 43; refine J.out.mono ?_; rintro e w' ⟨rfl, rfl⟩)
   go_ret;exact ⟨ret_int HF.out, hB⟩
 have k3 : (r == 3) = false := by simpa using h3
 by_cases h4 : r = 4
 · subst h4;have HF := Lib.hid (show matchS l ss s = nextAt n 4 ss v l s by unfold nextAt; rw [if_neg (by omega), if_neg (by omega), if_neg (by omega), if_pos rfl]);have hc : cntAt n 4 l = l.length + 1 := rfl;go_wp2_with fail;refine (spec_ssMatch _ _ _ _ n ss v l s w2 HN.out HP.out HI0.out HST.out HL.out HV.out (by have := HSB.out.2; omega)).mono ?_;rintro e w3 ⟨rfl, hb3⟩;go_wp2_with fail;go_ret;exact ⟨ret_int HF.out, bl_trans hB hb3⟩
 have k4 : (r == 4) = false := by simpa using h4
 have h5 : r = 5 := by have := HA.out.2.1; omega
 subst h5;obtain ⟨hl2, -⟩ := (HA.out.2.2.2 rfl).2.2.2 l (List.mem_of_getElem? HL.out);obtain ⟨e, he⟩ : ∃ e, l[1]? = some e := ⟨_, List.getElem?_eq_getElem (by omega)⟩
 obtain ⟨t, p, rfl, ht, hp5⟩ := end_at HP.out HL.out he;obtain ⟨x, hx, hx0, hx1⟩ := HST.out.at_ ht
 have HE := Lib.hid (show nextAt n 5 ss v l s = if y ≠ 1 then x else if x = s then (s + 1).tmod (n.es.length + 1) else s by
  unfold nextAt tokenS;rw [if_neg (by omega), if_neg (by omega), if_neg (by omega), if_neg (by omega), hyg, List.getD_eq_getElem?_getD (l := l), he]
  simp only [Option.getD_some, Int.toNat_natCast, List.getD_eq_getElem?_getD, hx])
 obtain ⟨-, u, hu, hr⟩ := HN.out.e.at_ HL.out;have HR := Lib.hid hr;obtain ⟨A', c', rfl, hlc, hlm, -, h4'⟩ := hr;unfold maxLen at hlm;obtain ⟨b, o', rfl, -, -⟩ := h4' (by omega);obtain ⟨hbb', p0, p1⟩ := HR.out.at_ he;have p0' : w2.cell? ⟨b, o' + 2, none⟩ = some (.int .i64 (t : Int)) := p0;have hcx := (hB.cell (p := sd.add t) (by rw [block_add]; exact hsb)).trans (HSX.out t x hx);have hts : t < ss.length := by omega
 obtain ⟨hm2, -, hm2', hi⟩ := HN.out.n.some_;obtain ⟨id, rfl, hib, hic⟩ := hi (by have := (List.getElem?_eq_some_iff.1 hy).1; omega);have hci := hic v y hy;have hvi : v < m2 := by have := (List.getElem?_eq_some_iff.1 hy).1; omega
 have h1l : 1 < l.length := by omega
 have hw1 : IntKind.i64.wrap (s + 1) = s + 1 := IntWalk.i64_in _ (by omega);have hw2 : IntKind.i64.wrap ((n.es.length : Int) + 1) = (n.es.length : Int) + 1 := IntWalk.i64_in _ (by omega);have hm0 := Int.tmod_nonneg (n.es.length + 1 : Int) (show 0 ≤ s + 1 by omega);have hm1 := Int.tmod_lt_of_pos (s + 1) (show (0 : Int) < n.es.length + 1 by omega);have hw3 : IntKind.i64.wrap ((s + 1).tmod ((n.es.length : Int) + 1)) = (s + 1).tmod ((n.es.length : Int) + 1) := IntWalk.i64_in _ (by omega);have hnz : ((n.es.length : Int) + 1 == 0) = false := by rw [beq_eq_false_iff_ne]; omega
 clear hi hic hm2 hyg h4' he hx p0 p1 hy hm0 hm1 hl2;by_cases hy1 : y = 1
 ·
  have kq : (y != 1) = false := by simp [hy1]
  by_cases hxs : x = s
  ·
   have kx : (x == s) = true := by simpa using hxs
   have HF := Lib.hid (show (s + 1) % ((n.es.length : Int) + 1) = nextAt n 5 ss v l s by rw [HE.out, if_neg (by simpa using hy1), if_pos hxs, Int.tmod_eq_emod_of_nonneg (by omega)]);clear hxs hy1;go_wp2_with fail;go_ret;exact ⟨ret_int HF.out, hB⟩
  ·
   have kx : (x == s) = false := by simpa using hxs
   have HF := Lib.hid (show s = nextAt n 5 ss v l s by rw [HE.out, if_neg (by simpa using hy1), if_neg hxs]);clear hxs hy1;go_wp2_with fail;go_ret;exact ⟨ret_int HF.out, hB⟩
 ·
  have kq : (y != 1) = true := by simpa using hy1
  have HF := Lib.hid (show x = nextAt n 5 ss v l s by rw [HE.out, if_pos hy1]);clear hy1;go_wp2_with fail;go_ret;exact ⟨ret_int HF.out, hB⟩
end
end Go.Proofs.YtdghoienjegffaaGreat
