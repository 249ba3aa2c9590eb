/-
  Walk problems, the program's side: flexible labels, flexibility and class.
  Walk problems, the program's side: flexibility, class, the first walk of a length.
-/
import Derived.Test.YtjhljipehnmbnaaGreatCwI5
namespace Go.Proofs.YtjhljipehnmbnaaGreat
section
open Go.RowKit
set_option linter.unusedVariables false
set_option linter.unusedSimpArgs false
/-- append(v, u...) for rows of numbers. -/
theorem wpList_appendI (w : World) {ops : Array Oper} {rest : List Oper} {o : Oper} {a : Act} {Q : Exit → Act → World → Prop} (hgd : o.guard = none) (s x : Operand)
    (ho : o.op = .call { callee := .builtin .append, args := #[s, x], argTypes := #[28, 28] }) (base : Nat) {v : Value} {l k : List Nat} {ad : Addr} {c : Nat} (hs : a.eval s = v) (hown : w.ownsRow base 3 1 v l.length ((natsI l).map intV))
    (hx : a.eval x = .slice (some ad) k.length c) (hc : ∀ j y, (natsI k)[j]? = some y → w.cell? (ad.add j) = some (.int .i64 y)) (hl : l.length + k.length ≤ 1000000) (hbase : base ≤ w.heap.size)
    (h : ∀ v' w', w'.ownsRow base 3 1 v' (l ++ k).length ((natsI (l ++ k)).map intV) → Below base w w' → (v' = .slice none 0 0 ↔ v = .slice none 0 0 ∧ k.length = 0) → wpList Tryz.prog ops Q rest (a.put o.dst v') w') :
    wpList Tryz.prog ops Q (o :: rest) a w := by
  obtain ⟨i, hi, hz0, hz1, hz2⟩ := info_parts intInfo
  refine wpList_append_own_at _ hgd s x 28 ho base 3 i _ 1 8 Tryz.underlying28 hi hz0 hz1 hz2 rfl (by decide) v l.length _ hs hown ad k.length c ((natsI k).map intV) hx (by rw [List.length_map, natsI_len]; omega) (fun j u hu => ?_) (fun u hu => ?_) (by unfold maxLen; omega) (by omega) hbase (fun v' w' h1 h2 h3 h4 => ?_)
  · rw [List.getElem?_map] at hu
    obtain ⟨y, hy, rfl⟩ := Option.map_eq_some_iff.1 hu
    exact hc j y hy
  · obtain ⟨y, _, rfl⟩ := List.mem_map.1 hu
    rfl
  · refine h v' w' ?_ ((Below.refl base w).grown h2 hbase fun k hk => (hown.lt k hk).1) h3
    rw [List.length_append, natsI_app, List.map_append]
    exact h1
/-- The labels of the components with the period 1. -/
noncomputable def fl (n : Nat) (xss : List (List Int)) (l : List Nat) : List Nat := (l.map fun r => if perA n xss r = 1 then compL xss r else []).flatten
theorem fl_nil (n : Nat) (xss : List (List Int)) : fl n xss [] = [] := rfl
theorem fl_t {n : Nat} {xss : List (List Int)} {l : List Nat} {r : Nat} (h : perA n xss r = 1) : fl n xss (l ++ [r]) = fl n xss l ++ compL xss r := by simp [fl, h]
theorem fl_f {n : Nat} {xss : List (List Int)} {l : List Nat} {r : Nat} (h : perA n xss r ≠ 1) : fl n xss (l ++ [r]) = fl n xss l := by simp [fl, h]
/-- A flexible label. -/
def flexP (n : Nat) (xss : List (List Int)) (b : Nat) : Prop := ∃ r, isRoot xss r ∧ mates (hasArc xss) r b ∧ perA n xss r = 1
noncomputable def flexL (n : Nat) (xss : List (List Int)) : List Nat := lsP (flexP n xss)
theorem fl_mem {n : Nat} {xss : List (List Int)} (hg : Good n xss) {b : Nat} : ∀ {l : List Nat}, b ∈ fl n xss l ↔ ∃ r ∈ l, mates (hasArc xss) r b ∧ perA n xss r = 1 := by
  intro l
  unfold fl
  rw [List.mem_flatten]
  constructor
  · rintro ⟨m, h1, h2⟩
    obtain ⟨r, h3, rfl⟩ := List.mem_map.1 h1
    split at h2
    · rename_i e; exact ⟨r, h3, (mem_comp hg).1 h2, e⟩
    · cases h2
  · rintro ⟨r, h1, h2, h3⟩
    exact ⟨_, List.mem_map.2 ⟨r, h1, rfl⟩, by rw [if_pos h3]; exact (mem_comp hg).2 h2⟩
theorem fl_nodup {n : Nat} {xss : List (List Int)} (hg : Good n xss) : ∀ k, (fl n xss (roots xss k)).Nodup
  | 0 => List.nodup_nil
  | k + 1 => by
    by_cases hr : isRoot xss k
    · rw [roots_t hr]
      by_cases hp : perA n xss k = 1
      · rw [fl_t hp, List.nodup_append]
        refine ⟨fl_nodup hg k, lsP_nodup _, fun b hb c hc e => ?_⟩
        subst e
        obtain ⟨r, h1, h2, _⟩ := (fl_mem hg).1 hb
        have h3 := mem_lsTo.1 h1
        exact hr.2 r h3.1 (h2.trans ((mem_comp hg).1 hc).symm)
      · rw [fl_f hp]; exact fl_nodup hg k
    · rw [roots_f hr]; exact fl_nodup hg k
theorem root_lt {n : Nat} {xss : List (List Int)} (hg : Good n xss) {r : Nat} (h : isRoot xss r) : r < n := (rc_lt (fun x y => arc_lt hg) h.1.1).1
theorem fl_flex {n : Nat} {xss : List (List Int)} (hg : Good n xss) {b : Nat} : b ∈ fl n xss (roots xss n) ↔ b ∈ flexL n xss := by
  have hn := good_n hg
  rw [fl_mem hg]
  unfold flexL
  rw [mem_lsP]
  constructor
  · rintro ⟨r, h1, h2, h3⟩
    have := (rc_lt (fun x y => arc_lt hg) h2.1).2
    exact ⟨by omega, r, (mem_lsTo.1 h1).2, h2, h3⟩
  · rintro ⟨_, r, h1, h2, h3⟩
    exact ⟨r, mem_lsTo.2 ⟨root_lt hg h1, h1⟩, h2, h3⟩
theorem fl_len {n : Nat} {xss : List (List Int)} {l : List Nat} : (fl n xss l).length ≤ 12 * l.length := by
  induction l with
  | nil => simp [fl]
  | cons r l ih =>
    have : fl n xss (r :: l) = (if perA n xss r = 1 then compL xss r else []) ++ fl n xss l := by simp [fl]
    rw [this, List.length_append, List.length_cons]
    have : (if perA n xss r = 1 then compL xss r else []).length ≤ 12 := by
      split
      · exact lsP_len _
      · simp
    omega
theorem natsI_rising {l : List Nat} (h : l.Pairwise (· < ·)) : Rising (natsI l) := by
  unfold Rising natsI
  rw [List.pairwise_map]
  exact h.imp fun h => by omega
/-- What is put in order is the list of the flexible labels. -/
theorem flex_sorted {n : Nat} {xss : List (List Int)} (hg : Good n xss) {ys : List Int} (hp : ys.Perm (natsI (fl n xss (roots xss n)))) (hs : ys.Pairwise (· ≤ ·)) : ys = natsI (flexL n xss) := by
  have hnd : ys.Nodup := hp.nodup_iff.2 (by
    unfold natsI
    rw [List.Nodup, List.pairwise_map]
    exact (fl_nodup hg n).imp fun h e => h (by omega))
  refine rising_eq _ _ ?_ (natsI_rising (lsP_pw _)) fun z => ?_
  · unfold Rising
    exact (List.Pairwise.and hs hnd).imp fun h => by omega
  · rw [hp.mem_iff]
    unfold natsI
    rw [List.mem_map, List.mem_map]
    constructor
    · rintro ⟨y, h, rfl⟩; exact ⟨y, (fl_flex hg).1 h, rfl⟩
    · rintro ⟨y, h, rfl⟩; exact ⟨y, (fl_flex hg).2 h, rfl⟩
def FlRel (n : Nat) (xss : List (List Int)) (w1 : World) (v i : Value) (wr : World) : Prop :=
  ∃ k : Nat, k ≤ (roots xss n).length ∧ i = .int .i64 k ∧ wr.ownsRow w1.heap.size 3 1 v (fl n xss ((roots xss n).take k)).length ((natsI (fl n xss ((roots xss n).take k))).map intV) ∧ (fl n xss ((roots xss n).take k) = [] → v = .slice none 0 0) ∧ (v = .slice none 0 0 → fl n xss ((roots xss n).take k) = []) ∧ Below w1.heap.size w1 wr
def FlPost (n : Nat) (xss : List (List Int)) (w : World) (e : Ending) (w' : World) : Prop :=
  ∃ v, e = .returned v ∧ w'.ownsRow w.heap.size 3 1 v (flexL n xss).length ((natsI (flexL n xss)).map intV) ∧ Below w.heap.size w w'
theorem comp_64 (xss : List (List Int)) (a : Nat) : ∀ x ∈ natsI (compL xss a), I64 x := nats64 (M := 12) (fun x hx => by have := (mem_lsP.1 hx).1; omega) (by omega)
set_option maxRecDepth 100000 in
set_option maxHeartbeats 1000000 in
theorem impl_flexibleLabels (n : Nat) (v : Value) (xss : List (List Int)) (w : World) (h : RowsR w w.heap.size v xss) (hg : Good n xss) (hv : ∃ A m c, v = .slice A m c) :
    Calls Tryz.prog 22 #[.agg #[.int .i64 (n : Int), v]] w (FlPost n xss w) := by
  have hn := good_n hg
  have HH := Lib.hid h; clear h
  have HG := Lib.hid hg; clear hg
  have hrl := roots_len xss n
  go_enter Tryz.func22, Tryz.ntmps22
  go_wp2_with fail
  refine (impl_walkComponents n v xss _ ((HH.out.below (bl_alloc (Below.refl _ _) _)).more (by simp)) HG.out hv).mono ?_
  rintro e w1 ⟨lv, pv, rfl, hlv, hpv, hb1⟩
  have hb01 := bl_trans (bl_alloc (Below.refl w.heap.size w) _) hb1
  have hsz1 := hb01.size
  have hpr := own_intsR hpv (nats64 (M := 13) (fun x hx => by obtain ⟨r, _, rfl⟩ := List.mem_map.1 hx; have := perA_le n xss r; omega) (by omega))
  have HL := Lib.hid hlv
  obtain ⟨Al, cl, rfl⟩ := hlv.sl
  obtain ⟨Ap, cp, rfl, p1, p2, p3⟩ := hpr.open_
  rw [natsI_len, pers_len] at p1 p3 ⊢
  have P3 := Lib.hid p3
  clear p3 hlv hpv hpr
  obtain ⟨Rs, hRs⟩ : ∃ z, z = roots xss n := ⟨_, rfl⟩
  have HRS := Lib.hid hRs
  have hrl2 : (roots xss n).length ≤ 12 := by omega
  clear hRs
  have hst : FlRel n xss w1 (.slice none 0 0) (.int .i64 0) w1 := ⟨0, Nat.zero_le _, rfl, World.ownsRow_nil _ _ _ _, fun _ => rfl, fun _ => rfl, Below.refl _ _⟩
  have HST := Lib.hid hst
  clear hst
  go_wp2_with fail
  go_loopw [3, 15] (fun v i wr => FlRel n xss w1 v i wr) (fun _ i _ => (roots xss n).length - (intOf i).toNat)
  case atStart => exact HST.out
  case round =>
    clear HST
    obtain ⟨k, hk, rfl, hown, hnil1, hnil2, hbl⟩ := hrel
    have HO := Lib.hid hown
    have HN1 := Lib.hid hnil1
    have HN2 := Lib.hid hnil2
    have hsz := hbl.size
    have hfl := fl_len (n := n) (xss := xss) (l := (roots xss n).take k)
    have htl : ((roots xss n).take k).length ≤ 12 := by rw [List.length_take]; omega
    clear hown hnil1 hnil2
    by_cases hlt : k < (roots xss n).length
    · obtain ⟨r, hr⟩ : ∃ r, (roots xss n)[k]? = some r := ⟨_, List.getElem?_eq_getElem hlt⟩
      obtain ⟨gl, cl', u, e1, -, hgl, -, -, hcu, hR⟩ := HL.out.at_ hlt
      have hIu := (hR r hr).1
      cases e1
      obtain ⟨Au, cu, rfl, u1, u2, u3⟩ := hIu.open_
      rw [natsI_len] at u1 u3 hcu
      have hroot : isRoot xss r := (mem_lsTo.1 (List.mem_of_getElem? hr)).2
      have hrc := root_head HG.out hroot
      have hcl0 : 0 < (compL xss r).length := (List.getElem?_eq_some_iff.1 hrc).1
      have hcl12 : (compL xss r).length ≤ 12 := lsP_len _
      obtain ⟨au, rfl, hub, huc⟩ := u3 hcl0
      have HUC := Lib.hid huc
      replace hcu := (hbl.cell (p := ⟨gl, k, none⟩) hgl).trans hcu
      obtain ⟨ap, rfl, hbp, hcp⟩ := P3.out (by omega)
      have hcellp := (hbl.cell (p := ap.add k) (by rw [block_add]; exact hbp)).trans (hcp k _ (natsI_at (l := pers n xss n) (x := perA n xss r) (by unfold pers; rw [List.getElem?_map, hr]; rfl)))
      have HTK := Lib.hid (show (roots xss n).take (k + 1) = (roots xss n).take k ++ [r] by
        obtain ⟨hk', rfl⟩ := List.getElem?_eq_some_iff.1 hr
        exact List.take_succ_eq_append_getElem hk')
      clear hcp hIu hR hr u3 hroot hrc huc
      by_cases hp : perA n xss r = 1
      · have HE := Lib.hid (fl_t (l := (roots xss n).take k) hp)
        rw [hp] at hcellp
        clear hp
        go_wp2_with (at_builtin; refine wpList_appendI wr rfl (.tmp 25) (.tmp 26) rfl w1.heap.size rfl HO.out rfl (fun j y hj => (hbl.cell (p := au.add j) (by rw [block_add]; exact hub)).trans (HUC.out j y hj)) (by omega) hsz ?_; intro v' w' hown' hbl' hnil')
        go_roundw
        case rel => exact ⟨k + 1, by omega, by go_num, by rw [HTK.out, HE.out]; exact hown', by
          rw [HTK.out, HE.out]
          intro h
          rw [List.append_eq_nil_iff] at h
          rw [h.2] at hcl0
          simp at hcl0, by
          intro h
          have := (hnil'.1 h).2
          omega, hbl.trans hbl'⟩
        case measure => simp [intOf]; omega
      · have HE := Lib.hid (fl_f (l := (roots xss n).take k) hp)
        have hq : (((perA n xss r : Nat) : Int) == 1) = false := by rw [beq_eq_false_iff_ne]; omega
        clear hp
        generalize perA n xss r = pr at *
        go_wp2_with fail
        go_roundw
        case rel => exact ⟨k + 1, by omega, by go_num, by rw [HTK.out, HE.out]; exact HO.out, by rw [HTK.out, HE.out]; exact HN1.out, by rw [HTK.out, HE.out]; exact HN2.out, hbl⟩
        case measure => simp [intOf]; omega
    · have e1 : (roots xss n).take k = roots xss n := List.take_of_length_le (by omega)
      rw [e1] at HO HN1 HN2 hfl
      have HFS := Lib.hid (fun ys => flex_sorted (ys := ys) HG.out)
      have HBR := Lib.hid (bl_trans hb01 hbl)
      obtain ⟨F, hF⟩ : ∃ F, F = fl n xss (roots xss n) := ⟨_, rfl⟩
      rw [← hF] at HO HN1 HN2 hfl HFS
      clear e1 hF
      by_cases hn0 : F = []
      · subst hn0
        have hvn := HN1.out rfl
        subst hvn
        have HFE := Lib.hid (HFS.out [] (List.Perm.refl _) List.Pairwise.nil)
        go_wp2_with (go_at_call 47; refine (Tryz.slices_Sort_int_none _ _ _).mono ?_; rintro e w' ⟨rfl, rfl⟩)
        go_ret
        refine ⟨_, rfl, ?_, HBR.out⟩
        have : flexL n xss = [] := by
          have h := HFE.out
          unfold natsI at h
          exact List.map_eq_nil_iff.1 h.symm
        rw [this]
        exact World.ownsRow_nil _ _ _ _
      · have hvn : u3 ≠ .slice none 0 0 := fun h => hn0 (HN2.out h)
        have HSO := Lib.hid (impl_SortOwn u3 (natsI F) w1.heap.size wr (by rw [natsI_len]; exact HO.out) hvn (by rw [natsI_len]; omega))
        obtain ⟨A3, c3, rfl⟩ := own_sl HO.out
        clear hvn
        go_wp2_with (go_at_call 47; refine HSO.out.mono ?_; rintro e w' ⟨rfl, ⟨ys, hp1, hp2, ho2⟩, hb2⟩)
        go_ret
        have := HFS.out ys hp1 hp2
        subst this
        rw [natsI_len] at ho2
        exact ⟨_, rfl, base_own ho2 hsz1, HBR.out.trans (hb2.mono hsz1)⟩
end
section
open Go.RowKit
set_option linter.unusedVariables false
set_option linter.unusedSimpArgs false
/-- Closed walks of a length. -/
noncomputable def loopB (xss : List (List Int)) (a k : Nat) : Bool := propB (wk (hasArc xss) k a a)
noncomputable def flexN (xss : List (List Int)) (a m : Nat) : Nat := downB (loopB xss a) m
theorem rset_loop {n : Nat} {xss : List (List Int)} (hg : Good n xss) {a k : Nat} (ha : a < n) : (rset xss a k).testBit a = loopB xss a k := by
  have hn := good_n hg
  unfold rset loopB
  rw [Bool.eq_iff_iff, bitSet_bit, propB_iff]
  exact ⟨fun h => h.2, fun h => ⟨by omega, h⟩⟩
def FdRel (xss : List (List Int)) (a m : Nat) (w1 : World) (kv : Value) (wr : World) : Prop :=
  w1 = wr ∧ ∃ k : Nat, k ≤ m ∧ kv = .int .i64 k ∧ flexN xss a m = downB (loopB xss a) k
set_option maxRecDepth 100000 in
theorem impl_flexibilityOf (n : Nat) (v : Value) (xss : List (List Int)) (a : Nat) (w : World) (h : RowsR w w.heap.size v xss) (hg : Good n xss) (ha : a < n) (hv : ∃ A m c, v = .slice A m c) :
    Calls Tryz.prog 23 #[.agg #[.int .i64 (n : Int), v], .int .i64 (a : Int)] w fun e w' => e = .returned (.int .i64 (flexN xss a 288 : Int)) ∧ Below w.heap.size w w' := by
  have hn := good_n hg
  have HH := Lib.hid h; clear h
  have HG := Lib.hid hg; clear hg
  go_enter Tryz.func23, Tryz.ntmps23
  go_wp2_with fail
  refine (impl_reached n v xss a 288 _ ((HH.out.below (bl_alloc (Below.refl _ _) _)).more (by simp)) HG.out ha (by omega) hv).mono ?_
  rintro e w1 ⟨u, rfl, hown, hb1⟩
  have hb01 := bl_trans (bl_alloc (Below.refl w.heap.size w) _) hb1
  have hr := own_intsR hown (rsetL_64 xss a (288 + 1))
  obtain ⟨A2, c2, rfl, q1, q2, q3⟩ := hr.open_
  rw [natsI_len, rsetL_len] at q1 q3 ⊢
  obtain ⟨ad, rfl, hbd, hc⟩ := q3 (by omega)
  have HC := Lib.hid hc
  have HRL := Lib.hid (fun k => rset_loop (k := k) HG.out ha)
  clear q3 hr hown hc
  go_wp2_with fail
  go_loopw [6] (fun kv wr => FdRel xss a 288 w1 kv wr) (fun kv _ => (intOf kv).toNat)
  case atStart => exact ⟨rfl, 288, Nat.le_refl _, rfl, rfl⟩
  case round =>
    obtain ⟨rfl, k, hk, rfl, hfx⟩ := hrel
    have HF := Lib.hid hfx
    clear hfx
    rcases Nat.eq_zero_or_pos k with h0 | h0
    · subst h0
      go_wp2_with fail
      go_ret
      exact ⟨ret_int (by rw [HF.out]; rfl), hb01⟩
    · have hcell := HC.out k _ (natsI_at (rsetL_at (xss := xss) (a := a) (show k < 288 + 1 by omega)))
      have hrl := rset_lt xss a k
      have hk0 : (0 : Int) < (k : Int) := by omega
      have HRJ := Lib.hid (HRL.out k)
      by_cases ht : (rset xss a k).testBit a = true
      · have hbit := bit_t hrl (by omega) ht
        have HE := Lib.hid (show downB (loopB xss a) k = downB (loopB xss a) (k - 1) by
          obtain ⟨j, rfl⟩ : ∃ j, k = j + 1 := ⟨k - 1, by omega⟩
          rw [downB, if_pos (by rw [← HRJ.out]; exact ht)]
          rfl)
        clear ht
        generalize rset xss a k = q at *
        go_wp2_with fail
        go_roundw
        case rel => exact ⟨rfl, k - 1, by omega, by first | go_num | (congr 1; omega), by rw [HF.out, HE.out]⟩
        case measure => simp [intOf]; omega
      · have hbit := bit_f hrl (by omega) ht
        have HE := Lib.hid (show downB (loopB xss a) k = k + 1 by
          obtain ⟨j, rfl⟩ : ∃ j, k = j + 1 := ⟨k - 1, by omega⟩
          rw [downB, if_neg (by rw [← HRJ.out]; exact ht)])
        clear ht
        generalize rset xss a k = q at *
        go_wp2_with fail
        go_ret
        exact ⟨ret_int (by rw [HF.out, HE.out]; push_cast; omega), hb01⟩
/-- The class of a walk problem. -/
noncomputable def classN (n : Nat) (xss : List (List Int)) : Nat :=
  if propB (∃ a, a < n ∧ hasArc xss a a) = true then 3 else if 0 < (flexL n xss).length then 2 else if 0 < (roots xss n).length then 1 else 0
set_option maxRecDepth 100000 in
theorem impl_classOf (n : Nat) (v : Value) (xss : List (List Int)) (w : World) (h : RowsR w w.heap.size v xss) (hg : Good n xss) (hv : ∃ A m c, v = .slice A m c) :
    Calls Tryz.prog 20 #[.agg #[.int .i64 (n : Int), v]] w fun e w' => e = .returned (.int .i64 (classN n xss : Int)) ∧ Below w.heap.size w w' := by
  have HH := Lib.hid h; clear h
  have HG := Lib.hid hg; clear hg
  have hrl := roots_len xss n
  have hn := good_n HG.out
  obtain ⟨w0, hw0⟩ : ∃ z, z = w.alloc (.cells #[.int .i64 (n : Int), v] 26) := ⟨_, rfl⟩
  have hb0 : Below w.heap.size w w0 := by rw [hw0]; exact bl_alloc (Below.refl _ _) _
  have hz0 : w0.heap.size = w.heap.size + 1 := by rw [hw0]; simp
  have HB0 := Lib.hid (show w0.heap[w.heap.size]? = some (.cells #[.int .i64 (n : Int), v] 26 (0, 0)) by rw [hw0]; exact heap_alloc_new _ _)
  have HW0 := Lib.hid hw0
  have hzz : w.heap.size < w0.heap.size := by omega
  clear hw0 hz0
  obtain ⟨b0, b1, bf⟩ := cells2 HB0
  go_enter Tryz.func20, Tryz.ntmps20
  go_wp2_with fail
  rw [← HW0.out]
  refine (impl_walkComponents n v xss w0 ((HH.out.below hb0).more hb0.size) HG.out hv).mono ?_
  rintro e w1 ⟨lv, pv, rfl, hlv, hpv, hb1⟩
  obtain ⟨Al, cl, rfl⟩ := hlv.sl
  have hb01 := bl_trans hb0 hb1
  have HB1 := bk HB0 hb1 (by omega)
  clear hlv hpv b0 b1 bf
  obtain ⟨b0, b1, bf⟩ := cells2 HB1
  go_wp2_with fail
  refine (impl_loopOf n v xss w1 ((HH.out.below hb01).more hb01.size) HG.out hv).mono ?_
  rintro e w2 ⟨i, rfl, hi, hb2⟩
  have hb02 := bl_trans hb01 hb2
  have HB2 := bk HB1 hb2 (by have := hb1.size; omega)
  clear b0 b1 bf
  obtain ⟨b0, b1, bf⟩ := cells2 HB2
  rcases hi with ⟨rfl, hno⟩ | ⟨a, ha, rfl, haa, -⟩
  · have hnp := propB_f (p := ∃ a, a < n ∧ hasArc xss a a) (by rintro ⟨a, h1, h2⟩; exact hno a h1 h2)
    have HCL := Lib.hid (show classN n xss = if 0 < (flexL n xss).length then 2 else if 0 < (roots xss n).length then 1 else 0 by unfold classN; rw [hnp]; rfl)
    clear hno hnp
    go_wp2_with fail
    refine (impl_flexibleLabels n v xss w2 ((HH.out.below hb02).more hb02.size) HG.out hv).mono ?_
    rintro e w3 ⟨u, rfl, hown, hb3⟩
    obtain ⟨Au, cu, rfl⟩ := own_sl hown
    have hb03 := bl_trans hb02 hb3
    clear hown
    by_cases hf : 0 < (flexL n xss).length
    · have hfi : (0 : Int) < ((flexL n xss).length : Int) := by omega
      go_wp2_with fail
      go_ret
      exact ⟨ret_int (by rw [HCL.out, if_pos hf]; rfl), hb03⟩
    · have hfi : ¬ (0 : Int) < ((flexL n xss).length : Int) := by omega
      by_cases hr : 0 < (roots xss n).length
      · have hri : (0 : Int) < ((roots xss n).length : Int) := by omega
        go_wp2_with fail
        go_ret
        exact ⟨ret_int (by rw [HCL.out, if_neg hf, if_pos hr]; rfl), hb03⟩
      · have hri : ¬ (0 : Int) < ((roots xss n).length : Int) := by omega
        go_wp2_with fail
        go_ret
        exact ⟨ret_int (by rw [HCL.out, if_neg hf, if_neg hr]; rfl), hb03⟩
  · have HCL := Lib.hid (show classN n xss = 3 by unfold classN; rw [propB_t ⟨a, ha, haa⟩]; rfl)
    clear haa
    go_wp2_with fail
    go_ret
    exact ⟨ret_int (by rw [HCL.out]; rfl), hb02⟩
end
end Go.Proofs.YtjhljipehnmbnaaGreat
