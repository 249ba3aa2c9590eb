/-
  Walk problems, the program's side: the components and their periods.
-/
import Derived.Test.YtjhljipehnmbnaaGreatOwnOf
import Derived.Test.YtjhljipehnmbnaaGreatPlainComp
namespace Go.Proofs.YtjhljipehnmbnaaGreat
open Go.RowKit
set_option linter.unusedVariables false
set_option linter.unusedSimpArgs false
/-- How element i of the list of components reads. -/
def CR (n : Nat) (xss : List (List Int)) (B : Nat) (i : Nat) (u : Value) (W : World) : Prop := ∀ r, (roots xss n)[i]? = some r → IntsR W W.heap.size u (natsI (compL xss r)) ∧ ∀ g, u.ownBlock = some g → B ≤ g
noncomputable def pers (n : Nat) (xss : List (List Int)) (k : Nat) : List Nat := (roots xss k).map (perA n xss)
theorem pers_len (n : Nat) (xss : List (List Int)) (k : Nat) : (pers n xss k).length = (roots xss k).length := by simp [pers]
def WcRel (n : Nat) (xss : List (List Int)) (base : Nat) (w0 : World) (lv pv dn i : Value) (wr : World) : Prop :=
  ∃ k : Nat, k ≤ n ∧ i = .int .i64 k ∧ dn = .int .i64 (doneN xss k : Int) ∧ OwnOf wr base 28 lv pv.ownBlock (roots xss k).length (CR n xss base) ∧ wr.ownsRow base 3 1 pv (roots xss k).length ((natsI (pers n xss k)).map intV) ∧ Below base w0 wr
def KcRel (n : Nat) (xss : List (List Int)) (a : Nat) (L : List Nat) (w0 : World) (cv i : Value) (wr : World) : Prop :=
  ∃ j : Nat, j ≤ L.length ∧ i = .int .i64 j ∧ wr.ownsRow w0.heap.size 3 1 cv (kf n xss a (L.take j)).length ((natsI (kf n xss a (L.take j))).map intV) ∧ Below w0.heap.size w0 wr
def InRel (xss : List (List Int)) (s : Nat) (K : List Nat) (w0 : World) (f i : Value) (wr : World) : Prop :=
  ∃ j m : Nat, j ≤ K.length ∧ i = .int .i64 j ∧ f = .bool (inN xss s (K.take j)) ∧ wr = w0.drewN m
def WcPost (n : Nat) (xss : List (List Int)) (w : World) (e : Ending) (w' : World) : Prop :=
  ∃ lv pv, e = .returned (.tuple #[lv, pv]) ∧ OwnOf w' w.heap.size 28 lv pv.ownBlock (roots xss n).length (CR n xss w.heap.size) ∧ w'.ownsRow w.heap.size 3 1 pv (roots xss n).length ((natsI (pers n xss n)).map intV) ∧ Below w.heap.size w w'
theorem nats64 {l : List Nat} {M : Nat} (h : ∀ x ∈ l, x ≤ M) (hM : M ≤ 1000000) : ∀ x ∈ natsI l, I64 x := fun x hx => by
  have := natsI_bd h x hx
  unfold I64
  omega
theorem nz_dec (z : Nat) : ((z : Int) != 0) = decide (z ≠ 0) := by
  rw [Bool.eq_iff_iff, bne_iff_ne, decide_eq_true_eq]
  omega
theorem own_type_ne {w : World} {base base' n n' : Nat} {e e' : TypeId} {v v' : Value} {vs vs' : List Value} (h : w.ownsRow base e 1 v n vs) (h' : w.ownsRow base' e' 1 v' n' vs') (hne : e ≠ e') : v.ownBlock = none ∨ v.ownBlock ≠ v'.ownBlock := by
  rcases h.2 with ⟨rfl, _⟩ | ⟨g, cap, cur, rfl, _, hg, _⟩
  · exact .inl rfl
  · right
    rcases h'.2 with ⟨rfl, _⟩ | ⟨g', cap', cur', rfl, _, hg', _⟩
    · simp [Value.ownBlock]
    · intro e1
      have e2 : g = g' := by simpa [Value.ownBlock] using e1
      subst e2
      rw [hg] at hg'
      injection hg' with hg'
      injection hg' with _ ht
      exact hne ht
theorem own_new_ne {w : World} {base n : Nat} {e : TypeId} {v v' : Value} {vs : List Value} (h : w.ownsRow base e 1 v n vs) (hv : ∀ g, v'.ownBlock = some g → g < base) : v.ownBlock = none ∨ v.ownBlock ≠ v'.ownBlock := by
  cases hb : v.ownBlock with
  | none => exact .inl rfl
  | some g =>
    right
    intro e1
    have h1 := (h.lt g hb).1
    have h2 := hv g e1.symm
    omega
set_option maxRecDepth 100000 in
set_option maxHeartbeats 2000000 in
theorem impl_walkComponents (n : Nat) (v : Value) (xss : List (List Int)) (w : World) (h : RowsR w w.heap.size v xss) (hg : Good n xss) (hv : ∃ A m c, v = .slice A m c) :
    Calls Tryz.prog 25 #[.agg #[.int .i64 (n : Int), v]] w (WcPost n xss w) := by
  have hn := good_n hg
  have HH := Lib.hid h; clear h
  have HG := Lib.hid hg; clear hg
  obtain ⟨w0, hw0⟩ : ∃ z, z = w.alloc (.cells #[.int .i64 (n : Int), v] 26) := ⟨_, rfl⟩
  have hb0 : Below w.heap.size w w0 := by rw [hw0]; exact bl_alloc (Below.refl _ _) _
  have hz0 : w0.heap.size = w.heap.size + 1 := by rw [hw0]; simp
  have HB0 := Lib.hid (show w0.heap[w.heap.size]? = some (.cells #[.int .i64 (n : Int), v] 26 (0, 0)) by rw [hw0]; exact heap_alloc_new _ _)
  have HW0 := Lib.hid hw0
  have hzz : w.heap.size < w0.heap.size := by omega
  clear hw0 hz0
  obtain ⟨b0, b1, bf⟩ := cells2 HB0
  go_enter Tryz.func25, Tryz.ntmps25
  go_wp2_with fail
  rw [← HW0.out]
  refine wp_region_held_drew (S := fun w' => w'.cell? ⟨w.heap.size, 0, none⟩ = some (.int .i64 (n : Int)) ∧ w'.cell? ⟨w.heap.size, 1, none⟩ = some v) (by kernel_rfl) ?_ (fun hHeld => ?_)
  · go_keep
  refine tk 0 16 rfl rfl ?_
  try simp only [Act.put, pu]
  refine tk 2 18 rfl rfl ?_
  try simp only [Act.put, pu]
  refine tr 1 rfl (by kernel_rfl) (fun K hK => ?_)
  go_simp
  go_at_call 50
  refine (impl_closure n v xss w0.drew ((HH.out.below (hb0.drew)).more (hb0.drew).size) HG.out hv).mono ?_
  rintro e w1 ⟨g, rfl, hg2, hnum, hb1'⟩
  have hb1 : Below w0.heap.size w0 w1 := (Below.refl _ _).drew.trans hb1'
  clear hb1'
  have HN1 := Lib.hid hnum
  have hgl := hnum.lt
  have HB1 := bk HB0 hb1 (by omega)
  have hb01 := bl_trans hb0 hb1
  clear b0 b1 bf hnum
  obtain ⟨b0, b1, bf⟩ := cells2 HB1
  refine hK.out _ _ ?_ (fun hHeld => ?_)
  · go_keep
  clear hK K
  try simp only [Act.put, pu]
  refine tr 3 rfl (by kernel_rfl) (fun K hK => ?_)
  go_simp
  go_at_call 46
  refine (impl_after n v xss w1 ((HH.out.below hb01).more hb01.size) HG.out).mono ?_
  rintro e w2 ⟨va, rfl, ho, hb2⟩
  obtain ⟨Aa, ca, rfl, g1, g2, g3⟩ := (ho.reads (B := w2.heap.size) ho.1.lt).open_
  rw [maskL_len] at g1 g3 ⊢
  have G3 := Lib.hid g3
  have HN2 := Lib.hid (HN1.out.keep (hb2.block _ hgl))
  have HB2 := bk HB1 hb2 (by have := hb1.size; omega)
  have hb02 := bl_trans hb01 hb2
  clear b0 b1 bf g3 ho HN1
  obtain ⟨b0, b1, bf⟩ := cells2 HB2
  refine hK.out _ _ ?_ (fun hHeld => ?_)
  · go_keep
  clear hK K
  try simp only [Act.put, pu]
  refine tk 4 4 rfl rfl ?_
  try simp only [Act.put, pu]
  refine tk 5 5 rfl rfl ?_
  try simp only [Act.put, pu]
  refine wpAnyH_done (by kernel_rfl) ?_ _
  clear hHeld
  have hgl2 : g < w2.heap.size := by have := hb2.size; omega
  have hz2 : w.heap.size < w2.heap.size := by have := hb02.size; have := hb1.size; have := hb2.size; omega
  have hst : WcRel n xss w2.heap.size w2 (.slice none 0 0) (.slice none 0 0) (.int .i64 0) (.int .i64 0) w2 := ⟨0, Nat.zero_le _, rfl, by rw [doneN_zero]; rfl, OwnOf.nil _ _ _ _ _, World.ownsRow_nil _ _ _ _, Below.refl _ _⟩
  have HST := Lib.hid hst
  clear hst b0 b1 bf HB0 HB1
  go_wp2_with fail
  go_loopw [6, 7, 8, 22] (fun lv pv dn i wr => WcRel n xss w2.heap.size w2 lv pv dn i wr) (fun _ _ _ i _ => n - (intOf i).toNat)
  case atStart => exact HST.out
  case round =>
    clear HST
    obtain ⟨k, hk, rfl, rfl, hlv, hpv, hbl⟩ := hrel
    obtain ⟨wq, hwq⟩ : ∃ z, z = wr := ⟨_, rfl⟩
    subst hwq
    have HL := Lib.hid hlv
    have HP := Lib.hid hpv
    have hb0r := bl_trans hb02 hbl
    have HBr := bk HB2 hbl (by omega)
    have hdl := doneN_lt xss k
    clear hlv hpv
    by_cases hlt : k < n
    · by_cases hdn : (doneN xss k).testBit k = true
      · have hbit := bit_t hdl (by omega) hdn
        have HE := Lib.hid (doneN_skip HG.out hlt hdn)
        have HR := Lib.hid (roots_f (xss := xss) (k := k) (fun hr => by
          obtain ⟨c, h1, h2⟩ := (doneN_bit HG.out hlt).1 hdn
          exact hr.2 c h1 h2))
        clear hdn
        go_wp2_with fail
        go_roundw
        case rel => exact ⟨k + 1, by omega, by go_num, by rw [HE.out], by rw [HR.out]; exact HL.out, by unfold pers; rw [HR.out]; exact HP.out, hbl⟩
        case measure => simp [intOf]; omega
      · have hbit := bit_f hdl (by omega) hdn
        have HND := Lib.hid (show ∀ c, c < k → ¬ mates (hasArc xss) c k from fun c h1 h2 => hdn ((doneN_bit HG.out hlt).2 ⟨c, h1, h2⟩))
        have HE := Lib.hid (doneN_more HG.out hlt)
        have hcc := (hbl.cell (p := ⟨g, k, none⟩) hgl2).trans (HN2.out.cell (closL_at (xss := xss) hlt))
        have hcl := closN_lt n xss k
        have HKA := Lib.hid (kf_all HG.out hlt)
        have HCB := Lib.hid (clos_bl HG.out hlt)
        obtain ⟨R, hR⟩ : ∃ R, R = closN n xss k := ⟨_, rfl⟩
        rw [← hR] at hcc hcl HKA HCB
        clear hdn hR
        generalize doneN xss k = D at *
        go_wp2_with fail
        refine (impl_labelsIn R wq hcl).mono ?_
        rintro e w3 ⟨u, rfl, hl, hb3⟩
        have hr2 := own_intsR hl (bl_64 R)
        obtain ⟨A3, c3, rfl, r1, r2, r3⟩ := hr2.open_
        rw [natsI_len] at r1 r3 ⊢
        have R3 := Lib.hid r3
        have hl12 : (bl R 12).length ≤ 12 := lsTo_len _ 12
        clear r3 hr2 hl
        obtain ⟨L, hL⟩ : ∃ L, L = bl R 12 := ⟨_, rfl⟩
        rw [← hL] at r1 R3 HCB hl12 HKA ⊢
        clear hL
        have hb03 := hbl.trans (hb3.mono hbl.size)
        have hst : KcRel n xss k L w3 (.slice none 0 0) (.int .i64 0) w3 := ⟨0, Nat.zero_le _, rfl, World.ownsRow_nil _ _ _ _, Below.refl _ _⟩
        have HST := Lib.hid hst
        clear hst hcc hcl
        go_wp2_with fail
        go_loopw [10, 36] (fun cv i wr => KcRel n xss k L w3 cv i wr) (fun _ i _ => L.length - (intOf i).toNat)
        case atStart => exact HST.out
        case round =>
          clear HST
          obtain ⟨j, hj, rfl, hcv, hbl4⟩ := hrel
          have HC := Lib.hid hcv
          have hb04 := hb03.trans (hbl4.mono (by have := hb03.size; omega))
          have hz4 := hbl4.size
          have hkl : (kf n xss k (L.take j)).length ≤ 12 := Nat.le_trans kf_len (by rw [List.length_take]; omega)
          clear hcv
          by_cases hlj : j < L.length
          · obtain ⟨x, hx⟩ : ∃ x, L[j]? = some x := ⟨L[j], List.getElem?_eq_getElem hlj⟩
            obtain ⟨ad3, rfl, hbd3, hc3⟩ := R3.out (by omega)
            have hcx := (hbl4.cell (p := ad3.add j) (by rw [block_add]; exact hbd3)).trans (hc3 j _ (natsI_at hx))
            have hxn := HCB.out x (List.mem_of_getElem? hx)
            have hcc := (hb04.cell (p := ⟨g, x, none⟩) hgl2).trans (HN2.out.cell (closL_at (xss := xss) hxn))
            have hcl := closN_lt n xss x
            have HTK := Lib.hid (show L.take (j + 1) = L.take j ++ [x] by
              obtain ⟨hk', rfl⟩ := List.getElem?_eq_some_iff.1 hx
              exact List.take_succ_eq_append_getElem hk')
            clear hc3 hx
            by_cases ht : (closN n xss x).testBit k = true
            · have hbit := bit_t hcl (by omega) ht
              have HE2 := Lib.hid (kf_t (l := L.take j) ht)
              clear ht
              generalize closN n xss x = q at *
              go_wp2_with ((at_builtin; refine wpList_append1 wr rfl (.tmp 48) (.tmp 50) 28 rfl w3.heap.size 3 _ 8 Tryz.underlying28 intInfo rfl _ _ _ rfl _ rfl rfl HC.out (by unfold maxLen; omega) (by omega) hz4 ?_; intro v' w' hown' hbl' hgr' hlt' hob'))
              go_roundw
              case rel => exact ⟨j + 1, by omega, by go_num, by rw [HTK.out, HE2.out, List.length_append, natsI_snoc, List.map_append]; exact hown', hbl4.trans hbl'⟩
              case measure => simp [intOf]; omega
            · have hbit := bit_f hcl (by omega) ht
              have HE2 := Lib.hid (kf_f (l := L.take j) ht)
              clear ht
              generalize closN n xss x = q at *
              go_wp2_with fail
              go_roundw
              case rel => exact ⟨j + 1, by omega, by go_num, by rw [HTK.out, HE2.out]; exact HC.out, hbl4⟩
              case measure => simp [intOf]; omega
          · have e1 : L.take j = L := List.take_of_length_le (by omega)
            rw [e1, HKA.out] at HC hkl
            clear e1
            obtain ⟨w4, hw4⟩ : ∃ z, z = wr := ⟨_, rfl⟩
            subst hw4
            have hK11 := Lib.hid (show ∀ x ∈ kompL xss k, x ≤ 11 from fun x hx => by have := kompL_lt HG.out hlt x hx; omega)
            have HKL := Lib.hid (kompL_lt HG.out hlt)
            have HIA := Lib.hid (inN_all HG.out hlt)
            have HCO := Lib.hid (komp_comp (xss := xss) (a := k))
            have hI := own_intsR HC.out (nats64 hK11.out (by omega))
            have HI := Lib.hid hI
            obtain ⟨Ac, cc, rfl, i1, i2, i3⟩ := hI.open_
            rw [natsI_len] at i1 i3 HC HI ⊢
            have hsl := setN_lt hK11.out
            have hor := i64_or_nat D (setN (kompL xss k)) (by omega) (by omega)
            have I3 := Lib.hid i3
            clear i3 hI
            obtain ⟨Kl, hK⟩ : ∃ z, z = kompL xss k := ⟨_, rfl⟩
            rw [← hK] at HC hkl hK11 HKL HIA HCO HI I3 HE i1 hsl hor ⊢
            have HKK := Lib.hid hK
            clear hK
            obtain ⟨Sn, hSn⟩ : ∃ S, S = setN Kl := ⟨_, rfl⟩
            rw [← hSn] at HE HIA hsl hor
            have HSN := Lib.hid hSn
            clear hSn
            go_wp2_with (go_at_call 51; refine (impl_setOf _ Kl _ (by first | (rw [natsI_len] at HI; exact HI.out) | exact HI.out) hK11.out).mono ?_; rintro e w' ⟨rfl, rfl⟩; rw [← HSN.out])
            have hst : InRel xss Sn Kl w4 (.bool false) (.int .i64 0) w4 := ⟨0, 0, Nat.zero_le _, rfl, by rw [List.take_zero, inN_nil], rfl⟩
            have HST := Lib.hid hst
            clear hst
            go_loopw [11, 59] (fun f i wr => InRel xss Sn Kl w4 f i wr) (fun _ i _ => Kl.length - (intOf i).toNat)
            case atStart => exact HST.out
            case round =>
              clear HST
              obtain ⟨j, m, hj, rfl, rfl, rfl⟩ := hrel
              by_cases hlj : j < Kl.length
              · obtain ⟨x, hx⟩ : ∃ x, Kl[j]? = some x := ⟨Kl[j], List.getElem?_eq_getElem hlj⟩
                obtain ⟨ad3, rfl, hbd3, hc3⟩ := I3.out (by omega)
                have hcx := hc3 j _ (natsI_at hx)
                have hxn := HKL.out x (List.mem_of_getElem? hx)
                obtain ⟨aa, rfl, hba, hca⟩ := G3.out (by omega)
                have hcm := (hb04.cell (p := aa.add x) (by rw [block_add]; exact hba)).trans (hca x _ (maskL_at hxn))
                have hml := mask_lt HG.out.small x
                have HTK := Lib.hid (show Kl.take (j + 1) = Kl.take j ++ [x] by
                  obtain ⟨hk', rfl⟩ := List.getElem?_eq_some_iff.1 hx
                  exact List.take_succ_eq_append_getElem hk')
                clear hc3 hca hx
                cases hf : inN xss Sn (Kl.take j) with
                | true =>
                  have HF := Lib.hid (inN_old (b := x) hf)
                  clear hf
                  generalize mask xss x = q at *
                  go_wp2_with fail
                  refine wp_region_held_drew (S := fun w' => w'.cell? (aa.add x) = some (.int .i64 (q : Int))) (by kernel_rfl) ?_ (fun hHeld => ?_)
                  · go_keep
                  refine tk 0 63 rfl rfl ?_
                  try simp only [Act.put, pu]
                  refine tk 1 64 rfl rfl ?_
                  try simp only [Act.put, pu]
                  refine tn 2 65 rfl rfl ?_
                  try simp only [Act.put, pu]
                  refine tn 3 66 rfl rfl ?_
                  try simp only [Act.put, pu]
                  refine tn 4 67 rfl rfl ?_
                  try simp only [Act.put, pu]
                  refine tn 5 68 rfl rfl ?_
                  try simp only [Act.put, pu]
                  refine tn 6 69 rfl rfl ?_
                  try simp only [Act.put, pu]
                  refine tn 7 70 rfl rfl ?_
                  try simp only [Act.put, pu]
                  refine tn 8 71 rfl rfl ?_
                  try simp only [Act.put, pu]
                  refine tn 9 72 rfl rfl ?_
                  try simp only [Act.put, pu]
                  refine tk 10 73 rfl rfl ?_
                  try simp only [Act.put, pu]
                  refine tk 11 11 rfl rfl ?_
                  try simp only [Act.put, pu]
                  refine wpAnyH_done (by kernel_rfl) ?_ _
                  go_wp2_with fail
                  go_roundw
                  case rel => exact ⟨j + 1, m + 1, by omega, by go_num, by rw [HTK.out, HF.out], by simp⟩
                  case measure => simp [intOf]; omega
                | false =>
                  have HF := Lib.hid (inN_new (b := x) hf)
                  have hand := i64_and_nat (mask xss x) Sn (by omega) (by omega)
                  clear hf
                  generalize mask xss x = q at *
                  go_wp2_with fail
                  refine wp_region_held_drew (S := fun w' => w'.cell? (aa.add x) = some (.int .i64 (q : Int))) (by kernel_rfl) ?_ (fun hHeld => ?_)
                  · go_keep
                  refine tk 0 63 rfl rfl ?_
                  try simp only [Act.put, pu]
                  refine tk 1 64 rfl rfl ?_
                  try simp only [Act.put, pu]
                  refine tk 2 65 rfl rfl ?_
                  try simp only [Act.put, pu]
                  refine tk 3 66 rfl rfl ?_
                  try simp only [Act.put, pu]
                  refine tk 4 67 rfl rfl ?_
                  try simp only [Act.put, pu]
                  refine tk 5 68 rfl rfl ?_
                  try simp only [Act.put, pu]
                  refine tk 6 69 rfl rfl ?_
                  try simp only [Act.put, pu]
                  refine tr 7 rfl (by kernel_rfl) (fun K hK => ?_)
                  go_simp
                  go_at_call 51
                  refine (impl_setOf _ Kl _ (by first | (have h := HI.out; rw [natsI_len] at h; exact h) | exact HI.out) hK11.out).mono ?_
                  rintro e w' ⟨rfl, rfl⟩
                  rw [← HSN.out]
                  refine hK.out _ _ ?_ (fun hHeld => ?_)
                  · go_keep
                  clear hK K
                  try simp only [Act.put, pu]
                  refine tk 8 71 rfl rfl ?_
                  try simp only [Act.put, pu]
                  refine tk 9 72 rfl rfl ?_
                  try simp only [Act.put, pu]
                  refine tk 10 73 rfl rfl ?_
                  try simp only [Act.put, pu]
                  refine tk 11 11 rfl rfl ?_
                  try simp only [Act.put, pu]
                  refine wpAnyH_done (by kernel_rfl) ?_ _
                  go_wp2_with fail
                  go_roundw
                  case rel => exact ⟨j + 1, m + 1, by omega, by go_num, by rw [HTK.out, HF.out, nz_dec], by simp⟩
                  case measure => simp [intOf]; omega
              · have e1 : Kl.take j = Kl := List.take_of_length_le (by omega)
                rw [e1]
                have hb34 := bl_trans hb3 hbl4
                cases hin : inN xss Sn Kl with
                | false =>
                  have HR := Lib.hid (roots_f (xss := xss) (k := k) (fun hr => by
                    have := HIA.out.2 hr.1
                    rw [hin] at this
                    cases this))
                  clear hin e1
                  go_wp2_with fail
                  go_roundw
                  case rel => exact ⟨k + 1, by omega, by go_num, by rw [← HE.out], by rw [HR.out]; exact HL.out.up (bl_drewN hb34 _), by unfold pers; rw [HR.out]; exact own_keep4 HP.out (bl_drewN hb34 m).size (fun b _ hl => (bl_drewN hb34 m).block b hl), bl_drewN hb04 _⟩
                  case measure => simp [intOf]; omega
                | true =>
                  have hroot : isRoot xss k := ⟨HIA.out.1 hin, HND.out⟩
                  have hkk : Kl = compL xss k := HCO.out hroot.1
                  have HRT := Lib.hid (roots_t hroot)
                  have HRA := Lib.hid (roots_at hroot hlt)
                  have HROOT := Lib.hid hroot
                  have HKC := Lib.hid hkk
                  have hrl := roots_len xss k
                  have hzq := hbl.size
                  have HB4 := bk HBr hb34 (by omega)
                  clear hin e1 hroot hkk
                  obtain ⟨b0, b1, bf⟩ := cells2 HB4
                  go_wp2_with fail
                  refine wp_region_held_drew (S := fun w' => w'.cell? ⟨w.heap.size, 0, none⟩ = some (.int .i64 (n : Int)) ∧ w'.cell? ⟨w.heap.size, 1, none⟩ = some v) (by kernel_rfl) ?_ (fun hHeld => ?_)
                  · go_keep
                  refine tk 0 76 rfl rfl ?_
                  try simp only [Act.put, pu]
                  refine tk 1 77 rfl rfl ?_
                  try simp only [Act.put, pu]
                  refine tk 4 80 rfl rfl ?_
                  try simp only [Act.put, pu]
                  refine tk 5 81 rfl rfl ?_
                  try simp only [Act.put, pu]
                  refine tk 6 82 rfl rfl ?_
                  try simp only [Act.put, pu]
                  refine wpAnyH_ready (rs := [2]) (by kernel_rfl) (by simp) ?_
                  refine AllReadyH.cons rfl (fun K hK => ?_) AllReadyH.nil
                  go_simp
                  obtain ⟨W0, hW0⟩ : ∃ z, z = w4.drewN (m + 1) := ⟨_, rfl⟩
                  have HZW := Lib.hid (show w4.heap.size = W0.heap.size by rw [hW0]; rfl)
                  have hb40 : Below w4.heap.size w4 W0 := by rw [hW0]; exact bl_drewN (Below.refl _ _) _
                  have HC0 := Lib.hid (own_keep4 HC.out hb40.size fun b _ hl => hb40.block b hl)
                  have hbq0 := bl_trans hb34 hb40
                  obtain ⟨vs, ho1, ho2⟩ := HL.out.up hbq0
                  have HP0 := Lib.hid (own_keep4 HP.out hbq0.size fun b _ hl => hbq0.block b hl)
                  have hvl : vs.length = (roots xss k).length := by have := ho1.1; omega
                  have HO1 := Lib.hid ho1
                  have HO2 := Lib.hid ho2
                  have HB5 := bk HB4 hb40 (by have := hb34.size; omega)
                  have hz40 := hbq0.size
                  have h34 := hb3.size
                  have HBB := Lib.hid (bl_trans hb0r hbq0)
                  have HWB := Lib.hid (hbl.trans (hbq0.mono hbl.size))
                  have hW0z := hb40.size
                  clear b0 b1 bf ho1 ho2
                  obtain ⟨b0, b1, bf⟩ := cells2 HB5
                  have c0 := Lib.cell?_alloc_some (.cells #[.slice Ac Kl.length cc] 28) b0
                  have c1 := Lib.cell?_alloc_some (.cells #[.slice Ac Kl.length cc] 28) b1
                  rw [← hW0]
                  clear hW0
                  refine hK.out _ _ ?_ (fun hHeld => ?_)
                  · go_keep
                  clear hK K
                  try simp only [Act.put, pu]
                  refine wpAnyH_ready (rs := [3]) (by kernel_rfl) (by simp) ?_
                  refine AllReadyH.cons rfl (fun K hK => ?_) AllReadyH.nil
                  rw [if_pos (by rfl)]
                  refine oper_append1 W0 (.tmp 76) (.tmp 78) 24 rfl w2.heap.size 28 _ 24 Tryz.underlying24 sliceInfo rfl _ _ _ rfl _ rfl (by rw [← HZW.out]; rfl) HO1.out (by unfold maxLen; omega) (by omega) (by omega) ?_
                  intro v6 w6 hown6 hbl6 hgr6 hlt6 hob6
                  have hne1 := own_type_ne HC0.out HO1.out (by decide)
                  have hne2 := own_new_ne HC0.out (fun g hg => by have := (HP.out.lt g hg).2; omega)
                  have HLN := Lib.hid (OwnOf.push (R := CR n xss w2.heap.size) HO2.out hvl (fun w2 h2 r hr => by
                    obtain rfl : r = k := Option.some.inj (hr.symm.trans HRA.out)
                    rw [← HKC.out]
                    exact ⟨ints_off HC0.out (nats64 hK11.out (by omega)) hne1 hne2 h2, fun g hg => by have := (HC0.out.lt g hg).1; omega⟩) hown6 hgr6 hob6)
                  have HP6 := Lib.hid (HP0.out.kept hgr6 (own_type_ne HP0.out HO1.out (by decide)))
                  have HI6 := Lib.hid (ints_off (b := u7.ownBlock) HC0.out (nats64 hK11.out (by omega)) hne1 hne2 (G2.left hgr6))
                  have HB6 := Lib.hid ((hbl6.block w.heap.size (by omega)).trans HB5.out)
                  have HBB6 := Lib.hid (HBB.out.trans (hbl6.mono (by omega)))
                  have HWB6 := Lib.hid (HWB.out.trans hbl6)
                  have hz6 := hbl6.size
                  obtain ⟨A6, c6, rfl⟩ := own_sl hown6
                  clear hown6 hgr6 hob6 hne1 hne2 b0 b1 bf c0 c1
                  obtain ⟨b0, b1, bf⟩ := cells2 HB6
                  refine hK.out _ _ ?_ (fun hHeld => ?_)
                  · go_keep
                  clear hK K
                  try simp only [Act.put, pu]
                  refine wpAnyH_ready (rs := [7]) (by kernel_rfl) (by simp) ?_
                  refine AllReadyH.cons rfl (fun K hK => ?_) AllReadyH.nil
                  go_simp
                  go_at_call 52
                  refine (impl_periodOf n v _ xss k w6 ((HH.out.below HBB6.out).more HBB6.out.size) HG.out HROOT.out (by rw [← HKC.out]; exact HI6.out) hv).mono ?_
                  rintro e w7 ⟨rfl, hb7⟩
                  have HLN7 := Lib.hid (HLN.out.up hb7)
                  have HP7 := Lib.hid (own_keep4 HP6.out hb7.size fun b _ hl => hb7.block b hl)
                  have HB7 := bk HB6 hb7 (by omega)
                  have HWB7 := Lib.hid (HWB6.out.trans (hb7.mono (by omega)))
                  have hz7 := hb7.size
                  clear b0 b1 bf
                  obtain ⟨b0, b1, bf⟩ := cells2 HB7
                  refine hK.out _ _ ?_ (fun hHeld => ?_)
                  · go_keep
                  clear hK K
                  try simp only [Act.put, pu]
                  refine wpAnyH_ready (rs := [8]) (by kernel_rfl) (by simp) ?_
                  refine AllReadyH.cons rfl (fun K hK => ?_) AllReadyH.nil
                  go_simp
                  have c0 := Lib.cell?_alloc_some (.cells #[.int .i64 (perA n xss k : Int)] 3) b0
                  have c1 := Lib.cell?_alloc_some (.cells #[.int .i64 (perA n xss k : Int)] 3) b1
                  refine hK.out _ _ ?_ (fun hHeld => ?_)
                  · go_keep
                  clear hK K
                  try simp only [Act.put, pu]
                  refine wpAnyH_ready (rs := [9]) (by kernel_rfl) (by simp) ?_
                  refine AllReadyH.cons rfl (fun K hK => ?_) AllReadyH.nil
                  rw [if_pos (by rfl)]
                  refine oper_append1 w7 (.tmp 80) (.tmp 84) 28 rfl w2.heap.size 3 _ 8 Tryz.underlying28 intInfo rfl _ _ _ rfl _ rfl rfl HP7.out (by unfold maxLen; omega) (by omega) (by omega) ?_
                  intro v8 w8 hown8 hbl8 hgr8 hlt8 hob8
                  have HLN8 := Lib.hid (HLN7.out.other (b' := v8.ownBlock) hgr8 (by obtain ⟨_, hrow, _⟩ := HLN7.out; exact own_type_ne hrow HP7.out (by decide)) (by rcases hob8 with h | ⟨g, h, h1, _⟩; exact .inl h; exact .inr ⟨g, h, h1⟩))
                  have HO8 := Lib.hid hown8
                  have HB8 := Lib.hid ((hbl8.block w.heap.size (by omega)).trans HB7.out)
                  have HWB8 := Lib.hid (HWB7.out.trans hbl8)
                  obtain ⟨A8, c8, rfl⟩ := own_sl hown8
                  clear hown8 hgr8 hob8 b0 b1 bf c0 c1
                  obtain ⟨b0, b1, bf⟩ := cells2 HB8
                  refine hK.out _ _ ?_ (fun hHeld => ?_)
                  · go_keep
                  clear hK K
                  try simp only [Act.put, pu]
                  refine tk 10 6 rfl rfl ?_
                  try simp only [Act.put, pu]
                  refine tk 11 7 rfl rfl ?_
                  try simp only [Act.put, pu]
                  refine wpAnyH_done (by kernel_rfl) ?_ _
                  go_wp2_with fail
                  go_roundw
                  case rel => exact ⟨k + 1, by omega, by go_num, by rw [← HE.out], by rw [HRT.out, List.length_append]; exact HLN8.out, by unfold pers; rw [HRT.out, List.length_append, List.map_append, natsI_app, List.map_append]; exact HO8.out, HWB8.out⟩
                  case measure => simp [intOf]; omega
    · obtain rfl : k = n := by omega
      go_wp2_with fail
      go_ret2
      exact ⟨_, _, rfl, (HL.out.base_ (by omega)).imp fun i u W _ h r hr => ⟨(h r hr).1, fun g hg => by have := (h r hr).2 g hg; omega⟩, base_own HP.out (by omega), hb0r⟩
end Go.Proofs.YtjhljipehnmbnaaGreat
