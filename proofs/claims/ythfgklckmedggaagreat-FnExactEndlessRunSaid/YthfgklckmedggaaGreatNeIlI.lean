/-
  Endless runs that are looked for, the program's side: illegal.
-/
import Derived.Test.YthfgklckmedggaaGreatNetIlP
import Derived.Test.YthfgklckmedggaaGreatNetAnyS
import Derived.Test.YthfgklckmedggaaGreatNetSort
namespace Go.Proofs.YthfgklckmedggaaGreat
open Go.RowKit
set_option linter.unusedVariables false
set_option linter.unusedSimpArgs false
/-- append(v, u) by itself, u in a block of one cell that lies anywhere. -/
theorem oper_append_at {P : Program} (w : World) {o : Oper} {a : Act} {K : Act → World → Prop} {Q : Exit → Act → World → Prop} (s x : Operand) (t : TypeId)
    (ho : o.op = .call { callee := .builtin .append, args := #[s, x], argTypes := #[t, t] })
    (base : Nat) (e : TypeId) (z : Value) (bytes : Nat) (ht : P.underlying t = some (.slice e)) (hinf : (P.info? e).map (fun i => (i.zero, i.size, i.bytes)) = some (some z, 1, bytes)) (hzs : z.cells.size = 1)
    (v : Value) (n : Nat) (xs : List Value) (hs : a.eval s = v) (u : Value) (hu : u.oneCell' = true) (b : Nat) (hx : a.eval x = .slice (some ⟨b, 0, none⟩) 1 1) (hcell : w.cell? ⟨b, 0, none⟩ = some u)
    (hown : w.ownsRow base e 1 v n xs) (h63 : n + 1 ≤ maxLen) (hbytes : (n + 1) * bytes ≤ 140737488355328) (hbase : base ≤ w.heap.size)
    (h : ∀ v' w', w'.ownsRow base e 1 v' (n + 1) (xs ++ [u]) → Below base w w' → w.grownBy w' v.ownBlock → (v'.ownBlock = v.ownBlock ∨ ∃ g, v'.ownBlock = some g ∧ w.heap.size ≤ g ∧ g < w'.heap.size) → K (a.put o.dst v') w') :
    Oper.wp P o a w K Q := by
  obtain ⟨i, hi, hz0, hz1, hz2⟩ := info_parts hinf
  have hnews : ∀ j u', ([u] : List Value)[j]? = some u' → w.cell? ((⟨b, 0, none⟩ : Addr).add j) = some u' := by
    intro j u' hj
    match j, hj with
    | 0, hj =>
      have : u = u' := by simpa using hj
      subst this
      exact hcell
  obtain ⟨v', w', hrun, h2, h3, _, h5⟩ := run_append_own_at (P := P) w base t o.type e i z 1 bytes ht hi hz0 hz1 hz2 hzs (by decide) v n xs hown ⟨b, 0, none⟩ 1 1 [u] rfl hnews
    (by intro u' hu'; have : u' = u := by simpa using hu'
        subst this; exact hu) h63 hbytes hbase
  have hB : Below base w w' := (Below.refl base w).grown h3 hbase (fun k hk => (hown.lt k hk).1)
  unfold Oper.wp execOp
  simp only [ho, resolve, invoke, builtin, Sem.run_bind, Sem.run_pure, Result.andThen_ok, List.map_toArray, List.map_cons, List.map_nil, hs, hx, hrun]
  refine h v' w' h2 hB h3 ?_
  rcases h5 with h5 | h5
  · exact .inl h5
  · exact .inr ⟨_, h5, Nat.le_refl _, (h2.lt _ h5).2⟩
def IlAt (N : List (List Int)) (dd : List Bool) (T P1 P2 base k j : Nat) (w wr : World) : Prop :=
  ∃ vs1 vs2 : List Value, wr.heap[P1]? = some (.cells vs1.toArray 23 (0, 0)) ∧ wr.heap[P2]? = some (.cells vs2.toArray 23 (0, 0)) ∧ vs1.length = T ∧ vs2.length = T ∧
    Owned wr base (vs1 ++ vs2) ((List.range T).map (aT N dd k j) ++ (List.range T).map (bT N dd k j)) ∧ base ≤ wr.heap.size ∧ Below w.heap.size w wr
theorem IlAt.skip {N : List (List Int)} {dd : List Bool} {T P1 P2 base k j : Nat} {w wr : World} (h : IlAt N dd T P1 P2 base k j w wr) (hp : pj N dd k (j + 1) = pj N dd k j) : IlAt N dd T P1 P2 base k (j + 1) w wr := by
  unfold IlAt
  rw [show aT N dd k (j + 1) = aT N dd k j from funext (aT_skip hp), show bT N dd k (j + 1) = bT N dd k j from funext (bT_skip hp)]
  exact h
theorem IlAt.row {N : List (List Int)} {dd : List Bool} {T P1 P2 base k : Nat} {w wr : World} {l : List Int} (hl : N[k]? = some l) (h : IlAt N dd T P1 P2 base k l.length w wr) : IlAt N dd T P1 P2 base (k + 1) 0 w wr := by
  unfold IlAt
  rw [← show aT N dd k l.length = aT N dd (k + 1) 0 from funext (aT_row hl), ← show bT N dd k l.length = bT N dd (k + 1) 0 from funext (bT_row hl)]
  exact h
theorem IlAt.more {N : List (List Int)} {dd : List Bool} {T P1 P2 base k j s : Nat} {w wr : World} {vs1 vs2 : List Value} {u1 u2 : Value} (hl1 : vs1.length = T) (hl2 : vs2.length = T) (hk : k < T) (hs : s < T)
    (h1 : wr.heap[P1]? = some (.cells (vs1.set k u1).toArray 23 (0, 0))) (h2 : wr.heap[P2]? = some (.cells (vs2.set s u2).toArray 23 (0, 0)))
    (ho : Owned wr base (((vs1 ++ vs2).set k u1).set (T + s) u2) ((((List.range T).map (aT N dd k j) ++ (List.range T).map (bT N dd k j)).set k (aT N dd k j k ++ [(s : Int)])).set (T + s) (bT N dd k j s ++ [(k : Int)])))
    (hp : pj N dd k (j + 1) = pj N dd k j ++ [(s : Int)]) (hb : base ≤ wr.heap.size) (hB : Below w.heap.size w wr) : IlAt N dd T P1 P2 base k (j + 1) w wr := by
  have e1 := aT_more hp
  have e2 := bT_more hp
  refine ⟨vs1.set k u1, vs2.set s u2, h1, h2, by rw [List.length_set]; exact hl1, by rw [List.length_set]; exact hl2, ?_, hb, hB⟩
  rw [map_set e1.1 e1.2, map_set e2.1 e2.2]
  rw [List.set_append_left _ _ (by rw [hl1]; exact hk), List.set_append_right _ _ (by rw [List.length_set, hl1]; omega), List.length_set, hl1, Nat.add_sub_cancel_left,
    List.set_append_left _ _ (by simpa using hk), List.set_append_right _ _ (by simp), List.length_set, List.length_map, List.length_range, Nat.add_sub_cancel_left] at ho
  exact ho
theorem IlAt.fin {N : List (List Int)} {dd : List Bool} {T P1 P2 base : Nat} {w wr : World} (hm : MapOk N dd T) (h : IlAt N dd T P1 P2 base T 0 w wr) :
    RowsR wr wr.heap.size (.slice (some ⟨P1, 0, none⟩) T T) (aftM N dd T) ∧ RowsR wr wr.heap.size (.slice (some ⟨P2, 0, none⟩) T T) (befM N dd T) := by
  obtain ⟨vs1, vs2, h1, h2, hl1, hl2, ho, -, -⟩ := h
  have hT3 := hm.t
  rw [show (List.range T).map (aT N dd T 0) = aftM N dd T from List.map_congr_left fun x hx => aT_end (List.mem_range.1 hx), show (List.range T).map (bT N dd T 0) = befM N dd T from List.map_congr_left fun s _ => bT_end N dd T s] at ho
  have k1 := Owned.rows (base := base) (xss := aftM N dd T) h1 (by rw [hl1, aftM_len]) (by omega) (fun k v xs hv hx => by
    have hk : k < T := by have := (List.getElem?_eq_some_iff.1 hv).1; omega
    exact ho.own k v xs (by rw [List.getElem?_append_left (by omega)]; exact hv) (by rw [List.getElem?_append_left (by rw [aftM_len]; exact hk)]; exact hx)) (fun xs hxs x hx => by
    unfold aftM at hxs
    obtain ⟨k, _, rfl⟩ := List.mem_map.1 hxs
    have := aftL_bd hm hx
    unfold I64
    omega)
  have k2 := Owned.rows (base := base) (xss := befM N dd T) h2 (by rw [hl2, befM_len]) (by omega) (fun k v xs hv hx => by
    have hk : k < T := by have := (List.getElem?_eq_some_iff.1 hv).1; omega
    exact ho.own (T + k) v xs (by rw [List.getElem?_append_right (by omega), hl1, Nat.add_sub_cancel_left]; exact hv) (by rw [List.getElem?_append_right (by rw [aftM_len]; omega), aftM_len, Nat.add_sub_cancel_left]; exact hx)) (fun xs hxs x hx => by
    unfold befM at hxs
    obtain ⟨k, _, rfl⟩ := List.mem_map.1 hxs
    have := bef_bd hx
    unfold I64
    omega)
  rw [hl1] at k1
  rw [hl2] at k2
  exact ⟨k1, k2⟩
def IlkRel (N : List (List Int)) (dd : List Bool) (T P1 P2 base : Nat) (w : World) (i : Value) (wr : World) : Prop := ∃ k : Nat, k ≤ T ∧ i = .int .i64 k ∧ IlAt N dd T P1 P2 base k 0 w wr
def IljRel (N : List (List Int)) (dd : List Bool) (T P1 P2 base k : Nat) (l : List Int) (w : World) (i : Value) (wr : World) : Prop := ∃ j : Nat, j ≤ l.length ∧ i = .int .i64 j ∧ IlAt N dd T P1 P2 base k j w wr
def IlPost (N : List (List Int)) (dd : List Bool) (T : Nat) (w : World) (e : Ending) (w' : World) : Prop :=
  ∃ P1 P2 : Nat, e = .returned (.tuple #[.slice (some ⟨P1, 0, none⟩) T T, .slice (some ⟨P2, 0, none⟩) T T]) ∧ RowsR w' w'.heap.size (.slice (some ⟨P1, 0, none⟩) T T) (aftM N dd T) ∧ RowsR w' w'.heap.size (.slice (some ⟨P2, 0, none⟩) T T) (befM N dd T) ∧ Below w.heap.size w w'
theorem rowOf_rep (T : Nat) : rowOf [] T (.slice none 0 0) = (List.replicate T (Value.slice none 0 0)).toArray := by unfold rowOf; simp
theorem il_start {N : List (List Int)} {dd : List Bool} {T P1 P2 : Nat} {w wA : World} (h1 : wA.heap[P1]? = some (.cells (rowOf [] T (.slice none 0 0)) 23 (0, 0))) (h2 : wA.heap[P2]? = some (.cells (rowOf [] T (.slice none 0 0)) 23 (0, 0))) (hB : Below w.heap.size w wA) : IlAt N dd T P1 P2 wA.heap.size 0 0 w wA := by
  rw [rowOf_rep] at h1 h2
  refine ⟨_, _, h1, h2, by simp, by simp, ?_, Nat.le_refl _, hB⟩
  have e1 : (List.range T).map (aT N dd 0 0) = List.replicate T [] := List.eq_replicate_iff.2 ⟨by simp, fun x hx => by obtain ⟨k, _, rfl⟩ := List.mem_map.1 hx; exact aT_start N dd k⟩
  have e2 : (List.range T).map (bT N dd 0 0) = List.replicate T [] := List.eq_replicate_iff.2 ⟨by simp, fun x hx => by obtain ⟨k, _, rfl⟩ := List.mem_map.1 hx; exact bT_start N dd k⟩
  rw [e1, e2, List.replicate_append_replicate, List.replicate_append_replicate]
  exact Owned.start _ _ _
set_option maxRecDepth 100000 in
set_option maxHeartbeats 8000000 in
theorem impl_illegal (G T : Nat) (lv nv : Value) (N : List (List Int)) (dd : List Bool) (w : World) (hx : Xd w G T lv nv N dd) :
    Calls Tryz.prog 75 #[.pointer (some ⟨G, 0, none⟩)] w (IlPost N dd T w) := by
  have hT3 := hx.ok.t
  have hGl := hx.lt
  have a6 := hx.c6
  have HOK := Lib.hid hx.ok
  have hnT : T ≤ N.length ∧ N.length ≤ T := by have := hx.ok.n; omega
  have hdT : T ≤ dd.length ∧ dd.length ≤ T := by have := hx.ok.d; omega
  obtain ⟨A8, c8, rfl, hc8, hcm8, hrow8⟩ := hx.n.open_
  obtain ⟨A9, c9, rfl, hc9, hcm9, hrow9⟩ := hx.b.open_
  unfold maxLen at hcm8 hcm9
  have HROW := Lib.hid hrow8; clear hrow8
  have HROW9 := Lib.hid hrow9; clear hrow9
  have H7 := Lib.hid hx.c7
  have H8 := Lib.hid hx.c8
  have hmk := fun W => run_make1 (P := Tryz.prog) 47 23 (.slice none 0 0) 24 Tryz.underlying47 sliceInfo rfl T (by omega) (by omega) W
  clear hx
  go_enter Tryz.func75, Tryz.ntmps75
  go_wp2_with fail
  refine wp_region_held_drew (S := fun w' => w'.cell? ⟨G, 6, none⟩ = some (.int .i64 (T : Int))) (by kernel_rfl) ?_ (fun hHeld => ?_)
  · go_keep
  refine tk 0 8 rfl rfl ?_
  try simp only [Act.put, pu]
  refine tk 1 9 rfl rfl ?_
  try simp only [Act.put, pu]
  refine tk 2 10 rfl rfl ?_
  try simp only [Act.put, pu]
  refine tk 3 11 rfl rfl ?_
  try simp only [Act.put, pu]
  refine tk 5 13 rfl rfl ?_
  try simp only [Act.put, pu]
  refine tk 6 14 rfl rfl ?_
  try simp only [Act.put, pu]
  refine tk 7 15 rfl rfl ?_
  try simp only [Act.put, pu]
  refine tk 8 16 rfl rfl ?_
  try simp only [Act.put, pu]
  refine wpAnyH_ready (rs := [4, 9]) (by kernel_rfl) (by simp) ?_
  refine AllReadyH.cons rfl (fun K hK => ?_) (AllReadyH.cons rfl (fun K hK => ?_) AllReadyH.nil)
  · go_simp
    refine hK.out _ _ ?_ (fun hHeld => ?_)
    · go_keep
    clear hK K
    try simp only [Act.put, pu]
    refine tk 10 2 rfl rfl ?_
    try simp only [Act.put, pu]
    refine wpAnyH_ready (rs := [9]) (by kernel_rfl) (by simp) ?_
    refine AllReadyH.cons rfl (fun K hK => ?_) AllReadyH.nil
    go_simp
    refine hK.out _ _ ?_ (fun hHeld => ?_)
    · go_keep
    clear hK K
    try simp only [Act.put, pu]
    refine tk 11 3 rfl rfl ?_
    try simp only [Act.put, pu]
    refine wpAnyH_done (by kernel_rfl) ?_ _
    obtain ⟨wA, hwA⟩ : ∃ z, z = ((w.alloc (.cells (rowOf [] T (.slice none 0 0)) 23)).alloc (.cells (rowOf [] T (.slice none 0 0)) 23)).drew := ⟨_, rfl⟩
    rw [← hwA]
    have hbA : Below w.heap.size w wA := by rw [hwA]; exact (bl_alloc (bl_alloc (Below.refl _ _) _) _).drew
    have hA0 : wA.heap[w.heap.size]? = some (.cells (rowOf [] T (.slice none 0 0)) 23 (0, 0)) := by
      rw [hwA]
      exact ((bl_alloc (Below.refl (w.alloc (.cells (rowOf [] T (.slice none 0 0)) 23)).heap.size _) _).block _ (by simp)).trans (heap_alloc_new w _)
    have hA1 : wA.heap[w.heap.size + 1]? = some (.cells (rowOf [] T (.slice none 0 0)) 23 (0, 0)) := by
      have h2 := heap_alloc_new (w.alloc (.cells (rowOf [] T (.slice none 0 0)) 23)) (.cells (rowOf [] T (.slice none 0 0)) 23)
      rw [show (w.alloc (.cells (rowOf [] T (.slice none 0 0)) 23)).heap.size = w.heap.size + 1 by simp] at h2
      rw [hwA]
      exact h2
    have hzA : w.heap.size + 1 < wA.heap.size := (Array.getElem?_eq_some_iff.1 hA1).1
    obtain ⟨base, hbase⟩ : ∃ z, z = wA.heap.size := ⟨_, rfl⟩
    have HST := Lib.hid (show IlAt N dd T w.heap.size (w.heap.size + 1) base 0 0 w wA by rw [hbase]; exact il_start (by first | exact hA0 | exact hA1) (by first | exact hA1 | exact hA0) hbA)
    have a8 := (hbA.cell (p := ⟨G, 8, none⟩) hGl).trans H8.out
    have hzb : w.heap.size + 1 < base := by omega
    clear hA0 hA1 hwA hmk hbase a6
    go_wp2_with fail
    clear a8
    go_loopw [23] (fun i wr => IlkRel N dd T w.heap.size (w.heap.size + 1) base w i wr) (fun i _ => T - (intOf i).toNat)
    case atStart => exact ⟨0, Nat.zero_le _, rfl, HST.out⟩
    case round =>
      clear HST hbA
      obtain ⟨k, hk, rfl, hil⟩ := hrel
      have HIL := Lib.hid hil
      have hbl := hil.choose_spec.choose_spec.2.2.2.2.2.2
      clear hil
      by_cases hkT0 : k < T
      · obtain ⟨l, hl⟩ : ∃ l, N[k]? = some l := ⟨_, List.getElem?_eq_getElem (by omega)⟩
        obtain ⟨ad, rfl, hab, hrow⟩ := HROW.out (by omega)
        obtain ⟨a9, rfl, hab9, hr9⟩ := HROW9.out (by omega)
        obtain ⟨u, hcu, hru⟩ := hrow k l hl
        obtain ⟨A5, c5, rfl, hlc5, hcm5, hr5⟩ := hru.open_
        unfold maxLen at hcm5
        have HR5 := Lib.hid hr5
        have HR9 := Lib.hid hr9
        obtain ⟨hl3, hly⟩ := HOK.out.r l (List.mem_of_getElem? hl)
        have HLY := Lib.hid hly
        have hcr := (hbl.cell (p := ad.add k) (by rw [block_add]; exact hab)).trans hcu
        have HL := Lib.hid hl
        obtain ⟨b, hb⟩ : ∃ b, dd[k]? = some b := ⟨_, List.getElem?_eq_getElem (by omega)⟩
        have HDB := Lib.hid (hr9 k b hb)
        have HGB := Lib.hid (show dd.getD k false = b from getDa hb)
        have hkN : k < N.length := by omega
        have hkd : k < dd.length := by omega
        clear hrow hcu hru hr5 hr9 hl hly hb
        go_wp2_with fail
        clear hcr
        go_loopw [30] (fun i wr' => IljRel N dd T w.heap.size (w.heap.size + 1) base k l w i wr') (fun i _ => l.length - (intOf i).toNat)
        case atStart => exact ⟨0, Nat.zero_le _, rfl, HIL.out⟩
        case round =>
          clear HIL hbl
          obtain ⟨j, hj, rfl, hil⟩ := hrel
          have HIL := Lib.hid hil
          have hbl := hil.choose_spec.choose_spec.2.2.2.2.2.2
          by_cases hlt : j < l.length
          · obtain ⟨y, hy⟩ : ∃ y, l[j]? = some y := ⟨_, List.getElem?_eq_getElem hlt⟩
            obtain ⟨hy0, hy1⟩ := HLY.out y (List.mem_of_getElem? hy)
            obtain ⟨yn, rfl⟩ : ∃ yn : Nat, y = yn := ⟨y.toNat, by omega⟩
            obtain ⟨a5, rfl, hab5, hr5⟩ := HR5.out (by omega)
            have hcy := (hbl.cell (p := a5.add j) (by rw [block_add]; exact hab5)).trans (hr5 j _ hy)
            obtain ⟨c, hc⟩ : ∃ c, dd[yn]? = some c := ⟨_, List.getElem?_eq_getElem (by omega)⟩
            have HY := Lib.hid hy
            have HGC := Lib.hid (show dd.getD ((yn : Nat) : Int).toNat false = c by rw [Int.toNat_natCast]; exact getDa hc)
            have kb := (hbl.cell (p := a9.add k) (by rw [block_add]; exact hab9)).trans HDB.out
            have kc := (hbl.cell (p := a9.add yn) (by rw [block_add]; exact hab9)).trans (HR9.out yn c hc)
            have k7 := (hbl.cell (p := ⟨G, 7, none⟩) hGl).trans H7.out
            have hyT0 : yn < T := by omega
            have hyd : yn < dd.length := by omega
            clear hy hc hr5
            cases b with
            | true =>
              have HPJ := Lib.hid (pj_skip HL.out HY.out (.inl HGB.out))
              clear hil
              go_wp2_with fail
              go_roundw
              case rel => exact ⟨j + 1, by omega, by go_num, HIL.out.skip HPJ.out⟩
              case measure => simp [intOf]; omega
            | false =>
              cases c with
              | true =>
                have HPJ := Lib.hid (pj_skip HL.out HY.out (.inr HGC.out))
                clear hil
                go_wp2_with fail
                go_roundw
                case rel => exact ⟨j + 1, by omega, by go_num, HIL.out.skip HPJ.out⟩
                case measure => simp [intOf]; omega
              | false =>
                have HPJ := Lib.hid (pj_more HL.out HY.out HGB.out HGC.out)
                clear HIL
                obtain ⟨vs1, vs2, hA1, hA2, hl1, hl2, how, hbs, -⟩ := hil
                obtain ⟨v1, hv1⟩ : ∃ v, vs1[k]? = some v := ⟨_, List.getElem?_eq_getElem (by omega)⟩
                obtain ⟨v2, hv2⟩ : ∃ v, vs2[yn]? = some v := ⟨_, List.getElem?_eq_getElem (by omega)⟩
                obtain ⟨xa, hxa⟩ : ∃ z, z = aT N dd k j k := ⟨_, rfl⟩
                obtain ⟨xb, hxb⟩ : ∃ z, z = bT N dd k j yn := ⟨_, rfl⟩
                have hxal : xa.length ≤ 3000 := by rw [hxa]; exact aT_len HOK.out hkT0 hkT0
                have hxbl : xb.length ≤ 20000000 := by rw [hxb]; exact bT_len HOK.out hkT0
                have HXA := Lib.hid hxa
                have HXB := Lib.hid hxb
                have hw1 : (vs1 ++ vs2)[k]? = some v1 := by rw [List.getElem?_append_left (by omega)]; exact hv1
                have hw2 : (vs1 ++ vs2)[T + yn]? = some v2 := by rw [List.getElem?_append_right (by omega), hl1, Nat.add_sub_cancel_left]; exact hv2
                have hx1 := Lib.hid (show ((List.range T).map (aT N dd k j) ++ (List.range T).map (bT N dd k j))[k]? = some xa by rw [List.getElem?_append_left (by simpa using hkT0), hxa]; exact map_at hkT0)
                have hx2 := Lib.hid (show ((List.range T).map (aT N dd k j) ++ (List.range T).map (bT N dd k j))[T + yn]? = some xb by rw [List.getElem?_append_right (by simp), List.length_map, List.length_range, Nat.add_sub_cancel_left, hxb]; exact map_at hyT0)
                have ho1 := how.own k v1 xa hw1 hx1.out
                have ho2 := how.own (T + yn) v2 xb hw2 hx2.out
                obtain ⟨A1, c1, rfl⟩ := own_sl ho1
                obtain ⟨A2, c2, rfl⟩ := own_sl ho2
                have HV1 := Lib.hid hw1
                have HV2 := Lib.hid hw2
                have HLT10 := Lib.hid (show ∀ b, (Value.slice A1 xa.length c1).ownBlock = some b → b < wr.heap.size from fun b hb => (ho1.lt b hb).2)
                have hd0 : Below wr.heap.size wr wr.drew := (Below.refl _ _).drew
                have q1 : wr.drew.cell? ⟨w.heap.size, k, none⟩ = some (.slice A1 xa.length c1) := (hd0.cell (p := ⟨w.heap.size, k, none⟩) (by show w.heap.size < wr.heap.size; omega)).trans (by rw [cell_of_row _ _ k _ _ (0, 0) hA1]; simpa using hv1)
                have q2 : wr.drew.cell? ⟨w.heap.size + 1, yn, none⟩ = some (.slice A2 xb.length c2) := (hd0.cell (p := ⟨w.heap.size + 1, yn, none⟩) (by show (w.heap.size + 1) < wr.heap.size; omega)).trans (by rw [cell_of_row _ _ yn _ _ (0, 0) hA2]; simpa using hv2)
                clear hxa hxb hv1 hv2 hw1 hw2 ho1 ho2
                go_wp2_with fail
                obtain ⟨W0, hW0⟩ : ∃ z, z = wr.drew := ⟨_, rfl⟩
                have hzW0 : wr.heap.size ≤ W0.heap.size := by rw [hW0]; exact hd0.size
                have HA1 := Lib.hid (show W0.heap[w.heap.size]? = some (.cells vs1.toArray 23 (0, 0)) by rw [hW0]; exact (hd0.block _ (by omega)).trans hA1)
                have HA2 := Lib.hid (show W0.heap[(w.heap.size + 1)]? = some (.cells vs2.toArray 23 (0, 0)) by rw [hW0]; exact (hd0.block _ (by omega)).trans hA2)
                have HOw := Lib.hid (show Owned W0 base (vs1 ++ vs2) ((List.range T).map (aT N dd k j) ++ (List.range T).map (bT N dd k j)) by rw [hW0]; exact how.keep hd0.size fun b _ h => hd0.block b h)
                have HBw := Lib.hid (show Below w.heap.size w W0 by rw [hW0]; exact bl_trans hbl hd0)
                clear hA1 hA2 how hd0 kb kc k7 hcy
                refine till_region (S := fun w' => w'.cell? ⟨w.heap.size, k, none⟩ = some (.slice A1 xa.length c1) ∧ w'.cell? ⟨w.heap.size + 1, yn, none⟩ = some (.slice A2 xb.length c2)) (st := 19) (by kernel_rfl) ⟨q1, q2⟩ (fun hHeld => ?_)
                rw [← hW0]
                replace hHeld : W0.cell? ⟨w.heap.size, k, none⟩ = some (.slice A1 xa.length c1) ∧ W0.cell? ⟨w.heap.size + 1, yn, none⟩ = some (.slice A2 xb.length c2) := by rw [hW0]; exact hHeld
                clear q1 q2
                obtain ⟨q1, q2⟩ := hHeld
                have hHeld := And.intro q1 q2
                clear hW0
                refine uf 0 52 rfl rfl ?_
                try simp only [Act.put, pu]
                refine uf 1 53 rfl rfl ?_
                try simp only [Act.put, pu]
                refine uf 2 54 rfl rfl ?_
                try simp only [Act.put, pu]
                refine uf 3 55 rfl rfl ?_
                try simp only [Act.put, pu]
                refine uf 4 56 rfl rfl ?_
                try simp only [Act.put, pu]
                refine uf 5 57 rfl rfl ?_
                try simp only [Act.put, pu]
                refine uf 6 58 rfl rfl ?_
                try simp only [Act.put, pu]
                refine uk 7 59 rfl rfl ?_
                try simp only [Act.put, pu]
                refine uf 8 60 rfl rfl ?_
                try simp only [Act.put, pu]
                refine uf 11 63 rfl rfl ?_
                try simp only [Act.put, pu]
                refine uf 12 64 rfl rfl ?_
                try simp only [Act.put, pu]
                refine uf 13 65 rfl rfl ?_
                try simp only [Act.put, pu]
                refine uk 14 66 rfl rfl ?_
                try simp only [Act.put, pu]
                refine uf 15 67 rfl rfl ?_
                try simp only [Act.put, pu]
                clear hHeld
                refine ur2 9 16 rfl rfl (by kernel_rfl) (fun K hK => ?_) (fun K hK => ?_)
                · go_simp
                  obtain ⟨W1, hW1⟩ : ∃ z, z = W0.alloc (.cells #[.int .i64 ((yn : Nat) : Int)] 3) := ⟨_, rfl⟩
                  rw [← hW1]
                  have hbW1 : Below W0.heap.size W0 W1 := by rw [hW1]; exact bl_alloc (Below.refl _ _) _
                  have hzW1 : W0.heap.size < W1.heap.size := by rw [hW1]; simp
                  have cc9 : W1.cell? ⟨W0.heap.size, 0, none⟩ = some (.int .i64 ((yn : Nat) : Int)) := by rw [hW1, World.cell?_alloc_at _ _ _ _ rfl]; rfl
                  clear hW1
                  replace HOw := Lib.hid (HOw.out.keep hbW1.size fun b _ h => hbW1.block b h)
                  replace HBw := Lib.hid (HBw.out.trans (hbW1.mono (by omega)))
                  replace q1 := (hbW1.cell (p := ⟨w.heap.size, k, none⟩) (by show w.heap.size < W0.heap.size; omega)).trans q1
                  replace q2 := (hbW1.cell (p := ⟨w.heap.size + 1, yn, none⟩) (by show (w.heap.size + 1) < W0.heap.size; omega)).trans q2
                  replace HA1 := Lib.hid ((hbW1.block w.heap.size (by omega)).trans HA1.out)
                  replace HA2 := Lib.hid ((hbW1.block (w.heap.size + 1) (by omega)).trans HA2.out)
                  refine hK.out (fun _ => ⟨q1, q2⟩) ?_
                  clear hK K
                  try simp only [Act.put, pu]
                  refine ur2 10 16 rfl rfl (by kernel_rfl) (fun K hK => ?_) (fun K hK => ?_)
                  · rw [if_pos (by rfl)]
                    have hv10 := HOw.out.own k _ _ HV1.out hx1.out
                    refine oper_append_at W1 (.tmp 59) (.tmp 61) 23 rfl base 3 _ 8 Tryz.underlying23 intInfo rfl _ _ _ rfl _ rfl W0.heap.size rfl cc9 hv10 (by unfold maxLen; omega) (by omega) (by omega) ?_
                    intro v10 W2 hown10 hbW2 hgr10 hob10
                    clear hv10
                    replace hgr10 : W1.grownBy W2 (Value.slice A1 xa.length c1).ownBlock := hgr10
                    replace HOw := Lib.hid (HOw.out.step (k := k) HV1.out hx1.out hown10 hgr10 hob10)
                    replace HBw := Lib.hid (HBw.out.trans (hbW2.mono (by omega)))
                    have hzW2 := hbW2.size
                    obtain ⟨B10, d10, rfl⟩ := own_sl hown10
                    replace q1 := (hbW2.cell (p := ⟨w.heap.size, k, none⟩) (by show w.heap.size < base; omega)).trans q1
                    replace q2 := (hbW2.cell (p := ⟨w.heap.size + 1, yn, none⟩) (by show (w.heap.size + 1) < base; omega)).trans q2
                    replace HA1 := Lib.hid ((hbW2.block w.heap.size (by omega)).trans HA1.out)
                    replace HA2 := Lib.hid ((hbW2.block (w.heap.size + 1) (by omega)).trans HA2.out)
                    replace HV2 := Lib.hid (show ((vs1 ++ vs2).set k (.slice B10 (xa.length + 1) d10))[T + yn]? = some (.slice A2 xb.length c2) from (List.getElem?_set_ne (show k ≠ T + yn by omega)).trans HV2.out)
                    replace hx2 := Lib.hid (show (((List.range T).map (aT N dd k j) ++ (List.range T).map (bT N dd k j)).set k (xa ++ [((yn : Nat) : Int)]))[T + yn]? = some xb from (List.getElem?_set_ne (show k ≠ T + yn by omega)).trans hx2.out)
                    clear hown10 hgr10 hob10
                    refine hK.out (fun _ => ⟨q1, q2⟩) ?_
                    clear hK K
                    try simp only [Act.put, pu]
                    refine ur 16 rfl (by kernel_rfl) (fun K hK => ?_)
                    go_simp
                    obtain ⟨W3, hW3⟩ : ∃ z, z = W2.alloc (.cells #[.int .i64 ((k : Nat) : Int)] 3) := ⟨_, rfl⟩
                    rw [← hW3]
                    have hbW3 : Below W2.heap.size W2 W3 := by rw [hW3]; exact bl_alloc (Below.refl _ _) _
                    have hzW3 : W2.heap.size < W3.heap.size := by rw [hW3]; simp
                    have cc16 : W3.cell? ⟨W2.heap.size, 0, none⟩ = some (.int .i64 ((k : Nat) : Int)) := by rw [hW3, World.cell?_alloc_at _ _ _ _ rfl]; rfl
                    clear hW3
                    replace HOw := Lib.hid (HOw.out.keep hbW3.size fun b _ h => hbW3.block b h)
                    replace HBw := Lib.hid (HBw.out.trans (hbW3.mono (by omega)))
                    replace q1 := (hbW3.cell (p := ⟨w.heap.size, k, none⟩) (by show w.heap.size < W2.heap.size; omega)).trans q1
                    replace q2 := (hbW3.cell (p := ⟨w.heap.size + 1, yn, none⟩) (by show (w.heap.size + 1) < W2.heap.size; omega)).trans q2
                    replace HA1 := Lib.hid ((hbW3.block w.heap.size (by omega)).trans HA1.out)
                    replace HA2 := Lib.hid ((hbW3.block (w.heap.size + 1) (by omega)).trans HA2.out)
                    refine hK.out (fun _ => ⟨q1, q2⟩) ?_
                    clear hK K
                    try simp only [Act.put, pu]
                    refine ur 17 rfl (by kernel_rfl) (fun K hK => ?_)
                    rw [if_pos (by rfl)]
                    have hv17 := HOw.out.own (T + yn) _ _ HV2.out hx2.out
                    refine oper_append_at W3 (.tmp 66) (.tmp 68) 23 rfl base 3 _ 8 Tryz.underlying23 intInfo rfl _ _ _ rfl _ rfl W2.heap.size rfl cc16 hv17 (by unfold maxLen; omega) (by omega) (by omega) ?_
                    intro v17 W4 hown17 hbW4 hgr17 hob17
                    clear hv17
                    replace hgr17 : W3.grownBy W4 (Value.slice A2 xb.length c2).ownBlock := hgr17
                    replace HOw := Lib.hid (HOw.out.step (k := (T + yn)) HV2.out hx2.out hown17 hgr17 hob17)
                    replace HBw := Lib.hid (HBw.out.trans (hbW4.mono (by omega)))
                    have hzW4 := hbW4.size
                    obtain ⟨B17, d17, rfl⟩ := own_sl hown17
                    replace q1 := (hbW4.cell (p := ⟨w.heap.size, k, none⟩) (by show w.heap.size < base; omega)).trans q1
                    replace q2 := (hbW4.cell (p := ⟨w.heap.size + 1, yn, none⟩) (by show (w.heap.size + 1) < base; omega)).trans q2
                    replace HA1 := Lib.hid ((hbW4.block w.heap.size (by omega)).trans HA1.out)
                    replace HA2 := Lib.hid ((hbW4.block (w.heap.size + 1) (by omega)).trans HA2.out)
                    clear hown17 hgr17 hob17
                    refine hK.out (fun _ => ⟨q1, q2⟩) ?_
                    clear hK K
                    try simp only [Act.put, pu]
                    refine uf 18 70 rfl rfl ?_ (hS := fun _ => ⟨q1, q2⟩)
                    try simp only [Act.put, pu]
                    refine ur 19 rfl (by kernel_rfl) (fun K hK => ?_)
                    have f1 := frozen_of_row _ _ k _ _ HA1.out
                    have f2 := frozen_of_row _ _ yn _ _ HA2.out
                    go_simp
                    obtain ⟨WS, hWS⟩ : ∃ z, z = W4.setCell ⟨w.heap.size, k, none⟩ (.slice B10 (xa.length + 1) d10) := ⟨_, rfl⟩
                    rw [← hWS]
                    have hkS : ∀ b, b ≠ w.heap.size → WS.heap[b]? = W4.heap[b]? := fun b hb => by rw [hWS]; exact Below.heap_setCell _ _ _ _ (by simpa using hb)
                    have hzS : WS.heap.size = W4.heap.size := by rw [hWS, size_setCell]
                    have hA1 : WS.heap[w.heap.size]? = some (.cells (vs1.set k (.slice B10 (xa.length + 1) d10)).toArray 23 (0, 0)) := by rw [hWS]; have := heap_set_same (i := k) HA1.out (.slice B10 (xa.length + 1) d10); rw [List.setIfInBounds_toArray] at this; exact this
                    replace HBw := Lib.hid (show Below w.heap.size w WS by rw [hWS]; exact HBw.out.setCell (p := ⟨w.heap.size, k, none⟩) (by show w.heap.size ≤ w.heap.size; omega) _)
                    replace HOw := Lib.hid (HOw.out.keep (w' := WS) (by omega) fun b h _ => hkS b (by omega))
                    replace HA2 := Lib.hid ((hkS (w.heap.size + 1) (by omega)).trans HA2.out)
                    replace HA1 := Lib.hid hA1
                    have HZS := Lib.hid hzS
                    replace q2 := (World.cell?_of_block (a := ⟨w.heap.size + 1, yn, none⟩) (hkS (w.heap.size + 1) (by omega))).trans q2
                    replace f2 := frozen_of_row _ _ yn _ _ HA2.out
                    have hzS1 : W4.heap.size ≤ WS.heap.size := by omega
                    clear hWS hkS hzS hA1 f1
                    refine hK.out (fun h' => till_no h' (by kernel_rfl)) ?_
                    clear hK K
                    try simp only [Act.put, pu]
                    refine uf 20 71 rfl rfl ?_ (hS := fun h' => till_no h' (by kernel_rfl))
                    try simp only [Act.put, pu]
                    refine ur 21 rfl (by kernel_rfl) (fun K hK => ?_)
                    go_simp
                    obtain ⟨WT, hWT⟩ : ∃ z, z = WS.setCell ⟨w.heap.size + 1, yn, none⟩ (.slice B17 (xb.length + 1) d17) := ⟨_, rfl⟩
                    rw [← hWT]
                    have hkT : ∀ b, b ≠ (w.heap.size + 1) → WT.heap[b]? = WS.heap[b]? := fun b hb => by rw [hWT]; exact Below.heap_setCell _ _ _ _ (by simpa using hb)
                    have hzT : WT.heap.size = WS.heap.size := by rw [hWT, size_setCell]
                    have hA2 : WT.heap[(w.heap.size + 1)]? = some (.cells (vs2.set yn (.slice B17 (xb.length + 1) d17)).toArray 23 (0, 0)) := by rw [hWT]; have := heap_set_same (i := yn) HA2.out (.slice B17 (xb.length + 1) d17); rw [List.setIfInBounds_toArray] at this; exact this
                    replace HBw := Lib.hid (show Below w.heap.size w WT by rw [hWT]; exact HBw.out.setCell (p := ⟨w.heap.size + 1, yn, none⟩) (by show w.heap.size ≤ (w.heap.size + 1); omega) _)
                    replace HOw := Lib.hid (HOw.out.keep (w' := WT) (by omega) fun b h _ => hkT b (by omega))
                    replace HA1 := Lib.hid ((hkT w.heap.size (by omega)).trans HA1.out)
                    replace HA2 := Lib.hid hA2
                    have hzT1 : base ≤ WT.heap.size := by omega
                    have HFIN := Lib.hid (IlAt.more (j := j) hl1 hl2 hkT0 hyT0 HA1.out HA2.out (by rw [← HXA.out, ← HXB.out]; exact HOw.out) HPJ.out hzT1 HBw.out)
                    clear hWT hkT hzT hA2 q2 f2
                    refine hK.out (fun h' => till_no h' (by kernel_rfl)) ?_
                    clear hK K
                    try simp only [Act.put, pu]
                    refine wpTill_done (by kernel_rfl) ?_ _
                    go_wp2_with fail
                    go_roundw
                    case rel => exact ⟨j + 1, by omega, by go_num, HFIN.out⟩
                    case measure => simp [intOf]; omega
                  · go_simp
                    obtain ⟨W2, hW2⟩ : ∃ z, z = W1.alloc (.cells #[.int .i64 ((k : Nat) : Int)] 3) := ⟨_, rfl⟩
                    rw [← hW2]
                    have hbW2 : Below W1.heap.size W1 W2 := by rw [hW2]; exact bl_alloc (Below.refl _ _) _
                    have hzW2 : W1.heap.size < W2.heap.size := by rw [hW2]; simp
                    have cc16 : W2.cell? ⟨W1.heap.size, 0, none⟩ = some (.int .i64 ((k : Nat) : Int)) := by rw [hW2, World.cell?_alloc_at _ _ _ _ rfl]; rfl
                    clear hW2
                    replace HOw := Lib.hid (HOw.out.keep hbW2.size fun b _ h => hbW2.block b h)
                    replace HBw := Lib.hid (HBw.out.trans (hbW2.mono (by omega)))
                    replace q1 := (hbW2.cell (p := ⟨w.heap.size, k, none⟩) (by show w.heap.size < W1.heap.size; omega)).trans q1
                    replace q2 := (hbW2.cell (p := ⟨w.heap.size + 1, yn, none⟩) (by show (w.heap.size + 1) < W1.heap.size; omega)).trans q2
                    replace HA1 := Lib.hid ((hbW2.block w.heap.size (by omega)).trans HA1.out)
                    replace HA2 := Lib.hid ((hbW2.block (w.heap.size + 1) (by omega)).trans HA2.out)
                    replace cc9 := (hbW2.cell (p := ⟨W0.heap.size, 0, none⟩) (by show W0.heap.size < W1.heap.size; omega)).trans cc9
                    refine hK.out (fun _ => ⟨q1, q2⟩) ?_
                    clear hK K
                    try simp only [Act.put, pu]
                    refine ur 10 rfl (by kernel_rfl) (fun K hK => ?_)
                    rw [if_pos (by rfl)]
                    have hv10 := HOw.out.own k _ _ HV1.out hx1.out
                    refine oper_append_at W2 (.tmp 59) (.tmp 61) 23 rfl base 3 _ 8 Tryz.underlying23 intInfo rfl _ _ _ rfl _ rfl W0.heap.size rfl cc9 hv10 (by unfold maxLen; omega) (by omega) (by omega) ?_
                    intro v10 W3 hown10 hbW3 hgr10 hob10
                    clear hv10
                    replace hgr10 : W2.grownBy W3 (Value.slice A1 xa.length c1).ownBlock := hgr10
                    replace HOw := Lib.hid (HOw.out.step (k := k) HV1.out hx1.out hown10 hgr10 hob10)
                    replace HBw := Lib.hid (HBw.out.trans (hbW3.mono (by omega)))
                    have hzW3 := hbW3.size
                    obtain ⟨B10, d10, rfl⟩ := own_sl hown10
                    replace q1 := (hbW3.cell (p := ⟨w.heap.size, k, none⟩) (by show w.heap.size < base; omega)).trans q1
                    replace q2 := (hbW3.cell (p := ⟨w.heap.size + 1, yn, none⟩) (by show (w.heap.size + 1) < base; omega)).trans q2
                    replace HA1 := Lib.hid ((hbW3.block w.heap.size (by omega)).trans HA1.out)
                    replace HA2 := Lib.hid ((hbW3.block (w.heap.size + 1) (by omega)).trans HA2.out)
                    replace cc16 := (World.cell?_of_block (a := ⟨W1.heap.size, 0, none⟩) (hgr10.block W1.heap.size (by omega) (by have := HLT10.out; intro e; have := this _ e.symm; omega))).trans cc16
                    replace HV2 := Lib.hid (show ((vs1 ++ vs2).set k (.slice B10 (xa.length + 1) d10))[T + yn]? = some (.slice A2 xb.length c2) from (List.getElem?_set_ne (show k ≠ T + yn by omega)).trans HV2.out)
                    replace hx2 := Lib.hid (show (((List.range T).map (aT N dd k j) ++ (List.range T).map (bT N dd k j)).set k (xa ++ [((yn : Nat) : Int)]))[T + yn]? = some xb from (List.getElem?_set_ne (show k ≠ T + yn by omega)).trans hx2.out)
                    clear hown10 hgr10 hob10
                    refine hK.out (fun _ => ⟨q1, q2⟩) ?_
                    clear hK K
                    try simp only [Act.put, pu]
                    refine ur 17 rfl (by kernel_rfl) (fun K hK => ?_)
                    rw [if_pos (by rfl)]
                    have hv17 := HOw.out.own (T + yn) _ _ HV2.out hx2.out
                    refine oper_append_at W3 (.tmp 66) (.tmp 68) 23 rfl base 3 _ 8 Tryz.underlying23 intInfo rfl _ _ _ rfl _ rfl W1.heap.size rfl cc16 hv17 (by unfold maxLen; omega) (by omega) (by omega) ?_
                    intro v17 W4 hown17 hbW4 hgr17 hob17
                    clear hv17
                    replace hgr17 : W3.grownBy W4 (Value.slice A2 xb.length c2).ownBlock := hgr17
                    replace HOw := Lib.hid (HOw.out.step (k := (T + yn)) HV2.out hx2.out hown17 hgr17 hob17)
                    replace HBw := Lib.hid (HBw.out.trans (hbW4.mono (by omega)))
                    have hzW4 := hbW4.size
                    obtain ⟨B17, d17, rfl⟩ := own_sl hown17
                    replace q1 := (hbW4.cell (p := ⟨w.heap.size, k, none⟩) (by show w.heap.size < base; omega)).trans q1
                    replace q2 := (hbW4.cell (p := ⟨w.heap.size + 1, yn, none⟩) (by show (w.heap.size + 1) < base; omega)).trans q2
                    replace HA1 := Lib.hid ((hbW4.block w.heap.size (by omega)).trans HA1.out)
                    replace HA2 := Lib.hid ((hbW4.block (w.heap.size + 1) (by omega)).trans HA2.out)
                    clear hown17 hgr17 hob17
                    refine hK.out (fun _ => ⟨q1, q2⟩) ?_
                    clear hK K
                    try simp only [Act.put, pu]
                    refine uf 18 70 rfl rfl ?_ (hS := fun _ => ⟨q1, q2⟩)
                    try simp only [Act.put, pu]
                    refine ur 19 rfl (by kernel_rfl) (fun K hK => ?_)
                    have f1 := frozen_of_row _ _ k _ _ HA1.out
                    have f2 := frozen_of_row _ _ yn _ _ HA2.out
                    go_simp
                    obtain ⟨WS, hWS⟩ : ∃ z, z = W4.setCell ⟨w.heap.size, k, none⟩ (.slice B10 (xa.length + 1) d10) := ⟨_, rfl⟩
                    rw [← hWS]
                    have hkS : ∀ b, b ≠ w.heap.size → WS.heap[b]? = W4.heap[b]? := fun b hb => by rw [hWS]; exact Below.heap_setCell _ _ _ _ (by simpa using hb)
                    have hzS : WS.heap.size = W4.heap.size := by rw [hWS, size_setCell]
                    have hA1 : WS.heap[w.heap.size]? = some (.cells (vs1.set k (.slice B10 (xa.length + 1) d10)).toArray 23 (0, 0)) := by rw [hWS]; have := heap_set_same (i := k) HA1.out (.slice B10 (xa.length + 1) d10); rw [List.setIfInBounds_toArray] at this; exact this
                    replace HBw := Lib.hid (show Below w.heap.size w WS by rw [hWS]; exact HBw.out.setCell (p := ⟨w.heap.size, k, none⟩) (by show w.heap.size ≤ w.heap.size; omega) _)
                    replace HOw := Lib.hid (HOw.out.keep (w' := WS) (by omega) fun b h _ => hkS b (by omega))
                    replace HA2 := Lib.hid ((hkS (w.heap.size + 1) (by omega)).trans HA2.out)
                    replace HA1 := Lib.hid hA1
                    have HZS := Lib.hid hzS
                    replace q2 := (World.cell?_of_block (a := ⟨w.heap.size + 1, yn, none⟩) (hkS (w.heap.size + 1) (by omega))).trans q2
                    replace f2 := frozen_of_row _ _ yn _ _ HA2.out
                    have hzS1 : W4.heap.size ≤ WS.heap.size := by omega
                    clear hWS hkS hzS hA1 f1
                    refine hK.out (fun h' => till_no h' (by kernel_rfl)) ?_
                    clear hK K
                    try simp only [Act.put, pu]
                    refine uf 20 71 rfl rfl ?_ (hS := fun h' => till_no h' (by kernel_rfl))
                    try simp only [Act.put, pu]
                    refine ur 21 rfl (by kernel_rfl) (fun K hK => ?_)
                    go_simp
                    obtain ⟨WT, hWT⟩ : ∃ z, z = WS.setCell ⟨w.heap.size + 1, yn, none⟩ (.slice B17 (xb.length + 1) d17) := ⟨_, rfl⟩
                    rw [← hWT]
                    have hkT : ∀ b, b ≠ (w.heap.size + 1) → WT.heap[b]? = WS.heap[b]? := fun b hb => by rw [hWT]; exact Below.heap_setCell _ _ _ _ (by simpa using hb)
                    have hzT : WT.heap.size = WS.heap.size := by rw [hWT, size_setCell]
                    have hA2 : WT.heap[(w.heap.size + 1)]? = some (.cells (vs2.set yn (.slice B17 (xb.length + 1) d17)).toArray 23 (0, 0)) := by rw [hWT]; have := heap_set_same (i := yn) HA2.out (.slice B17 (xb.length + 1) d17); rw [List.setIfInBounds_toArray] at this; exact this
                    replace HBw := Lib.hid (show Below w.heap.size w WT by rw [hWT]; exact HBw.out.setCell (p := ⟨w.heap.size + 1, yn, none⟩) (by show w.heap.size ≤ (w.heap.size + 1); omega) _)
                    replace HOw := Lib.hid (HOw.out.keep (w' := WT) (by omega) fun b h _ => hkT b (by omega))
                    replace HA1 := Lib.hid ((hkT w.heap.size (by omega)).trans HA1.out)
                    replace HA2 := Lib.hid hA2
                    have hzT1 : base ≤ WT.heap.size := by omega
                    have HFIN := Lib.hid (IlAt.more (j := j) hl1 hl2 hkT0 hyT0 HA1.out HA2.out (by rw [← HXA.out, ← HXB.out]; exact HOw.out) HPJ.out hzT1 HBw.out)
                    clear hWT hkT hzT hA2 q2 f2
                    refine hK.out (fun h' => till_no h' (by kernel_rfl)) ?_
                    clear hK K
                    try simp only [Act.put, pu]
                    refine wpTill_done (by kernel_rfl) ?_ _
                    go_wp2_with fail
                    go_roundw
                    case rel => exact ⟨j + 1, by omega, by go_num, HFIN.out⟩
                    case measure => simp [intOf]; omega
                · go_simp
                  obtain ⟨W1, hW1⟩ : ∃ z, z = W0.alloc (.cells #[.int .i64 ((k : Nat) : Int)] 3) := ⟨_, rfl⟩
                  rw [← hW1]
                  have hbW1 : Below W0.heap.size W0 W1 := by rw [hW1]; exact bl_alloc (Below.refl _ _) _
                  have hzW1 : W0.heap.size < W1.heap.size := by rw [hW1]; simp
                  have cc16 : W1.cell? ⟨W0.heap.size, 0, none⟩ = some (.int .i64 ((k : Nat) : Int)) := by rw [hW1, World.cell?_alloc_at _ _ _ _ rfl]; rfl
                  clear hW1
                  replace HOw := Lib.hid (HOw.out.keep hbW1.size fun b _ h => hbW1.block b h)
                  replace HBw := Lib.hid (HBw.out.trans (hbW1.mono (by omega)))
                  replace q1 := (hbW1.cell (p := ⟨w.heap.size, k, none⟩) (by show w.heap.size < W0.heap.size; omega)).trans q1
                  replace q2 := (hbW1.cell (p := ⟨w.heap.size + 1, yn, none⟩) (by show (w.heap.size + 1) < W0.heap.size; omega)).trans q2
                  replace HA1 := Lib.hid ((hbW1.block w.heap.size (by omega)).trans HA1.out)
                  replace HA2 := Lib.hid ((hbW1.block (w.heap.size + 1) (by omega)).trans HA2.out)
                  refine hK.out (fun _ => ⟨q1, q2⟩) ?_
                  clear hK K
                  try simp only [Act.put, pu]
                  refine ur 9 rfl (by kernel_rfl) (fun K hK => ?_)
                  go_simp
                  obtain ⟨W2, hW2⟩ : ∃ z, z = W1.alloc (.cells #[.int .i64 ((yn : Nat) : Int)] 3) := ⟨_, rfl⟩
                  rw [← hW2]
                  have hbW2 : Below W1.heap.size W1 W2 := by rw [hW2]; exact bl_alloc (Below.refl _ _) _
                  have hzW2 : W1.heap.size < W2.heap.size := by rw [hW2]; simp
                  have cc9 : W2.cell? ⟨W1.heap.size, 0, none⟩ = some (.int .i64 ((yn : Nat) : Int)) := by rw [hW2, World.cell?_alloc_at _ _ _ _ rfl]; rfl
                  clear hW2
                  replace HOw := Lib.hid (HOw.out.keep hbW2.size fun b _ h => hbW2.block b h)
                  replace HBw := Lib.hid (HBw.out.trans (hbW2.mono (by omega)))
                  replace q1 := (hbW2.cell (p := ⟨w.heap.size, k, none⟩) (by show w.heap.size < W1.heap.size; omega)).trans q1
                  replace q2 := (hbW2.cell (p := ⟨w.heap.size + 1, yn, none⟩) (by show (w.heap.size + 1) < W1.heap.size; omega)).trans q2
                  replace HA1 := Lib.hid ((hbW2.block w.heap.size (by omega)).trans HA1.out)
                  replace HA2 := Lib.hid ((hbW2.block (w.heap.size + 1) (by omega)).trans HA2.out)
                  replace cc16 := (hbW2.cell (p := ⟨W0.heap.size, 0, none⟩) (by show W0.heap.size < W1.heap.size; omega)).trans cc16
                  refine hK.out (fun _ => ⟨q1, q2⟩) ?_
                  clear hK K
                  try simp only [Act.put, pu]
                  refine ur 10 rfl (by kernel_rfl) (fun K hK => ?_)
                  rw [if_pos (by rfl)]
                  have hv10 := HOw.out.own k _ _ HV1.out hx1.out
                  refine oper_append_at W2 (.tmp 59) (.tmp 61) 23 rfl base 3 _ 8 Tryz.underlying23 intInfo rfl _ _ _ rfl _ rfl W1.heap.size rfl cc9 hv10 (by unfold maxLen; omega) (by omega) (by omega) ?_
                  intro v10 W3 hown10 hbW3 hgr10 hob10
                  clear hv10
                  replace hgr10 : W2.grownBy W3 (Value.slice A1 xa.length c1).ownBlock := hgr10
                  replace HOw := Lib.hid (HOw.out.step (k := k) HV1.out hx1.out hown10 hgr10 hob10)
                  replace HBw := Lib.hid (HBw.out.trans (hbW3.mono (by omega)))
                  have hzW3 := hbW3.size
                  obtain ⟨B10, d10, rfl⟩ := own_sl hown10
                  replace q1 := (hbW3.cell (p := ⟨w.heap.size, k, none⟩) (by show w.heap.size < base; omega)).trans q1
                  replace q2 := (hbW3.cell (p := ⟨w.heap.size + 1, yn, none⟩) (by show (w.heap.size + 1) < base; omega)).trans q2
                  replace HA1 := Lib.hid ((hbW3.block w.heap.size (by omega)).trans HA1.out)
                  replace HA2 := Lib.hid ((hbW3.block (w.heap.size + 1) (by omega)).trans HA2.out)
                  replace cc16 := (World.cell?_of_block (a := ⟨W0.heap.size, 0, none⟩) (hgr10.block W0.heap.size (by omega) (by have := HLT10.out; intro e; have := this _ e.symm; omega))).trans cc16
                  replace HV2 := Lib.hid (show ((vs1 ++ vs2).set k (.slice B10 (xa.length + 1) d10))[T + yn]? = some (.slice A2 xb.length c2) from (List.getElem?_set_ne (show k ≠ T + yn by omega)).trans HV2.out)
                  replace hx2 := Lib.hid (show (((List.range T).map (aT N dd k j) ++ (List.range T).map (bT N dd k j)).set k (xa ++ [((yn : Nat) : Int)]))[T + yn]? = some xb from (List.getElem?_set_ne (show k ≠ T + yn by omega)).trans hx2.out)
                  clear hown10 hgr10 hob10
                  refine hK.out (fun _ => ⟨q1, q2⟩) ?_
                  clear hK K
                  try simp only [Act.put, pu]
                  refine ur 17 rfl (by kernel_rfl) (fun K hK => ?_)
                  rw [if_pos (by rfl)]
                  have hv17 := HOw.out.own (T + yn) _ _ HV2.out hx2.out
                  refine oper_append_at W3 (.tmp 66) (.tmp 68) 23 rfl base 3 _ 8 Tryz.underlying23 intInfo rfl _ _ _ rfl _ rfl W0.heap.size rfl cc16 hv17 (by unfold maxLen; omega) (by omega) (by omega) ?_
                  intro v17 W4 hown17 hbW4 hgr17 hob17
                  clear hv17
                  replace hgr17 : W3.grownBy W4 (Value.slice A2 xb.length c2).ownBlock := hgr17
                  replace HOw := Lib.hid (HOw.out.step (k := (T + yn)) HV2.out hx2.out hown17 hgr17 hob17)
                  replace HBw := Lib.hid (HBw.out.trans (hbW4.mono (by omega)))
                  have hzW4 := hbW4.size
                  obtain ⟨B17, d17, rfl⟩ := own_sl hown17
                  replace q1 := (hbW4.cell (p := ⟨w.heap.size, k, none⟩) (by show w.heap.size < base; omega)).trans q1
                  replace q2 := (hbW4.cell (p := ⟨w.heap.size + 1, yn, none⟩) (by show (w.heap.size + 1) < base; omega)).trans q2
                  replace HA1 := Lib.hid ((hbW4.block w.heap.size (by omega)).trans HA1.out)
                  replace HA2 := Lib.hid ((hbW4.block (w.heap.size + 1) (by omega)).trans HA2.out)
                  clear hown17 hgr17 hob17
                  refine hK.out (fun _ => ⟨q1, q2⟩) ?_
                  clear hK K
                  try simp only [Act.put, pu]
                  refine uf 18 70 rfl rfl ?_ (hS := fun _ => ⟨q1, q2⟩)
                  try simp only [Act.put, pu]
                  refine ur 19 rfl (by kernel_rfl) (fun K hK => ?_)
                  have f1 := frozen_of_row _ _ k _ _ HA1.out
                  have f2 := frozen_of_row _ _ yn _ _ HA2.out
                  go_simp
                  obtain ⟨WS, hWS⟩ : ∃ z, z = W4.setCell ⟨w.heap.size, k, none⟩ (.slice B10 (xa.length + 1) d10) := ⟨_, rfl⟩
                  rw [← hWS]
                  have hkS : ∀ b, b ≠ w.heap.size → WS.heap[b]? = W4.heap[b]? := fun b hb => by rw [hWS]; exact Below.heap_setCell _ _ _ _ (by simpa using hb)
                  have hzS : WS.heap.size = W4.heap.size := by rw [hWS, size_setCell]
                  have hA1 : WS.heap[w.heap.size]? = some (.cells (vs1.set k (.slice B10 (xa.length + 1) d10)).toArray 23 (0, 0)) := by rw [hWS]; have := heap_set_same (i := k) HA1.out (.slice B10 (xa.length + 1) d10); rw [List.setIfInBounds_toArray] at this; exact this
                  replace HBw := Lib.hid (show Below w.heap.size w WS by rw [hWS]; exact HBw.out.setCell (p := ⟨w.heap.size, k, none⟩) (by show w.heap.size ≤ w.heap.size; omega) _)
                  replace HOw := Lib.hid (HOw.out.keep (w' := WS) (by omega) fun b h _ => hkS b (by omega))
                  replace HA2 := Lib.hid ((hkS (w.heap.size + 1) (by omega)).trans HA2.out)
                  replace HA1 := Lib.hid hA1
                  have HZS := Lib.hid hzS
                  replace q2 := (World.cell?_of_block (a := ⟨w.heap.size + 1, yn, none⟩) (hkS (w.heap.size + 1) (by omega))).trans q2
                  replace f2 := frozen_of_row _ _ yn _ _ HA2.out
                  have hzS1 : W4.heap.size ≤ WS.heap.size := by omega
                  clear hWS hkS hzS hA1 f1
                  refine hK.out (fun h' => till_no h' (by kernel_rfl)) ?_
                  clear hK K
                  try simp only [Act.put, pu]
                  refine uf 20 71 rfl rfl ?_ (hS := fun h' => till_no h' (by kernel_rfl))
                  try simp only [Act.put, pu]
                  refine ur 21 rfl (by kernel_rfl) (fun K hK => ?_)
                  go_simp
                  obtain ⟨WT, hWT⟩ : ∃ z, z = WS.setCell ⟨w.heap.size + 1, yn, none⟩ (.slice B17 (xb.length + 1) d17) := ⟨_, rfl⟩
                  rw [← hWT]
                  have hkT : ∀ b, b ≠ (w.heap.size + 1) → WT.heap[b]? = WS.heap[b]? := fun b hb => by rw [hWT]; exact Below.heap_setCell _ _ _ _ (by simpa using hb)
                  have hzT : WT.heap.size = WS.heap.size := by rw [hWT, size_setCell]
                  have hA2 : WT.heap[(w.heap.size + 1)]? = some (.cells (vs2.set yn (.slice B17 (xb.length + 1) d17)).toArray 23 (0, 0)) := by rw [hWT]; have := heap_set_same (i := yn) HA2.out (.slice B17 (xb.length + 1) d17); rw [List.setIfInBounds_toArray] at this; exact this
                  replace HBw := Lib.hid (show Below w.heap.size w WT by rw [hWT]; exact HBw.out.setCell (p := ⟨w.heap.size + 1, yn, none⟩) (by show w.heap.size ≤ (w.heap.size + 1); omega) _)
                  replace HOw := Lib.hid (HOw.out.keep (w' := WT) (by omega) fun b h _ => hkT b (by omega))
                  replace HA1 := Lib.hid ((hkT w.heap.size (by omega)).trans HA1.out)
                  replace HA2 := Lib.hid hA2
                  have hzT1 : base ≤ WT.heap.size := by omega
                  have HFIN := Lib.hid (IlAt.more (j := j) hl1 hl2 hkT0 hyT0 HA1.out HA2.out (by rw [← HXA.out, ← HXB.out]; exact HOw.out) HPJ.out hzT1 HBw.out)
                  clear hWT hkT hzT hA2 q2 f2
                  refine hK.out (fun h' => till_no h' (by kernel_rfl)) ?_
                  clear hK K
                  try simp only [Act.put, pu]
                  refine wpTill_done (by kernel_rfl) ?_ _
                  go_wp2_with fail
                  go_roundw
                  case rel => exact ⟨j + 1, by omega, by go_num, HFIN.out⟩
                  case measure => simp [intOf]; omega
          · obtain rfl : j = l.length := by omega
            have HRW := Lib.hid (HIL.out.row HL.out)
            clear hil
            go_wp2_with fail
            go_roundw
            case rel => exact ⟨k + 1, by omega, by go_num, HRW.out⟩
            case measure => simp [intOf]; omega
      · obtain rfl : k = T := by omega
        have HF := Lib.hid (HIL.out.fin HOK.out)
        clear HIL
        go_wp2_with fail
        go_ret2
        exact ⟨w.heap.size, (w.heap.size + 1), rfl, HF.out.1, HF.out.2, hbl⟩
  · go_simp
    refine hK.out _ _ ?_ (fun hHeld => ?_)
    · go_keep
    clear hK K
    try simp only [Act.put, pu]
    refine wpAnyH_ready (rs := [4]) (by kernel_rfl) (by simp) ?_
    refine AllReadyH.cons rfl (fun K hK => ?_) AllReadyH.nil
    go_simp
    refine hK.out _ _ ?_ (fun hHeld => ?_)
    · go_keep
    clear hK K
    try simp only [Act.put, pu]
    refine tk 10 2 rfl rfl ?_
    try simp only [Act.put, pu]
    refine tk 11 3 rfl rfl ?_
    try simp only [Act.put, pu]
    refine wpAnyH_done (by kernel_rfl) ?_ _
    obtain ⟨wA, hwA⟩ : ∃ z, z = ((w.alloc (.cells (rowOf [] T (.slice none 0 0)) 23)).alloc (.cells (rowOf [] T (.slice none 0 0)) 23)).drew := ⟨_, rfl⟩
    rw [← hwA]
    have hbA : Below w.heap.size w wA := by rw [hwA]; exact (bl_alloc (bl_alloc (Below.refl _ _) _) _).drew
    have hA0 : wA.heap[w.heap.size]? = some (.cells (rowOf [] T (.slice none 0 0)) 23 (0, 0)) := by
      rw [hwA]
      exact ((bl_alloc (Below.refl (w.alloc (.cells (rowOf [] T (.slice none 0 0)) 23)).heap.size _) _).block _ (by simp)).trans (heap_alloc_new w _)
    have hA1 : wA.heap[w.heap.size + 1]? = some (.cells (rowOf [] T (.slice none 0 0)) 23 (0, 0)) := by
      have h2 := heap_alloc_new (w.alloc (.cells (rowOf [] T (.slice none 0 0)) 23)) (.cells (rowOf [] T (.slice none 0 0)) 23)
      rw [show (w.alloc (.cells (rowOf [] T (.slice none 0 0)) 23)).heap.size = w.heap.size + 1 by simp] at h2
      rw [hwA]
      exact h2
    have hzA : w.heap.size + 1 < wA.heap.size := (Array.getElem?_eq_some_iff.1 hA1).1
    obtain ⟨base, hbase⟩ : ∃ z, z = wA.heap.size := ⟨_, rfl⟩
    have HST := Lib.hid (show IlAt N dd T (w.heap.size + 1) w.heap.size base 0 0 w wA by rw [hbase]; exact il_start (by first | exact hA0 | exact hA1) (by first | exact hA1 | exact hA0) hbA)
    have a8 := (hbA.cell (p := ⟨G, 8, none⟩) hGl).trans H8.out
    have hzb : w.heap.size + 1 < base := by omega
    clear hA0 hA1 hwA hmk hbase a6
    go_wp2_with fail
    clear a8
    go_loopw [23] (fun i wr => IlkRel N dd T (w.heap.size + 1) w.heap.size base w i wr) (fun i _ => T - (intOf i).toNat)
    case atStart => exact ⟨0, Nat.zero_le _, rfl, HST.out⟩
    case round =>
      clear HST hbA
      obtain ⟨k, hk, rfl, hil⟩ := hrel
      have HIL := Lib.hid hil
      have hbl := hil.choose_spec.choose_spec.2.2.2.2.2.2
      clear hil
      by_cases hkT0 : k < T
      · obtain ⟨l, hl⟩ : ∃ l, N[k]? = some l := ⟨_, List.getElem?_eq_getElem (by omega)⟩
        obtain ⟨ad, rfl, hab, hrow⟩ := HROW.out (by omega)
        obtain ⟨a9, rfl, hab9, hr9⟩ := HROW9.out (by omega)
        obtain ⟨u, hcu, hru⟩ := hrow k l hl
        obtain ⟨A5, c5, rfl, hlc5, hcm5, hr5⟩ := hru.open_
        unfold maxLen at hcm5
        have HR5 := Lib.hid hr5
        have HR9 := Lib.hid hr9
        obtain ⟨hl3, hly⟩ := HOK.out.r l (List.mem_of_getElem? hl)
        have HLY := Lib.hid hly
        have hcr := (hbl.cell (p := ad.add k) (by rw [block_add]; exact hab)).trans hcu
        have HL := Lib.hid hl
        obtain ⟨b, hb⟩ : ∃ b, dd[k]? = some b := ⟨_, List.getElem?_eq_getElem (by omega)⟩
        have HDB := Lib.hid (hr9 k b hb)
        have HGB := Lib.hid (show dd.getD k false = b from getDa hb)
        have hkN : k < N.length := by omega
        have hkd : k < dd.length := by omega
        clear hrow hcu hru hr5 hr9 hl hly hb
        go_wp2_with fail
        clear hcr
        go_loopw [30] (fun i wr' => IljRel N dd T (w.heap.size + 1) w.heap.size base k l w i wr') (fun i _ => l.length - (intOf i).toNat)
        case atStart => exact ⟨0, Nat.zero_le _, rfl, HIL.out⟩
        case round =>
          clear HIL hbl
          obtain ⟨j, hj, rfl, hil⟩ := hrel
          have HIL := Lib.hid hil
          have hbl := hil.choose_spec.choose_spec.2.2.2.2.2.2
          by_cases hlt : j < l.length
          · obtain ⟨y, hy⟩ : ∃ y, l[j]? = some y := ⟨_, List.getElem?_eq_getElem hlt⟩
            obtain ⟨hy0, hy1⟩ := HLY.out y (List.mem_of_getElem? hy)
            obtain ⟨yn, rfl⟩ : ∃ yn : Nat, y = yn := ⟨y.toNat, by omega⟩
            obtain ⟨a5, rfl, hab5, hr5⟩ := HR5.out (by omega)
            have hcy := (hbl.cell (p := a5.add j) (by rw [block_add]; exact hab5)).trans (hr5 j _ hy)
            obtain ⟨c, hc⟩ : ∃ c, dd[yn]? = some c := ⟨_, List.getElem?_eq_getElem (by omega)⟩
            have HY := Lib.hid hy
            have HGC := Lib.hid (show dd.getD ((yn : Nat) : Int).toNat false = c by rw [Int.toNat_natCast]; exact getDa hc)
            have kb := (hbl.cell (p := a9.add k) (by rw [block_add]; exact hab9)).trans HDB.out
            have kc := (hbl.cell (p := a9.add yn) (by rw [block_add]; exact hab9)).trans (HR9.out yn c hc)
            have k7 := (hbl.cell (p := ⟨G, 7, none⟩) hGl).trans H7.out
            have hyT0 : yn < T := by omega
            have hyd : yn < dd.length := by omega
            clear hy hc hr5
            cases b with
            | true =>
              have HPJ := Lib.hid (pj_skip HL.out HY.out (.inl HGB.out))
              clear hil
              go_wp2_with fail
              go_roundw
              case rel => exact ⟨j + 1, by omega, by go_num, HIL.out.skip HPJ.out⟩
              case measure => simp [intOf]; omega
            | false =>
              cases c with
              | true =>
                have HPJ := Lib.hid (pj_skip HL.out HY.out (.inr HGC.out))
                clear hil
                go_wp2_with fail
                go_roundw
                case rel => exact ⟨j + 1, by omega, by go_num, HIL.out.skip HPJ.out⟩
                case measure => simp [intOf]; omega
              | false =>
                have HPJ := Lib.hid (pj_more HL.out HY.out HGB.out HGC.out)
                clear HIL
                obtain ⟨vs1, vs2, hA1, hA2, hl1, hl2, how, hbs, -⟩ := hil
                obtain ⟨v1, hv1⟩ : ∃ v, vs1[k]? = some v := ⟨_, List.getElem?_eq_getElem (by omega)⟩
                obtain ⟨v2, hv2⟩ : ∃ v, vs2[yn]? = some v := ⟨_, List.getElem?_eq_getElem (by omega)⟩
                obtain ⟨xa, hxa⟩ : ∃ z, z = aT N dd k j k := ⟨_, rfl⟩
                obtain ⟨xb, hxb⟩ : ∃ z, z = bT N dd k j yn := ⟨_, rfl⟩
                have hxal : xa.length ≤ 3000 := by rw [hxa]; exact aT_len HOK.out hkT0 hkT0
                have hxbl : xb.length ≤ 20000000 := by rw [hxb]; exact bT_len HOK.out hkT0
                have HXA := Lib.hid hxa
                have HXB := Lib.hid hxb
                have hw1 : (vs1 ++ vs2)[k]? = some v1 := by rw [List.getElem?_append_left (by omega)]; exact hv1
                have hw2 : (vs1 ++ vs2)[T + yn]? = some v2 := by rw [List.getElem?_append_right (by omega), hl1, Nat.add_sub_cancel_left]; exact hv2
                have hx1 := Lib.hid (show ((List.range T).map (aT N dd k j) ++ (List.range T).map (bT N dd k j))[k]? = some xa by rw [List.getElem?_append_left (by simpa using hkT0), hxa]; exact map_at hkT0)
                have hx2 := Lib.hid (show ((List.range T).map (aT N dd k j) ++ (List.range T).map (bT N dd k j))[T + yn]? = some xb by rw [List.getElem?_append_right (by simp), List.length_map, List.length_range, Nat.add_sub_cancel_left, hxb]; exact map_at hyT0)
                have ho1 := how.own k v1 xa hw1 hx1.out
                have ho2 := how.own (T + yn) v2 xb hw2 hx2.out
                obtain ⟨A1, c1, rfl⟩ := own_sl ho1
                obtain ⟨A2, c2, rfl⟩ := own_sl ho2
                have HV1 := Lib.hid hw1
                have HV2 := Lib.hid hw2
                have HLT10 := Lib.hid (show ∀ b, (Value.slice A1 xa.length c1).ownBlock = some b → b < wr.heap.size from fun b hb => (ho1.lt b hb).2)
                have hd0 : Below wr.heap.size wr wr.drew := (Below.refl _ _).drew
                have q1 : wr.drew.cell? ⟨w.heap.size + 1, k, none⟩ = some (.slice A1 xa.length c1) := (hd0.cell (p := ⟨w.heap.size + 1, k, none⟩) (by show (w.heap.size + 1) < wr.heap.size; omega)).trans (by rw [cell_of_row _ _ k _ _ (0, 0) hA1]; simpa using hv1)
                have q2 : wr.drew.cell? ⟨w.heap.size, yn, none⟩ = some (.slice A2 xb.length c2) := (hd0.cell (p := ⟨w.heap.size, yn, none⟩) (by show w.heap.size < wr.heap.size; omega)).trans (by rw [cell_of_row _ _ yn _ _ (0, 0) hA2]; simpa using hv2)
                clear hxa hxb hv1 hv2 hw1 hw2 ho1 ho2
                go_wp2_with fail
                obtain ⟨W0, hW0⟩ : ∃ z, z = wr.drew := ⟨_, rfl⟩
                have hzW0 : wr.heap.size ≤ W0.heap.size := by rw [hW0]; exact hd0.size
                have HA1 := Lib.hid (show W0.heap[(w.heap.size + 1)]? = some (.cells vs1.toArray 23 (0, 0)) by rw [hW0]; exact (hd0.block _ (by omega)).trans hA1)
                have HA2 := Lib.hid (show W0.heap[w.heap.size]? = some (.cells vs2.toArray 23 (0, 0)) by rw [hW0]; exact (hd0.block _ (by omega)).trans hA2)
                have HOw := Lib.hid (show Owned W0 base (vs1 ++ vs2) ((List.range T).map (aT N dd k j) ++ (List.range T).map (bT N dd k j)) by rw [hW0]; exact how.keep hd0.size fun b _ h => hd0.block b h)
                have HBw := Lib.hid (show Below w.heap.size w W0 by rw [hW0]; exact bl_trans hbl hd0)
                clear hA1 hA2 how hd0 kb kc k7 hcy
                refine till_region (S := fun w' => w'.cell? ⟨w.heap.size + 1, k, none⟩ = some (.slice A1 xa.length c1) ∧ w'.cell? ⟨w.heap.size, yn, none⟩ = some (.slice A2 xb.length c2)) (st := 19) (by kernel_rfl) ⟨q1, q2⟩ (fun hHeld => ?_)
                rw [← hW0]
                replace hHeld : W0.cell? ⟨w.heap.size + 1, k, none⟩ = some (.slice A1 xa.length c1) ∧ W0.cell? ⟨w.heap.size, yn, none⟩ = some (.slice A2 xb.length c2) := by rw [hW0]; exact hHeld
                clear q1 q2
                obtain ⟨q1, q2⟩ := hHeld
                have hHeld := And.intro q1 q2
                clear hW0
                refine uf 0 52 rfl rfl ?_
                try simp only [Act.put, pu]
                refine uf 1 53 rfl rfl ?_
                try simp only [Act.put, pu]
                refine uf 2 54 rfl rfl ?_
                try simp only [Act.put, pu]
                refine uf 3 55 rfl rfl ?_
                try simp only [Act.put, pu]
                refine uf 4 56 rfl rfl ?_
                try simp only [Act.put, pu]
                refine uf 5 57 rfl rfl ?_
                try simp only [Act.put, pu]
                refine uf 6 58 rfl rfl ?_
                try simp only [Act.put, pu]
                refine uk 7 59 rfl rfl ?_
                try simp only [Act.put, pu]
                refine uf 8 60 rfl rfl ?_
                try simp only [Act.put, pu]
                refine uf 11 63 rfl rfl ?_
                try simp only [Act.put, pu]
                refine uf 12 64 rfl rfl ?_
                try simp only [Act.put, pu]
                refine uf 13 65 rfl rfl ?_
                try simp only [Act.put, pu]
                refine uk 14 66 rfl rfl ?_
                try simp only [Act.put, pu]
                refine uf 15 67 rfl rfl ?_
                try simp only [Act.put, pu]
                clear hHeld
                refine ur2 9 16 rfl rfl (by kernel_rfl) (fun K hK => ?_) (fun K hK => ?_)
                · go_simp
                  obtain ⟨W1, hW1⟩ : ∃ z, z = W0.alloc (.cells #[.int .i64 ((yn : Nat) : Int)] 3) := ⟨_, rfl⟩
                  rw [← hW1]
                  have hbW1 : Below W0.heap.size W0 W1 := by rw [hW1]; exact bl_alloc (Below.refl _ _) _
                  have hzW1 : W0.heap.size < W1.heap.size := by rw [hW1]; simp
                  have cc9 : W1.cell? ⟨W0.heap.size, 0, none⟩ = some (.int .i64 ((yn : Nat) : Int)) := by rw [hW1, World.cell?_alloc_at _ _ _ _ rfl]; rfl
                  clear hW1
                  replace HOw := Lib.hid (HOw.out.keep hbW1.size fun b _ h => hbW1.block b h)
                  replace HBw := Lib.hid (HBw.out.trans (hbW1.mono (by omega)))
                  replace q1 := (hbW1.cell (p := ⟨w.heap.size + 1, k, none⟩) (by show (w.heap.size + 1) < W0.heap.size; omega)).trans q1
                  replace q2 := (hbW1.cell (p := ⟨w.heap.size, yn, none⟩) (by show w.heap.size < W0.heap.size; omega)).trans q2
                  replace HA1 := Lib.hid ((hbW1.block (w.heap.size + 1) (by omega)).trans HA1.out)
                  replace HA2 := Lib.hid ((hbW1.block w.heap.size (by omega)).trans HA2.out)
                  refine hK.out (fun _ => ⟨q1, q2⟩) ?_
                  clear hK K
                  try simp only [Act.put, pu]
                  refine ur2 10 16 rfl rfl (by kernel_rfl) (fun K hK => ?_) (fun K hK => ?_)
                  · rw [if_pos (by rfl)]
                    have hv10 := HOw.out.own k _ _ HV1.out hx1.out
                    refine oper_append_at W1 (.tmp 59) (.tmp 61) 23 rfl base 3 _ 8 Tryz.underlying23 intInfo rfl _ _ _ rfl _ rfl W0.heap.size rfl cc9 hv10 (by unfold maxLen; omega) (by omega) (by omega) ?_
                    intro v10 W2 hown10 hbW2 hgr10 hob10
                    clear hv10
                    replace hgr10 : W1.grownBy W2 (Value.slice A1 xa.length c1).ownBlock := hgr10
                    replace HOw := Lib.hid (HOw.out.step (k := k) HV1.out hx1.out hown10 hgr10 hob10)
                    replace HBw := Lib.hid (HBw.out.trans (hbW2.mono (by omega)))
                    have hzW2 := hbW2.size
                    obtain ⟨B10, d10, rfl⟩ := own_sl hown10
                    replace q1 := (hbW2.cell (p := ⟨w.heap.size + 1, k, none⟩) (by show (w.heap.size + 1) < base; omega)).trans q1
                    replace q2 := (hbW2.cell (p := ⟨w.heap.size, yn, none⟩) (by show w.heap.size < base; omega)).trans q2
                    replace HA1 := Lib.hid ((hbW2.block (w.heap.size + 1) (by omega)).trans HA1.out)
                    replace HA2 := Lib.hid ((hbW2.block w.heap.size (by omega)).trans HA2.out)
                    replace HV2 := Lib.hid (show ((vs1 ++ vs2).set k (.slice B10 (xa.length + 1) d10))[T + yn]? = some (.slice A2 xb.length c2) from (List.getElem?_set_ne (show k ≠ T + yn by omega)).trans HV2.out)
                    replace hx2 := Lib.hid (show (((List.range T).map (aT N dd k j) ++ (List.range T).map (bT N dd k j)).set k (xa ++ [((yn : Nat) : Int)]))[T + yn]? = some xb from (List.getElem?_set_ne (show k ≠ T + yn by omega)).trans hx2.out)
                    clear hown10 hgr10 hob10
                    refine hK.out (fun _ => ⟨q1, q2⟩) ?_
                    clear hK K
                    try simp only [Act.put, pu]
                    refine ur 16 rfl (by kernel_rfl) (fun K hK => ?_)
                    go_simp
                    obtain ⟨W3, hW3⟩ : ∃ z, z = W2.alloc (.cells #[.int .i64 ((k : Nat) : Int)] 3) := ⟨_, rfl⟩
                    rw [← hW3]
                    have hbW3 : Below W2.heap.size W2 W3 := by rw [hW3]; exact bl_alloc (Below.refl _ _) _
                    have hzW3 : W2.heap.size < W3.heap.size := by rw [hW3]; simp
                    have cc16 : W3.cell? ⟨W2.heap.size, 0, none⟩ = some (.int .i64 ((k : Nat) : Int)) := by rw [hW3, World.cell?_alloc_at _ _ _ _ rfl]; rfl
                    clear hW3
                    replace HOw := Lib.hid (HOw.out.keep hbW3.size fun b _ h => hbW3.block b h)
                    replace HBw := Lib.hid (HBw.out.trans (hbW3.mono (by omega)))
                    replace q1 := (hbW3.cell (p := ⟨w.heap.size + 1, k, none⟩) (by show (w.heap.size + 1) < W2.heap.size; omega)).trans q1
                    replace q2 := (hbW3.cell (p := ⟨w.heap.size, yn, none⟩) (by show w.heap.size < W2.heap.size; omega)).trans q2
                    replace HA1 := Lib.hid ((hbW3.block (w.heap.size + 1) (by omega)).trans HA1.out)
                    replace HA2 := Lib.hid ((hbW3.block w.heap.size (by omega)).trans HA2.out)
                    refine hK.out (fun _ => ⟨q1, q2⟩) ?_
                    clear hK K
                    try simp only [Act.put, pu]
                    refine ur 17 rfl (by kernel_rfl) (fun K hK => ?_)
                    rw [if_pos (by rfl)]
                    have hv17 := HOw.out.own (T + yn) _ _ HV2.out hx2.out
                    refine oper_append_at W3 (.tmp 66) (.tmp 68) 23 rfl base 3 _ 8 Tryz.underlying23 intInfo rfl _ _ _ rfl _ rfl W2.heap.size rfl cc16 hv17 (by unfold maxLen; omega) (by omega) (by omega) ?_
                    intro v17 W4 hown17 hbW4 hgr17 hob17
                    clear hv17
                    replace hgr17 : W3.grownBy W4 (Value.slice A2 xb.length c2).ownBlock := hgr17
                    replace HOw := Lib.hid (HOw.out.step (k := (T + yn)) HV2.out hx2.out hown17 hgr17 hob17)
                    replace HBw := Lib.hid (HBw.out.trans (hbW4.mono (by omega)))
                    have hzW4 := hbW4.size
                    obtain ⟨B17, d17, rfl⟩ := own_sl hown17
                    replace q1 := (hbW4.cell (p := ⟨w.heap.size + 1, k, none⟩) (by show (w.heap.size + 1) < base; omega)).trans q1
                    replace q2 := (hbW4.cell (p := ⟨w.heap.size, yn, none⟩) (by show w.heap.size < base; omega)).trans q2
                    replace HA1 := Lib.hid ((hbW4.block (w.heap.size + 1) (by omega)).trans HA1.out)
                    replace HA2 := Lib.hid ((hbW4.block w.heap.size (by omega)).trans HA2.out)
                    clear hown17 hgr17 hob17
                    refine hK.out (fun _ => ⟨q1, q2⟩) ?_
                    clear hK K
                    try simp only [Act.put, pu]
                    refine uf 18 70 rfl rfl ?_ (hS := fun _ => ⟨q1, q2⟩)
                    try simp only [Act.put, pu]
                    refine ur 19 rfl (by kernel_rfl) (fun K hK => ?_)
                    have f1 := frozen_of_row _ _ k _ _ HA1.out
                    have f2 := frozen_of_row _ _ yn _ _ HA2.out
                    go_simp
                    obtain ⟨WS, hWS⟩ : ∃ z, z = W4.setCell ⟨w.heap.size + 1, k, none⟩ (.slice B10 (xa.length + 1) d10) := ⟨_, rfl⟩
                    rw [← hWS]
                    have hkS : ∀ b, b ≠ (w.heap.size + 1) → WS.heap[b]? = W4.heap[b]? := fun b hb => by rw [hWS]; exact Below.heap_setCell _ _ _ _ (by simpa using hb)
                    have hzS : WS.heap.size = W4.heap.size := by rw [hWS, size_setCell]
                    have hA1 : WS.heap[(w.heap.size + 1)]? = some (.cells (vs1.set k (.slice B10 (xa.length + 1) d10)).toArray 23 (0, 0)) := by rw [hWS]; have := heap_set_same (i := k) HA1.out (.slice B10 (xa.length + 1) d10); rw [List.setIfInBounds_toArray] at this; exact this
                    replace HBw := Lib.hid (show Below w.heap.size w WS by rw [hWS]; exact HBw.out.setCell (p := ⟨w.heap.size + 1, k, none⟩) (by show w.heap.size ≤ (w.heap.size + 1); omega) _)
                    replace HOw := Lib.hid (HOw.out.keep (w' := WS) (by omega) fun b h _ => hkS b (by omega))
                    replace HA2 := Lib.hid ((hkS w.heap.size (by omega)).trans HA2.out)
                    replace HA1 := Lib.hid hA1
                    have HZS := Lib.hid hzS
                    replace q2 := (World.cell?_of_block (a := ⟨w.heap.size, yn, none⟩) (hkS w.heap.size (by omega))).trans q2
                    replace f2 := frozen_of_row _ _ yn _ _ HA2.out
                    have hzS1 : W4.heap.size ≤ WS.heap.size := by omega
                    clear hWS hkS hzS hA1 f1
                    refine hK.out (fun h' => till_no h' (by kernel_rfl)) ?_
                    clear hK K
                    try simp only [Act.put, pu]
                    refine uf 20 71 rfl rfl ?_ (hS := fun h' => till_no h' (by kernel_rfl))
                    try simp only [Act.put, pu]
                    refine ur 21 rfl (by kernel_rfl) (fun K hK => ?_)
                    go_simp
                    obtain ⟨WT, hWT⟩ : ∃ z, z = WS.setCell ⟨w.heap.size, yn, none⟩ (.slice B17 (xb.length + 1) d17) := ⟨_, rfl⟩
                    rw [← hWT]
                    have hkT : ∀ b, b ≠ w.heap.size → WT.heap[b]? = WS.heap[b]? := fun b hb => by rw [hWT]; exact Below.heap_setCell _ _ _ _ (by simpa using hb)
                    have hzT : WT.heap.size = WS.heap.size := by rw [hWT, size_setCell]
                    have hA2 : WT.heap[w.heap.size]? = some (.cells (vs2.set yn (.slice B17 (xb.length + 1) d17)).toArray 23 (0, 0)) := by rw [hWT]; have := heap_set_same (i := yn) HA2.out (.slice B17 (xb.length + 1) d17); rw [List.setIfInBounds_toArray] at this; exact this
                    replace HBw := Lib.hid (show Below w.heap.size w WT by rw [hWT]; exact HBw.out.setCell (p := ⟨w.heap.size, yn, none⟩) (by show w.heap.size ≤ w.heap.size; omega) _)
                    replace HOw := Lib.hid (HOw.out.keep (w' := WT) (by omega) fun b h _ => hkT b (by omega))
                    replace HA1 := Lib.hid ((hkT (w.heap.size + 1) (by omega)).trans HA1.out)
                    replace HA2 := Lib.hid hA2
                    have hzT1 : base ≤ WT.heap.size := by omega
                    have HFIN := Lib.hid (IlAt.more (j := j) hl1 hl2 hkT0 hyT0 HA1.out HA2.out (by rw [← HXA.out, ← HXB.out]; exact HOw.out) HPJ.out hzT1 HBw.out)
                    clear hWT hkT hzT hA2 q2 f2
                    refine hK.out (fun h' => till_no h' (by kernel_rfl)) ?_
                    clear hK K
                    try simp only [Act.put, pu]
                    refine wpTill_done (by kernel_rfl) ?_ _
                    go_wp2_with fail
                    go_roundw
                    case rel => exact ⟨j + 1, by omega, by go_num, HFIN.out⟩
                    case measure => simp [intOf]; omega
                  · go_simp
                    obtain ⟨W2, hW2⟩ : ∃ z, z = W1.alloc (.cells #[.int .i64 ((k : Nat) : Int)] 3) := ⟨_, rfl⟩
                    rw [← hW2]
                    have hbW2 : Below W1.heap.size W1 W2 := by rw [hW2]; exact bl_alloc (Below.refl _ _) _
                    have hzW2 : W1.heap.size < W2.heap.size := by rw [hW2]; simp
                    have cc16 : W2.cell? ⟨W1.heap.size, 0, none⟩ = some (.int .i64 ((k : Nat) : Int)) := by rw [hW2, World.cell?_alloc_at _ _ _ _ rfl]; rfl
                    clear hW2
                    replace HOw := Lib.hid (HOw.out.keep hbW2.size fun b _ h => hbW2.block b h)
                    replace HBw := Lib.hid (HBw.out.trans (hbW2.mono (by omega)))
                    replace q1 := (hbW2.cell (p := ⟨w.heap.size + 1, k, none⟩) (by show (w.heap.size + 1) < W1.heap.size; omega)).trans q1
                    replace q2 := (hbW2.cell (p := ⟨w.heap.size, yn, none⟩) (by show w.heap.size < W1.heap.size; omega)).trans q2
                    replace HA1 := Lib.hid ((hbW2.block (w.heap.size + 1) (by omega)).trans HA1.out)
                    replace HA2 := Lib.hid ((hbW2.block w.heap.size (by omega)).trans HA2.out)
                    replace cc9 := (hbW2.cell (p := ⟨W0.heap.size, 0, none⟩) (by show W0.heap.size < W1.heap.size; omega)).trans cc9
                    refine hK.out (fun _ => ⟨q1, q2⟩) ?_
                    clear hK K
                    try simp only [Act.put, pu]
                    refine ur 10 rfl (by kernel_rfl) (fun K hK => ?_)
                    rw [if_pos (by rfl)]
                    have hv10 := HOw.out.own k _ _ HV1.out hx1.out
                    refine oper_append_at W2 (.tmp 59) (.tmp 61) 23 rfl base 3 _ 8 Tryz.underlying23 intInfo rfl _ _ _ rfl _ rfl W0.heap.size rfl cc9 hv10 (by unfold maxLen; omega) (by omega) (by omega) ?_
                    intro v10 W3 hown10 hbW3 hgr10 hob10
                    clear hv10
                    replace hgr10 : W2.grownBy W3 (Value.slice A1 xa.length c1).ownBlock := hgr10
                    replace HOw := Lib.hid (HOw.out.step (k := k) HV1.out hx1.out hown10 hgr10 hob10)
                    replace HBw := Lib.hid (HBw.out.trans (hbW3.mono (by omega)))
                    have hzW3 := hbW3.size
                    obtain ⟨B10, d10, rfl⟩ := own_sl hown10
                    replace q1 := (hbW3.cell (p := ⟨w.heap.size + 1, k, none⟩) (by show (w.heap.size + 1) < base; omega)).trans q1
                    replace q2 := (hbW3.cell (p := ⟨w.heap.size, yn, none⟩) (by show w.heap.size < base; omega)).trans q2
                    replace HA1 := Lib.hid ((hbW3.block (w.heap.size + 1) (by omega)).trans HA1.out)
                    replace HA2 := Lib.hid ((hbW3.block w.heap.size (by omega)).trans HA2.out)
                    replace cc16 := (World.cell?_of_block (a := ⟨W1.heap.size, 0, none⟩) (hgr10.block W1.heap.size (by omega) (by have := HLT10.out; intro e; have := this _ e.symm; omega))).trans cc16
                    replace HV2 := Lib.hid (show ((vs1 ++ vs2).set k (.slice B10 (xa.length + 1) d10))[T + yn]? = some (.slice A2 xb.length c2) from (List.getElem?_set_ne (show k ≠ T + yn by omega)).trans HV2.out)
                    replace hx2 := Lib.hid (show (((List.range T).map (aT N dd k j) ++ (List.range T).map (bT N dd k j)).set k (xa ++ [((yn : Nat) : Int)]))[T + yn]? = some xb from (List.getElem?_set_ne (show k ≠ T + yn by omega)).trans hx2.out)
                    clear hown10 hgr10 hob10
                    refine hK.out (fun _ => ⟨q1, q2⟩) ?_
                    clear hK K
                    try simp only [Act.put, pu]
                    refine ur 17 rfl (by kernel_rfl) (fun K hK => ?_)
                    rw [if_pos (by rfl)]
                    have hv17 := HOw.out.own (T + yn) _ _ HV2.out hx2.out
                    refine oper_append_at W3 (.tmp 66) (.tmp 68) 23 rfl base 3 _ 8 Tryz.underlying23 intInfo rfl _ _ _ rfl _ rfl W1.heap.size rfl cc16 hv17 (by unfold maxLen; omega) (by omega) (by omega) ?_
                    intro v17 W4 hown17 hbW4 hgr17 hob17
                    clear hv17
                    replace hgr17 : W3.grownBy W4 (Value.slice A2 xb.length c2).ownBlock := hgr17
                    replace HOw := Lib.hid (HOw.out.step (k := (T + yn)) HV2.out hx2.out hown17 hgr17 hob17)
                    replace HBw := Lib.hid (HBw.out.trans (hbW4.mono (by omega)))
                    have hzW4 := hbW4.size
                    obtain ⟨B17, d17, rfl⟩ := own_sl hown17
                    replace q1 := (hbW4.cell (p := ⟨w.heap.size + 1, k, none⟩) (by show (w.heap.size + 1) < base; omega)).trans q1
                    replace q2 := (hbW4.cell (p := ⟨w.heap.size, yn, none⟩) (by show w.heap.size < base; omega)).trans q2
                    replace HA1 := Lib.hid ((hbW4.block (w.heap.size + 1) (by omega)).trans HA1.out)
                    replace HA2 := Lib.hid ((hbW4.block w.heap.size (by omega)).trans HA2.out)
                    clear hown17 hgr17 hob17
                    refine hK.out (fun _ => ⟨q1, q2⟩) ?_
                    clear hK K
                    try simp only [Act.put, pu]
                    refine uf 18 70 rfl rfl ?_ (hS := fun _ => ⟨q1, q2⟩)
                    try simp only [Act.put, pu]
                    refine ur 19 rfl (by kernel_rfl) (fun K hK => ?_)
                    have f1 := frozen_of_row _ _ k _ _ HA1.out
                    have f2 := frozen_of_row _ _ yn _ _ HA2.out
                    go_simp
                    obtain ⟨WS, hWS⟩ : ∃ z, z = W4.setCell ⟨w.heap.size + 1, k, none⟩ (.slice B10 (xa.length + 1) d10) := ⟨_, rfl⟩
                    rw [← hWS]
                    have hkS : ∀ b, b ≠ (w.heap.size + 1) → WS.heap[b]? = W4.heap[b]? := fun b hb => by rw [hWS]; exact Below.heap_setCell _ _ _ _ (by simpa using hb)
                    have hzS : WS.heap.size = W4.heap.size := by rw [hWS, size_setCell]
                    have hA1 : WS.heap[(w.heap.size + 1)]? = some (.cells (vs1.set k (.slice B10 (xa.length + 1) d10)).toArray 23 (0, 0)) := by rw [hWS]; have := heap_set_same (i := k) HA1.out (.slice B10 (xa.length + 1) d10); rw [List.setIfInBounds_toArray] at this; exact this
                    replace HBw := Lib.hid (show Below w.heap.size w WS by rw [hWS]; exact HBw.out.setCell (p := ⟨w.heap.size + 1, k, none⟩) (by show w.heap.size ≤ (w.heap.size + 1); omega) _)
                    replace HOw := Lib.hid (HOw.out.keep (w' := WS) (by omega) fun b h _ => hkS b (by omega))
                    replace HA2 := Lib.hid ((hkS w.heap.size (by omega)).trans HA2.out)
                    replace HA1 := Lib.hid hA1
                    have HZS := Lib.hid hzS
                    replace q2 := (World.cell?_of_block (a := ⟨w.heap.size, yn, none⟩) (hkS w.heap.size (by omega))).trans q2
                    replace f2 := frozen_of_row _ _ yn _ _ HA2.out
                    have hzS1 : W4.heap.size ≤ WS.heap.size := by omega
                    clear hWS hkS hzS hA1 f1
                    refine hK.out (fun h' => till_no h' (by kernel_rfl)) ?_
                    clear hK K
                    try simp only [Act.put, pu]
                    refine uf 20 71 rfl rfl ?_ (hS := fun h' => till_no h' (by kernel_rfl))
                    try simp only [Act.put, pu]
                    refine ur 21 rfl (by kernel_rfl) (fun K hK => ?_)
                    go_simp
                    obtain ⟨WT, hWT⟩ : ∃ z, z = WS.setCell ⟨w.heap.size, yn, none⟩ (.slice B17 (xb.length + 1) d17) := ⟨_, rfl⟩
                    rw [← hWT]
                    have hkT : ∀ b, b ≠ w.heap.size → WT.heap[b]? = WS.heap[b]? := fun b hb => by rw [hWT]; exact Below.heap_setCell _ _ _ _ (by simpa using hb)
                    have hzT : WT.heap.size = WS.heap.size := by rw [hWT, size_setCell]
                    have hA2 : WT.heap[w.heap.size]? = some (.cells (vs2.set yn (.slice B17 (xb.length + 1) d17)).toArray 23 (0, 0)) := by rw [hWT]; have := heap_set_same (i := yn) HA2.out (.slice B17 (xb.length + 1) d17); rw [List.setIfInBounds_toArray] at this; exact this
                    replace HBw := Lib.hid (show Below w.heap.size w WT by rw [hWT]; exact HBw.out.setCell (p := ⟨w.heap.size, yn, none⟩) (by show w.heap.size ≤ w.heap.size; omega) _)
                    replace HOw := Lib.hid (HOw.out.keep (w' := WT) (by omega) fun b h _ => hkT b (by omega))
                    replace HA1 := Lib.hid ((hkT (w.heap.size + 1) (by omega)).trans HA1.out)
                    replace HA2 := Lib.hid hA2
                    have hzT1 : base ≤ WT.heap.size := by omega
                    have HFIN := Lib.hid (IlAt.more (j := j) hl1 hl2 hkT0 hyT0 HA1.out HA2.out (by rw [← HXA.out, ← HXB.out]; exact HOw.out) HPJ.out hzT1 HBw.out)
                    clear hWT hkT hzT hA2 q2 f2
                    refine hK.out (fun h' => till_no h' (by kernel_rfl)) ?_
                    clear hK K
                    try simp only [Act.put, pu]
                    refine wpTill_done (by kernel_rfl) ?_ _
                    go_wp2_with fail
                    go_roundw
                    case rel => exact ⟨j + 1, by omega, by go_num, HFIN.out⟩
                    case measure => simp [intOf]; omega
                · go_simp
                  obtain ⟨W1, hW1⟩ : ∃ z, z = W0.alloc (.cells #[.int .i64 ((k : Nat) : Int)] 3) := ⟨_, rfl⟩
                  rw [← hW1]
                  have hbW1 : Below W0.heap.size W0 W1 := by rw [hW1]; exact bl_alloc (Below.refl _ _) _
                  have hzW1 : W0.heap.size < W1.heap.size := by rw [hW1]; simp
                  have cc16 : W1.cell? ⟨W0.heap.size, 0, none⟩ = some (.int .i64 ((k : Nat) : Int)) := by rw [hW1, World.cell?_alloc_at _ _ _ _ rfl]; rfl
                  clear hW1
                  replace HOw := Lib.hid (HOw.out.keep hbW1.size fun b _ h => hbW1.block b h)
                  replace HBw := Lib.hid (HBw.out.trans (hbW1.mono (by omega)))
                  replace q1 := (hbW1.cell (p := ⟨w.heap.size + 1, k, none⟩) (by show (w.heap.size + 1) < W0.heap.size; omega)).trans q1
                  replace q2 := (hbW1.cell (p := ⟨w.heap.size, yn, none⟩) (by show w.heap.size < W0.heap.size; omega)).trans q2
                  replace HA1 := Lib.hid ((hbW1.block (w.heap.size + 1) (by omega)).trans HA1.out)
                  replace HA2 := Lib.hid ((hbW1.block w.heap.size (by omega)).trans HA2.out)
                  refine hK.out (fun _ => ⟨q1, q2⟩) ?_
                  clear hK K
                  try simp only [Act.put, pu]
                  refine ur 9 rfl (by kernel_rfl) (fun K hK => ?_)
                  go_simp
                  obtain ⟨W2, hW2⟩ : ∃ z, z = W1.alloc (.cells #[.int .i64 ((yn : Nat) : Int)] 3) := ⟨_, rfl⟩
                  rw [← hW2]
                  have hbW2 : Below W1.heap.size W1 W2 := by rw [hW2]; exact bl_alloc (Below.refl _ _) _
                  have hzW2 : W1.heap.size < W2.heap.size := by rw [hW2]; simp
                  have cc9 : W2.cell? ⟨W1.heap.size, 0, none⟩ = some (.int .i64 ((yn : Nat) : Int)) := by rw [hW2, World.cell?_alloc_at _ _ _ _ rfl]; rfl
                  clear hW2
                  replace HOw := Lib.hid (HOw.out.keep hbW2.size fun b _ h => hbW2.block b h)
                  replace HBw := Lib.hid (HBw.out.trans (hbW2.mono (by omega)))
                  replace q1 := (hbW2.cell (p := ⟨w.heap.size + 1, k, none⟩) (by show (w.heap.size + 1) < W1.heap.size; omega)).trans q1
                  replace q2 := (hbW2.cell (p := ⟨w.heap.size, yn, none⟩) (by show w.heap.size < W1.heap.size; omega)).trans q2
                  replace HA1 := Lib.hid ((hbW2.block (w.heap.size + 1) (by omega)).trans HA1.out)
                  replace HA2 := Lib.hid ((hbW2.block w.heap.size (by omega)).trans HA2.out)
                  replace cc16 := (hbW2.cell (p := ⟨W0.heap.size, 0, none⟩) (by show W0.heap.size < W1.heap.size; omega)).trans cc16
                  refine hK.out (fun _ => ⟨q1, q2⟩) ?_
                  clear hK K
                  try simp only [Act.put, pu]
                  refine ur 10 rfl (by kernel_rfl) (fun K hK => ?_)
                  rw [if_pos (by rfl)]
                  have hv10 := HOw.out.own k _ _ HV1.out hx1.out
                  refine oper_append_at W2 (.tmp 59) (.tmp 61) 23 rfl base 3 _ 8 Tryz.underlying23 intInfo rfl _ _ _ rfl _ rfl W1.heap.size rfl cc9 hv10 (by unfold maxLen; omega) (by omega) (by omega) ?_
                  intro v10 W3 hown10 hbW3 hgr10 hob10
                  clear hv10
                  replace hgr10 : W2.grownBy W3 (Value.slice A1 xa.length c1).ownBlock := hgr10
                  replace HOw := Lib.hid (HOw.out.step (k := k) HV1.out hx1.out hown10 hgr10 hob10)
                  replace HBw := Lib.hid (HBw.out.trans (hbW3.mono (by omega)))
                  have hzW3 := hbW3.size
                  obtain ⟨B10, d10, rfl⟩ := own_sl hown10
                  replace q1 := (hbW3.cell (p := ⟨w.heap.size + 1, k, none⟩) (by show (w.heap.size + 1) < base; omega)).trans q1
                  replace q2 := (hbW3.cell (p := ⟨w.heap.size, yn, none⟩) (by show w.heap.size < base; omega)).trans q2
                  replace HA1 := Lib.hid ((hbW3.block (w.heap.size + 1) (by omega)).trans HA1.out)
                  replace HA2 := Lib.hid ((hbW3.block w.heap.size (by omega)).trans HA2.out)
                  replace cc16 := (World.cell?_of_block (a := ⟨W0.heap.size, 0, none⟩) (hgr10.block W0.heap.size (by omega) (by have := HLT10.out; intro e; have := this _ e.symm; omega))).trans cc16
                  replace HV2 := Lib.hid (show ((vs1 ++ vs2).set k (.slice B10 (xa.length + 1) d10))[T + yn]? = some (.slice A2 xb.length c2) from (List.getElem?_set_ne (show k ≠ T + yn by omega)).trans HV2.out)
                  replace hx2 := Lib.hid (show (((List.range T).map (aT N dd k j) ++ (List.range T).map (bT N dd k j)).set k (xa ++ [((yn : Nat) : Int)]))[T + yn]? = some xb from (List.getElem?_set_ne (show k ≠ T + yn by omega)).trans hx2.out)
                  clear hown10 hgr10 hob10
                  refine hK.out (fun _ => ⟨q1, q2⟩) ?_
                  clear hK K
                  try simp only [Act.put, pu]
                  refine ur 17 rfl (by kernel_rfl) (fun K hK => ?_)
                  rw [if_pos (by rfl)]
                  have hv17 := HOw.out.own (T + yn) _ _ HV2.out hx2.out
                  refine oper_append_at W3 (.tmp 66) (.tmp 68) 23 rfl base 3 _ 8 Tryz.underlying23 intInfo rfl _ _ _ rfl _ rfl W0.heap.size rfl cc16 hv17 (by unfold maxLen; omega) (by omega) (by omega) ?_
                  intro v17 W4 hown17 hbW4 hgr17 hob17
                  clear hv17
                  replace hgr17 : W3.grownBy W4 (Value.slice A2 xb.length c2).ownBlock := hgr17
                  replace HOw := Lib.hid (HOw.out.step (k := (T + yn)) HV2.out hx2.out hown17 hgr17 hob17)
                  replace HBw := Lib.hid (HBw.out.trans (hbW4.mono (by omega)))
                  have hzW4 := hbW4.size
                  obtain ⟨B17, d17, rfl⟩ := own_sl hown17
                  replace q1 := (hbW4.cell (p := ⟨w.heap.size + 1, k, none⟩) (by show (w.heap.size + 1) < base; omega)).trans q1
                  replace q2 := (hbW4.cell (p := ⟨w.heap.size, yn, none⟩) (by show w.heap.size < base; omega)).trans q2
                  replace HA1 := Lib.hid ((hbW4.block (w.heap.size + 1) (by omega)).trans HA1.out)
                  replace HA2 := Lib.hid ((hbW4.block w.heap.size (by omega)).trans HA2.out)
                  clear hown17 hgr17 hob17
                  refine hK.out (fun _ => ⟨q1, q2⟩) ?_
                  clear hK K
                  try simp only [Act.put, pu]
                  refine uf 18 70 rfl rfl ?_ (hS := fun _ => ⟨q1, q2⟩)
                  try simp only [Act.put, pu]
                  refine ur 19 rfl (by kernel_rfl) (fun K hK => ?_)
                  have f1 := frozen_of_row _ _ k _ _ HA1.out
                  have f2 := frozen_of_row _ _ yn _ _ HA2.out
                  go_simp
                  obtain ⟨WS, hWS⟩ : ∃ z, z = W4.setCell ⟨w.heap.size + 1, k, none⟩ (.slice B10 (xa.length + 1) d10) := ⟨_, rfl⟩
                  rw [← hWS]
                  have hkS : ∀ b, b ≠ (w.heap.size + 1) → WS.heap[b]? = W4.heap[b]? := fun b hb => by rw [hWS]; exact Below.heap_setCell _ _ _ _ (by simpa using hb)
                  have hzS : WS.heap.size = W4.heap.size := by rw [hWS, size_setCell]
                  have hA1 : WS.heap[(w.heap.size + 1)]? = some (.cells (vs1.set k (.slice B10 (xa.length + 1) d10)).toArray 23 (0, 0)) := by rw [hWS]; have := heap_set_same (i := k) HA1.out (.slice B10 (xa.length + 1) d10); rw [List.setIfInBounds_toArray] at this; exact this
                  replace HBw := Lib.hid (show Below w.heap.size w WS by rw [hWS]; exact HBw.out.setCell (p := ⟨w.heap.size + 1, k, none⟩) (by show w.heap.size ≤ (w.heap.size + 1); omega) _)
                  replace HOw := Lib.hid (HOw.out.keep (w' := WS) (by omega) fun b h _ => hkS b (by omega))
                  replace HA2 := Lib.hid ((hkS w.heap.size (by omega)).trans HA2.out)
                  replace HA1 := Lib.hid hA1
                  have HZS := Lib.hid hzS
                  replace q2 := (World.cell?_of_block (a := ⟨w.heap.size, yn, none⟩) (hkS w.heap.size (by omega))).trans q2
                  replace f2 := frozen_of_row _ _ yn _ _ HA2.out
                  have hzS1 : W4.heap.size ≤ WS.heap.size := by omega
                  clear hWS hkS hzS hA1 f1
                  refine hK.out (fun h' => till_no h' (by kernel_rfl)) ?_
                  clear hK K
                  try simp only [Act.put, pu]
                  refine uf 20 71 rfl rfl ?_ (hS := fun h' => till_no h' (by kernel_rfl))
                  try simp only [Act.put, pu]
                  refine ur 21 rfl (by kernel_rfl) (fun K hK => ?_)
                  go_simp
                  obtain ⟨WT, hWT⟩ : ∃ z, z = WS.setCell ⟨w.heap.size, yn, none⟩ (.slice B17 (xb.length + 1) d17) := ⟨_, rfl⟩
                  rw [← hWT]
                  have hkT : ∀ b, b ≠ w.heap.size → WT.heap[b]? = WS.heap[b]? := fun b hb => by rw [hWT]; exact Below.heap_setCell _ _ _ _ (by simpa using hb)
                  have hzT : WT.heap.size = WS.heap.size := by rw [hWT, size_setCell]
                  have hA2 : WT.heap[w.heap.size]? = some (.cells (vs2.set yn (.slice B17 (xb.length + 1) d17)).toArray 23 (0, 0)) := by rw [hWT]; have := heap_set_same (i := yn) HA2.out (.slice B17 (xb.length + 1) d17); rw [List.setIfInBounds_toArray] at this; exact this
                  replace HBw := Lib.hid (show Below w.heap.size w WT by rw [hWT]; exact HBw.out.setCell (p := ⟨w.heap.size, yn, none⟩) (by show w.heap.size ≤ w.heap.size; omega) _)
                  replace HOw := Lib.hid (HOw.out.keep (w' := WT) (by omega) fun b h _ => hkT b (by omega))
                  replace HA1 := Lib.hid ((hkT (w.heap.size + 1) (by omega)).trans HA1.out)
                  replace HA2 := Lib.hid hA2
                  have hzT1 : base ≤ WT.heap.size := by omega
                  have HFIN := Lib.hid (IlAt.more (j := j) hl1 hl2 hkT0 hyT0 HA1.out HA2.out (by rw [← HXA.out, ← HXB.out]; exact HOw.out) HPJ.out hzT1 HBw.out)
                  clear hWT hkT hzT hA2 q2 f2
                  refine hK.out (fun h' => till_no h' (by kernel_rfl)) ?_
                  clear hK K
                  try simp only [Act.put, pu]
                  refine wpTill_done (by kernel_rfl) ?_ _
                  go_wp2_with fail
                  go_roundw
                  case rel => exact ⟨j + 1, by omega, by go_num, HFIN.out⟩
                  case measure => simp [intOf]; omega
          · obtain rfl : j = l.length := by omega
            have HRW := Lib.hid (HIL.out.row HL.out)
            clear hil
            go_wp2_with fail
            go_roundw
            case rel => exact ⟨k + 1, by omega, by go_num, HRW.out⟩
            case measure => simp [intOf]; omega
      · obtain rfl : k = T := by omega
        have HF := Lib.hid (HIL.out.fin HOK.out)
        clear HIL
        go_wp2_with fail
        go_ret2
        exact ⟨w.heap.size + 1, w.heap.size, rfl, HF.out.1, HF.out.2, hbl⟩
end Go.Proofs.YthfgklckmedggaaGreat
