/-
  Networks, the program's side: whether a network hangs together; stubs and loops; a token ring; which rules run on it.
  Networks, the program's side: the edges, each once; stubs and loops.
  Networks, the program's side: no stubs and no loops; a token ring; which rules run.
  Networks, the program's side: a token ring; what a daemon is; which rules run on a network.
  Networks, the program's side: what a daemon is; which rules run on a network; how many states each node has.
  Networks, the program's side: how many states each node has.
  Networks, the program's side: an explorer of a rule's situations; how many there are.
  Networks, the program's side: whether a list is a situation; its number; the situation of a number.
-/
import Derived.Test.YthfgklckmedggaaGreatImplA
namespace Go.Proofs.YthfgklckmedggaaGreat
section
open Go.RowKit
set_option linter.unusedVariables false
set_option linter.unusedSimpArgs false
theorem impl_Contains (v : Value) (xs : List Int) (x : Int) (w : World) (h : IntsR w w.heap.size v xs) :
    Calls Tryz.prog 67 #[v, .int .i64 x] w fun e w' => e = .returned (.bool (xs.contains x)) ∧ w = w' := by
  obtain ⟨A, c, rfl, h1, h2, h3⟩ := h.open_
  unfold maxLen at h2
  by_cases h0 : xs.length = 0
  · obtain rfl : xs = [] := List.eq_nil_of_length_eq_zero h0
    refine (Tryz.slices_Contains_int_empty A c x w).mono ?_
    rintro e w' ⟨rfl, rfl⟩
    exact ⟨rfl, rfl⟩
  · obtain ⟨ad, rfl, hb, hc⟩ := h3 (by omega)
    obtain ⟨b, off, rfl, hcc⟩ := ints_cells (by omega) hc
    refine (Tryz.slices_Contains_int b off xs.length c xs x w (Nat.le_refl _) (by omega) hcc).mono ?_
    rintro e w' ⟨rfl, rfl⟩
    rw [List.take_length]
    exact ⟨rfl, rfl⟩
theorem conn_eq (n : Net) : (!decide ((-1 : Int) ∈ far n.es 0)) = connB n := by
  by_cases h : (-1 : Int) ∈ far n.es 0
  · rw [show connB n = false from propB_f fun hc => hc h, decide_eq_true h]
    rfl
  · rw [show connB n = true from propB_t h, decide_eq_false h]
    rfl
theorem impl_isConnected (ve vi vn : Value) (n : Net) (w : World) (h : NetR w w.heap.size ve vi vn n) (hp : netP n) :
    Calls Tryz.prog 160 #[.agg #[ve, vi, vn]] w fun e w' => e = .returned (.bool (connB n)) ∧ Below w.heap.size w w' := by
  have HP := Lib.hid hp; clear hp
  obtain ⟨⟨A0, m0, c0, rfl⟩, ⟨A1, m1, c1, rfl⟩, A2, m2, c2, rfl⟩ := h.slices
  obtain ⟨w0, hw0, hB, HD, hz0, HS0⟩ := box3 w (.slice A0 m0 c0) (.slice A1 m1 c1) (.slice A2 m2 c2) 31
  have HN0 := Lib.hid h; have HN := Lib.hid (h.up hB); clear h
  have HW0 := Lib.hid hw0; clear hw0
  obtain ⟨q0, q1, q2, qf⟩ := cells3 HD
  go_enter Tryz.func160, Tryz.ntmps160
  go_wp2_with fail
  rw [← HW0.out]
  refine (impl_distancesFrom _ _ _ n 0 w0 HN.out HP.out (by have := HP.out.1.1; omega)).mono ?_
  rintro e w1 ⟨u, rfl, ⟨A', m', c', rfl⟩, hu, hb1⟩
  have hzhb1 := hb1.size
  clear q0 q1 q2 qf
  replace HD := bk HD hb1
  replace HN := Lib.hid (HN.out.up hb1)
  replace hB := bl_trans hB hb1
  obtain ⟨q0, q1, q2, qf⟩ := cells3 HD
  have HU := Lib.hid hu; clear hu
  go_wp2_with fail
  refine (impl_Contains _ (far n.es 0) (-1) w1 HU.out).mono ?_
  rintro e w2 ⟨rfl, rfl⟩
  have HC := Lib.hid (conn_eq n)
  go_wp2_with fail
  go_ret
  exact ⟨ret_bool HC.out, hB⟩
end
section
open Go.RowKit
set_option linter.unusedVariables false
set_option linter.unusedSimpArgs false
theorem wpList_appendK {P : Program} (w : World) {ops : Array Oper} {rest : List Oper} {o : Oper} {a : Act} {Q : Exit → Act → World → Prop} (hgd : o.guard = none) (s x : Operand) (t : TypeId)
    (ho : o.op = .call { callee := .builtin .append, args := #[s, x], argTypes := #[t, t] })
    (base : Nat) (e : TypeId) (z : Value) (size bytes : Nat) (ht : P.underlying t = some (.slice e)) (hinf : (P.info? e).map (fun i => (i.zero, i.size, i.bytes)) = some (some z, size, bytes)) (hzs : z.cells.size = size) (hsz : 0 < size)
    (v : Value) (n : Nat) (xs : List Value) (hs : a.eval s = v) (us : List Value) (hlu : us.length = size) (hu : ∀ u ∈ us, u.oneCell' = true) (hx : a.eval x = .slice (some ⟨w.heap.size, 0, none⟩) 1 1)
    (hown : w.ownsRow base e size v n xs) (h63 : n + 1 ≤ maxLen) (hbytes : (n + 1) * bytes ≤ 140737488355328) (hbase : base ≤ w.heap.size)
    (h : ∀ v' w', w'.ownsRow base e size v' (n + 1) (xs ++ us) → Below base w w' → w.grownBy w' v.ownBlock → w.heap.size < w'.heap.size → (v'.ownBlock = v.ownBlock ∨ ∃ g, v'.ownBlock = some g ∧ w.heap.size ≤ g ∧ g < w'.heap.size) → wpList P ops Q rest (a.put o.dst v') w') :
    wpList P ops Q (o :: rest) a (w.alloc (.cells us.toArray e)) := by
  obtain ⟨i, hi, hz0, hz1, hz2⟩ := info_parts hinf
  have hown1 := hown.alloc (.cells us.toArray e)
  have hnews : ∀ j u', us[j]? = some u' → (w.alloc (.cells us.toArray e)).cell? ((⟨w.heap.size, 0, none⟩ : Addr).add j) = some u' := by
    intro j u' hj
    rw [show (⟨w.heap.size, 0, none⟩ : Addr).add j = ⟨w.heap.size, j, none⟩ by unfold Addr.add; split <;> simp_all, World.cell?_alloc_at _ _ _ _ rfl]
    simpa using hj
  obtain ⟨v', w', hrun, h2, h3, _, h5⟩ := run_append_own_at (P := P) (w.alloc (.cells us.toArray e)) base t o.type e i z size bytes ht hi hz0 hz1 hz2 hzs hsz v n xs hown1 ⟨w.heap.size, 0, none⟩ 1 1 us (by rw [hlu]; omega) hnews hu h63 hbytes (by simp; omega)
  have hg : w.grownBy w' v.ownBlock := by
    have h0 := World.grownBy_alloc w (.cells us.toArray e) v.ownBlock
    exact ⟨h3.os.trans h0.os, h3.tape.trans h0.tape, h3.output.trans h0.output, Nat.le_trans h0.size h3.size, fun k hk hne => (h3.block k (Nat.lt_of_lt_of_le hk h0.size) hne).trans (h0.block k hk hne)⟩
  have hsz' : w.heap.size < w'.heap.size := by have := h3.size; simp at this; omega
  have hB : Below base w w' := (Below.refl base w).grown hg hbase (fun k hk => (hown.lt k hk).1)
  refine wpList_plain hgd fun K hK => ?_
  unfold Oper.wp execOp
  simp only [ho, resolve, invoke, builtin, Sem.run_bind, Sem.run_pure, Result.andThen_ok, List.map_toArray, List.map_cons, List.map_nil, hs, hx, hrun]
  refine hK _ _ (h v' w' h2 hB hg hsz' ?_)
  rcases h5 with h5 | h5
  · exact .inl h5
  · refine .inr ⟨_, h5, by simp, ?_⟩
    exact (h2.lt _ h5).2
theorem own_mono {w : World} {base base' : Nat} {e : TypeId} {size : Nat} {v : Value} {n : Nat} {xs : List Value} (h : w.ownsRow base e size v n xs) (hb : base' ≤ base) : w.ownsRow base' e size v n xs :=
  ⟨h.1, h.2.imp id fun ⟨g, cap, cur, h1, h2, h3⟩ => ⟨g, cap, cur, h1, Nat.le_trans hb h2, h3⟩⟩
theorem own_keep4 {w w' : World} {base n size : Nat} {e : TypeId} {v : Value} {vs : List Value} (h : w.ownsRow base e size v n vs) (hs : w.heap.size ≤ w'.heap.size) (hk : ∀ b, base ≤ b → b < w.heap.size → w'.heap[b]? = w.heap[b]?) : w'.ownsRow base e size v n vs := by
  refine ⟨h.1, ?_⟩
  have hlt := h.lt
  rcases h.2 with h2 | ⟨g, cap, cur, rfl, hb, hg, r⟩
  · exact .inl h2
  · exact .inr ⟨g, cap, cur, rfl, hb, (hk g hb (hlt g rfl).2).trans hg, r⟩
abbrev Edge := Int × Int × Int × Int
def edC (x : Edge) : List Value := [.int .i64 x.1, .int .i64 x.2.1, .int .i64 x.2.2.1, .int .i64 x.2.2.2]
def edCells (E : List Edge) : List Value := E.flatMap edC
theorem edCells_snoc (E : List Edge) (x : Edge) : edCells (E ++ [x]) = edCells E ++ edC x := by
  unfold edCells
  rw [List.flatMap_append]
  simp
theorem edgeInfo : (Tryz.prog.info? 124).map (fun i => (i.zero, i.size, i.bytes)) = some (some (.agg #[.int .i64 0, .int .i64 0, .int .i64 0, .int .i64 0]), 4, 32) := by kernel_rfl
/-- An edge is listed from its lesser side. -/
def edOk (v i : Nat) (e : Int × Int) : Prop := (v : Int) < e.1 ∨ (v : Int) = e.1 ∧ (i : Int) ≤ e.2
def EdOf (n : Net) (x : Edge) : Prop := ∃ (v : Nat) (l : Ends) (i : Nat) (e : Int × Int), n.es[v]? = some l ∧ l[i]? = some e ∧ edOk v i e ∧ x = ((v : Int), (i : Int), e.1, e.2)
/-- The edges of the nodes before k, and of the first j ends of node k. -/
def EdTo (n : Net) (k j : Nat) (E : List Edge) : Prop :=
  (∀ x ∈ E, EdOf n x) ∧ (∀ (v : Nat) (l : Ends) (i : Nat) (e : Int × Int), (v < k ∨ v = k ∧ i < j) → n.es[v]? = some l → l[i]? = some e → edOk v i e → ((v : Int), (i : Int), e.1, e.2) ∈ E) ∧ E.length ≤ 6 * k + j
theorem EdTo.start (n : Net) : EdTo n 0 0 [] := ⟨fun _ h => absurd h (by simp), fun v l i e h => by omega, Nat.le_refl _⟩
theorem EdTo.yes {n : Net} {k j : Nat} {E : List Edge} {l : Ends} {e : Int × Int} (h : EdTo n k j E) (hl : n.es[k]? = some l) (he : l[j]? = some e) (ho : edOk k j e) : EdTo n k (j + 1) (E ++ [((k : Int), (j : Int), e.1, e.2)]) := by
  obtain ⟨h1, h2, h3⟩ := h
  refine ⟨fun x hx => ?_, fun v l' i e' hc hl' he' ho' => ?_, by simp; omega⟩
  · rcases List.mem_append.1 hx with hx | hx
    · exact h1 x hx
    · rw [List.mem_singleton] at hx
      exact ⟨k, l, j, e, hl, he, ho, hx⟩
  · by_cases hvj : v = k ∧ i = j
    · obtain ⟨rfl, rfl⟩ := hvj
      obtain rfl := Option.some.inj (hl.symm.trans hl')
      obtain rfl := Option.some.inj (he.symm.trans he')
      exact List.mem_append.2 (.inr (by simp))
    · exact List.mem_append.2 (.inl (h2 v l' i e' (by omega) hl' he' ho'))
theorem EdTo.no {n : Net} {k j : Nat} {E : List Edge} {l : Ends} {e : Int × Int} (h : EdTo n k j E) (hl : n.es[k]? = some l) (he : l[j]? = some e) (ho : ¬ edOk k j e) : EdTo n k (j + 1) E := by
  obtain ⟨h1, h2, h3⟩ := h
  refine ⟨h1, fun v l' i e' hc hl' he' ho' => ?_, by omega⟩
  by_cases hvj : v = k ∧ i = j
  · obtain ⟨rfl, rfl⟩ := hvj
    obtain rfl := Option.some.inj (hl.symm.trans hl')
    obtain rfl := Option.some.inj (he.symm.trans he')
    exact absurd ho' ho
  · exact h2 v l' i e' (by omega) hl' he' ho'
theorem EdTo.row {n : Net} {k j : Nat} {E : List Edge} {l : Ends} (h : EdTo n k j E) (hl : n.es[k]? = some l) (hj : l.length ≤ j) (hj6 : j ≤ 6) : EdTo n (k + 1) 0 E := by
  obtain ⟨h1, h2, h3⟩ := h
  refine ⟨h1, fun v l' i e' hc hl' he' ho' => ?_, by omega⟩
  by_cases hv : v = k
  · subst hv
    obtain rfl := Option.some.inj (hl.symm.trans hl')
    exact h2 v l i e' (.inr ⟨rfl, by have := (List.getElem?_eq_some_iff.1 he').1; omega⟩) hl he' ho'
  · exact h2 v l' i e' (by omega) hl' he' ho'
/-- All edges, each once. -/
def EdAll (n : Net) (E : List Edge) : Prop := ∃ k, n.es.length ≤ k ∧ EdTo n k 0 E
theorem EdAll.loop {n : Net} {E : List Edge} (h : EdAll n E) (hp : netP n) : (∃ x ∈ E, x.1 = x.2.2.1) ↔ ¬ plainP n := by
  obtain ⟨k, hk, h1, h2, -⟩ := h
  rw [← edge_loop hp]
  constructor
  · rintro ⟨x, hx, hq⟩
    obtain ⟨v, l, i, e, hl, he, ho, rfl⟩ := h1 x hx
    exact ⟨v, l, hl, i, e, he, ho, hq⟩
  · rintro ⟨v, l, hl, i, e, he, ho, hq⟩
    exact ⟨_, h2 v l i e (.inl (by have := (List.getElem?_eq_some_iff.1 hl).1; omega)) hl he ho, hq⟩
def EgRel (n : Net) (w : World) (v i : Value) (wr : World) : Prop :=
  ∃ (E : List Edge) (k : Nat), k ≤ n.es.length ∧ i = .int .i64 k ∧ EdTo n k 0 E ∧ wr.ownsRow w.heap.size 124 4 v E.length (edCells E) ∧ Below w.heap.size w wr
def EiRel (n : Net) (k : Nat) (l : Ends) (w wq : World) (v i : Value) (wr : World) : Prop :=
  ∃ (E : List Edge) (j : Nat), j ≤ l.length ∧ i = .int .i64 j ∧ EdTo n k j E ∧ wr.ownsRow w.heap.size 124 4 v E.length (edCells E) ∧ Below w.heap.size wq wr
set_option maxRecDepth 100000 in
set_option maxHeartbeats 2000000 in
theorem impl_edges (ve vi vn : Value) (n : Net) (w : World) (h : NetR w w.heap.size ve vi vn n) (hp : netP n) :
    Calls Tryz.prog 144 #[.agg #[ve, vi, vn]] w fun e w' => ∃ u E, e = .returned u ∧ EdAll n E ∧ E.length ≤ 300 ∧ w'.ownsRow w.heap.size 124 4 u E.length (edCells E) ∧ Below w.heap.size w w' := by
  have h40 := hp.1.2
  have HP := Lib.hid hp; clear hp
  obtain ⟨⟨A0, m0, c0, rfl⟩, ⟨A1, m1, c1, rfl⟩, A2, m2, c2, rfl⟩ := h.slices
  obtain ⟨w0, hw0, hB, HD, hz0, HS0⟩ := box3 w (.slice A0 m0 c0) (.slice A1 m1 c1) (.slice A2 m2 c2) 31
  have HN0 := Lib.hid h; have HN := Lib.hid (h.up hB); clear h
  have HW0 := Lib.hid hw0; clear hw0
  obtain ⟨q0, q1, q2, qf⟩ := cells3 HD
  obtain ⟨hm0, -, -⟩ := HN.out.e.len_slice
  subst hm0
  go_enter Tryz.func144, Tryz.ntmps144
  go_wp2_with fail
  rw [← HW0.out]
  go_loopw [3, 4, 5, 11] (fun v _ _ i wr => EgRel n w0 v i wr) (fun _ _ _ i _ => n.es.length - (intOf i).toNat)
  case atStart => exact ⟨[], 0, Nat.zero_le _, rfl, EdTo.start n, World.ownsRow_nil _ _ _ _, Below.refl _ _⟩
  case round =>
    obtain ⟨E, k, hk, rfl, hed, hown, hb1⟩ := hrel
    have HED := Lib.hid hed; clear hed
    have hzhb1 := hb1.size
    clear q0 q1 q2 qf
    replace HD := bk HD hb1
    replace HN := Lib.hid (HN.out.up hb1)
    replace hB := bl_trans hB hb1
    obtain ⟨q0, q1, q2, qf⟩ := cells3 HD
    by_cases hlt : k < n.es.length
    · obtain ⟨l, hl⟩ : ∃ y, n.es[k]? = some y := ⟨n.es[k], List.getElem?_eq_getElem hlt⟩
      obtain ⟨ad, rfl⟩ := HN.out.e.some_ (by omega)
      obtain ⟨hbb, u, hu, hr⟩ := (HN0.out.below hB).e.at_ hl
      have HR := Lib.hid hr
      obtain ⟨A', c', rfl, hlc, hlm, -, h4⟩ := hr
      unfold maxLen at hlm
      have hl6 := HP.out.len hl
      have HL := Lib.hid hl; clear hl
      have HO := Lib.hid hown; clear hown
      have HB1 := Lib.hid hb1; clear hb1
      go_wp2_with fail
      obtain ⟨wq, rfl⟩ : ∃ z, z = wr := ⟨_, rfl⟩
      go_loopw [3, 6, 7, 18] (fun v _ _ i wr' => EiRel n k l w0 wq v i wr') (fun _ _ _ i _ => l.length - (intOf i).toNat)
      case atStart => exact ⟨E, 0, Nat.zero_le _, rfl, HED.out, HO.out, Below.refl _ _⟩
      case round =>
        obtain ⟨E, j, hj, rfl, hed, hown, hbl⟩ := hrel
        have hz2 := hbl.size
        have HED2 := Lib.hid hed; clear hed
        by_cases hlt2 : j < l.length
        · obtain ⟨e, he⟩ : ∃ e, l[j]? = some e := ⟨_, List.getElem?_eq_getElem hlt2⟩
          obtain ⟨b, o', rfl, -, -⟩ := h4 (by omega)
          obtain ⟨hbb', p0, p1⟩ := (HR.out.below (hbl.mono (by omega))).at_ he
          obtain ⟨wv, hwv, hbv, HEB, hzv, HSV⟩ := box2 wr (.int .i64 e.1) (.int .i64 e.2) 96
          have HWV := Lib.hid hwv
          obtain ⟨d2, d3, ef⟩ := cells2 HEB
          rw [hwv] at d2 d3
          clear hwv ef
          have hbv0 : w0.heap.size ≤ wv.heap.size := by have := HB1.out.size; omega
          have HOV := Lib.hid (show wv.ownsRow w0.heap.size 124 4 u3 E.length (edCells E) from own_keep4 hown hbv.size (fun b _ hb => hbv.block b hb)); clear hown
          have HBV := Lib.hid (hbl.trans (hbv.mono (by have := HB1.out.size; omega))); clear hbl
          have HE := Lib.hid he; clear he
          have hel := HED2.out.2.2
          by_cases c1 : (k : Int) < e.1
          · have HNO := Lib.hid (show edOk k j e from .inl c1)
            go_wp2_with ((at_builtin; rw [← HWV.out]; refine wpList_appendK wv rfl (.tmp 39) (.tmp 47) 122 rfl w0.heap.size 124 _ 4 32 Tryz.underlying122 edgeInfo rfl (by decide) _ E.length (edCells E) rfl (edC ((k : Int), (j : Int), e.1, e.2)) rfl (fun u hu => by simp [edC] at hu; rcases hu with rfl | rfl | rfl | rfl <;> rfl) (by show Value.slice (some ⟨wr.heap.size + 1, 0, none⟩) 1 1 = _; rw [HSV.out]) HOV.out (by unfold maxLen; omega) (by omega) hbv0 ?_; intro v' w' hown' hbl' hgr' hlt' hob'))
            go_roundw
            case rel => exact ⟨E ++ [((k : Int), (j : Int), e.1, e.2)], j + 1, by omega, by go_num, HED2.out.yes HL.out HE.out HNO.out, by rw [edCells_snoc, List.length_append]; exact hown', HBV.out.trans hbl'⟩
            case measure => simp [intOf]; omega
          · by_cases c2 : (k : Int) = e.1
            · have hq : ((k : Int) == e.1) = true := by rw [beq_iff_eq]; exact c2
              by_cases c3 : (j : Int) ≤ e.2
              · have HNO := Lib.hid (show edOk k j e from .inr ⟨c2, c3⟩)
                clear c2
                go_wp2_with ((at_builtin; rw [← HWV.out]; refine wpList_appendK wv rfl (.tmp 39) (.tmp 47) 122 rfl w0.heap.size 124 _ 4 32 Tryz.underlying122 edgeInfo rfl (by decide) _ E.length (edCells E) rfl (edC ((k : Int), (j : Int), e.1, e.2)) rfl (fun u hu => by simp [edC] at hu; rcases hu with rfl | rfl | rfl | rfl <;> rfl) (by show Value.slice (some ⟨wr.heap.size + 1, 0, none⟩) 1 1 = _; rw [HSV.out]) HOV.out (by unfold maxLen; omega) (by omega) hbv0 ?_; intro v' w' hown' hbl' hgr' hlt' hob'))
                go_roundw
                case rel => exact ⟨E ++ [((k : Int), (j : Int), e.1, e.2)], j + 1, by omega, by go_num, HED2.out.yes HL.out HE.out HNO.out, by rw [edCells_snoc, List.length_append]; exact hown', HBV.out.trans hbl'⟩
                case measure => simp [intOf]; omega
              · have HNO := Lib.hid (show ¬ edOk k j e from fun h => by rcases h with h | h; exact c1 h; exact c3 h.2)
                clear c2
                go_wp2_with fail
                clear d2 d3
                rw [← HWV.out]
                go_roundw
                case rel => exact ⟨E, j + 1, by omega, by go_num, HED2.out.no HL.out HE.out HNO.out, HOV.out, HBV.out⟩
                case measure => simp [intOf]; omega
            · have hq : ((k : Int) == e.1) = false := by rw [beq_eq_false_iff_ne]; exact c2
              have HNO := Lib.hid (show ¬ edOk k j e from fun h => by rcases h with h | h; exact c1 h; exact c2 h.1)
              go_wp2_with fail
              clear d2 d3
              rw [← HWV.out]
              go_roundw
              case rel => exact ⟨E, j + 1, by omega, by go_num, HED2.out.no HL.out HE.out HNO.out, HOV.out, HBV.out⟩
              case measure => simp [intOf]; omega
        · have hlj : l.length ≤ j := by omega
          have HO2 := Lib.hid hown; clear hown
          go_wp2_with fail
          refine ⟨⟨E, k + 1, by omega, by go_num, HED2.out.row HL.out hlj (by omega), HO2.out, HB1.out.trans hbl⟩, ?_⟩
          simp [intOf]
          omega
    · have hel := HED.out.2.2
      have HF := Lib.hid (show EdAll n E from ⟨k, by omega, HED.out⟩)
      have HO := Lib.hid hown; clear hown
      go_wp2_with fail
      go_ret
      exact ⟨_, E, rfl, HF.out, by omega, own_mono HO.out (by omega), hB⟩
end
section
open Go.RowKit
set_option linter.unusedVariables false
set_option linter.unusedSimpArgs false
theorem closure_loop (x : Edge) (w : World) :
    Calls Tryz.prog 159 #[.agg #[.int .i64 x.1, .int .i64 x.2.1, .int .i64 x.2.2.1, .int .i64 x.2.2.2]] w fun e w' => e = .returned (.bool (x.1 == x.2.2.1)) ∧ Below w.heap.size w w' := by
  go_enter Tryz.func159, Tryz.ntmps159
  go_wp2_with fail
  go_ret
  exact ⟨rfl, bl_alloc (Below.refl _ _) _⟩
/-- Where the cells of a row of edges lie. -/
theorem edge_at {E : List Edge} {k : Nat} {x : Edge} (h : E[k]? = some x) : (edCells E)[k * 4]? = some (.int .i64 x.1) ∧ (edCells E)[k * 4 + 1]? = some (.int .i64 x.2.1) ∧ (edCells E)[k * 4 + 2]? = some (.int .i64 x.2.2.1) ∧ (edCells E)[k * 4 + 3]? = some (.int .i64 x.2.2.2) := by
  induction E generalizing k with
  | nil => simp at h
  | cons y r ih =>
    rcases k with _ | k
    · simp only [List.getElem?_cons_zero, Option.some.injEq] at h
      subst h
      exact ⟨rfl, rfl, rfl, rfl⟩
    · have := ih (k := k) h
      have e : edCells (y :: r) = edC y ++ edCells r := rfl
      rw [e]
      have hl : (edC y).length = 4 := rfl
      rw [List.getElem?_append_right (by rw [hl]; omega), List.getElem?_append_right (by rw [hl]; omega), List.getElem?_append_right (by rw [hl]; omega), List.getElem?_append_right (by rw [hl]; omega), hl]
      rw [show (k + 1) * 4 - 4 = k * 4 by omega, show (k + 1) * 4 + 1 - 4 = k * 4 + 1 by omega, show (k + 1) * 4 + 2 - 4 = k * 4 + 2 by omega, show (k + 1) * 4 + 3 - 4 = k * 4 + 3 by omega]
      exact this
/-- None of the first k ends where it starts. -/
def NoLoopTo (E : List Edge) (k : Nat) : Prop := ∀ (j : Nat) (x : Edge), j < k → E[j]? = some x → x.1 ≠ x.2.2.1
theorem NoLoopTo.next {E : List Edge} {k : Nat} {x : Edge} (h : NoLoopTo E k) (hx : E[k]? = some x) (hn : x.1 ≠ x.2.2.1) : NoLoopTo E (k + 1) := fun j y hj hy => by
  by_cases e : j = k
  · subst e
    obtain rfl := Option.some.inj (hx.symm.trans hy)
    exact hn
  · exact h j y (by omega) hy
noncomputable def loopB (E : List Edge) : Bool := propB (∃ x ∈ E, x.1 = x.2.2.1)
theorem NoLoopTo.fin {E : List Edge} {k : Nat} (h : NoLoopTo E k) (hk : E.length ≤ k) : loopB E = false := propB_f fun ⟨x, hx, e⟩ => by
  obtain ⟨j, hj⟩ := List.mem_iff_getElem?.1 hx
  exact h j x (by have := (List.getElem?_eq_some_iff.1 hj).1; omega) hj e
def LpRel (E : List Edge) (w : World) (i : Value) (wr : World) : Prop := Below w.heap.size w wr ∧ ∃ k : Nat, k ≤ E.length ∧ i = .int .i64 k ∧ NoLoopTo E k
def LpIdx (E : List Edge) (w : World) (e : Ending) (w' : World) : Prop := ∃ i : Int, e = .returned (.int .i64 i) ∧ -1 ≤ i ∧ i ≤ E.length ∧ decide (0 ≤ i) = loopB E ∧ Below w.heap.size w w'
theorem edges_index (v : Value) (E : List Edge) (base : Nat) (w : World) (h : w.ownsRow base 124 4 v E.length (edCells E)) (hE : E.length ≤ 300) :
    Calls Tryz.prog 171 #[v, .func (.func 159) #[] #[]] w (LpIdx E w) := by
  obtain ⟨A0, c0, rfl⟩ : ∃ A0 c0, v = .slice A0 E.length c0 := by
    rcases h.2 with ⟨rfl, e0⟩ | ⟨g, cap, cur, rfl, -⟩
    · exact ⟨none, 0, by rw [e0]⟩
    · exact ⟨_, _, rfl⟩
  go_enter Tryz.func171, Tryz.ntmps171
  go_wp2_with fail
  go_loopw [8, 5] (fun i _ wr => LpRel E w i wr) (fun i _ _ => E.length - (intOf i).toNat)
  case atStart => exact ⟨Below.refl _ _, 0, Nat.zero_le _, rfl, fun _ _ h => absurd h (by omega)⟩
  case round =>
    obtain ⟨hb, k, hk, rfl, hup⟩ := hrel
    have HU := Lib.hid hup; clear hup
    have hz := hb.size
    by_cases hlt : k < E.length
    · obtain ⟨x, hx⟩ : ∃ x, E[k]? = some x := ⟨E[k], List.getElem?_eq_getElem hlt⟩
      obtain ⟨c0', c1', c2', c3'⟩ := edge_at hx
      have HX := Lib.hid hx; clear hx
      obtain ⟨g, rfl⟩ : ∃ g, A0 = some ⟨g, 0, none⟩ := by
        rcases h.2 with ⟨e, e0⟩ | ⟨g, cap, cur, e, -⟩
        · omega
        · cases e
          exact ⟨g, rfl⟩
      have hgl := (h.lt g rfl).2
      have hc : ∀ i u, i < E.length * 4 → (edCells E)[i]? = some u → wr.cell? ⟨g, i, none⟩ = some u := fun i u hi hu => (hb.cell (p := ⟨g, i, none⟩) hgl).trans ((h.cellAt i hi).trans hu)
      have k0 := hc _ _ (by omega) c0'
      have k1 := hc _ _ (by omega) c1'
      have k2 := hc _ _ (by omega) c2'
      have k3 := hc _ _ (by omega) c3'
      clear hc c0' c1' c2' c3'
      by_cases hq : x.1 = x.2.2.1
      · have kq : (x.1 == x.2.2.1) = true := by rw [beq_iff_eq]; exact hq
        have HQ := Lib.hid (show loopB E = true from propB_t ⟨x, List.mem_of_getElem? HX.out, hq⟩)
        clear hq
        go_wp2_with fail
        refine (closure_loop x wr).mono ?_
        rintro e w' ⟨rfl, hb'⟩
        rw [kq]
        go_wp2_with fail
        go_ret
        exact ⟨k, rfl, by omega, by omega, by rw [HQ.out]; simp, hb.trans (hb'.mono hz)⟩
      · have kq : (x.1 == x.2.2.1) = false := by rw [beq_eq_false_iff_ne]; exact hq
        have HQ := Lib.hid (HU.out.next HX.out hq)
        clear hq
        go_wp2_with fail
        refine (closure_loop x wr).mono ?_
        rintro e w' ⟨rfl, hb'⟩
        rw [kq]
        go_wp2_with fail
        go_roundw
        case rel => exact ⟨hb.trans (hb'.mono hz), k + 1, by omega, by go_num, HQ.out⟩
        case measure => simp [intOf]; omega
    · have HF := Lib.hid (HU.out.fin (by omega))
      go_wp2_with fail
      go_ret
      exact ⟨-1, rfl, by omega, by omega, by rw [HF.out]; rfl, hb⟩
theorem edges_contain (v : Value) (E : List Edge) (base : Nat) (w : World) (h : w.ownsRow base 124 4 v E.length (edCells E)) (hE : E.length ≤ 300) :
    Calls Tryz.prog 143 #[v, .func (.func 159) #[] #[]] w fun e w' => e = .returned (.bool (loopB E)) ∧ Below w.heap.size w w' := by
  have HH := Lib.hid h; clear h
  go_enter Tryz.func143, Tryz.ntmps143
  go_wp2_with fail
  refine (edges_index v E base w HH.out hE).mono ?_
  rintro e w' ⟨i, rfl, h1, h2, h3, hb⟩
  have H3 := Lib.hid h3; clear h3
  go_wp2_with fail
  go_ret
  exact ⟨ret_bool H3.out, hb⟩
theorem loop_plain {n : Net} {E : List Edge} (h : EdAll n E) (hp : netP n) : loopB E = !plainB n := by
  by_cases hq : plainP n
  · rw [show plainB n = true from propB_t hq]
    exact propB_f fun hl => (h.loop hp).1 hl hq
  · rw [show plainB n = false from propB_f hq]
    exact propB_t ((h.loop hp).2 hq)
theorem impl_hasStubsOrLoops (ve vi vn : Value) (n : Net) (w : World) (h : NetR w w.heap.size ve vi vn n) (hp : netP n) :
    Calls Tryz.prog 136 #[.agg #[ve, vi, vn]] w fun e w' => e = .returned (.bool (!plainB n)) ∧ Below w.heap.size w w' := by
  have HP := Lib.hid hp; clear hp
  obtain ⟨⟨A0, m0, c0, rfl⟩, ⟨A1, m1, c1, rfl⟩, A2, m2, c2, rfl⟩ := h.slices
  obtain ⟨w0, hw0, hB, HD, hz0, HS0⟩ := box3 w (.slice A0 m0 c0) (.slice A1 m1 c1) (.slice A2 m2 c2) 31
  have HN0 := Lib.hid h; have HN := Lib.hid (h.up hB); clear h
  have HW0 := Lib.hid hw0; clear hw0
  obtain ⟨q0, q1, q2, qf⟩ := cells3 HD
  go_enter Tryz.func136, Tryz.ntmps136
  go_wp2_with fail
  rw [← HW0.out]
  refine (impl_edges _ _ _ n w0 HN.out HP.out).mono ?_
  rintro e w1 ⟨u, E, rfl, hed, hlen, hown, hb1⟩
  have HED := Lib.hid (loop_plain hed HP.out); clear hed
  have HO := Lib.hid hown; clear hown
  have hzhb1 := hb1.size
  clear q0 q1 q2 qf
  replace HD := bk HD hb1
  replace HN := Lib.hid (HN.out.up hb1)
  replace hB := bl_trans hB hb1
  obtain ⟨q0, q1, q2, qf⟩ := cells3 HD
  go_wp2_with fail
  refine (edges_contain u E w0.heap.size w1 HO.out hlen).mono ?_
  rintro e w2 ⟨rfl, hb2⟩
  have hzhb2 := hb2.size
  clear q0 q1 q2 qf
  replace HD := bk HD hb2
  replace HN := Lib.hid (HN.out.up hb2)
  replace hB := bl_trans hB hb2
  obtain ⟨q0, q1, q2, qf⟩ := cells3 HD
  go_wp2_with fail
  go_ret
  exact ⟨ret_bool HED.out, hB⟩
end
section
open Go.RowKit
set_option linter.unusedVariables false
set_option linter.unusedSimpArgs false
noncomputable def rowB (l : Ends) : Bool := propB (rowOk l)
theorem closure_ring (v : Value) (l : Ends) (S : Nat → Prop) (w : World) (h : EndsR w S v l) :
    Calls Tryz.prog 163 #[v] w fun e w' => e = .returned (.bool (!rowB l)) ∧ w = w' := by
  have HR := Lib.hid h
  obtain ⟨A0, c0, rfl, hlc, hlm, -, h4⟩ := h
  unfold maxLen at hlm
  by_cases hl : l.length = 2
  · obtain ⟨b, o, rfl, -, -⟩ := h4 (by omega)
    obtain ⟨e, he⟩ : ∃ e, l[0]? = some e := ⟨_, List.getElem?_eq_getElem (by omega)⟩
    obtain ⟨-, p0, p1⟩ := HR.out.at_ he
    rw [show o + 0 * 2 = o by omega] at p0 p1
    have HE := Lib.hid he; clear he
    have hl2 : (l.length : Int) = 2 := by omega
    have hq : ((l.length : Int) != 2) = false := by rw [hl2]; rfl
    have HL := Lib.hid hl
    by_cases h1 : e.2 = 1
    · have hq1 : (e.2 != (1 : Int)) = false := by rw [h1]; rfl
      have HX := Lib.hid (show (!rowB l) = false by rw [show rowB l = true from propB_t ⟨hl, e, HE.out, h1⟩]; rfl)
      clear h1 hl2 hl
      have hlt : 0 < l.length := by have := HL.out; omega
      go_enter Tryz.func163, Tryz.ntmps163
      go_wp2_with fail
      go_ret
      exact ⟨ret_bool HX.out.symm, rfl⟩
    · have hq1 : (e.2 != (1 : Int)) = true := by rw [bne_iff_ne]; exact h1
      have HX := Lib.hid (show (!rowB l) = true by
        rw [show rowB l = false from propB_f fun hh => by
          obtain ⟨-, e', he', h1'⟩ := hh
          obtain rfl := Option.some.inj (HE.out.symm.trans he')
          exact h1 h1']
        rfl)
      clear h1 hl2 hl
      have hlt : 0 < l.length := by have := HL.out; omega
      go_enter Tryz.func163, Tryz.ntmps163
      go_wp2_with fail
      go_ret
      exact ⟨ret_bool HX.out.symm, rfl⟩
  · have hq : ((l.length : Int) != 2) = true := by rw [bne_iff_ne]; omega
    have HX := Lib.hid (show (!rowB l) = true by rw [show rowB l = false from propB_f fun hh => hl hh.1]; rfl)
    clear hl h4
    go_enter Tryz.func163, Tryz.ntmps163
    go_wp2_with fail
    go_ret
    exact ⟨ret_bool HX.out.symm, rfl⟩
noncomputable def rowsB (n : Net) : Bool := propB (∀ l ∈ n.es, rowOk l)
theorem RingTo.fin {n : Net} {k : Nat} (h : RingTo n k) (hk : n.es.length ≤ k) : rowsB n = true := propB_t fun l hl => by
  obtain ⟨j, hj⟩ := List.mem_iff_getElem?.1 hl
  exact h j l (by have := (List.getElem?_eq_some_iff.1 hj).1; omega) hj
def RxRel (n : Net) (w : World) (i : Value) (wr : World) : Prop := w = wr ∧ ∃ k : Nat, k ≤ n.es.length ∧ i = .int .i64 k ∧ RingTo n k
def RgIdx (n : Net) (w : World) (e : Ending) (w' : World) : Prop := ∃ i : Int, e = .returned (.int .i64 i) ∧ -1 ≤ i ∧ i ≤ n.es.length ∧ decide (0 ≤ i) = (!rowsB n) ∧ w = w'
theorem rows_index (v : Value) (n : Net) (S : Nat → Prop) (w : World) (h : EndssR w S v n.es) :
    Calls Tryz.prog 190 #[v, .func (.func 163) #[] #[]] w (RgIdx n w) := by
  obtain ⟨A0, m0, c0, rfl⟩ := h.isSlice
  obtain ⟨hm0, hcc, hmx⟩ := h.len_slice
  subst hm0
  unfold maxLen at hmx
  have HH := Lib.hid h; clear h
  go_enter Tryz.func190, Tryz.ntmps190
  go_wp2_with fail
  go_loopw [8, 5] (fun i _ wr => RxRel n w i wr) (fun i _ _ => n.es.length - (intOf i).toNat)
  case atStart => exact ⟨rfl, 0, Nat.zero_le _, rfl, fun _ _ h => absurd h (by omega)⟩
  case round =>
    obtain ⟨rfl, k, hk, rfl, hup⟩ := hrel
    have HU := Lib.hid hup; clear hup
    by_cases hlt : k < n.es.length
    · obtain ⟨l, hl⟩ : ∃ y, n.es[k]? = some y := ⟨n.es[k], List.getElem?_eq_getElem hlt⟩
      obtain ⟨ad, rfl⟩ := HH.out.some_ (by omega)
      obtain ⟨hbb, u, hu, hr⟩ := HH.out.at_ hl
      have HR := Lib.hid hr; clear hr
      have HL := Lib.hid hl; clear hl
      cases hq : rowB l with
      | true =>
        have HX := Lib.hid (HU.out.next HL.out (propB_iff.1 hq))
        go_wp2_with fail
        refine (closure_ring u l S w HR.out).mono ?_
        rintro e w' ⟨rfl, rfl⟩
        rw [hq]
        go_wp2_with fail
        go_roundw
        case rel => exact ⟨rfl, k + 1, by omega, by go_num, HX.out⟩
        case measure => simp [intOf]; omega
      | false =>
        have HX := Lib.hid (show (!rowsB n) = true by
          rw [show rowsB n = false from propB_f fun hh => by rw [show rowB l = true from propB_t (hh l (List.mem_of_getElem? HL.out))] at hq; cases hq]
          rfl)
        go_wp2_with fail
        refine (closure_ring u l S w HR.out).mono ?_
        rintro e w' ⟨rfl, rfl⟩
        rw [hq]
        go_wp2_with fail
        go_ret
        exact ⟨k, rfl, by omega, by omega, by rw [HX.out]; simp, rfl⟩
    · have HF := Lib.hid (HU.out.fin (by omega))
      go_wp2_with fail
      go_ret
      exact ⟨-1, rfl, by omega, by omega, by rw [HF.out]; rfl, rfl⟩
theorem rows_contain (v : Value) (n : Net) (S : Nat → Prop) (w : World) (h : EndssR w S v n.es) :
    Calls Tryz.prog 162 #[v, .func (.func 163) #[] #[]] w fun e w' => e = .returned (.bool (!rowsB n)) ∧ w = w' := by
  have HH := Lib.hid h; clear h
  go_enter Tryz.func162, Tryz.ntmps162
  go_wp2_with fail
  refine (rows_index v n S w HH.out).mono ?_
  rintro e w' ⟨i, rfl, h1, h2, h3, rfl⟩
  have H3 := Lib.hid h3; clear h3
  go_wp2_with fail
  go_ret
  exact ⟨ret_bool H3.out, rfl⟩
theorem ring_f {n : Net} (h : ¬ (2 ≤ n.es.length ∧ connP n ∧ onesN n.ins = 1)) : ringB n = false := propB_f fun hp => h ⟨hp.1, hp.2.1, hp.2.2.1⟩
theorem ring_all {n : Net} (h1 : 2 ≤ n.es.length) (h2 : connB n = true) (h3 : onesN n.ins = 1) : ringB n = rowsB n := propB_congr ⟨fun hp => hp.2.2.2, fun hp => ⟨h1, propB_iff.1 h2, h3, hp⟩⟩
theorem impl_isTokenRing (ve vi vn : Value) (n : Net) (w : World) (h : NetR w w.heap.size ve vi vn n) (hp : netP n) :
    Calls Tryz.prog 137 #[.agg #[ve, vi, vn]] w fun e w' => e = .returned (.bool (ringB n)) ∧ Below w.heap.size w w' := by
  have h40 := hp.1.2
  have HP := Lib.hid hp; clear hp
  obtain ⟨⟨A0, m0, c0, rfl⟩, ⟨A1, m1, c1, rfl⟩, A2, m2, c2, rfl⟩ := h.slices
  obtain ⟨w0, hw0, hB, HD, hz0, HS0⟩ := box3 w (.slice A0 m0 c0) (.slice A1 m1 c1) (.slice A2 m2 c2) 31
  have HN0 := Lib.hid h; have HN := Lib.hid (h.up hB); clear h
  have HW0 := Lib.hid hw0; clear hw0
  obtain ⟨q0, q1, q2, qf⟩ := cells3 HD
  obtain ⟨hm0, -, -⟩ := HN.out.e.len_slice
  subst hm0
  by_cases h2 : 2 ≤ n.es.length
  · have hq : ¬ ((n.es.length : Int) < 2) := by omega
    go_enter Tryz.func137, Tryz.ntmps137
    go_wp2_with fail
    rw [← HW0.out]
    refine (impl_isConnected _ _ _ n w0 HN.out HP.out).mono ?_
    rintro e w1 ⟨rfl, hb1⟩
    have hzhb1 := hb1.size
    clear q0 q1 q2 qf
    replace HD := bk HD hb1
    replace HN := Lib.hid (HN.out.up hb1)
    replace hB := bl_trans hB hb1
    obtain ⟨q0, q1, q2, qf⟩ := cells3 HD
    cases hc : connB n with
    | false =>
      have HF := Lib.hid (ring_f (n := n) fun hh => by rw [show connB n = true from propB_t hh.2.1] at hc; cases hc)
      go_wp2_with fail
      go_ret
      exact ⟨ret_bool HF.out.symm, hB⟩
    | true =>
      go_wp2_with fail
      refine (impl_ones _ n.ins w1 HN.out.n).mono ?_
      rintro e w2 ⟨rfl, rfl⟩
      by_cases h1 : onesN n.ins = 1
      · have hq1 : (((onesN n.ins : Nat) : Int) != (1 : Int)) = false := by rw [h1]; rfl
        have HF := Lib.hid (ring_all h2 hc h1)
        clear h1
        go_wp2_with fail
        refine (rows_contain _ n _ w1 HN.out.e).mono ?_
        rintro e w2 ⟨rfl, rfl⟩
        go_wp2_with fail
        go_ret
        exact ⟨ret_bool (by rw [HF.out]), hB⟩
      · have hq1 : (((onesN n.ins : Nat) : Int) != (1 : Int)) = true := by rw [bne_iff_ne]; omega
        have HF := Lib.hid (ring_f (n := n) fun hh => h1 hh.2.2)
        clear h1
        go_wp2_with fail
        go_ret
        exact ⟨ret_bool HF.out.symm, hB⟩
  · have HF := Lib.hid (ring_f (n := n) fun hh => h2 hh.1)
    have hq : (n.es.length : Int) < 2 := by omega
    clear h2
    go_enter Tryz.func137, Tryz.ntmps137
    go_wp2_with fail
    rw [← HW0.out]
    go_ret
    exact ⟨ret_bool HF.out.symm, hB⟩
end
section
open Go.RowKit
set_option linter.unusedVariables false
set_option linter.unusedSimpArgs false
theorem impl_isDaemon1 (ve vi vn : Value) (n : Net) (w : World) (h : NetR w w.heap.size ve vi vn n) :
    Calls Tryz.prog 90 #[.agg #[ve, vi, vn], .int .i64 1] w fun e w' => e = .returned (.bool true) ∧ Below w.heap.size w w' := by
  have hin : inB 1 1 3 = true := inB_t (by omega)
  obtain ⟨⟨A0, m0, c0, rfl⟩, ⟨A1, m1, c1, rfl⟩, A2, m2, c2, rfl⟩ := h.slices
  obtain ⟨w0, hw0, hB, HD, hz0, HS0⟩ := box3 w (.slice A0 m0 c0) (.slice A1 m1 c1) (.slice A2 m2 c2) 31
  have HN0 := Lib.hid h; have HN := Lib.hid (h.up hB); clear h
  have HW0 := Lib.hid hw0; clear hw0
  obtain ⟨q0, q1, q2, qf⟩ := cells3 HD
  go_enter Tryz.func90, Tryz.ntmps90
  go_wp2_with (go_at_call 65; refine (impl_within _ _ _ _).mono ?_; rintro e w' ⟨rfl, rfl⟩)
  rw [← HW0.out]
  go_ret
  exact ⟨rfl, hB⟩
theorem impl_ruleRuns (ve vi vn : Value) (n : Net) (r : Int) (w : World) (h : NetR w w.heap.size ve vi vn n) (hp : netP n) :
    Calls Tryz.prog 113 #[.agg #[ve, vi, vn], .int .i64 r] w fun e w' => e = .returned (.bool (runsB n r)) ∧ Below w.heap.size w w' := by
  have HP := Lib.hid hp; clear hp
  have HE := Lib.hid (runs_eq n r)
  obtain ⟨⟨A0, m0, c0, rfl⟩, ⟨A1, m1, c1, rfl⟩, A2, m2, c2, rfl⟩ := h.slices
  obtain ⟨w0, hw0, hB, HD, hz0, HS0⟩ := box3 w (.slice A0 m0 c0) (.slice A1 m1 c1) (.slice A2 m2 c2) 31
  have HN0 := Lib.hid h; have HN := Lib.hid (h.up hB); clear h
  have HW0 := Lib.hid hw0; clear hw0
  obtain ⟨q0, q1, q2, qf⟩ := cells3 HD
  go_enter Tryz.func113, Tryz.ntmps113
  go_wp2_with fail
  rw [← HW0.out]
  refine (impl_hasStubsOrLoops _ _ _ n w0 HN.out HP.out).mono ?_
  rintro e w1 ⟨rfl, hb1⟩
  have hzhb1 := hb1.size
  clear q0 q1 q2 qf
  replace HD := bk HD hb1
  replace HN := Lib.hid (HN.out.up hb1)
  replace hB := bl_trans hB hb1
  obtain ⟨q0, q1, q2, qf⟩ := cells3 HD
  cases h1 : plainB n with
  | false =>
    have HF := Lib.hid (show runsB n r = false by rw [HE.out, h1]; rfl)
    go_wp2_with fail
    go_ret
    exact ⟨ret_bool HF.out.symm, hB⟩
  | true =>
    by_cases h5 : r = 5
    · subst h5
      have HF := Lib.hid (show runsB n 5 = ringB n by rw [HE.out, h1]; simp)
      go_wp2_with fail
      refine (impl_isTokenRing _ _ _ n w1 HN.out HP.out).mono ?_
      rintro e w2 ⟨rfl, hb2⟩
      have hzhb2 := hb2.size
      clear q0 q1 q2 qf
      replace HD := bk HD hb2
      replace HN := Lib.hid (HN.out.up hb2)
      replace hB := bl_trans hB hb2
      obtain ⟨q0, q1, q2, qf⟩ := cells3 HD
      go_wp2_with fail
      go_ret
      exact ⟨ret_bool HF.out.symm, hB⟩
    · have HF := Lib.hid (show runsB n r = true by rw [HE.out, h1, decide_eq_true h5]; rfl)
      have hq : (r != 5) = true := by rw [bne_iff_ne]; exact h5
      clear h5
      go_wp2_with fail
      go_ret
      exact ⟨ret_bool HF.out.symm, hB⟩
theorem impl_ruleOk (ve vi vn : Value) (n : Net) (r : Int) (w : World) (h : NetR w w.heap.size ve vi vn n) (hz : n.es.length ≤ 2000000) (hzi : n.ids.length ≤ 2000000) :
    Calls Tryz.prog 89 #[.agg #[ve, vi, vn], .int .i64 r] w fun e w' => e = .returned (.bool (askB n r)) ∧ Below w.heap.size w w' := by
  have HE := Lib.hid (ask_eq n r)
  obtain ⟨⟨A0, m0, c0, rfl⟩, ⟨A1, m1, c1, rfl⟩, A2, m2, c2, rfl⟩ := h.slices
  obtain ⟨w0, hw0, hB, HD, hz0, HS0⟩ := box3 w (.slice A0 m0 c0) (.slice A1 m1 c1) (.slice A2 m2 c2) 31
  have HN0 := Lib.hid h; have HN := Lib.hid (h.up hB); clear h
  have HW0 := Lib.hid hw0; clear hw0
  obtain ⟨q0, q1, q2, qf⟩ := cells3 HD
  go_enter Tryz.func89, Tryz.ntmps89
  go_wp2_with fail
  rw [← HW0.out]
  refine (impl_IsNetwork _ _ _ n w0 HN.out hz hzi).mono ?_
  rintro e w1 ⟨rfl, hb1⟩
  have hzhb1 := hb1.size
  clear q0 q1 q2 qf
  replace HD := bk HD hb1
  replace HN := Lib.hid (HN.out.up hb1)
  replace hB := bl_trans hB hb1
  obtain ⟨q0, q1, q2, qf⟩ := cells3 HD
  cases h1 : netB n with
  | false =>
    have HF := Lib.hid (show askB n r = false by rw [HE.out, h1]; rfl)
    go_wp2_with fail
    go_ret
    exact ⟨ret_bool HF.out.symm, hB⟩
  | true =>
    have HP := Lib.hid (show netP n from propB_iff.1 h1)
    go_wp2_with fail
    refine (impl_isRule r w1).mono ?_
    rintro e w2 ⟨rfl, rfl⟩
    cases h2 : inB r 1 5 with
    | false =>
      have HF := Lib.hid (show askB n r = false by rw [HE.out, h1, h2]; rfl)
      go_wp2_with fail
      go_ret
      exact ⟨ret_bool HF.out.symm, hB⟩
    | true =>
      have HF := Lib.hid (show askB n r = runsB n r by rw [HE.out, h1, h2]; rfl)
      go_wp2_with fail
      refine (impl_ruleRuns _ _ _ n r w1 HN.out HP.out).mono ?_
      rintro e w2 ⟨rfl, hb2⟩
      have hzhb2 := hb2.size
      clear q0 q1 q2 qf
      replace HD := bk HD hb2
      replace HN := Lib.hid (HN.out.up hb2)
      replace hB := bl_trans hB hb2
      obtain ⟨q0, q1, q2, qf⟩ := cells3 HD
      go_wp2_with fail
      go_ret
      exact ⟨ret_bool HF.out.symm, hB⟩
end
section
open Go.RowKit
set_option linter.unusedVariables false
set_option linter.unusedSimpArgs false
theorem most_max (l : List Int) (a : Int) : l.foldl (fun a x => if a > x then a else x) a = l.foldl max a := by
  have e : (fun a x : Int => if a > x then a else x) = max := by
    funext a x
    by_cases h : a > x
    · rw [if_pos h]; omega
    · rw [if_neg h]; omega
  rw [e]
theorem maxOf_most {l : List Int} (h0 : 0 < l.length) (h : ∀ x ∈ l, 0 ≤ x) : Lib.maxOf l = most l := by
  cases l with
  | nil => simp at h0
  | cons y r =>
    unfold Lib.maxOf most
    rw [most_max]
    simp only [List.headD_cons, List.foldl_cons]
    have := h y (by simp)
    rw [show max y y = y by omega, show max 0 y = y by omega]
theorem impl_Max (v : Value) (xs : List Int) (w : World) (h : IntsR w w.heap.size v xs) (h0 : 0 < xs.length) (hn : ∀ x ∈ xs, 0 ≤ x) :
    Calls Tryz.prog 44 #[v] w fun e w' => e = .returned (.int .i64 (most xs)) ∧ w = w' := by
  obtain ⟨A, c, rfl, h1, h2, h3⟩ := h.open_
  unfold maxLen at h2
  obtain ⟨ad, rfl, hb, hc⟩ := h3 h0
  obtain ⟨b, off, rfl, hcc⟩ := ints_cells h0 hc
  refine (Tryz.slices_Max_int b off xs.length c xs w h0 (Nat.le_refl _) (by omega) hcc).mono ?_
  rintro e w' ⟨rfl, rfl⟩
  rw [List.take_length, maxOf_most h0 hn]
  exact ⟨rfl, rfl⟩
theorem rep_ints {w : World} {g k : Nat} {x : Int} (h : NumsAt w g (List.replicate k x)) (hk : k ≤ 1000) (hx : I64 x) : IntsR w w.heap.size (.slice (some ⟨g, 0, none⟩) k k) (List.replicate k x) := by
  have := ints_row (B := w.heap.size) h (by unfold maxLen; simp; omega) (fun y hy => by rw [List.eq_of_mem_replicate hy]; exact hx) h.lt
  simpa using this
theorem impl_Repeat1 (x : Int) (k g : Nat) (w : World) (hg : w.heap.size = g) (hk : 1 ≤ k) (hk2 : k ≤ 1000) (hx : I64 x) :
    Calls Tryz.prog 71 #[.slice (some ⟨g, 0, none⟩) 1 1, .int .i64 (k : Int)] (w.alloc (.cells #[.int .i64 x] 3)) fun e w' => e = .returned (.slice (some ⟨g + 1, 0, none⟩) k k) ∧ IntsR w' w'.heap.size (.slice (some ⟨g + 1, 0, none⟩) k k) (List.replicate k x) ∧ Below w.heap.size w w' := by
  subst hg
  have hsz : (w.alloc (.cells #[.int .i64 x] 3)).heap.size = w.heap.size + 1 := by simp
  refine (impl_Repeat x k w.heap.size _ (heap_alloc_new w _) hk (by omega)).mono ?_
  rintro e w3 ⟨rfl, hnum, hb⟩
  have hI := rep_ints hnum hk2 hx
  have hB := (bl_alloc (Below.refl w.heap.size w) (.cells #[.int .i64 x] 3)).trans (hb.mono (by rw [show (w.alloc (.cells (List.map intV [x]).toArray 3)).heap.size = w.heap.size + 1 from hsz]; omega))
  rw [show (w.alloc (.cells (List.map intV [x]).toArray 3)).heap.size = w.heap.size + 1 from hsz] at hI ⊢
  exact ⟨rfl, hI, hB⟩
def CntPost (n : Net) (r : Int) (w : World) (e : Ending) (w' : World) : Prop := ∃ u, e = .returned u ∧ (∃ A m c, u = .slice A m c) ∧ IntsR w' w'.heap.size u (cnts n r) ∧ Below w.heap.size w w'
theorem cnts2 (n : Net) : cnts n 2 = List.replicate n.es.length (most (degs n) + 1) := if_pos rfl
theorem cnts3 (n : Net) : cnts n 3 = List.replicate n.es.length 2 := rfl
theorem cnts4 (n : Net) : cnts n 4 = (degs n).map (· + 1) := rfl
theorem cnts_else {n : Net} {r : Int} (h2 : r ≠ 2) (h3 : r ≠ 3) (h4 : r ≠ 4) : cnts n r = List.replicate n.es.length ((n.es.length : Int) + 1) := by
  unfold cnts
  rw [if_neg h2, if_neg h3, if_neg h4]
set_option maxRecDepth 100000 in
theorem impl_stateCounts (ve vi vn : Value) (n : Net) (r : Int) (w : World) (h : NetR w w.heap.size ve vi vn n) (hp : netP n) :
    Calls Tryz.prog 91 #[.agg #[ve, vi, vn], .int .i64 r] w (CntPost n r w) := by
  have h40 := hp.1
  have hdg := degs_bd hp
  have hdl : (degs n).length = n.es.length := by unfold degs; simp
  have HP := Lib.hid hp; clear hp
  obtain ⟨⟨A0, m0, c0, rfl⟩, ⟨A1, m1, c1, rfl⟩, A2, m2, c2, rfl⟩ := h.slices
  obtain ⟨w0, hw0, hB, HD, hz0, HS0⟩ := box3 w (.slice A0 m0 c0) (.slice A1 m1 c1) (.slice A2 m2 c2) 31
  have HN0 := Lib.hid h; have HN := Lib.hid (h.up hB); clear h
  have HW0 := Lib.hid hw0; clear hw0
  obtain ⟨q0, q1, q2, qf⟩ := cells3 HD
  obtain ⟨hm0, -, -⟩ := HN.out.e.len_slice
  subst hm0
  by_cases h2 : r = 2
  · subst h2
    have hm1 := most_nn (degs n)
    have hm2 := most_le (l := degs n) (b := 6) (by omega) fun x hx => (hdg x hx).2
    have hwr : IntKind.i64.wrap (most (degs n) + 1) = most (degs n) + 1 := IntWalk.i64_in _ (by omega)
    have HDG := Lib.hid hdg; clear hdg
    have HDL := Lib.hid hdl; clear hdl
    go_enter Tryz.func91, Tryz.ntmps91
    go_wp2_with fail
    rw [← HW0.out]
    refine (impl_degrees _ _ _ n w0 HN.out HP.out).mono ?_
    rintro e w1 ⟨u, rfl, ⟨A', m', c', rfl⟩, hu, hb1⟩
    have HU := Lib.hid hu; clear hu
    have hzhb1 := hb1.size
    clear q0 q1 q2 qf
    replace HD := bk HD hb1
    replace HN := Lib.hid (HN.out.up hb1)
    replace hB := bl_trans hB hb1
    obtain ⟨q0, q1, q2, qf⟩ := cells3 HD
    go_wp2_with fail
    refine (impl_Max _ (degs n) w1 HU.out (by rw [HDL.out]; omega) fun x hx => (HDG.out x hx).1).mono ?_
    rintro e w2 ⟨rfl, rfl⟩
    have HR := Lib.hid (cnts2 n)
    generalize most (degs n) = M at *
    go_wp2_with fail
    refine (impl_Repeat1 (M + 1) n.es.length w1.heap.size w1 rfl (by omega) (by omega) (by unfold I64; omega)).mono ?_
    rintro e w3 ⟨rfl, hI, hb3⟩
    have HI := Lib.hid hI; clear hI
    have HB := Lib.hid (bl_trans hB hb3); clear hb3
    go_wp2_with fail
    go_ret
    exact ⟨_, rfl, ⟨_, _, _, rfl⟩, by rw [HR.out]; exact HI.out, HB.out⟩
  · have q2 : (r == 2) = false := by rw [beq_eq_false_iff_ne]; exact h2
    by_cases h3 : r = 3
    · subst h3
      have HR := Lib.hid (cnts3 n)
      clear hdg hdl h2 q2
      go_enter Tryz.func91, Tryz.ntmps91
      go_wp2_with fail
      rw [← HW0.out]
      refine (impl_Repeat1 (2) n.es.length (w.heap.size + 1) w0 HS0.out (by omega) (by omega) (by unfold I64; omega)).mono ?_
      rintro e w3 ⟨rfl, hI, hb3⟩
      have HI := Lib.hid hI; clear hI
      have HB := Lib.hid (bl_trans hB hb3); clear hb3
      go_wp2_with fail
      go_ret
      exact ⟨_, rfl, ⟨_, _, _, rfl⟩, by rw [HR.out]; exact HI.out, HB.out⟩
    · have q3 : (r == 3) = false := by rw [beq_eq_false_iff_ne]; exact h3
      by_cases h4 : r = 4
      · subst h4
        have HDG := Lib.hid hdg; clear hdg
        have HDL := Lib.hid hdl; clear hdl
        have HR := Lib.hid (cnts4 n)
        have HCL := Lib.hid (cnts_len n 4)
        clear h2 h3 q2 q3
        go_enter Tryz.func91, Tryz.ntmps91
        go_wp2_with fail
        rw [← HW0.out]
        refine (impl_degrees _ _ _ n w0 HN.out HP.out).mono ?_
        rintro e w1 ⟨u, rfl, ⟨A', m', c', rfl⟩, hu, hb1⟩
        obtain ⟨hm', -, hcm, hc⟩ := hu.some_
        rw [HDL.out] at hm'
        subst hm'
        have HU := Lib.hid hu; clear hu hcm hc
        have hzhb1 := hb1.size
        clear q0 q1 q2 qf
        replace HD := bk HD hb1
        replace HN := Lib.hid (HN.out.up hb1)
        replace hB := bl_trans hB hb1
        obtain ⟨q0, q1, q2, qf⟩ := cells3 HD
        go_wp2_with fail
        go_loopw [6, 8, 32] (fun v _ i wr => IntsRel (cnts n 4) w1 v i wr) (fun _ _ i _ => n.es.length - (intOf i).toNat)
        case atStart => exact ⟨0, Nat.zero_le _, rfl, World.ownsRow_nil _ _ _ _, Below.refl _ _⟩
        case round =>
          obtain ⟨k, hk, rfl, hown, hbl⟩ := hrel
          rw [HCL.out] at hk
          have HUR := Lib.hid (HU.out.below hbl)
          by_cases hlt : k < n.es.length
          · obtain ⟨d, hd⟩ : ∃ y, (degs n)[k]? = some y := ⟨_, List.getElem?_eq_getElem (by rw [HDL.out]; exact hlt)⟩
            obtain ⟨-, -, hcm, hc⟩ := HUR.out.some_
            obtain ⟨ad, rfl, -, hcell⟩ := hc (by rw [HDL.out]; omega)
            have hcx := hcell k d hd
            have hdb := HDG.out d (List.mem_of_getElem? hd)
            have hwr : IntKind.i64.wrap (d + 1) = d + 1 := IntWalk.i64_in _ (by omega)
            have HS := Lib.hid (ints_snoc (xs := cnts n 4) (k := k) (x := d + 1) (by rw [HR.out, List.getElem?_map, hd]; rfl)); clear hd hcell hc hcm
            go_wp2_with ((at_builtin; refine wpList_append1 wr rfl (.tmp 36) (.tmp 39) 23 rfl w1.heap.size 3 _ 8 Tryz.underlying23 intInfo rfl _ _ _ rfl _ rfl rfl hown (by unfold maxLen; omega) (by omega) hbl.size ?_; intro v' w' hown' hbl' hgr' hlt' hob'))
            go_roundw
            case rel => exact ⟨k + 1, by rw [HCL.out]; omega, by go_num, by rw [HS.out]; exact hown', hbl.trans hbl'⟩
            case measure => simp [intOf]; omega
          · have hI := IntsRel.fin hown (by rw [HCL.out]; omega) (cnts_I64 HP.out 4)
            have HO := Lib.hid hI; clear hI hown
            go_wp2_with fail
            go_ret
            exact ⟨_, rfl, HO.out.isSlice, HO.out, bl_trans hB hbl⟩
      · have q4 : (r == 4) = false := by rw [beq_eq_false_iff_ne]; exact h4
        have hwr : IntKind.i64.wrap ((n.es.length : Int) + 1) = (n.es.length : Int) + 1 := IntWalk.i64_in _ (by omega)
        have HR := Lib.hid (cnts_else (n := n) h2 h3 h4)
        clear hdg hdl h2 h3 h4
        go_enter Tryz.func91, Tryz.ntmps91
        go_wp2_with fail
        rw [← HW0.out]
        refine (impl_Repeat1 ((n.es.length : Int) + 1) n.es.length (w.heap.size + 1) w0 HS0.out (by omega) (by omega) (by unfold I64; omega)).mono ?_
        rintro e w3 ⟨rfl, hI, hb3⟩
        have HI := Lib.hid hI; clear hI
        have HB := Lib.hid (bl_trans hB hb3); clear hb3
        go_wp2_with fail
        go_ret
        exact ⟨_, rfl, ⟨_, _, _, rfl⟩, by rw [HR.out]; exact HI.out, HB.out⟩
end
section
open Go.RowKit
set_option linter.unusedVariables false
set_option linter.unusedSimpArgs false
/-- What newExplorer hands back: nothing where the rule does not run; else an explorer in a block of its own. -/
def ExAt (w w' : World) (ve vi vn : Value) (n : Net) (r : Int) (G : Nat) : Prop := ∃ A m c a b, w'.heap[G]? = some (.cells #[ve, vi, vn, .int .i64 r, .int .i64 1, .slice A m c, .int .i64 (sitG (cnts n r) 1), a, b] 78 (0, 0)) ∧ w.heap.size ≤ G ∧ IntsR w' w'.heap.size (.slice A m c) (cnts n r)
def ExPost (ve vi vn : Value) (n : Net) (r : Int) (w : World) (e : Ending) (w' : World) : Prop :=
  Below w.heap.size w w' ∧ ((askB n r = false ∧ e = .returned (.tuple #[.pointer none, .bool false])) ∨
    (askB n r = true ∧ ∃ G, e = .returned (.tuple #[.pointer (some ⟨G, 0, none⟩), .bool (decide (0 < sitG (cnts n r) 1))]) ∧ ExAt w w' ve vi vn n r G))
set_option maxRecDepth 100000 in
theorem impl_newExplorer (ve vi vn : Value) (n : Net) (r : Int) (w : World) (h : NetR w w.heap.size ve vi vn n) (hz : n.es.length ≤ 2000000) (hzi : n.ids.length ≤ 2000000) :
    Calls Tryz.prog 60 #[.agg #[ve, vi, vn], .int .i64 r, .int .i64 1] w (ExPost ve vi vn n r w) := by
  obtain ⟨⟨A0, m0, c0, rfl⟩, ⟨A1, m1, c1, rfl⟩, A2, m2, c2, rfl⟩ := h.slices
  obtain ⟨w0, hw0, hB, HD, hz0, HS0⟩ := box3 w (.slice A0 m0 c0) (.slice A1 m1 c1) (.slice A2 m2 c2) 31
  have HN0 := Lib.hid h; have HN := Lib.hid (h.up hB); clear h
  have HW0 := Lib.hid hw0; clear hw0
  obtain ⟨q0, q1, q2, qf⟩ := cells3 HD
  go_enter Tryz.func60, Tryz.ntmps60
  go_wp2_with fail
  rw [← HW0.out]
  refine (impl_ruleOk _ _ _ n r w0 HN.out hz hzi).mono ?_
  rintro e w1 ⟨rfl, hb1⟩
  have hzhb1 := hb1.size
  clear q0 q1 q2 qf
  replace HD := bk HD hb1
  replace HN := Lib.hid (HN.out.up hb1)
  replace hB := bl_trans hB hb1
  obtain ⟨q0, q1, q2, qf⟩ := cells3 HD
  cases h1 : askB n r with
  | false =>
    go_wp2_with fail
    go_ret2
    exact ⟨hB, .inl ⟨h1, rfl⟩⟩
  | true =>
    have HP := Lib.hid (askB_net h1)
    have HC := Lib.hid (cnts_bd HP.out r)
    go_wp2_with fail
    refine (impl_isDaemon1 _ _ _ n w1 HN.out).mono ?_
    rintro e w2 ⟨rfl, hb2⟩
    have hzhb2 := hb2.size
    clear q0 q1 q2 qf
    replace HD := bk HD hb2
    replace HN := Lib.hid (HN.out.up hb2)
    replace hB := bl_trans hB hb2
    obtain ⟨q0, q1, q2, qf⟩ := cells3 HD
    go_wp2_with fail
    refine wp_region_held_drew (S := fun w' => w'.cell? ⟨w.heap.size, 0, none⟩ = some (.slice A0 m0 c0) ∧ w'.cell? ⟨w.heap.size, 1, none⟩ = some (.slice A1 m1 c1) ∧ w'.cell? ⟨w.heap.size, 2, none⟩ = some (.slice A2 m2 c2)) (by kernel_rfl) ?_ (fun hHeld => ?_)
    · go_keep
    refine tk 0 19 rfl rfl ?_
    try simp only [Act.put, pu]
    refine tk 1 20 rfl rfl ?_
    try simp only [Act.put, pu]
    refine tk 2 21 rfl rfl ?_
    try simp only [Act.put, pu]
    refine tk 3 22 rfl rfl ?_
    try simp only [Act.put, pu]
    refine tk 4 23 rfl rfl ?_
    try simp only [Act.put, pu]
    refine tr 5 rfl (by kernel_rfl) (fun K hK => ?_)
    go_simp
    go_at_call 91
    refine (impl_stateCounts _ _ _ n r w2.drew (HN.out.up (Below.refl _ _).drew) HP.out).mono ?_
    rintro e w3 ⟨u, rfl, ⟨A', m', c', rfl⟩, hu, hb3'⟩
    have hb3 : Below w2.heap.size w2 w3 := (Below.refl _ _).drew.trans hb3'
    clear hb3'
    have HU := Lib.hid hu; clear hu
    have hzhb3 := hb3.size
    clear q0 q1 q2 qf
    replace HD := bk HD hb3
    replace HN := Lib.hid (HN.out.up hb3)
    replace hB := bl_trans hB hb3
    obtain ⟨q0, q1, q2, qf⟩ := cells3 HD
    refine hK.out _ _ ?_ (fun hHeld => ?_)
    · go_keep
    clear hK K
    try simp only [Act.put, pu]
    refine tk 6 25 rfl rfl ?_
    try simp only [Act.put, pu]
    refine tr 7 rfl (by kernel_rfl) (fun K hK => ?_)
    go_simp
    obtain ⟨w4, hw4⟩ : ∃ z, z = w3.alloc (.cells #[.slice A0 m0 c0, .slice A1 m1 c1, .slice A2 m2 c2, .int .i64 r, .int .i64 1, .slice A' m' c', .int .i64 0, .slice none 0 0, .slice none 0 0] 78) := ⟨_, rfl⟩
    rw [← hw4]
    have hE : w4.heap[w3.heap.size]? = some (.cells #[.slice A0 m0 c0, .slice A1 m1 c1, .slice A2 m2 c2, .int .i64 r, .int .i64 1, .slice A' m' c', .int .i64 0, .slice none 0 0, .slice none 0 0] 78 (0, 0)) := by rw [hw4]; exact heap_alloc_new w3 _
    have hb4 : Below w3.heap.size w3 w4 := by rw [hw4]; exact bl_alloc (Below.refl _ _) _
    have hz34 : w3.heap.size < w4.heap.size := by rw [hw4]; simp
    have hGl : w.heap.size ≤ w3.heap.size := by omega
    clear hw4
    have HU4 := Lib.hid (IntsR.more (HU.out.below hb4) hb4.size)
    have hzhb4 := hb4.size
    clear q0 q1 q2 qf
    replace HD := bk HD hb4
    replace HN := Lib.hid (HN.out.up hb4)
    replace hB := bl_trans hB hb4
    obtain ⟨q0, q1, q2, qf⟩ := cells3 HD
    have g5 : w4.cell? ⟨w3.heap.size, 5, none⟩ = some (.slice A' m' c') := cell_of_row _ _ 5 _ _ (0, 0) hE
    have g6 : w4.cell? ⟨w3.heap.size, 6, none⟩ = some (.int .i64 0) := cell_of_row _ _ 6 _ _ (0, 0) hE
    have gf : ∀ i, w4.frozen? ⟨w3.heap.size, i, none⟩ = false := fun i => frozen_of_row _ _ i _ _ hE
    have HE := Lib.hid hE; clear hE
    refine hK.out _ _ ?_ (fun hHeld => ?_)
    · go_keep
    clear hK K
    try simp only [Act.put, pu]
    refine tk 8 8 rfl rfl ?_
    try simp only [Act.put, pu]
    refine wpAnyH_done (by kernel_rfl) ?_ _
    go_wp2_with fail
    refine (impl_situationCount _ (cnts n r) w4 HU4.out HC.out).mono ?_
    rintro e w5 ⟨rfl, rfl⟩
    obtain ⟨T, hT⟩ : ∃ z, z = sitG (cnts n r) 1 := ⟨_, rfl⟩
    rw [← hT]
    have HT := Lib.hid hT; clear hT
    obtain ⟨w5, hw5⟩ : ∃ z, z = w4.setCell ⟨w3.heap.size, 6, none⟩ (.int .i64 T) := ⟨_, rfl⟩
    obtain ⟨hB5, hk5, HE5, hz5, hz5'⟩ := setB hB hGl HE.out hw5
    have hb35 : Below w3.heap.size w3 w5 := by rw [hw5]; exact hb4.setCell (Nat.le_refl _) _
    have HU5 := Lib.hid (IntsR.more (HU.out.below hb35) hb35.size); clear HU hb35
    have HW5 := Lib.hid hw5; clear hw5
    have g6' : w5.cell? ⟨w3.heap.size, 6, none⟩ = some (.int .i64 T) := cell_of_row _ _ 6 _ _ (0, 0) HE5.out
    go_wp2_with fail
    rw [← HW5.out]
    clear g5 g6 gf q0 q1 q2 qf
    refine wp_region_held_drew (S := fun w' => w'.cell? ⟨w3.heap.size, 6, none⟩ = some (.int .i64 T)) (by kernel_rfl) ?_ (fun hHeld => ?_)
    · exact g6'
    refine tk 0 35 rfl rfl ?_
    try simp only [Act.put, pu]
    refine tk 1 36 rfl rfl ?_
    try simp only [Act.put, pu]
    refine tk 2 37 rfl rfl ?_
    try simp only [Act.put, pu]
    refine tk 3 38 rfl rfl ?_
    try simp only [Act.put, pu]
    refine tk 4 39 rfl rfl ?_
    try simp only [Act.put, pu]
    refine tk 5 40 rfl rfl ?_
    try simp only [Act.put, pu]
    refine tk 6 6 rfl rfl ?_
    try simp only [Act.put, pu]
    refine tk 7 7 rfl rfl ?_
    try simp only [Act.put, pu]
    refine wpAnyH_done (by kernel_rfl) ?_ _
    go_wp2_with fail
    go_ret2
    refine ⟨hB5.drew, .inr ⟨h1, w3.heap.size, by rw [← HT.out]; rfl, A', m', c', _, _, by rw [← HT.out]; exact HE5.out, hGl, HU5.out⟩⟩
theorem sit_eq {n : Net} {r : Int} (h : askB n r = true) : sitG (cnts n r) 1 = if capd (cnts n r) ≤ 3000 then capd (cnts n r) else 0 :=
  sit_cap (fun x hx => (cnts_bd (askB_net h) r x hx).1) (by omega) (by omega)
theorem cv_pos {n : Net} {r : Int} (h : askB n r = true) : cvB n r = decide (0 < sitG (cnts n r) 1) := by
  have hb := capd_bd fun x hx => (cnts_bd (askB_net h) r x hx).1
  rw [sit_eq h]
  unfold cvB
  rw [h]
  by_cases hc : capd (cnts n r) ≤ 3000
  · rw [if_pos hc, decide_eq_true hc, decide_eq_true (by omega)]
    rfl
  · rw [if_neg hc, decide_eq_false hc]
    rfl
theorem cv_no {n : Net} {r : Int} (h : askB n r = false) : cvB n r = false := by
  unfold cvB
  rw [h]
  rfl
theorem ct_sit {n : Net} {r : Int} (h : cvB n r = true) : ctN n r = sitG (cnts n r) 1 := by
  rw [ctN_t h]
  have ha : askB n r = true := by
    unfold cvB at h
    exact (Bool.and_eq_true_iff.1 h).1
  have hc : capd (cnts n r) ≤ 3000 := by
    unfold cvB at h
    exact of_decide_eq_true (Bool.and_eq_true_iff.1 h).2
  rw [sit_eq ha, if_pos hc]
end
section
open Go.RowKit
set_option linter.unusedVariables false
set_option linter.unusedSimpArgs false
theorem impl_states (G : Nat) (A0 : Option Addr) (m0 c0 : Nat) (cs : List Int) (x : Int) (w : World) (hg : w.cell? ⟨G, 5, none⟩ = some (.slice A0 m0 c0)) (h : IntsR w w.heap.size (.slice A0 m0 c0) cs) (hf : Few cs) (hx0 : 0 ≤ x) (hx1 : x ≤ 3000) :
    Calls Tryz.prog 116 #[.pointer (some ⟨G, 0, none⟩), .int .i64 x] w fun e w' => ∃ u, e = .returned u ∧ (∃ A m c, u = .slice A m c) ∧ IntsR w' w'.heap.size u (stsS cs x) ∧ w'.ownsRow w.heap.size 3 1 u (stsS cs x).length ((stsS cs x).map intV) ∧ Below w.heap.size w w' := by
  obtain ⟨hm, h1, h2, h3⟩ := h.some_
  subst hm
  unfold maxLen at h2
  have h40 := hf.2.2
  have HF := Lib.hid hf
  clear h hf
  have HLS := Lib.hid (stsS_len cs x)
  go_enter Tryz.func116, Tryz.ntmps116
  go_wp2_with fail
  clear hg
  go_loopw [5, 7, 1, 13] (fun v _ xv i wr => StsRel cs x w v xv i wr) (fun _ _ _ i _ => cs.length - (intOf i).toNat)
  case atStart => exact ⟨0, x, Nat.zero_le _, rfl, rfl, .start cs hx0, World.ownsRow_nil _ _ _ _, Below.refl _ _⟩
  case round =>
    obtain ⟨k, y, hk, rfl, rfl, hst, hown, hbl⟩ := hrel
    by_cases hlt : k < cs.length
    · obtain ⟨a, ha⟩ : ∃ a, cs[k]? = some a := ⟨_, List.getElem?_eq_getElem hlt⟩
      obtain ⟨ad, rfl, hb, hc⟩ := h3 (by omega)
      have hcell := (hbl.cell (p := ad.add k) (by rw [block_add]; exact hb)).trans (hc k a ha)
      have hab := HF.out.1 a (List.mem_of_getElem? ha)
      obtain ⟨hn1, hn2⟩ := hst.next ha hab.1
      have HN := Lib.hid hn1
      have HS := Lib.hid (ints_snoc hn2)
      have hy : 0 ≤ y ∧ y ≤ 3000 := by have := hst.2; omega
      have hm : 0 ≤ y.tmod a ∧ y.tmod a < 41 := ⟨Int.tmod_nonneg _ hy.1, by have := Int.tmod_lt_of_pos y (show 0 < a by omega); omega⟩
      have hd : 0 ≤ y.tdiv a ∧ y.tdiv a ≤ 3000 := ⟨Int.tdiv_nonneg hy.1 (by omega), by have := Int.tdiv_le_self a hy.1; omega⟩
      have hnz : (a == 0) = false := by rw [beq_eq_false_iff_ne]; omega
      have hwd : IntKind.i64.wrap (y.tdiv a) = y.tdiv a := IntWalk.i64_in _ (by omega)
      have hwm : IntKind.i64.wrap (y.tmod a) = y.tmod a := IntWalk.i64_in _ (by omega)
      clear h3 hc ha hst hn1 hn2
      generalize hqm : y.tmod a = qm at *
      generalize hqd : y.tdiv a = qd at *
      go_wp2_with ((at_builtin; refine wpList_append1 wr rfl (.tmp 17) (.tmp 21) 23 rfl w.heap.size 3 _ 8 Tryz.underlying23 intInfo rfl _ _ _ rfl _ rfl rfl hown (by unfold maxLen; omega) (by omega) hbl.size ?_; intro v' w' hown' hbl' hgr' hlt' hob'))
      go_roundw
      case rel => exact ⟨k + 1, qd, by omega, by go_num, rfl, HN.out, by rw [HS.out]; exact hown', hbl.trans hbl'⟩
      case measure => simp [intOf]; omega
    · have hI := IntsRel.fin hown (by rw [HLS.out]; omega) (fun z hz => by
        obtain ⟨j, hj⟩ := List.mem_iff_getElem?.1 hz
        have hjl : j < cs.length := by rw [← HLS.out]; exact (List.getElem?_eq_some_iff.1 hj).1
        have := (stsS_ok (x := x) (fun k hk => (HF.out.1 k hk).1) hx0).2 j _ z (List.getElem?_eq_getElem hjl) hj
        have := HF.out.1 _ (List.getElem_mem hjl)
        unfold I64
        omega)
      have HO := Lib.hid hI; clear hI
      obtain rfl : k = cs.length := by omega
      rw [List.take_of_length_le (by rw [HLS.out]; exact Nat.le_refl _)] at hown
      have HW := Lib.hid hown; clear hown
      go_wp2_with fail
      go_ret
      exact ⟨_, rfl, HO.out.isSlice, HO.out, by rw [HLS.out]; exact HW.out, hbl⟩
theorem so_cv {n : Net} {r x : Int} (h : cvB n r = true) : soB n r x = inB x 0 (sitG (cnts n r) 1 - 1) := by
  have ha : askB n r = true := by
    unfold cvB at h
    exact (Bool.and_eq_true_iff.1 h).1
  unfold soB
  rw [h, ← ct_sit h, ctN_t h]
  rfl
def SnPost (n : Net) (r x : Int) (w : World) (e : Ending) (w' : World) : Prop :=
  ∃ u, e = .returned (.tuple #[u, .bool (soB n r x)]) ∧ (∃ A m c, u = .slice A m c) ∧ IntsR w' w'.heap.size u (soL n r x) ∧ w'.ownsRow w.heap.size 3 1 u (soL n r x).length ((soL n r x).map intV) ∧ Below w.heap.size w w'
end
end Go.Proofs.YthfgklckmedggaaGreat
