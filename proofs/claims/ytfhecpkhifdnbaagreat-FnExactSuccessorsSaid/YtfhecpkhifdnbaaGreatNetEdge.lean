/-
  Networks, the program's side: the edges, each once; stubs and loops.
-/
import Derived.Test.YtfhecpkhifdnbaaGreatNetConn
namespace Go.Proofs.YtfhecpkhifdnbaaGreat
open Go.RowKit
set_option linter.unusedVariables false
set_option linter.unusedSimpArgs false
theorem wpList_appendK {P : Program} (w : World) {ops : Array Oper} {rest : List Oper} {o : Oper} {a : Act} {Q : Exit → Act → World → Prop} (hgd : o.guard = none) (s x : Operand) (t : TypeId)
    (ho : o.op = .call { callee := .builtin .append, args := #[s, x], argTypes := #[t, t] })
    (base : Nat) (e : TypeId) (z : Value) (size bytes : Nat) (ht : P.underlying t = some (.slice e)) (hinf : (P.info? e).map (fun i => (i.zero, i.size, i.bytes)) = some (some z, size, bytes)) (hzs : z.cells.size = size) (hsz : 0 < size)
    (v : Value) (n : Nat) (xs : List Value) (hs : a.eval s = v) (us : List Value) (hlu : us.length = size) (hu : ∀ u ∈ us, u.oneCell' = true) (hx : a.eval x = .slice (some ⟨w.heap.size, 0, none⟩) 1 1)
    (hown : w.ownsRow base e size v n xs) (h63 : n + 1 ≤ maxLen) (hbytes : (n + 1) * bytes ≤ 140737488355328) (hbase : base ≤ w.heap.size)
    (h : ∀ v' w', w'.ownsRow base e size v' (n + 1) (xs ++ us) → Below base w w' → w.grownBy w' v.ownBlock → w.heap.size < w'.heap.size → (v'.ownBlock = v.ownBlock ∨ ∃ g, v'.ownBlock = some g ∧ w.heap.size ≤ g ∧ g < w'.heap.size) → wpList P ops Q rest (a.put o.dst v') w') :
    wpList P ops Q (o :: rest) a (w.alloc (.cells us.toArray e)) := by
  obtain ⟨i, hi, hz0, hz1, hz2⟩ := info_parts hinf
  have hown1 := hown.alloc (.cells us.toArray e)
  have hnews : ∀ j u', us[j]? = some u' → (w.alloc (.cells us.toArray e)).cell? ((⟨w.heap.size, 0, none⟩ : Addr).add j) = some u' := by
    intro j u' hj
    rw [show (⟨w.heap.size, 0, none⟩ : Addr).add j = ⟨w.heap.size, j, none⟩ by unfold Addr.add; split <;> simp_all, World.cell?_alloc_at _ _ _ _ rfl]
    simpa using hj
  obtain ⟨v', w', hrun, h2, h3, _, h5⟩ := run_append_own_at (P := P) (w.alloc (.cells us.toArray e)) base t o.type e i z size bytes ht hi hz0 hz1 hz2 hzs hsz v n xs hown1 ⟨w.heap.size, 0, none⟩ 1 1 us (by rw [hlu]; omega) hnews hu h63 hbytes (by simp; omega)
  have hg : w.grownBy w' v.ownBlock := by
    have h0 := World.grownBy_alloc w (.cells us.toArray e) v.ownBlock
    exact ⟨h3.os.trans h0.os, h3.tape.trans h0.tape, h3.output.trans h0.output, Nat.le_trans h0.size h3.size, fun k hk hne => (h3.block k (Nat.lt_of_lt_of_le hk h0.size) hne).trans (h0.block k hk hne)⟩
  have hsz' : w.heap.size < w'.heap.size := by have := h3.size; simp at this; omega
  have hB : Below base w w' := (Below.refl base w).grown hg hbase (fun k hk => (hown.lt k hk).1)
  refine wpList_plain hgd fun K hK => ?_
  unfold Oper.wp execOp
  simp only [ho, resolve, invoke, builtin, Sem.run_bind, Sem.run_pure, Result.andThen_ok, List.map_toArray, List.map_cons, List.map_nil, hs, hx, hrun]
  refine hK _ _ (h v' w' h2 hB hg hsz' ?_)
  rcases h5 with h5 | h5
  · exact .inl h5
  · refine .inr ⟨_, h5, by simp, ?_⟩
    exact (h2.lt _ h5).2
theorem own_mono {w : World} {base base' : Nat} {e : TypeId} {size : Nat} {v : Value} {n : Nat} {xs : List Value} (h : w.ownsRow base e size v n xs) (hb : base' ≤ base) : w.ownsRow base' e size v n xs :=
  ⟨h.1, h.2.imp id fun ⟨g, cap, cur, h1, h2, h3⟩ => ⟨g, cap, cur, h1, Nat.le_trans hb h2, h3⟩⟩
theorem own_keep4 {w w' : World} {base n size : Nat} {e : TypeId} {v : Value} {vs : List Value} (h : w.ownsRow base e size v n vs) (hs : w.heap.size ≤ w'.heap.size) (hk : ∀ b, base ≤ b → b < w.heap.size → w'.heap[b]? = w.heap[b]?) : w'.ownsRow base e size v n vs := by
  refine ⟨h.1, ?_⟩
  have hlt := h.lt
  rcases h.2 with h2 | ⟨g, cap, cur, rfl, hb, hg, r⟩
  · exact .inl h2
  · exact .inr ⟨g, cap, cur, rfl, hb, (hk g hb (hlt g rfl).2).trans hg, r⟩
abbrev Edge := Int × Int × Int × Int
def edC (x : Edge) : List Value := [.int .i64 x.1, .int .i64 x.2.1, .int .i64 x.2.2.1, .int .i64 x.2.2.2]
def edCells (E : List Edge) : List Value := E.flatMap edC
theorem edCells_snoc (E : List Edge) (x : Edge) : edCells (E ++ [x]) = edCells E ++ edC x := by
  unfold edCells
  rw [List.flatMap_append]
  simp
theorem edgeInfo : (Tryz.prog.info? 154).map (fun i => (i.zero, i.size, i.bytes)) = some (some (.agg #[.int .i64 0, .int .i64 0, .int .i64 0, .int .i64 0]), 4, 32) := by kernel_rfl
/-- An edge is listed from its lesser side. -/
def edOk (v i : Nat) (e : Int × Int) : Prop := (v : Int) < e.1 ∨ (v : Int) = e.1 ∧ (i : Int) ≤ e.2
def EdOf (n : Net) (x : Edge) : Prop := ∃ (v : Nat) (l : Ends) (i : Nat) (e : Int × Int), n.es[v]? = some l ∧ l[i]? = some e ∧ edOk v i e ∧ x = ((v : Int), (i : Int), e.1, e.2)
/-- The edges of the nodes before k, and of the first j ends of node k. -/
def EdTo (n : Net) (k j : Nat) (E : List Edge) : Prop :=
  (∀ x ∈ E, EdOf n x) ∧ (∀ (v : Nat) (l : Ends) (i : Nat) (e : Int × Int), (v < k ∨ v = k ∧ i < j) → n.es[v]? = some l → l[i]? = some e → edOk v i e → ((v : Int), (i : Int), e.1, e.2) ∈ E) ∧ E.length ≤ 6 * k + j
theorem EdTo.start (n : Net) : EdTo n 0 0 [] := ⟨fun _ h => absurd h (by simp), fun v l i e h => by omega, Nat.le_refl _⟩
theorem EdTo.yes {n : Net} {k j : Nat} {E : List Edge} {l : Ends} {e : Int × Int} (h : EdTo n k j E) (hl : n.es[k]? = some l) (he : l[j]? = some e) (ho : edOk k j e) : EdTo n k (j + 1) (E ++ [((k : Int), (j : Int), e.1, e.2)]) := by
  obtain ⟨h1, h2, h3⟩ := h
  refine ⟨fun x hx => ?_, fun v l' i e' hc hl' he' ho' => ?_, by simp; omega⟩
  · rcases List.mem_append.1 hx with hx | hx
    · exact h1 x hx
    · rw [List.mem_singleton] at hx
      exact ⟨k, l, j, e, hl, he, ho, hx⟩
  · by_cases hvj : v = k ∧ i = j
    · obtain ⟨rfl, rfl⟩ := hvj
      obtain rfl := Option.some.inj (hl.symm.trans hl')
      obtain rfl := Option.some.inj (he.symm.trans he')
      exact List.mem_append.2 (.inr (by simp))
    · exact List.mem_append.2 (.inl (h2 v l' i e' (by omega) hl' he' ho'))
theorem EdTo.no {n : Net} {k j : Nat} {E : List Edge} {l : Ends} {e : Int × Int} (h : EdTo n k j E) (hl : n.es[k]? = some l) (he : l[j]? = some e) (ho : ¬ edOk k j e) : EdTo n k (j + 1) E := by
  obtain ⟨h1, h2, h3⟩ := h
  refine ⟨h1, fun v l' i e' hc hl' he' ho' => ?_, by omega⟩
  by_cases hvj : v = k ∧ i = j
  · obtain ⟨rfl, rfl⟩ := hvj
    obtain rfl := Option.some.inj (hl.symm.trans hl')
    obtain rfl := Option.some.inj (he.symm.trans he')
    exact absurd ho' ho
  · exact h2 v l' i e' (by omega) hl' he' ho'
theorem EdTo.row {n : Net} {k j : Nat} {E : List Edge} {l : Ends} (h : EdTo n k j E) (hl : n.es[k]? = some l) (hj : l.length ≤ j) (hj6 : j ≤ 6) : EdTo n (k + 1) 0 E := by
  obtain ⟨h1, h2, h3⟩ := h
  refine ⟨h1, fun v l' i e' hc hl' he' ho' => ?_, by omega⟩
  by_cases hv : v = k
  · subst hv
    obtain rfl := Option.some.inj (hl.symm.trans hl')
    exact h2 v l i e' (.inr ⟨rfl, by have := (List.getElem?_eq_some_iff.1 he').1; omega⟩) hl he' ho'
  · exact h2 v l' i e' (by omega) hl' he' ho'
/-- All edges, each once. -/
def EdAll (n : Net) (E : List Edge) : Prop := ∃ k, n.es.length ≤ k ∧ EdTo n k 0 E
theorem EdAll.loop {n : Net} {E : List Edge} (h : EdAll n E) (hp : netP n) : (∃ x ∈ E, x.1 = x.2.2.1) ↔ ¬ plainP n := by
  obtain ⟨k, hk, h1, h2, -⟩ := h
  rw [← edge_loop hp]
  constructor
  · rintro ⟨x, hx, hq⟩
    obtain ⟨v, l, i, e, hl, he, ho, rfl⟩ := h1 x hx
    exact ⟨v, l, hl, i, e, he, ho, hq⟩
  · rintro ⟨v, l, hl, i, e, he, ho, hq⟩
    exact ⟨_, h2 v l i e (.inl (by have := (List.getElem?_eq_some_iff.1 hl).1; omega)) hl he ho, hq⟩
def EgRel (n : Net) (w : World) (v i : Value) (wr : World) : Prop :=
  ∃ (E : List Edge) (k : Nat), k ≤ n.es.length ∧ i = .int .i64 k ∧ EdTo n k 0 E ∧ wr.ownsRow w.heap.size 154 4 v E.length (edCells E) ∧ Below w.heap.size w wr
def EiRel (n : Net) (k : Nat) (l : Ends) (w wq : World) (v i : Value) (wr : World) : Prop :=
  ∃ (E : List Edge) (j : Nat), j ≤ l.length ∧ i = .int .i64 j ∧ EdTo n k j E ∧ wr.ownsRow w.heap.size 154 4 v E.length (edCells E) ∧ Below w.heap.size wq wr
set_option maxRecDepth 100000 in
set_option maxHeartbeats 2000000 in
theorem impl_edges (ve vi vn : Value) (n : Net) (w : World) (h : NetR w w.heap.size ve vi vn n) (hp : netP n) :
    Calls Tryz.prog 132 #[.agg #[ve, vi, vn]] w fun e w' => ∃ u E, e = .returned u ∧ EdAll n E ∧ E.length ≤ 300 ∧ w'.ownsRow w.heap.size 154 4 u E.length (edCells E) ∧ Below w.heap.size w w' := by
  have h40 := hp.1.2
  have HP := Lib.hid hp; clear hp
  obtain ⟨⟨A0, m0, c0, rfl⟩, ⟨A1, m1, c1, rfl⟩, A2, m2, c2, rfl⟩ := h.slices
  obtain ⟨w0, hw0, hB, HD, hz0, HS0⟩ := box3 w (.slice A0 m0 c0) (.slice A1 m1 c1) (.slice A2 m2 c2) 31
  have HN0 := Lib.hid h; have HN := Lib.hid (h.up hB); clear h
  have HW0 := Lib.hid hw0; clear hw0
  obtain ⟨q0, q1, q2, qf⟩ := cells3 HD
  obtain ⟨hm0, -, -⟩ := HN.out.e.len_slice
  subst hm0
  go_enter Tryz.func132, Tryz.ntmps132
  go_wp2_with fail
  rw [← HW0.out]
  go_loopw [3, 4, 5, 11] (fun v _ _ i wr => EgRel n w0 v i wr) (fun _ _ _ i _ => n.es.length - (intOf i).toNat)
  case atStart => exact ⟨[], 0, Nat.zero_le _, rfl, EdTo.start n, World.ownsRow_nil _ _ _ _, Below.refl _ _⟩
  case round =>
    obtain ⟨E, k, hk, rfl, hed, hown, hb1⟩ := hrel
    have HED := Lib.hid hed; clear hed
    have hzhb1 := hb1.size
    clear q0 q1 q2 qf
    replace HD := bk HD hb1
    replace HN := Lib.hid (HN.out.up hb1)
    replace hB := bl_trans hB hb1
    obtain ⟨q0, q1, q2, qf⟩ := cells3 HD
    by_cases hlt : k < n.es.length
    · obtain ⟨l, hl⟩ : ∃ y, n.es[k]? = some y := ⟨n.es[k], List.getElem?_eq_getElem hlt⟩
      obtain ⟨ad, rfl⟩ := HN.out.e.some_ (by omega)
      obtain ⟨hbb, u, hu, hr⟩ := (HN0.out.below hB).e.at_ hl
      have HR := Lib.hid hr
      obtain ⟨A', c', rfl, hlc, hlm, -, h4⟩ := hr
      unfold maxLen at hlm
      have hl6 := HP.out.len hl
      have HL := Lib.hid hl; clear hl
      have HO := Lib.hid hown; clear hown
      have HB1 := Lib.hid hb1; clear hb1
      go_wp2_with fail
      obtain ⟨wq, rfl⟩ : ∃ z, z = wr := ⟨_, rfl⟩
      go_loopw [3, 6, 7, 18] (fun v _ _ i wr' => EiRel n k l w0 wq v i wr') (fun _ _ _ i _ => l.length - (intOf i).toNat)
      case atStart => exact ⟨E, 0, Nat.zero_le _, rfl, HED.out, HO.out, Below.refl _ _⟩
      case round =>
        obtain ⟨E, j, hj, rfl, hed, hown, hbl⟩ := hrel
        have hz2 := hbl.size
        have HED2 := Lib.hid hed; clear hed
        by_cases hlt2 : j < l.length
        · obtain ⟨e, he⟩ : ∃ e, l[j]? = some e := ⟨_, List.getElem?_eq_getElem hlt2⟩
          obtain ⟨b, o', rfl, -, -⟩ := h4 (by omega)
          obtain ⟨hbb', p0, p1⟩ := (HR.out.below (hbl.mono (by omega))).at_ he
          obtain ⟨wv, hwv, hbv, HEB, hzv, HSV⟩ := box2 wr (.int .i64 e.1) (.int .i64 e.2) 144
          have HWV := Lib.hid hwv
          obtain ⟨d2, d3, ef⟩ := cells2 HEB
          rw [hwv] at d2 d3
          clear hwv ef
          have hbv0 : w0.heap.size ≤ wv.heap.size := by have := HB1.out.size; omega
          have HOV := Lib.hid (show wv.ownsRow w0.heap.size 154 4 u3 E.length (edCells E) from own_keep4 hown hbv.size (fun b _ hb => hbv.block b hb)); clear hown
          have HBV := Lib.hid (hbl.trans (hbv.mono (by have := HB1.out.size; omega))); clear hbl
          have HE := Lib.hid he; clear he
          have hel := HED2.out.2.2
          by_cases c1 : (k : Int) < e.1
          · have HNO := Lib.hid (show edOk k j e from .inl c1)
            go_wp2_with ((at_builtin; rw [← HWV.out]; refine wpList_appendK wv rfl (.tmp 39) (.tmp 47) 152 rfl w0.heap.size 154 _ 4 32 Tryz.underlying152 edgeInfo rfl (by decide) _ E.length (edCells E) rfl (edC ((k : Int), (j : Int), e.1, e.2)) rfl (fun u hu => by simp [edC] at hu; rcases hu with rfl | rfl | rfl | rfl <;> rfl) (by show Value.slice (some ⟨wr.heap.size + 1, 0, none⟩) 1 1 = _; rw [HSV.out]) HOV.out (by unfold maxLen; omega) (by omega) hbv0 ?_; intro v' w' hown' hbl' hgr' hlt' hob'))
            go_roundw
            case rel => exact ⟨E ++ [((k : Int), (j : Int), e.1, e.2)], j + 1, by omega, by go_num, HED2.out.yes HL.out HE.out HNO.out, by rw [edCells_snoc, List.length_append]; exact hown', HBV.out.trans hbl'⟩
            case measure => simp [intOf]; omega
          · by_cases c2 : (k : Int) = e.1
            · have hq : ((k : Int) == e.1) = true := by rw [beq_iff_eq]; exact c2
              by_cases c3 : (j : Int) ≤ e.2
              · have HNO := Lib.hid (show edOk k j e from .inr ⟨c2, c3⟩)
                clear c2
                go_wp2_with ((at_builtin; rw [← HWV.out]; refine wpList_appendK wv rfl (.tmp 39) (.tmp 47) 152 rfl w0.heap.size 154 _ 4 32 Tryz.underlying152 edgeInfo rfl (by decide) _ E.length (edCells E) rfl (edC ((k : Int), (j : Int), e.1, e.2)) rfl (fun u hu => by simp [edC] at hu; rcases hu with rfl | rfl | rfl | rfl <;> rfl) (by show Value.slice (some ⟨wr.heap.size + 1, 0, none⟩) 1 1 = _; rw [HSV.out]) HOV.out (by unfold maxLen; omega) (by omega) hbv0 ?_; intro v' w' hown' hbl' hgr' hlt' hob'))
                go_roundw
                case rel => exact ⟨E ++ [((k : Int), (j : Int), e.1, e.2)], j + 1, by omega, by go_num, HED2.out.yes HL.out HE.out HNO.out, by rw [edCells_snoc, List.length_append]; exact hown', HBV.out.trans hbl'⟩
                case measure => simp [intOf]; omega
              · have HNO := Lib.hid (show ¬ edOk k j e from fun h => by rcases h with h | h; exact c1 h; exact c3 h.2)
                clear c2
                go_wp2_with fail
                clear d2 d3
                rw [← HWV.out]
                go_roundw
                case rel => exact ⟨E, j + 1, by omega, by go_num, HED2.out.no HL.out HE.out HNO.out, HOV.out, HBV.out⟩
                case measure => simp [intOf]; omega
            · have hq : ((k : Int) == e.1) = false := by rw [beq_eq_false_iff_ne]; exact c2
              have HNO := Lib.hid (show ¬ edOk k j e from fun h => by rcases h with h | h; exact c1 h; exact c2 h.1)
              go_wp2_with fail
              clear d2 d3
              rw [← HWV.out]
              go_roundw
              case rel => exact ⟨E, j + 1, by omega, by go_num, HED2.out.no HL.out HE.out HNO.out, HOV.out, HBV.out⟩
              case measure => simp [intOf]; omega
        · have hlj : l.length ≤ j := by omega
          have HO2 := Lib.hid hown; clear hown
          go_wp2_with fail
          refine ⟨⟨E, k + 1, by omega, by go_num, HED2.out.row HL.out hlj (by omega), HO2.out, HB1.out.trans hbl⟩, ?_⟩
          simp [intOf]
          omega
    · have hel := HED.out.2.2
      have HF := Lib.hid (show EdAll n E from ⟨k, by omega, HED.out⟩)
      have HO := Lib.hid hown; clear hown
      go_wp2_with fail
      go_ret
      exact ⟨_, E, rfl, HF.out, by omega, own_mono HO.out (by omega), hB⟩
end Go.Proofs.YtfhecpkhifdnbaaGreat
