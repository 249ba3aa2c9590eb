/-
  Small lemmas and contracts that the texts of this claim share. No condition.
-/
import Derived.Test.YtdghoienjegffaaGreatRNetLegSG
namespace Go.Proofs.YtdghoienjegffaaGreat
open Go.RowKit
set_option linter.all false
noncomputable def grTo (n : Net) : Nat → List Int
  | 0 => []
  | k + 1 => if inB (leastD (far n.es k) (grTo n k)) 0 1 = true then grTo n k else putS (grTo n k) (k : Int)
theorem putS_len (l : List Int) (x : Int) : (putS l x).length ≤ l.length + 1 := by
  induction l with
  | nil => exact Nat.le_refl _
  | cons y r ih =>
    unfold putS;split
    · simp only [List.length_cons]; omega
    · split
      · simp only [List.length_cons]; omega
      · simp only [List.length_cons]; omega
theorem grTo_len (n : Net) : ∀ k, (grTo n k).length ≤ k
  | 0 => Nat.le_refl _
  | k + 1 => by
    have := grTo_len n k;rw [grTo];split
    · omega
    · have := putS_len (grTo n k) (k : Int); omega
theorem grTo_mem (n : Net) : ∀ k, ∀ x ∈ grTo n k, 0 ≤ x ∧ x.toNat < k
  | 0 => fun x hx => by cases hx
  | k + 1 => fun x hx => by
    rw [grTo] at hx;split at hx
    · have := grTo_mem n k x hx; omega
    · rcases (putS_mem _ _ _).1 hx with rfl | hx
      · omega
      · have := grTo_mem n k x hx; omega
theorem putS_ne (l : List Int) (x : Int) : putS l x ≠ [] := fun e => by have h := (putS_mem l x x).2 (.inl rfl);rw [e] at h;cases h
def GrRel (n : Net) (w : World) (v i : Value) (wr : World) : Prop := Below w.heap.size w wr ∧ ∃ k : Nat, k ≤ n.es.length ∧ i = .int .i64 k ∧ IntsR wr wr.heap.size v (grTo n k) ∧ (∃ A m c, v = .slice A m c ∧ ∀ ad, A = some ad → w.heap.size ≤ ad.block) ∧ (grTo n k = [] → v = .slice none 0 0)
set_option maxRecDepth 100000 in
set_option maxHeartbeats 2000000 in
theorem spec_ruGreedy (ve vi vn vo : Value) (n : Net) (w : World) (h : NetR w w.heap.size ve vi vn n) (hp : netP n) (ho : IntsR w w.heap.size vo (plL n.es.length)) :
  Calls Tryz.prog 105 #[.agg #[ve, vi, vn], vo, .int .i64 2] w fun e w' => ∃ u, e = .returned u ∧ (∃ A m c, u = .slice A m c ∧ ∀ ad, A = some ad → w.heap.size ≤ ad.block) ∧ IntsR w' w'.heap.size u (grTo n n.es.length) ∧ Below w.heap.size w w' := by
 have h40 := hp.1.2;have HP := Lib.hid hp;clear hp;obtain ⟨Ao, co, rfl, -, hco, hso⟩ := ho.open_;have HSO := Lib.hid hso;rw [plL_len] at HSO ⊢;clear ho hso;obtain ⟨⟨A0, m0, c0, rfl⟩, ⟨A1, m1, c1, rfl⟩, A2, m2, c2, rfl⟩ := h.slices;obtain ⟨w0, hw0, hB, HD, hz0, HS0⟩ := box3 w (.slice A0 m0 c0) (.slice A1 m1 c1) (.slice A2 m2 c2) 27;have HN0 := Lib.hid h; have HN := Lib.hid (h.up hB); clear h;have HW0 := Lib.hid hw0; clear hw0;obtain ⟨q0, q1, q2, qf⟩ := cells3 HD;have hw1 : IntKind.i64.wrap (2 - 1) = 1 := by decide
 go_enter Tryz.func105, Tryz.ntmps105;go_wp2_with fail;rw [← HW0.out];go_loopw [7, 9, 12] (fun v _ i wr => GrRel n w0 v i wr) (fun _ _ i _ => n.es.length - (intOf i).toNat)
 case atStart => exact ⟨Below.refl _ _, 0, Nat.zero_le _, rfl, ints_nil _ _, ⟨_, _, _, rfl, fun _ h => by cases h⟩, fun _ => rfl⟩
 case round =>
  obtain ⟨hbl, k, hk, rfl, hu, ⟨Au, mu, cu, rfl, hfr⟩, hnil⟩ := hrel;have HFR := Lib.hid hfr;clear hfr;have HU := Lib.hid hu;have HNI := Lib.hid hnil;have HBL := Lib.hid hbl;have hzhbl := hbl.size;clear q0 q1 q2 qf;replace HD := bk HD hbl;replace HN := Lib.hid (HN.out.up hbl);replace hB := bl_trans hB hbl;obtain ⟨q0, q1, q2, qf⟩ := cells3 HD;clear hu hnil;by_cases hlt : k < n.es.length
  ·
   obtain ⟨ado, rfl, hado, hcs⟩ := HSO.out (by omega);have hco' := (hB.cell (p := ado.add k) (by rw [block_add]; exact hado)).trans (hcs k _ (plL_at hlt));have HGM := Lib.hid (grTo_mem n k);have HGL := Lib.hid (grTo_len n k);clear hcs;go_wp2_with fail;refine (spec_ruFar _ _ _ _ n (grTo n k) k wr HN.out HP.out HU.out (fun r hr => by have := HGM.out r hr; omega) hlt).mono ?_;rintro e w2 ⟨rfl, hb2⟩;have hz2 := hb2.size;have HU2 := Lib.hid (ints_upS HU.out hb2);have HB2 := Lib.hid (bl_trans HBL.out hb2);clear q0 q1 q2 qf hco';obtain ⟨d, hd⟩ : ∃ z, z = leastD (far n.es k) (grTo n k) := ⟨_, rfl⟩
   have HD1 := Lib.hid (show grTo n (k + 1) = if inB d 0 1 = true then grTo n k else putS (grTo n k) (k : Int) by rw [grTo, hd]);rw [← hd];clear hd;go_wp2_with fail;refine (spec_l1In d 0 1 w2).mono ?_;rintro e w3 ⟨rfl, rfl⟩;by_cases hb : inB d 0 1 = true
   ·
    have HE := Lib.hid (show grTo n (k + 1) = grTo n k by rw [HD1.out, if_pos hb]);rw [hb];go_wp2_with fail;go_roundw
    case rel => exact ⟨HB2.out, k + 1, by omega, by go_num, by rw [HE.out]; exact HU2.out, ⟨_, _, _, rfl, HFR.out⟩, by rw [HE.out]; exact HNI.out⟩
    case measure => simp [intOf]; omega
   ·
    have HE := Lib.hid (show grTo n (k + 1) = putS (grTo n k) (k : Int) by rw [HD1.out, if_neg hb]);rw [show inB d 0 1 = false by simpa using hb];go_wp2_with fail;refine (spec_l1Put _ (grTo n k) (k : Int) w2 HU2.out (by have := HGL.out; omega) ⟨by omega, by omega⟩ HNI.out).mono ?_;rintro e w4 ⟨u, rfl, ⟨A4, m4, c4, rfl⟩, hu4, ho4, hb4⟩
    have HF4 := Lib.hid (show ∀ ad, A4 = some ad → w0.heap.size ≤ ad.block from fun ad e => by
     rcases ho4 with ⟨e1, -⟩ | ho4
     · exact HFR.out ad (by rw [← (Value.slice.inj e1).1]; exact e)
     ·
      rcases ho4.2 with ⟨e1, _⟩ | ⟨g, cap, cur, e1, h2, _⟩
      · have e2 := (Value.slice.inj e1).1; rw [e2] at e; cases e
      ·
       have e2 := (Value.slice.inj e1).1;rw [e2] at e;obtain rfl := Option.some.inj e;show w0.heap.size ≤ g
       omega)
    clear ho4;have HU4 := Lib.hid hu4;have HB4 := Lib.hid (bl_trans HB2.out hb4);clear hu4;go_wp2_with fail;go_roundw
    case rel => exact ⟨HB4.out, k + 1, by omega, by go_num, by rw [HE.out]; exact HU4.out, ⟨_, _, _, rfl, HF4.out⟩, fun h => absurd h (by rw [HE.out]; exact putS_ne _ _)⟩
    case measure => simp [intOf]; omega
  ·
   obtain rfl : k = n.es.length := by omega
   go_wp2_with fail;go_ret;exact ⟨_, rfl, ⟨_, _, _, rfl, fun ad e => by have := HFR.out ad e; omega⟩, HU.out, hB⟩
def firstE (v i : Nat) (e : Int × Int) : Prop := (v : Int) < e.1 ∨ ((v : Int) = e.1 ∧ (i : Int) ≤ e.2)
noncomputable def firstB (v i : Nat) (e : Int × Int) : Bool := propB (firstE v i e)
set_option maxRecDepth 100000 in
set_option maxHeartbeats 2000000 in
theorem spec_neFirst (ve vi vn : Value) (n : Net) (v i : Nat) (l : Ends) (e : Int × Int) (w : World) (h : NetR w w.heap.size ve vi vn n) (hv : n.es[v]? = some l) (hi : l[i]? = some e) :
  Calls Tryz.prog 151 #[.agg #[ve, vi, vn], .int .i64 (v : Int), .int .i64 (i : Int)] w fun r w' => r = .returned (.bool (firstB v i e)) ∧ Below w.heap.size w w' := by
 have hvl : v < n.es.length := (List.getElem?_eq_some_iff.1 hv).1;have hil : i < l.length := (List.getElem?_eq_some_iff.1 hi).1;obtain ⟨-, ⟨A1, m1, c1, rfl⟩, A2, m2, c2, rfl⟩ := h.slices;obtain ⟨A0, c0, rfl, -, hmx, h0⟩ := h.e;obtain ⟨w0, hw0, hb0, HD, hlt0, HS0⟩ := box3 w (.slice A0 n.es.length c0) (.slice A1 m1 c1) (.slice A2 m2 c2) 27;obtain ⟨ad, rfl, hab, hac⟩ := h0 (by omega);obtain ⟨u, hu, hr⟩ := hac v l hv;have hcu := (hb0.cell (p := ad.add v) (by rw [block_add]; exact hab)).trans hu;replace hr := hr.below hb0;obtain ⟨A', c', rfl, g1, g2, g3, g4⟩ := hr;obtain ⟨b, o, rfl, hb, hc⟩ := g4 (by omega);have r0 := (hc i e hi).1;have r1 := (hc i e hi).2;unfold maxLen at hmx g2;clear hac h0 h g3 g4 hc hu hi hv;have HW0 := Lib.hid hw0;obtain ⟨q0, q1, q2, qf⟩ := cells3 HD;have eq0 := q0;have hcu' := hcu;have r0' := r0;have r1' := r1;rw [hw0] at eq0 hcu' r0' r1';clear hw0;have hB := bl_alloc hb0 (.cells #[.int .i64 e.1, .int .i64 e.2] 74);rw [HW0.out] at hB;have HB := Lib.hid hB;clear hB;by_cases h1 : (v : Int) < e.1
 · have HE := Lib.hid (show firstB v i e = true from propB_t (.inl h1));go_enter Tryz.func151, Tryz.ntmps151;go_wp2_with fail;go_ret;exact ⟨by rw [HE.out]; rfl, HB.out⟩
 ·
  have h1' : ((v : Int) < e.1) = False := eq_false h1;by_cases h2 : (v : Int) = e.1
  ·
   have h2' : ((v : Int) == e.1) = true := by simpa using h2
   by_cases h3 : (i : Int) ≤ e.2
   · have HE := Lib.hid (show firstB v i e = true from propB_t (.inr ⟨h2, h3⟩));clear h2;go_enter Tryz.func151, Tryz.ntmps151;go_wp2_with fail;go_ret;exact ⟨by rw [HE.out]; rfl, HB.out⟩
   · have HE := Lib.hid (show firstB v i e = false from propB_f (fun h => by rcases h with h | h; exact h1 h; exact h3 h.2));have h3' : ((i : Int) ≤ e.2) = False := eq_false h3;clear h2;go_enter Tryz.func151, Tryz.ntmps151;go_wp2_with fail;go_ret;exact ⟨by rw [HE.out]; rfl, HB.out⟩
  ·
   have HE := Lib.hid (show firstB v i e = false from propB_f (fun h => by rcases h with h | h; exact h1 h; exact h2 h.1));have h2' : ((v : Int) == e.1) = false := by simpa using h2
   go_enter Tryz.func151, Tryz.ntmps151;go_wp2_with fail;go_ret;exact ⟨by rw [HE.out]; rfl, HB.out⟩
noncomputable def edI (v : Nat) (l : Ends) : Nat → List Edge
  | 0 => []
  | j + 1 => edI v l j ++ (match l[j]? with | some e => if firstB v j e = true then [((v : Int), (j : Int), e.1, e.2)] else [] | none => [])
noncomputable def edV (n : Net) : Nat → List Edge
  | 0 => []
  | k + 1 => edV n k ++ edI k (rowAt n k) (rowAt n k).length
theorem edI_at {v : Nat} {l : Ends} {j : Nat} {e : Int × Int} (h : l[j]? = some e) : edI v l (j + 1) = edI v l j ++ if firstB v j e = true then [((v : Int), (j : Int), e.1, e.2)] else [] := by rw [edI, h]
theorem edI_len (v : Nat) (l : Ends) : ∀ j, (edI v l j).length ≤ j
  | 0 => Nat.le_refl _
  | j + 1 => by
    have := edI_len v l j;cases h : l[j]? with
    | none => rw [edI, h]; show (edI v l j ++ []).length ≤ _; rw [List.append_nil]; omega
    | some e =>
      rw [edI_at h, List.length_append];have h2 : (if firstB v j e = true then [((v : Int), (j : Int), e.1, e.2)] else ([] : List Edge)).length ≤ 1 := by split <;> simp
      omega
theorem edV_len {n : Net} (hp : netP n) : ∀ k, (edV n k).length ≤ 6 * k
  | 0 => Nat.le_refl _
  | k + 1 => by
    have := edV_len hp k;have h2 := edI_len k (rowAt n k) (rowAt n k).length;rw [edV, List.length_append];have h3 : (rowAt n k).length ≤ 6 := by
      by_cases hk : k < n.es.length
      · exact hp.len (rowAt_lt hk)
      · rw [rowAt_out (by omega)]; exact Nat.zero_le _
    omega
theorem edI_mem {v : Nat} {l : Ends} : ∀ {j : Nat} {x : Edge}, x ∈ edI v l j → ∃ i e, i < j ∧ l[i]? = some e ∧ firstE v i e ∧ x = ((v : Int), (i : Int), e.1, e.2)
  | 0, x, h => by cases h
  | j + 1, x, h => by
    rw [edI] at h;rcases List.mem_append.1 h with h | h
    · obtain ⟨i, e, h1, h2⟩ := edI_mem h
      exact ⟨i, e, by omega, h2⟩
    · split at h
      · rename_i e he
        split at h
        · rename_i hf
          exact ⟨j, e, by omega, he, propB_iff.1 hf, List.mem_singleton.1 h⟩
        · cases h
      · cases h
theorem edV_mem {n : Net} : ∀ {k : Nat} {x : Edge}, x ∈ edV n k → ∃ v i e, v < k ∧ (rowAt n v)[i]? = some e ∧ firstE v i e ∧ x = ((v : Int), (i : Int), e.1, e.2)
  | 0, x, h => by cases h
  | k + 1, x, h => by
    rw [edV] at h;rcases List.mem_append.1 h with h | h
    · obtain ⟨v, i, e, h1, h2⟩ := edV_mem h
      exact ⟨v, i, e, by omega, h2⟩
    · obtain ⟨i, e, -, h2, h3, h4⟩ := edI_mem h
      exact ⟨k, i, e, by omega, h2, h3, h4⟩
def EdsR (w : World) (base : Nat) (v : Value) (E : List Edge) : Prop := ∃ vs, w.ownsRow base 25 1 v E.length vs ∧ ∀ (k : Nat) (x : Edge), E[k]? = some x → ∃ g, vs[k]? = some (.slice (some ⟨g, 0, none⟩) 4 4) ∧ base ≤ g ∧ g < w.heap.size ∧ w.heap[g]? = some (.cells (edC x).toArray 3 (0, 0))
theorem EdsR.nil (w : World) (base : Nat) : EdsR w base (.slice none 0 0) [] := ⟨[], World.ownsRow_nil _ _ _ _, fun _ _ h => by simp at h⟩
theorem EdsR.keep {w w' : World} {base : Nat} {v : Value} {E : List Edge} (h : EdsR w base v E) (hs : w.heap.size ≤ w'.heap.size) (hk : ∀ b, base ≤ b → b < w.heap.size → w'.heap[b]? = w.heap[b]?) : EdsR w' base v E := by obtain ⟨vs, h1, h2⟩ := h;refine ⟨vs, own_keep4 h1 hs hk, fun k x hx => ?_⟩;obtain ⟨g, e, hb, hg, hc⟩ := h2 k x hx;exact ⟨g, e, hb, by omega, (hk g hb hg).trans hc⟩
theorem EdsR.snoc {w w' : World} {base : Nat} {v v' : Value} {E : List Edge} (x : Edge) {vs : List Value} (h1 : w.ownsRow base 25 1 v E.length vs) (h2 : ∀ (k : Nat) (x : Edge), E[k]? = some x → ∃ g, vs[k]? = some (.slice (some ⟨g, 0, none⟩) 4 4) ∧ base ≤ g ∧ g < w.heap.size ∧ w.heap[g]? = some (.cells (edC x).toArray 3 (0, 0))) (hbs : base ≤ w.heap.size)
  (hn : w'.ownsRow base 25 1 v' (E.length + 1) (vs ++ [.slice (some ⟨w.heap.size, 0, none⟩) 4 4])) (hg : (w.alloc (.cells (edC x).toArray 3)).grownBy w' v.ownBlock) : EdsR w' base v' (E ++ [x]) := by
 have hsz := hg.size;simp only [World.size_alloc] at hsz;have hlen : vs.length = E.length := by have := h1.1; simpa using this
 have hrow : ∀ b c, b < (w.alloc (.cells (edC x).toArray 3)).heap.size → (w.alloc (.cells (edC x).toArray 3)).heap[b]? = some (.cells c 3 (0, 0)) → w'.heap[b]? = some (.cells c 3 (0, 0)) := fun b c hb hc => by
  refine (hg.block b hb fun e => ?_).trans hc;rcases h1.2 with ⟨e1, _⟩ | ⟨g, cap, cur, e1, _, h3, _⟩
  · rw [e1] at e; cases e
  · rw [e1] at e;obtain rfl : b = g := Option.some.inj e;have hbl : b < w.heap.size := (h1.lt b (by rw [e1]; rfl)).2;rw [heap_alloc_old w _ hbl, h3] at hc;have h4 := Option.some.inj hc;simp only [Obj.cells.injEq] at h4;exact absurd h4.2.1 (by decide)
 refine ⟨_, by rw [List.length_append]; exact hn, fun k y hy => ?_⟩;rw [List.getElem?_append] at hy;by_cases hk : k < E.length
 · rw [if_pos hk] at hy;obtain ⟨g, e, hb, hgl, hc⟩ := h2 k y hy;refine ⟨g, by rw [List.getElem?_append, if_pos (by omega)]; exact e, hb, by omega, hrow g _ (by simp only [World.size_alloc]; omega) ?_⟩;rw [heap_alloc_old w _ hgl];exact hc
 ·
  rw [if_neg hk] at hy;have hk1 : k - E.length = 0 := by have := (List.getElem?_eq_some_iff.1 hy).1; simp at this; omega
  rw [hk1] at hy;obtain rfl : x = y := by simpa using hy
  exact ⟨w.heap.size, by rw [List.getElem?_append, if_neg (by omega), show k - vs.length = 0 by omega]; rfl, hbs, by omega, hrow _ _ (by simp only [World.size_alloc]; omega) (heap_alloc_new w _)⟩
end Go.Proofs.YtdghoienjegffaaGreat
namespace Go.Proofs.YtdghoienjegffaaGreat
open Go.RowKit
set_option linter.all false
def EeRel (n : Net) (w : World) (v i : Value) (wr : World) : Prop := ∃ k : Nat, k ≤ n.es.length ∧ i = .int .i64 k ∧ EdsR wr w.heap.size v (edV n k) ∧ Below w.heap.size w wr
def EjRel (n : Net) (k : Nat) (l : Ends) (w wq : World) (v i : Value) (wr : World) : Prop := ∃ j : Nat, j ≤ l.length ∧ i = .int .i64 j ∧ EdsR wr w.heap.size v (edV n k ++ edI k l j) ∧ Below w.heap.size wq wr
set_option maxRecDepth 100000 in
set_option maxHeartbeats 2000000 in
theorem spec_neEdges (ve vi vn : Value) (n : Net) (w : World) (h : NetR w w.heap.size ve vi vn n) (hp : netP n) :
  Calls Tryz.prog 106 #[.agg #[ve, vi, vn]] w fun e w' => ∃ u, e = .returned u ∧ EdsR w' w.heap.size u (edV n n.es.length) ∧ Below w.heap.size w w' := by
 have h40 := hp.1.2;have HP := Lib.hid hp; clear hp;obtain ⟨⟨A0, m0, c0, rfl⟩, ⟨A1, m1, c1, rfl⟩, A2, m2, c2, rfl⟩ := h.slices;obtain ⟨w0, hw0, hB, HD, hz0, HS0⟩ := box3 w (.slice A0 m0 c0) (.slice A1 m1 c1) (.slice A2 m2 c2) 27;have HN0 := Lib.hid h; have HN := Lib.hid (h.up hB); clear h;have HW0 := Lib.hid hw0; clear hw0;obtain ⟨q0, q1, q2, qf⟩ := cells3 HD;obtain ⟨hm0, -, -⟩ := HN.out.e.len_slice;subst hm0;go_enter Tryz.func106, Tryz.ntmps106;go_wp2_with fail;rw [← HW0.out];go_loopw [3, 4, 5, 11] (fun v _ _ i wr => EeRel n w0 v i wr) (fun _ _ _ i _ => n.es.length - (intOf i).toNat)
 case atStart => exact ⟨0, Nat.zero_le _, rfl, EdsR.nil _ _, Below.refl _ _⟩
 case round =>
  obtain ⟨k, hk, rfl, hed, hbl⟩ := hrel;have HE := Lib.hid hed;have HBL := Lib.hid hbl;have hzr := hbl.size;have HN0 := HN;have HD0 := HD;have hzhbl := hbl.size;clear q0 q1 q2 qf;replace HD := bk HD hbl;replace HN := Lib.hid (HN.out.up hbl);replace hB := bl_trans hB hbl;obtain ⟨q0, q1, q2, qf⟩ := cells3 HD;clear hed;by_cases hlt : k < n.es.length
  ·
   obtain ⟨l, hl⟩ : ∃ y, n.es[k]? = some y := ⟨_, List.getElem?_eq_getElem hlt⟩
   have hl6 := HP.out.len hl;have HEL := Lib.hid (edV_len HP.out k);have HVK := Lib.hid (show edV n (k + 1) = edV n k ++ edI k l l.length by rw [edV, rowAt_eq hl]);have HL := Lib.hid hl;have hne := HN0.out.e;obtain ⟨A0', c0', e0, -, hmx, hrows⟩ := hne;obtain ⟨rfl, -, rfl⟩ := Value.slice.inj e0;obtain ⟨ad, rfl, hab, hac⟩ := hrows (by omega);obtain ⟨u, hu, hr⟩ := hac k l hl;obtain ⟨A', c', rfl, g1, g2, g3, g4⟩ := hr;have HC := Lib.hid g4;unfold maxLen at g2;replace hu := (HBL.out.cell (p := ad.add k) (by rw [block_add]; exact hab)).trans hu;clear hl hrows hac g3 g4 e0;go_wp2_with fail;clear hu;obtain ⟨wq, rfl⟩ : ∃ z, z = wr := ⟨_, rfl⟩
   go_loopw [3, 6, 7, 18] (fun v _ _ i wr => EjRel n k l w0 wq v i wr) (fun _ _ _ i _ => l.length - (intOf i).toNat)
   case atStart => exact ⟨0, Nat.zero_le _, rfl, by rw [edI, List.append_nil]; exact HE.out, Below.refl _ _⟩
   case round =>
    obtain ⟨j, hj, rfl, hed, hbl2⟩ := hrel;have HE2 := Lib.hid hed;have hz2 := hbl2.size;have HB2 := Lib.hid hbl2;clear hed;by_cases hltj : j < l.length
    ·
     obtain ⟨⟨ea, ep⟩, hej⟩ : ∃ y, l[j]? = some y := ⟨_, List.getElem?_eq_getElem hltj⟩
     obtain ⟨eb, eo, rfl, heb, hcells⟩ := HC.out (by omega);obtain ⟨k0, k1⟩ := hcells j _ hej;have h02 : Below w0.heap.size w0 wr := HBL.out.trans hbl2;replace k0 := (h02.cell (p := ⟨eb, eo + j * 2, none⟩) (by exact heb)).trans k0;replace k1 := (h02.cell (p := ⟨eb, eo + j * 2 + 1, none⟩) (by exact heb)).trans k1;obtain ⟨wa, hwa, hba, HEA, hza, HSA⟩ := box2 wr (.int .i64 ea) (.int .i64 ep) 74;have HDA := bk (bk HD0 h02) hba;have HNA := Lib.hid ((HN0.out.up h02).up hba);obtain ⟨PE, hPE⟩ : ∃ z, z = wr.heap.size := ⟨_, rfl⟩
     have HPE := Lib.hid hPE;have hPEl : wr.heap.size ≤ PE ∧ PE ≤ wr.heap.size := by omega
     have hPEa : PE < wa.heap.size := by omega
     rw [← hPE] at HEA;have HWA := Lib.hid hwa;have hzaa := hba.size;obtain ⟨r0, r1, r2, rf⟩ := cells3 HDA;rw [hwa] at r0 r1 r2;have HEJ := Lib.hid hej;have hjl : (j : Int) < (l.length : Int) := by omega
     have HBA := Lib.hid hba;clear hwa hPE hcells hej rf;go_wp2_with fail;rw [← HWA.out, ← HPE.out];clear r0 r1 r2 k0 k1;refine (spec_neFirst _ _ _ n k j l (ea, ep) wa HNA.out HL.out HEJ.out).mono ?_;rintro e w2 ⟨rfl, hb2⟩;have hB2 : Below wr.heap.size wr w2 := bl_trans HBA.out hb2;have hzz2 := hb2.size;by_cases hf : firstB k j (ea, ep) = true
     ·
      rw [hf];have HF := Lib.hid (show edV n k ++ edI k l (j + 1) = (edV n k ++ edI k l j) ++ [((k : Int), (j : Int), ea, ep)] by rw [edI_at HEJ.out, if_pos hf, List.append_assoc]);obtain ⟨vs, h1, h2⟩ := HE2.out.keep hB2.size (fun b _ hb => hB2.block b hb);obtain ⟨LE, hLE⟩ : ∃ z, z = (edV n k ++ edI k l j).length := ⟨_, rfl⟩
      have hLE3 : LE ≤ 300 := by rw [hLE, List.length_append];have := HEL.out;have := edI_len k l j;omega
      have HSN := Lib.hid (fun v' w' hn hg => EdsR.snoc (w := w2) (w' := w') (base := w0.heap.size) (v' := v') ((k : Int), (j : Int), ea, ep) h1 h2 (by omega) hn hg);rw [← hLE] at h1 HSN;have H1 := Lib.hid h1;have hbs : w0.heap.size ≤ (w2.alloc (.cells #[.int .i64 (k : Int), .int .i64 (j : Int), .int .i64 ea, .int .i64 ep] 3)).heap.size := by simp only [World.size_alloc]; omega
      obtain ⟨t0, t1, tf⟩ := cells2 (bk HEA hb2);clear h1 h2 hLE hf;go_wp2_with (at_builtin; refine wpList_append1 (w2.alloc (.cells #[.int .i64 (k : Int), .int .i64 (j : Int), .int .i64 ea, .int .i64 ep] 3)) rfl (.tmp 27) (.tmp 35) 101 rfl w0.heap.size 25 _ 24 Tryz.underlying101 sliceInfo rfl _ _ _ rfl _ rfl (by show Value.slice (some ⟨w2.heap.size + 1, 0, none⟩) 1 1 = _; simp) (H1.out.alloc _) (by unfold maxLen; omega) (by omega) hbs ?_; intro v' w' hown' hbl' hgr' hlt' hob')
      go_roundw
      case rel => exact ⟨j + 1, by omega, by go_num, by rw [HF.out]; exact HSN.out _ _ hown' hgr', HB2.out.trans ((hB2.mono (show w0.heap.size ≤ wr.heap.size by omega)).trans (((bl_alloc (Below.refl w2.heap.size w2) _).mono (show w0.heap.size ≤ w2.heap.size by omega)).trans hbl'))⟩
      case measure => simp [intOf]; omega
     ·
      have HF := Lib.hid (show edI k l (j + 1) = edI k l j by rw [edI_at HEJ.out, if_neg hf, List.append_nil]);rw [show firstB k j (ea, ep) = false by simpa using hf];go_wp2_with fail;go_roundw
      case rel => exact ⟨j + 1, by omega, by go_num, by rw [HF.out]; exact HE2.out.keep hB2.size (fun b _ hb => hB2.block b hb), HB2.out.trans (hB2.mono (by omega))⟩
      case measure => simp [intOf]; omega
    ·
     obtain rfl : j = l.length := by omega
     have hjj : ((l.length : Int) < (l.length : Int)) = False := eq_false (by omega);go_wp2_with fail;go_roundw
     case rel => exact ⟨k + 1, by omega, by go_num, by rw [HVK.out]; exact HE2.out, HBL.out.trans HB2.out⟩
     case measure => simp [intOf]; omega
  ·
   obtain rfl : k = n.es.length := by omega
   have HR := Lib.hid (show EdsR wr w.heap.size _ (edV n n.es.length) from by
    obtain ⟨vs, h1, h2⟩ := HE.out
    exact ⟨vs, own_mono h1 (by omega), fun k x hx => by obtain ⟨g, a, b, c⟩ := h2 k x hx; exact ⟨g, a, by omega, c⟩⟩)
   go_wp2_with fail;go_ret;exact ⟨_, rfl, HR.out, hB⟩
end Go.Proofs.YtdghoienjegffaaGreat
