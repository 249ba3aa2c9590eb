/-
  Situations, the reference's side: CountStates, StateNumber, StatesOfNumber.
-/
import Derived.Test.YtfhecpkhifdnbaaGreatNetCount
import Derived.Deep.QuietTactic
import Derived.BigQuiet
namespace Go.Proofs.YtfhecpkhifdnbaaGreat
open Go.RowKit
set_option linter.unusedVariables false
set_option linter.unusedSimpArgs false
/-- Asked, and not too many situations. -/
noncomputable def cvB (n : Net) (r : Int) : Bool := askB n r && decide (capd (cnts n r) ≤ 3000)
theorem askB_net {n : Net} {r : Int} (h : askB n r = true) : netP n := (propB_iff.1 h).1
theorem spec_cvAsked (ve vi vn : Value) (n : Net) (r : Int) (w : World) (h : NetR w w.heap.size ve vi vn n) (hz : n.es.length ≤ 2000000) :
    Calls Tryz.prog 47 #[.agg #[ve, vi, vn], .int .i64 r] w fun e w' => e = .returned (.bool (cvB n r)) ∧ Below w.heap.size w w' := by
  have HE := Lib.hid (show cvB n r = (askB n r && decide (capd (cnts n r) ≤ 3000)) from rfl)
  obtain ⟨⟨A0, m0, c0, rfl⟩, ⟨A1, m1, c1, rfl⟩, A2, m2, c2, rfl⟩ := h.slices
  obtain ⟨w0, hw0, hB, HD, hz0, HS0⟩ := box3 w (.slice A0 m0 c0) (.slice A1 m1 c1) (.slice A2 m2 c2) 31
  have HN0 := Lib.hid h; have HN := Lib.hid (h.up hB); clear h
  have HW0 := Lib.hid hw0; clear hw0
  obtain ⟨q0, q1, q2, qf⟩ := cells3 HD
  go_enter Tryz.func47, Tryz.ntmps47
  go_wp2_with fail
  rw [← HW0.out]
  refine (spec_ssAsked _ _ _ n r w0 HN.out hz).mono ?_
  rintro e w1 ⟨rfl, hb1⟩
  have hzhb1 := hb1.size
  clear q0 q1 q2 qf
  replace HD := bk HD hb1
  replace HN := Lib.hid (HN.out.up hb1)
  replace hB := bl_trans hB hb1
  obtain ⟨q0, q1, q2, qf⟩ := cells3 HD
  cases h1 : askB n r with
  | false =>
    go_wp2_with fail
    go_ret
    exact ⟨ret_bool (by rw [HE.out, h1]; rfl), hB⟩
  | true =>
    have HP := Lib.hid (askB_net h1)
    go_wp2_with fail
    refine (spec_cvCount _ _ _ n r w1 HN.out HP.out).mono ?_
    rintro e w2 ⟨rfl, hb2⟩
    generalize capd (cnts n r) = q at *
    go_wp2_with fail
    go_ret
    exact ⟨ret_bool (by rw [HE.out, h1]; rfl), bl_trans hB hb2⟩
/-- The number of situations that CountStates tells. -/
noncomputable def ctN (n : Net) (r : Int) : Int := if cvB n r = true then capd (cnts n r) else 0
theorem ctN_t {n : Net} {r : Int} (h : cvB n r = true) : ctN n r = capd (cnts n r) := if_pos h
theorem ctN_f {n : Net} {r : Int} (h : cvB n r = false) : ctN n r = 0 := if_neg (by rw [h]; simp)
theorem cvB_net {n : Net} {r : Int} (h : cvB n r = true) : netP n := by
  unfold cvB at h
  rw [Bool.and_eq_true] at h
  exact askB_net h.1
theorem ret_pair {a b : Int} {c d : Bool} (h : a = b) (h' : c = d) : Ending.returned (.tuple #[.int .i64 a, .bool c]) = .returned (.tuple #[.int .i64 b, .bool d]) := by rw [h, h']
/-! ### The number of a situation -/
def numS : List Int → List Int → Int
  | k :: cs, s :: ss => numS cs ss * k + s
  | _, _ => 0
def prodI (l : List Int) : Int := l.foldr (fun k a => k * a) 1
theorem prodI_pos {l : List Int} (h : ∀ x ∈ l, 1 ≤ x) : 1 ≤ prodI l := by
  induction l with
  | nil => show (1 : Int) ≤ 1; omega
  | cons y r ih =>
    have h1 := h y (by simp)
    have h2 := ih fun x hx => h x (by simp [hx])
    have h3 : (1 : Int) * 1 ≤ y * prodI r := Int.mul_le_mul h1 h2 (by omega) (by omega)
    show 1 ≤ y * prodI r
    omega
theorem prodI_drop {l : List Int} (h : ∀ x ∈ l, 1 ≤ x) (k : Nat) : prodI (l.drop k) ≤ prodI l := by
  induction k generalizing l with
  | zero => exact Int.le_refl _
  | succ k ih =>
    cases l with
    | nil => exact Int.le_refl _
    | cons y r =>
      have h1 := h y (by simp)
      have hr : ∀ x ∈ r, 1 ≤ x := fun x hx => h x (by simp [hx])
      have h2 := ih hr
      have h3 := prodI_pos hr
      have h4 : 1 * prodI r ≤ y * prodI r := Int.mul_le_mul_of_nonneg_right h1 (by omega)
      show prodI (r.drop k) ≤ y * prodI r
      omega
theorem capG_prod {l : List Int} (h : ∀ x ∈ l, 1 ≤ x) : ∀ {a : Int}, 1 ≤ a → capG l a ≤ 3000 → capG l a = a * prodI l := by
  induction l with
  | nil => intro a _ _; show a = a * 1; omega
  | cons y r ih =>
    intro a ha hc
    have hy := h y (by simp)
    have hr : ∀ x ∈ r, 1 ≤ x := fun x hx => h x (by simp [hx])
    have e2 : capG (y :: r) a = capG r (if a * y < 3001 then a * y else 3001) := rfl
    rw [e2] at hc ⊢
    by_cases hlt : a * y < 3001
    · rw [if_pos hlt] at hc ⊢
      have hay : (1 : Int) * 1 ≤ a * y := Int.mul_le_mul ha hy (by omega) (by omega)
      rw [ih hr (by omega) hc]
      show a * y * prodI r = a * (y * prodI r)
      rw [Int.mul_assoc]
    · rw [if_neg hlt, capG_top hr] at hc
      omega
/-- Valid states. -/
def Sts (cs ss : List Int) : Prop := cs.length = ss.length ∧ ∀ (v : Nat) (k s : Int), cs[v]? = some k → ss[v]? = some s → 0 ≤ s ∧ s < k
theorem Sts.tail {k s : Int} {cs ss : List Int} (h : Sts (k :: cs) (s :: ss)) : Sts cs ss := ⟨by have := h.1; simpa using this, fun v a b ha hb => h.2 (v + 1) a b (by simpa using ha) (by simpa using hb)⟩
theorem numS_bd : ∀ {cs ss : List Int}, Sts cs ss → (∀ x ∈ cs, 1 ≤ x) → 0 ≤ numS cs ss ∧ numS cs ss < prodI cs
  | [], [], _, _ => by show (0 : Int) ≤ 0 ∧ (0 : Int) < 1; omega
  | k :: cs, s :: ss, h, hk => by
    obtain ⟨h1, h2⟩ := numS_bd h.tail fun x hx => hk x (by simp [hx])
    obtain ⟨s0, s1⟩ := h.2 0 k s rfl rfl
    have hk1 := hk k (by simp)
    have m1 : 0 ≤ numS cs ss * k := Int.mul_nonneg h1 (by omega)
    have m2 : (numS cs ss + 1) * k ≤ prodI cs * k := Int.mul_le_mul_of_nonneg_right (by omega) (by omega)
    rw [Int.add_mul, Int.one_mul] at m2
    show 0 ≤ numS cs ss * k + s ∧ numS cs ss * k + s < k * prodI cs
    rw [Int.mul_comm k]
    omega
  | [], _ :: _, h, _ => by have := h.1; simp at this
  | _ :: _, [], h, _ => by have := h.1; simp at this
theorem Sts.drop {cs ss : List Int} (h : Sts cs ss) (k : Nat) : Sts (cs.drop k) (ss.drop k) :=
  ⟨by simp [h.1], fun v a b ha hb => by rw [List.getElem?_drop] at ha hb; exact h.2 _ a b ha hb⟩
theorem numS_step {cs ss : List Int} {v : Nat} {k s : Int} (hk : cs[v]? = some k) (hs : ss[v]? = some s) : numS (cs.drop v) (ss.drop v) = numS (cs.drop (v + 1)) (ss.drop (v + 1)) * k + s := by
  obtain ⟨h1, e1⟩ := List.getElem?_eq_some_iff.1 hk
  obtain ⟨h2, e2⟩ := List.getElem?_eq_some_iff.1 hs
  rw [List.drop_eq_getElem_cons h1, List.drop_eq_getElem_cons h2, e1, e2]
  rfl
/-- Counts whose situations are few. -/
def Few (cs : List Int) : Prop := (∀ x ∈ cs, 1 ≤ x ∧ x ≤ 41) ∧ prodI cs ≤ 3000 ∧ cs.length ≤ 40
theorem few_of {n : Net} {r : Int} (h : cvB n r = true) : Few (cnts n r) ∧ capd (cnts n r) = prodI (cnts n r) := by
  have hn := cvB_net h
  unfold cvB at h
  rw [Bool.and_eq_true, decide_eq_true_eq] at h
  have h1 := cnts_bd hn r
  have e : capd (cnts n r) = 1 * prodI (cnts n r) := capG_prod (fun x hx => (h1 x hx).1) (a := 1) (by omega) h.2
  rw [Int.one_mul] at e
  exact ⟨⟨h1, by rw [← e]; exact h.2, by rw [cnts_len]; exact hn.1.2⟩, e⟩
theorem few_num {cs ss : List Int} (hf : Few cs) (h : Sts cs ss) (v : Nat) : 0 ≤ numS (cs.drop v) (ss.drop v) ∧ numS (cs.drop v) (ss.drop v) ≤ 3000 := by
  have h1 : ∀ x ∈ cs, 1 ≤ x := fun x hx => (hf.1 x hx).1
  obtain ⟨a, b⟩ := numS_bd (h.drop v) fun x hx => h1 x (List.mem_of_mem_drop hx)
  have := prodI_drop h1 v
  have := hf.2.1
  omega
def NumRel (cs ss : List Int) (w : World) (o i : Value) (wr : World) : Prop := (∃ q, wr = w.drewN q) ∧ ∃ k : Nat, k ≤ ss.length ∧ i = .int .i64 ((k : Int) - 1) ∧ o = .int .i64 (numS (cs.drop k) (ss.drop k))
theorem spec_cvNumber (v v' : Value) (cs ss : List Int) (w : World) (h : IntsR w w.heap.size v cs) (h' : IntsR w w.heap.size v' ss) (hf : Few cs) (hs : Sts cs ss) :
    Calls Tryz.prog 49 #[v, v'] w fun e w' => e = .returned (.int .i64 (numS cs ss)) ∧ ∃ q, w' = w.drewN q := by
  obtain ⟨A, c, rfl, h1, h2, h3⟩ := h.open_
  obtain ⟨A', c', rfl, h1', h2', h3'⟩ := h'.open_
  unfold maxLen at h2 h2'
  have h40 := hf.2.2
  have hl := hs.1
  have HL := Lib.hid hl
  have hl40 : ss.length ≤ 40 := by omega
  have HF := Lib.hid hf
  have HS := Lib.hid hs
  clear h h' hl hf hs
  go_enter Tryz.func49, Tryz.ntmps49
  go_wp2_with fail
  go_loopw [5, 6] (fun o i wr => NumRel cs ss w o i wr) (fun _ i _ => (intOf i + 1).toNat)
  case atStart => exact ⟨⟨0, rfl⟩, ss.length, Nat.le_refl _, by go_num, by rw [List.drop_of_length_le (Nat.le_refl _)]; unfold numS; split <;> simp_all⟩
  case round =>
    obtain ⟨⟨m, rfl⟩, k, hk, rfl, rfl⟩ := hrel
    by_cases hlt : 0 < k
    · obtain ⟨j, rfl⟩ : ∃ j, k = j + 1 := ⟨k - 1, by omega⟩
      obtain ⟨x, hx⟩ : ∃ y, cs[j]? = some y := ⟨_, List.getElem?_eq_getElem (by rw [HL.out]; omega)⟩
      obtain ⟨s, hs⟩ : ∃ y, ss[j]? = some y := ⟨_, List.getElem?_eq_getElem (by omega)⟩
      obtain ⟨ad, rfl, hb, hc⟩ := h3 (by rw [HL.out]; omega)
      obtain ⟨ad', rfl, hb', hc'⟩ := h3' (by omega)
      have q1 : (w.drewN m).cell? (ad.add j) = some (.int .i64 x) := hc j x hx
      have q2 : (w.drewN m).cell? (ad'.add j) = some (.int .i64 s) := hc' j s hs
      have k1 := hc j x hx
      have k2 := hc' j s hs
      have hxb := HF.out.1 x (List.mem_of_getElem? hx)
      have hsb := HS.out.2 j x s hx hs
      have hn := few_num HF.out HS.out (j + 1)
      have hn2 := few_num HF.out HS.out j
      rw [numS_step hx hs] at hn2
      have HST := Lib.hid (numS_step hx hs)
      have hjc : j < cs.length := by rw [HL.out]; omega
      clear h3 h3' hc hc' hx hs
      generalize numS (cs.drop (j + 1)) (ss.drop (j + 1)) = q at *
      have hm0 : 0 ≤ q * x := Int.mul_nonneg hn.1 (by omega)
      have hwr : IntKind.i64.wrap (q * x) = q * x := IntWalk.i64_in _ (by omega)
      have hwr2 : IntKind.i64.wrap (q * x + s) = q * x + s := IntWalk.i64_in _ (by omega)
      have hji : ((j + 1 : Nat) : Int) - 1 = (j : Int) := by omega
      rw [hji]
      go_wp2_with fail
      go_quiet (fail)
      go_wp2_with fail
      go_roundw
      case rel => exact ⟨⟨m + nq, rfl⟩, j, by omega, by go_num, by rw [HST.out]⟩
      case measure => simp [intOf]
    · obtain rfl : k = 0 := by omega
      go_wp2_with fail
      go_ret
      exact ⟨rfl, m, rfl⟩
/-! ### The states of a number -/
def stsS : List Int → Int → List Int
  | [], _ => []
  | k :: cs, x => x.tmod k :: stsS cs (x.tdiv k)
theorem stsS_len : ∀ (cs : List Int) (x : Int), (stsS cs x).length = cs.length
  | [], _ => rfl
  | k :: cs, x => by unfold stsS; simp [stsS_len]
theorem stsS_ok : ∀ {cs : List Int} {x : Int}, (∀ k ∈ cs, 1 ≤ k) → 0 ≤ x → Sts cs (stsS cs x)
  | [], _, _, _ => ⟨rfl, fun v a b h => by simp at h⟩
  | k :: cs, x, h, hx => by
    have hk := h k (by simp)
    have ih := stsS_ok (cs := cs) (x := x.tdiv k) (fun a ha => h a (by simp [ha])) (Int.tdiv_nonneg hx (by omega))
    refine ⟨by unfold stsS; simp [stsS_len], fun v a b ha hb => ?_⟩
    cases v with
    | zero =>
      unfold stsS at hb
      simp only [List.getElem?_cons_zero, Option.some.injEq] at ha hb
      subst ha hb
      exact ⟨Int.tmod_nonneg _ hx, Int.tmod_lt_of_pos _ (by omega)⟩
    | succ v =>
      unfold stsS at hb
      exact ih.2 v a b (by simpa using ha) (by simpa using hb)
/-- The states up to k, and what is left of the number. -/
def StRest (cs : List Int) (x : Int) (k : Nat) (y : Int) : Prop := stsS cs x = (stsS cs x).take k ++ stsS (cs.drop k) y ∧ 0 ≤ y ∧ y ≤ x
theorem StRest.start (cs : List Int) {x : Int} (h : 0 ≤ x) : StRest cs x 0 x := ⟨by simp, h, Int.le_refl _⟩
theorem StRest.next {cs : List Int} {x y a : Int} {k : Nat} (h : StRest cs x k y) (ha : cs[k]? = some a) (h1 : 1 ≤ a) : StRest cs x (k + 1) (y.tdiv a) ∧ (stsS cs x)[k]? = some (y.tmod a) := by
  obtain ⟨e, h0, hx⟩ := h
  obtain ⟨hk, ea⟩ := List.getElem?_eq_some_iff.1 ha
  have e2 : stsS (cs.drop k) y = y.tmod a :: stsS (cs.drop (k + 1)) (y.tdiv a) := by
    rw [List.drop_eq_getElem_cons hk, ea]
    rfl
  have hl : ((stsS cs x).take k).length = k := by rw [List.length_take, stsS_len]; omega
  have e3 : (stsS cs x)[k]? = some (y.tmod a) := by
    rw [e, e2, List.getElem?_append_right (by omega), hl, Nat.sub_self]
    rfl
  refine ⟨⟨?_, Int.tdiv_nonneg h0 (by omega), Int.le_trans (Int.tdiv_le_self _ h0) hx⟩, e3⟩
  obtain ⟨hk3, e4⟩ := List.getElem?_eq_some_iff.1 e3
  rw [List.take_succ_eq_append_getElem hk3, e4, List.append_assoc]
  rw [e2] at e
  exact e
def StsRel (cs : List Int) (x : Int) (w : World) (v xv i : Value) (wr : World) : Prop :=
  ∃ (k : Nat) (y : Int), k ≤ cs.length ∧ i = .int .i64 k ∧ xv = .int .i64 y ∧ StRest cs x k y ∧ wr.ownsRow w.heap.size 3 1 v k (((stsS cs x).take k).map intV) ∧ Below w.heap.size w wr
theorem spec_cvStates (v : Value) (cs : List Int) (x : Int) (w : World) (h : IntsR w w.heap.size v cs) (hf : Few cs) (hx0 : 0 ≤ x) (hx1 : x ≤ 3000) :
    Calls Tryz.prog 136 #[v, .int .i64 x] w fun e w' => ∃ u, e = .returned u ∧ (∃ A m c, u = .slice A m c) ∧ IntsR w' w'.heap.size u (stsS cs x) ∧ Below w.heap.size w w' := by
  obtain ⟨A, c, rfl, h1, h2, h3⟩ := h.open_
  unfold maxLen at h2
  have h40 := hf.2.2
  have HF := Lib.hid hf
  clear h hf
  have HLS := Lib.hid (stsS_len cs x)
  go_enter Tryz.func136, Tryz.ntmps136
  go_wp2_with fail
  go_loopw [5, 7, 1, 10] (fun v _ xv i wr => StsRel cs x w v xv i wr) (fun _ _ _ i _ => cs.length - (intOf i).toNat)
  case atStart => exact ⟨0, x, Nat.zero_le _, rfl, rfl, .start cs hx0, World.ownsRow_nil _ _ _ _, Below.refl _ _⟩
  case round =>
    obtain ⟨k, y, hk, rfl, rfl, hst, hown, hbl⟩ := hrel
    by_cases hlt : k < cs.length
    · obtain ⟨a, ha⟩ : ∃ a, cs[k]? = some a := ⟨_, List.getElem?_eq_getElem hlt⟩
      obtain ⟨ad, rfl, hb, hc⟩ := h3 (by omega)
      have hcell := (hbl.cell (p := ad.add k) (by rw [block_add]; exact hb)).trans (hc k a ha)
      have hab := HF.out.1 a (List.mem_of_getElem? ha)
      obtain ⟨hn1, hn2⟩ := hst.next ha hab.1
      have HN := Lib.hid hn1
      have HS := Lib.hid (ints_snoc hn2)
      have hy : 0 ≤ y ∧ y ≤ 3000 := by have := hst.2; omega
      have hm : 0 ≤ y.tmod a ∧ y.tmod a < 41 := ⟨Int.tmod_nonneg _ hy.1, by have := Int.tmod_lt_of_pos y (show 0 < a by omega); omega⟩
      have hd : 0 ≤ y.tdiv a ∧ y.tdiv a ≤ 3000 := ⟨Int.tdiv_nonneg hy.1 (by omega), by have := Int.tdiv_le_self a hy.1; omega⟩
      have hnz : (a == 0) = false := by rw [beq_eq_false_iff_ne]; omega
      have hwd : IntKind.i64.wrap (y.tdiv a) = y.tdiv a := IntWalk.i64_in _ (by omega)
      have hwm : IntKind.i64.wrap (y.tmod a) = y.tmod a := IntWalk.i64_in _ (by omega)
      clear h3 hc ha hst hn1 hn2
      generalize hqm : y.tmod a = qm at *
      generalize hqd : y.tdiv a = qd at *
      go_wp2_with ((at_builtin; refine wpList_append1 wr rfl (.tmp 14) (.tmp 18) 23 rfl w.heap.size 3 _ 8 Tryz.underlying23 intInfo rfl _ _ _ rfl _ rfl rfl hown (by unfold maxLen; omega) (by omega) hbl.size ?_; intro v' w' hown' hbl' hgr' hlt' hob'))
      go_roundw
      case rel => exact ⟨k + 1, qd, by omega, by go_num, rfl, HN.out, by rw [HS.out]; exact hown', hbl.trans hbl'⟩
      case measure => simp [intOf]; omega
    · have hI := IntsRel.fin hown (by rw [HLS.out]; omega) (fun z hz => by
        obtain ⟨j, hj⟩ := List.mem_iff_getElem?.1 hz
        have hjl : j < cs.length := by rw [← HLS.out]; exact (List.getElem?_eq_some_iff.1 hj).1
        have := (stsS_ok (x := x) (fun k hk => (HF.out.1 k hk).1) hx0).2 j _ z (List.getElem?_eq_getElem hjl) hj
        have := HF.out.1 _ (List.getElem_mem hjl)
        unfold I64
        omega)
      have HO := Lib.hid hI; clear hI hown
      go_wp2_with fail
      go_ret
      exact ⟨_, rfl, HO.out.isSlice, HO.out, hbl⟩
end Go.Proofs.YtfhecpkhifdnbaaGreat
