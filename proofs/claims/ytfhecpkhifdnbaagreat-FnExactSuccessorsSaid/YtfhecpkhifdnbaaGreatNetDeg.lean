/-
  Networks, the program's side: degrees, inputs that are one, what a daemon and a rule is, how many situations there are.
-/
import Derived.Test.YtfhecpkhifdnbaaGreatNetIs
import Derived.Test.YtfhecpkhifdnbaaGreatNetTop
namespace Go.Proofs.YtfhecpkhifdnbaaGreat
open Go.RowKit
set_option linter.unusedVariables false
set_option linter.unusedSimpArgs false
theorem impl_degrees (ve vi vn : Value) (n : Net) (w : World) (h : NetR w w.heap.size ve vi vn n) (hp : netP n) :
    Calls Tryz.prog 163 #[.agg #[ve, vi, vn]] w fun e w' => ∃ u, e = .returned u ∧ (∃ A m c, u = .slice A m c) ∧ IntsR w' w'.heap.size u (degs n) ∧ Below w.heap.size w w' := by
  have h40 := hp.1.2
  have HP := Lib.hid hp; clear hp
  obtain ⟨⟨A0, m0, c0, rfl⟩, ⟨A1, m1, c1, rfl⟩, A2, m2, c2, rfl⟩ := h.slices
  obtain ⟨w0, hw0, hB, HD, hz0, HS0⟩ := box3 w (.slice A0 m0 c0) (.slice A1 m1 c1) (.slice A2 m2 c2) 31
  have HN0 := Lib.hid h; have HN := Lib.hid (h.up hB); clear h
  have HW0 := Lib.hid hw0; clear hw0
  obtain ⟨q0, q1, q2, qf⟩ := cells3 HD
  obtain ⟨hm0, -, -⟩ := HN.out.e.len_slice
  subst hm0
  have hdl : (degs n).length = n.es.length := by unfold degs; simp
  have HDL := Lib.hid hdl; clear hdl
  go_enter Tryz.func163, Tryz.ntmps163
  go_wp2_with fail
  rw [← HW0.out]
  go_loopw [3, 5, 9] (fun v _ i wr => IntsRel (degs n) w0 v i wr) (fun _ _ i _ => n.es.length - (intOf i).toNat)
  case atStart => exact ⟨0, Nat.zero_le _, rfl, World.ownsRow_nil _ _ _ _, Below.refl _ _⟩
  case round =>
    obtain ⟨k, hk, rfl, hown, hb1⟩ := hrel
    rw [HDL.out] at hk
    have hzhb1 := hb1.size
    clear q0 q1 q2 qf
    replace HD := bk HD hb1
    replace HN := Lib.hid (HN.out.up hb1)
    replace hB := bl_trans hB hb1
    obtain ⟨q0, q1, q2, qf⟩ := cells3 HD
    by_cases hlt : k < n.es.length
    · obtain ⟨l, hl⟩ : ∃ y, n.es[k]? = some y := ⟨n.es[k], List.getElem?_eq_getElem hlt⟩
      obtain ⟨ad, rfl⟩ : ∃ ad, A0 = some ad := by
        obtain ⟨A', c', e, -, -, h3⟩ := HN.out.e
        obtain ⟨ad, e', -⟩ := h3 (by omega)
        cases e
        exact ⟨ad, e'⟩
      obtain ⟨hbb, u, hu, hr⟩ := HN.out.e.at_ hl
      obtain ⟨A', c', rfl, -⟩ := hr
      have hl6 := HP.out.len hl
      have HS := Lib.hid (degs_snoc n k l hl)
      clear hl hbb
      go_wp2_with ((at_builtin; refine wpList_append1 wr rfl (.tmp 13) (.tmp 16) 23 rfl w0.heap.size 3 _ 8 Tryz.underlying23 intInfo rfl _ _ _ rfl _ rfl rfl hown (by unfold maxLen; omega) (by omega) hb1.size ?_; intro v' w' hown' hbl' hgr' hlt' hob'))
      go_roundw
      case rel => exact ⟨k + 1, by rw [HDL.out]; omega, by go_num, by rw [HS.out]; exact hown', hb1.trans hbl'⟩
      case measure => simp [intOf]; omega
    · have hI := IntsRel.fin hown (by rw [HDL.out]; omega) (fun x hx => small_I64 (degs_bd HP.out x hx) (by omega) (by omega))
      have HO := Lib.hid hI; clear hI hown
      go_wp2_with fail
      go_ret
      exact ⟨_, rfl, HO.out.isSlice, HO.out, hB⟩
theorem impl_isRule (r : Int) (w : World) : Calls Tryz.prog 159 #[.int .i64 r] w fun e w' => e = .returned (.bool (inB r 1 5)) ∧ w = w' := by
  go_enter Tryz.func159, Tryz.ntmps159
  go_wp2_with (go_at_call 75; refine (impl_within _ _ _ _).mono ?_; rintro e w' ⟨rfl, rfl⟩)
  go_ret
  exact ⟨rfl, rfl⟩
theorem impl_oneIf (b : Bool) (w : World) : Calls Tryz.prog 225 #[.bool b] w fun e w' => e = .returned (.int .i64 (if b = true then 1 else 0)) ∧ w = w' := by
  cases b with
  | true =>
    go_enter Tryz.func225, Tryz.ntmps225
    go_wp2_with fail
    go_ret
    exact ⟨rfl, rfl⟩
  | false =>
    go_enter Tryz.func225, Tryz.ntmps225
    go_wp2_with fail
    go_ret
    exact ⟨rfl, rfl⟩
theorem ones_snocI {xs : List Int} {k : Nat} {x : Int} (h : xs[k]? = some x) : ((onesN (xs.take (k + 1)) : Nat) : Int) = (onesN (xs.take k) : Nat) + if x = 1 then 1 else 0 := by
  rw [ones_snoc h]
  by_cases e : x = 1 <;> simp [e]
def OnesRel (xs : List Int) (w : World) (o i : Value) (wr : World) : Prop := w = wr ∧ ∃ k : Nat, k ≤ xs.length ∧ i = .int .i64 k ∧ o = .int .i64 (onesN (xs.take k) : Nat)
theorem impl_ones (v : Value) (xs : List Int) (w : World) (h : IntsR w w.heap.size v xs) :
    Calls Tryz.prog 242 #[v] w fun e w' => e = .returned (.int .i64 (onesN xs : Nat)) ∧ w = w' := by
  obtain ⟨A, c, rfl, h1, h2, h3⟩ := h.open_
  unfold maxLen at h2
  clear h
  go_enter Tryz.func242, Tryz.ntmps242
  go_wp2_with fail
  go_loopw [3, 5, 8] (fun o _ i wr => OnesRel xs w o i wr) (fun _ _ i _ => xs.length - (intOf i).toNat)
  case atStart => exact ⟨rfl, 0, Nat.zero_le _, rfl, rfl⟩
  case round =>
    obtain ⟨rfl, k, hk, rfl, rfl⟩ := hrel
    have hc : onesN (xs.take k) ≤ k := by
      have := List.countP_le_length (p := fun x : Int => x == 1) (l := xs.take k)
      rw [List.length_take] at this
      unfold onesN
      omega
    by_cases hlt : k < xs.length
    · obtain ⟨x, hx⟩ : ∃ y, xs[k]? = some y := ⟨xs[k], List.getElem?_eq_getElem hlt⟩
      obtain ⟨ad, rfl, hb, hc'⟩ := h3 (by omega)
      have hcell := hc' k x hx
      have HS := Lib.hid (ones_snocI hx)
      have hwr : ∀ b : Bool, IntKind.i64.wrap ((onesN (xs.take k) : Nat) + if b = true then (1 : Int) else 0) = (onesN (xs.take k) : Nat) + if b = true then (1 : Int) else 0 := fun b => IntWalk.i64_in _ (by cases b <;> simp <;> omega)
      clear h3 hc' hx
      go_wp2_with (go_at_call 225; refine (impl_oneIf _ _).mono ?_; rintro e w' ⟨rfl, rfl⟩)
      go_roundw
      case rel => exact ⟨rfl, k + 1, by omega, by go_num, by rw [HS.out]⟩
      case measure => simp [intOf]; omega
    · have HF := Lib.hid (show xs.take k = xs from List.take_of_length_le (by omega))
      go_wp2_with fail
      go_ret
      exact ⟨by rw [HF.out]; rfl, rfl⟩
/-- The product so far; what is left to be counted. -/
def SitRel (xs : List Int) (w : World) (o i : Value) (wr : World) : Prop := w = wr ∧ ∃ (k : Nat) (a : Int), k ≤ xs.length ∧ i = .int .i64 k ∧ o = .int .i64 a ∧ 1 ≤ a ∧ a ≤ 3000 ∧ sitG xs 1 = sitG (xs.drop k) a
theorem impl_situationCount (v : Value) (xs : List Int) (w : World) (h : IntsR w w.heap.size v xs) (hb1 : ∀ x ∈ xs, 1 ≤ x ∧ x ≤ 41) :
    Calls Tryz.prog 100 #[v] w fun e w' => e = .returned (.int .i64 (sitG xs 1)) ∧ w = w' := by
  obtain ⟨A, c, rfl, h1, h2, h3⟩ := h.open_
  unfold maxLen at h2
  have HB := Lib.hid hb1
  clear h hb1
  go_enter Tryz.func100, Tryz.ntmps100
  go_wp2_with fail
  go_loopw [3, 5, 8] (fun o _ i wr => SitRel xs w o i wr) (fun _ _ i _ => xs.length - (intOf i).toNat)
  case atStart => exact ⟨rfl, 0, 1, Nat.zero_le _, rfl, rfl, by omega, by omega, rfl⟩
  case round =>
    obtain ⟨rfl, k, a, hk, rfl, rfl, ha1, ha2, hs⟩ := hrel
    have HS := Lib.hid hs; clear hs
    by_cases hlt : k < xs.length
    · obtain ⟨x, hx⟩ : ∃ y, xs[k]? = some y := ⟨xs[k], List.getElem?_eq_getElem hlt⟩
      obtain ⟨ad, rfl, hb, hc'⟩ := h3 (by omega)
      have hcell := hc' k x hx
      have hxb := HB.out x (List.mem_of_getElem? hx)
      have hp1 : (1 : Int) * 1 ≤ a * x := Int.mul_le_mul ha1 hxb.1 (by omega) (by omega)
      have hp2 : a * x ≤ 3000 * 41 := Int.mul_le_mul ha2 hxb.2 (by omega) (by omega)
      have hwr : IntKind.i64.wrap (a * x) = a * x := IntWalk.i64_in _ (by omega)
      have hd : sitG (xs.drop k) a = if a * x > 3000 then 0 else sitG (xs.drop (k + 1)) (a * x) := by
        rw [List.drop_eq_getElem_cons hlt, show xs[k] = x from Option.some.inj ((List.getElem?_eq_getElem hlt).symm.trans hx)]
        rfl
      clear h3 hc' hx
      by_cases hgt : a * x > 3000
      · rw [if_pos hgt] at hd
        have HD := Lib.hid hd; clear hd
        go_wp2_with fail
        go_ret
        exact ⟨by rw [HS.out, HD.out]; rfl, rfl⟩
      · rw [if_neg hgt] at hd
        have HD := Lib.hid hd; clear hd
        go_wp2_with fail
        go_roundw
        case rel => exact ⟨rfl, k + 1, a * x, by omega, by go_num, rfl, by omega, by omega, by rw [HS.out, HD.out]⟩
        case measure => simp [intOf]; omega
    · have hd : sitG (xs.drop k) a = a := by rw [List.drop_eq_nil_of_le (by omega)]; rfl
      have HD := Lib.hid hd; clear hd
      go_wp2_with fail
      go_ret
      exact ⟨by rw [HS.out, HD.out]; rfl, rfl⟩
end Go.Proofs.YtfhecpkhifdnbaaGreat
