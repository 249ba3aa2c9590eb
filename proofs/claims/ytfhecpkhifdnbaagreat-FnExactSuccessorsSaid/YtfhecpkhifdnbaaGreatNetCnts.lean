/-
  Networks, the program's side: how many states each node has.
-/
import Derived.Test.YtfhecpkhifdnbaaGreatNetRule
namespace Go.Proofs.YtfhecpkhifdnbaaGreat
open Go.RowKit
set_option linter.unusedVariables false
set_option linter.unusedSimpArgs false
theorem most_max (l : List Int) (a : Int) : l.foldl (fun a x => if a > x then a else x) a = l.foldl max a := by
  have e : (fun a x : Int => if a > x then a else x) = max := by
    funext a x
    by_cases h : a > x
    · rw [if_pos h]; omega
    · rw [if_neg h]; omega
  rw [e]
theorem maxOf_most {l : List Int} (h0 : 0 < l.length) (h : ∀ x ∈ l, 0 ≤ x) : Lib.maxOf l = most l := by
  cases l with
  | nil => simp at h0
  | cons y r =>
    unfold Lib.maxOf most
    rw [most_max]
    simp only [List.headD_cons, List.foldl_cons]
    have := h y (by simp)
    rw [show max y y = y by omega, show max 0 y = y by omega]
theorem impl_Max (v : Value) (xs : List Int) (w : World) (h : IntsR w w.heap.size v xs) (h0 : 0 < xs.length) (hn : ∀ x ∈ xs, 0 ≤ x) :
    Calls Tryz.prog 162 #[v] w fun e w' => e = .returned (.int .i64 (most xs)) ∧ w = w' := by
  obtain ⟨A, c, rfl, h1, h2, h3⟩ := h.open_
  unfold maxLen at h2
  obtain ⟨ad, rfl, hb, hc⟩ := h3 h0
  obtain ⟨b, off, rfl, hcc⟩ := ints_cells h0 hc
  refine (Tryz.slices_Max_int b off xs.length c xs w h0 (Nat.le_refl _) (by omega) hcc).mono ?_
  rintro e w' ⟨rfl, rfl⟩
  rw [List.take_length, maxOf_most h0 hn]
  exact ⟨rfl, rfl⟩
theorem rep_ints {w : World} {g k : Nat} {x : Int} (h : NumsAt w g (List.replicate k x)) (hk : k ≤ 1000) (hx : I64 x) : IntsR w w.heap.size (.slice (some ⟨g, 0, none⟩) k k) (List.replicate k x) := by
  have := ints_row (B := w.heap.size) h (by unfold maxLen; simp; omega) (fun y hy => by rw [List.eq_of_mem_replicate hy]; exact hx) h.lt
  simpa using this
theorem impl_Repeat1 (x : Int) (k g : Nat) (w : World) (hg : w.heap.size = g) (hk : 1 ≤ k) (hk2 : k ≤ 1000) (hx : I64 x) :
    Calls Tryz.prog 161 #[.slice (some ⟨g, 0, none⟩) 1 1, .int .i64 (k : Int)] (w.alloc (.cells #[.int .i64 x] 3)) fun e w' => e = .returned (.slice (some ⟨g + 1, 0, none⟩) k k) ∧ IntsR w' w'.heap.size (.slice (some ⟨g + 1, 0, none⟩) k k) (List.replicate k x) ∧ Below w.heap.size w w' := by
  subst hg
  have hsz : (w.alloc (.cells #[.int .i64 x] 3)).heap.size = w.heap.size + 1 := by simp
  refine (impl_Repeat x k w.heap.size _ (heap_alloc_new w _) hk hk2).mono ?_
  rintro e w3 ⟨rfl, hnum, hb⟩
  have hI := rep_ints hnum hk2 hx
  have hB := (bl_alloc (Below.refl w.heap.size w) (.cells #[.int .i64 x] 3)).trans (hb.mono (by rw [show (w.alloc (.cells (List.map intV [x]).toArray 3)).heap.size = w.heap.size + 1 from hsz]; omega))
  rw [show (w.alloc (.cells (List.map intV [x]).toArray 3)).heap.size = w.heap.size + 1 from hsz] at hI ⊢
  exact ⟨rfl, hI, hB⟩
def CntPost (n : Net) (r : Int) (w : World) (e : Ending) (w' : World) : Prop := ∃ u, e = .returned u ∧ (∃ A m c, u = .slice A m c) ∧ IntsR w' w'.heap.size u (cnts n r) ∧ Below w.heap.size w w'
theorem cnts2 (n : Net) : cnts n 2 = List.replicate n.es.length (most (degs n) + 1) := if_pos rfl
theorem cnts3 (n : Net) : cnts n 3 = List.replicate n.es.length 2 := rfl
theorem cnts4 (n : Net) : cnts n 4 = (degs n).map (· + 1) := rfl
theorem cnts_else {n : Net} {r : Int} (h2 : r ≠ 2) (h3 : r ≠ 3) (h4 : r ≠ 4) : cnts n r = List.replicate n.es.length ((n.es.length : Int) + 1) := by
  unfold cnts
  rw [if_neg h2, if_neg h3, if_neg h4]
set_option maxRecDepth 100000 in
theorem impl_stateCounts (ve vi vn : Value) (n : Net) (r : Int) (w : World) (h : NetR w w.heap.size ve vi vn n) (hp : netP n) :
    Calls Tryz.prog 99 #[.agg #[ve, vi, vn], .int .i64 r] w (CntPost n r w) := by
  have h40 := hp.1
  have hdg := degs_bd hp
  have hdl : (degs n).length = n.es.length := by unfold degs; simp
  have HP := Lib.hid hp; clear hp
  obtain ⟨⟨A0, m0, c0, rfl⟩, ⟨A1, m1, c1, rfl⟩, A2, m2, c2, rfl⟩ := h.slices
  obtain ⟨w0, hw0, hB, HD, hz0, HS0⟩ := box3 w (.slice A0 m0 c0) (.slice A1 m1 c1) (.slice A2 m2 c2) 31
  have HN0 := Lib.hid h; have HN := Lib.hid (h.up hB); clear h
  have HW0 := Lib.hid hw0; clear hw0
  obtain ⟨q0, q1, q2, qf⟩ := cells3 HD
  obtain ⟨hm0, -, -⟩ := HN.out.e.len_slice
  subst hm0
  by_cases h2 : r = 2
  · subst h2
    have hm1 := most_nn (degs n)
    have hm2 := most_le (l := degs n) (b := 6) (by omega) fun x hx => (hdg x hx).2
    have hwr : IntKind.i64.wrap (most (degs n) + 1) = most (degs n) + 1 := IntWalk.i64_in _ (by omega)
    have HDG := Lib.hid hdg; clear hdg
    have HDL := Lib.hid hdl; clear hdl
    go_enter Tryz.func99, Tryz.ntmps99
    go_wp2_with fail
    rw [← HW0.out]
    refine (impl_degrees _ _ _ n w0 HN.out HP.out).mono ?_
    rintro e w1 ⟨u, rfl, ⟨A', m', c', rfl⟩, hu, hb1⟩
    have HU := Lib.hid hu; clear hu
    have hzhb1 := hb1.size
    clear q0 q1 q2 qf
    replace HD := bk HD hb1
    replace HN := Lib.hid (HN.out.up hb1)
    replace hB := bl_trans hB hb1
    obtain ⟨q0, q1, q2, qf⟩ := cells3 HD
    go_wp2_with fail
    refine (impl_Max _ (degs n) w1 HU.out (by rw [HDL.out]; omega) fun x hx => (HDG.out x hx).1).mono ?_
    rintro e w2 ⟨rfl, rfl⟩
    have HR := Lib.hid (cnts2 n)
    generalize most (degs n) = M at *
    go_wp2_with fail
    refine (impl_Repeat1 (M + 1) n.es.length w1.heap.size w1 rfl (by omega) (by omega) (by unfold I64; omega)).mono ?_
    rintro e w3 ⟨rfl, hI, hb3⟩
    have HI := Lib.hid hI; clear hI
    have HB := Lib.hid (bl_trans hB hb3); clear hb3
    go_wp2_with fail
    go_ret
    exact ⟨_, rfl, ⟨_, _, _, rfl⟩, by rw [HR.out]; exact HI.out, HB.out⟩
  · have q2 : (r == 2) = false := by rw [beq_eq_false_iff_ne]; exact h2
    by_cases h3 : r = 3
    · subst h3
      have HR := Lib.hid (cnts3 n)
      clear hdg hdl h2 q2
      go_enter Tryz.func99, Tryz.ntmps99
      go_wp2_with fail
      rw [← HW0.out]
      refine (impl_Repeat1 (2) n.es.length (w.heap.size + 1) w0 HS0.out (by omega) (by omega) (by unfold I64; omega)).mono ?_
      rintro e w3 ⟨rfl, hI, hb3⟩
      have HI := Lib.hid hI; clear hI
      have HB := Lib.hid (bl_trans hB hb3); clear hb3
      go_wp2_with fail
      go_ret
      exact ⟨_, rfl, ⟨_, _, _, rfl⟩, by rw [HR.out]; exact HI.out, HB.out⟩
    · have q3 : (r == 3) = false := by rw [beq_eq_false_iff_ne]; exact h3
      by_cases h4 : r = 4
      · subst h4
        have HDG := Lib.hid hdg; clear hdg
        have HDL := Lib.hid hdl; clear hdl
        have HR := Lib.hid (cnts4 n)
        have HCL := Lib.hid (cnts_len n 4)
        clear h2 h3 q2 q3
        go_enter Tryz.func99, Tryz.ntmps99
        go_wp2_with fail
        rw [← HW0.out]
        refine (impl_degrees _ _ _ n w0 HN.out HP.out).mono ?_
        rintro e w1 ⟨u, rfl, ⟨A', m', c', rfl⟩, hu, hb1⟩
        obtain ⟨hm', -, hcm, hc⟩ := hu.some_
        rw [HDL.out] at hm'
        subst hm'
        have HU := Lib.hid hu; clear hu hcm hc
        have hzhb1 := hb1.size
        clear q0 q1 q2 qf
        replace HD := bk HD hb1
        replace HN := Lib.hid (HN.out.up hb1)
        replace hB := bl_trans hB hb1
        obtain ⟨q0, q1, q2, qf⟩ := cells3 HD
        go_wp2_with fail
        go_loopw [6, 8, 32] (fun v _ i wr => IntsRel (cnts n 4) w1 v i wr) (fun _ _ i _ => n.es.length - (intOf i).toNat)
        case atStart => exact ⟨0, Nat.zero_le _, rfl, World.ownsRow_nil _ _ _ _, Below.refl _ _⟩
        case round =>
          obtain ⟨k, hk, rfl, hown, hbl⟩ := hrel
          rw [HCL.out] at hk
          have HUR := Lib.hid (HU.out.below hbl)
          by_cases hlt : k < n.es.length
          · obtain ⟨d, hd⟩ : ∃ y, (degs n)[k]? = some y := ⟨_, List.getElem?_eq_getElem (by rw [HDL.out]; exact hlt)⟩
            obtain ⟨-, -, hcm, hc⟩ := HUR.out.some_
            obtain ⟨ad, rfl, -, hcell⟩ := hc (by rw [HDL.out]; omega)
            have hcx := hcell k d hd
            have hdb := HDG.out d (List.mem_of_getElem? hd)
            have hwr : IntKind.i64.wrap (d + 1) = d + 1 := IntWalk.i64_in _ (by omega)
            have HS := Lib.hid (ints_snoc (xs := cnts n 4) (k := k) (x := d + 1) (by rw [HR.out, List.getElem?_map, hd]; rfl)); clear hd hcell hc hcm
            go_wp2_with ((at_builtin; refine wpList_append1 wr rfl (.tmp 36) (.tmp 39) 23 rfl w1.heap.size 3 _ 8 Tryz.underlying23 intInfo rfl _ _ _ rfl _ rfl rfl hown (by unfold maxLen; omega) (by omega) hbl.size ?_; intro v' w' hown' hbl' hgr' hlt' hob'))
            go_roundw
            case rel => exact ⟨k + 1, by rw [HCL.out]; omega, by go_num, by rw [HS.out]; exact hown', hbl.trans hbl'⟩
            case measure => simp [intOf]; omega
          · have hI := IntsRel.fin hown (by rw [HCL.out]; omega) (cnts_I64 HP.out 4)
            have HO := Lib.hid hI; clear hI hown
            go_wp2_with fail
            go_ret
            exact ⟨_, rfl, HO.out.isSlice, HO.out, bl_trans hB hbl⟩
      · have q4 : (r == 4) = false := by rw [beq_eq_false_iff_ne]; exact h4
        have hwr : IntKind.i64.wrap ((n.es.length : Int) + 1) = (n.es.length : Int) + 1 := IntWalk.i64_in _ (by omega)
        have HR := Lib.hid (cnts_else (n := n) h2 h3 h4)
        clear hdg hdl h2 h3 h4
        go_enter Tryz.func99, Tryz.ntmps99
        go_wp2_with fail
        rw [← HW0.out]
        refine (impl_Repeat1 ((n.es.length : Int) + 1) n.es.length (w.heap.size + 1) w0 HS0.out (by omega) (by omega) (by unfold I64; omega)).mono ?_
        rintro e w3 ⟨rfl, hI, hb3⟩
        have HI := Lib.hid hI; clear hI
        have HB := Lib.hid (bl_trans hB hb3); clear hb3
        go_wp2_with fail
        go_ret
        exact ⟨_, rfl, ⟨_, _, _, rfl⟩, by rw [HR.out]; exact HI.out, HB.out⟩
end Go.Proofs.YtfhecpkhifdnbaaGreat
