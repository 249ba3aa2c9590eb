/-
  RecoverLab of the program and of the reference.
-/
import Derived.Test.YtcfbkickiijjkaaGreatDoorQZ
import Derived.Test.YtcfbkickiijjkaaGreatDoorQRecoverSpec
import Derived.Test.YtcfbkickiijjkaaGreatDoorQRecoverImpl
import Derived.Test.YtcfbkickiijjkaaGreatDoorQPlainRecover
import Derived.Test.YtcfbkickiijjkaaGreatDoorQReadRecord
import Derived.Test.YtcfbkickiijjkaaGreatDoorQReadRecS
import Derived.Test.YtcfbkickiijjkaaGreatDoorQApplyB
import Derived.Test.YtcfbkickiijjkaaGreatDoorQSnapAll
import Derived.Test.YtcfbkickiijjkaaGreatDoorQShelf4
import Derived.WalkKit
import Derived.WalkSpells
import Derived.WalkLawsBesides
import Derived.Lib.Hide
import Derived.Laws.Rows
import Derived.IntWalk
import Derived.Deep.QuietTactic
import Derived.BigQuiet
namespace Go.Proofs.YtcfbkickiijjkaaGreatDoor
open Go.RowKit
set_option linter.unusedVariables false
set_option linter.unusedSimpArgs false
theorem recGo_store (g : Int) : ∀ (f : Nat) (rest : List UInt8) (xs : List Item) (n b : Nat), storeP xs → storeP (recGo g f rest xs n b).1
  | 0, _, _, _, _, h => h
  | f + 1, rest, xs, n, b, h => by
    unfold recGo
    split
    · rename_i hok
      unfold okR at hok
      rw [Bool.and_eq_true, Bool.and_eq_true] at hok
      exact recGo_store g f _ _ _ _ (ap_store h (propB_iff.1 hok.2.2))
    · exact h
theorem fX_store (a b l : List UInt8) : storeP (fX a b l) := by
  unfold fX
  split
  · rename_i h
    obtain ⟨⟨f, h1, h2, h3, h4, h5⟩, -⟩ := rv_start h
    unfold rvR
    exact recGo_store _ _ _ _ _ _ h5
  · exact ⟨fun i h => absurd h (Nat.not_lt_zero _), by simp⟩
theorem fX_sz (a b l : List UInt8) : (fX a b l).length ≤ 100 ∧ ∀ x ∈ fX a b l, szItem x ≤ 2000000 := by
  have h2 := fX_store a b l
  exact ⟨by have := h2.2; omega, fun x hx => Nat.le_trans (storeP.okI (fun y hy => by obtain ⟨j, hj⟩ := List.mem_iff_getElem?.1 hy; exact storeP.item h2 hj) x hx).1 (by omega)⟩
theorem f_zero {a b l : List UInt8} (h : rvOk a b l = false) : fX a b l = [] ∧ fGn a b l = 0 ∧ fNn a b l = 0 ∧ fBy a b l = 0 ∧ fSc a b l = false := by
  unfold fX fGn fNn fBy fSc
  rw [h]
  exact ⟨rfl, rfl, rfl, rfl, rfl⟩
def RlPost (a b l : List UInt8) (w : World) (e : Ending) (w' : World) : Prop :=
  ∃ v bs, e = .returned (.tuple #[v, .int .i64 (fGn a b l), .int .i64 (fNn a b l : Int), .bool (rvOk a b l)]) ∧ OwnItems w' v (fX a b l) bs ∧ bs.Nodup ∧ (∀ x ∈ bs, w.heap.size ≤ x ∧ x < w'.heap.size) ∧ Below w.heap.size w w'
set_option maxRecDepth 100000 in
set_option maxHeartbeats 1000000 in
theorem spec_RecoverLab (a b lg : ByteArray) (w : World) (ha : a.size ≤ 1048576) (hb : b.size ≤ 1048576) (hl : lg.size ≤ 1048576) :
  Calls Tryz.prog 14 #[.agg #[.string a, .string b, .string lg]] w (RlPost a.data.toList b.data.toList lg.data.toList w) := by
 have J := Lib.hid (fun (W : World) => spec_srRecover a b lg W ha hb hl)
 unfold RvsPost at J
 unfold RlPost
 have HF := Lib.hid (fun h => f_zero (a := a.data.toList) (b := b.data.toList) (l := lg.data.toList) h)
 generalize fX a.data.toList b.data.toList lg.data.toList = X at *
 generalize fGn a.data.toList b.data.toList lg.data.toList = G at *
 generalize fNn a.data.toList b.data.toList lg.data.toList = N at *
 generalize fBy a.data.toList b.data.toList lg.data.toList = Bt at *
 generalize fSc a.data.toList b.data.toList lg.data.toList = S at *
 generalize rvOk a.data.toList b.data.toList lg.data.toList = ok at *
 have hB := Below.refl w.heap.size w
 obtain ⟨w0, hw0⟩ : ∃ z, z = w.alloc (.cells #[.string a, .string b, .string lg] 25) := ⟨_, rfl⟩
 have hba0 : Below w.heap.size w w0 := by rw [hw0]; exact bl_alloc (Below.refl _ _) _
 have HW0 := Lib.hid hw0; clear hw0
 have hz1 := hba0.size
 replace hB := bl_trans hB hba0
 go_enter Tryz.func14, Tryz.ntmps14
 go_wp2_with fail
 rw [← HW0.out]
 refine (J.out w0).mono ?_
 rintro e w2 ⟨v, bs, rfl, ho, hn, hr, hb2⟩
 have hz2 := hb2.size
 replace hB := bl_trans hB hb2
 obtain ⟨Av, mv, cv, rfl⟩ := ho.isSlice
 have Ov := Lib.hid ho; clear ho
 have Gv := Lib.hid hr; clear hr
 have hba3 := bl_alloc (Below.refl w2.heap.size w2) (.cells #[.slice Av mv cv, .int .i64 G, .bool S, .int .i64 (N : Int), .int .i64 (Bt : Int)] 60)
 have HR0 := Lib.hid (heap_alloc_new w2 (.cells #[.slice Av mv cv, .int .i64 G, .bool S, .int .i64 (N : Int), .int .i64 (Bt : Int)] 60))
 have hs3 : w2.heap.size < (w2.alloc (.cells #[.slice Av mv cv, .int .i64 G, .bool S, .int .i64 (N : Int), .int .i64 (Bt : Int)] 60)).heap.size := by simp
 have HS3 := Lib.hid hs3; clear hs3; have hs3 := HS3.out
 have hz4 := hba3.size
 replace hB := bl_trans hB hba3
 replace Ov := Lib.hid (Ov.out.keep fun b hb' => hba3.block b (by have := Gv.out b hb'; omega))
 have r01 := cells5 HR0
 go_wp2_with fail
 generalize w2.alloc (.cells #[.slice Av mv cv, .int .i64 G, .bool S, .int .i64 (N : Int), .int .i64 (Bt : Int)] 60) = w3 at *
 go_quiet (fail)
 go_wp2_with fail
 refine bodyPost_ret (v := .tuple #[.slice Av mv cv, .int .i64 G, .int .i64 (N : Int), .bool ok]) (by simp [results, Tryz.results14, go_sem]) rfl ⟨_, bs, rfl, Ov.out.keep fun _ _ => rfl, hn, fun x hx => by have := Gv.out x hx; show _ ∧ x < w3.heap.size; omega, bl_drewN hB _⟩
set_option maxRecDepth 100000 in
set_option maxHeartbeats 1000000 in
theorem impl_RecoverLab (a b lg : ByteArray) (w : World) (ha : a.size ≤ 1048576) (hb : b.size ≤ 1048576) (hl : lg.size ≤ 1048576) (hm : MaxAt w) (hp : Pow10 w) (he : ErrAt w) :
  Calls Tryz.prog 15 #[.agg #[.string a, .string b, .string lg]] w (RlPost a.data.toList b.data.toList lg.data.toList w) := by
 have HM := Lib.hid hm; clear hm
 have HP := Lib.hid hp; clear hp
 have HE := Lib.hid he; clear he
 have J := Lib.hid (fun (W : World) (hW : Below w.heap.size w W) => impl_recoverLab a b lg W ha hb hl (HM.out.below hW) (HP.out.below hW) (HE.out.below hW))
 unfold RviPost at J
 unfold RlPost
 have HF := Lib.hid (fun h => f_zero (a := a.data.toList) (b := b.data.toList) (l := lg.data.toList) h)
 generalize fX a.data.toList b.data.toList lg.data.toList = X at *
 generalize fGn a.data.toList b.data.toList lg.data.toList = G at *
 generalize fNn a.data.toList b.data.toList lg.data.toList = N at *
 generalize fBy a.data.toList b.data.toList lg.data.toList = Bt at *
 generalize fSc a.data.toList b.data.toList lg.data.toList = S at *
 generalize rvOk a.data.toList b.data.toList lg.data.toList = ok at *
 have hB := Below.refl w.heap.size w
 obtain ⟨w0, hw0⟩ : ∃ z, z = w.alloc (.cells #[.string a, .string b, .string lg] 25) := ⟨_, rfl⟩
 have hba0 : Below w.heap.size w w0 := by rw [hw0]; exact bl_alloc (Below.refl _ _) _
 have HW0 := Lib.hid hw0; clear hw0
 have hz1 := hba0.size
 replace hB := bl_trans hB hba0
 go_enter Tryz.func15, Tryz.ntmps15
 go_wp2_with fail
 rw [← HW0.out]
 refine (J.out w0 hB).mono ?_
 rintro e w2 ⟨v, bs, rfl, ho, hn, hr, hb2⟩
 have hz2 := hb2.size
 replace hB := bl_trans hB hb2
 obtain ⟨Av, mv, cv, rfl⟩ := ho.isSlice
 have Ov := Lib.hid ho; clear ho
 have Gv := Lib.hid hr; clear hr
 cases ok with
 | false =>
  obtain ⟨x1, x2, x3, -, -⟩ := HF.out rfl
  have X1 := Lib.hid x1; clear x1
  have X2 := Lib.hid x2; clear x2
  have X3 := Lib.hid x3; clear x3
  have hba3 := bl_alloc (Below.refl w2.heap.size w2) (.cells #[.slice Av mv cv, .int .i64 G, .int .i64 (N : Int), .int .i64 (Bt : Int), .bool S] 68)
  have HR0 := Lib.hid (heap_alloc_new w2 (.cells #[.slice Av mv cv, .int .i64 G, .int .i64 (N : Int), .int .i64 (Bt : Int), .bool S] 68))
  have hs3 : w2.heap.size < (w2.alloc (.cells #[.slice Av mv cv, .int .i64 G, .int .i64 (N : Int), .int .i64 (Bt : Int), .bool S] 68)).heap.size := by simp
  have HS3 := Lib.hid hs3; clear hs3; have hs3 := HS3.out
  have hz4 := hba3.size
  replace hB := bl_trans hB hba3
  replace Ov := Lib.hid (Ov.out.keep fun b hb' => hba3.block b (by have := Gv.out b hb'; omega))
  have r01 := cells5 HR0
  go_wp2_with fail
  generalize w2.alloc (.cells #[.slice Av mv cv, .int .i64 G, .int .i64 (N : Int), .int .i64 (Bt : Int), .bool S] 68) = w3 at *
  refine bodyPost_ret (v := .tuple #[.slice none 0 0, .int .i64 0, .int .i64 0, .bool false]) (by simp [results, Tryz.results15, go_sem]) rfl ⟨_, [], by rw [X2.out, X3.out]; rfl, by rw [X1.out]; exact own_items_zero _, List.nodup_nil, (fun _ h => by cases h), hB⟩
 | true =>
  have hba3 := bl_alloc (Below.refl w2.heap.size w2) (.cells #[.slice Av mv cv, .int .i64 G, .int .i64 (N : Int), .int .i64 (Bt : Int), .bool S] 68)
  have HR0 := Lib.hid (heap_alloc_new w2 (.cells #[.slice Av mv cv, .int .i64 G, .int .i64 (N : Int), .int .i64 (Bt : Int), .bool S] 68))
  have hs3 : w2.heap.size < (w2.alloc (.cells #[.slice Av mv cv, .int .i64 G, .int .i64 (N : Int), .int .i64 (Bt : Int), .bool S] 68)).heap.size := by simp
  have HS3 := Lib.hid hs3; clear hs3; have hs3 := HS3.out
  have hz4 := hba3.size
  replace hB := bl_trans hB hba3
  replace Ov := Lib.hid (Ov.out.keep fun b hb' => hba3.block b (by have := Gv.out b hb'; omega))
  have r01 := cells5 HR0
  go_wp2_with fail
  generalize w2.alloc (.cells #[.slice Av mv cv, .int .i64 G, .int .i64 (N : Int), .int .i64 (Bt : Int), .bool S] 68) = w3 at *
  go_quiet (fail)
  go_wp2_with fail
  refine bodyPost_ret (v := .tuple #[.slice Av mv cv, .int .i64 G, .int .i64 (N : Int), .bool true]) (by simp [results, Tryz.results15, go_sem]) rfl ⟨_, bs, rfl, Ov.out.keep fun _ _ => rfl, hn, fun x hx => by have := Gv.out x hx; show _ ∧ x < w3.heap.size; omega, bl_drewN hB _⟩
end Go.Proofs.YtcfbkickiijjkaaGreatDoor
