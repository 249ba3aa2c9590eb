/-
  The program's readRecord: a line is read as the record that it is, if it is one.
-/
import Derived.Test.YtcfbkickiijjkaaGreatDoorVRecord
namespace Go.Proofs.YtcfbkickiijjkaaGreatDoor
open Go.RowKit
set_option linter.all false
def RrPost (g : Int) (l : List UInt8) (w : World) (e : Ending) (w' : World) : Prop := ∃ E, IpPost E (recB g l) w e w' ∧ (recB g l = true → E = recE g l)
theorem rr_end {g : Int} {l : List UInt8} {ok : Bool} {E : Entry} {b : Nat} {w W : World} {va vf vs vr : Value} {bs : List Nat} (hb : recB g l = ok) (he : ok = true → E = recE g l) (ho : OwnItem W E.it va vf vs vr bs) (hn : bs.Nodup) (hr : ∀ x ∈ bs, b < x ∧ x < W.heap.size) (hbl : Below w.heap.size w W) (hbb : b = w.heap.size) :
    RrPost g l w (.returned (.tuple #[.agg #[.int .i64 E.kd, .string E.nm, .string E.tn, .string E.it.nm, .int .i64 E.it.n, va, .int .i64 E.it.cl, .int .i64 E.it.lb, vf, vs, vr], .bool ok])) ((((((((((((W.setCell ⟨b, 0, none⟩ (.int .i64 E.kd)).setCell ⟨b, 1, none⟩ (.string E.nm)).setCell ⟨b, 2, none⟩ (.string E.tn)).setCell ⟨b, 3, none⟩ (.string E.it.nm)).setCell ⟨b, 4, none⟩ (.int .i64 E.it.n)).setCell ⟨b, 5, none⟩ va).setCell ⟨b, 6, none⟩ (.int .i64 E.it.cl)).setCell ⟨b, 7, none⟩ (.int .i64 E.it.lb)).setCell ⟨b, 8, none⟩ vf).setCell ⟨b, 9, none⟩ vs).setCell ⟨b, 10, none⟩ vr)) := by
  unfold RrPost
  rw [hb]
  exact ⟨E, ip_end ho hn hr hbl hbb, he⟩
theorem rr_drew {g : Int} {l : List UInt8} {w W : World} {e : Ending} (h : RrPost g l w e W) : RrPost g l w e W.drew := by
  obtain ⟨E, ⟨va, vf, vs, vr, bs, h1, h2, h3, h4, h5⟩, h6⟩ := h
  exact ⟨E, ⟨va, vf, vs, vr, bs, h1, h2.keep fun _ _ => rfl, h3, h4, h5.drew⟩, h6⟩
theorem entry_of {t : List UInt8} (h : peB t = true) : entryP (peE t) := by
  obtain ⟨e, he, hte⟩ := (propB_iff.1 h : peP t)
  rw [(pe_t he hte).2]
  exact he
theorem set11_far {W : World} {b c i : Nat} {v0 v1 v2 v3 v4 v5 v6 v7 v8 v9 v10 : Value} (h : c ≠ b) : ((((((((((((W.setCell ⟨c, 0, none⟩ v0).setCell ⟨c, 1, none⟩ v1).setCell ⟨c, 2, none⟩ v2).setCell ⟨c, 3, none⟩ v3).setCell ⟨c, 4, none⟩ v4).setCell ⟨c, 5, none⟩ v5).setCell ⟨c, 6, none⟩ v6).setCell ⟨c, 7, none⟩ v7).setCell ⟨c, 8, none⟩ v8).setCell ⟨c, 9, none⟩ v9).setCell ⟨c, 10, none⟩ v10)).cell? ⟨b, i, none⟩ = W.cell? ⟨b, i, none⟩ := by
  rw [World.cell?_setCell_far _ _ _ _ h, World.cell?_setCell_far _ _ _ _ h, World.cell?_setCell_far _ _ _ _ h, World.cell?_setCell_far _ _ _ _ h, World.cell?_setCell_far _ _ _ _ h, World.cell?_setCell_far _ _ _ _ h, World.cell?_setCell_far _ _ _ _ h, World.cell?_setCell_far _ _ _ _ h, World.cell?_setCell_far _ _ _ _ h, World.cell?_setCell_far _ _ _ _ h, World.cell?_setCell_far _ _ _ _ h]
theorem keep11 {W W2 : World} {b c : Nat} {e0 e1 e2 e3 e4 e5 e6 e7 e8 e9 e10 v0 v1 v2 v3 v4 v5 v6 v7 v8 v9 v10 : Value} (h : c ≠ b) (hS : (W2).cell? ⟨b, 0, none⟩ = some e0 ∧ (W2).cell? ⟨b, 1, none⟩ = some e1 ∧ (W2).cell? ⟨b, 2, none⟩ = some e2 ∧ (W2).cell? ⟨b, 3, none⟩ = some e3 ∧ (W2).cell? ⟨b, 4, none⟩ = some e4 ∧ (W2).cell? ⟨b, 5, none⟩ = some e5 ∧ (W2).cell? ⟨b, 6, none⟩ = some e6 ∧ (W2).cell? ⟨b, 7, none⟩ = some e7 ∧ (W2).cell? ⟨b, 8, none⟩ = some e8 ∧ (W2).cell? ⟨b, 9, none⟩ = some e9 ∧ (W2).cell? ⟨b, 10, none⟩ = some e10) (h2 : ∀ a, W2.cell? a = W.cell? a) : (((((((((((((W.setCell ⟨c, 0, none⟩ v0).setCell ⟨c, 1, none⟩ v1).setCell ⟨c, 2, none⟩ v2).setCell ⟨c, 3, none⟩ v3).setCell ⟨c, 4, none⟩ v4).setCell ⟨c, 5, none⟩ v5).setCell ⟨c, 6, none⟩ v6).setCell ⟨c, 7, none⟩ v7).setCell ⟨c, 8, none⟩ v8).setCell ⟨c, 9, none⟩ v9).setCell ⟨c, 10, none⟩ v10)).drew).cell? ⟨b, 0, none⟩ = some e0 ∧ (((((((((((((W.setCell ⟨c, 0, none⟩ v0).setCell ⟨c, 1, none⟩ v1).setCell ⟨c, 2, none⟩ v2).setCell ⟨c, 3, none⟩ v3).setCell ⟨c, 4, none⟩ v4).setCell ⟨c, 5, none⟩ v5).setCell ⟨c, 6, none⟩ v6).setCell ⟨c, 7, none⟩ v7).setCell ⟨c, 8, none⟩ v8).setCell ⟨c, 9, none⟩ v9).setCell ⟨c, 10, none⟩ v10)).drew).cell? ⟨b, 1, none⟩ = some e1 ∧ (((((((((((((W.setCell ⟨c, 0, none⟩ v0).setCell ⟨c, 1, none⟩ v1).setCell ⟨c, 2, none⟩ v2).setCell ⟨c, 3, none⟩ v3).setCell ⟨c, 4, none⟩ v4).setCell ⟨c, 5, none⟩ v5).setCell ⟨c, 6, none⟩ v6).setCell ⟨c, 7, none⟩ v7).setCell ⟨c, 8, none⟩ v8).setCell ⟨c, 9, none⟩ v9).setCell ⟨c, 10, none⟩ v10)).drew).cell? ⟨b, 2, none⟩ = some e2 ∧ (((((((((((((W.setCell ⟨c, 0, none⟩ v0).setCell ⟨c, 1, none⟩ v1).setCell ⟨c, 2, none⟩ v2).setCell ⟨c, 3, none⟩ v3).setCell ⟨c, 4, none⟩ v4).setCell ⟨c, 5, none⟩ v5).setCell ⟨c, 6, none⟩ v6).setCell ⟨c, 7, none⟩ v7).setCell ⟨c, 8, none⟩ v8).setCell ⟨c, 9, none⟩ v9).setCell ⟨c, 10, none⟩ v10)).drew).cell? ⟨b, 3, none⟩ = some e3 ∧ (((((((((((((W.setCell ⟨c, 0, none⟩ v0).setCell ⟨c, 1, none⟩ v1).setCell ⟨c, 2, none⟩ v2).setCell ⟨c, 3, none⟩ v3).setCell ⟨c, 4, none⟩ v4).setCell ⟨c, 5, none⟩ v5).setCell ⟨c, 6, none⟩ v6).setCell ⟨c, 7, none⟩ v7).setCell ⟨c, 8, none⟩ v8).setCell ⟨c, 9, none⟩ v9).setCell ⟨c, 10, none⟩ v10)).drew).cell? ⟨b, 4, none⟩ = some e4 ∧ (((((((((((((W.setCell ⟨c, 0, none⟩ v0).setCell ⟨c, 1, none⟩ v1).setCell ⟨c, 2, none⟩ v2).setCell ⟨c, 3, none⟩ v3).setCell ⟨c, 4, none⟩ v4).setCell ⟨c, 5, none⟩ v5).setCell ⟨c, 6, none⟩ v6).setCell ⟨c, 7, none⟩ v7).setCell ⟨c, 8, none⟩ v8).setCell ⟨c, 9, none⟩ v9).setCell ⟨c, 10, none⟩ v10)).drew).cell? ⟨b, 5, none⟩ = some e5 ∧ (((((((((((((W.setCell ⟨c, 0, none⟩ v0).setCell ⟨c, 1, none⟩ v1).setCell ⟨c, 2, none⟩ v2).setCell ⟨c, 3, none⟩ v3).setCell ⟨c, 4, none⟩ v4).setCell ⟨c, 5, none⟩ v5).setCell ⟨c, 6, none⟩ v6).setCell ⟨c, 7, none⟩ v7).setCell ⟨c, 8, none⟩ v8).setCell ⟨c, 9, none⟩ v9).setCell ⟨c, 10, none⟩ v10)).drew).cell? ⟨b, 6, none⟩ = some e6 ∧ (((((((((((((W.setCell ⟨c, 0, none⟩ v0).setCell ⟨c, 1, none⟩ v1).setCell ⟨c, 2, none⟩ v2).setCell ⟨c, 3, none⟩ v3).setCell ⟨c, 4, none⟩ v4).setCell ⟨c, 5, none⟩ v5).setCell ⟨c, 6, none⟩ v6).setCell ⟨c, 7, none⟩ v7).setCell ⟨c, 8, none⟩ v8).setCell ⟨c, 9, none⟩ v9).setCell ⟨c, 10, none⟩ v10)).drew).cell? ⟨b, 7, none⟩ = some e7 ∧ (((((((((((((W.setCell ⟨c, 0, none⟩ v0).setCell ⟨c, 1, none⟩ v1).setCell ⟨c, 2, none⟩ v2).setCell ⟨c, 3, none⟩ v3).setCell ⟨c, 4, none⟩ v4).setCell ⟨c, 5, none⟩ v5).setCell ⟨c, 6, none⟩ v6).setCell ⟨c, 7, none⟩ v7).setCell ⟨c, 8, none⟩ v8).setCell ⟨c, 9, none⟩ v9).setCell ⟨c, 10, none⟩ v10)).drew).cell? ⟨b, 8, none⟩ = some e8 ∧ (((((((((((((W.setCell ⟨c, 0, none⟩ v0).setCell ⟨c, 1, none⟩ v1).setCell ⟨c, 2, none⟩ v2).setCell ⟨c, 3, none⟩ v3).setCell ⟨c, 4, none⟩ v4).setCell ⟨c, 5, none⟩ v5).setCell ⟨c, 6, none⟩ v6).setCell ⟨c, 7, none⟩ v7).setCell ⟨c, 8, none⟩ v8).setCell ⟨c, 9, none⟩ v9).setCell ⟨c, 10, none⟩ v10)).drew).cell? ⟨b, 9, none⟩ = some e9 ∧ (((((((((((((W.setCell ⟨c, 0, none⟩ v0).setCell ⟨c, 1, none⟩ v1).setCell ⟨c, 2, none⟩ v2).setCell ⟨c, 3, none⟩ v3).setCell ⟨c, 4, none⟩ v4).setCell ⟨c, 5, none⟩ v5).setCell ⟨c, 6, none⟩ v6).setCell ⟨c, 7, none⟩ v7).setCell ⟨c, 8, none⟩ v8).setCell ⟨c, 9, none⟩ v9).setCell ⟨c, 10, none⟩ v10)).drew).cell? ⟨b, 10, none⟩ = some e10 := by
 have hd : ∀ (V : World) a, V.drew.cell? a = V.cell? a := fun _ _ => rfl
 simp only [hd, set11_far h, ← h2]
 exact hS
theorem keep11n {W : World} {b c : Nat} {e0 e1 e2 e3 e4 e5 e6 e7 e8 e9 e10 v0 v1 v2 v3 v4 v5 v6 v7 v8 v9 v10 : Value} (h : c ≠ b) (hS : (W).cell? ⟨b, 0, none⟩ = some e0 ∧ (W).cell? ⟨b, 1, none⟩ = some e1 ∧ (W).cell? ⟨b, 2, none⟩ = some e2 ∧ (W).cell? ⟨b, 3, none⟩ = some e3 ∧ (W).cell? ⟨b, 4, none⟩ = some e4 ∧ (W).cell? ⟨b, 5, none⟩ = some e5 ∧ (W).cell? ⟨b, 6, none⟩ = some e6 ∧ (W).cell? ⟨b, 7, none⟩ = some e7 ∧ (W).cell? ⟨b, 8, none⟩ = some e8 ∧ (W).cell? ⟨b, 9, none⟩ = some e9 ∧ (W).cell? ⟨b, 10, none⟩ = some e10) : ((((((((((((W.setCell ⟨c, 0, none⟩ v0).setCell ⟨c, 1, none⟩ v1).setCell ⟨c, 2, none⟩ v2).setCell ⟨c, 3, none⟩ v3).setCell ⟨c, 4, none⟩ v4).setCell ⟨c, 5, none⟩ v5).setCell ⟨c, 6, none⟩ v6).setCell ⟨c, 7, none⟩ v7).setCell ⟨c, 8, none⟩ v8).setCell ⟨c, 9, none⟩ v9).setCell ⟨c, 10, none⟩ v10)).cell? ⟨b, 0, none⟩ = some e0 ∧ ((((((((((((W.setCell ⟨c, 0, none⟩ v0).setCell ⟨c, 1, none⟩ v1).setCell ⟨c, 2, none⟩ v2).setCell ⟨c, 3, none⟩ v3).setCell ⟨c, 4, none⟩ v4).setCell ⟨c, 5, none⟩ v5).setCell ⟨c, 6, none⟩ v6).setCell ⟨c, 7, none⟩ v7).setCell ⟨c, 8, none⟩ v8).setCell ⟨c, 9, none⟩ v9).setCell ⟨c, 10, none⟩ v10)).cell? ⟨b, 1, none⟩ = some e1 ∧ ((((((((((((W.setCell ⟨c, 0, none⟩ v0).setCell ⟨c, 1, none⟩ v1).setCell ⟨c, 2, none⟩ v2).setCell ⟨c, 3, none⟩ v3).setCell ⟨c, 4, none⟩ v4).setCell ⟨c, 5, none⟩ v5).setCell ⟨c, 6, none⟩ v6).setCell ⟨c, 7, none⟩ v7).setCell ⟨c, 8, none⟩ v8).setCell ⟨c, 9, none⟩ v9).setCell ⟨c, 10, none⟩ v10)).cell? ⟨b, 2, none⟩ = some e2 ∧ ((((((((((((W.setCell ⟨c, 0, none⟩ v0).setCell ⟨c, 1, none⟩ v1).setCell ⟨c, 2, none⟩ v2).setCell ⟨c, 3, none⟩ v3).setCell ⟨c, 4, none⟩ v4).setCell ⟨c, 5, none⟩ v5).setCell ⟨c, 6, none⟩ v6).setCell ⟨c, 7, none⟩ v7).setCell ⟨c, 8, none⟩ v8).setCell ⟨c, 9, none⟩ v9).setCell ⟨c, 10, none⟩ v10)).cell? ⟨b, 3, none⟩ = some e3 ∧ ((((((((((((W.setCell ⟨c, 0, none⟩ v0).setCell ⟨c, 1, none⟩ v1).setCell ⟨c, 2, none⟩ v2).setCell ⟨c, 3, none⟩ v3).setCell ⟨c, 4, none⟩ v4).setCell ⟨c, 5, none⟩ v5).setCell ⟨c, 6, none⟩ v6).setCell ⟨c, 7, none⟩ v7).setCell ⟨c, 8, none⟩ v8).setCell ⟨c, 9, none⟩ v9).setCell ⟨c, 10, none⟩ v10)).cell? ⟨b, 4, none⟩ = some e4 ∧ ((((((((((((W.setCell ⟨c, 0, none⟩ v0).setCell ⟨c, 1, none⟩ v1).setCell ⟨c, 2, none⟩ v2).setCell ⟨c, 3, none⟩ v3).setCell ⟨c, 4, none⟩ v4).setCell ⟨c, 5, none⟩ v5).setCell ⟨c, 6, none⟩ v6).setCell ⟨c, 7, none⟩ v7).setCell ⟨c, 8, none⟩ v8).setCell ⟨c, 9, none⟩ v9).setCell ⟨c, 10, none⟩ v10)).cell? ⟨b, 5, none⟩ = some e5 ∧ ((((((((((((W.setCell ⟨c, 0, none⟩ v0).setCell ⟨c, 1, none⟩ v1).setCell ⟨c, 2, none⟩ v2).setCell ⟨c, 3, none⟩ v3).setCell ⟨c, 4, none⟩ v4).setCell ⟨c, 5, none⟩ v5).setCell ⟨c, 6, none⟩ v6).setCell ⟨c, 7, none⟩ v7).setCell ⟨c, 8, none⟩ v8).setCell ⟨c, 9, none⟩ v9).setCell ⟨c, 10, none⟩ v10)).cell? ⟨b, 6, none⟩ = some e6 ∧ ((((((((((((W.setCell ⟨c, 0, none⟩ v0).setCell ⟨c, 1, none⟩ v1).setCell ⟨c, 2, none⟩ v2).setCell ⟨c, 3, none⟩ v3).setCell ⟨c, 4, none⟩ v4).setCell ⟨c, 5, none⟩ v5).setCell ⟨c, 6, none⟩ v6).setCell ⟨c, 7, none⟩ v7).setCell ⟨c, 8, none⟩ v8).setCell ⟨c, 9, none⟩ v9).setCell ⟨c, 10, none⟩ v10)).cell? ⟨b, 7, none⟩ = some e7 ∧ ((((((((((((W.setCell ⟨c, 0, none⟩ v0).setCell ⟨c, 1, none⟩ v1).setCell ⟨c, 2, none⟩ v2).setCell ⟨c, 3, none⟩ v3).setCell ⟨c, 4, none⟩ v4).setCell ⟨c, 5, none⟩ v5).setCell ⟨c, 6, none⟩ v6).setCell ⟨c, 7, none⟩ v7).setCell ⟨c, 8, none⟩ v8).setCell ⟨c, 9, none⟩ v9).setCell ⟨c, 10, none⟩ v10)).cell? ⟨b, 8, none⟩ = some e8 ∧ ((((((((((((W.setCell ⟨c, 0, none⟩ v0).setCell ⟨c, 1, none⟩ v1).setCell ⟨c, 2, none⟩ v2).setCell ⟨c, 3, none⟩ v3).setCell ⟨c, 4, none⟩ v4).setCell ⟨c, 5, none⟩ v5).setCell ⟨c, 6, none⟩ v6).setCell ⟨c, 7, none⟩ v7).setCell ⟨c, 8, none⟩ v8).setCell ⟨c, 9, none⟩ v9).setCell ⟨c, 10, none⟩ v10)).cell? ⟨b, 9, none⟩ = some e9 ∧ ((((((((((((W.setCell ⟨c, 0, none⟩ v0).setCell ⟨c, 1, none⟩ v1).setCell ⟨c, 2, none⟩ v2).setCell ⟨c, 3, none⟩ v3).setCell ⟨c, 4, none⟩ v4).setCell ⟨c, 5, none⟩ v5).setCell ⟨c, 6, none⟩ v6).setCell ⟨c, 7, none⟩ v7).setCell ⟨c, 8, none⟩ v8).setCell ⟨c, 9, none⟩ v9).setCell ⟨c, 10, none⟩ v10)).cell? ⟨b, 10, none⟩ = some e10 := by
 simp only [set11_far h]
 exact hS
def PePostC (t : List UInt8) (W : World) : Prop := Calls Tryz.prog 82 #[.string ⟨t.toArray⟩] W fun e w' => PePost t W e w'
set_option maxRecDepth 100000 in
set_option maxHeartbeats 2000000 in
theorem impl_readRecord (s : ByteArray) (g : Int) (w : World) (hs : s.size ≤ 20000) (hg0 : 0 ≤ g) (hg : g ≤ 100000) (hm : MaxAt w) (hp : Pow10 w) (he : ErrAt w) :
  Calls Tryz.prog 48 #[.string s, .int .i64 g] w (RrPost g (s.data.toList ++ [10]) w) := by
 have HM := Lib.hid hm; clear hm
 have HP := Lib.hid hp; clear hp
 have HE := Lib.hid he; clear he
 obtain ⟨l, hl⟩ : ∃ l, l = s.data.toList ++ [10] := ⟨_, rfl⟩
 have kl : ∀ W, (binOp .add 9 (.string s) (.string ⟨#[10]⟩)).run Tryz.prog W = .ok (strV l) W := fun W => by rw [hl]; exact cat_cv s [10] (by simp; omega) W
 have klz : ¬ (9223372036854775807 < s.size + 1) := by omega
 have kls : Value.string (s ++ ⟨#[10]⟩) = .string ⟨l.toArray⟩ := by
  rw [hl]
  congr 1
 have KLS := Lib.hid kls; clear kls
 rw [← hl]
 have c1 := cut_len s.data.toList [32, 35]
 have c2 := cut_len (Lib.cut s.data.toList [32, 35]).1 [32]
 have hss := Lib.size_eq s
 obtain ⟨t, htt⟩ : ∃ t, t = (Lib.cut (Lib.cut s.data.toList [32, 35]).1 [32]).2.1 := ⟨_, rfl⟩
 have ht : ∀ e, entryP e → recT g e = l → t = entryT e := fun e he h => by rw [htt]; exact rec_cuts he (h.trans hl)
 have htl : t.length ≤ 20000 := by rw [htt]; omega
 have JC1 := Lib.hid (fun (W : World) (hW : Below w.heap.size w W) => cut_call s ⟨#[32, 35]⟩ W (by omega) (HM.out.below hW))
 have JC2 := Lib.hid (fun (W : World) (hW : Below w.heap.size w W) => cut_call ⟨(Lib.cut s.data.toList [32, 35]).1.toArray⟩ ⟨#[32]⟩ W (by rw [Lib.size_eq]; show (Lib.cut s.data.toList [32, 35]).1.length ≤ _; omega) (HM.out.below hW))
 have e1 : (ByteArray.mk #[32, 35]).data.toList = [32, 35] := rfl
 have e2 : (ByteArray.mk #[32]).data.toList = [32] := rfl
 have e3 : (ByteArray.mk (Lib.cut s.data.toList [32, 35]).1.toArray).data.toList = (Lib.cut s.data.toList [32, 35]).1 := rfl
 rw [e1] at JC1
 rw [e2, e3, ← htt] at JC2
 have JP := Lib.hid (fun (W : World) (hW : Below w.heap.size w W) => show PePostC t W from impl_ParseLabEntry ⟨t.toArray⟩ W (by rw [Lib.size_eq]; show t.length ≤ _; omega) (HM.out.below hW) (HP.out.below hW) (HE.out.below hW))
 unfold PePostC at JP
 generalize (Lib.cut (Lib.cut s.data.toList [32, 35]).1 [32]).1 = y1 at *
 generalize (Lib.cut (Lib.cut s.data.toList [32, 35]).1 [32]).2.2 = y2 at *
 generalize (Lib.cut s.data.toList [32, 35]).1 = x1 at *
 generalize (Lib.cut s.data.toList [32, 35]).2.1 = x2 at *
 generalize (Lib.cut s.data.toList [32, 35]).2.2 = x3 at *
 clear c1 c2 hss htt e1 e2 e3 hl
 have HI := Lib.hid (rec_iff (g := g) (l := l) (t := t) ht)
 have HSM := Lib.hid (fun h => rec_same (g := g) (l := l) (t := t) h)
 have HEN := Lib.hid (fun h => entry_of (t := t) h)
 unfold PePost at JP
 generalize peB t = ok at *
 generalize peE t = E at *
 clear ht
 have hB := Below.refl w.heap.size w
 obtain ⟨w0, hw0⟩ : ∃ z, z = w.alloc (.cells #[.int .i64 0, .string ⟨#[]⟩, .string ⟨#[]⟩, .string ⟨#[]⟩, .int .i64 0, .slice none 0 0, .int .i64 0, .int .i64 0, .slice none 0 0, .slice none 0 0, .slice none 0 0] 55) := ⟨_, rfl⟩
 have hba0 : Below w.heap.size w w0 := by rw [hw0]; exact bl_alloc (Below.refl _ _) _
 have HZ0 := Lib.hid (show w0.heap[w.heap.size]? = some (.cells #[.int .i64 0, .string ⟨#[]⟩, .string ⟨#[]⟩, .string ⟨#[]⟩, .int .i64 0, .slice none 0 0, .int .i64 0, .int .i64 0, .slice none 0 0, .slice none 0 0, .slice none 0 0] 55) by rw [hw0]; exact heap_alloc_new w _)
 have hl0 : w.heap.size < w0.heap.size := by rw [hw0]; simp
 have HW0 := Lib.hid hw0; clear hw0
 have hz1 := hba0.size
 replace hB := bl_trans hB hba0
 go_enter Tryz.func48, Tryz.ntmps48
 go_wp2_with fail
 rw [← HW0.out]
 refine (JC1.out w0 hB).mono ?_
 rintro e w1 ⟨rfl, hb1⟩
 have hz2 := hb1.size
 replace hB := bl_trans hB hb1
 replace HZ0 := bk HZ0 hb1
 go_wp2_with fail
 refine (JC2.out w1 hB).mono ?_
 rintro e w2 ⟨rfl, hb2⟩
 have hz3 := hb2.size
 replace hB := bl_trans hB hb2
 replace HZ0 := bk HZ0 hb2
 go_wp2_with fail
 refine (JP.out w2 hB).mono ?_
 rintro e w3 ⟨va, vf, vs, vr, bs, rfl, ho, hn, hrg, hbw3⟩
 have hz4 := hbw3.size
 replace hB := bl_trans hB hbw3
 replace HZ0 := bk HZ0 hbw3
 obtain ⟨ba, bf, bz, br, oa, of, oz, or, hbs⟩ := id ho
 obtain ⟨Aa, ma, ca, rfl⟩ := oa.isSlice
 obtain ⟨Af, mf, cf, rfl⟩ := of.1.isSlice
 obtain ⟨As, ms, cs, rfl⟩ := oz.1.isSlice
 obtain ⟨Ar, mr, cr, rfl⟩ := or.isSlice
 clear oa of oz or hbs
 have OE := Lib.hid ho; clear ho
 have GE := Lib.hid hrg; clear hrg
 have hba5 := bl_alloc (Below.refl w3.heap.size w3) (.cells #[.int .i64 E.kd, .string E.nm, .string E.tn, .string E.it.nm, .int .i64 E.it.n, .slice Aa ma ca, .int .i64 E.it.cl, .int .i64 E.it.lb, .slice Af mf cf, .slice As ms cs, .slice Ar mr cr] 55)
 have HE1 := Lib.hid (heap_alloc_new w3 (.cells #[.int .i64 E.kd, .string E.nm, .string E.tn, .string E.it.nm, .int .i64 E.it.n, .slice Aa ma ca, .int .i64 E.it.cl, .int .i64 E.it.lb, .slice Af mf cf, .slice As ms cs, .slice Ar mr cr] 55))
 have hs5 : w3.heap.size < (w3.alloc (.cells #[.int .i64 E.kd, .string E.nm, .string E.tn, .string E.it.nm, .int .i64 E.it.n, .slice Aa ma ca, .int .i64 E.it.cl, .int .i64 E.it.lb, .slice Af mf cf, .slice As ms cs, .slice Ar mr cr] 55)).heap.size := by simp
 have HS5 := Lib.hid hs5; clear hs5; have hs5 := HS5.out
 have hz6 := hba5.size
 replace hB := bl_trans hB hba5
 replace HZ0 := bk HZ0 hba5
 replace OE := Lib.hid (OE.out.keep fun b hb' => hba5.block b (by have := GE.out b hb'; omega))
 have z01 := cells11 HZ0
 have e11 := cells11 HE1
 go_wp2_with fail
 generalize w3.alloc (.cells #[.int .i64 E.kd, .string E.nm, .string E.tn, .string E.it.nm, .int .i64 E.it.n, .slice Aa ma ca, .int .i64 E.it.cl, .int .i64 E.it.lb, .slice Af mf cf, .slice As ms cs, .slice Ar mr cr] 55) = w4 at *
 cases ok with
 | false =>
  have HN := Lib.hid (show recB g l = false from propB_f fun h => by have := (HI.out.2 h).1; cases this)
  refine wp_region_held_drew (S := (fun w' => w'.cell? ⟨w3.heap.size, 0, none⟩ = some (.int .i64 E.kd) ∧ w'.cell? ⟨w3.heap.size, 1, none⟩ = some (.string E.nm) ∧ w'.cell? ⟨w3.heap.size, 2, none⟩ = some (.string E.tn) ∧ w'.cell? ⟨w3.heap.size, 3, none⟩ = some (.string E.it.nm) ∧ w'.cell? ⟨w3.heap.size, 4, none⟩ = some (.int .i64 E.it.n) ∧ w'.cell? ⟨w3.heap.size, 5, none⟩ = some (.slice Aa ma ca) ∧ w'.cell? ⟨w3.heap.size, 6, none⟩ = some (.int .i64 E.it.cl) ∧ w'.cell? ⟨w3.heap.size, 7, none⟩ = some (.int .i64 E.it.lb) ∧ w'.cell? ⟨w3.heap.size, 8, none⟩ = some (.slice Af mf cf) ∧ w'.cell? ⟨w3.heap.size, 9, none⟩ = some (.slice As ms cs) ∧ w'.cell? ⟨w3.heap.size, 10, none⟩ = some (.slice Ar mr cr))) (by kernel_rfl) ?_ (fun hHeld => ?_)
  ·
   go_keep
  have hB0 := hB
  have hz7 := (Below.refl w4.heap.size w4).drew.size
  replace hB := bl_trans hB (Below.refl w4.heap.size w4).drew
  clear z01
  replace HZ0 := Lib.hid (((Below.refl w4.heap.size w4).drew.block (w.heap.size) (show w.heap.size < w4.heap.size by omega)).trans HZ0.out)
  clear e11
  replace HE1 := Lib.hid (((Below.refl w4.heap.size w4).drew.block (w3.heap.size) (show w3.heap.size < w4.heap.size by omega)).trans HE1.out)
  replace OE := Lib.hid (OE.out.keep fun b hb' => (Below.refl w4.heap.size w4).drew.block b (by have := GE.out b hb'; omega))
  obtain ⟨z02_0, z02_1, z02_2, z02_3, z02_4, z02_5, z02_6, z02_7, z02_8, z02_9, z02_10, z02_f⟩ := cells11 HZ0
  have e12 := cells11 HE1
  have dz0 : w4.cell? ⟨w.heap.size, 0, none⟩ = some (.int .i64 0) := z02_0
  have dz1 : w4.cell? ⟨w.heap.size, 1, none⟩ = some (.string ⟨#[]⟩) := z02_1
  have dz2 : w4.cell? ⟨w.heap.size, 2, none⟩ = some (.string ⟨#[]⟩) := z02_2
  have dz3 : w4.cell? ⟨w.heap.size, 3, none⟩ = some (.string ⟨#[]⟩) := z02_3
  have dz4 : w4.cell? ⟨w.heap.size, 4, none⟩ = some (.int .i64 0) := z02_4
  have dz5 : w4.cell? ⟨w.heap.size, 5, none⟩ = some (.slice none 0 0) := z02_5
  have dz6 : w4.cell? ⟨w.heap.size, 6, none⟩ = some (.int .i64 0) := z02_6
  have dz7 : w4.cell? ⟨w.heap.size, 7, none⟩ = some (.int .i64 0) := z02_7
  have dz8 : w4.cell? ⟨w.heap.size, 8, none⟩ = some (.slice none 0 0) := z02_8
  have dz9 : w4.cell? ⟨w.heap.size, 9, none⟩ = some (.slice none 0 0) := z02_9
  have dz10 : w4.cell? ⟨w.heap.size, 10, none⟩ = some (.slice none 0 0) := z02_10
  have dzf : ∀ i, w4.frozen? ⟨w.heap.size, i, none⟩ = false := z02_f
  have hne11 : w.heap.size ≠ w3.heap.size := by omega
  refine tk 0 31 rfl rfl ?_
  try simp only [pu]
  refine tk 1 32 rfl rfl ?_
  try simp only [pu]
  refine tk 2 33 rfl rfl ?_
  try simp only [pu]
  refine tn 3 34 rfl rfl ?_
  try simp only [pu]
  refine tn 4 35 rfl rfl ?_
  try simp only [pu]
  refine tn 5 36 rfl rfl ?_
  try simp only [pu]
  refine tn 6 37 rfl rfl ?_
  try simp only [pu]
  refine tn 7 38 rfl rfl ?_
  try simp only [pu]
  refine tn 8 39 rfl rfl ?_
  try simp only [pu]
  refine tk 9 40 rfl rfl ?_
  try simp only [pu]
  refine take_ready 10 rfl (by kernel_rfl) (fun K hK => ?_)
  go_simp
  refine hK.out _ _ ?_ (fun hHeld => ?_)
  ·
   exact keep11 hne11 hHeld (fun _ => rfl)
  clear hK K
  try simp only [pu]
  refine tk 11 5 rfl rfl ?_
  try simp only [pu]
  refine wpAnyH_done (by kernel_rfl) ?_ _
  go_wp2_with fail
  refine bodyPost_ret (v := .tuple #[.agg #[.int .i64 E.kd, .string E.nm, .string E.tn, .string E.it.nm, .int .i64 E.it.n, .slice Aa ma ca, .int .i64 E.it.cl, .int .i64 E.it.lb, .slice Af mf cf, .slice As ms cs, .slice Ar mr cr], .bool false]) (by simp [results, Tryz.results48, go_sem, dz0, dz1, dz2, dz3, dz4, dz5, dz6, dz7, dz8, dz9, dz10]) rfl ?_
  refine rr_drew ?_
  exact rr_end HN.out (fun h => by cases h) (OE.out.keep fun _ _ => rfl) hn (fun x hx => by have := GE.out x hx; omega) hB0 rfl
 | true =>
  have hen := HEN.out rfl
  have hsz := entryP.sz hen
  have HENT := Lib.hid hen; clear hen
  obtain ⟨T, hT⟩ : ∃ T, T = recT g E := ⟨_, rfl⟩
  rw [← hT] at HI HSM
  have JR := Lib.hid (fun (W : World) (hW : Below w.heap.size w W) (h : ItemR W W.heap.size E.it (.slice Aa ma ca) (.slice Af mf cf) (.slice As ms cs) (.slice Ar mr cr)) => show Calls Tryz.prog 41 #[entryV E (.slice Aa ma ca) (.slice Af mf cf) (.slice As ms cs) (.slice Ar mr cr), .int .i64 g] W fun e w' => e = .returned (.string ⟨T.toArray⟩) ∧ Below W.heap.size W w' by rw [hT]; exact impl_recordOf E _ _ _ _ g W h hsz HENT.out hg0 hg (HP.out.below hW))
  have HT := Lib.hid hT; clear hT
  have kls := KLS.out
  by_cases qe : T = l
  ·
   have HN := Lib.hid (show recB g l = true from propB_t (HI.out.1 ⟨rfl, qe⟩))
   have HX := Lib.hid (HSM.out ⟨rfl, qe⟩)
   have k1 : (T == l) = true := by rw [qe]; simp
   clear qe
   refine wp_region_held_drew (S := (fun w' => w'.cell? ⟨w3.heap.size, 0, none⟩ = some (.int .i64 E.kd) ∧ w'.cell? ⟨w3.heap.size, 1, none⟩ = some (.string E.nm) ∧ w'.cell? ⟨w3.heap.size, 2, none⟩ = some (.string E.tn) ∧ w'.cell? ⟨w3.heap.size, 3, none⟩ = some (.string E.it.nm) ∧ w'.cell? ⟨w3.heap.size, 4, none⟩ = some (.int .i64 E.it.n) ∧ w'.cell? ⟨w3.heap.size, 5, none⟩ = some (.slice Aa ma ca) ∧ w'.cell? ⟨w3.heap.size, 6, none⟩ = some (.int .i64 E.it.cl) ∧ w'.cell? ⟨w3.heap.size, 7, none⟩ = some (.int .i64 E.it.lb) ∧ w'.cell? ⟨w3.heap.size, 8, none⟩ = some (.slice Af mf cf) ∧ w'.cell? ⟨w3.heap.size, 9, none⟩ = some (.slice As ms cs) ∧ w'.cell? ⟨w3.heap.size, 10, none⟩ = some (.slice Ar mr cr))) (by kernel_rfl) ?_ (fun hHeld => ?_)
   ·
    go_keep
   have hB0 := hB
   have hz7 := (Below.refl w4.heap.size w4).drew.size
   replace hB := bl_trans hB (Below.refl w4.heap.size w4).drew
   clear z01
   replace HZ0 := Lib.hid (((Below.refl w4.heap.size w4).drew.block (w.heap.size) (show w.heap.size < w4.heap.size by omega)).trans HZ0.out)
   clear e11
   replace HE1 := Lib.hid (((Below.refl w4.heap.size w4).drew.block (w3.heap.size) (show w3.heap.size < w4.heap.size by omega)).trans HE1.out)
   replace OE := Lib.hid (OE.out.keep fun b hb' => (Below.refl w4.heap.size w4).drew.block b (by have := GE.out b hb'; omega))
   obtain ⟨z02_0, z02_1, z02_2, z02_3, z02_4, z02_5, z02_6, z02_7, z02_8, z02_9, z02_10, z02_f⟩ := cells11 HZ0
   have e12 := cells11 HE1
   have hne11 : w.heap.size ≠ w3.heap.size := by omega
   refine tk 0 31 rfl rfl ?_
   try simp only [pu]
   refine tk 1 32 rfl rfl ?_
   try simp only [pu]
   refine tk 2 33 rfl rfl ?_
   try simp only [pu]
   refine tk 3 34 rfl rfl ?_
   try simp only [pu]
   refine tk 4 35 rfl rfl ?_
   try simp only [pu]
   refine tk 6 37 rfl rfl ?_
   try simp only [pu]
   refine tk 7 38 rfl rfl ?_
   try simp only [pu]
   refine take_ready 5 rfl (by kernel_rfl) (fun K hK => ?_)
   go_simp
   go_at_call 41
   refine (JR.out w4.drew hB (OE.out.reads (B := w4.drew.heap.size) (fun b hb' => by have := GE.out b hb'; omega))).mono ?_
   rintro e wr ⟨rfl, hbr⟩
   have hz8 := hbr.size
   replace hB := bl_trans hB hbr
   clear z02_0 z02_1 z02_2 z02_3 z02_4 z02_5 z02_6 z02_7 z02_8 z02_9 z02_10 z02_f
   replace HZ0 := bk HZ0 hbr
   clear e12
   replace HE1 := bk HE1 hbr
   replace OE := Lib.hid (OE.out.keep fun b hb' => hbr.block b (by have := GE.out b hb'; omega))
   have z03 := cells11 HZ0
   have e13 := cells11 HE1
   refine hK.out _ _ ?_ (fun hHeld => ?_)
   ·
    go_keep
   clear hK K
   try simp only [pu]
   refine tk 8 39 rfl rfl ?_
   try simp only [pu]
   refine tk 9 40 rfl rfl ?_
   try simp only [pu]
   refine take_ready 10 rfl (by kernel_rfl) (fun K hK => ?_)
   go_simp
   refine hK.out _ _ ?_ (fun hHeld => ?_)
   ·
    exact keep11n hne11 hHeld
   clear hK K
   try simp only [pu]
   refine tk 11 5 rfl rfl ?_
   try simp only [pu]
   refine wpAnyH_done (by kernel_rfl) ?_ _
   go_wp2_with fail
   refine bodyPost_ret (v := .tuple #[.agg #[.int .i64 E.kd, .string E.nm, .string E.tn, .string E.it.nm, .int .i64 E.it.n, .slice Aa ma ca, .int .i64 E.it.cl, .int .i64 E.it.lb, .slice Af mf cf, .slice As ms cs, .slice Ar mr cr], .bool true]) (by simp [results, Tryz.results48, go_sem, z03]) rfl ?_
   exact rr_end HN.out (fun _ => HX.out.symm) OE.out hn (fun x hx => by have := GE.out x hx; omega) hB rfl
  ·
   have HN := Lib.hid (show recB g l = false from propB_f fun h => qe (HI.out.2 h).2)
   have k1 : (T == l) = false := by rw [beq_eq_false_iff_ne]; exact qe
   clear qe
   refine wp_region_held_drew (S := (fun w' => w'.cell? ⟨w3.heap.size, 0, none⟩ = some (.int .i64 E.kd) ∧ w'.cell? ⟨w3.heap.size, 1, none⟩ = some (.string E.nm) ∧ w'.cell? ⟨w3.heap.size, 2, none⟩ = some (.string E.tn) ∧ w'.cell? ⟨w3.heap.size, 3, none⟩ = some (.string E.it.nm) ∧ w'.cell? ⟨w3.heap.size, 4, none⟩ = some (.int .i64 E.it.n) ∧ w'.cell? ⟨w3.heap.size, 5, none⟩ = some (.slice Aa ma ca) ∧ w'.cell? ⟨w3.heap.size, 6, none⟩ = some (.int .i64 E.it.cl) ∧ w'.cell? ⟨w3.heap.size, 7, none⟩ = some (.int .i64 E.it.lb) ∧ w'.cell? ⟨w3.heap.size, 8, none⟩ = some (.slice Af mf cf) ∧ w'.cell? ⟨w3.heap.size, 9, none⟩ = some (.slice As ms cs) ∧ w'.cell? ⟨w3.heap.size, 10, none⟩ = some (.slice Ar mr cr))) (by kernel_rfl) ?_ (fun hHeld => ?_)
   ·
    go_keep
   have hB0 := hB
   have hz7 := (Below.refl w4.heap.size w4).drew.size
   replace hB := bl_trans hB (Below.refl w4.heap.size w4).drew
   clear z01
   replace HZ0 := Lib.hid (((Below.refl w4.heap.size w4).drew.block (w.heap.size) (show w.heap.size < w4.heap.size by omega)).trans HZ0.out)
   clear e11
   replace HE1 := Lib.hid (((Below.refl w4.heap.size w4).drew.block (w3.heap.size) (show w3.heap.size < w4.heap.size by omega)).trans HE1.out)
   replace OE := Lib.hid (OE.out.keep fun b hb' => (Below.refl w4.heap.size w4).drew.block b (by have := GE.out b hb'; omega))
   obtain ⟨z02_0, z02_1, z02_2, z02_3, z02_4, z02_5, z02_6, z02_7, z02_8, z02_9, z02_10, z02_f⟩ := cells11 HZ0
   have e12 := cells11 HE1
   have hne11 : w.heap.size ≠ w3.heap.size := by omega
   refine tk 0 31 rfl rfl ?_
   try simp only [pu]
   refine tk 1 32 rfl rfl ?_
   try simp only [pu]
   refine tk 2 33 rfl rfl ?_
   try simp only [pu]
   refine tk 3 34 rfl rfl ?_
   try simp only [pu]
   refine tk 4 35 rfl rfl ?_
   try simp only [pu]
   refine tk 6 37 rfl rfl ?_
   try simp only [pu]
   refine tk 7 38 rfl rfl ?_
   try simp only [pu]
   refine take_ready 5 rfl (by kernel_rfl) (fun K hK => ?_)
   go_simp
   go_at_call 41
   refine (JR.out w4.drew hB (OE.out.reads (B := w4.drew.heap.size) (fun b hb' => by have := GE.out b hb'; omega))).mono ?_
   rintro e wr ⟨rfl, hbr⟩
   have hz8 := hbr.size
   replace hB := bl_trans hB hbr
   clear z02_0 z02_1 z02_2 z02_3 z02_4 z02_5 z02_6 z02_7 z02_8 z02_9 z02_10 z02_f
   replace HZ0 := bk HZ0 hbr
   clear e12
   replace HE1 := bk HE1 hbr
   replace OE := Lib.hid (OE.out.keep fun b hb' => hbr.block b (by have := GE.out b hb'; omega))
   have z03 := cells11 HZ0
   have e13 := cells11 HE1
   refine hK.out _ _ ?_ (fun hHeld => ?_)
   ·
    go_keep
   clear hK K
   try simp only [pu]
   refine tk 8 39 rfl rfl ?_
   try simp only [pu]
   refine tk 9 40 rfl rfl ?_
   try simp only [pu]
   refine take_ready 10 rfl (by kernel_rfl) (fun K hK => ?_)
   go_simp
   refine hK.out _ _ ?_ (fun hHeld => ?_)
   ·
    exact keep11n hne11 hHeld
   clear hK K
   try simp only [pu]
   refine tk 11 5 rfl rfl ?_
   try simp only [pu]
   refine wpAnyH_done (by kernel_rfl) ?_ _
   go_wp2_with fail
   refine bodyPost_ret (v := .tuple #[.agg #[.int .i64 E.kd, .string E.nm, .string E.tn, .string E.it.nm, .int .i64 E.it.n, .slice Aa ma ca, .int .i64 E.it.cl, .int .i64 E.it.lb, .slice Af mf cf, .slice As ms cs, .slice Ar mr cr], .bool false]) (by simp [results, Tryz.results48, go_sem, z03]) rfl ?_
   exact rr_end HN.out (fun h => by cases h) OE.out hn (fun x hx => by have := GE.out x hx; omega) hB rfl
end Go.Proofs.YtcfbkickiijjkaaGreatDoor
