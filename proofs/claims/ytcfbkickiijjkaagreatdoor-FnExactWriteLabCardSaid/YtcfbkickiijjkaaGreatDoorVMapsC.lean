/-
  The program's two tables of certificates' forms, as maps that the call makes.
-/
import Derived.Test.YtcfbkickiijjkaaGreatDoorVZ
import Derived.Maps.Own
import Derived.Maps.OwnOps
import Derived.Maps.Views
namespace Go.Proofs.YtcfbkickiijjkaaGreatDoor
open Go.RowKit Go.Maps Go.WideMaps
set_option linter.all false
theorem lawS : Keyed Tryz.prog 9 := string_keyed Tryz.underlying9
theorem lawI : Keyed Tryz.prog 3 := int_keyed Tryz.underlying3
theorem zeroI (w : World) : (zeroValue 3).run Tryz.prog w = .ok (.int .i64 0) w := by kernel_rfl
abbrev MapS (w : World) (b n : Nat) (D : DataW Unit) : Prop := w.ownsMap Tryz.prog 9 (plainElem Tryz.prog 3) b n D
abbrev MapI (w : World) (b n : Nat) (D : DataW Unit) : Prop := w.ownsMap Tryz.prog 3 (plainElem Tryz.prog 3) b n D
theorem look_s {w : World} {b n : Nat} {D : DataW Unit} (h : MapS w b n D) (p : List UInt8) (hp : p.length ≤ maxLen) :
    (∀ c : Int, (∀ zd, D.atKey (.string p) zd = .lit (.int .i64 c)) → (Instr.lookup 225 (.map (some b)) (.string ⟨p.toArray⟩) true).run Tryz.prog w = .ok (.tuple #[.int .i64 c, .bool true]) w) ∧
    ((∀ zd, D.atKey (.string p) zd = zd) → (Instr.lookup 225 (.map (some b)) (.string ⟨p.toArray⟩) true).run Tryz.prog w = .ok (.tuple #[.int .i64 0, .bool false]) w) := by
  obtain ⟨es, clock, hb, F, _, rfl⟩ := h
  have hkey : keyOf Tryz.prog 9 (.string ⟨p.toArray⟩) = some (.string p) := keyOf_string_mk Tryz.underlying9 (s := ⟨p.toArray⟩) (by rw [Lib.size_eq]; exact hp)
  rcases Maps.fit_look true lawS Tryz.underlying225 (zeroI w) hb F hkey with ⟨hrun, _, hat⟩ | ⟨e0, y, _, _, hrun, hRv, hat, _⟩
  · refine ⟨fun c hc => ?_, fun _ => hrun⟩
    have := (hat .nil).symm.trans (hc .nil)
    cases this
  · obtain ⟨c0, e1, e2, _⟩ := plainElem_int_inv Tryz.underlying3 hRv
    refine ⟨fun c hc => ?_, fun hn => ?_⟩
    · have h1 := (hat .nil).symm.trans (hc .nil)
      rw [e2] at h1
      simp only [DataW.lit.injEq, Lit.int.injEq, true_and] at h1
      rw [hrun, e1, h1]
      rfl
    · have h1 := (hat .nil).symm.trans (hn .nil)
      rw [e2] at h1
      cases h1
theorem look_i {w : World} {b n : Nat} {D : DataW Unit} (h : MapI w b n D) (k c : Int) (hk : (Lit.int .i64 k).wf = true) (hc : D.atKey (.int .i64 k) (.lit (.int .i64 0)) = .lit (.int .i64 c)) :
    (Instr.lookup 226 (.map (some b)) (.int .i64 k) false).run Tryz.prog w = .ok (.int .i64 c) w := by
  obtain ⟨c', hrun, hat, _⟩ := h.lookup_int lawI Tryz.underlying226 Tryz.underlying3 (zeroI w) (keyOf_int_mk Tryz.underlying3 hk)
  rw [hc] at hat
  simp only [DataW.lit.injEq, Lit.int.injEq, true_and] at hat
  rw [hrun, hat]
/-! ### The tables -/
def wConstant : List UInt8 := [99, 111, 110, 115, 116, 97, 110, 116]
def wStar : List UInt8 := [115, 116, 97, 114]
def wGlobal : List UInt8 := [103, 108, 111, 98, 97, 108]
def wNever : List UInt8 := [110, 101, 118, 101, 114]
def DH : DataW Unit := ((((DataW.map []).put (.string wConstant) (.lit (.int .i64 3))).put (.string wStar) (.lit (.int .i64 2))).put (.string wGlobal) (.lit (.int .i64 1))).put (.string wNever) (.lit (.int .i64 0))
def DC : DataW Unit := ((((DataW.map []).put (.int .i64 3) (.lit (.int .i64 2))).put (.int .i64 2) (.lit (.int .i64 4))).put (.int .i64 1) (.lit (.int .i64 3))).put (.int .i64 0) (.lit (.int .i64 1))
def clsI (p : List UInt8) : Int := if p = wConstant then 3 else if p = wStar then 2 else if p = wGlobal then 1 else 0
def isCls (p : List UInt8) : Bool := decide (p = wConstant ∨ p = wStar ∨ p = wGlobal ∨ p = wNever)
theorem keyS (p : List UInt8) : WideAt.IsKeyLit (.string p) := trivial
theorem ne_s {p q : List UInt8} (h : p ≠ q) : Lit.string p ≠ Lit.string q := fun e => h (by simpa using e)
theorem DH_at (p : List UInt8) (h : isCls p = true) (zd : DataW Unit) : DH.atKey (.string p) zd = .lit (.int .i64 (clsI p)) := by
  have h' : p = wConstant ∨ p = wStar ∨ p = wGlobal ∨ p = wNever := by simpa [isCls] using h
  unfold DH
  rcases h' with rfl | rfl | rfl | rfl
  · rw [atKey_put_other (ne_s (show wConstant ≠ wNever by decide)), atKey_put_other (ne_s (show wConstant ≠ wGlobal by decide)), atKey_put_other (ne_s (show wConstant ≠ wStar by decide)), atKey_put_same isMap_empty (keyS _)]; rfl
  · rw [atKey_put_other (ne_s (show wStar ≠ wNever by decide)), atKey_put_other (ne_s (show wStar ≠ wGlobal by decide)), atKey_put_same (isMap_empty.put _ _) (keyS _)]; rfl
  · rw [atKey_put_other (ne_s (show wGlobal ≠ wNever by decide)), atKey_put_same ((isMap_empty.put _ _).put _ _) (keyS _)]; rfl
  · rw [atKey_put_same (((isMap_empty.put _ _).put _ _).put _ _) (keyS _)]; rfl
theorem DH_no (p : List UInt8) (h : isCls p = false) (zd : DataW Unit) : DH.atKey (.string p) zd = zd := by
  have h' : ¬ (p = wConstant ∨ p = wStar ∨ p = wGlobal ∨ p = wNever) := by simpa [isCls] using h
  unfold DH
  rw [atKey_put_other (ne_s fun e => h' (.inr (.inr (.inr e)))), atKey_put_other (ne_s fun e => h' (.inr (.inr (.inl e)))), atKey_put_other (ne_s fun e => h' (.inr (.inl e))), atKey_put_other (ne_s fun e => h' (.inl e))]
  rfl
theorem heads_look {w : World} {b n : Nat} (h : MapS w b n DH) (p : List UInt8) (hp : p.length ≤ maxLen) :
    (Instr.lookup 225 (.map (some b)) (.string ⟨p.toArray⟩) true).run Tryz.prog w = .ok (.tuple #[.int .i64 (if isCls p = true then clsI p else 0), .bool (isCls p)]) w := by
  cases hc : isCls p with
  | true => exact (look_s h p hp).1 _ (DH_at p hc)
  | false => exact (look_s h p hp).2 (DH_no p hc)
def cntI (c : Int) : Int := if c = 3 then 2 else if c = 2 then 4 else if c = 1 then 3 else 1
theorem counts_look {w : World} {b n : Nat} (h : MapI w b n DC) (c : Int) (hc : c = 0 ∨ c = 1 ∨ c = 2 ∨ c = 3) :
    (Instr.lookup 226 (.map (some b)) (.int .i64 c) false).run Tryz.prog w = .ok (.int .i64 (cntI c)) w := by
  rcases hc with rfl | rfl | rfl | rfl <;> exact look_i h _ _ (by decide) (by rfl)
theorem upd_s {w : World} {b n : Nat} {D : DataW Unit} (h : MapS w b n D) (hn : n < 100) (p : List UInt8) (hp : p.length ≤ 100) (c : Int) (hc : (Lit.int .i64 c).wf = true) :
    ∃ w', (Instr.mapUpdate 225 (.map (some b)) (.string ⟨p.toArray⟩) (.int .i64 c)).run Tryz.prog w = .ok () w' ∧ MapS w' b (n + 1) (D.put (.string p) (.lit (.int .i64 c))) ∧ w.grownBy w' (some b) :=
  h.update lawS Tryz.underlying225 (by unfold maxLen; omega) (keyOf_string_mk (s := ⟨p.toArray⟩) Tryz.underlying9 (by rw [Lib.size_eq]; show p.length ≤ _; unfold maxLen; omega)) (plainElem_int Tryz.underlying3 hc)
theorem upd_i {w : World} {b n : Nat} {D : DataW Unit} (h : MapI w b n D) (hn : n < 100) (k c : Int) (hk : (Lit.int .i64 k).wf = true) (hc : (Lit.int .i64 c).wf = true) :
    ∃ w', (Instr.mapUpdate 226 (.map (some b)) (.int .i64 k) (.int .i64 c)).run Tryz.prog w = .ok () w' ∧ MapI w' b (n + 1) (D.put (.int .i64 k) (.lit (.int .i64 c))) ∧ w.grownBy w' (some b) :=
  h.update lawI Tryz.underlying226 (by unfold maxLen; omega) (keyOf_int_mk Tryz.underlying3 hk) (plainElem_int Tryz.underlying3 hc)
theorem heap_old_lt {W : World} {o : Obj} {k : Nat} (h : k < W.heap.size) : (W.alloc o).heap[k]? = W.heap[k]? := ((Below.refl W.heap.size W).alloc (Nat.le_refl _) o).block k h
theorem map_below {W x : World} {o : Obj} (hg : (W.alloc o).grownBy x (some W.heap.size)) : Below W.heap.size W x :=
  ⟨hg.os, hg.tape, hg.output, by have := hg.size; simp at this; omega, fun k hk => (hg.block k (by simp; omega) (by simp; omega)).trans (heap_old_lt hk)⟩
theorem heads_made (W : World) : ∃ x1 x2 x3 x4,
    (Instr.mapUpdate 225 (.map (some W.heap.size)) (.string ⟨#[99, 111, 110, 115, 116, 97, 110, 116]⟩) (.int .i64 3)).run Tryz.prog (W.alloc (.map #[] 0)) = .ok () x1 ∧
    (Instr.mapUpdate 225 (.map (some W.heap.size)) (.string ⟨#[115, 116, 97, 114]⟩) (.int .i64 2)).run Tryz.prog x1 = .ok () x2 ∧
    (Instr.mapUpdate 225 (.map (some W.heap.size)) (.string ⟨#[103, 108, 111, 98, 97, 108]⟩) (.int .i64 1)).run Tryz.prog x2 = .ok () x3 ∧
    (Instr.mapUpdate 225 (.map (some W.heap.size)) (.string ⟨#[110, 101, 118, 101, 114]⟩) (.int .i64 0)).run Tryz.prog x3 = .ok () x4 ∧
    MapS x4 W.heap.size 4 DH ∧ Below W.heap.size W x4 ∧ W.heap.size < x4.heap.size := by
  obtain ⟨x1, r1, h1, g1⟩ := upd_s (World.ownsMap_made W _ _ _) (by omega) wConstant (by decide) 3 (by decide)
  obtain ⟨x2, r2, h2, g2⟩ := upd_s h1 (by omega) wStar (by decide) 2 (by decide)
  obtain ⟨x3, r3, h3, g3⟩ := upd_s h2 (by omega) wGlobal (by decide) 1 (by decide)
  obtain ⟨x4, r4, h4, g4⟩ := upd_s h3 (by omega) wNever (by decide) 0 (by decide)
  exact ⟨x1, x2, x3, x4, r1, r2, r3, r4, h4, map_below (((g1.trans g2).trans g3).trans g4), h4.lt⟩
theorem counts_made (W : World) : ∃ x1 x2 x3 x4,
    (Instr.mapUpdate 226 (.map (some W.heap.size)) (.int .i64 3) (.int .i64 2)).run Tryz.prog (W.alloc (.map #[] 0)) = .ok () x1 ∧
    (Instr.mapUpdate 226 (.map (some W.heap.size)) (.int .i64 2) (.int .i64 4)).run Tryz.prog x1 = .ok () x2 ∧
    (Instr.mapUpdate 226 (.map (some W.heap.size)) (.int .i64 1) (.int .i64 3)).run Tryz.prog x2 = .ok () x3 ∧
    (Instr.mapUpdate 226 (.map (some W.heap.size)) (.int .i64 0) (.int .i64 1)).run Tryz.prog x3 = .ok () x4 ∧
    MapI x4 W.heap.size 4 DC ∧ Below W.heap.size W x4 ∧ W.heap.size < x4.heap.size := by
  obtain ⟨x1, r1, h1, g1⟩ := upd_i (World.ownsMap_made W _ _ _) (by omega) 3 2 (by decide) (by decide)
  obtain ⟨x2, r2, h2, g2⟩ := upd_i h1 (by omega) 2 4 (by decide) (by decide)
  obtain ⟨x3, r3, h3, g3⟩ := upd_i h2 (by omega) 1 3 (by decide) (by decide)
  obtain ⟨x4, r4, h4, g4⟩ := upd_i h3 (by omega) 0 1 (by decide) (by decide)
  exact ⟨x1, x2, x3, x4, r1, r2, r3, r4, h4, map_below (((g1.trans g2).trans g3).trans g4), h4.lt⟩
theorem map_kept {w w' : World} {b n : Nat} {D : DataW Unit} (h : MapI w b n D) (hb : Below w.heap.size w w') : MapI w' b n D :=
  h.kept (row := none) ⟨hb.os, hb.tape, hb.output, hb.size, fun j hj _ => hb.block j hj⟩ (by simp)
end Go.Proofs.YtcfbkickiijjkaaGreatDoor
