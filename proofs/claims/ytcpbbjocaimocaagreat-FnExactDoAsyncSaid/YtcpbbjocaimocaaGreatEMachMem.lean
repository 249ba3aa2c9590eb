/-
  How machines and asynchronous states are read in memory. No program in sight, no condition.
-/
import Derived.Test.YtcpbbjocaimocaaGreatEArgsLet
import Derived.Test.YtcpbbjocaimocaaGreatEPlainAsync
namespace Go.Proofs.YtcpbbjocaimocaaGreat
open Go.RowKit
set_option linter.all false
def ClsR (w : World) (B : Nat) (v : Value) (cs : List Cl) : Prop :=
  ∃ A c, v = .slice A cs.length c ∧ cs.length ≤ c ∧ c ≤ maxLen ∧ (∀ e ∈ cs, I64 e.1 ∧ I64 e.2.2) ∧ (0 < cs.length → ∃ b o, A = some ⟨b, o, none⟩ ∧ b < B ∧
    ∀ k e, cs[k]? = some e → w.cell? ⟨b, o + k * 3, none⟩ = some (.int .i64 e.1) ∧ (∃ u, w.cell? ⟨b, o + k * 3 + 1, none⟩ = some u ∧ IntsR w B u e.2.1) ∧ w.cell? ⟨b, o + k * 3 + 2, none⟩ = some (.int .i64 e.2.2))
theorem ClsR.below {w w' : World} {B : Nat} {v : Value} {cs : List Cl} (h : ClsR w B v cs) (hb : Below B w w') : ClsR w' B v cs := by
  obtain ⟨A, c, e, h1, h2, h3, h4⟩ := h
  refine ⟨A, c, e, h1, h2, h3, fun hn => ?_⟩
  obtain ⟨b, o, e', hb', hc⟩ := h4 hn
  refine ⟨b, o, e', hb', fun k x hx => ?_⟩
  obtain ⟨k1, ⟨u, k2, k3⟩, k4⟩ := hc k x hx
  exact ⟨(hb.cell (p := ⟨b, o + k * 3, none⟩) hb').trans k1, ⟨u, (hb.cell (p := ⟨b, o + k * 3 + 1, none⟩) hb').trans k2, k3.below hb⟩, (hb.cell (p := ⟨b, o + k * 3 + 2, none⟩) hb').trans k4⟩
theorem ClsR.more {w : World} {B B' : Nat} {v : Value} {cs : List Cl} (h : ClsR w B v cs) (hB : B ≤ B') : ClsR w B' v cs := by
  obtain ⟨A, c, e, h1, h2, h3, h4⟩ := h
  refine ⟨A, c, e, h1, h2, h3, fun hn => ?_⟩
  obtain ⟨b, o, e', hb', hc⟩ := h4 hn
  refine ⟨b, o, e', Nat.lt_of_lt_of_le hb' hB, fun k x hx => ?_⟩
  obtain ⟨k1, ⟨u, k2, k3⟩, k4⟩ := hc k x hx
  exact ⟨k1, ⟨u, k2, k3.more hB⟩, k4⟩
theorem ClsR.isSlice {w : World} {B : Nat} {v : Value} {cs : List Cl} (h : ClsR w B v cs) : ∃ A m c, v = .slice A m c := by
  obtain ⟨A, c, rfl, _⟩ := h
  exact ⟨_, _, _, rfl⟩
theorem RowsR.isSlice1 {w : World} {B : Nat} {v : Value} {xs : List (List Int)} (h : RowsR w B v xs) : ∃ A m c, v = .slice A m c := by
  obtain ⟨A, c, rfl, _⟩ := h.open_
  exact ⟨_, _, _, rfl⟩
structure MachR (w : World) (B : Nat) (vs ve vc vo : Value) (m : Mach) : Prop where
  s : RowsR w B vs m.start
  e : RowsR w B ve m.send
  c : ClsR w B vc m.cls
  o : IntsR w B vo m.out
  i : I64 m.deg ∧ I64 m.st ∧ I64 m.msg
theorem MachR.up {w w' : World} {vs ve vc vo : Value} {m : Mach} (h : MachR w w.heap.size vs ve vc vo m) (hb : Below w.heap.size w w') : MachR w' w'.heap.size vs ve vc vo m :=
  ⟨(h.s.below hb).more hb.size, (h.e.below hb).more hb.size, (h.c.below hb).more hb.size, (h.o.below hb).more hb.size, h.i⟩
theorem MachR.slices {w : World} {B : Nat} {vs ve vc vo : Value} {m : Mach} (h : MachR w B vs ve vc vo m) : (∃ A m c, vs = .slice A m c) ∧ (∃ A m c, ve = .slice A m c) ∧ (∃ A m c, vc = .slice A m c) ∧ ∃ A m c, vo = .slice A m c := ⟨h.s.isSlice1, h.e.isSlice1, h.c.isSlice, h.o.isSlice⟩
def machV (vs ve vc vo : Value) (m : Mach) : Value := .agg #[.int .i64 m.deg, .int .i64 m.st, .int .i64 m.msg, vs, ve, vc, vo]
structure AsyR (w : World) (B : Nat) (vr vb vn vs vf : Value) (x : Asy) : Prop where
  r : IntsR w B vr x.rounds
  b : IntsR w B vb x.before
  n : IntsR w B vn x.now
  s : RowsR w B vs x.slots
  f : Ends3R w (· < B) vf x.flight
theorem AsyR.up {w w' : World} {vr vb vn vs vf : Value} {x : Asy} (h : AsyR w w.heap.size vr vb vn vs vf x) (hb : Below w.heap.size w w') : AsyR w' w'.heap.size vr vb vn vs vf x :=
  ⟨(h.r.below hb).more hb.size, (h.b.below hb).more hb.size, (h.n.below hb).more hb.size, (h.s.below hb).more hb.size, (h.f.below hb).more hb.size⟩
theorem AsyR.slices {w : World} {B : Nat} {vr vb vn vs vf : Value} {x : Asy} (h : AsyR w B vr vb vn vs vf x) : (∃ A m c, vr = .slice A m c) ∧ (∃ A m c, vb = .slice A m c) ∧ (∃ A m c, vn = .slice A m c) ∧ (∃ A m c, vs = .slice A m c) ∧ ∃ A m c, vf = .slice A m c := ⟨h.r.isSlice, h.b.isSlice, h.n.isSlice, h.s.isSlice1, h.f.isSlice⟩
def lensC : List Cl → Nat
  | [] => 0
  | c :: r => c.2.1.length + lensC r
def szCls (cs : List Cl) : Nat := cs.length + lensC cs
theorem lensC_append : ∀ (a b : List Cl), lensC (a ++ b) = lensC a + lensC b
  | [], b => by simp [lensC]
  | x :: a, b => by simp [lensC, lensC_append a b]; omega
theorem lensC_snoc (cs : List Cl) (k : Nat) (c : Cl) (h : cs[k]? = some c) : lensC (cs.take (k + 1)) = lensC (cs.take k) + c.2.1.length := by
  obtain ⟨hk, rfl⟩ := List.getElem?_eq_some_iff.1 h
  rw [List.take_succ_eq_append_getElem hk, lensC_append]
  rfl
theorem lensC_split (cs : List Cl) (k : Nat) : lensC cs = lensC (cs.take k) + lensC (cs.drop k) := by rw [← lensC_append, List.take_append_drop]
theorem lensC_all (cs : List Cl) (k : Nat) (h : cs.length ≤ k) : lensC (cs.take k) = lensC cs := by rw [List.take_of_length_le h]
def szMach (m : Mach) : Nat := szRows m.start + szRows m.send + szCls m.cls + m.out.length
def szAsy (x : Asy) : Nat := x.rounds.length + x.before.length + x.now.length + szRows x.slots + szEnds3 x.flight
end Go.Proofs.YtcpbbjocaimocaaGreat
