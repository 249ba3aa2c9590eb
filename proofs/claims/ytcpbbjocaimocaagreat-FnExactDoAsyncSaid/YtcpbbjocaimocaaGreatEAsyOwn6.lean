/-
  Lists of lists of a call's own, made at their full length and filled one by one (Pack); owned states put together of parts. No program in sight, no condition.
-/
import Derived.Test.YtcpbbjocaimocaaGreatEAsyOwn5
namespace Go.Proofs.YtcpbbjocaimocaaGreat
open Go.RowKit
set_option linter.all false
def packK (j : Nat) : Key → Prop
  | .s => True
  | .sl p => p < j
  | _ => False
def packR (ty : TypeId) (R0 : Nat → RowD) (n j : Nat) (val : Key → Value) : Key → RowD
  | .s => ⟨ty, 1, n, valsOf .sl val j ++ List.replicate (n - j) nilV⟩
  | .sl p => R0 p
  | _ => ⟨3, 1, 0, []⟩
def Pack (w : World) (N : Nat) (ty : TypeId) (R0 : Nat → RowD) (n j : Nat) (val : Key → Value) : Prop := OwnK w N (packK j) val (packR ty R0 n j val)
section
variable {w w1 : World} {N n j : Nat} {ty : TypeId} {R0 : Nat → RowD} {val : Key → Value}
theorem Pack.keep (h : Pack w N ty R0 n j val) (hg : w.grownBy w1 none) : Pack w1 N ty R0 n j val := OwnK.keep h hg
theorem Pack.top (h : Pack w N ty R0 n j val) : w.ownsRow N ty 1 (val .s) n (valsOf .sl val j ++ List.replicate (n - j) nilV) := h.own .s trivial
theorem Pack.start (R0 : Nat → RowD) {v : Value} (h : w.ownsRow N ty 1 v n (List.replicate n nilV)) : ∃ val, val .s = v ∧ Pack w N ty R0 n 0 val := by
  refine ⟨fun j => match j with | .s => v | _ => nilV, rfl, fun i hi => ?_, fun i k hi hk hne => ?_⟩
  · cases i with
    | s => exact h
    | sl p => exact absurd (show p < 0 from hi) (by omega)
    | _ => exact hi.elim
  · cases i with
    | s => cases k with
      | s => exact absurd rfl hne
      | sl p => exact absurd (show p < 0 from hk) (by omega)
      | _ => exact hk.elim
    | sl p => exact absurd (show p < 0 from hi) (by omega)
    | _ => exact hi.elim
theorem Pack.step (h : Pack w N ty R0 n j val) (hj : j < n) {g cap : Nat} (hv : val .s = .slice (some ⟨g, 0, none⟩) n cap) {u : Value} (hg : w.grownBy w1 none) (hn : w1.ownsRow N (R0 j).ty (R0 j).sz u (R0 j).len (R0 j).con) (hb : u.ownBlock = none ∨ ∃ g, u.ownBlock = some g ∧ w.heap.size ≤ g) :
  ∃ val', val' .s = val .s ∧ Pack (w1.setCell ⟨g, j, none⟩ u) N ty R0 n (j + 1) val' := by
 refine ⟨upd val (.sl j) u, upd_ne _ _ (by simp), (OwnK.set (OwnK.new h (.sl j) u (R0 j) hg hn hb) .s (.inl trivial) (g := g) (cap := cap) (j := j) (n := n) (con := valsOf .sl val j ++ List.replicate (n - j) nilV) (ty := ty) (sz := 1) (by rw [upd_ne _ _ (by simp)]; exact hv) (by rw [upd_ne _ _ (by simp)]; rfl) u).congr fun i hi => ⟨?_, rfl, ?_⟩⟩
 ·
  cases i with
  | s => exact .inl trivial
  | sl p =>
   have hp : p < j + 1 := hi
   by_cases e : p = j
   ·
    exact .inr (by rw [e])
   ·
    exact .inl (show p < j by omega)
  | _ => exact hi.elim
 ·
  cases i with
  | s =>
   rw [upd_same]
   show (⟨ty, 1, n, valsOf .sl (upd val (.sl j) u) (j + 1) ++ List.replicate (n - (j + 1)) nilV⟩ : RowD) = _
   rw [valsOf_succ, upd_same, valsOf_congr (fun k hk => upd_ne _ _ (by simp; omega))]
   have hl := valsOf_len .sl val j
   obtain ⟨d, hd⟩ : ∃ d, n - j = d + 1 := ⟨n - j - 1, by omega⟩
   rw [hd, show n - (j + 1) = d by omega, List.replicate_succ, List.set_append_right j u (by omega), hl, Nat.sub_self, List.set_cons_zero, List.append_assoc]
   rfl
  | sl p =>
   rw [upd_ne _ _ (by simp)]
   by_cases e : p = j
   ·
    subst e; rw [upd_same]; rfl
   ·
    rw [upd_ne _ _ (by simpa using e)]; rfl
  | _ => exact hi.elim
theorem OwnK.join {base : Nat} {K1 K2 K' : Key → Prop} {val1 val2 val' : Key → Value} {R1 R2 R' : Key → RowD} (h1 : OwnK w base K1 val1 R1) (h2 : OwnK w N K2 val2 R2) (hb : base ≤ N) (hN : ∀ i, K1 i → ∀ g, (val1 i).ownBlock = some g → g < N) (φ : Key → Key)
    (hv : ∀ i, K' i → (K1 i ∧ val' i = val1 i ∧ R' i = R1 i) ∨ (K2 (φ i) ∧ val' i = val2 (φ i) ∧ R' i = R2 (φ i))) (hφ : ∀ i k, K2 (φ i) → K2 (φ k) → φ i = φ k → i = k) : OwnK w base K' val' R' := by
  have far : ∀ i k, K1 i → K2 k → ((val1 i).ownBlock = none ∨ (val1 i).ownBlock ≠ (val2 k).ownBlock) ∧ ((val2 k).ownBlock = none ∨ (val2 k).ownBlock ≠ (val1 i).ownBlock) := fun i k hi hk => by
    cases e1 : (val1 i).ownBlock with
    | none => exact ⟨.inl rfl, by cases (val2 k).ownBlock <;> simp⟩
    | some g =>
      cases e2 : (val2 k).ownBlock with
      | none => exact ⟨.inr (by simp), .inl rfl⟩
      | some g2 =>
        have a1 := hN i hi g e1
        have a2 := ((h2.own k hk).lt g2 e2).1
        exact ⟨.inr (fun e => by have := Option.some.inj e; omega), .inr (fun e => by have := Option.some.inj e; omega)⟩
  refine ⟨fun i hi => ?_, fun i k hi hk hne => ?_⟩
  · rcases hv i hi with ⟨a, b, c⟩ | ⟨a, b, c⟩
    · rw [b, c]; exact h1.own i a
    · rw [b, c]; exact own_mono (h2.own _ a) hb
  · rcases hv i hi with ⟨a, b, c⟩ | ⟨a, b, c⟩ <;> rcases hv k hk with ⟨a', b', c'⟩ | ⟨a', b', c'⟩ <;> rw [b, b']
    · exact h1.sep i k a a' hne
    · exact (far i _ a a').1
    · exact (far k _ a' a).2
    · exact h2.sep _ _ a a' fun e => hne (hφ i k a a' e)
def intD (xss : List (List Int)) (k : Nat) : RowD := ⟨3, 1, (xss.getD k []).length, (xss.getD k []).map intV⟩
def letD (row : List Ends) (k : Nat) : RowD := ⟨156, 2, (row.getD k []).length, letCells (row.getD k [])⟩
theorem AsyK.of4 {base : Nat} {v1 v2 v3 : Value} {rs bs ns : List Int} {ss : List (List Int)} (h1 : w.ownsRow base 3 1 v1 rs.length (rs.map intV)) (h2 : w.ownsRow base 3 1 v2 bs.length (bs.map intV)) (h3 : w.ownsRow base 3 1 v3 ns.length (ns.map intV))
  (s12 : v1.ownBlock = none ∨ v1.ownBlock ≠ v2.ownBlock) (s13 : v1.ownBlock = none ∨ v1.ownBlock ≠ v3.ownBlock) (s23 : v2.ownBlock = none ∨ v2.ownBlock ≠ v3.ownBlock) {P : Nat} (n1 : v1.ownBlock ≠ some P) (n2 : v2.ownBlock ≠ some P) (n3 : v3.ownBlock ≠ some P)
  (hS : Pack w N 24 (intD ss) ss.length ss.length val) (hb : base ≤ N) (b1 : ∀ g, v1.ownBlock = some g → g < N) (b2 : ∀ g, v2.ownBlock = some g → g < N) (b3 : ∀ g, v3.ownBlock = some g → g < N) (n4 : ∀ i, packK ss.length i → (val i).ownBlock ≠ some P)
  (H : Hid (w.heap[P]? = some (.cells #[v1, v2, v3, val .s, .slice none 0 0] 50 (0, 0)))) :
  ∃ val', AsyB w base val' ⟨rs, bs, ns, ss, []⟩ P := by
 have turn : ∀ {a b : Option Nat}, (a = none ∨ a ≠ b) → (b = none ∨ b ≠ a) := fun {a b} h => by
  cases b with
  | none => exact .inl rfl
  | some g =>
   rcases h with h | h
   ·
    rw [h]; exact .inr (by simp)
   ·
    exact .inr fun e => h e.symm
 have hK : OwnK w base (fun i => match i with | .r => True | .b => True | .n => True | _ => False) (fun i => match i with | .r => v1 | .b => v2 | .n => v3 | _ => nilV) (rowK ⟨rs, bs, ns, ss, []⟩ val) := by
  refine ⟨fun i hi => ?_, fun i k hi hk hne => ?_⟩
  ·
   cases i with
   | r => exact h1
   | b => exact h2
   | n => exact h3
   | _ => exact hi.elim
  ·
   cases i with
   | r => cases k with
    | r => exact absurd rfl hne
    | b => exact s12
    | n => exact s13
    | _ => exact hk.elim
   | b => cases k with
    | b => exact absurd rfl hne
    | r => exact turn s12
    | n => exact s23
    | _ => exact hk.elim
   | n => cases k with
    | n => exact absurd rfl hne
    | r => exact turn s13
    | b => exact turn s23
    | _ => exact hk.elim
   | _ => exact hi.elim
 have hN : ∀ i, (match i with | Key.r => True | Key.b => True | Key.n => True | _ => False) → ∀ g, (match i with | Key.r => v1 | Key.b => v2 | Key.n => v3 | _ => nilV).ownBlock = some g → g < N := fun i hi => by
  cases i with
  | r => exact b1
  | b => exact b2
  | n => exact b3
  | _ => exact hi.elim
 have hJ := OwnK.join (K' := fun i => keyOf ⟨rs, bs, ns, ss, []⟩ i ∧ i ≠ .f) (val' := fun i => match i with | .r => v1 | .b => v2 | .n => v3 | .s => val .s | .sl p => val (.sl p) | _ => nilV) (R' := rowK ⟨rs, bs, ns, ss, []⟩ val) hK hS hb hN id (fun i hi => by
  cases i with
  | r => exact .inl ⟨trivial, rfl, rfl⟩
  | b => exact .inl ⟨trivial, rfl, rfl⟩
  | n => exact .inl ⟨trivial, rfl, rfl⟩
  | s => exact .inr ⟨trivial, rfl, by show _ = (⟨_, _, _, _⟩ : RowD); rw [Nat.sub_self]; simp [rowK]⟩
  | sl p => exact .inr ⟨hi.1, rfl, rfl⟩
  | f => exact absurd rfl hi.2
  | fr k => exact absurd (show k < 0 from hi.1) (by omega)
  | le k p => exact absurd (show k < 0 from hi.1.1) (by omega)) (fun i k _ _ e => e)
 refine ⟨fun i => match i with | .r => v1 | .b => v2 | .n => v3 | .s => val .s | .sl p => val (.sl p) | _ => nilV, ⟨fun i hi => ?_, fun i k hi hk hne => ?_⟩, fun i hi => ?_, H.out⟩
 ·
  by_cases e : i = .f
  ·
   subst e; exact World.ownsRow_nil _ _ _ _
  ·
   have := hJ.own i ⟨hi, e⟩
   cases i with
   | f => exact absurd rfl e
   | fr k => exact absurd (show k < 0 from hi) (by omega)
   | le k p => exact absurd (show k < 0 from hi.1) (by omega)
   | _ => exact this
 ·
  by_cases e : i = .f
  ·
   subst e; exact .inl rfl
  ·
   by_cases e2 : k = .f
   ·
    subst e2
    generalize (match i with | Key.r => v1 | Key.b => v2 | Key.n => v3 | Key.s => val .s | Key.sl p => val (.sl p) | _ => nilV).ownBlock = o
    show o = none ∨ o ≠ none
    cases o <;> simp
   ·
    exact hJ.sep i k ⟨hi, e⟩ ⟨hk, e2⟩ hne
 ·
  cases i with
  | r => exact n1
  | b => exact n2
  | n => exact n3
  | s => exact n4 .s trivial
  | sl p => exact n4 (.sl p) hi
  | _ => (show (none : Option Nat) ≠ some P; simp)
theorem AsyB.withPack {base P : Nat} {x : Asy} {vx : Key → Value} {row : List Ends} (h : AsyB w base vx x P) (hp : Pack w N 120 (letD row) row.length row.length val) (hb : base ≤ N) (hN : ∀ i, keyOf x i → ∀ g, (vx i).ownBlock = some g → g < N) (hP : P < N) :
  ∃ val', val' .f = vx .f ∧ val' (.fr x.flight.length) = val .s ∧ AsyFB w base val' x row P := by
 obtain ⟨L, hL⟩ : ∃ L, L = x.flight.length := ⟨_, rfl⟩
 have hval : ∃ val' : Key → Value, val' = fun i => match i with | .fr k => if k = L then val .s else vx (.fr k) | .le k p => if k = L then val (.sl p) else vx (.le k p) | j => vx j := ⟨_, rfl⟩
 obtain ⟨val', hv'⟩ := hval
 have e1 : ∀ k, k ≠ L → val' (.fr k) = vx (.fr k) := fun k hk => by rw [hv']; show (if k = L then _ else _) = _; rw [if_neg hk]
 have e2 : ∀ k p, k ≠ L → val' (.le k p) = vx (.le k p) := fun k p hk => by rw [hv']; show (if k = L then _ else _) = _; rw [if_neg hk]
 have e3 : val' (.fr L) = val .s := by rw [hv']; show (if L = L then _ else _) = _; rw [if_pos rfl]
 have e4 : ∀ p, val' (.le L p) = val (.sl p) := fun p => by rw [hv']; show (if L = L then _ else _) = _; rw [if_pos rfl]
 have e5 : val' .r = vx .r ∧ val' .b = vx .b ∧ val' .n = vx .n ∧ val' .s = vx .s ∧ val' .f = vx .f ∧ ∀ p, val' (.sl p) = vx (.sl p) := by rw [hv']; exact ⟨rfl, rfl, rfl, rfl, rfl, fun _ => rfl⟩
 clear hv'
 obtain ⟨f1, f2, f3, f4, f5, f6⟩ := e5
 have hR : ∀ i, keyOf (withRow x row) i → (keyOf x i ∧ val' i = vx i ∧ rowF x row val' i = rowK x vx i) ∨ (i = .fr L ∧ rowF x row val' i = packR 120 (letD row) row.length row.length val .s) ∨ ∃ p, i = .le L p ∧ p < row.length ∧ rowF x row val' i = letD row p := fun i hi => by
  unfold rowF
  rcases keyOf_row hi with h1 | h1 | ⟨p, h1, h2⟩
  ·
   by_cases c0 : i = .f
   ·
    subst c0
    refine .inl ⟨h1, f5, ?_⟩
    rw [upd_same, valsOf_congr (fun k hk => e1 k (by omega))]; rfl
   rw [upd_ne _ _ c0]
   cases i with
   | f => exact absurd rfl c0
   | fr k =>
    have hk : k < x.flight.length := h1
    refine .inl ⟨h1, e1 k (by omega), ?_⟩
    show (⟨_, _, (portsAt (withRow x row) k).length, valsOf (.le k) val' (portsAt (withRow x row) k).length⟩ : RowD) = _
    rw [portsAt_row row k (by omega), if_neg (by omega), valsOf_congr (fun q _ => e2 k q (by omega))]; rfl
   | le k p =>
    have hk : k < x.flight.length := h1.1
    refine .inl ⟨h1, e2 k p (by omega), ?_⟩
    show (⟨_, _, (lettersAt (withRow x row) k p).length, letCells (lettersAt (withRow x row) k p)⟩ : RowD) = _
    have e : lettersAt (withRow x row) k p = lettersAt x k p := by unfold lettersAt; rw [portsAt_row row k (by omega), if_neg (by omega)]
    rw [e]; rfl
   | s => refine .inl ⟨h1, f4, ?_⟩; show (⟨_, _, _, valsOf .sl val' _⟩ : RowD) = _; rw [valsOf_congr (fun p _ => f6 p)]; rfl
   | sl p => exact .inl ⟨h1, f6 p, rfl⟩
   | r => exact .inl ⟨h1, f1, rfl⟩
   | b => exact .inl ⟨h1, f2, rfl⟩
   | n => exact .inl ⟨h1, f3, rfl⟩
  ·
   rw [← hL] at h1
   subst h1
   refine .inr (.inl ⟨rfl, ?_⟩)
   rw [upd_ne _ _ (by simp)]
   show (⟨_, _, (portsAt (withRow x row) L).length, valsOf (.le L) val' (portsAt (withRow x row) L).length⟩ : RowD) = _
   rw [portsAt_row row L (by omega), if_pos hL]
   have e : valsOf (.le L) val' row.length = valsOf .sl val row.length := by unfold valsOf; exact List.map_congr_left fun p _ => e4 p
   rw [e]
   show _ = (⟨_, _, _, valsOf .sl val row.length ++ List.replicate (row.length - row.length) nilV⟩ : RowD)
   rw [Nat.sub_self, List.replicate_zero, List.append_nil]
  ·
   rw [← hL] at h1
   subst h1
   refine .inr (.inr ⟨p, rfl, h2, ?_⟩)
   rw [upd_ne _ _ (by simp)]
   show (⟨_, _, (lettersAt (withRow x row) L p).length, letCells (lettersAt (withRow x row) L p)⟩ : RowD) = _
   have e : lettersAt (withRow x row) L p = row.getD p [] := by unfold lettersAt; rw [portsAt_row row L (by omega), if_pos hL]
   rw [e]; rfl
 have hJ : AsyF w base val' x row := OwnK.join (K' := keyOf (withRow x row)) (R' := rowF x row val') h.k hp hb hN (fun i => match i with | .fr k => if k = L then .s else .r | .le k p => if k = L then .sl p else .r | _ => .r) (fun i hi => by
  rcases hR i hi with ⟨a, b, c⟩ | ⟨a, b⟩ | ⟨p, a, b, c⟩
  ·
   exact .inl ⟨a, b, c⟩
  ·
   subst a
   refine .inr ?_
   show packK row.length (if L = L then _ else _) ∧ val' (.fr L) = val (if L = L then _ else _) ∧ _ = packR _ _ _ _ val (if L = L then _ else _)
   rw [if_pos rfl]
   exact ⟨trivial, e3, b⟩
  ·
   subst a
   refine .inr ?_
   show packK row.length (if L = L then _ else _) ∧ val' (.le L p) = val (if L = L then _ else _) ∧ _ = packR _ _ _ _ val (if L = L then _ else _)
   rw [if_pos rfl]
   exact ⟨b, e4 p, c⟩) (fun i k hi hk e => by
  cases i with
  | fr a =>
   by_cases ea : a = L
   ·
    cases k with
    | fr b =>
     by_cases eb : b = L
     ·
      rw [ea, eb]
     ·
      simp only [if_neg eb] at hk; exact hk.elim
    | le b q =>
     by_cases eb : b = L
     ·
      simp [ea, eb] at e
     ·
      simp only [if_neg eb] at hk; exact hk.elim
    | _ => exact hk.elim
   ·
    simp only [if_neg ea] at hi; exact hi.elim
  | le a p =>
   by_cases ea : a = L
   ·
    cases k with
    | le b q =>
     by_cases eb : b = L
     ·
      simp [ea, eb] at e; rw [ea, eb, e]
     ·
      simp only [if_neg eb] at hk; exact hk.elim
    | fr b =>
     by_cases eb : b = L
     ·
      simp [ea, eb] at e
     ·
      simp only [if_neg eb] at hk; exact hk.elim
    | _ => exact hk.elim
   ·
    simp only [if_neg ea] at hi; exact hi.elim
  | _ => exact hi.elim)
 refine ⟨val', f5, by rw [← hL]; exact e3, hJ, fun i hi => ?_, ?_⟩
 ·
  rcases hR i hi with ⟨a, b, c⟩ | ⟨a, b⟩ | ⟨p, a, b, c⟩
  ·
   rw [b]; exact h.ne i a
  ·
   subst a; rw [e3]
   exact fun e => by have := ((OwnK.own hp .s trivial).lt P e).1; omega
  ·
   subst a; rw [e4]
   exact fun e => by have := ((OwnK.own hp (.sl p) b).lt P e).1; omega
 ·
  rw [f1, f2, f3, f4, f5]; exact h.box
end
end Go.Proofs.YtcpbbjocaimocaaGreat
