/-
  WriteLab of the program and of the reference.
-/
import Derived.Test.YtcfbkickiijjkaaGreatDoorVCompact
namespace Go.Proofs.YtcfbkickiijjkaaGreatDoor
open Go.RowKit
set_option linter.all false
theorem lay11 (w : World) (a b c d e f g h i j k : Value) (t : TypeId) : ∃ w0, w0 = w.alloc (.cells #[a, b, c, d, e, f, g, h, i, j, k] t) ∧ Below w.heap.size w w0 ∧ Hid (w0.heap[w.heap.size]? = some (.cells #[a, b, c, d, e, f, g, h, i, j, k] t (0, 0))) ∧ w0.heap.size = w.heap.size + 1 :=
  ⟨_, rfl, bl_alloc (Below.refl _ _) _, Lib.hid (heap_alloc_new w _), by simp⟩
theorem recGo_by (g : Int) : ∀ (f : Nat) (rest : List UInt8) (xs : List Item) (n b : Nat), (recGo g f rest xs n b).2.2 ≤ b + rest.length
  | 0, rest, xs, n, b => by show b ≤ _; omega
  | f + 1, rest, xs, n, b => by
    unfold recGo
    split
    · rename_i hok
      unfold okR at hok
      rw [Bool.and_eq_true, decide_eq_true_eq] at hok
      obtain ⟨k, hk⟩ : ∃ k : Nat, nlI rest = k := ⟨(nlI rest).toNat, by omega⟩
      have h1 := (nl_at hk).1
      have h2 := recGo_by g f (rest.drop ((nlI rest).toNat + 1)) (apX xs (recE g (rest.take ((nlI rest).toNat + 1)))) (n + 1) (b + ((nlI rest).toNat + 1))
      rw [List.length_drop, hk, Int.toNat_natCast] at h2
      rw [hk, Int.toNat_natCast]
      omega
    · show b ≤ _
      omega
theorem fBy_le (a b l : List UInt8) : fBy a b l ≤ l.length := by
  unfold fBy
  split
  · have := recGo_by (rvG a b) l.length l (rvX a b) 0 0
    unfold rvR
    omega
  · omega
noncomputable def wrT (a b l : List UInt8) (en : Entry) : List UInt8 := l.take (fBy a b l) ++ recT (fGn a b l) en
noncomputable def wrB (a b l : List UInt8) (en : Entry) : Bool := rvOk a b l && (apB (fX a b l) en && decide ((wrT a b l en).length ≤ 20000))
def wOf (ok : Bool) (a b t : ByteArray) : ByteArray × ByteArray × ByteArray := if ok = true then (a, b, t) else (⟨#[]⟩, ⟨#[]⟩, ⟨#[]⟩)
theorem wOf_f {ok : Bool} {a b t : ByteArray} (h : ok = false) : diskV (wOf ok a b t) = disk ⟨#[]⟩ ⟨#[]⟩ ⟨#[]⟩ := by unfold wOf; rw [h]; rfl
theorem wOf_t {ok : Bool} {a b t : ByteArray} (h : ok = true) : diskV (wOf ok a b t) = disk a b t := by unfold wOf; rw [h]; rfl
theorem recT_len {g : Int} {en : Entry} (h : entryP en) (h0 : 0 ≤ g) (h1 : g ≤ 100000) : (recT g en).length ≤ 1000000000 := by
  have e1 := entryT_len h
  have e2 := numT_len (M := 100000) (x := g) h0 h1
  have e3 := sumOf_bd (recX g en)
  have e4 := numT_len (M := 100000) e3.1 (by omega)
  have e5 : (recX g en).length = ((numT g ++ [32]) ++ entryT en).length := rfl
  unfold recT
  simp only [List.length_append, List.length_cons, List.length_nil] at e5 ⊢
  omega
def CutW (p q r : Value) (w0 : World) (s : Value) (wx : World) : Prop :=
  ∃ b, s = .pointer (some ⟨b, 0, none⟩) ∧ Hid (wx.heap[b]? = some (.cells #[p, q, r] 25 (0, 0))) ∧ Below w0.heap.size w0 wx ∧ w0.heap.size ≤ b ∧ b < wx.heap.size
theorem cutW_b {p q r a0 a1 a2 : Value} {w0 w : World} {b : Nat} (hc : w.heap[b]? = some (.cells #[a0, a1, a2] 25 (0, 0))) (hb : Below w0.heap.size w0 w) (h0 : w0.heap.size ≤ b) (h1 : b < w.heap.size) :
    CutW p q r w0 (.pointer (some ⟨b, 0, none⟩)) (((w.setCell ⟨b, 0, none⟩ p).setCell ⟨b, 1, none⟩ q).setCell ⟨b, 2, none⟩ r) :=
  ⟨b, rfl, Lib.hid (heap_set_same (heap_set_same (heap_set_same hc p) q) r), ((hb.setCell h0 _).setCell h0 _).setCell h0 _, h0, by simp only [size_setCell]; exact h1⟩
theorem cutW_a {p q r : Value} {w0 w : World} (hb : Below w0.heap.size w0 w) : CutW p q r w0 (.pointer (some ⟨w.heap.size, 0, none⟩)) (w.alloc (.cells #[p, q, r] 25)) :=
  ⟨_, rfl, Lib.hid (heap_alloc_new w _), bl_alloc hb _, hb.size, by simp⟩
set_option maxRecDepth 100000 in
set_option maxHeartbeats 2000000 in
theorem spec_WriteLab (a b lg : ByteArray) (en : Entry) (va vf vs vr : Value) (w : World) (ha : a.size ≤ 1048576) (hb : b.size ≤ 1048576) (hl : lg.size ≤ 1048576) (hi : ItemR w w.heap.size en.it va vf vs vr) (hz : szEntry en ≤ 1048576) (hlb : I64 en.it.lb) :
  Calls Tryz.prog 20 #[disk a b lg, entryV en va vf vs vr] w fun e w' => e = .returned (.tuple #[diskV (wOf (wrB a.data.toList b.data.toList lg.data.toList en) a b ⟨(wrT a.data.toList b.data.toList lg.data.toList en).toArray⟩), .bool (wrB a.data.toList b.data.toList lg.data.toList en)]) ∧ Below w.heap.size w w' := by
 have J := Lib.hid (fun (W : World) => spec_srRecover a b lg W ha hb hl)
 unfold RvsPost at J
 have hG := fGn_bd a.data.toList b.data.toList lg.data.toList
 have hBt := fBy_le a.data.toList b.data.toList lg.data.toList
 have hBt' : fBy a.data.toList b.data.toList lg.data.toList ≤ lg.size := by rw [Lib.size_eq]; exact hBt
 have HST := Lib.hid (fX_store a.data.toList b.data.toList lg.data.toList)
 have HB := Lib.hid (show wrB a.data.toList b.data.toList lg.data.toList en = (rvOk a.data.toList b.data.toList lg.data.toList && (apB (fX a.data.toList b.data.toList lg.data.toList) en && decide ((wrT a.data.toList b.data.toList lg.data.toList en).length ≤ 20000))) from rfl)
 have HWT := Lib.hid (show wrT a.data.toList b.data.toList lg.data.toList en = lg.data.toList.take (fBy a.data.toList b.data.toList lg.data.toList) ++ recT (fGn a.data.toList b.data.toList lg.data.toList) en from rfl)
 clear hBt
 generalize wrB a.data.toList b.data.toList lg.data.toList en = rb at *
 generalize wrT a.data.toList b.data.toList lg.data.toList en = L at *
 generalize fX a.data.toList b.data.toList lg.data.toList = X at *
 generalize fGn a.data.toList b.data.toList lg.data.toList = G at *
 generalize fNn a.data.toList b.data.toList lg.data.toList = N at *
 generalize fBy a.data.toList b.data.toList lg.data.toList = Bt at *
 generalize fSc a.data.toList b.data.toList lg.data.toList = S at *
 generalize rvOk a.data.toList b.data.toList lg.data.toList = ok at *
 have HDF := Lib.hid (fun h => wOf_f (ok := rb) (a := a) (b := b) (t := ⟨L.toArray⟩) h)
 have HDT := Lib.hid (fun h => wOf_t (ok := rb) (a := a) (b := b) (t := ⟨L.toArray⟩) h)
 generalize diskV (wOf rb a b ⟨L.toArray⟩) = R at *
 obtain ⟨Aa, ma, ca, rfl⟩ := hi.a.isSlice'
 obtain ⟨Af, mf, cf, rfl⟩ := hi.f.isSlice
 obtain ⟨As, ms, cs, rfl⟩ := hi.s.isSlice
 obtain ⟨Ar, mr, cr, rfl⟩ := hi.r.isSlice'
 have Re := Lib.hid hi; clear hi
 have HLB := Lib.hid hlb; clear hlb
 obtain ⟨w0, hw0, hb0, HD0, hs0⟩ := lay3 w (.string a) (.string b) (.string lg) 25
 obtain ⟨w1, hw1, hb1, HE0, hs1⟩ := lay11 w0 (.int .i64 en.kd) (.string en.nm) (.string en.tn) (.string en.it.nm) (.int .i64 en.it.n) (.slice Aa ma ca) (.int .i64 en.it.cl) (.int .i64 en.it.lb) (.slice Af mf cf) (.slice As ms cs) (.slice Ar mr cr) 55
 obtain ⟨w2, hw2, hb2, HZ0, hs2⟩ := lay3 w1 (.string ⟨#[]⟩) (.string ⟨#[]⟩) (.string ⟨#[]⟩) 25
 have hB := bl_trans (bl_trans hb0 hb1) hb2
 replace HD0 := bk (bk HD0 hb1) hb2
 replace HE0 := bk HE0 hb2
 rw [hs0] at HE0
 rw [hs1, hs0] at HZ0
 have HW0 := Lib.hid hw0; clear hw0
 have HW1 := Lib.hid hw1; clear hw1
 have HW2 := Lib.hid hw2; clear hw2
 have hlt1 : w.heap.size + 1 + 1 < w2.heap.size := by omega
 clear hs0 hs1 hs2 hb0 hb1 hb2
 go_enter Tryz.func20, Tryz.ntmps20
 go_wp2_with fail
 rw [← HW0.out, ← HW1.out, ← HW2.out]
 refine (J.out w2).mono ?_
 rintro e w3 ⟨v, bs, rfl, ho, hn, hr, hb3⟩
 have hz3 := hb3.size
 replace hB := bl_trans hB hb3
 replace HD0 := bk HD0 hb3
 replace HE0 := bk HE0 hb3
 replace HZ0 := bk HZ0 hb3
 obtain ⟨Av, mv, cv, rfl⟩ := ho.isSlice
 obtain ⟨w4, hw4, hb4, HX0, hs4⟩ := lay5 w3 (.slice Av mv cv) (.int .i64 G) (.bool S) (.int .i64 (N : Int)) (.int .i64 (Bt : Int)) 60
 have Ov := Lib.hid ((ho.reads (B := w3.heap.size) (fun x hx => (hr x hx).2)).up hb4)
 replace hB := bl_trans hB hb4
 replace HD0 := bk HD0 hb4
 replace HE0 := bk HE0 hb4
 replace HZ0 := bk HZ0 hb4
 have hlt3 : w3.heap.size < w4.heap.size := by omega
 clear ho hn hr hs4
 have HW4 := Lib.hid hw4
 obtain ⟨z0, z1, z2, zf⟩ := cells3 HZ0
 obtain ⟨x0, x1, x2, x3, x4, xf⟩ := cells5 HX0
 obtain ⟨e0, e1, e2, e3, e4, e5, e6, e7, e8, e9, e10, ef⟩ := cells11 HE0
 rw [hw4] at z0 z1 z2 zf x0 x1 x2 x3 x4 xf e0 e1 e2 e3 e4 e5 e6 e7 e8 e9 e10 ef
 clear hw4
 cases ok with
 | false =>
  have HN := Lib.hid (show rb = false by rw [HB.out]; rfl)
  obtain ⟨y0, y1, y2, yf⟩ := cells3 HZ0
  go_wp2_with fail
  rw [← HW4.out]
  refine bodyPost_ret (v := .tuple #[disk ⟨#[]⟩ ⟨#[]⟩ ⟨#[]⟩, .bool false]) (by simp [results, Tryz.results20, go_sem, y0, y1, y2]) rfl ⟨ret_disk (HDF.out HN.out).symm HN.out.symm, ?_⟩
  iterate 3 (refine Below.setCell ?_ (by simp <;> omega) _)
  exact hB
 | true =>
  go_wp2_with fail
  rw [← HW4.out]
  have Rd := Lib.hid ((Re.out.below hB).more hB.size)
  have JA := Lib.hid (spec_srApply _ X en _ _ _ _ w4 Ov.out HST.out Rd.out hz HLB.out)
  unfold ApiPost at JA
  refine JA.out.mono ?_
  clear JA z0 z1 z2 zf x0 x1 x2 x3 x4 xf e0 e1 e2 e3 e4 e5 e6 e7 e8 e9 e10 ef
  rintro e w5 ⟨vn, rfl, ⟨An, mn, cn, rfl⟩, -, hb5⟩
  have hz5 := hb5.size
  replace hB := bl_trans hB hb5
  replace HD0 := bk HD0 hb5
  replace HE0 := bk HE0 hb5
  replace HX0 := bk HX0 hb5
  replace HZ0 := bk HZ0 hb5
  obtain ⟨y0, y1, y2, yf⟩ := cells3 HZ0
  cases hap : apB X en with
  | false =>
   have HN := Lib.hid (show rb = false by rw [HB.out, hap]; rfl)
   go_wp2_with fail
   refine bodyPost_ret (v := .tuple #[disk ⟨#[]⟩ ⟨#[]⟩ ⟨#[]⟩, .bool false]) (by simp [results, Tryz.results20, go_sem, y0, y1, y2]) rfl ⟨ret_disk (HDF.out HN.out).symm HN.out.symm, ?_⟩
   iterate 3 (refine Below.setCell ?_ (by simp <;> omega) _)
   exact hB
  | true =>
   have hen := (propB_iff.1 hap).1
   have HEN := Lib.hid hen
   have hrl := recT_len hen hG.1 hG.2
   have HEX := Lib.hid (show strV L = strV (lg.data.toList.take Bt ++ recT G en) by rw [HWT.out])
   have HLE := Lib.hid (show L.length = (lg.data.toList.take Bt ++ recT G en).length by rw [HWT.out])
   have hll : L.length ≤ 2000000000 := by
    rw [HLE.out, List.length_append, List.length_take]
    have := Lib.size_eq lg
    omega
   obtain ⟨T, hT⟩ : ∃ T : ByteArray, T = ⟨L.toArray⟩ := ⟨_, rfl⟩
   have hTs : T.size = L.length := by rw [hT, Lib.size_eq]
   have HTS := Lib.hid hTs
   have hT' : strV L = .string T := by rw [hT]; rfl
   have kc : ∀ W, (binOp .add 9 (.string (lg.extract 0 Bt)) (strV (recT G en))).run Tryz.prog W = .ok (.string T) W := fun W => by
    rw [extract_strV, List.drop_zero, ← hT', HEX.out]
    exact cat_vv _ _ (by rw [List.length_take]; omega) W
   rw [← hT] at HDT
   rw [← hTs] at hll
   clear hT hTs hT' hen
   have Rf := Lib.hid ((Re.out.below hB).more hB.size)
   have HAP := Lib.hid hap; clear hap
   have hc0 : (0 : Int) ≤ (Bt : Int) := by omega
   have hc1 : (Bt : Int) ≤ (lg.size : Int) := by omega
   go_wp2_with fail
   obtain ⟨d0, d1, d2, df⟩ := cells3 HD0
   obtain ⟨x0, x1, x2, x3, x4, xf⟩ := cells5 HX0
   obtain ⟨e0, e1, e2, e3, e4, e5, e6, e7, e8, e9, e10, ef⟩ := cells11 HE0
   go_upto_region 7 with fail
   go_cut [10] (fun s wx => CutW (.string a) (.string b) (.string T) w5 s wx)
   case first =>
    have HS := Lib.hid (show ∀ x : World, Below w5.heap.size w5 x → (fun w' : World => w'.cell? ⟨w.heap.size, 0, none⟩ = some (.string a) ∧ w'.cell? ⟨w.heap.size, 1, none⟩ = some (.string b) ∧ w'.cell? ⟨w.heap.size, 2, none⟩ = some (.string lg) ∧ w'.cell? ⟨w.heap.size + 1, 0, none⟩ = some (.int .i64 en.kd) ∧ w'.cell? ⟨w.heap.size + 1, 1, none⟩ = some (.string en.nm) ∧ w'.cell? ⟨w.heap.size + 1, 2, none⟩ = some (.string en.tn) ∧ w'.cell? ⟨w.heap.size + 1, 3, none⟩ = some (.string en.it.nm) ∧ w'.cell? ⟨w.heap.size + 1, 4, none⟩ = some (.int .i64 en.it.n) ∧ w'.cell? ⟨w.heap.size + 1, 5, none⟩ = some (.slice Aa ma ca) ∧ w'.cell? ⟨w.heap.size + 1, 6, none⟩ = some (.int .i64 en.it.cl) ∧ w'.cell? ⟨w.heap.size + 1, 7, none⟩ = some (.int .i64 en.it.lb) ∧ w'.cell? ⟨w.heap.size + 1, 8, none⟩ = some (.slice Af mf cf) ∧ w'.cell? ⟨w.heap.size + 1, 9, none⟩ = some (.slice As ms cs) ∧ w'.cell? ⟨w.heap.size + 1, 10, none⟩ = some (.slice Ar mr cr) ∧ w'.cell? ⟨w3.heap.size, 0, none⟩ = some (.slice Av mv cv) ∧ w'.cell? ⟨w3.heap.size, 1, none⟩ = some (.int .i64 G) ∧ w'.cell? ⟨w3.heap.size, 2, none⟩ = some (.bool S) ∧ w'.cell? ⟨w3.heap.size, 3, none⟩ = some (.int .i64 (N : Int)) ∧ w'.cell? ⟨w3.heap.size, 4, none⟩ = some (.int .i64 (Bt : Int))) x from fun x hx => ⟨(hx.cell (p := ⟨w.heap.size, 0, none⟩) (show w.heap.size < w5.heap.size by omega)).trans d0, (hx.cell (p := ⟨w.heap.size, 1, none⟩) (show w.heap.size < w5.heap.size by omega)).trans d1, (hx.cell (p := ⟨w.heap.size, 2, none⟩) (show w.heap.size < w5.heap.size by omega)).trans d2, (hx.cell (p := ⟨w.heap.size + 1, 0, none⟩) (show w.heap.size + 1 < w5.heap.size by omega)).trans e0, (hx.cell (p := ⟨w.heap.size + 1, 1, none⟩) (show w.heap.size + 1 < w5.heap.size by omega)).trans e1, (hx.cell (p := ⟨w.heap.size + 1, 2, none⟩) (show w.heap.size + 1 < w5.heap.size by omega)).trans e2, (hx.cell (p := ⟨w.heap.size + 1, 3, none⟩) (show w.heap.size + 1 < w5.heap.size by omega)).trans e3, (hx.cell (p := ⟨w.heap.size + 1, 4, none⟩) (show w.heap.size + 1 < w5.heap.size by omega)).trans e4, (hx.cell (p := ⟨w.heap.size + 1, 5, none⟩) (show w.heap.size + 1 < w5.heap.size by omega)).trans e5, (hx.cell (p := ⟨w.heap.size + 1, 6, none⟩) (show w.heap.size + 1 < w5.heap.size by omega)).trans e6, (hx.cell (p := ⟨w.heap.size + 1, 7, none⟩) (show w.heap.size + 1 < w5.heap.size by omega)).trans e7, (hx.cell (p := ⟨w.heap.size + 1, 8, none⟩) (show w.heap.size + 1 < w5.heap.size by omega)).trans e8, (hx.cell (p := ⟨w.heap.size + 1, 9, none⟩) (show w.heap.size + 1 < w5.heap.size by omega)).trans e9, (hx.cell (p := ⟨w.heap.size + 1, 10, none⟩) (show w.heap.size + 1 < w5.heap.size by omega)).trans e10, (hx.cell (p := ⟨w3.heap.size, 0, none⟩) (show w3.heap.size < w5.heap.size by omega)).trans x0, (hx.cell (p := ⟨w3.heap.size, 1, none⟩) (show w3.heap.size < w5.heap.size by omega)).trans x1, (hx.cell (p := ⟨w3.heap.size, 2, none⟩) (show w3.heap.size < w5.heap.size by omega)).trans x2, (hx.cell (p := ⟨w3.heap.size, 3, none⟩) (show w3.heap.size < w5.heap.size by omega)).trans x3, (hx.cell (p := ⟨w3.heap.size, 4, none⟩) (show w3.heap.size < w5.heap.size by omega)).trans x4⟩)
    have hb6 := Below.refl w5.heap.size w5
    refine wp_region_held_drew (S := (fun w' : World => w'.cell? ⟨w.heap.size, 0, none⟩ = some (.string a) ∧ w'.cell? ⟨w.heap.size, 1, none⟩ = some (.string b) ∧ w'.cell? ⟨w.heap.size, 2, none⟩ = some (.string lg) ∧ w'.cell? ⟨w.heap.size + 1, 0, none⟩ = some (.int .i64 en.kd) ∧ w'.cell? ⟨w.heap.size + 1, 1, none⟩ = some (.string en.nm) ∧ w'.cell? ⟨w.heap.size + 1, 2, none⟩ = some (.string en.tn) ∧ w'.cell? ⟨w.heap.size + 1, 3, none⟩ = some (.string en.it.nm) ∧ w'.cell? ⟨w.heap.size + 1, 4, none⟩ = some (.int .i64 en.it.n) ∧ w'.cell? ⟨w.heap.size + 1, 5, none⟩ = some (.slice Aa ma ca) ∧ w'.cell? ⟨w.heap.size + 1, 6, none⟩ = some (.int .i64 en.it.cl) ∧ w'.cell? ⟨w.heap.size + 1, 7, none⟩ = some (.int .i64 en.it.lb) ∧ w'.cell? ⟨w.heap.size + 1, 8, none⟩ = some (.slice Af mf cf) ∧ w'.cell? ⟨w.heap.size + 1, 9, none⟩ = some (.slice As ms cs) ∧ w'.cell? ⟨w.heap.size + 1, 10, none⟩ = some (.slice Ar mr cr) ∧ w'.cell? ⟨w3.heap.size, 0, none⟩ = some (.slice Av mv cv) ∧ w'.cell? ⟨w3.heap.size, 1, none⟩ = some (.int .i64 G) ∧ w'.cell? ⟨w3.heap.size, 2, none⟩ = some (.bool S) ∧ w'.cell? ⟨w3.heap.size, 3, none⟩ = some (.int .i64 (N : Int)) ∧ w'.cell? ⟨w3.heap.size, 4, none⟩ = some (.int .i64 (Bt : Int)))) (by kernel_rfl) ?_ (fun hHeld => ?_)
    ·
     exact HS.out _ hb6.drew
    refine tk 0 29 rfl rfl ?_
    try simp only [pu]
    refine tk 1 30 rfl rfl ?_
    try simp only [pu]
    refine tk 2 31 rfl rfl ?_
    try simp only [pu]
    refine tk 3 32 rfl rfl ?_
    try simp only [pu]
    refine tk 4 33 rfl rfl ?_
    try simp only [pu]
    refine tk 5 34 rfl rfl ?_
    try simp only [pu]
    refine tk 6 35 rfl rfl ?_
    try simp only [pu]
    refine tk 7 36 rfl rfl ?_
    try simp only [pu]
    refine tk 8 37 rfl rfl ?_
    try simp only [pu]
    refine tk 9 38 rfl rfl ?_
    try simp only [pu]
    refine tk 10 39 rfl rfl ?_
    try simp only [pu]
    refine tk 11 40 rfl rfl ?_
    try simp only [pu]
    refine take_ready2 12 15 rfl rfl (by kernel_rfl) (fun K hK => ?_) (fun K hK => ?_)
    ·
     go_simp
     go_at_call 38
     refine (spec_srRecord en _ _ _ _ G _ (Rf.out.up (show Below w5.heap.size w5 _ from hb6.drew)) hz HEN.out hG.1 hG.2).mono ?_
     rintro e w6 ⟨rfl, hb7⟩
     have hb8 : Below w5.heap.size w5 w6 := (show Below w5.heap.size w5 _ from hb6.drew).trans (hb7.mono (by simp))
     refine hK.out _ _ ?_ (fun hHeld => ?_)
     ·
      exact HS.out _ hb8
     clear hK K
     try simp only [pu]
     refine tk 13 42 rfl rfl ?_
     try simp only [pu]
     refine tk 14 43 rfl rfl ?_
     try simp only [pu]
     refine take_ready 15 rfl (by kernel_rfl) (fun K hK => ?_)
     go_simp
     have hA := bl_alloc hb8 (.cells #[.string ⟨#[]⟩, .string ⟨#[]⟩, .string ⟨#[]⟩] 25)
     refine hK.out _ _ ?_ (fun hHeld => ?_)
     ·
      exact HS.out _ hA
     clear hK K
     try simp only [pu]
     refine take_ready 16 rfl (by kernel_rfl) (fun K hK => ?_)
     go_simp
     refine hK.out _ _ ?_ (fun hHeld => ?_)
     ·
      exact HS.out _ (by first | exact bl_alloc hb8 _ | exact ((hA.setCell hb8.size _).setCell hb8.size _).setCell hb8.size _)
     clear hK K
     try simp only [pu]
     refine wpAnyH_done (by kernel_rfl) ?_ _
     go_wp2_with fail
     go_meet
     exact cutW_a hb8
    ·
     go_simp
     have hA := bl_alloc hb6.drew (.cells #[.string ⟨#[]⟩, .string ⟨#[]⟩, .string ⟨#[]⟩] 25)
     refine hK.out _ _ ?_ (fun hHeld => ?_)
     ·
      exact HS.out _ hA
     clear hK K
     try simp only [pu]
     refine take_ready 12 rfl (by kernel_rfl) (fun K hK => ?_)
     go_simp
     go_at_call 38
     refine (spec_srRecord en _ _ _ _ G _ (Rf.out.up (show Below w5.heap.size w5 _ from hA)) hz HEN.out hG.1 hG.2).mono ?_
     rintro e w6 ⟨rfl, hb7⟩
     have hb8 : Below w5.heap.size w5 w6 := (show Below w5.heap.size w5 _ from hA).trans (hb7.mono (by simp))
     have hbx : w6.heap[w5.heap.size]? = some (.cells #[.string ⟨#[]⟩, .string ⟨#[]⟩, .string ⟨#[]⟩] 25 (0, 0)) := (hb7.block w5.heap.size (by simp)).trans (heap_alloc_new w5 _)
     have hlt6 : w5.heap.size < w6.heap.size := by have := hb7.size; simp at this; omega
     obtain ⟨u0, u1, u2, uf⟩ := cells3 (Lib.hid hbx)
     have HBX := Lib.hid hbx; clear hbx
     refine hK.out _ _ ?_ (fun hHeld => ?_)
     ·
      exact HS.out _ hb8
     clear hK K
     try simp only [pu]
     refine tk 13 42 rfl rfl ?_
     try simp only [pu]
     refine tk 14 43 rfl rfl ?_
     try simp only [pu]
     refine take_ready 16 rfl (by kernel_rfl) (fun K hK => ?_)
     go_simp
     refine hK.out _ _ ?_ (fun hHeld => ?_)
     ·
      exact HS.out _ (((hb8.setCell (Nat.le_refl _) _).setCell (Nat.le_refl _) _).setCell (Nat.le_refl _) _)
     clear hK K
     try simp only [pu]
     refine wpAnyH_done (by kernel_rfl) ?_ _
     go_wp2_with fail
     go_meet
     exact cutW_b HBX.out hb8 (Nat.le_refl _) hlt6
   case rest =>
    obtain ⟨bb, rfl, HO0, hbw, hbb1, hbb2⟩ := hcut
    replace hB := bl_trans hB hbw
    have hzw := hbw.size
    replace HZ0 := bk HZ0 hbw
    clear y0 y1 y2 yf d0 d1 d2 df e0 e1 e2 e3 e4 e5 e6 e7 e8 e9 e10 ef x0 x1 x2 x3 x4 xf
    obtain ⟨y0, y1, y2, yf⟩ := cells3 HZ0
    obtain ⟨o0, o1, o2, of⟩ := cells3 HO0
    by_cases h20 : L.length ≤ 20000
    ·
     have HRT := Lib.hid (show rb = true by rw [HB.out, HAP.out, decide_eq_true h20]; rfl)
     have h20' : T.size ≤ 20000 := by rw [HTS.out]; exact h20
     have HR := Lib.hid (HDT.out HRT.out)
     clear HDF HDT h20
     go_wp2_with fail
     refine bodyPost_ret (v := .tuple #[disk a b T, .bool true]) (by simp [results, Tryz.results20, go_sem, y0, y1, y2]) rfl ⟨ret_disk HR.out.symm HRT.out.symm, ?_⟩
     iterate 3 (refine Below.setCell ?_ (by simp <;> omega) _)
     exact hB
    ·
     have HN := Lib.hid (show rb = false by rw [HB.out, HAP.out, decide_eq_false h20]; rfl)
     have h20' : ¬ T.size ≤ 20000 := by rw [HTS.out]; exact h20
     clear h20
     go_wp2_with fail
     refine bodyPost_ret (v := .tuple #[disk ⟨#[]⟩ ⟨#[]⟩ ⟨#[]⟩, .bool false]) (by simp [results, Tryz.results20, go_sem, y0, y1, y2]) rfl ⟨ret_disk (HDF.out HN.out).symm HN.out.symm, ?_⟩
     iterate 3 (refine Below.setCell ?_ (by simp <;> omega) _)
     exact hB
set_option maxRecDepth 100000 in
set_option maxHeartbeats 2000000 in
theorem impl_WriteLab (a b lg : ByteArray) (en : Entry) (va vf vs vr : Value) (w : World) (ha : a.size ≤ 1048576) (hb : b.size ≤ 1048576) (hl : lg.size ≤ 1048576) (hi : ItemR w w.heap.size en.it va vf vs vr) (hz : szEntry en ≤ 1048576) (hlb : I64 en.it.lb) (hm : MaxAt w) (hp : Pow10 w) (he : ErrAt w) :
  Calls Tryz.prog 22 #[disk a b lg, entryV en va vf vs vr] w fun e w' => e = .returned (.tuple #[diskV (wOf (wrB a.data.toList b.data.toList lg.data.toList en) a b ⟨(wrT a.data.toList b.data.toList lg.data.toList en).toArray⟩), .bool (wrB a.data.toList b.data.toList lg.data.toList en)]) ∧ Below w.heap.size w w' := by
 have HM := Lib.hid hm; clear hm
 have HP := Lib.hid hp; clear hp
 have HE := Lib.hid he; clear he
 have J := Lib.hid (fun (W : World) (hW : Below w.heap.size w W) => impl_recoverLab a b lg W ha hb hl (HM.out.below hW) (HP.out.below hW) (HE.out.below hW))
 unfold RviPost at J
 have hG := fGn_bd a.data.toList b.data.toList lg.data.toList
 have hBt := fBy_le a.data.toList b.data.toList lg.data.toList
 have hBt' : fBy a.data.toList b.data.toList lg.data.toList ≤ lg.size := by rw [Lib.size_eq]; exact hBt
 have HST := Lib.hid (fX_store a.data.toList b.data.toList lg.data.toList)
 have HB := Lib.hid (show wrB a.data.toList b.data.toList lg.data.toList en = (rvOk a.data.toList b.data.toList lg.data.toList && (apB (fX a.data.toList b.data.toList lg.data.toList) en && decide ((wrT a.data.toList b.data.toList lg.data.toList en).length ≤ 20000))) from rfl)
 have HWT := Lib.hid (show wrT a.data.toList b.data.toList lg.data.toList en = lg.data.toList.take (fBy a.data.toList b.data.toList lg.data.toList) ++ recT (fGn a.data.toList b.data.toList lg.data.toList) en from rfl)
 clear hBt
 generalize wrB a.data.toList b.data.toList lg.data.toList en = rb at *
 generalize wrT a.data.toList b.data.toList lg.data.toList en = L at *
 generalize fX a.data.toList b.data.toList lg.data.toList = X at *
 generalize fGn a.data.toList b.data.toList lg.data.toList = G at *
 generalize fNn a.data.toList b.data.toList lg.data.toList = N at *
 generalize fBy a.data.toList b.data.toList lg.data.toList = Bt at *
 generalize fSc a.data.toList b.data.toList lg.data.toList = S at *
 generalize rvOk a.data.toList b.data.toList lg.data.toList = ok at *
 have HDF := Lib.hid (fun h => wOf_f (ok := rb) (a := a) (b := b) (t := ⟨L.toArray⟩) h)
 have HDT := Lib.hid (fun h => wOf_t (ok := rb) (a := a) (b := b) (t := ⟨L.toArray⟩) h)
 generalize diskV (wOf rb a b ⟨L.toArray⟩) = R at *
 obtain ⟨Aa, ma, ca, rfl⟩ := hi.a.isSlice'
 obtain ⟨Af, mf, cf, rfl⟩ := hi.f.isSlice
 obtain ⟨As, ms, cs, rfl⟩ := hi.s.isSlice
 obtain ⟨Ar, mr, cr, rfl⟩ := hi.r.isSlice'
 have Re := Lib.hid hi; clear hi
 have HLB := Lib.hid hlb; clear hlb
 obtain ⟨w0, hw0, hb0, HD0, hs0⟩ := lay3 w (.string a) (.string b) (.string lg) 25
 obtain ⟨w1, hw1, hb1, HE0, hs1⟩ := lay11 w0 (.int .i64 en.kd) (.string en.nm) (.string en.tn) (.string en.it.nm) (.int .i64 en.it.n) (.slice Aa ma ca) (.int .i64 en.it.cl) (.int .i64 en.it.lb) (.slice Af mf cf) (.slice As ms cs) (.slice Ar mr cr) 55
 obtain ⟨w2, hw2, hb2, HZ0, hs2⟩ := lay3 w1 (.string ⟨#[]⟩) (.string ⟨#[]⟩) (.string ⟨#[]⟩) 25
 have hB := bl_trans (bl_trans hb0 hb1) hb2
 replace HD0 := bk (bk HD0 hb1) hb2
 replace HE0 := bk HE0 hb2
 rw [hs0] at HE0
 rw [hs1, hs0] at HZ0
 have HW0 := Lib.hid hw0; clear hw0
 have HW1 := Lib.hid hw1; clear hw1
 have HW2 := Lib.hid hw2; clear hw2
 have hlt1 : w.heap.size + 1 + 1 < w2.heap.size := by omega
 clear hs0 hs1 hs2 hb0 hb1 hb2
 go_enter Tryz.func22, Tryz.ntmps22
 go_wp2_with fail
 rw [← HW0.out, ← HW1.out, ← HW2.out]
 refine (J.out w2 hB).mono ?_
 rintro e w3 ⟨v, bs, rfl, ho, hn, hr, hb3⟩
 have hz3 := hb3.size
 replace hB := bl_trans hB hb3
 replace HD0 := bk HD0 hb3
 replace HE0 := bk HE0 hb3
 replace HZ0 := bk HZ0 hb3
 obtain ⟨Av, mv, cv, rfl⟩ := ho.isSlice
 obtain ⟨w4, hw4, hb4, HX0, hs4⟩ := lay5 w3 (.slice Av mv cv) (.int .i64 G) (.int .i64 (N : Int)) (.int .i64 (Bt : Int)) (.bool S) 68
 have Ov := Lib.hid ((ho.reads (B := w3.heap.size) (fun x hx => (hr x hx).2)).up hb4)
 replace hB := bl_trans hB hb4
 replace HD0 := bk HD0 hb4
 replace HE0 := bk HE0 hb4
 replace HZ0 := bk HZ0 hb4
 have hlt3 : w3.heap.size < w4.heap.size := by omega
 clear ho hn hr hs4
 have HW4 := Lib.hid hw4
 obtain ⟨z0, z1, z2, zf⟩ := cells3 HZ0
 obtain ⟨x0, x1, x2, x3, x4, xf⟩ := cells5 HX0
 obtain ⟨e0, e1, e2, e3, e4, e5, e6, e7, e8, e9, e10, ef⟩ := cells11 HE0
 rw [hw4] at z0 z1 z2 zf x0 x1 x2 x3 x4 xf e0 e1 e2 e3 e4 e5 e6 e7 e8 e9 e10 ef
 clear hw4
 cases ok with
 | false =>
  have HN := Lib.hid (show rb = false by rw [HB.out]; rfl)
  obtain ⟨y0, y1, y2, yf⟩ := cells3 HZ0
  go_wp2_with fail
  rw [← HW4.out]
  refine bodyPost_ret (v := .tuple #[disk ⟨#[]⟩ ⟨#[]⟩ ⟨#[]⟩, .bool false]) (by simp [results, Tryz.results22, go_sem, y0, y1, y2]) rfl ⟨ret_disk (HDF.out HN.out).symm HN.out.symm, ?_⟩
  iterate 3 (refine Below.setCell ?_ (by simp <;> omega) _)
  exact hB
 | true =>
  go_wp2_with fail
  rw [← HW4.out]
  have Rd := Lib.hid ((Re.out.below hB).more hB.size)
  have JA := Lib.hid (impl_applyLab _ X en _ _ _ _ w4 Ov.out HST.out Rd.out hz HLB.out)
  unfold ApiPost at JA
  refine JA.out.mono ?_
  clear JA z0 z1 z2 zf x0 x1 x2 x3 x4 xf e0 e1 e2 e3 e4 e5 e6 e7 e8 e9 e10 ef
  rintro e w5 ⟨vn, rfl, ⟨An, mn, cn, rfl⟩, -, hb5⟩
  have hz5 := hb5.size
  replace hB := bl_trans hB hb5
  replace HD0 := bk HD0 hb5
  replace HE0 := bk HE0 hb5
  replace HX0 := bk HX0 hb5
  replace HZ0 := bk HZ0 hb5
  obtain ⟨y0, y1, y2, yf⟩ := cells3 HZ0
  cases hap : apB X en with
  | false =>
   have HN := Lib.hid (show rb = false by rw [HB.out, hap]; rfl)
   go_wp2_with fail
   refine bodyPost_ret (v := .tuple #[disk ⟨#[]⟩ ⟨#[]⟩ ⟨#[]⟩, .bool false]) (by simp [results, Tryz.results22, go_sem, y0, y1, y2]) rfl ⟨ret_disk (HDF.out HN.out).symm HN.out.symm, ?_⟩
   iterate 3 (refine Below.setCell ?_ (by simp <;> omega) _)
   exact hB
  | true =>
   have hen := (propB_iff.1 hap).1
   have HEN := Lib.hid hen
   have hrl := recT_len hen hG.1 hG.2
   have HEX := Lib.hid (show strV L = strV (lg.data.toList.take Bt ++ recT G en) by rw [HWT.out])
   have HLE := Lib.hid (show L.length = (lg.data.toList.take Bt ++ recT G en).length by rw [HWT.out])
   have hll : L.length ≤ 2000000000 := by
    rw [HLE.out, List.length_append, List.length_take]
    have := Lib.size_eq lg
    omega
   obtain ⟨T, hT⟩ : ∃ T : ByteArray, T = ⟨L.toArray⟩ := ⟨_, rfl⟩
   have hTs : T.size = L.length := by rw [hT, Lib.size_eq]
   have HTS := Lib.hid hTs
   have hT' : strV L = .string T := by rw [hT]; rfl
   have kc : ∀ W, (binOp .add 9 (.string (lg.extract 0 Bt)) (strV (recT G en))).run Tryz.prog W = .ok (.string T) W := fun W => by
    rw [extract_strV, List.drop_zero, ← hT', HEX.out]
    exact cat_vv _ _ (by rw [List.length_take]; omega) W
   rw [← hT] at HDT
   rw [← hTs] at hll
   clear hT hTs hT' hen
   have Rf := Lib.hid ((Re.out.below hB).more hB.size)
   have HAP := Lib.hid hap; clear hap
   have hc0 : (0 : Int) ≤ (Bt : Int) := by omega
   have hc1 : (Bt : Int) ≤ (lg.size : Int) := by omega
   go_wp2_with fail
   obtain ⟨d0, d1, d2, df⟩ := cells3 HD0
   obtain ⟨x0, x1, x2, x3, x4, xf⟩ := cells5 HX0
   obtain ⟨e0, e1, e2, e3, e4, e5, e6, e7, e8, e9, e10, ef⟩ := cells11 HE0
   have HS := Lib.hid (show ∀ x : World, Below w5.heap.size w5 x → (fun w' : World => w'.cell? ⟨w.heap.size + 1, 0, none⟩ = some (.int .i64 en.kd) ∧ w'.cell? ⟨w.heap.size + 1, 1, none⟩ = some (.string en.nm) ∧ w'.cell? ⟨w.heap.size + 1, 2, none⟩ = some (.string en.tn) ∧ w'.cell? ⟨w.heap.size + 1, 3, none⟩ = some (.string en.it.nm) ∧ w'.cell? ⟨w.heap.size + 1, 4, none⟩ = some (.int .i64 en.it.n) ∧ w'.cell? ⟨w.heap.size + 1, 5, none⟩ = some (.slice Aa ma ca) ∧ w'.cell? ⟨w.heap.size + 1, 6, none⟩ = some (.int .i64 en.it.cl) ∧ w'.cell? ⟨w.heap.size + 1, 7, none⟩ = some (.int .i64 en.it.lb) ∧ w'.cell? ⟨w.heap.size + 1, 8, none⟩ = some (.slice Af mf cf) ∧ w'.cell? ⟨w.heap.size + 1, 9, none⟩ = some (.slice As ms cs) ∧ w'.cell? ⟨w.heap.size + 1, 10, none⟩ = some (.slice Ar mr cr) ∧ w'.cell? ⟨w3.heap.size, 0, none⟩ = some (.slice Av mv cv) ∧ w'.cell? ⟨w3.heap.size, 1, none⟩ = some (.int .i64 G) ∧ w'.cell? ⟨w3.heap.size, 2, none⟩ = some (.int .i64 (N : Int)) ∧ w'.cell? ⟨w3.heap.size, 3, none⟩ = some (.int .i64 (Bt : Int)) ∧ w'.cell? ⟨w3.heap.size, 4, none⟩ = some (.bool S)) x from fun x hx => ⟨(hx.cell (p := ⟨w.heap.size + 1, 0, none⟩) (show w.heap.size + 1 < w5.heap.size by omega)).trans e0, (hx.cell (p := ⟨w.heap.size + 1, 1, none⟩) (show w.heap.size + 1 < w5.heap.size by omega)).trans e1, (hx.cell (p := ⟨w.heap.size + 1, 2, none⟩) (show w.heap.size + 1 < w5.heap.size by omega)).trans e2, (hx.cell (p := ⟨w.heap.size + 1, 3, none⟩) (show w.heap.size + 1 < w5.heap.size by omega)).trans e3, (hx.cell (p := ⟨w.heap.size + 1, 4, none⟩) (show w.heap.size + 1 < w5.heap.size by omega)).trans e4, (hx.cell (p := ⟨w.heap.size + 1, 5, none⟩) (show w.heap.size + 1 < w5.heap.size by omega)).trans e5, (hx.cell (p := ⟨w.heap.size + 1, 6, none⟩) (show w.heap.size + 1 < w5.heap.size by omega)).trans e6, (hx.cell (p := ⟨w.heap.size + 1, 7, none⟩) (show w.heap.size + 1 < w5.heap.size by omega)).trans e7, (hx.cell (p := ⟨w.heap.size + 1, 8, none⟩) (show w.heap.size + 1 < w5.heap.size by omega)).trans e8, (hx.cell (p := ⟨w.heap.size + 1, 9, none⟩) (show w.heap.size + 1 < w5.heap.size by omega)).trans e9, (hx.cell (p := ⟨w.heap.size + 1, 10, none⟩) (show w.heap.size + 1 < w5.heap.size by omega)).trans e10, (hx.cell (p := ⟨w3.heap.size, 0, none⟩) (show w3.heap.size < w5.heap.size by omega)).trans x0, (hx.cell (p := ⟨w3.heap.size, 1, none⟩) (show w3.heap.size < w5.heap.size by omega)).trans x1, (hx.cell (p := ⟨w3.heap.size, 2, none⟩) (show w3.heap.size < w5.heap.size by omega)).trans x2, (hx.cell (p := ⟨w3.heap.size, 3, none⟩) (show w3.heap.size < w5.heap.size by omega)).trans x3, (hx.cell (p := ⟨w3.heap.size, 4, none⟩) (show w3.heap.size < w5.heap.size by omega)).trans x4⟩)
   have hb6 := Below.refl w5.heap.size w5
   refine wp_region_held_drew (S := (fun w' : World => w'.cell? ⟨w.heap.size + 1, 0, none⟩ = some (.int .i64 en.kd) ∧ w'.cell? ⟨w.heap.size + 1, 1, none⟩ = some (.string en.nm) ∧ w'.cell? ⟨w.heap.size + 1, 2, none⟩ = some (.string en.tn) ∧ w'.cell? ⟨w.heap.size + 1, 3, none⟩ = some (.string en.it.nm) ∧ w'.cell? ⟨w.heap.size + 1, 4, none⟩ = some (.int .i64 en.it.n) ∧ w'.cell? ⟨w.heap.size + 1, 5, none⟩ = some (.slice Aa ma ca) ∧ w'.cell? ⟨w.heap.size + 1, 6, none⟩ = some (.int .i64 en.it.cl) ∧ w'.cell? ⟨w.heap.size + 1, 7, none⟩ = some (.int .i64 en.it.lb) ∧ w'.cell? ⟨w.heap.size + 1, 8, none⟩ = some (.slice Af mf cf) ∧ w'.cell? ⟨w.heap.size + 1, 9, none⟩ = some (.slice As ms cs) ∧ w'.cell? ⟨w.heap.size + 1, 10, none⟩ = some (.slice Ar mr cr) ∧ w'.cell? ⟨w3.heap.size, 0, none⟩ = some (.slice Av mv cv) ∧ w'.cell? ⟨w3.heap.size, 1, none⟩ = some (.int .i64 G) ∧ w'.cell? ⟨w3.heap.size, 2, none⟩ = some (.int .i64 (N : Int)) ∧ w'.cell? ⟨w3.heap.size, 3, none⟩ = some (.int .i64 (Bt : Int)) ∧ w'.cell? ⟨w3.heap.size, 4, none⟩ = some (.bool S))) (by kernel_rfl) ?_ (fun hHeld => ?_)
   ·
    exact HS.out _ hb6.drew
   refine tk 0 28 rfl rfl ?_
   try simp only [pu]
   refine tk 2 30 rfl rfl ?_
   try simp only [pu]
   refine tk 3 31 rfl rfl ?_
   try simp only [pu]
   refine tk 5 33 rfl rfl ?_
   try simp only [pu]
   refine tk 6 34 rfl rfl ?_
   try simp only [pu]
   refine tk 7 35 rfl rfl ?_
   try simp only [pu]
   refine take_ready2 1 8 rfl rfl (by kernel_rfl) (fun K hK => ?_) (fun K hK => ?_)
   ·
    go_simp
    refine hK.out _ _ ?_ (fun hHeld => ?_)
    ·
     exact HS.out _ hb6.drew
    clear hK K
    try simp only [pu]
    refine tk 4 32 rfl rfl ?_
    try simp only [pu]
    refine take_ready 8 rfl (by kernel_rfl) (fun K hK => ?_)
    go_simp
    go_at_call 41
    refine (impl_recordOf en _ _ _ _ G _ (Rf.out.up (show Below w5.heap.size w5 _ from hb6.drew)) hz HEN.out hG.1 hG.2 (HP.out.below (hB.trans ((show Below w5.heap.size w5 _ from hb6.drew).mono (by omega))))).mono ?_
    rintro e w6 ⟨rfl, hb7⟩
    have hb8 : Below w5.heap.size w5 w6 := (show Below w5.heap.size w5 _ from hb6.drew).trans (hb7.mono (by simp))
    refine hK.out _ _ ?_ (fun hHeld => ?_)
    ·
     exact HS.out _ hb8
    clear hK K
    try simp only [pu]
    replace hB := bl_trans hB hb8
    have hz6 := hb8.size
    replace HD0 := bk HD0 hb8
    replace HE0 := bk HE0 hb8
    replace HX0 := bk HX0 hb8
    replace HZ0 := bk HZ0 hb8
    clear y0 y1 y2 yf d0 d1 d2 df e0 e1 e2 e3 e4 e5 e6 e7 e8 e9 e10 ef x0 x1 x2 x3 x4 xf
    obtain ⟨d0, d1, d2, df⟩ := cells3 HD0
    obtain ⟨y0, y1, y2, yf⟩ := cells3 HZ0
    obtain ⟨x0, x1, x2, x3, x4, xf⟩ := cells5 HX0
    obtain ⟨e0, e1, e2, e3, e4, e5, e6, e7, e8, e9, e10, ef⟩ := cells11 HE0
    refine tk 9 37 rfl rfl ?_
    try simp only [pu]
    refine tk 10 38 rfl rfl ?_
    try simp only [pu]
    refine take_ready 11 rfl (by kernel_rfl) (fun K hK => ?_)
    go_simp
    refine hK.out _ _ ?_ (fun hHeld => ?_)
    ·
     refine ⟨?_, ?_, ?_, ?_, ?_, ?_, ?_, ?_, ?_, ?_, ?_, ?_, ?_, ?_, ?_, ?_⟩ <;> exact (World.cell?_of_block (Below.heap_setCell _ _ _ _ (by simp <;> omega))).trans (by assumption)
    clear hK K
    try simp only [pu]
    refine wpAnyH_done (by kernel_rfl) ?_ _
    by_cases h20 : L.length ≤ 20000
    ·
     have HRT := Lib.hid (show rb = true by rw [HB.out, HAP.out, decide_eq_true h20]; rfl)
     have h20' : T.size ≤ 20000 := by rw [HTS.out]; exact h20
     have HR := Lib.hid (HDT.out HRT.out)
     clear HDF HDT h20
     go_wp2_with fail
     refine bodyPost_ret (v := .tuple #[disk a b T, .bool true]) (by simp [results, Tryz.results22, go_sem, y0, y1, y2]) rfl ⟨ret_disk HR.out.symm HRT.out.symm, ?_⟩
     iterate 4 (refine Below.setCell ?_ (by simp <;> omega) _)
     exact hB
    ·
     have HN := Lib.hid (show rb = false by rw [HB.out, HAP.out, decide_eq_false h20]; rfl)
     have h20' : ¬ T.size ≤ 20000 := by rw [HTS.out]; exact h20
     clear h20
     go_wp2_with fail
     refine bodyPost_ret (v := .tuple #[disk ⟨#[]⟩ ⟨#[]⟩ ⟨#[]⟩, .bool false]) (by simp [results, Tryz.results22, go_sem, y0, y1, y2]) rfl ⟨ret_disk (HDF.out HN.out).symm HN.out.symm, ?_⟩
     iterate 4 (refine Below.setCell ?_ (by simp <;> omega) _)
     exact hB
   ·
    go_simp
    go_at_call 41
    refine (impl_recordOf en _ _ _ _ G _ (Rf.out.up (show Below w5.heap.size w5 _ from hb6.drew)) hz HEN.out hG.1 hG.2 (HP.out.below (hB.trans ((show Below w5.heap.size w5 _ from hb6.drew).mono (by omega))))).mono ?_
    rintro e w6 ⟨rfl, hb7⟩
    have hb8 : Below w5.heap.size w5 w6 := (show Below w5.heap.size w5 _ from hb6.drew).trans (hb7.mono (by simp))
    refine hK.out _ _ ?_ (fun hHeld => ?_)
    ·
     exact HS.out _ hb8
    clear hK K
    try simp only [pu]
    replace hB := bl_trans hB hb8
    have hz6 := hb8.size
    replace HD0 := bk HD0 hb8
    replace HE0 := bk HE0 hb8
    replace HX0 := bk HX0 hb8
    replace HZ0 := bk HZ0 hb8
    clear y0 y1 y2 yf d0 d1 d2 df e0 e1 e2 e3 e4 e5 e6 e7 e8 e9 e10 ef x0 x1 x2 x3 x4 xf
    obtain ⟨d0, d1, d2, df⟩ := cells3 HD0
    obtain ⟨y0, y1, y2, yf⟩ := cells3 HZ0
    obtain ⟨x0, x1, x2, x3, x4, xf⟩ := cells5 HX0
    obtain ⟨e0, e1, e2, e3, e4, e5, e6, e7, e8, e9, e10, ef⟩ := cells11 HE0
    refine take_ready 1 rfl (by kernel_rfl) (fun K hK => ?_)
    go_simp
    refine hK.out _ _ ?_ (fun hHeld => ?_)
    ·
     exact HS.out _ hb8
    clear hK K
    try simp only [pu]
    refine tk 4 32 rfl rfl ?_
    try simp only [pu]
    refine tk 9 37 rfl rfl ?_
    try simp only [pu]
    refine tk 10 38 rfl rfl ?_
    try simp only [pu]
    refine take_ready 11 rfl (by kernel_rfl) (fun K hK => ?_)
    go_simp
    refine hK.out _ _ ?_ (fun hHeld => ?_)
    ·
     refine ⟨?_, ?_, ?_, ?_, ?_, ?_, ?_, ?_, ?_, ?_, ?_, ?_, ?_, ?_, ?_, ?_⟩ <;> exact (World.cell?_of_block (Below.heap_setCell _ _ _ _ (by simp <;> omega))).trans (by assumption)
    clear hK K
    try simp only [pu]
    refine wpAnyH_done (by kernel_rfl) ?_ _
    by_cases h20 : L.length ≤ 20000
    ·
     have HRT := Lib.hid (show rb = true by rw [HB.out, HAP.out, decide_eq_true h20]; rfl)
     have h20' : T.size ≤ 20000 := by rw [HTS.out]; exact h20
     have HR := Lib.hid (HDT.out HRT.out)
     clear HDF HDT h20
     go_wp2_with fail
     refine bodyPost_ret (v := .tuple #[disk a b T, .bool true]) (by simp [results, Tryz.results22, go_sem, y0, y1, y2]) rfl ⟨ret_disk HR.out.symm HRT.out.symm, ?_⟩
     iterate 4 (refine Below.setCell ?_ (by simp <;> omega) _)
     exact hB
    ·
     have HN := Lib.hid (show rb = false by rw [HB.out, HAP.out, decide_eq_false h20]; rfl)
     have h20' : ¬ T.size ≤ 20000 := by rw [HTS.out]; exact h20
     clear h20
     go_wp2_with fail
     refine bodyPost_ret (v := .tuple #[disk ⟨#[]⟩ ⟨#[]⟩ ⟨#[]⟩, .bool false]) (by simp [results, Tryz.results22, go_sem, y0, y1, y2]) rfl ⟨ret_disk (HDF.out HN.out).symm HN.out.symm, ?_⟩
     iterate 4 (refine Below.setCell ?_ (by simp <;> omega) _)
     exact hB
end Go.Proofs.YtcfbkickiijjkaaGreatDoor
