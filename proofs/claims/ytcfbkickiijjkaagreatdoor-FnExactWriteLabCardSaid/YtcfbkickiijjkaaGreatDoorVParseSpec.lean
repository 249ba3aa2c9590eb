/-
  The reference's srReadWalk and ParseWalk.
-/
import Derived.Test.YtcfbkickiijjkaaGreatDoorVStoreAll
import Derived.Test.YtcfbkickiijjkaaGreatDoorVParseImpl
namespace Go.Proofs.YtcfbkickiijjkaaGreatDoor
open Go.RowKit
set_option linter.all false
theorem oper_append1 {P : Program} (w : World) {o : Oper} {a : Act} {K : Act → World → Prop} {Q : Exit → Act → World → Prop} (s x : Operand) (t : TypeId)
  (ho : o.op = .call { callee := .builtin .append, args := #[s, x], argTypes := #[t, t] })
  (base : Nat) (e : TypeId) (z : Value) (bytes : Nat) (ht : P.underlying t = some (.slice e)) (hinf : (P.info? e).map (fun i => (i.zero, i.size, i.bytes)) = some (some z, 1, bytes)) (hzs : z.cells.size = 1)
  (v : Value) (n : Nat) (xs : List Value) (hs : a.eval s = v) (u : Value) (hu : u.oneCell' = true) (hx : a.eval x = .slice (some ⟨w.heap.size, 0, none⟩) 1 1)
  (hown : w.ownsRow base e 1 v n xs) (h63 : n + 1 ≤ maxLen) (hbytes : (n + 1) * bytes ≤ 140737488355328) (hbase : base ≤ w.heap.size)
  (h : ∀ v' w', w'.ownsRow base e 1 v' (n + 1) (xs ++ [u]) → Below base w w' → w.grownBy w' v.ownBlock → w.heap.size < w'.heap.size → (v'.ownBlock = v.ownBlock ∨ ∃ g, v'.ownBlock = some g ∧ w.heap.size ≤ g ∧ g < w'.heap.size) → K (a.put o.dst v') w') :
  Oper.wp P o a (w.alloc (.cells #[u] e)) K Q := by
 obtain ⟨i, hi, hz0, hz1, hz2⟩ := info_parts hinf
 have hown1 := hown.alloc (.cells #[u] e)
 have hcell : (w.alloc (.cells #[u] e)).cell? ⟨w.heap.size, 0, none⟩ = some u := by rw [World.cell?_alloc_at _ _ _ _ rfl]; rfl
 have hnews : ∀ j u', ([u] : List Value)[j]? = some u' → (w.alloc (.cells #[u] e)).cell? ((⟨w.heap.size, 0, none⟩ : Addr).add j) = some u' := by
  intro j u' hj
  match j, hj with
  | 0, hj =>
   have : u = u' := by simpa using hj
   subst this
   exact hcell
 obtain ⟨v', w', hrun, h2, h3, _, h5⟩ := run_append_own_at (P := P) (w.alloc (.cells #[u] e)) base t o.type e i z 1 bytes ht hi hz0 hz1 hz2 hzs (by decide) v n xs hown1 ⟨w.heap.size, 0, none⟩ 1 1 [u] rfl hnews
  (by intro u' hu'; obtain rfl : u' = u := (by simpa using hu'); exact hu) h63 hbytes (by simp; omega)
 have hg : w.grownBy w' v.ownBlock := by
  have h0 := World.grownBy_alloc w (.cells #[u] e) v.ownBlock
  exact ⟨h3.os.trans h0.os, h3.tape.trans h0.tape, h3.output.trans h0.output, Nat.le_trans h0.size h3.size, fun k hk hne => (h3.block k (Nat.lt_of_lt_of_le hk h0.size) hne).trans (h0.block k hk hne)⟩
 have hsz : w.heap.size < w'.heap.size := by have := h3.size; simp at this; omega
 have hB : Below base w w' := (Below.refl base w).grown hg hbase (fun k hk => (hown.lt k hk).1)
 unfold Oper.wp execOp
 simp only [ho, resolve, invoke, builtin, Sem.run_bind, Sem.run_pure, Result.andThen_ok, List.map_toArray, List.map_cons, List.map_nil, hs, hx, hrun]
 refine h v' w' h2 hB hg hsz ?_
 rcases h5 with h5 | h5
 ·
  exact .inl h5
 ·
  refine .inr ⟨_, h5, by simp, ?_⟩
  exact (h2.lt _ h5).2
theorem RowsSt.setCell {base : Nat} {w : World} {v : Value} {xss : List (List Int)} (h : RowsSt base w v xss) (p : Addr) (hp : p.block < base) (u : Value) : RowsSt base (w.setCell p u) v xss := by
  obtain ⟨vs, bs, h1, h2, h3, h4⟩ := h
  have hg : w.grownBy (w.setCell p u) (some p.block) := ⟨rfl, rfl, rfl, by rw [size_setCell]; exact Nat.le_refl _, fun k hk hne => Below.heap_setCell _ _ _ _ (fun e => hne (by rw [e]))⟩
  refine ⟨vs, bs, h1.kept hg ?_, h2.keep fun b hb => Below.heap_setCell _ _ _ _ (fun e => by have := h4 b hb; omega), h3, fun b hb => by rw [size_setCell]; exact h4 b hb⟩
  cases hv : v.ownBlock with
  | none => exact .inl rfl
  | some k =>
    refine .inr fun e => ?_
    have := h1.lt k hv
    have : k = p.block := by simpa using e
    omega
theorem BoxW.set1 {w : World} {b : Nat} {x v : Value} (h : BoxW w b x v) (u : Value) : BoxW (w.setCell ⟨b, 1, none⟩ u) b x u := by
  obtain ⟨h0, h1, h2, h3⟩ := h
  have e1 : ∀ i, (w.setCell ⟨b, 1, none⟩ u).frozen? ⟨b, i, none⟩ = w.frozen? ⟨b, i, none⟩ := fun i => by go_simp
  refine ⟨?_, ?_, ?_, ?_⟩
  · go_simp
  · go_simp
  · rw [e1]; exact h2
  · rw [e1]; exact h3
theorem SlR.at_ {w : World} {B n c j : Nat} {a : Addr} {vs : List Value} {u : Value} (h : SlR w B (.slice (some a) n c) vs) (hj : vs[j]? = some u) : w.cell? (a.add j) = some u ∧ a.block < B := by
  obtain ⟨A, c', e, h1, h2, h3⟩ := h
  simp only [Value.slice.injEq] at e
  obtain ⟨ad, e1, hb, hc⟩ := h3 (by have := (List.getElem?_eq_some_iff.1 hj).1; omega)
  rw [← e.1] at e1
  obtain rfl : a = ad := by simpa using e1
  exact ⟨hc j u hj, hb⟩
def SrRel (ws : List (List UInt8)) (n : Int) (b : Nat) (w : World) (i : Value) (wr : World) : Prop :=
  ∃ (k : Nat) (v : Value), k ≤ ws.length ∧ i = .int .i64 k ∧ RowsSt (b + 1) wr v ((ws.take k).map (numsR 45)) ∧ BoxW wr b (.int .i64 n) v ∧ Below b w wr ∧ b < wr.heap.size
set_option maxRecDepth 100000 in
set_option maxHeartbeats 2000000 in
theorem spec_srReadWalk (s : ByteArray) (w : World) (hs : s.size ≤ 1048576) :
  Calls Tryz.prog 133 #[.string s] w fun e w' => PwPost s.data.toList w e w' := by
 have hsz := Lib.size_eq s
 have hb0 := bl_alloc (Below.refl w.heap.size w) (.cells #[.int .i64 0, .slice none 0 0] 50)
 have HB0 := Lib.hid (BoxW.new w 50 (.int .i64 0) (.slice none 0 0))
 have HZ0 := Lib.hid (show w.heap.size < (w.alloc (.cells #[.int .i64 0, .slice none 0 0] 50)).heap.size by simp)
 go_enter Tryz.func133, Tryz.ntmps133
 go_wp2_with fail
 generalize w.alloc (.cells #[.int .i64 0, .slice none 0 0] 50) = w0 at *
 refine (l1Split_any s 32 w0 hs).mono ?_
 rintro e w1 ⟨v, rfl, hown, hb1⟩
 have hsl := own_reads hown
 clear hown
 have hB1 := bl_trans hb0 hb1
 have HB1 := Lib.hid (HB0.out.below hb1 HZ0.out)
 have HZ1 := Lib.hid (Nat.lt_of_lt_of_le HZ0.out hb1.size)
 have HL := Lib.hid (show ∀ p ∈ spl 32 s.data.toList [], p.length ≤ 1048576 from fun p hp => by have := spl_part 32 _ _ p hp; simp only [List.length_nil] at this; omega)
 have hcnt : (spl 32 s.data.toList []).length ≤ 1048577 := by rw [spl_len]; have := List.count_le_length (a := 32) (l := s.data.toList); omega
 have HNE := Lib.hid (spl_ne 32 s.data.toList [])
 clear hsz
 obtain ⟨ps, hps⟩ : ∃ ps, spl 32 s.data.toList [] = ps := ⟨_, rfl⟩
 rw [hps] at hsl HL hcnt HNE
 have HPS := Lib.hid hps; clear hps
 obtain ⟨c0, c1, c2, c3⟩ := HB1.out
 obtain ⟨A, c, rfl, g1, g2, g3⟩ := hsl.open1
 have HSL := Lib.hid hsl; clear hsl
 rw [List.length_map] at g1 g3
 rw [List.length_map]
 match ps with
 | [] => exact absurd rfl HNE.out
 | [p0] =>
  obtain ⟨e1, e2, e3⟩ := pw_f (show ¬ pwP s.data.toList from fun ⟨a, r, h, _⟩ => by rw [HPS.out] at h; cases h)
  have E1 := Lib.hid e1; clear e1
  have E2 := Lib.hid e2; clear e2
  have E3 := Lib.hid e3; clear e3
  clear g3
  simp only [List.length_cons, List.length_nil] at *
  go_wp2_with fail
  refine bodyPost_ret (v := .tuple #[.agg #[.int .i64 0, .slice none 0 0], .bool false]) (by simp [results, Tryz.results133, go_sem, c0, c1]) rfl ⟨.slice none 0 0, [], by rw [E1.out, E2.out], by rw [E3.out]; exact rows_none _ _ _, List.nodup_nil, (fun _ h => by cases h), ?_⟩
  iterate 2 (refine Below.setCell ?_ (by simp) _)
  exact hB1
 | p0 :: p1 :: rest =>
  simp only [List.length_cons] at *
  obtain ⟨ad, rfl, hb, hc⟩ := g3 (by omega)
  have q1 : w1.cell? ⟨ad.block, ad.off + 1, none⟩ = some (strV p1) := hc 1 _ rfl
  unfold strV at q1
  clear g3 hc
  unfold maxLen at g2
  have hd : decide ((rest.length : Int) + 1 + 1 < 2) = false := decide_eq_false (by omega)
  have hpl := HL.out p1 (by simp)
  have JR := Lib.hid (fun W => show Calls Tryz.prog 74 #[.string ⟨p1.toArray⟩] W fun e w' => e = .returned (.int .i64 (rdI p1)) ∧ W = w' from spec_l1Read ⟨p1.toArray⟩ W (by rw [Lib.size_eq]; show p1.length ≤ _; unfold maxLen; omega))
  obtain ⟨n, hn⟩ : ∃ n, n = rdI p1 := ⟨_, rfl⟩
  rw [← hn] at JR
  have HNn := Lib.hid hn; clear hn
  by_cases h2 : c = 2
  ·
   subst h2
   have hr0 : rest = [] := List.eq_nil_of_length_eq_zero (by omega)
   subst hr0
   simp only [List.length_nil] at *
   go_wp2_with fail
   refine (JR.out w1).mono ?_
   rintro e w2 ⟨rfl, hw2⟩
   subst hw2
   generalize hW : w1 = w2 at *
   clear hW
   have hb3 := bl_alloc (Below.refl w2.heap.size w2) (.cells #[.int .i64 n, .slice none 0 0] 50)
   have HX3 := Lib.hid (BoxW.new w2 50 (.int .i64 n) (.slice none 0 0))
   have HB3 := Lib.hid (HB1.out.below hb3 HZ1.out)
   have hs3 : (w2.alloc (.cells #[.int .i64 n, .slice none 0 0] 50)).heap.size = w2.heap.size + 1 := by simp
   have HS3 := Lib.hid hs3; clear hs3
   have HSL3 := Lib.hid (show SlR (w2.alloc (.cells #[.int .i64 n, .slice none 0 0] 50)) w2.heap.size (.slice (some ad) 0 0) (([] : List (List UInt8)).map strV) from tail0 _ _ _)
   go_wp2_with fail
   generalize w2.alloc (.cells #[.int .i64 n, .slice none 0 0] 50) = w3 at *
   go_loopw [22] (fun i wr => SrRel ([] : List (List UInt8)) n w2.heap.size w3 i wr) (fun i _ => ([] : List (List UInt8)).length - (intOf i).toNat)
   case atStart => exact ⟨0, .slice none 0 0, Nat.zero_le _, rfl, RowsSt.nil _ _, HX3.out, Below.refl _ _, by rw [HS3.out]; omega⟩
   case round =>
    obtain ⟨k, v, hk, rfl, hst, hbx, hbl, hbr⟩ := hrel
    have HS := Lib.hid hst; clear hst
    have HBX := Lib.hid hbx; clear hbx
    obtain ⟨Av, mv, cv, rfl⟩ := HS.out.isSlice
    obtain ⟨f0, f1, f2, f3⟩ := HBX.out
    by_cases hlt : k < ([] : List (List UInt8)).length
    ·
     exact absurd hlt (by simp)
    ·
     have e1 : ([] : List (List UInt8)).take k = ([] : List (List UInt8)) := List.take_of_length_le (by omega)
     have hst := HS.out
     rw [e1] at hst
     obtain ⟨bs, ho, hn, hr⟩ := hst.fin
     have HO := Lib.hid ho; clear ho hst e1
     have HR := Lib.hid hr; clear hr
     have HRW := Lib.hid (HO.out.reads (fun b hb => (HR.out b hb).2))
     have hzl := HZ1.out
     have hBr : Below w.heap.size w wr := (hB1.trans (hb3.mono hB1.size)).trans (hbl.mono hB1.size)
     have HBr := Lib.hid (HB3.out.below hbl HZ1.out)
     have hzr : w.heap.size < wr.heap.size := by omega
     obtain ⟨XS, hXS⟩ : ∃ X, X = ([] : List (List UInt8)).map (numsR 45) := ⟨_, rfl⟩
     rw [← hXS] at HO HRW
     have hxl : XS.length ≤ 1048576 := by rw [hXS, List.length_map]; first | omega | (simp only [List.length_nil]; omega)
     have HXS := Lib.hid hXS; clear hXS
     go_wp2_with fail
     refine (spec_waGood n _ XS wr HRW.out).mono ?_
     rintro e w5 ⟨rfl, hb5⟩
     have hB5 := bl_trans hBr hb5
     have HB5 := Lib.hid (HBr.out.below hb5 hzr)
     have HX5 := Lib.hid (HBX.out.below hb5 hbr)
     obtain ⟨y0, y1, y2, y3⟩ := HB5.out
     obtain ⟨x0, x1, x2, x3⟩ := HX5.out
     have hz5 := hb5.size
     cases q6 : goodB n XS with
     | false =>
      obtain ⟨e1, e2, e3⟩ := pw_f (show ¬ pwP s.data.toList from fun h => by have := goodB_t (pw_of HPS.out h).2.2.2; rw [← HNn.out, ← HXS.out, q6] at this; cases this)
      have E1 := Lib.hid e1; clear e1
      have E2 := Lib.hid e2; clear e2
      have E3 := Lib.hid e3; clear e3
      clear q6
      go_wp2_with fail
      refine bodyPost_ret (v := .tuple #[.agg #[.int .i64 0, .slice none 0 0], .bool false]) (by simp [results, Tryz.results133, go_sem, y0, y1]) rfl ⟨.slice none 0 0, [], by rw [E1.out, E2.out], by rw [E3.out]; exact rows_none _ _ _, List.nodup_nil, (fun _ h => by cases h), ?_⟩
      iterate 2 (refine Below.setCell ?_ (by simp) _)
      exact hB5
     | true =>
      have HG := Lib.hid (goodB_iff.1 q6); clear q6
      obtain ⟨T, hT⟩ : ∃ T, T = walkT n XS := ⟨_, rfl⟩
      have JT := Lib.hid (show Calls Tryz.prog 95 #[.agg #[.int .i64 n, .slice Av mv cv]] w5 fun e w' => e = .returned (.string ⟨T.toArray⟩) ∧ Below w5.heap.size w5 w' by
       rw [hT]
       exact spec_srWalk n _ XS w5 ((HRW.out.below hb5).more hb5.size) HG.out hxl)
      have HTT := Lib.hid hT; clear hT
      go_wp2_with fail
      refine JT.out.mono ?_
      rintro e w6 ⟨rfl, hb6⟩
      have hB6 := bl_trans hB5 hb6
      obtain ⟨z0, z1, z2, z3⟩ := HB5.out.below hb6 (show w.heap.size < w5.heap.size by omega)
      obtain ⟨v0, v1, v2, v3⟩ := HX5.out.below hb6 (show w2.heap.size < w5.heap.size by omega)
      by_cases q7 : T = s.data.toList
      ·
       obtain ⟨e1, e2, e3⟩ := pw_t HPS.out ((sp_iff_pw _).1 ⟨p0, p1, ([] : List (List UInt8)), HPS.out, by rw [← HNn.out, ← HXS.out]; exact HG.out, by rw [← HNn.out, ← HXS.out, ← HTT.out]; exact q7⟩)
       have k1 : (T == s.toList) = true := by rw [Lib.toList_data, q7]; simp
       have k2 : (T == s.data.toList) = true := by rw [q7]; simp
       clear q7
       have E1 := Lib.hid e1; clear e1
       have E2 := Lib.hid e2; clear e2
       have E3 := Lib.hid e3; clear e3
       go_wp2_with fail
       refine bodyPost_ret (v := .tuple #[.agg #[.int .i64 n, .slice Av mv cv], .bool true]) (by simp [results, Tryz.results133, go_sem, z0, z1]) rfl ⟨.slice Av mv cv, bs, by rw [E1.out, E2.out, HNn.out], ?_, hn, ?_, ?_⟩
       ·
        rw [E3.out, ← HXS.out]
        refine HO.out.keep fun b hb => ?_
        have := HR.out b hb
        rw [Below.heap_setCell _ _ _ _ (by simp; omega), Below.heap_setCell _ _ _ _ (by simp; omega), hb6.block b (by omega), hb5.block b (by omega)]
       ·
        intro b hb
        have := HR.out b hb
        have h9 := hb6.size
        simp only [size_setCell]
        omega
       ·
        iterate 2 (refine Below.setCell ?_ (by simp) _)
        exact hB6
      ·
       obtain ⟨e1, e2, e3⟩ := pw_f (show ¬ pwP s.data.toList from fun h => by
        obtain ⟨a0, a1, ar, j1, j2, j3⟩ := (sp_iff_pw _).2 h
        rw [HPS.out] at j1
        simp only [List.cons.injEq] at j1
        obtain ⟨rfl, rfl, rfl⟩ := j1
        rw [← HNn.out, ← HXS.out, ← HTT.out] at j3
        exact q7 j3)
       have k1 : (T == s.toList) = false := by rw [Lib.toList_data, beq_eq_false_iff_ne]; exact q7
       have k2 : (T == s.data.toList) = false := by rw [beq_eq_false_iff_ne]; exact q7
       clear q7
       have E1 := Lib.hid e1; clear e1
       have E2 := Lib.hid e2; clear e2
       have E3 := Lib.hid e3; clear e3
       go_wp2_with fail
       refine bodyPost_ret (v := .tuple #[.agg #[.int .i64 0, .slice none 0 0], .bool false]) (by simp [results, Tryz.results133, go_sem, z0, z1]) rfl ⟨.slice none 0 0, [], by rw [E1.out, E2.out], by rw [E3.out]; exact rows_none _ _ _, List.nodup_nil, (fun _ h => by cases h), ?_⟩
       iterate 2 (refine Below.setCell ?_ (by simp) _)
       exact hB6
  ·
   have HC2 := h2
   go_wp2_with fail
   refine (JR.out w1).mono ?_
   rintro e w2 ⟨rfl, hw2⟩
   subst hw2
   generalize hW : w1 = w2 at *
   clear hW
   have hb3 := bl_alloc (Below.refl w2.heap.size w2) (.cells #[.int .i64 n, .slice none 0 0] 50)
   have HX3 := Lib.hid (BoxW.new w2 50 (.int .i64 n) (.slice none 0 0))
   have HB3 := Lib.hid (HB1.out.below hb3 HZ1.out)
   have hs3 : (w2.alloc (.cells #[.int .i64 n, .slice none 0 0] 50)).heap.size = w2.heap.size + 1 := by simp
   have HS3 := Lib.hid hs3; clear hs3
   have HSL3 := Lib.hid (show SlR (w2.alloc (.cells #[.int .i64 n, .slice none 0 0] 50)) w2.heap.size (.slice (some ⟨ad.block, ad.off + 2, none⟩) rest.length (c - 2)) (rest.map strV) from by have h := (tail2 HSL.out).below hb3; rwa [List.length_map] at h)
   go_wp2_with fail
   generalize w2.alloc (.cells #[.int .i64 n, .slice none 0 0] 50) = w3 at *
   go_loopw [22] (fun i wr => SrRel rest n w2.heap.size w3 i wr) (fun i _ => rest.length - (intOf i).toNat)
   case atStart => exact ⟨0, .slice none 0 0, Nat.zero_le _, rfl, RowsSt.nil _ _, HX3.out, Below.refl _ _, by rw [HS3.out]; omega⟩
   case round =>
    obtain ⟨k, v, hk, rfl, hst, hbx, hbl, hbr⟩ := hrel
    have HS := Lib.hid hst; clear hst
    have HBX := Lib.hid hbx; clear hbx
    obtain ⟨Av, mv, cv, rfl⟩ := HS.out.isSlice
    obtain ⟨f0, f1, f2, f3⟩ := HBX.out
    by_cases hlt : k < rest.length
    ·
     obtain ⟨p, hp⟩ : ∃ p, rest[k]? = some p := ⟨_, List.getElem?_eq_getElem hlt⟩
     obtain ⟨hcell, hb'⟩ := HSL3.out.at_ (j := k) (u := strV p) (by rw [List.getElem?_map, hp]; rfl)
     rw [add_lit] at hcell
     replace hcell : wr.cell? ⟨ad.block, ad.off + 2 + k, none⟩ = some (.string ⟨p.toArray⟩) := (hbl.cell (p := ⟨ad.block, ad.off + 2 + k, none⟩) hb').trans hcell
     have HN := Lib.hid (take_nums 45 rest k p hp)
     have hpl' := HL.out p (by have := List.mem_of_getElem? hp; simp [this])
     have J := Lib.hid (fun W => show Calls Tryz.prog 173 #[.string ⟨p.toArray⟩, .int .u8 45] W fun e w' => ∃ v bs, e = .returned v ∧ OwnInts w' 3 v (numsR 45 p) bs ∧ bs.Nodup ∧ (∀ x ∈ bs, W.heap.size ≤ x ∧ x < w'.heap.size) ∧ Below W.heap.size W w' from spec_srList ⟨p.toArray⟩ 45 W (by rw [Lib.size_eq]; show p.length ≤ _; omega))
     clear hp
     go_wp2_with fail
     refine wp_region_held_drew (S := fun _ => True) (by kernel_rfl) trivial (fun hHeld => ?_)
     refine tk 0 26 rfl rfl ?_ (hS := trivial)
     try simp only [pu]
     refine tk 2 28 rfl rfl ?_ (hS := trivial)
     try simp only [pu]
     refine take_ready2 1 3 rfl rfl (by kernel_rfl) (fun K hK => ?_) (fun K hK => ?_)
     ·
      go_simp
      refine hK.out _ _ trivial (fun hHeld => ?_)
      clear hK K
      try simp only [pu]
      refine take_ready 3 rfl (by kernel_rfl) (fun K hK => ?_)
      go_simp
      (go_at_call 173; refine (J.out _).mono ?_; rintro e w4 ⟨u, b1, rfl, ho, hn, hr, hb4⟩; have hB14 := ((Below.refl wr.heap.size wr).drew).trans hb4; have HBx4 := Lib.hid (HBX.out.below hB14 hbr); obtain ⟨t0, t1, t2, t3⟩ := HBx4.out; obtain ⟨A1, m1, c1', rfl⟩ := ho.1.isSlice)
      refine hK.out _ _ trivial (fun hHeld => ?_)
      clear hK K
      try simp only [pu]
      refine take_ready 4 rfl (by kernel_rfl) (fun K hK => ?_)
      go_simp
      refine hK.out _ _ trivial (fun hHeld => ?_)
      clear hK K
      try simp only [pu]
      obtain ⟨vs, hown1, hstep⟩ := HS.out.step (show w2.heap.size + 1 ≤ wr.heap.size by omega) hB14 ho hn (fun b hb => by have := hr b hb; exact ⟨by simpa using this.1, this.2⟩)
      have HST := Lib.hid hstep; clear hstep ho hn hr
      have hlen : ((rest.take k).map (numsR 45)).length = k := by simp; omega
      rw [hlen] at hown1 HST
      clear hlen
      have hz4 := hB14.size
      refine take_ready 5 rfl (by kernel_rfl) (fun K hK => ?_)
      rw [if_pos (by rfl)]
      refine oper_append1 w4 (.tmp 27) (.tmp 30) 38 rfl (w2.heap.size + 1) 41 _ 24 Tryz.underlying38 sliceInfo rfl _ _ _ rfl _ rfl rfl hown1 (by unfold maxLen; omega) (by omega) (by omega) ?_
      intro v' w5 hown' hbl' hgr' hlt' hob'
      have HBx5 := Lib.hid (HBx4.out.below hbl' (Nat.lt_succ_self _))
      obtain ⟨a0, a1, a2, a3⟩ := HBx5.out
      have HST5 := Lib.hid (HST.out _ _ hown' hgr' hob')
      obtain ⟨A5, m5, c5, rfl⟩ := HST5.out.isSlice
      clear hown' hgr' hob' hown1
      refine hK.out _ _ trivial (fun hHeld => ?_)
      clear hK K
      try simp only [pu]
      refine take_ready 6 rfl (by kernel_rfl) (fun K hK => ?_)
      go_simp
      refine hK.out _ _ trivial (fun hHeld => ?_)
      clear hK K
      try simp only [pu]
      refine take_ready 7 rfl (by kernel_rfl) (fun K hK => ?_)
      go_simp
      refine hK.out _ _ trivial (fun hHeld => ?_)
      clear hK K
      try simp only [pu]
      refine wpAnyH_done (by kernel_rfl) ?_ _
      go_wp2_with fail
      go_roundw
      case rel =>
       refine ⟨k + 1, .slice A5 m5 c5, by omega, by go_num, ?_, ?_, ?_, by rw [size_setCell]; omega⟩
       ·
        rw [HN.out]
        exact HST5.out.setCell _ (Nat.lt_succ_self _) _
       ·
        exact HBx5.out.set1 _
       ·
        refine Below.setCell ?_ (by simp) _
        exact (hbl.trans (hB14.mono (by omega))).trans (hbl'.mono (by omega))
      case measure => simp [intOf]; omega
     ·
      go_simp
      (go_at_call 173; refine (J.out _).mono ?_; rintro e w4 ⟨u, b1, rfl, ho, hn, hr, hb4⟩; have hB14 := ((Below.refl wr.heap.size wr).drew).trans hb4; have HBx4 := Lib.hid (HBX.out.below hB14 hbr); obtain ⟨t0, t1, t2, t3⟩ := HBx4.out; obtain ⟨A1, m1, c1', rfl⟩ := ho.1.isSlice)
      refine hK.out _ _ trivial (fun hHeld => ?_)
      clear hK K
      try simp only [pu]
      refine take_ready2 1 4 rfl rfl (by kernel_rfl) (fun K hK => ?_) (fun K hK => ?_)
      ·
       go_simp
       refine hK.out _ _ trivial (fun hHeld => ?_)
       clear hK K
       try simp only [pu]
       refine take_ready 4 rfl (by kernel_rfl) (fun K hK => ?_)
       go_simp
       refine hK.out _ _ trivial (fun hHeld => ?_)
       clear hK K
       try simp only [pu]
       obtain ⟨vs, hown1, hstep⟩ := HS.out.step (show w2.heap.size + 1 ≤ wr.heap.size by omega) hB14 ho hn (fun b hb => by have := hr b hb; exact ⟨by simpa using this.1, this.2⟩)
       have HST := Lib.hid hstep; clear hstep ho hn hr
       have hlen : ((rest.take k).map (numsR 45)).length = k := by simp; omega
       rw [hlen] at hown1 HST
       clear hlen
       have hz4 := hB14.size
       refine take_ready 5 rfl (by kernel_rfl) (fun K hK => ?_)
       rw [if_pos (by rfl)]
       refine oper_append1 w4 (.tmp 27) (.tmp 30) 38 rfl (w2.heap.size + 1) 41 _ 24 Tryz.underlying38 sliceInfo rfl _ _ _ rfl _ rfl rfl hown1 (by unfold maxLen; omega) (by omega) (by omega) ?_
       intro v' w5 hown' hbl' hgr' hlt' hob'
       have HBx5 := Lib.hid (HBx4.out.below hbl' (Nat.lt_succ_self _))
       obtain ⟨a0, a1, a2, a3⟩ := HBx5.out
       have HST5 := Lib.hid (HST.out _ _ hown' hgr' hob')
       obtain ⟨A5, m5, c5, rfl⟩ := HST5.out.isSlice
       clear hown' hgr' hob' hown1
       refine hK.out _ _ trivial (fun hHeld => ?_)
       clear hK K
       try simp only [pu]
       refine take_ready 6 rfl (by kernel_rfl) (fun K hK => ?_)
       go_simp
       refine hK.out _ _ trivial (fun hHeld => ?_)
       clear hK K
       try simp only [pu]
       refine take_ready 7 rfl (by kernel_rfl) (fun K hK => ?_)
       go_simp
       refine hK.out _ _ trivial (fun hHeld => ?_)
       clear hK K
       try simp only [pu]
       refine wpAnyH_done (by kernel_rfl) ?_ _
       go_wp2_with fail
       go_roundw
       case rel =>
        refine ⟨k + 1, .slice A5 m5 c5, by omega, by go_num, ?_, ?_, ?_, by rw [size_setCell]; omega⟩
        ·
         rw [HN.out]
         exact HST5.out.setCell _ (Nat.lt_succ_self _) _
        ·
         exact HBx5.out.set1 _
        ·
         refine Below.setCell ?_ (by simp) _
         exact (hbl.trans (hB14.mono (by omega))).trans (hbl'.mono (by omega))
       case measure => simp [intOf]; omega
      ·
       go_simp
       have t9 := (World.cell?_alloc_lt w4 (.cells #[.slice A1 m1 c1'] 41) ⟨w2.heap.size, 1, none⟩ (World.block_lt_of_cell? _ _ t1)).trans t1
       refine hK.out _ _ trivial (fun hHeld => ?_)
       clear hK K
       try simp only [pu]
       refine take_ready 1 rfl (by kernel_rfl) (fun K hK => ?_)
       go_simp
       refine hK.out _ _ trivial (fun hHeld => ?_)
       clear hK K
       try simp only [pu]
       obtain ⟨vs, hown1, hstep⟩ := HS.out.step (show w2.heap.size + 1 ≤ wr.heap.size by omega) hB14 ho hn (fun b hb => by have := hr b hb; exact ⟨by simpa using this.1, this.2⟩)
       have HST := Lib.hid hstep; clear hstep ho hn hr
       have hlen : ((rest.take k).map (numsR 45)).length = k := by simp; omega
       rw [hlen] at hown1 HST
       clear hlen
       have hz4 := hB14.size
       refine take_ready 5 rfl (by kernel_rfl) (fun K hK => ?_)
       rw [if_pos (by rfl)]
       refine oper_append1 w4 (.tmp 27) (.tmp 30) 38 rfl (w2.heap.size + 1) 41 _ 24 Tryz.underlying38 sliceInfo rfl _ _ _ rfl _ rfl rfl hown1 (by unfold maxLen; omega) (by omega) (by omega) ?_
       intro v' w5 hown' hbl' hgr' hlt' hob'
       have HBx5 := Lib.hid (HBx4.out.below hbl' (Nat.lt_succ_self _))
       obtain ⟨a0, a1, a2, a3⟩ := HBx5.out
       have HST5 := Lib.hid (HST.out _ _ hown' hgr' hob')
       obtain ⟨A5, m5, c5, rfl⟩ := HST5.out.isSlice
       clear hown' hgr' hob' hown1
       refine hK.out _ _ trivial (fun hHeld => ?_)
       clear hK K
       try simp only [pu]
       refine take_ready 6 rfl (by kernel_rfl) (fun K hK => ?_)
       go_simp
       refine hK.out _ _ trivial (fun hHeld => ?_)
       clear hK K
       try simp only [pu]
       refine take_ready 7 rfl (by kernel_rfl) (fun K hK => ?_)
       go_simp
       refine hK.out _ _ trivial (fun hHeld => ?_)
       clear hK K
       try simp only [pu]
       refine wpAnyH_done (by kernel_rfl) ?_ _
       go_wp2_with fail
       go_roundw
       case rel =>
        refine ⟨k + 1, .slice A5 m5 c5, by omega, by go_num, ?_, ?_, ?_, by rw [size_setCell]; omega⟩
        ·
         rw [HN.out]
         exact HST5.out.setCell _ (Nat.lt_succ_self _) _
        ·
         exact HBx5.out.set1 _
        ·
         refine Below.setCell ?_ (by simp) _
         exact (hbl.trans (hB14.mono (by omega))).trans (hbl'.mono (by omega))
       case measure => simp [intOf]; omega
    ·
     have e1 : rest.take k = rest := List.take_of_length_le (by omega)
     have hst := HS.out
     rw [e1] at hst
     obtain ⟨bs, ho, hn, hr⟩ := hst.fin
     have HO := Lib.hid ho; clear ho hst e1
     have HR := Lib.hid hr; clear hr
     have HRW := Lib.hid (HO.out.reads (fun b hb => (HR.out b hb).2))
     have hzl := HZ1.out
     have hBr : Below w.heap.size w wr := (hB1.trans (hb3.mono hB1.size)).trans (hbl.mono hB1.size)
     have HBr := Lib.hid (HB3.out.below hbl HZ1.out)
     have hzr : w.heap.size < wr.heap.size := by omega
     obtain ⟨XS, hXS⟩ : ∃ X, X = rest.map (numsR 45) := ⟨_, rfl⟩
     rw [← hXS] at HO HRW
     have hxl : XS.length ≤ 1048576 := by rw [hXS, List.length_map]; first | omega | (simp only [List.length_nil]; omega)
     have HXS := Lib.hid hXS; clear hXS
     go_wp2_with fail
     refine (spec_waGood n _ XS wr HRW.out).mono ?_
     rintro e w5 ⟨rfl, hb5⟩
     have hB5 := bl_trans hBr hb5
     have HB5 := Lib.hid (HBr.out.below hb5 hzr)
     have HX5 := Lib.hid (HBX.out.below hb5 hbr)
     obtain ⟨y0, y1, y2, y3⟩ := HB5.out
     obtain ⟨x0, x1, x2, x3⟩ := HX5.out
     have hz5 := hb5.size
     cases q6 : goodB n XS with
     | false =>
      obtain ⟨e1, e2, e3⟩ := pw_f (show ¬ pwP s.data.toList from fun h => by have := goodB_t (pw_of HPS.out h).2.2.2; rw [← HNn.out, ← HXS.out, q6] at this; cases this)
      have E1 := Lib.hid e1; clear e1
      have E2 := Lib.hid e2; clear e2
      have E3 := Lib.hid e3; clear e3
      clear q6
      go_wp2_with fail
      refine bodyPost_ret (v := .tuple #[.agg #[.int .i64 0, .slice none 0 0], .bool false]) (by simp [results, Tryz.results133, go_sem, y0, y1]) rfl ⟨.slice none 0 0, [], by rw [E1.out, E2.out], by rw [E3.out]; exact rows_none _ _ _, List.nodup_nil, (fun _ h => by cases h), ?_⟩
      iterate 2 (refine Below.setCell ?_ (by simp) _)
      exact hB5
     | true =>
      have HG := Lib.hid (goodB_iff.1 q6); clear q6
      obtain ⟨T, hT⟩ : ∃ T, T = walkT n XS := ⟨_, rfl⟩
      have JT := Lib.hid (show Calls Tryz.prog 95 #[.agg #[.int .i64 n, .slice Av mv cv]] w5 fun e w' => e = .returned (.string ⟨T.toArray⟩) ∧ Below w5.heap.size w5 w' by
       rw [hT]
       exact spec_srWalk n _ XS w5 ((HRW.out.below hb5).more hb5.size) HG.out hxl)
      have HTT := Lib.hid hT; clear hT
      go_wp2_with fail
      refine JT.out.mono ?_
      rintro e w6 ⟨rfl, hb6⟩
      have hB6 := bl_trans hB5 hb6
      obtain ⟨z0, z1, z2, z3⟩ := HB5.out.below hb6 (show w.heap.size < w5.heap.size by omega)
      obtain ⟨v0, v1, v2, v3⟩ := HX5.out.below hb6 (show w2.heap.size < w5.heap.size by omega)
      by_cases q7 : T = s.data.toList
      ·
       obtain ⟨e1, e2, e3⟩ := pw_t HPS.out ((sp_iff_pw _).1 ⟨p0, p1, rest, HPS.out, by rw [← HNn.out, ← HXS.out]; exact HG.out, by rw [← HNn.out, ← HXS.out, ← HTT.out]; exact q7⟩)
       have k1 : (T == s.toList) = true := by rw [Lib.toList_data, q7]; simp
       have k2 : (T == s.data.toList) = true := by rw [q7]; simp
       clear q7
       have E1 := Lib.hid e1; clear e1
       have E2 := Lib.hid e2; clear e2
       have E3 := Lib.hid e3; clear e3
       go_wp2_with fail
       refine bodyPost_ret (v := .tuple #[.agg #[.int .i64 n, .slice Av mv cv], .bool true]) (by simp [results, Tryz.results133, go_sem, z0, z1]) rfl ⟨.slice Av mv cv, bs, by rw [E1.out, E2.out, HNn.out], ?_, hn, ?_, ?_⟩
       ·
        rw [E3.out, ← HXS.out]
        refine HO.out.keep fun b hb => ?_
        have := HR.out b hb
        rw [Below.heap_setCell _ _ _ _ (by simp; omega), Below.heap_setCell _ _ _ _ (by simp; omega), hb6.block b (by omega), hb5.block b (by omega)]
       ·
        intro b hb
        have := HR.out b hb
        have h9 := hb6.size
        simp only [size_setCell]
        omega
       ·
        iterate 2 (refine Below.setCell ?_ (by simp) _)
        exact hB6
      ·
       obtain ⟨e1, e2, e3⟩ := pw_f (show ¬ pwP s.data.toList from fun h => by
        obtain ⟨a0, a1, ar, j1, j2, j3⟩ := (sp_iff_pw _).2 h
        rw [HPS.out] at j1
        simp only [List.cons.injEq] at j1
        obtain ⟨rfl, rfl, rfl⟩ := j1
        rw [← HNn.out, ← HXS.out, ← HTT.out] at j3
        exact q7 j3)
       have k1 : (T == s.toList) = false := by rw [Lib.toList_data, beq_eq_false_iff_ne]; exact q7
       have k2 : (T == s.data.toList) = false := by rw [beq_eq_false_iff_ne]; exact q7
       clear q7
       have E1 := Lib.hid e1; clear e1
       have E2 := Lib.hid e2; clear e2
       have E3 := Lib.hid e3; clear e3
       go_wp2_with fail
       refine bodyPost_ret (v := .tuple #[.agg #[.int .i64 0, .slice none 0 0], .bool false]) (by simp [results, Tryz.results133, go_sem, z0, z1]) rfl ⟨.slice none 0 0, [], by rw [E1.out, E2.out], by rw [E3.out]; exact rows_none _ _ _, List.nodup_nil, (fun _ h => by cases h), ?_⟩
       iterate 2 (refine Below.setCell ?_ (by simp) _)
       exact hB6
end Go.Proofs.YtcfbkickiijjkaaGreatDoor
