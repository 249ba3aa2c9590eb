/-
  The reference's l1Split cuts a string at each occurrence of a byte: for every string of at most 1048576 bytes.
-/
import Derived.Test.YtcfbkickiijjkaaGreatDoorVZ
namespace Go.Proofs.YtcfbkickiijjkaaGreatDoor
open Go.RowKit
set_option linter.all false
theorem strInfo : (Tryz.prog.info? 9).map (fun i => (i.zero, i.size, i.bytes)) = some (some (.string ByteArray.empty), 1, 16) := by kernel_rfl
def SplRel (s : ByteArray) (b : UInt8) (w : World) (v fr i : Value) (wr : World) : Prop :=
  ∃ (k f : Nat) (out : List (List UInt8)), f ≤ k ∧ k ≤ s.size ∧ i = .int .i64 k ∧ fr = .int .i64 f ∧ out.length ≤ k ∧ wr.ownsRow w.heap.size 9 1 v out.length (out.map strV) ∧ Below w.heap.size w wr ∧
    spl b s.data.toList [] = out ++ spl b (s.data.toList.drop k) ((s.data.toList.take k).drop f)
theorem l1Split_any (s : ByteArray) (b : UInt8) (w : World) (hs : s.size ≤ 1048576) :
  Calls Tryz.prog 73 #[.string s, .int .u8 (b.toNat : Int)] w fun e w' =>
   ∃ v, e = .returned v ∧ w'.ownsRow w.heap.size 9 1 v (spl b s.data.toList []).length ((spl b s.data.toList []).map strV) ∧ Below w.heap.size w w' := by
 go_enter Tryz.func73, Tryz.ntmps73
 go_wp2
 go_loopw [5, 6, 7] (fun v fr i wr => SplRel s b w v fr i wr) (fun _ _ i _ => s.size - (intOf i).toNat)
 case atStart => exact ⟨0, 0, [], Nat.le_refl _, Nat.zero_le _, rfl, rfl, Nat.le_refl _, World.ownsRow_nil _ _ _ _, Below.refl _ _, by simp⟩
 case round =>
  obtain ⟨k, f, out, hfk, hk, rfl, rfl, hlen, hown, hbl, hsp⟩ := hrel
  have HS := Lib.hid hsp; clear hsp
  have hbs := hbl.size
  by_cases hlt : k < s.size
  ·
   have hE := extract_strV s f k
   have HE := Lib.hid hE; clear hE
   by_cases hb : s[k] = b
   ·
    have hbb : ((s[k].toNat : Int) == (b.toNat : Int)) = true := by rw [hb]; simp
    go_wp2_with ((at_builtin; refine wpList_append1 wr rfl (.tmp 19) (.tmp 24) 114 rfl w.heap.size 9 _ 16 Tryz.underlying114 strInfo rfl _ _ _ rfl _ rfl rfl hown (by unfold maxLen; omega) (by omega) hbs ?_; intro v' w' hown' hbl' hgr' hlt' hob'))
    go_roundw
    case rel =>
     refine ⟨k + 1, k + 1, out ++ [(s.data.toList.take k).drop f], Nat.le_refl _, by omega, by go_num, by go_num, by simp; omega, ?_, hbl.trans hbl', ?_⟩
     ·
      simpa [HE.out] using hown'
     ·
      rw [HS.out, drop_at s k hlt, spl, if_pos hb, List.append_assoc]
      simp
    case measure => simp [intOf]; omega
   ·
    have hbb : ((s[k].toNat : Int) == (b.toNat : Int)) = false := by
     rw [beq_eq_false_iff_ne]; intro h; apply hb; apply UInt8.toNat_inj.1; omega
    go_wp2
    go_roundw
    case rel =>
     refine ⟨k + 1, f, out, by omega, by omega, by go_num, rfl, by omega, hown, hbl, ?_⟩
     rw [HS.out, drop_at s k hlt, spl, if_neg hb, take_at s k hlt, List.drop_append_of_le_length (by simp; omega)]
    case measure => simp [intOf]; omega
  ·
   have hks : k = s.size := by omega
   have HK := Lib.hid hks; clear hks
   have hE := extract_strV s f s.size
   have HE := Lib.hid hE; clear hE
   go_wp2_with ((at_builtin; refine wpList_append1 wr rfl (.tmp 28) (.tmp 32) 114 rfl w.heap.size 9 _ 16 Tryz.underlying114 strInfo rfl _ _ _ rfl _ rfl rfl hown (by unfold maxLen; omega) (by omega) hbs ?_; intro v' w' hown' hbl' hgr' hlt' hob'))
   go_ret
   have hfin : spl b s.data.toList [] = out ++ [(s.data.toList.take s.size).drop f] := by
    rw [HS.out, HK.out, List.drop_of_length_le (by simp)]; rfl
   refine ⟨v', rfl, ?_, hbl.trans hbl'⟩
   rw [hfin]
   simpa [HE.out] using hown'
end Go.Proofs.YtcfbkickiijjkaaGreatDoor
