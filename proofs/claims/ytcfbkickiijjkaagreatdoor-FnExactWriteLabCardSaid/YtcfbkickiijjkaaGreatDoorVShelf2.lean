/-
  Contracts of Go's library, out of the kit's shelf, at this seat's program (written by the kit's lay-shelf and lay-plain, cut to what is used). No condition.
-/
import Derived.Test.YtcfbkickiijjkaaGreatDoorVZ
namespace Go.Proofs
open Go.Shelf
def Tryz.lays160_ren : Go.Shelf.Ren := ⟨fun | 160 => 123 | 232 => 160 | 231 => 159 | 227 => 161 | 234 => 163 | 233 => 162 | 236 => 165 | 235 => 164 | 228 => 197 | 271 => 199 | 151 => 198 | 197 => 176 | 120 => 218 | 152 => 217 | 260 => 207 | 137 => 47 | 119 => 224 | 224 => 186 | 225 => 185 | 217 => 84 | 266 => 116 | n => n, fun | 9 => 9 | 4 => 4 | 3 => 3 | 5 => 5 | 117 => 179 | 116 => 178 | 0 => 0 | 124 => 182 | 21 => 21 | 105 => 192 | 46 => 149 | 119 => 233 | 139 => 236 | 138 => 235 | n => n, fun | 3 => 4 | 4 => 5 | n => n⟩
theorem Tryz.lays160 : Go.Proofs.Lays.n160 Tryz.prog Tryz.lays160_ren := {
 mixed := by kernel_rfl
 f119 := Tryz.func224.trans (congrArg some (by kernel_rfl))
 f120 := Tryz.func218.trans (congrArg some (by kernel_rfl))
 f137 := Tryz.func47.trans (congrArg some (by kernel_rfl))
 f151 := Tryz.func198.trans (congrArg some (by kernel_rfl))
 f152 := Tryz.func217.trans (congrArg some (by kernel_rfl))
 f160 := Tryz.func123.trans (congrArg some (by kernel_rfl))
 f197 := Tryz.func176.trans (congrArg some (by kernel_rfl))
 f217 := Tryz.func84.trans (congrArg some (by kernel_rfl))
 f224 := Tryz.func186.trans (congrArg some (by kernel_rfl))
 f225 := Tryz.func185.trans (congrArg some (by kernel_rfl))
 f227 := Tryz.func161.trans (congrArg some (by kernel_rfl))
 f228 := Tryz.func197.trans (congrArg some (by kernel_rfl))
 f231 := Tryz.func159.trans (congrArg some (by kernel_rfl))
 f232 := Tryz.func160.trans (congrArg some (by kernel_rfl))
 f233 := Tryz.func162.trans (congrArg some (by kernel_rfl))
 f234 := Tryz.func163.trans (congrArg some (by kernel_rfl))
 f235 := Tryz.func164.trans (congrArg some (by kernel_rfl))
 f236 := Tryz.func165.trans (congrArg some (by kernel_rfl))
 f260 := Tryz.func207.trans (congrArg some (by kernel_rfl))
 f266 := Tryz.func116.trans (congrArg some (by kernel_rfl))
 f271 := Tryz.func199.trans (congrArg some (by kernel_rfl))
 t0 := Tryz.underlying0
 a0 := Tryz.isAgg0
 z0 := Tryz.sizeOf0
 v0 := Tryz.zeroValue0
 t3 := Tryz.underlying3
 a3 := Tryz.isAgg3
 z3 := Tryz.sizeOf3
 v3 := Tryz.zeroValue3
 t4 := Tryz.underlying4
 a4 := Tryz.isAgg4
 z4 := Tryz.sizeOf4
 v4 := Tryz.zeroValue4
 t5 := Tryz.underlying5
 a5 := Tryz.isAgg5
 z5 := Tryz.sizeOf5
 v5 := Tryz.zeroValue5
 t9 := Tryz.underlying9
 a9 := Tryz.isAgg9
 z9 := Tryz.sizeOf9
 v9 := Tryz.zeroValue9
 t21 := Tryz.underlying21
 a21 := Tryz.isAgg21
 z21 := Tryz.sizeOf21
 v21 := Tryz.zeroValue21
 t46 := Tryz.underlying149
 a46 := Tryz.isAgg149
 z46 := Tryz.sizeOf149
 v46 := Tryz.zeroValue149
 t105 := Tryz.underlying192
 a105 := Tryz.isAgg192
 z105 := Tryz.sizeOf192
 v105 := Tryz.zeroValue192
 t116 := Tryz.underlying178
 a116 := Tryz.isAgg178
 z116 := Tryz.sizeOf178
 t117 := Tryz.underlying179
 a117 := Tryz.isAgg179
 z117 := Tryz.sizeOf179
 v117 := Tryz.zeroValue179
 t119 := Tryz.underlying233
 a119 := Tryz.isAgg233
 z119 := Tryz.sizeOf233
 t124 := Tryz.underlying182
 a124 := Tryz.isAgg182
 z124 := Tryz.sizeOf182
 v124 := Tryz.zeroValue182
 t138 := Tryz.underlying235
 a138 := Tryz.isAgg235
 z138 := Tryz.sizeOf235
 v138 := Tryz.zeroValue235
 t139 := Tryz.underlying236
 a139 := Tryz.isAgg236
 z139 := Tryz.sizeOf236
 v139 := Tryz.zeroValue236
 g3 := by kernel_rfl
 g4 := by kernel_rfl }
end Go.Proofs
