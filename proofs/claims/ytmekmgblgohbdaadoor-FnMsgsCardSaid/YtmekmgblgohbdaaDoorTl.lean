/- The shelf's laying of strings.Trim at this seat: the program bears its bodies (checked by the kernel). -/
import Derived.Shelf.Lays
import Derived.KernelRfl
import Derived.Test.YtmekmgblgohbdaaDoorProg
namespace Go.Proofs
open Go.Shelf
def Tryd.lays160_ren : Go.Shelf.Ren := ⟨fun | 160 => 79 | 232 => 132 | 231 => 131 | 227 => 133 | 234 => 135 | 233 => 134 | 236 => 137 | 235 => 136 | 228 => 157 | 271 => 160 | 151 => 159 | 197 => 158 | 120 => 177 | 152 => 176 | 260 => 175 | 137 => 184 | 119 => 185 | 224 => 186 | 225 => 187 | 217 => 189 | 266 => 190 | n => n, fun | 9 => 9 | 4 => 4 | 3 => 3 | 5 => 5 | 117 => 170 | 116 => 169 | 0 => 0 | 124 => 173 | 21 => 21 | 105 => 193 | 46 => 129 | 119 => 213 | 139 => 216 | 138 => 215 | n => n, fun | 3 => 1 | 4 => 2 | n => n⟩
theorem Tryd.lays160 : Go.Proofs.Lays.n160 Tryd.prog Tryd.lays160_ren := {
  mixed := by kernel_rfl
  f119 := Tryd.func185.trans (congrArg some (by kernel_rfl))
  f120 := Tryd.func177.trans (congrArg some (by kernel_rfl))
  f137 := Tryd.func184.trans (congrArg some (by kernel_rfl))
  f151 := Tryd.func159.trans (congrArg some (by kernel_rfl))
  f152 := Tryd.func176.trans (congrArg some (by kernel_rfl))
  f160 := Tryd.func79.trans (congrArg some (by kernel_rfl))
  f197 := Tryd.func158.trans (congrArg some (by kernel_rfl))
  f217 := Tryd.func189.trans (congrArg some (by kernel_rfl))
  f224 := Tryd.func186.trans (congrArg some (by kernel_rfl))
  f225 := Tryd.func187.trans (congrArg some (by kernel_rfl))
  f227 := Tryd.func133.trans (congrArg some (by kernel_rfl))
  f228 := Tryd.func157.trans (congrArg some (by kernel_rfl))
  f231 := Tryd.func131.trans (congrArg some (by kernel_rfl))
  f232 := Tryd.func132.trans (congrArg some (by kernel_rfl))
  f233 := Tryd.func134.trans (congrArg some (by kernel_rfl))
  f234 := Tryd.func135.trans (congrArg some (by kernel_rfl))
  f235 := Tryd.func136.trans (congrArg some (by kernel_rfl))
  f236 := Tryd.func137.trans (congrArg some (by kernel_rfl))
  f260 := Tryd.func175.trans (congrArg some (by kernel_rfl))
  f266 := Tryd.func190.trans (congrArg some (by kernel_rfl))
  f271 := Tryd.func160.trans (congrArg some (by kernel_rfl))
  t0 := Tryd.underlying0
  a0 := Tryd.isAgg0
  z0 := Tryd.sizeOf0
  v0 := Tryd.zeroValue0
  t3 := Tryd.underlying3
  a3 := Tryd.isAgg3
  z3 := Tryd.sizeOf3
  v3 := Tryd.zeroValue3
  t4 := Tryd.underlying4
  a4 := Tryd.isAgg4
  z4 := Tryd.sizeOf4
  v4 := Tryd.zeroValue4
  t5 := Tryd.underlying5
  a5 := Tryd.isAgg5
  z5 := Tryd.sizeOf5
  v5 := Tryd.zeroValue5
  t9 := Tryd.underlying9
  a9 := Tryd.isAgg9
  z9 := Tryd.sizeOf9
  v9 := Tryd.zeroValue9
  t21 := Tryd.underlying21
  a21 := Tryd.isAgg21
  z21 := Tryd.sizeOf21
  v21 := Tryd.zeroValue21
  t46 := Tryd.underlying129
  a46 := Tryd.isAgg129
  z46 := Tryd.sizeOf129
  v46 := Tryd.zeroValue129
  t105 := Tryd.underlying193
  a105 := Tryd.isAgg193
  z105 := Tryd.sizeOf193
  v105 := Tryd.zeroValue193
  t116 := Tryd.underlying169
  a116 := Tryd.isAgg169
  z116 := Tryd.sizeOf169
  t117 := Tryd.underlying170
  a117 := Tryd.isAgg170
  z117 := Tryd.sizeOf170
  v117 := Tryd.zeroValue170
  t119 := Tryd.underlying213
  a119 := Tryd.isAgg213
  z119 := Tryd.sizeOf213
  t124 := Tryd.underlying173
  a124 := Tryd.isAgg173
  z124 := Tryd.sizeOf173
  v124 := Tryd.zeroValue173
  t138 := Tryd.underlying215
  a138 := Tryd.isAgg215
  z138 := Tryd.sizeOf215
  v138 := Tryd.zeroValue215
  t139 := Tryd.underlying216
  a139 := Tryd.isAgg216
  z139 := Tryd.sizeOf216
  v139 := Tryd.zeroValue216
  g3 := by kernel_rfl
  g4 := by kernel_rfl }
end Go.Proofs
