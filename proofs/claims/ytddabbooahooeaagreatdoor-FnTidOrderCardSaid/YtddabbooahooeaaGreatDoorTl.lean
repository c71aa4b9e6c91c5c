/- The shelf's laying of strings.Trim at this seat: the program bears its bodies (checked by the kernel). -/
import Derived.Shelf.Lays
import Derived.KernelRfl
import Derived.Test.YtddabbooahooeaaGreatDoorProg
set_option linter.unusedVariables false
set_option linter.unusedSimpArgs false
namespace Go.Proofs
open Go.Shelf
def Tryz.lays160_ren:Go.Shelf.Ren:=⟨fun | 160=>149 | 232=>203 | 231=>202 | 227=>204 | 234=>206 | 233=>205 | 236=>208 | 235=>207 | 228=>239 | 271=>242 | 151=>241 | 197=>240 | 120=>284 | 152=>283 | 260=>282 | 137=>308 | 119=>309 | 224=>272 | 225=>271 | 217=>270 | 266=>298 | n=>n,fun | 9=>9 | 4=>4 | 3=>3 | 5=>5 | 117=>246 | 116=>245 | 0=>0 | 124=>249 | 21=>21 | 105=>273 | 46=>148 | 119=>320 | 139=>323 | 138=>322 | n=>n,fun | 3=>4 | 4=>5 | n=>n⟩
theorem Tryz.lays160:Go.Proofs.Lays.n160 Tryz.prog Tryz.lays160_ren:={
  mixed:=by kernel_rfl
  f119:=Tryz.func309.trans (congrArg some (by kernel_rfl))
  f120:=Tryz.func284.trans (congrArg some (by kernel_rfl))
  f137:=Tryz.func308.trans (congrArg some (by kernel_rfl))
  f151:=Tryz.func241.trans (congrArg some (by kernel_rfl))
  f152:=Tryz.func283.trans (congrArg some (by kernel_rfl))
  f160:=Tryz.func149.trans (congrArg some (by kernel_rfl))
  f197:=Tryz.func240.trans (congrArg some (by kernel_rfl))
  f217:=Tryz.func270.trans (congrArg some (by kernel_rfl))
  f224:=Tryz.func272.trans (congrArg some (by kernel_rfl))
  f225:=Tryz.func271.trans (congrArg some (by kernel_rfl))
  f227:=Tryz.func204.trans (congrArg some (by kernel_rfl))
  f228:=Tryz.func239.trans (congrArg some (by kernel_rfl))
  f231:=Tryz.func202.trans (congrArg some (by kernel_rfl))
  f232:=Tryz.func203.trans (congrArg some (by kernel_rfl))
  f233:=Tryz.func205.trans (congrArg some (by kernel_rfl))
  f234:=Tryz.func206.trans (congrArg some (by kernel_rfl))
  f235:=Tryz.func207.trans (congrArg some (by kernel_rfl))
  f236:=Tryz.func208.trans (congrArg some (by kernel_rfl))
  f260:=Tryz.func282.trans (congrArg some (by kernel_rfl))
  f266:=Tryz.func298.trans (congrArg some (by kernel_rfl))
  f271:=Tryz.func242.trans (congrArg some (by kernel_rfl))
  t0:=Tryz.underlying0
  a0:=Tryz.isAgg0
  z0:=Tryz.sizeOf0
  v0:=Tryz.zeroValue0
  t3:=Tryz.underlying3
  a3:=Tryz.isAgg3
  z3:=Tryz.sizeOf3
  v3:=Tryz.zeroValue3
  t4:=Tryz.underlying4
  a4:=Tryz.isAgg4
  z4:=Tryz.sizeOf4
  v4:=Tryz.zeroValue4
  t5:=Tryz.underlying5
  a5:=Tryz.isAgg5
  z5:=Tryz.sizeOf5
  v5:=Tryz.zeroValue5
  t9:=Tryz.underlying9
  a9:=Tryz.isAgg9
  z9:=Tryz.sizeOf9
  v9:=Tryz.zeroValue9
  t21:=Tryz.underlying21
  a21:=Tryz.isAgg21
  z21:=Tryz.sizeOf21
  v21:=Tryz.zeroValue21
  t46:=Tryz.underlying148
  a46:=Tryz.isAgg148
  z46:=Tryz.sizeOf148
  v46:=Tryz.zeroValue148
  t105:=Tryz.underlying273
  a105:=Tryz.isAgg273
  z105:=Tryz.sizeOf273
  v105:=Tryz.zeroValue273
  t116:=Tryz.underlying245
  a116:=Tryz.isAgg245
  z116:=Tryz.sizeOf245
  t117:=Tryz.underlying246
  a117:=Tryz.isAgg246
  z117:=Tryz.sizeOf246
  v117:=Tryz.zeroValue246
  t119:=Tryz.underlying320
  a119:=Tryz.isAgg320
  z119:=Tryz.sizeOf320
  t124:=Tryz.underlying249
  a124:=Tryz.isAgg249
  z124:=Tryz.sizeOf249
  v124:=Tryz.zeroValue249
  t138:=Tryz.underlying322
  a138:=Tryz.isAgg322
  z138:=Tryz.sizeOf322
  v138:=Tryz.zeroValue322
  t139:=Tryz.underlying323
  a139:=Tryz.isAgg323
  z139:=Tryz.sizeOf323
  v139:=Tryz.zeroValue323
  g3:=by kernel_rfl
  g4:=by kernel_rfl }
def Tryz.lays106_ren:Go.Shelf.Ren:=⟨fun | 106=>122 | 213=>176 | 265=>222 | n=>n,fun | 9=>9 | 3=>3 | n=>n,fun | n=>n⟩
theorem Tryz.lays106:Go.Proofs.Lays.n106 Tryz.prog Tryz.lays106_ren:={
  mixed:=by kernel_rfl
  f106:=Tryz.func122.trans (congrArg some (by kernel_rfl))
  f213:=Tryz.func176.trans (congrArg some (by kernel_rfl))
  f265:=Tryz.func222.trans (congrArg some (by kernel_rfl))
  t3:=Tryz.underlying3
  a3:=Tryz.isAgg3
  z3:=Tryz.sizeOf3
  v3:=Tryz.zeroValue3
  t9:=Tryz.underlying9
  a9:=Tryz.isAgg9
  z9:=Tryz.sizeOf9
  v9:=Tryz.zeroValue9 }
end Go.Proofs
